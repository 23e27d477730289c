/- The walk of solventlaw03.CrcZeros: it returns true. -/
import Derived.Test.YtiakaloabeendaaSanity3
import Derived.Test.YtiakaloabeendaaOpen
namespace Go.Proofs.Ytiakaloabeendaa
open Go.RowKit

set_option maxRecDepth 100000 in
set_option maxHeartbeats 400000 in
theorem crcZeros_bad (c : BitVec 32) (m n : Int) (w : World) (h : m < 0 ∨ n < 0 ∨ 1073741824 ≤ m ∨ 1073741824 ≤ n) :
    Calls Try.prog 6 #[.int .u32 (rg c), .int .i64 m, .int .i64 n] w fun e w' => e = .returned (.bool true) ∧ Below w.heap.size w w' := by
  by_cases h1 : m < 0
  · clear h
    go_enter Try.func6, Try.ntmps6
    go_wp2_with fail
    refine (sanity3_any _).mono ?_
    rintro e w1 ⟨rfl, hb⟩
    have H := Lib.hid hb
    clear hb
    go_wp2_with fail
    go_ret
    exact ⟨rfl, H.out⟩
  · by_cases h2 : n < 0
    · clear h
      go_enter Try.func6, Try.ntmps6
      go_wp2_with fail
      refine (sanity3_any _).mono ?_
      rintro e w1 ⟨rfl, hb⟩
      have H := Lib.hid hb
      clear hb
      go_wp2_with fail
      go_ret
      exact ⟨rfl, H.out⟩
    · by_cases h3 : 1073741824 ≤ m
      · clear h
        go_enter Try.func6, Try.ntmps6
        go_wp2_with fail
        refine (sanity3_any _).mono ?_
        rintro e w1 ⟨rfl, hb⟩
        have H := Lib.hid hb
        clear hb
        go_wp2_with fail
        go_ret
        exact ⟨rfl, H.out⟩
      · have h4 : 1073741824 ≤ n := by omega
        clear h
        go_enter Try.func6, Try.ntmps6
        go_wp2_with fail
        refine (sanity3_any _).mono ?_
        rintro e w1 ⟨rfl, hb⟩
        have H := Lib.hid hb
        clear hb
        go_wp2_with fail
        go_ret
        exact ⟨rfl, H.out⟩

set_option maxRecDepth 100000 in
set_option maxHeartbeats 400000 in
theorem crcZeros_good (c : BitVec 32) (m n : Int) (w : World) (h1 : ¬ m < 0) (h2 : ¬ n < 0) (h3 : ¬ 1073741824 ≤ m) (h4 : ¬ 1073741824 ≤ n) :
    Calls Try.prog 6 #[.int .u32 (rg c), .int .i64 m, .int .i64 n] w fun e w' => e = .returned (.bool true) ∧ Below w.heap.size w w' := by
  have E1 : Hid (zerosB (zerosB c m.toNat) n.toNat = zerosB c (m + n).toNat) := Lib.hid (by rw [zerosB_add]; congr 1; omega)
  go_enter Try.func6, Try.ntmps6
  go_wp2_with fail
  refine (sanity3_any _).mono ?_
  rintro e w1 ⟨rfl, hb⟩
  have H1 := Lib.hid hb
  clear hb
  go_wp2_with fail
  refine (zeros_any c m (by omega) (by omega) _).mono ?_
  rintro e w2 ⟨rfl, hb⟩
  have H2 : Hid (Below w.heap.size w w2) := H1.out.trans (hb.mono H1.out.size)
  clear hb H1
  go_wp2_with fail
  refine (zeros_any _ n (by omega) (by omega) _).mono ?_
  rintro e w3 ⟨rfl, hb⟩
  have H3 : Hid (Below w.heap.size w w3) := H2.out.trans (hb.mono H2.out.size)
  clear hb H2
  rw [E1.out]
  clear E1
  go_wp2_with fail
  refine (zeros_any c (m + n) (by omega) (by omega) _).mono ?_
  rintro e w4 ⟨rfl, hb⟩
  have H4 : Hid (Below w.heap.size w w4) := H3.out.trans (hb.mono H3.out.size)
  clear hb H3
  generalize zerosB c (m + n).toNat = y
  go_wp2_with fail
  refine (zeros_any c 0 (by omega) (by omega) _).mono ?_
  rintro e w5 ⟨rfl, hb⟩
  have H5 : Hid (Below w.heap.size w w5) := H4.out.trans (hb.mono H4.out.size)
  clear hb H4
  rw [show zerosB c (0 : Int).toNat = c from zerosB_zero c]
  go_wp2_with fail
  go_ret
  exact ⟨rfl, H5.out⟩

theorem crcZeros_walk (c m n : Int) (w : World) (hc : (Lit.int .u32 c).wf = true) :
    Calls Try.prog 6 #[.int .u32 c, .int .i64 m, .int .i64 n] w fun e w' => e = .returned (.bool true) ∧ Below w.heap.size w w' := by
  obtain ⟨r, rfl⟩ := reg_of hc
  by_cases h : m < 0 ∨ n < 0 ∨ 1073741824 ≤ m ∨ 1073741824 ≤ n
  · exact crcZeros_bad r m n w h
  · exact crcZeros_good r m n w (by omega) (by omega) (by omega) (by omega)
end Go.Proofs.Ytiakaloabeendaa
