/- The walk of solventlaw03.CrcMatchesSpec: it returns true. -/
import Derived.Test.YtiakaloabeendaaSanity3
import Derived.Test.YtiakaloabeendaaOpen
namespace Go.Proofs.Ytiakaloabeendaa
open Go.RowKit

set_option maxRecDepth 100000 in
set_option maxHeartbeats 400000 in
theorem crcMatchesSpec_bad (l : List UInt8) (a : Option Addr) (cap : Nat) (c d : BitVec 32) (n : Int) (w : World) (h : 2000 < (l.length : Int) ∨ 2000 < n) :
    Calls Try.prog 3 #[.slice a l.length cap, .int .u32 (rg c), .int .u32 (rg d), .int .i64 n] w fun e w' => e = .returned (.bool true) ∧ Below w.heap.size w w' := by
  by_cases h1 : 2000 < (l.length : Int)
  · clear h
    go_enter Try.func3, Try.ntmps3
    go_wp2_with fail
    refine (sanity3_any _).mono ?_
    rintro e w1 ⟨rfl, hb⟩
    have H := Lib.hid hb
    clear hb
    go_wp2_with fail
    go_ret
    exact ⟨rfl, H.out⟩
  · have h2 : 2000 < n := by omega
    clear h
    go_enter Try.func3, Try.ntmps3
    go_wp2_with fail
    refine (sanity3_any _).mono ?_
    rintro e w1 ⟨rfl, hb⟩
    have H := Lib.hid hb
    clear hb
    go_wp2_with fail
    go_ret
    exact ⟨rfl, H.out⟩

set_option maxRecDepth 100000 in
set_option maxHeartbeats 1000000 in
theorem crcMatchesSpec_good (l : List UInt8) (a : Option Addr) (cap : Nat) (c d : BitVec 32) (n : Int) (w : World) (hby : BytesAt w a l) (h1 : ¬ 2000 < (l.length : Int)) (h2 : ¬ 2000 < n) (h3 : -9223372036854775808 ≤ n) :
    Calls Try.prog 3 #[.slice a l.length cap, .int .u32 (rg c), .int .u32 (rg d), .int .i64 n] w fun e w' => e = .returned (.bool true) ∧ Below w.heap.size w w' := by
  have H0 := Lib.hid hby
  clear hby
  go_enter Try.func3, Try.ntmps3
  go_wp2_with fail
  refine (sanity3_any _).mono ?_
  rintro e w1 ⟨rfl, hb⟩
  have B1 := Lib.hid hb
  clear hb
  go_wp2_with fail
  refine (of_any l a cap _ (H0.out.below B1.out)).mono ?_
  rintro e w2 ⟨rfl, hb⟩
  have B2 : Hid (Below w.heap.size w w2) := B1.out.trans (hb.mono B1.out.size)
  clear hb B1
  go_wp2_with fail
  refine (refOf_any l a cap _ (H0.out.below B2.out)).mono ?_
  rintro e w3 ⟨rfl, rfl⟩
  generalize crcB l = x1
  go_wp2_with fail
  refine (extend_any c l a cap _ (H0.out.below B2.out)).mono ?_
  rintro e w3 ⟨rfl, hb⟩
  have B3 : Hid (Below w.heap.size w w3) := B2.out.trans (hb.mono B2.out.size)
  clear hb B2
  go_wp2_with fail
  refine (refExtend_any c l a cap _ (H0.out.below B3.out)).mono ?_
  rintro e w4 ⟨rfl, rfl⟩
  generalize extB c l = x2
  go_wp2_with fail
  refine (zeros_any c n (by omega) (by omega) _).mono ?_
  rintro e w4 ⟨rfl, hb⟩
  have B4 : Hid (Below w.heap.size w w4) := B3.out.trans (hb.mono B3.out.size)
  clear hb B3
  go_wp2_with fail
  refine (refZeros_any c n (by omega) (by omega) _).mono ?_
  rintro e w5 ⟨rfl, hb⟩
  have B5 : Hid (Below w.heap.size w w5) := B4.out.trans (hb.mono B4.out.size)
  clear hb B4
  generalize zerosB c n.toNat = x3
  go_wp2_with fail
  refine (combine_any c d n (by omega) (by omega) _).mono ?_
  rintro e w6 ⟨rfl, hb⟩
  have B6 : Hid (Below w.heap.size w w6) := B5.out.trans (hb.mono B5.out.size)
  clear hb B5
  go_wp2_with fail
  refine (refCombine_any c d n (by omega) (by omega) _).mono ?_
  rintro e w7 ⟨rfl, hb⟩
  have B7 : Hid (Below w.heap.size w w7) := B6.out.trans (hb.mono B6.out.size)
  clear hb B6
  generalize d ^^^ zerosB c n.toNat ^^^ zerosB 0#32 n.toNat = x4
  go_wp2_with fail
  go_ret
  exact ⟨rfl, B7.out⟩

theorem crcMatchesSpec_walk (l : List UInt8) (v : Value) (c d n : Int) (w : World) (hl : SliceB w v l) (hc : (Lit.int .u32 c).wf = true) (hd : (Lit.int .u32 d).wf = true) (hn : (Lit.int .i64 n).wf = true) :
    Calls Try.prog 3 #[v, .int .u32 c, .int .u32 d, .int .i64 n] w fun e w' => e = .returned (.bool true) ∧ Below w.heap.size w w' := by
  obtain ⟨r, rfl⟩ := reg_of hc
  obtain ⟨s, rfl⟩ := reg_of hd
  obtain ⟨a, cap, rfl, _, hby⟩ := hl
  have hb := bounds_i64 hn
  by_cases h : 2000 < (l.length : Int) ∨ 2000 < n
  · exact crcMatchesSpec_bad l a cap r s n w h
  · exact crcMatchesSpec_good l a cap r s n w hby (by omega) (by omega) hb.1
end Go.Proofs.Ytiakaloabeendaa
