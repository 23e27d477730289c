/- The walks of the specification of chapter 15: comparing, validity, numbers as bytes, bytes as a number. -/
import Derived.Test.YtiakaloabeendaaSec4
namespace Go.Proofs.Ytiakaloabeendaa
open Go.RowKit

set_option maxRecDepth 100000 in
set_option maxHeartbeats 400000 in
theorem rvalid_any (d a i : Int) (w : World) :
    Calls Try.prog 34 #[.agg #[.int .i64 d, .int .i64 a, .int .i64 i]] w fun e w' => e = .returned (.bool (validB d a i)) ∧ Below w.heap.size w w' := by
  go_enter Try.func34, Try.ntmps34
  go_wp2
  all_goals
    go_ret
    refine ⟨ret_bool ?_, (Below.refl _ _).alloc (Nat.le_refl _) _⟩
    rw [Bool.eq_iff_iff, validB_iff]
    simp
    try omega

def fitsB (n : Int) : Bool := decide (0 ≤ n) && decide (n < 4294967296)
set_option maxRecDepth 100000 in
set_option maxHeartbeats 400000 in
theorem fits_any (n : Int) (w : World) :
    Calls Try.prog 54 #[.int .i64 n] w fun e w' => e = .returned (.bool (fitsB n)) ∧ w' = w := by
  go_enter Try.func54, Try.ntmps54
  go_wp2
  all_goals
    go_ret
    refine ⟨ret_bool ?_, rfl⟩
    rw [Bool.eq_iff_iff]
    simp [fitsB]
    try omega

set_option maxRecDepth 100000 in
set_option maxHeartbeats 400000 in
theorem right_any (e c : Int) (w : World) :
    Calls Try.prog 46 #[.agg #[.int .i64 e, .int .i64 c]] w fun x w' => x = .returned (.bool (genV e c)) ∧ Below w.heap.size w w' := by
  go_enter Try.func46, Try.ntmps46
  go_wp2_with fail
  refine (fits_any e _).mono ?_
  rintro x w1 ⟨rfl, rfl⟩
  go_wp2_with fail
  refine (fits_any c _).mono ?_
  rintro x w1 ⟨rfl, rfl⟩
  have H1 : Hid (fitsB e = true ↔ 0 ≤ e ∧ e < 4294967296) := Lib.hid (by simp [fitsB])
  have H2 : Hid (fitsB c = true ↔ 0 ≤ c ∧ c < 4294967296) := Lib.hid (by simp [fitsB])
  generalize fitsB e = b1 at *
  generalize fitsB c = b2 at *
  have HB : Hid (Below w.heap.size w (w.alloc (.cells #[.int .i64 e, .int .i64 c] 35))) := Lib.hid ((Below.refl _ _).alloc (Nat.le_refl _) _)
  cases b1
  · go_wp2
    go_ret
    refine ⟨ret_bool ?_, HB.out⟩
    have h := H1.out
    symm
    rw [Bool.eq_false_iff]
    intro hg
    have := (genV_iff e c).1 hg
    have := h.2 (by omega)
    cases this
  · cases b2
    · go_wp2
      go_ret
      refine ⟨ret_bool ?_, HB.out⟩
      have h := H2.out
      symm
      rw [Bool.eq_false_iff]
      intro hg
      have := (genV_iff e c).1 hg
      have := h.2 (by omega)
      cases this
    · go_wp2
      all_goals
        go_ret
        refine ⟨ret_bool ?_, (Below.refl _ _).alloc (Nat.le_refl _) _⟩
        have h1 := H1.out.1 (by trivial)
        have h2 := H2.out.1 (by trivial)
        rw [Bool.eq_iff_iff, genV_iff]
        simp
        try omega

set_option maxRecDepth 100000 in
set_option maxHeartbeats 400000 in
theorem rnewer_any (a b c d : Int) (w : World) :
    Calls Try.prog 35 #[.agg #[.int .i64 a, .int .i64 b], .agg #[.int .i64 c, .int .i64 d]] w fun e w' => e = .returned (.bool (newerB a b c d)) ∧ Below w.heap.size w w' := by
  go_enter Try.func35, Try.ntmps35
  go_wp2
  all_goals
    go_ret
    refine ⟨ret_bool ?_, ((Below.refl _ _).alloc (Nat.le_refl _) _).alloc (by simp) _⟩
    rw [Bool.eq_iff_iff]
    simp [newerB]
    try omega

/-! ### bytes as a number -/
theorem un_drop (s : ByteArray) (k : Nat) (h : k < s.size) : un (s.data.toList.drop k) = s[k].toNat + 256 * un (s.data.toList.drop (k + 1)) := by
  rw [List.drop_eq_getElem_cons (by simpa using h), un]; rfl

set_option maxRecDepth 100000 in
set_option maxHeartbeats 400000 in
theorem read_any (s : ByteArray) (w : World) (hs : s.size ≤ 4) :
    Calls Try.prog 49 #[.string s] w fun e w' => e = .returned (.int .i64 (un s.data.toList)) ∧ w' = w := by
  go_enter Try.func49, Try.ntmps49
  go_wp2
  go_loop [4, 3] (fun i n => ∃ k : Nat, k ≤ s.size ∧ i = .int .i64 ((k : Int) - 1) ∧ n = .int .i64 (un (s.data.toList.drop k))) (fun i _ => (intOf i + 1).toNat)
  case atStart => exact ⟨s.size, Nat.le_refl _, rfl, by rw [List.drop_of_length_le (by simp)]; rfl⟩
  case round =>
    obtain ⟨k, hk, rfl, rfl⟩ := hrel
    have hu : un (s.data.toList.drop k) < 256 ^ 4 := by
      have h := un_lt (s.data.toList.drop k)
      exact Nat.lt_of_lt_of_le h (Nat.pow_le_pow_right (by omega) (by simp; omega))
    obtain _ | k := k
    · go_wp2
      go_ret
      exact ⟨rfl, rfl⟩
    · have H1 := Lib.hid (un_drop s k hk)
      have hz := (s[k]'hk).toNat_lt
      have hu2 : un (s.data.toList.drop (k + 1)) < 16777216 := by
        have h := un_lt (s.data.toList.drop (k + 1))
        exact Nat.lt_of_lt_of_le h (Nat.le_trans (Nat.pow_le_pow_right (by omega) (show _ ≤ 3 by simp; omega)) (by decide))
      have ek : ((k + 1 : Nat) : Int) - 1 = (k : Int) := by omega
      rw [ek]
      generalize un (s.data.toList.drop (k + 1)) = m at *
      go_wp2
      go_round
      case rel => exact ⟨k, by omega, by go_num, by rw [H1.out]; congr 1; omega⟩
      case measure => simp [intOf]

/-! ### a number as bytes -/
set_option maxRecDepth 100000 in
set_option maxHeartbeats 1000000 in
theorem number_any (n z : Nat) (w : World) (hz : z ≤ 4) :
    Calls Try.prog 47 #[.int .i64 n, .int .i64 z] w (PutPost w.heap.size w (le z n)) := by
  go_enter Try.func47, Try.ntmps47
  go_wp2_with fail
  go_loopw [5, 6] (fun v i wr => ∃ k : Nat, k ≤ z ∧ i = .int .i64 k ∧ OwnB wr w.heap.size v (le k n) ∧ Below w.heap.size w wr) (fun _ i _ => z - (intOf i).toNat)
  case atStart => exact ⟨0, by omega, rfl, OwnB.nil _ _, Below.refl _ _⟩
  case round =>
    obtain ⟨k, hk, rfl, ho, hbel⟩ := hrel
    have H1 := Lib.hid ho
    have H2 := Lib.hid hbel
    clear ho hbel
    by_cases hlt : k < z
    · have H3 : Hid (le (k + 1) n = le k n ++ [UInt8.ofNat (n / 256 ^ k)]) := Lib.hid (le_snoc k n)
      have H5 : Hid ((le k n).length = k) := Lib.hid (le_length k n)
      obtain rfl | rfl | rfl | rfl : k = 0 ∨ k = 1 ∨ k = 2 ∨ k = 3 := by omega
      · have hx := byte_of (n / 256 ^ 0)
        rw [show n / 256 ^ 0 = n by simp] at H3 hx
        generalize UInt8.ofNat (n) = x at *
        generalize le 0 n = F at *
        go_wp2_with (at_builtin; refine wpList_append_b rfl _ _ rfl w.heap.size u5 (.slice (some ⟨wr.heap.size, 0, none⟩) 1 1) F [x] rfl (H1.out.alloc _) rfl (SliceB.one _ _ x _ rfl) (by have := H5.out; simp; omega) (by have := H2.out.size; simp; omega) ?_)
        intro v2 w4 hown hgrow
        have H6 := Lib.hid hown
        have H7 : Hid (Below w.heap.size w w4) := Lib.hid ((H2.out.alloc H2.out.size (Obj.cells #[.int .u8 (x.toNat : Int)] 5)).grown hgrow (by have := H2.out.size; simp; omega) (fun k h => (H1.out.lt k h).1))
        clear hown hgrow H1 hx
        go_wp2_with fail
        go_roundw
        case rel => exact ⟨1, by omega, rfl, by rw [H3.out]; exact H6.out, H7.out⟩
        case measure => simp [intOf]; omega
      · have hx := byte_of (n / 256 ^ 1)
        have em : (n : Int) / 256 = ((n / 256 ^ 1 : Nat) : Int) := by omega
        generalize UInt8.ofNat (n / 256 ^ 1) = x at *
        generalize n / 256 ^ 1 = m at *
        generalize le 1 n = F at *
        go_wp2_with (at_builtin; refine wpList_append_b rfl _ _ rfl w.heap.size u5 (.slice (some ⟨wr.heap.size, 0, none⟩) 1 1) F [x] rfl (H1.out.alloc _) rfl (SliceB.one _ _ x _ rfl) (by have := H5.out; simp; omega) (by have := H2.out.size; simp; omega) ?_)
        intro v2 w4 hown hgrow
        have H6 := Lib.hid hown
        have H7 : Hid (Below w.heap.size w w4) := Lib.hid ((H2.out.alloc H2.out.size (Obj.cells #[.int .u8 (x.toNat : Int)] 5)).grown hgrow (by have := H2.out.size; simp; omega) (fun k h => (H1.out.lt k h).1))
        clear hown hgrow H1 hx
        go_wp2_with fail
        go_roundw
        case rel => exact ⟨2, by omega, rfl, by rw [H3.out]; exact H6.out, H7.out⟩
        case measure => simp [intOf]; omega
      · have hx := byte_of (n / 256 ^ 2)
        have em : (n : Int) / 65536 = ((n / 256 ^ 2 : Nat) : Int) := by omega
        generalize UInt8.ofNat (n / 256 ^ 2) = x at *
        generalize n / 256 ^ 2 = m at *
        generalize le 2 n = F at *
        go_wp2_with (at_builtin; refine wpList_append_b rfl _ _ rfl w.heap.size u5 (.slice (some ⟨wr.heap.size, 0, none⟩) 1 1) F [x] rfl (H1.out.alloc _) rfl (SliceB.one _ _ x _ rfl) (by have := H5.out; simp; omega) (by have := H2.out.size; simp; omega) ?_)
        intro v2 w4 hown hgrow
        have H6 := Lib.hid hown
        have H7 : Hid (Below w.heap.size w w4) := Lib.hid ((H2.out.alloc H2.out.size (Obj.cells #[.int .u8 (x.toNat : Int)] 5)).grown hgrow (by have := H2.out.size; simp; omega) (fun k h => (H1.out.lt k h).1))
        clear hown hgrow H1 hx
        go_wp2_with fail
        go_roundw
        case rel => exact ⟨3, by omega, rfl, by rw [H3.out]; exact H6.out, H7.out⟩
        case measure => simp [intOf]; omega
      · have hx := byte_of (n / 256 ^ 3)
        have em : (n : Int) / 16777216 = ((n / 256 ^ 3 : Nat) : Int) := by omega
        generalize UInt8.ofNat (n / 256 ^ 3) = x at *
        generalize n / 256 ^ 3 = m at *
        generalize le 3 n = F at *
        go_wp2_with (at_builtin; refine wpList_append_b rfl _ _ rfl w.heap.size u5 (.slice (some ⟨wr.heap.size, 0, none⟩) 1 1) F [x] rfl (H1.out.alloc _) rfl (SliceB.one _ _ x _ rfl) (by have := H5.out; simp; omega) (by have := H2.out.size; simp; omega) ?_)
        intro v2 w4 hown hgrow
        have H6 := Lib.hid hown
        have H7 : Hid (Below w.heap.size w w4) := Lib.hid ((H2.out.alloc H2.out.size (Obj.cells #[.int .u8 (x.toNat : Int)] 5)).grown hgrow (by have := H2.out.size; simp; omega) (fun k h => (H1.out.lt k h).1))
        clear hown hgrow H1 hx
        go_wp2_with fail
        go_roundw
        case rel => exact ⟨4, by omega, rfl, by rw [H3.out]; exact H6.out, H7.out⟩
        case measure => simp [intOf]; omega
    · obtain rfl : k = z := by omega
      go_wp2
      go_ret
      exact ⟨_, rfl, H1.out, H2.out⟩

theorem number2 (n : Nat) (w : World) : Calls Try.prog 47 #[.int .i64 n, .int .i64 2] w (PutPost w.heap.size w (le 2 n)) := number_any n 2 w (by omega)
theorem number4 (n : Nat) (w : World) : Calls Try.prog 47 #[.int .i64 n, .int .i64 4] w (PutPost w.heap.size w (le 4 n)) := number_any n 4 w (by omega)
end Go.Proofs.Ytiakaloabeendaa
