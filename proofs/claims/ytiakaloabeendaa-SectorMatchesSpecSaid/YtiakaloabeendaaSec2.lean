/- Walks of chapter 15: numbers as bytes (sizeOf, put), bytes as a number (get), a copy of a string (Clone). -/
import Derived.Test.YtiakaloabeendaaSec1
namespace Go.Proofs.Ytiakaloabeendaa
open Go.RowKit

set_option maxRecDepth 100000 in
set_option maxHeartbeats 400000 in
theorem size16_any (w : World) :
    Calls Try.prog 51 #[] w fun e w' => e = .returned (.int .i64 2) ∧ w' = w := by
  go_enter Try.func51, Try.ntmps51
  go_wp2
  go_loop [1, 2] (fun n x => ∃ k : Nat, k ≤ 2 ∧ n = .int .i64 k ∧ x = .int .u64 ((65535 / 256 ^ k : Nat) : Int)) (fun n _ => 2 - (intOf n).toNat)
  case atStart => exact ⟨0, by omega, rfl, rfl⟩
  case round =>
    obtain ⟨k, hk, rfl, rfl⟩ := hrel
    obtain rfl | rfl | rfl : k = 0 ∨ k = 1 ∨ k = 2 := by omega
    · go_wp2
      go_round
      case rel => exact ⟨1, by omega, rfl, rfl⟩
      case measure => simp [intOf]
    · go_wp2
      go_round
      case rel => exact ⟨2, by omega, rfl, rfl⟩
      case measure => simp [intOf]
    · go_wp2
      go_ret
      exact ⟨rfl, rfl⟩

set_option maxRecDepth 100000 in
set_option maxHeartbeats 400000 in
theorem size32_any (w : World) :
    Calls Try.prog 52 #[] w fun e w' => e = .returned (.int .i64 4) ∧ w' = w := by
  go_enter Try.func52, Try.ntmps52
  go_wp2
  go_loop [1, 2] (fun n x => ∃ k : Nat, k ≤ 4 ∧ n = .int .i64 k ∧ x = .int .u64 ((4294967295 / 256 ^ k : Nat) : Int)) (fun n _ => 4 - (intOf n).toNat)
  case atStart => exact ⟨0, by omega, rfl, rfl⟩
  case round =>
    obtain ⟨k, hk, rfl, rfl⟩ := hrel
    obtain rfl | rfl | rfl | rfl | rfl : k = 0 ∨ k = 1 ∨ k = 2 ∨ k = 3 ∨ k = 4 := by omega
    · go_wp2
      go_round
      case rel => exact ⟨1, by omega, rfl, rfl⟩
      case measure => simp [intOf]
    · go_wp2
      go_round
      case rel => exact ⟨2, by omega, rfl, rfl⟩
      case measure => simp [intOf]
    · go_wp2
      go_round
      case rel => exact ⟨3, by omega, rfl, rfl⟩
      case measure => simp [intOf]
    · go_wp2
      go_round
      case rel => exact ⟨4, by omega, rfl, rfl⟩
      case measure => simp [intOf]
    · go_wp2
      go_ret
      exact ⟨rfl, rfl⟩

def PutPost (base : Nat) (w : World) (l : List UInt8) (e : Ending) (w' : World) : Prop := ∃ v, e = .returned v ∧ OwnB w' base v l ∧ Below base w w'

theorem byte_of (n : Nat) : (n : Int) % 256 = ((UInt8.ofNat n).toNat : Int) := by simp


set_option maxRecDepth 100000 in
set_option maxHeartbeats 400000 in
theorem put16_any (v : Value) (l : List UInt8) (n base : Nat) (w : World) (_hn : n < 65536) (hl : l.length ≤ 1000) (hb : base ≤ w.heap.size) (hv : OwnB w base v l) :
    Calls Try.prog 43 #[v, .int .u16 n] w (PutPost base w (l ++ le 2 n)) := by
  have HV := Lib.hid hv
  clear hv
  go_enter Try.func43, Try.ntmps43
  go_wp2_with fail
  refine (size16_any _).mono ?_
  rintro e w1 ⟨rfl, rfl⟩
  go_wp2_with fail
  go_loopw [6, 0, 1] (fun i v m wr => ∃ k : Nat, k ≤ 2 ∧ i = .int .i64 k ∧ OwnB wr base v (l ++ le k n) ∧ m = .int .u16 ((n / 256 ^ k : Nat) : Int) ∧ Below base w1 wr) (fun i _ _ _ => 2 - (intOf i).toNat)
  case atStart => exact ⟨0, by omega, rfl, by rw [le, List.append_nil]; exact HV.out, by simp, Below.refl _ _⟩
  case round =>
    obtain ⟨k, hk, rfl, ho, rfl, hbel⟩ := hrel
    have H1 := Lib.hid ho
    have H2 := Lib.hid hbel
    clear ho hbel
    by_cases hlt : k < 2
    · have hm : n / 256 ^ k < 65536 := Nat.lt_of_le_of_lt (Nat.div_le_self _ _) _hn
      have H3 : Hid (l ++ le (k + 1) n = (l ++ le k n) ++ [UInt8.ofNat (n / 256 ^ k)]) := Lib.hid (by rw [le_snoc, List.append_assoc])
      have H4 : Hid (n / 256 ^ (k + 1) = n / 256 ^ k / 256) := Lib.hid (by rw [Nat.pow_succ, Nat.div_div_eq_div_mul])
      have H5 : Hid ((l ++ le k n).length = l.length + k) := Lib.hid (by rw [List.length_append, le_length])
      have hx := byte_of (n / 256 ^ k)
      generalize UInt8.ofNat (n / 256 ^ k) = x at *
      generalize n / 256 ^ k = m at *
      generalize l ++ le k n = F at *
      go_wp2_with (at_builtin; refine wpList_append_b rfl _ _ rfl base u0 (.slice (some ⟨wr.heap.size, 0, none⟩) 1 1) F [x] rfl (H1.out.alloc _) rfl (SliceB.one _ _ x _ rfl) (by have := H5.out; simp; omega) (by have := H2.out.size; simp; omega) ?_)
      intro v2 w4 hown hgrow
      have H6 := Lib.hid hown
      have H7 : Hid (Below base w1 w4) := (H2.out.alloc (by have := H2.out.size; omega) (Obj.cells #[.int .u8 (x.toNat : Int)] 5)).grown hgrow (by have := H2.out.size; simp; omega) (fun k h => (H1.out.lt k h).1)
      clear hown hgrow H1 hx
      go_wp2_with fail
      go_roundw
      case rel =>
        refine ⟨k + 1, by omega, by go_num, by rw [H3.out]; exact H6.out, ?_, H7.out⟩
        rw [H4.out]
        first | rfl | (congr 1; simp; done) | (congr 1; omega)
      case measure => simp [intOf]; omega
    · obtain rfl : k = 2 := by omega
      go_wp2
      go_ret
      exact ⟨_, rfl, H1.out, H2.out⟩

set_option maxRecDepth 100000 in
set_option maxHeartbeats 400000 in
theorem put32_any (v : Value) (l : List UInt8) (n base : Nat) (w : World) (_hn : n < 4294967296) (hl : l.length ≤ 1000) (hb : base ≤ w.heap.size) (hv : OwnB w base v l) :
    Calls Try.prog 44 #[v, .int .u32 n] w (PutPost base w (l ++ le 4 n)) := by
  have HV := Lib.hid hv
  clear hv
  go_enter Try.func44, Try.ntmps44
  go_wp2_with fail
  refine (size32_any _).mono ?_
  rintro e w1 ⟨rfl, rfl⟩
  go_wp2_with fail
  go_loopw [6, 0, 1] (fun i v m wr => ∃ k : Nat, k ≤ 4 ∧ i = .int .i64 k ∧ OwnB wr base v (l ++ le k n) ∧ m = .int .u32 ((n / 256 ^ k : Nat) : Int) ∧ Below base w1 wr) (fun i _ _ _ => 4 - (intOf i).toNat)
  case atStart => exact ⟨0, by omega, rfl, by rw [le, List.append_nil]; exact HV.out, by simp, Below.refl _ _⟩
  case round =>
    obtain ⟨k, hk, rfl, ho, rfl, hbel⟩ := hrel
    have H1 := Lib.hid ho
    have H2 := Lib.hid hbel
    clear ho hbel
    by_cases hlt : k < 4
    · have hm : n / 256 ^ k < 4294967296 := Nat.lt_of_le_of_lt (Nat.div_le_self _ _) _hn
      have H3 : Hid (l ++ le (k + 1) n = (l ++ le k n) ++ [UInt8.ofNat (n / 256 ^ k)]) := Lib.hid (by rw [le_snoc, List.append_assoc])
      have H4 : Hid (n / 256 ^ (k + 1) = n / 256 ^ k / 256) := Lib.hid (by rw [Nat.pow_succ, Nat.div_div_eq_div_mul])
      have H5 : Hid ((l ++ le k n).length = l.length + k) := Lib.hid (by rw [List.length_append, le_length])
      have hx := byte_of (n / 256 ^ k)
      generalize UInt8.ofNat (n / 256 ^ k) = x at *
      generalize n / 256 ^ k = m at *
      generalize l ++ le k n = F at *
      go_wp2_with (at_builtin; refine wpList_append_b rfl _ _ rfl base u0 (.slice (some ⟨wr.heap.size, 0, none⟩) 1 1) F [x] rfl (H1.out.alloc _) rfl (SliceB.one _ _ x _ rfl) (by have := H5.out; simp; omega) (by have := H2.out.size; simp; omega) ?_)
      intro v2 w4 hown hgrow
      have H6 := Lib.hid hown
      have H7 : Hid (Below base w1 w4) := (H2.out.alloc (by have := H2.out.size; omega) (Obj.cells #[.int .u8 (x.toNat : Int)] 5)).grown hgrow (by have := H2.out.size; simp; omega) (fun k h => (H1.out.lt k h).1)
      clear hown hgrow H1 hx
      go_wp2_with fail
      go_roundw
      case rel =>
        refine ⟨k + 1, by omega, by go_num, by rw [H3.out]; exact H6.out, ?_, H7.out⟩
        rw [H4.out]
        first | rfl | (congr 1; simp; done) | (congr 1; omega)
      case measure => simp [intOf]; omega
    · obtain rfl : k = 4 := by omega
      go_wp2
      go_ret
      exact ⟨_, rfl, H1.out, H2.out⟩
end Go.Proofs.Ytiakaloabeendaa
