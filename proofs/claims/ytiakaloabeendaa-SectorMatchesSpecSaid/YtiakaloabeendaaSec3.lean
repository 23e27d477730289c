/- Walks of chapter 15: bytes as a number (get), a copy of a string (Clone). -/
import Derived.Test.YtiakaloabeendaaSec2
import Derived.Lib.Strings
import Derived.Lib.BufferWrite
import Derived.Lib.UnsafeStr
import Derived.Laws.MakeOwn
namespace Go.Proofs.Ytiakaloabeendaa
open Go.RowKit

theorem take_snoc_b (s : ByteArray) (k : Nat) (h : k < s.size) : s.data.toList.take (k + 1) = s.data.toList.take k ++ [s[k]] := by
  rw [List.take_succ_eq_append_getElem (by simpa using h)]; rfl

theorem i64_or_nat (a b : Nat) (ha : a < 9223372036854775808) (hb : b < 9223372036854775808) : bits .or .i64 (a : Int) (b : Int) = ((a ||| b : Nat) : Int) := by
  have hx : a ||| b < 2 ^ 63 := Nat.or_lt_two_pow (by omega) (by omega)
  show IntKind.i64.wrap ((BitVec.ofInt 64 (a : Int) ||| BitVec.ofInt 64 (b : Int)).toNat : Int) = _
  rw [BitVec.toNat_or, ofInt_u64 a (by omega), ofInt_u64 b (by omega), IntKind.wrap_i64]
  omega

theorem or_byte (m i : Nat) (x : UInt8) (hi : i ≤ 24) (hm : m < 2 ^ i) : bits .or .i64 (m : Int) (wrap64 (wrap64 (x.toNat : Int) * ((2 ^ i : Nat) : Int))) = ((m + 2 ^ i * x.toNat : Nat) : Int) := by
  have hx := x.toNat_lt
  have hp : 2 ^ i ≤ 2 ^ 24 := Nat.pow_le_pow_right (by omega) hi
  have h1 : x.toNat * 2 ^ i ≤ 255 * 2 ^ 24 := Nat.mul_le_mul (by omega) hp
  have e1 : wrap64 (x.toNat : Int) = (x.toNat : Int) := by unfold wrap64; omega
  have e2 : (x.toNat : Int) * ((2 ^ i : Nat) : Int) = ((x.toNat * 2 ^ i : Nat) : Int) := by simp
  have e3 : wrap64 ((x.toNat * 2 ^ i : Nat) : Int) = ((x.toNat * 2 ^ i : Nat) : Int) := by unfold wrap64; omega
  rw [e1, e2, e3, i64_or_nat _ _ (by omega) (by omega), Nat.or_comm, nat_join i _ m (Nat.mul_mod_left _ _) hm, Nat.add_comm, Nat.mul_comm]

theorem or_byte0 (m : Nat) (x : UInt8) (hm : m < 256 ^ 0) : bits .or .i64 (m : Int) (wrap64 (wrap64 (x.toNat : Int))) = ((m + 256 ^ 0 * x.toNat : Nat) : Int) := by
  have := or_byte m 0 x (by omega) hm
  simpa using this
theorem or_byte1 (m : Nat) (x : UInt8) (hm : m < 256 ^ 1) : bits .or .i64 (m : Int) (wrap64 (wrap64 (x.toNat : Int) * 256)) = ((m + 256 ^ 1 * x.toNat : Nat) : Int) := or_byte m 8 x (by omega) hm
theorem or_byte2 (m : Nat) (x : UInt8) (hm : m < 256 ^ 2) : bits .or .i64 (m : Int) (wrap64 (wrap64 (x.toNat : Int) * 65536)) = ((m + 256 ^ 2 * x.toNat : Nat) : Int) := or_byte m 16 x (by omega) hm
theorem or_byte3 (m : Nat) (x : UInt8) (hm : m < 256 ^ 3) : bits .or .i64 (m : Int) (wrap64 (wrap64 (x.toNat : Int) * 16777216)) = ((m + 256 ^ 3 * x.toNat : Nat) : Int) := or_byte m 24 x (by omega) hm

set_option maxRecDepth 100000 in
set_option maxHeartbeats 400000 in
theorem get_any (s : ByteArray) (w : World) (hs : s.size ≤ 4) :
    Calls Try.prog 48 #[.string s] w fun e w' => e = .returned (.int .i64 (un s.data.toList)) ∧ w' = w := by
  go_enter Try.func48, Try.ntmps48
  go_wp2
  go_loop [7, 3] (fun i n => ∃ k : Nat, k ≤ s.size ∧ i = .int .i64 k ∧ n = .int .i64 (un (s.data.toList.take k))) (fun i _ => s.size - (intOf i).toNat)
  case atStart => exact ⟨0, Nat.zero_le _, rfl, rfl⟩
  case round =>
    obtain ⟨k, hk, rfl, rfl⟩ := hrel
    by_cases hlt : k < s.size
    · have H1 : Hid (un (s.data.toList.take (k + 1)) = un (s.data.toList.take k) + 256 ^ k * s[k].toNat) := Lib.hid (by
        rw [take_snoc_b s k hlt, un_snoc, List.length_take, show min k s.data.toList.length = k by simp; omega])
      have hu : un (s.data.toList.take k) < 256 ^ k := by
        have := un_lt (s.data.toList.take k)
        rw [List.length_take] at this
        have e : min k s.data.toList.length = k := by simp; omega
        rwa [e] at this
      have H2 := Lib.hid hu
      clear hu
      generalize un (s.data.toList.take k) = m at *
      obtain rfl | rfl | rfl | rfl : k = 0 ∨ k = 1 ∨ k = 2 ∨ k = 3 := by omega
      · go_wp2
        go_round
        case rel => exact ⟨1, hlt, rfl, by rw [or_byte0 _ _ H2.out, H1.out]⟩
        case measure => simp [intOf]; omega
      · go_wp2
        go_round
        case rel => exact ⟨2, hlt, rfl, by rw [or_byte1 _ _ H2.out, H1.out]⟩
        case measure => simp [intOf]; omega
      · go_wp2
        go_round
        case rel => exact ⟨3, hlt, rfl, by rw [or_byte2 _ _ H2.out, H1.out]⟩
        case measure => simp [intOf]; omega
      · go_wp2
        go_round
        case rel => exact ⟨4, hlt, rfl, by rw [or_byte3 _ _ H2.out, H1.out]⟩
        case measure => simp [intOf]; omega
    · obtain rfl : k = s.size := by omega
      go_wp2
      go_ret
      exact ⟨by rw [List.take_of_length_le (by simp)]; rfl, rfl⟩

set_option maxHeartbeats 4000000 in
set_option maxRecDepth 100000 in
/-- 'strings.Clone' comes to this: the same bytes. (The library's own worked proof of it, turned to this program's numbers.) -/
theorem clone0_any (s : ByteArray) (w : World) (hlim : s.size ≤ 1000) :
    Calls Try.prog 53 #[.string s] w fun e w' => e = .returned (.string s) ∧ Below w.heap.size w w' := by
  by_cases h0 : s.size = 0
  · have hs : s = ⟨#[]⟩ := by
      apply ByteArray.ext
      exact Array.eq_empty_of_size_eq_zero h0
    subst hs
    clear h0 hlim
    go_enter Try.func53, Try.ntmps53
    go_wp2
    go_ret
    exact ⟨rfl, Below.refl _ _⟩
  · obtain ⟨i0, hi, hz0, hz1, hz2⟩ := info_parts infoByte
    have hinfo : (Try.prog.info? 5).map (·.size) = some 1 := by rw [hi]; simp [hz1]
    have hco : Try.prog.cellsOf 5 = 1 := by kernel_rfl
    obtain ⟨M, hM⟩ : ∃ M, M = madeCells (Value.int .u8 0).cells (((s.size : Nat) : Int).toNat * i0.size) := ⟨_, rfl⟩
    have hMs : M.size = s.size := by rw [hM, size_madeCells, hz1]; simp
    have hmk : ∀ W : World, (Instr.makeSlice 22 (.int .i64 (s.size : Int)) (.int .i64 (s.size : Int))).run Try.prog W = .ok (.slice (some ⟨W.heap.size, 0, none⟩) s.size s.size) (W.alloc (.cells M 5)) := fun W => by
      have h := run_make (P := Try.prog) W 22 5 i0 (.int .u8 0) Try.underlying22 hi hz0 .i64 .i64 (s.size : Int) (s.size : Int) (by omega) (by omega) (by rw [hz2]; omega) (by omega)
      rw [← hM] at h
      simpa using h
    clear hM
    have hcp := Lib.run_copy_row_string (P := Try.prog) (w.alloc (.cells M 5)) 22 9 3 5 w.heap.size 0 s.size s.size s M 5 Try.underlying22 hinfo (heap_alloc_new w _) (Nat.le_refl _) (by omega)
    obtain ⟨Y, hY⟩ : ∃ Y, Y = (M.toList.take 0 ++ Lib.byteCells s.data.toList ++ M.toList.drop (0 + s.size)).toArray := ⟨_, rfl⟩
    rw [← hY] at hcp
    have hYl : Y.toList = Lib.byteCells s.data.toList := by
      rw [hY, List.toList_toArray, List.take_zero, List.nil_append, List.drop_of_length_le (by rw [Array.length_toList]; omega), List.append_nil]
    have hYs : Y.size = s.size := by rw [← Array.length_toList, hYl, Lib.byteCells_length, ← Lib.size_eq]
    have hgY : ((w.alloc (.cells M 5)).setRow w.heap.size Y).heap[w.heap.size]? = some (.cells Y 5 (0, 0)) := setRow_heap _ _ M _ 5 (0, 0) (heap_alloc_new w _)
    have hne : s.data.toList ≠ [] := fun e => h0 (by rw [Lib.size_eq, e]; rfl)
    have hUS := Lib.run_unsafeString_row (P := Try.prog) ((w.alloc (.cells M 5)).setRow w.heap.size Y) 77 3 9 5 Try.underlying77 hco w.heap.size Y.size (by unfold World.shape?; rw [hgY]) s.data.toList hne (by rw [← Lib.size_eq]; omega) (by rw [← Lib.size_eq]; omega)
      (fun j x hx => Lib.cells_of_row hgY Y.size j _ (by rw [List.take_of_length_le (by rw [Array.length_toList]; exact Nat.le_refl _), hYl]; simp [Lib.byteCells, hx]))
    rw [← Lib.size_eq] at hUS
    clear hY
    go_enter Try.func53, Try.ntmps53
    go_wp2
    go_ret
    have hb1 : Below w.heap.size w (w.alloc (.cells M 5)) := (Below.refl _ w).alloc (Nat.le_refl _) _
    have hb2 : Below w.heap.size (w.alloc (.cells M 5)) ((w.alloc (.cells M 5)).setRow w.heap.size Y) := ⟨rfl, rfl, rfl, by simp, fun k hk => setRow_other _ _ _ _ (by omega)⟩
    exact ⟨rfl, Lib.below_freeze (hb1.trans hb2) (p := ⟨w.heap.size, 0, none⟩) (Nat.le_refl _) _⟩

set_option maxRecDepth 100000 in
set_option maxHeartbeats 400000 in
theorem clone_any (s : ByteArray) (w : World) (hlim : s.size ≤ 1000) :
    Calls Try.prog 45 #[.string s] w fun e w' => e = .returned (.string s) ∧ Below w.heap.size w w' := by
  go_enter Try.func45, Try.ntmps45
  go_wp2_with fail
  refine (clone0_any s _ hlim).mono ?_
  rintro e w1 ⟨rfl, hb⟩
  have H := Lib.hid hb
  clear hb
  go_wp2_with fail
  go_ret
  exact ⟨rfl, H.out⟩
end Go.Proofs.Ytiakaloabeendaa
