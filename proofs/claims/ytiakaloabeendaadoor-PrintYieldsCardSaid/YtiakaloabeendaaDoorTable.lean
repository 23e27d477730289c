/- The walk of crc.table: the array that it returns holds, for each byte, what feeding that byte does to an empty register. -/
import Derived.Test.YtiakaloabeendaaDoorProg
import Derived.Test.YtiakaloabeendaaDoorWords
namespace Go.Proofs.YtiakaloabeendaaDoor
open Go.RowKit
theorem zeroTab (w : World) : (zeroValue 42).run Tryd.prog w = .ok (.agg (zcells 256)) w := by kernel_rfl
theorem sizeTab : (Tryd.prog.info? 42).map (·.size) = some 256 := by kernel_rfl

def TabSoFar (B k : Nat) (wr : World) : Prop := ∃ cs : Array Value, cs.size = 256 ∧ wr.heap[B]? = some (.cells cs 42 (0, 0)) ∧ ∀ j, j < k → cs[j]? = some (.int .u32 (rg (f8 (BitVec.ofNat 32 j))))

theorem tabSoFar_step {B k : Nat} {wr : World} (h : TabSoFar B k wr) (hk : k < 256) : TabSoFar B (k + 1) (wr.setCell ⟨B, k, none⟩ (.int .u32 (rg (it f1 8 (BitVec.ofNat 32 k))))) := by
  obtain ⟨cs, hs, hh, hc⟩ := h
  refine ⟨_, ?_, heap_setCell_same wr B k cs _ _ hh, ?_⟩
  · simp [hs]
  · intro j hj
    by_cases e : j = k
    · subst e
      simp [hs, hk, f8]
    · rw [Array.getElem?_setIfInBounds_ne (by omega)]
      exact hc j (by omega)

theorem tabSoFar_cell {B k : Nat} {wr : World} (h : TabSoFar B k wr) (j : Nat) (hj : j < 256) : (∃ v, wr.cell? ⟨B, j, none⟩ = some v) ∧ wr.frozen? ⟨B, j, none⟩ = false := by
  obtain ⟨cs, hs, hh, hc⟩ := h
  exact ⟨⟨cs[j], by rw [cell_of_row wr B j cs _ _ hh]; simp [hs, hj]⟩, frozen_of_row wr B j cs _ hh⟩

set_option maxRecDepth 100000 in
set_option maxHeartbeats 400000 in
theorem table_any (w : World) :
    Calls Tryd.prog 21 #[] w fun e w' => e = .returned (.agg tabRow) ∧ Below w.heap.size w w' := by
  go_enter Tryd.func21, Tryd.ntmps21
  go_wp2_with (refine wpList_alloc_row rfl 42 rfl (zcells 256) (zeroTab _) ?_)
  go_loopw [3] (fun i wr => ∃ k : Nat, k ≤ 256 ∧ i = .int .i64 k ∧ TabSoFar w.heap.size k wr ∧ Below w.heap.size w wr) (fun i _ => 256 - (intOf i).toNat)
  case atStart => exact ⟨0, by omega, rfl, ⟨zcells 256, zcells_size 256, heap_alloc_new w _, fun j hj => by omega⟩, (Below.refl _ _).alloc (Nat.le_refl _) _⟩
  case round =>
    obtain ⟨k, hk, rfl, ht, hb⟩ := hrel
    have H1 := Lib.hid ht; clear ht
    have H2 := Lib.hid hb; clear hb
    by_cases hlt : k < 256
    · obtain ⟨⟨v, hv⟩, hf⟩ := tabSoFar_cell H1.out k hlt
      go_wp2
      go_loop [2, 8] (fun r m => ∃ n : Nat, n ≤ 8 ∧ m = .int .i64 n ∧ r = .int .u32 (rg (it f1 n (BitVec.ofNat 32 k)))) (fun _ m => 8 - (intOf m).toNat)
      case atStart => exact ⟨0, by omega, rfl, by rw [it, u32_ofNat k (by omega)]⟩
      case round =>
        obtain ⟨n, hn, rfl, rfl⟩ := hrel
        have H3 : Hid (rg (f1 (it f1 n (BitVec.ofNat 32 k))) = rg (it f1 (n + 1) (BitVec.ofNat 32 k))) := Lib.hid (by rw [it_succ])
        generalize hr : it f1 n (BitVec.ofNat 32 k) = r at *
        have H4 := Lib.hid hr
        clear hr
        by_cases hl : n < 8
        · go_wp2
          go_round
          case rel => exact ⟨n + 1, by omega, by go_num, by rw [f1_walk, H3.out]⟩
          case measure => simp [intOf]; omega
        · obtain rfl : n = 8 := by omega
          go_wp2
          go_roundw
          case rel => exact ⟨k + 1, by omega, by go_num, by rw [← H4.out]; exact tabSoFar_step H1.out hlt, H2.out.setCell (p := ⟨w.heap.size, k, none⟩) (Nat.le_refl _) _⟩
          case measure => simp [intOf]; omega
    · obtain rfl : k = 256 := by omega
      obtain ⟨cs, hs, hh, hc⟩ := H1.out
      obtain rfl := tabRow_of hs hc
      clear hc hs H1
      have hr := setRow_heap wr w.heap.size tabRow tabRow _ _ hh
      have hz := Lib.hid hh
      have hr2 := Lib.hid hr
      clear hh hr
      go_wp2_with (first | refine wpList_load_row rfl 42 _ rfl w.heap.size rfl 42 tabRow (0, 0) _ hz.out Tryd.underlying42 rfl (by rw [tabRow_size]; exact sizeTab) ?_ | refine wpList_store_row rfl 42 _ _ rfl w.heap.size tabRow rfl rfl 42 tabRow hz.out (by rw [tabRow_size]; exact sizeTab) rfl tabRow_one ?_)
      refine bodyPost_ret (results_cell_row rfl _ _ w.heap.size 42 tabRow (0, 0) _ rfl hr2.out Tryd.underlying42 rfl (by rw [tabRow_size]; exact sizeTab)) rfl ⟨rfl, ?_⟩
      exact H2.out.trans ⟨rfl, rfl, rfl, by simp, fun j hj => setRow_other wr w.heap.size j tabRow (by omega)⟩
end Go.Proofs.YtiakaloabeendaaDoor
