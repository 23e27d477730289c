/- The walk of crc.Extend and crc.Of: the checksum of the bytes of the slice. -/
import Derived.Test.YtiakaloabeendaaDoorTable
namespace Go.Proofs.YtiakaloabeendaaDoor
open Go.RowKit

set_option maxRecDepth 100000 in
set_option maxHeartbeats 400000 in
theorem extend_any (c : BitVec 32) (l : List UInt8) (a : Option Addr) (cap : Nat) (w : World) (h : BytesAt w a l) :
    Calls Tryd.prog 19 #[.int .u32 (rg c), .slice a l.length cap] w fun e w' => e = .returned (.int .u32 (rg (extB c l))) ∧ Below w.heap.size w w' := by
  have H0 := Lib.hid h
  have hm := h.1
  unfold maxLen at hm
  clear h
  go_enter Tryd.func19, Tryd.ntmps19
  go_wp2_with fail
  refine (table_any _).mono ?_
  rintro e w1 ⟨rfl, hb1⟩
  have H1 := Lib.hid hb1
  clear hb1
  have hh := Lib.hid (heap_alloc_new w1 (.cells (zcells 256) 42))
  go_wp2_with (first | refine wpList_alloc_row rfl 42 rfl (zcells 256) (zeroTab _) ?_ | refine wpList_store_row rfl 42 _ _ rfl w1.heap.size tabRow rfl rfl 42 (zcells 256) hh.out (by rw [tabRow_size]; exact sizeTab) (by rw [tabRow_size, zcells_size]) tabRow_one ?_)
  rw [u32_not]
  have K1 := Lib.hid (setRow_heap _ w1.heap.size (zcells 256) tabRow _ _ hh.out)
  have K2 : Hid (Below w.heap.size w ((w1.alloc (Obj.cells (zcells 256) 42)).setRow w1.heap.size tabRow)) :=
    (H1.out.alloc H1.out.size _).trans ⟨rfl, rfl, rfl, by simp, fun j hj => setRow_other _ w1.heap.size j tabRow (by have := H1.out.size; omega)⟩
  generalize (w1.alloc (Obj.cells (zcells 256) 42)).setRow w1.heap.size tabRow = w2 at *
  clear hh
  have H2 := Lib.hid (H0.out.below K2.out)
  go_loop [14, 6] (fun i r => ∃ k : Nat, k ≤ l.length ∧ i = .int .i64 k ∧ r = .int .u32 (rg (feeds (~~~ c) (l.take k)))) (fun i _ => l.length - (intOf i).toNat)
  case atStart => exact ⟨0, by omega, rfl, rfl⟩
  case round =>
    obtain ⟨k, hk, rfl, rfl⟩ := hrel
    by_cases hlt : k < l.length
    · have H3 : Hid (feeds (~~~ c) (l.take (k + 1)) = feedB (feeds (~~~ c) (l.take k)) (l.getD k 0)) := by rw [take_snoc' l k hlt, feeds_snoc]; exact Lib.hid rfl
      generalize feeds (~~~ c) (l.take k) = r at *
      rcases H2.out with ⟨_, h0 | ⟨b, off, rfl, hc⟩⟩
      · rw [h0] at hlt; simp at hlt
      have hcell := hc k hlt
      clear hc
      generalize l.getD k 0 = x at *
      have hx := lo8_walk r x
      have H5 := Lib.hid (feed_walk r x)
      generalize lo8 r ^^^ x = y at *
      have hxl : (y.toNat : Int) < 256 := by have := y.toNat_lt; omega
      have htab : w2.cell? ⟨w1.heap.size, y.toNat, none⟩ = some (.int .u32 (rg (f8 (zx y)))) := by
        rw [cell_of_row w2 w1.heap.size _ tabRow _ _ K1.out, tabRow_byte]
      go_wp2
      go_round
      case rel => exact ⟨k + 1, by omega, by go_num, by rw [H3.out, ← H5.out]⟩
      case measure => simp [intOf]; omega
    · obtain rfl : k = l.length := by omega
      go_wp2
      go_ret
      exact ⟨by rw [u32_not]; rfl, K2.out⟩

set_option maxRecDepth 100000 in
set_option maxHeartbeats 400000 in
theorem of_any (l : List UInt8) (a : Option Addr) (cap : Nat) (w : World) (h : BytesAt w a l) :
    Calls Tryd.prog 15 #[.slice a l.length cap] w fun e w' => e = .returned (.int .u32 (rg (crcB l))) ∧ Below w.heap.size w w' := by
  have H0 := Lib.hid h
  clear h
  go_enter Tryd.func15, Tryd.ntmps15
  go_wp2_with fail
  refine (extend_any 0#32 l a cap _ H0.out).mono ?_
  rintro e w1 ⟨rfl, hb1⟩
  have H1 := Lib.hid hb1
  clear hb1
  go_wp2
  go_ret
  exact ⟨rfl, H1.out⟩
end Go.Proofs.YtiakaloabeendaaDoor
