/- The walk of sector.Label: what its ways share; a wrong length. -/
import Derived.Test.YtiakaloabeendaaSOpen
namespace Go.Proofs.Ytiakaloabeendaa
open Go.RowKit

theorem un_one (l : List UInt8) (k : Nat) (h : k < l.length) : un (sub l k (k + 1)) = l[k].toNat := by
  have : sub l k (k + 1) = [l[k]] := by
    unfold sub
    rw [List.drop_eq_getElem_cons h, show k + 1 - k = 1 by omega]
    rfl
  rw [this]; simp [un]

theorem sub_ext (s : ByteArray) (i j : Nat) : (s.extract i j).data.toList = sub s.data.toList i j := by
  unfold sub; simp

theorem below_conv (B : Nat) (W : World) (e : TypeId) (s : ByteArray) (hB : B ≤ W.heap.size) : Below B W (Lib.bytesWorld W e s) :=
  ⟨rfl, rfl, rfl, by rw [Lib.bytesWorld_size]; omega, fun k hk => Lib.bytesWorld_at_old W e s k (by omega)⟩

theorem bytesAt_conv (W : World) (e : TypeId) (s : ByteArray) (h : s.size ≤ 1000) : BytesAt (Lib.bytesWorld W e s) (some ⟨W.heap.size, 0, none⟩) s.data.toList := by
  refine ⟨by simp [maxLen]; omega, .inr ⟨_, 0, rfl, fun i hi => ?_⟩⟩
  rw [Nat.zero_add, Lib.bytesWorld_cell W e s i (by simpa using hi)]

theorem labS {w2 x : World} {p q N : Nat} {d a i e c : Value} (hp : p < N) (hq : q < N) (h1 : w2.heap[p]? = some (.cells #[d, a, i] 41 (0, 0))) (h2 : w2.heap[q]? = some (.cells #[e, c] 35 (0, 0))) (hb : Below N w2 x) (hz : N ≤ x.heap.size) :
    x.cell? ⟨p, 0, none⟩ = some d ∧ x.cell? ⟨p, 1, none⟩ = some a ∧ x.cell? ⟨p, 2, none⟩ = some i ∧ x.cell? ⟨q, 0, none⟩ = some e ∧ x.cell? ⟨q, 1, none⟩ = some c ∧ N ≤ x.heap.size ∧ Below N w2 x := by
  have e1 : x.heap[p]? = some (.cells #[d, a, i] 41 (0, 0)) := by rw [hb.block _ hp]; exact h1
  have e2 : x.heap[q]? = some (.cells #[e, c] 35 (0, 0)) := by rw [hb.block _ hq]; exact h2
  unfold World.cell?
  simp only [e1, e2]
  exact ⟨rfl, rfl, rfl, rfl, rfl, hz, hb⟩

theorem labS_below {w2 x y : World} {p q N : Nat} {d a i e c : Value} (hp : p < N) (hq : q < N) (h : x.cell? ⟨p, 0, none⟩ = some d ∧ x.cell? ⟨p, 1, none⟩ = some a ∧ x.cell? ⟨p, 2, none⟩ = some i ∧ x.cell? ⟨q, 0, none⟩ = some e ∧ x.cell? ⟨q, 1, none⟩ = some c ∧ N ≤ x.heap.size ∧ Below N w2 x) (hb : Below x.heap.size x y) :
    y.cell? ⟨p, 0, none⟩ = some d ∧ y.cell? ⟨p, 1, none⟩ = some a ∧ y.cell? ⟨p, 2, none⟩ = some i ∧ y.cell? ⟨q, 0, none⟩ = some e ∧ y.cell? ⟨q, 1, none⟩ = some c ∧ N ≤ y.heap.size ∧ Below N w2 y := by
  obtain ⟨h1, h2, h3, h4, h5, h6, h7⟩ := h
  exact ⟨by rw [hb.cell (by simp; omega)]; exact h1, by rw [hb.cell (by simp; omega)]; exact h2, by rw [hb.cell (by simp; omega)]; exact h3, by rw [hb.cell (by simp; omega)]; exact h4, by rw [hb.cell (by simp; omega)]; exact h5, Nat.le_trans h6 hb.size, h7.trans (hb.mono h6)⟩

theorem cut_late {S X Y : Prop} (h2 : (S → X) → Y) (h1 : S → X) : Y := h2 h1
theorem wpAnyH_norm {P : Program} {md : Region.Mode} {ops : Array Oper} {Q : Exit → Act → World → Prop} {S : World → Prop} {fuel : Nat} {listed : Array Bool} {a : Act} {w : World} {f : Nat} {L : Array Bool} (hf : fuel = f) (hl : listed = L)
    (h : wpAnyH P md ops Q S f L a w) : wpAnyH P md ops Q S fuel listed a w := by subst hf hl; exact h
theorem sub_tail (l : List UInt8) (h : l.length = 64) : sub l 56 64 = l.drop 56 := by
  unfold sub
  rw [List.take_of_length_le (by simp; omega)]
theorem sub_four (l : List UInt8) (h : l.length = 64) : sub l 4 64 = l.drop 4 := by
  unfold sub
  rw [List.take_of_length_le (by simp; omega)]
theorem setW {B : Nat} {w x : World} (h : Below B w x) (p q : Nat) (hp : B ≤ p) (hq : B ≤ q) (d a i e c : Value) :
    Below B w (((((x.setCell ⟨p, 0, none⟩ d).setCell ⟨p, 1, none⟩ a).setCell ⟨p, 2, none⟩ i).setCell ⟨q, 0, none⟩ e).setCell ⟨q, 1, none⟩ c) :=
  ((((h.setCell hp _).setCell hp _).setCell hp _).setCell hq _).setCell hq _

set_option maxRecDepth 100000 in
set_option maxHeartbeats 1000000 in
theorem label_len (s : ByteArray) (h : s.size ≠ 64) : LabelErr s 1 := fun w => by
  have hd : ((s.size : Int) != 64) = true := bne_iff_ne.2 (by omega)
  clear h
  go_enter Try.func30, Try.ntmps30
  go_wp2_with fail
  have q := two_new w (Obj.cells #[Value.int IntKind.i64 0, Value.int IntKind.i64 0, Value.int IntKind.i64 0] 41) (Obj.cells #[Value.int IntKind.i64 0, Value.int IntKind.i64 0] 35)
  have q3 := cells3 q.1
  have q2 := cells2 q.2
  exact bodyPost_ret (results_cct rfl rfl rfl (load_place q3.1 q3.2.1 q3.2.2.1) (load_gen q2.1 q2.2.1)) rfl ⟨rfl, ((Below.refl _ w).alloc (Nat.le_refl _) _).alloc (by simp) _⟩
end Go.Proofs.Ytiakaloabeendaa
