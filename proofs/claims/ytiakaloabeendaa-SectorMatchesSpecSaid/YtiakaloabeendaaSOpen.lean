/- The walk of sector.Open. -/
import Derived.Test.YtiakaloabeendaaSeal
import Derived.Lib.ConvBytes
import Derived.Deep.RegionWith
namespace Go.Proofs.Ytiakaloabeendaa
open Go.RowKit

theorem ext_le (s : ByteArray) (i j : Nat) : (s.extract i j).size ≤ j - i := by
  rw [ByteArray.size_extract]; omega

/-- All orders of a region come to the same end. -/
def Once (A : Act) (W : World) : Exit → Act → World → Prop
  | .normal, a, w => a = A ∧ w = W
  | _, _, _ => False
theorem wp_once {P : Program} {c : Code} {a : Act} {w : World} {Q : Exit → Act → World → Prop} (A : Act) (W : World) (h2 : c.wp P (Once A W) a w) (h1 : Q .normal A W) : c.wp P Q a w :=
  Code.wp_mono (fun e a' w' h => by
    cases e with
    | normal => obtain ⟨rfl, rfl⟩ := h; exact h1
    | _ => exact (h : False).elim) h2

/-- The same, where the worlds differ. -/
def OnceW (A : Act) (R : World → Prop) : Exit → Act → World → Prop
  | .normal, a, w => a = A ∧ R w
  | _, _, _ => False
theorem wp_onceW {P : Program} {c : Code} {a : Act} {w : World} {Q : Exit → Act → World → Prop} (R : World → Prop) (A : Act) (h2 : c.wp P (OnceW A R) a w) (h1 : ∀ W, R W → Q .normal A W) : c.wp P Q a w :=
  Code.wp_mono (fun e a' w' h => by
    cases e with
    | normal => obtain ⟨rfl, h⟩ := h; exact h1 _ h
    | _ => exact (h : False).elim) h2

theorem cells2 {w : World} {b : Nat} {e c : Value} {t : TypeId} (h : w.heap[b]? = some (.cells #[e, c] t (0, 0))) : w.cell? ⟨b, 0, none⟩ = some e ∧ w.cell? ⟨b, 1, none⟩ = some c ∧ (∀ k, w.frozen? ⟨b, k, none⟩ = false) :=
  ⟨by unfold World.cell?; rw [h]; rfl, by unfold World.cell?; rw [h]; rfl, fun k => Lib.frozen_of_heap h _⟩
theorem cells3 {w : World} {b : Nat} {e c d : Value} {t : TypeId} (h : w.heap[b]? = some (.cells #[e, c, d] t (0, 0))) : w.cell? ⟨b, 0, none⟩ = some e ∧ w.cell? ⟨b, 1, none⟩ = some c ∧ w.cell? ⟨b, 2, none⟩ = some d ∧ (∀ k, w.frozen? ⟨b, k, none⟩ = false) :=
  ⟨by unfold World.cell?; rw [h]; rfl, by unfold World.cell?; rw [h]; rfl, by unfold World.cell?; rw [h]; rfl, fun k => Lib.frozen_of_heap h _⟩

theorem heap_two {w : World} {b : Nat} {x : Obj} (h : w.heap[b]? = some x) (o p : Obj) : ((w.alloc o).alloc p).heap[b]? = some x := by
  have hlt := (Array.getElem?_eq_some_iff.1 h).1
  rw [Below.heap_alloc _ _ _ (by simp; omega), Below.heap_alloc _ _ _ hlt]; exact h
theorem cells2a {w : World} {b : Nat} {e c : Value} {t : TypeId} (h : w.heap[b]? = some (.cells #[e, c] t (0, 0))) :
    (∀ o p, ((w.alloc o).alloc p).cell? ⟨b, 0, none⟩ = some e) ∧ (∀ o p, ((w.alloc o).alloc p).cell? ⟨b, 1, none⟩ = some c) ∧ (∀ o p k, ((w.alloc o).alloc p).frozen? ⟨b, k, none⟩ = false) :=
  ⟨fun o p => (cells2 (heap_two h o p)).1, fun o p => (cells2 (heap_two h o p)).2.1, fun o p => (cells2 (heap_two h o p)).2.2⟩

theorem cells3a {w : World} {b : Nat} {e c d : Value} {t : TypeId} (h : w.heap[b]? = some (.cells #[e, c, d] t (0, 0))) :
    (∀ o p, ((w.alloc o).alloc p).cell? ⟨b, 0, none⟩ = some e) ∧ (∀ o p, ((w.alloc o).alloc p).cell? ⟨b, 1, none⟩ = some c) ∧ (∀ o p, ((w.alloc o).alloc p).cell? ⟨b, 2, none⟩ = some d) :=
  ⟨fun o p => (cells3 (heap_two h o p)).1, fun o p => (cells3 (heap_two h o p)).2.1, fun o p => (cells3 (heap_two h o p)).2.2.1⟩

set_option linter.unusedSimpArgs false
theorem results_ctt {P : Program} {fn : Func} {p u v : Tmp} {ty : TypeId} {tmps : Array Value} {w : World} {a : Addr} {x : Value} (h : fn.results = #[.cell p ty, .tmp u, .tmp v]) (hp : tmps.getD p undef = .pointer (some a))
    (hl : (loadVar ty a).run P w = .ok x w) : (results fn tmps).run P w = .ok (.tuple #[x, tmps.getD u undef, tmps.getD v undef]) w := by
  rw [Array.getD_eq_getD_getElem?] at hp
  simp only [results, h]
  simp [Sem.run_bind, Result.andThen, hp, asAddr, hl]
theorem results_cct {P : Program} {fn : Func} {p q v : Tmp} {ty tz : TypeId} {tmps : Array Value} {w : World} {a b : Addr} {x y : Value} (h : fn.results = #[.cell p ty, .cell q tz, .tmp v]) (hp : tmps.getD p undef = .pointer (some a)) (hq : tmps.getD q undef = .pointer (some b))
    (hl : (loadVar ty a).run P w = .ok x w) (hm : (loadVar tz b).run P w = .ok y w) : (results fn tmps).run P w = .ok (.tuple #[x, y, tmps.getD v undef]) w := by
  rw [Array.getD_eq_getD_getElem?] at hp hq
  simp only [results, h]
  simp [Sem.run_bind, Result.andThen, hp, hq, asAddr, hl, hm]

theorem load_gen {w : World} {b : Nat} {e c : Value} (h0 : w.cell? ⟨b, 0, none⟩ = some e) (h1 : w.cell? ⟨b, 1, none⟩ = some c) : (loadVar 35 ⟨b, 0, none⟩).run Try.prog w = .ok (.agg #[e, c]) w := by
  go_simp
theorem load_place {w : World} {b : Nat} {e c d : Value} (h0 : w.cell? ⟨b, 0, none⟩ = some e) (h1 : w.cell? ⟨b, 1, none⟩ = some c) (h2 : w.cell? ⟨b, 2, none⟩ = some d) : (loadVar 41 ⟨b, 0, none⟩).run Try.prog w = .ok (.agg #[e, c, d]) w := by
  go_simp

theorem bel2 {B : Nat} {w w2 : World} (h : Below B w w2) (hB : B ≤ w2.heap.size) (o p : Obj) : Below B w ((w2.alloc o).alloc p) := (h.alloc hB o).alloc (by simp; omega) p

/-- What Label lets pass. -/
def goodL (l : List UInt8) : Prop := un (sub l 0 4) = (crcB (l.drop 4)).toNat ∧ validB (un (sub l 5 6)) (un (sub l 4 5)) (un (sub l 6 8)) = true ∧ genV (un (sub l 8 12)) (un (sub l 12 16)) = true ∧ sub l 8 16 = l.drop 56

def LabelOk (s : ByteArray) (d a i e c : Int) : Prop := ∀ (w : World), Calls Try.prog 30 #[.string s] w fun x w' => x = .returned (.tuple #[.agg #[.int .i64 d, .int .i64 a, .int .i64 i], .agg #[.int .i64 e, .int .i64 c], .int .i64 0]) ∧ Below w.heap.size w w'

def LabelErr (s : ByteArray) (k : Int) : Prop := ∀ (w : World), Calls Try.prog 30 #[.string s] w fun x w' => x = .returned (.tuple #[.agg #[.int .i64 0, .int .i64 0, .int .i64 0], .agg #[.int .i64 0, .int .i64 0], .int .i64 k]) ∧ Below w.heap.size w w'

set_option maxRecDepth 100000 in
set_option maxHeartbeats 1000000 in
theorem open_arg (d a i : Int) (s : ByteArray) (w : World) (hv : validB d a i = false) :
    Calls Try.prog 28 #[.agg #[.int .i64 d, .int .i64 a, .int .i64 i], .string s] w fun x w' => x = .returned (.tuple #[.agg #[.int .i64 0, .int .i64 0], .string ⟨#[]⟩, .int .i64 1]) ∧ Below w.heap.size w w' := by
  have HV := Lib.hid hv
  clear hv
  go_enter Try.func28, Try.ntmps28
  go_wp2_with fail
  refine (valid_any d a i _).mono ?_
  rintro x w1 ⟨rfl, hb⟩
  rw [HV.out]
  have B1 : Hid (Below w.heap.size w w1) := Lib.hid (((Below.refl _ w).alloc (Nat.le_refl _) _).alloc (by simp) _ |>.trans (hb.mono (by simp; omega)))
  have C2 : Hid (w1.heap[w.heap.size + 1]? = some (.cells #[.int .i64 0, .int .i64 0] 35 (0, 0))) := Lib.hid (by
    rw [hb.block _ (by simp)]
    exact (two_new _ _ _).2)
  clear hb
  obtain ⟨c20, c21, c22⟩ := cells2 C2.out
  go_wp2_with fail
  refine bodyPost_ret (results_ctt rfl rfl (load_gen ?_ ?_)) rfl ⟨rfl, (B1.out.setCell (by simp) _).setCell (by simp) _⟩
  · go_simp
  · go_simp

set_option maxRecDepth 100000 in
set_option maxHeartbeats 1000000 in
theorem open_err (d a i : Int) (s : ByteArray) (k : Int) (w : World) (hv : validB d a i = true) (hL : LabelErr s k) (hk : k = 1 ∨ k = 7) :
    Calls Try.prog 28 #[.agg #[.int .i64 d, .int .i64 a, .int .i64 i], .string s] w fun x w' => x = .returned (.tuple #[.agg #[.int .i64 0, .int .i64 0], .string ⟨#[]⟩, .int .i64 k]) ∧ Below w.heap.size w w' := by
  have HV := Lib.hid hv
  have HL := Lib.hid hL
  have HK := Lib.hid hk
  clear hv hL hk
  go_enter Try.func28, Try.ntmps28
  go_wp2_with fail
  refine (valid_any d a i _).mono ?_
  rintro x w1 ⟨rfl, hb⟩
  rw [HV.out]
  have B1 : Hid (Below w.heap.size w w1) := Lib.hid (((Below.refl _ w).alloc (Nat.le_refl _) _).alloc (by simp) _ |>.trans (hb.mono (by simp; omega)))
  have C2 : Hid (w1.heap[w.heap.size + 1]? = some (.cells #[.int .i64 0, .int .i64 0] 35 (0, 0))) := Lib.hid (by
    rw [hb.block _ (by simp)]
    exact (two_new _ _ _).2)
  clear hb
  go_wp2_with fail
  refine (HL.out _).mono ?_
  rintro x w2 ⟨rfl, hb⟩
  have B2 := Lib.hid (B1.out.trans (hb.mono B1.out.size))
  have C3 := Lib.hid ((hb.block _ (by have := hb.size; have := (Array.getElem?_eq_some_iff.1 C2.out).1; omega)).trans C2.out)
  clear hb B1 C2
  obtain ⟨c20, c21, c22⟩ := cells2a C3.out
  rcases HK.out with rfl | rfl
  · go_wp2_with fail
    refine bodyPost_ret (results_ctt rfl rfl (load_gen ?_ ?_)) rfl ⟨rfl, ((bel2 B2.out B2.out.size _ _).setCell (by simp) _).setCell (by simp) _⟩
    · go_simp
    · go_simp
  · go_wp2_with fail
    refine bodyPost_ret (results_ctt rfl rfl (load_gen ?_ ?_)) rfl ⟨rfl, ((bel2 B2.out B2.out.size _ _).setCell (by simp) _).setCell (by simp) _⟩
    · go_simp
    · go_simp

set_option maxRecDepth 100000 in
set_option maxHeartbeats 1000000 in
theorem open_other (d a i D A I e c : Int) (s : ByteArray) (w : World) (hv : validB D A I = true) (hL : LabelOk s d a i e c) (hne : ¬ (d = D ∧ a = A ∧ i = I)) :
    Calls Try.prog 28 #[.agg #[.int .i64 D, .int .i64 A, .int .i64 I], .string s] w fun x w' => x = .returned (.tuple #[.agg #[.int .i64 0, .int .i64 0], .string ⟨#[]⟩, .int .i64 8]) ∧ Below w.heap.size w w' := by
  have HV := Lib.hid hv
  have HL := Lib.hid hL
  have HE := Lib.hid hne
  clear hv hL hne
  go_enter Try.func28, Try.ntmps28
  go_wp2_with fail
  refine (valid_any D A I _).mono ?_
  rintro x w1 ⟨rfl, hb⟩
  rw [HV.out]
  have B1 : Hid (Below w.heap.size w w1) := Lib.hid (((Below.refl _ w).alloc (Nat.le_refl _) _).alloc (by simp) _ |>.trans (hb.mono (by simp; omega)))
  have C2 : Hid (w1.heap[w.heap.size + 1]? = some (.cells #[.int .i64 0, .int .i64 0] 35 (0, 0))) := Lib.hid (by
    rw [hb.block _ (by simp)]
    exact (two_new _ _ _).2)
  have C1 : Hid (w1.heap[w.heap.size]? = some (.cells #[.int .i64 D, .int .i64 A, .int .i64 I] 41 (0, 0))) := Lib.hid (by
    rw [hb.block _ (by simp; omega)]
    exact (two_new _ _ _).1)
  clear hb
  go_wp2_with fail
  refine (HL.out _).mono ?_
  rintro x w2 ⟨rfl, hb⟩
  have B2 := Lib.hid (B1.out.trans (hb.mono B1.out.size))
  have C3 := Lib.hid ((hb.block _ (by have := hb.size; have := (Array.getElem?_eq_some_iff.1 C2.out).1; omega)).trans C2.out)
  have C4 := Lib.hid ((hb.block _ (by have := hb.size; have := (Array.getElem?_eq_some_iff.1 C1.out).1; omega)).trans C1.out)
  clear hb B1 C2 C1
  obtain ⟨c20, c21, c22⟩ := cells2a C3.out
  obtain ⟨c30, c31, c32⟩ := cells3a C4.out
  go_wp2_with fail
  any_goals
    refine bodyPost_ret (results_ctt rfl rfl (load_gen (by go_simp) (by go_simp))) rfl ⟨rfl, ((bel2 B2.out B2.out.size _ _).setCell (by simp) _).setCell (by simp) _⟩
  exact absurd ⟨by first | rfl | assumption | (symm; assumption), by first | rfl | assumption | (symm; assumption), by first | rfl | assumption | (symm; assumption)⟩ HE.out

set_option maxRecDepth 100000 in
set_option maxHeartbeats 1000000 in
theorem open_good (d a i e c : Int) (s : ByteArray) (w : World) (hs : s.size = 64) (hv : validB d a i = true) (hL : LabelOk s d a i e c) :
    Calls Try.prog 28 #[.agg #[.int .i64 d, .int .i64 a, .int .i64 i], .string s] w fun x w' => x = .returned (.tuple #[.agg #[.int .i64 e, .int .i64 c], .string (s.extract 16 56), .int .i64 0]) ∧ Below w.heap.size w w' := by
  have HV := Lib.hid hv
  have HL := Lib.hid hL
  clear hv hL
  go_enter Try.func28, Try.ntmps28
  go_wp2_with fail
  refine (valid_any d a i _).mono ?_
  rintro x w1 ⟨rfl, hb⟩
  rw [HV.out]
  have B1 : Hid (Below w.heap.size w w1) := Lib.hid (((Below.refl _ w).alloc (Nat.le_refl _) _).alloc (by simp) _ |>.trans (hb.mono (by simp; omega)))
  have C2 : Hid (w1.heap[w.heap.size + 1]? = some (.cells #[.int .i64 0, .int .i64 0] 35 (0, 0))) := Lib.hid (by
    rw [hb.block _ (by simp)]
    exact (two_new _ _ _).2)
  have C1 : Hid (w1.heap[w.heap.size]? = some (.cells #[.int .i64 d, .int .i64 a, .int .i64 i] 41 (0, 0))) := Lib.hid (by
    rw [hb.block _ (by simp; omega)]
    exact (two_new _ _ _).1)
  clear hb
  go_wp2_with fail
  refine (HL.out _).mono ?_
  rintro x w2 ⟨rfl, hb⟩
  have B2 := Lib.hid (B1.out.trans (hb.mono B1.out.size))
  have C3 := Lib.hid ((hb.block _ (by have := hb.size; have := (Array.getElem?_eq_some_iff.1 C2.out).1; omega)).trans C2.out)
  have C4 := Lib.hid ((hb.block _ (by have := hb.size; have := (Array.getElem?_eq_some_iff.1 C1.out).1; omega)).trans C1.out)
  clear hb B1 C2 C1
  obtain ⟨c30, c31, c32⟩ := cells3a C4.out
  go_wp2_with fail
  have F1 := Lib.hid (two_new w2 (Obj.cells #[Value.int IntKind.i64 d, Value.int IntKind.i64 a, Value.int IntKind.i64 i] 41) (Obj.cells #[Value.int IntKind.i64 e, Value.int IntKind.i64 c] 35)).2
  have F2 := Lib.hid (heap_two C3.out (Obj.cells #[Value.int IntKind.i64 d, Value.int IntKind.i64 a, Value.int IntKind.i64 i] 41) (Obj.cells #[Value.int IntKind.i64 e, Value.int IntKind.i64 c] 35))
  have B3 := Lib.hid (bel2 B2.out B2.out.size (Obj.cells #[Value.int IntKind.i64 d, Value.int IntKind.i64 a, Value.int IntKind.i64 i] 41) (Obj.cells #[Value.int IntKind.i64 e, Value.int IntKind.i64 c] 35))
  generalize ((w2.alloc (Obj.cells #[Value.int IntKind.i64 d, Value.int IntKind.i64 a, Value.int IntKind.i64 i] 41)).alloc (Obj.cells #[Value.int IntKind.i64 e, Value.int IntKind.i64 c] 35)) = w3 at *
  clear C3 C4 B2 c30 c31 c32
  obtain ⟨c20, c21, _⟩ := cells2 F1.out
  have hne : Hid (w.heap.size + 1 < w3.heap.size) := Lib.hid (Array.getElem?_eq_some_iff.1 F2.out).1
  have hne2 : Hid (w2.heap.size + 1 < w3.heap.size) := Lib.hid (Array.getElem?_eq_some_iff.1 F1.out).1
  apply wp_onceW (fun x => x.cell? ⟨w.heap.size + 1, 0, none⟩ = some (.int .i64 e) ∧ x.cell? ⟨w.heap.size + 1, 1, none⟩ = some (.int .i64 c) ∧ Below w.heap.size w x)
  · go_region_with (first
      | (go_at_call 45; refine (clone_any (s.extract 16 56) _ (Nat.le_trans (ext_le _ _ _) (by decide))).mono ?_; rintro x w4 ⟨rfl, hb4⟩; (have q1 := cells2 ((hb4.block _ hne2.out).trans F1.out)); (have q2 := cells2 ((hb4.block _ hne.out).trans F2.out)); obtain ⟨q10, q11, _⟩ := q1; obtain ⟨q20, q21, q22⟩ := q2))
    all_goals
      refine ⟨rfl, ?_, ?_, (Below.setCell (Below.setCell (B3.out.drew.trans (hb4.mono (Nat.le_trans B3.out.size (Nat.le_refl _)))) (by simp) _) (by simp) _)⟩
    all_goals go_simp
  intro W hW
  obtain ⟨h0, h1, hB⟩ := hW
  go_wp2_with fail
  exact bodyPost_ret (results_ctt rfl rfl (load_gen h0 h1)) rfl ⟨rfl, hB⟩
end Go.Proofs.Ytiakaloabeendaa
