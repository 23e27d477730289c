/- The walk of the specification's Open. -/
import Derived.Test.YtiakaloabeendaaRLabel0
import Derived.Deep.RegionWith
set_option linter.unusedSimpArgs false
set_option linter.unusedVariables false
namespace Go.Proofs.Ytiakaloabeendaa
open Go.RowKit

set_option maxRecDepth 100000 in
set_option maxHeartbeats 1000000 in
theorem ropen_arg (d a i : Int) (s : ByteArray) (w : World) (hv : validB d a i = false) :
    Calls Try.prog 32 #[.agg #[.int .i64 d, .int .i64 a, .int .i64 i], .string s] w fun x w' => x = .returned (.tuple #[.agg #[.int .i64 0, .int .i64 0], .string ⟨#[]⟩, .int .i64 1]) ∧ Below w.heap.size w w' := by
  have HV := Lib.hid hv
  clear hv
  go_enter Try.func32, Try.ntmps32
  go_wp2_with fail
  refine (rvalid_any d a i _).mono ?_
  rintro x w1 ⟨rfl, hb⟩
  rw [HV.out]
  have B1 : Hid (Below w.heap.size w w1) := Lib.hid (((Below.refl _ w).alloc (Nat.le_refl _) _).alloc (by simp) _ |>.trans (hb.mono (by simp; omega)))
  have C2 : Hid (w1.heap[w.heap.size + 1]? = some (.cells #[.int .i64 0, .int .i64 0] 35 (0, 0))) := Lib.hid (by
    rw [hb.block _ (by simp)]
    exact (two_new _ _ _).2)
  clear hb
  obtain ⟨c20, c21, c22⟩ := cells2 C2.out
  go_wp2_with fail
  refine bodyPost_ret (results_ctt rfl rfl (load_gen ?_ ?_)) rfl ⟨rfl, (B1.out.setCell (by simp) _).setCell (by simp) _⟩
  · go_simp
  · go_simp

set_option maxRecDepth 100000 in
set_option maxHeartbeats 1000000 in
theorem ropen_err (d a i : Int) (s : ByteArray) (k : Int) (w : World) (hv : validB d a i = true) (hL : RLabelErr s k) (hk : k = 1 ∨ k = 7) :
    Calls Try.prog 32 #[.agg #[.int .i64 d, .int .i64 a, .int .i64 i], .string s] w fun x w' => x = .returned (.tuple #[.agg #[.int .i64 0, .int .i64 0], .string ⟨#[]⟩, .int .i64 k]) ∧ Below w.heap.size w w' := by
  have HV := Lib.hid hv
  have HL := Lib.hid hL
  have HK := Lib.hid hk
  clear hv hL hk
  go_enter Try.func32, Try.ntmps32
  go_wp2_with fail
  refine (rvalid_any d a i _).mono ?_
  rintro x w1 ⟨rfl, hb⟩
  rw [HV.out]
  have B1 : Hid (Below w.heap.size w w1) := Lib.hid (((Below.refl _ w).alloc (Nat.le_refl _) _).alloc (by simp) _ |>.trans (hb.mono (by simp; omega)))
  have C2 : Hid (w1.heap[w.heap.size + 1]? = some (.cells #[.int .i64 0, .int .i64 0] 35 (0, 0))) := Lib.hid (by
    rw [hb.block _ (by simp)]
    exact (two_new _ _ _).2)
  clear hb
  go_wp2_with fail
  refine (HL.out _).mono ?_
  rintro x w2 ⟨rfl, hb⟩
  have B2 := Lib.hid (B1.out.trans (hb.mono B1.out.size))
  have C3 := Lib.hid ((hb.block _ (by have := hb.size; have := (Array.getElem?_eq_some_iff.1 C2.out).1; omega)).trans C2.out)
  clear hb B1 C2
  obtain ⟨c20, c21, c22⟩ := cells2a C3.out
  rcases HK.out with rfl | rfl
  · go_wp2_with fail
    refine bodyPost_ret (results_ctt rfl rfl (load_gen ?_ ?_)) rfl ⟨rfl, ((bel2 B2.out B2.out.size _ _).setCell (by simp) _).setCell (by simp) _⟩
    · go_simp
    · go_simp
  · go_wp2_with fail
    refine bodyPost_ret (results_ctt rfl rfl (load_gen ?_ ?_)) rfl ⟨rfl, ((bel2 B2.out B2.out.size _ _).setCell (by simp) _).setCell (by simp) _⟩
    · go_simp
    · go_simp

set_option maxRecDepth 100000 in
set_option maxHeartbeats 1000000 in
theorem ropen_other (d a i D A I e c : Int) (s : ByteArray) (w : World) (hv : validB D A I = true) (hL : RLabelOk s d a i e c) (hne : ¬ (d = D ∧ a = A ∧ i = I)) :
    Calls Try.prog 32 #[.agg #[.int .i64 D, .int .i64 A, .int .i64 I], .string s] w fun x w' => x = .returned (.tuple #[.agg #[.int .i64 0, .int .i64 0], .string ⟨#[]⟩, .int .i64 8]) ∧ Below w.heap.size w w' := by
  have HV := Lib.hid hv
  have HL := Lib.hid hL
  have HE := Lib.hid hne
  clear hv hL hne
  go_enter Try.func32, Try.ntmps32
  go_wp2_with fail
  refine (rvalid_any D A I _).mono ?_
  rintro x w1 ⟨rfl, hb⟩
  rw [HV.out]
  have B1 : Hid (Below w.heap.size w w1) := Lib.hid (((Below.refl _ w).alloc (Nat.le_refl _) _).alloc (by simp) _ |>.trans (hb.mono (by simp; omega)))
  have C2 : Hid (w1.heap[w.heap.size + 1]? = some (.cells #[.int .i64 0, .int .i64 0] 35 (0, 0))) := Lib.hid (by
    rw [hb.block _ (by simp)]
    exact (two_new _ _ _).2)
  have C1 : Hid (w1.heap[w.heap.size]? = some (.cells #[.int .i64 D, .int .i64 A, .int .i64 I] 41 (0, 0))) := Lib.hid (by
    rw [hb.block _ (by simp; omega)]
    exact (two_new _ _ _).1)
  clear hb
  go_wp2_with fail
  refine (HL.out _).mono ?_
  rintro x w2 ⟨rfl, hb⟩
  have B2 := Lib.hid (B1.out.trans (hb.mono B1.out.size))
  have C3 := Lib.hid ((hb.block _ (by have := hb.size; have := (Array.getElem?_eq_some_iff.1 C2.out).1; omega)).trans C2.out)
  have C4 := Lib.hid ((hb.block _ (by have := hb.size; have := (Array.getElem?_eq_some_iff.1 C1.out).1; omega)).trans C1.out)
  clear hb B1 C2 C1
  obtain ⟨c20, c21, c22⟩ := cells2a C3.out
  obtain ⟨c30, c31, c32⟩ := cells3a C4.out
  go_wp2_with fail
  any_goals
    refine bodyPost_ret (results_ctt rfl rfl (load_gen (by go_simp) (by go_simp))) rfl ⟨rfl, ((bel2 B2.out B2.out.size _ _).setCell (by simp) _).setCell (by simp) _⟩
  exact absurd ⟨by first | rfl | assumption | (symm; assumption), by first | rfl | assumption | (symm; assumption), by first | rfl | assumption | (symm; assumption)⟩ HE.out

set_option maxRecDepth 100000 in
set_option maxHeartbeats 1000000 in
theorem ropen_good (d a i e c : Int) (s : ByteArray) (w : World) (hs : s.size = 64) (hv : validB d a i = true) (hL : RLabelOk s d a i e c) :
    Calls Try.prog 32 #[.agg #[.int .i64 d, .int .i64 a, .int .i64 i], .string s] w fun x w' => x = .returned (.tuple #[.agg #[.int .i64 e, .int .i64 c], .string (s.extract 16 56), .int .i64 0]) ∧ Below w.heap.size w w' := by
  have HV := Lib.hid hv
  have HL := Lib.hid hL
  clear hv hL
  go_enter Try.func32, Try.ntmps32
  go_wp2_with fail
  refine (rvalid_any d a i _).mono ?_
  rintro x w1 ⟨rfl, hb⟩
  rw [HV.out]
  have B1 : Hid (Below w.heap.size w w1) := Lib.hid (((Below.refl _ w).alloc (Nat.le_refl _) _).alloc (by simp) _ |>.trans (hb.mono (by simp; omega)))
  have C2 : Hid (w1.heap[w.heap.size + 1]? = some (.cells #[.int .i64 0, .int .i64 0] 35 (0, 0))) := Lib.hid (by
    rw [hb.block _ (by simp)]
    exact (two_new _ _ _).2)
  have C1 : Hid (w1.heap[w.heap.size]? = some (.cells #[.int .i64 d, .int .i64 a, .int .i64 i] 41 (0, 0))) := Lib.hid (by
    rw [hb.block _ (by simp; omega)]
    exact (two_new _ _ _).1)
  clear hb
  go_wp2_with fail
  refine (HL.out _).mono ?_
  rintro x w2 ⟨rfl, hb⟩
  have B2 := Lib.hid (B1.out.trans (hb.mono B1.out.size))
  have C3 := Lib.hid ((hb.block _ (by have := hb.size; have := (Array.getElem?_eq_some_iff.1 C2.out).1; omega)).trans C2.out)
  have C4 := Lib.hid ((hb.block _ (by have := hb.size; have := (Array.getElem?_eq_some_iff.1 C1.out).1; omega)).trans C1.out)
  clear hb B1 C2 C1
  obtain ⟨c30, c31, c32⟩ := cells3a C4.out
  go_wp2_with fail
  have F1 := Lib.hid (two_new w2 (Obj.cells #[Value.int IntKind.i64 d, Value.int IntKind.i64 a, Value.int IntKind.i64 i] 41) (Obj.cells #[Value.int IntKind.i64 e, Value.int IntKind.i64 c] 35)).2
  have F2 := Lib.hid (heap_two C3.out (Obj.cells #[Value.int IntKind.i64 d, Value.int IntKind.i64 a, Value.int IntKind.i64 i] 41) (Obj.cells #[Value.int IntKind.i64 e, Value.int IntKind.i64 c] 35))
  have B3 := Lib.hid (bel2 B2.out B2.out.size (Obj.cells #[Value.int IntKind.i64 d, Value.int IntKind.i64 a, Value.int IntKind.i64 i] 41) (Obj.cells #[Value.int IntKind.i64 e, Value.int IntKind.i64 c] 35))
  generalize ((w2.alloc (Obj.cells #[Value.int IntKind.i64 d, Value.int IntKind.i64 a, Value.int IntKind.i64 i] 41)).alloc (Obj.cells #[Value.int IntKind.i64 e, Value.int IntKind.i64 c] 35)) = w3 at *
  clear C3 C4 B2 c30 c31 c32
  obtain ⟨c20, c21, _⟩ := cells2 F1.out
  have hne : Hid (w.heap.size + 1 < w3.heap.size) := Lib.hid (Array.getElem?_eq_some_iff.1 F2.out).1
  have hne2 : Hid (w2.heap.size + 1 < w3.heap.size) := Lib.hid (Array.getElem?_eq_some_iff.1 F1.out).1
  apply wp_onceW (fun x => x.cell? ⟨w.heap.size + 1, 0, none⟩ = some (.int .i64 e) ∧ x.cell? ⟨w.heap.size + 1, 1, none⟩ = some (.int .i64 c) ∧ Below w.heap.size w x)
  · have q2 := cells2 F2.out
    obtain ⟨q20, q21, q22⟩ := q2
    first
    | go_region_with fail
    | fail
    all_goals
      refine ⟨rfl, ?_, ?_, (Below.setCell (Below.setCell B3.out.drew (by simp) _) (by simp) _)⟩
    all_goals go_simp
  intro W hW
  obtain ⟨h0, h1, hB⟩ := hW
  go_wp2_with fail
  exact bodyPost_ret (results_ctt rfl rfl (load_gen h0 h1)) rfl ⟨rfl, hB⟩
end Go.Proofs.Ytiakaloabeendaa
