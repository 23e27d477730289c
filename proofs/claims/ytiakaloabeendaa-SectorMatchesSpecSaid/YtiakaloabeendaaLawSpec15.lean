/- The walk of solventlaw15.SectorMatchesSpec. -/
import Derived.Test.YtiakaloabeendaaRLabelF
import Derived.Deep.RegionHeld3
set_option linter.unusedSimpArgs false
set_option linter.unusedVariables false
namespace Go.Proofs.Ytiakaloabeendaa
open Go.RowKit

/-- What the law keeps in memory: the arguments' boxes, and what came of the calls. -/
def Kp3 (w x : World) (a b c : Array Value) : Prop := x.heap[w.heap.size]? = some (.cells a 41 (0, 0)) ∧ x.heap[w.heap.size + 1]? = some (.cells b 35 (0, 0)) ∧
  x.heap[w.heap.size + 1 + 1]? = some (.cells c 35 (0, 0)) ∧ Below w.heap.size w x
theorem Kp3.step {w x y : World} {a b c : Array Value} (h : Kp3 w x a b c) (hb : Below x.heap.size x y) : Kp3 w y a b c :=
  ⟨kept_of hb h.1, kept_of hb h.2.1, kept_of hb h.2.2.1, h.2.2.2.trans (hb.mono h.2.2.2.size)⟩
theorem kp3_new (w : World) (a b c : Array Value) : Kp3 w (((w.alloc (.cells a 41)).alloc (.cells b 35)).alloc (.cells c 35)) a b c := by
  have h1 := (two_new w (.cells a 41) (.cells b 35))
  have h2 := (two_new (w.alloc (.cells a 41)) (.cells b 35) (.cells c 35))
  rw [World.size_alloc] at h2
  refine ⟨?_, h2.1, h2.2, bel2 ((Below.refl _ w).alloc (Nat.le_refl _) _) (by simp) _ _⟩
  rw [Below.heap_alloc _ _ _ (by simp; omega)]
  exact h1.1

def Al9 (w : World) (b1 b2 b3 b4 : Nat) (A B C P G O : Array Value) (x : World) : Prop := x.heap[w.heap.size]? = some (.cells A 41 (0, 0)) ∧ x.heap[w.heap.size + 1]? = some (.cells B 35 (0, 0)) ∧
  x.heap[w.heap.size + 1 + 1]? = some (.cells C 35 (0, 0)) ∧ x.heap[b1]? = some (.cells P 41 (0, 0)) ∧ x.heap[b1 + 1]? = some (.cells G 35 (0, 0)) ∧
  x.heap[b2]? = some (.cells P 41 (0, 0)) ∧ x.heap[b2 + 1]? = some (.cells G 35 (0, 0)) ∧ x.heap[b3]? = some (.cells O 35 (0, 0)) ∧ x.heap[b4]? = some (.cells O 35 (0, 0)) ∧ Below w.heap.size w x
theorem Al9.step {w x y : World} {b1 b2 b3 b4 : Nat} {A B C P G O : Array Value} (h : Al9 w b1 b2 b3 b4 A B C P G O x) (hb : Below x.heap.size x y) : Al9 w b1 b2 b3 b4 A B C P G O y :=
  ⟨kept_of hb h.1, kept_of hb h.2.1, kept_of hb h.2.2.1, kept_of hb h.2.2.2.1, kept_of hb h.2.2.2.2.1, kept_of hb h.2.2.2.2.2.1, kept_of hb h.2.2.2.2.2.2.1, kept_of hb h.2.2.2.2.2.2.2.1, kept_of hb h.2.2.2.2.2.2.2.2.1, h.2.2.2.2.2.2.2.2.2.trans (hb.mono h.2.2.2.2.2.2.2.2.2.size)⟩
theorem Al9.drew {w x : World} {b1 b2 b3 b4 : Nat} {A B C P G O : Array Value} (h : Al9 w b1 b2 b3 b4 A B C P G O x) : Al9 w b1 b2 b3 b4 A B C P G O x.drew := h.step (Below.refl _ x).drew

set_option maxRecDepth 100000 in
set_option maxHeartbeats 4000000 in
theorem sectorSpec_bad (d a i e c e2 c2 : Int) (p s : ByteArray) (w : World) (h : 200 < (p.size : Int) ∨ 200 < (s.size : Int)) :
    Calls Try.prog 12 #[.agg #[.int .i64 d, .int .i64 a, .int .i64 i], .agg #[.int .i64 e, .int .i64 c], .agg #[.int .i64 e2, .int .i64 c2], .string p, .string s] w fun x w' => x = .returned (.bool true) ∧ Below w.heap.size w w' := by
  have HS := Lib.hid sane15
  by_cases h1 : 200 < (p.size : Int)
  · clear h
    go_enter Try.func12, Try.ntmps12
    go_wp2_with fail
    refine (HS.out _).mono ?_
    rintro x w1 ⟨rfl, hb⟩
    have T1 := Lib.hid ((kp3_new w _ _ _).step hb)
    clear hb
    go_wp2_with fail
    go_ret
    exact ⟨rfl, T1.out.2.2.2⟩
  · have h2 : 200 < (s.size : Int) := h.resolve_left h1
    clear h
    go_enter Try.func12, Try.ntmps12
    go_wp2_with fail
    refine (HS.out _).mono ?_
    rintro x w1 ⟨rfl, hb⟩
    have T1 := Lib.hid ((kp3_new w _ _ _).step hb)
    clear hb
    go_wp2_with fail
    go_ret
    exact ⟨rfl, T1.out.2.2.2⟩

set_option maxRecDepth 100000 in
set_option maxHeartbeats 40000000 in
theorem sectorSpec_good (d a i e c e2 c2 : Int) (p s : ByteArray) (w : World) (h1 : ¬ 200 < (p.size : Int)) (h2 : ¬ 200 < (s.size : Int)) :
    Calls Try.prog 12 #[.agg #[.int .i64 d, .int .i64 a, .int .i64 i], .agg #[.int .i64 e, .int .i64 c], .agg #[.int .i64 e2, .int .i64 c2], .string p, .string s] w fun x w' => x = .returned (.bool true) ∧ Below w.heap.size w w' := by
  have HS := Lib.hid sane15
  obtain ⟨X, n, hX⟩ := sealV_form d a i e c p
  have SV := Lib.hid hX
  obtain ⟨E, C, Q, h, hO⟩ := openV_form d a i s
  have OV := Lib.hid hO
  obtain ⟨D1, A1, I1, E1, C1, k1, L1, L2⟩ := label_both s
  have LA := Lib.hid L1
  have LB := Lib.hid L2
  clear hX hO L1 L2
  go_enter Try.func12, Try.ntmps12
  go_wp2_with fail
  refine (seal_any d a i e c p _).mono ?_
  rintro x w1 ⟨rfl, hb⟩
  rw [SV.out]
  have T1 := Lib.hid ((kp3_new w _ _ _).step hb)
  clear hb h1 h2
  obtain ⟨p0, p1, p2, -⟩ := cells3 T1.out.1
  obtain ⟨q0, q1, -⟩ := cells2 T1.out.2.1
  go_wp2_with fail
  refine (rseal_any d a i e c p _).mono ?_
  rintro x w2 ⟨rfl, hb⟩
  rw [SV.out]
  have T2 := Lib.hid (T1.out.step hb)
  clear hb T1 p0 p1 p2 q0 q1
  go_wp2_with fail
  refine (LA.out _).mono ?_
  rintro x w3 ⟨rfl, hb⟩
  have T3 := Lib.hid (T2.out.step hb)
  clear hb T2
  go_wp2_with fail
  refine (LB.out _).mono ?_
  rintro x w4 ⟨rfl, hb⟩
  have T4 := Lib.hid ((T3.out.step (bel2 (Below.refl _ w3) (Nat.le_refl _) _ _)).step hb)
  have F1 := Lib.hid (kept_of hb (two_new w3 _ _).1)
  have F2 := Lib.hid (kept_of hb (two_new w3 _ _).2)
  clear hb T3
  generalize w3.heap.size = b1 at *
  obtain ⟨p0, p1, p2⟩ := cells3a T4.out.1
  go_wp2_with fail
  refine (open_any d a i s _).mono ?_
  rintro x w5 ⟨rfl, hb⟩
  rw [OV.out]
  have T5 := Lib.hid ((T4.out.step (bel2 (Below.refl _ w4) (Nat.le_refl _) _ _)).step hb)
  have G1 := Lib.hid (kept_of hb (heap_two F1.out _ _))
  have G2 := Lib.hid (kept_of hb (heap_two F2.out _ _))
  have G3 := Lib.hid (kept_of hb (two_new w4 _ _).1)
  have G4 := Lib.hid (kept_of hb (two_new w4 _ _).2)
  clear hb T4 F1 F2 p0 p1 p2
  generalize w4.heap.size = b2 at *
  have r0 : ∀ o, (w5.alloc o).cell? ⟨w.heap.size, 0, none⟩ = some (.int .i64 d) ∧ (w5.alloc o).cell? ⟨w.heap.size, 1, none⟩ = some (.int .i64 a) ∧ (w5.alloc o).cell? ⟨w.heap.size, 2, none⟩ = some (.int .i64 i) := fun o => by
    have h := cells3 (T5.out.step ((Below.refl _ w5).alloc (Nat.le_refl _) o)).1
    exact ⟨h.1, h.2.1, h.2.2.1⟩
  go_wp2_with fail
  refine (ropen_any d a i s _).mono ?_
  rintro x w6 ⟨rfl, hb⟩
  rw [OV.out]
  have T6 := Lib.hid ((T5.out.step ((Below.refl _ w5).alloc (Nat.le_refl _) _)).step hb)
  have H1 := Lib.hid (kept_of hb (kept_of ((Below.refl _ w5).alloc (Nat.le_refl _) _) G1.out))
  have H2 := Lib.hid (kept_of hb (kept_of ((Below.refl _ w5).alloc (Nat.le_refl _) _) G2.out))
  have H3 := Lib.hid (kept_of hb (kept_of ((Below.refl _ w5).alloc (Nat.le_refl _) _) G3.out))
  have H4 := Lib.hid (kept_of hb (kept_of ((Below.refl _ w5).alloc (Nat.le_refl _) _) G4.out))
  have H5 := Lib.hid (kept_of hb (heap_alloc_new w5 _))
  clear hb T5 G1 G2 G3 G4 r0
  generalize w5.heap.size = b3 at *
  go_wp2_with fail
  have A7 := Lib.hid ((T6.out.step ((Below.refl _ w6).alloc (Nat.le_refl _) (Obj.cells #[.int .i64 E, .int .i64 C] 35))))
  have J1 := Lib.hid (kept_of ((Below.refl _ w6).alloc (Nat.le_refl _) (Obj.cells #[.int .i64 E, .int .i64 C] 35)) H1.out)
  have J2 := Lib.hid (kept_of ((Below.refl _ w6).alloc (Nat.le_refl _) (Obj.cells #[.int .i64 E, .int .i64 C] 35)) H2.out)
  have J3 := Lib.hid (kept_of ((Below.refl _ w6).alloc (Nat.le_refl _) (Obj.cells #[.int .i64 E, .int .i64 C] 35)) H3.out)
  have J4 := Lib.hid (kept_of ((Below.refl _ w6).alloc (Nat.le_refl _) (Obj.cells #[.int .i64 E, .int .i64 C] 35)) H4.out)
  have J5 := Lib.hid (kept_of ((Below.refl _ w6).alloc (Nat.le_refl _) (Obj.cells #[.int .i64 E, .int .i64 C] 35)) H5.out)
  have J6 := Lib.hid (heap_alloc_new w6 (Obj.cells #[.int .i64 E, .int .i64 C] 35))
  generalize (w6.alloc (Obj.cells #[.int .i64 E, .int .i64 C] 35)) = w7 at *
  generalize w6.heap.size = b4 at *
  clear T6 H1 H2 H3 H4 H5 SV OV LA LB
  have S7 : Hid (Al9 w b1 b2 b3 b4 #[.int .i64 d, .int .i64 a, .int .i64 i] #[.int .i64 e, .int .i64 c] #[.int .i64 e2, .int .i64 c2] #[.int .i64 D1, .int .i64 A1, .int .i64 I1] #[.int .i64 E1, .int .i64 C1] #[.int .i64 E, .int .i64 C] w7) := Lib.hid ⟨A7.out.1, A7.out.2.1, A7.out.2.2.1, J1.out, J2.out, J3.out, J4.out, J5.out, J6.out, A7.out.2.2.2⟩
  clear A7 J1 J2 J3 J4 J5 J6
  apply wp_onceW (fun x => Below w.heap.size w x)
  · refine wp_region_held_drew (S := Al9 w b1 b2 b3 b4 #[.int .i64 d, .int .i64 a, .int .i64 i] #[.int .i64 e, .int .i64 c] #[.int .i64 e2, .int .i64 c2] #[.int .i64 D1, .int .i64 A1, .int .i64 I1] #[.int .i64 E1, .int .i64 C1] #[.int .i64 E, .int .i64 C]) (by kernel_rfl) S7.out.drew (fun hHeld => ?_)
    refine wpAnyH_norm (f := 58) (L := #[false, false, false, false, false, false, false, false, false, false, false, false, false, false, false, false, false, false, false, false, false, false, false, false, false, false, false, false, false, false, false, false, false, false, false, false, false, false, false, false, false, false, false, false, false, false, false, false, false, false, false, false, false, false, false, false, false, false]) (by kernel_rfl) (by kernel_rfl) ?_
    refine wpAnyH_ready (rs := [0]) (by kernel_rfl) (by simp) ?_
    refine AllReadyH.cons rfl (fun K hK => ?_) AllReadyH.nil
    simp only [List.getElem_toArray, List.getElem_cons_zero, List.getElem_cons_succ]
    go_simp
    refine (HS.out _).mono ?_
    rintro x x1 ⟨rfl, hb⟩
    simp only []
    refine hK.out _ _ (hHeld.step hb) (fun hHeld1 => ?_)
    clear hK K hb hHeld
    (try simp only [List.getElem_toArray, List.getElem_cons_zero, List.getElem_cons_succ, Act.put, List.setIfInBounds_toArray, List.set_cons_zero, List.set_cons_succ])
    refine wpAnyH_take (i := 1) (v := ?zv1) rfl (by kernel_rfl) (by kernel_rfl) (by kernel_rfl) (fun _ _ _ h => h) (Or.inl ⟨by rfl, ?zy1⟩) hHeld1 ?zr1
    case zy1 => (intro W hW; clear hW; first | (go_simp; done) | (go_simp; with_reducible rfl))
    (try simp only [List.getElem_toArray, List.getElem_cons_zero, List.getElem_cons_succ, Act.put, List.setIfInBounds_toArray, List.set_cons_zero, List.set_cons_succ])
    refine wpAnyH_take (i := 2) (v := ?zv2) rfl (by kernel_rfl) (by kernel_rfl) (by kernel_rfl) (fun _ _ _ h => h) (Or.inl ⟨by rfl, ?zy2⟩) hHeld1 ?zr2
    case zy2 => (intro W hW; clear hW; first | (go_simp; done) | (go_simp; with_reducible rfl))
    (try simp only [List.getElem_toArray, List.getElem_cons_zero, List.getElem_cons_succ, Act.put, List.setIfInBounds_toArray, List.set_cons_zero, List.set_cons_succ])
    refine wpAnyH_take (i := 3) (v := ?zv3) rfl (by kernel_rfl) (by kernel_rfl) (by kernel_rfl) (fun _ _ _ h => h) (Or.inl ⟨by rfl, ?zy3⟩) hHeld1 ?zr3
    case zy3 => (intro W hW; clear hW; first | (go_simp; done) | (go_simp; with_reducible rfl))
    (try simp only [List.getElem_toArray, List.getElem_cons_zero, List.getElem_cons_succ, Act.put, List.setIfInBounds_toArray, List.set_cons_zero, List.set_cons_succ])
    refine wpAnyH_take (i := 4) (v := ?zv4) rfl (by kernel_rfl) (by kernel_rfl) (by kernel_rfl) (fun _ _ _ h => h) (Or.inl ⟨by rfl, ?zy4⟩) hHeld1 ?zr4
    case zy4 => (intro W hW; clear hW; first | (go_simp; done) | (go_simp; with_reducible rfl))
    (try simp only [List.getElem_toArray, List.getElem_cons_zero, List.getElem_cons_succ, Act.put, List.setIfInBounds_toArray, List.set_cons_zero, List.set_cons_succ])
    refine wpAnyH_take (i := 5) (v := ?zv5) rfl (by kernel_rfl) (by kernel_rfl) (by kernel_rfl) (fun _ _ _ h => h) (Or.inl ⟨by rfl, ?zy5⟩) hHeld1 ?zr5
    case zy5 => (intro W hW; clear hW; first | (go_simp; done) | (go_simp; with_reducible rfl))
    (try simp only [List.getElem_toArray, List.getElem_cons_zero, List.getElem_cons_succ, Act.put, List.setIfInBounds_toArray, List.set_cons_zero, List.set_cons_succ])
    refine wpAnyH_take (i := 6) (v := ?zv6) rfl (by kernel_rfl) (by kernel_rfl) (by kernel_rfl) (fun _ _ _ h => h) (Or.inl ⟨by rfl, ?zy6⟩) hHeld1 ?zr6
    case zy6 => (intro W hW; clear hW; first | (go_simp; done) | (go_simp; with_reducible rfl))
    (try simp only [List.getElem_toArray, List.getElem_cons_zero, List.getElem_cons_succ, Act.put, List.setIfInBounds_toArray, List.set_cons_zero, List.set_cons_succ])
    refine wpAnyH_take (i := 7) (v := ?zv7) rfl (by kernel_rfl) (by kernel_rfl) (by kernel_rfl) (fun _ _ _ h => h) (Or.inl ⟨by rfl, ?zy7⟩) hHeld1 ?zr7
    case zy7 => (intro W hW; clear hW; first | (go_simp; done) | (go_simp; with_reducible rfl))
    (try simp only [List.getElem_toArray, List.getElem_cons_zero, List.getElem_cons_succ, Act.put, List.setIfInBounds_toArray, List.set_cons_zero, List.set_cons_succ])
    refine wpAnyH_take (i := 8) (v := ?zv8) rfl (by kernel_rfl) (by kernel_rfl) (by kernel_rfl) (fun _ _ _ h => h) (Or.inl ⟨by rfl, ?zy8⟩) hHeld1 ?zr8
    case zy8 => (intro W hW; clear hW; first | (go_simp; done) | (go_simp; with_reducible rfl))
    (try simp only [List.getElem_toArray, List.getElem_cons_zero, List.getElem_cons_succ, Act.put, List.setIfInBounds_toArray, List.set_cons_zero, List.set_cons_succ])
    refine wpAnyH_take (i := 9) (v := ?zv9) rfl (by kernel_rfl) (by kernel_rfl) (by kernel_rfl) (fun _ _ _ h => h) (Or.inl ⟨by rfl, ?zy9⟩) hHeld1 ?zr9
    case zy9 => (intro W hW; clear hW; first | (go_simp; done) | (go_simp; with_reducible rfl))
    (try simp only [List.getElem_toArray, List.getElem_cons_zero, List.getElem_cons_succ, Act.put, List.setIfInBounds_toArray, List.set_cons_zero, List.set_cons_succ])
    refine wpAnyH_take (i := 10) (v := ?zv10) rfl (by kernel_rfl) (by kernel_rfl) (by kernel_rfl) (fun _ _ _ h => h) (Or.inl ⟨by rfl, ?zy10⟩) hHeld1 ?zr10
    case zy10 => (intro W hW; clear hW; first | (go_simp; done) | (go_simp; with_reducible rfl))
    (try simp only [List.getElem_toArray, List.getElem_cons_zero, List.getElem_cons_succ, Act.put, List.setIfInBounds_toArray, List.set_cons_zero, List.set_cons_succ])
    refine wpAnyH_take (i := 11) (v := ?zv11) rfl (by kernel_rfl) (by kernel_rfl) (by kernel_rfl) (fun _ _ _ h => h) (Or.inl ⟨by rfl, ?zy11⟩) hHeld1 ?zr11
    case zy11 => (intro W hW; clear hW; first | (go_simp; done) | (go_simp; with_reducible rfl))
    (try simp only [List.getElem_toArray, List.getElem_cons_zero, List.getElem_cons_succ, Act.put, List.setIfInBounds_toArray, List.set_cons_zero, List.set_cons_succ])
    refine wpAnyH_take (i := 12) (v := ?zv12) rfl (by kernel_rfl) (by kernel_rfl) (by kernel_rfl) (fun _ _ _ h => h) (Or.inl ⟨by rfl, ?zy12⟩) hHeld1 ?zr12
    case zy12 => (intro W hW; obtain ⟨g0, g1, g2, -⟩ := cells3 (hW.2.2.2.1); clear hW; first | (go_simp; done) | (go_simp; with_reducible rfl))
    (try simp only [List.getElem_toArray, List.getElem_cons_zero, List.getElem_cons_succ, Act.put, List.setIfInBounds_toArray, List.set_cons_zero, List.set_cons_succ])
    refine wpAnyH_take (i := 13) (v := ?zv13) rfl (by kernel_rfl) (by kernel_rfl) (by kernel_rfl) (fun _ _ _ h => h) (Or.inl ⟨by rfl, ?zy13⟩) hHeld1 ?zr13
    case zy13 => (intro W hW; obtain ⟨g0, g1, g2, -⟩ := cells3 (hW.2.2.2.2.2.1); clear hW; first | (go_simp; done) | (go_simp; with_reducible rfl))
    (try simp only [List.getElem_toArray, List.getElem_cons_zero, List.getElem_cons_succ, Act.put, List.setIfInBounds_toArray, List.set_cons_zero, List.set_cons_succ])
    refine wpAnyH_take (i := 14) (v := ?zv14) rfl (by kernel_rfl) (by kernel_rfl) (by kernel_rfl) (fun _ _ _ h => h) (Or.inl ⟨by rfl, ?zy14⟩) hHeld1 ?zr14
    case zy14 => (intro W hW; clear hW; first | (go_simp; done) | (go_simp; with_reducible rfl))
    (try simp only [List.getElem_toArray, List.getElem_cons_zero, List.getElem_cons_succ, Act.put, List.setIfInBounds_toArray, List.set_cons_zero, List.set_cons_succ])
    refine wpAnyH_take (i := 15) (v := ?zv15) rfl (by kernel_rfl) (by kernel_rfl) (by kernel_rfl) (fun _ _ _ h => h) (Or.inl ⟨by rfl, ?zy15⟩) hHeld1 ?zr15
    case zy15 => (intro W hW; clear hW; first | (go_simp; done) | (go_simp; with_reducible rfl))
    (try simp only [List.getElem_toArray, List.getElem_cons_zero, List.getElem_cons_succ, Act.put, List.setIfInBounds_toArray, List.set_cons_zero, List.set_cons_succ])
    refine wpAnyH_take (i := 16) (v := ?zv16) rfl (by kernel_rfl) (by kernel_rfl) (by kernel_rfl) (fun _ _ _ h => h) (Or.inl ⟨by rfl, ?zy16⟩) hHeld1 ?zr16
    case zy16 => (intro W hW; clear hW; first | (go_simp; done) | (go_simp; with_reducible rfl))
    (try simp only [List.getElem_toArray, List.getElem_cons_zero, List.getElem_cons_succ, Act.put, List.setIfInBounds_toArray, List.set_cons_zero, List.set_cons_succ])
    refine wpAnyH_take (i := 17) (v := ?zv17) rfl (by kernel_rfl) (by kernel_rfl) (by kernel_rfl) (fun _ _ _ h => h) (Or.inl ⟨by rfl, ?zy17⟩) hHeld1 ?zr17
    case zy17 => (intro W hW; obtain ⟨g0, g1, -⟩ := cells2 (hW.2.2.2.2.1); clear hW; first | (go_simp; done) | (go_simp; with_reducible rfl))
    (try simp only [List.getElem_toArray, List.getElem_cons_zero, List.getElem_cons_succ, Act.put, List.setIfInBounds_toArray, List.set_cons_zero, List.set_cons_succ])
    refine wpAnyH_take (i := 18) (v := ?zv18) rfl (by kernel_rfl) (by kernel_rfl) (by kernel_rfl) (fun _ _ _ h => h) (Or.inl ⟨by rfl, ?zy18⟩) hHeld1 ?zr18
    case zy18 => (intro W hW; obtain ⟨g0, g1, -⟩ := cells2 (hW.2.2.2.2.2.2.1); clear hW; first | (go_simp; done) | (go_simp; with_reducible rfl))
    (try simp only [List.getElem_toArray, List.getElem_cons_zero, List.getElem_cons_succ, Act.put, List.setIfInBounds_toArray, List.set_cons_zero, List.set_cons_succ])
    refine wpAnyH_take (i := 19) (v := ?zv19) rfl (by kernel_rfl) (by kernel_rfl) (by kernel_rfl) (fun _ _ _ h => h) (Or.inl ⟨by rfl, ?zy19⟩) hHeld1 ?zr19
    case zy19 => (intro W hW; clear hW; first | (go_simp; done) | (go_simp; with_reducible rfl))
    (try simp only [List.getElem_toArray, List.getElem_cons_zero, List.getElem_cons_succ, Act.put, List.setIfInBounds_toArray, List.set_cons_zero, List.set_cons_succ])
    refine wpAnyH_take (i := 20) (v := ?zv20) rfl (by kernel_rfl) (by kernel_rfl) (by kernel_rfl) (fun _ _ _ h => h) (Or.inl ⟨by rfl, ?zy20⟩) hHeld1 ?zr20
    case zy20 => (intro W hW; clear hW; first | (go_simp; done) | (go_simp; with_reducible rfl))
    (try simp only [List.getElem_toArray, List.getElem_cons_zero, List.getElem_cons_succ, Act.put, List.setIfInBounds_toArray, List.set_cons_zero, List.set_cons_succ])
    refine wpAnyH_take (i := 21) (v := ?zv21) rfl (by kernel_rfl) (by kernel_rfl) (by kernel_rfl) (fun _ _ _ h => h) (Or.inl ⟨by rfl, ?zy21⟩) hHeld1 ?zr21
    case zy21 => (intro W hW; clear hW; first | (go_simp; done) | (go_simp; with_reducible rfl))
    (try simp only [List.getElem_toArray, List.getElem_cons_zero, List.getElem_cons_succ, Act.put, List.setIfInBounds_toArray, List.set_cons_zero, List.set_cons_succ])
    refine wpAnyH_take (i := 22) (v := ?zv22) rfl (by kernel_rfl) (by kernel_rfl) (by kernel_rfl) (fun _ _ _ h => h) (Or.inl ⟨by rfl, ?zy22⟩) hHeld1 ?zr22
    case zy22 => (intro W hW; clear hW; first | (go_simp; done) | (go_simp; with_reducible rfl))
    (try simp only [List.getElem_toArray, List.getElem_cons_zero, List.getElem_cons_succ, Act.put, List.setIfInBounds_toArray, List.set_cons_zero, List.set_cons_succ])
    refine wpAnyH_take (i := 23) (v := ?zv23) rfl (by kernel_rfl) (by kernel_rfl) (by kernel_rfl) (fun _ _ _ h => h) (Or.inl ⟨by rfl, ?zy23⟩) hHeld1 ?zr23
    case zy23 => (intro W hW; clear hW; first | (go_simp; done) | (go_simp; with_reducible rfl))
    (try simp only [List.getElem_toArray, List.getElem_cons_zero, List.getElem_cons_succ, Act.put, List.setIfInBounds_toArray, List.set_cons_zero, List.set_cons_succ])
    refine wpAnyH_take (i := 24) (v := ?zv24) rfl (by kernel_rfl) (by kernel_rfl) (by kernel_rfl) (fun _ _ _ h => h) (Or.inl ⟨by rfl, ?zy24⟩) hHeld1 ?zr24
    case zy24 => (intro W hW; clear hW; first | (go_simp; done) | (go_simp; with_reducible rfl))
    (try simp only [List.getElem_toArray, List.getElem_cons_zero, List.getElem_cons_succ, Act.put, List.setIfInBounds_toArray, List.set_cons_zero, List.set_cons_succ])
    refine wpAnyH_take (i := 25) (v := ?zv25) rfl (by kernel_rfl) (by kernel_rfl) (by kernel_rfl) (fun _ _ _ h => h) (Or.inl ⟨by rfl, ?zy25⟩) hHeld1 ?zr25
    case zy25 => (intro W hW; clear hW; first | (go_simp; done) | (go_simp; with_reducible rfl))
    (try simp only [List.getElem_toArray, List.getElem_cons_zero, List.getElem_cons_succ, Act.put, List.setIfInBounds_toArray, List.set_cons_zero, List.set_cons_succ])
    refine wpAnyH_take (i := 26) (v := ?zv26) rfl (by kernel_rfl) (by kernel_rfl) (by kernel_rfl) (fun _ _ _ h => h) (Or.inl ⟨by rfl, ?zy26⟩) hHeld1 ?zr26
    case zy26 => (intro W hW; clear hW; first | (go_simp; done) | (go_simp; with_reducible rfl))
    (try simp only [List.getElem_toArray, List.getElem_cons_zero, List.getElem_cons_succ, Act.put, List.setIfInBounds_toArray, List.set_cons_zero, List.set_cons_succ])
    refine wpAnyH_take (i := 27) (v := ?zv27) rfl (by kernel_rfl) (by kernel_rfl) (by kernel_rfl) (fun _ _ _ h => h) (Or.inl ⟨by rfl, ?zy27⟩) hHeld1 ?zr27
    case zy27 => (intro W hW; obtain ⟨g0, g1, -⟩ := cells2 (hW.2.2.2.2.2.2.2.1); clear hW; first | (go_simp; done) | (go_simp; with_reducible rfl))
    (try simp only [List.getElem_toArray, List.getElem_cons_zero, List.getElem_cons_succ, Act.put, List.setIfInBounds_toArray, List.set_cons_zero, List.set_cons_succ])
    refine wpAnyH_take (i := 28) (v := ?zv28) rfl (by kernel_rfl) (by kernel_rfl) (by kernel_rfl) (fun _ _ _ h => h) (Or.inl ⟨by rfl, ?zy28⟩) hHeld1 ?zr28
    case zy28 => (intro W hW; obtain ⟨g0, g1, -⟩ := cells2 (hW.2.2.2.2.2.2.2.2.1); clear hW; first | (go_simp; done) | (go_simp; with_reducible rfl))
    (try simp only [List.getElem_toArray, List.getElem_cons_zero, List.getElem_cons_succ, Act.put, List.setIfInBounds_toArray, List.set_cons_zero, List.set_cons_succ])
    refine wpAnyH_take (i := 29) (v := ?zv29) rfl (by kernel_rfl) (by kernel_rfl) (by kernel_rfl) (fun _ _ _ h => h) (Or.inl ⟨by rfl, ?zy29⟩) hHeld1 ?zr29
    case zy29 => (intro W hW; clear hW; first | (go_simp; done) | (go_simp; with_reducible rfl))
    (try simp only [List.getElem_toArray, List.getElem_cons_zero, List.getElem_cons_succ, Act.put, List.setIfInBounds_toArray, List.set_cons_zero, List.set_cons_succ])
    refine wpAnyH_take (i := 30) (v := ?zv30) rfl (by kernel_rfl) (by kernel_rfl) (by kernel_rfl) (fun _ _ _ h => h) (Or.inl ⟨by rfl, ?zy30⟩) hHeld1 ?zr30
    case zy30 => (intro W hW; clear hW; first | (go_simp; done) | (go_simp; with_reducible rfl))
    (try simp only [List.getElem_toArray, List.getElem_cons_zero, List.getElem_cons_succ, Act.put, List.setIfInBounds_toArray, List.set_cons_zero, List.set_cons_succ])
    refine wpAnyH_take (i := 31) (v := ?zv31) rfl (by kernel_rfl) (by kernel_rfl) (by kernel_rfl) (fun _ _ _ h => h) (Or.inl ⟨by rfl, ?zy31⟩) hHeld1 ?zr31
    case zy31 => (intro W hW; clear hW; first | (go_simp; done) | (go_simp; with_reducible rfl))
    (try simp only [List.getElem_toArray, List.getElem_cons_zero, List.getElem_cons_succ, Act.put, List.setIfInBounds_toArray, List.set_cons_zero, List.set_cons_succ])
    refine wpAnyH_take (i := 32) (v := ?zv32) rfl (by kernel_rfl) (by kernel_rfl) (by kernel_rfl) (fun _ _ _ h => h) (Or.inl ⟨by rfl, ?zy32⟩) hHeld1 ?zr32
    case zy32 => (intro W hW; clear hW; first | (go_simp; done) | (go_simp; with_reducible rfl))
    (try simp only [List.getElem_toArray, List.getElem_cons_zero, List.getElem_cons_succ, Act.put, List.setIfInBounds_toArray, List.set_cons_zero, List.set_cons_succ])
    refine wpAnyH_take (i := 33) (v := ?zv33) rfl (by kernel_rfl) (by kernel_rfl) (by kernel_rfl) (fun _ _ _ h => h) (Or.inl ⟨by rfl, ?zy33⟩) hHeld1 ?zr33
    case zy33 => (intro W hW; clear hW; first | (go_simp; done) | (go_simp; with_reducible rfl))
    (try simp only [List.getElem_toArray, List.getElem_cons_zero, List.getElem_cons_succ, Act.put, List.setIfInBounds_toArray, List.set_cons_zero, List.set_cons_succ])
    refine wpAnyH_take (i := 34) (v := ?zv34) rfl (by kernel_rfl) (by kernel_rfl) (by kernel_rfl) (fun _ _ _ h => h) (Or.inl ⟨by rfl, ?zy34⟩) hHeld1 ?zr34
    case zy34 => (intro W hW; clear hW; first | (go_simp; done) | (go_simp; with_reducible rfl))
    (try simp only [List.getElem_toArray, List.getElem_cons_zero, List.getElem_cons_succ, Act.put, List.setIfInBounds_toArray, List.set_cons_zero, List.set_cons_succ])
    refine wpAnyH_take (i := 35) (v := ?zv35) rfl (by kernel_rfl) (by kernel_rfl) (by kernel_rfl) (fun _ _ _ h => h) (Or.inl ⟨by rfl, ?zy35⟩) hHeld1 ?zr35
    case zy35 => (intro W hW; clear hW; first | (go_simp; done) | (go_simp; with_reducible rfl))
    (try simp only [List.getElem_toArray, List.getElem_cons_zero, List.getElem_cons_succ, Act.put, List.setIfInBounds_toArray, List.set_cons_zero, List.set_cons_succ])
    refine wpAnyH_take (i := 36) (v := ?zv36) rfl (by kernel_rfl) (by kernel_rfl) (by kernel_rfl) (fun _ _ _ h => h) (Or.inl ⟨by rfl, ?zy36⟩) hHeld1 ?zr36
    case zy36 => (intro W hW; clear hW; first | (go_simp; done) | (go_simp; with_reducible rfl))
    (try simp only [List.getElem_toArray, List.getElem_cons_zero, List.getElem_cons_succ, Act.put, List.setIfInBounds_toArray, List.set_cons_zero, List.set_cons_succ])
    refine wpAnyH_take (i := 37) (v := ?zv37) rfl (by kernel_rfl) (by kernel_rfl) (by kernel_rfl) (fun _ _ _ h => h) (Or.inl ⟨by rfl, ?zy37⟩) hHeld1 ?zr37
    case zy37 => (intro W hW; clear hW; first | (go_simp; done) | (go_simp; with_reducible rfl))
    (try simp only [List.getElem_toArray, List.getElem_cons_zero, List.getElem_cons_succ, Act.put, List.setIfInBounds_toArray, List.set_cons_zero, List.set_cons_succ])
    refine wpAnyH_take (i := 38) (v := ?zv38) rfl (by kernel_rfl) (by kernel_rfl) (by kernel_rfl) (fun _ _ _ h => h) (Or.inl ⟨by rfl, ?zy38⟩) hHeld1 ?zr38
    case zy38 => (intro W hW; clear hW; first | (go_simp; done) | (go_simp; with_reducible rfl))
    (try simp only [List.getElem_toArray, List.getElem_cons_zero, List.getElem_cons_succ, Act.put, List.setIfInBounds_toArray, List.set_cons_zero, List.set_cons_succ])
    refine wpAnyH_take (i := 39) (v := ?zv39) rfl (by kernel_rfl) (by kernel_rfl) (by kernel_rfl) (fun _ _ _ h => h) (Or.inl ⟨by rfl, ?zy39⟩) hHeld1 ?zr39
    case zy39 => (intro W hW; clear hW; first | (go_simp; done) | (go_simp; with_reducible rfl))
    (try simp only [List.getElem_toArray, List.getElem_cons_zero, List.getElem_cons_succ, Act.put, List.setIfInBounds_toArray, List.set_cons_zero, List.set_cons_succ])
    refine wpAnyH_take (i := 40) (v := ?zv40) rfl (by kernel_rfl) (by kernel_rfl) (by kernel_rfl) (fun _ _ _ h => h) (Or.inl ⟨by rfl, ?zy40⟩) hHeld1 ?zr40
    case zy40 => (intro W hW; clear hW; first | (go_simp; done) | (go_simp; with_reducible rfl))
    (try simp only [List.getElem_toArray, List.getElem_cons_zero, List.getElem_cons_succ, Act.put, List.setIfInBounds_toArray, List.set_cons_zero, List.set_cons_succ])
    refine wpAnyH_take (i := 41) (v := ?zv41) rfl (by kernel_rfl) (by kernel_rfl) (by kernel_rfl) (fun _ _ _ h => h) (Or.inl ⟨by rfl, ?zy41⟩) hHeld1 ?zr41
    case zy41 => (intro W hW; clear hW; first | (go_simp; done) | (go_simp; with_reducible rfl))
    (try simp only [List.getElem_toArray, List.getElem_cons_zero, List.getElem_cons_succ, Act.put, List.setIfInBounds_toArray, List.set_cons_zero, List.set_cons_succ])
    refine wpAnyH_take (i := 42) (v := ?zv42) rfl (by kernel_rfl) (by kernel_rfl) (by kernel_rfl) (fun _ _ _ h => h) (Or.inl ⟨by rfl, ?zy42⟩) hHeld1 ?zr42
    case zy42 => (intro W hW; obtain ⟨g0, g1, g2, -⟩ := cells3 (hW.1); clear hW; first | (go_simp; done) | (go_simp; with_reducible rfl))
    (try simp only [List.getElem_toArray, List.getElem_cons_zero, List.getElem_cons_succ, Act.put, List.setIfInBounds_toArray, List.set_cons_zero, List.set_cons_succ])
    refine wpAnyH_take (i := 44) (v := ?zv44) rfl (by kernel_rfl) (by kernel_rfl) (by kernel_rfl) (fun _ _ _ h => h) (Or.inl ⟨by rfl, ?zy44⟩) hHeld1 ?zr44
    case zy44 => (intro W hW; obtain ⟨g0, g1, g2, -⟩ := cells3 (hW.1); clear hW; first | (go_simp; done) | (go_simp; with_reducible rfl))
    (try simp only [List.getElem_toArray, List.getElem_cons_zero, List.getElem_cons_succ, Act.put, List.setIfInBounds_toArray, List.set_cons_zero, List.set_cons_succ])
    refine wpAnyH_ready (rs := [43]) (by kernel_rfl) (by simp) ?_
    refine AllReadyH.cons rfl (fun K hK => ?_) AllReadyH.nil
    simp only [List.getElem_toArray, List.getElem_cons_zero, List.getElem_cons_succ]
    go_simp
    refine (valid_any d a i _).mono ?_
    rintro x x2 ⟨rfl, hb⟩
    simp only []
    refine hK.out _ _ (hHeld1.step hb) (fun hHeld2 => ?_)
    clear hK K hb hHeld1
    (try simp only [List.getElem_toArray, List.getElem_cons_zero, List.getElem_cons_succ, Act.put, List.setIfInBounds_toArray, List.set_cons_zero, List.set_cons_succ])
    refine wpAnyH_ready (rs := [45]) (by kernel_rfl) (by simp) ?_
    refine AllReadyH.cons rfl (fun K hK => ?_) AllReadyH.nil
    simp only [List.getElem_toArray, List.getElem_cons_zero, List.getElem_cons_succ]
    go_simp
    refine (rvalid_any d a i _).mono ?_
    rintro x x3 ⟨rfl, hb⟩
    simp only []
    refine hK.out _ _ (hHeld2.step hb) (fun hHeld3 => ?_)
    clear hK K hb hHeld2
    (try simp only [List.getElem_toArray, List.getElem_cons_zero, List.getElem_cons_succ, Act.put, List.setIfInBounds_toArray, List.set_cons_zero, List.set_cons_succ])
    refine wpAnyH_take (i := 46) (v := ?zv46) rfl (by kernel_rfl) (by kernel_rfl) (by kernel_rfl) (fun _ _ _ h => h) (Or.inl ⟨by rfl, ?zy46⟩) hHeld3 ?zr46
    case zy46 => (intro W hW; clear hW; first | (go_simp; done) | (go_simp; with_reducible rfl))
    (try simp only [List.getElem_toArray, List.getElem_cons_zero, List.getElem_cons_succ, Act.put, List.setIfInBounds_toArray, List.set_cons_zero, List.set_cons_succ])
    refine wpAnyH_take (i := 47) (v := ?zv47) rfl (by kernel_rfl) (by kernel_rfl) (by kernel_rfl) (fun _ _ _ h => h) (Or.inl ⟨by rfl, ?zy47⟩) hHeld3 ?zr47
    case zy47 => (intro W hW; clear hW; first | (go_simp; done) | (go_simp; with_reducible rfl))
    (try simp only [List.getElem_toArray, List.getElem_cons_zero, List.getElem_cons_succ, Act.put, List.setIfInBounds_toArray, List.set_cons_zero, List.set_cons_succ])
    refine wpAnyH_take (i := 48) (v := ?zv48) rfl (by kernel_rfl) (by kernel_rfl) (by kernel_rfl) (fun _ _ _ h => h) (Or.inl ⟨by rfl, ?zy48⟩) hHeld3 ?zr48
    case zy48 => (intro W hW; clear hW; first | (go_simp; done) | (go_simp; with_reducible rfl))
    (try simp only [List.getElem_toArray, List.getElem_cons_zero, List.getElem_cons_succ, Act.put, List.setIfInBounds_toArray, List.set_cons_zero, List.set_cons_succ])
    refine wpAnyH_take (i := 49) (v := ?zv49) rfl (by kernel_rfl) (by kernel_rfl) (by kernel_rfl) (fun _ _ _ h => h) (Or.inl ⟨by rfl, ?zy49⟩) hHeld3 ?zr49
    case zy49 => (intro W hW; obtain ⟨g0, g1, -⟩ := cells2 (hW.2.1); clear hW; first | (go_simp; done) | (go_simp; with_reducible rfl))
    (try simp only [List.getElem_toArray, List.getElem_cons_zero, List.getElem_cons_succ, Act.put, List.setIfInBounds_toArray, List.set_cons_zero, List.set_cons_succ])
    refine wpAnyH_take (i := 50) (v := ?zv50) rfl (by kernel_rfl) (by kernel_rfl) (by kernel_rfl) (fun _ _ _ h => h) (Or.inl ⟨by rfl, ?zy50⟩) hHeld3 ?zr50
    case zy50 => (intro W hW; obtain ⟨g0, g1, -⟩ := cells2 (hW.2.2.1); clear hW; first | (go_simp; done) | (go_simp; with_reducible rfl))
    (try simp only [List.getElem_toArray, List.getElem_cons_zero, List.getElem_cons_succ, Act.put, List.setIfInBounds_toArray, List.set_cons_zero, List.set_cons_succ])
    refine wpAnyH_take (i := 52) (v := ?zv52) rfl (by kernel_rfl) (by kernel_rfl) (by kernel_rfl) (fun _ _ _ h => h) (Or.inl ⟨by rfl, ?zy52⟩) hHeld3 ?zr52
    case zy52 => (intro W hW; obtain ⟨g0, g1, -⟩ := cells2 (hW.2.1); clear hW; first | (go_simp; done) | (go_simp; with_reducible rfl))
    (try simp only [List.getElem_toArray, List.getElem_cons_zero, List.getElem_cons_succ, Act.put, List.setIfInBounds_toArray, List.set_cons_zero, List.set_cons_succ])
    refine wpAnyH_take (i := 53) (v := ?zv53) rfl (by kernel_rfl) (by kernel_rfl) (by kernel_rfl) (fun _ _ _ h => h) (Or.inl ⟨by rfl, ?zy53⟩) hHeld3 ?zr53
    case zy53 => (intro W hW; obtain ⟨g0, g1, -⟩ := cells2 (hW.2.2.1); clear hW; first | (go_simp; done) | (go_simp; with_reducible rfl))
    (try simp only [List.getElem_toArray, List.getElem_cons_zero, List.getElem_cons_succ, Act.put, List.setIfInBounds_toArray, List.set_cons_zero, List.set_cons_succ])
    refine wpAnyH_ready (rs := [51]) (by kernel_rfl) (by simp) ?_
    refine AllReadyH.cons rfl (fun K hK => ?_) AllReadyH.nil
    simp only [List.getElem_toArray, List.getElem_cons_zero, List.getElem_cons_succ]
    go_simp
    refine (newer_any e c e2 c2 _).mono ?_
    rintro x x4 ⟨rfl, hb⟩
    simp only []
    refine hK.out _ _ (hHeld3.step hb) (fun hHeld4 => ?_)
    clear hK K hb hHeld3
    (try simp only [List.getElem_toArray, List.getElem_cons_zero, List.getElem_cons_succ, Act.put, List.setIfInBounds_toArray, List.set_cons_zero, List.set_cons_succ])
    refine wpAnyH_ready (rs := [54]) (by kernel_rfl) (by simp) ?_
    refine AllReadyH.cons rfl (fun K hK => ?_) AllReadyH.nil
    simp only [List.getElem_toArray, List.getElem_cons_zero, List.getElem_cons_succ]
    go_simp
    refine (rnewer_any e c e2 c2 _).mono ?_
    rintro x x5 ⟨rfl, hb⟩
    simp only []
    refine hK.out _ _ (hHeld4.step hb) (fun hHeld5 => ?_)
    clear hK K hb hHeld4
    (try simp only [List.getElem_toArray, List.getElem_cons_zero, List.getElem_cons_succ, Act.put, List.setIfInBounds_toArray, List.set_cons_zero, List.set_cons_succ])
    refine wpAnyH_take (i := 55) (v := ?zv55) rfl (by kernel_rfl) (by kernel_rfl) (by kernel_rfl) (fun _ _ _ h => h) (Or.inl ⟨by rfl, ?zy55⟩) hHeld5 ?zr55
    case zy55 => (intro W hW; clear hW; first | (go_simp; done) | (go_simp; with_reducible rfl))
    (try simp only [List.getElem_toArray, List.getElem_cons_zero, List.getElem_cons_succ, Act.put, List.setIfInBounds_toArray, List.set_cons_zero, List.set_cons_succ])
    refine wpAnyH_take (i := 56) (v := ?zv56) rfl (by kernel_rfl) (by kernel_rfl) (by kernel_rfl) (fun _ _ _ h => h) (Or.inl ⟨by rfl, ?zy56⟩) hHeld5 ?zr56
    case zy56 => (intro W hW; clear hW; first | (go_simp; done) | (go_simp; with_reducible rfl))
    (try simp only [List.getElem_toArray, List.getElem_cons_zero, List.getElem_cons_succ, Act.put, List.setIfInBounds_toArray, List.set_cons_zero, List.set_cons_succ])
    refine wpAnyH_take (i := 57) (v := ?zv57) rfl (by kernel_rfl) (by kernel_rfl) (by kernel_rfl) (fun _ _ _ h => h) (Or.inl ⟨by rfl, ?zy57⟩) hHeld5 ?zr57
    case zy57 => (intro W hW; clear hW; first | (go_simp; done) | (go_simp; with_reducible rfl))
    (try simp only [List.getElem_toArray, List.getElem_cons_zero, List.getElem_cons_succ, Act.put, List.setIfInBounds_toArray, List.set_cons_zero, List.set_cons_succ])
    refine wpAnyH_done (by kernel_rfl) ?_ _
    exact ⟨rfl, hHeld5.2.2.2.2.2.2.2.2.2⟩
  intro w8 hb8
  go_wp2_with fail
  go_ret
  exact ⟨rfl, hb8⟩

theorem sectorSpec_walk (d a i e c e2 c2 : Int) (p s : ByteArray) (w : World) :
    Calls Try.prog 12 #[.agg #[.int .i64 d, .int .i64 a, .int .i64 i], .agg #[.int .i64 e, .int .i64 c], .agg #[.int .i64 e2, .int .i64 c2], .string p, .string s] w fun x w' => x = .returned (.bool true) ∧ Below w.heap.size w w' := by
  by_cases h1 : 200 < (p.size : Int)
  · exact sectorSpec_bad d a i e c e2 c2 p s w (.inl h1)
  · by_cases h2 : 200 < (s.size : Int)
    · exact sectorSpec_bad d a i e c e2 c2 p s w (.inr h2)
    · exact sectorSpec_good d a i e c e2 c2 p s w h1 h2
end Go.Proofs.Ytiakaloabeendaa
