/- The walk of solventlaw04.PrintYields. -/
import Derived.Test.YtiakaloabeendaaDoorRTwin
import Derived.Test.YtiakaloabeendaaDoorLawDet
namespace Go.Proofs.YtiakaloabeendaaDoor
open Go.RowKit Go.Shelf
set_option linter.unusedSimpArgs false
attribute [local go_sem] Oper.semAt_some

theorem kept4 {x y : World} {k : Nat} {o : Obj} (hb : Below x.heap.size x y) (h : x.heap[k]? = some o) : y.heap[k]? = some o :=
  (hb.block _ (Array.getElem?_eq_some_iff.1 h).1).trans h
/-- The three boxes of PrintYields. -/
def Box3 (s : ByteArray) (n : Int) (b : Bool) (H : Nat) (w x : World) : Prop := x.heap[H]? = some (.cells #[.string s] 9 (0, 0)) ∧ x.heap[H + 1]? = some (.cells #[.int .i64 n] 3 (0, 0)) ∧ x.heap[H + 1 + 1]? = some (.cells #[.bool b] 4 (0, 0)) ∧ ExpW x ∧ Below H w x
theorem Box3.step {s : ByteArray} {n : Int} {b : Bool} {H : Nat} {w x y : World} (h : Box3 s n b H w x) (hb : Below x.heap.size x y) : Box3 s n b H w y :=
  ⟨kept4 hb h.1, kept4 hb h.2.1, kept4 hb h.2.2.1, h.2.2.2.1.below hb, h.2.2.2.2.trans (hb.mono (by have := (Array.getElem?_eq_some_iff.1 h.1).1; omega))⟩
/-- What lies while the last line runs. -/
def Y9 (w : World) (s : ByteArray) (sp : Int) (H kb D D2 : Nat) (x : World) : Prop := x.heap[kb]? = some (.cells #[.int .i64 sp] 3 (0, 0)) ∧ x.heap[H]? = some (.cells #[.string s] 9 (0, 0)) ∧ (∃ b, x.heap[H + 1 + 1]? = some (.cells #[.bool b] 4 (0, 0))) ∧
  x.heap[D]? = some (.deferred (some [])) ∧ x.heap[D2]? = some (.deferred (some [])) ∧ ExpW x ∧ Below H w x
theorem Y9.step {w : World} {s : ByteArray} {sp : Int} {H kb D D2 : Nat} {x y : World} (h : Y9 w s sp H kb D D2 x) (hb : Below x.heap.size x y) : Y9 w s sp H kb D D2 y := by
  obtain ⟨h1, h2, ⟨b, h3⟩, h4, h5, h6, h7⟩ := h
  exact ⟨kept4 hb h1, kept4 hb h2, ⟨b, kept4 hb h3⟩, kept4 hb h4, kept4 hb h5, h6.below hb, h7.trans (hb.mono (by have := (Array.getElem?_eq_some_iff.1 h2).1; omega))⟩
theorem Y9.set {w : World} {s : ByteArray} {sp : Int} {H kb D D2 : Nat} {x : World} {u : Bool} (h : Y9 w s sp H kb D D2 x) (hk : H + 1 + 1 < kb) (hD : H + 1 + 1 < D) (hD2 : H + 1 + 1 < D2) :
    Y9 w s sp H kb D D2 (x.setCell ⟨H + 1 + 1, 0, none⟩ (.bool u)) ∧ (x.setCell ⟨H + 1 + 1, 0, none⟩ (.bool u)).heap[H + 1 + 1]? = some (.cells #[.bool u] 4 (0, 0)) := by
  obtain ⟨h1, h2, ⟨b, h3⟩, h4, h5, ⟨te, fz, h6⟩, h7⟩ := h
  have q := set1 (.bool u) h3
  have o : ∀ j, j ≠ H + 1 + 1 → (x.setCell ⟨H + 1 + 1, 0, none⟩ (.bool u)).heap[j]? = x.heap[j]? := fun j hj => heap_setCell_other _ _ _ _ (by simpa using hj)
  exact ⟨⟨(o _ (by omega)).trans h1, (o _ (by omega)).trans h2, ⟨u, q⟩, (o _ (by omega)).trans h4, (o _ (by omega)).trans h5, ⟨te, fz, (o _ (by omega)).trans h6⟩, h7.setCell (p := ⟨H + 1 + 1, 0, none⟩) (by simp; omega) _⟩, q⟩
theorem three_size (s : ByteArray) (n : Int) (w : World) : (((w.alloc (.cells #[.string s] 9)).alloc (.cells #[.int .i64 n] 3)).alloc (.cells #[.bool false] 4)).heap.size = w.heap.size + 1 + 1 + 1 := by simp
theorem three_boxes (s : ByteArray) (n : Int) (w : World) (hE : ExpW w) : Box3 s n false w.heap.size w (((w.alloc (.cells #[.string s] 9)).alloc (.cells #[.int .i64 n] 3)).alloc (.cells #[.bool false] 4)) := by
  have hb : Below w.heap.size w (((w.alloc (.cells #[.string s] 9)).alloc (.cells #[.int .i64 n] 3)).alloc (.cells #[.bool false] 4)) := (((Below.refl _ w).alloc (Nat.le_refl _) _).alloc (by simp) _).alloc (by simp; omega) _
  refine ⟨?_, ?_, ?_, hE.below hb, hb⟩
  · rw [Below.heap_alloc _ _ _ (by simp; omega), Below.heap_alloc _ _ _ (by simp)]; exact heap_alloc_new w _
  · rw [Below.heap_alloc _ _ _ (by simp)]
    have := heap_alloc_new (w.alloc (.cells #[.string s] 9)) (.cells #[.int .i64 n] 3)
    rwa [World.size_alloc] at this
  · have := heap_alloc_new ((w.alloc (.cells #[.string s] 9)).alloc (.cells #[.int .i64 n] 3)) (.cells #[.bool false] 4)
    rwa [World.size_alloc, World.size_alloc] at this

set_option maxRecDepth 100000 in
set_option maxHeartbeats 2000000 in
theorem yields_big (s : ByteArray) (n : Int) (w : World) (hE : ExpW w) (h : 60 < (s.size : Int)) : Calls Tryd.prog 7 #[.string s, .int .i64 n] w fun e w' => e = .returned (.bool true) ∧ Below w.heap.size w w' := by
  have HE := Lib.hid hE
  clear hE
  refine (callsIn_wide (n := 3)).1 ?_
  refine callsIn_of_wp_marks Tryd.func7 rfl trivial ?_ rfl
  simp only [Tryd.ntmps7, List.size_toArray, List.length_cons, List.length_nil, Nat.reduceAdd, Nat.reduceSub, Array.replicate_succ, Array.replicate_zero, List.push_toArray, List.append_toArray, List.nil_append, List.cons_append]
  have P0 := Lib.hid (three_boxes s n w HE.out)
  have SZ := Lib.hid (three_size s n w)
  have n0 := P0.out.1
  have n1 := P0.out.2.1
  have n2 := P0.out.2.2.1
  have c0 := cell1 n0
  clear n0 n1 n2
  gi_wp2
  clear c0
  generalize (((w.alloc (.cells #[.string s] 9)).alloc (.cells #[.int .i64 n] 3)).alloc (.cells #[.bool false] 4)) = w1 at *
  refine ⟨trivial, (callsIn_wide.2 (sanity4_any _ P0.out.2.2.2.1)).mono ?_⟩
  rintro e w2 ⟨rfl, hb⟩
  have P1 := Lib.hid (P0.out.step hb)
  clear hb P0
  have r0 := cell1 P1.out.2.2.1
  have r1 := frozen1 P1.out.2.2.1
  gi_wp2
  exact ⟨_, results_c rfl rfl (load_bool (cell1 (set1 _ P1.out.2.2.1))), rfl, P1.out.2.2.2.2.setCell (p := ⟨w.heap.size + 1 + 1, 0, none⟩) (by simp; omega) _⟩

set_option maxRecDepth 100000 in
set_option maxHeartbeats 2000000 in
theorem yields_good (s : ByteArray) (n : Int) (w : World) (hE : ExpW w) (h : ¬ 60 < (s.size : Int)) : Calls Tryd.prog 7 #[.string s, .int .i64 n] w fun e w' => e = .returned (.bool true) ∧ Below w.heap.size w w' := by
  have HE := Lib.hid hE
  clear hE
  refine (callsIn_wide (n := 3)).1 ?_
  refine callsIn_of_wp_marks Tryd.func7 rfl trivial ?_ rfl
  simp only [Tryd.ntmps7, List.size_toArray, List.length_cons, List.length_nil, Nat.reduceAdd, Nat.reduceSub, Array.replicate_succ, Array.replicate_zero, List.push_toArray, List.append_toArray, List.nil_append, List.cons_append]
  have P0 := Lib.hid (three_boxes s n w HE.out)
  have SZ := Lib.hid (three_size s n w)
  have n0 := P0.out.1
  have n1 := P0.out.2.1
  have n2 := P0.out.2.2.1
  have c0 := cell1 n0
  clear n0 n1 n2
  gi_wp2
  clear c0
  generalize (((w.alloc (.cells #[.string s] 9)).alloc (.cells #[.int .i64 n] 3)).alloc (.cells #[.bool false] 4)) = w1 at *
  refine ⟨trivial, (callsIn_wide.2 (twins_any s _)).mono ?_⟩
  rintro e w2 ⟨rfl, hbx, hb, hz⟩
  have P1 := Lib.hid (P0.out.step hb)
  have BX := Lib.hid hbx
  have Z1 := Lib.hid hz
  clear hb P0 hbx hz
  gi_wp2
  rename_i K hKrest
  have lt1 : Hid (w.heap.size + 1 + 1 < w1.heap.size) := Lib.hid (by rw [SZ.out]; omega)
  generalize hg : w1.heap.size = g at *
  clear hg
  have N0 := Lib.hid P1.out.1
  have hcont : ∀ (D : Nat) (A : World), w2.heap.size ≤ D → (∃ m : Int, A.heap[w.heap.size]? = some (.cells #[.string s] 9 (0, 0)) ∧ A.heap[w.heap.size + 1]? = some (.cells #[.int .i64 m] 3 (0, 0)) ∧ A.heap[w.heap.size + 1 + 1]? = some (.cells #[.bool false] 4 (0, 0))) → Keep (fun j => j = w.heap.size + 1) w2 A → A.heap[D]? = some (.deferred (some [])) →
      K { tmps := #[.string s, .int .i64 n, .pointer (some ⟨w.heap.size, 0, none⟩), .pointer (some ⟨w.heap.size + 1, 0, none⟩), .pointer (some ⟨w.heap.size + 1 + 1, 0, none⟩), .func (.func 17) #[] #[.pointer (some ⟨g + 1, 0, none⟩)], undef, undef, undef, undef, .string s, .int .i64 (s.size : Int), .bool false, undef, .string s, .func (.func 17) #[] #[.pointer (some ⟨g + 1, 0, none⟩)], .func (.func 17) #[] #[.pointer (some ⟨g + 1, 0, none⟩)], undef, undef, undef, undef, undef, undef, undef, undef, undef, undef, undef, undef, undef, undef, undef, undef, undef, undef, undef, undef, undef, undef, undef, undef, undef, undef, undef, undef, undef, undef], defers := [{ target := .collected D, args := #[] }] } A := by
    intro D A hD hI hK hd
    apply hKrest
    obtain ⟨m, h1, h2, h3⟩ := hI
    have H1 := Lib.hid h1
    have H3 := Lib.hid h3
    have HK := Lib.hid hK
    have HD := Lib.hid hd
    have HDl := Lib.hid hD
    clear h1 h2 h3 hK hd hD m
    gi_wp2
    have LA := Lib.hid HK.out.size
    have LD : Hid (D < A.heap.size) := Lib.hid (Array.getElem?_eq_some_iff.1 HD.out).1
    have EA : Hid (ExpW A) := Lib.hid (by
      obtain ⟨te, fz, he⟩ := P1.out.2.2.2.1
      exact ⟨te, fz, (HK.out.block 0 (Array.getElem?_eq_some_iff.1 he).1 (by omega)).trans he⟩)
    have XA : Hid (TwBox s g (g + 1) A) := Lib.hid ⟨(HK.out.block g (by have := Z1.out; omega) (by have := lt1.out; omega)).trans BX.out.1, (HK.out.block (g + 1) (by have := Z1.out; omega) (by have := lt1.out; omega)).trans BX.out.2⟩
    have BA : Hid (Below w.heap.size w A) := Lib.hid (P1.out.2.2.2.2.trans (HK.out.below (by have := Z1.out; have := lt1.out; omega) (fun k hk => by omega)))
    have ba := (Below.refl A.heap.size A).alloc (Nat.le_refl _) (.cells #[.int .i64 0] 3)
    have NK := Lib.hid (heap_alloc_new A (.cells #[.int .i64 0] 3))
    have SZA : Hid ((A.alloc (.cells #[.int .i64 0] 3)).heap.size = A.heap.size + 1) := Lib.hid (by simp)
    have H1b := Lib.hid (kept4 ba H1.out)
    have H3b := Lib.hid (kept4 ba H3.out)
    have HDb := Lib.hid (kept4 ba HD.out)
    have EAb := Lib.hid (EA.out.below ba)
    have XAb : Hid (TwBox s g (g + 1) (A.alloc (.cells #[.int .i64 0] 3))) := Lib.hid ⟨kept4 ba XA.out.1, kept4 ba XA.out.2⟩
    have BAb := Lib.hid (BA.out.trans (ba.mono BA.out.size))
    generalize (A.alloc (.cells #[.int .i64 0] 3)) = A1 at *
    have LKB : Hid (g + 2 ≤ A.heap.size) := Lib.hid (by have := Z1.out; have := LA.out; omega)
    generalize A.heap.size = kb at *
    clear ba H1 H3 HD EA XA BA HK
    refine wpIn_range (gf := 17) (lb := #[.pointer (some ⟨g + 1, 0, none⟩)]) rfl (enters_of Tryd.func17 (by kernel_rfl) rfl) (xs := twinsL s) (need := fun j => j = 0 ∨ j = g ∨ j = g + 1) ?_ ?_
      (fun j => j = kb) ?_
      (fun k B => B.heap[kb]? = some (.cells #[.int .i64 (k : Int)] 3 (0, 0)) ∧ B.heap[w.heap.size]? = some (.cells #[.string s] 9 (0, 0)) ∧ B.heap[w.heap.size + 1 + 1]? = some (.cells #[.bool false] 4 (0, 0)))
      (fun _ _ _ => False) ?_ (fun _ _ _ _ h _ => h) ⟨NK.out, H1b.out, H3b.out⟩
      (fun x => { tmps := #[.string s, .int .i64 n, .pointer (some ⟨w.heap.size, 0, none⟩), .pointer (some ⟨w.heap.size + 1, 0, none⟩), .pointer (some ⟨w.heap.size + 1 + 1, 0, none⟩), .func (.func 17) #[] #[.pointer (some ⟨g + 1, 0, none⟩)], .pointer (some ⟨kb, 0, none⟩), .string x, undef, undef, .string s, .int .i64 (s.size : Int), .bool false, undef, .string s, .func (.func 17) #[] #[.pointer (some ⟨g + 1, 0, none⟩)], .func (.func 17) #[] #[.pointer (some ⟨g + 1, 0, none⟩)], undef, undef, undef, undef, undef, .func (.func 17) #[] #[.pointer (some ⟨g + 1, 0, none⟩)], .string x, undef, undef, undef, undef, undef, undef, undef, undef, undef, undef, undef, undef, undef, undef, undef, undef, undef, undef, undef, undef, undef, undef, undef], defers := [] }) ?assign2 ?body2 ?done2 ?stop2
    · have := SZA.out; have := LKB.out
      rintro j (rfl | rfl | rfl) <;> omega
    · intro B hB
      have := SZA.out; have := LKB.out
      exact twins2_gives s g (g + 1) _ B ((hB.block _ (by omega)).trans XAb.out.1) ((hB.block _ (by omega)).trans XAb.out.2) (EAb.out.below hB)
    · have := SZA.out; have := LKB.out
      rintro j rfl
      exact ⟨by omega, by omega⟩
    · rintro k B C ⟨h1, h2, h3⟩ hb
      have := SZA.out; have := LKB.out; have := lt1.out
      exact ⟨(hb.block _ (by omega)).trans h1, (hb.block _ (by omega)).trans h2, (hb.block _ (by omega)).trans h3⟩
    case assign2 =>
      intro l x B K hK
      gi_wp2
      exact hK
    case body2 =>
      rintro l k B hk ⟨h1, h2, h3⟩ hs
      have hX := twinsL_get s k hk
      have hlt : (k : Int) < spaceI s.size := by rw [twinsL_length] at hk; omega
      have hk16 : k < 16000 := by have := space_nn s.size; omega
      have TW : Hid (∀ W, Calls Tryd.prog 14 #[.string s, .int .i64 k] W fun e w' => e = .returned (.tuple #[.string (strB (twinB s.data.toList k)), .int .i64 0]) ∧ Below W.heap.size W w') := Lib.hid (fun W => rtwin_good s k W hlt)
      rw [← hX] at TW
      generalize (twinsL s).getD k noB = X at *
      have HW : Hid (wrap64 ((k : Int) + 1) = ((k + 1 : Nat) : Int)) := Lib.hid (by unfold wrap64; omega)
      have H1 := Lib.hid h1
      have H2 := Lib.hid h2
      have H3 := Lib.hid h3
      have c0 := cell1 h2
      have c1 := cell1 h1
      generalize hQ : bodyQ _ _ _ (k + 1) B = Q0
      have HQ := Lib.hid hQ
      clear h1 h2 h3 hQ hk hs hX hlt hk16
      gi_wp2
      refine ⟨trivial, (CallsIn.inRound l (callsIn_wide.2 (TW.out _))).mono ?_⟩
      rintro e B2 ⟨rfl, hb⟩
      have G1 := Lib.hid (kept4 hb H1.out)
      have G2 := Lib.hid (kept4 hb H2.out)
      have G3 := Lib.hid (kept4 hb H3.out)
      have KB : Hid (Keep (fun j => j = kb) B B2) := Lib.hid (Keep.of_below hb)
      clear c0 c1 hb
      have c1 := cell1 G1.out
      have f1 := frozen1 G1.out
      have A1' := Lib.hid (heap_setCell_other B2 ⟨kb, 0, none⟩ w.heap.size (.int .i64 ((k + 1 : Nat) : Int)) (by have := LKB.out; have := lt1.out; simp; omega))
      have A2' := Lib.hid (heap_setCell_other B2 ⟨kb, 0, none⟩ (w.heap.size + 1 + 1) (.int .i64 ((k + 1 : Nat) : Int)) (by have := LKB.out; have := lt1.out; simp; omega))
      gi_wp2
      rw [HW.out, ← HQ.out]
      exact ⟨KB.out.setCell (p := ⟨kb, 0, none⟩) rfl _, set1 _ G1.out, A1'.out.trans G2.out, A2'.out.trans G3.out⟩
    case done2 =>
      rintro D2 B hD2 ⟨h1, h2, h3⟩ hK2 hd2
      have LKD : Hid (kb < D2 ∧ D < D2) := Lib.hid (by have := SZA.out; have := LD.out; omega)
      have hdD := (hK2.block D (by have := SZA.out; have := LD.out; omega) (by have := LD.out; omega)).trans HDb.out
      have BB : Hid (Below w.heap.size w B) := Lib.hid (BAb.out.trans (hK2.below (by have := SZA.out; have := LKB.out; have := lt1.out; omega) (fun k hk => by have := LKB.out; have := lt1.out; omega)))
      have EB2 : Hid (ExpW B) := Lib.hid (by
        obtain ⟨te, fz, he⟩ := EAb.out
        exact ⟨te, fz, (hK2.block 0 (Array.getElem?_eq_some_iff.1 he).1 (by have := LKB.out; omega)).trans he⟩)
      have hsp : (((twinsL s).length : Nat) : Int) = spaceI s.size := by have := space_nn s.size; rw [twinsL_length]; omega
      rw [hsp] at h1
      have H1 := Lib.hid h1
      have H2 := Lib.hid h2
      have H3 := Lib.hid h3
      have HD1 := Lib.hid hdD
      have HD2 := Lib.hid hd2
      clear h1 h2 h3 hK2 hd2 hdD hD2 hsp
      have Y0 := Lib.hid (show Y9 w s (spaceI s.size) w.heap.size kb D D2 B from ⟨H1.out, H2.out, ⟨_, H3.out⟩, HD1.out, HD2.out, EB2.out, BB.out⟩)
      have HSP : Hid (∀ W, Calls Tryd.prog 12 #[.int .i64 (s.size : Int)] W fun e w' => e = .returned (.int .i64 (spaceI s.size)) ∧ w' = W) := Lib.hid (fun W => rspace_any s.size W)
      generalize spaceI (s.size : Int) = sp at *
      clear H1 H2 H3 HD1 HD2 EB2 BB
      gi_wp2
      refine wpIn_wide.2 ?_
      apply wp_onceR (fun x => x.heap[w.heap.size + 1 + 1]? = some (.cells #[.bool true] 4 (0, 0)) ∧ x.heap[D]? = some (.deferred (some [])) ∧ x.heap[D2]? = some (.deferred (some [])) ∧ Below w.heap.size w x)
      · refine wp_region_held_drew (S := Y9 w s sp w.heap.size kb D D2) (by kernel_rfl) (Y0.out.step (Below.refl _ B).drew) (fun hHeld => ?_)
        refine wpAnyH_norm (f := 9) (L := #[false, false, false, false, false, false, false, false, false]) (by kernel_rfl) (by kernel_rfl) ?_
        refine wpAnyH_ready (rs := [0]) (by kernel_rfl) (by simp) ?_
        refine AllReadyH.cons rfl (fun K hK => ?_) AllReadyH.nil
        simp only [List.getElem_toArray, List.getElem_cons_zero, List.getElem_cons_succ]
        go_simp
        refine (sanity4_any _ hHeld.2.2.2.2.2.1).mono ?_
        rintro x x1 ⟨rfl, hb⟩
        simp only []
        refine hK.out _ _ (hHeld.step hb) (fun hHeld1 => ?_)
        clear hK K hb hHeld
        (try simp only [List.getElem_toArray, List.getElem_cons_zero, List.getElem_cons_succ, Act.put, List.setIfInBounds_toArray, List.set_cons_zero, List.set_cons_succ])
        refine wpAnyH_take (i := 1) (v := ?yv1) rfl (by kernel_rfl) (by kernel_rfl) (by kernel_rfl) (fun _ _ _ h => h) (Or.inl ⟨by rfl, ?yy1⟩) hHeld1 ?yr1
        case yy1 => (intro W hW; clear hW; first | (go_simp; done) | (go_simp; with_reducible rfl))
        (try simp only [List.getElem_toArray, List.getElem_cons_zero, List.getElem_cons_succ, Act.put, List.setIfInBounds_toArray, List.set_cons_zero, List.set_cons_succ])
        refine wpAnyH_take (i := 2) (v := ?yv2) rfl (by kernel_rfl) (by kernel_rfl) (by kernel_rfl) (fun _ _ _ h => h) (Or.inl ⟨by rfl, ?yy2⟩) hHeld1 ?yr2
        case yy2 => (intro W hW; have g0 := cell1 hW.1; clear hW; first | (go_simp; done) | (go_simp; with_reducible rfl))
        (try simp only [List.getElem_toArray, List.getElem_cons_zero, List.getElem_cons_succ, Act.put, List.setIfInBounds_toArray, List.set_cons_zero, List.set_cons_succ])
        refine wpAnyH_take (i := 3) (v := ?yv3) rfl (by kernel_rfl) (by kernel_rfl) (by kernel_rfl) (fun _ _ _ h => h) (Or.inl ⟨by rfl, ?yy3⟩) hHeld1 ?yr3
        case yy3 => (intro W hW; have g0 := cell1 hW.2.1; clear hW; first | (go_simp; done) | (go_simp; with_reducible rfl))
        (try simp only [List.getElem_toArray, List.getElem_cons_zero, List.getElem_cons_succ, Act.put, List.setIfInBounds_toArray, List.set_cons_zero, List.set_cons_succ])
        refine wpAnyH_take (i := 4) (v := ?yv4) rfl (by kernel_rfl) (by kernel_rfl) (by kernel_rfl) (fun _ _ _ h => h) (Or.inl ⟨by rfl, ?yy4⟩) hHeld1 ?yr4
        case yy4 => (intro W hW; clear hW; first | (go_simp; done) | (go_simp; with_reducible rfl))
        (try simp only [List.getElem_toArray, List.getElem_cons_zero, List.getElem_cons_succ, Act.put, List.setIfInBounds_toArray, List.set_cons_zero, List.set_cons_succ])
        refine wpAnyH_ready (rs := [5]) (by kernel_rfl) (by simp) ?_
        refine AllReadyH.cons rfl (fun K hK => ?_) AllReadyH.nil
        simp only [List.getElem_toArray, List.getElem_cons_zero, List.getElem_cons_succ]
        go_simp
        refine (HSP.out _).mono ?_
        rintro x x2 ⟨rfl, rfl⟩
        simp only []
        refine hK.out _ _ (hHeld1) (fun hHeld2 => ?_)
        clear hK K hHeld1
        (try simp only [List.getElem_toArray, List.getElem_cons_zero, List.getElem_cons_succ, Act.put, List.setIfInBounds_toArray, List.set_cons_zero, List.set_cons_succ])
        refine wpAnyH_take (i := 6) (v := ?yv6) rfl (by kernel_rfl) (by kernel_rfl) (by kernel_rfl) (fun _ _ _ h => h) (Or.inl ⟨by rfl, ?yy6⟩) hHeld2 ?yr6
        case yy6 => (intro W hW; clear hW; first | (go_simp; done) | (go_simp; with_reducible rfl))
        (try simp only [List.getElem_toArray, List.getElem_cons_zero, List.getElem_cons_succ, Act.put, List.setIfInBounds_toArray, List.set_cons_zero, List.set_cons_succ])
        refine wpAnyH_take (i := 7) (v := ?yv7) rfl (by kernel_rfl) (by kernel_rfl) (by kernel_rfl) (fun _ _ _ h => h) (Or.inl ⟨by rfl, ?yy7⟩) hHeld2 ?yr7
        case yy7 => (intro W hW; clear hW; first | (go_simp; done) | (go_simp; with_reducible rfl))
        (try simp only [List.getElem_toArray, List.getElem_cons_zero, List.getElem_cons_succ, Act.put, List.setIfInBounds_toArray, List.set_cons_zero, List.set_cons_succ])
        obtain ⟨b, hbb⟩ := hHeld2.2.2.1
        have r0 := cell1 hbb
        have r1 := frozen1 hbb
        refine wpAnyH_ready (rs := [8]) (by kernel_rfl) (by simp) ?_
        refine AllReadyH.cons rfl (fun K hK => ?_) AllReadyH.nil
        simp only [List.getElem_toArray, List.getElem_cons_zero, List.getElem_cons_succ]
        go_simp
        have YS := Y9.set (u := true) hHeld2 (by have := lt1.out; have := LKB.out; omega) (by have := lt1.out; have := HDl.out; have := Z1.out; omega) (by have := lt1.out; have := HDl.out; have := Z1.out; have := LKD.out; omega)
        refine hK.out _ _ YS.1 (fun hHeld9 => ?_)
        clear hK K
        (try simp only [List.getElem_toArray, List.getElem_cons_zero, List.getElem_cons_succ, Act.put, List.setIfInBounds_toArray, List.set_cons_zero, List.set_cons_succ])
        refine wpAnyH_done (by kernel_rfl) ?_ _
        exact ⟨rfl, YS.2, YS.1.2.2.2.1, YS.1.2.2.2.2.1, YS.1.2.2.2.2.2.2⟩
      rintro w9 ⟨q1, q2, q3, q4⟩
      have Q1 := Lib.hid q1
      have Q2 := Lib.hid q2
      have Q3 := Lib.hid q3
      have Q4 := Lib.hid q4
      clear q1 q2 q3 q4
      gi_wp2
      have lD2 : w.heap.size + 1 + 1 < D2 := by have := lt1.out; have := HDl.out; have := Z1.out; have := LKD.out; omega
      have lD : w.heap.size + 1 + 1 < D := by have := lt1.out; have := HDl.out; have := Z1.out; omega
      have e2 : (w9.putObj D2 (.deferred none)).heap[D]? = some (.deferred (some [])) := (World.putObj_heap_other (by have := LKD.out; omega)).trans Q2.out
      have e1 : ((w9.putObj D2 (.deferred none)).putObj D (.deferred none)).heap[w.heap.size + 1 + 1]? = some (.cells #[.bool true] 4 (0, 0)) := (World.putObj_heap_other (by omega)).trans ((World.putObj_heap_other (by omega)).trans Q1.out)
      have e3 : Below w.heap.size w ((w9.putObj D2 (.deferred none)).putObj D (.deferred none)) := (Q4.out.trans (below_putObj _ (by omega) _)).trans (below_putObj _ (by omega) _)
      refine ⟨by simp, .inl ⟨_, _, rfl, run_takeDeferred Q3.out, ?_⟩⟩
      refine ⟨by simp, .inl ⟨_, _, rfl, run_takeDeferred e2, ?_⟩⟩
      exact ⟨_, results_c rfl rfl (load_bool (cell1 e1)), rfl, e3⟩
    case stop2 =>
      rintro D2 c k B _ _ h _ _
      exact h.elim
  refine wpIn_range (gf := 17) (lb := #[.pointer (some ⟨g + 1, 0, none⟩)]) rfl (enters_of Tryd.func17 (by kernel_rfl) rfl) (xs := twinsL s) (need := fun j => j = 0 ∨ j = g ∨ j = g + 1) ?_ ?_
    (fun j => j = w.heap.size + 1) ?_
    (fun _ A => ∃ m : Int, A.heap[w.heap.size]? = some (.cells #[.string s] 9 (0, 0)) ∧ A.heap[w.heap.size + 1]? = some (.cells #[.int .i64 m] 3 (0, 0)) ∧ A.heap[w.heap.size + 1 + 1]? = some (.cells #[.bool false] 4 (0, 0)))
    (fun c _ A => c = .exit 0 ∧ ∃ m : Int, A.heap[w.heap.size]? = some (.cells #[.string s] 9 (0, 0)) ∧ A.heap[w.heap.size + 1]? = some (.cells #[.int .i64 m] 3 (0, 0)) ∧ A.heap[w.heap.size + 1 + 1]? = some (.cells #[.bool false] 4 (0, 0))) ?_ ?_ ⟨n, P1.out.1, P1.out.2.1, P1.out.2.2.1⟩
    (fun x => { tmps := #[.string s, .int .i64 n, .pointer (some ⟨w.heap.size, 0, none⟩), .pointer (some ⟨w.heap.size + 1, 0, none⟩), .pointer (some ⟨w.heap.size + 1 + 1, 0, none⟩), .func (.func 17) #[] #[.pointer (some ⟨g + 1, 0, none⟩)], undef, undef, undef, undef, .string s, .int .i64 (s.size : Int), .bool false, undef, .string s, .func (.func 17) #[] #[.pointer (some ⟨g + 1, 0, none⟩)], .func (.func 17) #[] #[.pointer (some ⟨g + 1, 0, none⟩)], .string x, undef, undef, undef, undef, undef, undef, undef, undef, undef, undef, undef, undef, undef, undef, undef, undef, undef, undef, undef, undef, undef, undef, undef, undef, undef, undef, undef, undef, undef], defers := [] }) ?assign ?body ?done ?stop
  · have := Z1.out; have := lt1.out
    rintro j (rfl | rfl | rfl) <;> omega
  · intro A hA
    have := Z1.out
    exact twins2_gives s g (g + 1) _ A ((hA.block _ (by omega)).trans BX.out.1) ((hA.block _ (by omega)).trans BX.out.2) (P1.out.2.2.2.1.below hA)
  · have := Z1.out; have := lt1.out
    rintro j rfl
    exact ⟨by omega, by omega⟩
  · rintro k A B ⟨m, h1, h2, h3⟩ hb
    have := Z1.out; have := lt1.out
    exact ⟨m, (hb.block _ (by omega)).trans h1, (hb.block _ (by omega)).trans h2, (hb.block _ (by omega)).trans h3⟩
  · rintro c k A B ⟨rfl, m, h1, h2, h3⟩ hb
    have := Z1.out; have := lt1.out
    exact ⟨rfl, m, (hb.block _ (by omega)).trans h1, (hb.block _ (by omega)).trans h2, (hb.block _ (by omega)).trans h3⟩
  case assign =>
    intro l x A K hK
    gi_wp2
    exact hK
  case body =>
    rintro l k A hk ⟨m, h1, h2, h3⟩ hs
    have H1 := Lib.hid h1
    have H2 := Lib.hid h2
    have H3 := Lib.hid h3
    have n0 := cell1 h2
    have n1 := frozen1 h2
    generalize (twinsL s).getD k noB = X at *
    generalize hQ : bodyQ _ _ _ (k + 1) A = Q0
    have HQ := Lib.hid hQ
    clear h1 h2 h3 hQ hk hs
    have K0 := Lib.hid ((Keep.refl (fun j => j = w.heap.size + 1) A).setCell (p := ⟨w.heap.size + 1, 0, none⟩) rfl (.int .i64 (wrap64 (m - 1))))
    have A1 := Lib.hid (heap_setCell_other A ⟨w.heap.size + 1, 0, none⟩ w.heap.size (.int .i64 (wrap64 (m - 1))) (by simp))
    have A2 := Lib.hid (heap_setCell_other A ⟨w.heap.size + 1, 0, none⟩ (w.heap.size + 1 + 1) (.int .i64 (wrap64 (m - 1))) (by simp))
    gi_wp2
    · rw [← HQ.out]
      exact ⟨K0.out, rfl, _, A1.out.trans H1.out, set1 _ H2.out, A2.out.trans H3.out⟩
    · rw [← HQ.out]
      exact ⟨K0.out, _, A1.out.trans H1.out, set1 _ H2.out, A2.out.trans H3.out⟩
  case done =>
    intro D A hD hI hK hd
    exact hcont D A hD hI hK hd
  case stop =>
    rintro D c k A hD hk ⟨rfl, hI⟩ hK hd
    gi_wp2
    exact hcont D A hD hI hK hd

theorem yields_walk (s : ByteArray) (n : Int) (w : World) (hE : ExpW w) : Calls Tryd.prog 7 #[.string s, .int .i64 n] w fun e w' => e = .returned (.bool true) ∧ Below w.heap.size w w' := by
  by_cases h : 60 < (s.size : Int)
  · exact yields_big s n w hE h
  · exact yields_good s n w hE h
end Go.Proofs.YtiakaloabeendaaDoor
