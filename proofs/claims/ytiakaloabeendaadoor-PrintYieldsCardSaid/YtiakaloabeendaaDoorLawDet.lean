/- The walk of solventlaw04.PrintDetects. -/
import Derived.Test.YtiakaloabeendaaDoorLawPrint
import Derived.Laws.IdiomCopy
import Derived.Deep.RegionHeld3
set_option linter.unusedSimpArgs false
namespace Go.Proofs.YtiakaloabeendaaDoor
open Go.RowKit

/-! ### the plain law -/
def putB (l : List UInt8) (o : Nat) (m : List UInt8) : List UInt8 := l.take o ++ m ++ l.drop (o + m.length)
theorem putB_length (l : List UInt8) (o : Nat) (m : List UInt8) (h : o + m.length ≤ l.length) : (putB l o m).length = l.length := by simp [putB]; omega
theorem putB_step (l : List UInt8) (o : Nat) (x : UInt8) (m : List UInt8) (h : o + (m.length + 1) ≤ l.length) : putB (l.set o x) (o + 1) m = putB l o (x :: m) := by
  obtain ⟨A, y, C, e, hA⟩ : ∃ A y C, l = A ++ y :: C ∧ A.length = o :=
    ⟨l.take o, l[o]'(by omega), l.drop (o + 1), by rw [← List.drop_eq_getElem_cons (by omega), List.take_append_drop], by rw [List.length_take]; omega⟩
  subst e hA
  have e1 : (A ++ y :: C).set A.length x = A ++ x :: C := by simp
  have e2 : (A ++ x :: C).take (A.length + 1) = A ++ [x] := by rw [List.take_length_add_append]; rfl
  have e3 : (A ++ x :: C).drop (A.length + 1 + m.length) = C.drop m.length := by
    rw [show A.length + 1 + m.length = A.length + (m.length + 1) by omega, List.drop_length_add_append]; rfl
  have e4 : (A ++ y :: C).drop (A.length + (x :: m).length) = C.drop m.length := by rw [List.drop_length_add_append]; rfl
  have e5 : (A ++ y :: C).take A.length = A := by simp
  unfold putB
  rw [e1, e2, e3, e4, e5]
  simp
theorem detects_iff (l : List UInt8) (o : Nat) (m : List UInt8) (h : o + m.length ≤ l.length) (h4 : m.length ≤ 4) : putB l o m = l ↔ crcB (putB l o m) = crcB l := by
  constructor
  · intro e; rw [e]
  · intro e
    have hl : l = l.take o ++ (l.drop o).take m.length ++ l.drop (o + m.length) := by
      rw [List.append_assoc, ← List.drop_drop, List.take_append_drop, List.take_append_drop]
    have hm : m = (l.drop o).take m.length := by
      refine crc_burst (l.take o) m ((l.drop o).take m.length) (l.drop (o + m.length)) (by simp; omega) h4 ?_
      rw [← hl]; exact e
    unfold putB
    conv => rhs; rw [hl]
    rw [← hm]

theorem RowB.setCells {g : Nat} : ∀ (m : List UInt8) (w : World) (l : List UInt8) (o : Nat), RowB w g l → o + m.length ≤ l.length → RowB (w.setCells g o (bvs m)) g (putB l o m)
  | [], w, l, o, h, _ => by
    have : putB l o [] = l := by simp [putB]
    rw [this]; exact h
  | x :: m, w, l, o, h, hl => by
    rw [← putB_step l o x m (by simpa using hl)]
    exact RowB.setCells m _ _ (o + 1) (h.stored o x) (by simp at hl ⊢; omega)

theorem below_setCells {B g : Nat} (hg : B ≤ g) : ∀ (vs : List Value) (w : World) (o : Nat), Below B w (w.setCells g o vs)
  | [], w, _ => Below.refl _ w
  | v :: vs, w, o => ((Below.refl _ w).setCell (p := ⟨g, o, none⟩) hg v).trans (below_setCells hg vs _ (o + 1))

/-- All orders come to one act, but for the slot of the copy's number; the worlds differ. -/
def OnceR (A : Act) (R : World → Prop) : Exit → Act → World → Prop
  | .normal, a, w => a = A ∧ R w
  | _, _, _ => False
theorem wp_onceR {P : Program} {c : Code} {a : Act} {w : World} {Q : Exit → Act → World → Prop} (R : World → Prop) (A : Act) (h2 : c.wp P (OnceR A R) a w) (h1 : ∀ W, R W → Q .normal A W) : c.wp P Q a w :=
  Code.wp_mono (fun e a' w' h => by
    cases e with
    | normal => obtain ⟨rfl, h⟩ := h; exact h1 _ h
    | _ => exact (h : False).elim) h2
theorem wpAnyH_norm {P : Program} {md : Region.Mode} {ops : Array Oper} {Q : Exit → Act → World → Prop} {S : World → Prop} {fuel : Nat} {listed : Array Bool} {a : Act} {w : World} {f : Nat} {L : Array Bool} (hf : fuel = f) (hl : listed = L)
    (h : wpAnyH P md ops Q S f L a w) : wpAnyH P md ops Q S fuel listed a w := by subst hf hl; exact h

set_option maxRecDepth 100000 in
set_option maxHeartbeats 1000000 in
theorem detects_bad (s : ByteArray) (p : Int) (x0 x1 x2 x3 : UInt8) (w : World) (hE : ExpW w) (h : 300 < (s.size : Int) ∨ p < 0 ∨ (s.size : Int) ≤ p) :
    Calls Tryd.prog 6 #[.string s, .int .i64 p, .agg #[.int .u8 (x0.toNat : Int), .int .u8 (x1.toNat : Int), .int .u8 (x2.toNat : Int), .int .u8 (x3.toNat : Int)]] w fun e w' => e = .returned (.bool true) ∧ Below w.heap.size w w' := by
  have T0 : Hid (EB w (w.alloc (.cells #[.int .u8 (x0.toNat : Int), .int .u8 (x1.toNat : Int), .int .u8 (x2.toNat : Int), .int .u8 (x3.toNat : Int)] 31))) := Lib.hid (EB.step ⟨hE, Below.refl _ _⟩ ((Below.refl _ w).alloc (Nat.le_refl _) _))
  clear hE
  by_cases h0 : 300 < (s.size : Int)
  · clear h
    go_enter Tryd.func6, Tryd.ntmps6
    go_wp2_with fail
    refine (sanity4_any _ T0.out.1).mono ?_
    rintro e w1 ⟨rfl, hb⟩
    have T1 := Lib.hid (T0.out.step hb)
    clear hb
    go_wp2_with fail
    go_ret
    exact ⟨rfl, T1.out.2⟩
  · by_cases h1 : p < 0
    · clear h
      go_enter Tryd.func6, Tryd.ntmps6
      go_wp2_with fail
      refine (sanity4_any _ T0.out.1).mono ?_
      rintro e w1 ⟨rfl, hb⟩
      have T1 := Lib.hid (T0.out.step hb)
      clear hb
      go_wp2_with fail
      go_ret
      exact ⟨rfl, T1.out.2⟩
    · have h2 : (s.size : Int) ≤ p := (h.resolve_left h0).resolve_left h1
      clear h
      go_enter Tryd.func6, Tryd.ntmps6
      go_wp2_with fail
      refine (sanity4_any _ T0.out.1).mono ?_
      rintro e w1 ⟨rfl, hb⟩
      have T1 := Lib.hid (T0.out.step hb)
      clear hb
      go_wp2_with fail
      go_ret
      exact ⟨rfl, T1.out.2⟩

set_option maxRecDepth 100000 in
set_option maxHeartbeats 4000000 in
theorem detects_good (s : ByteArray) (p : Nat) (x0 x1 x2 x3 : UInt8) (w : World) (hE : ExpW w) (h0 : ¬ 300 < (s.size : Int)) (hp : p < s.size) :
    Calls Tryd.prog 6 #[.string s, .int .i64 p, .agg #[.int .u8 (x0.toNat : Int), .int .u8 (x1.toNat : Int), .int .u8 (x2.toNat : Int), .int .u8 (x3.toNat : Int)]] w fun e w' => e = .returned (.bool true) ∧ Below w.heap.size w w' := by
  have T0 : Hid (EB w (w.alloc (.cells #[.int .u8 (x0.toNat : Int), .int .u8 (x1.toNat : Int), .int .u8 (x2.toNat : Int), .int .u8 (x3.toNat : Int)] 31))) := Lib.hid (EB.step ⟨hE, Below.refl _ _⟩ ((Below.refl _ w).alloc (Nat.le_refl _) _))
  have X0 := Lib.hid (heap_alloc_new w (.cells #[.int .u8 (x0.toNat : Int), .int .u8 (x1.toNat : Int), .int .u8 (x2.toNat : Int), .int .u8 (x3.toNat : Int)] 31))
  have HC := Lib.hid (run_conv s)
  clear hE
  have d1 : decide ((p : Int) < 0) = false := by simp
  have d2 : decide ((s.size : Int) ≤ (p : Int)) = false := by simp; omega
  have hp2 : (p : Int) ≤ (s.size : Int) := by omega
  have hp3 : (0 : Int) ≤ (p : Int) := by omega
  have hc := HC.out (w.alloc (.cells #[.int .u8 (x0.toNat : Int), .int .u8 (x1.toNat : Int), .int .u8 (x2.toNat : Int), .int .u8 (x3.toNat : Int)] 31))
  go_enter Tryd.func6, Tryd.ntmps6
  go_wp2_with fail
  have hge : s.size ≤ grownCap (w.alloc (.cells #[.int .u8 (x0.toNat : Int), .int .u8 (x1.toNat : Int), .int .u8 (x2.toNat : Int), .int .u8 (x3.toNat : Int)] 31)) s.size 0 5 := grownCap_ge _ _ _ _
  have R1 := Lib.hid (RowB.conv (w.alloc (.cells #[.int .u8 (x0.toNat : Int), .int .u8 (x1.toNat : Int), .int .u8 (x2.toNat : Int), .int .u8 (x3.toNat : Int)] 31)) 5 s)
  have b1 := below_conv (w.alloc (.cells #[.int .u8 (x0.toNat : Int), .int .u8 (x1.toNat : Int), .int .u8 (x2.toNat : Int), .int .u8 (x3.toNat : Int)] 31)).heap.size (w.alloc (.cells #[.int .u8 (x0.toNat : Int), .int .u8 (x1.toNat : Int), .int .u8 (x2.toNat : Int), .int .u8 (x3.toNat : Int)] 31)) 5 s (Nat.le_refl _)
  have T1 := Lib.hid (T0.out.step b1)
  have X1 := Lib.hid ((b1.block _ (by simp)).trans X0.out)
  have hsz : (w.alloc (.cells #[.int .u8 (x0.toNat : Int), .int .u8 (x1.toNat : Int), .int .u8 (x2.toNat : Int), .int .u8 (x3.toNat : Int)] 31)).heap.size = w.heap.size + 1 := by simp
  rw [hsz] at R1
  generalize grownCap (w.alloc (.cells #[.int .u8 (x0.toNat : Int), .int .u8 (x1.toNat : Int), .int .u8 (x2.toNat : Int), .int .u8 (x3.toNat : Int)] 31)) s.size 0 5 = cap at *
  generalize (Lib.bytesWorld (w.alloc (.cells #[.int .u8 (x0.toNat : Int), .int .u8 (x1.toNat : Int), .int .u8 (x2.toNat : Int), .int .u8 (x3.toNat : Int)] 31)) 5 s) = w1 at *
  clear T0 X0 HC hc b1 hsz d1 d2
  have hcap : (s.size : Int) ≤ (cap : Int) := by omega
  have HGE := Lib.hid hge
  have HP := Lib.hid hp
  have hcp : ¬ cap = p := by omega
  have HM : Hid ((([x0, x1, x2, x3] : List UInt8).take (s.size - p)).length = Nat.min 4 (s.size - p)) := Lib.hid (by simp; rw [Nat.min_comm])
  have hcopy : (Builtin.copy_ #[32, 32] 3 #[.slice (some ⟨w.heap.size + 1, p, none⟩) (s.size - p) (cap - p), .slice (some ⟨w.heap.size, 0, none⟩) 4 4]).run Tryd.prog w1.drew = .ok (goInt (bvs (([x0, x1, x2, x3] : List UInt8).take (s.size - p))).length) (w1.drew.setCells (w.heap.size + 1) p (bvs (([x0, x1, x2, x3] : List UInt8).take (s.size - p)))) := by
    have hm := HM.out
    refine run_copy_cells w1.drew _ _ _ 5 (w.heap.size + 1) p (s.size - p) (cap - p) ⟨w.heap.size, 0, none⟩ 4 4 _ Tryd.underlying32 (by kernel_rfl) (by rw [bvs_length, hm]) ?_ ?_ ?_ (bvs_one _)
    · intro j v hv
      obtain ⟨hj, rfl⟩ := bvs_at _ j v hv
      have hj4 : j < 4 := by rw [hm] at hj; exact Nat.lt_of_lt_of_le hj (Nat.min_le_left _ _)
      have hj5 : j < s.size - p := by rw [hm] at hj; exact Nat.lt_of_lt_of_le hj (Nat.min_le_right _ _)
      rw [Addr.add_lit, Nat.zero_add, cell_of_row w1.drew w.heap.size j _ _ _ X1.out, List.getD_eq_getElem?_getD, List.getElem?_take, if_pos hj5]
      match j, hj4 with
      | 0, _ => rfl
      | 1, _ => rfl
      | 2, _ => rfl
      | 3, _ => rfl
    · intro j hj
      rw [bvs_length, hm] at hj
      have hj5 : j < s.size - p := Nat.lt_of_lt_of_le hj (Nat.min_le_right _ _)
      have := (R1.out.cell (p + j) (by simp; omega)).1
      show (w1.cell? _).isSome = true
      rw [this]; rfl
    · intro j hj
      rw [bvs_length, hm] at hj
      have hj5 : j < s.size - p := Nat.lt_of_lt_of_le hj (Nat.min_le_right _ _)
      exact (R1.out.cell (p + j) (by simp; omega)).2
  clear hge hp
  apply wp_onceR (fun x => EB w x ∧ RowB x (w.heap.size + 1) (putB s.data.toList p ([x0, x1, x2, x3].take (s.size - p))))
  · refine wp_region_held_drew (S := fun x => True) (by kernel_rfl) trivial (fun hHeld => ?_)
    refine wpAnyH_norm (f := 5) (L := #[false, false, false, false, false]) (by kernel_rfl) (by kernel_rfl) ?_
    refine wpAnyH_take (i := 0) (v := ?zv0) rfl (by kernel_rfl) (by kernel_rfl) (by kernel_rfl) (fun _ _ _ h => h) (Or.inl ⟨by rfl, ?zy0⟩) hHeld ?zr0
    case zy0 => (intro W hW; first | (go_simp; done) | (go_simp; with_reducible rfl))
    (try simp only [List.getElem_toArray, List.getElem_cons_zero, List.getElem_cons_succ, Act.put, List.setIfInBounds_toArray, List.set_cons_zero, List.set_cons_succ])
    refine wpAnyH_take (i := 1) (v := ?zv1) rfl (by kernel_rfl) (by kernel_rfl) (by kernel_rfl) (fun _ _ _ h => h) (Or.inl ⟨by rfl, ?zy1⟩) hHeld ?zr1
    case zy1 => (intro W hW; first | (go_simp; done) | (go_simp; with_reducible rfl))
    (try simp only [List.getElem_toArray, List.getElem_cons_zero, List.getElem_cons_succ, Act.put, List.setIfInBounds_toArray, List.set_cons_zero, List.set_cons_succ])
    refine wpAnyH_take (i := 2) (v := ?zv2) rfl (by kernel_rfl) (by kernel_rfl) (by kernel_rfl) (fun _ _ _ h => h) (Or.inl ⟨by rfl, ?zy2⟩) hHeld ?zr2
    case zy2 => (intro W hW; first | (go_simp; done) | (go_simp; with_reducible rfl))
    (try simp only [List.getElem_toArray, List.getElem_cons_zero, List.getElem_cons_succ, Act.put, List.setIfInBounds_toArray, List.set_cons_zero, List.set_cons_succ])
    refine wpAnyH_take (i := 3) (v := ?zv3) rfl (by kernel_rfl) (by kernel_rfl) (by kernel_rfl) (fun _ _ _ h => h) (Or.inl ⟨by rfl, ?zy3⟩) hHeld ?zr3
    case zy3 => (intro W hW; first | (go_simp; done) | (go_simp; with_reducible rfl))
    (try simp only [List.getElem_toArray, List.getElem_cons_zero, List.getElem_cons_succ, Act.put, List.setIfInBounds_toArray, List.set_cons_zero, List.set_cons_succ])
    refine wpAnyH_ready (rs := [4]) (by kernel_rfl) (by simp) ?_
    refine AllReadyH.cons rfl (fun K hK => ?_) AllReadyH.nil
    simp only [List.getElem_toArray, List.getElem_cons_zero, List.getElem_cons_succ]
    go_simp
    refine hK.out _ _ trivial (fun hHeld2 => ?_)
    clear hK K
    (try simp only [List.getElem_toArray, List.getElem_cons_zero, List.getElem_cons_succ, Act.put, List.setIfInBounds_toArray, List.set_cons_zero, List.set_cons_succ])
    refine wpAnyH_done (by kernel_rfl) ?_ _
    have hb := below_setCells (B := w.heap.size + 1) (g := w.heap.size + 1) (Nat.le_refl _) (bvs (([x0, x1, x2, x3] : List UInt8).take (s.size - p))) w1.drew p
    obtain ⟨te, fz, he⟩ := T1.out.1
    have hl : s.data.toList.length = s.size := by simp
    have h4 : (([x0, x1, x2, x3] : List UInt8).take (s.size - p)).length ≤ s.size - p := by rw [HM.out]; exact Nat.min_le_right _ _
    have hq := HP.out
    have hfit : p + (([x0, x1, x2, x3] : List UInt8).take (s.size - p)).length ≤ s.data.toList.length := by rw [hl]; omega
    exact ⟨rfl, ⟨⟨te, fz, (hb.block 0 (by omega)).trans he⟩, (T1.out.2.drew).trans (hb.mono (by omega))⟩, RowB.setCells _ _ _ _ R1.out.drew hfit⟩
  intro w2 hw2
  obtain ⟨hE2, hR2⟩ := hw2
  have W2 := Lib.hid (And.intro hE2 hR2)
  clear hE2 hR2 R1 T1 X1 hcopy
  have hls : s.data.toList.length = s.size := by simp
  have h4 : (([x0, x1, x2, x3] : List UInt8).take (s.size - p)).length ≤ s.size - p := by rw [HM.out]; exact Nat.min_le_right _ _
  have h44 : (([x0, x1, x2, x3] : List UInt8).take (s.size - p)).length ≤ 4 := by rw [HM.out]; exact Nat.min_le_left _ _
  have hq := HP.out
  have hfit : p + (([x0, x1, x2, x3] : List UInt8).take (s.size - p)).length ≤ s.data.toList.length := by rw [hls]; omega
  have hiff := detects_iff s.data.toList p _ hfit h44
  have hsz2 : s.size = (putB s.data.toList p ([x0, x1, x2, x3].take (s.size - p))).length := by rw [putB_length _ _ _ hfit]; exact hls.symm
  generalize putB s.data.toList p ([x0, x1, x2, x3].take (s.size - p)) = L at *
  have hof : Hid (∀ W, Calls Tryd.prog 11 #[.string (strB L)] W fun e w' => e = .returned (.int .u32 (rg (crcB L))) ∧ Below W.heap.size W w') := Lib.hid (fun W => by
    have h := ofS_any (strB L) (by rw [strB_size, ← hsz2]; omega) W
    rwa [strB_list] at h)
  have hof2 : Hid (∀ W, Calls Tryd.prog 11 #[.string s] W fun e w' => e = .returned (.int .u32 (rg (crcB s.data.toList))) ∧ Below W.heap.size W w') := Lib.hid (fun W => ofS_any s (by omega) W)
  have hfin : (((strB L).toList == s.toList) == (rg (crcB L) == rg (crcB s.data.toList))) = true := by
    have e1 : ((strB L).toList == s.toList) = (L == s.data.toList) := by rw [ByteArray.toList_eq, ByteArray.toList_eq, strB_list]
    rw [e1]
    by_cases e : L = s.data.toList
    · rw [e]; simp
    · have ne : ¬ rg (crcB L) = rg (crcB s.data.toList) := fun h => e (hiff.2 (u32_inj h))
      rw [beq_eq_false_iff_ne.2 e, beq_eq_false_iff_ne.2 ne]; rfl
  have HF := Lib.hid hfin
  have HSZ := Lib.hid hsz2
  clear h4 h44 hq hfit hls hiff hfin hsz2
  generalize hT : strB L = T at *
  generalize rg (crcB L) = c1 at *
  generalize rg (crcB s.data.toList) = c2 at *
  go_wp2_with fail
  apply wp_onceR (fun x => EB w x)
  · refine wp_region_held_drew (S := fun x => EB w x ∧ RowB x (w.heap.size + 1) L) (by kernel_rfl) ⟨W2.out.1.step ((Below.refl _ w2).drew), W2.out.2.drew⟩ (fun hHeld => ?_)
    refine wpAnyH_norm (f := 15) (L := #[false, false, false, false, false, false, false, false, false, false, false, false, false, false, false]) (by kernel_rfl) (by kernel_rfl) ?_
    refine wpAnyH_ready (rs := [0]) (by kernel_rfl) (by simp) ?_
    refine AllReadyH.cons rfl (fun K hK => ?_) AllReadyH.nil
    simp only [List.getElem_toArray, List.getElem_cons_zero, List.getElem_cons_succ]
    go_simp
    refine (sanity4_any _ hHeld.1.1).mono ?_
    rintro x x1 ⟨rfl, hb⟩
    simp only []
    refine hK.out _ _ (⟨hHeld.1.step hb, hHeld.2.below hb⟩) (fun hHeld1 => ?_)
    clear hK K hb hHeld
    (try simp only [List.getElem_toArray, List.getElem_cons_zero, List.getElem_cons_succ, Act.put, List.setIfInBounds_toArray, List.set_cons_zero, List.set_cons_succ])
    refine wpAnyH_take (i := 1) (v := ?yv1) rfl (by kernel_rfl) (by kernel_rfl) (by kernel_rfl) (fun _ _ _ h => h) (Or.inl ⟨by rfl, ?yy1⟩) hHeld1 ?yr1
    case yy1 => (intro W hW; clear hW; first | (go_simp; done) | (go_simp; with_reducible rfl))
    (try simp only [List.getElem_toArray, List.getElem_cons_zero, List.getElem_cons_succ, Act.put, List.setIfInBounds_toArray, List.set_cons_zero, List.set_cons_succ])
    refine wpAnyH_take (i := 2) (v := ?yv2) rfl (by kernel_rfl) (by kernel_rfl) (by kernel_rfl) (fun _ _ _ h => h) (Or.inl ⟨by rfl, ?yy2⟩) hHeld1 ?yr2
    case yy2 => (intro W hW; clear hW; first | (go_simp; done) | (go_simp; with_reducible rfl))
    (try simp only [List.getElem_toArray, List.getElem_cons_zero, List.getElem_cons_succ, Act.put, List.setIfInBounds_toArray, List.set_cons_zero, List.set_cons_succ])
    refine wpAnyH_take (i := 3) (v := ?yv3) rfl (by kernel_rfl) (by kernel_rfl) (by kernel_rfl) (fun _ _ _ h => h) (Or.inl ⟨by rfl, ?yy3⟩) hHeld1 ?yr3
    case yy3 => (intro W hW; have hc := hW.2.str s.size cap HSZ.out; clear hW; rw [hT] at hc; first | (go_simp; done) | (go_simp; with_reducible rfl))
    (try simp only [List.getElem_toArray, List.getElem_cons_zero, List.getElem_cons_succ, Act.put, List.setIfInBounds_toArray, List.set_cons_zero, List.set_cons_succ])
    refine wpAnyH_take (i := 4) (v := ?yv4) rfl (by kernel_rfl) (by kernel_rfl) (by kernel_rfl) (fun _ _ _ h => h) (Or.inl ⟨by rfl, ?yy4⟩) hHeld1 ?yr4
    case yy4 => (intro W hW; clear hW; first | (go_simp; done) | (go_simp; with_reducible rfl))
    (try simp only [List.getElem_toArray, List.getElem_cons_zero, List.getElem_cons_succ, Act.put, List.setIfInBounds_toArray, List.set_cons_zero, List.set_cons_succ])
    refine wpAnyH_take (i := 5) (v := ?yv5) rfl (by kernel_rfl) (by kernel_rfl) (by kernel_rfl) (fun _ _ _ h => h) (Or.inl ⟨by rfl, ?yy5⟩) hHeld1 ?yr5
    case yy5 => (intro W hW; clear hW; first | (go_simp; done) | (go_simp; with_reducible rfl))
    (try simp only [List.getElem_toArray, List.getElem_cons_zero, List.getElem_cons_succ, Act.put, List.setIfInBounds_toArray, List.set_cons_zero, List.set_cons_succ])
    refine wpAnyH_take (i := 6) (v := ?yv6) rfl (by kernel_rfl) (by kernel_rfl) (by kernel_rfl) (fun _ _ _ h => h) (Or.inl ⟨by rfl, ?yy6⟩) hHeld1 ?yr6
    case yy6 => (intro W hW; clear hW; first | (go_simp; done) | (go_simp; with_reducible rfl))
    (try simp only [List.getElem_toArray, List.getElem_cons_zero, List.getElem_cons_succ, Act.put, List.setIfInBounds_toArray, List.set_cons_zero, List.set_cons_succ])
    refine wpAnyH_take (i := 7) (v := ?yv7) rfl (by kernel_rfl) (by kernel_rfl) (by kernel_rfl) (fun _ _ _ h => h) (Or.inl ⟨by rfl, ?yy7⟩) hHeld1 ?yr7
    case yy7 => (intro W hW; have hc := hW.2.str s.size cap HSZ.out; clear hW; rw [hT] at hc; first | (go_simp; done) | (go_simp; with_reducible rfl))
    (try simp only [List.getElem_toArray, List.getElem_cons_zero, List.getElem_cons_succ, Act.put, List.setIfInBounds_toArray, List.set_cons_zero, List.set_cons_succ])
    refine wpAnyH_take (i := 9) (v := ?yv9) rfl (by kernel_rfl) (by kernel_rfl) (by kernel_rfl) (fun _ _ _ h => h) (Or.inl ⟨by rfl, ?yy9⟩) hHeld1 ?yr9
    case yy9 => (intro W hW; clear hW; first | (go_simp; done) | (go_simp; with_reducible rfl))
    (try simp only [List.getElem_toArray, List.getElem_cons_zero, List.getElem_cons_succ, Act.put, List.setIfInBounds_toArray, List.set_cons_zero, List.set_cons_succ])
    refine wpAnyH_ready (rs := [8]) (by kernel_rfl) (by simp) ?_
    refine AllReadyH.cons rfl (fun K hK => ?_) AllReadyH.nil
    simp only [List.getElem_toArray, List.getElem_cons_zero, List.getElem_cons_succ]
    go_simp
    refine (hof.out _).mono ?_
    rintro x x2 ⟨rfl, hb⟩
    simp only []
    refine hK.out _ _ (⟨hHeld1.1.step hb, hHeld1.2.below hb⟩) (fun hHeld2 => ?_)
    clear hK K hb hHeld1
    (try simp only [List.getElem_toArray, List.getElem_cons_zero, List.getElem_cons_succ, Act.put, List.setIfInBounds_toArray, List.set_cons_zero, List.set_cons_succ])
    refine wpAnyH_ready (rs := [10]) (by kernel_rfl) (by simp) ?_
    refine AllReadyH.cons rfl (fun K hK => ?_) AllReadyH.nil
    simp only [List.getElem_toArray, List.getElem_cons_zero, List.getElem_cons_succ]
    go_simp
    refine (hof2.out _).mono ?_
    rintro x x3 ⟨rfl, hb⟩
    simp only []
    refine hK.out _ _ (⟨hHeld2.1.step hb, hHeld2.2.below hb⟩) (fun hHeld3 => ?_)
    clear hK K hb hHeld2
    (try simp only [List.getElem_toArray, List.getElem_cons_zero, List.getElem_cons_succ, Act.put, List.setIfInBounds_toArray, List.set_cons_zero, List.set_cons_succ])
    refine wpAnyH_take (i := 11) (v := ?yv11) rfl (by kernel_rfl) (by kernel_rfl) (by kernel_rfl) (fun _ _ _ h => h) (Or.inl ⟨by rfl, ?yy11⟩) hHeld3 ?yr11
    case yy11 => (intro W hW; clear hW; first | (go_simp; done) | (go_simp; with_reducible rfl))
    (try simp only [List.getElem_toArray, List.getElem_cons_zero, List.getElem_cons_succ, Act.put, List.setIfInBounds_toArray, List.set_cons_zero, List.set_cons_succ])
    refine wpAnyH_take (i := 12) (v := ?yv12) rfl (by kernel_rfl) (by kernel_rfl) (by kernel_rfl) (fun _ _ _ h => h) (Or.inl ⟨by rfl, ?yy12⟩) hHeld3 ?yr12
    case yy12 => (intro W hW; clear hW; first | (go_simp; done) | (go_simp; with_reducible rfl))
    (try simp only [List.getElem_toArray, List.getElem_cons_zero, List.getElem_cons_succ, Act.put, List.setIfInBounds_toArray, List.set_cons_zero, List.set_cons_succ])
    refine wpAnyH_take (i := 13) (v := ?yv13) rfl (by kernel_rfl) (by kernel_rfl) (by kernel_rfl) (fun _ _ _ h => h) (Or.inl ⟨by rfl, ?yy13⟩) hHeld3 ?yr13
    case yy13 => (intro W hW; clear hW; first | (go_simp; done) | (go_simp; with_reducible rfl))
    (try simp only [List.getElem_toArray, List.getElem_cons_zero, List.getElem_cons_succ, Act.put, List.setIfInBounds_toArray, List.set_cons_zero, List.set_cons_succ])
    refine wpAnyH_take (i := 14) (v := ?yv14) rfl (by kernel_rfl) (by kernel_rfl) (by kernel_rfl) (fun _ _ _ h => h) (Or.inl ⟨by rfl, ?yy14⟩) hHeld3 ?yr14
    case yy14 => (intro W hW; clear hW; first | (go_simp; done) | (go_simp; with_reducible rfl))
    (try simp only [List.getElem_toArray, List.getElem_cons_zero, List.getElem_cons_succ, Act.put, List.setIfInBounds_toArray, List.set_cons_zero, List.set_cons_succ])
    refine wpAnyH_done (by kernel_rfl) ?_ _
    exact ⟨rfl, hHeld3.1⟩
  intro w3 hw3
  rw [HF.out]
  go_wp2_with fail
  go_ret
  exact ⟨rfl, hw3.2⟩

theorem detects_walk (s : ByteArray) (p : Int) (x0 x1 x2 x3 : UInt8) (w : World) (hE : ExpW w) :
    Calls Tryd.prog 6 #[.string s, .int .i64 p, .agg #[.int .u8 (x0.toNat : Int), .int .u8 (x1.toNat : Int), .int .u8 (x2.toNat : Int), .int .u8 (x3.toNat : Int)]] w fun e w' => e = .returned (.bool true) ∧ Below w.heap.size w w' := by
  by_cases h : 300 < (s.size : Int) ∨ p < 0 ∨ (s.size : Int) ≤ p
  · exact detects_bad s p x0 x1 x2 x3 w hE h
  · obtain ⟨p, rfl⟩ := Int.eq_ofNat_of_zero_le (show 0 ≤ p by omega)
    exact detects_good s p x0 x1 x2 x3 w hE (by omega) (by omega)
end Go.Proofs.YtiakaloabeendaaDoor
