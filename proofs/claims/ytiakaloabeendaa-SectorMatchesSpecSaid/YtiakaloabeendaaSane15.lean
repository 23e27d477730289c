/- The walk of solventlaw15.sanity. -/
import Derived.Test.YtiakaloabeendaaSealed
import Derived.Test.YtiakaloabeendaaPadded
namespace Go.Proofs.Ytiakaloabeendaa
open Go.RowKit
set_option linter.unusedSimpArgs false

def S0 : List UInt8 := sealB 3 4 258 1 5 [97, 98, 99]
def Z64 : ByteArray := strB (List.replicate 64 0)

/-- What the examples keep in memory: the place, the generation; nothing else has turned. -/
def Two (w x : World) : Prop := x.heap[w.heap.size]? = some (.cells #[.int .i64 3, .int .i64 4, .int .i64 258] 41 (0, 0)) ∧
  x.heap[w.heap.size + 1]? = some (.cells #[.int .i64 1, .int .i64 5] 35 (0, 0)) ∧ Below w.heap.size w x ∧ w.heap.size + 2 ≤ x.heap.size
theorem Two.step {w x y : World} (h : Two w x) (hb : Below x.heap.size x y) : Two w y :=
  ⟨(hb.block _ (by have := h.2.2.2; omega)).trans h.1, (hb.block _ (by have := h.2.2.2; omega)).trans h.2.1, h.2.2.1.trans (hb.mono h.2.2.1.size), Nat.le_trans h.2.2.2 hb.size⟩
theorem Two.alloc {w x : World} (h : Two w x) (o : Obj) : Two w (x.alloc o) := h.step ((Below.refl _ x).alloc (Nat.le_refl _) o)
theorem Two.drew {w x : World} (h : Two w x) : Two w x.drew := h.step (Below.refl _ x).drew
theorem kept_step {x y : World} {k : Nat} {o : Obj} (h : x.heap[k]? = some o) (hb : Below x.heap.size x y) : y.heap[k]? = some o :=
  (hb.block _ (Array.getElem?_eq_some_iff.1 h).1).trans h

theorem kept_of15 {x y : World} {k : Nat} {o : Obj} (hb : Below x.heap.size x y) (h : x.heap[k]? = some o) : y.heap[k]? = some o := kept_step h hb

/-- All orders come to one act but for one slot. -/
def OnceV (k : Nat) (A : Act) (R : World → Prop) : Exit → Act → World → Prop
  | .normal, a, w => a.put (some k) undef = A ∧ R w
  | _, _, _ => False
theorem put_back (a : Act) (k : Nat) : (a.put (some k) undef).put (some k) (a.tmps.getD k undef) = a := by
  cases a with
  | mk tmps defers =>
    simp only [Act.put]
    congr 1
    apply Array.ext_getElem?
    intro i
    rw [Array.setIfInBounds_setIfInBounds, Array.getElem?_setIfInBounds, Array.getD_eq_getD_getElem?]
    split
    · rename_i h
      subst h
      split
      · rename_i h2
        rw [Array.getElem?_eq_getElem h2]; rfl
      · rename_i h2
        rw [Array.getElem?_eq_none (by omega)]
    · rfl
theorem wp_onceV {P : Program} {c : Code} {a : Act} {w : World} {Q : Exit → Act → World → Prop} (k : Nat) (R : World → Prop) (A : Act) (h2 : c.wp P (OnceV k A R) a w) (h1 : ∀ v W, R W → Q .normal (A.put (some k) v) W) : c.wp P Q a w :=
  Code.wp_mono (fun e a' w' h => by
    cases e with
    | normal =>
      obtain ⟨h, hr⟩ := h
      have := h1 (a'.tmps.getD k undef) w' hr
      rwa [← h, put_back] at this
    | _ => exact (h : False).elim) h2

/-- The same, but for two slots. -/
def OnceV2 (k l : Nat) (A : Act) (R : World → Prop) : Exit → Act → World → Prop
  | .normal, a, w => (a.put (some k) undef).put (some l) undef = A ∧ R w
  | _, _, _ => False
theorem wp_onceV2 {P : Program} {c : Code} {a : Act} {w : World} {Q : Exit → Act → World → Prop} (k l : Nat) (R : World → Prop) (A : Act) (h2 : c.wp P (OnceV2 k l A R) a w) (h1 : ∀ u v W, R W → Q .normal ((A.put (some l) u).put (some k) v) W) : c.wp P Q a w :=
  Code.wp_mono (fun e a' w' h => by
    cases e with
    | normal =>
      obtain ⟨h, hr⟩ := h
      have := h1 ((a'.put (some k) undef).tmps.getD l undef) (a'.tmps.getD k undef) w' hr
      rwa [← h, put_back, put_back] at this
    | _ => exact (h : False).elim) h2

/-- A row of zero bytes reads as a string of zero bytes. -/
theorem conv_zeros {W : World} {b n : Nat} {M : Array Value} {t : TypeId} (ht : t = 5) (h : W.heap[b]? = some (.cells M t (0, 0))) (hM : M.toList = bvs (List.replicate n 0)) (hn : n ≤ 1000) :
    (convert 22 9 (.slice (some ⟨b, 0, none⟩) n n)).run Try.prog W = .ok (.string (strB (List.replicate n 0))) W := by
  subst ht
  have hs : M.size = n := by rw [← Array.length_toList, hM]; simp [bvs]
  refine OwnB.str (base := 0) ?_
  unfold OwnB
  rw [List.length_replicate]
  refine ⟨by simp [bvs], .inr ⟨b, n, M, rfl, Nat.zero_le _, h, Nat.le_refl _, by unfold maxLen; omega, by simpa using hs, by rw [hM, List.take_of_length_le (by simp [bvs])]⟩⟩

theorem make_zeros (n : Nat) (hn : n ≤ 1000) : ∃ M : Array Value, M.toList = bvs (List.replicate n 0) ∧ ∀ W : World, (Instr.makeSlice 22 (.int .i64 (n : Int)) (.int .i64 (n : Int))).run Try.prog W = .ok (.slice (some ⟨W.heap.size, 0, none⟩) n n) (W.alloc (.cells M 5)) := by
  obtain ⟨i0, hi, hz0, hz1, hz2⟩ := info_parts infoByte
  refine ⟨madeCells #[Value.int .u8 0] n, by rw [toList_madeCells_one]; simp [bvs], fun W => ?_⟩
  have h := run_make (P := Try.prog) W 22 5 i0 (.int .u8 0) Try.underlying22 hi hz0 .i64 .i64 (n : Int) (n : Int) (by omega) (by omega) (by rw [hz2]; omega) (by omega)
  have e : (Value.int .u8 0).cells = #[Value.int .u8 0] := rfl
  rw [e, hz1] at h
  simpa using h

theorem sub_ext15 (s : ByteArray) (i j : Nat) : (s.extract i j).data.toList = sub s.data.toList i j := by
  unfold sub; simp

theorem S0_head : sub S0 4 20 = [4, 3, 2, 1, 1, 0, 0, 0, 5, 0, 0, 0, 97, 98, 99, 0] := by
  unfold S0 sub
  rw [seal_drop4]
  decide +kernel
theorem S0_tail : sub S0 56 64 = sub S0 8 16 := by
  have h1 : sub S0 8 16 = genB 1 5 := seal_gen _ _ _ _ _ _
  have h2 : S0.drop 56 = genB 1 5 := seal_drop56 _ _ _ _ _ _ (by decide)
  rw [h1]
  unfold sub
  rw [h2]
  decide +kernel

theorem seal0 (w : World) : Calls Try.prog 27 #[.agg #[.int .i64 3, .int .i64 4, .int .i64 258], .agg #[.int .i64 1, .int .i64 5], .string ⟨#[97, 98, 99]⟩] w
    fun x w' => x = .returned (.tuple #[.string (strB S0), .int .i64 0]) ∧ Below w.heap.size w w' := by
  exact seal_good 3 4 258 1 5 ⟨#[97, 98, 99]⟩ w (by decide) (by decide) (by decide)
theorem seal41 (w : World) : Calls Try.prog 27 #[.agg #[.int .i64 3, .int .i64 4, .int .i64 258], .agg #[.int .i64 1, .int .i64 5], .string (strB (List.replicate 41 0))] w
    fun x w' => x = .returned (.tuple #[.string ⟨#[]⟩, .int .i64 1]) ∧ Below w.heap.size w w' := by
  exact seal_bad2 3 4 258 1 5 _ w (by decide) (.inr ⟨by decide, by decide⟩)

set_option maxRecDepth 100000 in
set_option maxHeartbeats 4000000 in
theorem sanity15_of (hS : LabelOk (strB S0) 3 4 258 1 5) (hZ : LabelErr Z64 7) (w : World) :
    Calls Try.prog 26 #[] w fun x w' => x = .returned (.bool true) ∧ Below w.heap.size w w' := by
  have HS := Lib.hid hS
  have HZ := Lib.hid hZ
  clear hS hZ
  go_enter Try.func26, Try.ntmps26
  go_wp2_with fail
  refine (seal0 _).mono ?_
  rintro x w1 ⟨rfl, hb⟩
  have T1 : Hid (Two w w1) := Lib.hid (Two.step ⟨(two_new w _ _).1, (two_new w _ _).2, ((Below.refl _ w).alloc (Nat.le_refl _) _).alloc (by simp) _, by simp⟩ hb)
  clear hb
  obtain ⟨c0, c1, c2, _⟩ := cells3 T1.out.1
  generalize hX : strB S0 = X at *
  have EX := Lib.hid hX
  clear hX
  go_wp2_with fail
  refine (open_good 3 4 258 1 5 X _ (by rw [← EX.out]; rfl) (by decide) HS.out).mono ?_
  rintro x w2 ⟨rfl, hb⟩
  have T2 := Lib.hid (T1.out.step hb)
  clear hb T1 c0 c1 c2
  obtain ⟨c0, c1, c2, _⟩ := cells3 T2.out.1
  have hY : X.extract 16 56 = strB (pad [97, 98, 99]) := by
    rw [← strB_self (X.extract 16 56), sub_ext15, ← EX.out, strB_list]
    unfold S0
    rw [seal_pay _ _ _ _ _ _ (by decide)]
  rw [hY]
  clear hY
  have hpad : Hid (∀ W : World, Calls Try.prog 36 #[.string ⟨#[97, 98, 99]⟩] W fun x w' => x = .returned (.string (strB (pad [97, 98, 99]))) ∧ Below W.heap.size W w') := Lib.hid (fun W => padded_any ⟨#[97, 98, 99]⟩ W (by decide))
  generalize strB (pad [97, 98, 99]) = Y at *
  go_wp2_with fail
  refine (open_other 3 4 258 2 4 258 1 5 X _ (by decide) HS.out (by decide)).mono ?_
  rintro x w3 ⟨rfl, hb⟩
  have T3 := Lib.hid ((T2.out.alloc _).step hb)
  have K3 : Hid (w3.heap[w2.heap.size]? = some (.cells #[.int .i64 1, .int .i64 5] 35 (0, 0))) := Lib.hid (kept_step (heap_alloc_new w2 _) hb)
  clear hb T2 c0 c1 c2
  generalize w2.heap.size = g at *
  obtain ⟨c0, c1, c2, _⟩ := cells3 T3.out.1
  go_wp2_with fail
  have T4 := Lib.hid (T3.out.alloc (Obj.cells #[Value.int IntKind.i64 0, Value.int IntKind.i64 0] 35))
  have K4 := Lib.hid (kept_step K3.out ((Below.refl _ w3).alloc (Nat.le_refl _) (Obj.cells #[Value.int IntKind.i64 0, Value.int IntKind.i64 0] 35)))
  generalize (w3.alloc (Obj.cells #[Value.int IntKind.i64 0, Value.int IntKind.i64 0] 35)) = w4 at *
  clear T3 K3 c0 c1 c2
  obtain ⟨M, hM, hmk⟩ := make_zeros 64 (by decide)
  replace hmk : ∀ W : World, (Instr.makeSlice 22 (.int .i64 64) (.int .i64 64)).run Try.prog W = .ok (.slice (some ⟨W.heap.size, 0, none⟩) 64 64) (W.alloc (.cells M 5)) := hmk
  have k0 : ∀ o, (w4.alloc o).cell? ⟨w.heap.size, 0, none⟩ = some (.int .i64 3) ∧ (w4.alloc o).cell? ⟨w.heap.size, 1, none⟩ = some (.int .i64 4) ∧ (w4.alloc o).cell? ⟨w.heap.size, 2, none⟩ = some (.int .i64 258) := fun o => by
    have h := cells3 (T4.out.alloc o).1
    exact ⟨h.1, h.2.1, h.2.2.1⟩
  have k1 : ∀ o p, ((w4.alloc o).alloc p).cell? ⟨w.heap.size, 0, none⟩ = some (.int .i64 3) ∧ ((w4.alloc o).alloc p).cell? ⟨w.heap.size, 1, none⟩ = some (.int .i64 4) ∧ ((w4.alloc o).alloc p).cell? ⟨w.heap.size, 2, none⟩ = some (.int .i64 258) := fun o p => by
    have h := cells3 ((T4.out.alloc o).alloc p).1
    exact ⟨h.1, h.2.1, h.2.2.1⟩
  obtain ⟨c0, c1, c2, _⟩ := cells3 T4.out.1
  have hA : (convert 22 9 (.slice (some ⟨w4.heap.size, 0, none⟩) 64 64)).run Try.prog (w4.alloc (.cells M 5)).drew = .ok (.string Z64) (w4.alloc (.cells M 5)).drew :=
    conv_zeros rfl (heap_alloc_new w4 _) hM (by decide)
  have hB : ∀ o, (convert 22 9 (.slice (some ⟨w4.heap.size, 0, none⟩) 64 64)).run Try.prog ((w4.alloc (.cells M 5)).alloc o).drew = .ok (.string Z64) ((w4.alloc (.cells M 5)).alloc o).drew := fun o =>
    conv_zeros rfl (two_new w4 _ _).1 hM (by decide)
  have hC : ∀ o, (convert 22 9 (.slice (some ⟨w4.heap.size + 1, 0, none⟩) 64 64)).run Try.prog ((w4.alloc o).alloc (.cells M 5)).drew = .ok (.string Z64) ((w4.alloc o).alloc (.cells M 5)).drew := fun o =>
    conv_zeros rfl (two_new w4 _ _).2 hM (by decide)
  have hO : Hid (∀ W : World, Calls Try.prog 28 #[.agg #[.int .i64 3, .int .i64 4, .int .i64 258], .string Z64] W fun x w' => x = .returned (.tuple #[.agg #[.int .i64 0, .int .i64 0], .string ⟨#[]⟩, .int .i64 7]) ∧ Below W.heap.size W w') := Lib.hid (fun W => open_err 3 4 258 Z64 7 W (by decide) HZ.out (.inr rfl))
  generalize Z64 = ZZ at *
  apply wp_onceV2 11 41 (fun x => Below w4.heap.size w4 x)
  · first
    | go_region_with (first
      | (go_at_call 28; refine (hO.out _).mono ?_; rintro x w5 ⟨rfl, hb⟩; have H5 : Below w4.heap.size w4 w5 := ((Below.refl _ w4).alloc (Nat.le_refl _) (.cells M 5)).drew.trans (hb.mono (by simp)); clear hb)
      | (go_at_call 28; refine (hO.out _).mono ?_; rintro x w5 ⟨rfl, hb⟩; have H5 : Below w4.heap.size w4 w5 := (bel2 (Below.refl _ w4) (Nat.le_refl _) (.cells M 5) (Obj.cells #[Value.int IntKind.i64 0, Value.int IntKind.i64 0] 35)).drew.trans (hb.mono (by simp; omega)); have q := cells2 (kept_of15 hb (two_new w4 (.cells M 5) (Obj.cells #[Value.int IntKind.i64 0, Value.int IntKind.i64 0] 35)).2); obtain ⟨q0, q1, q2⟩ := q; clear hb)
      | (go_at_call 28; refine (hO.out _).mono ?_; rintro x w5 ⟨rfl, hb⟩; have H5 : Below w4.heap.size w4 w5 := (bel2 (Below.refl _ w4) (Nat.le_refl _) (Obj.cells #[Value.int IntKind.i64 0, Value.int IntKind.i64 0] 35) (.cells M 5)).drew.trans (hb.mono (by simp; omega)); have q := cells2 (kept_of15 hb (two_new w4 (Obj.cells #[Value.int IntKind.i64 0, Value.int IntKind.i64 0] 35) (.cells M 5)).1); obtain ⟨q0, q1, q2⟩ := q; clear hb))
    | fail
    all_goals
      refine ⟨by first | (simp only [Act.put, List.setIfInBounds_toArray, List.set_cons_zero, List.set_cons_succ, List.getElem_toArray, List.getElem_cons_zero, List.getElem_cons_succ]; done) | (simp only [Act.put, List.setIfInBounds_toArray, List.set_cons_zero, List.set_cons_succ, List.getElem_toArray, List.getElem_cons_zero, List.getElem_cons_succ]; rfl) | rfl, ?_⟩
      first
        | exact H5
        | exact H5.alloc H5.size _
        | exact (H5.setCell (by simp) _).setCell (by simp) _
        | exact ((H5.alloc H5.size _).setCell (by have := H5.size; simp; omega) _).setCell (by have := H5.size; simp; omega) _
  intro u v w6 hb
  have T6 : Hid (Two w w6) := Lib.hid (T4.out.step hb)
  have K6 := Lib.hid (kept_step K4.out hb)
  clear hb T4 K4 k0 k1 c0 c1 c2 hA hB hC hmk hM hO
  simp only [Act.put, List.setIfInBounds_toArray, List.set_cons_zero, List.set_cons_succ]
  go_wp2_with fail
  obtain ⟨c0, c1, c2, _⟩ := cells3 T6.out.1
  obtain ⟨e0, e1, _⟩ := cells2 T6.out.2.1
  have k0 : ∀ o, (w6.alloc o).cell? ⟨w.heap.size, 0, none⟩ = some (.int .i64 3) ∧ (w6.alloc o).cell? ⟨w.heap.size, 1, none⟩ = some (.int .i64 4) ∧ (w6.alloc o).cell? ⟨w.heap.size, 2, none⟩ = some (.int .i64 258) := fun o => by
    have h := cells3 (T6.out.alloc o).1
    exact ⟨h.1, h.2.1, h.2.2.1⟩
  have k1 : ∀ o, (w6.alloc o).cell? ⟨w.heap.size + 1, 0, none⟩ = some (.int .i64 1) ∧ (w6.alloc o).cell? ⟨w.heap.size + 1, 1, none⟩ = some (.int .i64 5) := fun o => by
    have h := cells2 (T6.out.alloc o).2.1
    exact ⟨h.1, h.2.1⟩
  obtain ⟨M, hM, hmk⟩ := make_zeros 41 (by decide)
  replace hmk : ∀ W : World, (Instr.makeSlice 22 (.int .i64 41) (.int .i64 41)).run Try.prog W = .ok (.slice (some ⟨W.heap.size, 0, none⟩) 41 41) (W.alloc (.cells M 5)) := hmk
  have hA : (convert 22 9 (.slice (some ⟨w6.heap.size, 0, none⟩) 41 41)).run Try.prog (w6.alloc (.cells M 5)).drew = .ok (.string (strB (List.replicate 41 0))) (w6.alloc (.cells M 5)).drew :=
    conv_zeros rfl (heap_alloc_new w6 _) hM (by decide)
  have hO := Lib.hid seal41
  generalize strB (List.replicate 41 0) = Z41 at *
  apply wp_onceW (fun x => Below w6.heap.size w6 x)
  · first
    | go_region_with (go_at_call 27; refine (hO.out _).mono ?_; rintro x w7 ⟨rfl, hb⟩; have H7 : Below w6.heap.size w6 w7 := ((Below.refl _ w6).alloc (Nat.le_refl _) (.cells M 5)).drew.trans (hb.mono (by simp)); clear hb)
    | fail
    all_goals exact ⟨by first | (simp only [Act.put, List.setIfInBounds_toArray, List.set_cons_zero, List.set_cons_succ, List.getElem_toArray, List.getElem_cons_zero, List.getElem_cons_succ]; done) | (simp only [Act.put, List.setIfInBounds_toArray, List.set_cons_zero, List.set_cons_succ, List.getElem_toArray, List.getElem_cons_zero, List.getElem_cons_succ]; rfl) | rfl, H7⟩
  intro w8 hb
  have T8 : Hid (Two w w8) := Lib.hid (T6.out.step hb)
  have K8 := Lib.hid (kept_step K6.out hb)
  clear hb T6 K6 k0 k1 c0 c1 c2 e0 e1 hA hmk hM hO
  obtain ⟨c0, c1, _⟩ := cells2 T8.out.2.1
  obtain ⟨e0, e1, _⟩ := cells2 K8.out
  have hX64 : X.size = 64 := by rw [← EX.out]; rfl
  go_wp2_with fail
  have hH : ((X.extract 4 20).toList == [4, 3, 2, 1, 1, 0, 0, 0, 5, 0, 0, 0, 97, 98, 99, 0]) = true := by
    rw [ByteArray.toList_eq, sub_ext15, ← EX.out, strB_list, S0_head]; rfl
  have hT : ((X.extract 56 64).toList == (X.extract 8 16).toList) = true := by
    rw [ByteArray.toList_eq, ByteArray.toList_eq, sub_ext15, sub_ext15, ← EX.out, strB_list, S0_tail, beq_self_eq_true]
  go_quiet (fail)
  clear hH hT
  go_wp2_with fail
  refine (hpad.out _).mono ?_
  rintro x w9 ⟨rfl, hb⟩
  have T9 : Hid (Two w w9) := Lib.hid ((T8.out.step (y := w8.drewN nq) ⟨rfl, rfl, rfl, Nat.le_refl _, fun _ _ => rfl⟩).step hb)
  clear hb T8 K8 c0 c1 e0 e1
  obtain ⟨c0, c1, _⟩ := cells2 T9.out.2.1
  go_wp2_with fail
  refine (newer_any 2 0 1 5 _).mono ?_
  rintro x w10 ⟨rfl, hb⟩
  have T10 : Hid (Two w w10) := Lib.hid (T9.out.step hb)
  have hn : newerB 2 0 1 5 = true := by decide
  rw [hn]
  clear hb T9 c0 c1 hn
  go_wp2_with fail
  go_ret
  exact ⟨rfl, T10.out.2.2.1⟩
end Go.Proofs.Ytiakaloabeendaa
