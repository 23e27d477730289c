/- The walk of the specification's Label, way D. -/
import Derived.Test.YtiakaloabeendaaRLabel0
import Derived.Deep.RegionHeld3
set_option linter.unusedSimpArgs false
set_option linter.unusedVariables false
namespace Go.Proofs.Ytiakaloabeendaa
open Go.RowKit

set_option maxRecDepth 100000 in
set_option maxHeartbeats 40000000 in
theorem rlabel_D (s : ByteArray) (h : s.size = 64) (hsum : un (sub s.data.toList 0 4) = (crcB (s.data.toList.drop 4)).toNat) (hv : validB (un (sub s.data.toList 5 6)) (un (sub s.data.toList 4 5)) (un (sub s.data.toList 6 8)) = true) (hg : genV (un (sub s.data.toList 8 12)) (un (sub s.data.toList 12 16)) = true) (ht : (sub s.data.toList 8 16 == sub s.data.toList 56 64) = false) : RLabelErr s 7 := fun w => by
  have hsum1 : un (s.extract 0 4).data.toList = (crcB (s.extract 4 64).data.toList).toNat := by
    rw [sub_ext, sub_ext, sub_four _ (by simpa using h)]; exact hsum
  have KS := Lib.hid hsum1
  clear hsum hsum1
  have KV := Lib.hid hv
  clear hv
  have KG := Lib.hid hg
  clear hg
  have ht2 : ((s.extract 8 16).toList == (s.extract 56 64).toList) = false := by rw [ByteArray.toList_eq, ByteArray.toList_eq, sub_ext, sub_ext]; exact ht
  have KT := Lib.hid ht2
  clear ht ht2
  go_enter Try.func31, Try.ntmps31
  go_wp2_with fail
  have R0 := Lib.hid (two_new w (Obj.cells #[Value.int IntKind.i64 0, Value.int IntKind.i64 0, Value.int IntKind.i64 0] 41) (Obj.cells #[Value.int IntKind.i64 0, Value.int IntKind.i64 0] 35))
  have B0 : Hid (Below w.heap.size w ((w.alloc (Obj.cells #[Value.int IntKind.i64 0, Value.int IntKind.i64 0, Value.int IntKind.i64 0] 41)).alloc (Obj.cells #[Value.int IntKind.i64 0, Value.int IntKind.i64 0] 35))) := Lib.hid (((Below.refl _ w).alloc (Nat.le_refl _) _).alloc (by simp) _)
  have Z0 : Hid (((w.alloc (Obj.cells #[Value.int IntKind.i64 0, Value.int IntKind.i64 0, Value.int IntKind.i64 0] 41)).alloc (Obj.cells #[Value.int IntKind.i64 0, Value.int IntKind.i64 0] 35)).heap.size = w.heap.size + 2) := Lib.hid (by simp)
  generalize ((w.alloc (Obj.cells #[Value.int IntKind.i64 0, Value.int IntKind.i64 0, Value.int IntKind.i64 0] 41)).alloc (Obj.cells #[Value.int IntKind.i64 0, Value.int IntKind.i64 0] 35)) = w0 at *
  have HS := Lib.hid h
  apply wp_once
  · go_region_held3 (fun x => True)
      (trivial)
      (first
        | (go_at_call 49; refine (read_any _ _ ?_).mono ?_; exact Nat.le_trans (ext_le _ _ _) (by decide); rintro x w1 ⟨rfl, rfl⟩))
    all_goals exact ⟨rfl, rfl⟩
  have e4 : IntKind.i64.wrap (s[4].toNat : Int) = ((s[4].toNat : Nat) : Int) := by have := s[4].toNat_lt; rw [IntKind.wrap_i64]; omega
  have e5 : IntKind.i64.wrap (s[5].toNat : Int) = ((s[5].toNat : Nat) : Int) := by have := s[5].toNat_lt; rw [IntKind.wrap_i64]; omega
  rw [e4, e5]
  clear e4 e5
  have hA : s[4].toNat = un (sub s.data.toList 4 5) := (un_one s.data.toList 4 (by simp [h])).symm
  have hD : s[5].toNat = un (sub s.data.toList 5 6) := (un_one s.data.toList 5 (by simp [h])).symm
  have hI : un (List.take 2 (List.drop 6 s.data.toList)) = un (sub s.data.toList 6 8) := rfl
  rw [hA, hD, hI]
  clear hA hD hI
  generalize hA : un (sub s.data.toList 4 5) = a at *
  generalize hD : un (sub s.data.toList 5 6) = d at *
  generalize hI : un (sub s.data.toList 6 8) = i at *
  rw [Z0.out]
  have P1 : Hid ((w0.alloc (Obj.cells #[Value.int IntKind.i64 d, Value.int IntKind.i64 a, Value.int IntKind.i64 i] 41)).drew.heap[w.heap.size + 2]? = some (.cells #[Value.int IntKind.i64 d, Value.int IntKind.i64 a, Value.int IntKind.i64 i] 41 (0, 0))) := Lib.hid (by rw [← Z0.out]; exact heap_alloc_new w0 _)
  have R1 : Hid (∀ k, k < 2 → (w0.alloc (Obj.cells #[Value.int IntKind.i64 d, Value.int IntKind.i64 a, Value.int IntKind.i64 i] 41)).drew.heap[w.heap.size + k]? = w0.heap[w.heap.size + k]?) := Lib.hid (fun k hk => Below.heap_alloc w0 _ _ (by rw [Z0.out]; omega))
  have R2 : Hid ((w0.alloc (Obj.cells #[Value.int IntKind.i64 d, Value.int IntKind.i64 a, Value.int IntKind.i64 i] 41)).drew.heap[w.heap.size + 0]? = some (.cells #[.int .i64 0, .int .i64 0, .int .i64 0] 41 (0, 0))) := Lib.hid ((R1.out 0 (by omega)).trans R0.out.1)
  have R3 : Hid ((w0.alloc (Obj.cells #[Value.int IntKind.i64 d, Value.int IntKind.i64 a, Value.int IntKind.i64 i] 41)).drew.heap[w.heap.size + 1]? = some (.cells #[.int .i64 0, .int .i64 0] 35 (0, 0))) := Lib.hid ((R1.out 1 (by omega)).trans R0.out.2)
  have B1 : Hid (Below w.heap.size w (w0.alloc (Obj.cells #[Value.int IntKind.i64 d, Value.int IntKind.i64 a, Value.int IntKind.i64 i] 41)).drew) := Lib.hid (B0.out.alloc B0.out.size _).drew
  have Z1 : Hid ((w0.alloc (Obj.cells #[Value.int IntKind.i64 d, Value.int IntKind.i64 a, Value.int IntKind.i64 i] 41)).drew.heap.size = w.heap.size + 3) := Lib.hid (by rw [World.size_drew, World.size_alloc, Z0.out])
  clear R0 R1 B0 Z0
  generalize (w0.alloc (Obj.cells #[Value.int IntKind.i64 d, Value.int IntKind.i64 a, Value.int IntKind.i64 i] 41)).drew = w1 at *
  have HA := Lib.hid hA
  have HD := Lib.hid hD
  have HI := Lib.hid hI
  clear hA hD hI
  go_wp2_with fail
  apply wp_once
  · go_region_held3 (fun x => True)
      (trivial)
      (first
        | (go_at_call 49; refine (read_any _ _ ?_).mono ?_; exact Nat.le_trans (ext_le _ _ _) (by decide); rintro x w2 ⟨rfl, rfl⟩))
    all_goals exact ⟨rfl, rfl⟩
  have hE : un (List.take 4 (List.drop 8 s.data.toList)) = un (sub s.data.toList 8 12) := rfl
  have hC : un (List.take 4 (List.drop 12 s.data.toList)) = un (sub s.data.toList 12 16) := rfl
  rw [hE, hC]
  clear hE hC
  generalize hE : un (sub s.data.toList 8 12) = e at *
  generalize hC : un (sub s.data.toList 12 16) = c at *
  have HE := Lib.hid hE
  have HC := Lib.hid hC
  clear hE hC
  have P2 : Hid ((w1.alloc (Obj.cells #[Value.int IntKind.i64 e, Value.int IntKind.i64 c] 35)).drew.heap[w.heap.size + 3]? = some (.cells #[Value.int IntKind.i64 e, Value.int IntKind.i64 c] 35 (0, 0))) := Lib.hid (by rw [← Z1.out]; exact heap_alloc_new w1 _)
  have B2 : Hid (Below (w.heap.size + 3) w1 (w1.alloc (Obj.cells #[Value.int IntKind.i64 e, Value.int IntKind.i64 c] 35)).drew) := Lib.hid (((Below.refl _ w1).alloc (by rw [Z1.out]; omega) _).drew)
  have Z2 : Hid ((w1.alloc (Obj.cells #[Value.int IntKind.i64 e, Value.int IntKind.i64 c] 35)).drew.heap.size = w.heap.size + 4) := Lib.hid (by rw [World.size_drew, World.size_alloc, Z1.out])
  rw [Z1.out]
  generalize (w1.alloc (Obj.cells #[Value.int IntKind.i64 e, Value.int IntKind.i64 c] 35)).drew = w2 at *
  have P1 := Lib.hid ((B2.out.block _ (by omega)).trans P1.out)
  have R2 := Lib.hid ((B2.out.block _ (by omega)).trans R2.out)
  have R3 := Lib.hid ((B2.out.block _ (by omega)).trans R3.out)
  have B2 := Lib.hid (B1.out.trans (B2.out.mono (by omega)))
  clear B1 Z1
  have PQ1 := Lib.hid (cells3 P1.out)
  have PQ2 := Lib.hid (cells2 P2.out)
  obtain ⟨p0, p1, p2, -⟩ := PQ1.out
  have EV : Hid (true = validB d a i) := Lib.hid KV.out.symm
  have EG : Hid (true = genV e c) := Lib.hid KG.out.symm
  go_wp2_with fail
  refine (rvalid_any d a i _).mono ?_
  rintro x w4 ⟨rfl, hb⟩
  rw [← EV.out]
  have B4 := Lib.hid (B2.out.trans (hb.mono B2.out.size))
  have P4 := Lib.hid ((hb.block _ (by have := Z2.out; omega)).trans P1.out)
  have Q4 := Lib.hid ((hb.block _ (by have := Z2.out; omega)).trans P2.out)
  have R4 := Lib.hid ((hb.block _ (by have := Z2.out; omega)).trans R2.out)
  have U4 := Lib.hid ((hb.block _ (by have := Z2.out; omega)).trans R3.out)
  have Z4 : Hid (w.heap.size + 4 ≤ w4.heap.size) := Lib.hid (by have := hb.size; have := Z2.out; omega)
  clear hb p0 p1 p2 PQ1 PQ2 P1 P2 R2 R3 B2 Z2
  obtain ⟨q0, q1, -⟩ := cells2 Q4.out
  go_wp2_with fail
  refine (right_any e c _).mono ?_
  rintro x w5 ⟨rfl, hb⟩
  rw [← EG.out]
  have B5 := Lib.hid (B4.out.trans (hb.mono B4.out.size))
  have P5 := Lib.hid ((hb.block _ (by have := Z4.out; omega)).trans P4.out)
  have Q5 := Lib.hid ((hb.block _ (by have := Z4.out; omega)).trans Q4.out)
  have R5 := Lib.hid ((hb.block _ (by have := Z4.out; omega)).trans R4.out)
  have U5 := Lib.hid ((hb.block _ (by have := Z4.out; omega)).trans U4.out)
  have Z5 : Hid (w.heap.size + 4 ≤ w5.heap.size) := Lib.hid (Nat.le_trans Z4.out hb.size)
  clear hb q0 q1 B4 P4 Q4 R4 U4 Z4
  have hconv : ∀ W : World, (convert 9 22 (.string (s.extract 4 64))).run Try.prog W = .ok (.slice (some ⟨W.heap.size, 0, none⟩) 60 (grownCap W 60 0 5)) (Lib.bytesWorld W 5 (s.extract 4 64)) := fun W => by
    have := Lib.run_convert_string_bytes (P := Try.prog) W 9 22 5 (s.extract 4 64) Try.underlying9 Try.underlying22 Try.underlying5
    rw [show (s.extract 4 64).size = 60 by rw [ByteArray.size_extract]; omega] at this
    exact this
  have hN1 : (crcB (s.extract 4 64).data.toList).toNat < 4294967296 := (crcB (s.extract 4 64).data.toList).isLt
  have hof : Hid (∀ (cap : Nat), Calls Try.prog 18 #[.slice (some ⟨w5.heap.size, 0, none⟩) 60 cap] (Lib.bytesWorld w5.drew 5 (s.extract 4 64)) fun x w' => x = .returned (.int .u32 (((crcB (s.extract 4 64).data.toList).toNat : Nat) : Int)) ∧ (Lib.bytesWorld w5.drew 5 (s.extract 4 64)) = w') := Lib.hid (fun cap => by
    have h60 : (s.extract 4 64).data.toList.length = 60 := by simp; omega
    have := refOf_any (s.extract 4 64).data.toList (some ⟨w5.heap.size, 0, none⟩) cap _ (bytesAt_conv w5.drew 5 (s.extract 4 64) (by rw [ByteArray.size_extract]; omega))
    rw [h60] at this
    exact this)
  have HCV : Hid (w5.heap.size ≤ (Lib.bytesWorld w5.drew 5 (s.extract 4 64)).heap.size ∧ Below (w.heap.size + 4) w5 (Lib.bytesWorld w5.drew 5 (s.extract 4 64))) := Lib.hid
    ⟨by rw [Lib.bytesWorld_size]; exact Nat.le_succ _, ((Below.refl _ w5).drew).trans (below_conv _ _ _ _ Z5.out)⟩
  have hget : Hid (∀ W : World, Calls Try.prog 49 #[.string (s.extract 0 4)] W fun x w' => x = .returned (.int .i64 (un (s.extract 0 4).data.toList)) ∧ w' = W) := Lib.hid (fun W => read_any _ W (Nat.le_trans (ext_le _ _ _) (by decide)))
  generalize hN : un (s.extract 0 4).data.toList = n0 at *
  generalize hM : (crcB (s.extract 4 64).data.toList).toNat = n1 at *
  have HN := Lib.hid hN
  have HM := Lib.hid hM
  have HN1 := Lib.hid hN1
  have ew : IntKind.i64.wrap (n1 : Int) = n1 := by rw [IntKind.wrap_i64]; omega
  clear hN hM hN1
  have hnn : n0 = n1 := KS.out
  subst hnn
  have ht3 := KT.out
  go_wp2_with fail
  apply wp_onceW (fun x => Below (w.heap.size + 4) w5 x)
  · refine wp_region_held_drew (S := fun x => w5.heap.size ≤ x.heap.size ∧ Below (w.heap.size + 4) w5 x) (by kernel_rfl) ⟨Nat.le_refl _, (Below.refl _ w5).drew⟩ (fun hHeld => ?_)
    refine wpAnyH_norm (f := 24) (L := #[false, false, false, false, false, false, false, false, false, false, false, false, false, false, false, false, false, false, false, false, false, false, false, false]) (by kernel_rfl) (by kernel_rfl) ?_
    refine wpAnyH_take (i := 0) (v := ?zv0) rfl (by kernel_rfl) (by kernel_rfl) (by kernel_rfl) (fun _ _ _ h => h) (Or.inl ⟨by rfl, ?zy0⟩) hHeld ?zr0
    case zy0 => (intro W hW; (try dsimp only at hW); first | (go_simp; done) | (go_simp; with_reducible rfl))
    (try simp only [List.getElem_toArray, List.getElem_cons_zero, List.getElem_cons_succ, Act.put, List.setIfInBounds_toArray, List.set_cons_zero, List.set_cons_succ])
    refine wpAnyH_take (i := 1) (v := ?zv1) rfl (by kernel_rfl) (by kernel_rfl) (by kernel_rfl) (fun _ _ _ h => h) (Or.inl ⟨by rfl, ?zy1⟩) hHeld ?zr1
    case zy1 => (intro W hW; (try dsimp only at hW); first | (go_simp; done) | (go_simp; with_reducible rfl))
    (try simp only [List.getElem_toArray, List.getElem_cons_zero, List.getElem_cons_succ, Act.put, List.setIfInBounds_toArray, List.set_cons_zero, List.set_cons_succ])
    refine wpAnyH_take (i := 3) (v := ?zv3) rfl (by kernel_rfl) (by kernel_rfl) (by kernel_rfl) (fun _ _ _ h => h) (Or.inl ⟨by rfl, ?zy3⟩) hHeld ?zr3
    case zy3 => (intro W hW; (try dsimp only at hW); first | (go_simp; done) | (go_simp; with_reducible rfl))
    (try simp only [List.getElem_toArray, List.getElem_cons_zero, List.getElem_cons_succ, Act.put, List.setIfInBounds_toArray, List.set_cons_zero, List.set_cons_succ])
    refine wpAnyH_take (i := 4) (v := ?zv4) rfl (by kernel_rfl) (by kernel_rfl) (by kernel_rfl) (fun _ _ _ h => h) (Or.inl ⟨by rfl, ?zy4⟩) hHeld ?zr4
    case zy4 => (intro W hW; (try dsimp only at hW); first | (go_simp; done) | (go_simp; with_reducible rfl))
    (try simp only [List.getElem_toArray, List.getElem_cons_zero, List.getElem_cons_succ, Act.put, List.setIfInBounds_toArray, List.set_cons_zero, List.set_cons_succ])
    apply cut_late
    · intro hX0
      have hX := Lib.hid hX0
      clear hX0
      refine wpAnyH_ready (rs := [2, 5]) (by kernel_rfl) (by simp) ?_
      refine AllReadyH.cons rfl (fun K hK => ?_) (AllReadyH.cons rfl (fun K hK => ?_) AllReadyH.nil)
      · skip
        simp only [List.getElem_toArray, List.getElem_cons_zero, List.getElem_cons_succ]
        go_simp
        refine (hget.out _).mono ?_
        rintro x w8 ⟨rfl, rfl⟩
        simp only []
        refine hK.out _ _ (by first | exact hHeld2 | exact hHeld) (fun hHeld2 => ?_)
        clear hK K
        (try simp only [List.getElem_toArray, List.getElem_cons_zero, List.getElem_cons_succ, Act.put, List.setIfInBounds_toArray, List.set_cons_zero, List.set_cons_succ])
        refine wpAnyH_ready (rs := [5]) (by kernel_rfl) (by simp) ?_
        refine AllReadyH.cons rfl (fun K hK => ?_) AllReadyH.nil
        simp only [List.getElem_toArray, List.getElem_cons_zero, List.getElem_cons_succ]
        go_simp
        refine hK.out _ _ ⟨HCV.out.1, HCV.out.2⟩ (fun hHeld2 => ?_)
        clear hK K
        (try simp only [List.getElem_toArray, List.getElem_cons_zero, List.getElem_cons_succ, Act.put, List.setIfInBounds_toArray, List.set_cons_zero, List.set_cons_succ])
        exact hX.out hHeld2
      · skip
        simp only [List.getElem_toArray, List.getElem_cons_zero, List.getElem_cons_succ]
        go_simp
        refine hK.out _ _ ⟨HCV.out.1, HCV.out.2⟩ (fun hHeld2 => ?_)
        clear hK K
        (try simp only [List.getElem_toArray, List.getElem_cons_zero, List.getElem_cons_succ, Act.put, List.setIfInBounds_toArray, List.set_cons_zero, List.set_cons_succ])
        refine wpAnyH_ready (rs := [2]) (by kernel_rfl) (by simp) ?_
        refine AllReadyH.cons rfl (fun K hK => ?_) AllReadyH.nil
        simp only [List.getElem_toArray, List.getElem_cons_zero, List.getElem_cons_succ]
        go_simp
        refine (hget.out _).mono ?_
        rintro x w8 ⟨rfl, rfl⟩
        simp only []
        refine hK.out _ _ (by first | exact hHeld2 | exact hHeld) (fun hHeld2 => ?_)
        clear hK K
        (try simp only [List.getElem_toArray, List.getElem_cons_zero, List.getElem_cons_succ, Act.put, List.setIfInBounds_toArray, List.set_cons_zero, List.set_cons_succ])
        exact hX.out hHeld2
    intro hHeld3
    clear hHeld
    refine wpAnyH_ready (rs := [6]) (by kernel_rfl) (by simp) ?_
    refine AllReadyH.cons rfl (fun K hK => ?_) AllReadyH.nil
    simp only [List.getElem_toArray, List.getElem_cons_zero, List.getElem_cons_succ]
    go_simp
    refine (hof.out _).mono ?_
    rintro x w8 ⟨rfl, rfl⟩
    simp only []
    refine hK.out _ _ hHeld3 (fun hHeld4 => ?_)
    clear hK K hHeld3
    (try simp only [List.getElem_toArray, List.getElem_cons_zero, List.getElem_cons_succ, Act.put, List.setIfInBounds_toArray, List.set_cons_zero, List.set_cons_succ])
    refine wpAnyH_take (i := 7) (v := ?zv7) rfl (by kernel_rfl) (by kernel_rfl) (by kernel_rfl) (fun _ _ _ h => h) (Or.inl ⟨by rfl, ?zy7⟩) hHeld4 ?zr7
    case zy7 => (intro W hW; (try dsimp only at hW); first | (go_simp; done) | (go_simp; with_reducible rfl))
    (try simp only [List.getElem_toArray, List.getElem_cons_zero, List.getElem_cons_succ, Act.put, List.setIfInBounds_toArray, List.set_cons_zero, List.set_cons_succ])
    refine wpAnyH_take (i := 8) (v := ?zv8) rfl (by kernel_rfl) (by kernel_rfl) (by kernel_rfl) (fun _ _ _ h => h) (Or.inl ⟨by rfl, ?zy8⟩) hHeld4 ?zr8
    case zy8 => (intro W hW; (try dsimp only at hW); first | (go_simp; done) | (go_simp; with_reducible rfl))
    (try simp only [List.getElem_toArray, List.getElem_cons_zero, List.getElem_cons_succ, Act.put, List.setIfInBounds_toArray, List.set_cons_zero, List.set_cons_succ])
    refine wpAnyH_take (i := 9) (v := ?zv9) rfl (by kernel_rfl) (by kernel_rfl) (by kernel_rfl) (fun _ _ _ h => h) (Or.inl ⟨by rfl, ?zy9⟩) hHeld4 ?zr9
    case zy9 => (intro W hW; (try dsimp only at hW); first | (go_simp; done) | (go_simp; with_reducible rfl))
    (try simp only [List.getElem_toArray, List.getElem_cons_zero, List.getElem_cons_succ, Act.put, List.setIfInBounds_toArray, List.set_cons_zero, List.set_cons_succ])
    refine wpAnyH_take (i := 10) (v := ?zv10) rfl (by kernel_rfl) (by kernel_rfl) (by kernel_rfl) (fun _ _ _ h => h) (Or.inl ⟨by rfl, ?zy10⟩) hHeld4 ?zr10
    case zy10 => (intro W hW; (try dsimp only at hW); first | (go_simp; done) | (go_simp; with_reducible rfl))
    (try simp only [List.getElem_toArray, List.getElem_cons_zero, List.getElem_cons_succ, Act.put, List.setIfInBounds_toArray, List.set_cons_zero, List.set_cons_succ])
    refine wpAnyH_take (i := 11) (v := ?zv11) rfl (by kernel_rfl) (by kernel_rfl) (by kernel_rfl) (fun _ _ _ h => h) (Or.inl ⟨by rfl, ?zy11⟩) hHeld4 ?zr11
    case zy11 => (intro W hW; (try dsimp only at hW); first | (go_simp; done) | (go_simp; with_reducible rfl))
    (try simp only [List.getElem_toArray, List.getElem_cons_zero, List.getElem_cons_succ, Act.put, List.setIfInBounds_toArray, List.set_cons_zero, List.set_cons_succ])
    refine wpAnyH_take (i := 12) (v := ?zv12) rfl (by kernel_rfl) (by kernel_rfl) (by kernel_rfl) (fun _ _ _ h => h) (Or.inl ⟨by rfl, ?zy12⟩) hHeld4 ?zr12
    case zy12 => (intro W hW; (try dsimp only at hW); first | (go_simp; done) | (go_simp; with_reducible rfl))
    (try simp only [List.getElem_toArray, List.getElem_cons_zero, List.getElem_cons_succ, Act.put, List.setIfInBounds_toArray, List.set_cons_zero, List.set_cons_succ])
    refine wpAnyH_take (i := 13) (v := ?zv13) rfl (by kernel_rfl) (by kernel_rfl) (by kernel_rfl) (fun _ _ _ h => h) (Or.inl ⟨by rfl, ?zy13⟩) hHeld4 ?zr13
    case zy13 => (intro W hW; (try dsimp only at hW); first | (go_simp; done) | (go_simp; with_reducible rfl))
    (try simp only [List.getElem_toArray, List.getElem_cons_zero, List.getElem_cons_succ, Act.put, List.setIfInBounds_toArray, List.set_cons_zero, List.set_cons_succ])
    refine wpAnyH_take (i := 14) (v := ?zv14) rfl (by kernel_rfl) (by kernel_rfl) (by kernel_rfl) (fun _ _ _ h => h) (Or.inl ⟨by rfl, ?zy14⟩) hHeld4 ?zr14
    case zy14 => (intro W hW; (try dsimp only at hW); first | (go_simp; done) | (go_simp; with_reducible rfl))
    (try simp only [List.getElem_toArray, List.getElem_cons_zero, List.getElem_cons_succ, Act.put, List.setIfInBounds_toArray, List.set_cons_zero, List.set_cons_succ])
    refine wpAnyH_take (i := 15) (v := ?zv15) rfl (by kernel_rfl) (by kernel_rfl) (by kernel_rfl) (fun _ _ _ h => h) (Or.inl ⟨by rfl, ?zy15⟩) hHeld4 ?zr15
    case zy15 => (intro W hW; (try dsimp only at hW); first | (go_simp; done) | (go_simp; with_reducible rfl))
    (try simp only [List.getElem_toArray, List.getElem_cons_zero, List.getElem_cons_succ, Act.put, List.setIfInBounds_toArray, List.set_cons_zero, List.set_cons_succ])
    refine wpAnyH_take (i := 16) (v := ?zv16) rfl (by kernel_rfl) (by kernel_rfl) (by kernel_rfl) (fun _ _ _ h => h) (Or.inl ⟨by rfl, ?zy16⟩) hHeld4 ?zr16
    case zy16 => (intro W hW; (try dsimp only at hW); first | (go_simp; done) | (go_simp; with_reducible rfl))
    (try simp only [List.getElem_toArray, List.getElem_cons_zero, List.getElem_cons_succ, Act.put, List.setIfInBounds_toArray, List.set_cons_zero, List.set_cons_succ])
    refine wpAnyH_take (i := 17) (v := ?zv17) rfl (by kernel_rfl) (by kernel_rfl) (by kernel_rfl) (fun _ _ _ h => h) (Or.inl ⟨by rfl, ?zy17⟩) hHeld4 ?zr17
    case zy17 => (intro W hW; (try dsimp only at hW); first | (go_simp; done) | (go_simp; with_reducible rfl))
    (try simp only [List.getElem_toArray, List.getElem_cons_zero, List.getElem_cons_succ, Act.put, List.setIfInBounds_toArray, List.set_cons_zero, List.set_cons_succ])
    refine wpAnyH_take (i := 18) (v := ?zv18) rfl (by kernel_rfl) (by kernel_rfl) (by kernel_rfl) (fun _ _ _ h => h) (Or.inl ⟨by rfl, ?zy18⟩) hHeld4 ?zr18
    case zy18 => (intro W hW; (try dsimp only at hW); first | (go_simp; done) | (go_simp; with_reducible rfl))
    (try simp only [List.getElem_toArray, List.getElem_cons_zero, List.getElem_cons_succ, Act.put, List.setIfInBounds_toArray, List.set_cons_zero, List.set_cons_succ])
    refine wpAnyH_take (i := 19) (v := ?zv19) rfl (by kernel_rfl) (by kernel_rfl) (by kernel_rfl) (fun _ _ _ h => h) (Or.inl ⟨by rfl, ?zy19⟩) hHeld4 ?zr19
    case zy19 => (intro W hW; (try dsimp only at hW); first | (go_simp; done) | (go_simp; with_reducible rfl))
    (try simp only [List.getElem_toArray, List.getElem_cons_zero, List.getElem_cons_succ, Act.put, List.setIfInBounds_toArray, List.set_cons_zero, List.set_cons_succ])
    refine wpAnyH_take (i := 20) (v := ?zv20) rfl (by kernel_rfl) (by kernel_rfl) (by kernel_rfl) (fun _ _ _ h => h) (Or.inl ⟨by rfl, ?zy20⟩) hHeld4 ?zr20
    case zy20 => (intro W hW; (try dsimp only at hW); first | (go_simp; done) | (go_simp; with_reducible rfl))
    (try simp only [List.getElem_toArray, List.getElem_cons_zero, List.getElem_cons_succ, Act.put, List.setIfInBounds_toArray, List.set_cons_zero, List.set_cons_succ])
    refine wpAnyH_take (i := 21) (v := ?zv21) rfl (by kernel_rfl) (by kernel_rfl) (by kernel_rfl) (fun _ _ _ h => h) (Or.inl ⟨by rfl, ?zy21⟩) hHeld4 ?zr21
    case zy21 => (intro W hW; (try dsimp only at hW); first | (go_simp; done) | (go_simp; with_reducible rfl))
    (try simp only [List.getElem_toArray, List.getElem_cons_zero, List.getElem_cons_succ, Act.put, List.setIfInBounds_toArray, List.set_cons_zero, List.set_cons_succ])
    refine wpAnyH_take (i := 22) (v := ?zv22) rfl (by kernel_rfl) (by kernel_rfl) (by kernel_rfl) (fun _ _ _ h => h) (Or.inl ⟨by rfl, ?zy22⟩) hHeld4 ?zr22
    case zy22 => (intro W hW; (try dsimp only at hW); first | (go_simp; done) | (go_simp; with_reducible rfl))
    (try simp only [List.getElem_toArray, List.getElem_cons_zero, List.getElem_cons_succ, Act.put, List.setIfInBounds_toArray, List.set_cons_zero, List.set_cons_succ])
    refine wpAnyH_take (i := 23) (v := ?zv23) rfl (by kernel_rfl) (by kernel_rfl) (by kernel_rfl) (fun _ _ _ h => h) (Or.inl ⟨by rfl, ?zy23⟩) hHeld4 ?zr23
    case zy23 => (intro W hW; (try dsimp only at hW); first | (go_simp; done) | (go_simp; with_reducible rfl))
    (try simp only [List.getElem_toArray, List.getElem_cons_zero, List.getElem_cons_succ, Act.put, List.setIfInBounds_toArray, List.set_cons_zero, List.set_cons_succ])
    refine wpAnyH_done (by kernel_rfl) ?_ _
    exact ⟨rfl, hHeld4.2⟩
  intro w8 hb8
  have B8 := Lib.hid (B5.out.trans (hb8.mono (by omega)))
  have Q2 : Hid (w8.heap[w.heap.size]? = some (.cells #[.int .i64 0, .int .i64 0, .int .i64 0] 41 (0, 0))) := Lib.hid ((hb8.block _ (by omega)).trans R5.out)
  have Q3 := Lib.hid ((hb8.block _ (by omega)).trans U5.out)
  have Q6 := Lib.hid ((hb8.block _ (by omega)).trans P5.out)
  have Q7 := Lib.hid ((hb8.block _ (by omega)).trans Q5.out)
  clear hb8 HN HM HN1 ew hget hof hconv KS HCV P5 Q5 R5 U5 B5
  obtain ⟨c00, c01, c02, c03⟩ := cells3 Q2.out
  obtain ⟨c10, c11, c12⟩ := cells2 Q3.out
  go_wp2_with fail
  refine bodyPost_ret (results_cct rfl rfl rfl (load_place (by go_simp) (by go_simp) (by go_simp)) (load_gen (by go_simp) (by go_simp))) rfl ⟨rfl, setW B8.out _ _ (by omega) (by omega) _ _ _ _ _⟩
end Go.Proofs.Ytiakaloabeendaa
