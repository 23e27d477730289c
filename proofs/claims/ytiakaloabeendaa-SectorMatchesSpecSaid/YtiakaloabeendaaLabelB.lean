/- The walk of sector.Label, way B. -/
import Derived.Test.YtiakaloabeendaaLabel0
import Derived.Deep.RegionHeld3
set_option linter.unusedSimpArgs false
namespace Go.Proofs.Ytiakaloabeendaa
open Go.RowKit

set_option maxRecDepth 100000 in
set_option maxHeartbeats 40000000 in
theorem label_B (s : ByteArray) (h : s.size = 64) (hsum : un (sub s.data.toList 0 4) = (crcB (s.data.toList.drop 4)).toNat) (hv : validB (un (sub s.data.toList 5 6)) (un (sub s.data.toList 4 5)) (un (sub s.data.toList 6 8)) = false) : LabelErr s 7 := fun w => by
  have hsum1 : un (s.extract 0 4).data.toList = (crcB (s.extract 4 64).data.toList).toNat := by
    rw [sub_ext, sub_ext, sub_four _ (by simpa using h)]; exact hsum
  have KS := Lib.hid hsum1
  clear hsum hsum1
  have KV := Lib.hid hv
  clear hv
  go_enter Try.func30, Try.ntmps30
  go_wp2_with fail
  have R0 := Lib.hid (two_new w (Obj.cells #[Value.int IntKind.i64 0, Value.int IntKind.i64 0, Value.int IntKind.i64 0] 41) (Obj.cells #[Value.int IntKind.i64 0, Value.int IntKind.i64 0] 35))
  have B0 : Hid (Below w.heap.size w ((w.alloc (Obj.cells #[Value.int IntKind.i64 0, Value.int IntKind.i64 0, Value.int IntKind.i64 0] 41)).alloc (Obj.cells #[Value.int IntKind.i64 0, Value.int IntKind.i64 0] 35))) := Lib.hid (((Below.refl _ w).alloc (Nat.le_refl _) _).alloc (by simp) _)
  have Z0 : Hid (((w.alloc (Obj.cells #[Value.int IntKind.i64 0, Value.int IntKind.i64 0, Value.int IntKind.i64 0] 41)).alloc (Obj.cells #[Value.int IntKind.i64 0, Value.int IntKind.i64 0] 35)).heap.size = w.heap.size + 2) := Lib.hid (by simp)
  generalize ((w.alloc (Obj.cells #[Value.int IntKind.i64 0, Value.int IntKind.i64 0, Value.int IntKind.i64 0] 41)).alloc (Obj.cells #[Value.int IntKind.i64 0, Value.int IntKind.i64 0] 35)) = w0 at *
  have HS := Lib.hid h
  apply wp_once
  · go_region_held3 (fun x => True)
      (trivial)
      (first
        | (go_at_call 48; refine (get_any _ _ ?_).mono ?_; exact Nat.le_trans (ext_le _ _ _) (by decide); rintro x w1 ⟨rfl, rfl⟩))
    all_goals exact ⟨rfl, rfl⟩
  have e4 : IntKind.i64.wrap (s[4].toNat : Int) = ((s[4].toNat : Nat) : Int) := by have := s[4].toNat_lt; rw [IntKind.wrap_i64]; omega
  have e5 : IntKind.i64.wrap (s[5].toNat : Int) = ((s[5].toNat : Nat) : Int) := by have := s[5].toNat_lt; rw [IntKind.wrap_i64]; omega
  rw [e4, e5]
  clear e4 e5
  have hA : s[4].toNat = un (sub s.data.toList 4 5) := (un_one s.data.toList 4 (by simp [h])).symm
  have hD : s[5].toNat = un (sub s.data.toList 5 6) := (un_one s.data.toList 5 (by simp [h])).symm
  have hI : un (List.take 2 (List.drop 6 s.data.toList)) = un (sub s.data.toList 6 8) := rfl
  rw [hA, hD, hI]
  clear hA hD hI
  generalize hA : un (sub s.data.toList 4 5) = a at *
  generalize hD : un (sub s.data.toList 5 6) = d at *
  generalize hI : un (sub s.data.toList 6 8) = i at *
  rw [Z0.out]
  have P1 : Hid ((w0.alloc (Obj.cells #[Value.int IntKind.i64 d, Value.int IntKind.i64 a, Value.int IntKind.i64 i] 41)).drew.heap[w.heap.size + 2]? = some (.cells #[Value.int IntKind.i64 d, Value.int IntKind.i64 a, Value.int IntKind.i64 i] 41 (0, 0))) := Lib.hid (by rw [← Z0.out]; exact heap_alloc_new w0 _)
  have R1 : Hid (∀ k, k < 2 → (w0.alloc (Obj.cells #[Value.int IntKind.i64 d, Value.int IntKind.i64 a, Value.int IntKind.i64 i] 41)).drew.heap[w.heap.size + k]? = w0.heap[w.heap.size + k]?) := Lib.hid (fun k hk => Below.heap_alloc w0 _ _ (by rw [Z0.out]; omega))
  have R2 : Hid ((w0.alloc (Obj.cells #[Value.int IntKind.i64 d, Value.int IntKind.i64 a, Value.int IntKind.i64 i] 41)).drew.heap[w.heap.size + 0]? = some (.cells #[.int .i64 0, .int .i64 0, .int .i64 0] 41 (0, 0))) := Lib.hid ((R1.out 0 (by omega)).trans R0.out.1)
  have R3 : Hid ((w0.alloc (Obj.cells #[Value.int IntKind.i64 d, Value.int IntKind.i64 a, Value.int IntKind.i64 i] 41)).drew.heap[w.heap.size + 1]? = some (.cells #[.int .i64 0, .int .i64 0] 35 (0, 0))) := Lib.hid ((R1.out 1 (by omega)).trans R0.out.2)
  have B1 : Hid (Below w.heap.size w (w0.alloc (Obj.cells #[Value.int IntKind.i64 d, Value.int IntKind.i64 a, Value.int IntKind.i64 i] 41)).drew) := Lib.hid (B0.out.alloc B0.out.size _).drew
  have Z1 : Hid ((w0.alloc (Obj.cells #[Value.int IntKind.i64 d, Value.int IntKind.i64 a, Value.int IntKind.i64 i] 41)).drew.heap.size = w.heap.size + 3) := Lib.hid (by rw [World.size_drew, World.size_alloc, Z0.out])
  clear R0 R1 B0 Z0
  generalize (w0.alloc (Obj.cells #[Value.int IntKind.i64 d, Value.int IntKind.i64 a, Value.int IntKind.i64 i] 41)).drew = w1 at *
  have HA := Lib.hid hA
  have HD := Lib.hid hD
  have HI := Lib.hid hI
  clear hA hD hI
  go_wp2_with fail
  apply wp_once
  · go_region_held3 (fun x => True)
      (trivial)
      (first
        | (go_at_call 48; refine (get_any _ _ ?_).mono ?_; exact Nat.le_trans (ext_le _ _ _) (by decide); rintro x w2 ⟨rfl, rfl⟩))
    all_goals exact ⟨rfl, rfl⟩
  have hE : un (List.take 4 (List.drop 8 s.data.toList)) = un (sub s.data.toList 8 12) := rfl
  have hC : un (List.take 4 (List.drop 12 s.data.toList)) = un (sub s.data.toList 12 16) := rfl
  rw [hE, hC]
  clear hE hC
  generalize hE : un (sub s.data.toList 8 12) = e at *
  generalize hC : un (sub s.data.toList 12 16) = c at *
  have HE := Lib.hid hE
  have HC := Lib.hid hC
  clear hE hC
  have P2 : Hid ((w1.alloc (Obj.cells #[Value.int IntKind.i64 e, Value.int IntKind.i64 c] 35)).drew.heap[w.heap.size + 3]? = some (.cells #[Value.int IntKind.i64 e, Value.int IntKind.i64 c] 35 (0, 0))) := Lib.hid (by rw [← Z1.out]; exact heap_alloc_new w1 _)
  have B2 : Hid (Below (w.heap.size + 3) w1 (w1.alloc (Obj.cells #[Value.int IntKind.i64 e, Value.int IntKind.i64 c] 35)).drew) := Lib.hid (((Below.refl _ w1).alloc (by rw [Z1.out]; omega) _).drew)
  have Z2 : Hid ((w1.alloc (Obj.cells #[Value.int IntKind.i64 e, Value.int IntKind.i64 c] 35)).drew.heap.size = w.heap.size + 4) := Lib.hid (by rw [World.size_drew, World.size_alloc, Z1.out])
  rw [Z1.out]
  generalize (w1.alloc (Obj.cells #[Value.int IntKind.i64 e, Value.int IntKind.i64 c] 35)).drew = w2 at *
  have P1 := Lib.hid ((B2.out.block _ (by omega)).trans P1.out)
  have R2 := Lib.hid ((B2.out.block _ (by omega)).trans R2.out)
  have R3 := Lib.hid ((B2.out.block _ (by omega)).trans R3.out)
  have B2 := Lib.hid (B1.out.trans (B2.out.mono (by omega)))
  clear B1 Z1
  go_wp2_with fail
  go_quiet (fail)
  go_wp2_with fail
  rw [ByteArray.toList_eq, ByteArray.toList_eq, sub_ext, sub_ext]
  generalize hT : (!(sub s.data.toList 8 16 == sub s.data.toList 56 64)) = tb at *
  have HT := Lib.hid hT
  clear hT
  have S3 := Lib.hid (labS (N := w.heap.size + 4) (x := (w2.drewN nq).drew) (by omega) (by omega) P1.out P2.out ⟨rfl, rfl, rfl, Nat.le_refl _, fun _ _ => rfl⟩ (by show w.heap.size + 4 ≤ w2.heap.size; rw [Z2.out]; omega))
  have hconv : ∀ W : World, (convert 9 22 (.string (s.extract 4 64))).run Try.prog W = .ok (.slice (some ⟨W.heap.size, 0, none⟩) 60 (grownCap W 60 0 5)) (Lib.bytesWorld W 5 (s.extract 4 64)) := fun W => by
    have := Lib.run_convert_string_bytes (P := Try.prog) W 9 22 5 (s.extract 4 64) Try.underlying9 Try.underlying22 Try.underlying5
    rw [show (s.extract 4 64).size = 60 by rw [ByteArray.size_extract]; omega] at this
    exact this
  have hN1 : (crcB (s.extract 4 64).data.toList).toNat < 4294967296 := (crcB (s.extract 4 64).data.toList).isLt
  have hof : Hid (∀ (W : World) (cap : Nat), Calls Try.prog 17 #[.slice (some ⟨W.heap.size, 0, none⟩) 60 cap] (Lib.bytesWorld W 5 (s.extract 4 64)) fun x w' => x = .returned (.int .u32 (((crcB (s.extract 4 64).data.toList).toNat : Nat) : Int)) ∧ Below W.heap.size W w') := Lib.hid (fun W cap => by
    refine (of_n (s.extract 4 64).data.toList 60 (by simp; omega) (some ⟨W.heap.size, 0, none⟩) cap _ (bytesAt_conv W _ _ (by rw [ByteArray.size_extract]; omega))).mono ?_
    rintro x w' ⟨rfl, hb⟩
    exact ⟨rfl, (below_conv _ W _ _ (Nat.le_refl _)).trans (hb.mono (by rw [Lib.bytesWorld_size]; omega))⟩)
  have hget : Hid (∀ W : World, Calls Try.prog 48 #[.string (s.extract 0 4)] W fun x w' => x = .returned (.int .i64 (un (s.extract 0 4).data.toList)) ∧ w' = W) := Lib.hid (fun W => get_any _ W (Nat.le_trans (ext_le _ _ _) (by decide)))
  generalize hN : un (s.extract 0 4).data.toList = n0 at *
  generalize hM : (crcB (s.extract 4 64).data.toList).toNat = n1 at *
  have HN := Lib.hid hN
  have HM := Lib.hid hM
  have HN1 := Lib.hid hN1
  have ew : IntKind.i64.wrap (n1 : Int) = n1 := by rw [IntKind.wrap_i64]; omega
  clear hN hM hN1
  have hnn : n0 = n1 := KS.out
  subst hnn
  have hval : Hid (∀ W : World, Calls Try.prog 33 #[.agg #[.int .i64 d, .int .i64 a, .int .i64 i]] W fun x w' => x = .returned (.bool false) ∧ Below W.heap.size W w') := Lib.hid (fun W => (valid_any d a i W).mono (by rintro x w' ⟨rfl, hb⟩; refine ⟨?_, hb⟩; rw [KV.out]))
  apply wp_onceW (fun x => Below (w.heap.size + 4) w2 x)
  · refine wp_region_held_drew (S := (fun x => x.cell? ⟨w.heap.size + 2, 0, none⟩ = some (.int .i64 d) ∧ x.cell? ⟨w.heap.size + 2, 1, none⟩ = some (.int .i64 a) ∧ x.cell? ⟨w.heap.size + 2, 2, none⟩ = some (.int .i64 i) ∧ x.cell? ⟨w.heap.size + 3, 0, none⟩ = some (.int .i64 e) ∧ x.cell? ⟨w.heap.size + 3, 1, none⟩ = some (.int .i64 c) ∧ w.heap.size + 4 ≤ x.heap.size ∧ Below (w.heap.size + 4) w2 x)) (by kernel_rfl) S3.out (fun hHeld => ?_)
    refine wpAnyH_norm (f := 22) (L := #[false, false, false, false, false, false, false, false, false, false, false, false, false, false, false, false, false, false, false, false, false, false]) (by kernel_rfl) (by kernel_rfl) ?_
    refine wpAnyH_take (i := 0) (v := ?zv0) rfl (by kernel_rfl) (by kernel_rfl) (by kernel_rfl) (fun _ _ _ h => h) (Or.inl ⟨by rfl, ?zy0⟩) hHeld ?zr0
    case zy0 => (intro W hW; (try dsimp only at hW); first | (go_simp; done) | (go_simp; with_reducible rfl))
    (try simp only [List.getElem_toArray, List.getElem_cons_zero, List.getElem_cons_succ, Act.put, List.setIfInBounds_toArray, List.set_cons_zero, List.set_cons_succ])
    refine wpAnyH_take (i := 1) (v := ?zv1) rfl (by kernel_rfl) (by kernel_rfl) (by kernel_rfl) (fun _ _ _ h => h) (Or.inl ⟨by rfl, ?zy1⟩) hHeld ?zr1
    case zy1 => (intro W hW; (try dsimp only at hW); first | (go_simp; done) | (go_simp; with_reducible rfl))
    (try simp only [List.getElem_toArray, List.getElem_cons_zero, List.getElem_cons_succ, Act.put, List.setIfInBounds_toArray, List.set_cons_zero, List.set_cons_succ])
    refine wpAnyH_take (i := 3) (v := ?zv3) rfl (by kernel_rfl) (by kernel_rfl) (by kernel_rfl) (fun _ _ _ h => h) (Or.inl ⟨by rfl, ?zy3⟩) hHeld ?zr3
    case zy3 => (intro W hW; (try dsimp only at hW); first | (go_simp; done) | (go_simp; with_reducible rfl))
    (try simp only [List.getElem_toArray, List.getElem_cons_zero, List.getElem_cons_succ, Act.put, List.setIfInBounds_toArray, List.set_cons_zero, List.set_cons_succ])
    refine wpAnyH_take (i := 4) (v := ?zv4) rfl (by kernel_rfl) (by kernel_rfl) (by kernel_rfl) (fun _ _ _ h => h) (Or.inl ⟨by rfl, ?zy4⟩) hHeld ?zr4
    case zy4 => (intro W hW; (try dsimp only at hW); first | (go_simp; done) | (go_simp; with_reducible rfl))
    (try simp only [List.getElem_toArray, List.getElem_cons_zero, List.getElem_cons_succ, Act.put, List.setIfInBounds_toArray, List.set_cons_zero, List.set_cons_succ])
    apply cut_late
    · intro hX0
      have hX := Lib.hid hX0
      clear hX0
      refine wpAnyH_ready (rs := [2, 5]) (by kernel_rfl) (by simp) ?_
      refine AllReadyH.cons rfl (fun K hK => ?_) (AllReadyH.cons rfl (fun K hK => ?_) AllReadyH.nil)
      · skip
        simp only [List.getElem_toArray, List.getElem_cons_zero, List.getElem_cons_succ]
        go_simp
        refine (hget.out _).mono ?_
        rintro x w4 ⟨rfl, rfl⟩
        simp only []
        refine hK.out _ _ (by first | exact hHeld2 | exact hHeld) (fun hHeld2 => ?_)
        clear hK K
        (try simp only [List.getElem_toArray, List.getElem_cons_zero, List.getElem_cons_succ, Act.put, List.setIfInBounds_toArray, List.set_cons_zero, List.set_cons_succ])
        refine wpAnyH_ready (rs := [5]) (by kernel_rfl) (by simp) ?_
        refine AllReadyH.cons rfl (fun K hK => ?_) AllReadyH.nil
        simp only [List.getElem_toArray, List.getElem_cons_zero, List.getElem_cons_succ]
        go_simp
        refine hK.out _ _ (labS_below (by omega) (by omega) S3.out (below_conv _ _ _ _ (Nat.le_refl _))) (fun hHeld2 => ?_)
        clear hK K
        (try simp only [List.getElem_toArray, List.getElem_cons_zero, List.getElem_cons_succ, Act.put, List.setIfInBounds_toArray, List.set_cons_zero, List.set_cons_succ])
        exact hX.out hHeld2
      · skip
        simp only [List.getElem_toArray, List.getElem_cons_zero, List.getElem_cons_succ]
        go_simp
        refine hK.out _ _ (labS_below (by omega) (by omega) S3.out (below_conv _ _ _ _ (Nat.le_refl _))) (fun hHeld2 => ?_)
        clear hK K
        (try simp only [List.getElem_toArray, List.getElem_cons_zero, List.getElem_cons_succ, Act.put, List.setIfInBounds_toArray, List.set_cons_zero, List.set_cons_succ])
        refine wpAnyH_ready (rs := [2]) (by kernel_rfl) (by simp) ?_
        refine AllReadyH.cons rfl (fun K hK => ?_) AllReadyH.nil
        simp only [List.getElem_toArray, List.getElem_cons_zero, List.getElem_cons_succ]
        go_simp
        refine (hget.out _).mono ?_
        rintro x w4 ⟨rfl, rfl⟩
        simp only []
        refine hK.out _ _ (by first | exact hHeld2 | exact hHeld) (fun hHeld2 => ?_)
        clear hK K
        (try simp only [List.getElem_toArray, List.getElem_cons_zero, List.getElem_cons_succ, Act.put, List.setIfInBounds_toArray, List.set_cons_zero, List.set_cons_succ])
        exact hX.out hHeld2
    intro hHeld3
    clear hHeld
    refine wpAnyH_ready (rs := [6]) (by kernel_rfl) (by simp) ?_
    refine AllReadyH.cons rfl (fun K hK => ?_) AllReadyH.nil
    simp only [List.getElem_toArray, List.getElem_cons_zero, List.getElem_cons_succ]
    go_simp
    refine (hof.out _ _).mono ?_
    rintro x w4 ⟨rfl, hb4⟩
    simp only []
    refine hK.out _ _ (labS_below (by omega) (by omega) S3.out hb4) (fun hHeld4 => ?_)
    clear hK K hb4 hHeld3
    (try simp only [List.getElem_toArray, List.getElem_cons_zero, List.getElem_cons_succ, Act.put, List.setIfInBounds_toArray, List.set_cons_zero, List.set_cons_succ])
    refine wpAnyH_take (i := 7) (v := ?zv7) rfl (by kernel_rfl) (by kernel_rfl) (by kernel_rfl) (fun _ _ _ h => h) (Or.inl ⟨by rfl, ?zy7⟩) hHeld4 ?zr7
    case zy7 => (intro W hW; (try dsimp only at hW); first | (go_simp; done) | (go_simp; with_reducible rfl))
    (try simp only [List.getElem_toArray, List.getElem_cons_zero, List.getElem_cons_succ, Act.put, List.setIfInBounds_toArray, List.set_cons_zero, List.set_cons_succ])
    refine wpAnyH_take (i := 8) (v := ?zv8) rfl (by kernel_rfl) (by kernel_rfl) (by kernel_rfl) (fun _ _ _ h => h) (Or.inl ⟨by rfl, ?zy8⟩) hHeld4 ?zr8
    case zy8 => (intro W hW; (try dsimp only at hW); first | (go_simp; done) | (go_simp; with_reducible rfl))
    (try simp only [List.getElem_toArray, List.getElem_cons_zero, List.getElem_cons_succ, Act.put, List.setIfInBounds_toArray, List.set_cons_zero, List.set_cons_succ])
    refine wpAnyH_take (i := 9) (v := ?zv9) rfl (by kernel_rfl) (by kernel_rfl) (by kernel_rfl) (fun _ _ _ h => h) (Or.inl ⟨by rfl, ?zy9⟩) hHeld4 ?zr9
    case zy9 => (intro W hW; (try dsimp only at hW); first | (go_simp; done) | (go_simp; with_reducible rfl))
    (try simp only [List.getElem_toArray, List.getElem_cons_zero, List.getElem_cons_succ, Act.put, List.setIfInBounds_toArray, List.set_cons_zero, List.set_cons_succ])
    refine wpAnyH_take (i := 10) (v := ?zv10) rfl (by kernel_rfl) (by kernel_rfl) (by kernel_rfl) (fun _ _ _ h => h) (Or.inl ⟨by rfl, ?zy10⟩) hHeld4 ?zr10
    case zy10 => (intro W hW; (try dsimp only at hW); first | (go_simp; done) | (go_simp; with_reducible rfl))
    (try simp only [List.getElem_toArray, List.getElem_cons_zero, List.getElem_cons_succ, Act.put, List.setIfInBounds_toArray, List.set_cons_zero, List.set_cons_succ])
    refine wpAnyH_ready (rs := [11]) (by kernel_rfl) (by simp) ?_
    refine AllReadyH.cons rfl (fun K hK => ?_) AllReadyH.nil
    simp only [List.getElem_toArray, List.getElem_cons_zero, List.getElem_cons_succ]
    go_simp
    refine (hval.out _).mono ?_
    rintro x w5 ⟨rfl, hb5⟩
    simp only []
    refine hK.out _ _ (labS_below (by omega) (by omega) hHeld4 hb5) (fun hHeld5 => ?_)
    clear hK K hb5 hHeld4
    (try simp only [List.getElem_toArray, List.getElem_cons_zero, List.getElem_cons_succ, Act.put, List.setIfInBounds_toArray, List.set_cons_zero, List.set_cons_succ])
    refine wpAnyH_take (i := 12) (v := ?zv12) rfl (by kernel_rfl) (by kernel_rfl) (by kernel_rfl) (fun _ _ _ h => h) (Or.inl ⟨by rfl, ?zy12⟩) hHeld5 ?zr12
    case zy12 => (intro W hW; (try dsimp only at hW); first | (go_simp; done) | (go_simp; with_reducible rfl))
    (try simp only [List.getElem_toArray, List.getElem_cons_zero, List.getElem_cons_succ, Act.put, List.setIfInBounds_toArray, List.set_cons_zero, List.set_cons_succ])
    refine wpAnyH_take (i := 13) (v := ?zv13) rfl (by kernel_rfl) (by kernel_rfl) (by kernel_rfl) (fun _ _ _ h => h) (Or.inl ⟨by rfl, ?zy13⟩) hHeld5 ?zr13
    case zy13 => (intro W hW; (try dsimp only at hW); first | (go_simp; done) | (go_simp; with_reducible rfl))
    (try simp only [List.getElem_toArray, List.getElem_cons_zero, List.getElem_cons_succ, Act.put, List.setIfInBounds_toArray, List.set_cons_zero, List.set_cons_succ])
    refine wpAnyH_take (i := 14) (v := ?zv14) rfl (by kernel_rfl) (by kernel_rfl) (by kernel_rfl) (fun _ _ _ h => h) (Or.inl ⟨by rfl, ?zy14⟩) hHeld5 ?zr14
    case zy14 => (intro W hW; (try dsimp only at hW); first | (go_simp; done) | (go_simp; with_reducible rfl))
    (try simp only [List.getElem_toArray, List.getElem_cons_zero, List.getElem_cons_succ, Act.put, List.setIfInBounds_toArray, List.set_cons_zero, List.set_cons_succ])
    refine wpAnyH_take (i := 15) (v := undef) rfl (by kernel_rfl) (by kernel_rfl) (by kernel_rfl) (fun _ _ _ h => h) (Or.inr ⟨by rfl, rfl⟩) hHeld5 ?_
    (try simp only [List.getElem_toArray, List.getElem_cons_zero, List.getElem_cons_succ, Act.put, List.setIfInBounds_toArray, List.set_cons_zero, List.set_cons_succ])
    refine wpAnyH_take (i := 16) (v := undef) rfl (by kernel_rfl) (by kernel_rfl) (by kernel_rfl) (fun _ _ _ h => h) (Or.inr ⟨by rfl, rfl⟩) hHeld5 ?_
    (try simp only [List.getElem_toArray, List.getElem_cons_zero, List.getElem_cons_succ, Act.put, List.setIfInBounds_toArray, List.set_cons_zero, List.set_cons_succ])
    refine wpAnyH_take (i := 17) (v := undef) rfl (by kernel_rfl) (by kernel_rfl) (by kernel_rfl) (fun _ _ _ h => h) (Or.inr ⟨by rfl, rfl⟩) hHeld5 ?_
    (try simp only [List.getElem_toArray, List.getElem_cons_zero, List.getElem_cons_succ, Act.put, List.setIfInBounds_toArray, List.set_cons_zero, List.set_cons_succ])
    refine wpAnyH_take (i := 18) (v := ?zv18) rfl (by kernel_rfl) (by kernel_rfl) (by kernel_rfl) (fun _ _ _ h => h) (Or.inl ⟨by rfl, ?zy18⟩) hHeld5 ?zr18
    case zy18 => (intro W hW; (try dsimp only at hW); first | (go_simp; done) | (go_simp; with_reducible rfl))
    (try simp only [List.getElem_toArray, List.getElem_cons_zero, List.getElem_cons_succ, Act.put, List.setIfInBounds_toArray, List.set_cons_zero, List.set_cons_succ])
    refine wpAnyH_take (i := 19) (v := ?zv19) rfl (by kernel_rfl) (by kernel_rfl) (by kernel_rfl) (fun _ _ _ h => h) (Or.inl ⟨by rfl, ?zy19⟩) hHeld5 ?zr19
    case zy19 => (intro W hW; (try dsimp only at hW); first | (go_simp; done) | (go_simp; with_reducible rfl))
    (try simp only [List.getElem_toArray, List.getElem_cons_zero, List.getElem_cons_succ, Act.put, List.setIfInBounds_toArray, List.set_cons_zero, List.set_cons_succ])
    refine wpAnyH_take (i := 20) (v := undef) rfl (by kernel_rfl) (by kernel_rfl) (by kernel_rfl) (fun _ _ _ h => h) (Or.inr ⟨by rfl, rfl⟩) hHeld5 ?_
    (try simp only [List.getElem_toArray, List.getElem_cons_zero, List.getElem_cons_succ, Act.put, List.setIfInBounds_toArray, List.set_cons_zero, List.set_cons_succ])
    refine wpAnyH_take (i := 21) (v := ?zv21) rfl (by kernel_rfl) (by kernel_rfl) (by kernel_rfl) (fun _ _ _ h => h) (Or.inl ⟨by rfl, ?zy21⟩) hHeld5 ?zr21
    case zy21 => (intro W hW; (try dsimp only at hW); first | (go_simp; done) | (go_simp; with_reducible rfl))
    (try simp only [List.getElem_toArray, List.getElem_cons_zero, List.getElem_cons_succ, Act.put, List.setIfInBounds_toArray, List.set_cons_zero, List.set_cons_succ])
    refine wpAnyH_done (by kernel_rfl) ?_ _
    exact ⟨rfl, hHeld5.2.2.2.2.2.2⟩
  intro w5 hb5
  have B5 := Lib.hid (B2.out.trans (hb5.mono (by omega)))
  have Q2 : Hid (w5.heap[w.heap.size]? = some (.cells #[.int .i64 0, .int .i64 0, .int .i64 0] 41 (0, 0))) := Lib.hid ((hb5.block _ (by omega)).trans R2.out)
  have Q3 := Lib.hid ((hb5.block _ (by omega)).trans R3.out)
  have Q4 := Lib.hid ((hb5.block _ (by omega)).trans P1.out)
  have Q5 := Lib.hid ((hb5.block _ (by omega)).trans P2.out)
  clear hb5
  obtain ⟨c00, c01, c02, c03⟩ := cells3 Q2.out
  obtain ⟨c10, c11, c12⟩ := cells2 Q3.out
  go_wp2_with fail
  refine bodyPost_ret (results_cct rfl rfl rfl (load_place (by go_simp) (by go_simp) (by go_simp)) (load_gen (by go_simp) (by go_simp))) rfl ⟨rfl, setW B5.out _ _ (by omega) (by omega) _ _ _ _ _⟩
end Go.Proofs.Ytiakaloabeendaa
