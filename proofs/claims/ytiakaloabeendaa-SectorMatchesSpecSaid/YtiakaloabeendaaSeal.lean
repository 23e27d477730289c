/- The walk of sector.Seal. -/
import Derived.Test.YtiakaloabeendaaSec4
import Derived.Test.YtiakaloabeendaaExtend
import Derived.Test.YtiakaloabeendaaSanity3
import Derived.Deep.RegionHeld3
namespace Go.Proofs.Ytiakaloabeendaa
open Go.RowKit

theorem two_new (w : World) (o p : Obj) : ((w.alloc o).alloc p).heap[w.heap.size]? = some o ∧ ((w.alloc o).alloc p).heap[w.heap.size + 1]? = some p :=
  ⟨by rw [Below.heap_alloc _ _ _ (by simp)]; exact heap_alloc_new w o, by have h := heap_alloc_new (w.alloc o) p; rwa [World.size_alloc] at h⟩

theorem wrap16_of (n : Nat) (h : n < 65536) : IntKind.u16.wrap (n : Int) = (n : Int) := by
  have : IntKind.u16.wrap (n : Int) = (n : Int) % 65536 := rfl
  omega
theorem wrap32_of (n : Nat) (h : n < 4294967296) : IntKind.u32.wrap (n : Int) = (n : Int) := by
  have : IntKind.u32.wrap (n : Int) = (n : Int) % 4294967296 := rfl
  omega

/-- The world holds the generation's box, and has only grown. -/
def KeptB (w x : World) : Prop := w.heap.size + 2 ≤ x.heap.size ∧ Below w.heap.size w x
theorem keepS {w x y : World} {e c : Value} (h : x.cell? ⟨w.heap.size + 1, 0, none⟩ = some e ∧ x.cell? ⟨w.heap.size + 1, 1, none⟩ = some c ∧ KeptB w x) (hb : Below (w.heap.size + 2) x y) :
    y.cell? ⟨w.heap.size + 1, 0, none⟩ = some e ∧ y.cell? ⟨w.heap.size + 1, 1, none⟩ = some c ∧ KeptB w y := by
  obtain ⟨h1, h2, h3, h4⟩ := h
  exact ⟨by rw [hb.cell (by simp)]; exact h1, by rw [hb.cell (by simp)]; exact h2, Nat.le_trans h3 hb.size, h4.trans (hb.mono (by omega))⟩

theorem drewS {w x : World} {e c : Value} (h : x.cell? ⟨w.heap.size + 1, 0, none⟩ = some e ∧ x.cell? ⟨w.heap.size + 1, 1, none⟩ = some c ∧ KeptB w x) :
    x.drew.cell? ⟨w.heap.size + 1, 0, none⟩ = some e ∧ x.drew.cell? ⟨w.heap.size + 1, 1, none⟩ = some c ∧ KeptB w x.drew :=
  ⟨h.1, h.2.1, h.2.2.1, h.2.2.2.drew⟩


set_option maxRecDepth 100000 in
set_option maxHeartbeats 1000000 in
theorem seal_good (d a i e c : Nat) (p : ByteArray) (w : World) (hv : validB d a i = true) (hg : genV e c = true) (hp : p.size ≤ 40) :
    Calls Try.prog 27 #[.agg #[.int .i64 d, .int .i64 a, .int .i64 i], .agg #[.int .i64 e, .int .i64 c], .string p] w fun x w' => x = .returned (.tuple #[.string (strB (sealB d a i e c p.data.toList)), .int .i64 0]) ∧ Below w.heap.size w w' := by
  have hd := (validB_iff d a i).1 hv
  have hd2 : i < 65536 := by omega
  have hg1 := (genV_iff e c).1 hg
  have he2 : e < 4294967296 := by omega
  have hc2 : c < 4294967296 := by omega
  clear hd hg1
  have HV := Lib.hid hv
  have HG := Lib.hid hg
  have G1 := Lib.hid hd2
  have G2 := Lib.hid he2
  have G3 := Lib.hid hc2
  clear hv hg hd2 he2 hc2
  go_enter Try.func27, Try.ntmps27
  go_wp2_with fail
  refine (valid_any d a i _).mono ?_
  rintro x w1 ⟨rfl, hb⟩
  rw [HV.out]
  have hs1 : w.heap.size + 2 ≤ w1.heap.size := by have := hb.size; simpa using this
  have C2 : Hid (w1.heap[w.heap.size + 1]? = some (.cells #[.int .i64 e, .int .i64 c] 35 (0, 0))) := Lib.hid (by
    rw [hb.block _ (by simp)]
    exact (two_new _ _ _).2)
  have C1 : Hid (w1.heap[w.heap.size]? = some (.cells #[.int .i64 d, .int .i64 a, .int .i64 i] 41 (0, 0))) := Lib.hid (by
    rw [hb.block _ (by simp; omega)]
    exact (two_new _ _ _).1)
  have B1 : Hid (Below w.heap.size w w1) := Lib.hid ((((Below.refl _ w).alloc (Nat.le_refl _) _).alloc (by simp) _).trans (hb.mono (by simp; omega)))
  clear hb
  have c2 : w1.cell? ⟨w.heap.size + 1, 0, none⟩ = some (.int .i64 e) ∧ w1.cell? ⟨w.heap.size + 1, 1, none⟩ = some (.int .i64 c) := by
    unfold World.cell?; rw [C2.out]; exact ⟨rfl, rfl⟩
  obtain ⟨c20, c21⟩ := c2
  go_wp2_with fail
  refine (validGen_any e c _).mono ?_
  rintro x w2 ⟨rfl, hb⟩
  rw [HG.out]
  clear c20 c21
  have hs2 : w.heap.size + 2 ≤ w2.heap.size := Nat.le_trans hs1 hb.size
  have D2 : Hid (w2.heap[w.heap.size + 1]? = some (.cells #[.int .i64 e, .int .i64 c] 35 (0, 0))) := Lib.hid (by
    rw [hb.block _ (by omega)]; exact C2.out)
  have D1 : Hid (w2.heap[w.heap.size]? = some (.cells #[.int .i64 d, .int .i64 a, .int .i64 i] 41 (0, 0))) := Lib.hid (by
    rw [hb.block _ (by omega)]; exact C1.out)
  have B2 : Hid (Below w.heap.size w w2) := Lib.hid (B1.out.trans (hb.mono B1.out.size))
  clear hb C1 C2 hs1 B1
  have c2 : (w2.cell? ⟨w.heap.size, 0, none⟩ = some (.int .i64 d) ∧ w2.cell? ⟨w.heap.size, 1, none⟩ = some (.int .i64 a) ∧ w2.cell? ⟨w.heap.size, 2, none⟩ = some (.int .i64 i)) := by
    unfold World.cell?; rw [D1.out]; exact ⟨rfl, rfl, rfl⟩
  obtain ⟨c20, c21, c22'⟩ := c2
  have c22 : ∀ o, (w2.alloc o).cell? ⟨w.heap.size, 2, none⟩ = some (.int .i64 i) := fun o => by rw [World.cell?_of_block (Below.heap_alloc w2 _ w.heap.size (by omega))]; exact c22'
  clear c22'
  have HS2 := Lib.hid hs2
  have HP := Lib.hid hp
  have e40 : decide ((40 : Int) < (p.size : Int)) = false := by simp; omega
  clear hp hs2
  go_wp2_with fail
  rw [byte_of a, byte_of d, wrap16_of i G1.out]
  refine (put16_any _ [UInt8.ofNat a, UInt8.ofNat d] i (w.heap.size + 2) _ G1.out (by simp) (by have := HS2.out; simp; omega) (OwnB.two _ _ _ _ HS2.out)).mono ?_
  rintro x w3 ⟨v1, rfl, ho, hb⟩
  have S3 : Hid (w3.cell? ⟨w.heap.size + 1, 0, none⟩ = some (.int .i64 e) ∧ w3.cell? ⟨w.heap.size + 1, 1, none⟩ = some (.int .i64 c) ∧ KeptB w w3) := Lib.hid (by
    refine keepS ⟨?_, ?_, ?_, ?_⟩ hb
    · rw [World.cell?_of_block (Below.heap_alloc w2 _ (w.heap.size + 1) (by have := HS2.out; omega))]; unfold World.cell?; rw [D2.out]; rfl
    · rw [World.cell?_of_block (Below.heap_alloc w2 _ (w.heap.size + 1) (by have := HS2.out; omega))]; unfold World.cell?; rw [D2.out]; rfl
    · have := HS2.out; simp; omega
    · exact B2.out.alloc B2.out.size _)
  have O3 := Lib.hid ho
  clear hb ho D1 D2 B2 HS2 c20 c21 c22 e40
  go_wp2_with fail
  have HL1 : Hid (([UInt8.ofNat a, UInt8.ofNat d] ++ le 2 i).length = 4) := Lib.hid (by simp [le_length])
  generalize hE1 : [UInt8.ofNat a, UInt8.ofNat d] ++ le 2 i = l1 at *
  have E1 := Lib.hid hE1
  clear hE1
  have hk := S3.out
  go_region_held3 (fun x => x.cell? ⟨w.heap.size + 1, 0, none⟩ = some (.int .i64 e) ∧ x.cell? ⟨w.heap.size + 1, 1, none⟩ = some (.int .i64 c) ∧ KeptB w x)
    (first | exact drewS S3.out | exact keepS (drewS S3.out) hb4 | exact keepS (keepS (drewS S3.out) hb4) hb5)
    (first
      | (go_at_call_of 44 (IntKind.u32.wrap (e : Int)); rw [wrap32_of e G2.out]; refine (put32_any v1 l1 e (w.heap.size + 2) _ G2.out (by rw [HL1.out]; omega) ?_ ?_).mono ?_; exact S3.out.2.2.1; exact O3.out.drew; rintro x w4 ⟨v2, rfl, ho4, hb4⟩)
      | (go_at_call_of 44 (IntKind.u32.wrap (c : Int)); rw [wrap32_of c G3.out]; refine (put32_any _ (l1 ++ le 4 e) c (w.heap.size + 2) _ G3.out (by rw [List.length_append, HL1.out, le_length]; omega) ?_ ?_).mono ?_; exact Nat.le_trans S3.out.2.2.1 hb4.size; exact ho4; rintro x w5 ⟨v3, rfl, ho5, hb5⟩))
  clear hk
  have S5 := Lib.hid (keepS (keepS (drewS S3.out) hb4) hb5)
  have H5 := Lib.hid ho5
  have HL5 : Hid ((l1 ++ le 4 e ++ le 4 c).length = 12) := Lib.hid (by simp only [List.length_append, HL1.out, le_length])
  clear ho4 hb4 ho5 hb5 S3 O3 HL1
  generalize hE5 : l1 ++ le 4 e ++ le 4 c = l5 at *
  have E5 := Lib.hid hE5
  clear hE5
  go_wp2_with (at_builtin; refine wpList_append_s rfl _ _ rfl (w.heap.size + 2) v3 l5 p rfl H5.out rfl (by rw [HL5.out]; have := HP.out; omega) S5.out.2.2.1 ?_)
  intro v4 w6 hown hgrow
  have hb := grownBy_below hgrow S5.out.2.2.1 (fun k h => (H5.out.lt k h).1)
  have S6 := Lib.hid (keepS S5.out hb)
  have H6 := Lib.hid hown
  have HL6 : Hid ((l5 ++ p.data.toList).length = 12 + p.size) := Lib.hid (by rw [List.length_append, HL5.out]; simp)
  clear hown hgrow hb S5 H5 HL5
  generalize hE6 : l5 ++ p.data.toList = l6 at *
  have E6 := Lib.hid hE6
  clear hE6
  go_wp2_with (at_builtin; refine wpList_append_z rfl _ _ rfl (w.heap.size + 2) v4 l6 (40 - p.size) _ rfl H6.out rfl (by have := HP.out; first | omega | (simp; omega) | (unfold wrap64; omega)) (by rw [HL6.out]; have := HP.out; omega) S6.out.2.2.1 ?_)
  intro v5 w7 hown hgrow
  have hb := grownBy_below hgrow S6.out.2.2.1 (fun k h => (H6.out.lt k h).1)
  have S7 := Lib.hid (keepS S6.out hb)
  have H7 := Lib.hid hown
  have HL7 : Hid ((l6 ++ List.replicate (40 - p.size) 0).length = 52) := Lib.hid (by rw [List.length_append, HL6.out]; have := HP.out; simp; omega)
  clear hown hgrow hb S6 H6 HL6
  generalize hE7 : l6 ++ List.replicate (40 - p.size) 0 = l7 at *
  have E7 := Lib.hid hE7
  clear hE7
  go_wp2_with fail
  go_region_held3 (fun x => x.cell? ⟨w.heap.size + 1, 0, none⟩ = some (.int .i64 e) ∧ x.cell? ⟨w.heap.size + 1, 1, none⟩ = some (.int .i64 c) ∧ KeptB w x)
    (first | exact drewS S7.out | exact keepS (drewS S7.out) hb4 | exact keepS (keepS (drewS S7.out) hb4) hb5)
    (first
      | (go_at_call_of 44 (IntKind.u32.wrap (e : Int)); rw [wrap32_of e G2.out]; refine (put32_any v5 l7 e (w.heap.size + 2) _ G2.out (by rw [HL7.out]; omega) ?_ ?_).mono ?_; exact S7.out.2.2.1; exact H7.out.drew; rintro x w4 ⟨v2, rfl, ho4, hb4⟩)
      | (go_at_call_of 44 (IntKind.u32.wrap (c : Int)); rw [wrap32_of c G3.out]; refine (put32_any _ (l7 ++ le 4 e) c (w.heap.size + 2) _ G3.out (by rw [List.length_append, HL7.out, le_length]; omega) ?_ ?_).mono ?_; exact Nat.le_trans S7.out.2.2.1 hb4.size; exact ho4; rintro x w5 ⟨v3, rfl, ho5, hb5⟩))
  have S8 := Lib.hid (keepS (keepS (drewS S7.out) hb4) hb5)
  have H8 := Lib.hid ho5
  have HL8 : Hid ((l7 ++ le 4 e ++ le 4 c).length = 60) := Lib.hid (by simp only [List.length_append, HL7.out, le_length])
  clear ho4 hb4 ho5 hb5 S7 H7 HL7
  generalize hE8 : l7 ++ le 4 e ++ le 4 c = l8 at *
  have E8 := Lib.hid hE8
  clear hE8
  have HB8 : Hid (l8 = bodyB d a i e c p.data.toList) := Lib.hid (by
    rw [← E8.out, ← E7.out, ← E6.out, ← E5.out, ← E1.out]
    simp [bodyB, placeB, genB, pad])
  clear E8 E7 E6 E5 E1 HV HG
  go_wp2_with fail
  obtain ⟨ad, cap, rfl, hnn, hby⟩ := H8.out.slice
  have HY := Lib.hid hby
  have HNN := Lib.hid hnn
  have B8 := Lib.hid S8.out.2.2.2
  have Z8 := Lib.hid S8.out.2.2.1
  clear hby hnn H8 S8
  refine (of_any l8 ad cap _ HY.out).mono ?_
  rintro x w8 ⟨rfl, hb⟩
  have HY8 := Lib.hid (HY.out.below hb)
  have Z9 := Lib.hid (Nat.le_trans Z8.out hb.size)
  have B9 := Lib.hid (B8.out.trans (hb.mono B8.out.size))
  clear hb HY B8 Z8
  have hsum : rg (crcB l8) = (((crcB l8).toNat : Nat) : Int) := rfl
  rw [hsum]
  have HS : Hid ((crcB l8).toNat < 4294967296) := Lib.hid (crcB l8).isLt
  clear hsum
  generalize hN : (crcB l8).toNat = n at *
  have EN := Lib.hid hN
  clear hN
  go_wp2_with fail
  refine (put32_any _ [] n w8.heap.size _ HS.out (by simp) (Nat.le_refl _) (OwnB.nil _ _)).mono ?_
  rintro x w9 ⟨v6, rfl, ho, hb⟩
  have HY9 := Lib.hid (HY8.out.below hb)
  have H9 : Hid (OwnB w9 w8.heap.size v6 (le 4 n)) := Lib.hid ho
  have Z9 := Lib.hid hb.size
  have Z1 := Lib.hid B9.out.size
  have B9 := Lib.hid (B9.out.trans (hb.mono B9.out.size))
  clear ho hb HY8
  go_wp2_with (at_builtin; refine wpList_append_b rfl _ _ rfl w8.heap.size v6 (.slice ad l8.length cap) (le 4 n) l8 rfl H9.out rfl ⟨ad, cap, rfl, HNN.out, HY9.out⟩ (by rw [HL8.out, le_length]; omega) Z9.out ?_)
  intro v7 w10 hown hgrow
  have H10 := Lib.hid hown
  have B10 := Lib.hid (B9.out.grown hgrow B9.out.size (fun k h => Nat.le_trans Z1.out (H9.out.lt k h).1))
  have hconv := H10.out.str
  have HE : Hid (le 4 n ++ l8 = sealB d a i e c p.data.toList) := Lib.hid (by rw [← EN.out, HB8.out]; rfl)
  rw [HE.out] at hconv
  clear hown hgrow
  go_wp2_with fail
  go_ret2
  exact ⟨rfl, B10.out⟩

set_option maxRecDepth 100000 in
set_option maxHeartbeats 1000000 in
theorem seal_bad1 (d a i e c : Int) (p : ByteArray) (w : World) (hv : validB d a i = false) :
    Calls Try.prog 27 #[.agg #[.int .i64 d, .int .i64 a, .int .i64 i], .agg #[.int .i64 e, .int .i64 c], .string p] w fun x w' => x = .returned (.tuple #[.string ⟨#[]⟩, .int .i64 1]) ∧ Below w.heap.size w w' := by
  have HV := Lib.hid hv
  clear hv
  go_enter Try.func27, Try.ntmps27
  go_wp2_with fail
  refine (valid_any d a i _).mono ?_
  rintro x w1 ⟨rfl, hb⟩
  rw [HV.out]
  have B1 : Hid (Below w.heap.size w w1) := Lib.hid ((((Below.refl _ w).alloc (Nat.le_refl _) _).alloc (by simp) _).trans (hb.mono (by simp; omega)))
  clear hb
  go_wp2_with fail
  go_ret2
  exact ⟨rfl, B1.out⟩

set_option maxRecDepth 100000 in
set_option maxHeartbeats 1000000 in
theorem seal_bad2 (d a i e c : Int) (p : ByteArray) (w : World) (hv : validB d a i = true) (hg : genV e c = false ∨ genV e c = true ∧ 40 < p.size) :
    Calls Try.prog 27 #[.agg #[.int .i64 d, .int .i64 a, .int .i64 i], .agg #[.int .i64 e, .int .i64 c], .string p] w fun x w' => x = .returned (.tuple #[.string ⟨#[]⟩, .int .i64 1]) ∧ Below w.heap.size w w' := by
  have HV := Lib.hid hv
  have HG := Lib.hid hg
  clear hv hg
  go_enter Try.func27, Try.ntmps27
  go_wp2_with fail
  refine (valid_any d a i _).mono ?_
  rintro x w1 ⟨rfl, hb⟩
  rw [HV.out]
  have C2 : Hid (w1.heap[w.heap.size + 1]? = some (.cells #[.int .i64 e, .int .i64 c] 35 (0, 0))) := Lib.hid (by
    rw [hb.block _ (by simp)]
    exact (two_new _ _ _).2)
  have B1 : Hid (Below w.heap.size w w1) := Lib.hid ((((Below.refl _ w).alloc (Nat.le_refl _) _).alloc (by simp) _).trans (hb.mono (by simp; omega)))
  clear hb
  have c2 : w1.cell? ⟨w.heap.size + 1, 0, none⟩ = some (.int .i64 e) ∧ w1.cell? ⟨w.heap.size + 1, 1, none⟩ = some (.int .i64 c) := by
    unfold World.cell?; rw [C2.out]; exact ⟨rfl, rfl⟩
  obtain ⟨c20, c21⟩ := c2
  go_wp2_with fail
  refine (validGen_any e c _).mono ?_
  rintro x w2 ⟨rfl, hb⟩
  have B2 : Hid (Below w.heap.size w w2) := Lib.hid (B1.out.trans (hb.mono B1.out.size))
  clear hb c20 c21 C2 B1
  rcases HG.out with hg | ⟨hg, hp⟩
  · rw [hg]
    clear hg HG
    go_wp2_with fail
    go_ret2
    exact ⟨rfl, B2.out⟩
  · rw [hg]
    clear hg HG
    have e40 : decide ((40 : Int) < (p.size : Int)) = true := by simp; omega
    clear hp
    go_wp2_with fail
    go_ret2
    exact ⟨rfl, B2.out⟩
end Go.Proofs.Ytiakaloabeendaa
