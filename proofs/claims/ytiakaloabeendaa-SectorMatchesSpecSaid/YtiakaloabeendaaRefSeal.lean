/- The walk of the specification's Seal. -/
import Derived.Test.YtiakaloabeendaaRef15
import Derived.Test.YtiakaloabeendaaRefCrc
import Derived.Test.YtiakaloabeendaaSealed
namespace Go.Proofs.Ytiakaloabeendaa
open Go.RowKit

/-- The place and the generation lie in memory, and the bytes l in v, the call's own; nothing else has turned. -/
def StR (w x : World) (a b : Array Value) (v : Value) (l : List UInt8) : Prop := x.heap[w.heap.size]? = some (.cells a 41 (0, 0)) ∧ x.heap[w.heap.size + 1]? = some (.cells b 35 (0, 0)) ∧
  OwnB x (w.heap.size + 2) v l ∧ Below w.heap.size w x
theorem StR.step {w x y : World} {a b : Array Value} {v : Value} {l : List UInt8} (h : StR w x a b v l) (hb : Below x.heap.size x y) : StR w y a b v l :=
  ⟨(hb.block _ (Array.getElem?_eq_some_iff.1 h.1).1).trans h.1, (hb.block _ (Array.getElem?_eq_some_iff.1 h.2.1).1).trans h.2.1, h.2.2.1.below hb, h.2.2.2.trans (hb.mono h.2.2.2.size)⟩
theorem StR.lt {w x : World} {a b : Array Value} {v : Value} {l : List UInt8} (h : StR w x a b v l) : w.heap.size + 2 ≤ x.heap.size := (Array.getElem?_eq_some_iff.1 h.2.1).1
theorem StR.grown {w x y : World} {a b : Array Value} {v u : Value} {l m : List UInt8} (h : StR w x a b v l) (ho : OwnB y (w.heap.size + 2) u m) (hg : x.grownBy y v.ownBlock) : StR w y a b u m := by
  have hb : Below (w.heap.size + 2) x y := (Below.refl _ x).grown hg h.lt (fun k hk => (h.2.2.1.lt k hk).1)
  exact ⟨(hb.block _ (by omega)).trans h.1, (hb.block _ (by omega)).trans h.2.1, ho, h.2.2.2.trans (hb.mono (by omega))⟩
theorem StR.alloc {w x : World} {a b : Array Value} {v : Value} {l : List UInt8} (h : StR w x a b v l) (o : Obj) : StR w (x.alloc o) a b v l := h.step ((Below.refl _ x).alloc (Nat.le_refl _) o)

def lenR : Value → Nat
  | .slice _ n _ => n
  | _ => 0

def headB (d a i e c : Nat) : List UInt8 := placeB d a i ++ genB e c
theorem headB_length (d a i e c : Nat) : (headB d a i e c).length = 12 := by simp [headB, placeB_length, genB_length]

set_option maxRecDepth 100000 in
set_option maxHeartbeats 4000000 in
theorem rseal_good (d a i e c : Nat) (p : ByteArray) (w : World) (hv : validB d a i = true) (hg : genV e c = true) (hp : p.size ≤ 40) :
    Calls Try.prog 29 #[.agg #[.int .i64 d, .int .i64 a, .int .i64 i], .agg #[.int .i64 e, .int .i64 c], .string p] w fun x w' => x = .returned (.tuple #[.string (strB (sealB d a i e c p.data.toList)), .int .i64 0]) ∧ Below w.heap.size w w' := by
  have HV := Lib.hid hv
  have HG := Lib.hid hg
  have HP := Lib.hid hp
  have e40 : decide ((40 : Int) < (p.size : Int)) = false := by simp; omega
  clear hv hg hp
  go_enter Try.func29, Try.ntmps29
  go_wp2_with fail
  refine (rvalid_any d a i _).mono ?_
  rintro x w1 ⟨rfl, hb⟩
  rw [HV.out]
  have T1 : Hid (w1.heap[w.heap.size]? = some (.cells #[.int .i64 (d : Int), .int .i64 (a : Int), .int .i64 (i : Int)] 41 (0, 0)) ∧ w1.heap[w.heap.size + 1]? = some (.cells #[.int .i64 (e : Int), .int .i64 (c : Int)] 35 (0, 0)) ∧ Below w.heap.size w w1) := Lib.hid
    ⟨(hb.block _ (by simp; omega)).trans (two_new w _ _).1, (hb.block _ (by simp)).trans (two_new w _ _).2, (((Below.refl _ w).alloc (Nat.le_refl _) _).alloc (by simp) _).trans (hb.mono (by simp; omega))⟩
  clear hb
  obtain ⟨q0, q1, -⟩ := cells2 T1.out.2.1
  go_wp2_with fail
  refine (right_any e c _).mono ?_
  rintro x w2 ⟨rfl, hb⟩
  rw [HG.out]
  have T2 : Hid (w2.heap[w.heap.size]? = some (.cells #[.int .i64 (d : Int), .int .i64 (a : Int), .int .i64 (i : Int)] 41 (0, 0)) ∧ w2.heap[w.heap.size + 1]? = some (.cells #[.int .i64 (e : Int), .int .i64 (c : Int)] 35 (0, 0)) ∧ Below w.heap.size w w2) := Lib.hid
    ⟨(hb.block _ (Array.getElem?_eq_some_iff.1 T1.out.1).1).trans T1.out.1, (hb.block _ (Array.getElem?_eq_some_iff.1 T1.out.2.1).1).trans T1.out.2.1, T1.out.2.2.trans (hb.mono T1.out.2.2.size)⟩
  clear hb T1 q0 q1
  obtain ⟨p0, p1, -, -⟩ := cells3 T2.out.1
  have hlt : w.heap.size + 2 ≤ w2.heap.size := (Array.getElem?_eq_some_iff.1 T2.out.2.1).1
  have HLT := Lib.hid hlt
  clear hlt
  have k0 : ∀ o, (w2.alloc o).cell? ⟨w.heap.size, 2, none⟩ = some (.int .i64 i) := fun o => by
    rw [World.cell?_of_block (Below.heap_alloc w2 _ w.heap.size (by have := HLT.out; omega))]; exact (cells3 T2.out.1).2.2.1
  go_wp2_with fail
  rw [byte_of a, byte_of d]
  have S0 : Hid (StR w (w2.alloc (.cells #[.int .u8 ((UInt8.ofNat a).toNat : Int), .int .u8 ((UInt8.ofNat d).toNat : Int)] 5)) #[.int .i64 (d : Int), .int .i64 (a : Int), .int .i64 (i : Int)] #[.int .i64 (e : Int), .int .i64 (c : Int)] (.slice (some ⟨w2.heap.size, 0, none⟩) 2 2) [UInt8.ofNat a, UInt8.ofNat d]) := Lib.hid
    ⟨(Below.heap_alloc _ _ _ (by have := HLT.out; omega)).trans T2.out.1, (Below.heap_alloc _ _ _ (by have := HLT.out; omega)).trans T2.out.2.1, OwnB.two w2 _ _ _ HLT.out, T2.out.2.2.alloc T2.out.2.2.size _⟩
  clear T2 p0 p1 k0 e40
  generalize (w2.alloc (.cells #[.int .u8 ((UInt8.ofNat a).toNat : Int), .int .u8 ((UInt8.ofNat d).toNat : Int)] 5)) = x0 at *
  generalize Value.slice (some ⟨w2.heap.size, 0, none⟩) 2 2 = v0 at *
  have L0 : Hid ([UInt8.ofNat a, UInt8.ofNat d].length = 2) := Lib.hid rfl
  generalize hl0 : [UInt8.ofNat a, UInt8.ofNat d] = l0 at *
  have E0 := Lib.hid hl0
  clear hl0
  refine (number2 i _).mono ?_
  rintro x y0 ⟨b0, rfl, ho, hb⟩
  have R0 := Lib.hid (S0.out.step hb)
  have B0 := Lib.hid ho.slice
  have K0 : Hid ((le 2 i).length = 2) := Lib.hid (le_length 2 i)
  clear ho hb S0
  generalize hm : le 2 i = m0 at *
  have M0 := Lib.hid hm
  clear hm
  go_wp2_with (at_builtin; refine wpList_append_b rfl _ _ rfl (w.heap.size + 2) v0 b0 l0 m0 rfl R0.out.2.2.1 rfl B0.out (by rw [L0.out, K0.out]; omega) R0.out.lt ?_)
  intro v1 x1 hown hgrow
  have S1 := Lib.hid (R0.out.grown hown hgrow)
  have L1 : Hid ((l0 ++ m0).length = 4) := Lib.hid (by rw [List.length_append, L0.out, K0.out])
  clear hown hgrow R0 B0
  generalize hl : l0 ++ m0 = l1 at *
  have E1 := Lib.hid hl
  clear hl
  obtain ⟨q0, q1, -⟩ := cells2 S1.out.2.1
  go_wp2_with fail
  clear q0 q1
  refine (number4 e _).mono ?_
  rintro x y1 ⟨b1, rfl, ho, hb⟩
  have R1 := Lib.hid (S1.out.step hb)
  have B1 := Lib.hid ho.slice
  have K1 : Hid ((le 4 e).length = 4) := Lib.hid (le_length 4 e)
  clear ho hb S1
  generalize hm : le 4 e = m1 at *
  have M1 := Lib.hid hm
  clear hm
  go_wp2_with (at_builtin; refine wpList_append_b rfl _ _ rfl (w.heap.size + 2) v1 b1 l1 m1 rfl R1.out.2.2.1 rfl B1.out (by rw [L1.out, K1.out]; omega) R1.out.lt ?_)
  intro v2 x2 hown hgrow
  have S2 := Lib.hid (R1.out.grown hown hgrow)
  have L2 : Hid ((l1 ++ m1).length = 8) := Lib.hid (by rw [List.length_append, L1.out, K1.out])
  clear hown hgrow R1 B1
  generalize hl : l1 ++ m1 = l2 at *
  have E2 := Lib.hid hl
  clear hl
  obtain ⟨q0, q1, -⟩ := cells2 S2.out.2.1
  go_wp2_with fail
  clear q0 q1
  refine (number4 c _).mono ?_
  rintro x y2 ⟨b2, rfl, ho, hb⟩
  have R2 := Lib.hid (S2.out.step hb)
  have B2 := Lib.hid ho.slice
  have K2 : Hid ((le 4 c).length = 4) := Lib.hid (le_length 4 c)
  clear ho hb S2
  generalize hm : le 4 c = m2 at *
  have M2 := Lib.hid hm
  clear hm
  go_wp2_with (at_builtin; refine wpList_append_b rfl _ _ rfl (w.heap.size + 2) v2 b2 l2 m2 rfl R2.out.2.2.1 rfl B2.out (by rw [L2.out, K2.out]; omega) R2.out.lt ?_)
  intro v3 x3 hown hgrow
  have S3 := Lib.hid (R2.out.grown hown hgrow)
  have L3 : Hid ((l2 ++ m2).length = 12) := Lib.hid (by rw [List.length_append, L2.out, K2.out])
  clear hown hgrow R2 B2
  generalize hl : l2 ++ m2 = l3 at *
  have E3 := Lib.hid hl
  clear hl
  go_wp2_with (at_builtin; refine wpList_append_s rfl _ _ rfl (w.heap.size + 2) v3 l3 p rfl S3.out.2.2.1 rfl (by rw [L3.out]; have := HP.out; omega) S3.out.lt ?_)
  intro v4 x4 hown hgrow
  have S4 := Lib.hid (S3.out.grown hown hgrow)
  clear hown hgrow S3
  go_wp2_with fail
  go_loopw [10] (fun v wr => ∃ k : Nat, k + p.size ≤ 40 ∧ StR w wr #[.int .i64 (d : Int), .int .i64 (a : Int), .int .i64 (i : Int)] #[.int .i64 (e : Int), .int .i64 (c : Int)] v (l3 ++ p.data.toList ++ List.replicate k 0)) (fun v _ => 52 - lenR v)
  case atStart => exact ⟨0, by have := HP.out; omega, by simpa using S4.out⟩
  case round =>
    clear S4
    obtain ⟨k, hk, hs⟩ := hrel
    have S5 := Lib.hid hs
    have HK := Lib.hid hk
    have HLn : Hid ((l3 ++ p.data.toList ++ List.replicate k 0).length = 12 + p.size + k) := Lib.hid (by simp [L3.out]; omega)
    clear hs hk
    obtain ⟨ad, cap, rfl, _, _⟩ := S5.out.2.2.1.slice
    rw [HLn.out] at S5 ⊢
    have HF : Hid (l3 ++ p.data.toList ++ List.replicate (k + 1) 0 = (l3 ++ p.data.toList ++ List.replicate k 0) ++ [0]) := Lib.hid (by rw [List.replicate_succ', ← List.append_assoc])
    have HZ : Hid (12 + p.size + k = 52 → l3 ++ p.data.toList ++ List.replicate k 0 = l3 ++ pad p.data.toList) := Lib.hid (fun h => by
      unfold pad
      rw [List.append_assoc, show 40 - p.data.toList.length = k by simp; omega])
    generalize hn : 12 + p.size + k = n at *
    have HN := Lib.hid hn
    clear hn
    generalize l3 ++ p.data.toList ++ List.replicate k 0 = F at *
    by_cases hlt : n < 52
    · have hd : decide ((n : Int) < 52) = true := by simp; omega
      have HT := Lib.hid hlt
      clear hlt
      have HSl : Hid (SliceB (wr.alloc (.cells #[.int .u8 0] 5)) (.slice (some ⟨wr.heap.size, 0, none⟩) 1 1) [0]) := Lib.hid (SliceB.one wr 5 0 _ rfl)
      go_wp2_with (at_builtin; refine wpList_append_b rfl _ _ rfl (w.heap.size + 2) (.slice ad n cap) (.slice (some ⟨wr.heap.size, 0, none⟩) 1 1) F [0] rfl (S5.out.2.2.1.alloc _) rfl HSl.out (by have := HLn.out; have := HT.out; simp; omega) (by have := S5.out.lt; simp; omega) ?_)
      intro v5 w4 hown hgrow
      have S6 := Lib.hid ((S5.out.alloc (Obj.cells #[.int .u8 0] 5)).grown hown hgrow)
      have HL3 := Lib.hid (show (F ++ [0]).length = n + 1 by rw [List.length_append, HLn.out]; rfl)
      clear hown hgrow
      obtain ⟨ad2, cap2, rfl, _, _⟩ := S6.out.2.2.1.slice
      rw [HL3.out] at S6 ⊢
      go_wp2_with fail
      go_roundw
      case rel => exact ⟨k + 1, by have := HN.out; have := HT.out; omega, by rw [HF.out]; exact S6.out⟩
      case measure => have := HT.out; simp [lenR]; omega
    · have hd : decide ((n : Int) < 52) = false := by simp; omega
      obtain rfl : n = 52 := by have := HN.out; have := HK.out; omega
      have hF := HZ.out rfl
      have L5 : Hid (F.length = 52) := Lib.hid (by rw [HLn.out])
      have E5 := Lib.hid hF
      clear hF hlt HZ HF HN HLn
      obtain ⟨q0, q1, -⟩ := cells2 S5.out.2.1
      go_wp2_with fail
      clear q0 q1
      generalize Value.slice ad 52 cap = v5 at *
      generalize F = l5 at *
      refine (number4 e _).mono ?_
      rintro x y5 ⟨b5, rfl, ho, hb⟩
      have R5 := Lib.hid (S5.out.step hb)
      have B5 := Lib.hid ho.slice
      have K5 : Hid ((le 4 e).length = 4) := Lib.hid (le_length 4 e)
      clear ho hb S5
      generalize hm : le 4 e = m5 at *
      have M5 := Lib.hid hm
      clear hm
      go_wp2_with (at_builtin; refine wpList_append_b rfl _ _ rfl (w.heap.size + 2) v5 b5 l5 m5 rfl R5.out.2.2.1 rfl B5.out (by rw [L5.out, K5.out]; omega) R5.out.lt ?_)
      intro v6 x6 hown hgrow
      have S6 := Lib.hid (R5.out.grown hown hgrow)
      have L6 : Hid ((l5 ++ m5).length = 56) := Lib.hid (by rw [List.length_append, L5.out, K5.out])
      clear hown hgrow R5 B5
      generalize hl : l5 ++ m5 = l6 at *
      have E6 := Lib.hid hl
      clear hl
      obtain ⟨q0, q1, -⟩ := cells2 S6.out.2.1
      go_wp2_with fail
      clear q0 q1
      refine (number4 c _).mono ?_
      rintro x y6 ⟨b6, rfl, ho, hb⟩
      have R6 := Lib.hid (S6.out.step hb)
      have B6 := Lib.hid ho.slice
      have K6 : Hid ((le 4 c).length = 4) := Lib.hid (le_length 4 c)
      clear ho hb S6
      generalize hm : le 4 c = m6 at *
      have M6 := Lib.hid hm
      clear hm
      go_wp2_with (at_builtin; refine wpList_append_b rfl _ _ rfl (w.heap.size + 2) v6 b6 l6 m6 rfl R6.out.2.2.1 rfl B6.out (by rw [L6.out, K6.out]; omega) R6.out.lt ?_)
      intro v7 x7 hown hgrow
      have S7 := Lib.hid (R6.out.grown hown hgrow)
      have L7 : Hid ((l6 ++ m6).length = 60) := Lib.hid (by rw [List.length_append, L6.out, K6.out])
      clear hown hgrow R6 B6
      generalize hl : l6 ++ m6 = l7 at *
      have E7 := Lib.hid hl
      clear hl
      obtain ⟨ad7, cap7, hv7, -, hby7⟩ := S7.out.2.2.1.slice
      rw [L7.out] at hv7
      have HV7 := Lib.hid hv7
      have HB7 := Lib.hid hby7
      clear hv7 hby7
      go_wp2_with fail
      rw [HV7.out]
      have HO := refOf_any l7 ad7 cap7 x7 HB7.out
      rw [L7.out] at HO
      refine HO.mono ?_
      rintro x y7 ⟨rfl, rfl⟩
      clear HO
      have ew : IntKind.i64.wrap (rg (crcB l7)) = (((crcB l7).toNat : Nat) : Int) := by have := (crcB l7).isLt; unfold rg; rw [IntKind.wrap_i64]; omega
      go_wp2_with fail
      refine (number4 _ _).mono ?_
      rintro x y8 ⟨b8, rfl, ho, hb⟩
      have S8 := Lib.hid (S7.out.step hb)
      rw [HV7.out] at S8
      have hstr1 := ho.str
      have hstr2 := S8.out.2.2.1.str
      clear ho hb S7 ew HV7 HB7
      have HE : Hid (strB (le 4 (crcB l7).toNat) ++ strB l7 = strB (sealB d a i e c p.data.toList)) := Lib.hid (by
        have e7 : l7 = bodyB d a i e c p.data.toList := by
          rw [← E7.out, ← E6.out, E5.out, ← E3.out, ← E2.out, ← E1.out, ← E0.out, ← M0.out, ← M1.out, ← M2.out, ← M5.out, ← M6.out]
          simp [bodyB, placeB, genB]
        rw [e7]
        unfold sealB sumB
        rw [← strB_self (strB _ ++ strB _)]
        congr 1)
      have hSA : (strB (le 4 (crcB l7).toNat)).size = 4 := by rw [strB_size, le_length]
      have hSB : (strB l7).size = 60 := by rw [strB_size, L7.out]
      generalize strB (le 4 (crcB l7).toNat) = SA at *
      generalize strB l7 = SB at *
      have HB8 := Lib.hid S8.out.2.2.2
      clear hd S8 E7 L7 K5 K6 E5 E6 L6 M5 M6
      go_wp2_with fail
      rw [HE.out]
      go_ret2
      exact ⟨rfl, HB8.out⟩

set_option maxRecDepth 100000 in
set_option maxHeartbeats 4000000 in
theorem rseal_bad (d a i e c : Int) (p : ByteArray) (w : World) (h : ¬ (validB d a i = true ∧ genV e c = true ∧ p.size ≤ 40)) :
    Calls Try.prog 29 #[.agg #[.int .i64 d, .int .i64 a, .int .i64 i], .agg #[.int .i64 e, .int .i64 c], .string p] w fun x w' => x = .returned (.tuple #[.string ⟨#[]⟩, .int .i64 1]) ∧ Below w.heap.size w w' := by
  have HN := Lib.hid h
  clear h
  go_enter Try.func29, Try.ntmps29
  go_wp2_with fail
  refine (rvalid_any d a i _).mono ?_
  rintro x w1 ⟨rfl, hb⟩
  have T1 : Hid (w1.heap[w.heap.size + 1]? = some (.cells #[.int .i64 e, .int .i64 c] 35 (0, 0)) ∧ Below w.heap.size w w1) := Lib.hid
    ⟨(hb.block _ (by simp)).trans (two_new w _ _).2, (((Below.refl _ w).alloc (Nat.le_refl _) _).alloc (by simp) _).trans (hb.mono (by simp; omega))⟩
  clear hb
  obtain ⟨q0, q1, -⟩ := cells2 T1.out.1
  have HV : Hid (∃ b, b = validB d a i) := Lib.hid ⟨_, rfl⟩
  obtain ⟨bv, EV⟩ := HV.out
  have EV2 := Lib.hid EV
  rw [← EV]
  clear HV EV
  go_wp2_with fail
  refine (right_any e c _).mono ?_
  rintro x w2 ⟨rfl, hb⟩
  have B2 := Lib.hid (T1.out.2.trans (hb.mono T1.out.2.size))
  clear hb T1 q0 q1
  have HG : Hid (∃ b, b = genV e c) := Lib.hid ⟨_, rfl⟩
  obtain ⟨bg, EG⟩ := HG.out
  have EG2 := Lib.hid EG
  rw [← EG]
  clear HG EG
  cases bv
  · go_wp2_with fail
    go_ret2
    exact ⟨rfl, B2.out⟩
  · cases bg
    · go_wp2_with fail
      go_ret2
      exact ⟨rfl, B2.out⟩
    · have e40 : decide ((40 : Int) < (p.size : Int)) = true := by
        have := HN.out
        have h1 : validB d a i = true := EV2.out.symm
        have h2 : genV e c = true := EG2.out.symm
        have h3 : ¬ p.size ≤ 40 := fun h3 => this ⟨h1, h2, h3⟩
        simp; omega
      go_wp2_with fail
      go_ret2
      exact ⟨rfl, B2.out⟩
end Go.Proofs.Ytiakaloabeendaa
