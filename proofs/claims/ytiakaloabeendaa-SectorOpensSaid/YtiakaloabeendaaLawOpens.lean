/- The walk of solventlaw15.SectorOpens. -/
import Derived.Test.YtiakaloabeendaaLawDist
import Derived.Test.YtiakaloabeendaaSaneAll
namespace Go.Proofs.Ytiakaloabeendaa
open Go.RowKit

/-- Three boxes lie in memory; nothing else has turned. -/
def Tri (w x : World) (a b c : Array Value) : Prop := x.heap[w.heap.size]? = some (.cells a 41 (0, 0)) ∧ x.heap[w.heap.size + 1]? = some (.cells b 35 (0, 0)) ∧
  x.heap[w.heap.size + 1 + 1]? = some (.cells c 41 (0, 0)) ∧ Below w.heap.size w x
theorem Tri.step {w x y : World} {a b c : Array Value} (h : Tri w x a b c) (hb : Below x.heap.size x y) : Tri w y a b c :=
  ⟨kept_of hb h.1, kept_of hb h.2.1, kept_of hb h.2.2.1, h.2.2.2.trans (hb.mono h.2.2.2.size)⟩
theorem tri_new (w : World) (a b c : Array Value) : Tri w (((w.alloc (.cells a 41)).alloc (.cells b 35)).alloc (.cells c 41)) a b c := by
  have h1 := (two_new w (.cells a 41) (.cells b 35))
  have h2 := (two_new (w.alloc (.cells a 41)) (.cells b 35) (.cells c 41))
  rw [World.size_alloc] at h2
  refine ⟨?_, h2.1, h2.2, bel2 ((Below.refl _ w).alloc (Nat.le_refl _) _) (by simp) _ _⟩
  rw [Below.heap_alloc _ _ _ (by simp; omega)]
  exact h1.1

set_option maxRecDepth 100000 in
set_option maxHeartbeats 4000000 in
theorem sectorOpens_of (hS : Sane15) (d a i e c : Int) (p : ByteArray) (D A I : Int) (w : World) :
    Calls Try.prog 13 #[.agg #[.int .i64 d, .int .i64 a, .int .i64 i], .agg #[.int .i64 e, .int .i64 c], .string p, .agg #[.int .i64 D, .int .i64 A, .int .i64 I]] w fun x w' => x = .returned (.bool true) ∧ Below w.heap.size w w' := by
  have HS := Lib.hid hS
  clear hS
  go_enter Try.func13, Try.ntmps13
  go_wp2_with fail
  refine (seal_any d a i e c p _).mono ?_
  rintro x w1 ⟨rfl, hb⟩
  have T1 := Lib.hid ((tri_new w _ _ _).step hb)
  clear hb
  obtain ⟨p0, p1, p2, -⟩ := cells3 T1.out.1
  by_cases hg1 : validB d a i = true ∧ genV e c = true ∧ p.size ≤ 40
  case neg =>
    rw [sealV_bad hg1]
    clear hg1
    go_wp2_with fail
    refine (HS.out _).mono ?_
    rintro x w3 ⟨rfl, hb⟩
    have T3 := Lib.hid (T1.out.step hb)
    clear hb T1
    go_wp2_with fail
    go_ret
    exact ⟨rfl, T3.out.2.2.2⟩
  case pos =>
    obtain ⟨hv, hg, hp⟩ := hg1
    obtain ⟨d, a, i, rfl, rfl, rfl, -⟩ := valid_nat hv
    obtain ⟨e, c, rfl, rfl, -⟩ := gen_nat hg
    rw [sealV_good ⟨hv, hg, hp⟩]
    simp only [Int.toNat_natCast]
    have HV := Lib.hid hv
    have HG := Lib.hid hg
    have HP := Lib.hid hp
    have hpl : p.data.toList.length ≤ 40 := by simpa using hp
    have OV := Lib.hid (openV_seal d a i e c p.data.toList hpl hv hg)
    have OE := Lib.hid (fun (D A I : Int) (hV : validB D A I = true) (hne : ¬ ((d : Int) = D ∧ (a : Int) = A ∧ (i : Int) = I)) => openV_else d a i e c D A I p.data.toList hpl hv hg hV hne)
    have LO := Lib.hid (label_seal d a i e c p.data.toList hpl hv hg)
    have hX64 : (strB (sealB d a i e c p.data.toList)).size = 64 := by rw [strB_size, sealB_length _ _ _ _ _ _ hpl]
    have X64 := Lib.hid hX64
    clear hv hg hp hpl hX64
    generalize strB (sealB d a i e c p.data.toList) = X at *
    generalize (d : Int) = d at *
    generalize (a : Int) = a at *
    generalize (i : Int) = i at *
    generalize (e : Int) = e at *
    generalize (c : Int) = c at *
    go_wp2_with fail
    refine (open_any d a i X _).mono ?_
    rintro x w2 ⟨rfl, hb⟩
    rw [OV.out]
    have T2 := Lib.hid (T1.out.step hb)
    clear hb T1 p0 p1 p2
    have r0 : ∀ o, (w2.alloc o).cell? ⟨w.heap.size + 1 + 1, 0, none⟩ = some (.int .i64 D) ∧ (w2.alloc o).cell? ⟨w.heap.size + 1 + 1, 1, none⟩ = some (.int .i64 A) ∧ (w2.alloc o).cell? ⟨w.heap.size + 1 + 1, 2, none⟩ = some (.int .i64 I) := fun o => by
      have h := cells3 (T2.out.step ((Below.refl _ w2).alloc (Nat.le_refl _) o)).2.2.1
      exact ⟨h.1, h.2.1, h.2.2.1⟩
    generalize hPd : strB (pad p.data.toList) = PD at *
    have HPD := Lib.hid hPd
    clear hPd
    go_wp2_with fail
    refine (open_any D A I X _).mono ?_
    rintro x w3 ⟨rfl, hb⟩
    have T3 := Lib.hid ((T2.out.step ((Below.refl _ w2).alloc (Nat.le_refl _) (Obj.cells #[Value.int IntKind.i64 e, Value.int IntKind.i64 c] 35))).step hb)
    have K3 : Hid (w3.heap[w2.heap.size]? = some (.cells #[.int .i64 e, .int .i64 c] 35 (0, 0))) := Lib.hid (kept_of hb (heap_alloc_new w2 _))
    clear hb T2 r0
    generalize w2.heap.size = g at *
    by_cases hV : validB D A I = true
    case neg =>
      have hV2 : validB D A I = false := by simpa using hV
      have HE : Hid (¬ (d = D ∧ a = A ∧ i = I)) := Lib.hid (fun h => hV (by obtain ⟨h1, h2, h3⟩ := h; rw [← h1, ← h2, ← h3]; exact HV.out))
      have HV2 := Lib.hid hV2
      rw [openV_arg hV2]
      clear hV hV2 OV OE
      go_wp2_with fail
      refine (LO.out _).mono ?_
      rintro x w4 ⟨rfl, hb⟩
      have T4 := Lib.hid ((T3.out.step ((Below.refl _ w3).alloc (Nat.le_refl _) _)).step hb)
      have K4 := Lib.hid (kept_of hb (kept_of ((Below.refl _ w3).alloc (Nat.le_refl _) _) K3.out))
      clear hb T3 K3 LO
      obtain ⟨a0, a1, a2⟩ := cells3a T4.out.2.2.1
      obtain ⟨b0, b1, b2⟩ := cells3a T4.out.1
      go_wp2_with fail
      all_goals first
        | exact absurd ⟨by first | rfl | assumption | (symm; assumption), by first | rfl | assumption | (symm; assumption), by first | rfl | assumption | (symm; assumption)⟩ HE.out
        | (subst_vars
           refine (valid_any _ _ _ _).mono ?_
           rintro x w7 ⟨rfl, hb7⟩
           rw [HV2.out]
           have T7 := Lib.hid ((T4.out.step (bel2 (Below.refl _ w4) (Nat.le_refl _) _ _)).step hb7)
           have K7 := Lib.hid (kept_of hb7 (heap_two K4.out _ _))
           have P7 := Lib.hid (kept_of hb7 (two_new w4 _ _).1)
           have L7 := Lib.hid (kept_of hb7 (two_new w4 _ _).2)
           clear hb7 T4 K4 a0 a1 a2 b0 b1 b2
           go_wp2_with fail
           refine (HS.out _).mono ?_
           rintro x w5 ⟨rfl, hb⟩
           have T5 := Lib.hid (T7.out.step hb)
           have K5 := Lib.hid (kept_of hb K7.out)
           have P5 := Lib.hid (kept_of hb P7.out)
           have L5 := Lib.hid (kept_of hb L7.out)
           clear hb T7 K7 P7 L7
           generalize w4.heap.size = m at *
           obtain ⟨g0, g1, -⟩ := cells2 K5.out
           obtain ⟨e0, e1, -⟩ := cells2 T5.out.2.1
           go_wp2_with fail
           refine (padded_any p _ HP.out).mono ?_
           rintro x w6 ⟨rfl, hb⟩
           (try rw [HPD.out])
           have T6 := Lib.hid (T5.out.step hb)
           have P6 := Lib.hid (kept_of hb P5.out)
           have L6 := Lib.hid (kept_of hb L5.out)
           clear hb T5 K5 P5 L5 g0 g1 e0 e1
           obtain ⟨p0, p1, p2, -⟩ := cells3 P6.out
           obtain ⟨b0, b1, b2, -⟩ := cells3 T6.out.1
           obtain ⟨g0, g1, -⟩ := cells2 L6.out
           obtain ⟨e0, e1, -⟩ := cells2 T6.out.2.1
           have x64 := X64.out
           go_wp2_with fail
           go_ret
           exact ⟨rfl, T6.out.2.2.2⟩)
    case pos =>
      by_cases heq : d = D ∧ a = A ∧ i = I
      case neg =>
        rw [OE.out D A I hV heq]
        have HE := Lib.hid heq
        clear hV OV OE heq
        go_wp2_with fail
        refine (LO.out _).mono ?_
        rintro x w4 ⟨rfl, hb⟩
        have T4 := Lib.hid ((T3.out.step ((Below.refl _ w3).alloc (Nat.le_refl _) _)).step hb)
        have K4 := Lib.hid (kept_of hb (kept_of ((Below.refl _ w3).alloc (Nat.le_refl _) _) K3.out))
        clear hb T3 K3 LO
        obtain ⟨a0, a1, a2⟩ := cells3a T4.out.2.2.1
        obtain ⟨b0, b1, b2⟩ := cells3a T4.out.1
        go_wp2_with fail
        all_goals first
          | exact absurd ⟨by first | rfl | assumption | (symm; assumption), by first | rfl | assumption | (symm; assumption), by first | rfl | assumption | (symm; assumption)⟩ HE.out
          | (skip
             refine (HS.out _).mono ?_
             rintro x w5 ⟨rfl, hb⟩
             have T5 := Lib.hid ((T4.out.step (bel2 (Below.refl _ w4) (Nat.le_refl _) _ _)).step hb)
             have K5 := Lib.hid (kept_of hb (heap_two K4.out _ _))
             have P5 := Lib.hid (kept_of hb (two_new w4 _ _).1)
             have L5 := Lib.hid (kept_of hb (two_new w4 _ _).2)
             clear hb T4 K4 a0 a1 a2 b0 b1 b2
             generalize w4.heap.size = m at *
             obtain ⟨g0, g1, -⟩ := cells2 K5.out
             obtain ⟨e0, e1, -⟩ := cells2 T5.out.2.1
             go_wp2_with fail
             refine (padded_any p _ HP.out).mono ?_
             rintro x w6 ⟨rfl, hb⟩
             (try rw [HPD.out])
             have T6 := Lib.hid (T5.out.step hb)
             have P6 := Lib.hid (kept_of hb P5.out)
             have L6 := Lib.hid (kept_of hb L5.out)
             clear hb T5 K5 P5 L5 g0 g1 e0 e1
             obtain ⟨p0, p1, p2, -⟩ := cells3 P6.out
             obtain ⟨b0, b1, b2, -⟩ := cells3 T6.out.1
             obtain ⟨g0, g1, -⟩ := cells2 L6.out
             obtain ⟨e0, e1, -⟩ := cells2 T6.out.2.1
             have x64 := X64.out
             go_wp2_with fail
             go_ret
             exact ⟨rfl, T6.out.2.2.2⟩)
      case pos =>
        obtain ⟨rfl, rfl, rfl⟩ := heq
        rw [OV.out]
        clear hV OV OE
        go_wp2_with fail
        refine (LO.out _).mono ?_
        rintro x w4 ⟨rfl, hb⟩
        have T4 := Lib.hid ((T3.out.step ((Below.refl _ w3).alloc (Nat.le_refl _) _)).step hb)
        have K4 := Lib.hid (kept_of hb (kept_of ((Below.refl _ w3).alloc (Nat.le_refl _) _) K3.out))
        clear hb T3 K3 LO
        obtain ⟨a0, a1, a2⟩ := cells3a T4.out.2.2.1
        obtain ⟨b0, b1, b2⟩ := cells3a T4.out.1
        go_wp2_with fail
        refine (HS.out _).mono ?_
        rintro x w5 ⟨rfl, hb⟩
        have T5 := Lib.hid ((T4.out.step (bel2 (Below.refl _ w4) (Nat.le_refl _) _ _)).step hb)
        have K5 := Lib.hid (kept_of hb (heap_two K4.out _ _))
        have P5 := Lib.hid (kept_of hb (two_new w4 _ _).1)
        have L5 := Lib.hid (kept_of hb (two_new w4 _ _).2)
        clear hb T4 K4 a0 a1 a2 b0 b1 b2
        generalize w4.heap.size = m at *
        obtain ⟨g0, g1, -⟩ := cells2 K5.out
        obtain ⟨e0, e1, -⟩ := cells2 T5.out.2.1
        go_wp2_with fail
        refine (padded_any p _ HP.out).mono ?_
        rintro x w6 ⟨rfl, hb⟩
        (try rw [HPD.out])
        have T6 := Lib.hid (T5.out.step hb)
        have P6 := Lib.hid (kept_of hb P5.out)
        have L6 := Lib.hid (kept_of hb L5.out)
        clear hb T5 K5 P5 L5 g0 g1 e0 e1
        obtain ⟨p0, p1, p2, -⟩ := cells3 P6.out
        obtain ⟨b0, b1, b2, -⟩ := cells3 T6.out.1
        obtain ⟨g0, g1, -⟩ := cells2 L6.out
        obtain ⟨e0, e1, -⟩ := cells2 T6.out.2.1
        have x64 := X64.out
        go_wp2_with fail
        go_ret
        exact ⟨rfl, T6.out.2.2.2⟩

theorem sectorOpens_walk (d a i e c : Int) (p : ByteArray) (D A I : Int) (w : World) :
    Calls Try.prog 13 #[.agg #[.int .i64 d, .int .i64 a, .int .i64 i], .agg #[.int .i64 e, .int .i64 c], .string p, .agg #[.int .i64 D, .int .i64 A, .int .i64 I]] w fun x w' => x = .returned (.bool true) ∧ Below w.heap.size w w' := sectorOpens_of sane15 d a i e c p D A I w
end Go.Proofs.Ytiakaloabeendaa
