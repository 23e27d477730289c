/- The walk of solventlaw15.SectorTorn. -/
import Derived.Test.YtiakaloabeendaaSaneAll
import Derived.Test.YtiakaloabeendaaLawDist
namespace Go.Proofs.Ytiakaloabeendaa
open Go.RowKit

/-! ### the plain law -/
theorem torn_seal (d a i e c e2 c2 : Nat) (p p2 : List UInt8) (hp : p.length ≤ 40) (hp2 : p2.length ≤ 40) (he : e < 4294967296) (hc : c < 4294967296) (he2 : e2 < 4294967296) (hc2 : c2 < 4294967296) (hne : ¬ (e = e2 ∧ c = c2)) (k : Nat)
    (h : goodL (mix k (sealB d a i e c p) (sealB d a i e2 c2 p2))) : mix k (sealB d a i e c p) (sealB d a i e2 c2 p2) = sealB d a i e c p ∨ mix k (sealB d a i e c p) (sealB d a i e2 c2 p2) = sealB d a i e2 c2 p2 := by
  refine torn_two (sealB_length _ _ _ _ _ _ hp) (sealB_length _ _ _ _ _ _ hp2) (seal_sound _ _ _ _ _ _ hp).2 (seal_sound _ _ _ _ _ _ hp2).2 (by rw [seal_place, seal_place]) (seal_sum _ _ _ _ _ _) ?_ k ⟨h.1, h.2.2.2⟩
  rw [seal_gen, seal_gen]
  exact fun hh => hne (genB_inj he hc he2 hc2 hh)

theorem torn_zeros (d a i e c : Nat) (p : List UInt8) (hp : p.length ≤ 40) (k : Nat) (h : goodL (mix k (sealB d a i e c p) (List.replicate 64 0))) : mix k (sealB d a i e c p) (List.replicate 64 0) = sealB d a i e c p := by
  refine torn_zero (sealB_length _ _ _ _ _ _ hp) (by simp) (seal_sound _ _ _ _ _ _ hp).2 (by decide) k ⟨h.1, h.2.2.2⟩ ?_
  intro hz
  have h3 := h.2.2.1
  generalize mix k (sealB d a i e c p) (List.replicate 64 0) = m at *
  have e1 := sub_sub m 8 16 0 4 (by omega)
  have e2 := sub_sub m 8 16 4 8 (by omega)
  rw [hz] at e1 e2
  rw [← e1, ← e2] at h3
  exact absurd h3 (by decide)

/-- The place and the two generations lie in memory; nothing else has turned. -/
def Trg (w x : World) (a b c : Array Value) : Prop := x.heap[w.heap.size]? = some (.cells a 41 (0, 0)) ∧ x.heap[w.heap.size + 1]? = some (.cells b 35 (0, 0)) ∧
  x.heap[w.heap.size + 1 + 1]? = some (.cells c 35 (0, 0)) ∧ Below w.heap.size w x
theorem Trg.step {w x y : World} {a b c : Array Value} (h : Trg w x a b c) (hb : Below x.heap.size x y) : Trg w y a b c :=
  ⟨kept_of hb h.1, kept_of hb h.2.1, kept_of hb h.2.2.1, h.2.2.2.trans (hb.mono h.2.2.2.size)⟩
theorem trg_new (w : World) (a b c : Array Value) : Trg w (((w.alloc (.cells a 41)).alloc (.cells b 35)).alloc (.cells c 35)) a b c := by
  have h1 := (two_new w (.cells a 41) (.cells b 35))
  have h2 := (two_new (w.alloc (.cells a 41)) (.cells b 35) (.cells c 35))
  rw [World.size_alloc] at h2
  refine ⟨?_, h2.1, h2.2, bel2 ((Below.refl _ w).alloc (Nat.le_refl _) _) (by simp) _ _⟩
  rw [Below.heap_alloc _ _ _ (by simp; omega)]
  exact h1.1

theorem cat_mix (X Y : ByteArray) (k : Nat) (hY : Y.size = 64) : X.extract 0 k ++ Y.extract k 64 = strB (mix k X.data.toList Y.data.toList) := by
  rw [← strB_self (X.extract 0 k ++ Y.extract k 64)]
  congr 1
  unfold mix
  simp only [ByteArray.data_append, Array.toList_append, ByteArray.data_extract, Array.toList_extract]
  simp
  rw [List.take_of_length_le]
  simp; omega

theorem sealV_form (d a i e c : Int) (p : ByteArray) : ∃ X n, sealV d a i e c p = .tuple #[.string X, .int .i64 n] := by
  unfold sealV; split <;> exact ⟨_, _, rfl⟩

theorem openV_form (d a i : Int) (s : ByteArray) : ∃ E C Q h, openV d a i s = .tuple #[.agg #[.int .i64 E, .int .i64 C], .string Q, .int .i64 h] := by
  unfold openV
  repeat (first | (split; exact ⟨_, _, _, _, rfl⟩) | split)
  all_goals exact ⟨_, _, _, _, rfl⟩

/-- A torn sector is one of the two, or corrupt. -/
def TornOk (d a i : Int) (X Y : ByteArray) (k : Nat) : Prop := ∀ M, M = strB (mix k X.data.toList Y.data.toList) → (M.toList == X.toList) = true ∨ ((M.toList == X.toList) = false ∧ (M.toList == Y.toList) = true) ∨
  ((M.toList == X.toList) = false ∧ (M.toList == Y.toList) = false ∧ openV d a i M = .tuple #[.agg #[.int .i64 0, .int .i64 0], .string ⟨#[]⟩, .int .i64 7])
theorem tornOk {d a i : Int} {x y : List UInt8} {k : Nat} (hv : validB d a i = true) (hx : x.length = 64) (hy : y.length = 64) (h : goodL (mix k x y) → mix k x y = x ∨ mix k x y = y) : TornOk d a i (strB x) (strB y) k := by
  rintro M rfl
  simp only [ByteArray.toList_eq, strB_list]
  by_cases h1 : mix k x y = x
  · left; rw [h1]; exact beq_self_eq_true _
  · by_cases h2 : mix k x y = y
    · right; left; exact ⟨beq_eq_false_iff_ne.2 h1, by rw [h2]; exact beq_self_eq_true _⟩
    · right; right
      refine ⟨beq_eq_false_iff_ne.2 h1, beq_eq_false_iff_ne.2 h2, open_badB d a i _ hv (by simp [mix]; omega) (fun hg => ?_)⟩
      rcases h hg with h | h
      · exact h1 h
      · exact h2 h

set_option maxRecDepth 100000 in
set_option maxHeartbeats 4000000 in
theorem sectorTorn_two (d a i e c : Int) (p : ByteArray) (e2 c2 : Int) (p2 : ByteArray) (k : Int) (w : World) :
    Calls Try.prog 9 #[.agg #[.int .i64 d, .int .i64 a, .int .i64 i], .agg #[.int .i64 e, .int .i64 c], .string p, .agg #[.int .i64 e2, .int .i64 c2], .string p2, .bool false, .int .i64 k] w fun x w' => x = .returned (.bool true) ∧ Below w.heap.size w w' := by
  have HS := Lib.hid sane15
  go_enter Try.func9, Try.ntmps9
  go_wp2_with fail
  refine (seal_any d a i e c p _).mono ?_
  rintro x w1 ⟨rfl, hb⟩
  have T1 := Lib.hid ((trg_new w _ _ _).step hb)
  clear hb
  obtain ⟨p0, p1, p2', -⟩ := cells3 T1.out.1
  obtain ⟨q0, q1, -⟩ := cells2 T1.out.2.2.1
  by_cases hg1 : validB d a i = true ∧ genV e c = true ∧ p.size ≤ 40
  case neg =>
    rw [sealV_bad hg1]
    clear hg1
    go_wp2_with fail
    refine (seal_any d a i e2 c2 p2 _).mono ?_
    rintro x w2 ⟨rfl, hb⟩
    have T2 := Lib.hid (T1.out.step hb)
    clear hb T1 p0 p1 p2' q0 q1
    obtain ⟨Y, m, hY⟩ := sealV_form d a i e2 c2 p2
    rw [hY]
    clear hY
    go_wp2_with fail
    refine (HS.out _).mono ?_
    rintro x w3 ⟨rfl, hb⟩
    have T3 := Lib.hid (T2.out.step hb)
    clear hb T2
    go_wp2_with fail
    go_ret
    exact ⟨rfl, T3.out.2.2.2⟩
  case pos =>
    rw [sealV_good hg1]
    have G1 := Lib.hid hg1
    generalize hX : strB (sealB d.toNat a.toNat i.toNat e.toNat c.toNat p.data.toList) = X
    have EX := Lib.hid hX
    clear hX hg1
    go_wp2_with fail
    refine (seal_any d a i e2 c2 p2 _).mono ?_
    rintro x w2 ⟨rfl, hb⟩
    have T2 := Lib.hid (T1.out.step hb)
    clear hb T1 p0 p1 p2' q0 q1
    by_cases hg2 : validB d a i = true ∧ genV e2 c2 = true ∧ p2.size ≤ 40
    case neg =>
      rw [sealV_bad hg2]
      clear hg2
      go_wp2_with fail
      refine (HS.out _).mono ?_
      rintro x w3 ⟨rfl, hb⟩
      have T3 := Lib.hid (T2.out.step hb)
      clear hb T2
      go_wp2_with fail
      go_ret
      exact ⟨rfl, T3.out.2.2.2⟩
    case pos =>
      rw [sealV_good hg2]
      have G2 := Lib.hid hg2
      generalize hX : strB (sealB d.toNat a.toNat i.toNat e2.toNat c2.toNat p2.data.toList) = Y
      have EY := Lib.hid hX
      clear hX hg2
      obtain ⟨q0, q1, -⟩ := cells2 T2.out.2.1
      obtain ⟨s0, s1, -⟩ := cells2 T2.out.2.2.1
      by_cases hall : e = e2 ∧ c = c2
      case pos =>
        obtain ⟨rfl, rfl⟩ := hall
        go_wp2_with fail
        refine (HS.out _).mono ?_
        rintro x w3 ⟨rfl, hb⟩
        have T3 := Lib.hid (T2.out.step hb)
        clear hb T2
        go_wp2_with fail
        go_ret
        exact ⟨rfl, T3.out.2.2.2⟩
      case neg =>
        have HA := Lib.hid hall
        clear hall
        by_cases hk : 0 ≤ k ∧ k ≤ 64
        case neg =>
          have hk2 : decide (k < 0) = true ∨ (decide (k < 0) = false ∧ decide (64 < k) = true) := by simp; omega
          clear hk
          rcases hk2 with h1 | ⟨h1, h2⟩
          · go_wp2_with fail
            all_goals first
              | exact absurd ⟨by first | rfl | assumption | (symm; assumption), by first | rfl | assumption | (symm; assumption)⟩ HA.out
              | (refine (HS.out _).mono ?_
                 rintro x w3 ⟨rfl, hb⟩
                 have T3 := Lib.hid (T2.out.step hb)
                 clear hb
                 go_wp2_with fail
                 go_ret
                 exact ⟨rfl, T3.out.2.2.2⟩)
          · go_wp2_with fail
            all_goals first
              | exact absurd ⟨by first | rfl | assumption | (symm; assumption), by first | rfl | assumption | (symm; assumption)⟩ HA.out
              | (refine (HS.out _).mono ?_
                 rintro x w3 ⟨rfl, hb⟩
                 have T3 := Lib.hid (T2.out.step hb)
                 clear hb
                 go_wp2_with fail
                 go_ret
                 exact ⟨rfl, T3.out.2.2.2⟩)
        case pos =>
          obtain ⟨h1, h2⟩ := hk
          obtain ⟨k, rfl⟩ := Int.eq_ofNat_of_zero_le h1
          have d1 : decide ((k : Int) < 0) = false := by simp
          have d2 : decide (64 < (k : Int)) = false := by simp; omega
          have hX64 : X.size = 64 := by rw [← EX.out, strB_size, sealB_length _ _ _ _ _ _ (by simpa using G1.out.2.2)]
          have hY64 : Y.size = 64 := by rw [← EY.out, strB_size, sealB_length _ _ _ _ _ _ (by simpa using G2.out.2.2)]
          have HT : Hid (TornOk d a i X Y k) := Lib.hid (by
            obtain ⟨hv, hg, hp⟩ := G1.out
            obtain ⟨_, hg2, hp2⟩ := G2.out
            have hpl : p.data.toList.length ≤ 40 := by simpa using hp
            have hpl2 : p2.data.toList.length ≤ 40 := by simpa using hp2
            obtain ⟨D, A, I, rfl, rfl, rfl, -⟩ := valid_nat hv
            obtain ⟨E, C, rfl, rfl, b1, b2, -⟩ := gen_nat hg
            obtain ⟨E2, C2, rfl, rfl, b3, b4, -⟩ := gen_nat hg2
            rw [← EX.out, ← EY.out]
            simp only [Int.toNat_natCast]
            exact tornOk hv (sealB_length _ _ _ _ _ _ hpl) (sealB_length _ _ _ _ _ _ hpl2) (torn_seal D A I E C E2 C2 _ _ hpl hpl2 b1 b2 b3 b4 (fun hh => HA.out ⟨by omega, by omega⟩) k))
          clear EX EY G1 G2
          have HC := Lib.hid (cat_mix X Y k hY64)
          go_wp2_with fail
          all_goals first
            | exact absurd ⟨by first | rfl | assumption | (symm; assumption), by first | rfl | assumption | (symm; assumption)⟩ HA.out
            | (go_quiet (fail)
               clear q0 q1 s0 s1
               have T3 : Hid (Trg w (w2.drewN nq) _ _ _) := Lib.hid (T2.out.step ⟨rfl, rfl, rfl, Nat.le_refl _, fun _ _ => rfl⟩)
               obtain ⟨p0, p1, p2', -⟩ := cells3 T3.out.1
               go_wp2_with fail
               generalize hM : X.extract 0 k ++ Y.extract k 64 = M
               have HM : Hid (M = strB (mix k X.data.toList Y.data.toList)) := Lib.hid (hM.symm.trans HC.out)
               clear hM
               refine (open_any d a i M _).mono ?_
               rintro x w3 ⟨rfl, hb⟩
               have T4 := Lib.hid (T3.out.step hb)
               clear hb T3 T2 p0 p1 p2'
               rcases HT.out M HM.out with h | ⟨h, h'⟩ | ⟨h, h', ho⟩
               · obtain ⟨E, C, Q, g, ho⟩ := openV_form d a i M
                 rw [ho]
                 clear ho
                 go_wp2_with fail
                 refine (HS.out _).mono ?_
                 rintro x w4 ⟨rfl, hb⟩
                 have T5 := Lib.hid ((T4.out.step ((Below.refl _ w3).alloc (Nat.le_refl _) _)).step hb)
                 clear hb T4
                 go_wp2_with fail
                 go_ret
                 exact ⟨rfl, T5.out.2.2.2⟩
               · obtain ⟨E, C, Q, g, ho⟩ := openV_form d a i M
                 rw [ho]
                 clear ho
                 go_wp2_with fail
                 refine (HS.out _).mono ?_
                 rintro x w4 ⟨rfl, hb⟩
                 have T5 := Lib.hid ((T4.out.step ((Below.refl _ w3).alloc (Nat.le_refl _) _)).step hb)
                 clear hb T4
                 go_wp2_with fail
                 go_ret
                 exact ⟨rfl, T5.out.2.2.2⟩
               · rw [ho]
                 clear ho
                 go_wp2_with fail
                 refine (HS.out _).mono ?_
                 rintro x w4 ⟨rfl, hb⟩
                 have T5 := Lib.hid ((T4.out.step ((Below.refl _ w3).alloc (Nat.le_refl _) _)).step hb)
                 clear hb T4
                 go_wp2_with fail
                 go_ret
                 exact ⟨rfl, T5.out.2.2.2⟩)

set_option maxRecDepth 100000 in
set_option maxHeartbeats 4000000 in
theorem sectorTorn_zero (d a i e c : Int) (p : ByteArray) (e2 c2 : Int) (p2 : ByteArray) (k : Int) (w : World) :
    Calls Try.prog 9 #[.agg #[.int .i64 d, .int .i64 a, .int .i64 i], .agg #[.int .i64 e, .int .i64 c], .string p, .agg #[.int .i64 e2, .int .i64 c2], .string p2, .bool true, .int .i64 k] w fun x w' => x = .returned (.bool true) ∧ Below w.heap.size w w' := by
  have HS := Lib.hid sane15
  obtain ⟨M0, hM0, hmk⟩ := make_zeros 64 (by decide)
  replace hmk : ∀ W : World, (Instr.makeSlice 22 (.int .i64 64) (.int .i64 64)).run Try.prog W = .ok (.slice (some ⟨W.heap.size, 0, none⟩) 64 64) (W.alloc (.cells M0 5)) := hmk
  have hA : ∀ W : World, (convert 22 9 (.slice (some ⟨W.heap.size, 0, none⟩) 64 64)).run Try.prog (W.alloc (.cells M0 5)) = .ok (.string (strB (List.replicate 64 0))) (W.alloc (.cells M0 5)) := fun W =>
    conv_zeros rfl (heap_alloc_new W _) hM0 (by decide)
  have hY64 : (strB (List.replicate 64 0)).size = 64 := rfl
  have HYZ : Hid (∃ Y, Y = strB (List.replicate 64 0)) := Lib.hid ⟨_, rfl⟩
  obtain ⟨Y, HY⟩ := HYZ.out
  rw [← HY] at hA hY64
  have EY := Lib.hid HY
  clear HY HYZ hM0
  go_enter Try.func9, Try.ntmps9
  go_wp2_with fail
  refine (seal_any d a i e c p _).mono ?_
  rintro x w1 ⟨rfl, hb⟩
  have T1 := Lib.hid ((trg_new w _ _ _).step hb)
  clear hb
  obtain ⟨p0, p1, p2', -⟩ := cells3 T1.out.1
  obtain ⟨q0, q1, -⟩ := cells2 T1.out.2.2.1
  obtain ⟨Y0, m, hY⟩ := sealV_form d a i e2 c2 p2
  by_cases hg1 : validB d a i = true ∧ genV e c = true ∧ p.size ≤ 40
  case neg =>
    rw [sealV_bad hg1]
    clear hg1
    go_wp2_with fail
    refine (seal_any d a i e2 c2 p2 _).mono ?_
    rintro x w2 ⟨rfl, hb⟩
    have T2 := Lib.hid (T1.out.step hb)
    clear hb T1 p0 p1 p2' q0 q1
    rw [hY]
    clear hY
    have hA2 := hA w2
    go_wp2_with fail
    refine (HS.out _).mono ?_
    rintro x w3 ⟨rfl, hb⟩
    have T3 := Lib.hid ((T2.out.step ((Below.refl _ w2).alloc (Nat.le_refl _) _)).step hb)
    clear hb T2
    go_wp2_with fail
    go_ret
    exact ⟨rfl, T3.out.2.2.2⟩
  case pos =>
    rw [sealV_good hg1]
    have G1 := Lib.hid hg1
    generalize hX : strB (sealB d.toNat a.toNat i.toNat e.toNat c.toNat p.data.toList) = X
    have EX := Lib.hid hX
    clear hX hg1
    go_wp2_with fail
    refine (seal_any d a i e2 c2 p2 _).mono ?_
    rintro x w2 ⟨rfl, hb⟩
    have T2 := Lib.hid (T1.out.step hb)
    clear hb T1 p0 p1 p2' q0 q1
    rw [hY]
    clear hY
    have hA2 := hA w2
    have T2' : Hid (Trg w (w2.alloc (.cells M0 5)) _ _ _) := Lib.hid (T2.out.step ((Below.refl _ w2).alloc (Nat.le_refl _) _))
    obtain ⟨q0, q1, -⟩ := cells2 T2'.out.2.1
    obtain ⟨s0, s1, -⟩ := cells2 T2'.out.2.2.1
    by_cases hk : 0 ≤ k ∧ k ≤ 64
    case neg =>
      have hk2 : decide (k < 0) = true ∨ (decide (k < 0) = false ∧ decide (64 < k) = true) := by simp; omega
      clear hk
      rcases hk2 with h1 | ⟨h1, h2⟩
      · go_wp2_with fail
        all_goals
          refine (HS.out _).mono ?_
          rintro x w3 ⟨rfl, hb⟩
          have T3 := Lib.hid (T2'.out.step hb)
          clear hb
          go_wp2_with fail
          go_ret
          exact ⟨rfl, T3.out.2.2.2⟩
      · go_wp2_with fail
        all_goals
          refine (HS.out _).mono ?_
          rintro x w3 ⟨rfl, hb⟩
          have T3 := Lib.hid (T2'.out.step hb)
          clear hb
          go_wp2_with fail
          go_ret
          exact ⟨rfl, T3.out.2.2.2⟩
    case pos =>
      obtain ⟨h1, h2⟩ := hk
      obtain ⟨k, rfl⟩ := Int.eq_ofNat_of_zero_le h1
      have d1 : decide ((k : Int) < 0) = false := by simp
      have d2 : decide (64 < (k : Int)) = false := by simp; omega
      have hX64 : X.size = 64 := by rw [← EX.out, strB_size, sealB_length _ _ _ _ _ _ (by simpa using G1.out.2.2)]
      have HT : Hid (TornOk d a i X Y k) := Lib.hid (by
        obtain ⟨hv, hg, hp⟩ := G1.out
        have hpl : p.data.toList.length ≤ 40 := by simpa using hp
        obtain ⟨D, A, I, rfl, rfl, rfl, -⟩ := valid_nat hv
        obtain ⟨E, C, rfl, rfl, b1, b2, -⟩ := gen_nat hg
        rw [← EX.out, EY.out]
        simp only [Int.toNat_natCast]
        exact tornOk hv (sealB_length _ _ _ _ _ _ hpl) (by simp) (fun hg => .inl (torn_zeros D A I E C _ hpl k hg)))
      clear EX G1
      have HC := Lib.hid (cat_mix X Y k hY64)
      go_wp2_with fail
      all_goals
        go_quiet (fail)
        clear q0 q1 s0 s1
        have T3 : Hid (Trg w ((w2.alloc (.cells M0 5)).drewN nq) _ _ _) := Lib.hid (T2'.out.step ⟨rfl, rfl, rfl, Nat.le_refl _, fun _ _ => rfl⟩)
        obtain ⟨p0, p1, p2', -⟩ := cells3 T3.out.1
        go_wp2_with fail
        generalize hM : X.extract 0 k ++ Y.extract k 64 = M
        have HM : Hid (M = strB (mix k X.data.toList Y.data.toList)) := Lib.hid (hM.symm.trans HC.out)
        clear hM
        refine (open_any d a i M _).mono ?_
        rintro x w3 ⟨rfl, hb⟩
        have T4 := Lib.hid (T3.out.step hb)
        clear hb T3 T2 T2' p0 p1 p2'
        rcases HT.out M HM.out with h | ⟨h, h'⟩ | ⟨h, h', ho⟩
        · obtain ⟨E, C, Q, g, ho⟩ := openV_form d a i M
          rw [ho]
          clear ho
          go_wp2_with fail
          refine (HS.out _).mono ?_
          rintro x w4 ⟨rfl, hb⟩
          have T5 := Lib.hid ((T4.out.step ((Below.refl _ w3).alloc (Nat.le_refl _) _)).step hb)
          clear hb T4
          go_wp2_with fail
          go_ret
          exact ⟨rfl, T5.out.2.2.2⟩
        · obtain ⟨E, C, Q, g, ho⟩ := openV_form d a i M
          rw [ho]
          clear ho
          go_wp2_with fail
          refine (HS.out _).mono ?_
          rintro x w4 ⟨rfl, hb⟩
          have T5 := Lib.hid ((T4.out.step ((Below.refl _ w3).alloc (Nat.le_refl _) _)).step hb)
          clear hb T4
          go_wp2_with fail
          go_ret
          exact ⟨rfl, T5.out.2.2.2⟩
        · rw [ho]
          clear ho
          go_wp2_with fail
          refine (HS.out _).mono ?_
          rintro x w4 ⟨rfl, hb⟩
          have T5 := Lib.hid ((T4.out.step ((Below.refl _ w3).alloc (Nat.le_refl _) _)).step hb)
          clear hb T4
          go_wp2_with fail
          go_ret
          exact ⟨rfl, T5.out.2.2.2⟩

theorem sectorTorn_walk (d a i e c : Int) (p : ByteArray) (e2 c2 : Int) (p2 : ByteArray) (z : Bool) (k : Int) (w : World) :
    Calls Try.prog 9 #[.agg #[.int .i64 d, .int .i64 a, .int .i64 i], .agg #[.int .i64 e, .int .i64 c], .string p, .agg #[.int .i64 e2, .int .i64 c2], .string p2, .bool z, .int .i64 k] w fun x w' => x = .returned (.bool true) ∧ Below w.heap.size w w' := by
  cases z
  · exact sectorTorn_two d a i e c p e2 c2 p2 k w
  · exact sectorTorn_zero d a i e c p e2 c2 p2 k w
end Go.Proofs.Ytiakaloabeendaa
