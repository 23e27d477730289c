/- The walk of solventlaw15.SectorDistinct. -/
import Derived.Test.YtiakaloabeendaaLawOrder
import Derived.Test.YtiakaloabeendaaPadded
namespace Go.Proofs.Ytiakaloabeendaa
open Go.RowKit

/-- Seal, whatever it is given. -/
def sealV (d a i e c : Int) (p : ByteArray) : Value :=
  if validB d a i = true ∧ genV e c = true ∧ p.size ≤ 40 then .tuple #[.string (strB (sealB d.toNat a.toNat i.toNat e.toNat c.toNat p.data.toList)), .int .i64 0] else .tuple #[.string ⟨#[]⟩, .int .i64 1]

theorem seal_any (d a i e c : Int) (p : ByteArray) (w : World) :
    Calls Try.prog 27 #[.agg #[.int .i64 d, .int .i64 a, .int .i64 i], .agg #[.int .i64 e, .int .i64 c], .string p] w fun x w' => x = .returned (sealV d a i e c p) ∧ Below w.heap.size w w' := by
  unfold sealV
  by_cases hv : validB d a i = true
  · by_cases hg : genV e c = true
    · by_cases hp : p.size ≤ 40
      · obtain ⟨D, A, I, rfl, rfl, rfl, _⟩ := valid_nat hv
        obtain ⟨E, C, rfl, rfl, _⟩ := gen_nat hg
        rw [if_pos ⟨hv, hg, hp⟩]
        exact seal_good D A I E C p w hv hg hp
      · rw [if_neg (by intro h; exact hp h.2.2)]
        exact seal_bad2 d a i e c p w hv (.inr ⟨hg, by omega⟩)
    · rw [if_neg (by intro h; exact hg h.2.1)]
      exact seal_bad2 d a i e c p w hv (.inl (by simpa using hg))
  · rw [if_neg (by intro h; exact hv h.1)]
    exact seal_bad1 d a i e c p w (by simpa using hv)

/-- Two places and two generations lie in memory; nothing else has turned. -/
def Four (w x : World) (a b c d : Array Value) : Prop := x.heap[w.heap.size]? = some (.cells a 41 (0, 0)) ∧ x.heap[w.heap.size + 1]? = some (.cells b 35 (0, 0)) ∧
  x.heap[w.heap.size + 1 + 1]? = some (.cells c 41 (0, 0)) ∧ x.heap[w.heap.size + 1 + 1 + 1]? = some (.cells d 35 (0, 0)) ∧ Below w.heap.size w x
theorem Four.step {w x y : World} {a b c d : Array Value} (h : Four w x a b c d) (hb : Below x.heap.size x y) : Four w y a b c d :=
  ⟨kept_of hb h.1, kept_of hb h.2.1, kept_of hb h.2.2.1, kept_of hb h.2.2.2.1, h.2.2.2.2.trans (hb.mono h.2.2.2.2.size)⟩
theorem four_new (w : World) (a b c d : Array Value) : Four w ((((w.alloc (.cells a 41)).alloc (.cells b 35)).alloc (.cells c 41)).alloc (.cells d 35)) a b c d := by
  have h1 := two_new w (.cells a 41) (.cells b 35)
  have h2 := two_new ((w.alloc (.cells a 41)).alloc (.cells b 35)) (.cells c 41) (.cells d 35)
  rw [World.size_alloc, World.size_alloc] at h2
  exact ⟨heap_two h1.1 _ _, heap_two h1.2 _ _, h2.1, h2.2, bel2 (bel2 (Below.refl _ w) (Nat.le_refl _) _ _) (by simp; omega) _ _⟩

theorem sealV_good {d a i e c : Int} {p : ByteArray} (h : validB d a i = true ∧ genV e c = true ∧ p.size ≤ 40) : sealV d a i e c p = .tuple #[.string (strB (sealB d.toNat a.toNat i.toNat e.toNat c.toNat p.data.toList)), .int .i64 0] := if_pos h
theorem sealV_bad {d a i e c : Int} {p : ByteArray} (h : ¬ (validB d a i = true ∧ genV e c = true ∧ p.size ≤ 40)) : sealV d a i e c p = .tuple #[.string ⟨#[]⟩, .int .i64 1] := if_neg h

/-- Sealed sectors tell their parts. -/
theorem sealB_inj {d a i e c d2 a2 i2 e2 c2 : Int} {p p2 : ByteArray} (h : validB d a i = true ∧ genV e c = true ∧ p.size ≤ 40) (h2 : validB d2 a2 i2 = true ∧ genV e2 c2 = true ∧ p2.size ≤ 40) :
    sealB d.toNat a.toNat i.toNat e.toNat c.toNat p.data.toList = sealB d2.toNat a2.toNat i2.toNat e2.toNat c2.toNat p2.data.toList ↔ (d = d2 ∧ a = a2 ∧ i = i2) ∧ (e = e2 ∧ c = c2) ∧ pad p.data.toList = pad p2.data.toList := by
  obtain ⟨D, A, I, rfl, rfl, rfl, k1, k2, k3, k4⟩ := valid_nat h.1
  obtain ⟨E, C, rfl, rfl, k5, k6, _⟩ := gen_nat h.2.1
  obtain ⟨D2, A2, I2, rfl, rfl, rfl, m1, m2, m3, m4⟩ := valid_nat h2.1
  obtain ⟨E2, C2, rfl, rfl, m5, m6, _⟩ := gen_nat h2.2.1
  simp only [Int.toNat_natCast]
  have hp : p.data.toList.length ≤ 40 := by simpa using h.2.2
  have hp2 : p2.data.toList.length ≤ 40 := by simpa using h2.2.2
  constructor
  · intro hh
    have q1 := read_a D A I E C p.data.toList (by omega)
    have q2 := read_d D A I E C p.data.toList (by omega)
    have q3 := read_i D A I E C p.data.toList k4
    have q4 := read_e D A I E C p.data.toList k5
    have q5 := read_c D A I E C p.data.toList k6
    have q6 := seal_pay D A I E C p.data.toList hp
    rw [hh] at q1 q2 q3 q4 q5 q6
    rw [read_a _ _ _ _ _ _ (by omega)] at q1
    rw [read_d _ _ _ _ _ _ (by omega)] at q2
    rw [read_i _ _ _ _ _ _ m4] at q3
    rw [read_e _ _ _ _ _ _ m5] at q4
    rw [read_c _ _ _ _ _ _ m6] at q5
    rw [seal_pay _ _ _ _ _ _ hp2] at q6
    exact ⟨⟨by omega, by omega, by omega⟩, ⟨by omega, by omega⟩, q6.symm⟩
  · rintro ⟨⟨h1, h2, h3⟩, ⟨h4, h5⟩, h6⟩
    have e1 : D = D2 := by omega
    have e2 : A = A2 := by omega
    have e3 : I = I2 := by omega
    have e4 : E = E2 := by omega
    have e5 : C = C2 := by omega
    subst e1 e2 e3 e4 e5
    unfold sealB bodyB
    rw [h6]

set_option maxRecDepth 100000 in
set_option maxHeartbeats 4000000 in
theorem sectorDistinct_of (hS : Sane15) (d a i e c : Int) (p : ByteArray) (d2 a2 i2 e2 c2 : Int) (p2 : ByteArray) (w : World) :
    Calls Try.prog 15 #[.agg #[.int .i64 d, .int .i64 a, .int .i64 i], .agg #[.int .i64 e, .int .i64 c], .string p, .agg #[.int .i64 d2, .int .i64 a2, .int .i64 i2], .agg #[.int .i64 e2, .int .i64 c2], .string p2] w fun x w' => x = .returned (.bool true) ∧ Below w.heap.size w w' := by
  have HS := Lib.hid hS
  clear hS
  go_enter Try.func15, Try.ntmps15
  go_wp2_with fail
  refine (seal_any d a i e c p _).mono ?_
  rintro x w1 ⟨rfl, hb⟩
  have T1 := Lib.hid ((four_new w _ _ _ _).step hb)
  clear hb
  obtain ⟨p0, p1, p2', _⟩ := cells3 T1.out.2.2.1
  obtain ⟨q0, q1, _⟩ := cells2 T1.out.2.2.2.1
  by_cases hg1 : validB d a i = true ∧ genV e c = true ∧ p.size ≤ 40
  case neg =>
    rw [sealV_bad hg1]
    clear hg1
    go_wp2_with fail
    refine (seal_any d2 a2 i2 e2 c2 p2 _).mono ?_
    rintro x w2 ⟨rfl, hb⟩
    have T2 := Lib.hid (T1.out.step hb)
    clear hb T1 p0 p1 p2' q0 q1
    have hs : ∃ X n, sealV d2 a2 i2 e2 c2 p2 = .tuple #[.string X, .int .i64 n] := by
      unfold sealV; split <;> exact ⟨_, _, rfl⟩
    obtain ⟨X, n, hs⟩ := hs
    rw [hs]
    clear hs
    go_wp2_with fail
    refine (HS.out _).mono ?_
    rintro x w3 ⟨rfl, hb⟩
    have T3 := Lib.hid (T2.out.step hb)
    clear hb T2
    go_wp2_with fail
    go_ret
    exact ⟨rfl, T3.out.2.2.2.2⟩
  case pos =>
    rw [sealV_good hg1]
    have G1 := Lib.hid hg1
    clear hg1
    generalize hX : strB (sealB d.toNat a.toNat i.toNat e.toNat c.toNat p.data.toList) = X
    have EX := Lib.hid hX
    clear hX
    go_wp2_with fail
    refine (seal_any d2 a2 i2 e2 c2 p2 _).mono ?_
    rintro x w2 ⟨rfl, hb⟩
    have T2 := Lib.hid (T1.out.step hb)
    clear hb T1 p0 p1 p2' q0 q1
    by_cases hg2 : validB d2 a2 i2 = true ∧ genV e2 c2 = true ∧ p2.size ≤ 40
    case neg =>
      rw [sealV_bad hg2]
      clear hg2
      go_wp2_with fail
      refine (HS.out _).mono ?_
      rintro x w3 ⟨rfl, hb⟩
      have T3 := Lib.hid (T2.out.step hb)
      clear hb T2
      go_wp2_with fail
      go_ret
      exact ⟨rfl, T3.out.2.2.2.2⟩
    case pos =>
      rw [sealV_good hg2]
      have G2 := Lib.hid hg2
      clear hg2
      generalize hX : strB (sealB d2.toNat a2.toNat i2.toNat e2.toNat c2.toNat p2.data.toList) = Y
      have EY := Lib.hid hX
      clear hX
      have HI := Lib.hid (sealB_inj G1.out G2.out)
      obtain ⟨p0, p1, p2', _⟩ := cells3 T2.out.1
      obtain ⟨q0, q1, _⟩ := cells2 T2.out.2.1
      obtain ⟨r0, r1, r2, _⟩ := cells3 T2.out.2.2.1
      obtain ⟨s0, s1, _⟩ := cells2 T2.out.2.2.2.1
      by_cases hall : (d = d2 ∧ a = a2 ∧ i = i2) ∧ (e = e2 ∧ c = c2)
      case neg =>
        have hXY : (X.toList == Y.toList) = false := by
          rw [beq_eq_false_iff_ne, ByteArray.toList_eq, ByteArray.toList_eq, ← EX.out, ← EY.out, strB_list, strB_list]
          intro h
          have := HI.out.1 h
          exact hall ⟨this.1, this.2.1⟩
        have HA := Lib.hid hall
        clear hall
        go_wp2_with fail
        all_goals first
          | exact absurd ⟨⟨by assumption, by assumption, by assumption⟩, by assumption, by assumption⟩ HA.out
          | (refine (HS.out _).mono ?_
             rintro x w3 ⟨rfl, hb⟩
             have T3 := Lib.hid (T2.out.step hb)
             clear hb
             go_wp2_with fail
             go_ret
             exact ⟨rfl, T3.out.2.2.2.2⟩)
      case pos =>
        obtain ⟨⟨rfl, rfl, rfl⟩, rfl, rfl⟩ := hall
        have hXY : (X.toList == Y.toList) = ((strB (pad p.data.toList)).toList == (strB (pad p2.data.toList)).toList) := by
          rw [ByteArray.toList_eq, ByteArray.toList_eq, ByteArray.toList_eq, ByteArray.toList_eq, ← EX.out, ← EY.out, strB_list, strB_list, strB_list, strB_list]
          rw [Bool.eq_iff_iff, beq_iff_eq, beq_iff_eq]
          exact ⟨fun h => (HI.out.1 h).2.2, fun h => HI.out.2 ⟨⟨rfl, rfl, rfl⟩, ⟨rfl, rfl⟩, h⟩⟩
        have HXY := Lib.hid hXY
        clear hXY
        go_wp2_with fail
        refine (padded_any p _ G1.out.2.2).mono ?_
        rintro x w3 ⟨rfl, hb⟩
        have T3 := Lib.hid (T2.out.step hb)
        clear hb T2 p0 p1 p2' q0 q1 r0 r1 r2 s0 s1
        generalize hU : strB (pad p.data.toList) = U at *
        clear hU
        go_wp2_with fail
        refine (padded_any p2 _ G2.out.2.2).mono ?_
        rintro x w4 ⟨rfl, hb⟩
        have T4 := Lib.hid (T3.out.step hb)
        clear hb T3
        generalize hV : strB (pad p2.data.toList) = V at *
        clear hV
        go_wp2_with fail
        refine (HS.out _).mono ?_
        rintro x w5 ⟨rfl, hb⟩
        have T5 := Lib.hid (T4.out.step hb)
        clear hb T4
        have hxy := HXY.out
        generalize (U.toList == V.toList) = bb at *
        go_wp2_with fail
        cases bb
        · go_wp2_with fail
          go_ret
          exact ⟨rfl, T5.out.2.2.2.2⟩
        · go_wp2_with fail
          go_ret
          exact ⟨rfl, T5.out.2.2.2.2⟩
end Go.Proofs.Ytiakaloabeendaa
