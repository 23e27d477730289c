/- The walk of solventlaw15.SectorDamaged. -/
import Derived.Test.YtiakaloabeendaaSaneAll
import Derived.Test.YtiakaloabeendaaLawDist
import Derived.Test.YtiakaloabeendaaEqual4
namespace Go.Proofs.Ytiakaloabeendaa
open Go.RowKit

/-! ### the plain law -/
theorem curB_take (l : List UInt8) (p : Nat) (xs : List UInt8) (k n : Nat) (h : n ≤ p) : (curB l p xs k).take n = l.take n := by
  induction k with
  | zero => rfl
  | succ k ih =>
    rw [curB, stepB, List.take_set, ih, List.set_eq_of_length_le]
    simp; omega
theorem curB_drop (l : List UInt8) (p : Nat) (xs : List UInt8) (k n : Nat) (h : n ≤ p) : (curB l p xs k).drop n = curB (l.drop n) (p - n) xs k := by
  induction k with
  | zero => rfl
  | succ k ih =>
    rw [curB, stepB, List.drop_set, if_neg (by omega), ih, curB, stepB, show p + k - n = p - n + k by omega]
    congr 2
    rw [← ih]
    simp only [List.getD_eq_getElem?_getD, List.getElem?_drop]
    rw [show n + (p - n + k) = p + k by omega]
theorem curB_tail (l : List UInt8) (p : Nat) (xs : List UInt8) (k n : Nat) (h : p + k ≤ n) : (curB l p xs k).drop n = l.drop n := by
  induction k with
  | zero => rfl
  | succ k ih => rw [curB, stepB, List.drop_set, if_pos (by omega), ih (by omega)]

theorem damaged {X : List UInt8} (hX : X.length = 64) (hg : goodL X) (p : Nat) (a b c d : UInt8) (hp : p + 4 ≤ 64) (hp4 : p = 0 ∨ 4 ≤ p) (hz : allZ a b c d = false) : ¬ goodL (curB X p [a, b, c, d] 4) := by
  intro h
  have hne : ¬ (a = 0 ∧ b = 0 ∧ c = 0 ∧ d = 0) := fun e => by rw [(allZ_iff a b c d).2 e] at hz; cases hz
  have h1 := h.1
  have h2 := hg.1
  have hlen := curB_length X p [a, b, c, d] 4
  rcases hp4 with rfl | hp4
  · rw [curB_tail X 0 _ 4 4 (by omega)] at h1
    have e1 : sub (curB X 0 [a, b, c, d] 4) 0 4 = sub X 0 4 := un_inj (by simp [sub, hlen]) (h1.trans h2.symm)
    have e2 : curB X 0 [a, b, c, d] 4 = X := parts 4 (by simpa [sub] using e1) (curB_tail X 0 _ 4 4 (by omega))
    exact hne (burst_four X 0 a b c d (by omega) (by rw [e2]))
  · have e1 : sub (curB X p [a, b, c, d] 4) 0 4 = sub X 0 4 := by
      have := curB_take X p [a, b, c, d] 4 4 hp4
      simpa [sub] using this
    rw [e1, h2, curB_drop X p _ 4 4 hp4] at h1
    exact hne (burst_four (X.drop 4) (p - 4) a b c d (by simp; omega) (BitVec.eq_of_toNat_eq h1.symm))

/-- The place, the generation and the change lie in memory; nothing else has turned. -/
def Dm (w x : World) (a b c : Array Value) : Prop := x.heap[w.heap.size]? = some (.cells a 41 (0, 0)) ∧ x.heap[w.heap.size + 1]? = some (.cells b 35 (0, 0)) ∧
  x.heap[w.heap.size + 1 + 1]? = some (.cells c 38 (0, 0)) ∧ Below w.heap.size w x
theorem Dm.step {w x y : World} {a b c : Array Value} (h : Dm w x a b c) (hb : Below x.heap.size x y) : Dm w y a b c :=
  ⟨kept_of hb h.1, kept_of hb h.2.1, kept_of hb h.2.2.1, h.2.2.2.trans (hb.mono h.2.2.2.size)⟩
theorem Dm.lt {w x : World} {a b c : Array Value} (h : Dm w x a b c) : w.heap.size + 3 ≤ x.heap.size := (Array.getElem?_eq_some_iff.1 h.2.2.1).1
theorem Dm.grown {w x y : World} {a b c : Array Value} (h : Dm w x a b c) (hb : Below (w.heap.size + 3) x y) : Dm w y a b c :=
  ⟨(hb.block _ (by omega)).trans h.1, (hb.block _ (by omega)).trans h.2.1, (hb.block _ (by omega)).trans h.2.2.1, h.2.2.2.trans (hb.mono (by omega))⟩
theorem dm_new (w : World) (a b c : Array Value) : Dm w (((w.alloc (.cells a 41)).alloc (.cells b 35)).alloc (.cells c 38)) a b c := by
  have h1 := (two_new w (.cells a 41) (.cells b 35))
  have h2 := (two_new (w.alloc (.cells a 41)) (.cells b 35) (.cells c 38))
  rw [World.size_alloc] at h2
  refine ⟨?_, h2.1, h2.2, bel2 ((Below.refl _ w).alloc (Nat.le_refl _) _) (by simp) _ _⟩
  rw [Below.heap_alloc _ _ _ (by simp; omega)]
  exact h1.1
theorem cells4 {w : World} {b : Nat} {e c d f : Value} {t : TypeId} (h : w.heap[b]? = some (.cells #[e, c, d, f] t (0, 0))) : w.cell? ⟨b, 0, none⟩ = some e ∧ w.cell? ⟨b, 1, none⟩ = some c ∧ w.cell? ⟨b, 2, none⟩ = some d ∧ w.cell? ⟨b, 3, none⟩ = some f :=
  ⟨by unfold World.cell?; rw [h]; rfl, by unfold World.cell?; rw [h]; rfl, by unfold World.cell?; rw [h]; rfl, by unfold World.cell?; rw [h]; rfl⟩

set_option maxRecDepth 100000 in
set_option maxHeartbeats 4000000 in
theorem sectorDamaged_bad (d a i e c : Int) (p : ByteArray) (f : Int) (x0 x1 x2 x3 : UInt8) (w : World)
    (hbad : ¬ (validB d a i = true ∧ genV e c = true ∧ p.size ≤ 40) ∨ allZ x0 x1 x2 x3 = true ∨ f < 0 ∨ 60 < f ∨ (0 < f ∧ f < 4)) :
    Calls Try.prog 14 #[.agg #[.int .i64 d, .int .i64 a, .int .i64 i], .agg #[.int .i64 e, .int .i64 c], .string p, .int .i64 f, .agg #[.int .u8 (x0.toNat : Int), .int .u8 (x1.toNat : Int), .int .u8 (x2.toNat : Int), .int .u8 (x3.toNat : Int)]] w fun x w' => x = .returned (.bool true) ∧ Below w.heap.size w w' := by
  have HS := Lib.hid sane15
  have HB := Lib.hid hbad
  clear hbad
  have hE := fun w => run_equal4 w x0 x1 x2 x3
  go_enter Try.func14, Try.ntmps14
  go_wp2_with fail
  refine (seal_any d a i e c p _).mono ?_
  rintro x w1 ⟨rfl, hb⟩
  have T1 := Lib.hid ((dm_new w _ _ _).step hb)
  clear hb
  obtain ⟨p0, p1, p2, p3⟩ := cells4 T1.out.2.2.1
  by_cases hg1 : validB d a i = true ∧ genV e c = true ∧ p.size ≤ 40
  case neg =>
    rw [sealV_bad hg1]
    clear hg1 HB
    go_wp2_with fail
    refine (HS.out _).mono ?_
    rintro x w3 ⟨rfl, hb⟩
    have T3 := Lib.hid (T1.out.step hb)
    clear hb T1
    go_wp2_with fail
    go_ret
    exact ⟨rfl, T3.out.2.2.2⟩
  case pos =>
    have HB := Lib.hid (HB.out.resolve_left (fun h => h hg1))
    rw [sealV_good hg1]
    have hX64 : (strB (sealB d.toNat a.toNat i.toNat e.toNat c.toNat p.data.toList)).size = 64 := by rw [strB_size, sealB_length _ _ _ _ _ _ (by simpa using hg1.2.2)]
    generalize strB (sealB d.toNat a.toNat i.toNat e.toNat c.toNat p.data.toList) = X at *
    clear hg1
    by_cases hz : allZ x0 x1 x2 x3 = true
    · clear HB
      go_wp2_with fail
      refine (HS.out _).mono ?_
      rintro x w3 ⟨rfl, hb⟩
      have T3 := Lib.hid (T1.out.step hb)
      clear hb T1
      go_wp2_with fail
      go_ret
      exact ⟨rfl, T3.out.2.2.2⟩
    · by_cases h1 : f < 0
      · clear HB
        go_wp2_with fail
        refine (HS.out _).mono ?_
        rintro x w3 ⟨rfl, hb⟩
        have T3 := Lib.hid (T1.out.step hb)
        clear hb T1
        go_wp2_with fail
        go_ret
        exact ⟨rfl, T3.out.2.2.2⟩
      · by_cases h2 : 60 < f
        · clear HB
          go_wp2_with fail
          refine (HS.out _).mono ?_
          rintro x w3 ⟨rfl, hb⟩
          have T3 := Lib.hid (T1.out.step hb)
          clear hb T1
          go_wp2_with fail
          go_ret
          exact ⟨rfl, T3.out.2.2.2⟩
        · have h3 : 0 < f ∧ f < 4 := by rcases HB.out with h | h | h | h; exact absurd h hz; exact absurd h h1; exact absurd h h2; exact h
          obtain ⟨h3, h4⟩ := h3
          clear HB
          go_wp2_with fail
          refine (HS.out _).mono ?_
          rintro x w3 ⟨rfl, hb⟩
          have T3 := Lib.hid (T1.out.step hb)
          clear hb T1
          go_wp2_with fail
          go_ret
          exact ⟨rfl, T3.out.2.2.2⟩

set_option maxRecDepth 100000 in
set_option maxHeartbeats 4000000 in
theorem sectorDamaged_good (d a i e c : Int) (p : ByteArray) (f : Nat) (x0 x1 x2 x3 : UInt8) (w : World) (hg1 : validB d a i = true ∧ genV e c = true ∧ p.size ≤ 40) (hf : f + 4 ≤ 64) (hf4 : f = 0 ∨ 4 ≤ f) (hne : allZ x0 x1 x2 x3 = false) :
    Calls Try.prog 14 #[.agg #[.int .i64 d, .int .i64 a, .int .i64 i], .agg #[.int .i64 e, .int .i64 c], .string p, .int .i64 f, .agg #[.int .u8 (x0.toNat : Int), .int .u8 (x1.toNat : Int), .int .u8 (x2.toNat : Int), .int .u8 (x3.toNat : Int)]] w fun x w' => x = .returned (.bool true) ∧ Below w.heap.size w w' := by
  have HS := Lib.hid sane15
  have HG := Lib.hid hg1
  have HF4 := Lib.hid hf4
  have hE := fun w => run_equal4 w x0 x1 x2 x3
  clear hg1 hf4
  go_enter Try.func14, Try.ntmps14
  go_wp2_with fail
  refine (seal_any d a i e c p _).mono ?_
  rintro x w1 ⟨rfl, hb⟩
  have T1 := Lib.hid ((dm_new w _ _ _).step hb)
  clear hb
  obtain ⟨p0, p1, p2, p3⟩ := cells4 T1.out.2.2.1
  rw [sealV_good HG.out]
  have hX64 : (strB (sealB d.toNat a.toNat i.toNat e.toNat c.toNat p.data.toList)).size = 64 := by rw [strB_size, sealB_length _ _ _ _ _ _ (by simpa using HG.out.2.2)]
  have hbadX : Hid (∀ cur, cur = curB (strB (sealB d.toNat a.toNat i.toNat e.toNat c.toNat p.data.toList)).data.toList f [x0, x1, x2, x3] 4 → openV d a i (strB cur) = .tuple #[.agg #[.int .i64 0, .int .i64 0], .string ⟨#[]⟩, .int .i64 7]) := Lib.hid (by
    rintro cur rfl
    obtain ⟨hv, hg, hp⟩ := HG.out
    have hpl : p.data.toList.length ≤ 40 := by simpa using hp
    obtain ⟨d, a, i, rfl, rfl, rfl, -⟩ := valid_nat hv
    obtain ⟨e, c, rfl, rfl, -⟩ := gen_nat hg
    simp only [Int.toNat_natCast]
    have hl := sealB_length d a i e c p.data.toList hpl
    rw [strB_list]
    exact open_badB _ _ _ _ hv (by rw [curB_length]; exact hl) (damaged hl (seal_goodL d a i e c _ hpl hv hg) f x0 x1 x2 x3 hf HF4.out hne))
  generalize strB (sealB d.toNat a.toNat i.toNat e.toNat c.toNat p.data.toList) = X at *
  have HXL : Hid (X.data.toList.length = 64) := Lib.hid (by simpa using hX64)
  have h0 : (0 : Int) ≤ (f : Int) := by omega
  have hp2 : ((f : Int) < 0) = False := by simp
  have hp3 : ¬ ((60 : Int) < (f : Int)) := by omega
  have key : ¬ (0 < (f : Int) ∧ (f : Int) < 4) := by rcases HF4.out with h | h <;> omega
  have HK := Lib.hid key
  clear key
  by_cases hf0 : (0 : Int) < (f : Int)
  · have hf1 : ¬ ((f : Int) < 4) := fun h => HK.out ⟨hf0, h⟩
    go_wp2_with (at_builtin; refine wpList_append_s rfl _ _ rfl (w.heap.size + 3) (.slice none 0 0) [] X rfl (OwnB.nil _ _) rfl (by rw [hX64]; simp) T1.out.lt ?_)
    intro v1 w2 hown hgrow
    obtain ⟨g, cap2, rfl, hg1, hg2⟩ := hown.form (by rw [HXL.out]; omega)
    rw [HXL.out] at hown ⊢
    have H1 := Lib.hid hown
    have T2 : Hid (Dm w w2 #[.int .i64 d, .int .i64 a, .int .i64 i] #[.int .i64 e, .int .i64 c] #[.int .u8 (x0.toNat : Int), .int .u8 (x1.toNat : Int), .int .u8 (x2.toNat : Int), .int .u8 (x3.toNat : Int)]) := Lib.hid (T1.out.grown ((Below.refl _ w1).grown hgrow T1.out.lt (fun k h => by cases h)))
    have HG1 := Lib.hid hg1
    clear hown hgrow T1 p0 p1 p2 p3 hg2 hg1
    go_wp2_with fail
    go_loopw [14] (fun j wr => ∃ k : Nat, k ≤ 4 ∧ j = .int .i64 k ∧ OwnB wr (w.heap.size + 3) (.slice (some ⟨g, 0, none⟩) 64 cap2) (curB X.data.toList f [x0, x1, x2, x3] k) ∧ Dm w wr #[.int .i64 d, .int .i64 a, .int .i64 i] #[.int .i64 e, .int .i64 c] #[.int .u8 (x0.toNat : Int), .int .u8 (x1.toNat : Int), .int .u8 (x2.toNat : Int), .int .u8 (x3.toNat : Int)]) (fun j _ => 4 - (intOf j).toNat)
    case atStart => exact ⟨0, by omega, rfl, H1.out, T2.out⟩
    case round =>
      clear H1 T2
      obtain ⟨k, hk, rfl, ho, hx⟩ := hrel
      have H2 := Lib.hid ho
      have H3 := Lib.hid hx
      clear ho hx
      have hcl : Hid ((curB X.data.toList f [x0, x1, x2, x3] k).length = 64) := Lib.hid ((curB_length _ _ _ _).trans HXL.out)
      by_cases hlt : k < 4
      · obtain ⟨hc1, hf1⟩ := H2.out.cell (f + k) (by rw [hcl.out]; omega)
        have hx1 : wr.cell? ⟨w.heap.size + 1 + 1, k, none⟩ = some (.int .u8 (([x0, x1, x2, x3].getD k 0).toNat : Int)) := by
          rw [cell_of_row wr (w.heap.size + 1 + 1) k _ _ _ H3.out.2.2.1]
          match k, hlt with
          | 0, _ => rfl
          | 1, _ => rfl
          | 2, _ => rfl
          | 3, _ => rfl
        have H5 : Hid (curB X.data.toList f [x0, x1, x2, x3] (k + 1) = (curB X.data.toList f [x0, x1, x2, x3] k).set (f + k) ((curB X.data.toList f [x0, x1, x2, x3] k).getD (f + k) 0 ^^^ [x0, x1, x2, x3].getD k 0)) := Lib.hid rfl
        generalize curB X.data.toList f [x0, x1, x2, x3] k = cur at *
        generalize [x0, x1, x2, x3].getD k 0 = y at *
        generalize cur.getD (f + k) 0 = z at *
        go_wp2_with fail
        go_region
        go_wp2
        go_roundw
        case rel =>
          rw [xor8_walk]
          have S1 := (H2.out.stored (f + k) (z ^^^ y)).drew
          rw [← H5.out] at S1
          exact ⟨k + 1, by omega, by go_num, S1, H3.out.grown ((Below.refl _ wr).setCell (p := ⟨g, f + k, none⟩) HG1.out _).drew⟩
        case measure => simp [intOf]; omega
      · obtain rfl : k = 4 := by omega
        have HOV := Lib.hid (hbadX.out _ rfl)
        clear hbadX
        generalize curB X.data.toList f [x0, x1, x2, x3] 4 = cur at *
        have hstr := H2.out.str
        obtain ⟨b0, b1, b2, -⟩ := cells3 H3.out.1
        go_wp2_with fail
        refine (open_any d a i (strB cur) _).mono ?_
        rintro x w3 ⟨rfl, hb⟩
        have T3 := Lib.hid (H3.out.step hb)
        rw [HOV.out]
        clear hb H3 H2 HOV hstr b0 b1 b2
        go_wp2_with fail
        refine (HS.out _).mono ?_
        rintro x w4 ⟨rfl, hb⟩
        have T4 := Lib.hid ((T3.out.step ((Below.refl _ w3).alloc (Nat.le_refl _) _)).step hb)
        clear hb T3
        go_wp2_with fail
        go_ret
        exact ⟨rfl, T4.out.2.2.2⟩
  · skip
    go_wp2_with (at_builtin; refine wpList_append_s rfl _ _ rfl (w.heap.size + 3) (.slice none 0 0) [] X rfl (OwnB.nil _ _) rfl (by rw [hX64]; simp) T1.out.lt ?_)
    intro v1 w2 hown hgrow
    obtain ⟨g, cap2, rfl, hg1, hg2⟩ := hown.form (by rw [HXL.out]; omega)
    rw [HXL.out] at hown ⊢
    have H1 := Lib.hid hown
    have T2 : Hid (Dm w w2 #[.int .i64 d, .int .i64 a, .int .i64 i] #[.int .i64 e, .int .i64 c] #[.int .u8 (x0.toNat : Int), .int .u8 (x1.toNat : Int), .int .u8 (x2.toNat : Int), .int .u8 (x3.toNat : Int)]) := Lib.hid (T1.out.grown ((Below.refl _ w1).grown hgrow T1.out.lt (fun k h => by cases h)))
    have HG1 := Lib.hid hg1
    clear hown hgrow T1 p0 p1 p2 p3 hg2 hg1
    go_wp2_with fail
    go_loopw [14] (fun j wr => ∃ k : Nat, k ≤ 4 ∧ j = .int .i64 k ∧ OwnB wr (w.heap.size + 3) (.slice (some ⟨g, 0, none⟩) 64 cap2) (curB X.data.toList f [x0, x1, x2, x3] k) ∧ Dm w wr #[.int .i64 d, .int .i64 a, .int .i64 i] #[.int .i64 e, .int .i64 c] #[.int .u8 (x0.toNat : Int), .int .u8 (x1.toNat : Int), .int .u8 (x2.toNat : Int), .int .u8 (x3.toNat : Int)]) (fun j _ => 4 - (intOf j).toNat)
    case atStart => exact ⟨0, by omega, rfl, H1.out, T2.out⟩
    case round =>
      clear H1 T2
      obtain ⟨k, hk, rfl, ho, hx⟩ := hrel
      have H2 := Lib.hid ho
      have H3 := Lib.hid hx
      clear ho hx
      have hcl : Hid ((curB X.data.toList f [x0, x1, x2, x3] k).length = 64) := Lib.hid ((curB_length _ _ _ _).trans HXL.out)
      by_cases hlt : k < 4
      · obtain ⟨hc1, hf1⟩ := H2.out.cell (f + k) (by rw [hcl.out]; omega)
        have hx1 : wr.cell? ⟨w.heap.size + 1 + 1, k, none⟩ = some (.int .u8 (([x0, x1, x2, x3].getD k 0).toNat : Int)) := by
          rw [cell_of_row wr (w.heap.size + 1 + 1) k _ _ _ H3.out.2.2.1]
          match k, hlt with
          | 0, _ => rfl
          | 1, _ => rfl
          | 2, _ => rfl
          | 3, _ => rfl
        have H5 : Hid (curB X.data.toList f [x0, x1, x2, x3] (k + 1) = (curB X.data.toList f [x0, x1, x2, x3] k).set (f + k) ((curB X.data.toList f [x0, x1, x2, x3] k).getD (f + k) 0 ^^^ [x0, x1, x2, x3].getD k 0)) := Lib.hid rfl
        generalize curB X.data.toList f [x0, x1, x2, x3] k = cur at *
        generalize [x0, x1, x2, x3].getD k 0 = y at *
        generalize cur.getD (f + k) 0 = z at *
        go_wp2_with fail
        go_region
        go_wp2
        go_roundw
        case rel =>
          rw [xor8_walk]
          have S1 := (H2.out.stored (f + k) (z ^^^ y)).drew
          rw [← H5.out] at S1
          exact ⟨k + 1, by omega, by go_num, S1, H3.out.grown ((Below.refl _ wr).setCell (p := ⟨g, f + k, none⟩) HG1.out _).drew⟩
        case measure => simp [intOf]; omega
      · obtain rfl : k = 4 := by omega
        have HOV := Lib.hid (hbadX.out _ rfl)
        clear hbadX
        generalize curB X.data.toList f [x0, x1, x2, x3] 4 = cur at *
        have hstr := H2.out.str
        obtain ⟨b0, b1, b2, -⟩ := cells3 H3.out.1
        go_wp2_with fail
        refine (open_any d a i (strB cur) _).mono ?_
        rintro x w3 ⟨rfl, hb⟩
        have T3 := Lib.hid (H3.out.step hb)
        rw [HOV.out]
        clear hb H3 H2 HOV hstr b0 b1 b2
        go_wp2_with fail
        refine (HS.out _).mono ?_
        rintro x w4 ⟨rfl, hb⟩
        have T4 := Lib.hid ((T3.out.step ((Below.refl _ w3).alloc (Nat.le_refl _) _)).step hb)
        clear hb T3
        go_wp2_with fail
        go_ret
        exact ⟨rfl, T4.out.2.2.2⟩

theorem sectorDamaged_walk (d a i e c : Int) (p : ByteArray) (f : Int) (x0 x1 x2 x3 : UInt8) (w : World) :
    Calls Try.prog 14 #[.agg #[.int .i64 d, .int .i64 a, .int .i64 i], .agg #[.int .i64 e, .int .i64 c], .string p, .int .i64 f, .agg #[.int .u8 (x0.toNat : Int), .int .u8 (x1.toNat : Int), .int .u8 (x2.toNat : Int), .int .u8 (x3.toNat : Int)]] w fun x w' => x = .returned (.bool true) ∧ Below w.heap.size w w' := by
  by_cases h : ¬ (validB d a i = true ∧ genV e c = true ∧ p.size ≤ 40) ∨ allZ x0 x1 x2 x3 = true ∨ f < 0 ∨ 60 < f ∨ (0 < f ∧ f < 4)
  · exact sectorDamaged_bad d a i e c p f x0 x1 x2 x3 w h
  · have h1 : validB d a i = true ∧ genV e c = true ∧ p.size ≤ 40 := Classical.byContradiction fun hn => h (.inl hn)
    have h2 : allZ x0 x1 x2 x3 = false := by
      cases hz : allZ x0 x1 x2 x3
      · rfl
      · exact absurd (.inr (.inl hz)) h
    have h3 : ¬ f < 0 := fun hn => h (.inr (.inr (.inl hn)))
    have h4 : ¬ 60 < f := fun hn => h (.inr (.inr (.inr (.inl hn))))
    have h5 : ¬ (0 < f ∧ f < 4) := fun hn => h (.inr (.inr (.inr (.inr hn))))
    obtain ⟨n, rfl⟩ := Int.eq_ofNat_of_zero_le (show 0 ≤ f by omega)
    exact sectorDamaged_good d a i e c p n x0 x1 x2 x3 w h1 (by omega) (by omega) h2
end Go.Proofs.Ytiakaloabeendaa
