/- How arguments of the laws read: bytes of a slice that came in, a number as a register. -/
import Derived.Test.YtiakaloabeendaaDoorBytes
import Derived.ProofKit
import Derived.OpenShut
import Derived.Lib.SmallJoins
namespace Go.Proofs.YtiakaloabeendaaDoor
open Go.RowKit Go.ChangeShapes Go.WideShapes Go.ChangeAt

theorem isRow_slice {w : World} {a : Option Addr} {len cap : Nat} {zs : List Int}
    (h : (a = none ∧ len = 0 ∧ cap = 0 ∧ zs = []) ∨ ∃ x, a = some x ∧ len ≤ cap ∧ cap ≤ maxLen ∧ zs.length = cap ∧ (∀ i, i < zs.length → w.cell? (x.add i) = some (.int .u8 (zs.getD i 0))) ∧ ∀ n ∈ zs, (Lit.int .u8 n).wf = true) :
    ∃ l : List UInt8, l.length = len ∧ SliceB w (.slice a len cap) l := by
  rcases h with ⟨rfl, rfl, rfl, rfl⟩ | ⟨x, rfl, h1, h2, h3, h4, h5⟩
  · exact ⟨[], rfl, none, 0, rfl, fun _ => ⟨rfl, rfl⟩, by simp, .inl rfl⟩
  · have hlen : ((zs.take len).map fun n => UInt8.ofNat n.toNat).length = len := by simp; omega
    refine ⟨(zs.take len).map fun n => UInt8.ofNat n.toNat, hlen, some x, cap, by rw [hlen], fun h => (by cases h), by rw [hlen]; omega, ?_⟩
    by_cases hz : len = 0
    · exact .inl (by subst hz; simp)
    · obtain ⟨b, off, spot⟩ := x
      have hs : spot = none := by simpa [Addr.add] using World.cell?_spot (h4 0 (by omega))
      subst hs
      refine .inr ⟨b, off, rfl, fun i hi => ?_⟩
      rw [hlen] at hi
      have := h4 i (by omega)
      rw [Addr.add_lit] at this
      rw [this]
      have hb := range_u8 h5 i
      rw [List.getD_eq_getElem?_getD, List.getD_eq_getElem?_getD, List.getElem?_map, List.getElem?_take, if_pos hi]
      have hi2 : i < zs.length := by omega
      rw [List.getElem?_eq_getElem hi2] at hb ⊢
      simp only [Option.getD_some] at hb
      simp
      omega

theorem reg_of {n : Int} (h : (Lit.int .u32 n).wf = true) : ∃ r : BitVec 32, n = rg r := by
  obtain ⟨h1, h2⟩ := bounds_u32 h
  refine ⟨BitVec.ofNat 32 n.toNat, ?_⟩
  rw [u32_ofNat _ (by omega)]
  omega

theorem trod_int_one {H : Type} {enc : TypeId × Value → H} {W : World} {base : Nat} {spare : Nat → Bool} {held : Bool} {n : Nat} {k : IntKind} {t : TypeId} {v : Value} {y : DataW H × List MemPlace}
    (hu : Tryd.prog.underlying t = some (.int k)) (h : DataW.trod enc Tryd.prog W base spare held n t [v] = some y) : ∃ a : Int, v = .int k a ∧ (Lit.int k a).wf = true := by
  obtain ⟨a, e, _, wf⟩ := DataW.trod_int hu h
  exact ⟨a, by simpa using e, wf⟩

/-- A []byte that came in. -/
theorem open_b {H : Type} {enc : TypeId × Value → H} {W : World} {r : Reach} {base : Nat} {v : Value} {d : DataW H} {p : List MemPlace}
    (hv : Value.okWide Tryd.prog W r base 32 v) (h : DataW.Trod enc Tryd.prog W 0 (fun _ => true) true 32 v d p) :
    ∃ l : List UInt8, SliceB W v l ∧ (∀ a n cap, v = .slice a n cap → n ≤ cap) ∧ ((d = .nil ∧ l = []) ∨ ∃ elems spare, d = .slice elems spare ∧ elems.length = l.length) := by
  obtain ⟨a0, len0, cap0, rfl⟩ := okWide_slice Tryd.underlying32 hv
  obtain ⟨fuel, hf⟩ := h
  rcases open_ints Tryd.underlying32 Tryd.underlying5 (by kernel_rfl) hf with ⟨hcs, hx⟩ | ⟨x, l, c, zs, hcs, _, hl, hm, hz, hx, hcell, hwz⟩
  · simp [Value.cells] at hcs
    obtain ⟨rfl, rfl, rfl⟩ := hcs
    simp only [Prod.mk.injEq] at hx
    exact ⟨[], ⟨none, 0, rfl, fun _ => ⟨rfl, rfl⟩, by simp, .inl rfl⟩, fun a n cap h => (by simp at h; omega), .inl ⟨hx.1, rfl⟩⟩
  · simp [Value.cells] at hcs
    obtain ⟨rfl, rfl, rfl⟩ := hcs
    simp only [Prod.mk.injEq] at hx
    obtain ⟨m, hlen, hs⟩ := isRow_slice (w := W) (.inr ⟨_, rfl, hl, hm, by simpa using hz, hcell, hwz⟩)
    refine ⟨m, hs, fun a n cap h => (by simp at h; omega), .inr ⟨_, _, hx.1, ?_⟩⟩
    rw [hlen]
    have : zs.length = cap0 := by simpa using hz
    simp [lits]
    omega

/-- A [4]byte that came in. -/
theorem open_a4 {H : Type} {enc : TypeId × Value → H} {W : World} {r : Reach} {base : Nat} {v : Value} {d : DataW H} {p : List MemPlace}
    (hv : Value.okWide Tryd.prog W r base 31 v) (h : DataW.Trod enc Tryd.prog W 0 (fun _ => true) true 31 v d p) :
    ∃ x0 x1 x2 x3 : UInt8, v = .agg #[.int .u8 (x0.toNat : Int), .int .u8 (x1.toNat : Int), .int .u8 (x2.toNat : Int), .int .u8 (x3.toNat : Int)] := by
  have hc : Tryd.prog.cellsOf 31 = 4 := by kernel_rfl
  have hc1 : Tryd.prog.cellsOf 5 = 1 := by kernel_rfl
  obtain ⟨cs, rfl, hsz⟩ : ∃ cs, v = .agg cs ∧ cs.size = Tryd.prog.cellsOf 31 := by
    unfold Value.okWide at hv
    rw [Tryd.underlying31] at hv
    obtain ⟨cs, h1, h2, _⟩ := hv
    exact ⟨cs, h1, h2⟩
  obtain ⟨c0, c1, c2, c3, rfl⟩ := Go.Joins.array4 (hsz.trans hc)
  obtain ⟨fuel, hf⟩ := h
  obtain ⟨xs, m, _, _, _, hxs, hg⟩ := DataW.trod_array Tryd.underlying31 hf
  have one : ∀ (i : Nat) (c : Value), i < 4 → ((Value.agg #[c0, c1, c2, c3]).cells.toList.drop (i * 1)).take 1 = [c] → ∃ x : UInt8, c = .int .u8 (x.toNat : Int) := by
    intro i c hi e
    have h1 := hg i hi
    rw [hc1, e, List.getElem?_eq_getElem (by omega)] at h1
    obtain ⟨a, rfl, wf⟩ := trod_int_one Tryd.underlying5 h1
    have hb := bounds_u8 wf
    refine ⟨UInt8.ofNat a.toNat, ?_⟩
    congr 1
    simp
    omega
  obtain ⟨x0, rfl⟩ := one 0 c0 (by omega) rfl
  obtain ⟨x1, rfl⟩ := one 1 c1 (by omega) rfl
  obtain ⟨x2, rfl⟩ := one 2 c2 (by omega) rfl
  obtain ⟨x3, rfl⟩ := one 3 c3 (by omega) rfl
  exact ⟨x0, x1, x2, x3, rfl⟩



end Go.Proofs.YtiakaloabeendaaDoor
