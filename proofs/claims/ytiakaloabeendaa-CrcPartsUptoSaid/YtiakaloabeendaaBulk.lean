/- What the bound of the second form gives: the lengths of byte slices, and of a slice of byte slices, which came in. -/
import Derived.Test.YtiakaloabeendaaRows
import Derived.Test.YtiakaloabeendaaOpen
import Derived.Deep.Matrix
namespace Go.Proofs.Ytiakaloabeendaa
open Go.RowKit Go.ChangeShapes Go.WideShapes Go.ChangeAt

theorem bulk_pos {H : Type} (d : DataW H) : 1 ≤ Rows.uptoBulk d := by
  cases d with
  | lit l => cases l <;> simp [Rows.uptoBulk]
  | nil => simp [Rows.uptoBulk]
  | ptr d => simp [Rows.uptoBulk]
  | slice elems spare => simp [Rows.uptoBulk]
  | agg parts => simp [Rows.uptoBulk]
  | iface t d => simp [Rows.uptoBulk]
  | map entries => simp [Rows.uptoBulk]
  | held h => simp [Rows.uptoBulk]

theorem bulk_len {H : Type} (l : List (DataW H)) : l.length ≤ Rows.uptoBulkAll l := by
  induction l with
  | nil => simp [Rows.uptoBulkAll]
  | cons x r ih => have := bulk_pos x; simp only [Rows.uptoBulkAll, List.length_cons]; omega

theorem bulk_b {H : Type} {d : DataW H} {l : List UInt8} (h : (d = .nil ∧ l = []) ∨ ∃ elems spare, d = .slice elems spare ∧ elems.length = l.length) : l.length ≤ Rows.uptoBulk d := by
  rcases h with ⟨_, rfl⟩ | ⟨elems, spare, rfl, h⟩
  · simp
  · have := bulk_len elems
    simp only [Rows.uptoBulk]
    omega

theorem bulk_bound {H : Type} {l : List (DataW H)} (hk : Rows.uptoSmall H l = true) : Rows.uptoBulkAll l ≤ 1048576 := of_decide_eq_true hk

/-! ### a slice of byte slices -/
def RowsB (W : World) (v : Value) (ls : List (List UInt8)) : Prop :=
  ∃ a cap, v = .slice a ls.length cap ∧ ls.length ≤ maxLen ∧ (ls = [] ∨ ∃ b off, a = some ⟨b, off, none⟩ ∧ ∀ i, i < ls.length → ∃ u, W.cell? ⟨b, off + i, none⟩ = some u ∧ SliceB W u (ls.getD i []))

theorem list_of {α : Type} (z : α) (Q : Nat → α → Prop) : ∀ n, (∀ r, r < n → ∃ x, Q r x) → ∃ xs : List α, xs.length = n ∧ ∀ r, r < n → Q r (xs.getD r z)
  | 0, _ => ⟨[], rfl, fun r h => by omega⟩
  | n + 1, h => by
    obtain ⟨xs, hl, hq⟩ := list_of z Q n (fun r hr => h r (by omega))
    obtain ⟨x, hx⟩ := h n (by omega)
    refine ⟨xs ++ [x], by simp [hl], fun r hr => ?_⟩
    by_cases e : r = n
    · subst e
      have : (xs ++ [x]).getD r z = x := by simp [List.getD, ← hl]
      rw [this]; exact hx
    · have : (xs ++ [x]).getD r z = xs.getD r z := by simp [List.getD, List.getElem?_append_left (show r < xs.length by omega)]
      rw [this]; exact hq r (by omega)

def lens (ls : List (List UInt8)) : Nat := (ls.map List.length).sum

theorem lens_le {H : Type} (f : Nat → DataW H) : ∀ (n : Nat) (ls : List (List UInt8)), ls.length = n → (∀ r, r < n → (ls.getD r []).length ≤ Rows.uptoBulk (f r)) → lens ls ≤ Rows.uptoBulkAll ((List.range n).map f) := by
  intro n
  induction n generalizing f with
  | zero => intro ls h _; have : ls = [] := List.eq_nil_of_length_eq_zero h; subst this; simp [lens]
  | succ n ih =>
    intro ls h hr
    cases ls with
    | nil => simp at h
    | cons l ls =>
      have h0 := hr 0 (by omega)
      have h1 := ih (fun r => f (r + 1)) ls (by simpa using h) (fun r hlt => by simpa using hr (r + 1) (by omega))
      rw [List.range_succ_eq_map, List.map_cons, List.map_map, Rows.uptoBulkAll]
      simp only [lens, List.map_cons, List.sum_cons] at h1 ⊢
      have e : (f ∘ Nat.succ) = fun r => f (r + 1) := rfl
      rw [e]
      simp only [List.getD_cons_zero] at h0
      omega

/-- A [][]byte that came in. -/
theorem open_bb {H : Type} {enc : TypeId × Value → H} {W : World} {r : Reach} {base : Nat} {v : Value} {d : DataW H} {p : List MemPlace}
    (hv : Value.okWide Try.prog W r base 30 v) (h : DataW.Trod enc Try.prog W 0 (fun _ => true) true 30 v d p) :
    ∃ ls : List (List UInt8), RowsB W v ls ∧ lens ls ≤ Rows.uptoBulk d := by
  obtain ⟨a0, len0, cap0, rfl⟩ := okWide_slice Try.underlying30 hv
  obtain ⟨fuel, hf⟩ := h
  rcases Go.Deep.open_int_rows Try.underlying30 Try.underlying22 Try.underlying5 (by kernel_rfl) (by kernel_rfl) hf with ⟨hcs, hx⟩ | ⟨x, l, c, A, L, C, Z, hcs, _, hl, hm, hx, hr⟩
  · simp [Value.cells] at hcs
    obtain ⟨rfl, rfl, rfl⟩ := hcs
    exact ⟨[], ⟨none, 0, rfl, by simp, .inl rfl⟩, by simp [lens]⟩
  · simp [Value.cells] at hcs
    obtain ⟨rfl, rfl, rfl⟩ := hcs
    simp only [Prod.mk.injEq] at hx
    obtain ⟨ls, hlen, hq⟩ := list_of ([] : List UInt8) (fun i m => m.length = L i ∧ SliceB W (.slice (A i) (L i) (C i)) m) len0 (fun i hi => by
      obtain ⟨h1, h2, h3, h4, h5, h6, h7⟩ := hr i (by omega)
      refine isRow_slice (zs := Z i) ?_
      cases hA : A i with
      | none =>
        have := h6 hA
        exact .inl ⟨rfl, by omega, this, List.eq_nil_of_length_eq_zero (by omega)⟩
      | some ad => exact .inr ⟨ad, rfl, h2, h3, h4, fun j hj => (h7 ad hA).2 j (by omega), h5⟩)
    refine ⟨ls, ⟨some x, cap0, by rw [hlen], by omega, ?_⟩, ?_⟩
    · by_cases hz : len0 = 0
      · exact .inl (List.eq_nil_of_length_eq_zero (by omega))
      · obtain ⟨b, off, spot⟩ := x
        have hs : spot = none := by simpa [Addr.add] using World.cell?_spot (hr 0 (by omega)).1
        subst hs
        refine .inr ⟨b, off, rfl, fun i hi => ?_⟩
        rw [hlen] at hi
        have h1 := (hr i (by omega)).1
        rw [Addr.add_lit] at h1
        exact ⟨_, h1, (hq i hi).2⟩
    · rw [hx.1]
      have := lens_le (fun r => Go.Deep.intRow .u8 (A r) (L r) (Z r)) len0 ls hlen (fun i hi => by
        obtain ⟨h1, h2, h3, h4, h5, h6, h7⟩ := hr i (by omega)
        rw [(hq i hi).1]
        cases hA : A i with
        | none => have := h6 hA; have := bulk_pos (Go.Deep.intRow (H := H) .u8 none (L i) (Z i)); omega
        | some ad =>
          simp only [Go.Deep.intRow, Rows.uptoBulk]
          have := bulk_len (lits (H := H) .u8 ((Z i).take (L i)))
          simp only [lits, List.length_map, List.length_take] at this ⊢
          omega)
      simp only [Rows.uptoBulk]
      omega

end Go.Proofs.Ytiakaloabeendaa
