/- A range over a function: a law that names, block by block, what a round may touch; so an iterator may itself range over one and keep variables of its own. -/
import Derived.Test.YtiakaloabeendaaDoorTwin
import Derived.RangeFuncNested
import Derived.RangeFuncBound
import Derived.RangeFuncCalls
import Derived.RangeFuncLeaves
import Derived.Shelf.Abstract
import Derived.Shelf.RegionOpen
import Derived.WalkKit
import Derived.OwnWalkIn
import Derived.TacticsInMore
import Derived.LoopNIn
import Derived.LoopIn
namespace Go.Proofs.YtiakaloabeendaaDoor
open Go.RowKit Go.Shelf

/-- Nothing that lay has turned, but for the blocks of M. -/
structure Keep (M : Nat → Prop) (w x : World) : Prop where
  os : x.os = w.os
  tape : x.tape = w.tape
  output : x.output = w.output
  size : w.heap.size ≤ x.heap.size
  block : ∀ k, k < w.heap.size → ¬ M k → x.heap[k]? = w.heap[k]?

theorem Keep.refl (M : Nat → Prop) (w : World) : Keep M w w := ⟨rfl, rfl, rfl, Nat.le_refl _, fun _ _ _ => rfl⟩
theorem Keep.trans {M : Nat → Prop} {a b c : World} (h : Keep M a b) (k : Keep M b c) : Keep M a c :=
  ⟨k.os.trans h.os, k.tape.trans h.tape, k.output.trans h.output, Nat.le_trans h.size k.size, fun i hi hm => (k.block i (Nat.lt_of_lt_of_le hi h.size) hm).trans (h.block i hi hm)⟩
theorem Keep.mono {M N : Nat → Prop} {a b : World} (h : Keep M a b) (hm : ∀ k, k < a.heap.size → M k → N k) : Keep N a b :=
  ⟨h.os, h.tape, h.output, h.size, fun i hi hn => h.block i hi (fun hM => hn (hm i hi hM))⟩
theorem Keep.of_below {M : Nat → Prop} {a b : World} (h : Below a.heap.size a b) : Keep M a b := ⟨h.os, h.tape, h.output, h.size, fun i hi _ => h.block i hi⟩
theorem Keep.below {M : Nat → Prop} {a b : World} {B : Nat} (h : Keep M a b) (hB : B ≤ a.heap.size) (hm : ∀ k, M k → B ≤ k) : Below B a b :=
  ⟨h.os, h.tape, h.output, h.size, fun i hi => h.block i (by omega) (fun hM => by have := hm i hM; omega)⟩
theorem Keep.setCell {M : Nat → Prop} {a b : World} (h : Keep M a b) {p : Addr} (hp : M p.block) (v : Value) : Keep M a (b.setCell p v) := by
  refine ⟨h.os, h.tape, h.output, by simp [World.setCell]; exact h.size, fun i hi hm => ?_⟩
  rw [heap_setCell_other b p i v (fun e => hm (by rw [e]; exact hp))]
  exact h.block i hi hm
theorem Keep.alloc {M : Nat → Prop} {a b : World} (h : Keep M a b) (o : Obj) : Keep M a (b.alloc o) :=
  h.trans (Keep.of_below ((Below.refl _ b).alloc (Nat.le_refl _) o))
theorem Keep.putObj {M : Nat → Prop} {a b : World} (h : Keep M a b) {l : Nat} (hl : M l) (o : Obj) : Keep M a (b.putObj l o) :=
  ⟨h.os, h.tape, h.output, by simpa using h.size, fun i hi hm => (World.putObj_heap_other (fun e => hm (by rw [e]; exact hl))).trans (h.block i hi hm)⟩

theorem below_putObj {B l : Nat} (A : World) (hl : B ≤ l) (o : Obj) : Below B A (A.putObj l o) :=
  ⟨rfl, rfl, rfl, by simp, fun k hk => World.putObj_heap_other (by omega)⟩

theorem roundAny {P : Program} {l m m' : Nat} {f : FuncId} {tmps : Array Value} {assign body : Code} {w : World} {R : Ending → World → Prop} (h : RoundIn Fence.wide m P l f tmps assign body w R) : RoundIn Fence.wide m' P l f tmps assign body w R :=
  ⟨trivial, fun c cs _ => h.2 c cs (room_wide _)⟩
theorem yieldAny {P : Program} {l m m' : Nat} {args : Array Value} {w : World} {R : Ending → World → Prop} (h : YieldAt Fence.wide m P l args w R) : YieldAt Fence.wide m' P l args w R := by
  obtain ⟨fn, tmps, assign, body, hy, hR⟩ := h
  exact ⟨fn, tmps, assign, body, hy, roundAny hR⟩

def noB : ByteArray := ⟨#[]⟩

/-- The iterator g hands over the strings xs, in their order, till a round says no; it asks that rounds leave the blocks of 'need' alone. -/
def Gives (g : Nat) (lb : Array Value) (xs : List ByteArray) (need : Nat → Prop) (W : World) : Prop :=
  ∀ (m l : Nat) (M : Nat → Prop) (J Jx : Nat → World → Prop), (∀ j, M j → j < W.heap.size ∧ ¬ need j) →
    (∀ k A B, J k A → Below W.heap.size A B → J k B) → (∀ k A B, Jx k A → Below W.heap.size A B → Jx k B) →
    (∀ k A, k < xs.length → J k A → W.heap.size ≤ A.heap.size → YieldAt Fence.wide m Tryd.prog l #[.string (xs.getD k noB)] A fun e A' =>
      Keep M A A' ∧ ((e = .returned (.bool true) ∧ J (k + 1) A') ∨ (e = .returned (.bool false) ∧ Jx (k + 1) A'))) →
    J 0 W → CallsIn Fence.wide m Tryd.prog g (#[.func (.yield l) #[] #[]] ++ lb) W fun e A' => (∃ v, e = .returned v) ∧ Keep M W A' ∧ (J xs.length A' ∨ ∃ k, k ≤ xs.length ∧ Jx k A')

/-- How the body of a round may be left. -/
def bodyQ (M : Nat → Prop) (I : Nat → World → Prop) (Ix : Code → Nat → World → Prop) (k : Nat) (A : World) : Exit → Act → World → Prop
  | .normal, _, B => Keep M A B ∧ I k B
  | .ret, _, B => Keep M A B ∧ Ix .ret k B
  | .exit id, _, B => Keep M A B ∧ Ix (.exit id) k B
  | .goto t, _, B => Keep M A B ∧ Ix (.goto t) k B
  | .panic _, _, _ => False
  | .outgrown, _, _ => False

/-- The loop. -/
theorem wpIn_range {n : Nat} {g : Operand} {p : Tmp} {assign body : Code} {Q : Exit → Act → World → Prop} {a : Act} {w : World}
    {gf : Nat} {lb : Array Value} (hg : a.eval g = .func (.func gf) #[] lb) (eg : ∀ args w, (callFunc gf args).run Tryd.prog w = .ok (.enter gf args) w)
    {xs : List ByteArray} {need : Nat → Prop} (hneed : ∀ j, need j → j < w.heap.size) (hseq : ∀ W, Below w.heap.size w W → Gives gf lb xs need W)
    (M : Nat → Prop) (hM : ∀ j, M j → j < w.heap.size ∧ ¬ need j) (I : Nat → World → Prop) (Ix : Code → Nat → World → Prop)
    (hI : ∀ k A B, I k A → Below w.heap.size A B → I k B) (hIx : ∀ c k A B, Ix c k A → Below w.heap.size A B → Ix c k B) (h0 : I 0 w) (a₁ : ByteArray → Act)
    (hassign : ∀ (l : Nat) (x : ByteArray) (W : World) (K : Act → World → Prop), K (a₁ x) W →
      assign.wpIn (Fence.wide.inRound l) (n - 1) Tryd.prog (Exit.then K (fun _ _ _ => False)) { tmps := (#[p].zip #[Value.string x]).foldl (fun t (p, v) => t.setIfInBounds p v) a.tmps, defers := [] } W)
    (hbody : ∀ (l k : Nat) (A : World), k < xs.length → I k A → w.heap.size ≤ A.heap.size → body.wpIn (Fence.wide.inRound l) (n - 1) Tryd.prog (bodyQ M I Ix (k + 1) A) (a₁ (xs.getD k noB)) A)
    (hdone : ∀ (D : Nat) (A : World), w.heap.size ≤ D → I xs.length A → Keep M w A → A.heap[D]? = some (.deferred (some [])) → Q .normal { a with defers := { target := .collected D, args := #[] } :: a.defers } A)
    (hstop : ∀ (D : Nat) (c : Code) (k : Nat) (A : World), w.heap.size ≤ D → k ≤ xs.length → Ix c k A → Keep M w A → A.heap[D]? = some (.deferred (some [])) → c.wpIn Fence.wide n Tryd.prog Q { a with defers := { target := .collected D, args := #[] } :: a.defers } A) :
    (Code.rangeFunc g #[p] assign body).wpIn Fence.wide n Tryd.prog Q a w := by
  refine wpIn_rangeFunc (fun fn hfn => ?_)
  have hround : Fence.wide.round = none := rfl
  rw [hround]
  -- the record, and the world in which the iterator is called
  generalize hrec : (fun (st : LoopState) (pe : Option Code) => ({ state := st, pending := pe, fn, tmps := a.tmps, params := #[p], assign, body, defers := w.heap.size } : Loop)) = rec
  have er : ∀ st pe, rec st pe = { state := st, pending := pe, fn, tmps := a.tmps, params := #[p], assign, body, defers := w.heap.size } := fun st pe => by rw [← hrec]
  clear hrec
  have e1 : (w.alloc (.deferred (some []))).heap.size = w.heap.size + 1 := by simp
  generalize hW : (w.alloc (.deferred (some []))).alloc (.loop (rec .ready none)) = W1
  have hL : W1.heap[w.heap.size + 1]? = some (.loop (rec .ready none)) := by rw [← hW, ← e1]; exact World.alloc_heap_new _ _
  have hD : W1.heap[w.heap.size]? = some (.deferred (some [])) := by
    rw [← hW]; exact (Below.heap_alloc _ _ _ (by simp)).trans (World.alloc_heap_new w _)
  have hB : Below w.heap.size w W1 := by rw [← hW]; exact ((Below.refl _ w).alloc (Nat.le_refl _) _).alloc (by simp) _
  have hz : W1.heap.size = w.heap.size + 2 := by rw [← hW]; simp
  refine ⟨w.heap.size + 1, [{ target := .collected w.heap.size, args := #[] }], W1, { target := .fn (.func gf) lb, args := #[.func (.yield (w.heap.size + 1)) #[] #[]] }, W1, gf, #[.func (.yield (w.heap.size + 1)) #[] #[]] ++ lb, W1, ?_, ?_, fun _ _ => trivial, ?_, fun h => (by cases h), ?_⟩
  · rw [← hW, er]; exact run_enterLoop_outer _ _ _ _ _
  · simp only [resolve, hg]
    simp [go_sem]
  · simp [invoke, go_sem, eg]
  refine (hseq W1 hB (n - 1) (w.heap.size + 1) (fun j => M j ∨ j = w.heap.size + 1)
    (fun k A => I k A ∧ A.heap[w.heap.size + 1]? = some (.loop (rec .ready none)) ∧ A.heap[w.heap.size]? = some (.deferred (some [])))
    (fun k A => ∃ c, Ix c k A ∧ A.heap[w.heap.size + 1]? = some (.loop (rec .done (some c))) ∧ A.heap[w.heap.size]? = some (.deferred (some []))) ?_ ?_ ?_ ?_ ⟨hI 0 w W1 h0 hB, hL, hD⟩).mono ?_
  · rintro j (hj | rfl)
    · exact ⟨by have := (hM j hj).1; omega, (hM j hj).2⟩
    · exact ⟨by omega, fun hn => by have := hneed _ hn; omega⟩
  · rintro k A B ⟨i1, i2, i3⟩ hb
    exact ⟨hI k A B i1 (hb.mono (by omega)), (hb.block _ (by omega)).trans i2, (hb.block _ (by omega)).trans i3⟩
  · rintro k A B ⟨c, i1, i2, i3⟩ hb
    exact ⟨c, hIx c k A B i1 (hb.mono (by omega)), (hb.block _ (by omega)).trans i2, (hb.block _ (by omega)).trans i3⟩
  · -- a round
    rintro k A hk ⟨i1, i2, i3⟩ hs
    have hlA : w.heap.size + 1 < A.heap.size := by omega
    have hy := run_yield (P := Tryd.prog) (args := #[.string (xs.getD k noB)]) i2 (by rw [er]; rfl)
    rw [er] at hy
    refine ⟨fn, _, assign, body, hy, roundIn_of_wpIn hfn ?_⟩
    refine hassign _ (xs.getD k noB) A _ ?_
    refine ⟨_, run_beginRound i2 (by rw [er]), ?_⟩
    generalize hA2 : A.putObj (w.heap.size + 1) (.loop { rec .ready none with state := .busy }) = A2
    have j2 : A2.heap[w.heap.size + 1]? = some (.loop { rec .ready none with state := .busy }) := by rw [← hA2]; exact World.putObj_heap_same hlA
    have j3 : A2.heap[w.heap.size]? = some (.deferred (some [])) := by rw [← hA2]; exact (World.putObj_heap_other (by omega)).trans i3
    have b2 : Below w.heap.size A A2 := by rw [← hA2]; exact below_putObj A (by omega) _
    have k2 : Keep (fun j => M j ∨ j = w.heap.size + 1) A A2 := by rw [← hA2]; exact (Keep.refl _ A).putObj (.inr rfl) _
    have s2 : w.heap.size + 2 ≤ A2.heap.size := by rw [← hA2]; simp; omega
    refine wpIn_mono (hbody _ k A2 hk (hI k A A2 i1 b2) (by omega)) ?_
    -- what ending the round does, whichever way the body is left
    have fin : ∀ (jump : Option Code) (B : World), Keep M A2 B → ∃ B', (Instr.endRound (w.heap.size + 1) jump).run Tryd.prog B = .ok (.bool jump.isNone) B' ∧ Below w.heap.size B B' ∧ Keep (fun j => M j ∨ j = w.heap.size + 1) A B' ∧
        B'.heap[w.heap.size + 1]? = some (.loop (rec (if jump.isNone then .ready else .done) jump)) ∧ B'.heap[w.heap.size]? = some (.deferred (some [])) := fun jump B hK => by
      have l3 := (hK.block (w.heap.size + 1) (by omega) (fun hm => by have := (hM _ hm).1; omega)).trans j2
      have d3 := (hK.block w.heap.size (by omega) (fun hm => by have := (hM _ hm).1; omega)).trans j3
      have hrun := run_endRound (P := Tryd.prog) jump l3
      refine ⟨_, hrun, below_putObj B (by omega) _, (k2.trans (hK.mono (fun _ _ h => .inl h))).putObj (.inr rfl) _, ?_, (World.putObj_heap_other (by omega)).trans d3⟩
      rw [World.putObj_heap_same (by have := hK.size; omega)]
      simp only [er]
    rintro e aB B hB2
    cases e with
    | normal =>
      obtain ⟨hK, hi⟩ := hB2
      obtain ⟨B', hr, hb, hk', hl, hd⟩ := fin none B hK
      exact ⟨_, _, hr, hk', .inl ⟨rfl, hI _ _ _ hi hb, hl, hd⟩⟩
    | ret =>
      obtain ⟨hK, hi⟩ := hB2
      obtain ⟨B', hr, hb, hk', hl, hd⟩ := fin (some .ret) B hK
      exact ⟨_, _, hr, hk', .inr ⟨rfl, _, hIx _ _ _ _ hi hb, hl, hd⟩⟩
    | exit id =>
      obtain ⟨hK, hi⟩ := hB2
      obtain ⟨B', hr, hb, hk', hl, hd⟩ := fin (some (.exit id)) B hK
      exact ⟨_, _, hr, hk', .inr ⟨rfl, _, hIx _ _ _ _ hi hb, hl, hd⟩⟩
    | goto t =>
      obtain ⟨hK, hi⟩ := hB2
      obtain ⟨B', hr, hb, hk', hl, hd⟩ := fin (some (.goto t)) B hK
      exact ⟨_, _, hr, hk', .inr ⟨rfl, _, hIx _ _ _ _ hi hb, hl, hd⟩⟩
    | panic ch => exact hB2.elim
    | outgrown => exact hB2.elim
  · -- behind the iterator
    have tail : ∀ A, Keep (fun j => M j ∨ j = w.heap.size + 1) W1 A → ∀ o, Keep M w (A.putObj (w.heap.size + 1) o) := fun A hK o => by
      have h2 : Keep (fun j => M j ∨ j = w.heap.size + 1) w (A.putObj (w.heap.size + 1) o) := ((Keep.of_below hB).trans hK).putObj (.inr rfl) _
      exact h2.mono (fun k hk hm => hm.elim id (fun e => by omega))
    rintro e A ⟨⟨v, rfl⟩, hK, (⟨i1, i2, i3⟩ | ⟨k, hk, c, i1, i2, i3⟩)⟩
    · refine ⟨none, _, by have := run_endLoop (P := Tryd.prog) i2 (by rw [er]; simp); rw [er] at this; exact this, ?_⟩
      exact hdone _ _ (Nat.le_refl _) (hI _ _ _ i1 (below_putObj A (by omega) _)) (tail A hK _) ((World.putObj_heap_other (by omega)).trans i3)
    · refine ⟨some c, _, by have := run_endLoop (P := Tryd.prog) i2 (by rw [er]; simp); rw [er] at this; exact this, ?_⟩
      exact hstop _ c k _ (Nat.le_refl _) hk (hIx _ _ _ _ i1 (below_putObj A (by omega) _)) (tail A hK _) ((World.putObj_heap_other (by omega)).trans i3)
end Go.Proofs.YtiakaloabeendaaDoor
