/- The plain mathematics of twins: inverting the bits of the polynomial. No Go. -/
import Derived.Test.YtiakaloabeendaaDoorCrcPlain
namespace Go.Proofs.YtiakaloabeendaaDoor

def flip (l : List UInt8) (x : Nat) : List UInt8 := stepB l (x / 8) ((1 : UInt8) <<< (UInt8.ofNat (x % 8)))
theorem flip_length (l : List UInt8) (x : Nat) : (flip l x).length = l.length := stepB_length _ _ _

theorem feeds_flip (r : BitVec 32) (l : List UInt8) (x : Nat) (h : x < 8 * l.length) : feeds r (flip l x) = feeds r l ^^^ gb (8 * l.length - x) := by
  have := feeds_bit l (x / 8) (x % 8) r (by omega) (by omega)
  rw [show 8 * (x / 8) + x % 8 = x by omega] at this
  exact this

def exps : List Nat := [32, 28, 27, 26, 25, 23, 22, 20, 19, 18, 14, 13, 11, 10, 9, 8, 6, 0]

/-- The bits of the exponents gs inverted, from bit k on. -/
def twinL (l : List UInt8) (k : Nat) (gs : List Nat) : List UInt8 := gs.foldl (fun l g => flip l (k + 32 - g)) l
def twinB (l : List UInt8) (k : Nat) : List UInt8 := twinL l k exps

theorem twinL_length (gs : List Nat) (l : List UInt8) (k : Nat) : (twinL l k gs).length = l.length := by
  induction gs generalizing l with
  | nil => rfl
  | cons g gs ih => exact (ih _).trans (flip_length _ _)
theorem twinB_length (l : List UInt8) (k : Nat) : (twinB l k).length = l.length := twinL_length _ _ _

theorem twinL_snoc (l : List UInt8) (k : Nat) (gs : List Nat) (g : Nat) : twinL l k (gs ++ [g]) = flip (twinL l k gs) (k + 32 - g) := by
  unfold twinL; rw [List.foldl_append]; rfl

/-! ### the fingerprint -/
def sumG (gs : List Nat) : BitVec 32 := gs.foldr (fun g r => gb g ^^^ r) 0#32
theorem sum_exps : sumG exps = 0#32 := by decide +kernel

theorem feeds_twinL (gs : List Nat) (l : List UInt8) (k : Nat) (r : BitVec 32) (hk : k + 32 < 8 * l.length) (hg : ∀ g ∈ gs, g ≤ 32) :
    feeds r (twinL l k gs) = feeds r l ^^^ it f1 (8 * l.length - (k + 32)) (sumG gs) := by
  induction gs generalizing l with
  | nil => simp [twinL, sumG, (it_lin f1_lin _).zero]
  | cons g gs ih =>
    have h1 : twinL l k (g :: gs) = twinL (flip l (k + 32 - g)) k gs := rfl
    have hg1 := hg g (by simp)
    rw [h1, ih _ (by rw [flip_length]; exact hk) (fun x hx => hg x (by simp [hx])), flip_length, feeds_flip r l _ (by omega)]
    have h2 : sumG (g :: gs) = gb g ^^^ sumG gs := rfl
    rw [h2, it_lin f1_lin, ← BitVec.xor_assoc]
    congr 2
    rw [show 8 * l.length - (k + 32 - g) = g + (8 * l.length - (k + 32)) by omega]
    unfold gb
    rw [it_add]

theorem feeds_twin (l : List UInt8) (k : Nat) (r : BitVec 32) (hk : k + 32 < 8 * l.length) : feeds r (twinB l k) = feeds r l := by
  unfold twinB
  rw [feeds_twinL exps l k r hk (by decide), sum_exps, (it_lin f1_lin _).zero, BitVec.xor_zero]

theorem crc_twin (l : List UInt8) (k : Nat) (hk : k + 32 < 8 * l.length) : crcB (twinB l k) = crcB l := by
  unfold crcB extB
  rw [feeds_twin l k _ hk]

/-! ### bit by bit -/
def bitA (l : List UInt8) (y : Nat) : Bool := (l.getD (y / 8) 0).toBitVec.getLsbD (y % 8)

theorem bit_one : ∀ i j : Fin 8, ((1 : UInt8) <<< (UInt8.ofNat i.1)).toBitVec.getLsbD j.1 = decide (i = j) := by decide +kernel

theorem bit_flip (l : List UInt8) (x y : Nat) (hx : x < 8 * l.length) : bitA (flip l x) y = (bitA l y ^^ decide (x = y)) := by
  unfold bitA flip stepB
  by_cases h : x / 8 = y / 8
  · rw [h, List.getD_eq_getElem?_getD, List.getElem?_set_self (by omega), Option.getD_some]
    rw [UInt8.toBitVec_xor, BitVec.getLsbD_xor]
    have := bit_one ⟨x % 8, by omega⟩ ⟨y % 8, by omega⟩
    simp only [Fin.mk.injEq] at this
    rw [this]
    congr 1
    rw [decide_eq_decide]
    omega
  · rw [List.getD_eq_getElem?_getD, List.getElem?_set_ne h, ← List.getD_eq_getElem?_getD]
    have : ¬ x = y := fun e => h (by rw [e])
    simp [this]

theorem byte_ext {a b : UInt8} (h : ∀ j, j < 8 → a.toBitVec.getLsbD j = b.toBitVec.getLsbD j) : a = b := by
  apply UInt8.eq_of_toBitVec_eq
  apply BitVec.eq_of_getLsbD_eq
  exact h

theorem bits_ext {l m : List UInt8} (hl : l.length = m.length) (h : ∀ y, bitA l y = bitA m y) : l = m := by
  apply List.ext_getElem hl
  intro i h1 h2
  apply byte_ext
  intro j hj
  have := h (8 * i + j)
  unfold bitA at this
  rw [show (8 * i + j) / 8 = i by omega, show (8 * i + j) % 8 = j by omega] at this
  simpa [h1, h2] using this

/-- Whether bit y is inverted by the exponents gs. -/
def pat (k y : Nat) (gs : List Nat) : Bool := gs.foldr (fun g b => decide (k + 32 - g = y) ^^ b) false

theorem bit_twinL (gs : List Nat) (l : List UInt8) (k y : Nat) (hk : k + 32 < 8 * l.length) : bitA (twinL l k gs) y = (bitA l y ^^ pat k y gs) := by
  induction gs generalizing l with
  | nil => simp [twinL, pat]
  | cons g gs ih =>
    have h1 : twinL l k (g :: gs) = twinL (flip l (k + 32 - g)) k gs := rfl
    have h2 : pat k y (g :: gs) = (decide (k + 32 - g = y) ^^ pat k y gs) := rfl
    rw [h1, ih _ (by rw [flip_length]; exact hk), bit_flip _ _ _ (by omega), h2, Bool.xor_assoc]
theorem bit_twin (l : List UInt8) (k y : Nat) (hk : k + 32 < 8 * l.length) : bitA (twinB l k) y = (bitA l y ^^ pat k y exps) := bit_twinL _ _ _ _ hk

theorem pat_self (k : Nat) : pat k k exps = true := by
  have h : ∀ g, g < 32 → decide (k + 32 - g = k) = false := fun g hg => by simp; omega
  have h2 : decide (k + 32 - 32 = k) = true := by simp
  simp only [pat, exps, List.foldr_cons, List.foldr_nil, h2, h 28 (by decide), h 27 (by decide), h 26 (by decide), h 25 (by decide), h 23 (by decide), h 22 (by decide), h 20 (by decide), h 19 (by decide), h 18 (by decide), h 14 (by decide), h 13 (by decide), h 11 (by decide), h 10 (by decide), h 9 (by decide), h 8 (by decide), h 6 (by decide), h 0 (by decide)]
  rfl
theorem pat_below {k y : Nat} (hy : y < k) (gs : List Nat) (hg : ∀ g ∈ gs, g ≤ 32) : pat k y gs = false := by
  induction gs with
  | nil => rfl
  | cons g gs ih =>
    have h2 : pat k y (g :: gs) = (decide (k + 32 - g = y) ^^ pat k y gs) := rfl
    have := hg g (by simp)
    rw [h2, ih (fun x hx => hg x (by simp [hx]))]
    simp
    omega

theorem twin_twin (l : List UInt8) (k : Nat) (hk : k + 32 < 8 * l.length) : twinB (twinB l k) k = l := by
  refine bits_ext (by rw [twinB_length, twinB_length]) fun y => ?_
  rw [bit_twin _ _ _ (by rw [twinB_length]; exact hk), bit_twin _ _ _ hk, Bool.xor_assoc, Bool.xor_self, Bool.xor_false]

theorem twin_comm (l : List UInt8) (k j : Nat) (hk : k + 32 < 8 * l.length) (hj : j + 32 < 8 * l.length) : twinB (twinB l k) j = twinB (twinB l j) k := by
  refine bits_ext (by simp only [twinB_length]) fun y => ?_
  rw [bit_twin _ _ _ (by rw [twinB_length]; exact hj), bit_twin _ _ _ hk, bit_twin _ _ _ (by rw [twinB_length]; exact hk), bit_twin _ _ _ hj, Bool.xor_assoc, Bool.xor_assoc, Bool.xor_comm (pat k y exps)]

theorem twin_ne (l : List UInt8) (k : Nat) (hk : k + 32 < 8 * l.length) : twinB l k ≠ l := fun e => by
  have h := bit_twin l k k hk
  rw [e, pat_self] at h
  cases hb : bitA l k <;> simp [hb] at h

theorem twin_lt (l : List UInt8) {k j : Nat} (hj : j + 32 < 8 * l.length) (hkj : k < j) : twinB l k ≠ twinB l j := fun e => by
  have h := bit_twin l k k (by omega)
  rw [e, bit_twin _ _ _ hj, pat_self, pat_below hkj exps (by decide)] at h
  cases hb : bitA l k <;> simp [hb] at h

theorem twin_inj (l : List UInt8) {k j : Nat} (hk : k + 32 < 8 * l.length) (hj : j + 32 < 8 * l.length) : twinB l k = twinB l j ↔ k = j := by
  constructor
  · intro e
    rcases Nat.lt_trichotomy k j with h | h | h
    · exact absurd e (twin_lt l hj h)
    · exact h
    · exact absurd e.symm (twin_lt l hk h)
  · intro e; rw [e]
end Go.Proofs.YtiakaloabeendaaDoor
