/- The plain mathematics of CRC-32C: registers as 32-bit vectors, feeding a byte, its linearity; no program in sight. -/
import Derived.Laws.BitsAllLaws
namespace Go.Proofs.YtiakaloabeendaaDoor

def polyB : BitVec 32 := 0x82F63B78#32

/-- One bit is shifted out of the register. -/
def f1 (r : BitVec 32) : BitVec 32 := (r >>> 1) ^^^ (if r.getLsbD 0 then polyB else 0#32)

def it (f : BitVec 32 → BitVec 32) : Nat → BitVec 32 → BitVec 32
  | 0, r => r
  | n + 1, r => it f n (f r)

/-- A zero byte is fed. -/
def f8 (r : BitVec 32) : BitVec 32 := it f1 8 r

def zx (x : UInt8) : BitVec 32 := x.toBitVec.setWidth 32

def feedB (r : BitVec 32) (x : UInt8) : BitVec 32 := f8 (r ^^^ zx x)

def feeds : BitVec 32 → List UInt8 → BitVec 32
  | r, [] => r
  | r, x :: l => feeds (feedB r x) l

def extB (c : BitVec 32) (l : List UInt8) : BitVec 32 := ~~~ feeds (~~~ c) l
def crcB (l : List UInt8) : BitVec 32 := extB 0#32 l
def zerosB (c : BitVec 32) (n : Nat) : BitVec 32 := ~~~ it f8 n (~~~ c)

/-! ### iteration -/
theorem it_add (f : BitVec 32 → BitVec 32) (m n : Nat) (r : BitVec 32) : it f (m + n) r = it f n (it f m r) := by
  induction m generalizing r with
  | zero => simp [it]
  | succ m ih => rw [Nat.succ_add]; simp only [it]; exact ih _

theorem it_succ (f : BitVec 32 → BitVec 32) (n : Nat) (r : BitVec 32) : it f (n + 1) r = f (it f n r) := by
  rw [it_add]; rfl

theorem it_it (f : BitVec 32 → BitVec 32) (m n : Nat) (r : BitVec 32) : it (it f m) n r = it f (m * n) r := by
  induction n generalizing r with
  | zero => rfl
  | succ n ih => simp only [it, Nat.mul_succ]; rw [ih, Nat.add_comm, it_add]

theorem f8_it (n : Nat) (r : BitVec 32) : it f8 n r = it f1 (8 * n) r := it_it f1 8 n r

/-! ### linear -/
def Lin (f : BitVec 32 → BitVec 32) : Prop := ∀ a b, f (a ^^^ b) = f a ^^^ f b

theorem Lin.zero {f : BitVec 32 → BitVec 32} (h : Lin f) : f 0#32 = 0#32 := by
  have := h 0#32 0#32
  simp at this
  exact this

theorem f1_lin : Lin f1 := by
  intro a b
  unfold f1
  rw [BitVec.getLsbD_xor, BitVec.ushiftRight_xor_distrib]
  cases a.getLsbD 0 <;> cases b.getLsbD 0 <;> simp
  · rw [BitVec.xor_assoc]
  · ac_rfl
  · have : ∀ x y p : BitVec 32, x ^^^ p ^^^ (y ^^^ p) = x ^^^ y := by
      intro x y p
      have e : x ^^^ p ^^^ (y ^^^ p) = (x ^^^ y) ^^^ (p ^^^ p) := by ac_rfl
      rw [e]; simp
    rw [this]

theorem it_lin {f : BitVec 32 → BitVec 32} (h : Lin f) (n : Nat) : Lin (it f n) := by
  induction n with
  | zero => intro a b; rfl
  | succ n ih => intro a b; simp only [it]; rw [h, ih]

theorem f8_lin : Lin f8 := it_lin f1_lin 8

/-! ### nothing is lost -/
theorem f1_zero {r : BitVec 32} (h : f1 r = 0#32) : r = 0#32 := by
  unfold f1 at h
  by_cases hb : r.getLsbD 0
  · rw [if_pos hb] at h
    have := congrArg (fun x : BitVec 32 => x.getLsbD 31) h
    simp [polyB] at this
  · rw [if_neg hb] at h
    simp only [BitVec.xor_zero] at h
    apply BitVec.eq_of_getLsbD_eq
    intro i hi
    cases i with
    | zero => simpa using hb
    | succ i =>
      have := congrArg (fun x : BitVec 32 => x.getLsbD i) h
      simpa [Nat.add_comm] using this

theorem it_f1_zero (n : Nat) {r : BitVec 32} (h : it f1 n r = 0#32) : r = 0#32 := by
  induction n generalizing r with
  | zero => exact h
  | succ n ih => exact f1_zero (ih h)

theorem xor_eq_zero {a b : BitVec 32} (h : a ^^^ b = 0#32) : a = b := by
  have : a ^^^ b ^^^ b = 0#32 ^^^ b := by rw [h]
  simpa [BitVec.xor_assoc] using this

theorem it_f1_inj (n : Nat) {a b : BitVec 32} (h : it f1 n a = it f1 n b) : a = b := by
  apply xor_eq_zero
  apply it_f1_zero n
  rw [it_lin f1_lin n, h]; simp

theorem f8_inj {a b : BitVec 32} (h : f8 a = f8 b) : a = b := it_f1_inj 8 h

/-! ### the table -/
theorem f1_shift {r : BitVec 32} (h : r.getLsbD 0 = false) : f1 r = r >>> 1 := by
  unfold f1; rw [h]; simp

theorem it_f1_shift (n : Nat) {r : BitVec 32} (h : ∀ i, i < n → r.getLsbD i = false) : it f1 n r = r >>> n := by
  induction n generalizing r with
  | zero => simp [it]
  | succ n ih =>
    simp only [it]
    rw [f1_shift (h 0 (by omega)), ih (fun i hi => by simpa [Nat.add_comm] using h (i + 1) (by omega)), ← BitVec.shiftRight_add, Nat.add_comm]

def lo8 (r : BitVec 32) : UInt8 := UInt8.ofBitVec (r.setWidth 8)

theorem split8 (r : BitVec 32) : r = ((r >>> 8) <<< 8) ^^^ zx (lo8 r) := by
  apply BitVec.eq_of_getLsbD_eq
  intro i hi
  simp [zx, lo8]
  by_cases h : i < 8 <;> simp [h, hi]
  rw [show 8 + (i - 8) = i by omega, BitVec.getLsbD_eq_getElem hi]

theorem f8_table (r : BitVec 32) : f8 r = (r >>> 8) ^^^ f8 (zx (lo8 r)) := by
  have e : f8 ((r >>> 8) <<< 8) = r >>> 8 := by
    unfold f8
    rw [it_f1_shift 8 (fun i hi => by simp [hi])]
    apply BitVec.eq_of_getLsbD_eq
    intro i hi
    simp
    intro h
    by_cases h2 : 8 + i < 32
    · simpa [Nat.add_comm] using h2
    · rw [BitVec.getLsbD_of_ge r (8 + i) (by omega)] at h
      simp at h
  conv => lhs; rw [split8 r, f8_lin, e]

theorem shr8_zx (r : BitVec 32) (x : UInt8) : (r ^^^ zx x) >>> 8 = r >>> 8 := by
  apply BitVec.eq_of_getLsbD_eq
  intro i hi
  simp [zx]

theorem lo8_zx (r : BitVec 32) (x : UInt8) : lo8 (r ^^^ zx x) = lo8 r ^^^ x := by
  apply UInt8.eq_of_toBitVec_eq
  simp [lo8, zx]

/-- The program's own step: by the table. -/
theorem feed_table (r : BitVec 32) (x : UInt8) : (r >>> 8) ^^^ f8 (zx (lo8 r ^^^ x)) = feedB r x := by
  unfold feedB
  rw [f8_table (r ^^^ zx x), shr8_zx, lo8_zx]

/-- The program's own step of a bit. -/
theorem f1_prog (r : BitVec 32) : (r >>> 1) ^^^ (polyB &&& -(r &&& 1#32)) = f1 r := by
  unfold f1
  congr 1
  have e : r &&& 1#32 = if r.getLsbD 0 then 1#32 else 0#32 := by
    apply BitVec.eq_of_getLsbD_eq
    intro i hi
    cases i with
    | zero => cases h : r.getLsbD 0 <;> simpa using h
    | succ i => cases r.getLsbD 0 <;> simp
  rw [e]
  cases r.getLsbD 0 <;> simp [polyB]

/-! ### strings -/
theorem feeds_append (r : BitVec 32) (a b : List UInt8) : feeds r (a ++ b) = feeds (feeds r a) b := by
  induction a generalizing r with
  | nil => rfl
  | cons x a ih => simp only [List.cons_append, feeds]; exact ih _

theorem zx_xor (x y : UInt8) : zx (x ^^^ y) = zx x ^^^ zx y := by
  unfold zx
  apply BitVec.eq_of_getLsbD_eq
  intro i hi
  simp

theorem zx_zero : zx 0 = 0#32 := rfl

theorem feedB_xor (r s : BitVec 32) (x y : UInt8) : feedB (r ^^^ s) (x ^^^ y) = feedB r x ^^^ feedB s y := by
  unfold feedB
  rw [← f8_lin, zx_xor]
  congr 1
  ac_rfl

theorem feeds_xor : ∀ (a b : List UInt8) (r s : BitVec 32), a.length = b.length → feeds (r ^^^ s) (List.zipWith (· ^^^ ·) a b) = feeds r a ^^^ feeds s b
  | [], [], r, s, _ => rfl
  | x :: a, y :: b, r, s, h => by
    simp only [List.zipWith_cons_cons, feeds]
    rw [feedB_xor]
    exact feeds_xor a b _ _ (by simpa using h)
  | [], _ :: _, _, _, h => by simp at h
  | _ :: _, [], _, _, h => by simp at h

theorem feeds_zeros (n : Nat) (r : BitVec 32) : feeds r (List.replicate n 0) = it f8 n r := by
  induction n generalizing r with
  | zero => rfl
  | succ n ih => simp only [List.replicate_succ, feeds, it]; rw [ih]; simp [feedB, zx_zero]

theorem feeds_reg (l : List UInt8) (r s : BitVec 32) : feeds (r ^^^ s) l = feeds r l ^^^ it f8 l.length s := by
  induction l generalizing r s with
  | nil => rfl
  | cons x l ih =>
    simp only [feeds, List.length_cons, it]
    have e : feedB (r ^^^ s) x = feedB r x ^^^ f8 s := by
      have := feedB_xor r s x 0
      simpa [feedB, zx_zero] using this
    rw [e, ih]

theorem feeds_inj (l : List UInt8) {r s : BitVec 32} (h : feeds r l = feeds s l) : r = s := by
  induction l generalizing r s with
  | nil => exact h
  | cons x l ih =>
    have := f8_inj (ih h)
    have e : r ^^^ zx x ^^^ zx x = s ^^^ zx x ^^^ zx x := by rw [this]
    simpa [BitVec.xor_assoc] using e

theorem feeds_set : ∀ (l : List UInt8) (p : Nat) (v : UInt8) (r : BitVec 32), p < l.length →
    feeds r (l.set p (l.getD p 0 ^^^ v)) = feeds r l ^^^ it f8 (l.length - p) (zx v)
  | [], _, _, _, h => by simp at h
  | x :: l, 0, v, r, _ => by
    simp only [List.set_cons_zero, List.getD_cons_zero, feeds, List.length_cons, Nat.sub_zero, it]
    have e : feedB r (x ^^^ v) = feedB r x ^^^ f8 (zx v) := by
      have := feedB_xor r 0#32 x v
      simpa [feedB] using this
    rw [e, feeds_reg]
  | x :: l, p + 1, v, r, h => by
    simp only [List.set_cons_succ, List.getD_cons_succ, feeds, List.length_cons, Nat.add_sub_add_right]
    exact feeds_set l p v _ (by simpa using h)

/-! ### zero bytes, two strings -/
theorem not_xor_not (a b : BitVec 32) : ~~~ a ^^^ ~~~ b = a ^^^ b := by
  apply BitVec.eq_of_getLsbD_eq
  intro i hi
  simp [hi]

theorem zerosB_zero (c : BitVec 32) : zerosB c 0 = c := by simp [zerosB, it]

theorem zerosB_add (c : BitVec 32) (m n : Nat) : zerosB (zerosB c m) n = zerosB c (m + n) := by
  unfold zerosB
  rw [BitVec.not_not, it_add]

theorem extB_append (c : BitVec 32) (a b : List UInt8) : extB (extB c a) b = extB c (a ++ b) := by
  unfold extB
  rw [BitVec.not_not, feeds_append]

theorem extB_zeros (c : BitVec 32) (n : Nat) : extB c (List.replicate n 0) = zerosB c n := by
  unfold extB zerosB
  rw [feeds_zeros]

theorem combine (a b : List UInt8) : crcB b ^^^ zerosB (crcB a) b.length ^^^ zerosB 0#32 b.length = crcB (a ++ b) := by
  unfold crcB extB zerosB
  rw [BitVec.xor_assoc, not_xor_not, BitVec.not_not, ← it_lin f8_lin, feeds_append]
  generalize feeds (~~~ 0#32) a = x
  have e : x = ~~~ 0#32 ^^^ (x ^^^ ~~~ 0#32) := by
    have : ~~~ 0#32 ^^^ (x ^^^ ~~~ 0#32) = x ^^^ (~~~ 0#32 ^^^ ~~~ 0#32) := by ac_rfl
    rw [this]; simp
  conv => rhs; rw [e, feeds_reg]
  apply BitVec.eq_of_getLsbD_eq
  intro i hi
  simp [hi]

theorem affine (a b c : List UInt8) (hb : b.length = a.length) (hc : c.length = a.length) :
    crcB a ^^^ crcB b ^^^ crcB c = crcB (List.zipWith (· ^^^ ·) (List.zipWith (· ^^^ ·) a b) c) := by
  unfold crcB extB
  rw [not_xor_not, ← feeds_xor a b _ _ hb.symm]
  have e : ∀ x y : BitVec 32, x ^^^ ~~~ y = ~~~ (x ^^^ y) := by
    intro x y
    apply BitVec.eq_of_getLsbD_eq
    intro i hi
    simp [hi]
  rw [e, ← feeds_xor _ c _ _ (by simp [hb, hc])]
  simp

/-! ### four bytes -/
theorem feeds_word (r : BitVec 32) (a b c d : UInt8) :
    feeds r [a, b, c, d] = it f8 4 (r ^^^ (zx a ^^^ (zx b <<< 8) ^^^ (zx c <<< 16) ^^^ (zx d <<< 24))) := by
  have s1 : ∀ (y : BitVec 32) (k : Nat), y.getLsbD 0 = y.getLsbD 0 → 8 ≤ k → k ≤ 24 → (∀ i, 8 ≤ i → y.getLsbD i = false) → f8 (y <<< k) = y <<< (k - 8) := by
    intro y k _ h1 h2 h3
    unfold f8
    rw [it_f1_shift 8 (fun i hi => by simp; intros; omega)]
    apply BitVec.eq_of_getLsbD_eq
    intro i hi
    simp
    by_cases h4 : 8 + i < 32
    · simp [h4, hi]
      by_cases h5 : i < k - 8
      · simp [h5, show 8 + i < k by omega]
      · simp [h5, show ¬ 8 + i < k by omega, show 8 + i - k = i - (k - 8) by omega]
    · simp [h4, hi]
      intro _
      exact h3 _ (by omega)
  have zh : ∀ x : UInt8, ∀ i, 8 ≤ i → (zx x).getLsbD i = false := by
    intro x i hi
    simp [zx]
    intro _
    exact BitVec.getLsbD_of_ge _ _ hi
  have t1 : ∀ x, f8 (zx x <<< 8) = zx x := fun x => by rw [s1 _ 8 rfl (by omega) (by omega) (zh x)]; simp
  have t2 : ∀ x, f8 (zx x <<< 16) = zx x <<< 8 := fun x => s1 _ 16 rfl (by omega) (by omega) (zh x)
  have t3 : ∀ x, f8 (zx x <<< 24) = zx x <<< 16 := fun x => s1 _ 24 rfl (by omega) (by omega) (zh x)
  simp only [feeds, feedB, it]
  simp only [f8_lin _ _, t1, t2, t3]
  ac_rfl

theorem word_inj {a b c d a' b' c' d' : UInt8} (h : zx a ^^^ (zx b <<< 8) ^^^ (zx c <<< 16) ^^^ (zx d <<< 24) = zx a' ^^^ (zx b' <<< 8) ^^^ (zx c' <<< 16) ^^^ (zx d' <<< 24)) :
    a = a' ∧ b = b' ∧ c = c' ∧ d = d' := by
  have zb : ∀ (x : UInt8) (i : Nat), 8 ≤ i → x.toBitVec.getLsbD i = false := fun x i hi => BitVec.getLsbD_of_ge _ _ hi
  have g : ∀ i, i < 32 → _ := fun i hi => congrArg (fun x : BitVec 32 => x.getLsbD i) h
  refine ⟨?_, ?_, ?_, ?_⟩ <;> apply UInt8.eq_of_toBitVec_eq <;> apply BitVec.eq_of_getLsbD_eq <;> intro i hi
  · have := g i (by omega)
    simpa [zx, show i < 32 by omega, show i < 16 by omega, show i < 24 by omega, hi] using this
  · have := g (8 + i) (by omega)
    simpa [zx, show ¬ 8 + i < 8 by omega, show 8 + i < 32 by omega, show 8 + i < 16 by omega, show 8 + i < 24 by omega, hi, zb, show i < 32 by omega] using this
  · have := g (16 + i) (by omega)
    simpa [zx, zb a (16 + i) (by omega), zb a' (16 + i) (by omega), show ¬ 16 + i < 16 by omega, show 16 + i < 32 by omega, show 16 + i < 24 by omega, hi, zb, show i < 32 by omega, show 16 + i - 8 < 32 by omega, show 8 ≤ 16 + i - 8 by omega] using this
  · have := g (24 + i) (by omega)
    simpa [zx, zb a (24 + i) (by omega), zb a' (24 + i) (by omega), show ¬ 24 + i < 24 by omega, show 24 + i < 32 by omega, hi, zb, show i < 32 by omega, show 24 + i - 8 < 32 by omega, show 24 + i - 16 < 32 by omega, show 8 ≤ 24 + i - 8 by omega, show 8 ≤ 24 + i - 16 by omega] using this

theorem four_inj {m m' : List UInt8} (r : BitVec 32) (h4 : m.length = 4) (h4' : m'.length = 4) (h : feeds r m = feeds r m') : m = m' := by
  match m, m', h4, h4' with
  | [a, b, c, d], [a', b', c', d'], _, _ =>
    rw [feeds_word, feeds_word, f8_it, f8_it] at h
    have h1 := it_f1_inj _ h
    have h2 := congrArg (fun x => r ^^^ x) h1
    simp only [← BitVec.xor_assoc, BitVec.xor_self, BitVec.zero_xor] at h2
    obtain ⟨rfl, rfl, rfl, rfl⟩ := word_inj h2
    rfl

/-- A change within four adjacent bytes changes the register. -/
theorem burst (r : BitVec 32) (p m m' s : List UInt8) (hl : m.length = m'.length) (h4 : m.length ≤ 4) (h : feeds r (p ++ m ++ s) = feeds r (p ++ m' ++ s)) : m = m' := by
  rw [feeds_append, feeds_append, feeds_append, feeds_append] at h
  have h1 := feeds_inj s h
  have h2 : feeds (feeds r p) (m ++ List.replicate (4 - m.length) 0) = feeds (feeds r p) (m' ++ List.replicate (4 - m.length) 0) := by
    rw [feeds_append, feeds_append, h1]
  have h3 := four_inj _ (by simp; omega) (by simp; omega) h2
  exact List.append_cancel_right h3

theorem crc_burst (p m m' s : List UInt8) (hl : m.length = m'.length) (h4 : m.length ≤ 4) (h : crcB (p ++ m ++ s) = crcB (p ++ m' ++ s)) : m = m' := by
  unfold crcB extB at h
  exact burst _ p m m' s hl h4 (by simpa using congrArg (fun x => ~~~ x) h)

/-- One byte is changed in place. -/
def stepB (l : List UInt8) (p : Nat) (x : UInt8) : List UInt8 := l.set p (l.getD p 0 ^^^ x)
theorem stepB_length (l : List UInt8) (p : Nat) (x : UInt8) : (stepB l p x).length = l.length := by simp [stepB]
theorem feeds_stepB (r : BitVec 32) (l : List UInt8) (p : Nat) (x : UInt8) (h : p < l.length) : feeds r (stepB l p x) = feeds r l ^^^ it f8 (l.length - p) (zx x) := feeds_set l p x r h

/-- Bytes from the place on are changed, one after the other. -/
def curB (l : List UInt8) (p : Nat) (xs : List UInt8) : Nat → List UInt8
  | 0 => l
  | k + 1 => stepB (curB l p xs k) (p + k) (xs.getD k 0)
theorem curB_length (l : List UInt8) (p : Nat) (xs : List UInt8) (k : Nat) : (curB l p xs k).length = l.length := by
  induction k with
  | zero => rfl
  | succ k ih => rw [curB, stepB_length, ih]

theorem feeds_four (a b c d : UInt8) : feeds 0#32 [a, b, c, d] = it f8 4 (zx a) ^^^ it f8 3 (zx b) ^^^ it f8 2 (zx c) ^^^ it f8 1 (zx d) := by
  simp only [feeds, feedB, it, BitVec.zero_xor, f8_lin _ _]

theorem curB_four (r : BitVec 32) (l : List UInt8) (p : Nat) (a b c d : UInt8) (h : p + 4 ≤ l.length) :
    feeds r (curB l p [a, b, c, d] 4) = feeds r l ^^^ it f8 (l.length - p - 4) (feeds 0#32 [a, b, c, d]) := by
  obtain ⟨k, hk⟩ : ∃ k, l.length = p + 4 + k := ⟨l.length - p - 4, by omega⟩
  have e : l.length - p = 4 + k := by omega
  have e1 : l.length - (p + 1) = 3 + k := by omega
  have e2 : l.length - (p + 2) = 2 + k := by omega
  have e3 : l.length - (p + 3) = 1 + k := by omega
  have e4 : l.length - p - 4 = k := by omega
  rw [e4]
  simp only [curB]
  rw [feeds_stepB _ _ _ _ (by simp only [stepB_length]; omega), feeds_stepB _ _ _ _ (by simp only [stepB_length]; omega), feeds_stepB _ _ _ _ (by simp only [stepB_length]; omega), feeds_stepB _ _ _ _ (by omega)]
  simp only [stepB_length, Nat.add_zero]
  rw [e, e1, e2, e3, it_add, it_add, it_add, it_add, feeds_four]
  rw [it_lin f8_lin k, it_lin f8_lin k, it_lin f8_lin k]
  simp only [List.getD_cons_zero, List.getD_cons_succ]
  ac_rfl

theorem burst_four (l : List UInt8) (p : Nat) (a b c d : UInt8) (h : p + 4 ≤ l.length) (hne : crcB (curB l p [a, b, c, d] 4) = crcB l) : a = 0 ∧ b = 0 ∧ c = 0 ∧ d = 0 := by
  unfold crcB extB at hne
  have h1 : feeds (~~~ 0#32) (curB l p [a, b, c, d] 4) = feeds (~~~ 0#32) l := by simpa using congrArg (fun x => ~~~ x) hne
  rw [curB_four _ l p a b c d h] at h1
  have h2 : it f8 (l.length - p - 4) (feeds 0#32 [a, b, c, d]) = 0#32 := by
    have := congrArg (fun x => feeds (~~~ 0#32) l ^^^ x) h1
    simpa [← BitVec.xor_assoc] using this
  rw [f8_it] at h2
  have h3 := it_f1_zero _ h2
  have h4 : feeds 0#32 [a, b, c, d] = feeds 0#32 [0, 0, 0, 0] := by rw [h3]; decide
  have h5 := four_inj 0#32 rfl rfl h4
  simpa using h5

/-! ### bits -/
def parN : Nat → BitVec 32 → Bool
  | 0, _ => false
  | n + 1, r => parN n r ^^ r.getLsbD n

def par (r : BitVec 32) : Bool := parN 32 r

theorem parN_xor (n : Nat) (a b : BitVec 32) : parN n (a ^^^ b) = (parN n a ^^ parN n b) := by
  induction n with
  | zero => rfl
  | succ n ih =>
    simp only [parN, ih, BitVec.getLsbD_xor]
    cases parN n a <;> cases parN n b <;> cases a.getLsbD n <;> cases b.getLsbD n <;> rfl

theorem parN_shift (n : Nat) (r : BitVec 32) : parN (n + 1) r = (r.getLsbD 0 ^^ parN n (r >>> 1)) := by
  induction n with
  | zero => simp [parN]
  | succ n ih =>
    rw [parN, ih]
    simp [parN, Nat.add_comm]

theorem par_f1 (r : BitVec 32) : par (f1 r) = par r := by
  have h := parN_shift 31 r
  have e : parN 32 (r >>> 1) = parN 31 (r >>> 1) := by simp [parN]
  have hp : parN 32 polyB = true := by decide +kernel
  have hz : parN 32 0#32 = false := by decide +kernel
  unfold par f1
  rw [parN_xor, e, h]
  cases r.getLsbD 0 <;> simp [hp, hz]

theorem par_it (n : Nat) (r : BitVec 32) : par (it f1 n r) = par r := by
  induction n generalizing r with
  | zero => rfl
  | succ n ih => simp only [it]; rw [ih, par_f1]

/-- What inverting one bit does to the register, that many bits ahead of the end. -/
def gb (n : Nat) : BitVec 32 := it f1 n 1#32

theorem par_gb (n : Nat) : par (gb n) = true := by
  unfold gb
  rw [par_it]
  decide +kernel

theorem gb_ne (n : Nat) : gb n ≠ 0#32 := by
  intro h
  have := par_gb n
  rw [h] at this
  exact absurd this (by decide +kernel)

def noback : Nat → BitVec 32 → Bool
  | 0, _ => true
  | n + 1, r => (f1 r != 1#32) && noback n (f1 r)

theorem noback_it : ∀ (n : Nat) (r : BitVec 32), noback n r = true → ∀ d, d < n → it f1 (d + 1) r ≠ 1#32
  | 0, _, _, d, hd => by omega
  | n + 1, r, h, d, hd => by
    simp only [noback, Bool.and_eq_true, bne_iff_ne] at h
    cases d with
    | zero => exact h.1
    | succ d => exact noback_it n (f1 r) h.2 d (by omega)

theorem noback512 : noback 512 1#32 = true := by decide +kernel

theorem gb_two {x y : Nat} (hx : x < 513) (hy : y < 513) (h : x ≠ y) : gb x ^^^ gb y ≠ 0#32 := by
  have key : ∀ a b, a < b → b < 513 → gb a ≠ gb b := by
    intro a b hab hb e
    unfold gb at e
    rw [show b = (b - a) + a by omega, it_add] at e
    have e2 := it_f1_inj a e
    have := noback_it 512 1#32 noback512 (b - a - 1) (by omega)
    rw [show b - a - 1 + 1 = b - a by omega] at this
    exact this e2.symm
  intro e
  have e1 := xor_eq_zero e
  by_cases hl : x < y
  · exact key x y hl hy e1
  · exact key y x (by omega) hx e1.symm

theorem gb_three (x y z : Nat) : gb x ^^^ gb y ^^^ gb z ≠ 0#32 := by
  intro h
  have : par (gb x ^^^ gb y ^^^ gb z) = par 0#32 := by rw [h]
  unfold par at this
  rw [parN_xor, parN_xor] at this
  have a := par_gb x
  have b := par_gb y
  have c := par_gb z
  unfold par at a b c
  rw [a, b, c] at this
  exact absurd this (by decide +kernel)

theorem bit_in : ∀ j : Fin 8, it f1 j.1 (zx ((1 : UInt8) <<< (UInt8.ofNat j.1))) = 1#32 := by decide +kernel

/-- Inverting bit j of byte p. -/
theorem feeds_bit (l : List UInt8) (p j : Nat) (r : BitVec 32) (hp : p < l.length) (hj : j < 8) :
    feeds r (l.set p (l.getD p 0 ^^^ ((1 : UInt8) <<< (UInt8.ofNat j)))) = feeds r l ^^^ gb (8 * l.length - (8 * p + j)) := by
  rw [feeds_set l p _ r hp, f8_it]
  have e : 8 * (l.length - p) = j + (8 * l.length - (8 * p + j)) := by omega
  rw [e, it_add, bit_in ⟨j, hj⟩]
  rfl

/-! ### a linear map by the images of the single bits -/
def app (m : Nat → BitVec 32) (r : BitVec 32) : Nat → BitVec 32
  | 0 => 0#32
  | k + 1 => app m r k ^^^ (m k &&& -((r >>> k) &&& 1#32))

def low (r : BitVec 32) : Nat → BitVec 32
  | 0 => 0#32
  | k + 1 => low r k ^^^ (if r.getLsbD k then 1#32 <<< k else 0#32)

theorem low_bit (r : BitVec 32) (k i : Nat) (hi : i < 32) : (low r k).getLsbD i = (decide (i < k) && r.getLsbD i) := by
  induction k with
  | zero => simp [low]
  | succ k ih =>
    rw [low, BitVec.getLsbD_xor, ih]
    by_cases h1 : i = k
    · subst h1
      cases h : r.getLsbD i <;> simp [hi]
    · by_cases h2 : i < k
      · cases h : r.getLsbD k <;> simp [h2, show i < k + 1 by omega]
      · have h3 : ¬ i < k + 1 := by omega
        cases h : r.getLsbD k <;> simp [h2, h3, hi]
        omega

theorem low_all (r : BitVec 32) : low r 32 = r := by
  apply BitVec.eq_of_getLsbD_eq
  intro i hi
  rw [low_bit r 32 i hi]
  simp [hi]

theorem bit_mask (r y : BitVec 32) (k : Nat) : y &&& -((r >>> k) &&& 1#32) = if r.getLsbD k then y else 0#32 := by
  have e : (r >>> k) &&& 1#32 = if r.getLsbD k then 1#32 else 0#32 := by
    apply BitVec.eq_of_getLsbD_eq
    intro i hi
    cases i with
    | zero => cases h : r.getLsbD k <;> simpa using h
    | succ i => cases r.getLsbD k <;> simp
  rw [e]
  cases r.getLsbD k
  · simp
  · have : -(1#32) = BitVec.allOnes 32 := by decide
    simp only [if_true, this, BitVec.and_allOnes]

theorem app_low {f : BitVec 32 → BitVec 32} (h : Lin f) (r : BitVec 32) (k : Nat) : app (fun i => f (1#32 <<< i)) r k = f (low r k) := by
  induction k with
  | zero => exact h.zero.symm
  | succ k ih =>
    rw [app, ih, low, h, bit_mask]
    cases r.getLsbD k <;> simp [h.zero]

/-- The sum over the bits is the map itself. -/
theorem app_all {f : BitVec 32 → BitVec 32} (h : Lin f) (r : BitVec 32) : app (fun i => f (1#32 <<< i)) r 32 = f r := by
  rw [app_low h, low_all]

theorem app_congr {m m' : Nat → BitVec 32} (r : BitVec 32) (k : Nat) (h : ∀ i, i < k → m i = m' i) : app m r k = app m' r k := by
  induction k with
  | zero => rfl
  | succ k ih => rw [app, app, ih (fun i hi => h i (by omega)), h k (by omega)]

end Go.Proofs.YtiakaloabeendaaDoor
