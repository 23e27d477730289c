/- The plain mathematics of sectors: little-endian numbers, the sealed sector as a list of bytes, torn sectors. No Go. -/
import Derived.Test.YtiakaloabeendaaCrcPlain
namespace Go.Proofs.Ytiakaloabeendaa

def le : Nat → Nat → List UInt8
  | 0, _ => []
  | k + 1, n => UInt8.ofNat n :: le k (n / 256)

def un : List UInt8 → Nat
  | [] => 0
  | x :: l => x.toNat + 256 * un l

theorem le_length (k n : Nat) : (le k n).length = k := by
  induction k generalizing n with
  | zero => rfl
  | succ k ih => simp [le, ih]

theorem un_le (k n : Nat) (h : n < 256 ^ k) : un (le k n) = n := by
  induction k generalizing n with
  | zero => simp at h; simp [le, un, h]
  | succ k ih =>
    rw [le, un, ih (n / 256) (by rw [Nat.pow_succ] at h; omega)]
    simp
    omega

theorem le_un (l : List UInt8) : le l.length (un l) = l := by
  induction l with
  | nil => rfl
  | cons x l ih =>
    have := x.toNat_lt
    rw [List.length_cons, le, un]
    have e1 : (x.toNat + 256 * un l) / 256 = un l := by omega
    have e2 : UInt8.ofNat (x.toNat + 256 * un l) = x := by
      apply UInt8.toNat_inj.1
      simp
    rw [e1, e2, ih]

theorem un_lt (l : List UInt8) : un l < 256 ^ l.length := by
  induction l with
  | nil => simp [un]
  | cons x l ih =>
    have := x.toNat_lt
    rw [un, List.length_cons, Nat.pow_succ]
    omega

theorem un_inj {l m : List UInt8} (h : l.length = m.length) (e : un l = un m) : l = m := by
  rw [← le_un l, ← le_un m, h, e]

theorem le_inj {k a b : Nat} (ha : a < 256 ^ k) (hb : b < 256 ^ k) (e : le k a = le k b) : a = b := by
  rw [← un_le k a ha, ← un_le k b hb, e]

theorem un_snoc (l : List UInt8) (x : UInt8) : un (l ++ [x]) = un l + 256 ^ l.length * x.toNat := by
  induction l with
  | nil => simp [un]
  | cons y l ih =>
    rw [List.cons_append, un, ih, un, List.length_cons, Nat.pow_succ, Nat.mul_add, ← Nat.mul_assoc, Nat.mul_comm 256 (256 ^ l.length)]
    omega

theorem le_snoc (k n : Nat) : le (k + 1) n = le k n ++ [UInt8.ofNat (n / 256 ^ k)] := by
  induction k generalizing n with
  | zero => simp [le]
  | succ k ih =>
    rw [le, ih (n / 256), le, List.cons_append, Nat.div_div_eq_div_mul, Nat.pow_succ, Nat.mul_comm 256]

/-! ### the sealed sector -/
def pad (p : List UInt8) : List UInt8 := p ++ List.replicate (40 - p.length) 0
theorem pad_length (p : List UInt8) (h : p.length ≤ 40) : (pad p).length = 40 := by simp [pad]; omega

def genB (e c : Nat) : List UInt8 := le 4 e ++ le 4 c
theorem genB_length (e c : Nat) : (genB e c).length = 8 := by simp [genB, le_length]
theorem genB_inj {e c e' c' : Nat} (h1 : e < 4294967296) (h2 : c < 4294967296) (h3 : e' < 4294967296) (h4 : c' < 4294967296) (h : genB e c = genB e' c') : e = e' ∧ c = c' := by
  obtain ⟨a, b⟩ := List.append_inj h (by simp [le_length])
  exact ⟨le_inj (k := 4) h1 h3 a, le_inj (k := 4) h2 h4 b⟩

/-- Area, disk, index. -/
def placeB (d a i : Nat) : List UInt8 := UInt8.ofNat a :: UInt8.ofNat d :: le 2 i
theorem placeB_length (d a i : Nat) : (placeB d a i).length = 4 := by simp [placeB, le_length]

def bodyB (d a i e c : Nat) (p : List UInt8) : List UInt8 := placeB d a i ++ (genB e c ++ (pad p ++ genB e c))
theorem bodyB_length (d a i e c : Nat) (p : List UInt8) (h : p.length ≤ 40) : (bodyB d a i e c p).length = 60 := by
  simp [bodyB, placeB_length, genB_length, pad_length p h]

/-- A string behind its checksum. -/
def sumB (b : List UInt8) : List UInt8 := le 4 (crcB b).toNat ++ b
def sealB (d a i e c : Nat) (p : List UInt8) : List UInt8 := sumB (bodyB d a i e c p)
theorem sealB_length (d a i e c : Nat) (p : List UInt8) (h : p.length ≤ 40) : (sealB d a i e c p).length = 64 := by
  simp [sealB, sumB, le_length, bodyB_length d a i e c p h]

def sub (l : List UInt8) (i j : Nat) : List UInt8 := (l.drop i).take (j - i)

/-- What is read out of a sector of 64 bytes: its checksum is right, header and trailer agree. -/
def soundB (s : List UInt8) : Prop := un (sub s 0 4) = (crcB (s.drop 4)).toNat ∧ sub s 8 16 = s.drop 56

theorem crc_lt (b : List UInt8) : (crcB b).toNat < 256 ^ 4 := (crcB b).isLt

theorem sum_sound (b : List UInt8) : un (sub (sumB b) 0 4) = (crcB ((sumB b).drop 4)).toNat := by
  have h1 : sub (sumB b) 0 4 = le 4 (crcB b).toNat := by simp [sub, sumB, le_length]
  have h2 : (sumB b).drop 4 = b := by simp [sumB, le_length]
  rw [h1, h2, un_le 4 _ (crc_lt b)]

/-- A sector whose checksum is right is what its body gives. -/
theorem sum_of_sound (s : List UInt8) (hs : 4 ≤ s.length) (h : un (sub s 0 4) = (crcB (s.drop 4)).toNat) : s = sumB (s.drop 4) := by
  have h1 : sub s 0 4 = le 4 (crcB (s.drop 4)).toNat := by
    rw [← h]
    have hl : (sub s 0 4).length = 4 := by simp [sub]; omega
    have := le_un (sub s 0 4)
    rw [hl] at this
    exact this.symm
  have h2 : s = sub s 0 4 ++ s.drop 4 := by simp [sub]
  conv => lhs; rw [h2, h1]
  rfl

/-! ### a torn write -/
def mix (k : Nat) (x y : List UInt8) : List UInt8 := x.take k ++ y.drop k

theorem mix_get (k : Nat) {x y : List UInt8} (h : x.length = y.length) (j : Nat) : (mix k x y)[j]? = if j < k then x[j]? else y[j]? := by
  unfold mix
  by_cases hj : j < k
  · rw [if_pos hj]
    by_cases hx : j < x.length
    · rw [List.getElem?_append_left (by simp; omega), List.getElem?_take, if_pos hj]
    · rw [List.getElem?_append_right (by simp; omega), List.getElem?_eq_none (by omega : x.length ≤ j), List.getElem?_eq_none]
      simp
      omega
  · rw [if_neg hj]
    by_cases hk : k ≤ x.length
    · rw [List.getElem?_append_right (by simp; omega), List.getElem?_drop]
      congr 1
      simp
      omega
    · rw [List.getElem?_append_right (by simp; omega), List.getElem?_drop, List.getElem?_eq_none (by simp; omega), List.getElem?_eq_none (by omega)]

theorem mix_drop (k i : Nat) {x y : List UInt8} (h : x.length = y.length) : (mix k x y).drop i = mix (k - i) (x.drop i) (y.drop i) := by
  apply List.ext_getElem?
  intro j
  rw [List.getElem?_drop, mix_get k h, mix_get _ (by simp [h]), List.getElem?_drop, List.getElem?_drop]
  by_cases hj : i + j < k
  · rw [if_pos hj, if_pos (by omega)]
  · rw [if_neg hj, if_neg (by omega)]

theorem mix_take (k n : Nat) {x y : List UInt8} (h : x.length = y.length) : (mix k x y).take n = mix k (x.take n) (y.take n) := by
  apply List.ext_getElem?
  intro j
  rw [List.getElem?_take, mix_get k h, mix_get _ (by simp [h]), List.getElem?_take, List.getElem?_take]
  by_cases hj : j < n <;> simp [hj]

theorem mix_sub (k i j : Nat) {x y : List UInt8} (h : x.length = y.length) : sub (mix k x y) i j = mix (k - i) (sub x i j) (sub y i j) := by
  unfold sub
  rw [mix_drop k i h, mix_take _ _ (by simp [h])]

theorem mix_all {k : Nat} {x y : List UInt8} (h : x.length = y.length) (hk : x.length ≤ k) : mix k x y = x := by
  apply List.ext_getElem?
  intro j
  rw [mix_get k h]
  by_cases hj : j < k
  · rw [if_pos hj]
  · rw [if_neg hj, List.getElem?_eq_none (by omega), List.getElem?_eq_none (by omega)]

theorem mix_zero (x y : List UInt8) : mix 0 x y = y := by simp [mix]
theorem mix_same (k : Nat) (x : List UInt8) : mix k x x = x := by simp [mix]

theorem parts {x y : List UInt8} (i : Nat) (h1 : x.take i = y.take i) (h2 : x.drop i = y.drop i) : x = y := by
  rw [← List.take_append_drop i x, h1, h2, List.take_append_drop]

/-- Cut at or behind the trailer: it is the first, if it is sound. -/
theorem torn_late {s t : List UInt8} (hs : s.length = 64) (ht : t.length = 64) (h1 : sub s 8 16 = s.drop 56) {k : Nat} (hk : 56 ≤ k) (h : sub (mix k s t) 8 16 = (mix k s t).drop 56) : mix k s t = s := by
  have hl : s.length = t.length := by omega
  rw [mix_sub k 8 16 hl, mix_all (by simp [sub]; omega) (by simp [sub]; omega), h1] at h
  refine parts 56 ?_ h.symm
  rw [mix_take k 56 hl, mix_all (by simp; omega) (by simp; omega)]

theorem torn_mid {s t : List UInt8} (hs : s.length = 64) (ht : t.length = 64) (h2 : sub t 8 16 = t.drop 56) {k : Nat} (hk : 16 ≤ k) (hk2 : k < 56) (h : sub (mix k s t) 8 16 = (mix k s t).drop 56) :
    sub s 8 16 = sub t 8 16 := by
  have hl : s.length = t.length := by omega
  rw [mix_sub k 8 16 hl, mix_all (by simp [sub]; omega) (by simp [sub]; omega), mix_drop k 56 hl, show k - 56 = 0 by omega, mix_zero] at h
  rw [h, h2]

theorem torn_early {s t : List UInt8} (hs : s.length = 64) (ht : t.length = 64) (h2 : sub t 8 16 = t.drop 56) {k : Nat} (hk : k < 16) (h : sub (mix k s t) 8 16 = (mix k s t).drop 56) :
    sub (mix k s t) 8 16 = sub t 8 16 := by
  have hl : s.length = t.length := by omega
  rw [h, mix_drop k 56 hl, show k - 56 = 0 by omega, mix_zero, h2]

theorem sub_split (x : List UInt8) : x.drop 4 = sub x 4 8 ++ (sub x 8 16 ++ x.drop 16) := by
  have e1 : x.drop 4 = sub x 4 8 ++ x.drop 8 := by
    have := (List.take_append_drop 4 (x.drop 4)).symm
    rw [List.drop_drop] at this
    exact this
  have e2 : x.drop 8 = sub x 8 16 ++ x.drop 16 := by
    have := (List.take_append_drop 8 (x.drop 8)).symm
    rw [List.drop_drop] at this
    exact this
  rw [e1, e2]

/-- Two sectors for one place, of different generations. -/
theorem torn_two {s t : List UInt8} (hs : s.length = 64) (ht : t.length = 64) (h1 : sub s 8 16 = s.drop 56) (h2 : sub t 8 16 = t.drop 56) (hp : sub s 4 8 = sub t 4 8) (hc : t = sumB (t.drop 4)) (hg : sub s 8 16 ≠ sub t 8 16) (k : Nat) (h : soundB (mix k s t)) :
    mix k s t = s ∨ mix k s t = t := by
  have hl : s.length = t.length := by omega
  by_cases a : 56 ≤ k
  · exact .inl (torn_late hs ht h1 a h.2)
  · by_cases b : 16 ≤ k
    · exact absurd (torn_mid hs ht h2 b (by omega) h.2) hg
    · right
      have e := torn_early hs ht h2 (by omega) h.2
      have ed : (mix k s t).drop 4 = t.drop 4 := by
        rw [sub_split, sub_split t, e, mix_sub k 4 8 hl, hp, mix_same, mix_drop k 16 hl, show k - 16 = 0 by omega, mix_zero]
      have := sum_of_sound (mix k s t) (by simp [mix]; omega) h.1
      rw [this, ed, ← hc]

/-- A sector and zero bytes. -/
theorem torn_zero {s t : List UInt8} (hs : s.length = 64) (ht : t.length = 64) (h1 : sub s 8 16 = s.drop 56) (h2 : sub t 8 16 = t.drop 56) (k : Nat) (h : soundB (mix k s t)) (hg : sub (mix k s t) 8 16 ≠ sub t 8 16) : mix k s t = s := by
  have hl : s.length = t.length := by omega
  by_cases a : 56 ≤ k
  · exact torn_late hs ht h1 a h.2
  · by_cases b : 16 ≤ k
    · have e := torn_mid hs ht h2 b (by omega) h.2
      rw [mix_sub k 8 16 hl, mix_all (by simp [sub]; omega) (by simp [sub]; omega)] at hg
      exact absurd e hg
    · exact absurd (torn_early hs ht h2 (by omega) h.2) hg

/-! ### the parts of a sealed sector -/
theorem seal_drop4 (d a i e c : Nat) (p : List UInt8) : (sealB d a i e c p).drop 4 = bodyB d a i e c p := by simp [sealB, sumB, le_length]
theorem seal_place (d a i e c : Nat) (p : List UInt8) : sub (sealB d a i e c p) 4 8 = placeB d a i := by
  unfold sub
  rw [seal_drop4, bodyB, List.take_left' (by simp [placeB_length])]
theorem seal_drop8 (d a i e c : Nat) (p : List UInt8) : (sealB d a i e c p).drop 8 = genB e c ++ (pad p ++ genB e c) := by
  have : (sealB d a i e c p).drop 8 = ((sealB d a i e c p).drop 4).drop 4 := by rw [List.drop_drop]
  rw [this, seal_drop4, bodyB, List.drop_left' (by simp [placeB_length])]
theorem seal_gen (d a i e c : Nat) (p : List UInt8) : sub (sealB d a i e c p) 8 16 = genB e c := by
  unfold sub
  rw [seal_drop8, List.take_left' (by simp [genB_length])]
theorem seal_drop16 (d a i e c : Nat) (p : List UInt8) : (sealB d a i e c p).drop 16 = pad p ++ genB e c := by
  have : (sealB d a i e c p).drop 16 = ((sealB d a i e c p).drop 8).drop 8 := by rw [List.drop_drop]
  rw [this, seal_drop8, List.drop_left' (by simp [genB_length])]
theorem seal_pay (d a i e c : Nat) (p : List UInt8) (h : p.length ≤ 40) : sub (sealB d a i e c p) 16 56 = pad p := by
  unfold sub
  rw [seal_drop16, List.take_left' (by simp [pad_length p h])]
theorem seal_drop56 (d a i e c : Nat) (p : List UInt8) (h : p.length ≤ 40) : (sealB d a i e c p).drop 56 = genB e c := by
  have : (sealB d a i e c p).drop 56 = ((sealB d a i e c p).drop 16).drop 40 := by rw [List.drop_drop]
  rw [this, seal_drop16, List.drop_left' (by simp [pad_length p h])]
theorem seal_sound (d a i e c : Nat) (p : List UInt8) (h : p.length ≤ 40) : soundB (sealB d a i e c p) :=
  ⟨sum_sound _, by rw [seal_gen, seal_drop56 _ _ _ _ _ _ h]⟩
theorem seal_sum (d a i e c : Nat) (p : List UInt8) : sealB d a i e c p = sumB ((sealB d a i e c p).drop 4) := by rw [seal_drop4]; rfl

end Go.Proofs.Ytiakaloabeendaa
