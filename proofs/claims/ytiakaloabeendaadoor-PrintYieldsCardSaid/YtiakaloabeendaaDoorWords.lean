/- Small words for the walks: a 32-bit register as the model's number, the bit operations on it, whole rows in memory. -/
import Derived.WalkKit
import Derived.WalkSpells
import Derived.WalkLawsBesides
import Derived.Lib.Hide
import Derived.Deep.QuietTactic
import Derived.BigQuiet
import Derived.StillTailTactics
import Derived.Test.YtiakaloabeendaaDoorCrcPlain
namespace Go.Proofs.YtiakaloabeendaaDoor
open Go.RowKit

/-- The model's number of a register. -/
def rg (r : BitVec 32) : Int := (r.toNat : Int)

theorem u32_lo (r : BitVec 32) : 0 ≤ rg r := Int.natCast_nonneg _
theorem u32_hi (r : BitVec 32) : rg r < 4294967296 := by unfold rg; have := r.isLt; omega
theorem u32_inj {a b : BitVec 32} (h : rg a = rg b) : a = b := by
  apply BitVec.eq_of_toNat_eq
  unfold rg at h
  omega

theorem u32_bits (a b : BitVec 32) : bits .xor .u32 (rg a) (rg b) = rg (a ^^^ b) ∧ bits .and .u32 (rg a) (rg b) = rg (a &&& b) := by
  unfold rg
  rw [u32_xor_nat _ _ a.isLt b.isLt, u32_and_nat _ _ a.isLt b.isLt, BitVec.toNat_xor, BitVec.toNat_and]
  exact ⟨rfl, rfl⟩

theorem u32_xor' (a b : BitVec 32) : bits .xor .u32 (rg a) (rg b) = rg (a ^^^ b) := (u32_bits a b).1
theorem u32_and' (a b : BitVec 32) : bits .and .u32 (rg a) (rg b) = rg (a &&& b) := (u32_bits a b).2

theorem u32_one (a : BitVec 32) : bits .and .u32 (rg a) 1 = rg (a &&& 1#32) := u32_and' a 1#32

theorem wrap_u32_of (r : BitVec 32) : IntKind.u32.wrap (rg r) = rg r := by
  rw [IntKind.wrap_u32']; have := u32_lo r; have := u32_hi r; omega

theorem u32_neg (a : BitVec 32) : IntKind.u32.wrap (-(rg a)) = rg (-a) := by
  rw [IntKind.wrap_u32']
  unfold rg
  rw [BitVec.toNat_neg]
  have := a.isLt
  omega

theorem u32_shr1 (a : BitVec 32) : rg a / (2 : Int) = rg (a >>> 1) := by
  unfold rg
  rw [BitVec.toNat_ushiftRight, Nat.shiftRight_eq_div_pow]
  omega

theorem u32_shr8 (a : BitVec 32) : rg a / (256 : Int) = rg (a >>> 8) := by
  unfold rg
  rw [BitVec.toNat_ushiftRight, Nat.shiftRight_eq_div_pow]
  omega

theorem u32_not (a : BitVec 32) : bits .xor .u32 IntKind.u32.max (rg a) = rg (~~~ a) := by
  have h : IntKind.u32.max = rg (BitVec.allOnes 32) := rfl
  rw [h, u32_xor', BitVec.allOnes_xor]

theorem lo8_mod (r : BitVec 32) : rg r % (256 : Int) = ((lo8 r).toNat : Int) := by
  unfold rg lo8
  simp

theorem lo8_walk (r : BitVec 32) (x : UInt8) : bits .xor .u8 (rg r % 256) (x.toNat : Int) = ((lo8 r ^^^ x).toNat : Int) := by
  rw [lo8_mod, u8_xor_nat _ _ (lo8 r).toNat_lt x.toNat_lt]
  simp

theorem feed_walk (r : BitVec 32) (x : UInt8) : bits .xor .u32 (rg r / (256 : Int)) (rg (f8 (zx (lo8 r ^^^ x)))) = rg (feedB r x) := by
  rw [u32_shr8, u32_xor', feed_table]

theorem u32_shrn (a : BitVec 32) (k : Nat) : rg a / (2 : Int) ^ k = rg (a >>> k) := by
  unfold rg
  rw [BitVec.toNat_ushiftRight, Nat.shiftRight_eq_div_pow]
  simp

theorem app_walk (s y r : BitVec 32) (k : Nat) : bits .xor .u32 (rg s) (bits .and .u32 (rg y) (-bits .and .u32 (rg r / (2 : Int) ^ k) 1 % 4294967296)) = rg (s ^^^ (y &&& -((r >>> k) &&& 1#32))) := by
  have h3 : ∀ x : BitVec 32, -rg x % 4294967296 = rg (-x) := by
    intro x
    have := u32_neg x
    rwa [IntKind.wrap_u32'] at this
  rw [u32_shrn, u32_one, h3, u32_and', u32_xor']

theorem u32_bit (k : Nat) (h : k < 32) : rg (1#32 <<< k) = (2 : Int) ^ k := by
  unfold rg
  rw [BitVec.toNat_shiftLeft, Nat.shiftLeft_eq]
  have : 2 ^ k < 2 ^ 32 := Nat.pow_lt_pow_right (by omega) h
  simp only [BitVec.toNat_ofNat, Nat.one_mod, Nat.one_mul]
  rw [Nat.mod_eq_of_lt (by omega)]
  simp

theorem lo8_bit (k : Nat) (h : k < 32) : ((2 : Int) ^ k % 256).toNat = (lo8 (1#32 <<< k)).toNat := by
  rw [← u32_bit k h, lo8_mod]
  simp only [Int.toNat_natCast]

theorem first_walk (k : Nat) (h : k < 32) : bits .xor .u32 ((2 : Int) ^ k % 4294967296 / 256) (rg (f8 (zx (lo8 (1#32 <<< k))))) = rg (f8 (1#32 <<< k)) := by
  rw [← u32_bit k h, Int.emod_eq_of_lt (u32_lo _) (u32_hi _), u32_shr8, u32_xor', ← f8_table]

theorem byte_in_walk (r : BitVec 32) (x : UInt8) : bits .xor .u32 (rg r) ((x.toNat : Int) % 4294967296) = rg (r ^^^ zx x) := by
  have h : (x.toNat : Int) % 4294967296 = rg (zx x) := by
    unfold rg zx
    have := x.toNat_lt
    simp
    omega
  rw [h, u32_xor']

theorem low_bit_one (r : BitVec 32) (h : r.getLsbD 0 = true) : bits .and .u32 (rg r) 1 = 1 ∧ bits .xor .u32 (rg r / 2) 2197175160 = rg (f1 r) := by
  have e : r &&& 1#32 = 1#32 := by
    apply BitVec.eq_of_getLsbD_eq
    intro i hi
    cases i with
    | zero => simpa using h
    | succ i => simp
  constructor
  · rw [u32_one, e]; rfl
  · have h4 : (2197175160 : Int) = rg polyB := rfl
    rw [u32_shr1, h4, u32_xor']
    unfold f1
    rw [if_pos h]

theorem low_bit_zero (r : BitVec 32) (h : r.getLsbD 0 = false) : bits .and .u32 (rg r) 1 = 0 ∧ rg r / 2 = rg (f1 r) := by
  have e : r &&& 1#32 = 0#32 := by
    apply BitVec.eq_of_getLsbD_eq
    intro i hi
    cases i with
    | zero => simpa using h
    | succ i => simp
  constructor
  · rw [u32_one, e]; rfl
  · rw [u32_shr1, f1_shift h]

theorem xor8_walk (z y : UInt8) : bits .xor .u8 (z.toNat : Int) (y.toNat : Int) = ((z ^^^ y).toNat : Int) := by
  rw [u8_xor_nat _ _ z.toNat_lt y.toNat_lt]
  simp

theorem feeds_snoc (r : BitVec 32) (l : List UInt8) (x : UInt8) : feeds r (l ++ [x]) = feedB (feeds r l) x := feeds_append r l [x]

theorem take_snoc' (l : List UInt8) (k : Nat) (h : k < l.length) : l.take (k + 1) = l.take k ++ [l.getD k 0] := by
  rw [List.take_succ_eq_append_getElem h]; simp [List.getD, h]

theorem f1_walk (r : BitVec 32) : bits .xor .u32 (rg r / 2) (bits .and .u32 2197175160 (-bits .and .u32 (rg r) 1 % 4294967296)) = rg (f1 r) := by
  have h1 := u32_shr1 r
  have h2 : bits .and .u32 (rg r) 1 = rg (r &&& 1#32) := u32_one r
  have h3 : -rg (r &&& 1#32) % 4294967296 = rg (-(r &&& 1#32)) := by
    have := u32_neg (r &&& 1#32)
    rwa [IntKind.wrap_u32'] at this
  have h4 : (2197175160 : Int) = rg polyB := rfl
  rw [h1, h2, h3, h4, u32_and', u32_xor', f1_prog]

theorem u32_ofNat (k : Nat) (h : k < 4294967296) : rg (BitVec.ofNat 32 k) = (k : Int) := by
  unfold rg
  rw [BitVec.toNat_ofNat, Nat.mod_eq_of_lt h]

/-- The table's row. -/
def tabRow : Array Value := Array.ofFn (n := 256) fun i => .int .u32 (rg (f8 (BitVec.ofNat 32 i.1)))
theorem tabRow_size : tabRow.size = 256 := by simp [tabRow]
theorem tabRow_at (j : Nat) (h : j < 256) : tabRow[j]? = some (.int .u32 (rg (f8 (BitVec.ofNat 32 j)))) := by
  simp [tabRow, h]
theorem tabRow_one : tabRow.all (·.oneCell') = true := by
  rw [Array.all_eq_true_iff_forall_mem]
  intro x hx
  simp only [tabRow, Array.mem_ofFn] at hx
  obtain ⟨i, rfl⟩ := hx
  rfl
theorem ofNat_zx (x : UInt8) : BitVec.ofNat 32 x.toNat = zx x := by
  unfold zx
  apply BitVec.eq_of_toNat_eq
  simp
theorem tabRow_byte (x : UInt8) : tabRow[x.toNat]? = some (.int .u32 (rg (f8 (zx x)))) := by
  rw [tabRow_at _ (by have := x.toNat_lt; omega), ofNat_zx]
theorem tabRow_of {cs : Array Value} (hs : cs.size = 256) (h : ∀ j, j < 256 → cs[j]? = some (.int .u32 (rg (f8 (BitVec.ofNat 32 j))))) : cs = tabRow := by
  apply Array.ext_getElem?
  intro i
  by_cases hi : i < 256
  · rw [h i hi, tabRow_at i hi]
  · rw [Array.getElem?_eq_none (by omega), Array.getElem?_eq_none (by rw [tabRow_size]; omega)]

/-! ### bytes in memory -/
def BytesAt (w : World) (a : Option Addr) (l : List UInt8) : Prop :=
  l.length ≤ maxLen ∧ (l = [] ∨ ∃ b off, a = some ⟨b, off, none⟩ ∧ ∀ i, i < l.length → w.cell? ⟨b, off + i, none⟩ = some (.int .u8 ((l.getD i 0).toNat : Int)))

theorem BytesAt.below {w w' : World} {a : Option Addr} {l : List UInt8} (h : BytesAt w a l) (hb : Below w.heap.size w w') : BytesAt w' a l := by
  obtain ⟨h1, h2⟩ := h
  refine ⟨h1, ?_⟩
  rcases h2 with rfl | ⟨b, off, rfl, hc⟩
  · exact .inl rfl
  · refine .inr ⟨b, off, rfl, fun i hi => ?_⟩
    have hlt := block_lt_of_cell (hc i hi)
    rw [hb.cell (p := ⟨b, off + i, none⟩) hlt]
    exact hc i hi

theorem BytesAt.take {w : World} {a : Option Addr} {l : List UInt8} (h : BytesAt w a l) (n : Nat) : BytesAt w a (l.take n) := by
  obtain ⟨h1, h2⟩ := h
  refine ⟨by rw [List.length_take]; omega, ?_⟩
  rcases h2 with rfl | ⟨b, off, rfl, hc⟩
  · exact .inl (by simp)
  · refine .inr ⟨b, off, rfl, fun i hi => ?_⟩
    rw [List.length_take] at hi
    rw [hc i (by omega)]
    simp [List.getD, show i < n by omega]

theorem BytesAt.cell {w : World} {a : Option Addr} {l : List UInt8} (h : BytesAt w a l) (k : Nat) (hk : k < l.length) :
    ∃ b off, a = some ⟨b, off, none⟩ ∧ w.cell? ⟨b, off + k, none⟩ = some (.int .u8 ((l.getD k 0).toNat : Int)) := by
  obtain ⟨_, rfl | ⟨b, off, rfl, hc⟩⟩ := h
  · simp at hk
  · exact ⟨b, off, rfl, hc k hk⟩

/-! ### regions whose calls make memory: the worlds that have only grown -/
def Grew (w : World) := { u : World // Below w.heap.size w u }
instance (w : World) : Nonempty (Grew w) := ⟨⟨w, Below.refl _ _⟩⟩

theorem wp_region_grew {P : Program} {id : Nat} {Q : Exit → Act → World → Prop} {a : Act} {w : World} {l : List Oper} (hm : P.follows .mixedOrders = true) (hB : Region.lexB .any l.toArray = true)
    (h : wpQuiet P l.toArray (fun w' => ∃ x : Grew w, w' = x.1) (fun a' => ∀ w', (∃ x : Grew w, w' = x.1) → Q .normal a' w') l a) : (Code.region id l.toArray true).wp P Q a w :=
  wp_region_quiet (C := fun w' => ∃ x : Grew w, w' = x.1) hm hB ⟨⟨w.drew, (Below.refl _ w).drew⟩, rfl⟩ (by simpa using h)

/-- A region that draws: its head leaves the world alone, its tail's order is forced. -/
theorem wp_region_tail {P : Program} {id : Nat} {Q : Exit → Act → World → Prop} {a : Act} {w : World} {l : List Oper} (n : Nat) (hm : P.follows .mixedOrders = true) (hB : Region.lexTailB .any l.toArray n = true)
    (h : wpStill P l.toArray w.drew (fun a' => wpList P l.toArray Q (l.drop n) a' w.drew) (l.take n) a) : (Code.region id l.toArray true).wp P Q a w :=
  wp_region_still_tail n hm hB h

theorem grew_call {P : Program} {f : FuncId} {args : Array Value} {w : World} {x : Grew w} {v : Value} (h : Calls P f args x.1 fun e w' => e = .returned v ∧ Below x.1.heap.size x.1 w') :
    Calls P f args x.1 fun e w'' => e = .returned v ∧ ∃ y : Grew w, w'' = y.1 :=
  h.mono fun _ w' ⟨he, hb⟩ => ⟨he, ⟨w', x.2.trans (hb.mono x.2.size)⟩, rfl⟩

/-! ### whole rows -/
def zcells (n : Nat) : Array Value := Array.replicate n (.int .u32 0)
theorem zcells_size (n : Nat) : (zcells n).size = n := by simp [zcells]

section
variable {P : Program}
theorem wpList_alloc_row {ops : Array Oper} {rest : List Oper} {o : Oper} {a : Act} {w : World} {Q : Exit → Act → World → Prop} (hgd : o.guard = none) (ty : TypeId) (ho : o.op = .alloc ty)
    (cs : Array Value) (hz : (zeroValue ty).run P w = .ok (.agg cs) w)
    (h : wpList P ops Q rest (a.put o.dst (.pointer (some ⟨w.heap.size, 0, none⟩))) (w.alloc (.cells cs ty))) : wpList P ops Q (o :: rest) a w := by
  refine wpList_plain hgd fun K hK => ?_
  unfold Oper.wp
  simp [execOp, ho, Instr.alloc, hz, newVar, newRow, go_sem, Result.andThen, Value.cells]
  exact hK _ _ h
end

end Go.Proofs.YtiakaloabeendaaDoor
