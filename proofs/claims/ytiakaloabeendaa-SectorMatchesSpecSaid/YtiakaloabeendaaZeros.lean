/- The walk of crc.Zeros: zero bytes fed by squaring a linear map. -/
import Derived.Test.YtiakaloabeendaaExtend
import Derived.Deep.QuietTactic
import Derived.BigQuiet
namespace Go.Proofs.Ytiakaloabeendaa
open Go.RowKit

/-- Block B holds the first k of 32 registers. -/
def LinSoFar (w : World) (B k : Nat) (m : Nat → BitVec 32) : Prop := ∃ cs : Array Value, cs.size = 32 ∧ w.heap[B]? = some (.cells cs 63 (0, 0)) ∧ ∀ i, i < k → cs[i]? = some (.int .u32 (rg (m i)))

/-- Block B holds the images of the single bits. -/
def LinAt (w : World) (B : Nat) (m : Nat → BitVec 32) : Prop := LinSoFar w B 32 m

theorem LinSoFar.cell {w : World} {B k : Nat} {m : Nat → BitVec 32} (h : LinSoFar w B k m) (j : Nat) (hj : j < 32) : (∃ v, w.cell? ⟨B, j, none⟩ = some v) ∧ w.frozen? ⟨B, j, none⟩ = false := by
  obtain ⟨cs, hs, hh, hc⟩ := h
  exact ⟨⟨cs[j], by rw [cell_of_row w B j cs _ _ hh]; simp [hs, hj]⟩, frozen_of_row w B j cs _ hh⟩

theorem LinSoFar.at {w : World} {B k : Nat} {m : Nat → BitVec 32} (h : LinSoFar w B k m) (j : Nat) (hj : j < k) : w.cell? ⟨B, j, none⟩ = some (.int .u32 (rg (m j))) := by
  obtain ⟨cs, hs, hh, hc⟩ := h
  rw [cell_of_row w B j cs _ _ hh, hc j hj]

theorem LinSoFar.step {w : World} {B k : Nat} {m : Nat → BitVec 32} (h : LinSoFar w B k m) (hk : k < 32) : LinSoFar (w.setCell ⟨B, k, none⟩ (.int .u32 (rg (m k)))) B (k + 1) m := by
  obtain ⟨cs, hs, hh, hc⟩ := h
  refine ⟨_, ?_, heap_setCell_same w B k cs _ _ hh, ?_⟩
  · simp [hs]
  · intro j hj
    by_cases e : j = k
    · subst e
      simp [hs, hk]
    · rw [Array.getElem?_setIfInBounds_ne (by omega)]
      exact hc j (by omega)

theorem LinSoFar.other {w : World} {B k : Nat} {m : Nat → BitVec 32} (h : LinSoFar w B k m) {w' : World} (hb : w'.heap[B]? = w.heap[B]?) : LinSoFar w' B k m := by
  obtain ⟨cs, hs, hh, hc⟩ := h
  exact ⟨cs, hs, hb.trans hh, hc⟩

theorem LinSoFar.drew {w : World} {B k n : Nat} {m : Nat → BitVec 32} (h : LinSoFar w B k m) : LinSoFar (w.drewN n) B k m := h.other rfl

def linRow (m : Nat → BitVec 32) : Array Value := Array.ofFn (n := 32) fun i => .int .u32 (rg (m i.1))
theorem linRow_size (m : Nat → BitVec 32) : (linRow m).size = 32 := by simp [linRow]
theorem linRow_at (m : Nat → BitVec 32) (j : Nat) (h : j < 32) : (linRow m)[j]? = some (.int .u32 (rg (m j))) := by simp [linRow, h]
theorem linRow_one (m : Nat → BitVec 32) : (linRow m).all (·.oneCell') = true := by
  rw [Array.all_eq_true_iff_forall_mem]
  intro x hx
  simp only [linRow, Array.mem_ofFn] at hx
  obtain ⟨i, rfl⟩ := hx
  rfl

theorem LinSoFar.row {w : World} {B : Nat} {m : Nat → BitVec 32} (h : LinSoFar w B 32 m) : w.heap[B]? = some (.cells (linRow m) 63 (0, 0)) := by
  obtain ⟨cs, hs, hh, hc⟩ := h
  have : cs = linRow m := by
    apply Array.ext_getElem?
    intro i
    by_cases hi : i < 32
    · rw [hc i hi, linRow_at m i hi]
    · rw [Array.getElem?_eq_none (by omega), Array.getElem?_eq_none (by rw [linRow_size]; omega)]
  rw [hh, this]

theorem LinSoFar.of_row {w : World} {B : Nat} {m : Nat → BitVec 32} (h : w.heap[B]? = some (.cells (linRow m) 63 (0, 0))) : LinSoFar w B 32 m :=
  ⟨linRow m, linRow_size m, h, fun i hi => linRow_at m i hi⟩

theorem LinSoFar.lt {w : World} {B k : Nat} {m : Nat → BitVec 32} (h : LinSoFar w B k m) : B < w.heap.size := by
  obtain ⟨cs, hs, hh, hc⟩ := h
  exact (Array.getElem?_eq_some_iff.1 hh).1

set_option maxRecDepth 100000 in
set_option maxHeartbeats 400000 in
theorem apply_any (m : Nat → BitVec 32) (B : Nat) (r : BitVec 32) (w : World) (h : LinAt w B m) :
    Calls Try.prog 39 #[.pointer (some ⟨B, 0, none⟩), .int .u32 (rg r)] w fun e w' => e = .returned (.int .u32 (rg (app m r 32))) ∧ ∃ n, w' = w.drewN n := by
  have H0 := Lib.hid h
  clear h
  go_enter Try.func39, Try.ntmps39
  go_wp2
  go_loopw [7, 5] (fun i s wr => ∃ k n : Nat, k ≤ 32 ∧ i = .int .i64 k ∧ s = .int .u32 (rg (app m r k)) ∧ wr = w.drewN n) (fun i _ _ => 32 - (intOf i).toNat)
  case atStart => exact ⟨0, 0, by omega, rfl, rfl, rfl⟩
  case round =>
    obtain ⟨k, n, hk, rfl, rfl, rfl⟩ := hrel
    by_cases hlt : k < 32
    · have hcell := H0.out.at k hlt
      have H3 : Hid (rg (app m r k ^^^ (m k &&& -((r >>> k) &&& 1#32))) = rg (app m r (k + 1))) := Lib.hid rfl
      generalize app m r k = s at *
      generalize m k = y at *
      go_wp2
      go_quiet (fail)
      go_wp2
      go_roundw
      case rel => exact ⟨k + 1, n + nq, by omega, by go_num, by rw [app_walk, H3.out], rfl⟩
      case measure => simp [intOf]; omega
    · obtain rfl : k = 32 := by omega
      go_wp2
      go_ret
      exact ⟨rfl, n, rfl⟩
theorem and_one_i64 (m : Int) (h0 : 0 ≤ m) (h1 : m ≤ 9223372036854775807) : bits .and .i64 m 1 = m % 2 := by
  obtain ⟨k, rfl⟩ := Int.eq_ofNat_of_zero_le h0
  show IntKind.i64.wrap ((BitVec.ofInt 64 (k : Int) &&& BitVec.ofInt 64 1).toNat : Int) = _
  rw [BitVec.toNat_and, BitVec.ofInt_natCast, BitVec.toNat_ofNat, Nat.mod_eq_of_lt (by omega)]
  have e : (BitVec.ofInt 64 1).toNat = 1 := rfl
  rw [e, Nat.and_one_is_mod, IntKind.wrap_i64]
  omega

theorem and_one_odd (m : Int) (h0 : 0 < m) (h1 : m ≤ 9223372036854775807) (h : m % 2 = 1) : (bits .and .i64 m 1 == 1) = true := by
  rw [and_one_i64 m (by omega) h1, h]
  rfl

theorem and_one_even (m : Int) (h0 : 0 < m) (h1 : m ≤ 9223372036854775807) (h : ¬ m % 2 = 1) : (bits .and .i64 m 1 == 1) = false := by
  rw [and_one_i64 m (by omega) h1]
  simpa using h

theorem zeroLin (w : World) : (zeroValue 63).run Try.prog w = .ok (.agg (zcells 32)) w := by kernel_rfl
theorem sizeLin : (Try.prog.info? 63).map (·.size) = some 32 := by kernel_rfl

set_option maxRecDepth 100000 in
set_option maxHeartbeats 1000000 in
theorem zeros_any (c : BitVec 32) (n : Int) (hn1 : -9223372036854775808 ≤ n) (hn2 : n ≤ 9223372036854775807) (w : World) :
    Calls Try.prog 21 #[.int .u32 (rg c), .int .i64 n] w fun e w' => e = .returned (.int .u32 (rg (zerosB c n.toNat))) ∧ Below w.heap.size w w' := by
  go_enter Try.func21, Try.ntmps21
  go_wp2_with fail
  refine (table_any _).mono ?_
  rintro e w1 ⟨rfl, hb1⟩
  have H1 := Lib.hid hb1
  clear hb1
  have hh := Lib.hid (heap_alloc_new w1 (.cells (zcells 256) 58))
  go_wp2_with (first | refine wpList_alloc_row rfl 58 rfl (zcells 256) (zeroTab _) ?_ | refine wpList_alloc_row rfl 63 rfl (zcells 32) (zeroLin _) ?_ | refine wpList_store_row rfl 58 _ _ rfl w1.heap.size tabRow rfl rfl 58 (zcells 256) hh.out (by rw [tabRow_size]; exact sizeTab) (by rw [tabRow_size, zcells_size]) tabRow_one ?_)
  have K1 : Hid ((((w1.alloc (Obj.cells (zcells 256) 58)).setRow w1.heap.size tabRow).alloc (Obj.cells (zcells 32) 63)).heap[w1.heap.size]? = some (.cells tabRow 58 (0, 0))) :=
    (heap_alloc_old _ _ (by simp)).trans (setRow_heap _ w1.heap.size (zcells 256) tabRow _ _ hh.out)
  have K2 : Hid (Below w.heap.size w (((w1.alloc (Obj.cells (zcells 256) 58)).setRow w1.heap.size tabRow).alloc (Obj.cells (zcells 32) 63))) :=
    ((H1.out.alloc H1.out.size _).trans ⟨rfl, rfl, rfl, by simp, fun j hj => setRow_other _ w1.heap.size j tabRow (by have := H1.out.size; omega)⟩ : Below w.heap.size w ((w1.alloc (Obj.cells (zcells 256) 58)).setRow w1.heap.size tabRow)).alloc (by have := H1.out.size; simp; omega) _
  have K3 : Hid (LinSoFar (((w1.alloc (Obj.cells (zcells 256) 58)).setRow w1.heap.size tabRow).alloc (Obj.cells (zcells 32) 63)) (w1.heap.size + 1) 0 fun i => f8 (1#32 <<< i)) := by
    refine ⟨zcells 32, zcells_size 32, ?_, fun i hi => by omega⟩
    have := heap_alloc_new ((w1.alloc (Obj.cells (zcells 256) 58)).setRow w1.heap.size tabRow) (Obj.cells (zcells 32) 63)
    simpa using this
  have K4 := H1.out.size
  generalize ((w1.alloc (Obj.cells (zcells 256) 58)).setRow w1.heap.size tabRow).alloc (Obj.cells (zcells 32) 63) = w2 at *
  clear hh H1
  generalize w1.heap.size = T0 at *
  go_loopw [14] (fun i wr => ∃ k : Nat, k ≤ 32 ∧ i = .int .i64 k ∧ LinSoFar wr (T0 + 1) k (fun i => f8 (1#32 <<< i)) ∧ wr.heap[T0]? = some (.cells tabRow 58 (0, 0)) ∧ Below w.heap.size w wr) (fun i _ => 32 - (intOf i).toNat)
  case atStart => exact ⟨0, by omega, rfl, K3.out, K1.out, K2.out⟩
  case round =>
    clear K1 K2 K3
    obtain ⟨k, hk, rfl, hl, ht, hb⟩ := hrel
    have H2 := Lib.hid hl
    have H3 := Lib.hid ht
    have H4 := Lib.hid hb
    clear hl ht hb
    by_cases hlt : k < 32
    · obtain ⟨⟨v, hv⟩, hf⟩ := H2.out.cell k hlt
      have htab : wr.cell? ⟨T0, ((2 : Int) ^ k % 256).toNat, none⟩ = some (.int .u32 (rg (f8 (zx (lo8 (1#32 <<< k)))))) := by
        rw [lo8_bit k hlt, cell_of_row wr T0 _ tabRow _ _ H3.out, tabRow_byte]
      have H5 := Lib.hid (first_walk k hlt)
      generalize f8 (zx (lo8 (1#32 <<< k))) = y at *
      go_wp2
      go_roundw
      case rel => exact ⟨k + 1, by omega, by go_num, by rw [H5.out]; exact H2.out.step hlt, (heap_setCell_other _ _ _ _ (by simp)).trans H3.out, H4.out.setCell (p := ⟨T0 + 1, k, none⟩) (by simp; omega) _⟩
      case measure => simp [intOf]; omega
    · obtain rfl : k = 32 := by omega
      clear hlt
      go_wp2
      rw [u32_not]
      have H5 := H2.out.lt
      clear H3
      go_loopw [1, 10] (fun i r wq => ∃ (m : Int) (s : BitVec 32) (q : Nat), m ≤ 9223372036854775807 ∧ -9223372036854775808 ≤ m ∧ i = .int .i64 m ∧ r = .int .u32 (rg s) ∧ it f8 (m.toNat * q) s = it f8 n.toNat (~~~ c) ∧ LinAt wq (T0 + 1) (fun i => it f8 q (1#32 <<< i)) ∧ Below w.heap.size w wq) (fun i _ _ => (intOf i).toNat)
      case atStart => exact ⟨n, _, 1, hn2, hn1, rfl, rfl, by rw [Nat.mul_one], H2.out, H4.out⟩
      case round =>
        clear H2 H4
        obtain ⟨m, s, q, hm1, hm2, rfl, rfl, hs, hl, hb⟩ := hrel
        have H6 := Lib.hid hs
        have H7 := Lib.hid hl
        have H8 := Lib.hid hb
        clear hs hl hb
        by_cases hpos : 0 < m
        · by_cases hodd : m % 2 = 1
          · have ht := and_one_odd m hpos hm1 hodd
            go_wp2_with fail
            refine (apply_any _ _ s _ H7.out).mono ?_
            rintro e w4 ⟨rfl, j, rfl⟩
            rw [app_all (it_lin f8_lin q)]
            have H9 : Hid (it f8 ((m / 2).toNat * (q + q)) (it f8 q s) = it f8 n.toNat (~~~ c)) := by
              rw [← H6.out, ← it_add]
              congr 1
              have : m.toNat = 2 * (m / 2).toNat + 1 := by omega
              rw [this, Nat.add_mul, Nat.mul_add, Nat.mul_assoc]
              omega
            have H10 := Lib.hid (LinSoFar.drew (n := j) H7.out)
            have H11 := Lib.hid (below_drewN H8.out j)
            clear H6 H7 H8 ht
            generalize it f8 q s = s' at *
            generalize wr.drewN j = w5 at *
            have H12 := Lib.hid (heap_alloc_new w5 (.cells (zcells 32) 63))
            have H13 := H11.out.size
            have H14 := H10.out.lt
            go_wp2_with (refine wpList_alloc_row rfl 63 rfl (zcells 32) (zeroLin _) ?_)
            obtain ⟨D, hD⟩ : ∃ D, D = w5.heap.size := ⟨_, rfl⟩
            rw [← hD]
            have HD := Lib.hid hD
            clear hD
            go_loopw [41] (fun i wq => ∃ k : Nat, k ≤ 32 ∧ i = .int .i64 k ∧ LinSoFar wq D k (fun i => it f8 (q + q) (1#32 <<< i)) ∧ LinAt wq (T0 + 1) (fun i => it f8 q (1#32 <<< i)) ∧ Below w.heap.size w wq) (fun i _ => 32 - (intOf i).toNat)
            case atStart => exact ⟨0, by omega, rfl, ⟨zcells 32, zcells_size 32, by rw [HD.out]; exact H12.out, fun i hi => by omega⟩, H10.out.other (heap_alloc_old _ _ H14), H11.out.alloc H13 _⟩
            case round =>
              clear H10 H11 H12
              obtain ⟨k, hk, rfl, hl1, hl2, hb⟩ := hrel
              have H15 := Lib.hid hl1
              have H16 := Lib.hid hl2
              have H17 := Lib.hid hb
              clear hl1 hl2 hb
              have HW : w.heap.size ≤ D := by rw [HD.out]; exact H13
              by_cases hlt : k < 32
              · have hcell := H16.out.at k hlt
                obtain ⟨⟨v, hv⟩, hf⟩ := H15.out.cell k hlt
                go_wp2_with fail
                refine (apply_any _ _ _ _ H16.out).mono ?_
                rintro e w6 ⟨rfl, j2, rfl⟩
                rw [app_all (it_lin f8_lin q), ← it_add]
                go_wp2
                go_roundw
                case rel =>
                  have S1 := LinSoFar.step (LinSoFar.drew (n := j2) H15.out) hlt
                  have S2 := LinSoFar.other (w' := (wr.drewN j2).setCell ⟨D, k, none⟩ (.int .u32 (rg (it f8 (q + q) (1#32 <<< k))))) (LinSoFar.drew (n := j2) H16.out) (heap_setCell_other _ _ _ _ (by have := HD.out; simp; omega))
                  have S3 := (below_drewN H17.out j2).setCell (p := ⟨D, k, none⟩) HW (.int .u32 (rg (it f8 (q + q) (1#32 <<< k))))
                  exact ⟨k + 1, by omega, by go_num, S1, S2, S3⟩
                case measure => simp [intOf]; omega
              · obtain rfl : k = 32 := by omega
                clear hlt
                have H18 := Lib.hid H15.out.row
                have H19 := Lib.hid H16.out.row
                have H20 := Lib.hid (setRow_heap _ (T0 + 1) _ (linRow (fun i => it f8 (q + q) (1#32 <<< i))) _ _ H19.out)
                generalize hR : linRow (fun i => it f8 (q + q) (1#32 <<< i)) = R at *
                have H21 : R.size = 32 ∧ (R.all (·.oneCell') = true) := by rw [← hR]; exact ⟨linRow_size _, linRow_one _⟩
                have H22 := Lib.hid H21.1
                have H23 := Lib.hid H21.2
                have H24 := Lib.hid hR
                clear H21 hR
                go_wp2_with (first | refine wpList_load_row rfl 63 _ rfl D rfl 63 R (0, 0) _ H18.out Try.underlying63 rfl (by rw [H22.out]; exact sizeLin) ?_ | refine wpList_store_row rfl 63 _ _ rfl (T0 + 1) R rfl rfl 63 _ H19.out (by rw [H22.out]; exact sizeLin) (by rw [H22.out]; exact linRow_size _) H23.out ?_)
                refine ⟨⟨m / 2, s', q + q, by omega, by omega, rfl, rfl, H9.out, ?_, ?_⟩, ?_⟩
                · exact ⟨R, H22.out, H20.out, fun i hi => by rw [← H24.out]; exact linRow_at _ i hi⟩
                · exact H17.out.trans ⟨rfl, rfl, rfl, by simp, fun j hj => setRow_other _ (T0 + 1) j _ (by omega)⟩
                · simp [intOf]; omega
          · have ht := and_one_even m hpos hm1 hodd
            have H9 : Hid (it f8 ((m / 2).toNat * (q + q)) s = it f8 n.toNat (~~~ c)) := by
              rw [← H6.out]
              congr 1
              have : m.toNat = 2 * (m / 2).toNat := by omega
              rw [this, Nat.mul_add, Nat.mul_assoc]
              omega
            have H10 := Lib.hid H7.out
            have H11 := Lib.hid H8.out
            clear H6 H7 H8
            generalize hs' : s = s' at *
            generalize hw5 : wr = w5 at *
            clear hs' hw5
            have H12 := Lib.hid (heap_alloc_new w5 (.cells (zcells 32) 63))
            have H13 := H11.out.size
            have H14 := H10.out.lt
            go_wp2_with (refine wpList_alloc_row rfl 63 rfl (zcells 32) (zeroLin _) ?_)
            obtain ⟨D, hD⟩ : ∃ D, D = w5.heap.size := ⟨_, rfl⟩
            rw [← hD]
            have HD := Lib.hid hD
            clear hD
            go_loopw [41] (fun i wq => ∃ k : Nat, k ≤ 32 ∧ i = .int .i64 k ∧ LinSoFar wq D k (fun i => it f8 (q + q) (1#32 <<< i)) ∧ LinAt wq (T0 + 1) (fun i => it f8 q (1#32 <<< i)) ∧ Below w.heap.size w wq) (fun i _ => 32 - (intOf i).toNat)
            case atStart => exact ⟨0, by omega, rfl, ⟨zcells 32, zcells_size 32, by rw [HD.out]; exact H12.out, fun i hi => by omega⟩, H10.out.other (heap_alloc_old _ _ H14), H11.out.alloc H13 _⟩
            case round =>
              clear H10 H11 H12
              obtain ⟨k, hk, rfl, hl1, hl2, hb⟩ := hrel
              have H15 := Lib.hid hl1
              have H16 := Lib.hid hl2
              have H17 := Lib.hid hb
              clear hl1 hl2 hb
              have HW : w.heap.size ≤ D := by rw [HD.out]; exact H13
              by_cases hlt : k < 32
              · have hcell := H16.out.at k hlt
                obtain ⟨⟨v, hv⟩, hf⟩ := H15.out.cell k hlt
                go_wp2_with fail
                refine (apply_any _ _ _ _ H16.out).mono ?_
                rintro e w6 ⟨rfl, j2, rfl⟩
                rw [app_all (it_lin f8_lin q), ← it_add]
                go_wp2
                go_roundw
                case rel =>
                  have S1 := LinSoFar.step (LinSoFar.drew (n := j2) H15.out) hlt
                  have S2 := LinSoFar.other (w' := (wr.drewN j2).setCell ⟨D, k, none⟩ (.int .u32 (rg (it f8 (q + q) (1#32 <<< k))))) (LinSoFar.drew (n := j2) H16.out) (heap_setCell_other _ _ _ _ (by have := HD.out; simp; omega))
                  have S3 := (below_drewN H17.out j2).setCell (p := ⟨D, k, none⟩) HW (.int .u32 (rg (it f8 (q + q) (1#32 <<< k))))
                  exact ⟨k + 1, by omega, by go_num, S1, S2, S3⟩
                case measure => simp [intOf]; omega
              · obtain rfl : k = 32 := by omega
                clear hlt
                have H18 := Lib.hid H15.out.row
                have H19 := Lib.hid H16.out.row
                have H20 := Lib.hid (setRow_heap _ (T0 + 1) _ (linRow (fun i => it f8 (q + q) (1#32 <<< i))) _ _ H19.out)
                generalize hR : linRow (fun i => it f8 (q + q) (1#32 <<< i)) = R at *
                have H21 : R.size = 32 ∧ (R.all (·.oneCell') = true) := by rw [← hR]; exact ⟨linRow_size _, linRow_one _⟩
                have H22 := Lib.hid H21.1
                have H23 := Lib.hid H21.2
                have H24 := Lib.hid hR
                clear H21 hR
                go_wp2_with (first | refine wpList_load_row rfl 63 _ rfl D rfl 63 R (0, 0) _ H18.out Try.underlying63 rfl (by rw [H22.out]; exact sizeLin) ?_ | refine wpList_store_row rfl 63 _ _ rfl (T0 + 1) R rfl rfl 63 _ H19.out (by rw [H22.out]; exact sizeLin) (by rw [H22.out]; exact linRow_size _) H23.out ?_)
                refine ⟨⟨m / 2, s', q + q, by omega, by omega, rfl, rfl, H9.out, ?_, ?_⟩, ?_⟩
                · exact ⟨R, H22.out, H20.out, fun i hi => by rw [← H24.out]; exact linRow_at _ i hi⟩
                · exact H17.out.trans ⟨rfl, rfl, rfl, by simp, fun j hj => setRow_other _ (T0 + 1) j _ (by omega)⟩
                · simp [intOf]; omega
        · have hz : m.toNat = 0 := by omega
          have hE : Hid (s = it f8 n.toNat (~~~ c)) := by have := H6.out; rw [hz, Nat.zero_mul] at this; exact Lib.hid this
          clear hz H6
          go_wp2_with fail
          go_ret
          exact ⟨by rw [u32_not, hE.out]; rfl, H8.out⟩
end Go.Proofs.Ytiakaloabeendaa
