/- The walk of solventlaw03.CrcBursts: it returns true. -/
import Derived.Test.YtiakaloabeendaaSanity3
import Derived.Test.YtiakaloabeendaaOpen
import Derived.Test.YtiakaloabeendaaEqual4
namespace Go.Proofs.Ytiakaloabeendaa
open Go.RowKit

set_option maxRecDepth 100000 in
set_option maxHeartbeats 400000 in
theorem crcBursts_bad (l : List UInt8) (a : Option Addr) (cap : Nat) (at' : Int) (x0 x1 x2 x3 : UInt8) (w : World) (hlen : l.length ≤ 140737488351232) (hat : at' < 0 ∨ (l.length : Int) - 4 < at' ∨ allZ x0 x1 x2 x3 = true) :
    Calls Try.prog 8 #[.slice a l.length cap, .int .i64 at', .agg #[.int .u8 (x0.toNat : Int), .int .u8 (x1.toNat : Int), .int .u8 (x2.toNat : Int), .int .u8 (x3.toNat : Int)]] w fun e w' => e = .returned (.bool true) ∧ Below w.heap.size w w' := by
  by_cases h1 : at' < 0
  · clear hat
    go_enter Try.func8, Try.ntmps8
    go_wp2_with fail
    refine (sanity3_any _).mono ?_
    rintro e w1 ⟨rfl, hb⟩
    have H : Hid (Below w.heap.size w w1) := ((Below.refl _ _).alloc (Nat.le_refl _) _).trans (hb.mono (by simp))
    clear hb
    go_wp2_with fail
    go_ret
    exact ⟨rfl, H.out⟩
  · by_cases h2 : (l.length : Int) - 4 < at'
    · clear hat
      go_enter Try.func8, Try.ntmps8
      go_wp2_with fail
      refine (sanity3_any _).mono ?_
      rintro e w1 ⟨rfl, hb⟩
      have H : Hid (Below w.heap.size w w1) := ((Below.refl _ _).alloc (Nat.le_refl _) _).trans (hb.mono (by simp))
      clear hb
      go_wp2_with fail
      go_ret
      exact ⟨rfl, H.out⟩
    · have h3 := (hat.resolve_left h1).resolve_left h2
      have hE := fun w => run_equal4 w x0 x1 x2 x3
      clear hat
      go_enter Try.func8, Try.ntmps8
      go_wp2_with fail
      refine (sanity3_any _).mono ?_
      rintro e w1 ⟨rfl, hb⟩
      have H : Hid (Below w.heap.size w w1) := ((Below.refl _ _).alloc (Nat.le_refl _) _).trans (hb.mono (by simp))
      clear hb
      go_wp2_with fail
      go_ret
      exact ⟨rfl, H.out⟩

set_option maxRecDepth 100000 in
set_option maxHeartbeats 400000 in
theorem crcBursts_good (l : List UInt8) (a : Option Addr) (cap p : Nat) (x0 x1 x2 x3 : UInt8) (w : World) (hlen : l.length ≤ 140737488351232) (hby : BytesAt w a l) (ha : a = none → cap = 0 ∧ l = []) (hp : p + 4 ≤ l.length) (hne : allZ x0 x1 x2 x3 = false) :
    Calls Try.prog 8 #[.slice a l.length cap, .int .i64 p, .agg #[.int .u8 (x0.toNat : Int), .int .u8 (x1.toNat : Int), .int .u8 (x2.toNat : Int), .int .u8 (x3.toNat : Int)]] w fun e w' => e = .returned (.bool true) ∧ Below w.heap.size w w' := by
  have HY := Lib.hid hby
  have HA := Lib.hid ha
  clear hby ha
  have hE := fun w => run_equal4 w x0 x1 x2 x3
  have h0 : (0 : Int) ≤ (p : Int) := by omega
  have hp2 : ((p : Int) < 0) = False := by simp
  have hp3 : ¬ ((l.length : Int) - 4 < (p : Int)) := by omega
  have hpl : p + 4 ≤ l.length := hp
  clear hp
  go_enter Try.func8, Try.ntmps8
  go_wp2_with (at_builtin; refine wpList_append_b rfl _ _ rfl (w.heap.size + 1) (.slice none 0 0) (.slice a l.length cap) [] l rfl (OwnB.nil _ _) rfl ⟨a, cap, rfl, HA.out, HY.out.below ((Below.refl _ _).alloc (Nat.le_refl _) _)⟩ (by simp; omega) (by simp) ?_)
  intro v1 w1 hown hgrow
  obtain ⟨g, cap2, rfl, hg1, hg2⟩ := hown.form (by omega)
  have H1 := Lib.hid hown
  have B1 : Hid (Below w.heap.size w w1) := ((Below.refl _ _).alloc (Nat.le_refl _) _).grown hgrow (by simp) (fun k h => by cases h)
  have X1 : Hid (w1.heap[w.heap.size]? = some (.cells #[.int .u8 (x0.toNat : Int), .int .u8 (x1.toNat : Int), .int .u8 (x2.toNat : Int), .int .u8 (x3.toNat : Int)] 38 (0, 0))) :=
    Lib.hid ((hgrow.block w.heap.size (by simp) (fun h => by cases h)).trans (heap_alloc_new w _))
  clear hown hgrow
  go_wp2_with fail
  go_loopw [8] (fun i wr => ∃ k : Nat, k ≤ 4 ∧ i = .int .i64 k ∧ OwnB wr (w.heap.size + 1) (.slice (some ⟨g, 0, none⟩) l.length cap2) (curB l p [x0, x1, x2, x3] k) ∧ wr.heap[w.heap.size]? = some (.cells #[.int .u8 (x0.toNat : Int), .int .u8 (x1.toNat : Int), .int .u8 (x2.toNat : Int), .int .u8 (x3.toNat : Int)] 38 (0, 0)) ∧ Below w.heap.size w wr) (fun i _ => 4 - (intOf i).toNat)
  case atStart => exact ⟨0, by omega, rfl, H1.out, X1.out, B1.out⟩
  case round =>
    clear H1 X1 B1
    obtain ⟨k, hk, rfl, ho, hx, hb⟩ := hrel
    have H2 := Lib.hid ho
    have H3 := Lib.hid hx
    have H4 := Lib.hid hb
    clear ho hx hb
    have hcl := curB_length l p [x0, x1, x2, x3] k
    by_cases hlt : k < 4
    · obtain ⟨hc1, hf1⟩ := H2.out.cell (p + k) (by omega)
      have hx1 : wr.cell? ⟨w.heap.size, k, none⟩ = some (.int .u8 (([x0, x1, x2, x3].getD k 0).toNat : Int)) := by
        rw [cell_of_row wr w.heap.size k _ _ _ H3.out]
        match k, hlt with
        | 0, _ => rfl
        | 1, _ => rfl
        | 2, _ => rfl
        | 3, _ => rfl
      have H5 : Hid (curB l p [x0, x1, x2, x3] (k + 1) = (curB l p [x0, x1, x2, x3] k).set (p + k) ((curB l p [x0, x1, x2, x3] k).getD (p + k) 0 ^^^ [x0, x1, x2, x3].getD k 0)) := Lib.hid rfl
      have H6 := Lib.hid hcl
      clear hcl
      generalize curB l p [x0, x1, x2, x3] k = cur at *
      generalize [x0, x1, x2, x3].getD k 0 = y at *
      generalize cur.getD (p + k) 0 = z at *
      go_wp2_with fail
      go_region
      go_wp2
      go_roundw
      case rel =>
        rw [xor8_walk]
        have S1 := (H2.out.stored (p + k) (z ^^^ y)).drew
        rw [← H5.out] at S1
        exact ⟨k + 1, by omega, by go_num, S1, (heap_setCell_other _ _ _ _ (by simp; omega)).trans H3.out, (H4.out.setCell (p := ⟨g, p + k, none⟩) (by simp; omega) _).drew⟩
      case measure => simp [intOf]; omega
    · obtain rfl : k = 4 := by omega
      have H5 : Hid ((rg (crcB (curB l p [x0, x1, x2, x3] 4)) != rg (crcB l)) = true) := by
        refine Lib.hid ?_
        rw [bne_iff_ne]
        intro e
        have := burst_four l p x0 x1 x2 x3 hpl (u32_inj e)
        rw [(allZ_iff x0 x1 x2 x3).2 this] at hne
        cases hne
      have H6 := Lib.hid hcl
      clear hcl H3
      generalize curB l p [x0, x1, x2, x3] 4 = cur at *
      obtain ⟨a2, cap3, hv, _, hby⟩ := H2.out.slice
      rw [H6.out] at hv
      have H7 := Lib.hid hv
      have H8 := Lib.hid hby
      clear hv hby H2
      go_wp2_with fail
      refine (sanity3_any _).mono ?_
      rintro e w3 ⟨rfl, hb⟩
      have B3 : Hid (Below w.heap.size w w3) := H4.out.trans (hb.mono H4.out.size)
      have H9 := Lib.hid (H8.out.below hb)
      clear hb H4 H8
      go_wp2_with fail
      rw [H7.out]
      refine (of_n cur _ H6.out a2 cap3 _ H9.out).mono ?_
      rintro e w4 ⟨rfl, hb⟩
      have B4 : Hid (Below w.heap.size w w4) := B3.out.trans (hb.mono B3.out.size)
      clear hb B3 H9
      go_wp2_with fail
      refine (of_any l a cap _ (HY.out.below B4.out)).mono ?_
      rintro e w5 ⟨rfl, hb⟩
      have B5 : Hid (Below w.heap.size w w5) := B4.out.trans (hb.mono B4.out.size)
      clear hb B4
      generalize rg (crcB cur) = c1 at *
      generalize rg (crcB l) = c2 at *
      have hneq := H5.out
      go_wp2_with fail
      go_ret
      exact ⟨rfl, B5.out⟩

theorem crcBursts_walk (l : List UInt8) (v : Value) (at' : Int) (x0 x1 x2 x3 : UInt8) (w : World) (hlen : l.length ≤ 140737488351232) (hl : SliceB w v l) :
    Calls Try.prog 8 #[v, .int .i64 at', .agg #[.int .u8 (x0.toNat : Int), .int .u8 (x1.toNat : Int), .int .u8 (x2.toNat : Int), .int .u8 (x3.toNat : Int)]] w fun e w' => e = .returned (.bool true) ∧ Below w.heap.size w w' := by
  obtain ⟨a, cap, rfl, ha, hby⟩ := hl
  by_cases h : at' < 0 ∨ (l.length : Int) - 4 < at' ∨ allZ x0 x1 x2 x3 = true
  · exact crcBursts_bad l a cap at' x0 x1 x2 x3 w hlen h
  · obtain ⟨p, rfl⟩ := Int.eq_ofNat_of_zero_le (show 0 ≤ at' by omega)
    have h3 : allZ x0 x1 x2 x3 = false := by
      cases hz : allZ x0 x1 x2 x3
      · rfl
      · exact absurd (.inr (.inr hz)) h
    exact crcBursts_good l a cap p x0 x1 x2 x3 w hlen hby ha (by omega) h3
end Go.Proofs.Ytiakaloabeendaa
