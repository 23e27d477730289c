/- The walk of solventlaw03.CrcBits: it returns true. -/
import Derived.Test.YtiakaloabeendaaSanity3
import Derived.Test.YtiakaloabeendaaOpen
namespace Go.Proofs.Ytiakaloabeendaa
open Go.RowKit

def flip (l : List UInt8) (x : Nat) : List UInt8 := stepB l (x / 8) ((1 : UInt8) <<< (UInt8.ofNat (x % 8)))
theorem flip_length (l : List UInt8) (x : Nat) : (flip l x).length = l.length := stepB_length _ _ _

theorem feeds_flip (r : BitVec 32) (l : List UInt8) (x : Nat) (h : x < 8 * l.length) : feeds r (flip l x) = feeds r l ^^^ gb (8 * l.length - x) := by
  have := feeds_bit l (x / 8) (x % 8) r (by omega) (by omega)
  rw [show 8 * (x / 8) + x % 8 = x by omega] at this
  exact this

theorem crc_ne {l m : List UInt8} {d : BitVec 32} (h : ∀ r, feeds r m = feeds r l ^^^ d) (hd : d ≠ 0#32) : (rg (crcB m) != rg (crcB l)) = true := by
  rw [bne_iff_ne]
  intro e
  have e1 := u32_inj e
  unfold crcB extB at e1
  have e2 : feeds (~~~ 0#32) m = feeds (~~~ 0#32) l := by simpa using congrArg (fun x => ~~~ x) e1
  rw [h] at e2
  apply hd
  have := congrArg (fun x => feeds (~~~ 0#32) l ^^^ x) e2
  simpa [← BitVec.xor_assoc] using this

theorem flip_one (l : List UInt8) (x : Nat) (h : x < 8 * l.length) : (rg (crcB (flip l x)) != rg (crcB l)) = true :=
  crc_ne (fun r => feeds_flip r l x h) (gb_ne _)

theorem flip_two (l : List UInt8) (x y : Nat) (hx : x < 8 * l.length) (hy : y < 8 * l.length) (hl : l.length ≤ 64) (hne : ¬ y = x) : (rg (crcB (flip (flip l x) y)) != rg (crcB l)) = true :=
  crc_ne (d := gb (8 * l.length - x) ^^^ gb (8 * l.length - y)) (fun r => by rw [feeds_flip _ _ _ (by rw [flip_length]; exact hy), feeds_flip _ _ _ hx, flip_length, BitVec.xor_assoc]) (gb_two (by omega) (by omega) (by omega))

theorem flip_three (l : List UInt8) (x y z : Nat) (hx : x < 8 * l.length) (hy : y < 8 * l.length) (hz : z < 8 * l.length) : (rg (crcB (flip (flip (flip l x) y) z)) != rg (crcB l)) = true :=
  crc_ne (d := gb (8 * l.length - x) ^^^ gb (8 * l.length - y) ^^^ gb (8 * l.length - z))
    (fun r => by rw [feeds_flip _ _ _ (by rw [flip_length, flip_length]; exact hz), feeds_flip _ _ _ (by rw [flip_length]; exact hy), feeds_flip _ _ _ hx]; simp only [flip_length, BitVec.xor_assoc]) (gb_three _ _ _)

theorem bit8 : ∀ j : Fin 8, ((2 : Int) ^ j.1 % 256) = (((1 : UInt8) <<< (UInt8.ofNat j.1)).toNat : Int) := by decide +kernel
theorem flip_walk (z : UInt8) (k : Nat) (h : k < 8) : bits .xor .u8 (z.toNat : Int) ((2 : Int) ^ k % 256) = ((z ^^^ ((1 : UInt8) <<< (UInt8.ofNat k))).toNat : Int) := by
  rw [bit8 ⟨k, h⟩, xor8_walk]

set_option maxRecDepth 100000 in
set_option maxHeartbeats 400000 in
theorem crcBits_bad0 (l : List UInt8) (a : Option Addr) (cap : Nat) (x y z : Int) (w : World) (_hm : l.length ≤ 9223372036854775807) (h0 : 64 < (l.length : Int)) :
    Calls Try.prog 10 #[.slice a l.length cap, .int .i64 x, .int .i64 y, .int .i64 z] w fun e w' => e = .returned (.bool true) ∧ Below w.heap.size w w' := by
  go_enter Try.func10, Try.ntmps10
  go_wp2_with fail
  refine (sanity3_any _).mono ?_
  rintro e w1 ⟨rfl, hb⟩
  have H := Lib.hid hb
  clear hb
  go_wp2_with fail
  go_ret
  exact ⟨rfl, H.out⟩

set_option maxRecDepth 100000 in
set_option maxHeartbeats 400000 in
theorem crcBits_bad1 (l : List UInt8) (a : Option Addr) (cap : Nat) (x y z : Int) (w : World) (_hm : l.length ≤ 9223372036854775807) (h0 : ¬ 64 < (l.length : Int)) (h1 : x < 0) :
    Calls Try.prog 10 #[.slice a l.length cap, .int .i64 x, .int .i64 y, .int .i64 z] w fun e w' => e = .returned (.bool true) ∧ Below w.heap.size w w' := by
  go_enter Try.func10, Try.ntmps10
  go_wp2_with fail
  refine (sanity3_any _).mono ?_
  rintro e w1 ⟨rfl, hb⟩
  have H := Lib.hid hb
  clear hb
  go_wp2_with fail
  go_ret
  exact ⟨rfl, H.out⟩

set_option maxRecDepth 100000 in
set_option maxHeartbeats 400000 in
theorem crcBits_bad2 (l : List UInt8) (a : Option Addr) (cap : Nat) (x y z : Int) (w : World) (_hm : l.length ≤ 9223372036854775807) (h0 : ¬ 64 < (l.length : Int)) (h1 : ¬ x < 0) (h2 : y < 0) :
    Calls Try.prog 10 #[.slice a l.length cap, .int .i64 x, .int .i64 y, .int .i64 z] w fun e w' => e = .returned (.bool true) ∧ Below w.heap.size w w' := by
  go_enter Try.func10, Try.ntmps10
  go_wp2_with fail
  refine (sanity3_any _).mono ?_
  rintro e w1 ⟨rfl, hb⟩
  have H := Lib.hid hb
  clear hb
  go_wp2_with fail
  go_ret
  exact ⟨rfl, H.out⟩

set_option maxRecDepth 100000 in
set_option maxHeartbeats 400000 in
theorem crcBits_bad3 (l : List UInt8) (a : Option Addr) (cap : Nat) (x y z : Int) (w : World) (_hm : l.length ≤ 9223372036854775807) (h0 : ¬ 64 < (l.length : Int)) (h1 : ¬ x < 0) (h2 : ¬ y < 0) (h3 : z < 0) :
    Calls Try.prog 10 #[.slice a l.length cap, .int .i64 x, .int .i64 y, .int .i64 z] w fun e w' => e = .returned (.bool true) ∧ Below w.heap.size w w' := by
  go_enter Try.func10, Try.ntmps10
  go_wp2_with fail
  refine (sanity3_any _).mono ?_
  rintro e w1 ⟨rfl, hb⟩
  have H := Lib.hid hb
  clear hb
  go_wp2_with fail
  go_ret
  exact ⟨rfl, H.out⟩

set_option maxRecDepth 100000 in
set_option maxHeartbeats 400000 in
theorem crcBits_bad4 (l : List UInt8) (a : Option Addr) (cap : Nat) (x y z : Int) (w : World) (_hm : l.length ≤ 9223372036854775807) (h0 : ¬ 64 < (l.length : Int)) (h1 : ¬ x < 0) (h2 : ¬ y < 0) (h3 : ¬ z < 0) (h4 : 8 * (l.length : Int) ≤ x) :
    Calls Try.prog 10 #[.slice a l.length cap, .int .i64 x, .int .i64 y, .int .i64 z] w fun e w' => e = .returned (.bool true) ∧ Below w.heap.size w w' := by
  go_enter Try.func10, Try.ntmps10
  go_wp2_with fail
  refine (sanity3_any _).mono ?_
  rintro e w1 ⟨rfl, hb⟩
  have H := Lib.hid hb
  clear hb
  go_wp2_with fail
  go_ret
  exact ⟨rfl, H.out⟩

set_option maxRecDepth 100000 in
set_option maxHeartbeats 400000 in
theorem crcBits_bad5 (l : List UInt8) (a : Option Addr) (cap : Nat) (x y z : Int) (w : World) (_hm : l.length ≤ 9223372036854775807) (h0 : ¬ 64 < (l.length : Int)) (h1 : ¬ x < 0) (h2 : ¬ y < 0) (h3 : ¬ z < 0) (h4 : ¬ 8 * (l.length : Int) ≤ x) (h5 : 8 * (l.length : Int) ≤ y) :
    Calls Try.prog 10 #[.slice a l.length cap, .int .i64 x, .int .i64 y, .int .i64 z] w fun e w' => e = .returned (.bool true) ∧ Below w.heap.size w w' := by
  go_enter Try.func10, Try.ntmps10
  go_wp2_with fail
  refine (sanity3_any _).mono ?_
  rintro e w1 ⟨rfl, hb⟩
  have H := Lib.hid hb
  clear hb
  go_wp2_with fail
  go_ret
  exact ⟨rfl, H.out⟩

set_option maxRecDepth 100000 in
set_option maxHeartbeats 400000 in
theorem crcBits_bad6 (l : List UInt8) (a : Option Addr) (cap : Nat) (x y z : Int) (w : World) (_hm : l.length ≤ 9223372036854775807) (h0 : ¬ 64 < (l.length : Int)) (h1 : ¬ x < 0) (h2 : ¬ y < 0) (h3 : ¬ z < 0) (h4 : ¬ 8 * (l.length : Int) ≤ x) (h5 : ¬ 8 * (l.length : Int) ≤ y) (h6 : 8 * (l.length : Int) ≤ z) :
    Calls Try.prog 10 #[.slice a l.length cap, .int .i64 x, .int .i64 y, .int .i64 z] w fun e w' => e = .returned (.bool true) ∧ Below w.heap.size w w' := by
  go_enter Try.func10, Try.ntmps10
  go_wp2_with fail
  refine (sanity3_any _).mono ?_
  rintro e w1 ⟨rfl, hb⟩
  have H := Lib.hid hb
  clear hb
  go_wp2_with fail
  go_ret
  exact ⟨rfl, H.out⟩

set_option maxRecDepth 100000 in
set_option maxHeartbeats 1000000 in
theorem crcBits_one (l : List UInt8) (a : Option Addr) (cap x : Nat) (w : World) (hlen : l.length ≤ 64) (hby : BytesAt w a l) (ha : a = none → cap = 0 ∧ l = []) (hx : x < 8 * l.length)  :
    Calls Try.prog 10 #[.slice a l.length cap, .int .i64 x, .int .i64 x, .int .i64 x] w fun e w' => e = .returned (.bool true) ∧ Below w.heap.size w w' := by
  have HY := Lib.hid hby
  have HA := Lib.hid ha
  clear hby ha
  have HF := Lib.hid (flip_one l x hx)
  have g1 : ¬ (64 < (l.length : Int)) := by omega
  have g2x : (x : Int) < 8 * (l.length : Int) := by omega
  have g3x : ¬ ((x : Int) < 0) := by omega
  go_enter Try.func10, Try.ntmps10
  go_wp2_with (at_builtin; refine wpList_append_b rfl _ _ rfl w.heap.size (.slice none 0 0) (.slice a l.length cap) [] l rfl (OwnB.nil _ _) rfl ⟨a, cap, rfl, HA.out, HY.out⟩ (by simp; omega) (Nat.le_refl _) ?_)
  intro v1 w1 hown hgrow
  obtain ⟨g, cap2, rfl, hg1, hg2⟩ := hown.form (by omega)
  have B1 : Hid (Below w.heap.size w w1) := (Below.refl _ _).grown hgrow (Nat.le_refl _) (fun k h => by cases h)
  have H1 := Lib.hid hown
  clear hown hgrow
  obtain ⟨hc0, hf0⟩ := H1.out.cell (x / 8) (by omega)
  have S0 : Hid (l.set (x / 8) (l.getD (x / 8) 0 ^^^ ((1 : UInt8) <<< (UInt8.ofNat (x % 8)))) = flip l x) := Lib.hid rfl
  generalize l.getD (x / 8) 0 = b0 at *
  go_wp2_with fail
  go_region
  rw [flip_walk b0 (x % 8) (by omega)]
  have T0 := (H1.out.stored (x / 8) (b0 ^^^ ((1 : UInt8) <<< (UInt8.ofNat (x % 8))))).drew
  rw [S0.out] at T0
  have H2 := Lib.hid T0
  have B2 : Hid (Below w.heap.size w (w1.setCell ⟨g, x / 8, none⟩ (.int .u8 ((b0 ^^^ ((1 : UInt8) <<< (UInt8.ofNat (x % 8)))).toNat : Int))).drew) := (B1.out.setCell (p := ⟨g, x / 8, none⟩) hg1 _).drew
  have L2 : Hid ((flip l x).length = l.length) := Lib.hid (flip_length _ _)
  generalize (w1.setCell ⟨g, x / 8, none⟩ (.int .u8 ((b0 ^^^ ((1 : UInt8) <<< (UInt8.ofNat (x % 8)))).toNat : Int))).drew = w2 at *
  generalize flip l x = m0 at *
  clear T0 S0 H1 hc0 hf0 B1
  obtain ⟨a2, cap3, hv, _, hby⟩ := H2.out.slice
  rw [L2.out] at hv
  have H7 := Lib.hid hv
  have H8 := Lib.hid hby
  clear hv hby H2
  go_wp2_with fail
  refine (sanity3_any _).mono ?_
  rintro e u3 ⟨rfl, hb⟩
  have C3 : Hid (Below w.heap.size w u3) := B2.out.trans (hb.mono B2.out.size)
  have H9 := Lib.hid (H8.out.below hb)
  clear hb B2 H8
  go_wp2_with fail
  rw [H7.out]
  refine (of_n m0 _ L2.out a2 cap3 _ H9.out).mono ?_
  rintro e u4 ⟨rfl, hb⟩
  have C4 : Hid (Below w.heap.size w u4) := C3.out.trans (hb.mono C3.out.size)
  clear hb C3 H9
  go_wp2_with fail
  refine (of_any l a cap _ (HY.out.below C4.out)).mono ?_
  rintro e u5 ⟨rfl, hb⟩
  have C5 : Hid (Below w.heap.size w u5) := C4.out.trans (hb.mono C4.out.size)
  clear hb C4
  generalize rg (crcB m0) = c1 at *
  generalize rg (crcB l) = c2 at *
  have hneq := HF.out
  go_wp2_with fail
  go_ret
  exact ⟨rfl, C5.out⟩

set_option maxRecDepth 100000 in
set_option maxHeartbeats 1000000 in
theorem crcBits_two1 (l : List UInt8) (a : Option Addr) (cap x z : Nat) (w : World) (hlen : l.length ≤ 64) (hby : BytesAt w a l) (ha : a = none → cap = 0 ∧ l = []) (hx : x < 8 * l.length) (hz : z < 8 * l.length) (hzx : ¬ z = x) :
    Calls Try.prog 10 #[.slice a l.length cap, .int .i64 x, .int .i64 x, .int .i64 z] w fun e w' => e = .returned (.bool true) ∧ Below w.heap.size w w' := by
  have HY := Lib.hid hby
  have HA := Lib.hid ha
  clear hby ha
  have HF := Lib.hid (flip_two l x z hx hz hlen hzx)
  have g1 : ¬ (64 < (l.length : Int)) := by omega
  have g2x : (x : Int) < 8 * (l.length : Int) := by omega
  have g3x : ¬ ((x : Int) < 0) := by omega
  have g2z : (z : Int) < 8 * (l.length : Int) := by omega
  have g3z : ¬ ((z : Int) < 0) := by omega
  have khzx : (((z : Int) == (x : Int)) = false) ∧ (((z : Int) != (x : Int)) = true) := ⟨by rw [beq_eq_false_iff_ne]; omega, by rw [bne_iff_ne]; omega⟩
  obtain ⟨khzx1, khzx2⟩ := khzx
  go_enter Try.func10, Try.ntmps10
  go_wp2_with (at_builtin; refine wpList_append_b rfl _ _ rfl w.heap.size (.slice none 0 0) (.slice a l.length cap) [] l rfl (OwnB.nil _ _) rfl ⟨a, cap, rfl, HA.out, HY.out⟩ (by simp; omega) (Nat.le_refl _) ?_)
  intro v1 w1 hown hgrow
  obtain ⟨g, cap2, rfl, hg1, hg2⟩ := hown.form (by omega)
  have B1 : Hid (Below w.heap.size w w1) := (Below.refl _ _).grown hgrow (Nat.le_refl _) (fun k h => by cases h)
  have H1 := Lib.hid hown
  clear hown hgrow
  obtain ⟨hc0, hf0⟩ := H1.out.cell (x / 8) (by omega)
  have S0 : Hid (l.set (x / 8) (l.getD (x / 8) 0 ^^^ ((1 : UInt8) <<< (UInt8.ofNat (x % 8)))) = flip l x) := Lib.hid rfl
  generalize l.getD (x / 8) 0 = b0 at *
  go_wp2_with fail
  go_region
  rw [flip_walk b0 (x % 8) (by omega)]
  have T0 := (H1.out.stored (x / 8) (b0 ^^^ ((1 : UInt8) <<< (UInt8.ofNat (x % 8))))).drew
  rw [S0.out] at T0
  have H2 := Lib.hid T0
  have B2 : Hid (Below w.heap.size w (w1.setCell ⟨g, x / 8, none⟩ (.int .u8 ((b0 ^^^ ((1 : UInt8) <<< (UInt8.ofNat (x % 8)))).toNat : Int))).drew) := (B1.out.setCell (p := ⟨g, x / 8, none⟩) hg1 _).drew
  have L2 : Hid ((flip l x).length = l.length) := Lib.hid (flip_length _ _)
  generalize (w1.setCell ⟨g, x / 8, none⟩ (.int .u8 ((b0 ^^^ ((1 : UInt8) <<< (UInt8.ofNat (x % 8)))).toNat : Int))).drew = w2 at *
  generalize flip l x = m0 at *
  clear T0 S0 H1 hc0 hf0 B1
  obtain ⟨hc1, hf1⟩ := H2.out.cell (z / 8) (by have := L2.out; omega)
  have S1 : Hid (m0.set (z / 8) (m0.getD (z / 8) 0 ^^^ ((1 : UInt8) <<< (UInt8.ofNat (z % 8)))) = flip m0 z) := Lib.hid rfl
  generalize m0.getD (z / 8) 0 = b1 at *
  go_wp2_with fail
  go_region
  rw [flip_walk b1 (z % 8) (by omega)]
  have T1 := (H2.out.stored (z / 8) (b1 ^^^ ((1 : UInt8) <<< (UInt8.ofNat (z % 8))))).drew
  rw [S1.out] at T1
  have H3 := Lib.hid T1
  have B3 : Hid (Below w.heap.size w (w2.setCell ⟨g, z / 8, none⟩ (.int .u8 ((b1 ^^^ ((1 : UInt8) <<< (UInt8.ofNat (z % 8)))).toNat : Int))).drew) := (B2.out.setCell (p := ⟨g, z / 8, none⟩) hg1 _).drew
  have L3 : Hid ((flip m0 z).length = l.length) := Lib.hid ((flip_length _ _).trans L2.out)
  generalize (w2.setCell ⟨g, z / 8, none⟩ (.int .u8 ((b1 ^^^ ((1 : UInt8) <<< (UInt8.ofNat (z % 8)))).toNat : Int))).drew = w3 at *
  generalize flip m0 z = m1 at *
  clear T1 S1 H2 hc1 hf1 B2
  obtain ⟨a2, cap3, hv, _, hby⟩ := H3.out.slice
  rw [L3.out] at hv
  have H7 := Lib.hid hv
  have H8 := Lib.hid hby
  clear hv hby H3
  go_wp2_with fail
  refine (sanity3_any _).mono ?_
  rintro e u3 ⟨rfl, hb⟩
  have C3 : Hid (Below w.heap.size w u3) := B3.out.trans (hb.mono B3.out.size)
  have H9 := Lib.hid (H8.out.below hb)
  clear hb B3 H8
  go_wp2_with fail
  rw [H7.out]
  refine (of_n m1 _ L3.out a2 cap3 _ H9.out).mono ?_
  rintro e u4 ⟨rfl, hb⟩
  have C4 : Hid (Below w.heap.size w u4) := C3.out.trans (hb.mono C3.out.size)
  clear hb C3 H9
  go_wp2_with fail
  refine (of_any l a cap _ (HY.out.below C4.out)).mono ?_
  rintro e u5 ⟨rfl, hb⟩
  have C5 : Hid (Below w.heap.size w u5) := C4.out.trans (hb.mono C4.out.size)
  clear hb C4
  generalize rg (crcB m1) = c1 at *
  generalize rg (crcB l) = c2 at *
  have hneq := HF.out
  go_wp2_with fail
  go_ret
  exact ⟨rfl, C5.out⟩

set_option maxRecDepth 100000 in
set_option maxHeartbeats 1000000 in
theorem crcBits_two2 (l : List UInt8) (a : Option Addr) (cap x y : Nat) (w : World) (hlen : l.length ≤ 64) (hby : BytesAt w a l) (ha : a = none → cap = 0 ∧ l = []) (hx : x < 8 * l.length) (hy : y < 8 * l.length) (hyx : ¬ y = x) :
    Calls Try.prog 10 #[.slice a l.length cap, .int .i64 x, .int .i64 y, .int .i64 x] w fun e w' => e = .returned (.bool true) ∧ Below w.heap.size w w' := by
  have HY := Lib.hid hby
  have HA := Lib.hid ha
  clear hby ha
  have HF := Lib.hid (flip_two l x y hx hy hlen hyx)
  have g1 : ¬ (64 < (l.length : Int)) := by omega
  have g2x : (x : Int) < 8 * (l.length : Int) := by omega
  have g3x : ¬ ((x : Int) < 0) := by omega
  have g2y : (y : Int) < 8 * (l.length : Int) := by omega
  have g3y : ¬ ((y : Int) < 0) := by omega
  have khyx : (((y : Int) == (x : Int)) = false) ∧ (((y : Int) != (x : Int)) = true) := ⟨by rw [beq_eq_false_iff_ne]; omega, by rw [bne_iff_ne]; omega⟩
  obtain ⟨khyx1, khyx2⟩ := khyx
  go_enter Try.func10, Try.ntmps10
  go_wp2_with (at_builtin; refine wpList_append_b rfl _ _ rfl w.heap.size (.slice none 0 0) (.slice a l.length cap) [] l rfl (OwnB.nil _ _) rfl ⟨a, cap, rfl, HA.out, HY.out⟩ (by simp; omega) (Nat.le_refl _) ?_)
  intro v1 w1 hown hgrow
  obtain ⟨g, cap2, rfl, hg1, hg2⟩ := hown.form (by omega)
  have B1 : Hid (Below w.heap.size w w1) := (Below.refl _ _).grown hgrow (Nat.le_refl _) (fun k h => by cases h)
  have H1 := Lib.hid hown
  clear hown hgrow
  obtain ⟨hc0, hf0⟩ := H1.out.cell (x / 8) (by omega)
  have S0 : Hid (l.set (x / 8) (l.getD (x / 8) 0 ^^^ ((1 : UInt8) <<< (UInt8.ofNat (x % 8)))) = flip l x) := Lib.hid rfl
  generalize l.getD (x / 8) 0 = b0 at *
  go_wp2_with fail
  go_region
  rw [flip_walk b0 (x % 8) (by omega)]
  have T0 := (H1.out.stored (x / 8) (b0 ^^^ ((1 : UInt8) <<< (UInt8.ofNat (x % 8))))).drew
  rw [S0.out] at T0
  have H2 := Lib.hid T0
  have B2 : Hid (Below w.heap.size w (w1.setCell ⟨g, x / 8, none⟩ (.int .u8 ((b0 ^^^ ((1 : UInt8) <<< (UInt8.ofNat (x % 8)))).toNat : Int))).drew) := (B1.out.setCell (p := ⟨g, x / 8, none⟩) hg1 _).drew
  have L2 : Hid ((flip l x).length = l.length) := Lib.hid (flip_length _ _)
  generalize (w1.setCell ⟨g, x / 8, none⟩ (.int .u8 ((b0 ^^^ ((1 : UInt8) <<< (UInt8.ofNat (x % 8)))).toNat : Int))).drew = w2 at *
  generalize flip l x = m0 at *
  clear T0 S0 H1 hc0 hf0 B1
  obtain ⟨hc1, hf1⟩ := H2.out.cell (y / 8) (by have := L2.out; omega)
  have S1 : Hid (m0.set (y / 8) (m0.getD (y / 8) 0 ^^^ ((1 : UInt8) <<< (UInt8.ofNat (y % 8)))) = flip m0 y) := Lib.hid rfl
  generalize m0.getD (y / 8) 0 = b1 at *
  go_wp2_with fail
  go_region
  rw [flip_walk b1 (y % 8) (by omega)]
  have T1 := (H2.out.stored (y / 8) (b1 ^^^ ((1 : UInt8) <<< (UInt8.ofNat (y % 8))))).drew
  rw [S1.out] at T1
  have H3 := Lib.hid T1
  have B3 : Hid (Below w.heap.size w (w2.setCell ⟨g, y / 8, none⟩ (.int .u8 ((b1 ^^^ ((1 : UInt8) <<< (UInt8.ofNat (y % 8)))).toNat : Int))).drew) := (B2.out.setCell (p := ⟨g, y / 8, none⟩) hg1 _).drew
  have L3 : Hid ((flip m0 y).length = l.length) := Lib.hid ((flip_length _ _).trans L2.out)
  generalize (w2.setCell ⟨g, y / 8, none⟩ (.int .u8 ((b1 ^^^ ((1 : UInt8) <<< (UInt8.ofNat (y % 8)))).toNat : Int))).drew = w3 at *
  generalize flip m0 y = m1 at *
  clear T1 S1 H2 hc1 hf1 B2
  obtain ⟨a2, cap3, hv, _, hby⟩ := H3.out.slice
  rw [L3.out] at hv
  have H7 := Lib.hid hv
  have H8 := Lib.hid hby
  clear hv hby H3
  go_wp2_with fail
  refine (sanity3_any _).mono ?_
  rintro e u3 ⟨rfl, hb⟩
  have C3 : Hid (Below w.heap.size w u3) := B3.out.trans (hb.mono B3.out.size)
  have H9 := Lib.hid (H8.out.below hb)
  clear hb B3 H8
  go_wp2_with fail
  rw [H7.out]
  refine (of_n m1 _ L3.out a2 cap3 _ H9.out).mono ?_
  rintro e u4 ⟨rfl, hb⟩
  have C4 : Hid (Below w.heap.size w u4) := C3.out.trans (hb.mono C3.out.size)
  clear hb C3 H9
  go_wp2_with fail
  refine (of_any l a cap _ (HY.out.below C4.out)).mono ?_
  rintro e u5 ⟨rfl, hb⟩
  have C5 : Hid (Below w.heap.size w u5) := C4.out.trans (hb.mono C4.out.size)
  clear hb C4
  generalize rg (crcB m1) = c1 at *
  generalize rg (crcB l) = c2 at *
  have hneq := HF.out
  go_wp2_with fail
  go_ret
  exact ⟨rfl, C5.out⟩

set_option maxRecDepth 100000 in
set_option maxHeartbeats 1000000 in
theorem crcBits_two3 (l : List UInt8) (a : Option Addr) (cap x y : Nat) (w : World) (hlen : l.length ≤ 64) (hby : BytesAt w a l) (ha : a = none → cap = 0 ∧ l = []) (hx : x < 8 * l.length) (hy : y < 8 * l.length) (hyx : ¬ y = x) :
    Calls Try.prog 10 #[.slice a l.length cap, .int .i64 x, .int .i64 y, .int .i64 y] w fun e w' => e = .returned (.bool true) ∧ Below w.heap.size w w' := by
  have HY := Lib.hid hby
  have HA := Lib.hid ha
  clear hby ha
  have HF := Lib.hid (flip_two l x y hx hy hlen hyx)
  have g1 : ¬ (64 < (l.length : Int)) := by omega
  have g2x : (x : Int) < 8 * (l.length : Int) := by omega
  have g3x : ¬ ((x : Int) < 0) := by omega
  have g2y : (y : Int) < 8 * (l.length : Int) := by omega
  have g3y : ¬ ((y : Int) < 0) := by omega
  have khyx : (((y : Int) == (x : Int)) = false) ∧ (((y : Int) != (x : Int)) = true) := ⟨by rw [beq_eq_false_iff_ne]; omega, by rw [bne_iff_ne]; omega⟩
  obtain ⟨khyx1, khyx2⟩ := khyx
  go_enter Try.func10, Try.ntmps10
  go_wp2_with (at_builtin; refine wpList_append_b rfl _ _ rfl w.heap.size (.slice none 0 0) (.slice a l.length cap) [] l rfl (OwnB.nil _ _) rfl ⟨a, cap, rfl, HA.out, HY.out⟩ (by simp; omega) (Nat.le_refl _) ?_)
  intro v1 w1 hown hgrow
  obtain ⟨g, cap2, rfl, hg1, hg2⟩ := hown.form (by omega)
  have B1 : Hid (Below w.heap.size w w1) := (Below.refl _ _).grown hgrow (Nat.le_refl _) (fun k h => by cases h)
  have H1 := Lib.hid hown
  clear hown hgrow
  obtain ⟨hc0, hf0⟩ := H1.out.cell (x / 8) (by omega)
  have S0 : Hid (l.set (x / 8) (l.getD (x / 8) 0 ^^^ ((1 : UInt8) <<< (UInt8.ofNat (x % 8)))) = flip l x) := Lib.hid rfl
  generalize l.getD (x / 8) 0 = b0 at *
  go_wp2_with fail
  go_region
  rw [flip_walk b0 (x % 8) (by omega)]
  have T0 := (H1.out.stored (x / 8) (b0 ^^^ ((1 : UInt8) <<< (UInt8.ofNat (x % 8))))).drew
  rw [S0.out] at T0
  have H2 := Lib.hid T0
  have B2 : Hid (Below w.heap.size w (w1.setCell ⟨g, x / 8, none⟩ (.int .u8 ((b0 ^^^ ((1 : UInt8) <<< (UInt8.ofNat (x % 8)))).toNat : Int))).drew) := (B1.out.setCell (p := ⟨g, x / 8, none⟩) hg1 _).drew
  have L2 : Hid ((flip l x).length = l.length) := Lib.hid (flip_length _ _)
  generalize (w1.setCell ⟨g, x / 8, none⟩ (.int .u8 ((b0 ^^^ ((1 : UInt8) <<< (UInt8.ofNat (x % 8)))).toNat : Int))).drew = w2 at *
  generalize flip l x = m0 at *
  clear T0 S0 H1 hc0 hf0 B1
  obtain ⟨hc1, hf1⟩ := H2.out.cell (y / 8) (by have := L2.out; omega)
  have S1 : Hid (m0.set (y / 8) (m0.getD (y / 8) 0 ^^^ ((1 : UInt8) <<< (UInt8.ofNat (y % 8)))) = flip m0 y) := Lib.hid rfl
  generalize m0.getD (y / 8) 0 = b1 at *
  go_wp2_with fail
  go_region
  rw [flip_walk b1 (y % 8) (by omega)]
  have T1 := (H2.out.stored (y / 8) (b1 ^^^ ((1 : UInt8) <<< (UInt8.ofNat (y % 8))))).drew
  rw [S1.out] at T1
  have H3 := Lib.hid T1
  have B3 : Hid (Below w.heap.size w (w2.setCell ⟨g, y / 8, none⟩ (.int .u8 ((b1 ^^^ ((1 : UInt8) <<< (UInt8.ofNat (y % 8)))).toNat : Int))).drew) := (B2.out.setCell (p := ⟨g, y / 8, none⟩) hg1 _).drew
  have L3 : Hid ((flip m0 y).length = l.length) := Lib.hid ((flip_length _ _).trans L2.out)
  generalize (w2.setCell ⟨g, y / 8, none⟩ (.int .u8 ((b1 ^^^ ((1 : UInt8) <<< (UInt8.ofNat (y % 8)))).toNat : Int))).drew = w3 at *
  generalize flip m0 y = m1 at *
  clear T1 S1 H2 hc1 hf1 B2
  obtain ⟨a2, cap3, hv, _, hby⟩ := H3.out.slice
  rw [L3.out] at hv
  have H7 := Lib.hid hv
  have H8 := Lib.hid hby
  clear hv hby H3
  go_wp2_with fail
  refine (sanity3_any _).mono ?_
  rintro e u3 ⟨rfl, hb⟩
  have C3 : Hid (Below w.heap.size w u3) := B3.out.trans (hb.mono B3.out.size)
  have H9 := Lib.hid (H8.out.below hb)
  clear hb B3 H8
  go_wp2_with fail
  rw [H7.out]
  refine (of_n m1 _ L3.out a2 cap3 _ H9.out).mono ?_
  rintro e u4 ⟨rfl, hb⟩
  have C4 : Hid (Below w.heap.size w u4) := C3.out.trans (hb.mono C3.out.size)
  clear hb C3 H9
  go_wp2_with fail
  refine (of_any l a cap _ (HY.out.below C4.out)).mono ?_
  rintro e u5 ⟨rfl, hb⟩
  have C5 : Hid (Below w.heap.size w u5) := C4.out.trans (hb.mono C4.out.size)
  clear hb C4
  generalize rg (crcB m1) = c1 at *
  generalize rg (crcB l) = c2 at *
  have hneq := HF.out
  go_wp2_with fail
  go_ret
  exact ⟨rfl, C5.out⟩

set_option maxRecDepth 100000 in
set_option maxHeartbeats 1000000 in
theorem crcBits_three (l : List UInt8) (a : Option Addr) (cap x y z : Nat) (w : World) (hlen : l.length ≤ 64) (hby : BytesAt w a l) (ha : a = none → cap = 0 ∧ l = []) (hx : x < 8 * l.length) (hy : y < 8 * l.length) (hz : z < 8 * l.length) (hyx : ¬ y = x) (hzx : ¬ z = x) (hzy : ¬ z = y) :
    Calls Try.prog 10 #[.slice a l.length cap, .int .i64 x, .int .i64 y, .int .i64 z] w fun e w' => e = .returned (.bool true) ∧ Below w.heap.size w w' := by
  have HY := Lib.hid hby
  have HA := Lib.hid ha
  clear hby ha
  have HF := Lib.hid (flip_three l x y z hx hy hz)
  have g1 : ¬ (64 < (l.length : Int)) := by omega
  have g2x : (x : Int) < 8 * (l.length : Int) := by omega
  have g3x : ¬ ((x : Int) < 0) := by omega
  have g2y : (y : Int) < 8 * (l.length : Int) := by omega
  have g3y : ¬ ((y : Int) < 0) := by omega
  have g2z : (z : Int) < 8 * (l.length : Int) := by omega
  have g3z : ¬ ((z : Int) < 0) := by omega
  have khyx : (((y : Int) == (x : Int)) = false) ∧ (((y : Int) != (x : Int)) = true) := ⟨by rw [beq_eq_false_iff_ne]; omega, by rw [bne_iff_ne]; omega⟩
  obtain ⟨khyx1, khyx2⟩ := khyx
  have khzx : (((z : Int) == (x : Int)) = false) ∧ (((z : Int) != (x : Int)) = true) := ⟨by rw [beq_eq_false_iff_ne]; omega, by rw [bne_iff_ne]; omega⟩
  obtain ⟨khzx1, khzx2⟩ := khzx
  have khzy : (((z : Int) == (y : Int)) = false) ∧ (((z : Int) != (y : Int)) = true) := ⟨by rw [beq_eq_false_iff_ne]; omega, by rw [bne_iff_ne]; omega⟩
  obtain ⟨khzy1, khzy2⟩ := khzy
  go_enter Try.func10, Try.ntmps10
  go_wp2_with (at_builtin; refine wpList_append_b rfl _ _ rfl w.heap.size (.slice none 0 0) (.slice a l.length cap) [] l rfl (OwnB.nil _ _) rfl ⟨a, cap, rfl, HA.out, HY.out⟩ (by simp; omega) (Nat.le_refl _) ?_)
  intro v1 w1 hown hgrow
  obtain ⟨g, cap2, rfl, hg1, hg2⟩ := hown.form (by omega)
  have B1 : Hid (Below w.heap.size w w1) := (Below.refl _ _).grown hgrow (Nat.le_refl _) (fun k h => by cases h)
  have H1 := Lib.hid hown
  clear hown hgrow
  obtain ⟨hc0, hf0⟩ := H1.out.cell (x / 8) (by omega)
  have S0 : Hid (l.set (x / 8) (l.getD (x / 8) 0 ^^^ ((1 : UInt8) <<< (UInt8.ofNat (x % 8)))) = flip l x) := Lib.hid rfl
  generalize l.getD (x / 8) 0 = b0 at *
  go_wp2_with fail
  go_region
  rw [flip_walk b0 (x % 8) (by omega)]
  have T0 := (H1.out.stored (x / 8) (b0 ^^^ ((1 : UInt8) <<< (UInt8.ofNat (x % 8))))).drew
  rw [S0.out] at T0
  have H2 := Lib.hid T0
  have B2 : Hid (Below w.heap.size w (w1.setCell ⟨g, x / 8, none⟩ (.int .u8 ((b0 ^^^ ((1 : UInt8) <<< (UInt8.ofNat (x % 8)))).toNat : Int))).drew) := (B1.out.setCell (p := ⟨g, x / 8, none⟩) hg1 _).drew
  have L2 : Hid ((flip l x).length = l.length) := Lib.hid (flip_length _ _)
  generalize (w1.setCell ⟨g, x / 8, none⟩ (.int .u8 ((b0 ^^^ ((1 : UInt8) <<< (UInt8.ofNat (x % 8)))).toNat : Int))).drew = w2 at *
  generalize flip l x = m0 at *
  clear T0 S0 H1 hc0 hf0 B1
  obtain ⟨hc1, hf1⟩ := H2.out.cell (y / 8) (by have := L2.out; omega)
  have S1 : Hid (m0.set (y / 8) (m0.getD (y / 8) 0 ^^^ ((1 : UInt8) <<< (UInt8.ofNat (y % 8)))) = flip m0 y) := Lib.hid rfl
  generalize m0.getD (y / 8) 0 = b1 at *
  go_wp2_with fail
  go_region
  rw [flip_walk b1 (y % 8) (by omega)]
  have T1 := (H2.out.stored (y / 8) (b1 ^^^ ((1 : UInt8) <<< (UInt8.ofNat (y % 8))))).drew
  rw [S1.out] at T1
  have H3 := Lib.hid T1
  have B3 : Hid (Below w.heap.size w (w2.setCell ⟨g, y / 8, none⟩ (.int .u8 ((b1 ^^^ ((1 : UInt8) <<< (UInt8.ofNat (y % 8)))).toNat : Int))).drew) := (B2.out.setCell (p := ⟨g, y / 8, none⟩) hg1 _).drew
  have L3 : Hid ((flip m0 y).length = l.length) := Lib.hid ((flip_length _ _).trans L2.out)
  generalize (w2.setCell ⟨g, y / 8, none⟩ (.int .u8 ((b1 ^^^ ((1 : UInt8) <<< (UInt8.ofNat (y % 8)))).toNat : Int))).drew = w3 at *
  generalize flip m0 y = m1 at *
  clear T1 S1 H2 hc1 hf1 B2
  obtain ⟨hc2, hf2⟩ := H3.out.cell (z / 8) (by have := L3.out; omega)
  have S2 : Hid (m1.set (z / 8) (m1.getD (z / 8) 0 ^^^ ((1 : UInt8) <<< (UInt8.ofNat (z % 8)))) = flip m1 z) := Lib.hid rfl
  generalize m1.getD (z / 8) 0 = b2 at *
  go_wp2_with fail
  go_region
  rw [flip_walk b2 (z % 8) (by omega)]
  have T2 := (H3.out.stored (z / 8) (b2 ^^^ ((1 : UInt8) <<< (UInt8.ofNat (z % 8))))).drew
  rw [S2.out] at T2
  have H4 := Lib.hid T2
  have B4 : Hid (Below w.heap.size w (w3.setCell ⟨g, z / 8, none⟩ (.int .u8 ((b2 ^^^ ((1 : UInt8) <<< (UInt8.ofNat (z % 8)))).toNat : Int))).drew) := (B3.out.setCell (p := ⟨g, z / 8, none⟩) hg1 _).drew
  have L4 : Hid ((flip m1 z).length = l.length) := Lib.hid ((flip_length _ _).trans L3.out)
  generalize (w3.setCell ⟨g, z / 8, none⟩ (.int .u8 ((b2 ^^^ ((1 : UInt8) <<< (UInt8.ofNat (z % 8)))).toNat : Int))).drew = w4 at *
  generalize flip m1 z = m2 at *
  clear T2 S2 H3 hc2 hf2 B3
  obtain ⟨a2, cap3, hv, _, hby⟩ := H4.out.slice
  rw [L4.out] at hv
  have H7 := Lib.hid hv
  have H8 := Lib.hid hby
  clear hv hby H4
  go_wp2_with fail
  refine (sanity3_any _).mono ?_
  rintro e u3 ⟨rfl, hb⟩
  have C3 : Hid (Below w.heap.size w u3) := B4.out.trans (hb.mono B4.out.size)
  have H9 := Lib.hid (H8.out.below hb)
  clear hb B4 H8
  go_wp2_with fail
  rw [H7.out]
  refine (of_n m2 _ L4.out a2 cap3 _ H9.out).mono ?_
  rintro e u4 ⟨rfl, hb⟩
  have C4 : Hid (Below w.heap.size w u4) := C3.out.trans (hb.mono C3.out.size)
  clear hb C3 H9
  go_wp2_with fail
  refine (of_any l a cap _ (HY.out.below C4.out)).mono ?_
  rintro e u5 ⟨rfl, hb⟩
  have C5 : Hid (Below w.heap.size w u5) := C4.out.trans (hb.mono C4.out.size)
  clear hb C4
  generalize rg (crcB m2) = c1 at *
  generalize rg (crcB l) = c2 at *
  have hneq := HF.out
  go_wp2_with fail
  go_ret
  exact ⟨rfl, C5.out⟩

theorem crcBits_walk (l : List UInt8) (v : Value) (x y z : Int) (w : World) (hl : SliceB w v l) :
    Calls Try.prog 10 #[v, .int .i64 x, .int .i64 y, .int .i64 z] w fun e w' => e = .returned (.bool true) ∧ Below w.heap.size w w' := by
  obtain ⟨a, cap, rfl, ha, hby⟩ := hl
  have hm := hby.1
  unfold maxLen at hm
  by_cases g0 : 64 < (l.length : Int)
  · exact crcBits_bad0 l a cap x y z w (by omega) g0
  by_cases g1 : x < 0
  · exact crcBits_bad1 l a cap x y z w (by omega) g0 g1
  by_cases g2 : y < 0
  · exact crcBits_bad2 l a cap x y z w (by omega) g0 g1 g2
  by_cases g3 : z < 0
  · exact crcBits_bad3 l a cap x y z w (by omega) g0 g1 g2 g3
  by_cases g4 : 8 * (l.length : Int) ≤ x
  · exact crcBits_bad4 l a cap x y z w (by omega) g0 g1 g2 g3 g4
  by_cases g5 : 8 * (l.length : Int) ≤ y
  · exact crcBits_bad5 l a cap x y z w (by omega) g0 g1 g2 g3 g4 g5
  by_cases g6 : 8 * (l.length : Int) ≤ z
  · exact crcBits_bad6 l a cap x y z w (by omega) g0 g1 g2 g3 g4 g5 g6
  obtain ⟨x, rfl⟩ := Int.eq_ofNat_of_zero_le (show 0 ≤ x by omega)
  obtain ⟨y, rfl⟩ := Int.eq_ofNat_of_zero_le (show 0 ≤ y by omega)
  obtain ⟨z, rfl⟩ := Int.eq_ofNat_of_zero_le (show 0 ≤ z by omega)
  by_cases hyx : y = x
  · subst hyx
    by_cases hzx : z = y
    · subst hzx
      exact crcBits_one l a cap z w (by omega) hby ha (by omega)
    · exact crcBits_two1 l a cap y z w (by omega) hby ha (by omega) (by omega) hzx
  · by_cases hzx : z = x
    · subst hzx
      exact crcBits_two2 l a cap z y w (by omega) hby ha (by omega) (by omega) hyx
    · by_cases hzy : z = y
      · subst hzy
        exact crcBits_two3 l a cap x z w (by omega) hby ha (by omega) (by omega) hyx
      · exact crcBits_three l a cap x y z w (by omega) hby ha (by omega) (by omega) (by omega) hyx hzx hzy
end Go.Proofs.Ytiakaloabeendaa
