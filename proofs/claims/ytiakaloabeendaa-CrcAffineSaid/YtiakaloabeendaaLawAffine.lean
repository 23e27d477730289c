/- The walk of solventlaw03.CrcAffine: it returns true. -/
import Derived.Test.YtiakaloabeendaaSanity3
import Derived.Test.YtiakaloabeendaaOpen
import Derived.Deep.RegionLaw
namespace Go.Proofs.Ytiakaloabeendaa
open Go.RowKit

def xor3 (a b c : List UInt8) : List UInt8 := List.zipWith (· ^^^ ·) (List.zipWith (· ^^^ ·) a (b.take a.length)) (c.take a.length)
theorem xor3_length (a b c : List UInt8) (hb : a.length ≤ b.length) (hc : a.length ≤ c.length) : (xor3 a b c).length = a.length := by simp [xor3]; omega
theorem xor3_at (a b c : List UInt8) (hb : a.length ≤ b.length) (hc : a.length ≤ c.length) (k : Nat) (hk : k < a.length) : (xor3 a b c).getD k 0 = a.getD k 0 ^^^ b.getD k 0 ^^^ c.getD k 0 := by
  have h1 : k < b.length := by omega
  have h2 : k < c.length := by omega
  simp [xor3, List.getD, List.getElem?_zipWith, hk, h1, h2]
theorem xor3_crc (a b c : List UInt8) (hb : a.length ≤ b.length) (hc : a.length ≤ c.length) : crcB a ^^^ crcB (b.take a.length) ^^^ crcB (c.take a.length) = crcB (xor3 a b c) :=
  affine a (b.take a.length) (c.take a.length) (by simp; omega) (by simp; omega)

set_option maxRecDepth 100000 in
set_option maxHeartbeats 400000 in
theorem crcAffine_bad (a b c : List UInt8) (pa pb pc : Option Addr) (ca cb cc : Nat) (w : World) (h : b.length < a.length ∨ c.length < a.length) :
    Calls Try.prog 11 #[.slice pa a.length ca, .slice pb b.length cb, .slice pc c.length cc] w fun e w' => e = .returned (.bool true) ∧ Below w.heap.size w w' := by
  by_cases h1 : b.length < a.length
  · clear h
    go_enter Try.func11, Try.ntmps11
    go_wp2_with fail
    refine (sanity3_any _).mono ?_
    rintro e w1 ⟨rfl, hb⟩
    have H := Lib.hid hb
    clear hb
    go_wp2_with fail
    go_ret
    exact ⟨rfl, H.out⟩
  · have h2 := h.resolve_left h1
    clear h
    go_enter Try.func11, Try.ntmps11
    go_wp2_with fail
    refine (sanity3_any _).mono ?_
    rintro e w1 ⟨rfl, hb⟩
    have H := Lib.hid hb
    clear hb
    go_wp2_with fail
    go_ret
    exact ⟨rfl, H.out⟩

set_option maxRecDepth 100000 in
set_option maxHeartbeats 1000000 in
theorem crcAffine_good (a b c : List UInt8) (pa pb pc : Option Addr) (ca cb cc : Nat) (w : World) (hlen : a.length ≤ 140737488351232) (hb : ¬ b.length < a.length) (hc : ¬ c.length < a.length) (hcb : a.length ≤ cb) (hcc : a.length ≤ cc)
    (ha1 : BytesAt w pa a) (hb1 : BytesAt w pb b) (hc1 : BytesAt w pc c) :
    Calls Try.prog 11 #[.slice pa a.length ca, .slice pb b.length cb, .slice pc c.length cc] w fun e w' => e = .returned (.bool true) ∧ Below w.heap.size w w' := by
  have HA := Lib.hid ha1
  have HB := Lib.hid hb1
  have HC := Lib.hid hc1
  have L3 := Lib.hid (xor3_length a b c (by omega) (by omega))
  clear ha1 hb1 hc1
  go_enter Try.func11, Try.ntmps11
  go_wp2_with fail
  go_loopw [9, 8] (fun i v wr => ∃ k : Nat, k ≤ a.length ∧ i = .int .i64 k ∧ OwnB wr w.heap.size v ((xor3 a b c).take k) ∧ Below w.heap.size w wr) (fun i _ _ => a.length - (intOf i).toNat)
  case atStart => exact ⟨0, by omega, rfl, OwnB.nil _ _, Below.refl _ _⟩
  case round =>
    obtain ⟨k, hk, rfl, hown, hbel⟩ := hrel
    have H1 := Lib.hid hown
    have H2 := Lib.hid hbel
    clear hown hbel
    by_cases hlt : k < a.length
    · have H3 : Hid ((xor3 a b c).take (k + 1) = (xor3 a b c).take k ++ [a.getD k 0 ^^^ b.getD k 0 ^^^ c.getD k 0]) := Lib.hid (by rw [take_snoc' _ k (by rw [L3.out]; exact hlt), xor3_at a b c (by omega) (by omega) k hlt])
      have H4 : Hid (((xor3 a b c).take k).length = k) := Lib.hid (by rw [List.length_take, L3.out]; omega)
      obtain ⟨b1, o1, rfl, hc1⟩ := (HA.out.below H2.out).cell k hlt
      obtain ⟨b2, o2, rfl, hc2⟩ := (HB.out.below H2.out).cell k (by omega)
      obtain ⟨b3, o3, rfl, hc3⟩ := (HC.out.below H2.out).cell k (by omega)
      generalize a.getD k 0 = x at *
      generalize b.getD k 0 = y at *
      generalize c.getD k 0 = z at *
      generalize (xor3 a b c).take k = F at *
      have hx1 := xor8_walk x y
      have hx2 := xor8_walk (x ^^^ y) z
      have H5 : Hid ((x ^^^ y) ^^^ z = x ^^^ y ^^^ z) := Lib.hid rfl
      generalize x ^^^ y ^^^ z = q at *
      generalize x ^^^ y = xy at *
      have hkb : k < b.length := by omega
      have hkc : k < c.length := by omega
      go_wp2_with fail
      go_region_law (first | (refine step_append_b rfl _ _ rfl w.heap.size u8 (.slice (some ⟨wr.heap.size, 0, none⟩) 1 1) F [q] rfl (H1.out.alloc _) rfl (SliceB.one _ _ q _ rfl) (by have := H4.out; simp; omega) (by have := H2.out.size; simp; omega) ?_; intro v2 w4 hown hgrow))
      all_goals
        go_wp2
        go_roundw
        case rel =>
          have S := (H2.out.alloc H2.out.size (Obj.cells #[.int .u8 (q.toNat : Int)] 5)).drew.grown hgrow (by have := H2.out.size; simp; omega) (fun k h => (H1.out.lt k h).1)
          exact ⟨k + 1, by omega, by go_num, by rw [H3.out]; exact hown, S⟩
        case measure => simp [intOf]; omega
    · obtain rfl : k = a.length := by omega
      have HX : Hid ((xor3 a b c).take a.length = xor3 a b c) := Lib.hid (List.take_of_length_le (by rw [L3.out]; exact Nat.le_refl _))
      rw [HX.out] at H1
      have H5 := Lib.hid (xor3_crc a b c (by omega) (by omega))
      obtain ⟨a2, cap3, hv, _, hby⟩ := H1.out.slice
      rw [L3.out] at hv
      subst hv
      have H6 := Lib.hid hby
      clear hby H1 HX
      generalize xor3 a b c = X at *
      have hta : (b.take a.length).length = a.length := by simp; omega
      have htc : (c.take a.length).length = a.length := by simp; omega
      have H7 := Lib.hid hta
      have H8 := Lib.hid htc
      clear hta htc
      have HA2 := Lib.hid (HA.out.below H2.out)
      have HB2 := Lib.hid ((HB.out.below H2.out).take a.length)
      have HC2 := Lib.hid ((HC.out.below H2.out).take a.length)
      generalize b.take a.length = tb at *
      generalize c.take a.length = tc at *
      go_wp2_with fail
      refine wp_region_grew (by kernel_rfl) (by kernel_rfl) ?_
      repeat (go_big_quiet_step (fail))
      go_big_quiet_want; go_big_quiet_op; go_big_quiet_call (exact grew_call (sanity3_any _))
      repeat (go_big_quiet_step (fail))
      go_big_quiet_want; go_big_quiet_op; go_big_quiet_call (exact grew_call (of_any a pa ca _ (HA2.out.below (Subtype.property _))))
      repeat (go_big_quiet_step (fail))
      go_big_quiet_want; go_big_quiet_op; go_big_quiet_call (exact grew_call (of_n tb _ H7.out pb cb _ (HB2.out.below (Subtype.property _))))
      generalize crcB a = xa at *
      generalize crcB tb = xb at *
      have hx1 := u32_xor' xa xb
      generalize hq1 : xa ^^^ xb = q1 at *
      repeat (go_big_quiet_step (fail))
      go_big_quiet_want; go_big_quiet_op; go_big_quiet_call (exact grew_call (of_n tc _ H8.out pc cc _ (HC2.out.below (Subtype.property _))))
      generalize crcB tc = xc at *
      have hx2 := u32_xor' q1 xc
      generalize hq2 : q1 ^^^ xc = q2 at *
      repeat (go_big_quiet_step (fail))
      go_big_quiet_want; go_big_quiet_op; go_big_quiet_call (exact grew_call (of_n X _ L3.out a2 cap3 _ (H6.out.below (Subtype.property _))))
      rw [← H5.out]
      repeat (go_big_quiet_step (fail))
      refine wpQuiet_nil ?_
      rintro _ ⟨x, rfl⟩
      have H9 : Hid (Below w.heap.size w x.1) := H2.out.trans (x.2.mono H2.out.size)
      go_wp2
      go_ret
      exact ⟨rfl, H9.out⟩

theorem crcAffine_walk (a b c : List UInt8) (v1 v2 v3 : Value) (w : World) (hlen : a.length ≤ 140737488351232) (h1 : SliceB w v1 a) (h2 : SliceB w v2 b) (h3 : SliceB w v3 c) (c2 : ∀ a n cap, v2 = .slice a n cap → n ≤ cap) (c3 : ∀ a n cap, v3 = .slice a n cap → n ≤ cap) :
    Calls Try.prog 11 #[v1, v2, v3] w fun e w' => e = .returned (.bool true) ∧ Below w.heap.size w w' := by
  obtain ⟨pa, ca, rfl, _, ha⟩ := h1
  obtain ⟨pb, cb, rfl, _, hb⟩ := h2
  obtain ⟨pc, cc, rfl, _, hc⟩ := h3
  have k2 := c2 _ _ _ rfl
  have k3 := c3 _ _ _ rfl
  by_cases h : b.length < a.length ∨ c.length < a.length
  · exact crcAffine_bad a b c pa pb pc ca cb cc w h
  · exact crcAffine_good a b c pa pb pc ca cb cc w hlen (by omega) (by omega) (by omega) (by omega) ha hb hc
end Go.Proofs.Ytiakaloabeendaa
