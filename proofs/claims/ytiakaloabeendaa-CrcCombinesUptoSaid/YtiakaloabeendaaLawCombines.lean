/- The walk of solventlaw03.CrcCombines: it returns true. -/
import Derived.Test.YtiakaloabeendaaSanity3
import Derived.Test.YtiakaloabeendaaOpen
namespace Go.Proofs.Ytiakaloabeendaa
open Go.RowKit

set_option maxRecDepth 100000 in
set_option maxHeartbeats 400000 in
theorem crcCombines_walk (l m : List UInt8) (v u : Value) (w : World) (hl : SliceB w v l) (hm : SliceB w u m) (hsum : l.length + m.length ≤ 140737488355328) :
    Calls Try.prog 5 #[v, u] w fun e w' => e = .returned (.bool true) ∧ Below w.heap.size w w' := by
  obtain ⟨a, cap, rfl, ha, hla⟩ := hl
  obtain ⟨b, cap2, rfl, hb, hmb⟩ := hm
  have HA := Lib.hid ha
  have HB := Lib.hid hb
  have HL := Lib.hid hla
  have HM := Lib.hid hmb
  clear ha hb hla hmb
  have hlm := HM.out.1
  unfold maxLen at hlm
  go_enter Try.func5, Try.ntmps5
  go_wp2_with (at_builtin; refine wpList_append_b rfl _ _ rfl w.heap.size (.slice none 0 0) (.slice a l.length cap) [] l rfl (OwnB.nil _ _) rfl ⟨a, cap, rfl, HA.out, HL.out⟩ (by simp; omega) (Nat.le_refl _) ?_)
  intro v1 w1 hown hgrow
  have H1 := Lib.hid hown
  have B1 := Lib.hid (grownBy_below hgrow (Nat.le_refl _) (fun k h => by cases h))
  clear hown hgrow
  go_wp2_with (at_builtin; refine wpList_append_b rfl _ _ rfl w.heap.size v1 (.slice b m.length cap2) ([] ++ l) m rfl H1.out rfl ⟨b, cap2, rfl, HB.out, HM.out.below B1.out⟩ (by simp; omega) B1.out.size ?_)
  intro v2 w2 hown hgrow
  have H2 := Lib.hid hown
  have B2 : Hid (Below w.heap.size w w2) := B1.out.grown hgrow B1.out.size (fun k h => (H1.out.lt k h).1)
  clear hown hgrow H1 B1
  obtain ⟨a2, cap3, rfl, _, hby⟩ := H2.out.slice
  have HY : Hid (BytesAt w2 a2 (l ++ m)) := hby
  have H3 : Hid (crcB m ^^^ zerosB (crcB l) (m.length : Int).toNat ^^^ zerosB 0#32 (m.length : Int).toNat = crcB (l ++ m)) := Lib.hid (by rw [Int.toNat_natCast]; exact combine l m)
  clear hby H2
  go_wp2_with fail
  refine (sanity3_any _).mono ?_
  rintro e w3 ⟨rfl, hb⟩
  have B3 : Hid (Below w.heap.size w w3) := B2.out.trans (hb.mono B2.out.size)
  have HY3 := Lib.hid (HY.out.below hb)
  clear hb B2 HY
  go_wp2_with fail
  refine (of_any l a cap _ (HL.out.below B3.out)).mono ?_
  rintro e w4 ⟨rfl, hb⟩
  have B4 : Hid (Below w.heap.size w w4) := B3.out.trans (hb.mono B3.out.size)
  have HY4 := Lib.hid (HY3.out.below hb)
  clear hb B3 HY3
  go_wp2_with fail
  refine (of_any m b cap2 _ (HM.out.below B4.out)).mono ?_
  rintro e w5 ⟨rfl, hb⟩
  have B5 : Hid (Below w.heap.size w w5) := B4.out.trans (hb.mono B4.out.size)
  have HY5 := Lib.hid (HY4.out.below hb)
  clear hb B4 HY4
  go_wp2_with fail
  refine (combine_any (crcB l) (crcB m) m.length (by omega) (by omega) _).mono ?_
  rintro e w6 ⟨rfl, hb⟩
  have B6 : Hid (Below w.heap.size w w6) := B5.out.trans (hb.mono B5.out.size)
  have HY6 := Lib.hid (HY5.out.below hb)
  clear hb B5 HY5
  rw [H3.out]
  clear H3
  go_wp2_with fail
  refine (of_n (l ++ m) _ (by simp) a2 cap3 _ HY6.out).mono ?_
  rintro e w7 ⟨rfl, hb⟩
  have B7 : Hid (Below w.heap.size w w7) := B6.out.trans (hb.mono B6.out.size)
  clear hb B6 HY6
  generalize crcB (l ++ m) = x
  go_wp2_with fail
  go_ret
  exact ⟨rfl, B7.out⟩
end Go.Proofs.Ytiakaloabeendaa
