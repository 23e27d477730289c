/- The walk of solventlaw03.CrcParts: it returns true. -/
import Derived.Test.YtiakaloabeendaaSanity3
import Derived.Test.YtiakaloabeendaaBulk
namespace Go.Proofs.Ytiakaloabeendaa
open Go.RowKit

theorem flat_snoc (ls : List (List UInt8)) (k : Nat) (h : k < ls.length) : (ls.take (k + 1)).flatten = (ls.take k).flatten ++ ls.getD k [] := by
  have e : ls.getD k [] = ls[k] := by simp [List.getD, h]
  rw [List.take_succ_eq_append_getElem h, List.flatten_append, e]
  simp only [List.flatten_cons, List.flatten_nil, List.append_nil]

theorem lens_flat (ls : List (List UInt8)) : ls.flatten.length = lens ls := by simp [lens, List.length_flatten]

theorem flat_le (ls : List (List UInt8)) (k : Nat) (h : k < ls.length) : (ls.take k).flatten.length + (ls.getD k []).length ≤ lens ls := by
  rw [← lens_flat, ← List.length_append, ← flat_snoc ls k h]
  have e : ls.flatten = (ls.take (k + 1)).flatten ++ (ls.drop (k + 1)).flatten := by rw [← List.flatten_append, List.take_append_drop]
  rw [e, List.length_append]
  omega

set_option maxRecDepth 100000 in
set_option maxHeartbeats 400000 in
theorem crcParts_walk (ls : List (List UInt8)) (v : Value) (w : World) (hl : RowsB w v ls) (hsum : lens ls ≤ 1048576) :
    Calls Try.prog 4 #[v] w fun e w' => e = .returned (.bool true) ∧ Below w.heap.size w w' := by
  obtain ⟨a, cap, rfl, hmax, hrow⟩ := hl
  have HR := Lib.hid hrow
  clear hrow
  unfold maxLen at hmax
  go_enter Try.func4, Try.ntmps4
  go_wp2_with fail
  refine (of_n [] 0 rfl none 0 _ ⟨by decide, .inl rfl⟩).mono ?_
  rintro e w1 ⟨rfl, hb⟩
  have B1 := Lib.hid hb
  clear hb
  go_wp2_with fail
  go_loopw [5, 3, 4] (fun i c v wr => ∃ k : Nat, k ≤ ls.length ∧ i = .int .i64 k ∧ c = .int .u32 (rg (crcB (ls.take k).flatten)) ∧ OwnB wr w.heap.size v (ls.take k).flatten ∧ Below w.heap.size w wr) (fun i _ _ _ => ls.length - (intOf i).toNat)
  case atStart => exact ⟨0, by omega, rfl, rfl, OwnB.nil _ _, B1.out⟩
  case round =>
    obtain ⟨k, hk, rfl, rfl, hown, hbel⟩ := hrel
    clear B1
    have H1 := Lib.hid hown
    have H2 := Lib.hid hbel
    clear hown hbel
    by_cases hlt : k < ls.length
    · have hf := flat_le ls k hlt
      have H3 : Hid ((ls.take (k + 1)).flatten = (ls.take k).flatten ++ ls.getD k []) := Lib.hid (flat_snoc ls k hlt)
      rcases HR.out with h0 | ⟨b, off, rfl, hc⟩
      · rw [h0] at hlt; simp at hlt
      obtain ⟨u, hcell, ap, cp, rfl, hp1, hp2⟩ := hc k hlt
      have hcell2 : wr.cell? ⟨b, off + k, none⟩ = some (.slice ap (ls.getD k []).length cp) := (H2.out.cell (p := ⟨b, off + k, none⟩) (block_lt_of_cell hcell)).trans hcell
      have H4 := Lib.hid hp1
      have H5 := Lib.hid (hp2.below H2.out)
      clear hc hcell hp1 hp2
      generalize ls.getD k [] = p at *
      generalize (ls.take k).flatten = F at *
      go_wp2_with fail
      refine (extend_any (crcB F) p ap cp _ H5.out).mono ?_
      rintro e w3 ⟨rfl, hb⟩
      have H6 := Lib.hid (H1.out.below hb)
      have H7 := Lib.hid (H5.out.below hb)
      have H8 : Hid (Below w.heap.size w w3) := H2.out.trans (hb.mono H2.out.size)
      have hcell3 : w3.cell? ⟨b, off + k, none⟩ = some (.slice ap p.length cp) := (hb.cell (p := ⟨b, off + k, none⟩) (block_lt_of_cell hcell2)).trans hcell2
      clear hb H1 H2 H5 hcell2
      rw [show extB (crcB F) p = crcB (F ++ p) from extB_append 0#32 F p]
      go_wp2_with (at_builtin; refine wpList_append_b rfl _ _ rfl w.heap.size _ (.slice ap p.length cp) F p rfl H6.out rfl ⟨ap, cp, rfl, H4.out, H7.out⟩ (by omega) H8.out.size ?_)
      intro v2 w4 hown hgrow
      have H9 := Lib.hid hown
      have H10 : Hid (Below w.heap.size w w4) := H8.out.grown hgrow H8.out.size (fun k h => (H6.out.lt k h).1)
      clear hown hgrow H6 H7 H8 hcell3
      go_wp2_with fail
      go_roundw
      case rel => exact ⟨k + 1, by omega, by go_num, by rw [H3.out], by rw [H3.out]; exact H9.out, H10.out⟩
      case measure => simp [intOf]; omega
    · obtain rfl : k = ls.length := by omega
      rw [List.take_length] at H1
      rw [List.take_length]
      generalize ls.flatten = F at *
      obtain ⟨a2, cap3, rfl, _, hby⟩ := H1.out.slice
      have HY := Lib.hid hby
      clear hby H1
      go_wp2_with fail
      refine (sanity3_any _).mono ?_
      rintro e w3 ⟨rfl, hb⟩
      have H4 := Lib.hid (HY.out.below hb)
      have H8 : Hid (Below w.heap.size w w3) := H2.out.trans (hb.mono H2.out.size)
      clear hb H2 HY
      go_wp2_with fail
      refine (of_any F a2 cap3 _ H4.out).mono ?_
      rintro e w4 ⟨rfl, hb⟩
      have H9 : Hid (Below w.heap.size w w4) := H8.out.trans (hb.mono H8.out.size)
      clear hb
      generalize crcB F = x
      go_wp2_with fail
      go_ret
      exact ⟨rfl, H9.out⟩
end Go.Proofs.Ytiakaloabeendaa
