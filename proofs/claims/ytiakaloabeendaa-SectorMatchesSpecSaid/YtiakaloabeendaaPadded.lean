/- The walk of solventlaw15.padded. -/
import Derived.Test.YtiakaloabeendaaSec4
import Derived.Test.YtiakaloabeendaaBytes
namespace Go.Proofs.Ytiakaloabeendaa
open Go.RowKit

def lenV : Value → Nat
  | .slice _ n _ => n
  | _ => 0

set_option maxRecDepth 100000 in
set_option maxHeartbeats 1000000 in
theorem padded_any (p : ByteArray) (w : World) (hp : p.size ≤ 40) :
    Calls Try.prog 36 #[.string p] w fun x w' => x = .returned (.string (strB (pad p.data.toList))) ∧ Below w.heap.size w w' := by
  have HP := Lib.hid hp
  clear hp
  go_enter Try.func36, Try.ntmps36
  go_wp2_with (at_builtin; refine wpList_append_s rfl _ _ rfl w.heap.size (.slice none 0 0) [] p rfl (OwnB.nil _ _) rfl (by have := HP.out; simp; omega) (Nat.le_refl _) ?_)
  intro v1 w1 hown hgrow
  have H1 := Lib.hid hown
  have B1 := Lib.hid (grownBy_below hgrow (Nat.le_refl _) (fun k h => by cases h))
  clear hown hgrow
  go_wp2_with fail
  go_loopw [3] (fun v wr => ∃ k : Nat, k + p.size ≤ 40 ∧ OwnB wr w.heap.size v (p.data.toList ++ List.replicate k 0) ∧ Below w.heap.size w wr) (fun v _ => 40 - lenV v)
  case atStart => exact ⟨0, by have := HP.out; omega, by simpa using H1.out, B1.out⟩
  case round =>
    obtain ⟨k, hk, ho, hb⟩ := hrel
    have H2 := Lib.hid ho
    have B2 := Lib.hid hb
    have HK := Lib.hid hk
    have HLn : Hid ((p.data.toList ++ List.replicate k 0).length = p.size + k) := Lib.hid (by simp)
    clear ho hb hk
    obtain ⟨ad, cap, rfl, _, _⟩ := H2.out.slice
    rw [HLn.out] at H2 ⊢
    have HF : Hid (p.data.toList ++ List.replicate (k + 1) 0 = (p.data.toList ++ List.replicate k 0) ++ [0]) := Lib.hid (by rw [List.replicate_succ', List.append_assoc])
    have HG : Hid (p.size + k = 40 → p.data.toList ++ List.replicate k 0 = pad p.data.toList) := Lib.hid (fun h => by
      unfold pad
      rw [show 40 - p.data.toList.length = k by simp; omega])
    generalize hn : p.size + k = n at *
    have HN := Lib.hid hn
    clear hn
    generalize p.data.toList ++ List.replicate k 0 = F at *
    by_cases hlt : n < 40
    · have hd : decide ((n : Int) < 40) = true := by simp; omega
      have HT := Lib.hid hlt
      clear hlt
      have HS : Hid (SliceB (wr.alloc (.cells #[.int .u8 0] 5)) (.slice (some ⟨wr.heap.size, 0, none⟩) 1 1) [0]) := Lib.hid (SliceB.one wr 5 0 _ rfl)
      go_wp2_with (at_builtin; refine wpList_append_b rfl _ _ rfl w.heap.size (.slice ad n cap) (.slice (some ⟨wr.heap.size, 0, none⟩) 1 1) F [0] rfl (H2.out.alloc _) rfl HS.out (by have := HLn.out; have := HT.out; simp; omega) (by have := B2.out.size; simp; omega) ?_)
      intro v2 w4 hown hgrow
      have H3 := Lib.hid hown
      have B3 : Hid (Below w.heap.size w w4) := (B2.out.alloc B2.out.size (Obj.cells #[.int .u8 0] 5)).grown hgrow (by have := B2.out.size; simp; omega) (fun k h => (H2.out.lt k h).1)
      have HL3 := Lib.hid (show (F ++ [0]).length = n + 1 by rw [List.length_append, HLn.out]; rfl)
      clear hown hgrow
      obtain ⟨ad2, cap2, rfl, _, _⟩ := H3.out.slice
      rw [HL3.out] at H3 ⊢
      go_wp2_with fail
      go_roundw
      case rel => exact ⟨k + 1, by have := HN.out; have := HT.out; omega, by rw [HF.out]; exact H3.out, B3.out⟩
      case measure => have := HT.out; simp [lenV]; omega
    · have hd : decide ((n : Int) < 40) = false := by simp; omega
      have hconv := H2.out.str
      have hF := HG.out (by have := HK.out; have := HN.out; omega)
      rw [hF] at hconv
      clear hlt hF
      go_wp2_with fail
      go_ret
      exact ⟨rfl, B2.out⟩
end Go.Proofs.Ytiakaloabeendaa
