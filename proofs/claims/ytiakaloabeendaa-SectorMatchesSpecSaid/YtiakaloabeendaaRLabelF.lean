/- The specification's Label, Open and Seal, whatever they are given: the same as the program's. -/
import Derived.Test.YtiakaloabeendaaRLabelA
import Derived.Test.YtiakaloabeendaaRLabelB
import Derived.Test.YtiakaloabeendaaRLabelC
import Derived.Test.YtiakaloabeendaaRLabelD
import Derived.Test.YtiakaloabeendaaRLabelE
import Derived.Test.YtiakaloabeendaaROpen
import Derived.Test.YtiakaloabeendaaSaneAll
import Derived.Test.YtiakaloabeendaaLawDist
namespace Go.Proofs.Ytiakaloabeendaa
open Go.RowKit

theorem rlabel_ok (s : ByteArray) (h : s.size = 64) (g : goodL s.data.toList) :
    RLabelOk s (un (sub s.data.toList 5 6)) (un (sub s.data.toList 4 5)) (un (sub s.data.toList 6 8)) (un (sub s.data.toList 8 12)) (un (sub s.data.toList 12 16)) :=
  rlabel_E s h g.1 g.2.1 g.2.2.1 (by rw [g.2.2.2, sub_tail _ (by simpa using h), beq_self_eq_true])

theorem rlabel_bad (s : ByteArray) (h : s.size = 64) (g : ¬ goodL s.data.toList) : RLabelErr s 7 := by
  by_cases h1 : un (sub s.data.toList 0 4) = (crcB (s.data.toList.drop 4)).toNat
  · by_cases h2 : validB (un (sub s.data.toList 5 6)) (un (sub s.data.toList 4 5)) (un (sub s.data.toList 6 8)) = true
    · by_cases h3 : genV (un (sub s.data.toList 8 12)) (un (sub s.data.toList 12 16)) = true
      · refine rlabel_D s h h1 h2 h3 ?_
        have : sub s.data.toList 8 16 ≠ s.data.toList.drop 56 := fun h4 => g ⟨h1, h2, h3, h4⟩
        rw [sub_tail _ (by simpa using h), beq_eq_false_iff_ne.2 this]
      · exact rlabel_C s h h1 h2 (by simpa using h3)
    · exact rlabel_B s h h1 (by simpa using h2)
  · exact rlabel_A s h h1

theorem ropen_any (d a i : Int) (s : ByteArray) (w : World) :
    Calls Try.prog 32 #[.agg #[.int .i64 d, .int .i64 a, .int .i64 i], .string s] w fun x w' => x = .returned (openV d a i s) ∧ Below w.heap.size w w' := by
  by_cases hv : validB d a i = true
  · by_cases hs : s.size = 64
    · by_cases hg : goodL s.data.toList
      · by_cases he : ((un (sub s.data.toList 5 6) : Nat) : Int) = d ∧ ((un (sub s.data.toList 4 5) : Nat) : Int) = a ∧ ((un (sub s.data.toList 6 8) : Nat) : Int) = i
        · have e : openV d a i s = .tuple #[.agg #[.int .i64 (un (sub s.data.toList 8 12) : Nat), .int .i64 (un (sub s.data.toList 12 16) : Nat)], .string (s.extract 16 56), .int .i64 0] := by
            unfold openV; rw [if_neg (by simp [hv]), if_neg (by simp [hs]), if_neg (by simp [hg]), if_pos he]
          rw [e]
          have hL := rlabel_ok s hs hg
          obtain ⟨e1, e2, e3⟩ := he
          rw [e1, e2, e3] at hL
          exact ropen_good d a i _ _ s w hs hv hL
        · have e : openV d a i s = .tuple #[.agg #[.int .i64 0, .int .i64 0], .string ⟨#[]⟩, .int .i64 8] := by
            unfold openV; rw [if_neg (by simp [hv]), if_neg (by simp [hs]), if_neg (by simp [hg]), if_neg he]
          rw [e]
          exact ropen_other _ _ _ d a i _ _ s w hv (rlabel_ok s hs hg) he
      · have e : openV d a i s = .tuple #[.agg #[.int .i64 0, .int .i64 0], .string ⟨#[]⟩, .int .i64 7] := by
          unfold openV; rw [if_neg (by simp [hv]), if_neg (by simp [hs]), if_pos hg]
        rw [e]
        exact ropen_err d a i s 7 w hv (rlabel_bad s hs hg) (.inr rfl)
    · have e : openV d a i s = .tuple #[.agg #[.int .i64 0, .int .i64 0], .string ⟨#[]⟩, .int .i64 1] := by
        unfold openV; rw [if_neg (by simp [hv]), if_pos hs]
      rw [e]
      exact ropen_err d a i s 1 w hv (rlabel_len s hs) (.inl rfl)
  · have hv2 : validB d a i = false := by simpa using hv
    have e : openV d a i s = .tuple #[.agg #[.int .i64 0, .int .i64 0], .string ⟨#[]⟩, .int .i64 1] := by
      unfold openV; rw [if_pos hv2]
    rw [e]
    exact ropen_arg d a i s w hv2


theorem rseal_any (d a i e c : Int) (p : ByteArray) (w : World) :
    Calls Try.prog 29 #[.agg #[.int .i64 d, .int .i64 a, .int .i64 i], .agg #[.int .i64 e, .int .i64 c], .string p] w fun x w' => x = .returned (sealV d a i e c p) ∧ Below w.heap.size w w' := by
  by_cases h : validB d a i = true ∧ genV e c = true ∧ p.size ≤ 40
  · rw [sealV_good h]
    obtain ⟨hv, hg, hp⟩ := h
    obtain ⟨D, A, I, rfl, rfl, rfl, _⟩ := valid_nat hv
    obtain ⟨E, C, rfl, rfl, _⟩ := gen_nat hg
    exact rseal_good D A I E C p w hv hg hp
  · rw [sealV_bad h]
    exact rseal_bad d a i e c p w h

theorem label_both (s : ByteArray) : ∃ d a i e c k : Int,
    (∀ w, Calls Try.prog 30 #[.string s] w fun x w' => x = .returned (.tuple #[.agg #[.int .i64 d, .int .i64 a, .int .i64 i], .agg #[.int .i64 e, .int .i64 c], .int .i64 k]) ∧ Below w.heap.size w w') ∧
    (∀ w, Calls Try.prog 31 #[.string s] w fun x w' => x = .returned (.tuple #[.agg #[.int .i64 d, .int .i64 a, .int .i64 i], .agg #[.int .i64 e, .int .i64 c], .int .i64 k]) ∧ Below w.heap.size w w') := by
  by_cases hs : s.size = 64
  · by_cases hg : goodL s.data.toList
    · exact ⟨_, _, _, _, _, _, label_ok s hs hg, rlabel_ok s hs hg⟩
    · exact ⟨_, _, _, _, _, _, label_bad s hs hg, rlabel_bad s hs hg⟩
  · exact ⟨_, _, _, _, _, _, label_len s hs, rlabel_len s hs⟩

theorem openV_form (d a i : Int) (s : ByteArray) : ∃ E C Q h, openV d a i s = .tuple #[.agg #[.int .i64 E, .int .i64 C], .string Q, .int .i64 h] := by
  unfold openV
  repeat (first | (split; exact ⟨_, _, _, _, rfl⟩) | split)
  all_goals exact ⟨_, _, _, _, rfl⟩
theorem sealV_form (d a i e c : Int) (p : ByteArray) : ∃ X n, sealV d a i e c p = .tuple #[.string X, .int .i64 n] := by
  unfold sealV; split <;> exact ⟨_, _, rfl⟩
end Go.Proofs.Ytiakaloabeendaa
