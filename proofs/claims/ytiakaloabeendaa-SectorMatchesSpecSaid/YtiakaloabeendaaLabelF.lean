/- sector.Label and sector.Open, whatever string they are given. -/
import Derived.Test.YtiakaloabeendaaLabelA
import Derived.Test.YtiakaloabeendaaLabelB
import Derived.Test.YtiakaloabeendaaLabelC
import Derived.Test.YtiakaloabeendaaLabelD
import Derived.Test.YtiakaloabeendaaLabelE
import Derived.Test.YtiakaloabeendaaSealed
namespace Go.Proofs.Ytiakaloabeendaa
open Go.RowKit

theorem label_ok (s : ByteArray) (h : s.size = 64) (g : goodL s.data.toList) :
    LabelOk s (un (sub s.data.toList 5 6)) (un (sub s.data.toList 4 5)) (un (sub s.data.toList 6 8)) (un (sub s.data.toList 8 12)) (un (sub s.data.toList 12 16)) :=
  label_E s h g.1 g.2.1 g.2.2.1 (by rw [g.2.2.2, sub_tail _ (by simpa using h), beq_self_eq_true]; rfl)

theorem label_bad (s : ByteArray) (h : s.size = 64) (g : ¬ goodL s.data.toList) : LabelErr s 7 := by
  by_cases h1 : un (sub s.data.toList 0 4) = (crcB (s.data.toList.drop 4)).toNat
  · by_cases h2 : validB (un (sub s.data.toList 5 6)) (un (sub s.data.toList 4 5)) (un (sub s.data.toList 6 8)) = true
    · by_cases h3 : genV (un (sub s.data.toList 8 12)) (un (sub s.data.toList 12 16)) = true
      · refine label_D s h h1 h2 h3 ?_
        have : sub s.data.toList 8 16 ≠ s.data.toList.drop 56 := fun h4 => g ⟨h1, h2, h3, h4⟩
        rw [sub_tail _ (by simpa using h), beq_eq_false_iff_ne.2 this]; rfl
      · exact label_C s h h1 h2 (by simpa using h3)
    · exact label_B s h h1 (by simpa using h2)
  · exact label_A s h h1

theorem seal_goodL (d a i e c : Nat) (p : List UInt8) (hp : p.length ≤ 40) (hv : validB d a i = true) (hg : genV e c = true) : goodL (sealB d a i e c p) := by
  have h1 := (validB_iff d a i).1 hv
  have h2 := (genV_iff e c).1 hg
  obtain ⟨s1, s2⟩ := seal_sound d a i e c p hp
  refine ⟨s1, ?_, ?_, s2⟩
  · rw [read_d _ _ _ _ _ _ (by omega), read_a _ _ _ _ _ _ (by omega), read_i _ _ _ _ _ _ (by omega)]; exact hv
  · rw [read_e _ _ _ _ _ _ (by omega), read_c _ _ _ _ _ _ (by omega)]; exact hg

theorem label_seal (d a i e c : Nat) (p : List UInt8) (hp : p.length ≤ 40) (hv : validB d a i = true) (hg : genV e c = true) : LabelOk (strB (sealB d a i e c p)) d a i e c := by
  have h1 := (validB_iff d a i).1 hv
  have h2 := (genV_iff e c).1 hg
  have h := label_ok (strB (sealB d a i e c p)) (by have := sealB_length d a i e c p hp; rw [← strB_list (sealB d a i e c p)] at this; simpa using this) (by rw [strB_list]; exact seal_goodL d a i e c p hp hv hg)
  rw [strB_list, read_d _ _ _ _ _ _ (by omega), read_a _ _ _ _ _ _ (by omega), read_i _ _ _ _ _ _ (by omega), read_e _ _ _ _ _ _ (by omega), read_c _ _ _ _ _ _ (by omega)] at h
  exact h

instance goodL_dec (l : List UInt8) : Decidable (goodL l) := inferInstanceAs (Decidable (_ ∧ _ ∧ _ ∧ _))

/-- What Open gives. -/
def openV (d a i : Int) (s : ByteArray) : Value :=
  if validB d a i = false then .tuple #[.agg #[.int .i64 0, .int .i64 0], .string ⟨#[]⟩, .int .i64 1]
  else if s.size ≠ 64 then .tuple #[.agg #[.int .i64 0, .int .i64 0], .string ⟨#[]⟩, .int .i64 1]
  else if ¬ goodL s.data.toList then .tuple #[.agg #[.int .i64 0, .int .i64 0], .string ⟨#[]⟩, .int .i64 7]
  else if ((un (sub s.data.toList 5 6) : Nat) : Int) = d ∧ ((un (sub s.data.toList 4 5) : Nat) : Int) = a ∧ ((un (sub s.data.toList 6 8) : Nat) : Int) = i then
    .tuple #[.agg #[.int .i64 (un (sub s.data.toList 8 12) : Nat), .int .i64 (un (sub s.data.toList 12 16) : Nat)], .string (s.extract 16 56), .int .i64 0]
  else .tuple #[.agg #[.int .i64 0, .int .i64 0], .string ⟨#[]⟩, .int .i64 8]

theorem open_any (d a i : Int) (s : ByteArray) (w : World) :
    Calls Try.prog 28 #[.agg #[.int .i64 d, .int .i64 a, .int .i64 i], .string s] w fun x w' => x = .returned (openV d a i s) ∧ Below w.heap.size w w' := by
  by_cases hv : validB d a i = true
  · by_cases hs : s.size = 64
    · by_cases hg : goodL s.data.toList
      · by_cases he : ((un (sub s.data.toList 5 6) : Nat) : Int) = d ∧ ((un (sub s.data.toList 4 5) : Nat) : Int) = a ∧ ((un (sub s.data.toList 6 8) : Nat) : Int) = i
        · have e : openV d a i s = .tuple #[.agg #[.int .i64 (un (sub s.data.toList 8 12) : Nat), .int .i64 (un (sub s.data.toList 12 16) : Nat)], .string (s.extract 16 56), .int .i64 0] := by
            unfold openV; rw [if_neg (by simp [hv]), if_neg (by simp [hs]), if_neg (by simp [hg]), if_pos he]
          rw [e]
          have hL := label_ok s hs hg
          obtain ⟨e1, e2, e3⟩ := he
          rw [e1, e2, e3] at hL
          exact open_good d a i _ _ s w hs hv hL
        · have e : openV d a i s = .tuple #[.agg #[.int .i64 0, .int .i64 0], .string ⟨#[]⟩, .int .i64 8] := by
            unfold openV; rw [if_neg (by simp [hv]), if_neg (by simp [hs]), if_neg (by simp [hg]), if_neg he]
          rw [e]
          exact open_other _ _ _ d a i _ _ s w hv (label_ok s hs hg) he
      · have e : openV d a i s = .tuple #[.agg #[.int .i64 0, .int .i64 0], .string ⟨#[]⟩, .int .i64 7] := by
          unfold openV; rw [if_neg (by simp [hv]), if_neg (by simp [hs]), if_pos hg]
        rw [e]
        exact open_err d a i s 7 w hv (label_bad s hs hg) (.inr rfl)
    · have e : openV d a i s = .tuple #[.agg #[.int .i64 0, .int .i64 0], .string ⟨#[]⟩, .int .i64 1] := by
        unfold openV; rw [if_neg (by simp [hv]), if_pos hs]
      rw [e]
      exact open_err d a i s 1 w hv (label_len s hs) (.inl rfl)
  · have hv2 : validB d a i = false := by simpa using hv
    have e : openV d a i s = .tuple #[.agg #[.int .i64 0, .int .i64 0], .string ⟨#[]⟩, .int .i64 1] := by
      unfold openV; rw [if_pos hv2]
    rw [e]
    exact open_arg d a i s w hv2

theorem openV_arg {d a i : Int} {s : ByteArray} (hv : validB d a i = false) : openV d a i s = .tuple #[.agg #[.int .i64 0, .int .i64 0], .string ⟨#[]⟩, .int .i64 1] := by
  unfold openV; rw [if_pos hv]
theorem openV_bad {d a i : Int} {s : ByteArray} (hv : validB d a i = true) (hs : s.size = 64) (hg : ¬ goodL s.data.toList) : openV d a i s = .tuple #[.agg #[.int .i64 0, .int .i64 0], .string ⟨#[]⟩, .int .i64 7] := by
  unfold openV; rw [if_neg (by simp [hv]), if_neg (by simp [hs]), if_pos hg]
theorem openV_len {d a i : Int} {s : ByteArray} (hv : validB d a i = true) (hs : s.size ≠ 64) : openV d a i s = .tuple #[.agg #[.int .i64 0, .int .i64 0], .string ⟨#[]⟩, .int .i64 1] := by
  unfold openV; rw [if_neg (by simp [hv]), if_pos hs]

/-- A sealed sector, opened at its place; at another place. -/
theorem openV_seal (d a i e c : Nat) (p : List UInt8) (hp : p.length ≤ 40) (hv : validB d a i = true) (hg : genV e c = true) :
    openV d a i (strB (sealB d a i e c p)) = .tuple #[.agg #[.int .i64 e, .int .i64 c], .string (strB (pad p)), .int .i64 0] := by
  have h1 := (validB_iff d a i).1 hv
  have h2 := (genV_iff e c).1 hg
  have hx : (strB (sealB d a i e c p)).extract 16 56 = strB (pad p) := by
    rw [← strB_self ((strB (sealB d a i e c p)).extract 16 56), sub_ext, strB_list, seal_pay _ _ _ _ _ _ hp]
  unfold openV
  rw [if_neg (by simp [hv]), if_neg (by simp [strB_size, sealB_length _ _ _ _ _ _ hp]), if_neg (by rw [strB_list]; exact fun h => h (seal_goodL d a i e c p hp hv hg)), if_pos, hx, strB_list, read_e _ _ _ _ _ _ (by omega), read_c _ _ _ _ _ _ (by omega)]
  rw [strB_list, read_d _ _ _ _ _ _ (by omega), read_a _ _ _ _ _ _ (by omega), read_i _ _ _ _ _ _ (by omega)]
  exact ⟨rfl, rfl, rfl⟩
theorem openV_else (d a i e c : Nat) (D A I : Int) (p : List UInt8) (hp : p.length ≤ 40) (hv : validB d a i = true) (hg : genV e c = true) (hV : validB D A I = true) (hne : ¬ ((d : Int) = D ∧ (a : Int) = A ∧ (i : Int) = I)) :
    openV D A I (strB (sealB d a i e c p)) = .tuple #[.agg #[.int .i64 0, .int .i64 0], .string ⟨#[]⟩, .int .i64 8] := by
  have h1 := (validB_iff d a i).1 hv
  unfold openV
  rw [if_neg (by simp [hV]), if_neg (by simp [strB_size, sealB_length _ _ _ _ _ _ hp]), if_neg (by rw [strB_list]; exact fun h => h (seal_goodL d a i e c p hp hv hg)), if_neg]
  rw [strB_list, read_d _ _ _ _ _ _ (by omega), read_a _ _ _ _ _ _ (by omega), read_i _ _ _ _ _ _ (by omega)]
  exact hne

theorem open_badB (d a i : Int) (l : List UInt8) (hv : validB d a i = true) (hl : l.length = 64) (hg : ¬ goodL l) : openV d a i (strB l) = .tuple #[.agg #[.int .i64 0, .int .i64 0], .string ⟨#[]⟩, .int .i64 7] :=
  openV_bad hv (by rw [strB_size]; exact hl) (by rw [strB_list]; exact hg)
end Go.Proofs.Ytiakaloabeendaa
