/- What a sealed sector reads as. -/
import Derived.Test.YtiakaloabeendaaSOpen
namespace Go.Proofs.Ytiakaloabeendaa
open Go.RowKit

theorem sub_sub (l : List UInt8) (i j a b : Nat) (h : i + b ≤ j) : sub (sub l i j) a b = sub l (i + a) (i + b) := by
  unfold sub
  rw [List.drop_take, List.take_take, List.drop_drop]
  congr 1
  omega

theorem read_a (d a i e c : Nat) (p : List UInt8) (ha : a < 256) : un (sub (sealB d a i e c p) 4 5) = a := by
  have h := sub_sub (sealB d a i e c p) 4 8 0 1 (by omega)
  rw [seal_place] at h
  rw [← h]
  simp [placeB, sub, un]
  omega
theorem read_d (d a i e c : Nat) (p : List UInt8) (hd : d < 256) : un (sub (sealB d a i e c p) 5 6) = d := by
  have h := sub_sub (sealB d a i e c p) 4 8 1 2 (by omega)
  rw [seal_place] at h
  rw [← h]
  simp [placeB, sub, un]
  omega
theorem read_i (d a i e c : Nat) (p : List UInt8) (hi : i < 65536) : un (sub (sealB d a i e c p) 6 8) = i := by
  have h := sub_sub (sealB d a i e c p) 4 8 2 4 (by omega)
  rw [seal_place] at h
  rw [← h]
  have : sub (placeB d a i) 2 4 = le 2 i := by simp [placeB, sub, List.take_of_length_le, le_length]
  rw [this, un_le 2 _ (by simpa using hi)]
theorem read_e (d a i e c : Nat) (p : List UInt8) (he : e < 4294967296) : un (sub (sealB d a i e c p) 8 12) = e := by
  have h := sub_sub (sealB d a i e c p) 8 16 0 4 (by omega)
  rw [seal_gen] at h
  rw [← h]
  have : sub (genB e c) 0 4 = le 4 e := by simp [genB, sub, le_length]
  rw [this, un_le 4 _ (by simpa using he)]
theorem read_c (d a i e c : Nat) (p : List UInt8) (hc : c < 4294967296) : un (sub (sealB d a i e c p) 12 16) = c := by
  have h := sub_sub (sealB d a i e c p) 8 16 4 8 (by omega)
  rw [seal_gen] at h
  rw [← h]
  have : sub (genB e c) 4 8 = le 4 c := by simp [genB, sub, le_length, List.take_of_length_le]
  rw [this, un_le 4 _ (by simpa using hc)]

theorem valid_nat {d a i : Int} (h : validB d a i = true) : ∃ D A I : Nat, d = D ∧ a = A ∧ i = I ∧ D < 64 ∧ 1 ≤ A ∧ A ≤ 4 ∧ I < 65536 := by
  have := (validB_iff d a i).1 h
  exact ⟨d.toNat, a.toNat, i.toNat, by omega, by omega, by omega, by omega, by omega, by omega, by omega⟩
theorem gen_nat {e c : Int} (h : genV e c = true) : ∃ E C : Nat, e = E ∧ c = C ∧ E < 4294967296 ∧ C < 4294967296 ∧ ¬ (E = 0 ∧ C = 0) := by
  have := (genV_iff e c).1 h
  exact ⟨e.toNat, c.toNat, by omega, by omega, by omega, by omega, by omega⟩
end Go.Proofs.Ytiakaloabeendaa
