/- The iterators: fingerprint.Twins, solventlaw04.twins. -/
import Derived.Test.YtiakaloabeendaaDoorRange
namespace Go.Proofs.YtiakaloabeendaaDoor
open Go.RowKit Go.Shelf
attribute [local go_sem] Oper.semAt_some

/-- The twins of all numbers, in order. -/
def twinsL (s : ByteArray) : List ByteArray := (List.range (spaceI s.size).toNat).map fun k => strB (twinB s.data.toList k)
theorem twinsL_length (s : ByteArray) : (twinsL s).length = (spaceI s.size).toNat := by simp [twinsL]
theorem twinsL_get (s : ByteArray) (k : Nat) (h : k < (twinsL s).length) : (twinsL s).getD k noB = strB (twinB s.data.toList k) := by
  rw [twinsL_length] at h
  simp [twinsL, h]
theorem space_nn (n : Nat) : 0 ≤ spaceI n ∧ spaceI n ≤ 16000 := by unfold spaceI; split <;> omega

theorem keep_row {M : Nat → Prop} {A B : World} (h : Keep M A B) {b : Nat} {o : Obj} (hb : ¬ M b) (ho : A.heap[b]? = some o) : B.heap[b]? = some o :=
  (h.block b (Array.getElem?_eq_some_iff.1 ho).1 hb).trans ho
theorem keep_exp {M : Nat → Prop} {A B : World} (h : Keep M A B) (hb : ¬ M 0) (ho : ExpW A) : ExpW B := by
  obtain ⟨t, fz, ho⟩ := ho
  exact ⟨t, fz, keep_row h hb ho⟩

set_option maxRecDepth 100000 in
set_option maxHeartbeats 4000000 in
/-- fingerprint.Twins$1: the twins of all numbers come, in order. -/
theorem twins1_gives (s : ByteArray) (b : Nat) (t : TypeId) (W : World) (hb : W.heap[b]? = some (.cells #[.string s] t (0, 0))) (hE : ExpW W) :
    Gives 20 #[.pointer (some ⟨b, 0, none⟩)] (twinsL s) (fun j => j = 0 ∨ j = b) W := by
  intro m l M J Jx hM hJ hJx hY h0
  have HB := Lib.hid hb
  have HE := Lib.hid hE
  have HM := Lib.hid hM
  have HJ := Lib.hid hJ
  have HY := Lib.hid hY
  have HL := Lib.hid (twinsL_length s)
  have H0 := Lib.hid h0
  clear hb hE hM hJ hJx hY h0
  refine callsIn_of_wp Tryd.func20 rfl trivial ?_ rfl
  simp only [Tryd.ntmps20, List.size_toArray, List.length_cons, List.length_nil, Nat.reduceAdd, Nat.reduceSub, Array.replicate_succ, Array.replicate_zero, List.push_toArray, List.append_toArray, List.nil_append, List.cons_append]
  have c0 : W.cell? ⟨b, 0, none⟩ = some (.string s) := by unfold World.cell?; rw [HB.out]; rfl
  gi_wp2
  refine ⟨trivial, fun h => (by cases h), ?_⟩
  refine (callsIn_wide.2 (space_any _ _)).mono ?_
  rintro e w' ⟨rfl, rfl⟩
  have hsp := space_nn s.size
  have HSP := Lib.hid hsp
  have HG := Lib.hid (twinsL_get s)
  have HTW := Lib.hid (twin_good s)
  obtain ⟨N, hN⟩ : ∃ N : Nat, spaceI (s.size : Int) = (N : Int) := ⟨(spaceI s.size).toNat, by omega⟩
  have HN : Hid ((twinsL s).length = N) := Lib.hid (by rw [HL.out, hN]; rfl)
  have HT : Hid (∀ k : Nat, k < N → ∀ A, ExpW A → Calls Tryd.prog 9 #[.string s, .int .i64 k] A fun e w' => e = .returned (.tuple #[.string (strB (twinB s.data.toList k)), .int .i64 0]) ∧ Below A.heap.size A w') := Lib.hid (fun k hk A hA => HTW.out k A hA (by rw [hN]; omega))
  have hN2 : N ≤ 16000 := by omega
  rw [hN]
  clear hsp HSP hN HTW
  have HN2 := Lib.hid hN2
  clear hN2
  gi_wp2
  gi_loopw [9] (fun i wr => ∃ k : Nat, k ≤ N ∧ i = .int .i64 k ∧ J k wr ∧ Keep M w' wr) (fun i _ => N - (intOf i).toNat)
  case atStart => exact ⟨0, Nat.zero_le _, rfl, H0.out, Keep.refl _ _⟩
  case round =>
    obtain ⟨k, hk, rfl, hj, hkeep⟩ := hrel
    have HJk := Lib.hid hj
    have HK := Lib.hid hkeep
    clear hj hkeep
    have hBr : wr.heap[b]? = some (.cells #[.string s] t (0, 0)) := keep_row HK.out (fun h => (HM.out _ h).2 (.inr rfl)) HB.out
    have HEr := Lib.hid (keep_exp HK.out (fun h => (HM.out _ h).2 (.inl rfl)) HE.out)
    have c1 : wr.cell? ⟨b, 0, none⟩ = some (.string s) := by unfold World.cell?; rw [hBr]; rfl
    clear hBr c0
    by_cases hlt : k < N
    · have HLT := Lib.hid hlt
      have hd : decide ((k : Int) < (N : Int)) = true := by simp; omega
      have h15 : (k : Int) < 9223372036854775807 := by have := HN2.out; omega
      gi_wp2
      refine ⟨trivial, fun h => (by cases h), ?_⟩
      refine (callsIn_wide.2 (HT.out k HLT.out wr HEr.out)).mono ?_
      rintro e w2 ⟨rfl, hb2⟩
      have K2 := Lib.hid (HK.out.trans (Keep.of_below hb2))
      have HJ2 := Lib.hid (HJ.out k wr w2 HJk.out (hb2.mono HK.out.size))
      have hy0 := HY.out k w2 (by rw [HN.out]; exact HLT.out) HJ2.out K2.out.size
      rw [HG.out k (by rw [HN.out]; exact HLT.out)] at hy0
      generalize strB (twinB s.data.toList k) = T at *
      obtain ⟨fn, tmps, assign, body, hy, hR⟩ := hy0
      clear hb2 HJk HEr c1
      gi_wp2
      refine ⟨fun h => (by cases h), (roundAny hR).mono ?_⟩
      clear hR hy
      rintro e w3 ⟨hK3, (⟨rfl, hj3⟩ | ⟨rfl, hj3⟩)⟩
      · have K3 := Lib.hid (K2.out.trans hK3)
        have J3 := Lib.hid hj3
        clear hK3 hj3
        gi_wp2
        go_roundw
        case rel => exact ⟨k + 1, by have := HLT.out; omega, by go_num, J3.out, K3.out⟩
        case measure => have := HLT.out; simp [intOf]; omega
      · have K3 := Lib.hid (K2.out.trans hK3)
        have J3 := Lib.hid hj3
        clear hK3 hj3
        gi_wp2
        refine bodyPost_ret (results_none rfl _ _ _) rfl ?_
        exact ⟨⟨_, rfl⟩, K3.out, .inr ⟨k + 1, by rw [HN.out]; have := HLT.out; omega, J3.out⟩⟩
    · obtain rfl : k = N := by omega
      have hd : decide ((k : Int) < (k : Int)) = false := by simp
      gi_wp2
      go_end0
      exact ⟨⟨_, rfl⟩, HK.out, .inl (by rw [HN.out]; exact HJk.out)⟩
end Go.Proofs.YtiakaloabeendaaDoor
