/- The walks of solventlaw04.PrintInvolution, PrintCommutes. -/
import Derived.Test.YtiakaloabeendaaDoorLawPrint
namespace Go.Proofs.YtiakaloabeendaaDoor
open Go.RowKit

/-- What Twin gives. -/
def twinV (s : ByteArray) (k : Int) : Value := if k < 0 ∨ spaceI s.size ≤ k then .tuple #[.string ⟨#[]⟩, .int .i64 1] else .tuple #[.string (strB (twinB s.data.toList k.toNat)), .int .i64 0]
theorem twin_any (s : ByteArray) (k : Int) (w : World) (hE : ExpW w) : Calls Tryd.prog 9 #[.string s, .int .i64 k] w fun e w' => e = .returned (twinV s k) ∧ Below w.heap.size w w' := by
  unfold twinV
  by_cases h : k < 0 ∨ spaceI s.size ≤ k
  · rw [if_pos h]
    exact (twin_arg s k w h).mono (by rintro e w' ⟨rfl, rfl⟩; exact ⟨rfl, Below.refl _ _⟩)
  · rw [if_neg h]
    obtain ⟨k, rfl⟩ := Int.eq_ofNat_of_zero_le (show 0 ≤ k by omega)
    exact twin_good s k w hE (by omega)
theorem twinV_bad {s : ByteArray} {k : Int} (h : k < 0 ∨ spaceI s.size ≤ k) : twinV s k = .tuple #[.string ⟨#[]⟩, .int .i64 1] := if_pos h
theorem twinV_good {s : ByteArray} {k : Nat} (h : (k : Int) < spaceI s.size) : twinV s k = .tuple #[.string (strB (twinB s.data.toList k)), .int .i64 0] := by
  unfold twinV; rw [if_neg (by omega)]; rfl

set_option maxRecDepth 100000 in
set_option maxHeartbeats 1000000 in
theorem involution_walk (s : ByteArray) (k j : Int) (w : World) (hE : ExpW w) : Calls Tryd.prog 4 #[.string s, .int .i64 k, .int .i64 j] w fun e w' => e = .returned (.bool true) ∧ Below w.heap.size w w' := by
  have T0 : Hid (EB w w) := Lib.hid ⟨hE, Below.refl _ _⟩
  clear hE
  by_cases hs : 300 < (s.size : Int)
  · go_enter Tryd.func4, Tryd.ntmps4
    go_wp2_with fail
    refine (sanity4_any _ T0.out.1).mono ?_
    rintro e w1 ⟨rfl, hb⟩
    have T1 := Lib.hid (T0.out.step hb)
    clear hb
    go_wp2_with fail
    go_ret
    exact ⟨rfl, T1.out.2⟩
  · by_cases hk : k < 0 ∨ spaceI s.size ≤ k
    · have e1 := twinV_bad hk
      obtain ⟨U, n, hU⟩ : ∃ U n, twinV s j = .tuple #[.string U, .int .i64 n] := by unfold twinV; split <;> exact ⟨_, _, rfl⟩
      have E1 := Lib.hid e1
      have EU := Lib.hid hU
      clear hk e1 hU
      go_enter Tryd.func4, Tryd.ntmps4
      go_wp2_with fail
      refine (twin_any s k _ T0.out.1).mono ?_
      rintro e w1 ⟨rfl, hb⟩
      rw [E1.out]
      have T1 := Lib.hid (T0.out.step hb)
      clear hb
      go_wp2_with fail
      refine (twin_any s j _ T1.out.1).mono ?_
      rintro e w2 ⟨rfl, hb⟩
      rw [EU.out]
      have T2 := Lib.hid (T1.out.step hb)
      clear hb
      go_wp2_with fail
      refine (sanity4_any _ T2.out.1).mono ?_
      rintro e w3 ⟨rfl, hb⟩
      have T3 := Lib.hid (T2.out.step hb)
      clear hb
      go_wp2_with fail
      go_ret
      exact ⟨rfl, T3.out.2⟩
    · obtain ⟨k, rfl⟩ := Int.eq_ofNat_of_zero_le (show 0 ≤ k by omega)
      have hlt : (k : Int) < spaceI s.size := by omega
      obtain ⟨hp, hp2⟩ := space_pos hlt
      have hpl : k + 32 < 8 * s.data.toList.length := by simpa using hp
      have E1 := Lib.hid (twinV_good hlt)
      have hsz : (strB (twinB s.data.toList k)).size = s.size := by rw [strB_size, twinB_length]; simp
      have E2 : Hid (twinV (strB (twinB s.data.toList k)) k = .tuple #[.string s, .int .i64 0]) := Lib.hid (by
        rw [twinV_good (by rw [hsz]; exact hlt), strB_list, twin_twin _ _ hpl, strB_self])
      by_cases hj : j < 0 ∨ spaceI s.size ≤ j
      · have E3 := Lib.hid (twinV_bad hj)
        generalize strB (twinB s.data.toList k) = T at *
        clear hk hlt hp hp2 hpl hsz hj
        go_enter Tryd.func4, Tryd.ntmps4
        go_wp2_with fail
        refine (twin_any s k _ T0.out.1).mono ?_
        rintro e w1 ⟨rfl, hb⟩
        rw [E1.out]
        have T1 := Lib.hid (T0.out.step hb)
        clear hb
        go_wp2_with fail
        refine (twin_any s j _ T1.out.1).mono ?_
        rintro e w2 ⟨rfl, hb⟩
        rw [E3.out]
        have T2 := Lib.hid (T1.out.step hb)
        clear hb
        go_wp2_with fail
        refine (twin_any T k _ T2.out.1).mono ?_
        rintro e w3 ⟨rfl, hb⟩
        rw [E2.out]
        have T3 := Lib.hid (T2.out.step hb)
        clear hb
        go_wp2_with fail
        refine (sanity4_any _ T3.out.1).mono ?_
        rintro e w4 ⟨rfl, hb⟩
        have T4 := Lib.hid (T3.out.step hb)
        clear hb
        go_wp2_with fail
        go_ret
        exact ⟨rfl, T4.out.2⟩
      · obtain ⟨j, rfl⟩ := Int.eq_ofNat_of_zero_le (show 0 ≤ j by omega)
        have hltj : (j : Int) < spaceI s.size := by omega
        obtain ⟨hq, _⟩ := space_pos hltj
        have hql : j + 32 < 8 * s.data.toList.length := by simpa using hq
        have E3 := Lib.hid (twinV_good hltj)
        have heq : ((strB (twinB s.data.toList k)).toList == (strB (twinB s.data.toList j)).toList) = ((k : Int) == (j : Int)) := by
          rw [ByteArray.toList_eq, ByteArray.toList_eq, strB_list, strB_list, Bool.eq_iff_iff, beq_iff_eq, beq_iff_eq, twin_inj _ hpl hql]
          omega
        generalize strB (twinB s.data.toList k) = T at *
        generalize strB (twinB s.data.toList j) = U at *
        have HQ := Lib.hid heq
        clear hk hlt hp hp2 hpl hsz hj hltj hq hql heq
        go_enter Tryd.func4, Tryd.ntmps4
        go_wp2_with fail
        refine (twin_any s k _ T0.out.1).mono ?_
        rintro e w1 ⟨rfl, hb⟩
        rw [E1.out]
        have T1 := Lib.hid (T0.out.step hb)
        clear hb
        go_wp2_with fail
        refine (twin_any s j _ T1.out.1).mono ?_
        rintro e w2 ⟨rfl, hb⟩
        rw [E3.out]
        have T2 := Lib.hid (T1.out.step hb)
        clear hb
        go_wp2_with fail
        refine (twin_any T k _ T2.out.1).mono ?_
        rintro e w3 ⟨rfl, hb⟩
        rw [E2.out]
        have T3 := Lib.hid (T2.out.step hb)
        clear hb
        go_wp2_with fail
        refine (sanity4_any _ T3.out.1).mono ?_
        rintro e w4 ⟨rfl, hb⟩
        have T4 := Lib.hid (T3.out.step hb)
        have hfin : ((T.toList == U.toList) == ((k : Int) == (j : Int))) = true := by rw [HQ.out]; exact beq_self_eq_true _
        clear hb
        go_wp2_with fail
        go_ret
        exact ⟨rfl, T4.out.2⟩

set_option maxRecDepth 100000 in
set_option maxHeartbeats 1000000 in
theorem commutes_bad (s : ByteArray) (k j : Int) (w : World) (hE : ExpW w) (h : 300 < (s.size : Int) ∨ k < 0 ∨ spaceI s.size ≤ k ∨ j < 0 ∨ spaceI s.size ≤ j) : Calls Tryd.prog 5 #[.string s, .int .i64 k, .int .i64 j] w fun e w' => e = .returned (.bool true) ∧ Below w.heap.size w w' := by
  have T0 : Hid (EB w w) := Lib.hid ⟨hE, Below.refl _ _⟩
  clear hE
  by_cases h0 : 300 < (s.size : Int)
  · go_enter Tryd.func5, Tryd.ntmps5
    go_wp2_with fail
    refine (sanity4_any _ T0.out.1).mono ?_
    rintro e w1 ⟨rfl, hb⟩
    have T1 := Lib.hid (T0.out.step hb)
    clear hb
    go_wp2_with fail
    go_ret
    exact ⟨rfl, T1.out.2⟩
  · by_cases h1 : k < 0
    · clear h
      go_enter Tryd.func5, Tryd.ntmps5
      go_wp2_with fail
      refine (sanity4_any _ T0.out.1).mono ?_
      rintro e w1 ⟨rfl, hb⟩
      have T1 := Lib.hid (T0.out.step hb)
      clear hb
      go_wp2_with fail
      go_ret
      exact ⟨rfl, T1.out.2⟩
    · have hh := (h.resolve_left h0).resolve_left h1
      have HH := Lib.hid hh
      have d0 : decide (300 < (s.size : Int)) = false := by simp; omega
      have d1 : decide (k < 0) = false := by simp; omega
      clear h hh h0 h1
      go_enter Tryd.func5, Tryd.ntmps5
      go_wp2_with fail
      refine (rspace_any _ _).mono ?_
      rintro e w1 ⟨rfl, rfl⟩
      generalize hsp : spaceI (s.size : Int) = sp at *
      have HSP := Lib.hid hsp
      clear hsp
      by_cases h2 : sp ≤ k
      · go_wp2_with fail
        refine (sanity4_any _ T0.out.1).mono ?_
        rintro e w2 ⟨rfl, hb⟩
        have T1 := Lib.hid (T0.out.step hb)
        clear hb
        go_wp2_with fail
        go_ret
        exact ⟨rfl, T1.out.2⟩
      · by_cases h3 : j < 0
        · go_wp2_with fail
          refine (sanity4_any _ T0.out.1).mono ?_
          rintro e w2 ⟨rfl, hb⟩
          have T1 := Lib.hid (T0.out.step hb)
          clear hb
          go_wp2_with fail
          go_ret
          exact ⟨rfl, T1.out.2⟩
        · have h4 : decide (sp ≤ j) = true := by have := (HH.out.resolve_left h2).resolve_left h3; simp; omega
          have d2 : decide (sp ≤ k) = false := by simp; omega
          have d3 : decide (j < 0) = false := by simp; omega
          clear h2 h3 HH
          go_wp2_with fail
          refine (rspace_any _ _).mono ?_
          rintro e w2 ⟨rfl, rfl⟩
          rw [HSP.out]
          go_wp2_with fail
          refine (sanity4_any _ T0.out.1).mono ?_
          rintro e w2 ⟨rfl, hb⟩
          have T1 := Lib.hid (T0.out.step hb)
          clear hb
          go_wp2_with fail
          go_ret
          exact ⟨rfl, T1.out.2⟩

set_option maxRecDepth 100000 in
set_option maxHeartbeats 1000000 in
theorem commutes_good (s : ByteArray) (k j : Nat) (w : World) (hE : ExpW w) (hs : ¬ 300 < (s.size : Int)) (hk : (k : Int) < spaceI s.size) (hj : (j : Int) < spaceI s.size) : Calls Tryd.prog 5 #[.string s, .int .i64 k, .int .i64 j] w fun e w' => e = .returned (.bool true) ∧ Below w.heap.size w w' := by
  have T0 : Hid (EB w w) := Lib.hid ⟨hE, Below.refl _ _⟩
  clear hE
  obtain ⟨hp, -⟩ := space_pos hk
  obtain ⟨hq, -⟩ := space_pos hj
  have hpl : k + 32 < 8 * s.data.toList.length := by simpa using hp
  have hql : j + 32 < 8 * s.data.toList.length := by simpa using hq
  have z1 : (strB (twinB s.data.toList k)).size = s.size := by rw [strB_size, twinB_length]; simp
  have z2 : (strB (twinB s.data.toList j)).size = s.size := by rw [strB_size, twinB_length]; simp
  have E1 := Lib.hid (twinV_good hk)
  have E2 := Lib.hid (twinV_good hj)
  have E3 : Hid (twinV (strB (twinB s.data.toList k)) j = .tuple #[.string (strB (twinB (twinB s.data.toList k) j)), .int .i64 0]) := Lib.hid (by rw [twinV_good (by rw [z1]; exact hj), strB_list])
  have E4 : Hid (twinV (strB (twinB s.data.toList j)) k = .tuple #[.string (strB (twinB (twinB s.data.toList k) j)), .int .i64 0]) := Lib.hid (by rw [twinV_good (by rw [z2]; exact hk), strB_list, twin_comm _ _ _ hpl hql])
  have hof : Hid (∀ W, Calls Tryd.prog 11 #[.string (strB (twinB (twinB s.data.toList k) j))] W fun e w' => e = .returned (.int .u32 (rg (crcB s.data.toList))) ∧ Below W.heap.size W w') := Lib.hid (fun W => by
    have h := ofS_any (strB (twinB (twinB s.data.toList k) j)) (by rw [strB_size, twinB_length, twinB_length]; simp; omega) W
    rw [strB_list, crc_twin _ _ (by rw [twinB_length]; exact hql), crc_twin _ _ hpl] at h
    exact h)
  have hof2 : Hid (∀ W, Calls Tryd.prog 11 #[.string s] W fun e w' => e = .returned (.int .u32 (rg (crcB s.data.toList))) ∧ Below W.heap.size W w') := Lib.hid (fun W => ofS_any s (by omega) W)
  have d0 : decide ((k : Int) < 0) = false := by simp
  have d1 : decide ((j : Int) < 0) = false := by simp
  have d2 : decide (spaceI (s.size : Int) ≤ (k : Int)) = false := by simp; omega
  have d3 : decide (spaceI (s.size : Int) ≤ (j : Int)) = false := by simp; omega
  have d4 : decide (300 < (s.size : Int)) = false := by simp; omega
  generalize hT1 : strB (twinB s.data.toList k) = A1 at *
  generalize hT2 : strB (twinB s.data.toList j) = A2 at *
  generalize hT3 : strB (twinB (twinB s.data.toList k) j) = A3 at *
  generalize hsp : spaceI (s.size : Int) = sp at *
  have HSP := Lib.hid hsp
  clear hk hj hp hq hpl hql z1 z2 hs hT1 hT2 hT3 hsp
  go_enter Tryd.func5, Tryd.ntmps5
  go_wp2_with fail
  refine (rspace_any _ _).mono ?_
  rintro e w1 ⟨rfl, rfl⟩
  rw [HSP.out]
  go_wp2_with fail
  refine (rspace_any _ _).mono ?_
  rintro e w2 ⟨rfl, rfl⟩
  rw [HSP.out]
  go_wp2_with fail
  refine (twin_any s k _ T0.out.1).mono ?_
  rintro e w1 ⟨rfl, hb⟩
  rw [E1.out]
  have T1 := Lib.hid (T0.out.step hb)
  clear hb
  go_wp2_with fail
  refine (twin_any A1 j _ T1.out.1).mono ?_
  rintro e w2 ⟨rfl, hb⟩
  rw [E3.out]
  have T2 := Lib.hid (T1.out.step hb)
  clear hb
  go_wp2_with fail
  refine (twin_any s j _ T2.out.1).mono ?_
  rintro e w3 ⟨rfl, hb⟩
  rw [E2.out]
  have T3 := Lib.hid (T2.out.step hb)
  clear hb
  go_wp2_with fail
  refine (twin_any A2 k _ T3.out.1).mono ?_
  rintro e w4 ⟨rfl, hb⟩
  rw [E4.out]
  have T4 := Lib.hid (T3.out.step hb)
  clear hb
  go_wp2_with fail
  refine (sanity4_any _ T4.out.1).mono ?_
  rintro e w5 ⟨rfl, hb⟩
  have T5 := Lib.hid (T4.out.step hb)
  clear hb
  go_wp2_with fail
  refine (hof.out _).mono ?_
  rintro e w6 ⟨rfl, hb⟩
  have T6 := Lib.hid (T5.out.step hb)
  clear hb
  go_wp2_with fail
  refine (hof2.out _).mono ?_
  rintro e w7 ⟨rfl, hb⟩
  have T7 := Lib.hid (T6.out.step hb)
  clear hb
  generalize rg (crcB s.data.toList) = cr at *
  go_wp2_with fail
  go_ret
  exact ⟨rfl, T7.out.2⟩

theorem commutes_walk (s : ByteArray) (k j : Int) (w : World) (hE : ExpW w) : Calls Tryd.prog 5 #[.string s, .int .i64 k, .int .i64 j] w fun e w' => e = .returned (.bool true) ∧ Below w.heap.size w w' := by
  by_cases h : 300 < (s.size : Int) ∨ k < 0 ∨ spaceI s.size ≤ k ∨ j < 0 ∨ spaceI s.size ≤ j
  · exact commutes_bad s k j w hE h
  · obtain ⟨k, rfl⟩ := Int.eq_ofNat_of_zero_le (show 0 ≤ k by omega)
    obtain ⟨j, rfl⟩ := Int.eq_ofNat_of_zero_le (show 0 ≤ j by omega)
    exact commutes_good s k j w hE (by omega) (by omega) (by omega)
end Go.Proofs.YtiakaloabeendaaDoor
