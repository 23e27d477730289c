/- The walks of solventlaw04.PrintCollides, PrintInvolution, PrintCommutes. -/
import Derived.Test.YtiakaloabeendaaDoorSanity4
namespace Go.Proofs.YtiakaloabeendaaDoor
open Go.RowKit

set_option maxRecDepth 100000 in
set_option maxHeartbeats 400000 in
theorem rspace_any (n : Int) (w : World) : Calls Tryd.prog 12 #[.int .i64 n] w fun e w' => e = .returned (.int .i64 (spaceI n)) ∧ w' = w := by
  by_cases h1 : n < 5
  · have hv : Hid (spaceI n = 0) := Lib.hid (by unfold spaceI; split <;> omega)
    go_enter Tryd.func12, Tryd.ntmps12
    go_wp2
    go_ret
    exact ⟨by rw [hv.out]; rfl, rfl⟩
  · by_cases h2 : 2000 < n
    · have hv : Hid (spaceI n = 0) := Lib.hid (by simp [spaceI, h2])
      go_enter Tryd.func12, Tryd.ntmps12
      go_wp2
      go_ret
      exact ⟨by rw [hv.out]; rfl, rfl⟩
    · have hv : Hid (spaceI n = 8 * n - 32) := Lib.hid (by unfold spaceI; split <;> omega)
      go_enter Tryd.func12, Tryd.ntmps12
      go_wp2
      go_ret
      exact ⟨by rw [hv.out]; rfl, rfl⟩

theorem space_pos {n : Nat} {k : Nat} (h : (k : Int) < spaceI n) : k + 32 < 8 * n ∧ n ≤ 2000 := by unfold spaceI at h; split at h <;> omega

/-- Nothing has turned, and the exponents lie. -/
def EB (w x : World) : Prop := ExpW x ∧ Below w.heap.size w x
theorem EB.step {w x y : World} (h : EB w x) (hb : Below x.heap.size x y) : EB w y := ⟨h.1.below hb, h.2.trans (hb.mono h.2.size)⟩

set_option maxRecDepth 100000 in
set_option maxHeartbeats 1000000 in
theorem collides_walk (s : ByteArray) (k : Int) (w : World) (hE : ExpW w) : Calls Tryd.prog 3 #[.string s, .int .i64 k] w fun e w' => e = .returned (.bool true) ∧ Below w.heap.size w w' := by
  have T0 : Hid (EB w w) := Lib.hid ⟨hE, Below.refl _ _⟩
  clear hE
  by_cases hs : 300 < (s.size : Int)
  · go_enter Tryd.func3, Tryd.ntmps3
    go_wp2_with fail
    refine (sanity4_any _ T0.out.1).mono ?_
    rintro e w1 ⟨rfl, hb⟩
    have T1 := Lib.hid (T0.out.step hb)
    clear hb
    go_wp2_with fail
    go_ret
    exact ⟨rfl, T1.out.2⟩
  · by_cases hk : k < 0 ∨ spaceI s.size ≤ k
    · have HK := Lib.hid hk
      clear hk
      go_enter Tryd.func3, Tryd.ntmps3
      go_wp2_with fail
      refine (twin_arg s k _ HK.out).mono ?_
      rintro e w1 ⟨rfl, rfl⟩
      go_wp2_with fail
      refine (sanity4_any _ T0.out.1).mono ?_
      rintro e w2 ⟨rfl, hb⟩
      have T1 := Lib.hid (T0.out.step hb)
      clear hb
      by_cases h0 : k < 0
      · have d0 : decide (0 ≤ k) = false := by simp; omega
        go_wp2_with fail
        go_ret
        exact ⟨rfl, T1.out.2⟩
      · have d0 : decide (0 ≤ k) = true := by simp; omega
        have d1 : decide (k < spaceI (s.size : Int)) = false := by have := HK.out; simp; omega
        clear h0 hs
        go_wp2_with fail
        refine (space_any _ _).mono ?_
        rintro e w3 ⟨rfl, rfl⟩
        generalize spaceI (s.size : Int) = sp at *
        go_wp2_with fail
        go_ret
        exact ⟨rfl, T1.out.2⟩
    · obtain ⟨k, rfl⟩ := Int.eq_ofNat_of_zero_le (show 0 ≤ k by omega)
      have hlt : (k : Int) < spaceI s.size := by omega
      obtain ⟨hp, hp2⟩ := space_pos hlt
      have hpl : k + 32 < 8 * s.data.toList.length := by simpa using hp
      have HTw := Lib.hid (twin_good s k w T0.out.1 hlt)
      have hne : ((strB (twinB s.data.toList k)).toList == s.toList) = false := by
        rw [ByteArray.toList_eq, ByteArray.toList_eq, strB_list]; exact beq_eq_false_iff_ne.2 (twin_ne _ _ hpl)
      have hsz : (strB (twinB s.data.toList k)).size = s.size := by rw [strB_size, twinB_length]; simp
      have hof : Hid (∀ W, Calls Tryd.prog 11 #[.string (strB (twinB s.data.toList k))] W fun e w' => e = .returned (.int .u32 (rg (crcB s.data.toList))) ∧ Below W.heap.size W w') := Lib.hid (fun W => by
        have h := ofS_any (strB (twinB s.data.toList k)) (by rw [hsz]; omega) W
        rw [strB_list, crc_twin _ _ hpl] at h
        exact h)
      have hof2 : Hid (∀ W, Calls Tryd.prog 11 #[.string s] W fun e w' => e = .returned (.int .u32 (rg (crcB s.data.toList))) ∧ Below W.heap.size W w') := Lib.hid (fun W => ofS_any s (by omega) W)
      have d0 : decide (0 ≤ (k : Int)) = true := by simp
      have d1 : decide ((k : Int) < spaceI (s.size : Int)) = true := by simp; omega
      generalize strB (twinB s.data.toList k) = T at *
      clear hk hlt hp hp2 hpl
      go_enter Tryd.func3, Tryd.ntmps3
      go_wp2_with fail
      refine HTw.out.mono ?_
      rintro e w1 ⟨rfl, hb⟩
      have T1 := Lib.hid (T0.out.step hb)
      clear hb T0 HTw
      go_wp2_with fail
      refine (sanity4_any _ T1.out.1).mono ?_
      rintro e w2 ⟨rfl, hb⟩
      have T2 := Lib.hid (T1.out.step hb)
      clear hb T1 hs
      go_wp2_with fail
      refine (space_any _ _).mono ?_
      rintro e w3 ⟨rfl, rfl⟩
      generalize spaceI (s.size : Int) = sp at *
      go_wp2_with fail
      refine (hof.out _).mono ?_
      rintro e w4 ⟨rfl, hb⟩
      have T3 := Lib.hid (T2.out.step hb)
      clear hb T2
      go_wp2_with fail
      refine (hof2.out _).mono ?_
      rintro e w5 ⟨rfl, hb⟩
      have T4 := Lib.hid (T3.out.step hb)
      clear hb T3
      generalize rg (crcB s.data.toList) = cr at *
      go_wp2_with fail
      go_ret
      exact ⟨rfl, T4.out.2⟩
end Go.Proofs.YtiakaloabeendaaDoor
