/- Walks of chapter 15's small functions: comparing, validity, numbers as bytes. -/
import Derived.Test.YtiakaloabeendaaOpen
import Derived.Test.YtiakaloabeendaaSecPlain
namespace Go.Proofs.Ytiakaloabeendaa
open Go.RowKit

def cmpI (x y : Int) : Int := if x < y then -1 else if y < x then 1 else 0

set_option maxRecDepth 100000 in
set_option maxHeartbeats 400000 in
theorem compare_any (x y : Int) (w : World) :
    Calls Try.prog 41 #[.int .i64 x, .int .i64 y] w fun e w' => e = .returned (.int .i64 (cmpI x y)) ∧ w' = w := by
  by_cases h1 : x < y
  · have hv : Hid (cmpI x y = -1) := Lib.hid (by simp [cmpI, h1])
    go_enter Try.func41, Try.ntmps41
    go_wp2
    go_ret
    exact ⟨by rw [hv.out]; rfl, rfl⟩
  · by_cases h2 : y < x
    · have hv : Hid (cmpI x y = 1) := Lib.hid (by simp [cmpI, h1, h2])
      go_enter Try.func41, Try.ntmps41
      go_wp2
      go_ret
      exact ⟨by rw [hv.out]; rfl, rfl⟩
    · have hv : Hid (cmpI x y = 0) := Lib.hid (by simp [cmpI, h1, h2])
      go_enter Try.func41, Try.ntmps41
      go_wp2
      go_ret
      exact ⟨by rw [hv.out]; rfl, rfl⟩

def orI (x y : Int) : Int := if x = 0 then y else x

set_option maxRecDepth 100000 in
set_option maxHeartbeats 400000 in
theorem or_any (x y : Int) (b : Nat) (w : World) (h0 : w.cell? ⟨b, 0, none⟩ = some (.int .i64 x)) (h1 : w.cell? ⟨b, 1, none⟩ = some (.int .i64 y)) :
    Calls Try.prog 40 #[.slice (some ⟨b, 0, none⟩) 2 2] w fun e w' => e = .returned (.int .i64 (orI x y)) ∧ w' = w := by
  go_enter Try.func40, Try.ntmps40
  go_wp2
  go_loop [8] (fun i => ∃ k : Nat, k ≤ 2 ∧ i = .int .i64 k ∧ (1 ≤ k → x = 0) ∧ (2 ≤ k → y = 0)) (fun i => 2 - (intOf i).toNat)
  case atStart => exact ⟨0, by omega, rfl, by omega, by omega⟩
  case round =>
    obtain ⟨k, hk, rfl, hx, hy⟩ := hrel
    have HX := Lib.hid hx
    have HY := Lib.hid hy
    clear hx hy
    obtain rfl | rfl | rfl : k = 0 ∨ k = 1 ∨ k = 2 := by omega
    · by_cases hx : x = 0
      · have hx2 : (x != 0) = false := by simp [hx]
        have H := Lib.hid hx
        clear hx
        go_wp2
        go_round
        case rel => exact ⟨1, by omega, rfl, fun _ => H.out, by omega⟩
        case measure => simp [intOf]
      · have hx2 : (x != 0) = true := by simp [hx]
        have hv : Hid (orI x y = x) := Lib.hid (by simp [orI, hx])
        clear hx
        go_wp2
        go_ret
        exact ⟨by rw [hv.out]; rfl, rfl⟩
    · have hv : Hid (orI x y = y) := Lib.hid (by simp [orI, HX.out (by omega)])
      by_cases hy : y = 0
      · have hy2 : (y != 0) = false := by simp [hy]
        have H := Lib.hid hy
        clear hy
        go_wp2
        go_round
        case rel => exact ⟨2, by omega, rfl, fun _ => HX.out (by omega), fun _ => H.out⟩
        case measure => simp [intOf]
      · have hy2 : (y != 0) = true := by simp [hy]
        clear hy
        go_wp2
        go_ret
        exact ⟨by rw [hv.out]; rfl, rfl⟩
    · have hv : Hid (orI x y = 0) := Lib.hid (by simp [orI, HX.out (by omega), HY.out (by omega)])
      go_wp2
      go_ret
      exact ⟨by rw [hv.out]; rfl, rfl⟩

def newerB (a b c d : Int) : Bool := decide (c < a) || (decide (a = c) && decide (d < b))
theorem newer_or (a b c d : Int) : decide (0 < orI (cmpI a c) (cmpI b d)) = newerB a b c d := by
  unfold orI cmpI newerB
  by_cases h1 : a < c <;> by_cases h2 : c < a <;> by_cases h3 : b < d <;> by_cases h4 : d < b <;> simp [h1, h2, h3, h4] <;> omega

set_option maxRecDepth 100000 in
set_option maxHeartbeats 400000 in
theorem newer_any (a b c d : Int) (w : World) :
    Calls Try.prog 25 #[.agg #[.int .i64 a, .int .i64 b], .agg #[.int .i64 c, .int .i64 d]] w fun e w' => e = .returned (.bool (newerB a b c d)) ∧ Below w.heap.size w w' := by
  go_enter Try.func25, Try.ntmps25
  go_wp2_with fail
  refine wp_region_tail 10 (by kernel_rfl) (by kernel_rfl) ?_
  simp only [List.take_succ_cons, List.take_zero, List.drop_succ_cons, List.drop_zero]
  repeat still_step
  still_call (compare_any a c _)
  repeat still_step
  still_call (compare_any b d _)
  refine wpStill_nil ?_
  go_wp2_with fail
  refine (or_any (cmpI a c) (cmpI b d) _ _ (by go_simp) (by go_simp)).mono ?_
  rintro e w1 ⟨rfl, rfl⟩
  go_wp2_with fail
  go_ret
  exact ⟨by rw [← newer_or]; rfl, ((((Below.refl _ _).alloc (Nat.le_refl _) _).alloc (by simp) _).drew.alloc (by simp; omega) _)⟩

/-! ### validity -/
theorem ret_bool {a b : Bool} (h : a = b) : Ending.returned (.bool a) = .returned (.bool b) := by rw [h]
def validB (d a i : Int) : Bool := decide (0 ≤ d) && (decide (d < 64) && (decide (1 ≤ a) && (decide (a ≤ 4) && (decide (0 ≤ i) && decide (i < 65536)))))
theorem validB_iff (d a i : Int) : validB d a i = true ↔ 0 ≤ d ∧ d < 64 ∧ 1 ≤ a ∧ a ≤ 4 ∧ 0 ≤ i ∧ i < 65536 := by simp [validB]

set_option maxRecDepth 100000 in
set_option maxHeartbeats 400000 in
theorem valid_any (d a i : Int) (w : World) :
    Calls Try.prog 33 #[.agg #[.int .i64 d, .int .i64 a, .int .i64 i]] w fun e w' => e = .returned (.bool (validB d a i)) ∧ Below w.heap.size w w' := by
  have fin : ∀ (w' : World), w' = w.alloc (.cells #[.int .i64 d, .int .i64 a, .int .i64 i] 41) → Below w.heap.size w w' := by
    rintro w' rfl
    exact (Below.refl _ _).alloc (Nat.le_refl _) _
  have FIN := Lib.hid fin
  clear fin
  by_cases h1 : 0 ≤ d
  · by_cases h2 : d < 64
    · by_cases h3 : 1 ≤ a
      · by_cases h4 : a ≤ 4
        · by_cases h5 : 0 ≤ i
          · by_cases h6 : i < 65536
            · have hv : Hid (validB d a i = true) := Lib.hid (by simp [validB, *])
              go_enter Try.func33, Try.ntmps33
              go_wp2
              go_ret
              exact ⟨by rw [hv.out]; rfl, FIN.out _ rfl⟩
            · have hv : Hid (validB d a i = false) := Lib.hid (by simp [validB, *])
              go_enter Try.func33, Try.ntmps33
              go_wp2
              go_ret
              exact ⟨by rw [hv.out]; rfl, FIN.out _ rfl⟩
          · have hv : Hid (validB d a i = false) := Lib.hid (by simp [validB, *])
            go_enter Try.func33, Try.ntmps33
            go_wp2
            go_ret
            exact ⟨by rw [hv.out]; rfl, FIN.out _ rfl⟩
        · have hv : Hid (validB d a i = false) := Lib.hid (by simp [validB, *])
          go_enter Try.func33, Try.ntmps33
          go_wp2
          go_ret
          exact ⟨by rw [hv.out]; rfl, FIN.out _ rfl⟩
      · have hv : Hid (validB d a i = false) := Lib.hid (by simp [validB, *])
        go_enter Try.func33, Try.ntmps33
        go_wp2
        go_ret
        exact ⟨by rw [hv.out]; rfl, FIN.out _ rfl⟩
    · have hv : Hid (validB d a i = false) := Lib.hid (by simp [validB, *])
      go_enter Try.func33, Try.ntmps33
      go_wp2
      go_ret
      exact ⟨by rw [hv.out]; rfl, FIN.out _ rfl⟩
  · have hv : Hid (validB d a i = false) := Lib.hid (by simp [validB, *])
    go_enter Try.func33, Try.ntmps33
    go_wp2
    go_ret
    exact ⟨by rw [hv.out]; rfl, FIN.out _ rfl⟩

def genV (e c : Int) : Bool := decide (0 ≤ e) && (decide (0 ≤ c) && (decide (e < 4294967296) && (decide (c < 4294967296) && !(e == 0 && c == 0))))
theorem genV_iff (e c : Int) : genV e c = true ↔ 0 ≤ e ∧ 0 ≤ c ∧ e < 4294967296 ∧ c < 4294967296 ∧ ¬ (e = 0 ∧ c = 0) := by simp [genV]; intro _ _ _ _; omega

set_option maxRecDepth 100000 in
set_option maxHeartbeats 400000 in
theorem validGen_any (e c : Int) (w : World) :
    Calls Try.prog 42 #[.agg #[.int .i64 e, .int .i64 c]] w fun x w' => x = .returned (.bool (genV e c)) ∧ Below w.heap.size w w' := by
  go_enter Try.func42, Try.ntmps42
  go_wp2
  all_goals
    go_ret
    refine ⟨ret_bool ?_, (Below.refl _ _).alloc (Nat.le_refl _) _⟩
    rw [Bool.eq_iff_iff, genV_iff]
    simp
    try omega
end Go.Proofs.Ytiakaloabeendaa
