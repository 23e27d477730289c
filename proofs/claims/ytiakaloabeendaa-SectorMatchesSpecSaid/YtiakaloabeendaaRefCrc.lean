/- The walks of crc.Combine and of the specification's Feed, Extend, Of, Zeros, Combine. -/
import Derived.Test.YtiakaloabeendaaZeros
import Derived.Test.YtiakaloabeendaaBytes
namespace Go.Proofs.Ytiakaloabeendaa
open Go.RowKit

set_option maxRecDepth 100000 in
set_option maxHeartbeats 400000 in
theorem combine_any (a b : BitVec 32) (n : Int) (hn1 : -9223372036854775808 ≤ n) (hn2 : n ≤ 9223372036854775807) (w : World) :
    Calls Try.prog 23 #[.int .u32 (rg a), .int .u32 (rg b), .int .i64 n] w fun e w' => e = .returned (.int .u32 (rg (b ^^^ zerosB a n.toNat ^^^ zerosB 0#32 n.toNat))) ∧ Below w.heap.size w w' := by
  go_enter Try.func23, Try.ntmps23
  go_wp2_with fail
  refine (zeros_any a n hn1 hn2 _).mono ?_
  rintro e w1 ⟨rfl, hb1⟩
  have H1 := Lib.hid hb1
  clear hb1
  go_wp2_with fail
  refine (zeros_any 0#32 n hn1 hn2 _).mono ?_
  rintro e w2 ⟨rfl, hb2⟩
  have H2 := Lib.hid hb2
  clear hb2
  go_wp2
  go_ret
  exact ⟨by rw [u32_xor', u32_xor']; rfl, H1.out.trans (H2.out.mono H1.out.size)⟩

set_option maxRecDepth 100000 in
set_option maxHeartbeats 400000 in
theorem refFeed_any (c : BitVec 32) (l : List UInt8) (a : Option Addr) (cap : Nat) (w : World) (h : BytesAt w a l) :
    Calls Try.prog 38 #[.int .u32 (rg c), .slice a l.length cap] w fun e w' => e = .returned (.int .u32 (rg (feeds c l))) ∧ w = w' := by
  have H0 := Lib.hid h
  have hm := h.1
  unfold maxLen at hm
  clear h
  go_enter Try.func38, Try.ntmps38
  go_wp2
  go_loop [5, 0] (fun i r => ∃ k : Nat, k ≤ l.length ∧ i = .int .i64 k ∧ r = .int .u32 (rg (feeds c (l.take k)))) (fun i _ => l.length - (intOf i).toNat)
  case atStart => exact ⟨0, by omega, rfl, rfl⟩
  case round =>
    obtain ⟨k, hk, rfl, rfl⟩ := hrel
    by_cases hlt : k < l.length
    · have H3 : Hid (feeds c (l.take (k + 1)) = feedB (feeds c (l.take k)) (l.getD k 0)) := by rw [take_snoc' l k hlt, feeds_snoc]; exact Lib.hid rfl
      generalize feeds c (l.take k) = r at *
      rcases H0.out with ⟨_, h0 | ⟨b, off, rfl, hc⟩⟩
      · rw [h0] at hlt; simp at hlt
      have hcell := hc k hlt
      clear hc
      generalize l.getD k 0 = x at *
      go_wp2
      rw [byte_in_walk]
      go_loop [6, 0] (fun i q => ∃ n : Nat, n ≤ 8 ∧ i = .int .i64 n ∧ q = .int .u32 (rg (it f1 n (r ^^^ zx x)))) (fun i _ => 8 - (intOf i).toNat)
      case atStart => exact ⟨0, by omega, rfl, rfl⟩
      case round =>
        obtain ⟨n, hn, rfl, rfl⟩ := hrel
        have H4 : Hid (rg (f1 (it f1 n (r ^^^ zx x))) = rg (it f1 (n + 1) (r ^^^ zx x))) := Lib.hid (by rw [it_succ])
        generalize hq : it f1 n (r ^^^ zx x) = q at *
        have H5 := Lib.hid hq
        clear hq
        by_cases hl : n < 8
        · cases hb : q.getLsbD 0 with
          | true =>
            obtain ⟨h1, h2⟩ := low_bit_one q hb
            have H6 := Lib.hid h2
            clear h2 hb
            go_wp2
            go_round
            case rel => exact ⟨n + 1, by omega, by go_num, by rw [H6.out, H4.out]⟩
            case measure => simp [intOf]; omega
          | false =>
            obtain ⟨h1, h2⟩ := low_bit_zero q hb
            have H6 := Lib.hid h2
            clear h2 hb
            go_wp2
            go_round
            case rel => exact ⟨n + 1, by omega, by go_num, by rw [H6.out, H4.out]⟩
            case measure => simp [intOf]; omega
        · obtain rfl : n = 8 := by omega
          have H6 : Hid (q = feedB r x) := Lib.hid H5.out.symm
          go_wp2
          go_round
          case rel => exact ⟨k + 1, by omega, by go_num, by rw [H3.out, H6.out]⟩
          case measure => simp [intOf]; omega
    · obtain rfl : k = l.length := by omega
      go_wp2
      go_ret
      exact ⟨rfl, rfl⟩

set_option maxRecDepth 100000 in
set_option maxHeartbeats 400000 in
theorem refExtend_any (c : BitVec 32) (l : List UInt8) (a : Option Addr) (cap : Nat) (w : World) (h : BytesAt w a l) :
    Calls Try.prog 20 #[.int .u32 (rg c), .slice a l.length cap] w fun e w' => e = .returned (.int .u32 (rg (extB c l))) ∧ w = w' := by
  have H0 := Lib.hid h
  clear h
  go_enter Try.func20, Try.ntmps20
  go_wp2_with fail
  rw [u32_not]
  refine (refFeed_any _ l a cap _ H0.out).mono ?_
  rintro e w1 ⟨rfl, rfl⟩
  go_wp2
  go_ret
  exact ⟨by rw [u32_not]; rfl, rfl⟩

set_option maxRecDepth 100000 in
set_option maxHeartbeats 400000 in
theorem refOf_any (l : List UInt8) (a : Option Addr) (cap : Nat) (w : World) (h : BytesAt w a l) :
    Calls Try.prog 18 #[.slice a l.length cap] w fun e w' => e = .returned (.int .u32 (rg (crcB l))) ∧ w = w' := by
  have H0 := Lib.hid h
  clear h
  go_enter Try.func18, Try.ntmps18
  go_wp2_with fail
  refine (refExtend_any 0#32 l a cap _ H0.out).mono ?_
  rintro e w1 ⟨rfl, rfl⟩
  go_wp2
  go_ret
  exact ⟨rfl, rfl⟩

set_option maxRecDepth 100000 in
set_option maxHeartbeats 400000 in
theorem refZeros_any (c : BitVec 32) (n : Int) (hn1 : -9223372036854775808 ≤ n) (hn2 : n ≤ 2000) (w : World) :
    Calls Try.prog 22 #[.int .u32 (rg c), .int .i64 n] w fun e w' => e = .returned (.int .u32 (rg (zerosB c n.toNat))) ∧ Below w.heap.size w w' := by
  by_cases hneg : n < 0
  · go_enter Try.func22, Try.ntmps22
    go_wp2
    go_ret
    exact ⟨by rw [show n.toNat = 0 by omega, zerosB_zero]; rfl, Below.refl _ _⟩
  · obtain ⟨k, rfl⟩ := Int.eq_ofNat_of_zero_le (show 0 ≤ n by omega)
    go_enter Try.func22, Try.ntmps22
    go_wp2_with (at_make; refine wpList_make_b rfl _ _ rfl w.heap.size k _ _ _ _ rfl rfl rfl rfl (by omega) (Nat.le_refl _) ?_)
    intro w1 hown hgrow
    have H1 := Lib.hid hown
    have H2 := Lib.hid (grownBy_below hgrow (Nat.le_refl _) (fun k h => by cases h))
    clear hown hgrow
    obtain ⟨a, cap, hv, _, hby⟩ := H1.out.slice
    have hlen : (List.replicate k (0 : UInt8)).length = k := List.length_replicate
    rw [hlen] at hv
    have hE := refExtend_any c (List.replicate k 0) a cap w1 hby
    rw [hlen] at hE
    have H3 := Lib.hid hE
    have H4 : Hid (some (⟨w.heap.size, 0, none⟩ : Addr) = a ∧ k = cap) := Lib.hid (by simpa using hv)
    clear hv hlen hE hby
    go_wp2_with fail
    rw [H4.out.1]
    have H5 := H3.out
    rw [← H4.out.2] at H5
    refine H5.mono ?_
    rintro e w2 ⟨rfl, rfl⟩
    clear H5
    go_wp2
    go_ret
    exact ⟨by rw [extB_zeros]; rfl, H2.out⟩

set_option maxRecDepth 100000 in
set_option maxHeartbeats 400000 in
theorem refCombine_any (a b : BitVec 32) (n : Int) (hn1 : -9223372036854775808 ≤ n) (hn2 : n ≤ 2000) (w : World) :
    Calls Try.prog 24 #[.int .u32 (rg a), .int .u32 (rg b), .int .i64 n] w fun e w' => e = .returned (.int .u32 (rg (b ^^^ zerosB a n.toNat ^^^ zerosB 0#32 n.toNat))) ∧ Below w.heap.size w w' := by
  go_enter Try.func24, Try.ntmps24
  go_wp2_with fail
  refine (refZeros_any a n hn1 hn2 _).mono ?_
  rintro e w1 ⟨rfl, hb1⟩
  have H1 := Lib.hid hb1
  clear hb1
  go_wp2_with fail
  refine (refZeros_any 0#32 n hn1 hn2 _).mono ?_
  rintro e w2 ⟨rfl, hb2⟩
  have H2 := Lib.hid hb2
  clear hb2
  go_wp2
  go_ret
  exact ⟨by rw [u32_xor', u32_xor']; rfl, H1.out.trans (H2.out.mono H1.out.size)⟩
end Go.Proofs.Ytiakaloabeendaa
