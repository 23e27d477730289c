/- The walk of solventlaw03.sanity: it returns true. -/
import Derived.Test.YtiakaloabeendaaRefCrc
import Derived.Lib.SlBytesConst
namespace Go.Proofs.Ytiakaloabeendaa
open Go.RowKit

theorem of_n (l : List UInt8) (n : Nat) (hn : l.length = n) (a : Option Addr) (cap : Nat) (w : World) (h : BytesAt w a l) :
    Calls Try.prog 17 #[.slice a n cap] w fun e w' => e = .returned (.int .u32 (rg (crcB l))) ∧ Below w.heap.size w w' := by
  subst hn; exact of_any l a cap w h

theorem extend_n (c : BitVec 32) (l : List UInt8) (n : Nat) (hn : l.length = n) (a : Option Addr) (cap : Nat) (w : World) (h : BytesAt w a l) :
    Calls Try.prog 19 #[.int .u32 (rg c), .slice a n cap] w fun e w' => e = .returned (.int .u32 (rg (extB c l))) ∧ Below w.heap.size w w' := by
  subst hn; exact extend_any c l a cap w h

theorem bytesAt_lit (w : World) (l : List UInt8) (C : Array Value) (t : TypeId) (fr : Nat × Nat) (hC : C = (bvs l).toArray) (hl : l.length ≤ maxLen) :
    BytesAt (w.alloc (.cells C t fr)) (some ⟨w.heap.size, 0, none⟩) l := by
  refine ⟨hl, .inr ⟨w.heap.size, 0, rfl, fun i hi => ?_⟩⟩
  rw [cell_of_row _ w.heap.size _ C t fr (heap_alloc_new w _), hC]
  simp [bvs, hi]

theorem val9 : rg (crcB [49, 50, 51, 52, 53, 54, 55, 56, 57]) = 3808858755 := by decide +kernel
theorem val0 : rg (crcB []) = 0 := by decide +kernel
theorem valE : rg (extB (crcB [49, 50, 51, 52]) [53, 54, 55, 56, 57]) = 3808858755 := by decide +kernel
theorem valC : rg (crcB [53, 54, 55, 56, 57] ^^^ zerosB (crcB [49, 50, 51, 52]) (5 : Int).toNat ^^^ zerosB 0#32 (5 : Int).toNat) = 3808858755 := by decide +kernel
theorem valC0 : rg (5#32 ^^^ zerosB 7#32 (0 : Int).toNat ^^^ zerosB 0#32 (0 : Int).toNat) = 2 := by decide +kernel
theorem valC1 : rg (5#32 ^^^ zerosB 7#32 (-1 : Int).toNat ^^^ zerosB 0#32 (-1 : Int).toNat) = 2 := by decide +kernel
theorem valZ1 : rg (zerosB 7#32 (-1 : Int).toNat) = 7 := by decide +kernel

set_option maxRecDepth 100000 in
set_option maxHeartbeats 400000 in
theorem sanity3_any (w : World) :
    Calls Try.prog 16 #[] w fun e w' => e = .returned (.bool true) ∧ Below w.heap.size w w' := by
  have kc := fun (w : World) (C : Array Value) (n c : Nat) => Lib.run_convert_bytes_const (P := Try.prog) w 22 5 C n c Try.underlying22 Try.underlying5
  have hA := Lib.hid valE
  have hC := Lib.hid valC
  go_enter Try.func16, Try.ntmps16
  go_wp2_with fail
  refine (of_n [49, 50, 51, 52] 4 rfl _ _ _ (bytesAt_lit _ _ _ _ _ rfl (by decide))).mono ?_
  rintro e w1 ⟨rfl, hb1⟩
  have B1 : Hid (Below w.heap.size w w1) := ((Below.refl _ _).alloc (Nat.le_refl _) _).trans (hb1.mono (by simp))
  clear hb1
  generalize crcB [49, 50, 51, 52] = x at *
  go_wp2_with fail
  refine (of_n [53, 54, 55, 56, 57] 5 rfl _ _ _ (bytesAt_lit _ _ _ _ _ rfl (by decide))).mono ?_
  rintro e w2 ⟨rfl, hb⟩
  have B2 : Hid (Below w.heap.size w w2) := (B1.out.alloc B1.out.size _).trans (hb.mono (by have := B1.out.size; simp; omega))
  clear hb B1
  generalize crcB [53, 54, 55, 56, 57] = y at *
  go_wp2_with fail
  refine (of_n [49, 50, 51, 52, 53, 54, 55, 56, 57] 9 rfl _ _ _ (bytesAt_lit _ _ _ _ _ rfl (by decide))).mono ?_
  rintro e w3 ⟨rfl, hb⟩
  have B3 : Hid (Below w.heap.size w w3) := (B2.out.alloc B2.out.size _).trans (hb.mono (by have := B2.out.size; simp; omega))
  clear hb B2
  rw [val9]
  go_wp2_with fail
  refine (of_n [] 0 rfl none 0 _ ⟨by decide, .inl rfl⟩).mono ?_
  rintro e w4 ⟨rfl, hb⟩
  have B4 : Hid (Below w.heap.size w w4) := B3.out.trans (hb.mono B3.out.size)
  clear hb B3
  rw [val0]
  go_wp2_with fail
  refine (extend_n x [53, 54, 55, 56, 57] 5 rfl _ _ _ (bytesAt_lit _ _ _ _ _ rfl (by decide))).mono ?_
  rintro e w5 ⟨rfl, hb⟩
  have B5 : Hid (Below w.heap.size w w5) := (B4.out.alloc B4.out.size _).trans (hb.mono (by have := B4.out.size; simp; omega))
  clear hb B4
  rw [hA.out]
  clear hA
  go_wp2_with fail
  refine (combine_any x y 5 (by omega) (by omega) _).mono ?_
  rintro e w6 ⟨rfl, hb⟩
  have B6 : Hid (Below w.heap.size w w6) := B5.out.trans (hb.mono B5.out.size)
  clear hb B5
  rw [hC.out]
  clear hC
  go_wp2_with fail
  refine (combine_any 7#32 5#32 0 (by omega) (by omega) _).mono ?_
  rintro e w7 ⟨rfl, hb⟩
  have B7 : Hid (Below w.heap.size w w7) := B6.out.trans (hb.mono B6.out.size)
  clear hb B6
  rw [valC0]
  go_wp2_with fail
  refine (combine_any 7#32 5#32 (-1) (by omega) (by omega) _).mono ?_
  rintro e w8 ⟨rfl, hb⟩
  have B8 : Hid (Below w.heap.size w w8) := B7.out.trans (hb.mono B7.out.size)
  clear hb B7
  rw [valC1]
  go_wp2_with fail
  refine (zeros_any 7#32 (-1) (by omega) (by omega) _).mono ?_
  rintro e w9 ⟨rfl, hb⟩
  have B9 : Hid (Below w.heap.size w w9) := B8.out.trans (hb.mono B8.out.size)
  clear hb B8
  rw [valZ1]
  go_wp2_with fail
  go_ret
  exact ⟨rfl, B9.out⟩
end Go.Proofs.Ytiakaloabeendaa
