/- The walks of fingerprint.Space, Of, Twin. -/
import Derived.Test.YtiakaloabeendaaDoorExtend
import Derived.Test.YtiakaloabeendaaDoorTwinPlain
import Derived.Test.YtiakaloabeendaaDoorBytes
import Derived.Lib.ConvBytes
import Derived.Deep.RegionHeld3
import Derived.Lib.BufferMore
namespace Go.Proofs.YtiakaloabeendaaDoor
open Go.RowKit

def strB (l : List UInt8) : ByteArray := ⟨l.toArray⟩
theorem strB_size (l : List UInt8) : (strB l).size = l.length := by simp [strB, ByteArray.size]
theorem strB_list (l : List UInt8) : (strB l).data.toList = l := by simp [strB]
theorem strB_self (s : ByteArray) : strB s.data.toList = s := by simp [strB]
theorem strB_inj {l m : List UInt8} (h : strB l = strB m) : l = m := by rw [← strB_list l, h, strB_list]

/-- Block g holds the bytes l at its head; they may be written. -/
def RowB (w : World) (g : Nat) (l : List UInt8) : Prop := ∃ M t fz, w.heap[g]? = some (.cells M t fz) ∧ M.size ≤ fz.1 ∧ l.length ≤ M.size ∧ ∀ j, j < l.length → M[j]? = some (.int .u8 ((l.getD j 0).toNat : Int))

theorem RowB.conv (w : World) (e : TypeId) (s : ByteArray) : RowB (Lib.bytesWorld w e s) w.heap.size s.data.toList := by
  refine ⟨_, _, _, Lib.bytesWorld_at_new w e s, Nat.le_refl _, by simp [Lib.bytesCells], fun j hj => ?_⟩
  have h := Lib.bytesWorld_cell w e s j (by simpa using hj)
  unfold World.cell? at h
  rw [Lib.bytesWorld_at_new] at h
  exact h
theorem RowB.cell {w : World} {g : Nat} {l : List UInt8} (h : RowB w g l) (j : Nat) (hj : j < l.length) : w.cell? ⟨g, j, none⟩ = some (.int .u8 ((l.getD j 0).toNat : Int)) ∧ w.frozen? ⟨g, j, none⟩ = false := by
  obtain ⟨M, t, fz, h1, h2, h3, h4⟩ := h
  unfold World.cell? World.frozen?
  simp only [h1]
  refine ⟨h4 j hj, ?_⟩
  simp only [Bool.and_eq_false_imp, decide_eq_true_eq, decide_eq_false_iff_not]
  intro _; omega
theorem RowB.stored {w : World} {g : Nat} {l : List UInt8} (h : RowB w g l) (j : Nat) (z : UInt8) : RowB (w.setCell ⟨g, j, none⟩ (.int .u8 (z.toNat : Int))) g (l.set j z) := by
  obtain ⟨M, t, fz, h1, h2, h3, h4⟩ := h
  refine ⟨_, t, fz, Lib.heap_setCell_same h1 _, by simpa using h2, by simpa using h3, fun i hi => ?_⟩
  rw [List.length_set] at hi
  by_cases e : j = i
  · subst e
    rw [Array.getElem?_setIfInBounds_self_of_lt (by omega)]
    simp [List.getD, hi]
  · rw [Array.getElem?_setIfInBounds_ne e, h4 i hi]
    simp [List.getD, List.getElem?_set_ne e]
theorem RowB.below {w x : World} {g : Nat} {l : List UInt8} (h : RowB w g l) (hb : Below w.heap.size w x) : RowB x g l := by
  obtain ⟨M, t, fz, h1, h2⟩ := h
  exact ⟨M, t, fz, (hb.block _ (Array.getElem?_eq_some_iff.1 h1).1).trans h1, h2⟩
theorem RowB.drew {w : World} {g : Nat} {l : List UInt8} (h : RowB w g l) : RowB w.drew g l := h
theorem RowB.lt {w : World} {g : Nat} {l : List UInt8} (h : RowB w g l) : g < w.heap.size := by
  obtain ⟨M, t, fz, h1, _⟩ := h
  exact (Array.getElem?_eq_some_iff.1 h1).1
theorem RowB.bytesAt {w : World} {g : Nat} {l : List UInt8} (h : RowB w g l) (hl : l.length ≤ maxLen) : BytesAt w (some ⟨g, 0, none⟩) l :=
  ⟨hl, .inr ⟨g, 0, rfl, fun i hi => by rw [Nat.zero_add]; exact (h.cell i hi).1⟩⟩
theorem RowB.str {w : World} {g : Nat} {l : List UInt8} (h : RowB w g l) (n cap : Nat) (hn : n = l.length) : (convert 32 9 (.slice (some ⟨g, 0, none⟩) n cap)).run Tryd.prog w = .ok (.string (strB l)) w := by
  subst hn
  refine run_convert_bytes_back w _ _ _ ⟨g, 0, none⟩ cap l Tryd.underlying32 Tryd.underlying5 Tryd.underlying9 (fun j hj => ?_)
  rw [Addr.add_lit, Nat.zero_add, (h.cell j hj).1]
  simp [hj]

theorem run_conv (s : ByteArray) (W : World) : (convert 9 32 (.string s)).run Tryd.prog W = .ok (.slice (some ⟨W.heap.size, 0, none⟩) s.size (grownCap W s.size 0 5)) (Lib.bytesWorld W 5 s) :=
  Lib.run_convert_string_bytes (P := Tryd.prog) W 9 32 5 s Tryd.underlying9 Tryd.underlying32 Tryd.underlying5
theorem below_conv (B : Nat) (W : World) (e : TypeId) (s : ByteArray) (hB : B ≤ W.heap.size) : Below B W (Lib.bytesWorld W e s) :=
  ⟨rfl, rfl, rfl, by rw [Lib.bytesWorld_size]; omega, fun k hk => Lib.bytesWorld_at_old W e s k (by omega)⟩

/-! ### Space -/
def spaceI (n : Int) : Int := if n < 4 ∨ 2000 < n then 0 else 8 * n - 32

set_option maxRecDepth 100000 in
set_option maxHeartbeats 400000 in
theorem space_any (n : Int) (w : World) : Calls Tryd.prog 10 #[.int .i64 n] w fun e w' => e = .returned (.int .i64 (spaceI n)) ∧ w' = w := by
  by_cases h1 : n < 4
  · have hv : Hid (spaceI n = 0) := Lib.hid (by simp [spaceI, h1])
    go_enter Tryd.func10, Tryd.ntmps10
    go_wp2
    go_ret
    exact ⟨by rw [hv.out]; rfl, rfl⟩
  · by_cases h2 : 2000 < n
    · have hv : Hid (spaceI n = 0) := Lib.hid (by simp [spaceI, h2])
      go_enter Tryd.func10, Tryd.ntmps10
      go_wp2
      go_ret
      exact ⟨by rw [hv.out]; rfl, rfl⟩
    · have hv : Hid (spaceI n = 8 * n - 32) := Lib.hid (by simp [spaceI, h1, h2])
      go_enter Tryd.func10, Tryd.ntmps10
      go_wp2
      go_ret
      exact ⟨by rw [hv.out]; rfl, rfl⟩

/-! ### Of -/
set_option maxRecDepth 100000 in
set_option maxHeartbeats 400000 in
theorem ofS_any (s : ByteArray) (hs : s.size ≤ 1000000) (w : World) : Calls Tryd.prog 11 #[.string s] w fun e w' => e = .returned (.int .u32 (rg (crcB s.data.toList))) ∧ Below w.heap.size w w' := by
  have hc : Hid (∀ cap, Calls Tryd.prog 15 #[.slice (some ⟨w.heap.size, 0, none⟩) s.size cap] (Lib.bytesWorld w 5 s) fun e w' => e = .returned (.int .u32 (rg (crcB s.data.toList))) ∧ Below w.heap.size w w') := Lib.hid (fun cap => by
    have h := of_any s.data.toList (some ⟨w.heap.size, 0, none⟩) cap (Lib.bytesWorld w 5 s) ((RowB.conv w _ s).bytesAt (by unfold maxLen; simp; omega))
    rw [show s.data.toList.length = s.size by simp] at h
    refine h.mono ?_
    rintro e w' ⟨rfl, hb⟩
    exact ⟨rfl, (below_conv _ w _ _ (Nat.le_refl _)).trans (hb.mono (by rw [Lib.bytesWorld_size]; omega))⟩)
  have hconv := run_conv s w
  clear hs
  go_enter Tryd.func11, Tryd.ntmps11
  go_wp2_with fail
  refine (hc.out _).mono ?_
  rintro e w1 ⟨rfl, hb1⟩
  have H1 := Lib.hid hb1
  clear hb1 hconv
  go_wp2
  go_ret
  exact ⟨rfl, H1.out⟩

/-! ### Twin -/
def expRow : Array Value := #[.int .i64 32, .int .i64 28, .int .i64 27, .int .i64 26, .int .i64 25, .int .i64 23, .int .i64 22, .int .i64 20, .int .i64 19, .int .i64 18, .int .i64 14, .int .i64 13, .int .i64 11, .int .i64 10, .int .i64 9, .int .i64 8, .int .i64 6, .int .i64 0]
theorem sizeExp : (Tryd.prog.info? 36).map (·.size) = some 18 := by kernel_rfl
theorem exps_le : ∀ j : Fin 18, exps.getD j.1 0 ≤ 32 := by decide +kernel
theorem expRow_at (j : Nat) (hj : j < 18) : expRow[j]? = some (.int .i64 ((exps.getD j 0 : Nat) : Int)) := by
  have h : ∀ i, i < 18 → i = 0 ∨ i = 1 ∨ i = 2 ∨ i = 3 ∨ i = 4 ∨ i = 5 ∨ i = 6 ∨ i = 7 ∨ i = 8 ∨ i = 9 ∨ i = 10 ∨ i = 11 ∨ i = 12 ∨ i = 13 ∨ i = 14 ∨ i = 15 ∨ i = 16 ∨ i = 17 := by omega
  rcases h j hj with rfl | rfl | rfl | rfl | rfl | rfl | rfl | rfl | rfl | rfl | rfl | rfl | rfl | rfl | rfl | rfl | rfl | rfl <;> rfl

theorem expRow_idx (j : Nat) (hj : j < 18) (w : World) : (Instr.index 36 (.agg expRow) (.int .i64 (j : Int))).run Tryd.prog w = .ok (.int .i64 ((exps.getD j 0 : Nat) : Int)) w := by
  have h : ∀ i, i < 18 → i = 0 ∨ i = 1 ∨ i = 2 ∨ i = 3 ∨ i = 4 ∨ i = 5 ∨ i = 6 ∨ i = 7 ∨ i = 8 ∨ i = 9 ∨ i = 10 ∨ i = 11 ∨ i = 12 ∨ i = 13 ∨ i = 14 ∨ i = 15 ∨ i = 16 ∨ i = 17 := by omega
  rcases h j hj with rfl | rfl | rfl | rfl | rfl | rfl | rfl | rfl | rfl | rfl | rfl | rfl | rfl | rfl | rfl | rfl | rfl | rfl <;> rfl

/-- The exponents lie in the variable's block. -/
def ExpW (w : World) : Prop := ∃ t fz, w.heap[0]? = some (.cells expRow t fz)
theorem ExpW.below {w x : World} (h : ExpW w) (hb : Below w.heap.size w x) : ExpW x := by
  obtain ⟨t, fz, h⟩ := h
  exact ⟨t, fz, (hb.block _ (Array.getElem?_eq_some_iff.1 h).1).trans h⟩

set_option maxRecDepth 100000 in
set_option maxHeartbeats 1000000 in
theorem twin_arg (s : ByteArray) (k : Int) (w : World) (h : k < 0 ∨ spaceI s.size ≤ k) : Calls Tryd.prog 9 #[.string s, .int .i64 k] w fun e w' => e = .returned (.tuple #[.string ⟨#[]⟩, .int .i64 1]) ∧ w' = w := by
  by_cases h1 : k < 0
  · clear h
    go_enter Tryd.func9, Tryd.ntmps9
    go_wp2
    exact bodyPost_ret (results_tmp2 rfl _ _ _) rfl ⟨rfl, rfl⟩
  · have h2 : spaceI s.size ≤ k := by omega
    clear h
    go_enter Tryd.func9, Tryd.ntmps9
    go_wp2_with fail
    refine (space_any _ _).mono ?_
    rintro e w1 ⟨rfl, rfl⟩
    go_wp2
    exact bodyPost_ret (results_tmp2 rfl _ _ _) rfl ⟨rfl, rfl⟩

theorem bit8 : ∀ j : Fin 8, ((2 : Int) ^ j.1 % 256) = (((1 : UInt8) <<< (UInt8.ofNat j.1)).toNat : Int) := by decide +kernel
theorem flip_walk (z : UInt8) (k : Nat) (h : k < 8) : bits .xor .u8 (z.toNat : Int) ((2 : Int) ^ k % 256) = ((z ^^^ ((1 : UInt8) <<< (UInt8.ofNat k))).toNat : Int) := by
  rw [bit8 ⟨k, h⟩, xor8_walk]
theorem quo8 (i : Nat) : ((i : Int).tdiv 8) = ((i / 8 : Nat) : Int) := by rw [Int.tdiv_eq_ediv_of_nonneg (by omega)]; omega
theorem rem8 (i : Nat) : ((i : Int).tmod 8) = ((i % 8 : Nat) : Int) := by rw [Int.tmod_eq_emod_of_nonneg (by omega)]; omega

set_option maxRecDepth 100000 in
set_option maxHeartbeats 2000000 in
theorem twin_good (s : ByteArray) (k : Nat) (w : World) (hE : ExpW w) (h : (k : Int) < spaceI s.size) :
    Calls Tryd.prog 9 #[.string s, .int .i64 k] w fun e w' => e = .returned (.tuple #[.string (strB (twinB s.data.toList k)), .int .i64 0]) ∧ Below w.heap.size w w' := by
  have hn : s.size ≤ 2000 ∧ k + 32 < 8 * s.size := by unfold spaceI at h; split at h <;> omega
  obtain ⟨hn1, hn2⟩ := hn
  have HE := Lib.hid hE
  have HC : Hid (∀ W : World, (convert 9 32 (.string s)).run Tryd.prog W = .ok (.slice (some ⟨W.heap.size, 0, none⟩) s.size (grownCap W s.size 0 5)) (Lib.bytesWorld W 5 s)) := Lib.hid (run_conv s)
  have HN2 := Lib.hid hn2
  clear hE hn2
  go_enter Tryd.func9, Tryd.ntmps9
  go_wp2_with fail
  refine (space_any _ _).mono ?_
  rintro e w1 ⟨rfl, rfl⟩
  have hd : decide (spaceI (s.size : Int) ≤ (k : Int)) = false := by simp; omega
  have hd0 : decide ((k : Int) < 0) = false := by simp
  clear h
  have hconv := HC.out w1
  generalize spaceI (s.size : Int) = sp at *
  obtain ⟨t0, fz0, hE0⟩ := HE.out
  have HE0 := Lib.hid (show (Lib.bytesWorld w1 5 s).heap[0]? = some (.cells expRow t0 fz0) from (Lib.bytesWorld_at_old w1 _ s 0 (Array.getElem?_eq_some_iff.1 hE0).1).trans hE0)
  clear hE0
  go_wp2_with (first | refine wpList_load_row rfl 36 _ rfl 0 rfl t0 expRow fz0 _ HE0.out Tryd.underlying36 rfl sizeExp ?_)
  clear hconv hd hd0
  go_loopw [22] (fun i wr => ∃ j : Nat, j ≤ 18 ∧ i = .int .i64 j ∧ RowB wr w1.heap.size (twinL s.data.toList k (exps.take j)) ∧ Below w1.heap.size w1 wr) (fun i _ => 18 - (intOf i).toNat)
  case atStart => exact ⟨0, by omega, rfl, RowB.conv w1 _ s, below_conv _ _ _ _ (Nat.le_refl _)⟩
  case round =>
    obtain ⟨j, hj, rfl, hr, hb⟩ := hrel
    have HR := Lib.hid hr
    have HB := Lib.hid hb
    clear hr hb
    by_cases hlt : j < 18
    · have hx := fun w => expRow_idx j hlt w
      have hg := exps_le ⟨j, hlt⟩
      have HS : Hid (twinL s.data.toList k (exps.take (j + 1)) = flip (twinL s.data.toList k (exps.take j)) (k + 32 - exps.getD j 0)) := Lib.hid (by
        have e : exps.take (j + 1) = exps.take j ++ [exps.getD j 0] := by
          rw [List.take_succ_eq_append_getElem (by simpa [exps] using hlt)]
          congr 2
          rw [List.getD_eq_getElem?_getD, List.getElem?_eq_getElem (by simpa [exps] using hlt)]
          rfl
        rw [e, twinL_snoc])
      have HL : Hid ((twinL s.data.toList k (exps.take j)).length = s.size) := Lib.hid (by rw [twinL_length]; simp)
      simp only at hg
      generalize exps.getD j 0 = g at *
      generalize twinL s.data.toList k (exps.take j) = L at *
      have HG := Lib.hid hg
      clear hg
      have hxe : ∃ x : Nat, x = k + 32 - g := ⟨_, rfl⟩
      obtain ⟨x, hxe⟩ := hxe
      have ex : wrap64 (wrap64 ((k : Int) + 32) - (g : Int)) = (x : Int) := by have := HN2.out; have := HG.out; unfold wrap64; omega
      have HX : Hid (x < 8 * s.size) := Lib.hid (by have := HN2.out; omega)
      have HXE := Lib.hid hxe
      clear hxe
      go_wp2_with fail
      rw [ex]
      clear ex
      obtain ⟨hc0, hf0⟩ := HR.out.cell (x / 8) (by have := HX.out; have := HL.out; omega)
      have S0 : Hid (L.set (x / 8) (L.getD (x / 8) 0 ^^^ ((1 : UInt8) <<< (UInt8.ofNat (x % 8)))) = flip L x) := Lib.hid rfl
      generalize L.getD (x / 8) 0 = b0 at *
      have hq : (x : Int) < 8 * (s.size : Int) := by have := HX.out; omega
      go_region
      rw [flip_walk b0 (x % 8) (by omega)]
      have T0 := (HR.out.stored (x / 8) (b0 ^^^ ((1 : UInt8) <<< (UInt8.ofNat (x % 8))))).drew
      rw [S0.out] at T0
      have H2 := Lib.hid T0
      have B2 : Hid (Below w1.heap.size w1 (wr.setCell ⟨w1.heap.size, x / 8, none⟩ (.int .u8 ((b0 ^^^ ((1 : UInt8) <<< (UInt8.ofNat (x % 8)))).toNat : Int))).drew) := Lib.hid (HB.out.setCell (p := ⟨w1.heap.size, x / 8, none⟩) (Nat.le_refl _) _).drew
      generalize (wr.setCell ⟨w1.heap.size, x / 8, none⟩ (.int .u8 ((b0 ^^^ ((1 : UInt8) <<< (UInt8.ofNat (x % 8)))).toNat : Int))).drew = w2 at *
      clear T0 S0 hc0 hf0 hq
      go_wp2_with fail
      go_roundw
      case rel => exact ⟨j + 1, by omega, by go_num, by rw [HS.out, ← HXE.out]; exact H2.out, B2.out⟩
      case measure => simp [intOf]; omega
    · obtain rfl : j = 18 := by omega
      have he : twinL s.data.toList k (exps.take 18) = twinB s.data.toList k := rfl
      rw [he] at HR
      clear he
      have hstr := HR.out.str s.size (grownCap w1 s.size 0 5) (by rw [twinB_length]; simp)
      go_wp2_with fail
      exact bodyPost_ret (results_tmp2 rfl _ _ _) rfl ⟨rfl, HB.out⟩
end Go.Proofs.YtiakaloabeendaaDoor
