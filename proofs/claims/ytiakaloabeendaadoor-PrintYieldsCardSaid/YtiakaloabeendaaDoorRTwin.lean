/- The walks of solventref04.exponents and solventref04.Twin. -/
import Derived.Test.YtiakaloabeendaaDoorLawPrint
namespace Go.Proofs.YtiakaloabeendaaDoor
open Go.RowKit

/-! ### slices of ints of the call's own -/
def ivs (l : List Nat) : List Value := l.map fun (x : Nat) => Value.int .i64 (x : Int)
theorem ivs_length (l : List Nat) : (ivs l).length = l.length := by simp [ivs]
theorem ivs_append (l m : List Nat) : ivs (l ++ m) = ivs l ++ ivs m := by simp [ivs]
def OwnI (w : World) (base : Nat) (v : Value) (l : List Nat) : Prop := w.ownsRow base 3 1 v l.length (ivs l)
theorem OwnI.nil (w : World) (base : Nat) : OwnI w base (.slice none 0 0) [] := World.ownsRow_nil _ _ _ _
theorem OwnI.alloc {w : World} {base : Nat} {v : Value} {l : List Nat} (h : OwnI w base v l) (o : Obj) : OwnI (w.alloc o) base v l := World.ownsRow.alloc h o
theorem OwnI.cell {w : World} {base : Nat} {v : Value} {l : List Nat} (h : OwnI w base v l) (hl : 0 < l.length) :
    ∃ g cap, v = .slice (some ⟨g, 0, none⟩) l.length cap ∧ base ≤ g ∧ g < w.heap.size ∧ ∀ j, j < l.length → w.cell? ⟨g, j, none⟩ = some (.int .i64 ((l.getD j 0 : Nat) : Int)) := by
  have h0 := h
  rcases h.2 with ⟨rfl, hn⟩ | ⟨g, cap, cur, rfl, hb, hh, _⟩
  · omega
  · refine ⟨g, cap, rfl, hb, (Array.getElem?_eq_some_iff.1 hh).1, fun j hj => ?_⟩
    rw [World.ownsRow.cellAt h0 j (by omega)]
    simp [ivs, hj]
theorem OwnI.lt {w : World} {base : Nat} {v : Value} {l : List Nat} (h : OwnI w base v l) (k : Nat) (hk : some k = v.ownBlock ∨ v.ownBlock = some k) : base ≤ k := by
  rcases h.2 with ⟨rfl, hn⟩ | ⟨g, cap, cur, rfl, hb, hh, _⟩
  · rcases hk with hk | hk <;> simp [Value.ownBlock] at hk
  · rcases hk with hk | hk <;> simp [Value.ownBlock] at hk <;> omega
theorem infoInt : (Tryd.prog.info? 3).map (fun i => (i.zero, i.size, i.bytes)) = some (some (.int .i64 0), 1, 8) := by kernel_rfl

/-- One int appended to ints of the call's own. -/
theorem wpList_append_i {w : World} {ops : Array Oper} {rest : List Oper} {o : Oper} {a : Act} {Q : Exit → Act → World → Prop} (hgd : o.guard = none) (s x : Operand)
    (ho : o.op = .call { callee := .builtin .append, args := #[s, x], argTypes := #[39, 39] })
    (base : Nat) (v : Value) (l : List Nat) (z : Nat) (n : Nat) (t : TypeId) (fz : Nat × Nat) (hs : a.eval s = v) (hown : OwnI w base v l) (hx : a.eval x = .slice (some ⟨n, 0, none⟩) 1 1) (hn : w.heap[n]? = some (.cells #[.int .i64 (z : Int)] t fz))
    (hb : l.length ≤ 100) (hbase : base ≤ w.heap.size)
    (h : ∀ v' w', OwnI w' base v' (l ++ [z]) → w.grownBy w' v.ownBlock → wpList Tryd.prog ops Q rest (a.put o.dst v') w') : wpList Tryd.prog ops Q (o :: rest) a w := by
  obtain ⟨i, hi, hz0, hz1, hz2⟩ := info_parts infoInt
  refine wpList_append_own w hgd s x 39 ho base 3 i (.int .i64 0) 1 8 Tryd.underlying39 hi hz0 hz1 hz2 rfl (by decide) v l.length (ivs l) hs hown ⟨n, 0, none⟩ 1 1 (ivs [z]) hx (by simp [ivs]) ?_ ?_ (by unfold maxLen; omega) (by omega) hbase ?_
  · intro j u hu
    have hj : j = 0 := by
      have := (List.getElem?_eq_some_iff.1 hu).1
      simp [ivs] at this; exact this
    subst hj
    rw [Addr.add_lit, cell_of_row w n _ _ t fz hn]
    exact hu
  · intro u hu
    simp [ivs] at hu
    subst hu
    rfl
  · intro v' w' h1 h2 _
    refine h v' w' ?_ h2
    unfold OwnI
    rw [List.length_append, ivs_append]
    exact h1

/-! ### the exponents -/
def polyP : Nat := 0x11EDC6F41
def expTo (g : Nat) : List Nat := (List.range g).filter fun i => polyP / 2 ^ i % 2 == 1
theorem expTo_le : ∀ g : Fin 34, (expTo g.1).length ≤ 33 := by decide +kernel
theorem expTo_33 : expTo 33 = exps.reverse := by decide +kernel
theorem expTo_succ (g : Nat) : expTo (g + 1) = expTo g ++ (if polyP / 2 ^ g % 2 == 1 then [g] else []) := by
  unfold expTo
  rw [List.range_succ, List.filter_append]
  congr 1
  simp [List.filter_cons]
theorem pat_append (k y : Nat) (a b : List Nat) : pat k y (a ++ b) = (pat k y a ^^ pat k y b) := by
  induction a with
  | nil => simp [pat]
  | cons g a ih =>
    have h2 : ∀ l, pat k y (g :: l) = (decide (k + 32 - g = y) ^^ pat k y l) := fun _ => rfl
    rw [List.cons_append, h2, h2, ih, Bool.xor_assoc]
theorem pat_reverse (k y : Nat) (a : List Nat) : pat k y a.reverse = pat k y a := by
  induction a with
  | nil => rfl
  | cons g a ih =>
    have h2 : ∀ l, pat k y (g :: l) = (decide (k + 32 - g = y) ^^ pat k y l) := fun _ => rfl
    have h3 : pat k y [g] = decide (k + 32 - g = y) := by simp [pat]
    rw [List.reverse_cons, pat_append, ih, h3, h2, Bool.xor_comm]
theorem twin_reverse (l : List UInt8) (k : Nat) (hk : k + 32 < 8 * l.length) : twinL l k exps.reverse = twinB l k := by
  refine bits_ext (by rw [twinL_length, twinB_length]) fun y => ?_
  rw [bit_twinL _ _ _ _ hk, bit_twin _ _ _ hk, pat_reverse]

set_option maxRecDepth 100000 in
set_option maxHeartbeats 1000000 in
theorem exponents_any (w : World) : Calls Tryd.prog 18 #[] w fun e w' => (∃ v, e = .returned v ∧ OwnI w' w.heap.size v exps.reverse) ∧ Below w.heap.size w w' := by
  go_enter Tryd.func18, Tryd.ntmps18
  go_wp2_with fail
  go_loopw [3, 2, 1] (fun g p v wr => ∃ n : Nat, n ≤ 33 ∧ g = .int .i64 n ∧ p = .int .i64 ((polyP / 2 ^ n : Nat) : Int) ∧ OwnI wr w.heap.size v (expTo n) ∧ Below w.heap.size w wr) (fun g _ _ _ => 33 - (intOf g).toNat)
  case atStart => exact ⟨0, by omega, rfl, rfl, OwnI.nil _ _, Below.refl _ _⟩
  case round =>
    obtain ⟨n, hn, rfl, rfl, ho, hb⟩ := hrel
    have H1 := Lib.hid ho
    have H2 := Lib.hid hb
    have HS := Lib.hid (expTo_succ n)
    have HL := Lib.hid (expTo_le ⟨n, by omega⟩)
    have hq2 : polyP / 2 ^ (n + 1) = polyP / 2 ^ n / 2 := by rw [Nat.pow_succ, Nat.div_div_eq_div_mul]
    have HQ := Lib.hid hq2
    have hqb : polyP / 2 ^ n ≤ 4812730177 := Nat.div_le_self _ _
    clear ho hb hq2
    obtain ⟨q2, e2⟩ : ∃ q2, q2 = polyP / 2 ^ (n + 1) := ⟨_, rfl⟩
    have E2 := Lib.hid e2
    rw [← e2] at HQ
    clear e2
    generalize polyP / 2 ^ n = q at *
    obtain ⟨L, eL⟩ : ∃ L, expTo n = L := ⟨_, rfl⟩
    rw [eL] at H1 HS HL
    have HLe := Lib.hid eL
    clear eL
    have h2 : (q : Int).tdiv 2 = (q2 : Int) := by rw [HQ.out, Int.tdiv_eq_ediv_of_nonneg (by omega)]; omega
    have hq2b : (q2 : Int) ≤ 4812730177 := by have := HQ.out; omega
    by_cases hlt : n < 33
    · by_cases hodd : q % 2 = 1
      · have h1 : (q : Int).tmod 2 = 1 := by rw [Int.tmod_eq_emod_of_nonneg (by omega)]; omega
        have HE : Hid (expTo (n + 1) = L ++ [n]) := Lib.hid (by rw [HS.out]; simp [hodd])
        clear hqb hodd
        go_wp2_with (at_builtin; refine wpList_append_i rfl _ _ rfl w.heap.size u1 L n wr.heap.size _ _ rfl (H1.out.alloc _) rfl (heap_alloc_new wr _) (by have := HL.out; omega) (by have := H2.out.size; simp; omega) ?_)
        intro v' w3 hown hgrow
        have S := Lib.hid ((H2.out.alloc H2.out.size (Obj.cells #[.int .i64 (n : Int)] 3)).grown hgrow (by have := H2.out.size; simp; omega) (fun k h => H1.out.lt k (by first | exact .inl h | exact .inr h | exact .inl h.symm)))
        have O := Lib.hid hown
        clear hown hgrow
        go_wp2_with fail
        go_roundw
        case rel => exact ⟨n + 1, by omega, by go_num, by rw [← E2.out], by rw [HE.out]; exact O.out, S.out⟩
        case measure => simp [intOf]; omega
      · have h1 : (q : Int).tmod 2 = 0 := by rw [Int.tmod_eq_emod_of_nonneg (by omega)]; omega
        have HE : Hid (expTo (n + 1) = L) := Lib.hid (by rw [HS.out]; simp [hodd])
        clear hqb hodd
        go_wp2_with fail
        go_roundw
        case rel => exact ⟨n + 1, by omega, by go_num, by rw [← E2.out], by rw [HE.out]; exact H1.out, H2.out⟩
        case measure => simp [intOf]; omega
    · obtain rfl : n = 33 := by omega
      have HX := H1
      rw [← HLe.out, expTo_33] at HX
      go_wp2_with fail
      go_ret
      exact ⟨⟨_, rfl, HX.out⟩, H2.out⟩

theorem flip_walk2 (z : UInt8) (k : Nat) (h : k < 8) : bits .xor .u8 (z.toNat : Int) ((2 : Int) ^ k) = ((z ^^^ ((1 : UInt8) <<< (UInt8.ofNat k))).toNat : Int) := by
  rw [← flip_walk z k h]
  congr 1
  have h1 := Nat.pow_le_pow_right (n := 2) (by omega) (show k ≤ 7 by omega)
  have h2 : ((2 ^ k : Nat) : Int) = (2 : Int) ^ k := by push_cast; rfl
  rw [← h2]
  exact (Int.emod_eq_of_lt (Int.natCast_nonneg _) (by omega)).symm
theorem wrap_small (t m : Nat) (h : t < m) (h2 : m < 8) : wrap64 ((t : Int) + 1) = ((t + 1 : Nat) : Int) := by unfold wrap64; omega
theorem measure_lt (t m : Nat) (h : t < m) : m - (intOf (.int .i64 ((t + 1 : Nat) : Int))).toNat < m - (intOf (.int .i64 (t : Int))).toNat := by simp [intOf]; omega
theorem rexps_le : ∀ j : Fin 18, exps.reverse.getD j.1 0 ≤ 32 := by decide +kernel
set_option maxRecDepth 100000 in
set_option maxHeartbeats 2000000 in
theorem rtwin_good (s : ByteArray) (k : Nat) (w : World) (h : (k : Int) < spaceI s.size) :
    Calls Tryd.prog 14 #[.string s, .int .i64 k] w fun e w' => e = .returned (.tuple #[.string (strB (twinB s.data.toList k)), .int .i64 0]) ∧ Below w.heap.size w w' := by
  have hn : s.size ≤ 2000 ∧ k + 32 < 8 * s.size := by unfold spaceI at h; split at h <;> omega
  obtain ⟨hn1, hn2⟩ := hn
  have HC : Hid (∀ W : World, (convert 9 32 (.string s)).run Tryd.prog W = .ok (.slice (some ⟨W.heap.size, 0, none⟩) s.size (grownCap W s.size 0 5)) (Lib.bytesWorld W 5 s)) := Lib.hid (run_conv s)
  have HN2 := Lib.hid hn2
  clear hn2
  go_enter Tryd.func14, Tryd.ntmps14
  go_wp2_with fail
  refine (rspace_any _ _).mono ?_
  rintro e w1 ⟨rfl, rfl⟩
  have hd : decide (spaceI (s.size : Int) ≤ (k : Int)) = false := by simp; omega
  have hd0 : decide ((k : Int) < 0) = false := by simp
  clear h
  have hconv := HC.out w1
  generalize spaceI (s.size : Int) = sp at *
  go_wp2_with fail
  clear hconv hd hd0
  refine (exponents_any _).mono ?_
  rintro e w2 ⟨⟨v, rfl, ho⟩, hb⟩
  have hE := ho
  obtain ⟨g, cap, rfl, hg1, hg2, hcell⟩ := hE.cell (by decide)
  have HG1 := Lib.hid hg1
  have HEx := Lib.hid hcell
  have HR0 := Lib.hid ((RowB.conv w1 5 s).below hb)
  have HB0 := Lib.hid ((below_conv _ _ 5 s (Nat.le_refl _)).trans (hb.mono (by rw [Lib.bytesWorld_size]; omega)))
  have hlen : exps.reverse.length = 18 := by decide
  rw [hlen]
  clear ho hE hcell hb hg1 hg2 hlen
  go_wp2_with fail
  go_loopw [8] (fun i wr => ∃ j : Nat, j ≤ 18 ∧ i = .int .i64 j ∧ RowB wr w1.heap.size (twinL s.data.toList k (exps.reverse.take j)) ∧ wr.heap[g]? = w2.heap[g]? ∧ Below w1.heap.size w1 wr) (fun i _ => 18 - (intOf i).toNat)
  case atStart => exact ⟨0, by omega, rfl, HR0.out, rfl, HB0.out⟩
  case round =>
    obtain ⟨j, hj, rfl, hr, hgg, hb⟩ := hrel
    have HR := Lib.hid hr
    have HB := Lib.hid hb
    have HGG := Lib.hid hgg
    clear hr hb hgg
    by_cases hlt : j < 18
    · have hx : wr.cell? ⟨g, j, none⟩ = some (.int .i64 ((exps.reverse.getD j 0 : Nat) : Int)) := by
        rw [← HEx.out j (by rw [show exps.reverse.length = 18 by decide]; exact hlt)]
        unfold World.cell?
        simp only [HGG.out]
      have hg := rexps_le ⟨j, hlt⟩
      have HS : Hid (twinL s.data.toList k (exps.reverse.take (j + 1)) = flip (twinL s.data.toList k (exps.reverse.take j)) (k + 32 - exps.reverse.getD j 0)) := Lib.hid (by
        have e : exps.reverse.take (j + 1) = exps.reverse.take j ++ [exps.reverse.getD j 0] := by
          rw [List.take_succ_eq_append_getElem (by simpa [exps] using hlt)]
          congr 2
          rw [List.getD_eq_getElem?_getD, List.getElem?_eq_getElem (by simpa [exps] using hlt)]
          rfl
        rw [e, twinL_snoc])
      have HL : Hid ((twinL s.data.toList k (exps.reverse.take j)).length = s.size) := Lib.hid (by rw [twinL_length]; simp)
      simp only at hg
      generalize exps.reverse.getD j 0 = e at *
      generalize twinL s.data.toList k (exps.reverse.take j) = L at *
      have HG := Lib.hid hg
      clear hg
      have hxe : ∃ x : Nat, x = k + 32 - e := ⟨_, rfl⟩
      obtain ⟨x, hxe⟩ := hxe
      have ex : wrap64 (wrap64 ((k : Int) + 32) - (e : Int)) = (x : Int) := by have := HN2.out; have := HG.out; unfold wrap64; omega
      have HX : Hid (x < 8 * s.size) := Lib.hid (by have := HN2.out; omega)
      have HXE := Lib.hid hxe
      clear hxe
      have hx2 : (x : Int).tmod 8 = ((x % 8 : Nat) : Int) := rem8 x
      have HM8 := Lib.hid (show x % 8 < 8 by omega)
      go_wp2_with fail
      rw [ex]
      clear ex hx
      have HX2 := Lib.hid hx2
      obtain ⟨m, hm⟩ : ∃ m, m = x % 8 := ⟨_, rfl⟩
      have HM := Lib.hid hm
      rw [← hm] at HX2 HM8
      clear hm hx2
      have W0 := Lib.hid (show wr = wr from rfl)
      go_loopw [11, 10] (fun a b W => ∃ t : Nat, t ≤ m ∧ a = .int .i64 t ∧ b = .int .u8 ((2 ^ t : Nat) : Int) ∧ W = wr) (fun a _ _ => m - (intOf a).toNat)
      case atStart => exact ⟨0, by omega, rfl, rfl, rfl⟩
      case round =>
        obtain ⟨t, ht, rfl, rfl, rfl⟩ := hrel
        have hx2 := HX2.out
        by_cases htm : t < m
        · have hp : 2 * ((2 ^ t : Nat) : Int) < 256 := by
            have := Nat.pow_le_pow_right (n := 2) (by omega) (show t ≤ 6 by have := HM8.out; omega)
            omega
          have HP2 : Hid (2 * ((2 ^ t : Nat) : Int) = ((2 ^ (t + 1) : Nat) : Int)) := Lib.hid (by rw [Nat.pow_succ]; omega)
          have hp0 : 0 ≤ ((2 ^ t : Nat) : Int) := Int.natCast_nonneg _
          have HTM := Lib.hid htm
          generalize ((2 ^ t : Nat) : Int) = c at *
          go_wp2_with fail
          have hw1 : wrap64 ((t : Int) + 1) = ((t + 1 : Nat) : Int) := wrap_small t m HTM.out HM8.out
          rw [hw1]
          refine ⟨⟨t + 1, HTM.out, rfl, by rw [HP2.out], trivial⟩, ?_⟩
          exact measure_lt t m HTM.out
        · have htm2 : t = m := by clear hx2; omega
          subst htm2
          obtain ⟨hc0, hf0⟩ := HR.out.cell (x / 8) (by have := HX.out; have := HL.out; omega)
          have S0 : Hid (L.set (x / 8) (L.getD (x / 8) 0 ^^^ ((1 : UInt8) <<< (UInt8.ofNat t))) = flip L x) := Lib.hid (by rw [HM.out]; rfl)
          generalize L.getD (x / 8) 0 = b0 at *
          have hq : (x : Int) < 8 * (s.size : Int) := by have := HX.out; omega
          have HFW := Lib.hid (flip_walk2 b0 t HM8.out)
          go_wp2_with fail
          rw [HFW.out]
          have hT := HR.out.stored (x / 8) (b0 ^^^ ((1 : UInt8) <<< (UInt8.ofNat t)))
          rw [S0.out, show flip L x = twinL s.data.toList k (exps.reverse.take (j + 1)) by rw [HS.out, ← HXE.out]] at hT
          refine ⟨⟨j + 1, by omega, rfl, hT, ?_, HB.out.setCell (p := ⟨w1.heap.size, x / 8, none⟩) (Nat.le_refl _) _⟩, by simp [intOf]; omega⟩
          rw [heap_setCell_other _ _ _ _ (by have := HG1.out; rw [Lib.bytesWorld_size] at this; simp; omega)]
          exact HGG.out
    · obtain rfl : j = 18 := by omega
      have he : twinL s.data.toList k (exps.reverse.take 18) = twinB s.data.toList k := twin_reverse _ _ (by simpa using HN2.out)
      rw [he] at HR
      clear he
      have hstr := HR.out.str s.size (grownCap w1 s.size 0 5) (by rw [twinB_length]; simp)
      go_wp2_with fail
      exact bodyPost_ret (results_tmp2 rfl _ _ _) rfl ⟨rfl, HB.out⟩
end Go.Proofs.YtiakaloabeendaaDoor
