/- solventlaw04.twins and solventlaw04.sanity. -/
import Derived.Test.YtiakaloabeendaaDoorTwins2
import Derived.Laws.EntriesVeiled
namespace Go.Proofs.YtiakaloabeendaaDoor
open Go.RowKit Go.Shelf
set_option linter.unusedSimpArgs false
attribute [local go_sem] Oper.semAt_some

set_option maxRecDepth 100000 in
set_option maxHeartbeats 1000000 in
theorem twinsF_any (s : ByteArray) (w : World) : Calls Tryd.prog 16 #[.string s] w fun e w' => e = .returned (.func (.func 20) #[] #[.pointer (some ⟨w.heap.size, 0, none⟩)]) ∧ w' = w.alloc (.cells #[.string s] 9) := by
  go_enter Tryd.func16, Tryd.ntmps16
  go_wp2
  go_ret
  exact ⟨rfl, rfl⟩

/-- The two boxes of an iterator of twins. -/
def TwBox (s : ByteArray) (b c : Nat) (w : World) : Prop := w.heap[b]? = some (.cells #[.string s] 9 (0, 0)) ∧ w.heap[c]? = some (.cells #[.func (.func 20) #[] #[.pointer (some ⟨b, 0, none⟩)]] 34 (0, 0))

set_option maxRecDepth 100000 in
set_option maxHeartbeats 1000000 in
theorem twins_any (s : ByteArray) (w : World) : Calls Tryd.prog 13 #[.string s] w fun e w' => e = .returned (.func (.func 17) #[] #[.pointer (some ⟨w.heap.size + 1, 0, none⟩)]) ∧ TwBox s w.heap.size (w.heap.size + 1) w' ∧ Below w.heap.size w w' ∧ w'.heap.size = w.heap.size + 2 := by
  go_enter Tryd.func13, Tryd.ntmps13
  go_wp2_with fail
  refine (twinsF_any s _).mono ?_
  rintro e w1 ⟨rfl, rfl⟩
  go_wp2_with fail
  go_ret
  have e1 : ((w.alloc (.cells #[.string s] 9)).alloc (.cells #[.func (.func 20) #[] #[.pointer (some ⟨w.heap.size, 0, none⟩)]] 34)).heap[w.heap.size]? = some (.cells #[.string s] 9 (0, 0)) := (Below.heap_alloc _ _ _ (by simp)).trans (heap_alloc_new w _)
  have e2 : ((w.alloc (.cells #[.string s] 9)).alloc (.cells #[.func (.func 20) #[] #[.pointer (some ⟨w.heap.size, 0, none⟩)]] 34)).heap[w.heap.size + 1]? = some (.cells #[.func (.func 20) #[] #[.pointer (some ⟨w.heap.size, 0, none⟩)]] 34 (0, 0)) := by
    have h := heap_alloc_new (w.alloc (.cells #[.string s] 9)) (.cells #[.func (.func 20) #[] #[.pointer (some ⟨w.heap.size, 0, none⟩)]] 34)
    rwa [World.size_alloc] at h
  exact ⟨rfl, ⟨e1, e2⟩, ((Below.refl _ w).alloc (Nat.le_refl _) _).alloc (by simp) _, by simp⟩

def five : ByteArray := ⟨#[97, 98, 99, 100, 101]⟩
theorem five_len : (twinsL five).length = 8 := by rw [twinsL_length]; decide
theorem five_size (k : Nat) (h : k < 8) : ((twinsL five).getD k noB).size = 5 := by
  rw [twinsL_get five k (by rw [five_len]; exact h), strB_size, twinB_length]; rfl
theorem val9 : rg (crcB [49, 50, 51, 52, 53, 54, 55, 56, 57]) = 3808858755 := by decide +kernel
theorem twin0 (w : World) (hE : ExpW w) : Calls Tryd.prog 9 #[.string ⟨#[0, 0, 0, 0, 0]⟩, .int .i64 0] w fun e w' => e = .returned (.tuple #[.string ⟨#[241, 118, 236, 5, 1]⟩, .int .i64 0]) ∧ Below w.heap.size w w' := by
  have h := twin_good ⟨#[0, 0, 0, 0, 0]⟩ 0 w hE (by decide)
  have e1 : strB (twinB (⟨#[0, 0, 0, 0, 0]⟩ : ByteArray).data.toList 0) = ⟨#[241, 118, 236, 5, 1]⟩ := by
    have : twinB [0, 0, 0, 0, 0] 0 = [241, 118, 236, 5, 1] := by decide +kernel
    show strB (twinB [0, 0, 0, 0, 0] 0) = _
    rw [this]; rfl
  rw [e1] at h
  exact h
theorem twin4 (w : World) : Calls Tryd.prog 9 #[.string ⟨#[0, 0, 0, 0]⟩, .int .i64 0] w fun e w' => e = .returned (.tuple #[.string ⟨#[]⟩, .int .i64 1]) ∧ w' = w :=
  twin_arg ⟨#[0, 0, 0, 0]⟩ 0 w (.inr (by decide))
theorem space4 (w : World) : Calls Tryd.prog 10 #[.int .i64 4] w fun e w' => e = .returned (.int .i64 0) ∧ w' = w := space_any 4 w
theorem space32 (w : World) : Calls Tryd.prog 10 #[.int .i64 32] w fun e w' => e = .returned (.int .i64 224) ∧ w' = w := space_any 32 w
theorem of9 (w : World) : Calls Tryd.prog 11 #[.string ⟨#[49, 50, 51, 52, 53, 54, 55, 56, 57]⟩] w fun e w' => e = .returned (.int .u32 3808858755) ∧ Below w.heap.size w w' := by
  have h := ofS_any ⟨#[49, 50, 51, 52, 53, 54, 55, 56, 57]⟩ (by decide) w
  have e1 : rg (crcB (⟨#[49, 50, 51, 52, 53, 54, 55, 56, 57]⟩ : ByteArray).data.toList) = 3808858755 := val9
  rw [e1] at h
  exact h
theorem results_c {P : Program} {fn : Func} {p : Tmp} {ty : TypeId} {tmps : Array Value} {w : World} {a : Addr} {x : Value} (h : fn.results = #[.cell p ty]) (hp : tmps.getD p undef = .pointer (some a))
    (hl : (loadVar ty a).run P w = .ok x w) : (results fn tmps).run P w = .ok x w := by
  rw [Array.getD_eq_getD_getElem?] at hp
  simp only [results, h]
  simp [hp, asAddr, hl]

theorem load_bool {w : World} {a : Addr} {b : Bool} (h : w.cell? a = some (.bool b)) : (loadVar 4 a).run Tryd.prog w = .ok (.bool b) w := by
  go_simp

set_option maxRecDepth 100000 in
set_option maxHeartbeats 2000000 in
theorem sanity4_any (w : World) (hE : ExpW w) : Calls Tryd.prog 8 #[] w fun e w' => e = .returned (.bool true) ∧ Below w.heap.size w w' := by
  have HE := Lib.hid hE
  clear hE
  refine (callsIn_wide (n := 3)).1 ?_
  refine callsIn_of_wp_marks Tryd.func8 rfl trivial ?_ rfl
  simp only [Tryd.ntmps8, List.size_toArray, List.length_cons, List.length_nil, Nat.reduceAdd, Nat.reduceSub, Array.replicate_succ, Array.replicate_zero, List.push_toArray, List.append_toArray, List.nil_append, List.cons_append]
  have E0 := Lib.hid (show ExpW (w.alloc (.cells #[.bool false] 4)) from HE.out.below ((Below.refl _ w).alloc (Nat.le_refl _) _))
  have R0 := Lib.hid (heap_alloc_new w (.cells #[.bool false] 4))
  gi_wp2
  refine ⟨trivial, (callsIn_wide.2 (twin0 _ E0.out)).mono ?_⟩
  rintro e w1 ⟨rfl, hb⟩
  have B1 : Hid (Below w.heap.size w w1) := Lib.hid (((Below.refl _ w).alloc (Nat.le_refl _) (.cells #[.bool false] 4)).trans (hb.mono (by simp)))
  have E1 := Lib.hid (E0.out.below hb)
  have R1 := Lib.hid ((hb.block _ (by simp)).trans R0.out)
  clear hb R0 E0
  gi_wp2
  refine ⟨trivial, (callsIn_wide.2 (twin4 _)).mono ?_⟩
  rintro e w2 ⟨rfl, rfl⟩
  have lt2 : Hid (w.heap.size < w2.heap.size) := Lib.hid (Array.getElem?_eq_some_iff.1 R1.out).1
  have N2 := Lib.hid (heap_alloc_new w2 (.cells #[.int .i64 0] 3))
  have R2 := Lib.hid ((Below.heap_alloc w2 (.cells #[.int .i64 0] 3) _ lt2.out).trans R1.out)
  gi_wp2
  refine ⟨trivial, (callsIn_wide.2 (twins_any five _)).mono ?_⟩
  rintro e w3 ⟨rfl, hbx, hb, hz⟩
  have BX := Lib.hid hbx
  have N3 := Lib.hid ((hb.block _ (by simp)).trans N2.out)
  have R3 := Lib.hid ((hb.block _ (by have := lt2.out; simp; omega)).trans R2.out)
  have B3 : Hid (Below w.heap.size w w3) := Lib.hid ((B1.out.alloc B1.out.size (.cells #[.int .i64 0] 3)).trans (hb.mono (by have := lt2.out; simp; omega)))
  have E3 := Lib.hid ((E1.out.below ((Below.refl _ w2).alloc (Nat.le_refl _) (.cells #[.int .i64 0] 3))).below hb)
  have Z3 : Hid (w3.heap.size = w2.heap.size + 3) := Lib.hid (by rw [hz]; simp)
  have hsz : (w2.alloc (.cells #[.int .i64 0] 3)).heap.size = w2.heap.size + 1 := by simp
  rw [hsz] at BX ⊢
  clear hbx hb hz hsz N2 R2 B1 E1 R1
  generalize hg : w2.heap.size = g at *
  have HGx := Lib.hid hg
  clear hg
  have r3 := cell1 R3.out
  gi_wp2
  clear r3
  refine wpIn_range (gf := 17) (lb := #[.pointer (some ⟨g + 1 + 1, 0, none⟩)]) rfl (enters_of Tryd.func17 (by kernel_rfl) rfl) (xs := twinsL five) (need := fun j => j = 0 ∨ j = g + 1 ∨ j = g + 1 + 1) ?_ ?_
    (fun j => j = g) ?_
    (fun k A => A.heap[g]? = some (.cells #[.int .i64 (k : Int)] 3 (0, 0)) ∧ A.heap[w.heap.size]? = some (.cells #[.bool false] 4 (0, 0)))
    (fun _ _ _ => False) ?_ (fun _ _ _ _ h _ => h) ⟨N3.out, R3.out⟩
    (fun x => { tmps := #[.pointer (some ⟨w.heap.size, 0, none⟩), .string ⟨#[241, 118, 236, 5, 1]⟩, .int .i64 0, .string ⟨#[]⟩, .int .i64 1, .pointer (some ⟨g, 0, none⟩), .string x, .tuple #[.string ⟨#[241, 118, 236, 5, 1]⟩, .int .i64 0], .tuple #[.string ⟨#[241, 118, 236, 5, 1]⟩, .int .i64 0], .string ⟨#[241, 118, 236, 5, 1]⟩, .int .i64 0, .tuple #[.string ⟨#[]⟩, .int .i64 1], .tuple #[.string ⟨#[]⟩, .int .i64 1], .string ⟨#[]⟩, .int .i64 1, .func (.func 17) #[] #[.pointer (some ⟨g + 1 + 1, 0, none⟩)], .string x, undef, undef, undef, undef, undef, undef, undef, undef, undef, undef, undef, undef, undef, undef, undef, undef, undef, undef, undef, undef, undef, undef, undef, undef, undef, undef, undef, undef, undef, undef, undef], defers := [] }) ?assign ?body ?done ?stop
  · have := Z3.out
    rintro j (rfl | rfl | rfl) <;> omega
  · intro A hA
    have := Z3.out
    refine twins2_gives five (g + 1) (g + 1 + 1) _ A ((hA.block _ (by omega)).trans BX.out.1) ((hA.block _ (by omega)).trans BX.out.2) (E3.out.below hA)
  · have := Z3.out; have := lt2.out
    rintro j rfl
    exact ⟨by omega, by omega⟩
  · rintro k A B ⟨h1, h2⟩ hb
    have := Z3.out; have := lt2.out
    exact ⟨(hb.block _ (by omega)).trans h1, (hb.block _ (by omega)).trans h2⟩
  case assign =>
    intro l x A K hK
    gi_wp2
    exact hK
  case body =>
    rintro l k A hk ⟨hn, hr⟩ hs
    rw [five_len] at hk
    have hx5 := five_size k hk
    have HN := Lib.hid hn
    have HR := Lib.hid hr
    have n0 := cell1 hn
    have n1 := frozen1 hn
    generalize (twinsL five).getD k noB = X at *
    have hne : ((X.size : Int) != 5) = false := by rw [hx5]; rfl
    generalize hQ : bodyQ _ _ _ (k + 1) A = Q0
    have HQ := Lib.hid hQ
    have hw : IntKind.i64.wrap ((k : Int) + 1) = (k : Int) + 1 := by rw [IntKind.wrap_i64]; omega
    have HW := Lib.hid lt2.out
    clear hn hr hs hQ hk hx5
    gi_wp2
    rw [← HQ.out]
    show _ ∧ _
    exact ⟨(Keep.refl (fun j => j = g) A).setCell (p := ⟨g, 0, none⟩) rfl _, set1 _ HN.out, (heap_setCell_other _ _ _ _ (by have := lt2.out; simp; omega)).trans HR.out⟩
  case done =>
    rintro D A hD ⟨hn, hr⟩ hK hd
    rw [five_len] at hn
    have HN := Lib.hid hn
    have HR := Lib.hid hr
    have HD := Lib.hid hd
    have HDl := Lib.hid hD
    have BA : Hid (Below w.heap.size w A) := Lib.hid (B3.out.trans (hK.below (by have := Z3.out; have := lt2.out; omega) (fun k hk => by have := lt2.out; omega)))
    clear hn hr hd hK hD
    gi_wp2
    refine ⟨trivial, (callsIn_wide.2 (of9 _)).mono ?_⟩
    rintro e w4 ⟨rfl, hb⟩
    have N4 := Lib.hid ((hb.block _ (Array.getElem?_eq_some_iff.1 HN.out).1).trans HN.out)
    have R4 := Lib.hid ((hb.block _ (Array.getElem?_eq_some_iff.1 HR.out).1).trans HR.out)
    have D4 := Lib.hid ((hb.block _ (Array.getElem?_eq_some_iff.1 HD.out).1).trans HD.out)
    have B4 := Lib.hid (BA.out.trans (hb.mono BA.out.size))
    clear hb HN HR HD BA
    gi_wp2
    refine ⟨trivial, (callsIn_wide.2 (space4 _)).mono ?_⟩
    rintro e w5 ⟨rfl, rfl⟩
    gi_wp2
    refine ⟨trivial, (callsIn_wide.2 (space32 _)).mono ?_⟩
    rintro e w6 ⟨rfl, rfl⟩
    have n0 := cell1 N4.out
    have r0 := cell1 R4.out
    have r1 := frozen1 R4.out
    gi_wp2
    have hd : (w6.setCell ⟨w.heap.size, 0, none⟩ (.bool true)).heap[D]? = some (.deferred (some [])) := (heap_setCell_other _ _ _ _ (by have := HDl.out; have := Z3.out; have := lt2.out; simp; omega)).trans D4.out
    have hr2 : ((w6.setCell ⟨w.heap.size, 0, none⟩ (.bool true)).putObj D (.deferred none)).heap[w.heap.size]? = some (.cells #[.bool true] 4 (0, 0)) := (World.putObj_heap_other (by have := HDl.out; have := Z3.out; have := lt2.out; omega)).trans (set1 _ R4.out)
    have hB : Below w.heap.size w ((w6.setCell ⟨w.heap.size, 0, none⟩ (.bool true)).putObj D (.deferred none)) := (B4.out.setCell (p := ⟨w.heap.size, 0, none⟩) (Nat.le_refl _) _).trans (below_putObj _ (by have := HDl.out; have := Z3.out; have := lt2.out; omega) _)
    refine ⟨by simp, .inl ⟨_, _, rfl, run_takeDeferred hd, ?_⟩⟩
    exact ⟨_, results_c rfl rfl (load_bool (cell1 hr2)), rfl, hB⟩
  case stop =>
    rintro D c k A _ _ h _ _
    exact h.elim
end Go.Proofs.YtiakaloabeendaaDoor
