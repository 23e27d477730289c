/- The iterator solventlaw04.twins$1. -/
import Derived.Test.YtiakaloabeendaaDoorTwins
namespace Go.Proofs.YtiakaloabeendaaDoor
open Go.RowKit Go.Shelf
attribute [local go_sem] Oper.semAt_some

theorem Keep.far {M : Nat → Prop} {a b c : World} (h : Keep M a b) (k : Below a.heap.size b c) : Keep M a c :=
  ⟨k.os.trans h.os, k.tape.trans h.tape, k.output.trans h.output, Nat.le_trans h.size k.size, fun i hi hm => (k.block i hi).trans (h.block i hi hm)⟩
theorem roundIn2 {P : Program} {l m m' : Nat} {f : FuncId} {tmps : Array Value} {assign body : Code} {w : World} {R : Ending → World → Prop} (l' : Nat) (h : RoundIn Fence.wide m P l f tmps assign body w R) : RoundIn (Fence.wide.inRound l') m' P l f tmps assign body w R :=
  ⟨trivial, fun c cs _ => h.2 c cs (room_wide _)⟩
theorem cell1 {w : World} {b : Nat} {v : Value} {t : TypeId} {fz : Nat × Nat} (h : w.heap[b]? = some (.cells #[v] t fz)) : w.cell? ⟨b, 0, none⟩ = some v := by
  unfold World.cell?; rw [h]; rfl
theorem frozen1 {w : World} {b : Nat} {v : Value} {t : TypeId} (h : w.heap[b]? = some (.cells #[v] t (0, 0))) : w.frozen? ⟨b, 0, none⟩ = false := Lib.frozen_of_heap h _
theorem set1 {w : World} {b : Nat} {v : Value} {t : TypeId} (u : Value) (h : w.heap[b]? = some (.cells #[v] t (0, 0))) : (w.setCell ⟨b, 0, none⟩ u).heap[b]? = some (.cells #[u] t (0, 0)) :=
  heap_setCell_same w b 0 _ t u h

theorem run_eql_nil (f : Nat) (cs ds : Array Value) (W : World) : (binOp BinOp.eql 34 (.func (.func f) cs ds) Value.nilFunc).run Tryd.prog W = .ok (.bool false) W := by
  first
  | rfl
  | (simp [binOp, run_underlying Tryd.underlying34]; done)

set_option maxRecDepth 100000 in
set_option maxHeartbeats 1000000 in
/-- solventlaw04.twins$1: the same strings come. -/
theorem twins2_gives (s : ByteArray) (b c : Nat) (t : TypeId) (W : World) (hb : W.heap[b]? = some (.cells #[.string s] t (0, 0))) (hc : W.heap[c]? = some (.cells #[.func (.func 20) #[] #[.pointer (some ⟨b, 0, none⟩)]] 34 (0, 0))) (hE : ExpW W) :
    Gives 17 #[.pointer (some ⟨c, 0, none⟩)] (twinsL s) (fun j => j = 0 ∨ j = b ∨ j = c) W := by
  intro m l M J Jx hM hJ hJx hY h0
  have HB := Lib.hid hb
  have HC := Lib.hid hc
  have HE := Lib.hid hE
  have HM := Lib.hid hM
  have HJ := Lib.hid hJ
  have HJx := Lib.hid hJx
  have HY := Lib.hid hY
  have HL : Hid ((twinsL s).length ≤ 16000) := Lib.hid (by have := space_nn s.size; rw [twinsL_length]; omega)
  have H0 := Lib.hid h0
  have HBl := Lib.hid (Array.getElem?_eq_some_iff.1 hb).1
  have HEl : Hid (0 < W.heap.size) := Lib.hid (by obtain ⟨t, fz, h⟩ := hE; exact (Array.getElem?_eq_some_iff.1 h).1)
  clear hb hc hE hM hJ hJx hY h0
  refine callsIn_of_wp_marks Tryd.func17 rfl trivial ?_ rfl
  simp only [Tryd.ntmps17, List.size_toArray, List.length_cons, List.length_nil, Nat.reduceAdd, Nat.reduceSub, Array.replicate_succ, Array.replicate_zero, List.push_toArray, List.append_toArray, List.nil_append, List.cons_append]
  have c0 : ∀ o, (W.alloc o).cell? ⟨c, 0, none⟩ = some (.func (.func 20) #[] #[.pointer (some ⟨b, 0, none⟩)]) := fun o => cell1 ((Below.heap_alloc _ _ _ (Array.getElem?_eq_some_iff.1 HC.out).1).trans HC.out)
  have c1 : ∀ o p, ((W.alloc o).alloc p).cell? ⟨c, 0, none⟩ = some (.func (.func 20) #[] #[.pointer (some ⟨b, 0, none⟩)]) := fun o p => cell1 ((Below.heap_alloc _ _ _ (by have := (Array.getElem?_eq_some_iff.1 HC.out).1; simp; omega)).trans ((Below.heap_alloc _ _ _ (Array.getElem?_eq_some_iff.1 HC.out).1).trans HC.out))
  have hnil := run_eql_nil 20 #[] #[.pointer (some ⟨b, 0, none⟩)]
  gi_wp2
  have hz : ((W.alloc (.cells #[.func (.yield l) #[] #[]] 38)).alloc (.cells #[.int .i64 0] 3)).heap.size = W.heap.size + 2 := by simp
  have hbw : Below W.heap.size W ((W.alloc (.cells #[.func (.yield l) #[] #[]] 38)).alloc (.cells #[.int .i64 0] 3)) := ((Below.refl _ W).alloc (Nat.le_refl _) _).alloc (by simp) _
  have hyb : ((W.alloc (.cells #[.func (.yield l) #[] #[]] 38)).alloc (.cells #[.int .i64 0] 3)).heap[W.heap.size]? = some (.cells #[.func (.yield l) #[] #[]] 38 (0, 0)) :=
    (Below.heap_alloc _ _ _ (by simp)).trans (heap_alloc_new W _)
  have hnb : ((W.alloc (.cells #[.func (.yield l) #[] #[]] 38)).alloc (.cells #[.int .i64 0] 3)).heap[W.heap.size + 1]? = some (.cells #[.int .i64 0] 3 (0, 0)) := by
    have h := heap_alloc_new (W.alloc (.cells #[.func (.yield l) #[] #[]] 38)) (.cells #[.int .i64 0] 3)
    rwa [World.size_alloc] at h
  generalize ((W.alloc (.cells #[.func (.yield l) #[] #[]] 38)).alloc (.cells #[.int .i64 0] 3)) = W2 at *
  have BW := Lib.hid hbw
  have BZ := Lib.hid hz
  have HYb := Lib.hid hyb
  have HNb := Lib.hid hnb
  clear hbw hz hyb hnb c0 c1 hnil
  refine wpIn_range (gf := 20) (lb := #[.pointer (some ⟨b, 0, none⟩)]) rfl (enters_of Tryd.func20 (by kernel_rfl) rfl) (xs := twinsL s) (need := fun j => j = 0 ∨ j = b) ?_ ?_
    (fun j => M j ∨ j = W.heap.size + 1) ?_
    (fun k A => J k A ∧ A.heap[W.heap.size]? = some (.cells #[.func (.yield l) #[] #[]] 38 (0, 0)) ∧ A.heap[W.heap.size + 1]? = some (.cells #[.int .i64 (k : Int)] 3 (0, 0)))
    (fun c k A => c = .ret ∧ Jx k A) ?_ ?_ ⟨HJ.out 0 W W2 H0.out BW.out, HYb.out, HNb.out⟩
    (fun x => { tmps := #[.func (.yield l) #[] #[], .pointer (some ⟨c, 0, none⟩), .pointer (some ⟨W.heap.size, 0, none⟩), .pointer (some ⟨W.heap.size + 1, 0, none⟩), .string x, .func (.func 20) #[] #[.pointer (some ⟨b, 0, none⟩)], .bool false, .func (.func 20) #[] #[.pointer (some ⟨b, 0, none⟩)], .string x, undef, undef, undef, undef, undef, undef, undef, undef, undef, undef], defers := [] }) ?assign ?body ?done ?stop
  · have := HBl.out; have := HEl.out; have := BZ.out
    rintro j (rfl | rfl) <;> omega
  · intro A hA
    refine twins1_gives s b t A ?_ ?_
    · exact (hA.block _ (by have := HBl.out; have := BZ.out; omega)).trans ((BW.out.block _ HBl.out).trans HB.out)
    · obtain ⟨te, fz, h⟩ := HE.out
      exact ⟨te, fz, (hA.block _ (by have := HEl.out; have := BZ.out; omega)).trans ((BW.out.block _ HEl.out).trans h)⟩
  · have := HBl.out; have := HEl.out; have := BZ.out
    rintro j (hj | rfl)
    · have := HM.out j hj
      exact ⟨by omega, fun h => this.2 (h.elim .inl (fun h => .inr (.inl h)))⟩
    · exact ⟨by omega, fun h => by rcases h with h | h <;> omega⟩
  · rintro k A B ⟨h1, h2, h3⟩ hb
    have := BZ.out
    exact ⟨HJ.out k A B h1 (hb.mono (by omega)), (hb.block _ (by omega)).trans h2, (hb.block _ (by omega)).trans h3⟩
  · rintro c k A B ⟨h1, h2⟩ hb
    have := BZ.out
    exact ⟨h1, HJx.out k A B h2 (hb.mono (by omega))⟩
  case assign =>
    intro l x A K hK
    gi_wp2
    exact hK
  case body =>
    rintro l2 k A hk ⟨hj, hyb, hnb⟩ hs
    have HYa := Lib.hid hyb
    have HNa := Lib.hid hnb
    have HK := Lib.hid hk
    have HJa := Lib.hid hj
    have HS := Lib.hid hs
    have n0 := cell1 hnb
    have n1 := frozen1 hnb
    have hk2 : (k : Int) < 16000 := by have := HL.out; omega
    clear hj hyb hnb hs hk
    have y1 := cell1 HYa.out
    have hB1 : Below W.heap.size A (A.setCell ⟨W.heap.size + 1, 0, none⟩ (.int .i64 ((k : Int) + 1))) := (Below.refl _ A).setCell (p := ⟨W.heap.size + 1, 0, none⟩) (by simp) _
    have hJ1 := HJ.out k A _ HJa.out hB1
    have hy0 := HY.out k _ HK.out hJ1 (by have := HS.out; have := BZ.out; simp; omega)
    have hN1 := set1 (.int .i64 ((k : Int) + 1)) HNa.out
    have hY1 : (A.setCell ⟨W.heap.size + 1, 0, none⟩ (.int .i64 ((k : Int) + 1))).heap[W.heap.size]? = some (.cells #[.func (.yield l) #[] #[]] 38 (0, 0)) := (heap_setCell_other _ _ _ _ (by simp)).trans HYa.out
    have hK1 : Keep (fun j => M j ∨ j = W.heap.size + 1) A (A.setCell ⟨W.heap.size + 1, 0, none⟩ (.int .i64 ((k : Int) + 1))) := (Keep.refl _ A).setCell (p := ⟨W.heap.size + 1, 0, none⟩) (.inr rfl) _
    have hs1 : A.heap.size ≤ (A.setCell ⟨W.heap.size + 1, 0, none⟩ (.int .i64 ((k : Int) + 1))).heap.size := by simp
    have KN1 := Lib.hid hN1
    have KY1 := Lib.hid hY1
    have KK1 := Lib.hid hK1
    have KS1 := Lib.hid hs1
    have z0 := cell1 hN1
    have z1 := cell1 hY1
    clear hB1 hJ1 hN1 hY1 hK1 hs1 HJa
    generalize (twinsL s).getD k noB = X at *
    obtain ⟨fn, tmps, assign, body, hy, hR⟩ := hy0
    generalize hQ : bodyQ _ _ _ (k + 1) A = Q0
    have HQ := Lib.hid hQ
    have hd : decide (20000 < (k : Int) + 1) = false := by simp; omega
    have hw : IntKind.i64.wrap ((k : Int) + 1) = (k : Int) + 1 := by rw [IntKind.wrap_i64]; omega
    clear hk2 hQ
    gi_wp2
    refine ⟨fun h => (by cases h), (roundIn2 l2 hR).mono ?_⟩
    clear hR hy hd hw
    rintro e A2 ⟨hK3, (⟨rfl, hj3⟩ | ⟨rfl, hj3⟩)⟩
    · have K3 := Lib.hid hK3
      have J3 := Lib.hid hj3
      clear hK3 hj3 z0 z1 n0 n1 y1
      gi_wp2
      rw [← HQ.out]
      show _ ∧ _
      refine ⟨KK1.out.trans (K3.out.mono (fun _ _ h => .inl h)), J3.out, keep_row K3.out (fun h => by have := (HM.out _ h).1; omega) KY1.out, ?_⟩
      exact keep_row K3.out (fun h => by have := (HM.out _ h).1; omega) KN1.out
    · have K3 := Lib.hid hK3
      have J3 := Lib.hid hj3
      clear hK3 hj3 z0 z1 n0 n1 y1
      gi_wp2
      rw [← HQ.out]
      show _ ∧ _
      exact ⟨KK1.out.trans (K3.out.mono (fun _ _ h => .inl h)), rfl, J3.out⟩
  case done =>
    rintro D A hD ⟨hj, _, _⟩ hK hd
    have hz := BZ.out
    have hf := below_putObj (B := W.heap.size) A (l := D) (by omega) (.deferred none)
    have hk : Keep M W (A.putObj D (.deferred none)) := Keep.far (((Keep.of_below BW.out).trans hK).mono (fun k hk h => h.elim id (fun e => by omega))) hf
    gi_wp2
    refine ⟨by simp, .inl ⟨_, _, rfl, run_takeDeferred hd, ?_⟩⟩
    exact ⟨_, results_none rfl _ _ _, ⟨_, rfl⟩, hk, .inl (HJ.out _ _ _ hj hf)⟩
  case stop =>
    rintro D c k A hD hkl ⟨rfl, hj⟩ hK hd
    have hz := BZ.out
    have hf := below_putObj (B := W.heap.size) A (l := D) (by omega) (.deferred none)
    have hk : Keep M W (A.putObj D (.deferred none)) := Keep.far (((Keep.of_below BW.out).trans hK).mono (fun k hk h => h.elim id (fun e => by omega))) hf
    gi_wp2
    refine ⟨by simp, .inl ⟨_, _, rfl, run_takeDeferred hd, ?_⟩⟩
    exact ⟨_, results_none rfl _ _ _, ⟨_, rfl⟩, hk, .inr ⟨k, hkl, HJx.out _ _ _ hj hf⟩⟩
end Go.Proofs.YtiakaloabeendaaDoor
