/- The walk of solventlaw15.SectorOrder. -/
import Derived.Test.YtiakaloabeendaaSealed
namespace Go.Proofs.Ytiakaloabeendaa
open Go.RowKit

theorem kept_of {x y : World} {k : Nat} {o : Obj} (hb : Below x.heap.size x y) (h : x.heap[k]? = some o) : y.heap[k]? = some o :=
  (hb.block _ (Array.getElem?_eq_some_iff.1 h).1).trans h

def Sane15 : Prop := ∀ w : World, Calls Try.prog 26 #[] w fun x w' => x = .returned (.bool true) ∧ Below w.heap.size w w'

theorem newerB_iff (a b c d : Int) : newerB a b c d = true ↔ c < a ∨ (a = c ∧ d < b) := by simp [newerB]

/-- The three generations lie in memory; nothing else has turned. -/
def Thr (w x : World) (a b c : Array Value) : Prop := x.heap[w.heap.size]? = some (.cells a 35 (0, 0)) ∧ x.heap[w.heap.size + 1]? = some (.cells b 35 (0, 0)) ∧
  x.heap[w.heap.size + 1 + 1]? = some (.cells c 35 (0, 0)) ∧ Below w.heap.size w x
theorem Thr.step {w x y : World} {a b c : Array Value} (h : Thr w x a b c) (hb : Below x.heap.size x y) : Thr w y a b c :=
  ⟨kept_of hb h.1, kept_of hb h.2.1, kept_of hb h.2.2.1, h.2.2.2.trans (hb.mono h.2.2.2.size)⟩
theorem thr_new (w : World) (a b c : Array Value) : Thr w (((w.alloc (.cells a 35)).alloc (.cells b 35)).alloc (.cells c 35)) a b c := by
  have h1 := (two_new w (.cells a 35) (.cells b 35))
  have h2 := (two_new (w.alloc (.cells a 35)) (.cells b 35) (.cells c 35))
  rw [World.size_alloc] at h2
  refine ⟨?_, h2.1, h2.2, bel2 ((Below.refl _ w).alloc (Nat.le_refl _) _) (by simp) _ _⟩
  rw [Below.heap_alloc _ _ _ (by simp; omega)]
  exact h1.1

set_option maxRecDepth 100000 in
set_option maxHeartbeats 1000000 in
theorem sectorOrder_of (hS : Sane15) (a1 a2 b1 b2 c1 c2 : Int) (w : World) :
    Calls Try.prog 7 #[.agg #[.int .i64 a1, .int .i64 a2], .agg #[.int .i64 b1, .int .i64 b2], .agg #[.int .i64 c1, .int .i64 c2]] w fun x w' => x = .returned (.bool true) ∧ Below w.heap.size w w' := by
  have HS := Lib.hid hS
  clear hS
  go_enter Try.func7, Try.ntmps7
  go_wp2_with fail
  refine (newer_any a1 a2 b1 b2 _).mono ?_
  rintro x w1 ⟨rfl, hb⟩
  have T1 := Lib.hid ((thr_new w _ _ _).step hb)
  clear hb
  obtain ⟨p10, p11, _⟩ := cells2 T1.out.1
  obtain ⟨q10, q11, _⟩ := cells2 T1.out.2.1
  obtain ⟨r10, r11, _⟩ := cells2 T1.out.2.2.1
  go_wp2_with fail
  refine (newer_any b1 b2 a1 a2 _).mono ?_
  rintro x w2 ⟨rfl, hb⟩
  have T2 := Lib.hid (T1.out.step hb)
  clear hb T1 p10 p11 q10 q11 r10 r11
  obtain ⟨p20, p21, _⟩ := cells2 T2.out.1
  obtain ⟨q20, q21, _⟩ := cells2 T2.out.2.1
  obtain ⟨r20, r21, _⟩ := cells2 T2.out.2.2.1
  go_wp2_with fail
  refine (newer_any b1 b2 c1 c2 _).mono ?_
  rintro x w3 ⟨rfl, hb⟩
  have T3 := Lib.hid (T2.out.step hb)
  clear hb T2 p20 p21 q20 q21 r20 r21
  obtain ⟨p30, p31, _⟩ := cells2 T3.out.1
  obtain ⟨q30, q31, _⟩ := cells2 T3.out.2.1
  obtain ⟨r30, r31, _⟩ := cells2 T3.out.2.2.1
  go_wp2_with fail
  refine (newer_any a1 a2 c1 c2 _).mono ?_
  rintro x w4 ⟨rfl, hb⟩
  have T4 := Lib.hid (T3.out.step hb)
  clear hb T3 p30 p31 q30 q31 r30 r31
  obtain ⟨p40, p41, _⟩ := cells2 T4.out.1
  obtain ⟨q40, q41, _⟩ := cells2 T4.out.2.1
  obtain ⟨r40, r41, _⟩ := cells2 T4.out.2.2.1
  go_wp2_with fail
  refine (HS.out _).mono ?_
  rintro x w5 ⟨rfl, hb⟩
  have T5 := Lib.hid (T4.out.step hb)
  clear hb T4 p40 p41 q40 q41 r40 r41
  obtain ⟨p0, p1, _⟩ := cells2 T5.out.1
  obtain ⟨q0, q1, _⟩ := cells2 T5.out.2.1
  go_wp2_with fail
  refine (newer_any a1 a2 a1 a2 _).mono ?_
  rintro x w6 ⟨rfl, hb⟩
  have T6 := Lib.hid (T5.out.step hb)
  clear hb T5 p0 p1 q0 q1
  obtain ⟨p0, p1, _⟩ := cells2 T6.out.1
  obtain ⟨q0, q1, _⟩ := cells2 T6.out.2.1
  have hself : newerB a1 a2 a1 a2 = false := by simp [newerB]
  rw [hself]
  clear hself
  have HX := Lib.hid (newerB_iff a1 a2 b1 b2)
  have HY := Lib.hid (newerB_iff b1 b2 a1 a2)
  have HT := Lib.hid (newerB_iff b1 b2 c1 c2)
  have HZ := Lib.hid (newerB_iff a1 a2 c1 c2)
  generalize newerB a1 a2 b1 b2 = x at *
  generalize newerB b1 b2 a1 a2 = y at *
  generalize newerB b1 b2 c1 c2 = t at *
  generalize newerB a1 a2 c1 c2 = z at *
  have B6 := Lib.hid T6.out.2.2.2
  clear T6
  by_cases he : a1 = b1 ∧ a2 = b2
  · obtain ⟨rfl, rfl⟩ := he
    have hx : x = false := by have := HX.out; cases x <;> simp_all
    have hy : y = false := by have := HY.out; cases y <;> simp_all
    subst hx hy
    clear HX HY HT HZ
    go_wp2_with fail
    go_ret
    exact ⟨rfl, B6.out⟩
  · have hxy : (x = true ∧ y = false) ∨ (x = false ∧ y = true) := by
      have h1 := HX.out; have h2 := HY.out
      cases x <;> cases y <;> simp only [true_iff, false_iff, Bool.false_eq_true] at h1 h2 <;> first | (exact .inl ⟨rfl, rfl⟩) | (exact .inr ⟨rfl, rfl⟩) | omega
    have hthr : x = true → t = true → z = true := fun hx ht => by
      have h1 := HX.out.1 hx; have h2 := HT.out.1 ht
      exact HZ.out.2 (by omega)
    have HTH := Lib.hid hthr
    have HE := Lib.hid he
    clear HX HY HT HZ hthr he
    rcases hxy with ⟨rfl, rfl⟩ | ⟨rfl, rfl⟩
    · cases t
      · go_wp2_with fail
        all_goals first | (go_ret; exact ⟨rfl, B6.out⟩) | exact absurd ⟨by first | assumption | (symm; assumption), by first | assumption | (symm; assumption)⟩ HE.out
      · have hz := HTH.out rfl rfl
        subst hz
        go_wp2_with fail
        all_goals first | (go_ret; exact ⟨rfl, B6.out⟩) | exact absurd ⟨by first | assumption | (symm; assumption), by first | assumption | (symm; assumption)⟩ HE.out
    · go_wp2_with fail
      all_goals first | (go_ret; exact ⟨rfl, B6.out⟩) | exact absurd ⟨by first | assumption | (symm; assumption), by first | assumption | (symm; assumption)⟩ HE.out
end Go.Proofs.Ytiakaloabeendaa
