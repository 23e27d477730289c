/- Appends of a string and of fresh zeros onto own bytes; bytes back to a string. -/
import Derived.Test.YtiakaloabeendaaSec3
import Derived.Lib.AppendStr
import Derived.Lib.AppendZeros
import Derived.Lib.BufferRead
namespace Go.Proofs.Ytiakaloabeendaa
open Go.RowKit
set_option linter.unusedSimpArgs false

def strB (l : List UInt8) : ByteArray := ⟨l.toArray⟩
theorem strB_size (l : List UInt8) : (strB l).size = l.length := by simp [strB, ByteArray.size]
theorem strB_list (l : List UInt8) : (strB l).data.toList = l := by simp [strB]
theorem strB_self (s : ByteArray) : strB s.data.toList = s := by simp [strB]
theorem strB_inj {l m : List UInt8} (h : strB l = strB m) : l = m := by rw [← strB_list l, h, strB_list]

theorem strCells_bvs (s : ByteArray) : Lib.strCells s = bvs s.data.toList := rfl

/-- 'append(b, s...)' onto bytes of the call's own. -/
theorem run_append_s {w : World} (base : Nat) (ty : TypeId) (v : Value) (l : List UInt8) (s : ByteArray) (hown : OwnB w base v l)
    (hbytes : l.length + s.size ≤ 140737488355328) (hbase : base ≤ w.heap.size) :
    ∃ v' w', (Builtin.append_ #[22, 9] ty #[v, .string s]).run Try.prog w = .ok v' w' ∧ OwnB w' base v' (l ++ s.data.toList) ∧ w.grownBy w' v.ownBlock := by
  obtain ⟨i, hi, hz0, hz1, hz2⟩ := info_parts infoByte
  obtain ⟨v', w', h1, h2, h3, _⟩ := Lib.run_append_own_string (P := Try.prog) w base 22 9 ty 5 i Try.underlying22 Try.underlying9 hi hz0 hz1 hz2 v l.length (bvs l) hown s (by unfold maxLen; omega) hbytes hbase
  refine ⟨v', w', h1, ?_, h3⟩
  unfold OwnB
  rw [List.length_append, bvs_append]
  have e : s.data.toList.length = s.size := by simp
  rw [e]
  exact h2

theorem wpList_append_s {w : World} {ops : Array Oper} {rest : List Oper} {o : Oper} {a : Act} {Q : Exit → Act → World → Prop} (hgd : o.guard = none) (s x : Operand)
    (ho : o.op = .call { callee := .builtin .append, args := #[s, x], argTypes := #[22, 9] })
    (base : Nat) (v : Value) (l : List UInt8) (p : ByteArray) (hs : a.eval s = v) (hown : OwnB w base v l) (hx : a.eval x = .string p)
    (hbytes : l.length + p.size ≤ 140737488355328) (hbase : base ≤ w.heap.size)
    (h : ∀ v' w', OwnB w' base v' (l ++ p.data.toList) → w.grownBy w' v.ownBlock → wpList Try.prog ops Q rest (a.put o.dst v') w') : wpList Try.prog ops Q (o :: rest) a w := by
  obtain ⟨v', w', h1, h2, h3⟩ := run_append_s (w := w) base o.type v l p hown hbytes hbase
  exact Lib.wpList_append_run w hgd s x _ _ ho _ _ hs hx v' w' h1 (h v' w' h2 h3)

/-- 'append(b, make([]byte, n)...)' is the append of n zero bytes. -/
theorem run_append_z {w : World} (base : Nat) (ty : TypeId) (v : Value) (l : List UInt8) (n : Nat) (hown : OwnB w base v l)
    (hbytes : l.length + n ≤ 140737488355328) (hbase : base ≤ w.heap.size) :
    ∃ v' w', (Builtin.append_ #[22, 3] ty #[v, .int .i64 n]).run Try.prog w = .ok v' w' ∧ OwnB w' base v' (l ++ List.replicate n 0) ∧ w.grownBy w' v.ownBlock := by
  obtain ⟨v', w', h1, h2, h3⟩ := run_append_s (w := w) base ty v l (strB (List.replicate n 0)) hown (by rw [strB_size, List.length_replicate]; exact hbytes) hbase
  rw [strB_list] at h2
  refine ⟨v', w', ?_, h2, h3⟩
  rw [← h1]
  clear h1 h2 h3
  obtain ⟨i, hi, hz0, hz1, hz2⟩ := info_parts infoByte
  have hb : l.length = (bvs l).length := (bvs_length l).symm
  have hw : IntKind.i64.wrap (n : Int) = n := by rw [IntKind.wrap_i64]; omega
  have hneg : ¬ ((n : Int) < 0) := by omega
  have h48i : ¬ (281474976710656 < (n : Int)) := by omega
  have hs : (strB (List.replicate n 0)).size = n := by rw [strB_size, List.length_replicate]
  have hf : ∀ W : World, (Builtin.firstCells 1 n (.string (strB (List.replicate n 0)))).run Try.prog W = .ok (Lib.strCells (strB (List.replicate n 0))).toArray W := fun W => by
    have := Lib.run_firstCells_string (P := Try.prog) W 1 (strB (List.replicate n 0))
    rwa [hs] at this
  have hzc : Builtin.zeroCells (Value.int .u8 0).cells n = (Lib.strCells (strB (List.replicate n 0))).toArray := by
    rw [strCells_bvs, strB_list]
    apply Array.ext'
    apply List.ext_getElem?
    intro j
    have e1 : (Value.int .u8 0).cells = #[Value.int .u8 0] := rfl
    rw [e1]
    by_cases hj : j < n
    · simp [Builtin.zeroCells, hj, Nat.mod_one, bvs]
    · simp [Builtin.zeroCells, hj, bvs]
  obtain ⟨ad, cap, rfl, hn, hcap⟩ : ∃ ad cap, v = .slice ad l.length cap ∧ (ad = none → True) ∧ l.length ≤ cap := by
    rcases hown.2 with ⟨rfl, hn⟩ | ⟨g, cap, cur, rfl, _, _, hc, _⟩
    · exact ⟨none, 0, by rw [hn], fun _ => trivial, by omega⟩
    · exact ⟨_, cap, rfl, fun _ => trivial, hc⟩
  by_cases hroom : l.length + n ≤ cap
  · by_cases h0 : n = 0
    · subst h0
      have hw0 : IntKind.i64.wrap 0 = 0 := rfl
      have hs0 : (strB []).size = 0 := rfl
      have hf0 : ∀ W : World, (Builtin.firstCells 1 0 (.string (strB []))).run Try.prog W = .ok #[] W := fun W => hf W
      simp [hw0, hs0, hf0, hcap, Builtin.append_, run_underlying Try.underlying22, run_underlying Try.underlying3, run_underlying Try.underlying9, sizeOf, typeInfo, zeroValue, hi, hz0, hz1, hz2, asInt, asIntOf, hw, Builtin.lenOf, hs, hf, hroom]
    · simp [Builtin.append_, run_underlying Try.underlying22, run_underlying Try.underlying3, run_underlying Try.underlying9, sizeOf, typeInfo, zeroValue, hi, hz0, hz1, hz2, asInt, asIntOf, hw, hneg, h48i, h0, Builtin.lenOf, hs, hf, hzc, hroom]
  · have hfit : ¬ (281474976710656 < Builtin.nextslicecap (l.length + n) cap) := by
      have := growslice_fits (need := l.length + n) (old := cap) (bytes := 1) (by omega) (by omega)
      rw [Nat.mul_one] at this
      omega
    have h63 : ¬ (9223372036854775807 < (l.length : Int) + (n : Int)) := by omega
    by_cases h0 : n = 0
    · omega
    · simp [Builtin.append_, run_underlying Try.underlying22, run_underlying Try.underlying3, run_underlying Try.underlying9, sizeOf, typeInfo, zeroValue, hi, hz0, hz1, hz2, asInt, asIntOf, hw, hneg, h48i, h0, h63, hfit, Builtin.lenOf, hs, hf, hzc, hroom]

theorem wpList_append_z {w : World} {ops : Array Oper} {rest : List Oper} {o : Oper} {a : Act} {Q : Exit → Act → World → Prop} (hgd : o.guard = none) (s x : Operand)
    (ho : o.op = .call { callee := .builtin .append, args := #[s, x], argTypes := #[22, 3] })
    (base : Nat) (v : Value) (l : List UInt8) (n : Nat) (N : Int) (hs : a.eval s = v) (hown : OwnB w base v l) (hx : a.eval x = .int .i64 N) (hN : N = (n : Int))
    (hbytes : l.length + n ≤ 140737488355328) (hbase : base ≤ w.heap.size)
    (h : ∀ v' w', OwnB w' base v' (l ++ List.replicate n 0) → w.grownBy w' v.ownBlock → wpList Try.prog ops Q rest (a.put o.dst v') w') : wpList Try.prog ops Q (o :: rest) a w := by
  subst hN
  obtain ⟨v', w', h1, h2, h3⟩ := run_append_z (w := w) base o.type v l n hown hbytes hbase
  exact Lib.wpList_append_run w hgd s x _ _ ho _ _ hs hx v' w' h1 (h v' w' h2 h3)

/-- 'string(b)' of own bytes. -/
theorem OwnB.str {w : World} {base : Nat} {v : Value} {l : List UInt8} (h : OwnB w base v l) : (convert 22 9 v).run Try.prog w = .ok (.string (strB l)) w := by
  by_cases hl : l.length = 0
  · obtain rfl : l = [] := List.eq_nil_of_length_eq_zero hl
    rcases h.2 with ⟨rfl, hn⟩ | ⟨g, cap, cur, rfl, h1, h2, h3⟩
    · exact Lib.run_convert_nil_bytes w _ _ _ 0 Try.underlying22 Try.underlying5 Try.underlying9
    · exact run_convert_bytes_back w _ _ _ ⟨g, 0, none⟩ cap [] Try.underlying22 Try.underlying5 Try.underlying9 (fun j hj => by simp at hj)
  · obtain ⟨g, cap, rfl, _, _⟩ := h.form (by omega)
    refine run_convert_bytes_back w _ _ _ ⟨g, 0, none⟩ cap l Try.underlying22 Try.underlying5 Try.underlying9 (fun j hj => ?_)
    rw [Addr.add_lit, Nat.zero_add, (h.cell j hj).1]
    simp [hj]

/-- A literal of two bytes. -/
theorem OwnB.two (w : World) (x y : UInt8) (base : Nat) (hb : base ≤ w.heap.size) : OwnB (w.alloc (.cells #[.int .u8 (x.toNat : Int), .int .u8 (y.toNat : Int)] 5)) base (.slice (some ⟨w.heap.size, 0, none⟩) 2 2) [x, y] := by
  unfold OwnB
  refine ⟨by simp [bvs], .inr ⟨w.heap.size, 2, _, rfl, hb, heap_alloc_new w _, by simp, by simp [maxLen], by simp, by simp [bvs]⟩⟩
end Go.Proofs.Ytiakaloabeendaa
