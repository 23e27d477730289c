/- What the condition on the listed variable gives the walks; a heap that meets it. -/
import Derived.Test.YtiakaloabeendaaDoorRows
import Derived.Test.YtiakaloabeendaaDoorTwin
import Derived.ProofKit
import Derived.LaidMore
import Derived.OpenShut
import Derived.Stop.Joined
namespace Go.Proofs.YtiakaloabeendaaDoor
open Go.ChangeShapes Go.WideShapes Go.ChangeAt Go.WideMaps Go.WideElems Go.RowKit

def laidE : List (String × DataW Unit) := [("solvent/fingerprint.exponents", Rows.laid_solvent_fingerprint_exponents)]
theorem gExp : Tryd.prog.globalNamed "solvent/fingerprint.exponents" = some 0 := by kernel_rfl
theorem tExp : (Tryd.prog.globals[0]?).map (·.type) = some 36 := by kernel_rfl
theorem exps_len : exps.length = 18 := rfl

theorem exp_of_laid {W : World} (h : laidMetH Tryd.prog laidE W) : ExpW W := by
  rw [MakeChecks.laidMetH_plain _ _ _ (by kernel_rfl)] at h
  obtain ⟨ps, ⟨g0, t0, cs0, f0, p0, q0, hg0, ht0, hv0, hd0, _, _⟩, _, _⟩ := h
  obtain rfl := Option.some.inj (gExp.symm.trans hg0)
  obtain rfl := Option.some.inj (tExp.symm.trans ht0)
  have c3 : Tryd.prog.cellsOf 3 = 1 := by kernel_rfl
  have c36 : Tryd.prog.cellsOf 36 = 18 := by kernel_rfl
  obtain ⟨xs, m1, rfl, hx1, hlen, hn3, hel⟩ := DataW.trod_array Tryd.underlying36 hd0
  simp only [Prod.mk.injEq] at hx1
  have hmap : xs.map (·.1) = exps.map fun (n : Nat) => (DataW.lit (.int .i64 (n : Int)) : DataW Unit) := by
    have := hx1.1
    unfold Rows.laid_solvent_fingerprint_exponents at this
    exact (DataW.agg.inj this).symm
  have hcs : cs0 = expRow := by
    apply Array.ext_getElem?
    intro i
    by_cases hi : i < 18
    · have h1 := hel i hi
      rw [c3, List.getElem?_eq_getElem (by omega)] at h1
      obtain ⟨k, e1, e2, _⟩ := DataW.trod_int Tryd.underlying3 h1
      have h3 : (xs.map (·.1))[i]? = some (DataW.lit (.int .i64 k)) := by
        rw [List.getElem?_map, List.getElem?_eq_getElem (by omega), e2]; rfl
      rw [hmap, List.getElem?_map, List.getElem?_eq_getElem (by rw [exps_len]; exact hi)] at h3
      have h4 : k = ((exps.getD i 0 : Nat) : Int) := by
        simp only [Option.map_some, Option.some.injEq] at h3
        have := h3
        injection this with h5
        injection h5 with _ h6
        rw [← h6, List.getD_eq_getElem?_getD, List.getElem?_eq_getElem (by rw [exps_len]; exact hi)]
        rfl
      have h5 : cs0[i]? = some (.int .i64 k) := by
        have h6 : (cs0.toList.drop (i * 1)).take 1 = [Value.int .i64 k] := e1
        have h7 := congrArg (fun l => l[0]?) h6
        simp only [List.getElem?_take, List.getElem?_drop, Nat.mul_one] at h7
        simpa using h7
      rw [h5, expRow_at i hi, h4]
    · rw [Array.getElem?_eq_none (by have : cs0.size = 18 := by simpa [c36] using hlen
                                     omega), Array.getElem?_eq_none (by show 18 ≤ i; omega)]
  unfold World.var? at hv0
  rw [hg0] at hv0
  simp only [Option.bind_some] at hv0
  split at hv0
  · rename_i cs t fz hh
    obtain rfl := Option.some.inj hv0
    exact ⟨t, fz, by rw [hh, hcs]⟩
  · cases hv0

theorem door_met (os : Os) (args : Array Value) : laidMetH Tryd.prog laidE ((World.doorLaid Tryd.prog 14 os).forCall (fun _ _ => 0) ⟨#[], args, []⟩).memory :=
  laidMetH_of_parts3 (fuel := 8) (laidMet_of_run' 8 (by kernel_rfl) (by kernel_rfl)) (by kernel_rfl) (by kernel_rfl)
end Go.Proofs.YtiakaloabeendaaDoor
