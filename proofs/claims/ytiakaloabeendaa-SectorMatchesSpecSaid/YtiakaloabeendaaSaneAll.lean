/- solventlaw15.sanity: its examples hold. -/
import Derived.Test.YtiakaloabeendaaLabelF
import Derived.Test.YtiakaloabeendaaSane15
import Derived.Test.YtiakaloabeendaaLawOrder
namespace Go.Proofs.Ytiakaloabeendaa
open Go.RowKit

theorem sane15 : Sane15 := fun w => by
  refine sanity15_of ?_ ?_ w
  · exact label_seal 3 4 258 1 5 [97, 98, 99] (by decide) (by decide) (by decide)
  · refine label_bad Z64 (by unfold Z64; rw [strB_size]; rfl) ?_
    unfold Z64
    rw [strB_list]
    intro h
    exact absurd h.2.2.1 (by decide)
end Go.Proofs.Ytiakaloabeendaa
