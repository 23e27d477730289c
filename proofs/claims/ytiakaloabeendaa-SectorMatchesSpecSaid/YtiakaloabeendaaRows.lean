/-
  No cell of these rows narrows 'for every input' (looked for: loops, veiled, ifaces, maps, wideKeys, modest, calm, conditions, laid).
  DERIVED. THE GIVEN ROWS OF THIS SEAT. 13 by the template 'for every input the law returns true; each argument reads behind the call as it read before'; 0 by the template 'total and deterministic' (their statements: YtiakaloabeendaaTotals.lean).
  GIVEN WITH THE SEED: the statements are not yours to turn. If you find one false, say at which input.
  Laid BY PROGRAM, IN A SANDBOX (cutbox-rows.mjs): the forced cells as the released guide's own fill.sh prints them over the translation 9c66b9cb324ba85e… (all of the seat's roots in one cut). By AI agents, Wed Nov 11 2026. No macro, syntax, notation, axiom, sorry.
-/
import Derived.Test.YtiakaloabeendaaChecked
import GoSem.Claim
import GoSem.ClaimJoined
import GoSem.ClaimMapViews
import Derived.JoinedTies
import Derived.KernelRfl
namespace Go.Proofs.Ytiakaloabeendaa
/- THE CELL 'sum', in the pinned program and in every row, IS THE sha256 OF THE DUMP (.gsa) THAT YtiakaloabeendaaProg.lean LOADS. Nothing in Lean hashes anything: it is a label: what it is worth is what the hold of that sum in a sandbox is worth. -/
noncomputable def Try.pinned : Pinned := { name := "ytiakaloabeendaa", sum := "9c66b9cb324ba85e2b51cc216a1b4551b6412b84610e96a283316b22ae5e90b6", checked := Try.checked }
namespace Rows
def none {H : Type} : Left H := { results := [], args := [] }

/-- 'solventlaw03.CrcMatchesSpec': WHATEVER THE INPUT: true; the input reads as it did. -/
def crcMatchesSpecSpec : ChangeSpec := { name := "crcMatchesSpec", fn := fun _ => fun
  | [d1, d2, d3, d4] => { results := [.lit (.bool true)], args := [d1, d2, d3, d4] }
  | _ => none }
def crcMatchesSpecRow : OpenClaim := { program := "ytiakaloabeendaa", sum := "9c66b9cb324ba85e2b51cc216a1b4551b6412b84610e96a283316b22ae5e90b6", func := "solvent/solventlaw03.CrcMatchesSpec", spec := "crcMatchesSpec", unfollowed := true, recurses := true, apart := false }
def CrcMatchesSpecSaid : Prop := crcMatchesSpecRow.holds Try.pinned (OpenSpec.ofChange crcMatchesSpecSpec)

/-- ITS FALSE NEIGHBOUR: 'it returns false'. Refute it at one input. -/
def crcMatchesSpecWrong : ChangeSpec := { name := "crcMatchesSpec", fn := fun _ => fun
  | [d1, d2, d3, d4] => { results := [.lit (.bool false)], args := [d1, d2, d3, d4] }
  | _ => none }
def CrcMatchesSpecWrongFalsely : Prop := crcMatchesSpecRow.holds Try.pinned (OpenSpec.ofChange crcMatchesSpecWrong)

/-- 'solventlaw03.CrcParts': WHATEVER THE INPUT: true; the input reads as it did. -/
def crcPartsSpec : ChangeSpec := { name := "crcParts", fn := fun _ => fun
  | [d] => { results := [.lit (.bool true)], args := [d] }
  | _ => none }
def crcPartsRow : OpenClaim := { program := "ytiakaloabeendaa", sum := "9c66b9cb324ba85e2b51cc216a1b4551b6412b84610e96a283316b22ae5e90b6", func := "solvent/solventlaw03.CrcParts", spec := "crcParts", unfollowed := true, recurses := true, apart := false }
def CrcPartsSaid : Prop := crcPartsRow.holds Try.pinned (OpenSpec.ofChange crcPartsSpec)

/-- ITS FALSE NEIGHBOUR: 'it returns false'. Refute it at one input. -/
def crcPartsWrong : ChangeSpec := { name := "crcParts", fn := fun _ => fun
  | [d] => { results := [.lit (.bool false)], args := [d] }
  | _ => none }
def CrcPartsWrongFalsely : Prop := crcPartsRow.holds Try.pinned (OpenSpec.ofChange crcPartsWrong)

/-- 'solventlaw03.CrcCombines': WHATEVER THE INPUT: true; the input reads as it did. -/
def crcCombinesSpec : ChangeSpec := { name := "crcCombines", fn := fun _ => fun
  | [d1, d2] => { results := [.lit (.bool true)], args := [d1, d2] }
  | _ => none }
def crcCombinesRow : OpenClaim := { program := "ytiakaloabeendaa", sum := "9c66b9cb324ba85e2b51cc216a1b4551b6412b84610e96a283316b22ae5e90b6", func := "solvent/solventlaw03.CrcCombines", spec := "crcCombines", unfollowed := true, recurses := true, apart := false }
def CrcCombinesSaid : Prop := crcCombinesRow.holds Try.pinned (OpenSpec.ofChange crcCombinesSpec)

/-- ITS FALSE NEIGHBOUR: 'it returns false'. Refute it at one input. -/
def crcCombinesWrong : ChangeSpec := { name := "crcCombines", fn := fun _ => fun
  | [d1, d2] => { results := [.lit (.bool false)], args := [d1, d2] }
  | _ => none }
def CrcCombinesWrongFalsely : Prop := crcCombinesRow.holds Try.pinned (OpenSpec.ofChange crcCombinesWrong)

/-- 'solventlaw03.CrcZeros': WHATEVER THE INPUT: true; the input reads as it did. -/
def crcZerosSpec : ChangeSpec := { name := "crcZeros", fn := fun _ => fun
  | [d1, d2, d3] => { results := [.lit (.bool true)], args := [d1, d2, d3] }
  | _ => none }
def crcZerosRow : OpenClaim := { program := "ytiakaloabeendaa", sum := "9c66b9cb324ba85e2b51cc216a1b4551b6412b84610e96a283316b22ae5e90b6", func := "solvent/solventlaw03.CrcZeros", spec := "crcZeros", unfollowed := true, recurses := true, apart := false }
def CrcZerosSaid : Prop := crcZerosRow.holds Try.pinned (OpenSpec.ofChange crcZerosSpec)

/-- ITS FALSE NEIGHBOUR: 'it returns false'. Refute it at one input. -/
def crcZerosWrong : ChangeSpec := { name := "crcZeros", fn := fun _ => fun
  | [d1, d2, d3] => { results := [.lit (.bool false)], args := [d1, d2, d3] }
  | _ => none }
def CrcZerosWrongFalsely : Prop := crcZerosRow.holds Try.pinned (OpenSpec.ofChange crcZerosWrong)

/-- 'solventlaw15.SectorOrder': WHATEVER THE INPUT: true; the input reads as it did. -/
def sectorOrderSpec : ChangeSpec := { name := "sectorOrder", fn := fun _ => fun
  | [d1, d2, d3] => { results := [.lit (.bool true)], args := [d1, d2, d3] }
  | _ => none }
def sectorOrderRow : OpenClaim := { program := "ytiakaloabeendaa", sum := "9c66b9cb324ba85e2b51cc216a1b4551b6412b84610e96a283316b22ae5e90b6", func := "solvent/solventlaw15.SectorOrder", spec := "sectorOrder", apart := false }
def SectorOrderSaid : Prop := sectorOrderRow.holds Try.pinned (OpenSpec.ofChange sectorOrderSpec)

/-- ITS FALSE NEIGHBOUR: 'it returns false'. Refute it at one input. -/
def sectorOrderWrong : ChangeSpec := { name := "sectorOrder", fn := fun _ => fun
  | [d1, d2, d3] => { results := [.lit (.bool false)], args := [d1, d2, d3] }
  | _ => none }
def SectorOrderWrongFalsely : Prop := sectorOrderRow.holds Try.pinned (OpenSpec.ofChange sectorOrderWrong)

/-- 'solventlaw03.CrcBursts': WHATEVER THE INPUT: true; the input reads as it did. -/
def crcBurstsSpec : ChangeSpec := { name := "crcBursts", fn := fun _ => fun
  | [d1, d2, d3] => { results := [.lit (.bool true)], args := [d1, d2, d3] }
  | _ => none }
def crcBurstsRow : OpenClaim := { program := "ytiakaloabeendaa", sum := "9c66b9cb324ba85e2b51cc216a1b4551b6412b84610e96a283316b22ae5e90b6", func := "solvent/solventlaw03.CrcBursts", spec := "crcBursts", unfollowed := true, recurses := true, apart := false }
def CrcBurstsSaid : Prop := crcBurstsRow.holds Try.pinned (OpenSpec.ofChange crcBurstsSpec)

/-- ITS FALSE NEIGHBOUR: 'it returns false'. Refute it at one input. -/
def crcBurstsWrong : ChangeSpec := { name := "crcBursts", fn := fun _ => fun
  | [d1, d2, d3] => { results := [.lit (.bool false)], args := [d1, d2, d3] }
  | _ => none }
def CrcBurstsWrongFalsely : Prop := crcBurstsRow.holds Try.pinned (OpenSpec.ofChange crcBurstsWrong)

/-- 'solventlaw15.SectorTorn': WHATEVER THE INPUT: true; the input reads as it did. -/
def sectorTornSpec : ChangeSpec := { name := "sectorTorn", fn := fun _ => fun
  | [d1, d2, d3, d4, d5, d6, d7] => { results := [.lit (.bool true)], args := [d1, d2, d3, d4, d5, d6, d7] }
  | _ => none }
def sectorTornRow : OpenClaim := { program := "ytiakaloabeendaa", sum := "9c66b9cb324ba85e2b51cc216a1b4551b6412b84610e96a283316b22ae5e90b6", func := "solvent/solventlaw15.SectorTorn", spec := "sectorTorn", apart := false }
def SectorTornSaid : Prop := sectorTornRow.holds Try.pinned (OpenSpec.ofChange sectorTornSpec)

/-- ITS FALSE NEIGHBOUR: 'it returns false'. Refute it at one input. -/
def sectorTornWrong : ChangeSpec := { name := "sectorTorn", fn := fun _ => fun
  | [d1, d2, d3, d4, d5, d6, d7] => { results := [.lit (.bool false)], args := [d1, d2, d3, d4, d5, d6, d7] }
  | _ => none }
def SectorTornWrongFalsely : Prop := sectorTornRow.holds Try.pinned (OpenSpec.ofChange sectorTornWrong)

/-- 'solventlaw03.CrcBits': WHATEVER THE INPUT: true; the input reads as it did. -/
def crcBitsSpec : ChangeSpec := { name := "crcBits", fn := fun _ => fun
  | [d1, d2, d3, d4] => { results := [.lit (.bool true)], args := [d1, d2, d3, d4] }
  | _ => none }
def crcBitsRow : OpenClaim := { program := "ytiakaloabeendaa", sum := "9c66b9cb324ba85e2b51cc216a1b4551b6412b84610e96a283316b22ae5e90b6", func := "solvent/solventlaw03.CrcBits", spec := "crcBits", unfollowed := true, recurses := true, apart := false }
def CrcBitsSaid : Prop := crcBitsRow.holds Try.pinned (OpenSpec.ofChange crcBitsSpec)

/-- ITS FALSE NEIGHBOUR: 'it returns false'. Refute it at one input. -/
def crcBitsWrong : ChangeSpec := { name := "crcBits", fn := fun _ => fun
  | [d1, d2, d3, d4] => { results := [.lit (.bool false)], args := [d1, d2, d3, d4] }
  | _ => none }
def CrcBitsWrongFalsely : Prop := crcBitsRow.holds Try.pinned (OpenSpec.ofChange crcBitsWrong)

/-- 'solventlaw03.CrcAffine': WHATEVER THE INPUT: true; the input reads as it did. -/
def crcAffineSpec : ChangeSpec := { name := "crcAffine", fn := fun _ => fun
  | [d1, d2, d3] => { results := [.lit (.bool true)], args := [d1, d2, d3] }
  | _ => none }
def crcAffineRow : OpenClaim := { program := "ytiakaloabeendaa", sum := "9c66b9cb324ba85e2b51cc216a1b4551b6412b84610e96a283316b22ae5e90b6", func := "solvent/solventlaw03.CrcAffine", spec := "crcAffine", unfollowed := true, recurses := true, apart := false }
def CrcAffineSaid : Prop := crcAffineRow.holds Try.pinned (OpenSpec.ofChange crcAffineSpec)

/-- ITS FALSE NEIGHBOUR: 'it returns false'. Refute it at one input. -/
def crcAffineWrong : ChangeSpec := { name := "crcAffine", fn := fun _ => fun
  | [d1, d2, d3] => { results := [.lit (.bool false)], args := [d1, d2, d3] }
  | _ => none }
def CrcAffineWrongFalsely : Prop := crcAffineRow.holds Try.pinned (OpenSpec.ofChange crcAffineWrong)

/-- 'solventlaw15.SectorMatchesSpec': WHATEVER THE INPUT: true; the input reads as it did. -/
def sectorMatchesSpecSpec : ChangeSpec := { name := "sectorMatchesSpec", fn := fun _ => fun
  | [d1, d2, d3, d4, d5] => { results := [.lit (.bool true)], args := [d1, d2, d3, d4, d5] }
  | _ => none }
def sectorMatchesSpecRow : OpenClaim := { program := "ytiakaloabeendaa", sum := "9c66b9cb324ba85e2b51cc216a1b4551b6412b84610e96a283316b22ae5e90b6", func := "solvent/solventlaw15.SectorMatchesSpec", spec := "sectorMatchesSpec", apart := false }
def SectorMatchesSpecSaid : Prop := sectorMatchesSpecRow.holds Try.pinned (OpenSpec.ofChange sectorMatchesSpecSpec)

/-- ITS FALSE NEIGHBOUR: 'it returns false'. Refute it at one input. -/
def sectorMatchesSpecWrong : ChangeSpec := { name := "sectorMatchesSpec", fn := fun _ => fun
  | [d1, d2, d3, d4, d5] => { results := [.lit (.bool false)], args := [d1, d2, d3, d4, d5] }
  | _ => none }
def SectorMatchesSpecWrongFalsely : Prop := sectorMatchesSpecRow.holds Try.pinned (OpenSpec.ofChange sectorMatchesSpecWrong)

/-- 'solventlaw15.SectorOpens': WHATEVER THE INPUT: true; the input reads as it did. -/
def sectorOpensSpec : ChangeSpec := { name := "sectorOpens", fn := fun _ => fun
  | [d1, d2, d3, d4] => { results := [.lit (.bool true)], args := [d1, d2, d3, d4] }
  | _ => none }
def sectorOpensRow : OpenClaim := { program := "ytiakaloabeendaa", sum := "9c66b9cb324ba85e2b51cc216a1b4551b6412b84610e96a283316b22ae5e90b6", func := "solvent/solventlaw15.SectorOpens", spec := "sectorOpens", apart := false }
def SectorOpensSaid : Prop := sectorOpensRow.holds Try.pinned (OpenSpec.ofChange sectorOpensSpec)

/-- ITS FALSE NEIGHBOUR: 'it returns false'. Refute it at one input. -/
def sectorOpensWrong : ChangeSpec := { name := "sectorOpens", fn := fun _ => fun
  | [d1, d2, d3, d4] => { results := [.lit (.bool false)], args := [d1, d2, d3, d4] }
  | _ => none }
def SectorOpensWrongFalsely : Prop := sectorOpensRow.holds Try.pinned (OpenSpec.ofChange sectorOpensWrong)

/-- 'solventlaw15.SectorDamaged': WHATEVER THE INPUT: true; the input reads as it did. -/
def sectorDamagedSpec : ChangeSpec := { name := "sectorDamaged", fn := fun _ => fun
  | [d1, d2, d3, d4, d5] => { results := [.lit (.bool true)], args := [d1, d2, d3, d4, d5] }
  | _ => none }
def sectorDamagedRow : OpenClaim := { program := "ytiakaloabeendaa", sum := "9c66b9cb324ba85e2b51cc216a1b4551b6412b84610e96a283316b22ae5e90b6", func := "solvent/solventlaw15.SectorDamaged", spec := "sectorDamaged", apart := false }
def SectorDamagedSaid : Prop := sectorDamagedRow.holds Try.pinned (OpenSpec.ofChange sectorDamagedSpec)

/-- ITS FALSE NEIGHBOUR: 'it returns false'. Refute it at one input. -/
def sectorDamagedWrong : ChangeSpec := { name := "sectorDamaged", fn := fun _ => fun
  | [d1, d2, d3, d4, d5] => { results := [.lit (.bool false)], args := [d1, d2, d3, d4, d5] }
  | _ => none }
def SectorDamagedWrongFalsely : Prop := sectorDamagedRow.holds Try.pinned (OpenSpec.ofChange sectorDamagedWrong)

/-- 'solventlaw15.SectorDistinct': WHATEVER THE INPUT: true; the input reads as it did. -/
def sectorDistinctSpec : ChangeSpec := { name := "sectorDistinct", fn := fun _ => fun
  | [d1, d2, d3, d4, d5, d6] => { results := [.lit (.bool true)], args := [d1, d2, d3, d4, d5, d6] }
  | _ => none }
def sectorDistinctRow : OpenClaim := { program := "ytiakaloabeendaa", sum := "9c66b9cb324ba85e2b51cc216a1b4551b6412b84610e96a283316b22ae5e90b6", func := "solvent/solventlaw15.SectorDistinct", spec := "sectorDistinct", apart := false }
def SectorDistinctSaid : Prop := sectorDistinctRow.holds Try.pinned (OpenSpec.ofChange sectorDistinctSpec)

/-- ITS FALSE NEIGHBOUR: 'it returns false'. Refute it at one input. -/
def sectorDistinctWrong : ChangeSpec := { name := "sectorDistinct", fn := fun _ => fun
  | [d1, d2, d3, d4, d5, d6] => { results := [.lit (.bool false)], args := [d1, d2, d3, d4, d5, d6] }
  | _ => none }
def SectorDistinctWrongFalsely : Prop := sectorDistinctRow.holds Try.pinned (OpenSpec.ofChange sectorDistinctWrong)

/- THE SECOND FORM. 'bulk': how many values and letters a reading holds, each counted each time it is reached (what is shared counts as often as it is met; a slice's spare places count too). A statement '..UptoSaid' is the law's where the arguments, and the package variables that the reading takes, are together of bulk at most 1048576: NARROWER than '..Said'. Prove '..Said' where nothing that the law and all that it calls make is longer than what came in: it says more and counts as full. Else prove '..UptoSaid'. A law counts once. -/
mutual
def uptoBulk {H : Type} : DataW H → Nat
  | .lit (.string bytes) => bytes.length + 1
  | .lit _ => 1
  | .nil => 1
  | .ptr d => uptoBulk d + 1
  | .slice elems spare => uptoBulkAll elems + uptoBulkAll spare + 1
  | .agg parts => uptoBulkAll parts + 1
  | .iface _ d => uptoBulk d + 1
  | .map entries => uptoBulkEntries entries + 1
  | .held _ => 1
def uptoBulkAll {H : Type} : List (DataW H) → Nat
  | [] => 0
  | d :: r => uptoBulk d + uptoBulkAll r
def uptoBulkEntries {H : Type} : List (Lit × DataW H) → Nat
  | [] => 0
  | x :: r => uptoBulkEntry x + uptoBulkEntries r
def uptoBulkEntry {H : Type} : Lit × DataW H → Nat
  | (.string bytes, d) => bytes.length + uptoBulk d + 1
  | (_, d) => uptoBulk d + 1
 end
def uptoSmall : (H : Type) → List (DataW H) → Bool := fun _ ds => decide (uptoBulkAll ds ≤ 1048576)
def OpenSpec.upto (s : _root_.Go.ChangeSpec) : _root_.Go.OpenSpec := { _root_.Go.OpenSpec.ofChange s with cond := some uptoSmall }

/-- 'solventlaw03.CrcMatchesSpec', WHERE WHAT IT READS IS OF BULK AT MOST 1048576: true; the input reads as it did. -/
def crcMatchesSpecUptoRow : OpenClaim := { program := "ytiakaloabeendaa", sum := "9c66b9cb324ba85e2b51cc216a1b4551b6412b84610e96a283316b22ae5e90b6", func := "solvent/solventlaw03.CrcMatchesSpec", spec := "crcMatchesSpec", unfollowed := true, recurses := true, apart := false, narrowed := true }
def CrcMatchesSpecUptoSaid : Prop := crcMatchesSpecUptoRow.holds Try.pinned (OpenSpec.upto crcMatchesSpecSpec)

/-- 'solventlaw03.CrcParts', WHERE WHAT IT READS IS OF BULK AT MOST 1048576: true; the input reads as it did. -/
def crcPartsUptoRow : OpenClaim := { program := "ytiakaloabeendaa", sum := "9c66b9cb324ba85e2b51cc216a1b4551b6412b84610e96a283316b22ae5e90b6", func := "solvent/solventlaw03.CrcParts", spec := "crcParts", unfollowed := true, recurses := true, apart := false, narrowed := true }
def CrcPartsUptoSaid : Prop := crcPartsUptoRow.holds Try.pinned (OpenSpec.upto crcPartsSpec)

/-- 'solventlaw03.CrcCombines', WHERE WHAT IT READS IS OF BULK AT MOST 1048576: true; the input reads as it did. -/
def crcCombinesUptoRow : OpenClaim := { program := "ytiakaloabeendaa", sum := "9c66b9cb324ba85e2b51cc216a1b4551b6412b84610e96a283316b22ae5e90b6", func := "solvent/solventlaw03.CrcCombines", spec := "crcCombines", unfollowed := true, recurses := true, apart := false, narrowed := true }
def CrcCombinesUptoSaid : Prop := crcCombinesUptoRow.holds Try.pinned (OpenSpec.upto crcCombinesSpec)

/-- 'solventlaw03.CrcZeros', WHERE WHAT IT READS IS OF BULK AT MOST 1048576: true; the input reads as it did. -/
def crcZerosUptoRow : OpenClaim := { program := "ytiakaloabeendaa", sum := "9c66b9cb324ba85e2b51cc216a1b4551b6412b84610e96a283316b22ae5e90b6", func := "solvent/solventlaw03.CrcZeros", spec := "crcZeros", unfollowed := true, recurses := true, apart := false, narrowed := true }
def CrcZerosUptoSaid : Prop := crcZerosUptoRow.holds Try.pinned (OpenSpec.upto crcZerosSpec)

/-- 'solventlaw15.SectorOrder', WHERE WHAT IT READS IS OF BULK AT MOST 1048576: true; the input reads as it did. -/
def sectorOrderUptoRow : OpenClaim := { program := "ytiakaloabeendaa", sum := "9c66b9cb324ba85e2b51cc216a1b4551b6412b84610e96a283316b22ae5e90b6", func := "solvent/solventlaw15.SectorOrder", spec := "sectorOrder", apart := false, narrowed := true }
def SectorOrderUptoSaid : Prop := sectorOrderUptoRow.holds Try.pinned (OpenSpec.upto sectorOrderSpec)

/-- 'solventlaw03.CrcBursts', WHERE WHAT IT READS IS OF BULK AT MOST 1048576: true; the input reads as it did. -/
def crcBurstsUptoRow : OpenClaim := { program := "ytiakaloabeendaa", sum := "9c66b9cb324ba85e2b51cc216a1b4551b6412b84610e96a283316b22ae5e90b6", func := "solvent/solventlaw03.CrcBursts", spec := "crcBursts", unfollowed := true, recurses := true, apart := false, narrowed := true }
def CrcBurstsUptoSaid : Prop := crcBurstsUptoRow.holds Try.pinned (OpenSpec.upto crcBurstsSpec)

/-- 'solventlaw15.SectorTorn', WHERE WHAT IT READS IS OF BULK AT MOST 1048576: true; the input reads as it did. -/
def sectorTornUptoRow : OpenClaim := { program := "ytiakaloabeendaa", sum := "9c66b9cb324ba85e2b51cc216a1b4551b6412b84610e96a283316b22ae5e90b6", func := "solvent/solventlaw15.SectorTorn", spec := "sectorTorn", apart := false, narrowed := true }
def SectorTornUptoSaid : Prop := sectorTornUptoRow.holds Try.pinned (OpenSpec.upto sectorTornSpec)

/-- 'solventlaw03.CrcBits', WHERE WHAT IT READS IS OF BULK AT MOST 1048576: true; the input reads as it did. -/
def crcBitsUptoRow : OpenClaim := { program := "ytiakaloabeendaa", sum := "9c66b9cb324ba85e2b51cc216a1b4551b6412b84610e96a283316b22ae5e90b6", func := "solvent/solventlaw03.CrcBits", spec := "crcBits", unfollowed := true, recurses := true, apart := false, narrowed := true }
def CrcBitsUptoSaid : Prop := crcBitsUptoRow.holds Try.pinned (OpenSpec.upto crcBitsSpec)

/-- 'solventlaw03.CrcAffine', WHERE WHAT IT READS IS OF BULK AT MOST 1048576: true; the input reads as it did. -/
def crcAffineUptoRow : OpenClaim := { program := "ytiakaloabeendaa", sum := "9c66b9cb324ba85e2b51cc216a1b4551b6412b84610e96a283316b22ae5e90b6", func := "solvent/solventlaw03.CrcAffine", spec := "crcAffine", unfollowed := true, recurses := true, apart := false, narrowed := true }
def CrcAffineUptoSaid : Prop := crcAffineUptoRow.holds Try.pinned (OpenSpec.upto crcAffineSpec)

/-- 'solventlaw15.SectorMatchesSpec', WHERE WHAT IT READS IS OF BULK AT MOST 1048576: true; the input reads as it did. -/
def sectorMatchesSpecUptoRow : OpenClaim := { program := "ytiakaloabeendaa", sum := "9c66b9cb324ba85e2b51cc216a1b4551b6412b84610e96a283316b22ae5e90b6", func := "solvent/solventlaw15.SectorMatchesSpec", spec := "sectorMatchesSpec", apart := false, narrowed := true }
def SectorMatchesSpecUptoSaid : Prop := sectorMatchesSpecUptoRow.holds Try.pinned (OpenSpec.upto sectorMatchesSpecSpec)

/-- 'solventlaw15.SectorOpens', WHERE WHAT IT READS IS OF BULK AT MOST 1048576: true; the input reads as it did. -/
def sectorOpensUptoRow : OpenClaim := { program := "ytiakaloabeendaa", sum := "9c66b9cb324ba85e2b51cc216a1b4551b6412b84610e96a283316b22ae5e90b6", func := "solvent/solventlaw15.SectorOpens", spec := "sectorOpens", apart := false, narrowed := true }
def SectorOpensUptoSaid : Prop := sectorOpensUptoRow.holds Try.pinned (OpenSpec.upto sectorOpensSpec)

/-- 'solventlaw15.SectorDamaged', WHERE WHAT IT READS IS OF BULK AT MOST 1048576: true; the input reads as it did. -/
def sectorDamagedUptoRow : OpenClaim := { program := "ytiakaloabeendaa", sum := "9c66b9cb324ba85e2b51cc216a1b4551b6412b84610e96a283316b22ae5e90b6", func := "solvent/solventlaw15.SectorDamaged", spec := "sectorDamaged", apart := false, narrowed := true }
def SectorDamagedUptoSaid : Prop := sectorDamagedUptoRow.holds Try.pinned (OpenSpec.upto sectorDamagedSpec)

/-- 'solventlaw15.SectorDistinct', WHERE WHAT IT READS IS OF BULK AT MOST 1048576: true; the input reads as it did. -/
def sectorDistinctUptoRow : OpenClaim := { program := "ytiakaloabeendaa", sum := "9c66b9cb324ba85e2b51cc216a1b4551b6412b84610e96a283316b22ae5e90b6", func := "solvent/solventlaw15.SectorDistinct", spec := "sectorDistinct", apart := false, narrowed := true }
def SectorDistinctUptoSaid : Prop := sectorDistinctUptoRow.holds Try.pinned (OpenSpec.upto sectorDistinctSpec)

end Rows
end Go.Proofs.Ytiakaloabeendaa
