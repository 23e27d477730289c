/- Chapter 15's laws, with their examples. -/
import Derived.Test.YtiakaloabeendaaSaneAll
import Derived.Test.YtiakaloabeendaaLawDist
namespace Go.Proofs.Ytiakaloabeendaa
open Go.RowKit
theorem sectorOrder_walk (a1 a2 b1 b2 c1 c2 : Int) (w : World) :
    Calls Try.prog 7 #[.agg #[.int .i64 a1, .int .i64 a2], .agg #[.int .i64 b1, .int .i64 b2], .agg #[.int .i64 c1, .int .i64 c2]] w fun x w' => x = .returned (.bool true) ∧ Below w.heap.size w w' := sectorOrder_of sane15 a1 a2 b1 b2 c1 c2 w
theorem sectorDistinct_walk (d a i e c : Int) (p : ByteArray) (d2 a2 i2 e2 c2 : Int) (p2 : ByteArray) (w : World) :
    Calls Try.prog 15 #[.agg #[.int .i64 d, .int .i64 a, .int .i64 i], .agg #[.int .i64 e, .int .i64 c], .string p, .agg #[.int .i64 d2, .int .i64 a2, .int .i64 i2], .agg #[.int .i64 e2, .int .i64 c2], .string p2] w fun x w' => x = .returned (.bool true) ∧ Below w.heap.size w w' := sectorDistinct_of sane15 d a i e c p d2 a2 i2 e2 c2 p2 w
end Go.Proofs.Ytiakaloabeendaa
