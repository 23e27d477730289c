/- The walk of the specification's Label: a wrong length. -/
import Derived.Test.YtiakaloabeendaaLabel0
import Derived.Test.YtiakaloabeendaaRefSeal
namespace Go.Proofs.Ytiakaloabeendaa
open Go.RowKit

def RLabelOk (s : ByteArray) (d a i e c : Int) : Prop := ∀ (w : World), Calls Try.prog 31 #[.string s] w fun x w' => x = .returned (.tuple #[.agg #[.int .i64 d, .int .i64 a, .int .i64 i], .agg #[.int .i64 e, .int .i64 c], .int .i64 0]) ∧ Below w.heap.size w w'

def RLabelErr (s : ByteArray) (k : Int) : Prop := ∀ (w : World), Calls Try.prog 31 #[.string s] w fun x w' => x = .returned (.tuple #[.agg #[.int .i64 0, .int .i64 0, .int .i64 0], .agg #[.int .i64 0, .int .i64 0], .int .i64 k]) ∧ Below w.heap.size w w'

set_option maxRecDepth 100000 in
set_option maxHeartbeats 1000000 in
theorem rlabel_len (s : ByteArray) (h : s.size ≠ 64) : RLabelErr s 1 := fun w => by
  have hd : ((s.size : Int) != 64) = true := bne_iff_ne.2 (by omega)
  clear h
  go_enter Try.func31, Try.ntmps31
  go_wp2_with fail
  have q := two_new w (Obj.cells #[Value.int IntKind.i64 0, Value.int IntKind.i64 0, Value.int IntKind.i64 0] 41) (Obj.cells #[Value.int IntKind.i64 0, Value.int IntKind.i64 0] 35)
  have q3 := cells3 q.1
  have q2 := cells2 q.2
  exact bodyPost_ret (results_cct rfl rfl rfl (load_place q3.1 q3.2.1 q3.2.2.1) (load_gen q2.1 q2.2.1)) rfl ⟨rfl, ((Below.refl _ w).alloc (Nat.le_refl _) _).alloc (by simp) _⟩
end Go.Proofs.Ytiakaloabeendaa
