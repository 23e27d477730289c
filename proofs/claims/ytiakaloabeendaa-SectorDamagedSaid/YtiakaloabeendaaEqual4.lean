/- '==' on two [4]byte. -/
import Derived.Test.YtiakaloabeendaaProg
import Derived.Test.YtiakaloabeendaaWords
namespace Go.Proofs.Ytiakaloabeendaa
open Go.RowKit

theorem u8cast_beq (x : UInt8) : ((x.toNat : Int) == 0) = (x == 0) := by
  rw [Bool.eq_iff_iff]
  simp only [beq_iff_eq]
  constructor
  · intro h
    apply UInt8.toNat_inj.1
    have : (0 : UInt8).toNat = 0 := rfl
    omega
  · rintro rfl; rfl

theorem run_part_u8 (w : World) (xs : Array Value) (i : Nat) (k : Int) (h : xs[i]? = some (.int .u8 k)) : (part 5 xs i).run Try.prog w = .ok (.int .u8 k) w := by
  simp [part, isAgg, run_underlying Try.underlying5, h]

theorem run_equal4_in (d : Nat) (w : World) (x0 x1 x2 x3 : UInt8) :
    (Op.equalIn (d + 2) 38 (.agg #[.int .u8 (x0.toNat : Int), .int .u8 (x1.toNat : Int), .int .u8 (x2.toNat : Int), .int .u8 (x3.toNat : Int)]) (.agg #[.int .u8 0, .int .u8 0, .int .u8 0, .int .u8 0])).run Try.prog w =
      .ok (x0 == 0 && (x1 == 0 && (x2 == 0 && x3 == 0))) w := by
  have hs : (sizeOf 5).run Try.prog w = .ok 1 w := by kernel_rfl
  have hr : List.range' 0 4 1 = [0, 1, 2, 3] := rfl
  have hi : ∀ (w : World) (a b : Int), (Op.equalIn (d + 1) 5 (.int .u8 a) (.int .u8 b)).run Try.prog w = .ok (a == b) w := fun w a b => run_equalIn_int w d 5 .u8 .u8 a b Try.underlying5
  have hp0 := fun (w : World) (a b c e : Int) => run_part_u8 w #[.int .u8 a, .int .u8 b, .int .u8 c, .int .u8 e] 0 a rfl
  have hp1 := fun (w : World) (a b c e : Int) => run_part_u8 w #[.int .u8 a, .int .u8 b, .int .u8 c, .int .u8 e] 1 b rfl
  have hp2 := fun (w : World) (a b c e : Int) => run_part_u8 w #[.int .u8 a, .int .u8 b, .int .u8 c, .int .u8 e] 2 c rfl
  have hp3 := fun (w : World) (a b c e : Int) => run_part_u8 w #[.int .u8 a, .int .u8 b, .int .u8 c, .int .u8 e] 3 e rfl
  rw [Op.equalIn]
  simp only [Sem.run_bind, run_underlying Try.underlying38, Result.andThen_ok, hs]
  simp [hr, hp0, hp1, hp2, hp3, hi, u8cast_beq]
  cases h0 : x0 == 0 <;> cases h1 : x1 == 0 <;> cases h2 : x2 == 0 <;> cases h3 : x3 == 0 <;> simp_all

def allZ (x0 x1 x2 x3 : UInt8) : Bool := x0 == 0 && (x1 == 0 && (x2 == 0 && x3 == 0))
theorem allZ_iff (x0 x1 x2 x3 : UInt8) : allZ x0 x1 x2 x3 = true ↔ x0 = 0 ∧ x1 = 0 ∧ x2 = 0 ∧ x3 = 0 := by simp [allZ]

theorem run_equal4 (w : World) (x0 x1 x2 x3 : UInt8) :
    (Op.equalIn 10000 38 (.agg #[.int .u8 (x0.toNat : Int), .int .u8 (x1.toNat : Int), .int .u8 (x2.toNat : Int), .int .u8 (x3.toNat : Int)]) (.agg #[.int .u8 0, .int .u8 0, .int .u8 0, .int .u8 0])).run Try.prog w =
      .ok (allZ x0 x1 x2 x3) w := run_equal4_in 9998 w x0 x1 x2 x3
end Go.Proofs.Ytiakaloabeendaa
