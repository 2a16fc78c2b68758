/- Small laws of this session: '==' of a [2]int and of a [3]int, as one Bool. -/
import Derived.Test.YtdkncfmlehcjmaaTWWords
import Derived.Laws.StructEq
import Derived.ChangeKeysEq
set_option linter.unusedVariables false
set_option linter.unusedSimpArgs false
namespace Go.Proofs.Ytdkncfmlehcjmaa.X
open Go.RowKit
section
variable {P : Program} {T E : TypeId}
theorem part_int (hE : P.underlying E = some (.int .i64)) (cs : Array Value) (j : Nat) (v : Value) (W : World) (h : cs[j]? = some v) : (part E cs j).run P W = .ok v W := by
  simp [part, isAgg, run_underlying hE, h]
theorem eq_int (hE : P.underlying E = some (.int .i64)) (d : Nat) (x y : Int) (W : World) : (Op.equalIn (d + 1) E (.int .i64 x) (.int .i64 y)).run P W = .ok (x == y) W := by
  simp [Op.equalIn, run_underlying hE]
theorem eqArr_2 (hT : P.underlying T = some (.array 2 E)) (hE : P.underlying E = some (.int .i64)) (hs : (P.info? E).map (·.size) = some 1) (d : Nat) (w : World) (x0 y0 x1 y1 : Int) :
    (Op.equalIn (d + 2) T (.agg #[.int .i64 x0, .int .i64 x1]) (.agg #[.int .i64 y0, .int .i64 y1])).run P w = .ok (x0 == y0 && (x1 == y1)) w := by
  obtain ⟨i, hi, hz⟩ := Option.map_eq_some_iff.1 hs
  have hc : P.cellsOf E = 1 := by simp [Program.cellsOf, hi, hz]
  rw [run_equalIn_array w (d + 1) _ _ hT hi, hc]
  have hr : List.range 2 = [0, 1] := rfl
  simp only [hr, Op.eqItems, Sem.run_bind, Nat.zero_mul, Nat.mul_one]
  rw [part_int hE _ 0 (.int .i64 x0) w rfl]
  simp only [Result.andThen_ok]
  rw [part_int hE _ 0 (.int .i64 y0) w rfl]
  simp only [Result.andThen_ok, eq_int hE]
  have a1 := part_int hE #[.int .i64 x0, .int .i64 x1] 1 (.int .i64 x1) w rfl
  have b1 := part_int hE #[.int .i64 y0, .int .i64 y1] 1 (.int .i64 y1) w rfl
  by_cases h0 : x0 = y0 <;> by_cases h1 : x1 = y1 <;> simp [h0, h1, a1, b1, eq_int hE] <;> simp_all [eq_int hE]
theorem eqArr_3 (hT : P.underlying T = some (.array 3 E)) (hE : P.underlying E = some (.int .i64)) (hs : (P.info? E).map (·.size) = some 1) (d : Nat) (w : World) (x0 y0 x1 y1 x2 y2 : Int) :
    (Op.equalIn (d + 2) T (.agg #[.int .i64 x0, .int .i64 x1, .int .i64 x2]) (.agg #[.int .i64 y0, .int .i64 y1, .int .i64 y2])).run P w = .ok (x0 == y0 && (x1 == y1 && (x2 == y2))) w := by
  obtain ⟨i, hi, hz⟩ := Option.map_eq_some_iff.1 hs
  have hc : P.cellsOf E = 1 := by simp [Program.cellsOf, hi, hz]
  rw [run_equalIn_array w (d + 1) _ _ hT hi, hc]
  have hr : List.range 3 = [0, 1, 2] := rfl
  simp only [hr, Op.eqItems, Sem.run_bind, Nat.zero_mul, Nat.mul_one]
  rw [part_int hE _ 0 (.int .i64 x0) w rfl]
  simp only [Result.andThen_ok]
  rw [part_int hE _ 0 (.int .i64 y0) w rfl]
  simp only [Result.andThen_ok, eq_int hE]
  have a1 := part_int hE #[.int .i64 x0, .int .i64 x1, .int .i64 x2] 1 (.int .i64 x1) w rfl
  have b1 := part_int hE #[.int .i64 y0, .int .i64 y1, .int .i64 y2] 1 (.int .i64 y1) w rfl
  have a2 := part_int hE #[.int .i64 x0, .int .i64 x1, .int .i64 x2] 2 (.int .i64 x2) w rfl
  have b2 := part_int hE #[.int .i64 y0, .int .i64 y1, .int .i64 y2] 2 (.int .i64 y2) w rfl
  by_cases h0 : x0 = y0 <;> by_cases h1 : x1 = y1 <;> by_cases h2 : x2 = y2 <;> simp [h0, h1, h2, a1, b1, a2, b2, eq_int hE] <;> simp_all [eq_int hE]
end
end Go.Proofs.Ytdkncfmlehcjmaa.X
