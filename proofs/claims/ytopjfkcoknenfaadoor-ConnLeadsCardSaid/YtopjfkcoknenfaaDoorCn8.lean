/- conn.Way: the inner loop. -/
import Derived.Test.YtopjfkcoknenfaaDoorCn7
namespace Go.Proofs.YtopjfkcoknenfaaDoor.Cn
open Go Go.Rx Go.RowKit Go.Proofs.YtopjfkcoknenfaaDoor
set_option linter.unusedVariables false
set_option maxRecDepth 100000
theorem inn_0 : ∀ e : Nat, e < 10 → Inn 0 (e : Int)
  | 0, _ => inn_0_0
  | 1, _ => inn_0_1
  | 2, _ => inn_0_2
  | 3, _ => inn_0_3
  | 4, _ => inn_0_4
  | 5, _ => inn_0_5
  | 6, _ => inn_0_6
  | 7, _ => inn_0_7
  | 8, _ => inn_0_8
  | 9, _ => inn_0_9
  | k + 10, h => absurd h (by omega)
theorem inn_1 : ∀ e : Nat, e < 10 → Inn 1 (e : Int)
  | 0, _ => inn_1_0
  | 1, _ => inn_1_1
  | 2, _ => inn_1_2
  | 3, _ => inn_1_3
  | 4, _ => inn_1_4
  | 5, _ => inn_1_5
  | 6, _ => inn_1_6
  | 7, _ => inn_1_7
  | 8, _ => inn_1_8
  | 9, _ => inn_1_9
  | k + 10, h => absurd h (by omega)
theorem inn_2 : ∀ e : Nat, e < 10 → Inn 2 (e : Int)
  | 0, _ => inn_2_0
  | 1, _ => inn_2_1
  | 2, _ => inn_2_2
  | 3, _ => inn_2_3
  | 4, _ => inn_2_4
  | 5, _ => inn_2_5
  | 6, _ => inn_2_6
  | 7, _ => inn_2_7
  | 8, _ => inn_2_8
  | 9, _ => inn_2_9
  | k + 10, h => absurd h (by omega)
theorem inn_3 : ∀ e : Nat, e < 10 → Inn 3 (e : Int)
  | 0, _ => inn_3_0
  | 1, _ => inn_3_1
  | 2, _ => inn_3_2
  | 3, _ => inn_3_3
  | 4, _ => inn_3_4
  | 5, _ => inn_3_5
  | 6, _ => inn_3_6
  | 7, _ => inn_3_7
  | 8, _ => inn_3_8
  | 9, _ => inn_3_9
  | k + 10, h => absurd h (by omega)
theorem inn_4 : ∀ e : Nat, e < 10 → Inn 4 (e : Int)
  | 0, _ => inn_4_0
  | 1, _ => inn_4_1
  | 2, _ => inn_4_2
  | 3, _ => inn_4_3
  | 4, _ => inn_4_4
  | 5, _ => inn_4_5
  | 6, _ => inn_4_6
  | 7, _ => inn_4_7
  | 8, _ => inn_4_8
  | 9, _ => inn_4_9
  | k + 10, h => absurd h (by omega)
theorem inn_5 : ∀ e : Nat, e < 10 → Inn 5 (e : Int)
  | 0, _ => inn_5_0
  | 1, _ => inn_5_1
  | 2, _ => inn_5_2
  | 3, _ => inn_5_3
  | 4, _ => inn_5_4
  | 5, _ => inn_5_5
  | 6, _ => inn_5_6
  | 7, _ => inn_5_7
  | 8, _ => inn_5_8
  | 9, _ => inn_5_9
  | k + 10, h => absurd h (by omega)
theorem inn_6 : ∀ e : Nat, e < 10 → Inn 6 (e : Int)
  | 0, _ => inn_6_0
  | 1, _ => inn_6_1
  | 2, _ => inn_6_2
  | 3, _ => inn_6_3
  | 4, _ => inn_6_4
  | 5, _ => inn_6_5
  | 6, _ => inn_6_6
  | 7, _ => inn_6_7
  | 8, _ => inn_6_8
  | 9, _ => inn_6_9
  | k + 10, h => absurd h (by omega)
theorem inn_7 : ∀ e : Nat, e < 10 → Inn 7 (e : Int)
  | 0, _ => inn_7_0
  | 1, _ => inn_7_1
  | 2, _ => inn_7_2
  | 3, _ => inn_7_3
  | 4, _ => inn_7_4
  | 5, _ => inn_7_5
  | 6, _ => inn_7_6
  | 7, _ => inn_7_7
  | 8, _ => inn_7_8
  | 9, _ => inn_7_9
  | k + 10, h => absurd h (by omega)
theorem inn_8 : ∀ e : Nat, e < 10 → Inn 8 (e : Int)
  | 0, _ => inn_8_0
  | 1, _ => inn_8_1
  | 2, _ => inn_8_2
  | 3, _ => inn_8_3
  | 4, _ => inn_8_4
  | 5, _ => inn_8_5
  | 6, _ => inn_8_6
  | 7, _ => inn_8_7
  | 8, _ => inn_8_8
  | 9, _ => inn_8_9
  | k + 10, h => absurd h (by omega)
theorem inn_9 : ∀ e : Nat, e < 10 → Inn 9 (e : Int)
  | 0, _ => inn_9_0
  | 1, _ => inn_9_1
  | 2, _ => inn_9_2
  | 3, _ => inn_9_3
  | 4, _ => inn_9_4
  | 5, _ => inn_9_5
  | 6, _ => inn_9_6
  | 7, _ => inn_9_7
  | 8, _ => inn_9_8
  | 9, _ => inn_9_9
  | k + 10, h => absurd h (by omega)
theorem inn_10 : ∀ e : Nat, e < 10 → Inn 10 (e : Int)
  | 0, _ => inn_10_0
  | 1, _ => inn_10_1
  | 2, _ => inn_10_2
  | 3, _ => inn_10_3
  | 4, _ => inn_10_4
  | 5, _ => inn_10_5
  | 6, _ => inn_10_6
  | 7, _ => inn_10_7
  | 8, _ => inn_10_8
  | 9, _ => inn_10_9
  | k + 10, h => absurd h (by omega)
theorem inn_nat : ∀ s e : Nat, s < 11 → e < 10 → Inn (s : Int) (e : Int)
  | 0, e, _, h => inn_0 e h
  | 1, e, _, h => inn_1 e h
  | 2, e, _, h => inn_2 e h
  | 3, e, _, h => inn_3 e h
  | 4, e, _, h => inn_4 e h
  | 5, e, _, h => inn_5 e h
  | 6, e, _, h => inn_6 e h
  | 7, e, _, h => inn_7 e h
  | 8, e, _, h => inn_8 e h
  | 9, e, _, h => inn_9 e h
  | 10, e, _, h => inn_10 e h
  | k + 11, _, h, _ => absurd h (by omega)
theorem inn_all {s e : Int} (h0 : 0 ≤ s) (h1 : s < 11) (h2 : 0 ≤ e) (h3 : e < 10) : Inn s e := by
  obtain ⟨i, rfl⟩ := Int.eq_ofNat_of_zero_le h0
  obtain ⟨j, rfl⟩ := Int.eq_ofNat_of_zero_le h2
  exact inn_nat i j (by omega) (by omega)
/-- The queue without its values. -/
def bare (q : List (Int × Value × List Int)) : List (Int × List Int) := q.map fun x => (x.1, x.2.2)
end Go.Proofs.YtopjfkcoknenfaaDoor.Cn
