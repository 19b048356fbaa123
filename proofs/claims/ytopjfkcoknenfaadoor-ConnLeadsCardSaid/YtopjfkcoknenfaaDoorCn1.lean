/- conn.Step and conn.Check: what they come to, the table of the states being in its block. -/
import Derived.Test.YtopjfkcoknenfaaDoorRows
import Derived.Test.YtopjfkcoknenfaaDoorRx8
namespace Go.Proofs.YtopjfkcoknenfaaDoor.Cn
open Go Go.Rx Go.RowKit Go.Proofs.YtopjfkcoknenfaaDoor
set_option linter.unusedVariables false
set_option maxRecDepth 100000
noncomputable def tab : Tab := [
  (3, { size := 1, zero := .int .i64 0, agg := false, kind := some .i64, cls := 5 }),
  (4, { size := 1, zero := .bool false, agg := false, cls := 1 }),
  (24, { size := 1, zero := .int .i64 0, agg := false, kind := some .i64, cls := 5 }),
  (71, { size := 4, zero := .agg #[.int .i64 0, .int .i64 0, .int .i64 0, .int .i64 0], agg := true, flds := [(0, 1), (1, 1), (2, 1), (3, 1)], cls := 6 }),
  (72, { size := 156, zero := .agg #[.int .i64 0, .int .i64 0, .int .i64 0, .int .i64 0, .int .i64 0, .int .i64 0, .int .i64 0, .int .i64 0, .int .i64 0, .int .i64 0, .int .i64 0, .int .i64 0, .int .i64 0, .int .i64 0, .int .i64 0, .int .i64 0, .int .i64 0, .int .i64 0, .int .i64 0, .int .i64 0, .int .i64 0, .int .i64 0, .int .i64 0, .int .i64 0, .int .i64 0, .int .i64 0, .int .i64 0, .int .i64 0, .int .i64 0, .int .i64 0, .int .i64 0, .int .i64 0, .int .i64 0, .int .i64 0, .int .i64 0, .int .i64 0, .int .i64 0, .int .i64 0, .int .i64 0, .int .i64 0, .int .i64 0, .int .i64 0, .int .i64 0, .int .i64 0, .int .i64 0, .int .i64 0, .int .i64 0, .int .i64 0, .int .i64 0, .int .i64 0, .int .i64 0, .int .i64 0, .int .i64 0, .int .i64 0, .int .i64 0, .int .i64 0, .int .i64 0, .int .i64 0, .int .i64 0, .int .i64 0, .int .i64 0, .int .i64 0, .int .i64 0, .int .i64 0, .int .i64 0, .int .i64 0, .int .i64 0, .int .i64 0, .int .i64 0, .int .i64 0, .int .i64 0, .int .i64 0, .int .i64 0, .int .i64 0, .int .i64 0, .int .i64 0, .int .i64 0, .int .i64 0, .int .i64 0, .int .i64 0, .int .i64 0, .int .i64 0, .int .i64 0, .int .i64 0, .int .i64 0, .int .i64 0, .int .i64 0, .int .i64 0, .int .i64 0, .int .i64 0, .int .i64 0, .int .i64 0, .int .i64 0, .int .i64 0, .int .i64 0, .int .i64 0, .int .i64 0, .int .i64 0, .int .i64 0, .int .i64 0, .int .i64 0, .int .i64 0, .int .i64 0, .int .i64 0, .int .i64 0, .int .i64 0, .int .i64 0, .int .i64 0, .int .i64 0, .int .i64 0, .int .i64 0, .int .i64 0, .int .i64 0, .int .i64 0, .int .i64 0, .int .i64 0, .int .i64 0, .int .i64 0, .int .i64 0, .int .i64 0, .int .i64 0, .int .i64 0, .int .i64 0, .int .i64 0, .int .i64 0, .int .i64 0, .int .i64 0, .int .i64 0, .int .i64 0, .int .i64 0, .int .i64 0, .int .i64 0, .int .i64 0, .int .i64 0, .int .i64 0, .int .i64 0, .int .i64 0, .int .i64 0, .int .i64 0, .int .i64 0, .int .i64 0, .int .i64 0, .int .i64 0, .int .i64 0, .int .i64 0, .int .i64 0, .int .i64 0, .int .i64 0, .int .i64 0, .int .i64 0, .int .i64 0, .int .i64 0, .int .i64 0, .int .i64 0, .int .i64 0, .int .i64 0], agg := true, elem := some (39, 4), eagg := some true, cls := 6 })]
theorem tab_fits : tab.fits Tryd.prog := ⟨
  ⟨by kernel_rfl, by kernel_rfl, by kernel_rfl, by kernel_rfl, by kernel_rfl, by kernel_rfl, by kernel_rfl⟩,
  ⟨by kernel_rfl, by kernel_rfl, by kernel_rfl, by kernel_rfl, by kernel_rfl, by kernel_rfl, by kernel_rfl⟩,
  ⟨by kernel_rfl, by kernel_rfl, by kernel_rfl, by kernel_rfl, by kernel_rfl, by kernel_rfl, by kernel_rfl⟩,
  ⟨by kernel_rfl, by kernel_rfl, by kernel_rfl, by kernel_rfl, by kernel_rfl, by kernel_rfl, by kernel_rfl⟩,
  ⟨by kernel_rfl, by kernel_rfl, by kernel_rfl, by kernel_rfl, by kernel_rfl, by kernel_rfl, by kernel_rfl⟩, trivial⟩
theorem wide : Tryd.prog.follows .mixedOrders = true := by kernel_rfl
/-- The table of the states. -/
def rules : List (Int × Int × Int × Int) := [(0, 0, 1, 0), (0, 1, 2, 2), (1, 2, 0, 0), (1, 3, 0, 0), (1, 1, 2, 2), (1, 4, 3, 18), (2, 2, 0, 0), (2, 3, 0, 0), (2, 4, 3, 18), (2, 5, 4, 16), (2, 8, 0, 0), (3, 2, 5, 17), (3, 3, 0, 4), (3, 6, 4, 0), (3, 8, 0, 0), (4, 2, 5, 17), (4, 3, 0, 4), (4, 7, 7, 16), (4, 8, 0, 0), (5, 3, 0, 4), (5, 6, 6, 0), (5, 7, 8, 16), (5, 8, 0, 0), (6, 3, 0, 4), (6, 7, 10, 16), (6, 8, 0, 0), (7, 2, 9, 17), (7, 3, 0, 4), (7, 8, 0, 0), (8, 3, 0, 0), (8, 6, 10, 0), (8, 8, 0, 0), (9, 3, 0, 0), (9, 6, 0, 0), (9, 8, 0, 0), (10, 3, 0, 0), (10, 7, 10, 16), (10, 8, 0, 0), (10, 9, 0, 0)]
def rulesC : List Value := rules.flatMap fun r => [.int .i64 r.1, .int .i64 r.2.1, .int .i64 r.2.2.1, .int .i64 r.2.2.2]
def rulesM (t : Nat) : Mem := [(t, rulesC.map .v)]
/-- The variable's block holds the table. -/
def Laid (t : Nat) (w : World) : Prop := w.heap[0]? = some (.cells rulesC.toArray t (0, 0))
theorem Laid.mem {t : Nat} {w : World} (h : Laid t w) : MemOk (fun b => b ∈ [0]) w [0] (rulesM t) w :=
  MemOk.init (by simp) rfl fun {k t cs} hk => by
    match k, hk with
    | 0, hk => cases hk; exact ⟨0, rulesC, rfl, dens_vs _ _, h⟩
theorem glob {g k : Nat} (h : glook [(0, 0)] g = some k) : [0][k]? = some g := by
  simp only [glook] at h
  split at h
  · rename_i e; cases h; rw [← e]; rfl
  · cases h
/-- What Step comes to. -/
def stepL : List (Int × Int × Int × Int) → Int → Int → Int × Int × Int
  | [], _, _ => (0, 0, 7)
  | (a, b, n, f) :: r, s, e => if a == s && b == e then (n, f, 0) else stepL r s e
def dsL : List (Int × Int × Int × Int) → Int → Int → List Bool
  | [], _, _ => [false]
  | (a, b, _, _) :: r, s, e => true :: (a == s) :: (a == s && b == e) :: (if a == s && b == e then [] else dsL r s e)
def obsL : List (Int × Int × Int × Int) → Int → Int → Int → Prop
  | [], _, _, _ => (false = false) ∧ True
  | (a, b, _, _) :: r, s, e, i => (true = true) ∧ (0 ≤ i) ∧ (i < 39) ∧ ((a == s) = (a == s)) ∧ ((a == s && b == e) = (a == s && b == e)) ∧ (if a == s && b == e then True else obsL r s e (i + 1))
theorem obsL_ok : ∀ (l : List (Int × Int × Int × Int)) (s e i : Int), 0 ≤ i → i + l.length = 39 → obsL l s e i
  | [], _, _, _, _, _ => ⟨rfl, trivial⟩
  | (a, b, _, _) :: r, s, e, i, h0, h1 => by
    simp only [List.length_cons] at h1
    refine ⟨rfl, h0, by omega, rfl, rfl, ?_⟩
    split
    · trivial
    · exact obsL_ok r s e (i + 1) (by omega) (by omega)
def dsS (s e : Int) : List Bool := false :: false :: false :: dsL rules s e
def obsS (s e : Int) : Prop := (false = false) ∧ (false = false) ∧ (false = false) ∧ obsL rules s e 0
theorem obsS_ok (s e : Int) : obsS s e := ⟨rfl, rfl, rfl, obsL_ok rules s e 0 (by omega) rfl⟩
def checkI (s : Int) : Int := if s < 0 then 1 else if s > 10 then 1 else 0
theorem check_calls (s : Int) (w : World) : Calls Tryd.prog 29 #[.int .i64 s] w fun e w' => e = .returned (.int .i64 (checkI s)) ∧ Below w.heap.size w w' := by
  have sp_ok : SpecOk Tryd.prog (fun _ => False) w (fun _ _ => none) := fun f a r h => by cases h
  rcases Bool.eq_false_or_eq_true (decide (s < 0)) with h0 | h0
  · refine (Calls.path tab_fits sp_ok wide Tryd.func29 rfl (args := [vInt .i64 s]) (vals := [.int .i64 s]) 100 [true, true] (A := ((decide (s < 0)) = true) ∧ (true = true) ∧ True) (vs := [Value.int Go.IntKind.i64 (1)]) (lp := false) rfl (Nat.le_of_ble_eq_true (by kernel_rfl)) ⟨h0, rfl, trivial⟩ (by kernel_rfl) (by kernel_rfl) (by kernel_rfl)).mono fun e w' hq => ⟨hq.1.trans (congrArg Ending.returned ?_), hq.2⟩
    simp only [decide_eq_true_eq] at h0
    simp [checkI, oneOf, h0]
  · rcases Bool.eq_false_or_eq_true (decide (s > 10)) with h1 | h1
    · refine (Calls.path tab_fits sp_ok wide Tryd.func29 rfl (args := [vInt .i64 s]) (vals := [.int .i64 s]) 100 [false, true] (A := ((decide (s < 0)) = false) ∧ ((decide (s > 10)) = true) ∧ True) (vs := [Value.int Go.IntKind.i64 (1)]) (lp := false) rfl (Nat.le_of_ble_eq_true (by kernel_rfl)) ⟨h0, h1, trivial⟩ (by kernel_rfl) (by kernel_rfl) (by kernel_rfl)).mono fun e w' hq => ⟨hq.1.trans (congrArg Ending.returned ?_), hq.2⟩
      simp only [decide_eq_true_eq] at h1
      simp [checkI, oneOf, h1]
    · refine (Calls.path tab_fits sp_ok wide Tryd.func29 rfl (args := [vInt .i64 s]) (vals := [.int .i64 s]) 100 [false, false] (A := ((decide (s < 0)) = false) ∧ ((decide (s > 10)) = false) ∧ True) (vs := [Value.int Go.IntKind.i64 (0)]) (lp := false) rfl (Nat.le_of_ble_eq_true (by kernel_rfl)) ⟨h0, h1, trivial⟩ (by kernel_rfl) (by kernel_rfl) (by kernel_rfl)).mono fun e w' hq => ⟨hq.1.trans (congrArg Ending.returned ?_), hq.2⟩
      simp only [decide_eq_false_iff_not] at h0 h1
      simp [checkI, oneOf, h0, h1]
noncomputable def sp0 : Rx.Spec := fun f args =>
  match f, args with
  | 29, [.int .i64 s] => some (.int .i64 (checkI s))
  | _, _ => none
theorem sp0_ok (Z : Nat → Prop) (w : World) : SpecOk Tryd.prog Z w sp0 := by
  intro f args r h
  unfold sp0 at h
  split at h <;> simp only [Option.some.injEq, reduceCtorEq] at h
  subst h
  exact ⟨by kernel_rfl, fun _ _ w _ => check_calls _ w⟩
noncomputable def body10 : Code := Tryd.f10.body.getD .skip
/-- What Step comes to is answered in one value. -/
def stepV (r : Int × Int × Int) : Value := .tuple #[.int .i64 r.1, .int .i64 r.2.1, .int .i64 r.2.2]
theorem step_at {t : Nat} {w : World} (h : Laid t w) (s e n f r : Int) (he : All (run tab sp0 2000 (dsS s e) { todo := [.code body10], sl := { n := Tryd.f10.ntmps, m := argSl 0 [vInt .i64 s, vInt .i64 e], gl := [(0, 0)] }, mem := rulesM t, lp := true }).1 = obsS s e)
    (hend : atEnd (run tab sp0 2000 (dsS s e) { todo := [.code body10], sl := { n := Tryd.f10.ntmps, m := argSl 0 [vInt .i64 s, vInt .i64 e], gl := [(0, 0)] }, mem := rulesM t, lp := true }).2.todo = true)
    (hres : (exRes tab (run tab sp0 2000 (dsS s e) { todo := [.code body10], sl := { n := Tryd.f10.ntmps, m := argSl 0 [vInt .i64 s, vInt .i64 e], gl := [(0, 0)] }, mem := rulesM t, lp := true }).2.sl (run tab sp0 2000 (dsS s e) { todo := [.code body10], sl := { n := Tryd.f10.ntmps, m := argSl 0 [vInt .i64 s, vInt .i64 e], gl := [(0, 0)] }, mem := rulesM t, lp := true }).2.mem Tryd.f10.results.toList).bind SVvals = some [.int .i64 n, .int .i64 f, .int .i64 r])
    (hsame : (run tab sp0 2000 (dsS s e) { todo := [.code body10], sl := { n := Tryd.f10.ntmps, m := argSl 0 [vInt .i64 s, vInt .i64 e], gl := [(0, 0)] }, mem := rulesM t, lp := true }).2.mem.take 1 = rulesM t) :
    Calls Tryd.prog 10 #[.int .i64 s, .int .i64 e] w fun x w' => x = .returned (stepV (n, f, r)) ∧ Below w.heap.size w w' :=
  Calls.pathM tab_fits wide Tryd.func10 rfl [(0, 0)] glob h.mem (sp0_ok _ _) (args := [vInt .i64 s, vInt .i64 e]) (vals := [.int .i64 s, .int .i64 e]) 2000 (dsS s e) (lp := true) rfl (Nat.le_of_ble_eq_true (by kernel_rfl)) (obsS_ok s e) he hend hres hsame
theorem step_0 {t : Nat} {w : World} (h : Laid t w) : ∀ e : Nat, e < 10 → Calls Tryd.prog 10 #[.int .i64 0, .int .i64 (e : Int)] w fun x w' => x = .returned (stepV (stepL rules 0 e)) ∧ Below w.heap.size w w'
  | 0, _ => step_at h 0 0 1 0 0 (by kernel_rfl) (by kernel_rfl) (by kernel_rfl) (by kernel_rfl)
  | 1, _ => step_at h 0 1 2 2 0 (by kernel_rfl) (by kernel_rfl) (by kernel_rfl) (by kernel_rfl)
  | 2, _ => step_at h 0 2 0 0 7 (by kernel_rfl) (by kernel_rfl) (by kernel_rfl) (by kernel_rfl)
  | 3, _ => step_at h 0 3 0 0 7 (by kernel_rfl) (by kernel_rfl) (by kernel_rfl) (by kernel_rfl)
  | 4, _ => step_at h 0 4 0 0 7 (by kernel_rfl) (by kernel_rfl) (by kernel_rfl) (by kernel_rfl)
  | 5, _ => step_at h 0 5 0 0 7 (by kernel_rfl) (by kernel_rfl) (by kernel_rfl) (by kernel_rfl)
  | 6, _ => step_at h 0 6 0 0 7 (by kernel_rfl) (by kernel_rfl) (by kernel_rfl) (by kernel_rfl)
  | 7, _ => step_at h 0 7 0 0 7 (by kernel_rfl) (by kernel_rfl) (by kernel_rfl) (by kernel_rfl)
  | 8, _ => step_at h 0 8 0 0 7 (by kernel_rfl) (by kernel_rfl) (by kernel_rfl) (by kernel_rfl)
  | 9, _ => step_at h 0 9 0 0 7 (by kernel_rfl) (by kernel_rfl) (by kernel_rfl) (by kernel_rfl)
  | k + 10, hk => absurd hk (by omega)
theorem step_1 {t : Nat} {w : World} (h : Laid t w) : ∀ e : Nat, e < 10 → Calls Tryd.prog 10 #[.int .i64 1, .int .i64 (e : Int)] w fun x w' => x = .returned (stepV (stepL rules 1 e)) ∧ Below w.heap.size w w'
  | 0, _ => step_at h 1 0 0 0 7 (by kernel_rfl) (by kernel_rfl) (by kernel_rfl) (by kernel_rfl)
  | 1, _ => step_at h 1 1 2 2 0 (by kernel_rfl) (by kernel_rfl) (by kernel_rfl) (by kernel_rfl)
  | 2, _ => step_at h 1 2 0 0 0 (by kernel_rfl) (by kernel_rfl) (by kernel_rfl) (by kernel_rfl)
  | 3, _ => step_at h 1 3 0 0 0 (by kernel_rfl) (by kernel_rfl) (by kernel_rfl) (by kernel_rfl)
  | 4, _ => step_at h 1 4 3 18 0 (by kernel_rfl) (by kernel_rfl) (by kernel_rfl) (by kernel_rfl)
  | 5, _ => step_at h 1 5 0 0 7 (by kernel_rfl) (by kernel_rfl) (by kernel_rfl) (by kernel_rfl)
  | 6, _ => step_at h 1 6 0 0 7 (by kernel_rfl) (by kernel_rfl) (by kernel_rfl) (by kernel_rfl)
  | 7, _ => step_at h 1 7 0 0 7 (by kernel_rfl) (by kernel_rfl) (by kernel_rfl) (by kernel_rfl)
  | 8, _ => step_at h 1 8 0 0 7 (by kernel_rfl) (by kernel_rfl) (by kernel_rfl) (by kernel_rfl)
  | 9, _ => step_at h 1 9 0 0 7 (by kernel_rfl) (by kernel_rfl) (by kernel_rfl) (by kernel_rfl)
  | k + 10, hk => absurd hk (by omega)
theorem step_2 {t : Nat} {w : World} (h : Laid t w) : ∀ e : Nat, e < 10 → Calls Tryd.prog 10 #[.int .i64 2, .int .i64 (e : Int)] w fun x w' => x = .returned (stepV (stepL rules 2 e)) ∧ Below w.heap.size w w'
  | 0, _ => step_at h 2 0 0 0 7 (by kernel_rfl) (by kernel_rfl) (by kernel_rfl) (by kernel_rfl)
  | 1, _ => step_at h 2 1 0 0 7 (by kernel_rfl) (by kernel_rfl) (by kernel_rfl) (by kernel_rfl)
  | 2, _ => step_at h 2 2 0 0 0 (by kernel_rfl) (by kernel_rfl) (by kernel_rfl) (by kernel_rfl)
  | 3, _ => step_at h 2 3 0 0 0 (by kernel_rfl) (by kernel_rfl) (by kernel_rfl) (by kernel_rfl)
  | 4, _ => step_at h 2 4 3 18 0 (by kernel_rfl) (by kernel_rfl) (by kernel_rfl) (by kernel_rfl)
  | 5, _ => step_at h 2 5 4 16 0 (by kernel_rfl) (by kernel_rfl) (by kernel_rfl) (by kernel_rfl)
  | 6, _ => step_at h 2 6 0 0 7 (by kernel_rfl) (by kernel_rfl) (by kernel_rfl) (by kernel_rfl)
  | 7, _ => step_at h 2 7 0 0 7 (by kernel_rfl) (by kernel_rfl) (by kernel_rfl) (by kernel_rfl)
  | 8, _ => step_at h 2 8 0 0 0 (by kernel_rfl) (by kernel_rfl) (by kernel_rfl) (by kernel_rfl)
  | 9, _ => step_at h 2 9 0 0 7 (by kernel_rfl) (by kernel_rfl) (by kernel_rfl) (by kernel_rfl)
  | k + 10, hk => absurd hk (by omega)
theorem step_3 {t : Nat} {w : World} (h : Laid t w) : ∀ e : Nat, e < 10 → Calls Tryd.prog 10 #[.int .i64 3, .int .i64 (e : Int)] w fun x w' => x = .returned (stepV (stepL rules 3 e)) ∧ Below w.heap.size w w'
  | 0, _ => step_at h 3 0 0 0 7 (by kernel_rfl) (by kernel_rfl) (by kernel_rfl) (by kernel_rfl)
  | 1, _ => step_at h 3 1 0 0 7 (by kernel_rfl) (by kernel_rfl) (by kernel_rfl) (by kernel_rfl)
  | 2, _ => step_at h 3 2 5 17 0 (by kernel_rfl) (by kernel_rfl) (by kernel_rfl) (by kernel_rfl)
  | 3, _ => step_at h 3 3 0 4 0 (by kernel_rfl) (by kernel_rfl) (by kernel_rfl) (by kernel_rfl)
  | 4, _ => step_at h 3 4 0 0 7 (by kernel_rfl) (by kernel_rfl) (by kernel_rfl) (by kernel_rfl)
  | 5, _ => step_at h 3 5 0 0 7 (by kernel_rfl) (by kernel_rfl) (by kernel_rfl) (by kernel_rfl)
  | 6, _ => step_at h 3 6 4 0 0 (by kernel_rfl) (by kernel_rfl) (by kernel_rfl) (by kernel_rfl)
  | 7, _ => step_at h 3 7 0 0 7 (by kernel_rfl) (by kernel_rfl) (by kernel_rfl) (by kernel_rfl)
  | 8, _ => step_at h 3 8 0 0 0 (by kernel_rfl) (by kernel_rfl) (by kernel_rfl) (by kernel_rfl)
  | 9, _ => step_at h 3 9 0 0 7 (by kernel_rfl) (by kernel_rfl) (by kernel_rfl) (by kernel_rfl)
  | k + 10, hk => absurd hk (by omega)
theorem step_4 {t : Nat} {w : World} (h : Laid t w) : ∀ e : Nat, e < 10 → Calls Tryd.prog 10 #[.int .i64 4, .int .i64 (e : Int)] w fun x w' => x = .returned (stepV (stepL rules 4 e)) ∧ Below w.heap.size w w'
  | 0, _ => step_at h 4 0 0 0 7 (by kernel_rfl) (by kernel_rfl) (by kernel_rfl) (by kernel_rfl)
  | 1, _ => step_at h 4 1 0 0 7 (by kernel_rfl) (by kernel_rfl) (by kernel_rfl) (by kernel_rfl)
  | 2, _ => step_at h 4 2 5 17 0 (by kernel_rfl) (by kernel_rfl) (by kernel_rfl) (by kernel_rfl)
  | 3, _ => step_at h 4 3 0 4 0 (by kernel_rfl) (by kernel_rfl) (by kernel_rfl) (by kernel_rfl)
  | 4, _ => step_at h 4 4 0 0 7 (by kernel_rfl) (by kernel_rfl) (by kernel_rfl) (by kernel_rfl)
  | 5, _ => step_at h 4 5 0 0 7 (by kernel_rfl) (by kernel_rfl) (by kernel_rfl) (by kernel_rfl)
  | 6, _ => step_at h 4 6 0 0 7 (by kernel_rfl) (by kernel_rfl) (by kernel_rfl) (by kernel_rfl)
  | 7, _ => step_at h 4 7 7 16 0 (by kernel_rfl) (by kernel_rfl) (by kernel_rfl) (by kernel_rfl)
  | 8, _ => step_at h 4 8 0 0 0 (by kernel_rfl) (by kernel_rfl) (by kernel_rfl) (by kernel_rfl)
  | 9, _ => step_at h 4 9 0 0 7 (by kernel_rfl) (by kernel_rfl) (by kernel_rfl) (by kernel_rfl)
  | k + 10, hk => absurd hk (by omega)
theorem step_5 {t : Nat} {w : World} (h : Laid t w) : ∀ e : Nat, e < 10 → Calls Tryd.prog 10 #[.int .i64 5, .int .i64 (e : Int)] w fun x w' => x = .returned (stepV (stepL rules 5 e)) ∧ Below w.heap.size w w'
  | 0, _ => step_at h 5 0 0 0 7 (by kernel_rfl) (by kernel_rfl) (by kernel_rfl) (by kernel_rfl)
  | 1, _ => step_at h 5 1 0 0 7 (by kernel_rfl) (by kernel_rfl) (by kernel_rfl) (by kernel_rfl)
  | 2, _ => step_at h 5 2 0 0 7 (by kernel_rfl) (by kernel_rfl) (by kernel_rfl) (by kernel_rfl)
  | 3, _ => step_at h 5 3 0 4 0 (by kernel_rfl) (by kernel_rfl) (by kernel_rfl) (by kernel_rfl)
  | 4, _ => step_at h 5 4 0 0 7 (by kernel_rfl) (by kernel_rfl) (by kernel_rfl) (by kernel_rfl)
  | 5, _ => step_at h 5 5 0 0 7 (by kernel_rfl) (by kernel_rfl) (by kernel_rfl) (by kernel_rfl)
  | 6, _ => step_at h 5 6 6 0 0 (by kernel_rfl) (by kernel_rfl) (by kernel_rfl) (by kernel_rfl)
  | 7, _ => step_at h 5 7 8 16 0 (by kernel_rfl) (by kernel_rfl) (by kernel_rfl) (by kernel_rfl)
  | 8, _ => step_at h 5 8 0 0 0 (by kernel_rfl) (by kernel_rfl) (by kernel_rfl) (by kernel_rfl)
  | 9, _ => step_at h 5 9 0 0 7 (by kernel_rfl) (by kernel_rfl) (by kernel_rfl) (by kernel_rfl)
  | k + 10, hk => absurd hk (by omega)
theorem step_6 {t : Nat} {w : World} (h : Laid t w) : ∀ e : Nat, e < 10 → Calls Tryd.prog 10 #[.int .i64 6, .int .i64 (e : Int)] w fun x w' => x = .returned (stepV (stepL rules 6 e)) ∧ Below w.heap.size w w'
  | 0, _ => step_at h 6 0 0 0 7 (by kernel_rfl) (by kernel_rfl) (by kernel_rfl) (by kernel_rfl)
  | 1, _ => step_at h 6 1 0 0 7 (by kernel_rfl) (by kernel_rfl) (by kernel_rfl) (by kernel_rfl)
  | 2, _ => step_at h 6 2 0 0 7 (by kernel_rfl) (by kernel_rfl) (by kernel_rfl) (by kernel_rfl)
  | 3, _ => step_at h 6 3 0 4 0 (by kernel_rfl) (by kernel_rfl) (by kernel_rfl) (by kernel_rfl)
  | 4, _ => step_at h 6 4 0 0 7 (by kernel_rfl) (by kernel_rfl) (by kernel_rfl) (by kernel_rfl)
  | 5, _ => step_at h 6 5 0 0 7 (by kernel_rfl) (by kernel_rfl) (by kernel_rfl) (by kernel_rfl)
  | 6, _ => step_at h 6 6 0 0 7 (by kernel_rfl) (by kernel_rfl) (by kernel_rfl) (by kernel_rfl)
  | 7, _ => step_at h 6 7 10 16 0 (by kernel_rfl) (by kernel_rfl) (by kernel_rfl) (by kernel_rfl)
  | 8, _ => step_at h 6 8 0 0 0 (by kernel_rfl) (by kernel_rfl) (by kernel_rfl) (by kernel_rfl)
  | 9, _ => step_at h 6 9 0 0 7 (by kernel_rfl) (by kernel_rfl) (by kernel_rfl) (by kernel_rfl)
  | k + 10, hk => absurd hk (by omega)
theorem step_7 {t : Nat} {w : World} (h : Laid t w) : ∀ e : Nat, e < 10 → Calls Tryd.prog 10 #[.int .i64 7, .int .i64 (e : Int)] w fun x w' => x = .returned (stepV (stepL rules 7 e)) ∧ Below w.heap.size w w'
  | 0, _ => step_at h 7 0 0 0 7 (by kernel_rfl) (by kernel_rfl) (by kernel_rfl) (by kernel_rfl)
  | 1, _ => step_at h 7 1 0 0 7 (by kernel_rfl) (by kernel_rfl) (by kernel_rfl) (by kernel_rfl)
  | 2, _ => step_at h 7 2 9 17 0 (by kernel_rfl) (by kernel_rfl) (by kernel_rfl) (by kernel_rfl)
  | 3, _ => step_at h 7 3 0 4 0 (by kernel_rfl) (by kernel_rfl) (by kernel_rfl) (by kernel_rfl)
  | 4, _ => step_at h 7 4 0 0 7 (by kernel_rfl) (by kernel_rfl) (by kernel_rfl) (by kernel_rfl)
  | 5, _ => step_at h 7 5 0 0 7 (by kernel_rfl) (by kernel_rfl) (by kernel_rfl) (by kernel_rfl)
  | 6, _ => step_at h 7 6 0 0 7 (by kernel_rfl) (by kernel_rfl) (by kernel_rfl) (by kernel_rfl)
  | 7, _ => step_at h 7 7 0 0 7 (by kernel_rfl) (by kernel_rfl) (by kernel_rfl) (by kernel_rfl)
  | 8, _ => step_at h 7 8 0 0 0 (by kernel_rfl) (by kernel_rfl) (by kernel_rfl) (by kernel_rfl)
  | 9, _ => step_at h 7 9 0 0 7 (by kernel_rfl) (by kernel_rfl) (by kernel_rfl) (by kernel_rfl)
  | k + 10, hk => absurd hk (by omega)
theorem step_8 {t : Nat} {w : World} (h : Laid t w) : ∀ e : Nat, e < 10 → Calls Tryd.prog 10 #[.int .i64 8, .int .i64 (e : Int)] w fun x w' => x = .returned (stepV (stepL rules 8 e)) ∧ Below w.heap.size w w'
  | 0, _ => step_at h 8 0 0 0 7 (by kernel_rfl) (by kernel_rfl) (by kernel_rfl) (by kernel_rfl)
  | 1, _ => step_at h 8 1 0 0 7 (by kernel_rfl) (by kernel_rfl) (by kernel_rfl) (by kernel_rfl)
  | 2, _ => step_at h 8 2 0 0 7 (by kernel_rfl) (by kernel_rfl) (by kernel_rfl) (by kernel_rfl)
  | 3, _ => step_at h 8 3 0 0 0 (by kernel_rfl) (by kernel_rfl) (by kernel_rfl) (by kernel_rfl)
  | 4, _ => step_at h 8 4 0 0 7 (by kernel_rfl) (by kernel_rfl) (by kernel_rfl) (by kernel_rfl)
  | 5, _ => step_at h 8 5 0 0 7 (by kernel_rfl) (by kernel_rfl) (by kernel_rfl) (by kernel_rfl)
  | 6, _ => step_at h 8 6 10 0 0 (by kernel_rfl) (by kernel_rfl) (by kernel_rfl) (by kernel_rfl)
  | 7, _ => step_at h 8 7 0 0 7 (by kernel_rfl) (by kernel_rfl) (by kernel_rfl) (by kernel_rfl)
  | 8, _ => step_at h 8 8 0 0 0 (by kernel_rfl) (by kernel_rfl) (by kernel_rfl) (by kernel_rfl)
  | 9, _ => step_at h 8 9 0 0 7 (by kernel_rfl) (by kernel_rfl) (by kernel_rfl) (by kernel_rfl)
  | k + 10, hk => absurd hk (by omega)
theorem step_9 {t : Nat} {w : World} (h : Laid t w) : ∀ e : Nat, e < 10 → Calls Tryd.prog 10 #[.int .i64 9, .int .i64 (e : Int)] w fun x w' => x = .returned (stepV (stepL rules 9 e)) ∧ Below w.heap.size w w'
  | 0, _ => step_at h 9 0 0 0 7 (by kernel_rfl) (by kernel_rfl) (by kernel_rfl) (by kernel_rfl)
  | 1, _ => step_at h 9 1 0 0 7 (by kernel_rfl) (by kernel_rfl) (by kernel_rfl) (by kernel_rfl)
  | 2, _ => step_at h 9 2 0 0 7 (by kernel_rfl) (by kernel_rfl) (by kernel_rfl) (by kernel_rfl)
  | 3, _ => step_at h 9 3 0 0 0 (by kernel_rfl) (by kernel_rfl) (by kernel_rfl) (by kernel_rfl)
  | 4, _ => step_at h 9 4 0 0 7 (by kernel_rfl) (by kernel_rfl) (by kernel_rfl) (by kernel_rfl)
  | 5, _ => step_at h 9 5 0 0 7 (by kernel_rfl) (by kernel_rfl) (by kernel_rfl) (by kernel_rfl)
  | 6, _ => step_at h 9 6 0 0 0 (by kernel_rfl) (by kernel_rfl) (by kernel_rfl) (by kernel_rfl)
  | 7, _ => step_at h 9 7 0 0 7 (by kernel_rfl) (by kernel_rfl) (by kernel_rfl) (by kernel_rfl)
  | 8, _ => step_at h 9 8 0 0 0 (by kernel_rfl) (by kernel_rfl) (by kernel_rfl) (by kernel_rfl)
  | 9, _ => step_at h 9 9 0 0 7 (by kernel_rfl) (by kernel_rfl) (by kernel_rfl) (by kernel_rfl)
  | k + 10, hk => absurd hk (by omega)
theorem step_10 {t : Nat} {w : World} (h : Laid t w) : ∀ e : Nat, e < 10 → Calls Tryd.prog 10 #[.int .i64 10, .int .i64 (e : Int)] w fun x w' => x = .returned (stepV (stepL rules 10 e)) ∧ Below w.heap.size w w'
  | 0, _ => step_at h 10 0 0 0 7 (by kernel_rfl) (by kernel_rfl) (by kernel_rfl) (by kernel_rfl)
  | 1, _ => step_at h 10 1 0 0 7 (by kernel_rfl) (by kernel_rfl) (by kernel_rfl) (by kernel_rfl)
  | 2, _ => step_at h 10 2 0 0 7 (by kernel_rfl) (by kernel_rfl) (by kernel_rfl) (by kernel_rfl)
  | 3, _ => step_at h 10 3 0 0 0 (by kernel_rfl) (by kernel_rfl) (by kernel_rfl) (by kernel_rfl)
  | 4, _ => step_at h 10 4 0 0 7 (by kernel_rfl) (by kernel_rfl) (by kernel_rfl) (by kernel_rfl)
  | 5, _ => step_at h 10 5 0 0 7 (by kernel_rfl) (by kernel_rfl) (by kernel_rfl) (by kernel_rfl)
  | 6, _ => step_at h 10 6 0 0 7 (by kernel_rfl) (by kernel_rfl) (by kernel_rfl) (by kernel_rfl)
  | 7, _ => step_at h 10 7 10 16 0 (by kernel_rfl) (by kernel_rfl) (by kernel_rfl) (by kernel_rfl)
  | 8, _ => step_at h 10 8 0 0 0 (by kernel_rfl) (by kernel_rfl) (by kernel_rfl) (by kernel_rfl)
  | 9, _ => step_at h 10 9 0 0 0 (by kernel_rfl) (by kernel_rfl) (by kernel_rfl) (by kernel_rfl)
  | k + 10, hk => absurd hk (by omega)
theorem step_nat {t : Nat} {w : World} (h : Laid t w) : ∀ s e : Nat, s < 11 → e < 10 → Calls Tryd.prog 10 #[.int .i64 (s : Int), .int .i64 (e : Int)] w fun x w' => x = .returned (stepV (stepL rules s e)) ∧ Below w.heap.size w w'
  | 0, e, _, he => step_0 h e he
  | 1, e, _, he => step_1 h e he
  | 2, e, _, he => step_2 h e he
  | 3, e, _, he => step_3 h e he
  | 4, e, _, he => step_4 h e he
  | 5, e, _, he => step_5 h e he
  | 6, e, _, he => step_6 h e he
  | 7, e, _, he => step_7 h e he
  | 8, e, _, he => step_8 h e he
  | 9, e, _, he => step_9 h e he
  | 10, e, _, he => step_10 h e he
  | k + 11, _, hk, _ => absurd hk (by omega)
theorem step_calls {t : Nat} {w : World} (h : Laid t w) {s e : Int} (h0 : 0 ≤ s) (h1 : s < 11) (h2 : 0 ≤ e) (h3 : e < 10) : Calls Tryd.prog 10 #[.int .i64 s, .int .i64 e] w fun x w' => x = .returned (stepV (stepL rules s e)) ∧ Below w.heap.size w w' := by
  obtain ⟨i, rfl⟩ := Int.eq_ofNat_of_zero_le h0
  obtain ⟨j, rfl⟩ := Int.eq_ofNat_of_zero_le h2
  exact step_nat h i j (by omega) (by omega)
end Go.Proofs.YtopjfkcoknenfaaDoor.Cn
