/- conn.Step for every state and event; rest, connFact; ConnEnds answers true where the table of the states is in its block. -/
import Derived.Test.YtopjfkcoknenfaaDoorCn1
import Derived.Laws.BitsLemmas
namespace Go.Proofs.YtopjfkcoknenfaaDoor.Cn
open Go Go.Rx Go.RowKit Go.Proofs.YtopjfkcoknenfaaDoor
set_option linter.unusedVariables false
set_option maxRecDepth 100000
def restI (a m : Int) : Int := if a.tmod m < 0 then IntKind.i64.wrap (a.tmod m + m) else a.tmod m
def stepI (s e : Int) : Int × Int × Int := if s < 0 ∨ 10 < s ∨ e < 0 ∨ 9 < e then (0, 0, 1) else stepL rules s e
theorem checkI_ok {s : Int} (h : checkI s = 0) : 0 ≤ s ∧ s < 11 := by
  unfold checkI at h
  split at h
  · cases h
  · split at h
    · cases h
    · omega
theorem stepI_in {s e : Int} (h0 : 0 ≤ s) (h1 : s < 11) (h2 : 0 ≤ e) (h3 : e < 10) : stepI s e = stepL rules s e := if_neg (by omega)
theorem stepI_out {s e : Int} (h : ¬ checkI s = 0 ∨ e < 0 ∨ 9 < e) : stepI s e = (0, 0, 1) := by
  refine if_pos ?_
  rcases h with h | h
  · unfold checkI at h
    split at h
    · exact .inl ‹_›
    · split at h
      · exact .inr (.inl (by omega))
      · exact absurd rfl h
  · omega
theorem stepI_calls {t : Nat} {w : World} (h : Laid t w) (s e : Int) : Calls Tryd.prog 10 #[.int .i64 s, .int .i64 e] w fun x w' => x = .returned (stepV (stepI s e)) ∧ Below w.heap.size w w' := by
  rcases Bool.eq_false_or_eq_true (checkI s != 0) with h0 | h0
  · -- h0 true
    refine (Calls.path tab_fits (sp0_ok _ _) wide Tryd.func10 rfl (args := [vInt .i64 s, vInt .i64 e]) (vals := [.int .i64 s, .int .i64 e]) 100 [true, true, true] (A := ((checkI s != 0) = true) ∧ (true = true) ∧ (true = true) ∧ True) (vs := [Value.int Go.IntKind.i64 (0), Value.int Go.IntKind.i64 (0), Value.int Go.IntKind.i64 (1)]) (lp := false) rfl (Nat.le_of_ble_eq_true (by kernel_rfl)) ⟨h0, rfl, rfl, trivial⟩ (by kernel_rfl) (by kernel_rfl) (by kernel_rfl)).mono fun x w' hq => ⟨hq.1.trans (congrArg Ending.returned ?_), hq.2⟩
    simp only [bne_iff_ne, ne_eq, bne_eq_false_iff_eq, decide_eq_true_eq, decide_eq_false_iff_not] at h0
    rw [stepI_out (by first | exact .inl h0 | exact .inr (by omega))]; rfl
  · -- h0 false
    rcases Bool.eq_false_or_eq_true (decide (e < 0)) with h1 | h1
    · -- h1 true
      refine (Calls.path tab_fits (sp0_ok _ _) wide Tryd.func10 rfl (args := [vInt .i64 s, vInt .i64 e]) (vals := [.int .i64 s, .int .i64 e]) 100 [false, true, true] (A := ((checkI s != 0) = false) ∧ ((decide (e < 0)) = true) ∧ (true = true) ∧ True) (vs := [Value.int Go.IntKind.i64 (0), Value.int Go.IntKind.i64 (0), Value.int Go.IntKind.i64 (1)]) (lp := false) rfl (Nat.le_of_ble_eq_true (by kernel_rfl)) ⟨h0, h1, rfl, trivial⟩ (by kernel_rfl) (by kernel_rfl) (by kernel_rfl)).mono fun x w' hq => ⟨hq.1.trans (congrArg Ending.returned ?_), hq.2⟩
      simp only [bne_iff_ne, ne_eq, bne_eq_false_iff_eq, decide_eq_true_eq, decide_eq_false_iff_not] at h0 h1
      rw [stepI_out (by first | exact .inl h0 | exact .inr (by omega))]; rfl
    · -- h1 false
      rcases Bool.eq_false_or_eq_true (decide (e > 9)) with h2 | h2
      · -- h2 true
        refine (Calls.path tab_fits (sp0_ok _ _) wide Tryd.func10 rfl (args := [vInt .i64 s, vInt .i64 e]) (vals := [.int .i64 s, .int .i64 e]) 100 [false, false, true] (A := ((checkI s != 0) = false) ∧ ((decide (e < 0)) = false) ∧ ((decide (e > 9)) = true) ∧ True) (vs := [Value.int Go.IntKind.i64 (0), Value.int Go.IntKind.i64 (0), Value.int Go.IntKind.i64 (1)]) (lp := false) rfl (Nat.le_of_ble_eq_true (by kernel_rfl)) ⟨h0, h1, h2, trivial⟩ (by kernel_rfl) (by kernel_rfl) (by kernel_rfl)).mono fun x w' hq => ⟨hq.1.trans (congrArg Ending.returned ?_), hq.2⟩
        simp only [bne_iff_ne, ne_eq, bne_eq_false_iff_eq, decide_eq_true_eq, decide_eq_false_iff_not] at h0 h1 h2
        rw [stepI_out (by first | exact .inl h0 | exact .inr (by omega))]; rfl
      · -- h2 false
        simp only [bne_eq_false_iff_eq, decide_eq_false_iff_not] at h0 h1 h2
        obtain ⟨h3, h4⟩ := checkI_ok h0
        rw [stepI_in h3 (by omega) (by omega) (by omega)]
        exact step_calls h h3 (by omega) (by omega) (by omega)
theorem rest_calls (a m : Int) (hm : m ≠ 0) (w : World) : Calls Tryd.prog 11 #[.int .i64 a, .int .i64 m] w fun x w' => x = .returned (.int .i64 (restI a m)) ∧ Below w.heap.size w w' := by
  have sp_ok : SpecOk Tryd.prog (fun _ => False) w (fun _ _ => none) := fun f a r h => by cases h
  rcases Bool.eq_false_or_eq_true (decide (a.tmod m < 0)) with h0 | h0
  · refine (Calls.path tab_fits sp_ok wide Tryd.func11 rfl (args := [vInt .i64 a, vInt .i64 m]) (vals := [.int .i64 a, .int .i64 m]) 100 [true] (A := (m ≠ 0) ∧ ((decide (a.tmod m < 0)) = true) ∧ True) (vs := [Value.int Go.IntKind.i64 (Go.IntKind.i64.wrap (a.tmod m + m))]) (lp := false) rfl (Nat.le_of_ble_eq_true (by kernel_rfl)) ⟨hm, h0, trivial⟩ (by kernel_rfl) (by kernel_rfl) (by kernel_rfl)).mono fun x w' hq => ⟨hq.1.trans (congrArg Ending.returned ?_), hq.2⟩
    simp only [decide_eq_true_eq] at h0
    simp [restI, oneOf, h0]
  · refine (Calls.path tab_fits sp_ok wide Tryd.func11 rfl (args := [vInt .i64 a, vInt .i64 m]) (vals := [.int .i64 a, .int .i64 m]) 100 [false] (A := (m ≠ 0) ∧ ((decide (a.tmod m < 0)) = false) ∧ True) (vs := [Value.int Go.IntKind.i64 (a.tmod m)]) (lp := false) rfl (Nat.le_of_ble_eq_true (by kernel_rfl)) ⟨hm, h0, trivial⟩ (by kernel_rfl) (by kernel_rfl) (by kernel_rfl)).mono fun x w' hq => ⟨hq.1.trans (congrArg Ending.returned ?_), hq.2⟩
    simp only [decide_eq_false_iff_not] at h0
    simp [restI, oneOf, h0]
theorem rest_in (a m : Int) (h0 : 0 < m) (h1 : m ≤ 100) : 0 ≤ restI a m ∧ restI a m < m := by
  unfold restI
  have hb := Int.tmod_lt_of_pos a h0
  have hc : -m < a.tmod m := by
    have := Int.lt_tmod_of_pos a h0
    exact this
  split
  · rw [show IntKind.i64.wrap (a.tmod m + m) = a.tmod m + m from by
      rw [IntKind.wrap_i64]
      omega]
    omega
  · omega
noncomputable def sp1 : Rx.Spec := fun f args =>
  match f, args with
  | 9, [] => some (.bool true)
  | 10, [.int .i64 s, .int .i64 e] => some (stepV (stepI s e))
  | 11, [.int .i64 a, .int .i64 m] => bif (decide (m = 10) || decide (m = 11)) then some (.int .i64 (restI a m)) else none
  | _, _ => none
noncomputable def sp2 : Rx.Spec := fun f args =>
  match f, args with
  | 10, [.int .i64 s, .int .i64 e] => some (stepV (stepI s e))
  | _, _ => none
theorem Laid.kept {t : Nat} {w0 w : World} (h : Laid t w0) {ids : List Nat} {mem : Mem} (hm : MemOk (fun _ => False) w0 ids mem w) : Laid t w := by
  have hlt : 0 < w0.heap.size := by
    rcases Nat.lt_or_ge 0 w0.heap.size with h1 | h1
    · exact h1
    · unfold Laid at h; rw [Array.getElem?_eq_none h1] at h; cases h
  exact (hm.kept 0 hlt id).trans h
theorem Laid.below {t : Nat} {w w' : World} (h : Laid t w) (hb : Below w.heap.size w w') : Laid t w' := by
  have hlt : 0 < w.heap.size := by
    rcases Nat.lt_or_ge 0 w.heap.size with h1 | h1
    · exact h1
    · unfold Laid at h; rw [Array.getElem?_eq_none h1] at h; cases h
  exact (hb.block 0 hlt).trans h
theorem sp2_ok {t : Nat} {w : World} (h : Laid t w) : SpecOk Tryd.prog (fun _ => False) w sp2 := by
  intro f args r hr
  unfold sp2 at hr
  split at hr <;> simp only [Option.some.injEq, reduceCtorEq] at hr
  subst hr
  exact ⟨by kernel_rfl, fun _ _ w' hm => stepI_calls (h.kept hm) _ _⟩
theorem connFact_calls {t : Nat} {w : World} (h : Laid t w) : Calls Tryd.prog 9 #[] w fun x w' => x = .returned (.bool true) ∧ Below w.heap.size w w' :=
  Calls.path tab_fits (sp2_ok h) wide Tryd.func9 rfl (args := []) (vals := []) 1000 [true, true] (A := (true = true) ∧ (true = true) ∧ True) (vs := [Value.bool true]) (lp := false) rfl (Nat.le_of_ble_eq_true (by kernel_rfl)) ⟨rfl, rfl, trivial⟩ (by kernel_rfl) (by kernel_rfl) (by kernel_rfl)
theorem sp1_ok {t : Nat} {w : World} (h : Laid t w) : SpecOk Tryd.prog (fun _ => False) w sp1 := by
  intro f args r hr
  unfold sp1 at hr
  split at hr
  · simp only [Option.some.injEq] at hr; subst hr
    exact ⟨by kernel_rfl, fun _ _ w' hm => connFact_calls (h.kept hm)⟩
  · simp only [Option.some.injEq] at hr; subst hr
    exact ⟨by kernel_rfl, fun _ _ w' hm => stepI_calls (h.kept hm) _ _⟩
  · rename_i a m
    cases hc : (decide (m = 10) || decide (m = 11)) with
    | false => rw [hc] at hr; cases hr
    | true =>
      rw [hc] at hr
      simp only [cond_true, Option.some.injEq] at hr; subst hr
      simp only [Bool.or_eq_true, decide_eq_true_eq] at hc
      exact ⟨by kernel_rfl, fun _ _ w' hm => rest_calls a m (by omega) w'⟩
  · cases hr
theorem nat_of {q : Int} {n : Nat} (h : 0 ≤ q ∧ q < n) : ∃ i : Fin n, q = (i.1 : Int) := ⟨⟨q.toNat, by omega⟩, by simp; omega⟩
theorem ends1 (q : Int) (h : 0 ≤ q ∧ q < 11) : (((stepI q 3).2.2 == 0) == (q != 0)) = true := by
  obtain ⟨i, rfl⟩ := nat_of (n := 11) h
  revert i; decide +kernel
theorem ends2 (q : Int) (h : 0 ≤ q ∧ q < 11) : (stepI q 3).1 = 0 := by
  obtain ⟨i, rfl⟩ := nat_of (n := 11) h
  revert i; decide +kernel
theorem ends3 (q r : Int) (h : 0 ≤ q ∧ q < 11) (h' : 0 ≤ r ∧ r < 10) : ¬ (stepI q r).2.2 = 0 ∨ q < 3 ∨ (stepI q r).1 = 0 ∨ q < (stepI q r).1 ∨ (stepI q r).1 = 4 ∨ (stepI q r).1 = 10 := by
  obtain ⟨i, rfl⟩ := nat_of (n := 11) h
  obtain ⟨j, rfl⟩ := nat_of (n := 10) h'
  revert i j; decide +kernel
theorem connEnds_calls {t : Nat} {w : World} (h : Laid t w) (s e : Int) : Calls Tryd.prog 4 #[.int .i64 s, .int .i64 e] w fun x w' => x = .returned (.bool true) ∧ Below w.heap.size w w' := by
  rcases Bool.eq_false_or_eq_true (!((stepI (restI s 11) 3).snd.snd == 0) == (restI s 11 != 0)) with h0 | h0
  · -- h0 true
    refine (Calls.path tab_fits (sp1_ok h) wide Tryd.func4 rfl (args := [vInt .i64 s, vInt .i64 e]) (vals := [.int .i64 s, .int .i64 e]) 1000 [false, true, true] (A := (false = false) ∧ ((!((stepI (restI s 11) 3).snd.snd == 0) == (restI s 11 != 0)) = true) ∧ (true = true) ∧ True) (vs := [Value.bool false]) (lp := false) rfl (Nat.le_of_ble_eq_true (by kernel_rfl)) ⟨rfl, h0, rfl, trivial⟩ (by kernel_rfl) (by kernel_rfl) (by kernel_rfl)).mono fun x w' hq => ⟨hq.1.trans (congrArg Ending.returned ?_), hq.2⟩
    simp only [ends1 _ (rest_in s 11 (by omega) (by omega)), ends2 _ (rest_in s 11 (by omega) (by omega)), Bool.not_eq_true, bne_iff_ne, ne_eq, bne_eq_false_iff_eq, beq_iff_eq, beq_eq_false_iff_ne, decide_eq_true_eq, decide_eq_false_iff_not] at h0
    first | rfl | (exfalso; simp_all; done) | (have := ends3 _ _ (rest_in s 11 (by omega) (by omega)) (rest_in e 10 (by omega) (by omega)); simp_all [oneOf]; omega)
  · -- h0 false
    rcases Bool.eq_false_or_eq_true ((stepI (restI s 11) 3).fst != 0) with h1 | h1
    · -- h1 true
      refine (Calls.path tab_fits (sp1_ok h) wide Tryd.func4 rfl (args := [vInt .i64 s, vInt .i64 e]) (vals := [.int .i64 s, .int .i64 e]) 1000 [false, false, true] (A := (false = false) ∧ ((!((stepI (restI s 11) 3).snd.snd == 0) == (restI s 11 != 0)) = false) ∧ (((stepI (restI s 11) 3).fst != 0) = true) ∧ True) (vs := [Value.bool false]) (lp := false) rfl (Nat.le_of_ble_eq_true (by kernel_rfl)) ⟨rfl, h0, h1, trivial⟩ (by kernel_rfl) (by kernel_rfl) (by kernel_rfl)).mono fun x w' hq => ⟨hq.1.trans (congrArg Ending.returned ?_), hq.2⟩
      simp only [ends1 _ (rest_in s 11 (by omega) (by omega)), ends2 _ (rest_in s 11 (by omega) (by omega)), Bool.not_eq_true, bne_iff_ne, ne_eq, bne_eq_false_iff_eq, beq_iff_eq, beq_eq_false_iff_ne, decide_eq_true_eq, decide_eq_false_iff_not] at h0 h1
      first | rfl | (exfalso; simp_all; done) | (have := ends3 _ _ (rest_in s 11 (by omega) (by omega)) (rest_in e 10 (by omega) (by omega)); simp_all [oneOf]; omega)
    · -- h1 false
      rcases Bool.eq_false_or_eq_true ((stepI (restI s 11) (restI e 10)).snd.snd != 0) with h2 | h2
      · -- h2 true
        refine (Calls.path tab_fits (sp1_ok h) wide Tryd.func4 rfl (args := [vInt .i64 s, vInt .i64 e]) (vals := [.int .i64 s, .int .i64 e]) 1000 [false, false, false, true, true, true, true, true] (A := (false = false) ∧ ((!((stepI (restI s 11) 3).snd.snd == 0) == (restI s 11 != 0)) = false) ∧ (((stepI (restI s 11) 3).fst != 0) = false) ∧ (((stepI (restI s 11) (restI e 10)).snd.snd != 0) = true) ∧ (true = true) ∧ (true = true) ∧ (true = true) ∧ (true = true) ∧ True) (vs := [Value.bool true]) (lp := false) rfl (Nat.le_of_ble_eq_true (by kernel_rfl)) ⟨rfl, h0, h1, h2, rfl, rfl, rfl, rfl, trivial⟩ (by kernel_rfl) (by kernel_rfl) (by kernel_rfl)).mono fun x w' hq => ⟨hq.1.trans (congrArg Ending.returned ?_), hq.2⟩
        simp only [ends1 _ (rest_in s 11 (by omega) (by omega)), ends2 _ (rest_in s 11 (by omega) (by omega)), Bool.not_eq_true, bne_iff_ne, ne_eq, bne_eq_false_iff_eq, beq_iff_eq, beq_eq_false_iff_ne, decide_eq_true_eq, decide_eq_false_iff_not] at h0 h1 h2
        first | rfl | (exfalso; simp_all; done) | (have := ends3 _ _ (rest_in s 11 (by omega) (by omega)) (rest_in e 10 (by omega) (by omega)); simp_all [oneOf]; omega)
      · -- h2 false
        rcases Bool.eq_false_or_eq_true (decide (restI s 11 < 3)) with h3 | h3
        · -- h3 true
          refine (Calls.path tab_fits (sp1_ok h) wide Tryd.func4 rfl (args := [vInt .i64 s, vInt .i64 e]) (vals := [.int .i64 s, .int .i64 e]) 1000 [false, false, false, false, true, true, true, true] (A := (false = false) ∧ ((!((stepI (restI s 11) 3).snd.snd == 0) == (restI s 11 != 0)) = false) ∧ (((stepI (restI s 11) 3).fst != 0) = false) ∧ (((stepI (restI s 11) (restI e 10)).snd.snd != 0) = false) ∧ ((decide (restI s 11 < 3)) = true) ∧ (true = true) ∧ (true = true) ∧ (true = true) ∧ True) (vs := [Value.bool true]) (lp := false) rfl (Nat.le_of_ble_eq_true (by kernel_rfl)) ⟨rfl, h0, h1, h2, h3, rfl, rfl, rfl, trivial⟩ (by kernel_rfl) (by kernel_rfl) (by kernel_rfl)).mono fun x w' hq => ⟨hq.1.trans (congrArg Ending.returned ?_), hq.2⟩
          simp only [ends1 _ (rest_in s 11 (by omega) (by omega)), ends2 _ (rest_in s 11 (by omega) (by omega)), Bool.not_eq_true, bne_iff_ne, ne_eq, bne_eq_false_iff_eq, beq_iff_eq, beq_eq_false_iff_ne, decide_eq_true_eq, decide_eq_false_iff_not] at h0 h1 h2 h3
          first | rfl | (exfalso; simp_all; done) | (have := ends3 _ _ (rest_in s 11 (by omega) (by omega)) (rest_in e 10 (by omega) (by omega)); simp_all [oneOf]; omega)
        · -- h3 false
          rcases Bool.eq_false_or_eq_true ((stepI (restI s 11) (restI e 10)).fst == 0) with h4 | h4
          · -- h4 true
            refine (Calls.path tab_fits (sp1_ok h) wide Tryd.func4 rfl (args := [vInt .i64 s, vInt .i64 e]) (vals := [.int .i64 s, .int .i64 e]) 1000 [false, false, false, false, false, true, true, true] (A := (false = false) ∧ ((!((stepI (restI s 11) 3).snd.snd == 0) == (restI s 11 != 0)) = false) ∧ (((stepI (restI s 11) 3).fst != 0) = false) ∧ (((stepI (restI s 11) (restI e 10)).snd.snd != 0) = false) ∧ ((decide (restI s 11 < 3)) = false) ∧ (((stepI (restI s 11) (restI e 10)).fst == 0) = true) ∧ (true = true) ∧ (true = true) ∧ True) (vs := [Value.bool true]) (lp := false) rfl (Nat.le_of_ble_eq_true (by kernel_rfl)) ⟨rfl, h0, h1, h2, h3, h4, rfl, rfl, trivial⟩ (by kernel_rfl) (by kernel_rfl) (by kernel_rfl)).mono fun x w' hq => ⟨hq.1.trans (congrArg Ending.returned ?_), hq.2⟩
            simp only [ends1 _ (rest_in s 11 (by omega) (by omega)), ends2 _ (rest_in s 11 (by omega) (by omega)), Bool.not_eq_true, bne_iff_ne, ne_eq, bne_eq_false_iff_eq, beq_iff_eq, beq_eq_false_iff_ne, decide_eq_true_eq, decide_eq_false_iff_not] at h0 h1 h2 h3 h4
            first | rfl | (exfalso; simp_all; done) | (have := ends3 _ _ (rest_in s 11 (by omega) (by omega)) (rest_in e 10 (by omega) (by omega)); simp_all [oneOf]; omega)
          · -- h4 false
            rcases Bool.eq_false_or_eq_true (decide ((stepI (restI s 11) (restI e 10)).fst > restI s 11)) with h5 | h5
            · -- h5 true
              refine (Calls.path tab_fits (sp1_ok h) wide Tryd.func4 rfl (args := [vInt .i64 s, vInt .i64 e]) (vals := [.int .i64 s, .int .i64 e]) 1000 [false, false, false, false, false, false, true, true] (A := (false = false) ∧ ((!((stepI (restI s 11) 3).snd.snd == 0) == (restI s 11 != 0)) = false) ∧ (((stepI (restI s 11) 3).fst != 0) = false) ∧ (((stepI (restI s 11) (restI e 10)).snd.snd != 0) = false) ∧ ((decide (restI s 11 < 3)) = false) ∧ (((stepI (restI s 11) (restI e 10)).fst == 0) = false) ∧ ((decide ((stepI (restI s 11) (restI e 10)).fst > restI s 11)) = true) ∧ (true = true) ∧ True) (vs := [Value.bool true]) (lp := false) rfl (Nat.le_of_ble_eq_true (by kernel_rfl)) ⟨rfl, h0, h1, h2, h3, h4, h5, rfl, trivial⟩ (by kernel_rfl) (by kernel_rfl) (by kernel_rfl)).mono fun x w' hq => ⟨hq.1.trans (congrArg Ending.returned ?_), hq.2⟩
              simp only [ends1 _ (rest_in s 11 (by omega) (by omega)), ends2 _ (rest_in s 11 (by omega) (by omega)), Bool.not_eq_true, bne_iff_ne, ne_eq, bne_eq_false_iff_eq, beq_iff_eq, beq_eq_false_iff_ne, decide_eq_true_eq, decide_eq_false_iff_not] at h0 h1 h2 h3 h4 h5
              first | rfl | (exfalso; simp_all; done) | (have := ends3 _ _ (rest_in s 11 (by omega) (by omega)) (rest_in e 10 (by omega) (by omega)); simp_all [oneOf]; omega)
            · -- h5 false
              rcases Bool.eq_false_or_eq_true ((stepI (restI s 11) (restI e 10)).fst == 4) with h6 | h6
              · -- h6 true
                refine (Calls.path tab_fits (sp1_ok h) wide Tryd.func4 rfl (args := [vInt .i64 s, vInt .i64 e]) (vals := [.int .i64 s, .int .i64 e]) 1000 [false, false, false, false, false, false, false, true] (A := (false = false) ∧ ((!((stepI (restI s 11) 3).snd.snd == 0) == (restI s 11 != 0)) = false) ∧ (((stepI (restI s 11) 3).fst != 0) = false) ∧ (((stepI (restI s 11) (restI e 10)).snd.snd != 0) = false) ∧ ((decide (restI s 11 < 3)) = false) ∧ (((stepI (restI s 11) (restI e 10)).fst == 0) = false) ∧ ((decide ((stepI (restI s 11) (restI e 10)).fst > restI s 11)) = false) ∧ (((stepI (restI s 11) (restI e 10)).fst == 4) = true) ∧ True) (vs := [Value.bool true]) (lp := false) rfl (Nat.le_of_ble_eq_true (by kernel_rfl)) ⟨rfl, h0, h1, h2, h3, h4, h5, h6, trivial⟩ (by kernel_rfl) (by kernel_rfl) (by kernel_rfl)).mono fun x w' hq => ⟨hq.1.trans (congrArg Ending.returned ?_), hq.2⟩
                simp only [ends1 _ (rest_in s 11 (by omega) (by omega)), ends2 _ (rest_in s 11 (by omega) (by omega)), Bool.not_eq_true, bne_iff_ne, ne_eq, bne_eq_false_iff_eq, beq_iff_eq, beq_eq_false_iff_ne, decide_eq_true_eq, decide_eq_false_iff_not] at h0 h1 h2 h3 h4 h5 h6
                first | rfl | (exfalso; simp_all; done) | (have := ends3 _ _ (rest_in s 11 (by omega) (by omega)) (rest_in e 10 (by omega) (by omega)); simp_all [oneOf]; omega)
              · -- h6 false
                refine (Calls.path tab_fits (sp1_ok h) wide Tryd.func4 rfl (args := [vInt .i64 s, vInt .i64 e]) (vals := [.int .i64 s, .int .i64 e]) 1000 [false, false, false, false, false, false, false, false] (A := (false = false) ∧ ((!((stepI (restI s 11) 3).snd.snd == 0) == (restI s 11 != 0)) = false) ∧ (((stepI (restI s 11) 3).fst != 0) = false) ∧ (((stepI (restI s 11) (restI e 10)).snd.snd != 0) = false) ∧ ((decide (restI s 11 < 3)) = false) ∧ (((stepI (restI s 11) (restI e 10)).fst == 0) = false) ∧ ((decide ((stepI (restI s 11) (restI e 10)).fst > restI s 11)) = false) ∧ (((stepI (restI s 11) (restI e 10)).fst == 4) = false) ∧ True) (vs := [Value.bool (bif false then true else (stepI (restI s 11) (restI e 10)).fst == 10)]) (lp := false) rfl (Nat.le_of_ble_eq_true (by kernel_rfl)) ⟨rfl, h0, h1, h2, h3, h4, h5, h6, trivial⟩ (by kernel_rfl) (by kernel_rfl) (by kernel_rfl)).mono fun x w' hq => ⟨hq.1.trans (congrArg Ending.returned ?_), hq.2⟩
                simp only [ends1 _ (rest_in s 11 (by omega) (by omega)), ends2 _ (rest_in s 11 (by omega) (by omega)), Bool.not_eq_true, bne_iff_ne, ne_eq, bne_eq_false_iff_eq, beq_iff_eq, beq_eq_false_iff_ne, decide_eq_true_eq, decide_eq_false_iff_not] at h0 h1 h2 h3 h4 h5 h6
                first | rfl | (exfalso; simp_all; done) | (have := ends3 _ _ (rest_in s 11 (by omega) (by omega)) (rest_in e 10 (by omega) (by omega)); simp_all [oneOf]; omega)
end Go.Proofs.YtopjfkcoknenfaaDoor.Cn
