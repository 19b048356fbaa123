-- PRINTED BY print.sh 35421559b90ae4d0a3588c463048766b98c2df88dd9212a6774a882060cdf62d: not written by this session
import Derived.Test.YtopjfkcoknenfaaPSackChoosesx0
import Derived.Test.YtopjfkcoknenfaaPSackChoosesx2
namespace Go.Proofs.Ytopjfkcoknenfaa.PSackChooses
open Go.RowKit Go.Proofs.YtopjfkcoknenfaaW.PrintWords Go.Proofs.YtopjfkcoknenfaaW.PrintLast Go.Proofs.YtopjfkcoknenfaaW.PrintMore
attribute [local go_sem] max2_int min2_int max_two min_two max_three min_three max_four min_four   -- for this text's walks alone
set_option linter.unusedVariables false
set_option linter.unusedSimpArgs false

/-! ### patchbaykeep3_blocks: function 19 -/
mutual
def patchbaykeep3_blocks.l0 : Nat → Int → Int → List Int → List Int → List (S53) → Int → Option ((List (S53)))
  | 0, _, _, _, _, _, _ => none
  | k + 1, x0, x1, x2, x3, x9, x10 => if x10 < (x2.length : Int) then (if x10 < (x3.length : Int) then (patchbaykeep3_blocks.j1 k x0 x1 x2 x3 x9 x10 (decide (x10 < 12))) else (patchbaykeep3_blocks.j1 k x0 x1 x2 x3 x9 x10 false)) else (patchbaykeep3_blocks.j1 k x0 x1 x2 x3 x9 x10 false)
def patchbaykeep3_blocks.j1 : Nat → Int → Int → List Int → List Int → List (S53) → Int → Bool → Option ((List (S53)))
  | 0, _, _, _, _, _, _, _ => none
  | k + 1, x0, x1, x2, x3, x9, x10, x26 => if x26 = true then (if 0 ≤ x10 then (if x10 < (x2.length : Int) then ((patchbaykeep3_rest.f (rd x2 x10) x1).bind fun t172 => (if x10 < (x3.length : Int) then ((patchbaykeep3_rest.f (rd x3 x10) 50).bind fun t174 => (if (wrap64 (1 + t172)) < (mn (wrap64 ((wrap64 ((wrap64 (1 + t172)) + 1)) + t174)) x1) then ((seq_Add.f x0 (wrap64 (1 + t172))).bind fun t175 => ((seq_Add.f x0 (mn (wrap64 ((wrap64 ((wrap64 (1 + t172)) + 1)) + t174)) x1)).bind fun t176 => (if x9.length < 17592186044416 then (patchbaykeep3_blocks.l0 k x0 x1 x2 x3 (x9 ++ [(⟨t175, t176⟩ : S53)]) (wrap64 (x10 + 1))) else (none)))) else (patchbaykeep3_blocks.l0 k x0 x1 x2 x3 x9 (wrap64 (x10 + 1))))) else (none))) else (none)) else (none)) else (some x9)
end
def patchbaykeep3_blocks.f (k : Nat) (a0 : Int) (a1 : Int) (l2 : List Int) (l3 : List Int) : Option ((List (S53))) := patchbaykeep3_blocks.l0 k a0 a1 l2 l3 ([] : List (S53)) 0
theorem patchbaykeep3_blocks.mono_l : ∀ k, (∀ y0 y1 y2 y3 y4 y5, LeO (patchbaykeep3_blocks.l0 k y0 y1 y2 y3 y4 y5) (patchbaykeep3_blocks.l0 (k + 1) y0 y1 y2 y3 y4 y5)) ∧ (∀ y0 y1 y2 y3 y4 y5 y6, LeO (patchbaykeep3_blocks.j1 k y0 y1 y2 y3 y4 y5 y6) (patchbaykeep3_blocks.j1 (k + 1) y0 y1 y2 y3 y4 y5 y6))
  | 0 => ⟨fun _ _ _ _ _ _ r h => by simp [patchbaykeep3_blocks.l0] at h, fun _ _ _ _ _ _ _ r h => by simp [patchbaykeep3_blocks.j1] at h⟩
  | k + 1 => by
    obtain ⟨ih0, ih1⟩ := patchbaykeep3_blocks.mono_l k
    refine ⟨?_, ?_⟩
    · intro y0 y1 y2 y3 y4 y5
      unfold patchbaykeep3_blocks.l0
      repeat' first
      | (with_reducible exact ih0 _ _ _ _ _ _)
      | (with_reducible exact ih1 _ _ _ _ _ _ _)
      | (with_reducible exact LeO.refl _)
      | (with_reducible exact LeO.none _)
      | (with_reducible refine LeO.ite ?_ ?_)
      | (with_reducible refine LeO.bind ?_ (fun _ => ?_))
      | exact ih0 _ _ _ _ _ _
      | exact ih1 _ _ _ _ _ _ _
      | exact LeO.none _
      | refine LeO.ite ?_ ?_
      | refine LeO.bind ?_ (fun _ => ?_)
    · intro y0 y1 y2 y3 y4 y5 y6
      unfold patchbaykeep3_blocks.j1
      repeat' first
      | (with_reducible exact ih0 _ _ _ _ _ _)
      | (with_reducible exact ih1 _ _ _ _ _ _ _)
      | (with_reducible exact LeO.refl _)
      | (with_reducible exact LeO.none _)
      | (with_reducible refine LeO.ite ?_ ?_)
      | (with_reducible refine LeO.bind ?_ (fun _ => ?_))
      | exact ih0 _ _ _ _ _ _
      | exact ih1 _ _ _ _ _ _ _
      | exact LeO.none _
      | refine LeO.ite ?_ ?_
      | refine LeO.bind ?_ (fun _ => ?_)
theorem patchbaykeep3_blocks.mono : ∀ a0 a1 a2 a3 k, LeO (patchbaykeep3_blocks.f k a0 a1 a2 a3) (patchbaykeep3_blocks.f (k + 1) a0 a1 a2 a3) := by
  intro a0 a1 a2 a3 k
  obtain ⟨ih0, ih1⟩ := patchbaykeep3_blocks.mono_l k
  unfold patchbaykeep3_blocks.f
  repeat' first
      | (with_reducible exact ih0 _ _ _ _ _ _)
      | (with_reducible exact ih1 _ _ _ _ _ _ _)
      | (with_reducible exact LeO.refl _)
      | (with_reducible exact LeO.none _)
      | (with_reducible refine LeO.ite ?_ ?_)
      | (with_reducible refine LeO.bind ?_ (fun _ => ?_))
      | exact ih0 _ _ _ _ _ _
      | exact ih1 _ _ _ _ _ _ _
      | exact LeO.none _
      | refine LeO.ite ?_ ?_
      | refine LeO.bind ?_ (fun _ => ?_)
set_option maxHeartbeats 8000000 in
set_option maxRecDepth 100000 in
theorem patchbaykeep3_blocks.calls (k : Nat) (a0 : Int) (a1 : Int) (A2 : Option Addr) (c2 : Nat) (l2 : List Int) (A3 : Option Addr) (c3 : Nat) (l3 : List Int) (r : List (S53)) (w : World) (hr2 : Kd.C (Kd.int .i64) w A2 l2.length l2) (hc2 : l2.length ≤ c2) (hr3 : Kd.C (Kd.int .i64) w A3 l3.length l3) (hc3 : l3.length ≤ c3) (h : patchbaykeep3_blocks.f k a0 a1 l2 l3 = some r) :
    Calls Try.prog 19 #[.int .u32 a0, .int .i64 a1, .slice A2 l2.length c2, .slice A3 l3.length c3] w fun e w' => ∃ v0_ : Value, e = .returned (v0_) ∧ Kd.R k53 53 w' w.heap.size (fun _ => True) v0_ r ∧ Below w.heap.size w w' := by
  have hu53 := Try.underlying53
  have HR2 := Aside0.mk hr2
  have HC2 := Aside0.mk hc2
  clear hr2 hc2
  have HR3 := Aside0.mk hr3
  have HC3 := Aside0.mk hc3
  clear hr3 hc3
  have HB := Aside0.mk (Below.refl w.heap.size w)
  have H : (patchbaykeep3_blocks.l0 k a0 a1 l2 l3 ([] : List (S53)) 0) = some r := h
  clear h
  have H' := Aside0.mk H
  clear H
  go_enter Try.func19, Try.ntmps19
  go_wp2
  go_loopg [9, 10] k (fun kq v9 v10 w' => ∃ (x9_1 : List (S53)) (x10_1 : Int), v10 = .int .i64 x10_1 ∧ Aside0 (patchbaykeep3_blocks.l0 kq a0 a1 l2 l3 x9_1 x10_1 = some r) ∧ Aside0 (kq ≤ k) ∧ Aside0 (Kd.R k53 53 w' w.heap.size (fun _ => True) v9 x9_1) ∧ Aside0 (Below w.heap.size w w'))
  case atStart => exact ⟨(([] : List (S53))), (0), (by first | rfl | (simp; done) | (simp [*]; done)), H', ⟨Nat.le_refl _⟩, ⟨by first | exact Kd.R_nil _ _ _ _ _ | exact Kd.N_nil _ _ _ _ _ | exact Kd.V_nil _ _ _ _ _ | exact Kd.Q_nil _ _ _ _ _ | exact Kd.S_nil _ _ _ _ _⟩, ⟨by repeat (first | (with_reducible first | exact HB.out | apply below_alloc | apply pw_below_drewN | apply below_drew1) | exact HB.out)⟩⟩
  case round =>
    clear H'
    try clear c1
    try clear c2
    try clear p2
    try clear c3
    try clear p3
    obtain ⟨x9_1, x10_1, rfl, HA, HK1, HO_9, HB⟩ := hrel
    cases gk with
    | zero => exact absurd HA.out (by simp [patchbaykeep3_blocks.l0])
    | succ k1 =>
      have H := HA.out
      clear HA
      simp only [patchbaykeep3_blocks.l0] at H
      have HC5 := Aside0.mk H
      clear H
      go_upto_region 3 with (fail)
      go_cut [26] (fun v26 wc => ∃ (kq : Nat) (x26_4 : Bool), v26 = .bool x26_4 ∧ Aside0 (patchbaykeep3_blocks.j1 kq a0 a1 l2 l3 x9_1 x10_1 x26_4 = some r) ∧ Aside0 (kq ≤ k1) ∧ Aside0 (Kd.R k53 53 wc w.heap.size (fun _ => True) u9 x9_1) ∧ Aside0 (Below w.heap.size w wc))
      case first =>
        have H := HC5.out
        clear HC5
        by_cases c6 : x10_1 < (l2.length : Int)
        · rw [if_pos c6] at H
          have c6b0 : decide (x10_1 < (l2.length : Int)) = true := decide_eq_true c6
          clear c6
          (first | rw [c6b0] | (simp only [i64_w, i32_w]; rw [c6b0]) | skip)
          by_cases c7 : x10_1 < (l3.length : Int)
          · rw [if_pos c7] at H
            have c7b0 : decide (x10_1 < (l3.length : Int)) = true := decide_eq_true c7
            clear c7
            have H' := Aside0.mk H
            clear H
            go_wp2
            go_meet
            case rel => exact ⟨_, (decide (x10_1 < 12)), (by first | rfl | (simp; done) | (simp [*]; done)), H', ⟨by have := HK1.out; first | omega | exact Nat.le_refl _⟩, ⟨by (with_reducible repeat (first | apply Kd.R_alloc | apply Kd.R_drewN | apply Kd.R_drew)); exact HO_9.out⟩, ⟨by repeat (first | (with_reducible first | exact HB.out | apply below_alloc | apply pw_below_drewN | apply below_drew1) | exact HB.out)⟩⟩
          · rw [if_neg c7] at H
            have c7b0 : decide (x10_1 < (l3.length : Int)) = false := decide_eq_false c7
            clear c7
            have H' := Aside0.mk H
            clear H
            go_wp2
            go_meet
            case rel => exact ⟨_, (false), (by first | rfl | (simp; done) | (simp [*]; done)), H', ⟨by have := HK1.out; first | omega | exact Nat.le_refl _⟩, ⟨by (with_reducible repeat (first | apply Kd.R_alloc | apply Kd.R_drewN | apply Kd.R_drew)); exact HO_9.out⟩, ⟨by repeat (first | (with_reducible first | exact HB.out | apply below_alloc | apply pw_below_drewN | apply below_drew1) | exact HB.out)⟩⟩
        · rw [if_neg c6] at H
          have c6b0 : decide (x10_1 < (l2.length : Int)) = false := decide_eq_false c6
          clear c6
          (first | rw [c6b0] | (simp only [i64_w, i32_w]; rw [c6b0]) | skip)
          have H' := Aside0.mk H
          clear H
          go_wp2
          go_meet
          case rel => exact ⟨_, (false), (by first | rfl | (simp; done) | (simp [*]; done)), H', ⟨by have := HK1.out; first | omega | exact Nat.le_refl _⟩, ⟨by (with_reducible repeat (first | apply Kd.R_alloc | apply Kd.R_drewN | apply Kd.R_drew)); exact HO_9.out⟩, ⟨by repeat (first | (with_reducible first | exact HB.out | apply below_alloc | apply pw_below_drewN | apply below_drew1) | exact HB.out)⟩⟩
      case rest =>
        clear HC5
        try clear c1
        try clear c2
        try clear p2
        try clear c3
        try clear p3
        try clear c6
        try clear c6b0
        try clear c7
        try clear c7b0
        try clear p2
        try clear p3
        obtain ⟨kq, x26_4, rfl, HA, HJ4, HO_9, HB⟩ := hcut
        cases kq with
        | zero => exact absurd HA.out (by simp [patchbaykeep3_blocks.j1])
        | succ kj4 =>
          have H := HA.out
          clear HA
          simp only [patchbaykeep3_blocks.j1] at H
          by_cases c8 : x26_4 = true
          · subst c8
            have H1 : (if 0 ≤ x10_1 then (if x10_1 < (l2.length : Int) then ((patchbaykeep3_rest.f (rd l2 x10_1) a1).bind fun t172 => (if x10_1 < (l3.length : Int) then ((patchbaykeep3_rest.f (rd l3 x10_1) 50).bind fun t174 => (if (wrap64 (1 + t172)) < (mn (wrap64 ((wrap64 ((wrap64 (1 + t172)) + 1)) + t174)) a1) then ((seq_Add.f a0 (wrap64 (1 + t172))).bind fun t175 => ((seq_Add.f a0 (mn (wrap64 ((wrap64 ((wrap64 (1 + t172)) + 1)) + t174)) a1)).bind fun t176 => (if x9_1.length < 17592186044416 then (patchbaykeep3_blocks.l0 kj4 a0 a1 l2 l3 (x9_1 ++ [(⟨t175, t176⟩ : S53)]) (wrap64 (x10_1 + 1))) else (none)))) else (patchbaykeep3_blocks.l0 kj4 a0 a1 l2 l3 x9_1 (wrap64 (x10_1 + 1))))) else (none))) else (none)) else (none)) = some r := by rw [if_pos rfl] at H; exact H
            clear H
            have H := H1
            clear H1
            by_cases c9 : 0 ≤ x10_1
            · rw [if_pos c9] at H
              have c9b0 : decide (0 ≤ x10_1) = true := decide_eq_true c9
              clear c9
              by_cases c10 : x10_1 < (l2.length : Int)
              · rw [if_pos c10] at H
                have c10b0 : decide (x10_1 < (l2.length : Int)) = true := decide_eq_true c10
                clear c10
                replace H := Option.bind_eq_some_iff.mp H
                obtain ⟨t172, A110, H⟩ := H
                replace H : (if x10_1 < (l3.length : Int) then ((patchbaykeep3_rest.f (rd l3 x10_1) 50).bind fun t174 => (if (wrap64 (1 + t172)) < (mn (wrap64 ((wrap64 ((wrap64 (1 + t172)) + 1)) + t174)) a1) then ((seq_Add.f a0 (wrap64 (1 + t172))).bind fun t175 => ((seq_Add.f a0 (mn (wrap64 ((wrap64 ((wrap64 (1 + t172)) + 1)) + t174)) a1)).bind fun t176 => (if x9_1.length < 17592186044416 then (patchbaykeep3_blocks.l0 kj4 a0 a1 l2 l3 (x9_1 ++ [(⟨t175, t176⟩ : S53)]) (wrap64 (x10_1 + 1))) else (none)))) else (patchbaykeep3_blocks.l0 kj4 a0 a1 l2 l3 x9_1 (wrap64 (x10_1 + 1))))) else (none)) = some r := H
                have A11 := Aside0.mk A110
                clear A110
                by_cases c12 : x10_1 < (l3.length : Int)
                · rw [if_pos c12] at H
                  have c12b0 : decide (x10_1 < (l3.length : Int)) = true := decide_eq_true c12
                  clear c12
                  replace H := Option.bind_eq_some_iff.mp H
                  obtain ⟨t174, A130, H⟩ := H
                  replace H : (if (wrap64 (1 + t172)) < (mn (wrap64 ((wrap64 ((wrap64 (1 + t172)) + 1)) + t174)) a1) then ((seq_Add.f a0 (wrap64 (1 + t172))).bind fun t175 => ((seq_Add.f a0 (mn (wrap64 ((wrap64 ((wrap64 (1 + t172)) + 1)) + t174)) a1)).bind fun t176 => (if x9_1.length < 17592186044416 then (patchbaykeep3_blocks.l0 kj4 a0 a1 l2 l3 (x9_1 ++ [(⟨t175, t176⟩ : S53)]) (wrap64 (x10_1 + 1))) else (none)))) else (patchbaykeep3_blocks.l0 kj4 a0 a1 l2 l3 x9_1 (wrap64 (x10_1 + 1)))) = some r := H
                  have A13 := Aside0.mk A130
                  clear A130
                  obtain ⟨ji14, hji14⟩ : ∃ j_ : Int, (mn (wrap64 ((wrap64 ((wrap64 (1 + t172)) + 1)) + t174)) a1) = j_ := ⟨_, rfl⟩
                  replace H : (if (wrap64 (1 + t172)) < (ji14) then ((seq_Add.f a0 (wrap64 (1 + t172))).bind fun t175 => ((seq_Add.f a0 (ji14)).bind fun t176 => (if x9_1.length < 17592186044416 then (patchbaykeep3_blocks.l0 kj4 a0 a1 l2 l3 (x9_1 ++ [(⟨t175, t176⟩ : S53)]) (wrap64 (x10_1 + 1))) else (none)))) else (patchbaykeep3_blocks.l0 kj4 a0 a1 l2 l3 x9_1 (wrap64 (x10_1 + 1)))) = some r := by first | (rw [hji14] at H; exact H) | (simp only [hji14] at H ⊢; exact H)
                  (try rw [hji14] at A11)
                  (try rw [hji14] at A13)
                  have hji14_ : (if a1 < (wrap64 ((wrap64 ((wrap64 (1 + t172)) + 1)) + t174)) then a1 else (wrap64 ((wrap64 ((wrap64 (1 + t172)) + 1)) + t174))) = ji14 := hji14
                  by_cases c15 : (wrap64 (1 + t172)) < (ji14)
                  · rw [if_pos c15] at H
                    have c15b0 : decide ((wrap64 (1 + t172)) < (ji14)) = true := decide_eq_true c15
                    clear c15
                    replace H := Option.bind_eq_some_iff.mp H
                    obtain ⟨t175, A160, H⟩ := H
                    replace H : ((seq_Add.f a0 (ji14)).bind fun t176 => (if x9_1.length < 17592186044416 then (patchbaykeep3_blocks.l0 kj4 a0 a1 l2 l3 (x9_1 ++ [(⟨t175, t176⟩ : S53)]) (wrap64 (x10_1 + 1))) else (none))) = some r := H
                    have A16 := Aside0.mk A160
                    clear A160
                    replace H := Option.bind_eq_some_iff.mp H
                    obtain ⟨t176, A170, H⟩ := H
                    replace H : (if x9_1.length < 17592186044416 then (patchbaykeep3_blocks.l0 kj4 a0 a1 l2 l3 (x9_1 ++ [(⟨t175, t176⟩ : S53)]) (wrap64 (x10_1 + 1))) else (none)) = some r := H
                    have A17 := Aside0.mk A170
                    clear A170
                    by_cases c18 : x9_1.length < 17592186044416
                    · rw [if_pos c18] at H
                      have LMc18 := Aside0.mk c18
                      clear c18
                      obtain ⟨y177, hy177⟩ : ∃ y_ : List (S53), y_ = (x9_1 ++ [(⟨t175, t176⟩ : S53)]) := ⟨_, rfl⟩
                      replace H : (patchbaykeep3_blocks.l0 kj4 a0 a1 l2 l3 y177 (wrap64 (x10_1 + 1))) = some r := by first | (rw [hy177]; with_reducible exact H) | (have H2_ := (Option.bind_some _ _).symm.trans H; rw [hy177]; with_reducible exact H2_) | (have H2_ := (Option.bind_some _ _).symm.trans H; with_reducible exact H2_) | with_reducible exact H | (rw [hy177]; exact H) | exact H
                      have Ny177 := Aside0.mk hy177
                      clear hy177
                      have H' := Aside0.mk H
                      clear H
                      have p171 : 0 ≤ (x10_1 : Int) := of_decide_eq_true (by first | (with_reducible assumption) | assumption)
                      have q171 : x10_1 < (l2.length : Int) := of_decide_eq_true (by first | (with_reducible assumption) | assumption)
                      obtain ⟨ad171, e171, hx171_0⟩ := Kd.at_int HR2.out x10_1 p171 q171
                      cases e171
                      replace hx171_0 := (HB.out.cell (World.block_lt_of_cell? w _ hx171_0)).trans hx171_0
                      replace p171 := eq_true p171
                      replace q171 := eq_true q171
                      go_wp2_with (first | ((with_reducible refine gate_callee (f := 10) rfl ?_); refine goesL_ (some 34) rfl rfl Try.func10 (by kernel_rfl) rfl #[.int .i64 (rd l2 x10_1), .int .i64 a1] rfl (by (try simp only [List.map_toArray, List.map_cons, List.map_nil]); first | done | rfl | (simp only [List.length_drop, List.length_take]; rfl)) ?_; (with_reducible refine (patchbaykeep3_rest.calls (rd l2 x10_1) a1 t172 _ A11.out).mono ?_); rintro e w' ⟨rfl, ⟨nd, rfl⟩⟩; refine ⟨_, rfl, ?_⟩; have p173 : 0 ≤ (x10_1 : Int) := of_decide_eq_true (by first | (with_reducible assumption) | assumption); have q173 : x10_1 < (l3.length : Int) := of_decide_eq_true (by first | (with_reducible assumption) | assumption); obtain ⟨ad173, e173, hx173_0⟩ := Kd.at_int HR3.out x10_1 p173 q173; cases e173; replace hx173_0 := (HB.out.cell (World.block_lt_of_cell? w _ hx173_0)).trans hx173_0; replace p173 := eq_true p173; replace q173 := eq_true q173) | ((with_reducible refine gate_callee (f := 10) rfl ?_); refine goesL_ (some 42) rfl rfl Try.func10 (by kernel_rfl) rfl #[.int .i64 (rd l3 x10_1), .int .i64 50] rfl (by (try simp only [List.map_toArray, List.map_cons, List.map_nil]); first | done | rfl | (simp only [List.length_drop, List.length_take]; rfl)) ?_; (with_reducible refine (patchbaykeep3_rest.calls (rd l3 x10_1) 50 t174 _ A13.out).mono ?_); rintro e w' ⟨rfl, ⟨nd, rfl⟩⟩; refine ⟨_, rfl, ?_⟩) | ((with_reducible refine gate_callee (f := 18) rfl ?_); refine goesL_ (some 52) rfl rfl Try.func18 (by kernel_rfl) rfl #[.int .u32 a0, .int .i64 (wrap64 (1 + t172))] rfl (by (try simp only [List.map_toArray, List.map_cons, List.map_nil]); first | done | rfl | (simp only [List.length_drop, List.length_take]; rfl)) ?_; (with_reducible refine (seq_Add.calls a0 (wrap64 (1 + t172)) t175 _ A16.out).mono ?_); rintro e w' ⟨rfl, ⟨nd, rfl⟩⟩; refine ⟨_, rfl, ?_⟩) | ((with_reducible refine gate_callee (f := 18) rfl ?_); refine goesL_ (some 55) rfl rfl Try.func18 (by kernel_rfl) rfl #[.int .u32 a0, .int .i64 ji14] rfl (by (try simp only [List.map_toArray, List.map_cons, List.map_nil]); first | done | (simp only [hji14]; rfl) | rfl | (simp only [List.length_drop, List.length_take]; rfl)) ?_; (with_reducible refine (seq_Add.calls a0 ji14 t176 _ A17.out).mono ?_); rintro e w' ⟨rfl, ⟨nd, rfl⟩⟩; refine ⟨_, rfl, ?_⟩) | ((with_reducible refine gate_builtin (b := .append) (xs := #[.tmp 49, .tmp 57]) rfl ?_); (try (refine gate_guard (by rfl) ?_; dsimp only)); at_builtin; refine Kd.R_append k53 (w0 := w) w.heap.size rfl (.tmp 49) (.tmp 57) 42 53 (.agg #[(.int .u32 0), (.int .u32 0)]) 8 rfl Try.underlying42 info53 rfl (by decide) (by omega) u9 x9_1 (⟨t175, t176⟩ : S53) [.int .u32 t175, .int .u32 t176] (fun _ => True) (fun _ => False) rfl rfl ?aP (fun _ hk => hk.elim) ?aF ?aO ?aB ?aS ?aL ?_; (case aP => exact k53_mkM _ _ _ (⟨t175, t176⟩ : S53)); (case aB => exact (by repeat (first | (with_reducible first | exact HB.out | apply below_alloc | apply pw_below_drewN | apply below_drew1) | exact HB.out))); (case aF => exact (fun _ _ => trivial)); (case aO => exact (by (with_reducible repeat (first | apply Kd.R_alloc | apply Kd.R_drewN | apply Kd.R_drew)); exact HO_9.out)); (case aS => exact (below_size (by repeat (first | (with_reducible first | exact HB.out | apply below_alloc | apply pw_below_drewN | apply below_drew1) | exact HB.out)))); (case aL => have := LMc18.out; omega); intro v178 w19 ho hb hg hat; rw [← Ny177.out] at ho; have n0_ := Aside0.mk (hb); have n1_ := Aside0.mk (ho); clear HB; clear HO_9; have HB := n0_; have HO179 := n1_; clear n0_ n1_; clear ho hb hg hat))
                      go_roundg kj4
                      case measure => have := HK1.out; have := HJ4.out; omega
                      case rel => exact ⟨(y177), (wrap64 (x10_1 + 1)), (by first | rfl | (simp; done) | (simp [*]; done)), H', ⟨by have := HK1.out; have := HJ4.out; omega⟩, ⟨by (with_reducible repeat (first | apply Kd.R_alloc | apply Kd.R_drewN | apply Kd.R_drew)); exact HO179.out⟩, ⟨by repeat (first | (with_reducible first | exact HB.out | apply below_alloc | apply pw_below_drewN | apply below_drew1) | exact HB.out)⟩⟩
                    · rw [if_neg c18] at H
                      exact absurd H (by simp)
                  · rw [if_neg c15] at H
                    have c15b0 : decide ((wrap64 (1 + t172)) < (ji14)) = false := decide_eq_false c15
                    clear c15
                    have H' := Aside0.mk H
                    clear H
                    have p171 : 0 ≤ (x10_1 : Int) := of_decide_eq_true (by first | (with_reducible assumption) | assumption)
                    have q171 : x10_1 < (l2.length : Int) := of_decide_eq_true (by first | (with_reducible assumption) | assumption)
                    obtain ⟨ad171, e171, hx171_0⟩ := Kd.at_int HR2.out x10_1 p171 q171
                    cases e171
                    replace hx171_0 := (HB.out.cell (World.block_lt_of_cell? w _ hx171_0)).trans hx171_0
                    replace p171 := eq_true p171
                    replace q171 := eq_true q171
                    go_wp2_with (first | ((with_reducible refine gate_callee (f := 10) rfl ?_); refine goesL_ (some 34) rfl rfl Try.func10 (by kernel_rfl) rfl #[.int .i64 (rd l2 x10_1), .int .i64 a1] rfl (by (try simp only [List.map_toArray, List.map_cons, List.map_nil]); first | done | rfl | (simp only [List.length_drop, List.length_take]; rfl)) ?_; (with_reducible refine (patchbaykeep3_rest.calls (rd l2 x10_1) a1 t172 _ A11.out).mono ?_); rintro e w' ⟨rfl, ⟨nd, rfl⟩⟩; refine ⟨_, rfl, ?_⟩; have p173 : 0 ≤ (x10_1 : Int) := of_decide_eq_true (by first | (with_reducible assumption) | assumption); have q173 : x10_1 < (l3.length : Int) := of_decide_eq_true (by first | (with_reducible assumption) | assumption); obtain ⟨ad173, e173, hx173_0⟩ := Kd.at_int HR3.out x10_1 p173 q173; cases e173; replace hx173_0 := (HB.out.cell (World.block_lt_of_cell? w _ hx173_0)).trans hx173_0; replace p173 := eq_true p173; replace q173 := eq_true q173) | ((with_reducible refine gate_callee (f := 10) rfl ?_); refine goesL_ (some 42) rfl rfl Try.func10 (by kernel_rfl) rfl #[.int .i64 (rd l3 x10_1), .int .i64 50] rfl (by (try simp only [List.map_toArray, List.map_cons, List.map_nil]); first | done | rfl | (simp only [List.length_drop, List.length_take]; rfl)) ?_; (with_reducible refine (patchbaykeep3_rest.calls (rd l3 x10_1) 50 t174 _ A13.out).mono ?_); rintro e w' ⟨rfl, ⟨nd, rfl⟩⟩; refine ⟨_, rfl, ?_⟩))
                    go_roundg kj4
                    case measure => have := HK1.out; have := HJ4.out; omega
                    case rel => exact ⟨(x9_1), (wrap64 (x10_1 + 1)), (by first | rfl | (simp; done) | (simp [*]; done)), H', ⟨by have := HK1.out; have := HJ4.out; omega⟩, ⟨by (with_reducible repeat (first | apply Kd.R_alloc | apply Kd.R_drewN | apply Kd.R_drew)); exact HO_9.out⟩, ⟨by repeat (first | (with_reducible first | exact HB.out | apply below_alloc | apply pw_below_drewN | apply below_drew1) | exact HB.out)⟩⟩
                · rw [if_neg c12] at H
                  exact absurd H (by simp)
              · rw [if_neg c10] at H
                exact absurd H (by simp)
            · rw [if_neg c9] at H
              exact absurd H (by simp)
          · replace c8 := Bool.eq_false_iff.mpr c8
            subst c8
            have H1 : (some x9_1) = some r := by rw [if_neg (show ¬ (false = true) by decide)] at H; exact H
            clear H
            have H := H1
            clear H1
            obtain rfl := Option.some.inj H
            go_wp2
            go_ret
            exact ⟨_, by first | rfl | (simp [errW_none, errW_some] <;> rfl) | (simp [*, errW_none, errW_some] <;> rfl), by (with_reducible repeat (first | apply Kd.R_alloc | apply Kd.R_drewN | apply Kd.R_drew)); exact HO_9.out, by repeat (first | (with_reducible first | exact HB.out | apply below_alloc | apply pw_below_drewN | apply below_drew1) | exact HB.out)⟩

/-! ### seq_In: function 27 -/
def seq_In.f (a0 : Int) (a1 : Int) (a2 : Int) : Option (Bool) := some (decide (((a0 - a1) % 4294967296) < a2))
set_option maxHeartbeats 8000000 in
set_option maxRecDepth 100000 in
theorem seq_In.calls (a0 : Int) (a1 : Int) (a2 : Int) (r : Bool) (w : World) (h : seq_In.f a0 a1 a2 = some r) :
    Calls Try.prog 27 #[.int .u32 a0, .int .u32 a1, .int .i64 a2] w fun e w' => e = .returned (.bool r) ∧ Drawn0 w w' := by
  have H : (some (decide (((a0 - a1) % 4294967296) < a2))) = some r := h
  clear h
  obtain rfl := Option.some.inj H
  go_enter Try.func27, Try.ntmps27
  go_wp2
  go_ret
  exact ⟨by first | rfl | (simp; done) | (simp [*]; done), by repeat (first | exact Drawn0.refl _ | apply Drawn0.step)⟩

end Go.Proofs.Ytopjfkcoknenfaa.PSackChooses
