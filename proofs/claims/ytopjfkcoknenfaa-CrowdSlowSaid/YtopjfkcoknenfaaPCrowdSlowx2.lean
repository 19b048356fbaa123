/- CrowdSlow: what Ack comes to (the function's text, walked by the run on symbolic values). -/
import Derived.Test.YtopjfkcoknenfaaPCrowdSlowx1
import Derived.Test.YtopjfkcoknenfaaRx8
namespace Go.Proofs.Ytopjfkcoknenfaa.PCrowdSlow
open Go Go.Rx Go.RowKit Go.Proofs.YtopjfkcoknenfaaW.PrintWords Go.Proofs.YtopjfkcoknenfaaW.PrintLast Go.Proofs.YtopjfkcoknenfaaW.PrintMore Go.Proofs.Ytopjfkcoknenfaa
set_option linter.unusedVariables false
set_option linter.unusedSimpArgs false
mutual
def crowd_Ack.j0 : Nat → Int → Int → Int → Int → Bool → Int → Int → Int → Int → Bool → Int → Option (Int × Int × Int × Int × Bool × Int × Bool × Int)
  | 0, _, _, _, _, _, _, _, _, _, _, _ => none
  | k + 1, x1, x2, x3, x4, x32, x111000, x111001, x111002, x111003, x111004, x111005 => if x32 = true then (some (0, 0, 0, 0, false, 0, false, 3)) else (if x2 = 0 then (crowd_Ack.j1 k x1 x2 x3 x4 false x111004 x111000 x111001 x111002 x111003 x111004 x111005) else (crowd_Ack.j1 k x1 x2 x3 x4 false false x111000 x111001 x111002 x111003 x111004 x111005))
def crowd_Ack.j1 : Nat → Int → Int → Int → Int → Bool → Bool → Int → Int → Int → Int → Bool → Int → Option (Int × Int × Int × Int × Bool × Int × Bool × Int)
  | 0, _, _, _, _, _, _, _, _, _, _, _, _ => none
  | k + 1, x1, x2, x3, x4, x14, x64, x111000, x111001, x111002, x111003, x111004, x111005 => if x64 = true then (some (mn (wrap64 (x111000 + x1)) 65535, x111001, x111002, x111003, x111004, x111005, x14, 0)) else (if x2 = 0 then (if (wrap64 (x111003 + 1)) ≥ 3 then ((seq_Diff.f x4 x3).bind fun t114 => ((crowd_cut.f x1 t114).bind fun t115 => (some (mn (wrap64 (t115 + (wrap64 (3 * x1)))) 65535, t115, 0, 0, true, x4, true, 0)))) else (some (x111000, x111001, x111002, wrap64 (x111003 + 1), x111004, x111005, x14, 0))) else (if x111004 = true then ((seq_Less.f x3 x111005).bind fun t116 => (crowd_Ack.j2 k x1 x2 x14 t116 x111000 x111001 x111002 x111003 x111004 x111005)) else (crowd_Ack.j2 k x1 x2 x14 false x111000 x111001 x111002 x111003 x111004 x111005)))
def crowd_Ack.j2 : Nat → Int → Int → Bool → Bool → Int → Int → Int → Int → Bool → Int → Option (Int × Int × Int × Int × Bool × Int × Bool × Int)
  | 0, _, _, _, _, _, _, _, _, _, _ => none
  | k + 1, x1, x2, x14, x105, x111000, x111001, x111002, x111003, x111004, x111005 => if x105 = true then (some (mn (wrap64 ((mx (wrap64 (x111000 - x2)) 0) + x1)) 65535, x111001, x111002, x111003, x111004, x111005, true, 0)) else (if x111004 = true then (some (x111001, x111001, 0, 0, false, x111005, x14, 0)) else (if x111000 < x111001 then (some (mn (wrap64 (x111000 + (mn x2 x1))) 65535, x111001, x111002, 0, x111004, x111005, x14, 0)) else (if (wrap64 (x111002 + (mn x2 x111000))) ≥ x111000 then (some (mn (wrap64 (x111000 + x1)) 65535, x111001, mn (wrap64 ((wrap64 (x111002 + (mn x2 x111000))) - x111000)) 65535, 0, x111004, x111005, x14, 0)) else (some (x111000, x111001, mn (wrap64 (x111002 + (mn x2 x111000))) 65535, 0, x111004, x111005, x14, 0)))))
end
def crowd_Ack.f (k : Nat) (a0_0 : Int) (a0_1 : Int) (a0_2 : Int) (a0_3 : Int) (a0_4 : Bool) (a0_5 : Int) (a1 : Int) (a2 : Int) (a3 : Int) (a4 : Int) : Option (Int × Int × Int × Int × Bool × Int × Bool × Int) := (crowd_Check.f a0_0 a0_1 a0_2 a0_3 a0_4 a0_5 a1).bind fun t112 => (if t112 = 0 then (if a2 < 0 then (crowd_Ack.j0 k a1 a2 a3 a4 true a0_0 a0_1 a0_2 a0_3 a0_4 a0_5) else (if a2 > 2147483648 then (crowd_Ack.j0 k a1 a2 a3 a4 true a0_0 a0_1 a0_2 a0_3 a0_4 a0_5) else ((seq_Less.f a4 a3).bind fun t113 => (crowd_Ack.j0 k a1 a2 a3 a4 t113 a0_0 a0_1 a0_2 a0_3 a0_4 a0_5)))) else (some (0, 0, 0, 0, false, 0, false, t112)))
theorem crowd_Ack.mono_l : ∀ k, (∀ y0 y1 y2 y3 y4 y5 y6 y7 y8 y9 y10, LeO (crowd_Ack.j0 k y0 y1 y2 y3 y4 y5 y6 y7 y8 y9 y10) (crowd_Ack.j0 (k + 1) y0 y1 y2 y3 y4 y5 y6 y7 y8 y9 y10)) ∧ (∀ y0 y1 y2 y3 y4 y5 y6 y7 y8 y9 y10 y11, LeO (crowd_Ack.j1 k y0 y1 y2 y3 y4 y5 y6 y7 y8 y9 y10 y11) (crowd_Ack.j1 (k + 1) y0 y1 y2 y3 y4 y5 y6 y7 y8 y9 y10 y11)) ∧ (∀ y0 y1 y2 y3 y4 y5 y6 y7 y8 y9, LeO (crowd_Ack.j2 k y0 y1 y2 y3 y4 y5 y6 y7 y8 y9) (crowd_Ack.j2 (k + 1) y0 y1 y2 y3 y4 y5 y6 y7 y8 y9))
  | 0 => ⟨fun _ _ _ _ _ _ _ _ _ _ _ r h => by simp [crowd_Ack.j0] at h, fun _ _ _ _ _ _ _ _ _ _ _ _ r h => by simp [crowd_Ack.j1] at h, fun _ _ _ _ _ _ _ _ _ _ r h => by simp [crowd_Ack.j2] at h⟩
  | k + 1 => by
    obtain ⟨ih0, ih1, ih2⟩ := crowd_Ack.mono_l k
    refine ⟨?_, ?_, ?_⟩
    · intro y0 y1 y2 y3 y4 y5 y6 y7 y8 y9 y10
      unfold crowd_Ack.j0
      repeat' first
      | (with_reducible exact ih0 _ _ _ _ _ _ _ _ _ _ _)
      | (with_reducible exact ih1 _ _ _ _ _ _ _ _ _ _ _ _)
      | (with_reducible exact ih2 _ _ _ _ _ _ _ _ _ _)
      | (with_reducible exact LeO.refl _)
      | (with_reducible exact LeO.none _)
      | (with_reducible refine LeO.ite ?_ ?_)
      | (with_reducible refine LeO.bind ?_ (fun _ => ?_))
      | exact ih0 _ _ _ _ _ _ _ _ _ _ _
      | exact ih1 _ _ _ _ _ _ _ _ _ _ _ _
      | exact ih2 _ _ _ _ _ _ _ _ _ _
      | exact LeO.none _
      | refine LeO.ite ?_ ?_
      | refine LeO.bind ?_ (fun _ => ?_)
    · intro y0 y1 y2 y3 y4 y5 y6 y7 y8 y9 y10 y11
      unfold crowd_Ack.j1
      repeat' first
      | (with_reducible exact ih0 _ _ _ _ _ _ _ _ _ _ _)
      | (with_reducible exact ih1 _ _ _ _ _ _ _ _ _ _ _ _)
      | (with_reducible exact ih2 _ _ _ _ _ _ _ _ _ _)
      | (with_reducible exact LeO.refl _)
      | (with_reducible exact LeO.none _)
      | (with_reducible refine LeO.ite ?_ ?_)
      | (with_reducible refine LeO.bind ?_ (fun _ => ?_))
      | exact ih0 _ _ _ _ _ _ _ _ _ _ _
      | exact ih1 _ _ _ _ _ _ _ _ _ _ _ _
      | exact ih2 _ _ _ _ _ _ _ _ _ _
      | exact LeO.none _
      | refine LeO.ite ?_ ?_
      | refine LeO.bind ?_ (fun _ => ?_)
    · intro y0 y1 y2 y3 y4 y5 y6 y7 y8 y9
      unfold crowd_Ack.j2
      repeat' first
      | (with_reducible exact ih0 _ _ _ _ _ _ _ _ _ _ _)
      | (with_reducible exact ih1 _ _ _ _ _ _ _ _ _ _ _ _)
      | (with_reducible exact ih2 _ _ _ _ _ _ _ _ _ _)
      | (with_reducible exact LeO.refl _)
      | (with_reducible exact LeO.none _)
      | (with_reducible refine LeO.ite ?_ ?_)
      | (with_reducible refine LeO.bind ?_ (fun _ => ?_))
      | exact ih0 _ _ _ _ _ _ _ _ _ _ _
      | exact ih1 _ _ _ _ _ _ _ _ _ _ _ _
      | exact ih2 _ _ _ _ _ _ _ _ _ _
      | exact LeO.none _
      | refine LeO.ite ?_ ?_
      | refine LeO.bind ?_ (fun _ => ?_)
theorem crowd_Ack.mono : ∀ a0 a1 a2 a3 a4 a5 a6 a7 a8 a9 k, LeO (crowd_Ack.f k a0 a1 a2 a3 a4 a5 a6 a7 a8 a9) (crowd_Ack.f (k + 1) a0 a1 a2 a3 a4 a5 a6 a7 a8 a9) := by
  intro a0 a1 a2 a3 a4 a5 a6 a7 a8 a9 k
  obtain ⟨ih0, ih1, ih2⟩ := crowd_Ack.mono_l k
  unfold crowd_Ack.f
  repeat' first
      | (with_reducible exact ih0 _ _ _ _ _ _ _ _ _ _ _)
      | (with_reducible exact ih1 _ _ _ _ _ _ _ _ _ _ _ _)
      | (with_reducible exact ih2 _ _ _ _ _ _ _ _ _ _)
      | (with_reducible exact LeO.refl _)
      | (with_reducible exact LeO.none _)
      | (with_reducible refine LeO.ite ?_ ?_)
      | (with_reducible refine LeO.bind ?_ (fun _ => ?_))
      | exact ih0 _ _ _ _ _ _ _ _ _ _ _
      | exact ih1 _ _ _ _ _ _ _ _ _ _ _ _
      | exact ih2 _ _ _ _ _ _ _ _ _ _
      | exact LeO.none _
      | refine LeO.ite ?_ ?_
      | refine LeO.bind ?_ (fun _ => ?_)
theorem mn2_mn (a b : Int) : mn2 a b = mn a b := rfl
theorem mx2_mx (a b : Int) : mx2 a b = mx a b := rfl
def lessB (a b : Int) : Bool := decide (wrap64 (wrap32 ((a - b) % 4294967296)) < 0)
theorem less_eq (a b : Int) : seq_Less.f a b = some (lessB a b) := rfl
theorem less_get (a b : Int) : (seq_Less.f a b).getD false = lessB a b := rfl
def diffI (a b : Int) : Int := wrap64 (wrap32 ((a - b) % 4294967296))
theorem diff_eq (a b : Int) : seq_Diff.f a b = some (diffI a b) := rfl
theorem diff_get (a b : Int) : (seq_Diff.f a b).getD 0 = diffI a b := rfl
def cutI (m f : Int) : Int := mn (mx (wrap64 (Int.tdiv f 2)) (wrap64 (2 * m))) 65535
theorem cut_eq (a b : Int) : crowd_cut.f a b = some (cutI a b) := rfl
theorem cut_get (m a b : Int) : (crowd_cut.f m ((seq_Diff.f a b).getD 0)).getD 0 = cutI m (diffI a b) := rfl
/-- What Ack comes to; c: what Check says. -/
def ackG (W L C D : Int) (F : Bool) (R m n u x c : Int) : Int × Int × Int × Int × Bool × Int × Bool × Int :=
  if c = 0 then
    if n < 0 then (0, 0, 0, 0, false, 0, false, 3) else
    if n > 2147483648 then (0, 0, 0, 0, false, 0, false, 3) else
    if lessB x u = true then (0, 0, 0, 0, false, 0, false, 3) else
    if n = 0 then
      if F = true then (mn (wrap64 (W + m)) 65535, L, C, D, F, R, false, 0)
      else if wrap64 (D + 1) ≥ 3 then (mn (wrap64 (cutI m (diffI x u) + wrap64 (3 * m))) 65535, cutI m (diffI x u), 0, 0, true, x, true, 0)
      else (W, L, C, wrap64 (D + 1), F, R, false, 0)
    else if F = true then
      if lessB u R = true then (mn (wrap64 (mx (wrap64 (W - n)) 0 + m)) 65535, L, C, D, F, R, true, 0)
      else (L, L, 0, 0, false, R, false, 0)
    else if W < L then (mn (wrap64 (W + mn n m)) 65535, L, C, 0, F, R, false, 0)
    else if wrap64 (C + mn n W) ≥ W then (mn (wrap64 (W + m)) 65535, L, mn (wrap64 (wrap64 (C + mn n W) - W)) 65535, 0, F, R, false, 0)
    else (W, L, mn (wrap64 (C + mn n W)) 65535, 0, F, R, false, 0)
  else (0, 0, 0, 0, false, 0, false, c)
def ackV (r : Int × Int × Int × Int × Bool × Int × Bool × Int) : Value :=
  .tuple #[.agg #[.int .i64 r.1, .int .i64 r.2.1, .int .i64 r.2.2.1, .int .i64 r.2.2.2.1, .bool r.2.2.2.2.1, .int .u32 r.2.2.2.2.2.1], .bool r.2.2.2.2.2.2.1, .int .i64 r.2.2.2.2.2.2.2]
theorem ack_of {k : Nat} {W L C D : Int} {F : Bool} {R m n u x c : Int} {r : Int × Int × Int × Int × Bool × Int × Bool × Int} (hc : crowd_Check.f W L C D F R m = some c)
    (h : crowd_Ack.f k W L C D F R m n u x = some r) : r = ackG W L C D F R m n u x c := by
  unfold crowd_Ack.f at h
  rw [hc, Option.bind_some] at h
  unfold ackG
  by_cases h0 : c = 0
  · rw [if_pos h0] at h
    rw [if_pos h0]
    rcases k with _ | _ | _ | k <;> simp only [crowd_Ack.j0, crowd_Ack.j1, crowd_Ack.j2, less_eq, diff_eq, cut_eq, Option.bind_some] at h
    all_goals
      cases F <;> simp only [Bool.false_eq_true, if_false, if_true] at h ⊢
      all_goals
        repeat' split at h
        all_goals first | (cases h; done) | (obtain rfl := Option.some.inj h; simp only [GT.gt, GE.ge] at *; simp only [*, if_true, if_false]; done) | (obtain rfl := Option.some.inj h; simp_all; done) | (obtain rfl := Option.some.inj h; simp_all; repeat rw [if_neg (by omega)])
  · rw [if_neg h0] at h
    rw [if_neg h0]
    exact (Option.some.inj h).symm
theorem check_some (W L C D : Int) (F : Bool) (R m : Int) : ∃ c, crowd_Check.f W L C D F R m = some c := by
  have hin : ∀ a b d : Int, ∃ r, crowd_in.f a b d = some r := fun a b d => by unfold crowd_in.f; split <;> exact ⟨_, rfl⟩
  unfold crowd_Check.f
  obtain ⟨r1, e1⟩ := hin m 1 1500
  obtain ⟨r2, e2⟩ := hin W m 65535
  obtain ⟨r3, e3⟩ := hin L (wrap64 (2 * m)) 65535
  obtain ⟨r4, e4⟩ := hin C 0 65535
  obtain ⟨r5, e5⟩ := hin D 0 3
  simp only [e1, e2, e3, e4, e5, Option.bind_some]
  repeat' split
  all_goals exact ⟨_, rfl⟩
set_option maxRecDepth 100000
noncomputable def tab : Tab := [
  (3, { size := 1, zero := .int .i64 0, agg := false, kind := some .i64, cls := 5 }),
  (4, { size := 1, zero := .bool false, agg := false, cls := 1 }),
  (24, { size := 1, zero := .int .u32 0, agg := false, kind := some .u32, cls := 5 }),
  (26, { size := 6, zero := .agg #[.int .i64 0, .int .i64 0, .int .i64 0, .int .i64 0, .bool false, .int .u32 0], agg := true, flds := [(0, 1), (1, 1), (2, 1), (3, 1), (4, 1), (5, 1)], cls := 6 }),
  (27, { size := 1, zero := .int .i64 0, agg := false, kind := some .i64, cls := 5 })]
theorem tab_fits : tab.fits Try.prog := ⟨
  ⟨by kernel_rfl, by kernel_rfl, by kernel_rfl, by kernel_rfl, by kernel_rfl, by kernel_rfl⟩,
  ⟨by kernel_rfl, by kernel_rfl, by kernel_rfl, by kernel_rfl, by kernel_rfl, by kernel_rfl⟩,
  ⟨by kernel_rfl, by kernel_rfl, by kernel_rfl, by kernel_rfl, by kernel_rfl, by kernel_rfl⟩,
  ⟨by kernel_rfl, by kernel_rfl, by kernel_rfl, by kernel_rfl, by kernel_rfl, by kernel_rfl⟩,
  ⟨by kernel_rfl, by kernel_rfl, by kernel_rfl, by kernel_rfl, by kernel_rfl, by kernel_rfl⟩, trivial⟩

noncomputable def sp : Rx.Spec := fun f args =>
  match f, args with
  | 14, [.agg ⟨[.int .i64 a0, .int .i64 a1, .int .i64 a2, .int .i64 a3, .bool a4, .int .u32 a5]⟩, .int .i64 m] => some (.int .i64 ((crowd_Check.f a0 a1 a2 a3 a4 a5 m).getD 0))
  | 23, [.int .u32 a, .int .u32 b] => some (.bool ((seq_Less.f a b).getD false))
  | 24, [.int .i64 a, .int .i64 b] => some (.int .i64 ((crowd_cut.f a b).getD 0))
  | 25, [.int .u32 a, .int .u32 b] => some (.int .i64 ((seq_Diff.f a b).getD 0))
  | _, _ => none
theorem below_drawn {w w' : World} (h : Drawn0 w w') : Below w.heap.size w w' := by
  obtain ⟨n, rfl⟩ := h
  exact ⟨rfl, rfl, rfl, Nat.le_refl _, fun _ _ => rfl⟩
theorem sp_ok : SpecOk Try.prog sp := by
  intro f args r h
  unfold sp at h
  split at h <;> simp only [Option.some.injEq, reduceCtorEq] at h <;> subst h
  · rename_i a0 a1 a2 a3 a4 a5 m
    obtain ⟨c, hc⟩ := check_some a0 a1 a2 a3 a4 a5 m
    rw [hc, Option.getD_some]
    exact ⟨by kernel_rfl, fun w => crowd_Check.calls a0 a1 a2 a3 a4 a5 m c w hc⟩
  · rename_i a b
    exact ⟨by kernel_rfl, fun w => (seq_Less.calls a b _ w (less_eq a b)).mono fun e w' h => ⟨h.1, below_drawn h.2⟩⟩
  · rename_i a b
    exact ⟨by kernel_rfl, fun w => crowd_cut.calls a b _ w (cut_eq a b)⟩
  · rename_i a b
    exact ⟨by kernel_rfl, fun w => (seq_Diff.calls a b _ w (diff_eq a b)).mono fun e w' h => ⟨h.1, below_drawn h.2⟩⟩
theorem wide : Try.prog.follows .mixedOrders = true := by kernel_rfl
theorem ackG_calls (W L C D : Int) (F : Bool) (R m n u x c : Int) (hc : crowd_Check.f W L C D F R m = some c) (w : World) :
    Calls Try.prog 12 #[.agg #[.int .i64 W, .int .i64 L, .int .i64 C, .int .i64 D, .bool F, .int .u32 R], .int .i64 m, .int .i64 n, .int .u32 u, .int .u32 x] w fun e w' => e = .returned (ackV (ackG W L C D F R m n u x c)) ∧ Below w.heap.size w w' := by
  rcases Bool.eq_false_or_eq_true ((crowd_Check.f W L C D F R m).getD 0 != 0) with h0 | h0
  · -- h0 true
    refine (Calls.path tab_fits sp_ok wide Try.func12 rfl (args := [.l (.v (.agg #[.int .i64 W, .int .i64 L, .int .i64 C, .int .i64 D, .bool F, .int .u32 R])), vInt .i64 m, vInt .i64 n, vInt .u32 u, vInt .u32 x]) (vals := [.agg #[.int .i64 W, .int .i64 L, .int .i64 C, .int .i64 D, .bool F, .int .u32 R], .int .i64 m, .int .i64 n, .int .u32 u, .int .u32 x]) 400 [true] (A := (((crowd_Check.f W L C D F R m).getD 0 != 0) = true) ∧ True) (vs := [Value.agg { toList := [Value.int Go.IntKind.i64 (0), Value.int Go.IntKind.i64 (0), Value.int Go.IntKind.i64 (0), Value.int Go.IntKind.i64 (0), Value.bool false, Value.int Go.IntKind.u32 (0)] }, Value.bool false, Value.int Go.IntKind.i64 ((crowd_Check.f W L C D F R m).getD 0)]) rfl (Nat.le_of_ble_eq_true (by kernel_rfl)) ⟨h0, trivial⟩ (by kernel_rfl) (by kernel_rfl) (by kernel_rfl) w).mono fun e w' hq => ⟨hq.1.trans (congrArg Ending.returned ?_), hq.2⟩
    try simp only [hc, Option.getD_some, bne_iff_ne, ne_eq, beq_iff_eq, decide_eq_true_eq, decide_eq_false_iff_not, beq_eq_false_iff_ne, bne_eq_false_iff_eq, less_get, i64_w, mn2_mn] at h0
    simp [ackV, ackG, hc, oneOf, mn2_mn, mx2_mx, i64_w, cut_get, h0]
  · -- h0 false
    rcases Bool.eq_false_or_eq_true (decide (n < 0)) with h1 | h1
    · -- h1 true
      refine (Calls.path tab_fits sp_ok wide Try.func12 rfl (args := [.l (.v (.agg #[.int .i64 W, .int .i64 L, .int .i64 C, .int .i64 D, .bool F, .int .u32 R])), vInt .i64 m, vInt .i64 n, vInt .u32 u, vInt .u32 x]) (vals := [.agg #[.int .i64 W, .int .i64 L, .int .i64 C, .int .i64 D, .bool F, .int .u32 R], .int .i64 m, .int .i64 n, .int .u32 u, .int .u32 x]) 400 [false, true, true, true] (A := (((crowd_Check.f W L C D F R m).getD 0 != 0) = false) ∧ ((decide (n < 0)) = true) ∧ (true = true) ∧ (true = true) ∧ True) (vs := [Value.agg { toList := [Value.int Go.IntKind.i64 (0), Value.int Go.IntKind.i64 (0), Value.int Go.IntKind.i64 (0), Value.int Go.IntKind.i64 (0), Value.bool false, Value.int Go.IntKind.u32 (0)] }, Value.bool false, Value.int Go.IntKind.i64 (3)]) rfl (Nat.le_of_ble_eq_true (by kernel_rfl)) ⟨h0, h1, rfl, rfl, trivial⟩ (by kernel_rfl) (by kernel_rfl) (by kernel_rfl) w).mono fun e w' hq => ⟨hq.1.trans (congrArg Ending.returned ?_), hq.2⟩
      try simp only [hc, Option.getD_some, bne_iff_ne, ne_eq, beq_iff_eq, decide_eq_true_eq, decide_eq_false_iff_not, beq_eq_false_iff_ne, bne_eq_false_iff_eq, less_get, i64_w, mn2_mn] at h0
      try simp only [hc, Option.getD_some, bne_iff_ne, ne_eq, beq_iff_eq, decide_eq_true_eq, decide_eq_false_iff_not, beq_eq_false_iff_ne, bne_eq_false_iff_eq, less_get, i64_w, mn2_mn] at h1
      simp [ackV, ackG, hc, oneOf, mn2_mn, mx2_mx, i64_w, cut_get, h0, h1]
    · -- h1 false
      rcases Bool.eq_false_or_eq_true (decide (n > 2147483648)) with h2 | h2
      · -- h2 true
        refine (Calls.path tab_fits sp_ok wide Try.func12 rfl (args := [.l (.v (.agg #[.int .i64 W, .int .i64 L, .int .i64 C, .int .i64 D, .bool F, .int .u32 R])), vInt .i64 m, vInt .i64 n, vInt .u32 u, vInt .u32 x]) (vals := [.agg #[.int .i64 W, .int .i64 L, .int .i64 C, .int .i64 D, .bool F, .int .u32 R], .int .i64 m, .int .i64 n, .int .u32 u, .int .u32 x]) 400 [false, false, true, true] (A := (((crowd_Check.f W L C D F R m).getD 0 != 0) = false) ∧ ((decide (n < 0)) = false) ∧ ((decide (n > 2147483648)) = true) ∧ (true = true) ∧ True) (vs := [Value.agg { toList := [Value.int Go.IntKind.i64 (0), Value.int Go.IntKind.i64 (0), Value.int Go.IntKind.i64 (0), Value.int Go.IntKind.i64 (0), Value.bool false, Value.int Go.IntKind.u32 (0)] }, Value.bool false, Value.int Go.IntKind.i64 (3)]) rfl (Nat.le_of_ble_eq_true (by kernel_rfl)) ⟨h0, h1, h2, rfl, trivial⟩ (by kernel_rfl) (by kernel_rfl) (by kernel_rfl) w).mono fun e w' hq => ⟨hq.1.trans (congrArg Ending.returned ?_), hq.2⟩
        try simp only [hc, Option.getD_some, bne_iff_ne, ne_eq, beq_iff_eq, decide_eq_true_eq, decide_eq_false_iff_not, beq_eq_false_iff_ne, bne_eq_false_iff_eq, less_get, i64_w, mn2_mn] at h0
        try simp only [hc, Option.getD_some, bne_iff_ne, ne_eq, beq_iff_eq, decide_eq_true_eq, decide_eq_false_iff_not, beq_eq_false_iff_ne, bne_eq_false_iff_eq, less_get, i64_w, mn2_mn] at h1
        try simp only [hc, Option.getD_some, bne_iff_ne, ne_eq, beq_iff_eq, decide_eq_true_eq, decide_eq_false_iff_not, beq_eq_false_iff_ne, bne_eq_false_iff_eq, less_get, i64_w, mn2_mn] at h2
        simp [ackV, ackG, hc, oneOf, mn2_mn, mx2_mx, i64_w, cut_get, h0, h1, h2]
      · -- h2 false
        rcases Bool.eq_false_or_eq_true ((seq_Less.f x u).getD false) with h3 | h3
        · -- h3 true
          refine (Calls.path tab_fits sp_ok wide Try.func12 rfl (args := [.l (.v (.agg #[.int .i64 W, .int .i64 L, .int .i64 C, .int .i64 D, .bool F, .int .u32 R])), vInt .i64 m, vInt .i64 n, vInt .u32 u, vInt .u32 x]) (vals := [.agg #[.int .i64 W, .int .i64 L, .int .i64 C, .int .i64 D, .bool F, .int .u32 R], .int .i64 m, .int .i64 n, .int .u32 u, .int .u32 x]) 400 [false, false, false, true] (A := (((crowd_Check.f W L C D F R m).getD 0 != 0) = false) ∧ ((decide (n < 0)) = false) ∧ ((decide (n > 2147483648)) = false) ∧ (((seq_Less.f x u).getD false) = true) ∧ True) (vs := [Value.agg { toList := [Value.int Go.IntKind.i64 (0), Value.int Go.IntKind.i64 (0), Value.int Go.IntKind.i64 (0), Value.int Go.IntKind.i64 (0), Value.bool false, Value.int Go.IntKind.u32 (0)] }, Value.bool false, Value.int Go.IntKind.i64 (3)]) rfl (Nat.le_of_ble_eq_true (by kernel_rfl)) ⟨h0, h1, h2, h3, trivial⟩ (by kernel_rfl) (by kernel_rfl) (by kernel_rfl) w).mono fun e w' hq => ⟨hq.1.trans (congrArg Ending.returned ?_), hq.2⟩
          try simp only [hc, Option.getD_some, bne_iff_ne, ne_eq, beq_iff_eq, decide_eq_true_eq, decide_eq_false_iff_not, beq_eq_false_iff_ne, bne_eq_false_iff_eq, less_get, i64_w, mn2_mn] at h0
          try simp only [hc, Option.getD_some, bne_iff_ne, ne_eq, beq_iff_eq, decide_eq_true_eq, decide_eq_false_iff_not, beq_eq_false_iff_ne, bne_eq_false_iff_eq, less_get, i64_w, mn2_mn] at h1
          try simp only [hc, Option.getD_some, bne_iff_ne, ne_eq, beq_iff_eq, decide_eq_true_eq, decide_eq_false_iff_not, beq_eq_false_iff_ne, bne_eq_false_iff_eq, less_get, i64_w, mn2_mn] at h2
          try simp only [hc, Option.getD_some, bne_iff_ne, ne_eq, beq_iff_eq, decide_eq_true_eq, decide_eq_false_iff_not, beq_eq_false_iff_ne, bne_eq_false_iff_eq, less_get, i64_w, mn2_mn] at h3
          simp [ackV, ackG, hc, oneOf, mn2_mn, mx2_mx, i64_w, cut_get, h0, h1, h2, h3]
        · -- h3 false
          rcases Bool.eq_false_or_eq_true (n == 0) with h4 | h4
          · -- h4 true
            rcases Bool.eq_false_or_eq_true (F) with h5 | h5
            · -- h5 true
              refine (Calls.path tab_fits sp_ok wide Try.func12 rfl (args := [.l (.v (.agg #[.int .i64 W, .int .i64 L, .int .i64 C, .int .i64 D, .bool F, .int .u32 R])), vInt .i64 m, vInt .i64 n, vInt .u32 u, vInt .u32 x]) (vals := [.agg #[.int .i64 W, .int .i64 L, .int .i64 C, .int .i64 D, .bool F, .int .u32 R], .int .i64 m, .int .i64 n, .int .u32 u, .int .u32 x]) 400 [false, false, false, false, true, true] (A := (((crowd_Check.f W L C D F R m).getD 0 != 0) = false) ∧ ((decide (n < 0)) = false) ∧ ((decide (n > 2147483648)) = false) ∧ (((seq_Less.f x u).getD false) = false) ∧ ((n == 0) = true) ∧ ((F) = true) ∧ True) (vs := [Value.agg { toList := [Value.int Go.IntKind.i64 (mn2 (Go.IntKind.i64.wrap (W + m)) 65535), Value.int Go.IntKind.i64 L, Value.int Go.IntKind.i64 C, Value.int Go.IntKind.i64 D, Value.bool F, Value.int Go.IntKind.u32 R] }, Value.bool false, Value.int Go.IntKind.i64 (0)]) rfl (Nat.le_of_ble_eq_true (by kernel_rfl)) ⟨h0, h1, h2, h3, h4, h5, trivial⟩ (by kernel_rfl) (by kernel_rfl) (by kernel_rfl) w).mono fun e w' hq => ⟨hq.1.trans (congrArg Ending.returned ?_), hq.2⟩
              try simp only [hc, Option.getD_some, bne_iff_ne, ne_eq, beq_iff_eq, decide_eq_true_eq, decide_eq_false_iff_not, beq_eq_false_iff_ne, bne_eq_false_iff_eq, less_get, i64_w, mn2_mn] at h0
              try simp only [hc, Option.getD_some, bne_iff_ne, ne_eq, beq_iff_eq, decide_eq_true_eq, decide_eq_false_iff_not, beq_eq_false_iff_ne, bne_eq_false_iff_eq, less_get, i64_w, mn2_mn] at h1
              try simp only [hc, Option.getD_some, bne_iff_ne, ne_eq, beq_iff_eq, decide_eq_true_eq, decide_eq_false_iff_not, beq_eq_false_iff_ne, bne_eq_false_iff_eq, less_get, i64_w, mn2_mn] at h2
              try simp only [hc, Option.getD_some, bne_iff_ne, ne_eq, beq_iff_eq, decide_eq_true_eq, decide_eq_false_iff_not, beq_eq_false_iff_ne, bne_eq_false_iff_eq, less_get, i64_w, mn2_mn] at h3
              try simp only [hc, Option.getD_some, bne_iff_ne, ne_eq, beq_iff_eq, decide_eq_true_eq, decide_eq_false_iff_not, beq_eq_false_iff_ne, bne_eq_false_iff_eq, less_get, i64_w, mn2_mn] at h4
              try simp only [hc, Option.getD_some, bne_iff_ne, ne_eq, beq_iff_eq, decide_eq_true_eq, decide_eq_false_iff_not, beq_eq_false_iff_ne, bne_eq_false_iff_eq, less_get, i64_w, mn2_mn] at h5
              simp [ackV, ackG, hc, oneOf, mn2_mn, mx2_mx, i64_w, cut_get, h0, h1, h2, h3, h4, h5]
            · -- h5 false
              rcases Bool.eq_false_or_eq_true (decide (Go.IntKind.i64.wrap (D + 1) ≥ 3)) with h6 | h6
              · -- h6 true
                refine (Calls.path tab_fits sp_ok wide Try.func12 rfl (args := [.l (.v (.agg #[.int .i64 W, .int .i64 L, .int .i64 C, .int .i64 D, .bool F, .int .u32 R])), vInt .i64 m, vInt .i64 n, vInt .u32 u, vInt .u32 x]) (vals := [.agg #[.int .i64 W, .int .i64 L, .int .i64 C, .int .i64 D, .bool F, .int .u32 R], .int .i64 m, .int .i64 n, .int .u32 u, .int .u32 x]) 400 [false, false, false, false, true, false, true, true] (A := (((crowd_Check.f W L C D F R m).getD 0 != 0) = false) ∧ ((decide (n < 0)) = false) ∧ ((decide (n > 2147483648)) = false) ∧ (((seq_Less.f x u).getD false) = false) ∧ ((n == 0) = true) ∧ ((F) = false) ∧ ((n == 0) = true) ∧ ((decide (Go.IntKind.i64.wrap (D + 1) ≥ 3)) = true) ∧ True) (vs := [Value.agg { toList := [Value.int Go.IntKind.i64 (mn2 (Go.IntKind.i64.wrap ((crowd_cut.f m ((seq_Diff.f x u).getD 0)).getD 0 + Go.IntKind.i64.wrap (3 * m))) 65535), Value.int Go.IntKind.i64 ((crowd_cut.f m ((seq_Diff.f x u).getD 0)).getD 0), Value.int Go.IntKind.i64 (0), Value.int Go.IntKind.i64 (0), Value.bool true, Value.int Go.IntKind.u32 x] }, Value.bool true, Value.int Go.IntKind.i64 (0)]) rfl (Nat.le_of_ble_eq_true (by kernel_rfl)) ⟨h0, h1, h2, h3, h4, h5, h4, h6, trivial⟩ (by kernel_rfl) (by kernel_rfl) (by kernel_rfl) w).mono fun e w' hq => ⟨hq.1.trans (congrArg Ending.returned ?_), hq.2⟩
                try simp only [hc, Option.getD_some, bne_iff_ne, ne_eq, beq_iff_eq, decide_eq_true_eq, decide_eq_false_iff_not, beq_eq_false_iff_ne, bne_eq_false_iff_eq, less_get, i64_w, mn2_mn] at h0
                try simp only [hc, Option.getD_some, bne_iff_ne, ne_eq, beq_iff_eq, decide_eq_true_eq, decide_eq_false_iff_not, beq_eq_false_iff_ne, bne_eq_false_iff_eq, less_get, i64_w, mn2_mn] at h1
                try simp only [hc, Option.getD_some, bne_iff_ne, ne_eq, beq_iff_eq, decide_eq_true_eq, decide_eq_false_iff_not, beq_eq_false_iff_ne, bne_eq_false_iff_eq, less_get, i64_w, mn2_mn] at h2
                try simp only [hc, Option.getD_some, bne_iff_ne, ne_eq, beq_iff_eq, decide_eq_true_eq, decide_eq_false_iff_not, beq_eq_false_iff_ne, bne_eq_false_iff_eq, less_get, i64_w, mn2_mn] at h3
                try simp only [hc, Option.getD_some, bne_iff_ne, ne_eq, beq_iff_eq, decide_eq_true_eq, decide_eq_false_iff_not, beq_eq_false_iff_ne, bne_eq_false_iff_eq, less_get, i64_w, mn2_mn] at h4
                try simp only [hc, Option.getD_some, bne_iff_ne, ne_eq, beq_iff_eq, decide_eq_true_eq, decide_eq_false_iff_not, beq_eq_false_iff_ne, bne_eq_false_iff_eq, less_get, i64_w, mn2_mn] at h5
                try simp only [hc, Option.getD_some, bne_iff_ne, ne_eq, beq_iff_eq, decide_eq_true_eq, decide_eq_false_iff_not, beq_eq_false_iff_ne, bne_eq_false_iff_eq, less_get, i64_w, mn2_mn] at h6
                simp [ackV, ackG, hc, oneOf, mn2_mn, mx2_mx, i64_w, cut_get, h0, h1, h2, h3, h4, h5, h6]
              · -- h6 false
                refine (Calls.path tab_fits sp_ok wide Try.func12 rfl (args := [.l (.v (.agg #[.int .i64 W, .int .i64 L, .int .i64 C, .int .i64 D, .bool F, .int .u32 R])), vInt .i64 m, vInt .i64 n, vInt .u32 u, vInt .u32 x]) (vals := [.agg #[.int .i64 W, .int .i64 L, .int .i64 C, .int .i64 D, .bool F, .int .u32 R], .int .i64 m, .int .i64 n, .int .u32 u, .int .u32 x]) 400 [false, false, false, false, true, false, true, false] (A := (((crowd_Check.f W L C D F R m).getD 0 != 0) = false) ∧ ((decide (n < 0)) = false) ∧ ((decide (n > 2147483648)) = false) ∧ (((seq_Less.f x u).getD false) = false) ∧ ((n == 0) = true) ∧ ((F) = false) ∧ ((n == 0) = true) ∧ ((decide (Go.IntKind.i64.wrap (D + 1) ≥ 3)) = false) ∧ True) (vs := [Value.agg { toList := [Value.int Go.IntKind.i64 W, Value.int Go.IntKind.i64 L, Value.int Go.IntKind.i64 C, Value.int Go.IntKind.i64 (Go.IntKind.i64.wrap (D + 1)), Value.bool F, Value.int Go.IntKind.u32 R] }, Value.bool false, Value.int Go.IntKind.i64 (0)]) rfl (Nat.le_of_ble_eq_true (by kernel_rfl)) ⟨h0, h1, h2, h3, h4, h5, h4, h6, trivial⟩ (by kernel_rfl) (by kernel_rfl) (by kernel_rfl) w).mono fun e w' hq => ⟨hq.1.trans (congrArg Ending.returned ?_), hq.2⟩
                try simp only [hc, Option.getD_some, bne_iff_ne, ne_eq, beq_iff_eq, decide_eq_true_eq, decide_eq_false_iff_not, beq_eq_false_iff_ne, bne_eq_false_iff_eq, less_get, i64_w, mn2_mn] at h0
                try simp only [hc, Option.getD_some, bne_iff_ne, ne_eq, beq_iff_eq, decide_eq_true_eq, decide_eq_false_iff_not, beq_eq_false_iff_ne, bne_eq_false_iff_eq, less_get, i64_w, mn2_mn] at h1
                try simp only [hc, Option.getD_some, bne_iff_ne, ne_eq, beq_iff_eq, decide_eq_true_eq, decide_eq_false_iff_not, beq_eq_false_iff_ne, bne_eq_false_iff_eq, less_get, i64_w, mn2_mn] at h2
                try simp only [hc, Option.getD_some, bne_iff_ne, ne_eq, beq_iff_eq, decide_eq_true_eq, decide_eq_false_iff_not, beq_eq_false_iff_ne, bne_eq_false_iff_eq, less_get, i64_w, mn2_mn] at h3
                try simp only [hc, Option.getD_some, bne_iff_ne, ne_eq, beq_iff_eq, decide_eq_true_eq, decide_eq_false_iff_not, beq_eq_false_iff_ne, bne_eq_false_iff_eq, less_get, i64_w, mn2_mn] at h4
                try simp only [hc, Option.getD_some, bne_iff_ne, ne_eq, beq_iff_eq, decide_eq_true_eq, decide_eq_false_iff_not, beq_eq_false_iff_ne, bne_eq_false_iff_eq, less_get, i64_w, mn2_mn] at h5
                try simp only [hc, Option.getD_some, bne_iff_ne, ne_eq, beq_iff_eq, decide_eq_true_eq, decide_eq_false_iff_not, beq_eq_false_iff_ne, bne_eq_false_iff_eq, less_get, i64_w, mn2_mn] at h6
                simp [ackV, ackG, hc, oneOf, mn2_mn, mx2_mx, i64_w, cut_get, h0, h1, h2, h3, h4, h5, h6]
          · -- h4 false
            rcases Bool.eq_false_or_eq_true (F) with h5 | h5
            · -- h5 true
              rcases Bool.eq_false_or_eq_true ((seq_Less.f u R).getD false) with h6 | h6
              · -- h6 true
                refine (Calls.path tab_fits sp_ok wide Try.func12 rfl (args := [.l (.v (.agg #[.int .i64 W, .int .i64 L, .int .i64 C, .int .i64 D, .bool F, .int .u32 R])), vInt .i64 m, vInt .i64 n, vInt .u32 u, vInt .u32 x]) (vals := [.agg #[.int .i64 W, .int .i64 L, .int .i64 C, .int .i64 D, .bool F, .int .u32 R], .int .i64 m, .int .i64 n, .int .u32 u, .int .u32 x]) 400 [false, false, false, false, false, false, false, true, true] (A := (((crowd_Check.f W L C D F R m).getD 0 != 0) = false) ∧ ((decide (n < 0)) = false) ∧ ((decide (n > 2147483648)) = false) ∧ (((seq_Less.f x u).getD false) = false) ∧ ((n == 0) = false) ∧ (false = false) ∧ ((n == 0) = false) ∧ ((F) = true) ∧ (((seq_Less.f u R).getD false) = true) ∧ True) (vs := [Value.agg { toList := [Value.int Go.IntKind.i64 (mn2 (Go.IntKind.i64.wrap (mx2 (Go.IntKind.i64.wrap (W - n)) 0 + m)) 65535), Value.int Go.IntKind.i64 L, Value.int Go.IntKind.i64 C, Value.int Go.IntKind.i64 D, Value.bool F, Value.int Go.IntKind.u32 R] }, Value.bool true, Value.int Go.IntKind.i64 (0)]) rfl (Nat.le_of_ble_eq_true (by kernel_rfl)) ⟨h0, h1, h2, h3, h4, rfl, h4, h5, h6, trivial⟩ (by kernel_rfl) (by kernel_rfl) (by kernel_rfl) w).mono fun e w' hq => ⟨hq.1.trans (congrArg Ending.returned ?_), hq.2⟩
                try simp only [hc, Option.getD_some, bne_iff_ne, ne_eq, beq_iff_eq, decide_eq_true_eq, decide_eq_false_iff_not, beq_eq_false_iff_ne, bne_eq_false_iff_eq, less_get, i64_w, mn2_mn] at h0
                try simp only [hc, Option.getD_some, bne_iff_ne, ne_eq, beq_iff_eq, decide_eq_true_eq, decide_eq_false_iff_not, beq_eq_false_iff_ne, bne_eq_false_iff_eq, less_get, i64_w, mn2_mn] at h1
                try simp only [hc, Option.getD_some, bne_iff_ne, ne_eq, beq_iff_eq, decide_eq_true_eq, decide_eq_false_iff_not, beq_eq_false_iff_ne, bne_eq_false_iff_eq, less_get, i64_w, mn2_mn] at h2
                try simp only [hc, Option.getD_some, bne_iff_ne, ne_eq, beq_iff_eq, decide_eq_true_eq, decide_eq_false_iff_not, beq_eq_false_iff_ne, bne_eq_false_iff_eq, less_get, i64_w, mn2_mn] at h3
                try simp only [hc, Option.getD_some, bne_iff_ne, ne_eq, beq_iff_eq, decide_eq_true_eq, decide_eq_false_iff_not, beq_eq_false_iff_ne, bne_eq_false_iff_eq, less_get, i64_w, mn2_mn] at h4
                try simp only [hc, Option.getD_some, bne_iff_ne, ne_eq, beq_iff_eq, decide_eq_true_eq, decide_eq_false_iff_not, beq_eq_false_iff_ne, bne_eq_false_iff_eq, less_get, i64_w, mn2_mn] at h5
                try simp only [hc, Option.getD_some, bne_iff_ne, ne_eq, beq_iff_eq, decide_eq_true_eq, decide_eq_false_iff_not, beq_eq_false_iff_ne, bne_eq_false_iff_eq, less_get, i64_w, mn2_mn] at h6
                simp [ackV, ackG, hc, oneOf, mn2_mn, mx2_mx, i64_w, cut_get, h0, h1, h2, h3, h4, h5, h6]
              · -- h6 false
                refine (Calls.path tab_fits sp_ok wide Try.func12 rfl (args := [.l (.v (.agg #[.int .i64 W, .int .i64 L, .int .i64 C, .int .i64 D, .bool F, .int .u32 R])), vInt .i64 m, vInt .i64 n, vInt .u32 u, vInt .u32 x]) (vals := [.agg #[.int .i64 W, .int .i64 L, .int .i64 C, .int .i64 D, .bool F, .int .u32 R], .int .i64 m, .int .i64 n, .int .u32 u, .int .u32 x]) 400 [false, false, false, false, false, false, false, true, false, true] (A := (((crowd_Check.f W L C D F R m).getD 0 != 0) = false) ∧ ((decide (n < 0)) = false) ∧ ((decide (n > 2147483648)) = false) ∧ (((seq_Less.f x u).getD false) = false) ∧ ((n == 0) = false) ∧ (false = false) ∧ ((n == 0) = false) ∧ ((F) = true) ∧ (((seq_Less.f u R).getD false) = false) ∧ ((F) = true) ∧ True) (vs := [Value.agg { toList := [Value.int Go.IntKind.i64 L, Value.int Go.IntKind.i64 L, Value.int Go.IntKind.i64 (0), Value.int Go.IntKind.i64 (0), Value.bool false, Value.int Go.IntKind.u32 R] }, Value.bool false, Value.int Go.IntKind.i64 (0)]) rfl (Nat.le_of_ble_eq_true (by kernel_rfl)) ⟨h0, h1, h2, h3, h4, rfl, h4, h5, h6, h5, trivial⟩ (by kernel_rfl) (by kernel_rfl) (by kernel_rfl) w).mono fun e w' hq => ⟨hq.1.trans (congrArg Ending.returned ?_), hq.2⟩
                try simp only [hc, Option.getD_some, bne_iff_ne, ne_eq, beq_iff_eq, decide_eq_true_eq, decide_eq_false_iff_not, beq_eq_false_iff_ne, bne_eq_false_iff_eq, less_get, i64_w, mn2_mn] at h0
                try simp only [hc, Option.getD_some, bne_iff_ne, ne_eq, beq_iff_eq, decide_eq_true_eq, decide_eq_false_iff_not, beq_eq_false_iff_ne, bne_eq_false_iff_eq, less_get, i64_w, mn2_mn] at h1
                try simp only [hc, Option.getD_some, bne_iff_ne, ne_eq, beq_iff_eq, decide_eq_true_eq, decide_eq_false_iff_not, beq_eq_false_iff_ne, bne_eq_false_iff_eq, less_get, i64_w, mn2_mn] at h2
                try simp only [hc, Option.getD_some, bne_iff_ne, ne_eq, beq_iff_eq, decide_eq_true_eq, decide_eq_false_iff_not, beq_eq_false_iff_ne, bne_eq_false_iff_eq, less_get, i64_w, mn2_mn] at h3
                try simp only [hc, Option.getD_some, bne_iff_ne, ne_eq, beq_iff_eq, decide_eq_true_eq, decide_eq_false_iff_not, beq_eq_false_iff_ne, bne_eq_false_iff_eq, less_get, i64_w, mn2_mn] at h4
                try simp only [hc, Option.getD_some, bne_iff_ne, ne_eq, beq_iff_eq, decide_eq_true_eq, decide_eq_false_iff_not, beq_eq_false_iff_ne, bne_eq_false_iff_eq, less_get, i64_w, mn2_mn] at h5
                try simp only [hc, Option.getD_some, bne_iff_ne, ne_eq, beq_iff_eq, decide_eq_true_eq, decide_eq_false_iff_not, beq_eq_false_iff_ne, bne_eq_false_iff_eq, less_get, i64_w, mn2_mn] at h6
                simp [ackV, ackG, hc, oneOf, mn2_mn, mx2_mx, i64_w, cut_get, h0, h1, h2, h3, h4, h5, h6]
            · -- h5 false
              rcases Bool.eq_false_or_eq_true (decide (W < L)) with h6 | h6
              · -- h6 true
                refine (Calls.path tab_fits sp_ok wide Try.func12 rfl (args := [.l (.v (.agg #[.int .i64 W, .int .i64 L, .int .i64 C, .int .i64 D, .bool F, .int .u32 R])), vInt .i64 m, vInt .i64 n, vInt .u32 u, vInt .u32 x]) (vals := [.agg #[.int .i64 W, .int .i64 L, .int .i64 C, .int .i64 D, .bool F, .int .u32 R], .int .i64 m, .int .i64 n, .int .u32 u, .int .u32 x]) 400 [false, false, false, false, false, false, false, false, false, false, true] (A := (((crowd_Check.f W L C D F R m).getD 0 != 0) = false) ∧ ((decide (n < 0)) = false) ∧ ((decide (n > 2147483648)) = false) ∧ (((seq_Less.f x u).getD false) = false) ∧ ((n == 0) = false) ∧ (false = false) ∧ ((n == 0) = false) ∧ ((F) = false) ∧ (false = false) ∧ ((F) = false) ∧ ((decide (W < L)) = true) ∧ True) (vs := [Value.agg { toList := [Value.int Go.IntKind.i64 (mn2 (Go.IntKind.i64.wrap (W + mn2 n m)) 65535), Value.int Go.IntKind.i64 L, Value.int Go.IntKind.i64 C, Value.int Go.IntKind.i64 (0), Value.bool F, Value.int Go.IntKind.u32 R] }, Value.bool false, Value.int Go.IntKind.i64 (0)]) rfl (Nat.le_of_ble_eq_true (by kernel_rfl)) ⟨h0, h1, h2, h3, h4, rfl, h4, h5, rfl, h5, h6, trivial⟩ (by kernel_rfl) (by kernel_rfl) (by kernel_rfl) w).mono fun e w' hq => ⟨hq.1.trans (congrArg Ending.returned ?_), hq.2⟩
                try simp only [hc, Option.getD_some, bne_iff_ne, ne_eq, beq_iff_eq, decide_eq_true_eq, decide_eq_false_iff_not, beq_eq_false_iff_ne, bne_eq_false_iff_eq, less_get, i64_w, mn2_mn] at h0
                try simp only [hc, Option.getD_some, bne_iff_ne, ne_eq, beq_iff_eq, decide_eq_true_eq, decide_eq_false_iff_not, beq_eq_false_iff_ne, bne_eq_false_iff_eq, less_get, i64_w, mn2_mn] at h1
                try simp only [hc, Option.getD_some, bne_iff_ne, ne_eq, beq_iff_eq, decide_eq_true_eq, decide_eq_false_iff_not, beq_eq_false_iff_ne, bne_eq_false_iff_eq, less_get, i64_w, mn2_mn] at h2
                try simp only [hc, Option.getD_some, bne_iff_ne, ne_eq, beq_iff_eq, decide_eq_true_eq, decide_eq_false_iff_not, beq_eq_false_iff_ne, bne_eq_false_iff_eq, less_get, i64_w, mn2_mn] at h3
                try simp only [hc, Option.getD_some, bne_iff_ne, ne_eq, beq_iff_eq, decide_eq_true_eq, decide_eq_false_iff_not, beq_eq_false_iff_ne, bne_eq_false_iff_eq, less_get, i64_w, mn2_mn] at h4
                try simp only [hc, Option.getD_some, bne_iff_ne, ne_eq, beq_iff_eq, decide_eq_true_eq, decide_eq_false_iff_not, beq_eq_false_iff_ne, bne_eq_false_iff_eq, less_get, i64_w, mn2_mn] at h5
                try simp only [hc, Option.getD_some, bne_iff_ne, ne_eq, beq_iff_eq, decide_eq_true_eq, decide_eq_false_iff_not, beq_eq_false_iff_ne, bne_eq_false_iff_eq, less_get, i64_w, mn2_mn] at h6
                simp [ackV, ackG, hc, oneOf, mn2_mn, mx2_mx, i64_w, cut_get, h0, h1, h2, h3, h4, h5, h6]
              · -- h6 false
                rcases Bool.eq_false_or_eq_true (decide (Go.IntKind.i64.wrap (C + mn2 n W) ≥ W)) with h7 | h7
                · -- h7 true
                  refine (Calls.path tab_fits sp_ok wide Try.func12 rfl (args := [.l (.v (.agg #[.int .i64 W, .int .i64 L, .int .i64 C, .int .i64 D, .bool F, .int .u32 R])), vInt .i64 m, vInt .i64 n, vInt .u32 u, vInt .u32 x]) (vals := [.agg #[.int .i64 W, .int .i64 L, .int .i64 C, .int .i64 D, .bool F, .int .u32 R], .int .i64 m, .int .i64 n, .int .u32 u, .int .u32 x]) 400 [false, false, false, false, false, false, false, false, false, false, false, true] (A := (((crowd_Check.f W L C D F R m).getD 0 != 0) = false) ∧ ((decide (n < 0)) = false) ∧ ((decide (n > 2147483648)) = false) ∧ (((seq_Less.f x u).getD false) = false) ∧ ((n == 0) = false) ∧ (false = false) ∧ ((n == 0) = false) ∧ ((F) = false) ∧ (false = false) ∧ ((F) = false) ∧ ((decide (W < L)) = false) ∧ ((decide (Go.IntKind.i64.wrap (C + mn2 n W) ≥ W)) = true) ∧ True) (vs := [Value.agg { toList := [Value.int Go.IntKind.i64 (mn2 (Go.IntKind.i64.wrap (W + m)) 65535), Value.int Go.IntKind.i64 L, Value.int Go.IntKind.i64 (mn2 (Go.IntKind.i64.wrap (Go.IntKind.i64.wrap (C + mn2 n W) - W)) 65535), Value.int Go.IntKind.i64 (0), Value.bool F, Value.int Go.IntKind.u32 R] }, Value.bool false, Value.int Go.IntKind.i64 (0)]) rfl (Nat.le_of_ble_eq_true (by kernel_rfl)) ⟨h0, h1, h2, h3, h4, rfl, h4, h5, rfl, h5, h6, h7, trivial⟩ (by kernel_rfl) (by kernel_rfl) (by kernel_rfl) w).mono fun e w' hq => ⟨hq.1.trans (congrArg Ending.returned ?_), hq.2⟩
                  try simp only [hc, Option.getD_some, bne_iff_ne, ne_eq, beq_iff_eq, decide_eq_true_eq, decide_eq_false_iff_not, beq_eq_false_iff_ne, bne_eq_false_iff_eq, less_get, i64_w, mn2_mn] at h0
                  try simp only [hc, Option.getD_some, bne_iff_ne, ne_eq, beq_iff_eq, decide_eq_true_eq, decide_eq_false_iff_not, beq_eq_false_iff_ne, bne_eq_false_iff_eq, less_get, i64_w, mn2_mn] at h1
                  try simp only [hc, Option.getD_some, bne_iff_ne, ne_eq, beq_iff_eq, decide_eq_true_eq, decide_eq_false_iff_not, beq_eq_false_iff_ne, bne_eq_false_iff_eq, less_get, i64_w, mn2_mn] at h2
                  try simp only [hc, Option.getD_some, bne_iff_ne, ne_eq, beq_iff_eq, decide_eq_true_eq, decide_eq_false_iff_not, beq_eq_false_iff_ne, bne_eq_false_iff_eq, less_get, i64_w, mn2_mn] at h3
                  try simp only [hc, Option.getD_some, bne_iff_ne, ne_eq, beq_iff_eq, decide_eq_true_eq, decide_eq_false_iff_not, beq_eq_false_iff_ne, bne_eq_false_iff_eq, less_get, i64_w, mn2_mn] at h4
                  try simp only [hc, Option.getD_some, bne_iff_ne, ne_eq, beq_iff_eq, decide_eq_true_eq, decide_eq_false_iff_not, beq_eq_false_iff_ne, bne_eq_false_iff_eq, less_get, i64_w, mn2_mn] at h5
                  try simp only [hc, Option.getD_some, bne_iff_ne, ne_eq, beq_iff_eq, decide_eq_true_eq, decide_eq_false_iff_not, beq_eq_false_iff_ne, bne_eq_false_iff_eq, less_get, i64_w, mn2_mn] at h6
                  try simp only [hc, Option.getD_some, bne_iff_ne, ne_eq, beq_iff_eq, decide_eq_true_eq, decide_eq_false_iff_not, beq_eq_false_iff_ne, bne_eq_false_iff_eq, less_get, i64_w, mn2_mn] at h7
                  simp [ackV, ackG, hc, oneOf, mn2_mn, mx2_mx, i64_w, cut_get, h0, h1, h2, h3, h4, h5, h6, h7]
                · -- h7 false
                  refine (Calls.path tab_fits sp_ok wide Try.func12 rfl (args := [.l (.v (.agg #[.int .i64 W, .int .i64 L, .int .i64 C, .int .i64 D, .bool F, .int .u32 R])), vInt .i64 m, vInt .i64 n, vInt .u32 u, vInt .u32 x]) (vals := [.agg #[.int .i64 W, .int .i64 L, .int .i64 C, .int .i64 D, .bool F, .int .u32 R], .int .i64 m, .int .i64 n, .int .u32 u, .int .u32 x]) 400 [false, false, false, false, false, false, false, false, false, false, false, false] (A := (((crowd_Check.f W L C D F R m).getD 0 != 0) = false) ∧ ((decide (n < 0)) = false) ∧ ((decide (n > 2147483648)) = false) ∧ (((seq_Less.f x u).getD false) = false) ∧ ((n == 0) = false) ∧ (false = false) ∧ ((n == 0) = false) ∧ ((F) = false) ∧ (false = false) ∧ ((F) = false) ∧ ((decide (W < L)) = false) ∧ ((decide (Go.IntKind.i64.wrap (C + mn2 n W) ≥ W)) = false) ∧ True) (vs := [Value.agg { toList := [Value.int Go.IntKind.i64 W, Value.int Go.IntKind.i64 L, Value.int Go.IntKind.i64 (mn2 (Go.IntKind.i64.wrap (C + mn2 n W)) 65535), Value.int Go.IntKind.i64 (0), Value.bool F, Value.int Go.IntKind.u32 R] }, Value.bool false, Value.int Go.IntKind.i64 (0)]) rfl (Nat.le_of_ble_eq_true (by kernel_rfl)) ⟨h0, h1, h2, h3, h4, rfl, h4, h5, rfl, h5, h6, h7, trivial⟩ (by kernel_rfl) (by kernel_rfl) (by kernel_rfl) w).mono fun e w' hq => ⟨hq.1.trans (congrArg Ending.returned ?_), hq.2⟩
                  try simp only [hc, Option.getD_some, bne_iff_ne, ne_eq, beq_iff_eq, decide_eq_true_eq, decide_eq_false_iff_not, beq_eq_false_iff_ne, bne_eq_false_iff_eq, less_get, i64_w, mn2_mn] at h0
                  try simp only [hc, Option.getD_some, bne_iff_ne, ne_eq, beq_iff_eq, decide_eq_true_eq, decide_eq_false_iff_not, beq_eq_false_iff_ne, bne_eq_false_iff_eq, less_get, i64_w, mn2_mn] at h1
                  try simp only [hc, Option.getD_some, bne_iff_ne, ne_eq, beq_iff_eq, decide_eq_true_eq, decide_eq_false_iff_not, beq_eq_false_iff_ne, bne_eq_false_iff_eq, less_get, i64_w, mn2_mn] at h2
                  try simp only [hc, Option.getD_some, bne_iff_ne, ne_eq, beq_iff_eq, decide_eq_true_eq, decide_eq_false_iff_not, beq_eq_false_iff_ne, bne_eq_false_iff_eq, less_get, i64_w, mn2_mn] at h3
                  try simp only [hc, Option.getD_some, bne_iff_ne, ne_eq, beq_iff_eq, decide_eq_true_eq, decide_eq_false_iff_not, beq_eq_false_iff_ne, bne_eq_false_iff_eq, less_get, i64_w, mn2_mn] at h4
                  try simp only [hc, Option.getD_some, bne_iff_ne, ne_eq, beq_iff_eq, decide_eq_true_eq, decide_eq_false_iff_not, beq_eq_false_iff_ne, bne_eq_false_iff_eq, less_get, i64_w, mn2_mn] at h5
                  try simp only [hc, Option.getD_some, bne_iff_ne, ne_eq, beq_iff_eq, decide_eq_true_eq, decide_eq_false_iff_not, beq_eq_false_iff_ne, bne_eq_false_iff_eq, less_get, i64_w, mn2_mn] at h6
                  try simp only [hc, Option.getD_some, bne_iff_ne, ne_eq, beq_iff_eq, decide_eq_true_eq, decide_eq_false_iff_not, beq_eq_false_iff_ne, bne_eq_false_iff_eq, less_get, i64_w, mn2_mn] at h7
                  simp [ackV, ackG, hc, oneOf, mn2_mn, mx2_mx, i64_w, cut_get, h0, h1, h2, h3, h4, h5, h6, h7]
theorem crowd_Ack.calls (k : Nat) (a0_0 : Int) (a0_1 : Int) (a0_2 : Int) (a0_3 : Int) (a0_4 : Bool) (a0_5 : Int) (a1 : Int) (a2 : Int) (a3 : Int) (a4 : Int) (r1 : Int) (r2 : Int) (r3 : Int) (r4 : Int) (r5 : Bool) (r6 : Int) (r7 : Bool) (r8 : Int) (w : World) (h : crowd_Ack.f k a0_0 a0_1 a0_2 a0_3 a0_4 a0_5 a1 a2 a3 a4 = some (r1, r2, r3, r4, r5, r6, r7, r8)) :
    Calls Try.prog 12 #[.agg #[.int .i64 a0_0, .int .i64 a0_1, .int .i64 a0_2, .int .i64 a0_3, .bool a0_4, .int .u32 a0_5], .int .i64 a1, .int .i64 a2, .int .u32 a3, .int .u32 a4] w fun e w' => e = .returned (.tuple #[.agg #[.int .i64 r1, .int .i64 r2, .int .i64 r3, .int .i64 r4, .bool r5, .int .u32 r6], .bool r7, .int .i64 r8]) ∧ Below w.heap.size w w' := by
  obtain ⟨c, hc⟩ := check_some a0_0 a0_1 a0_2 a0_3 a0_4 a0_5 a1
  have hr := ack_of hc h
  have := ackG_calls a0_0 a0_1 a0_2 a0_3 a0_4 a0_5 a1 a2 a3 a4 c hc w
  rw [← hr] at this
  exact this
end Go.Proofs.Ytopjfkcoknenfaa.PCrowdSlow
