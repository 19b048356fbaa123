-- PRINTED BY print.sh 35421559b90ae4d0a3588c463048766b98c2df88dd9212a6774a882060cdf62d: not written by this session
import Derived.Test.YtopjfkcoknenfaaPCrowdRestartsx0
import Derived.Test.YtopjfkcoknenfaaPCrowdRestartsx2
import Derived.Test.YtopjfkcoknenfaaPCrowdRestartsx3
namespace Go.Proofs.Ytopjfkcoknenfaa.PCrowdRestarts
open Go.RowKit Go.Proofs.YtopjfkcoknenfaaW.PrintWords Go.Proofs.YtopjfkcoknenfaaW.PrintLast Go.Proofs.YtopjfkcoknenfaaW.PrintMore
attribute [local go_sem] max2_int min2_int max_two min_two max_three min_three max_four min_four   -- for this text's walks alone
set_option linter.unusedVariables false
set_option linter.unusedSimpArgs false

/-! ### patchbaykeep3_CrowdRestarts: function 7 -/
mutual
def patchbaykeep3_CrowdRestarts.j0 : Nat → Int → Int → Int → Bool → Int → Int → Int → Int → Bool → Int → Option (Bool)
  | 0, _, _, _, _, _, _, _, _, _, _ => none
  | k + 1, x0, x3, x10, x47, x173000, x173001, x173002, x173003, x173004, x173005 => if x47 = true then (some false) else (patchbaykeep3_CrowdRestarts.l0 k x0 x3 x10 x173001 0 x173000 x173001 x173002 x173003 x173004 x173005)
def patchbaykeep3_CrowdRestarts.l0 : Nat → Int → Int → Int → Int → Int → Int → Int → Int → Int → Bool → Int → Option (Bool)
  | 0, _, _, _, _, _, _, _, _, _, _, _ => none
  | k + 1, x0, x3, x10, x12, x13, x173000, x173001, x173002, x173003, x173004, x173005 => (patchbaykeep3_rest.f x3 30).bind fun t181 => (if x13 < t181 then (patchbaykeep3_CrowdRestarts.j2 k x0 x3 x10 x12 x13 (decide (x173000 < x12)) x173000 x173001 x173002 x173003 x173004 x173005) else (patchbaykeep3_CrowdRestarts.j2 k x0 x3 x10 x12 x13 false x173000 x173001 x173002 x173003 x173004 x173005))
def patchbaykeep3_CrowdRestarts.j2 : Nat → Int → Int → Int → Int → Int → Bool → Int → Int → Int → Int → Bool → Int → Option (Bool)
  | 0, _, _, _, _, _, _, _, _, _, _, _, _ => none
  | k + 1, x0, x3, x10, x12, x13, x59, x173000, x173001, x173002, x173003, x173004, x173005 => if x59 = true then ((crowd_Ack.f k x173000 x173001 x173002 x173003 x173004 x173005 x0 x0 ((wrap64 (x10 + x0)) % 4294967296) ((wrap64 ((wrap64 (x10 + x0)) + x173000)) % 4294967296)).bind fun bt182 => (if bt182.2.2.2.2.2.2.2 = 0 then (if bt182.2.1 = x12 then (if bt182.1 ≥ (wrap64 (x12 + x0)) then (some false) else (patchbaykeep3_CrowdRestarts.l0 k x0 x3 (wrap64 (x10 + x0)) x12 (wrap64 (x13 + 1)) bt182.1 bt182.2.1 bt182.2.2.1 bt182.2.2.2.1 bt182.2.2.2.2.1 bt182.2.2.2.2.2.1)) else (some false)) else (some false))) else (some true)
end
def patchbaykeep3_CrowdRestarts.f (k : Nat) (a0 : Int) (l1 : List Int) (a2 : Int) (a3 : Int) : Option (Bool) := (patchbaykeep3_crowdFact.f k).bind fun t162 => (if t162 = true then ((patchbaykeep3_rest.f a0 500).bind fun t163 => ((patchbaykeep3_grown.f k (wrap64 (1 + t163)) l1).bind fun bt164 => (if bt164.2.2.2.2.2.2.2 = 0 then ((patchbaykeep3_rest.f a2 20000).bind fun t173 => ((crowd_Timeout.f bt164.1 bt164.2.1 bt164.2.2.1 bt164.2.2.2.1 bt164.2.2.2.2.1 bt164.2.2.2.2.2.1 (wrap64 (1 + t163)) t173).bind fun bt174 => (if bt174.2.2.2.2.2.2 = 0 then (if bt174.1 = (wrap64 (1 + t163)) then (patchbaykeep3_CrowdRestarts.j0 k (wrap64 (1 + t163)) a3 bt164.2.2.2.2.2.2.1 bt174.2.2.2.2.1 bt174.1 bt174.2.1 bt174.2.2.1 bt174.2.2.2.1 bt174.2.2.2.2.1 bt174.2.2.2.2.2.1) else (patchbaykeep3_CrowdRestarts.j0 k (wrap64 (1 + t163)) a3 bt164.2.2.2.2.2.2.1 true bt174.1 bt174.2.1 bt174.2.2.1 bt174.2.2.2.1 bt174.2.2.2.2.1 bt174.2.2.2.2.2.1)) else (patchbaykeep3_CrowdRestarts.j0 k (wrap64 (1 + t163)) a3 bt164.2.2.2.2.2.2.1 true bt174.1 bt174.2.1 bt174.2.2.1 bt174.2.2.2.1 bt174.2.2.2.2.1 bt174.2.2.2.2.2.1)))) else (some false)))) else (some false))
theorem patchbaykeep3_CrowdRestarts.mono_l : ∀ k, (∀ y0 y1 y2 y3 y4 y5 y6 y7 y8 y9, LeO (patchbaykeep3_CrowdRestarts.j0 k y0 y1 y2 y3 y4 y5 y6 y7 y8 y9) (patchbaykeep3_CrowdRestarts.j0 (k + 1) y0 y1 y2 y3 y4 y5 y6 y7 y8 y9)) ∧ (∀ y0 y1 y2 y3 y4 y5 y6 y7 y8 y9 y10, LeO (patchbaykeep3_CrowdRestarts.l0 k y0 y1 y2 y3 y4 y5 y6 y7 y8 y9 y10) (patchbaykeep3_CrowdRestarts.l0 (k + 1) y0 y1 y2 y3 y4 y5 y6 y7 y8 y9 y10)) ∧ (∀ y0 y1 y2 y3 y4 y5 y6 y7 y8 y9 y10 y11, LeO (patchbaykeep3_CrowdRestarts.j2 k y0 y1 y2 y3 y4 y5 y6 y7 y8 y9 y10 y11) (patchbaykeep3_CrowdRestarts.j2 (k + 1) y0 y1 y2 y3 y4 y5 y6 y7 y8 y9 y10 y11))
  | 0 => ⟨fun _ _ _ _ _ _ _ _ _ _ r h => by simp [patchbaykeep3_CrowdRestarts.j0] at h, fun _ _ _ _ _ _ _ _ _ _ _ r h => by simp [patchbaykeep3_CrowdRestarts.l0] at h, fun _ _ _ _ _ _ _ _ _ _ _ _ r h => by simp [patchbaykeep3_CrowdRestarts.j2] at h⟩
  | k + 1 => by
    obtain ⟨ih0, ih1, ih2⟩ := patchbaykeep3_CrowdRestarts.mono_l k
    refine ⟨?_, ?_, ?_⟩
    · intro y0 y1 y2 y3 y4 y5 y6 y7 y8 y9
      unfold patchbaykeep3_CrowdRestarts.j0
      repeat' first
      | (with_reducible exact ih0 _ _ _ _ _ _ _ _ _ _)
      | (with_reducible exact ih1 _ _ _ _ _ _ _ _ _ _ _)
      | (with_reducible exact ih2 _ _ _ _ _ _ _ _ _ _ _ _)
      | (with_reducible exact crowd_Ack.mono _ _ _ _ _ _ _ _ _ _ _)
      | (with_reducible exact patchbaykeep3_crowdFact.mono _)
      | (with_reducible exact patchbaykeep3_grown.mono _ _ _)
      | (with_reducible exact LeO.refl _)
      | (with_reducible exact LeO.none _)
      | (with_reducible refine LeO.ite ?_ ?_)
      | (with_reducible refine LeO.bind ?_ (fun _ => ?_))
      | exact ih0 _ _ _ _ _ _ _ _ _ _
      | exact ih1 _ _ _ _ _ _ _ _ _ _ _
      | exact ih2 _ _ _ _ _ _ _ _ _ _ _ _
      | exact crowd_Ack.mono _ _ _ _ _ _ _ _ _ _ _
      | exact patchbaykeep3_crowdFact.mono _
      | exact patchbaykeep3_grown.mono _ _ _
      | exact LeO.none _
      | refine LeO.ite ?_ ?_
      | refine LeO.bind ?_ (fun _ => ?_)
    · intro y0 y1 y2 y3 y4 y5 y6 y7 y8 y9 y10
      unfold patchbaykeep3_CrowdRestarts.l0
      repeat' first
      | (with_reducible exact ih0 _ _ _ _ _ _ _ _ _ _)
      | (with_reducible exact ih1 _ _ _ _ _ _ _ _ _ _ _)
      | (with_reducible exact ih2 _ _ _ _ _ _ _ _ _ _ _ _)
      | (with_reducible exact crowd_Ack.mono _ _ _ _ _ _ _ _ _ _ _)
      | (with_reducible exact patchbaykeep3_crowdFact.mono _)
      | (with_reducible exact patchbaykeep3_grown.mono _ _ _)
      | (with_reducible exact LeO.refl _)
      | (with_reducible exact LeO.none _)
      | (with_reducible refine LeO.ite ?_ ?_)
      | (with_reducible refine LeO.bind ?_ (fun _ => ?_))
      | exact ih0 _ _ _ _ _ _ _ _ _ _
      | exact ih1 _ _ _ _ _ _ _ _ _ _ _
      | exact ih2 _ _ _ _ _ _ _ _ _ _ _ _
      | exact crowd_Ack.mono _ _ _ _ _ _ _ _ _ _ _
      | exact patchbaykeep3_crowdFact.mono _
      | exact patchbaykeep3_grown.mono _ _ _
      | exact LeO.none _
      | refine LeO.ite ?_ ?_
      | refine LeO.bind ?_ (fun _ => ?_)
    · intro y0 y1 y2 y3 y4 y5 y6 y7 y8 y9 y10 y11
      unfold patchbaykeep3_CrowdRestarts.j2
      repeat' first
      | (with_reducible exact ih0 _ _ _ _ _ _ _ _ _ _)
      | (with_reducible exact ih1 _ _ _ _ _ _ _ _ _ _ _)
      | (with_reducible exact ih2 _ _ _ _ _ _ _ _ _ _ _ _)
      | (with_reducible exact crowd_Ack.mono _ _ _ _ _ _ _ _ _ _ _)
      | (with_reducible exact patchbaykeep3_crowdFact.mono _)
      | (with_reducible exact patchbaykeep3_grown.mono _ _ _)
      | (with_reducible exact LeO.refl _)
      | (with_reducible exact LeO.none _)
      | (with_reducible refine LeO.ite ?_ ?_)
      | (with_reducible refine LeO.bind ?_ (fun _ => ?_))
      | exact ih0 _ _ _ _ _ _ _ _ _ _
      | exact ih1 _ _ _ _ _ _ _ _ _ _ _
      | exact ih2 _ _ _ _ _ _ _ _ _ _ _ _
      | exact crowd_Ack.mono _ _ _ _ _ _ _ _ _ _ _
      | exact patchbaykeep3_crowdFact.mono _
      | exact patchbaykeep3_grown.mono _ _ _
      | exact LeO.none _
      | refine LeO.ite ?_ ?_
      | refine LeO.bind ?_ (fun _ => ?_)
theorem patchbaykeep3_CrowdRestarts.mono : ∀ a0 a1 a2 a3 k, LeO (patchbaykeep3_CrowdRestarts.f k a0 a1 a2 a3) (patchbaykeep3_CrowdRestarts.f (k + 1) a0 a1 a2 a3) := by
  intro a0 a1 a2 a3 k
  obtain ⟨ih0, ih1, ih2⟩ := patchbaykeep3_CrowdRestarts.mono_l k
  unfold patchbaykeep3_CrowdRestarts.f
  repeat' first
      | (with_reducible exact ih0 _ _ _ _ _ _ _ _ _ _)
      | (with_reducible exact ih1 _ _ _ _ _ _ _ _ _ _ _)
      | (with_reducible exact ih2 _ _ _ _ _ _ _ _ _ _ _ _)
      | (with_reducible exact crowd_Ack.mono _ _ _ _ _ _ _ _ _ _ _)
      | (with_reducible exact patchbaykeep3_crowdFact.mono _)
      | (with_reducible exact patchbaykeep3_grown.mono _ _ _)
      | (with_reducible exact LeO.refl _)
      | (with_reducible exact LeO.none _)
      | (with_reducible refine LeO.ite ?_ ?_)
      | (with_reducible refine LeO.bind ?_ (fun _ => ?_))
      | exact ih0 _ _ _ _ _ _ _ _ _ _
      | exact ih1 _ _ _ _ _ _ _ _ _ _ _
      | exact ih2 _ _ _ _ _ _ _ _ _ _ _ _
      | exact crowd_Ack.mono _ _ _ _ _ _ _ _ _ _ _
      | exact patchbaykeep3_crowdFact.mono _
      | exact patchbaykeep3_grown.mono _ _ _
      | exact LeO.none _
      | refine LeO.ite ?_ ?_
      | refine LeO.bind ?_ (fun _ => ?_)
def patchbaykeep3_CrowdRestarts.T7 : Bool × List (List Nat × List Nat) := (true, [([], []), ([], []), ([], []), ([2], [2]), ([0, 1, 3, 3], [0, 1, 3]), ([4], [4]), ([5], [5]), ([5], [5]), ([6, 4, 0, 1, 2, 3, 4, 5, 6], [6]), ([7, 8, 0, 1, 2, 3, 4, 5, 6, 7, 8], [7])])
def patchbaykeep3_CrowdRestarts.B7 : List Nat := [0, 0, 0, 4, 15, 31, 63, 63, 127, 511]
theorem patchbaykeep3_CrowdRestarts.tab7 : rtab .any (opsOf Try.f7 7) = patchbaykeep3_CrowdRestarts.T7 := by kernel_rfl
theorem patchbaykeep3_CrowdRestarts.bits7 : waitsOk patchbaykeep3_CrowdRestarts.T7.2 patchbaykeep3_CrowdRestarts.B7 = true := by kernel_rfl
set_option maxHeartbeats 8000000 in
set_option maxRecDepth 100000 in
theorem patchbaykeep3_CrowdRestarts.calls (k : Nat) (a0 : Int) (A1 : Option Addr) (c1 : Nat) (l1 : List Int) (a2 : Int) (a3 : Int) (r : Bool) (w : World) (hr1 : Kd.C (Kd.int .i64) w A1 l1.length l1) (hc1 : l1.length ≤ c1) (h : patchbaykeep3_CrowdRestarts.f k a0 l1 a2 a3 = some r) :
    Calls Try.prog 7 #[.int .i64 a0, .slice A1 l1.length c1, .int .i64 a2, .int .i64 a3] w fun e w' => e = .returned (.bool r) ∧ Below w.heap.size w w' := by
  have hu26 := Try.underlying26
  have HR1 := Aside0.mk hr1
  have HC1 := Aside0.mk hc1
  clear hr1 hc1
  have HB := Aside0.mk (Below.refl w.heap.size w)
  have H : ((patchbaykeep3_crowdFact.f k).bind fun t162 => (if t162 = true then ((patchbaykeep3_rest.f a0 500).bind fun t163 => ((patchbaykeep3_grown.f k (wrap64 (1 + t163)) l1).bind fun bt164 => (if bt164.2.2.2.2.2.2.2 = 0 then ((patchbaykeep3_rest.f a2 20000).bind fun t173 => ((crowd_Timeout.f bt164.1 bt164.2.1 bt164.2.2.1 bt164.2.2.2.1 bt164.2.2.2.2.1 bt164.2.2.2.2.2.1 (wrap64 (1 + t163)) t173).bind fun bt174 => (if bt174.2.2.2.2.2.2 = 0 then (if bt174.1 = (wrap64 (1 + t163)) then (patchbaykeep3_CrowdRestarts.j0 k (wrap64 (1 + t163)) a3 bt164.2.2.2.2.2.2.1 bt174.2.2.2.2.1 bt174.1 bt174.2.1 bt174.2.2.1 bt174.2.2.2.1 bt174.2.2.2.2.1 bt174.2.2.2.2.2.1) else (patchbaykeep3_CrowdRestarts.j0 k (wrap64 (1 + t163)) a3 bt164.2.2.2.2.2.2.1 true bt174.1 bt174.2.1 bt174.2.2.1 bt174.2.2.2.1 bt174.2.2.2.2.1 bt174.2.2.2.2.2.1)) else (patchbaykeep3_CrowdRestarts.j0 k (wrap64 (1 + t163)) a3 bt164.2.2.2.2.2.2.1 true bt174.1 bt174.2.1 bt174.2.2.1 bt174.2.2.2.1 bt174.2.2.2.2.1 bt174.2.2.2.2.2.1)))) else (some false)))) else (some false))) = some r := h
  clear h
  replace H := Option.bind_eq_some_iff.mp H
  obtain ⟨t162, A50, H⟩ := H
  replace H : (if t162 = true then ((patchbaykeep3_rest.f a0 500).bind fun t163 => ((patchbaykeep3_grown.f k (wrap64 (1 + t163)) l1).bind fun bt164 => (if bt164.2.2.2.2.2.2.2 = 0 then ((patchbaykeep3_rest.f a2 20000).bind fun t173 => ((crowd_Timeout.f bt164.1 bt164.2.1 bt164.2.2.1 bt164.2.2.2.1 bt164.2.2.2.2.1 bt164.2.2.2.2.2.1 (wrap64 (1 + t163)) t173).bind fun bt174 => (if bt174.2.2.2.2.2.2 = 0 then (if bt174.1 = (wrap64 (1 + t163)) then (patchbaykeep3_CrowdRestarts.j0 k (wrap64 (1 + t163)) a3 bt164.2.2.2.2.2.2.1 bt174.2.2.2.2.1 bt174.1 bt174.2.1 bt174.2.2.1 bt174.2.2.2.1 bt174.2.2.2.2.1 bt174.2.2.2.2.2.1) else (patchbaykeep3_CrowdRestarts.j0 k (wrap64 (1 + t163)) a3 bt164.2.2.2.2.2.2.1 true bt174.1 bt174.2.1 bt174.2.2.1 bt174.2.2.2.1 bt174.2.2.2.2.1 bt174.2.2.2.2.2.1)) else (patchbaykeep3_CrowdRestarts.j0 k (wrap64 (1 + t163)) a3 bt164.2.2.2.2.2.2.1 true bt174.1 bt174.2.1 bt174.2.2.1 bt174.2.2.2.1 bt174.2.2.2.2.1 bt174.2.2.2.2.2.1)))) else (some false)))) else (some false)) = some r := H
  have A5 := Aside0.mk A50
  clear A50
  by_cases c6 : t162 = true
  · subst c6
    have H1 : ((patchbaykeep3_rest.f a0 500).bind fun t163 => ((patchbaykeep3_grown.f k (wrap64 (1 + t163)) l1).bind fun bt164 => (if bt164.2.2.2.2.2.2.2 = 0 then ((patchbaykeep3_rest.f a2 20000).bind fun t173 => ((crowd_Timeout.f bt164.1 bt164.2.1 bt164.2.2.1 bt164.2.2.2.1 bt164.2.2.2.2.1 bt164.2.2.2.2.2.1 (wrap64 (1 + t163)) t173).bind fun bt174 => (if bt174.2.2.2.2.2.2 = 0 then (if bt174.1 = (wrap64 (1 + t163)) then (patchbaykeep3_CrowdRestarts.j0 k (wrap64 (1 + t163)) a3 bt164.2.2.2.2.2.2.1 bt174.2.2.2.2.1 bt174.1 bt174.2.1 bt174.2.2.1 bt174.2.2.2.1 bt174.2.2.2.2.1 bt174.2.2.2.2.2.1) else (patchbaykeep3_CrowdRestarts.j0 k (wrap64 (1 + t163)) a3 bt164.2.2.2.2.2.2.1 true bt174.1 bt174.2.1 bt174.2.2.1 bt174.2.2.2.1 bt174.2.2.2.2.1 bt174.2.2.2.2.2.1)) else (patchbaykeep3_CrowdRestarts.j0 k (wrap64 (1 + t163)) a3 bt164.2.2.2.2.2.2.1 true bt174.1 bt174.2.1 bt174.2.2.1 bt174.2.2.2.1 bt174.2.2.2.2.1 bt174.2.2.2.2.2.1)))) else (some false)))) = some r := by rw [if_pos rfl] at H; exact H
    clear H
    have H := H1
    clear H1
    replace H := Option.bind_eq_some_iff.mp H
    obtain ⟨t163, A70, H⟩ := H
    replace H : ((patchbaykeep3_grown.f k (wrap64 (1 + t163)) l1).bind fun bt164 => (if bt164.2.2.2.2.2.2.2 = 0 then ((patchbaykeep3_rest.f a2 20000).bind fun t173 => ((crowd_Timeout.f bt164.1 bt164.2.1 bt164.2.2.1 bt164.2.2.2.1 bt164.2.2.2.2.1 bt164.2.2.2.2.2.1 (wrap64 (1 + t163)) t173).bind fun bt174 => (if bt174.2.2.2.2.2.2 = 0 then (if bt174.1 = (wrap64 (1 + t163)) then (patchbaykeep3_CrowdRestarts.j0 k (wrap64 (1 + t163)) a3 bt164.2.2.2.2.2.2.1 bt174.2.2.2.2.1 bt174.1 bt174.2.1 bt174.2.2.1 bt174.2.2.2.1 bt174.2.2.2.2.1 bt174.2.2.2.2.2.1) else (patchbaykeep3_CrowdRestarts.j0 k (wrap64 (1 + t163)) a3 bt164.2.2.2.2.2.2.1 true bt174.1 bt174.2.1 bt174.2.2.1 bt174.2.2.2.1 bt174.2.2.2.2.1 bt174.2.2.2.2.2.1)) else (patchbaykeep3_CrowdRestarts.j0 k (wrap64 (1 + t163)) a3 bt164.2.2.2.2.2.2.1 true bt174.1 bt174.2.1 bt174.2.2.1 bt174.2.2.2.1 bt174.2.2.2.2.1 bt174.2.2.2.2.2.1)))) else (some false))) = some r := H
    have A7 := Aside0.mk A70
    clear A70
    replace H := Option.bind_eq_some_iff.mp H
    obtain ⟨⟨t164, t165, t166, t167, t168, t169, t170, t171⟩, A80, H⟩ := H
    replace H : (if t171 = 0 then ((patchbaykeep3_rest.f a2 20000).bind fun t173 => ((crowd_Timeout.f t164 t165 t166 t167 t168 t169 (wrap64 (1 + t163)) t173).bind fun bt174 => (if bt174.2.2.2.2.2.2 = 0 then (if bt174.1 = (wrap64 (1 + t163)) then (patchbaykeep3_CrowdRestarts.j0 k (wrap64 (1 + t163)) a3 t170 bt174.2.2.2.2.1 bt174.1 bt174.2.1 bt174.2.2.1 bt174.2.2.2.1 bt174.2.2.2.2.1 bt174.2.2.2.2.2.1) else (patchbaykeep3_CrowdRestarts.j0 k (wrap64 (1 + t163)) a3 t170 true bt174.1 bt174.2.1 bt174.2.2.1 bt174.2.2.2.1 bt174.2.2.2.2.1 bt174.2.2.2.2.2.1)) else (patchbaykeep3_CrowdRestarts.j0 k (wrap64 (1 + t163)) a3 t170 true bt174.1 bt174.2.1 bt174.2.2.1 bt174.2.2.2.1 bt174.2.2.2.2.1 bt174.2.2.2.2.2.1)))) else (some false)) = some r := H
    have A8 := Aside0.mk A80
    clear A80
    by_cases c9 : t171 = 0
    · rw [if_pos c9] at H
      have c9b0 : (t171 == 0) = true := beq_iff_eq.mpr c9
      have c9b1 : (t171 != 0) = false := bne_eq_false_iff_eq.mpr c9
      clear c9
      replace H := Option.bind_eq_some_iff.mp H
      obtain ⟨t173, A100, H⟩ := H
      replace H : ((crowd_Timeout.f t164 t165 t166 t167 t168 t169 (wrap64 (1 + t163)) t173).bind fun bt174 => (if bt174.2.2.2.2.2.2 = 0 then (if bt174.1 = (wrap64 (1 + t163)) then (patchbaykeep3_CrowdRestarts.j0 k (wrap64 (1 + t163)) a3 t170 bt174.2.2.2.2.1 bt174.1 bt174.2.1 bt174.2.2.1 bt174.2.2.2.1 bt174.2.2.2.2.1 bt174.2.2.2.2.2.1) else (patchbaykeep3_CrowdRestarts.j0 k (wrap64 (1 + t163)) a3 t170 true bt174.1 bt174.2.1 bt174.2.2.1 bt174.2.2.2.1 bt174.2.2.2.2.1 bt174.2.2.2.2.2.1)) else (patchbaykeep3_CrowdRestarts.j0 k (wrap64 (1 + t163)) a3 t170 true bt174.1 bt174.2.1 bt174.2.2.1 bt174.2.2.2.1 bt174.2.2.2.2.1 bt174.2.2.2.2.2.1))) = some r := H
      have A10 := Aside0.mk A100
      clear A100
      replace H := Option.bind_eq_some_iff.mp H
      obtain ⟨⟨t174, t175, t176, t177, t178, t179, t180⟩, A110, H⟩ := H
      replace H : (if t180 = 0 then (if t174 = (wrap64 (1 + t163)) then (patchbaykeep3_CrowdRestarts.j0 k (wrap64 (1 + t163)) a3 t170 t178 t174 t175 t176 t177 t178 t179) else (patchbaykeep3_CrowdRestarts.j0 k (wrap64 (1 + t163)) a3 t170 true t174 t175 t176 t177 t178 t179)) else (patchbaykeep3_CrowdRestarts.j0 k (wrap64 (1 + t163)) a3 t170 true t174 t175 t176 t177 t178 t179)) = some r := H
      have A11 := Aside0.mk A110
      clear A110
      have HC12 := Aside0.mk H
      clear H
      go_enter Try.func7, Try.ntmps7
      try go_wp2_with (first | ((with_reducible refine gate_callee (f := 9) rfl ?_); refine goesL_ (some 14) rfl rfl Try.func9 (by kernel_rfl) rfl #[] rfl (by (try simp only [List.map_toArray, List.map_cons, List.map_nil]); first | done | rfl | (simp only [List.length_drop, List.length_take]; rfl)) ?_; (with_reducible refine (patchbaykeep3_crowdFact.calls k  true _ A5.out).mono ?_); rintro e w13 ⟨rfl, hb⟩; refine ⟨_, rfl, ?_⟩; have n0_ := Aside0.mk (below_step (by repeat (first | (with_reducible first | exact HB.out | apply below_alloc | apply pw_below_drewN | apply below_drew1) | exact HB.out)) hb); clear HB; have HB := n0_; clear n0_; (try clear hb); (try clear hb2); (try clear hk); (try clear hi)) | ((with_reducible refine gate_callee (f := 10) rfl ?_); refine goesL_ (some 17) rfl rfl Try.func10 (by kernel_rfl) rfl #[.int .i64 a0, .int .i64 500] rfl (by (try simp only [List.map_toArray, List.map_cons, List.map_nil]); first | done | rfl | (simp only [List.length_drop, List.length_take]; rfl)) ?_; (with_reducible refine (patchbaykeep3_rest.calls a0 500 t163 _ A7.out).mono ?_); rintro e w' ⟨rfl, ⟨nd, rfl⟩⟩; refine ⟨_, rfl, ?_⟩; (try (rw [drewN_self w13]; generalize hq_ : World.drewN w13 _ = w13; have n0_ : Aside0 (Below w.heap.size w w13) := ⟨by rw [← hq_]; exact (by repeat (first | (with_reducible first | exact HB.out | apply below_alloc | apply pw_below_drewN | apply below_drew1) | exact HB.out))⟩; clear HB hq_; have HB := n0_; clear n0_))) | ((with_reducible refine gate_callee (f := 13) rfl ?_); refine goesL_ (some 22) rfl rfl Try.func13 (by kernel_rfl) rfl #[.int .i64 (wrap64 (1 + t163)), .slice A1 l1.length c1] rfl (by (try simp only [List.map_toArray, List.map_cons, List.map_nil]); first | done | rfl | (simp only [List.length_drop, List.length_take]; rfl)) ?_; (with_reducible refine (patchbaykeep3_grown.calls k (wrap64 (1 + t163)) _ _ l1 t164 t165 t166 t167 t168 t169 t170 t171 _ ?side1 ?side2 A8.out).mono ?_); (case side1 => repeat (first | exact (Kd.C_below HR1.out HB.out) | (with_reducible refine Kd.C_alloc ?_ _) | (with_reducible refine Kd.C_drewN ?_ _) | (with_reducible refine Kd.C_drew ?_))); (case side2 => exact HC1.out); rintro e w14 ⟨rfl, hb⟩; refine ⟨_, rfl, ?_⟩; have n0_ := Aside0.mk (below_step (by repeat (first | (with_reducible first | exact HB.out | apply below_alloc | apply pw_below_drewN | apply below_drew1) | exact HB.out)) hb); clear HB; have HB := n0_; clear n0_; (try clear hb); (try clear hb2); (try clear hk); (try clear hi)) | ((with_reducible refine gate_dst (N := 9) rfl ?_); refine box_event ?hg (N := 9) ?hd (cs := #[.int .i64 0, .int .i64 0, .int .i64 0, .int .i64 0, .bool false, .int .u32 0]) (t := 26) ?hr ?_; (case hd => rfl); (case hg => rfl); (case hr => first | (go_simp; done) | (go_simp; rfl)); intro gb172 hg w15 hbox hb; have n0_ := Aside0.mk (below_step (by repeat (first | (with_reducible first | exact HB.out | apply below_alloc | apply pw_below_drewN | apply below_drew1) | exact HB.out)) hb); have n1_ := Aside0.mk (hbox); have n2_ := Aside0.mk ((by rw [hg]; exact (below_size (by repeat (first | (with_reducible first | exact HB.out | apply below_alloc | apply pw_below_drewN | apply below_drew1) | exact HB.out))) : w.heap.size ≤ gb172)); have n3_ := Aside0.mk ((by rw [hg]; exact (below_size (by repeat (first | (with_reducible first | exact HB.out | apply below_alloc | apply pw_below_drewN | apply below_drew1) | exact HB.out))) : w.heap.size ≤ gb172)); clear HB; have HB := n0_; have BK172 := n1_; have GW172 := n2_; have GE172 := n3_; clear n0_ n1_ n2_ n3_; clear hb hbox hg; have hcz16_0 : w15.cell? ⟨gb172, 0, none⟩ = some (.int .i64 0) := (blk_cell BK172.out 0).trans rfl; have hcz16_1 : w15.cell? ⟨gb172, 1, none⟩ = some (.int .i64 0) := (blk_cell BK172.out 1).trans rfl; have hcz16_2 : w15.cell? ⟨gb172, 2, none⟩ = some (.int .i64 0) := (blk_cell BK172.out 2).trans rfl; have hcz16_3 : w15.cell? ⟨gb172, 3, none⟩ = some (.int .i64 0) := (blk_cell BK172.out 3).trans rfl; have hcz16_4 : w15.cell? ⟨gb172, 4, none⟩ = some (.bool false) := (blk_cell BK172.out 4).trans rfl; have hcz16_5 : w15.cell? ⟨gb172, 5, none⟩ = some (.int .u32 0) := (blk_cell BK172.out 5).trans rfl; have hfz16_0 := blk_frozen BK172.out 0; have hfz16_1 := blk_frozen BK172.out 1; have hfz16_2 := blk_frozen BK172.out 2; have hfz16_3 := blk_frozen BK172.out 3; have hfz16_4 := blk_frozen BK172.out 4; have hfz16_5 := blk_frozen BK172.out 5))
      have n0_ : Aside0 (((((((w15.setCell ⟨gb172, 0, none⟩ (.int .i64 t164)).setCell ⟨gb172, 1, none⟩ (.int .i64 t165)).setCell ⟨gb172, 2, none⟩ (.int .i64 t166)).setCell ⟨gb172, 3, none⟩ (.int .i64 t167)).setCell ⟨gb172, 4, none⟩ (.bool t168)).setCell ⟨gb172, 5, none⟩ (.int .u32 t169)).heap[gb172]? = some (.cells #[.int .i64 t164, .int .i64 t165, .int .i64 t166, .int .i64 t167, .bool t168, .int .u32 t169] 26 (0, 0))) := ⟨by (with_reducible repeat (first | refine blk_drewN ?_ _ | refine blk_drew ?_ | refine blk_alloc ?_ _)); refine blk_put (cs := #[.int .i64 t164, .int .i64 t165, .int .i64 t166, .int .i64 t167, .bool t168, .int .u32 0]) ?_ 5 _ rfl; (with_reducible repeat (first | refine blk_drewN ?_ _ | refine blk_drew ?_ | refine blk_alloc ?_ _)); refine blk_put (cs := #[.int .i64 t164, .int .i64 t165, .int .i64 t166, .int .i64 t167, .bool false, .int .u32 0]) ?_ 4 _ rfl; (with_reducible repeat (first | refine blk_drewN ?_ _ | refine blk_drew ?_ | refine blk_alloc ?_ _)); refine blk_put (cs := #[.int .i64 t164, .int .i64 t165, .int .i64 t166, .int .i64 0, .bool false, .int .u32 0]) ?_ 3 _ rfl; (with_reducible repeat (first | refine blk_drewN ?_ _ | refine blk_drew ?_ | refine blk_alloc ?_ _)); refine blk_put (cs := #[.int .i64 t164, .int .i64 t165, .int .i64 0, .int .i64 0, .bool false, .int .u32 0]) ?_ 2 _ rfl; (with_reducible repeat (first | refine blk_drewN ?_ _ | refine blk_drew ?_ | refine blk_alloc ?_ _)); refine blk_put (cs := #[.int .i64 t164, .int .i64 0, .int .i64 0, .int .i64 0, .bool false, .int .u32 0]) ?_ 1 _ rfl; (with_reducible repeat (first | refine blk_drewN ?_ _ | refine blk_drew ?_ | refine blk_alloc ?_ _)); refine blk_put (cs := #[.int .i64 0, .int .i64 0, .int .i64 0, .int .i64 0, .bool false, .int .u32 0]) ?_ 0 _ rfl; (with_reducible repeat (first | refine blk_drewN ?_ _ | refine blk_drew ?_ | refine blk_alloc ?_ _)); exact BK172.out⟩
      have n1_ : Aside0 (Below w.heap.size w ((((((w15.setCell ⟨gb172, 0, none⟩ (.int .i64 t164)).setCell ⟨gb172, 1, none⟩ (.int .i64 t165)).setCell ⟨gb172, 2, none⟩ (.int .i64 t166)).setCell ⟨gb172, 3, none⟩ (.int .i64 t167)).setCell ⟨gb172, 4, none⟩ (.bool t168)).setCell ⟨gb172, 5, none⟩ (.int .u32 t169))) := ⟨by repeat (first | (with_reducible first | exact HB.out | apply below_alloc | apply pw_below_drewN | apply below_drew1 | refine below_set ?_ GE172.out) | exact HB.out)⟩
      (try clear BK172)
      (try clear HB)
      generalize ((((((w15.setCell ⟨gb172, 0, none⟩ (.int .i64 t164)).setCell ⟨gb172, 1, none⟩ (.int .i64 t165)).setCell ⟨gb172, 2, none⟩ (.int .i64 t166)).setCell ⟨gb172, 3, none⟩ (.int .i64 t167)).setCell ⟨gb172, 4, none⟩ (.bool t168)).setCell ⟨gb172, 5, none⟩ (.int .u32 t169)) = w17 at n0_ n1_ ⊢
      have BK172 := n0_
      have HB := n1_
      clear n0_ n1_
      have n0_ := Aside0.mk (blk_drew BK172.out)
      have n1_ := Aside0.mk (below_drew1 HB.out)
      clear BK172
      clear HB
      have BK172 := n0_
      have HB := n1_
      clear n0_ n1_
      refine start_ (n := 10) (S := fun w' => w'.cell? ⟨gb172, 0, none⟩ = some (.int .i64 t164) ∧ w'.cell? ⟨gb172, 1, none⟩ = some (.int .i64 t165) ∧ w'.cell? ⟨gb172, 2, none⟩ = some (.int .i64 t166) ∧ w'.cell? ⟨gb172, 3, none⟩ = some (.int .i64 t167) ∧ w'.cell? ⟨gb172, 4, none⟩ = some (.bool t168) ∧ w'.cell? ⟨gb172, 5, none⟩ = some (.int .u32 t169)) (ds := [8]) #[false, false, false, false, false, false, false, false, false, false] (by kernel_rfl) rfl rfl ⟨(blk_cell BK172.out 0).trans rfl, (blk_cell BK172.out 1).trans rfl, (blk_cell BK172.out 2).trans rfl, (blk_cell BK172.out 3).trans rfl, (blk_cell BK172.out 4).trans rfl, (blk_cell BK172.out 5).trans rfl⟩ (fun hHeld => ?_); refine with_tabW patchbaykeep3_CrowdRestarts.tab7 patchbaykeep3_CrowdRestarts.bits7 (fun HT_ HW_ => ?_)
      generalize w17.drew = w18 at BK172 HB hHeld ⊢
      refine pure_ (i := 1) (N := some 30) (v := ?_) (a' := ?_) #[false, true, false, false, false, false, false, false, false, false] rfl rfl (any_of HT_.out (by kernel_rfl)) (fun _ _ _ h => h) (Or.inl ⟨by rfl, ?_⟩) ?_ ?_
      rotate_left
      · intro w'
        go_simp
        with_reducible rfl
      rotate_left
      · simp only [Act.put, List.setIfInBounds_toArray, List.set_cons_zero, List.set_cons_succ, i64_w, i32_w]
        rfl
      refine pure_ (i := 2) (N := some 31) (v := ?_) (a' := ?_) #[false, true, true, false, false, false, false, false, false, false] rfl rfl (any_of HT_.out (by kernel_rfl)) (fun _ _ _ h => h) (Or.inl ⟨by rfl, ?_⟩) ?_ ?_
      rotate_left
      · intro w'
        go_simp
        with_reducible rfl
      rotate_left
      · simp only [Act.put, List.setIfInBounds_toArray, List.set_cons_zero, List.set_cons_succ, i64_w, i32_w]
        rfl
      refine take_ (i := 0) (N := some 29) (v := ?_) (a' := ?_) #[true, true, true, false, false, false, false, false, false, false] rfl rfl (take_ofW HT_.out HW_.out (by kernel_rfl)) (fun _ _ _ h => h) (Or.inl ⟨by rfl, ?_⟩) hHeld ?_ ?_
      rotate_left
      · rintro w' ⟨s0, s1, s2, s3, s4, s5⟩
        go_simp
        with_reducible rfl
      rotate_left
      · simp only [Act.put, List.setIfInBounds_toArray, List.set_cons_zero, List.set_cons_succ, i64_w, i32_w]
        rfl
      refine one_ (i := 3) (N := some 32) #[true, true, true, true, false, false, false, false, false, false] rfl rfl (one_of HT_.out (by kernel_rfl)) (by decide) (fun K hK => ?_)
      refine goes_ Try.func10 (by kernel_rfl) rfl #[.int .i64 a2, .int .i64 20000] (by rfl) rfl rfl (by (try simp only [List.map_toArray, List.map_cons, List.map_nil]); first | done | rfl | (simp only [List.length_drop, List.length_take]; rfl)) ?_
      with_reducible refine (patchbaykeep3_rest.calls a2 20000 t173 _ A10.out).mono ?_
      rintro e w' ⟨rfl, ⟨nd, rfl⟩⟩
      refine ⟨_, rfl, ?_⟩
      refine hK.out _ _ ⟨(blk_cell BK172.out 0).trans rfl, (blk_cell BK172.out 1).trans rfl, (blk_cell BK172.out 2).trans rfl, (blk_cell BK172.out 3).trans rfl, (blk_cell BK172.out 4).trans rfl, (blk_cell BK172.out 5).trans rfl⟩ (fun hHeld => ?_)
      clear hK K
      refine norm_ (a' := ?_) ?_ ?_
      rotate_left
      · show Act.put _ (some 32) _ = _
        simp only [Act.put, List.setIfInBounds_toArray, List.set_cons_zero, List.set_cons_succ, i64_w, i32_w]
        rfl
      refine one_ (i := 4) (N := some 33) #[true, true, true, true, true, false, false, false, false, false] rfl rfl (one_of HT_.out (by kernel_rfl)) (by decide) (fun K hK => ?_)
      refine goes_ Try.func15 (by kernel_rfl) rfl #[.agg #[.int .i64 t164, .int .i64 t165, .int .i64 t166, .int .i64 t167, .bool t168, .int .u32 t169], .int .i64 (wrap64 (1 + t163)), .int .i64 t173] (by rfl) rfl rfl (by (try simp only [List.map_toArray, List.map_cons, List.map_nil]); first | done | rfl | (simp only [List.length_drop, List.length_take]; rfl)) ?_
      with_reducible refine (crowd_Timeout.calls t164 t165 t166 t167 t168 t169 (wrap64 (1 + t163)) t173 t174 t175 t176 t177 t178 t179 t180 _ A11.out).mono ?_
      rintro e w19 ⟨rfl, hb⟩
      refine ⟨_, rfl, ?_⟩
      have n0_ := Aside0.mk (blk_below (g := gb172) (o := .cells #[.int .i64 t164, .int .i64 t165, .int .i64 t166, .int .i64 t167, .bool t168, .int .u32 t169] 26 (0, 0)) (by (with_reducible repeat (first | refine blk_drewN ?_ _ | refine blk_drew ?_ | refine blk_alloc ?_ _)); exact BK172.out) hb)
      have n1_ := Aside0.mk (below_step (by repeat (first | (with_reducible first | exact HB.out | apply below_alloc | apply pw_below_drewN | apply below_drew1 | refine below_set ?_ GE172.out) | exact HB.out)) hb)
      clear BK172
      clear HB
      have BK172 := n0_
      have HB := n1_
      clear n0_ n1_
      (try clear hb)
      (try clear hb2)
      (try clear hk)
      (try clear hi)
      refine hK.out _ _ ⟨(blk_cell BK172.out 0).trans rfl, (blk_cell BK172.out 1).trans rfl, (blk_cell BK172.out 2).trans rfl, (blk_cell BK172.out 3).trans rfl, (blk_cell BK172.out 4).trans rfl, (blk_cell BK172.out 5).trans rfl⟩ (fun hHeld => ?_)
      clear hK K
      refine norm_ (a' := ?_) ?_ ?_
      rotate_left
      · show Act.put _ (some 33) _ = _
        simp only [Act.put, List.setIfInBounds_toArray, List.set_cons_zero, List.set_cons_succ, i64_w, i32_w]
        rfl
      refine pure_ (i := 5) (N := some 28) (v := ?_) (a' := ?_) #[true, true, true, true, true, true, false, false, false, false] rfl rfl (any_of HT_.out (by kernel_rfl)) (fun _ _ _ h => h) (Or.inl ⟨by rfl, ?_⟩) ?_ ?_
      rotate_left
      · intro w'
        go_simp
        with_reducible rfl
      rotate_left
      · simp only [Act.put, List.setIfInBounds_toArray, List.set_cons_zero, List.set_cons_succ, i64_w, i32_w]
        rfl
      refine pure_ (i := 6) (N := some 34) (v := ?_) (a' := ?_) #[true, true, true, true, true, true, true, false, false, false] rfl rfl (any_of HT_.out (by kernel_rfl)) (fun _ _ _ h => h) (Or.inl ⟨by rfl, ?_⟩) ?_ ?_
      rotate_left
      · intro w'
        go_simp
        with_reducible rfl
      rotate_left
      · simp only [Act.put, List.setIfInBounds_toArray, List.set_cons_zero, List.set_cons_succ, i64_w, i32_w]
        rfl
      refine pure_ (i := 7) (N := some 35) (v := ?_) (a' := ?_) #[true, true, true, true, true, true, true, true, false, false] rfl rfl (any_of HT_.out (by kernel_rfl)) (fun _ _ _ h => h) (Or.inl ⟨by rfl, ?_⟩) ?_ ?_
      rotate_left
      · intro w'
        go_simp
        with_reducible rfl
      rotate_left
      · simp only [Act.put, List.setIfInBounds_toArray, List.set_cons_zero, List.set_cons_succ, i64_w, i32_w]
        rfl
      refine last_ (i := 8) (N := none) #[true, true, true, true, true, true, true, true, true, false] rfl rfl (one_of HT_.out (by kernel_rfl)) (by decide) (fun K hK => ?_)
      have hs20 : w19.cell? ⟨gb172, 0, none⟩ = some (.int .i64 t164) := (blk_cell BK172.out 0).trans rfl
      have hfs20 := blk_frozen BK172.out 0
      have hs21 : w19.cell? ⟨gb172, 1, none⟩ = some (.int .i64 t165) := (blk_cell BK172.out 1).trans rfl
      have hfs21 := blk_frozen BK172.out 1
      have hs22 : w19.cell? ⟨gb172, 2, none⟩ = some (.int .i64 t166) := (blk_cell BK172.out 2).trans rfl
      have hfs22 := blk_frozen BK172.out 2
      have hs23 : w19.cell? ⟨gb172, 3, none⟩ = some (.int .i64 t167) := (blk_cell BK172.out 3).trans rfl
      have hfs23 := blk_frozen BK172.out 3
      have hs24 : w19.cell? ⟨gb172, 4, none⟩ = some (.bool t168) := (blk_cell BK172.out 4).trans rfl
      have hfs24 := blk_frozen BK172.out 4
      have hs25 : w19.cell? ⟨gb172, 5, none⟩ = some (.int .u32 t169) := (blk_cell BK172.out 5).trans rfl
      have hfs25 := blk_frozen BK172.out 5
      refine skip_ (w1 := ?_) (by rfl) rfl ?_ ?_
      rotate_left
      · go_simp
        rfl
      refine hK.out _ _ ?_
      clear hK K
      refine pure_ (i := 9) (N := some 11) (v := ?_) (a' := ?_) #[true, true, true, true, true, true, true, true, true, true] rfl rfl (any_of HT_.out (by kernel_rfl)) (fun _ _ _ h => h) (Or.inl ⟨by rfl, ?_⟩) ?_ ?_
      rotate_left
      · intro w'
        go_simp
        with_reducible rfl
      rotate_left
      · simp only [Act.put, List.setIfInBounds_toArray, List.set_cons_zero, List.set_cons_succ, i64_w, i32_w]
        rfl
      refine done_ (done_of HT_.out (by kernel_rfl)) ?_
      go_upto_region 8 with (fail)
      go_cut [47] (fun v47 wc => ∃ (kq : Nat) (x47_11 : Bool), v47 = .bool x47_11 ∧ Aside0 (patchbaykeep3_CrowdRestarts.j0 kq (wrap64 (1 + t163)) a3 t170 x47_11 t174 t175 t176 t177 t178 t179 = some r) ∧ Aside0 (kq ≤ k) ∧ Aside0 (wc.heap[gb172]? = some (.cells #[.int .i64 t174, .int .i64 t175, .int .i64 t176, .int .i64 t177, .bool t178, .int .u32 t179] 26 (0, 0))) ∧ Aside0 (Below w.heap.size w wc))
      case first =>
        have H := HC12.out
        clear HC12
        by_cases c26 : t180 = 0
        · rw [if_pos c26] at H
          have c26b0 : (t180 == 0) = true := beq_iff_eq.mpr c26
          have c26b1 : (t180 != 0) = false := bne_eq_false_iff_eq.mpr c26
          clear c26
          (first | rw [c26b0] | (simp only [i64_w, i32_w]; rw [c26b0]) | skip)
          by_cases c27 : t174 = (wrap64 (1 + t163))
          · rw [if_pos c27] at H
            have c27b0 : (t174 == (wrap64 (1 + t163))) = true := beq_iff_eq.mpr c27
            have c27b1 : (t174 != (wrap64 (1 + t163))) = false := bne_eq_false_iff_eq.mpr c27
            clear c27
            have H' := Aside0.mk H
            clear H
            have hcz28_0 : w19.cell? ⟨gb172, 0, none⟩ = some (.int .i64 t164) := (blk_cell BK172.out 0).trans rfl
            have hcz28_1 : w19.cell? ⟨gb172, 1, none⟩ = some (.int .i64 t165) := (blk_cell BK172.out 1).trans rfl
            have hcz28_2 : w19.cell? ⟨gb172, 2, none⟩ = some (.int .i64 t166) := (blk_cell BK172.out 2).trans rfl
            have hcz28_3 : w19.cell? ⟨gb172, 3, none⟩ = some (.int .i64 t167) := (blk_cell BK172.out 3).trans rfl
            have hcz28_4 : w19.cell? ⟨gb172, 4, none⟩ = some (.bool t168) := (blk_cell BK172.out 4).trans rfl
            have hcz28_5 : w19.cell? ⟨gb172, 5, none⟩ = some (.int .u32 t169) := (blk_cell BK172.out 5).trans rfl
            have hfz28_0 := blk_frozen BK172.out 0
            have hfz28_1 := blk_frozen BK172.out 1
            have hfz28_2 := blk_frozen BK172.out 2
            have hfz28_3 := blk_frozen BK172.out 3
            have hfz28_4 := blk_frozen BK172.out 4
            have hfz28_5 := blk_frozen BK172.out 5
            go_wp2
            go_meet
            case rel => exact ⟨_, (t178), (by first | rfl | (simp; done) | (simp [*]; done)), H', ⟨by first | omega | exact Nat.le_refl _⟩, ⟨by (with_reducible repeat (first | refine blk_drewN ?_ _ | refine blk_drew ?_ | refine blk_alloc ?_ _)); refine blk_put (cs := #[.int .i64 t174, .int .i64 t175, .int .i64 t176, .int .i64 t177, .bool t178, .int .u32 t169]) ?_ 5 _ rfl; (with_reducible repeat (first | refine blk_drewN ?_ _ | refine blk_drew ?_ | refine blk_alloc ?_ _)); refine blk_put (cs := #[.int .i64 t174, .int .i64 t175, .int .i64 t176, .int .i64 t177, .bool t168, .int .u32 t169]) ?_ 4 _ rfl; (with_reducible repeat (first | refine blk_drewN ?_ _ | refine blk_drew ?_ | refine blk_alloc ?_ _)); refine blk_put (cs := #[.int .i64 t174, .int .i64 t175, .int .i64 t176, .int .i64 t167, .bool t168, .int .u32 t169]) ?_ 3 _ rfl; (with_reducible repeat (first | refine blk_drewN ?_ _ | refine blk_drew ?_ | refine blk_alloc ?_ _)); refine blk_put (cs := #[.int .i64 t174, .int .i64 t175, .int .i64 t166, .int .i64 t167, .bool t168, .int .u32 t169]) ?_ 2 _ rfl; (with_reducible repeat (first | refine blk_drewN ?_ _ | refine blk_drew ?_ | refine blk_alloc ?_ _)); refine blk_put (cs := #[.int .i64 t174, .int .i64 t165, .int .i64 t166, .int .i64 t167, .bool t168, .int .u32 t169]) ?_ 1 _ rfl; (with_reducible repeat (first | refine blk_drewN ?_ _ | refine blk_drew ?_ | refine blk_alloc ?_ _)); refine blk_put (cs := #[.int .i64 t164, .int .i64 t165, .int .i64 t166, .int .i64 t167, .bool t168, .int .u32 t169]) ?_ 0 _ rfl; (with_reducible repeat (first | refine blk_drewN ?_ _ | refine blk_drew ?_ | refine blk_alloc ?_ _)); exact BK172.out⟩, ⟨by repeat (first | (with_reducible first | exact HB.out | apply below_alloc | apply pw_below_drewN | apply below_drew1 | refine below_set ?_ GE172.out) | exact HB.out)⟩⟩
          · rw [if_neg c27] at H
            have c27b0 : (t174 == (wrap64 (1 + t163))) = false := beq_eq_false_iff_ne.mpr c27
            have c27b1 : (t174 != (wrap64 (1 + t163))) = true := bne_iff_ne.mpr c27
            have H' := Aside0.mk H
            clear H
            have hcz29_0 : w19.cell? ⟨gb172, 0, none⟩ = some (.int .i64 t164) := (blk_cell BK172.out 0).trans rfl
            have hcz29_1 : w19.cell? ⟨gb172, 1, none⟩ = some (.int .i64 t165) := (blk_cell BK172.out 1).trans rfl
            have hcz29_2 : w19.cell? ⟨gb172, 2, none⟩ = some (.int .i64 t166) := (blk_cell BK172.out 2).trans rfl
            have hcz29_3 : w19.cell? ⟨gb172, 3, none⟩ = some (.int .i64 t167) := (blk_cell BK172.out 3).trans rfl
            have hcz29_4 : w19.cell? ⟨gb172, 4, none⟩ = some (.bool t168) := (blk_cell BK172.out 4).trans rfl
            have hcz29_5 : w19.cell? ⟨gb172, 5, none⟩ = some (.int .u32 t169) := (blk_cell BK172.out 5).trans rfl
            have hfz29_0 := blk_frozen BK172.out 0
            have hfz29_1 := blk_frozen BK172.out 1
            have hfz29_2 := blk_frozen BK172.out 2
            have hfz29_3 := blk_frozen BK172.out 3
            have hfz29_4 := blk_frozen BK172.out 4
            have hfz29_5 := blk_frozen BK172.out 5
            go_wp2
            go_meet
            case rel => exact ⟨_, (true), (by first | rfl | (simp; done) | (simp [*]; done)), H', ⟨by first | omega | exact Nat.le_refl _⟩, ⟨by (with_reducible repeat (first | refine blk_drewN ?_ _ | refine blk_drew ?_ | refine blk_alloc ?_ _)); refine blk_put (cs := #[.int .i64 t174, .int .i64 t175, .int .i64 t176, .int .i64 t177, .bool t178, .int .u32 t169]) ?_ 5 _ rfl; (with_reducible repeat (first | refine blk_drewN ?_ _ | refine blk_drew ?_ | refine blk_alloc ?_ _)); refine blk_put (cs := #[.int .i64 t174, .int .i64 t175, .int .i64 t176, .int .i64 t177, .bool t168, .int .u32 t169]) ?_ 4 _ rfl; (with_reducible repeat (first | refine blk_drewN ?_ _ | refine blk_drew ?_ | refine blk_alloc ?_ _)); refine blk_put (cs := #[.int .i64 t174, .int .i64 t175, .int .i64 t176, .int .i64 t167, .bool t168, .int .u32 t169]) ?_ 3 _ rfl; (with_reducible repeat (first | refine blk_drewN ?_ _ | refine blk_drew ?_ | refine blk_alloc ?_ _)); refine blk_put (cs := #[.int .i64 t174, .int .i64 t175, .int .i64 t166, .int .i64 t167, .bool t168, .int .u32 t169]) ?_ 2 _ rfl; (with_reducible repeat (first | refine blk_drewN ?_ _ | refine blk_drew ?_ | refine blk_alloc ?_ _)); refine blk_put (cs := #[.int .i64 t174, .int .i64 t165, .int .i64 t166, .int .i64 t167, .bool t168, .int .u32 t169]) ?_ 1 _ rfl; (with_reducible repeat (first | refine blk_drewN ?_ _ | refine blk_drew ?_ | refine blk_alloc ?_ _)); refine blk_put (cs := #[.int .i64 t164, .int .i64 t165, .int .i64 t166, .int .i64 t167, .bool t168, .int .u32 t169]) ?_ 0 _ rfl; (with_reducible repeat (first | refine blk_drewN ?_ _ | refine blk_drew ?_ | refine blk_alloc ?_ _)); exact BK172.out⟩, ⟨by repeat (first | (with_reducible first | exact HB.out | apply below_alloc | apply pw_below_drewN | apply below_drew1 | refine below_set ?_ GE172.out) | exact HB.out)⟩⟩
        · rw [if_neg c26] at H
          have c26b0 : (t180 == 0) = false := beq_eq_false_iff_ne.mpr c26
          have c26b1 : (t180 != 0) = true := bne_iff_ne.mpr c26
          (first | rw [c26b0] | (simp only [i64_w, i32_w]; rw [c26b0]) | skip)
          have H' := Aside0.mk H
          clear H
          go_wp2
          go_meet
          case rel => exact ⟨_, (true), (by first | rfl | (simp; done) | (simp [*]; done)), H', ⟨by first | omega | exact Nat.le_refl _⟩, ⟨by (with_reducible repeat (first | refine blk_drewN ?_ _ | refine blk_drew ?_ | refine blk_alloc ?_ _)); refine blk_put (cs := #[.int .i64 t174, .int .i64 t175, .int .i64 t176, .int .i64 t177, .bool t178, .int .u32 t169]) ?_ 5 _ rfl; (with_reducible repeat (first | refine blk_drewN ?_ _ | refine blk_drew ?_ | refine blk_alloc ?_ _)); refine blk_put (cs := #[.int .i64 t174, .int .i64 t175, .int .i64 t176, .int .i64 t177, .bool t168, .int .u32 t169]) ?_ 4 _ rfl; (with_reducible repeat (first | refine blk_drewN ?_ _ | refine blk_drew ?_ | refine blk_alloc ?_ _)); refine blk_put (cs := #[.int .i64 t174, .int .i64 t175, .int .i64 t176, .int .i64 t167, .bool t168, .int .u32 t169]) ?_ 3 _ rfl; (with_reducible repeat (first | refine blk_drewN ?_ _ | refine blk_drew ?_ | refine blk_alloc ?_ _)); refine blk_put (cs := #[.int .i64 t174, .int .i64 t175, .int .i64 t166, .int .i64 t167, .bool t168, .int .u32 t169]) ?_ 2 _ rfl; (with_reducible repeat (first | refine blk_drewN ?_ _ | refine blk_drew ?_ | refine blk_alloc ?_ _)); refine blk_put (cs := #[.int .i64 t174, .int .i64 t165, .int .i64 t166, .int .i64 t167, .bool t168, .int .u32 t169]) ?_ 1 _ rfl; (with_reducible repeat (first | refine blk_drewN ?_ _ | refine blk_drew ?_ | refine blk_alloc ?_ _)); refine blk_put (cs := #[.int .i64 t164, .int .i64 t165, .int .i64 t166, .int .i64 t167, .bool t168, .int .u32 t169]) ?_ 0 _ rfl; (with_reducible repeat (first | refine blk_drewN ?_ _ | refine blk_drew ?_ | refine blk_alloc ?_ _)); exact BK172.out⟩, ⟨by repeat (first | (with_reducible first | exact HB.out | apply below_alloc | apply pw_below_drewN | apply below_drew1 | refine below_set ?_ GE172.out) | exact HB.out)⟩⟩
      case rest =>
        clear HC12
        try clear c1
        try clear c2
        try clear p2
        try clear p3
        try clear c6
        try clear p6
        try clear c7
        try clear c9
        try clear c9b0
        try clear c9b1
        try clear c10
        try clear c13
        try clear c15
        try clear c26
        try clear c26b0
        try clear c26b1
        try clear c27
        try clear c27b0
        try clear c27b1
        try clear hcz16_0
        try clear hcz16_1
        try clear hcz16_2
        try clear hcz16_3
        try clear hcz16_4
        try clear hcz16_5
        try clear hcz28_0
        try clear hcz28_1
        try clear hcz28_2
        try clear hcz28_3
        try clear hcz28_4
        try clear hcz28_5
        try clear hcz29_0
        try clear hcz29_1
        try clear hcz29_2
        try clear hcz29_3
        try clear hcz29_4
        try clear hcz29_5
        try clear hfz16_0
        try clear hfz16_1
        try clear hfz16_2
        try clear hfz16_3
        try clear hfz16_4
        try clear hfz16_5
        try clear hfz28_0
        try clear hfz28_1
        try clear hfz28_2
        try clear hfz28_3
        try clear hfz28_4
        try clear hfz28_5
        try clear hfz29_0
        try clear hfz29_1
        try clear hfz29_2
        try clear hfz29_3
        try clear hfz29_4
        try clear hfz29_5
        obtain ⟨kq, x47_11, rfl, HA, HJ11, BK172, HB⟩ := hcut
        cases kq with
        | zero => exact absurd HA.out (by simp [patchbaykeep3_CrowdRestarts.j0])
        | succ kj11 =>
          have H := HA.out
          clear HA
          simp only [patchbaykeep3_CrowdRestarts.j0] at H
          by_cases c30 : x47_11 = true
          · subst c30
            have H1 : (some false) = some r := by rw [if_pos rfl] at H; exact H
            clear H
            have H := H1
            clear H1
            obtain rfl := Option.some.inj H
            go_wp2
            go_ret
            exact ⟨by first | rfl | (simp [errW_none, errW_some] <;> rfl) | (simp [*, errW_none, errW_some] <;> rfl), by repeat (first | (with_reducible first | exact HB.out | apply below_alloc | apply pw_below_drewN | apply below_drew1 | refine below_set ?_ GE172.out) | exact HB.out)⟩
          · replace c30 := Bool.eq_false_iff.mpr c30
            subst c30
            have H1 : (patchbaykeep3_CrowdRestarts.l0 kj11 (wrap64 (1 + t163)) a3 t170 t175 0 t174 t175 t176 t177 t178 t179) = some r := by rw [if_neg (show ¬ (false = true) by decide)] at H; exact H
            clear H
            have H := H1
            clear H1
            have H' := Aside0.mk H
            clear H
            have hcz31_0 : wc.cell? ⟨gb172, 0, none⟩ = some (.int .i64 t174) := (blk_cell BK172.out 0).trans rfl
            have hcz31_1 : wc.cell? ⟨gb172, 1, none⟩ = some (.int .i64 t175) := (blk_cell BK172.out 1).trans rfl
            have hcz31_2 : wc.cell? ⟨gb172, 2, none⟩ = some (.int .i64 t176) := (blk_cell BK172.out 2).trans rfl
            have hcz31_3 : wc.cell? ⟨gb172, 3, none⟩ = some (.int .i64 t177) := (blk_cell BK172.out 3).trans rfl
            have hcz31_4 : wc.cell? ⟨gb172, 4, none⟩ = some (.bool t178) := (blk_cell BK172.out 4).trans rfl
            have hcz31_5 : wc.cell? ⟨gb172, 5, none⟩ = some (.int .u32 t179) := (blk_cell BK172.out 5).trans rfl
            have hfz31_0 := blk_frozen BK172.out 0
            have hfz31_1 := blk_frozen BK172.out 1
            have hfz31_2 := blk_frozen BK172.out 2
            have hfz31_3 := blk_frozen BK172.out 3
            have hfz31_4 := blk_frozen BK172.out 4
            have hfz31_5 := blk_frozen BK172.out 5
            go_wp2
            go_loopg [10, 13] kj11 (fun kq v10 v13 w' => ∃ (x10_2 : Int) (x13_2 : Int) (x173000_2 : Int) (x173001_2 : Int) (x173002_2 : Int) (x173003_2 : Int) (x173004_2 : Bool) (x173005_2 : Int), v10 = .int .i64 x10_2 ∧ v13 = .int .i64 x13_2 ∧ Aside0 (patchbaykeep3_CrowdRestarts.l0 kq (wrap64 (1 + t163)) a3 x10_2 t175 x13_2 x173000_2 x173001_2 x173002_2 x173003_2 x173004_2 x173005_2 = some r) ∧ Aside0 (kq ≤ kj11) ∧ Aside0 (w'.heap[gb172]? = some (.cells #[.int .i64 x173000_2, .int .i64 x173001_2, .int .i64 x173002_2, .int .i64 x173003_2, .bool x173004_2, .int .u32 x173005_2] 26 (0, 0))) ∧ Aside0 (Below w.heap.size w w'))
            case atStart => exact ⟨(t170), (0), (t174), (t175), (t176), (t177), (t178), (t179), (by first | rfl | (simp; done) | (simp [*]; done)), (by first | rfl | (simp; done) | (simp [*]; done)), H', ⟨Nat.le_refl _⟩, ⟨by (with_reducible repeat (first | refine blk_drewN ?_ _ | refine blk_drew ?_ | refine blk_alloc ?_ _)); exact BK172.out⟩, ⟨by repeat (first | (with_reducible first | exact HB.out | apply below_alloc | apply pw_below_drewN | apply below_drew1 | refine below_set ?_ GE172.out) | exact HB.out)⟩⟩
            case round =>
              clear H'
              try clear c1
              try clear c2
              try clear p2
              try clear c3
              try clear p3
              try clear c6
              try clear p6
              try clear c7
              try clear c9
              try clear c9b0
              try clear c9b1
              try clear c10
              try clear c13
              try clear c15
              try clear c26
              try clear c26b0
              try clear c26b1
              try clear c27
              try clear c27b0
              try clear c27b1
              try clear c30
              try clear hcz16_0
              try clear hcz16_1
              try clear hcz16_2
              try clear hcz16_3
              try clear hcz16_4
              try clear hcz16_5
              try clear hcz28_0
              try clear hcz28_1
              try clear hcz28_2
              try clear hcz28_3
              try clear hcz28_4
              try clear hcz28_5
              try clear hcz29_0
              try clear hcz29_1
              try clear hcz29_2
              try clear hcz29_3
              try clear hcz29_4
              try clear hcz29_5
              try clear hcz31_0
              try clear hcz31_1
              try clear hcz31_2
              try clear hcz31_3
              try clear hcz31_4
              try clear hcz31_5
              try clear hfz16_0
              try clear hfz16_1
              try clear hfz16_2
              try clear hfz16_3
              try clear hfz16_4
              try clear hfz16_5
              try clear hfz28_0
              try clear hfz28_1
              try clear hfz28_2
              try clear hfz28_3
              try clear hfz28_4
              try clear hfz28_5
              try clear hfz29_0
              try clear hfz29_1
              try clear hfz29_2
              try clear hfz29_3
              try clear hfz29_4
              try clear hfz29_5
              try clear hfz31_0
              try clear hfz31_1
              try clear hfz31_2
              try clear hfz31_3
              try clear hfz31_4
              try clear hfz31_5
              try clear p2
              try clear p3
              try clear p6
              obtain ⟨x10_2, x13_2, x173000_2, x173001_2, x173002_2, x173003_2, x173004_2, x173005_2, rfl, rfl, HA, HK2, BK172, HB⟩ := hrel
              cases gk with
              | zero => exact absurd HA.out (by simp [patchbaykeep3_CrowdRestarts.l0])
              | succ k2 =>
                have H := HA.out
                clear HA
                simp only [patchbaykeep3_CrowdRestarts.l0] at H
                have HC32 := Aside0.mk H
                clear H
                go_upto_region 12 with (fail)
                go_cut [59] (fun v59 wc => ∃ (kq : Nat) (x59_31 : Bool), v59 = .bool x59_31 ∧ Aside0 (patchbaykeep3_CrowdRestarts.j2 kq (wrap64 (1 + t163)) a3 x10_2 t175 x13_2 x59_31 x173000_2 x173001_2 x173002_2 x173003_2 x173004_2 x173005_2 = some r) ∧ Aside0 (kq ≤ k2) ∧ Aside0 (wc.heap[gb172]? = some (.cells #[.int .i64 x173000_2, .int .i64 x173001_2, .int .i64 x173002_2, .int .i64 x173003_2, .bool x173004_2, .int .u32 x173005_2] 26 (0, 0))) ∧ Aside0 (Below w.heap.size w wc))
                case first =>
                  have H := HC32.out
                  clear HC32
                  replace H := Option.bind_eq_some_iff.mp H
                  obtain ⟨t181, A330, H⟩ := H
                  replace H : (if x13_2 < t181 then (patchbaykeep3_CrowdRestarts.j2 k2 (wrap64 (1 + t163)) a3 x10_2 t175 x13_2 (decide (x173000_2 < t175)) x173000_2 x173001_2 x173002_2 x173003_2 x173004_2 x173005_2) else (patchbaykeep3_CrowdRestarts.j2 k2 (wrap64 (1 + t163)) a3 x10_2 t175 x13_2 false x173000_2 x173001_2 x173002_2 x173003_2 x173004_2 x173005_2)) = some r := H
                  have A33 := Aside0.mk A330
                  clear A330
                  by_cases c34 : x13_2 < t181
                  · rw [if_pos c34] at H
                    have c34b0 : decide (x13_2 < t181) = true := decide_eq_true c34
                    clear c34
                    (first | rw [c34b0] | (simp only [i64_w, i32_w]; rw [c34b0]) | skip)
                    have H' := Aside0.mk H
                    clear H
                    go_wp2_with (first | ((with_reducible refine gate_callee (f := 10) rfl ?_); refine goesL_ (some 52) rfl rfl Try.func10 (by kernel_rfl) rfl #[.int .i64 a3, .int .i64 30] rfl (by (try simp only [List.map_toArray, List.map_cons, List.map_nil]); first | done | rfl | (simp only [List.length_drop, List.length_take]; rfl)) ?_; (with_reducible refine (patchbaykeep3_rest.calls a3 30 t181 _ A33.out).mono ?_); rintro e w' ⟨rfl, ⟨nd, rfl⟩⟩; refine ⟨_, rfl, ?_⟩; have hcz35_0 : wr.cell? ⟨gb172, 0, none⟩ = some (.int .i64 x173000_2) := (blk_cell BK172.out 0).trans rfl; have hcz35_1 : wr.cell? ⟨gb172, 1, none⟩ = some (.int .i64 x173001_2) := (blk_cell BK172.out 1).trans rfl; have hcz35_2 : wr.cell? ⟨gb172, 2, none⟩ = some (.int .i64 x173002_2) := (blk_cell BK172.out 2).trans rfl; have hcz35_3 : wr.cell? ⟨gb172, 3, none⟩ = some (.int .i64 x173003_2) := (blk_cell BK172.out 3).trans rfl; have hcz35_4 : wr.cell? ⟨gb172, 4, none⟩ = some (.bool x173004_2) := (blk_cell BK172.out 4).trans rfl; have hcz35_5 : wr.cell? ⟨gb172, 5, none⟩ = some (.int .u32 x173005_2) := (blk_cell BK172.out 5).trans rfl; have hfz35_0 := blk_frozen BK172.out 0; have hfz35_1 := blk_frozen BK172.out 1; have hfz35_2 := blk_frozen BK172.out 2; have hfz35_3 := blk_frozen BK172.out 3; have hfz35_4 := blk_frozen BK172.out 4; have hfz35_5 := blk_frozen BK172.out 5))
                    go_meet
                    case rel => exact ⟨_, (decide (x173000_2 < t175)), (by first | rfl | (simp; done) | (simp [*]; done)), H', ⟨by have := HJ11.out; have := HK2.out; first | omega | exact Nat.le_refl _⟩, ⟨by (with_reducible repeat (first | refine blk_drewN ?_ _ | refine blk_drew ?_ | refine blk_alloc ?_ _)); exact BK172.out⟩, ⟨by repeat (first | (with_reducible first | exact HB.out | apply below_alloc | apply pw_below_drewN | apply below_drew1 | refine below_set ?_ GE172.out) | exact HB.out)⟩⟩
                  · rw [if_neg c34] at H
                    have c34b0 : decide (x13_2 < t181) = false := decide_eq_false c34
                    clear c34
                    (first | rw [c34b0] | (simp only [i64_w, i32_w]; rw [c34b0]) | skip)
                    have H' := Aside0.mk H
                    clear H
                    go_wp2_with (first | ((with_reducible refine gate_callee (f := 10) rfl ?_); refine goesL_ (some 52) rfl rfl Try.func10 (by kernel_rfl) rfl #[.int .i64 a3, .int .i64 30] rfl (by (try simp only [List.map_toArray, List.map_cons, List.map_nil]); first | done | rfl | (simp only [List.length_drop, List.length_take]; rfl)) ?_; (with_reducible refine (patchbaykeep3_rest.calls a3 30 t181 _ A33.out).mono ?_); rintro e w' ⟨rfl, ⟨nd, rfl⟩⟩; refine ⟨_, rfl, ?_⟩))
                    go_meet
                    case rel => exact ⟨_, (false), (by first | rfl | (simp; done) | (simp [*]; done)), H', ⟨by have := HJ11.out; have := HK2.out; first | omega | exact Nat.le_refl _⟩, ⟨by (with_reducible repeat (first | refine blk_drewN ?_ _ | refine blk_drew ?_ | refine blk_alloc ?_ _)); exact BK172.out⟩, ⟨by repeat (first | (with_reducible first | exact HB.out | apply below_alloc | apply pw_below_drewN | apply below_drew1 | refine below_set ?_ GE172.out) | exact HB.out)⟩⟩
                case rest =>
                  clear HC32
                  try clear c1
                  try clear c2
                  try clear p2
                  try clear c3
                  try clear p3
                  try clear c6
                  try clear p6
                  try clear c7
                  try clear c9
                  try clear c9b0
                  try clear c9b1
                  try clear c10
                  try clear c13
                  try clear c15
                  try clear c26
                  try clear c26b0
                  try clear c26b1
                  try clear c27
                  try clear c27b0
                  try clear c27b1
                  try clear c30
                  try clear c34
                  try clear c34b0
                  try clear hcz16_0
                  try clear hcz16_1
                  try clear hcz16_2
                  try clear hcz16_3
                  try clear hcz16_4
                  try clear hcz16_5
                  try clear hcz28_0
                  try clear hcz28_1
                  try clear hcz28_2
                  try clear hcz28_3
                  try clear hcz28_4
                  try clear hcz28_5
                  try clear hcz29_0
                  try clear hcz29_1
                  try clear hcz29_2
                  try clear hcz29_3
                  try clear hcz29_4
                  try clear hcz29_5
                  try clear hcz31_0
                  try clear hcz31_1
                  try clear hcz31_2
                  try clear hcz31_3
                  try clear hcz31_4
                  try clear hcz31_5
                  try clear hcz35_0
                  try clear hcz35_1
                  try clear hcz35_2
                  try clear hcz35_3
                  try clear hcz35_4
                  try clear hcz35_5
                  try clear hfz16_0
                  try clear hfz16_1
                  try clear hfz16_2
                  try clear hfz16_3
                  try clear hfz16_4
                  try clear hfz16_5
                  try clear hfz28_0
                  try clear hfz28_1
                  try clear hfz28_2
                  try clear hfz28_3
                  try clear hfz28_4
                  try clear hfz28_5
                  try clear hfz29_0
                  try clear hfz29_1
                  try clear hfz29_2
                  try clear hfz29_3
                  try clear hfz29_4
                  try clear hfz29_5
                  try clear hfz31_0
                  try clear hfz31_1
                  try clear hfz31_2
                  try clear hfz31_3
                  try clear hfz31_4
                  try clear hfz31_5
                  try clear hfz35_0
                  try clear hfz35_1
                  try clear hfz35_2
                  try clear hfz35_3
                  try clear hfz35_4
                  try clear hfz35_5
                  try clear p2
                  try clear p3
                  try clear p6
                  obtain ⟨kq, x59_31, rfl, HA, HJ31, BK172, HB⟩ := hcut
                  cases kq with
                  | zero => exact absurd HA.out (by simp [patchbaykeep3_CrowdRestarts.j2])
                  | succ kj31 =>
                    have H := HA.out
                    clear HA
                    simp only [patchbaykeep3_CrowdRestarts.j2] at H
                    by_cases c36 : x59_31 = true
                    · subst c36
                      have H1 : ((crowd_Ack.f kj31 x173000_2 x173001_2 x173002_2 x173003_2 x173004_2 x173005_2 (wrap64 (1 + t163)) (wrap64 (1 + t163)) ((wrap64 (x10_2 + (wrap64 (1 + t163)))) % 4294967296) ((wrap64 ((wrap64 (x10_2 + (wrap64 (1 + t163)))) + x173000_2)) % 4294967296)).bind fun bt182 => (if bt182.2.2.2.2.2.2.2 = 0 then (if bt182.2.1 = t175 then (if bt182.1 ≥ (wrap64 (t175 + (wrap64 (1 + t163)))) then (some false) else (patchbaykeep3_CrowdRestarts.l0 kj31 (wrap64 (1 + t163)) a3 (wrap64 (x10_2 + (wrap64 (1 + t163)))) t175 (wrap64 (x13_2 + 1)) bt182.1 bt182.2.1 bt182.2.2.1 bt182.2.2.2.1 bt182.2.2.2.2.1 bt182.2.2.2.2.2.1)) else (some false)) else (some false))) = some r := by rw [if_pos rfl] at H; exact H
                      clear H
                      have H := H1
                      clear H1
                      replace H := Option.bind_eq_some_iff.mp H
                      obtain ⟨⟨t182, t183, t184, t185, t186, t187, t188, t189⟩, A370, H⟩ := H
                      replace H : (if t189 = 0 then (if t183 = t175 then (if t182 ≥ (wrap64 (t175 + (wrap64 (1 + t163)))) then (some false) else (patchbaykeep3_CrowdRestarts.l0 kj31 (wrap64 (1 + t163)) a3 (wrap64 (x10_2 + (wrap64 (1 + t163)))) t175 (wrap64 (x13_2 + 1)) t182 t183 t184 t185 t186 t187)) else (some false)) else (some false)) = some r := H
                      have A37 := Aside0.mk A370
                      clear A370
                      by_cases c38 : t189 = 0
                      · rw [if_pos c38] at H
                        have c38b0 : (t189 == 0) = true := beq_iff_eq.mpr c38
                        have c38b1 : (t189 != 0) = false := bne_eq_false_iff_eq.mpr c38
                        clear c38
                        by_cases c39 : t183 = t175
                        · rw [if_pos c39] at H
                          have c39b0 : (t183 == t175) = true := beq_iff_eq.mpr c39
                          have c39b1 : (t183 != t175) = false := bne_eq_false_iff_eq.mpr c39
                          clear c39
                          by_cases c40 : t182 ≥ (wrap64 (t175 + (wrap64 (1 + t163))))
                          · rw [if_pos c40] at H
                            have c40b0 : decide ((wrap64 (t175 + (wrap64 (1 + t163)))) ≤ t182) = true := decide_eq_true c40
                            clear c40
                            obtain rfl := Option.some.inj H
                            have hcz41_0 : wc.cell? ⟨gb172, 0, none⟩ = some (.int .i64 x173000_2) := (blk_cell BK172.out 0).trans rfl
                            have hcz41_1 : wc.cell? ⟨gb172, 1, none⟩ = some (.int .i64 x173001_2) := (blk_cell BK172.out 1).trans rfl
                            have hcz41_2 : wc.cell? ⟨gb172, 2, none⟩ = some (.int .i64 x173002_2) := (blk_cell BK172.out 2).trans rfl
                            have hcz41_3 : wc.cell? ⟨gb172, 3, none⟩ = some (.int .i64 x173003_2) := (blk_cell BK172.out 3).trans rfl
                            have hcz41_4 : wc.cell? ⟨gb172, 4, none⟩ = some (.bool x173004_2) := (blk_cell BK172.out 4).trans rfl
                            have hcz41_5 : wc.cell? ⟨gb172, 5, none⟩ = some (.int .u32 x173005_2) := (blk_cell BK172.out 5).trans rfl
                            have hfz41_0 := blk_frozen BK172.out 0
                            have hfz41_1 := blk_frozen BK172.out 1
                            have hfz41_2 := blk_frozen BK172.out 2
                            have hfz41_3 := blk_frozen BK172.out 3
                            have hfz41_4 := blk_frozen BK172.out 4
                            have hfz41_5 := blk_frozen BK172.out 5
                            go_wp2_with (first | ((with_reducible refine gate_callee (f := 12) rfl ?_); refine goesL_ (some 76) rfl rfl Try.func12 (by kernel_rfl) rfl #[.agg #[.int .i64 x173000_2, .int .i64 x173001_2, .int .i64 x173002_2, .int .i64 x173003_2, .bool x173004_2, .int .u32 x173005_2], .int .i64 (wrap64 (1 + t163)), .int .i64 (wrap64 (1 + t163)), .int .u32 ((wrap64 (x10_2 + (wrap64 (1 + t163)))) % 4294967296), .int .u32 ((wrap64 ((wrap64 (x10_2 + (wrap64 (1 + t163)))) + x173000_2)) % 4294967296)] rfl (by (try simp only [List.map_toArray, List.map_cons, List.map_nil]); first | done | rfl | (simp only [List.length_drop, List.length_take]; rfl)) ?_; (with_reducible refine (crowd_Ack.calls kj31 x173000_2 x173001_2 x173002_2 x173003_2 x173004_2 x173005_2 (wrap64 (1 + t163)) (wrap64 (1 + t163)) ((wrap64 (x10_2 + (wrap64 (1 + t163)))) % 4294967296) ((wrap64 ((wrap64 (x10_2 + (wrap64 (1 + t163)))) + x173000_2)) % 4294967296) t182 t183 t184 t185 t186 t187 t188 t189 _ A37.out).mono ?_); rintro e w42 ⟨rfl, hb⟩; refine ⟨_, rfl, ?_⟩; have n0_ := Aside0.mk (blk_below (g := gb172) (o := .cells #[.int .i64 x173000_2, .int .i64 x173001_2, .int .i64 x173002_2, .int .i64 x173003_2, .bool x173004_2, .int .u32 x173005_2] 26 (0, 0)) (by (with_reducible repeat (first | refine blk_drewN ?_ _ | refine blk_drew ?_ | refine blk_alloc ?_ _)); exact BK172.out) hb); have n1_ := Aside0.mk (below_step (by repeat (first | (with_reducible first | exact HB.out | apply below_alloc | apply pw_below_drewN | apply below_drew1 | refine below_set ?_ GE172.out) | exact HB.out)) hb); clear BK172; clear HB; have BK172 := n0_; have HB := n1_; clear n0_ n1_; (try clear hb); (try clear hb2); (try clear hk); (try clear hi); have hcz43_0 : w42.cell? ⟨gb172, 0, none⟩ = some (.int .i64 x173000_2) := (blk_cell BK172.out 0).trans rfl; have hcz43_1 : w42.cell? ⟨gb172, 1, none⟩ = some (.int .i64 x173001_2) := (blk_cell BK172.out 1).trans rfl; have hcz43_2 : w42.cell? ⟨gb172, 2, none⟩ = some (.int .i64 x173002_2) := (blk_cell BK172.out 2).trans rfl; have hcz43_3 : w42.cell? ⟨gb172, 3, none⟩ = some (.int .i64 x173003_2) := (blk_cell BK172.out 3).trans rfl; have hcz43_4 : w42.cell? ⟨gb172, 4, none⟩ = some (.bool x173004_2) := (blk_cell BK172.out 4).trans rfl; have hcz43_5 : w42.cell? ⟨gb172, 5, none⟩ = some (.int .u32 x173005_2) := (blk_cell BK172.out 5).trans rfl; have hfz43_0 := blk_frozen BK172.out 0; have hfz43_1 := blk_frozen BK172.out 1; have hfz43_2 := blk_frozen BK172.out 2; have hfz43_3 := blk_frozen BK172.out 3; have hfz43_4 := blk_frozen BK172.out 4; have hfz43_5 := blk_frozen BK172.out 5))
                            go_ret
                            exact ⟨by first | rfl | (simp [errW_none, errW_some] <;> rfl) | (simp [*, errW_none, errW_some] <;> rfl), by repeat (first | (with_reducible first | exact HB.out | apply below_alloc | apply pw_below_drewN | apply below_drew1 | refine below_set ?_ GE172.out) | exact HB.out)⟩
                          · rw [if_neg c40] at H
                            have c40b0 : decide ((wrap64 (t175 + (wrap64 (1 + t163)))) ≤ t182) = false := decide_eq_false c40
                            clear c40
                            have H' := Aside0.mk H
                            clear H
                            have hcz44_0 : wc.cell? ⟨gb172, 0, none⟩ = some (.int .i64 x173000_2) := (blk_cell BK172.out 0).trans rfl
                            have hcz44_1 : wc.cell? ⟨gb172, 1, none⟩ = some (.int .i64 x173001_2) := (blk_cell BK172.out 1).trans rfl
                            have hcz44_2 : wc.cell? ⟨gb172, 2, none⟩ = some (.int .i64 x173002_2) := (blk_cell BK172.out 2).trans rfl
                            have hcz44_3 : wc.cell? ⟨gb172, 3, none⟩ = some (.int .i64 x173003_2) := (blk_cell BK172.out 3).trans rfl
                            have hcz44_4 : wc.cell? ⟨gb172, 4, none⟩ = some (.bool x173004_2) := (blk_cell BK172.out 4).trans rfl
                            have hcz44_5 : wc.cell? ⟨gb172, 5, none⟩ = some (.int .u32 x173005_2) := (blk_cell BK172.out 5).trans rfl
                            have hfz44_0 := blk_frozen BK172.out 0
                            have hfz44_1 := blk_frozen BK172.out 1
                            have hfz44_2 := blk_frozen BK172.out 2
                            have hfz44_3 := blk_frozen BK172.out 3
                            have hfz44_4 := blk_frozen BK172.out 4
                            have hfz44_5 := blk_frozen BK172.out 5
                            go_wp2_with (first | ((with_reducible refine gate_callee (f := 12) rfl ?_); refine goesL_ (some 76) rfl rfl Try.func12 (by kernel_rfl) rfl #[.agg #[.int .i64 x173000_2, .int .i64 x173001_2, .int .i64 x173002_2, .int .i64 x173003_2, .bool x173004_2, .int .u32 x173005_2], .int .i64 (wrap64 (1 + t163)), .int .i64 (wrap64 (1 + t163)), .int .u32 ((wrap64 (x10_2 + (wrap64 (1 + t163)))) % 4294967296), .int .u32 ((wrap64 ((wrap64 (x10_2 + (wrap64 (1 + t163)))) + x173000_2)) % 4294967296)] rfl (by (try simp only [List.map_toArray, List.map_cons, List.map_nil]); first | done | rfl | (simp only [List.length_drop, List.length_take]; rfl)) ?_; (with_reducible refine (crowd_Ack.calls kj31 x173000_2 x173001_2 x173002_2 x173003_2 x173004_2 x173005_2 (wrap64 (1 + t163)) (wrap64 (1 + t163)) ((wrap64 (x10_2 + (wrap64 (1 + t163)))) % 4294967296) ((wrap64 ((wrap64 (x10_2 + (wrap64 (1 + t163)))) + x173000_2)) % 4294967296) t182 t183 t184 t185 t186 t187 t188 t189 _ A37.out).mono ?_); rintro e w45 ⟨rfl, hb⟩; refine ⟨_, rfl, ?_⟩; have n0_ := Aside0.mk (blk_below (g := gb172) (o := .cells #[.int .i64 x173000_2, .int .i64 x173001_2, .int .i64 x173002_2, .int .i64 x173003_2, .bool x173004_2, .int .u32 x173005_2] 26 (0, 0)) (by (with_reducible repeat (first | refine blk_drewN ?_ _ | refine blk_drew ?_ | refine blk_alloc ?_ _)); exact BK172.out) hb); have n1_ := Aside0.mk (below_step (by repeat (first | (with_reducible first | exact HB.out | apply below_alloc | apply pw_below_drewN | apply below_drew1 | refine below_set ?_ GE172.out) | exact HB.out)) hb); clear BK172; clear HB; have BK172 := n0_; have HB := n1_; clear n0_ n1_; (try clear hb); (try clear hb2); (try clear hk); (try clear hi); have hcz46_0 : w45.cell? ⟨gb172, 0, none⟩ = some (.int .i64 x173000_2) := (blk_cell BK172.out 0).trans rfl; have hcz46_1 : w45.cell? ⟨gb172, 1, none⟩ = some (.int .i64 x173001_2) := (blk_cell BK172.out 1).trans rfl; have hcz46_2 : w45.cell? ⟨gb172, 2, none⟩ = some (.int .i64 x173002_2) := (blk_cell BK172.out 2).trans rfl; have hcz46_3 : w45.cell? ⟨gb172, 3, none⟩ = some (.int .i64 x173003_2) := (blk_cell BK172.out 3).trans rfl; have hcz46_4 : w45.cell? ⟨gb172, 4, none⟩ = some (.bool x173004_2) := (blk_cell BK172.out 4).trans rfl; have hcz46_5 : w45.cell? ⟨gb172, 5, none⟩ = some (.int .u32 x173005_2) := (blk_cell BK172.out 5).trans rfl; have hfz46_0 := blk_frozen BK172.out 0; have hfz46_1 := blk_frozen BK172.out 1; have hfz46_2 := blk_frozen BK172.out 2; have hfz46_3 := blk_frozen BK172.out 3; have hfz46_4 := blk_frozen BK172.out 4; have hfz46_5 := blk_frozen BK172.out 5))
                            go_roundg kj31
                            case measure => have := HJ11.out; have := HK2.out; have := HJ31.out; omega
                            case rel => exact ⟨(wrap64 (x10_2 + (wrap64 (1 + t163)))), (wrap64 (x13_2 + 1)), (t182), (t183), (t184), (t185), (t186), (t187), (by first | rfl | (simp; done) | (simp [*]; done)), (by first | rfl | (simp; done) | (simp [*]; done)), H', ⟨by have := HJ11.out; have := HK2.out; have := HJ31.out; omega⟩, ⟨by (with_reducible repeat (first | refine blk_drewN ?_ _ | refine blk_drew ?_ | refine blk_alloc ?_ _)); refine blk_put (cs := #[.int .i64 t182, .int .i64 t183, .int .i64 t184, .int .i64 t185, .bool t186, .int .u32 x173005_2]) ?_ 5 _ rfl; (with_reducible repeat (first | refine blk_drewN ?_ _ | refine blk_drew ?_ | refine blk_alloc ?_ _)); refine blk_put (cs := #[.int .i64 t182, .int .i64 t183, .int .i64 t184, .int .i64 t185, .bool x173004_2, .int .u32 x173005_2]) ?_ 4 _ rfl; (with_reducible repeat (first | refine blk_drewN ?_ _ | refine blk_drew ?_ | refine blk_alloc ?_ _)); refine blk_put (cs := #[.int .i64 t182, .int .i64 t183, .int .i64 t184, .int .i64 x173003_2, .bool x173004_2, .int .u32 x173005_2]) ?_ 3 _ rfl; (with_reducible repeat (first | refine blk_drewN ?_ _ | refine blk_drew ?_ | refine blk_alloc ?_ _)); refine blk_put (cs := #[.int .i64 t182, .int .i64 t183, .int .i64 x173002_2, .int .i64 x173003_2, .bool x173004_2, .int .u32 x173005_2]) ?_ 2 _ rfl; (with_reducible repeat (first | refine blk_drewN ?_ _ | refine blk_drew ?_ | refine blk_alloc ?_ _)); refine blk_put (cs := #[.int .i64 t182, .int .i64 x173001_2, .int .i64 x173002_2, .int .i64 x173003_2, .bool x173004_2, .int .u32 x173005_2]) ?_ 1 _ rfl; (with_reducible repeat (first | refine blk_drewN ?_ _ | refine blk_drew ?_ | refine blk_alloc ?_ _)); refine blk_put (cs := #[.int .i64 x173000_2, .int .i64 x173001_2, .int .i64 x173002_2, .int .i64 x173003_2, .bool x173004_2, .int .u32 x173005_2]) ?_ 0 _ rfl; (with_reducible repeat (first | refine blk_drewN ?_ _ | refine blk_drew ?_ | refine blk_alloc ?_ _)); exact BK172.out⟩, ⟨by repeat (first | (with_reducible first | exact HB.out | apply below_alloc | apply pw_below_drewN | apply below_drew1 | refine below_set ?_ GE172.out) | exact HB.out)⟩⟩
                        · rw [if_neg c39] at H
                          have c39b0 : (t183 == t175) = false := beq_eq_false_iff_ne.mpr c39
                          have c39b1 : (t183 != t175) = true := bne_iff_ne.mpr c39
                          obtain rfl := Option.some.inj H
                          have hcz47_0 : wc.cell? ⟨gb172, 0, none⟩ = some (.int .i64 x173000_2) := (blk_cell BK172.out 0).trans rfl
                          have hcz47_1 : wc.cell? ⟨gb172, 1, none⟩ = some (.int .i64 x173001_2) := (blk_cell BK172.out 1).trans rfl
                          have hcz47_2 : wc.cell? ⟨gb172, 2, none⟩ = some (.int .i64 x173002_2) := (blk_cell BK172.out 2).trans rfl
                          have hcz47_3 : wc.cell? ⟨gb172, 3, none⟩ = some (.int .i64 x173003_2) := (blk_cell BK172.out 3).trans rfl
                          have hcz47_4 : wc.cell? ⟨gb172, 4, none⟩ = some (.bool x173004_2) := (blk_cell BK172.out 4).trans rfl
                          have hcz47_5 : wc.cell? ⟨gb172, 5, none⟩ = some (.int .u32 x173005_2) := (blk_cell BK172.out 5).trans rfl
                          have hfz47_0 := blk_frozen BK172.out 0
                          have hfz47_1 := blk_frozen BK172.out 1
                          have hfz47_2 := blk_frozen BK172.out 2
                          have hfz47_3 := blk_frozen BK172.out 3
                          have hfz47_4 := blk_frozen BK172.out 4
                          have hfz47_5 := blk_frozen BK172.out 5
                          go_wp2_with (first | ((with_reducible refine gate_callee (f := 12) rfl ?_); refine goesL_ (some 76) rfl rfl Try.func12 (by kernel_rfl) rfl #[.agg #[.int .i64 x173000_2, .int .i64 x173001_2, .int .i64 x173002_2, .int .i64 x173003_2, .bool x173004_2, .int .u32 x173005_2], .int .i64 (wrap64 (1 + t163)), .int .i64 (wrap64 (1 + t163)), .int .u32 ((wrap64 (x10_2 + (wrap64 (1 + t163)))) % 4294967296), .int .u32 ((wrap64 ((wrap64 (x10_2 + (wrap64 (1 + t163)))) + x173000_2)) % 4294967296)] rfl (by (try simp only [List.map_toArray, List.map_cons, List.map_nil]); first | done | rfl | (simp only [List.length_drop, List.length_take]; rfl)) ?_; (with_reducible refine (crowd_Ack.calls kj31 x173000_2 x173001_2 x173002_2 x173003_2 x173004_2 x173005_2 (wrap64 (1 + t163)) (wrap64 (1 + t163)) ((wrap64 (x10_2 + (wrap64 (1 + t163)))) % 4294967296) ((wrap64 ((wrap64 (x10_2 + (wrap64 (1 + t163)))) + x173000_2)) % 4294967296) t182 t183 t184 t185 t186 t187 t188 t189 _ A37.out).mono ?_); rintro e w48 ⟨rfl, hb⟩; refine ⟨_, rfl, ?_⟩; have n0_ := Aside0.mk (blk_below (g := gb172) (o := .cells #[.int .i64 x173000_2, .int .i64 x173001_2, .int .i64 x173002_2, .int .i64 x173003_2, .bool x173004_2, .int .u32 x173005_2] 26 (0, 0)) (by (with_reducible repeat (first | refine blk_drewN ?_ _ | refine blk_drew ?_ | refine blk_alloc ?_ _)); exact BK172.out) hb); have n1_ := Aside0.mk (below_step (by repeat (first | (with_reducible first | exact HB.out | apply below_alloc | apply pw_below_drewN | apply below_drew1 | refine below_set ?_ GE172.out) | exact HB.out)) hb); clear BK172; clear HB; have BK172 := n0_; have HB := n1_; clear n0_ n1_; (try clear hb); (try clear hb2); (try clear hk); (try clear hi); have hcz49_0 : w48.cell? ⟨gb172, 0, none⟩ = some (.int .i64 x173000_2) := (blk_cell BK172.out 0).trans rfl; have hcz49_1 : w48.cell? ⟨gb172, 1, none⟩ = some (.int .i64 x173001_2) := (blk_cell BK172.out 1).trans rfl; have hcz49_2 : w48.cell? ⟨gb172, 2, none⟩ = some (.int .i64 x173002_2) := (blk_cell BK172.out 2).trans rfl; have hcz49_3 : w48.cell? ⟨gb172, 3, none⟩ = some (.int .i64 x173003_2) := (blk_cell BK172.out 3).trans rfl; have hcz49_4 : w48.cell? ⟨gb172, 4, none⟩ = some (.bool x173004_2) := (blk_cell BK172.out 4).trans rfl; have hcz49_5 : w48.cell? ⟨gb172, 5, none⟩ = some (.int .u32 x173005_2) := (blk_cell BK172.out 5).trans rfl; have hfz49_0 := blk_frozen BK172.out 0; have hfz49_1 := blk_frozen BK172.out 1; have hfz49_2 := blk_frozen BK172.out 2; have hfz49_3 := blk_frozen BK172.out 3; have hfz49_4 := blk_frozen BK172.out 4; have hfz49_5 := blk_frozen BK172.out 5))
                          go_ret
                          exact ⟨by first | rfl | (simp [errW_none, errW_some] <;> rfl) | (simp [*, errW_none, errW_some] <;> rfl), by repeat (first | (with_reducible first | exact HB.out | apply below_alloc | apply pw_below_drewN | apply below_drew1 | refine below_set ?_ GE172.out) | exact HB.out)⟩
                      · rw [if_neg c38] at H
                        have c38b0 : (t189 == 0) = false := beq_eq_false_iff_ne.mpr c38
                        have c38b1 : (t189 != 0) = true := bne_iff_ne.mpr c38
                        obtain rfl := Option.some.inj H
                        have hcz50_0 : wc.cell? ⟨gb172, 0, none⟩ = some (.int .i64 x173000_2) := (blk_cell BK172.out 0).trans rfl
                        have hcz50_1 : wc.cell? ⟨gb172, 1, none⟩ = some (.int .i64 x173001_2) := (blk_cell BK172.out 1).trans rfl
                        have hcz50_2 : wc.cell? ⟨gb172, 2, none⟩ = some (.int .i64 x173002_2) := (blk_cell BK172.out 2).trans rfl
                        have hcz50_3 : wc.cell? ⟨gb172, 3, none⟩ = some (.int .i64 x173003_2) := (blk_cell BK172.out 3).trans rfl
                        have hcz50_4 : wc.cell? ⟨gb172, 4, none⟩ = some (.bool x173004_2) := (blk_cell BK172.out 4).trans rfl
                        have hcz50_5 : wc.cell? ⟨gb172, 5, none⟩ = some (.int .u32 x173005_2) := (blk_cell BK172.out 5).trans rfl
                        have hfz50_0 := blk_frozen BK172.out 0
                        have hfz50_1 := blk_frozen BK172.out 1
                        have hfz50_2 := blk_frozen BK172.out 2
                        have hfz50_3 := blk_frozen BK172.out 3
                        have hfz50_4 := blk_frozen BK172.out 4
                        have hfz50_5 := blk_frozen BK172.out 5
                        go_wp2_with (first | ((with_reducible refine gate_callee (f := 12) rfl ?_); refine goesL_ (some 76) rfl rfl Try.func12 (by kernel_rfl) rfl #[.agg #[.int .i64 x173000_2, .int .i64 x173001_2, .int .i64 x173002_2, .int .i64 x173003_2, .bool x173004_2, .int .u32 x173005_2], .int .i64 (wrap64 (1 + t163)), .int .i64 (wrap64 (1 + t163)), .int .u32 ((wrap64 (x10_2 + (wrap64 (1 + t163)))) % 4294967296), .int .u32 ((wrap64 ((wrap64 (x10_2 + (wrap64 (1 + t163)))) + x173000_2)) % 4294967296)] rfl (by (try simp only [List.map_toArray, List.map_cons, List.map_nil]); first | done | rfl | (simp only [List.length_drop, List.length_take]; rfl)) ?_; (with_reducible refine (crowd_Ack.calls kj31 x173000_2 x173001_2 x173002_2 x173003_2 x173004_2 x173005_2 (wrap64 (1 + t163)) (wrap64 (1 + t163)) ((wrap64 (x10_2 + (wrap64 (1 + t163)))) % 4294967296) ((wrap64 ((wrap64 (x10_2 + (wrap64 (1 + t163)))) + x173000_2)) % 4294967296) t182 t183 t184 t185 t186 t187 t188 t189 _ A37.out).mono ?_); rintro e w51 ⟨rfl, hb⟩; refine ⟨_, rfl, ?_⟩; have n0_ := Aside0.mk (blk_below (g := gb172) (o := .cells #[.int .i64 x173000_2, .int .i64 x173001_2, .int .i64 x173002_2, .int .i64 x173003_2, .bool x173004_2, .int .u32 x173005_2] 26 (0, 0)) (by (with_reducible repeat (first | refine blk_drewN ?_ _ | refine blk_drew ?_ | refine blk_alloc ?_ _)); exact BK172.out) hb); have n1_ := Aside0.mk (below_step (by repeat (first | (with_reducible first | exact HB.out | apply below_alloc | apply pw_below_drewN | apply below_drew1 | refine below_set ?_ GE172.out) | exact HB.out)) hb); clear BK172; clear HB; have BK172 := n0_; have HB := n1_; clear n0_ n1_; (try clear hb); (try clear hb2); (try clear hk); (try clear hi); have hcz52_0 : w51.cell? ⟨gb172, 0, none⟩ = some (.int .i64 x173000_2) := (blk_cell BK172.out 0).trans rfl; have hcz52_1 : w51.cell? ⟨gb172, 1, none⟩ = some (.int .i64 x173001_2) := (blk_cell BK172.out 1).trans rfl; have hcz52_2 : w51.cell? ⟨gb172, 2, none⟩ = some (.int .i64 x173002_2) := (blk_cell BK172.out 2).trans rfl; have hcz52_3 : w51.cell? ⟨gb172, 3, none⟩ = some (.int .i64 x173003_2) := (blk_cell BK172.out 3).trans rfl; have hcz52_4 : w51.cell? ⟨gb172, 4, none⟩ = some (.bool x173004_2) := (blk_cell BK172.out 4).trans rfl; have hcz52_5 : w51.cell? ⟨gb172, 5, none⟩ = some (.int .u32 x173005_2) := (blk_cell BK172.out 5).trans rfl; have hfz52_0 := blk_frozen BK172.out 0; have hfz52_1 := blk_frozen BK172.out 1; have hfz52_2 := blk_frozen BK172.out 2; have hfz52_3 := blk_frozen BK172.out 3; have hfz52_4 := blk_frozen BK172.out 4; have hfz52_5 := blk_frozen BK172.out 5))
                        go_ret
                        exact ⟨by first | rfl | (simp [errW_none, errW_some] <;> rfl) | (simp [*, errW_none, errW_some] <;> rfl), by repeat (first | (with_reducible first | exact HB.out | apply below_alloc | apply pw_below_drewN | apply below_drew1 | refine below_set ?_ GE172.out) | exact HB.out)⟩
                    · replace c36 := Bool.eq_false_iff.mpr c36
                      subst c36
                      have H1 : (some true) = some r := by rw [if_neg (show ¬ (false = true) by decide)] at H; exact H
                      clear H
                      have H := H1
                      clear H1
                      obtain rfl := Option.some.inj H
                      go_wp2
                      go_ret
                      exact ⟨by first | rfl | (simp [errW_none, errW_some] <;> rfl) | (simp [*, errW_none, errW_some] <;> rfl), by repeat (first | (with_reducible first | exact HB.out | apply below_alloc | apply pw_below_drewN | apply below_drew1 | refine below_set ?_ GE172.out) | exact HB.out)⟩
    · rw [if_neg c9] at H
      have c9b0 : (t171 == 0) = false := beq_eq_false_iff_ne.mpr c9
      have c9b1 : (t171 != 0) = true := bne_iff_ne.mpr c9
      obtain rfl := Option.some.inj H
      go_enter Try.func7, Try.ntmps7
      go_wp2_with (first | ((with_reducible refine gate_callee (f := 9) rfl ?_); refine goesL_ (some 14) rfl rfl Try.func9 (by kernel_rfl) rfl #[] rfl (by (try simp only [List.map_toArray, List.map_cons, List.map_nil]); first | done | rfl | (simp only [List.length_drop, List.length_take]; rfl)) ?_; (with_reducible refine (patchbaykeep3_crowdFact.calls k  true _ A5.out).mono ?_); rintro e w53 ⟨rfl, hb⟩; refine ⟨_, rfl, ?_⟩; have n0_ := Aside0.mk (below_step (by repeat (first | (with_reducible first | exact HB.out | apply below_alloc | apply pw_below_drewN | apply below_drew1) | exact HB.out)) hb); clear HB; have HB := n0_; clear n0_; (try clear hb); (try clear hb2); (try clear hk); (try clear hi)) | ((with_reducible refine gate_callee (f := 10) rfl ?_); refine goesL_ (some 17) rfl rfl Try.func10 (by kernel_rfl) rfl #[.int .i64 a0, .int .i64 500] rfl (by (try simp only [List.map_toArray, List.map_cons, List.map_nil]); first | done | rfl | (simp only [List.length_drop, List.length_take]; rfl)) ?_; (with_reducible refine (patchbaykeep3_rest.calls a0 500 t163 _ A7.out).mono ?_); rintro e w' ⟨rfl, ⟨nd, rfl⟩⟩; refine ⟨_, rfl, ?_⟩; (try (rw [drewN_self w53]; generalize hq_ : World.drewN w53 _ = w53; have n0_ : Aside0 (Below w.heap.size w w53) := ⟨by rw [← hq_]; exact (by repeat (first | (with_reducible first | exact HB.out | apply below_alloc | apply pw_below_drewN | apply below_drew1) | exact HB.out))⟩; clear HB hq_; have HB := n0_; clear n0_))) | ((with_reducible refine gate_callee (f := 13) rfl ?_); refine goesL_ (some 22) rfl rfl Try.func13 (by kernel_rfl) rfl #[.int .i64 (wrap64 (1 + t163)), .slice A1 l1.length c1] rfl (by (try simp only [List.map_toArray, List.map_cons, List.map_nil]); first | done | rfl | (simp only [List.length_drop, List.length_take]; rfl)) ?_; (with_reducible refine (patchbaykeep3_grown.calls k (wrap64 (1 + t163)) _ _ l1 t164 t165 t166 t167 t168 t169 t170 t171 _ ?side1 ?side2 A8.out).mono ?_); (case side1 => repeat (first | exact (Kd.C_below HR1.out HB.out) | (with_reducible refine Kd.C_alloc ?_ _) | (with_reducible refine Kd.C_drewN ?_ _) | (with_reducible refine Kd.C_drew ?_))); (case side2 => exact HC1.out); rintro e w54 ⟨rfl, hb⟩; refine ⟨_, rfl, ?_⟩; have n0_ := Aside0.mk (below_step (by repeat (first | (with_reducible first | exact HB.out | apply below_alloc | apply pw_below_drewN | apply below_drew1) | exact HB.out)) hb); clear HB; have HB := n0_; clear n0_; (try clear hb); (try clear hb2); (try clear hk); (try clear hi)) | ((with_reducible refine gate_dst (N := 9) rfl ?_); refine box_event ?hg (N := 9) ?hd (cs := #[.int .i64 0, .int .i64 0, .int .i64 0, .int .i64 0, .bool false, .int .u32 0]) (t := 26) ?hr ?_; (case hd => rfl); (case hg => rfl); (case hr => first | (go_simp; done) | (go_simp; rfl)); intro gb172 hg w55 hbox hb; have n0_ := Aside0.mk (below_step (by repeat (first | (with_reducible first | exact HB.out | apply below_alloc | apply pw_below_drewN | apply below_drew1) | exact HB.out)) hb); have n1_ := Aside0.mk (hbox); have n2_ := Aside0.mk ((by rw [hg]; exact (below_size (by repeat (first | (with_reducible first | exact HB.out | apply below_alloc | apply pw_below_drewN | apply below_drew1) | exact HB.out))) : w.heap.size ≤ gb172)); have n3_ := Aside0.mk ((by rw [hg]; exact (below_size (by repeat (first | (with_reducible first | exact HB.out | apply below_alloc | apply pw_below_drewN | apply below_drew1) | exact HB.out))) : w.heap.size ≤ gb172)); clear HB; have HB := n0_; have BK172 := n1_; have GW172 := n2_; have GE172 := n3_; clear n0_ n1_ n2_ n3_; clear hb hbox hg; have hcz56_0 : w55.cell? ⟨gb172, 0, none⟩ = some (.int .i64 0) := (blk_cell BK172.out 0).trans rfl; have hcz56_1 : w55.cell? ⟨gb172, 1, none⟩ = some (.int .i64 0) := (blk_cell BK172.out 1).trans rfl; have hcz56_2 : w55.cell? ⟨gb172, 2, none⟩ = some (.int .i64 0) := (blk_cell BK172.out 2).trans rfl; have hcz56_3 : w55.cell? ⟨gb172, 3, none⟩ = some (.int .i64 0) := (blk_cell BK172.out 3).trans rfl; have hcz56_4 : w55.cell? ⟨gb172, 4, none⟩ = some (.bool false) := (blk_cell BK172.out 4).trans rfl; have hcz56_5 : w55.cell? ⟨gb172, 5, none⟩ = some (.int .u32 0) := (blk_cell BK172.out 5).trans rfl; have hfz56_0 := blk_frozen BK172.out 0; have hfz56_1 := blk_frozen BK172.out 1; have hfz56_2 := blk_frozen BK172.out 2; have hfz56_3 := blk_frozen BK172.out 3; have hfz56_4 := blk_frozen BK172.out 4; have hfz56_5 := blk_frozen BK172.out 5))
      go_ret
      exact ⟨by first | rfl | (simp [errW_none, errW_some] <;> rfl) | (simp [*, errW_none, errW_some] <;> rfl), by repeat (first | (with_reducible first | exact HB.out | apply below_alloc | apply pw_below_drewN | apply below_drew1 | refine below_set ?_ GE172.out) | exact HB.out)⟩
  · replace c6 := Bool.eq_false_iff.mpr c6
    subst c6
    have H1 : (some false) = some r := by rw [if_neg (show ¬ (false = true) by decide)] at H; exact H
    clear H
    have H := H1
    clear H1
    obtain rfl := Option.some.inj H
    go_enter Try.func7, Try.ntmps7
    go_wp2_with (first | ((with_reducible refine gate_callee (f := 9) rfl ?_); refine goesL_ (some 14) rfl rfl Try.func9 (by kernel_rfl) rfl #[] rfl (by (try simp only [List.map_toArray, List.map_cons, List.map_nil]); first | done | rfl | (simp only [List.length_drop, List.length_take]; rfl)) ?_; (with_reducible refine (patchbaykeep3_crowdFact.calls k  false _ A5.out).mono ?_); rintro e w57 ⟨rfl, hb⟩; refine ⟨_, rfl, ?_⟩; have n0_ := Aside0.mk (below_step (by repeat (first | (with_reducible first | exact HB.out | apply below_alloc | apply pw_below_drewN | apply below_drew1) | exact HB.out)) hb); clear HB; have HB := n0_; clear n0_; (try clear hb); (try clear hb2); (try clear hk); (try clear hi)))
    go_ret
    exact ⟨by first | rfl | (simp [errW_none, errW_some] <;> rfl) | (simp [*, errW_none, errW_some] <;> rfl), by repeat (first | (with_reducible first | exact HB.out | apply below_alloc | apply pw_below_drewN | apply below_drew1) | exact HB.out)⟩

/-- THE ONE PURE STATEMENT of patchbaykeep3_CrowdRestarts: yours. -/
def patchbaykeep3_CrowdRestarts.Pure : Prop := ∀ (a0 : Int) (l1 : List Int) (a2 : Int) (a3 : Int), (Lit.int .i64 a0).wf = true → l1.length ≤ maxLen → l1.length * 8 ≤ 140737488351232 → (∀ x ∈ l1, (Lit.int .i64 x).wf = true) → (Lit.int .i64 a2).wf = true → (Lit.int .i64 a3).wf = true → ∃ k, patchbaykeep3_CrowdRestarts.f k a0 l1 a2 a3 = some true
theorem patchbaykeep3_CrowdRestarts.walk (P : patchbaykeep3_CrowdRestarts.Pure) (a0 : Int) (a1 : Option Addr) (len1 cap1 : Nat) (z1 : List Int) (a2 : Int) (a3 : Int) (w : World) (w0 : (Lit.int .i64 a0).wf = true) (w1 : (a1 = none ∧ len1 = 0 ∧ cap1 = 0 ∧ z1 = []) ∨ ∃ x, a1 = some x ∧ len1 ≤ cap1 ∧ cap1 ≤ maxLen ∧ z1.length = cap1 ∧ (∀ i, i < z1.length → w.cell? (x.add i) = some (.int .i64 (z1.getD i 0))) ∧ ∀ n ∈ z1, (Lit.int .i64 n).wf = true) (y1 : len1 * 8 ≤ 140737488351232) (w2 : (Lit.int .i64 a2).wf = true) (w3 : (Lit.int .i64 a3).wf = true) :
    Calls Try.prog 7 #[.int .i64 a0, .slice a1 len1 cap1, .int .i64 a2, .int .i64 a3] w fun e w' => e = .returned (.bool true) ∧ Below w.heap.size w w' := by
  obtain ⟨l1, rfl, hr1, hm1, hw1, hc1⟩ := ReadsInt.ofRowC w1
  obtain ⟨k, h⟩ := P a0 l1 a2 a3 w0 hm1 y1 hw1 w2 w3
  refine (patchbaykeep3_CrowdRestarts.calls k a0 _ _ l1 a2 a3 true w (Kd.C_of_reads (d := (0 : Int)) (h1 := fun _ => rfl) hr1) hc1 h).mono ?_
  rintro e w' ⟨rfl, hd⟩
  exact ⟨rfl, hd⟩

end Go.Proofs.Ytopjfkcoknenfaa.PCrowdRestarts
