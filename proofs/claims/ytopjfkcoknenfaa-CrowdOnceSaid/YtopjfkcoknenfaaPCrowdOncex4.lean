-- PRINTED BY print.sh 35421559b90ae4d0a3588c463048766b98c2df88dd9212a6774a882060cdf62d: not written by this session
import Derived.Test.YtopjfkcoknenfaaPCrowdOncex0
import Derived.Test.YtopjfkcoknenfaaPCrowdOncex2
import Derived.Test.YtopjfkcoknenfaaPCrowdOncex3
namespace Go.Proofs.Ytopjfkcoknenfaa.PCrowdOnce
open Go.RowKit Go.Proofs.YtopjfkcoknenfaaW.PrintWords Go.Proofs.YtopjfkcoknenfaaW.PrintLast Go.Proofs.YtopjfkcoknenfaaW.PrintMore
attribute [local go_sem] max2_int min2_int max_two min_two max_three min_three max_four min_four   -- for this text's walks alone
set_option linter.unusedVariables false
set_option linter.unusedSimpArgs false

/-! ### patchbaykeep3_CrowdOnce: function 5 -/
mutual
def patchbaykeep3_CrowdOnce.l0 : Nat → Int → Int → Int → List Int → Int → Int → Int → Int → Int → Bool → Int → Option (Bool)
  | 0, _, _, _, _, _, _, _, _, _, _, _ => none
  | k + 1, x0, x1, x2, x3, x12, x137000, x137001, x137002, x137003, x137004, x137005 => if x12 < 3 then ((crowd_Ack.f k x137000 x137001 x137002 x137003 x137004 x137005 x0 0 0 ((x1) % 4294967296)).bind fun bt137 => (if bt137.2.2.2.2.2.2.2 = 0 then (if (bt137.2.2.2.2.2.2.1 != (x12 == 2)) = true then (some false) else (patchbaykeep3_CrowdOnce.l0 k x0 x1 x2 x3 (wrap64 (x12 + 1)) bt137.1 bt137.2.1 bt137.2.2.1 bt137.2.2.2.1 bt137.2.2.2.2.1 bt137.2.2.2.2.2.1)) else (some false))) else (if x137004 = true then (if x137001 = (mx (wrap64 (Int.tdiv x1 2)) (wrap64 (2 * x0))) then (patchbaykeep3_CrowdOnce.j1 k x0 x1 x2 x3 (mx (wrap64 (Int.tdiv x1 2)) (wrap64 (2 * x0))) (x137005 != ((x1) % 4294967296)) x137000 x137001 x137002 x137003 x137004 x137005) else (patchbaykeep3_CrowdOnce.j1 k x0 x1 x2 x3 (mx (wrap64 (Int.tdiv x1 2)) (wrap64 (2 * x0))) true x137000 x137001 x137002 x137003 x137004 x137005)) else (patchbaykeep3_CrowdOnce.j1 k x0 x1 x2 x3 (mx (wrap64 (Int.tdiv x1 2)) (wrap64 (2 * x0))) true x137000 x137001 x137002 x137003 x137004 x137005))
def patchbaykeep3_CrowdOnce.j1 : Nat → Int → Int → Int → List Int → Int → Bool → Int → Int → Int → Int → Bool → Int → Option (Bool)
  | 0, _, _, _, _, _, _, _, _, _, _, _, _ => none
  | k + 1, x0, x1, x2, x3, x13, x73, x137000, x137001, x137002, x137003, x137004, x137005 => if x73 = true then (some false) else (patchbaykeep3_CrowdOnce.l1 k x0 x1 x2 x3 x13 0 x137000 x137001 x137002 x137003 x137004 x137005)
def patchbaykeep3_CrowdOnce.l1 : Nat → Int → Int → Int → List Int → Int → Int → Int → Int → Int → Int → Bool → Int → Option (Bool)
  | 0, _, _, _, _, _, _, _, _, _, _, _, _ => none
  | k + 1, x0, x1, x2, x3, x13, x14, x137000, x137001, x137002, x137003, x137004, x137005 => (patchbaykeep3_rest.f x2 10).bind fun t145 => (if x14 < t145 then ((crowd_Ack.f k x137000 x137001 x137002 x137003 x137004 x137005 x0 0 0 ((x1) % 4294967296)).bind fun bt146 => (if bt146.2.2.2.2.2.2.2 = 0 then (if bt146.2.2.2.2.2.2.1 = true then (some false) else (if bt146.2.1 = x13 then (patchbaykeep3_CrowdOnce.l1 k x0 x1 x2 x3 x13 (wrap64 (x14 + 1)) bt146.1 bt146.2.1 bt146.2.2.1 bt146.2.2.2.1 bt146.2.2.2.2.1 bt146.2.2.2.2.2.1) else (some false))) else (some false))) else (patchbaykeep3_CrowdOnce.l2 k x0 x1 x3 x13 0 0 x137000 x137001 x137002 x137003 x137004 x137005))
def patchbaykeep3_CrowdOnce.l2 : Nat → Int → Int → List Int → Int → Int → Int → Int → Int → Int → Int → Bool → Int → Option (Bool)
  | 0, _, _, _, _, _, _, _, _, _, _, _, _ => none
  | k + 1, x0, x1, x3, x13, x15, x16, x137000, x137001, x137002, x137003, x137004, x137005 => if x16 < (x3.length : Int) then (patchbaykeep3_CrowdOnce.j4 k x0 x1 x3 x13 x15 x16 (decide (x16 < 10)) x137000 x137001 x137002 x137003 x137004 x137005) else (patchbaykeep3_CrowdOnce.j4 k x0 x1 x3 x13 x15 x16 false x137000 x137001 x137002 x137003 x137004 x137005)
def patchbaykeep3_CrowdOnce.j4 : Nat → Int → Int → List Int → Int → Int → Int → Bool → Int → Int → Int → Int → Bool → Int → Option (Bool)
  | 0, _, _, _, _, _, _, _, _, _, _, _, _, _ => none
  | k + 1, x0, x1, x3, x13, x15, x16, x107, x137000, x137001, x137002, x137003, x137004, x137005 => if x107 = true then (if 0 ≤ x16 then (if x16 < (x3.length : Int) then ((patchbaykeep3_rest.f (rd x3 x16) 100).bind fun t163 => (if (wrap64 (x15 + (wrap64 (1 + t163)))) ≥ x1 then ((crowd_Ack.f k x137000 x137001 x137002 x137003 x137004 x137005 x0 (wrap64 (x1 - x15)) ((x1) % 4294967296) ((x1) % 4294967296)).bind fun bt164 => (if bt164.2.2.2.2.2.2.2 = 0 then (if bt164.2.2.2.2.2.2.1 = true then (some false) else (if bt164.2.2.2.2.1 = true then (some false) else (some (bt164.1 == x13)))) else (some false))) else ((crowd_Ack.f k x137000 x137001 x137002 x137003 x137004 x137005 x0 (wrap64 (1 + t163)) ((wrap64 (x15 + (wrap64 (1 + t163)))) % 4294967296) ((x1) % 4294967296)).bind fun bt172 => (if bt172.2.2.2.2.2.2.2 = 0 then (if bt172.2.2.2.2.2.2.1 = true then (if bt172.2.2.2.2.1 = true then (if bt172.2.1 = x13 then (patchbaykeep3_CrowdOnce.l2 k x0 x1 x3 x13 (wrap64 (x15 + (wrap64 (1 + t163)))) (wrap64 (x16 + 1)) bt172.1 bt172.2.1 bt172.2.2.1 bt172.2.2.2.1 bt172.2.2.2.2.1 bt172.2.2.2.2.2.1) else (some false)) else (some false)) else (some false)) else (some false))))) else (none)) else (none)) else ((crowd_Ack.f k x137000 x137001 x137002 x137003 x137004 x137005 x0 (wrap64 (x1 - x15)) ((x1) % 4294967296) ((x1) % 4294967296)).bind fun bt154 => (if bt154.2.2.2.2.2.2.2 = 0 then (if bt154.2.2.2.2.2.2.1 = true then (some false) else (if bt154.2.2.2.2.1 = true then (some false) else (some (bt154.1 == x13)))) else (some false)))
end
def patchbaykeep3_CrowdOnce.f (k : Nat) (a0 : Int) (a1 : Int) (a2 : Int) (l3 : List Int) : Option (Bool) := (patchbaykeep3_crowdFact.f k).bind fun t133 => (if t133 = true then ((patchbaykeep3_rest.f a0 500).bind fun t134 => ((patchbaykeep3_rest.f a1 20000).bind fun t135 => (patchbaykeep3_CrowdOnce.l0 k (wrap64 (1 + t134)) (wrap64 ((wrap64 (4 * (wrap64 (1 + t134)))) + t135)) a2 l3 0 (wrap64 ((wrap64 (4 * (wrap64 (1 + t134)))) + t135)) (wrap64 (2 * (wrap64 (1 + t134)))) 0 0 false 0))) else (some false))
theorem patchbaykeep3_CrowdOnce.mono_l : ∀ k, (∀ y0 y1 y2 y3 y4 y5 y6 y7 y8 y9 y10, LeO (patchbaykeep3_CrowdOnce.l0 k y0 y1 y2 y3 y4 y5 y6 y7 y8 y9 y10) (patchbaykeep3_CrowdOnce.l0 (k + 1) y0 y1 y2 y3 y4 y5 y6 y7 y8 y9 y10)) ∧ (∀ y0 y1 y2 y3 y4 y5 y6 y7 y8 y9 y10 y11, LeO (patchbaykeep3_CrowdOnce.j1 k y0 y1 y2 y3 y4 y5 y6 y7 y8 y9 y10 y11) (patchbaykeep3_CrowdOnce.j1 (k + 1) y0 y1 y2 y3 y4 y5 y6 y7 y8 y9 y10 y11)) ∧ (∀ y0 y1 y2 y3 y4 y5 y6 y7 y8 y9 y10 y11, LeO (patchbaykeep3_CrowdOnce.l1 k y0 y1 y2 y3 y4 y5 y6 y7 y8 y9 y10 y11) (patchbaykeep3_CrowdOnce.l1 (k + 1) y0 y1 y2 y3 y4 y5 y6 y7 y8 y9 y10 y11)) ∧ (∀ y0 y1 y2 y3 y4 y5 y6 y7 y8 y9 y10 y11, LeO (patchbaykeep3_CrowdOnce.l2 k y0 y1 y2 y3 y4 y5 y6 y7 y8 y9 y10 y11) (patchbaykeep3_CrowdOnce.l2 (k + 1) y0 y1 y2 y3 y4 y5 y6 y7 y8 y9 y10 y11)) ∧ (∀ y0 y1 y2 y3 y4 y5 y6 y7 y8 y9 y10 y11 y12, LeO (patchbaykeep3_CrowdOnce.j4 k y0 y1 y2 y3 y4 y5 y6 y7 y8 y9 y10 y11 y12) (patchbaykeep3_CrowdOnce.j4 (k + 1) y0 y1 y2 y3 y4 y5 y6 y7 y8 y9 y10 y11 y12))
  | 0 => ⟨fun _ _ _ _ _ _ _ _ _ _ _ r h => by simp [patchbaykeep3_CrowdOnce.l0] at h, fun _ _ _ _ _ _ _ _ _ _ _ _ r h => by simp [patchbaykeep3_CrowdOnce.j1] at h, fun _ _ _ _ _ _ _ _ _ _ _ _ r h => by simp [patchbaykeep3_CrowdOnce.l1] at h, fun _ _ _ _ _ _ _ _ _ _ _ _ r h => by simp [patchbaykeep3_CrowdOnce.l2] at h, fun _ _ _ _ _ _ _ _ _ _ _ _ _ r h => by simp [patchbaykeep3_CrowdOnce.j4] at h⟩
  | k + 1 => by
    obtain ⟨ih0, ih1, ih2, ih3, ih4⟩ := patchbaykeep3_CrowdOnce.mono_l k
    refine ⟨?_, ?_, ?_, ?_, ?_⟩
    · intro y0 y1 y2 y3 y4 y5 y6 y7 y8 y9 y10
      unfold patchbaykeep3_CrowdOnce.l0
      repeat' first
      | (with_reducible exact ih0 _ _ _ _ _ _ _ _ _ _ _)
      | (with_reducible exact ih1 _ _ _ _ _ _ _ _ _ _ _ _)
      | (with_reducible exact ih2 _ _ _ _ _ _ _ _ _ _ _ _)
      | (with_reducible exact ih3 _ _ _ _ _ _ _ _ _ _ _ _)
      | (with_reducible exact ih4 _ _ _ _ _ _ _ _ _ _ _ _ _)
      | (with_reducible exact crowd_Ack.mono _ _ _ _ _ _ _ _ _ _ _)
      | (with_reducible exact patchbaykeep3_crowdFact.mono _)
      | (with_reducible exact LeO.refl _)
      | (with_reducible exact LeO.none _)
      | (with_reducible refine LeO.ite ?_ ?_)
      | (with_reducible refine LeO.bind ?_ (fun _ => ?_))
      | exact ih0 _ _ _ _ _ _ _ _ _ _ _
      | exact ih1 _ _ _ _ _ _ _ _ _ _ _ _
      | exact ih2 _ _ _ _ _ _ _ _ _ _ _ _
      | exact ih3 _ _ _ _ _ _ _ _ _ _ _ _
      | exact ih4 _ _ _ _ _ _ _ _ _ _ _ _ _
      | exact crowd_Ack.mono _ _ _ _ _ _ _ _ _ _ _
      | exact patchbaykeep3_crowdFact.mono _
      | exact LeO.none _
      | refine LeO.ite ?_ ?_
      | refine LeO.bind ?_ (fun _ => ?_)
    · intro y0 y1 y2 y3 y4 y5 y6 y7 y8 y9 y10 y11
      unfold patchbaykeep3_CrowdOnce.j1
      repeat' first
      | (with_reducible exact ih0 _ _ _ _ _ _ _ _ _ _ _)
      | (with_reducible exact ih1 _ _ _ _ _ _ _ _ _ _ _ _)
      | (with_reducible exact ih2 _ _ _ _ _ _ _ _ _ _ _ _)
      | (with_reducible exact ih3 _ _ _ _ _ _ _ _ _ _ _ _)
      | (with_reducible exact ih4 _ _ _ _ _ _ _ _ _ _ _ _ _)
      | (with_reducible exact crowd_Ack.mono _ _ _ _ _ _ _ _ _ _ _)
      | (with_reducible exact patchbaykeep3_crowdFact.mono _)
      | (with_reducible exact LeO.refl _)
      | (with_reducible exact LeO.none _)
      | (with_reducible refine LeO.ite ?_ ?_)
      | (with_reducible refine LeO.bind ?_ (fun _ => ?_))
      | exact ih0 _ _ _ _ _ _ _ _ _ _ _
      | exact ih1 _ _ _ _ _ _ _ _ _ _ _ _
      | exact ih2 _ _ _ _ _ _ _ _ _ _ _ _
      | exact ih3 _ _ _ _ _ _ _ _ _ _ _ _
      | exact ih4 _ _ _ _ _ _ _ _ _ _ _ _ _
      | exact crowd_Ack.mono _ _ _ _ _ _ _ _ _ _ _
      | exact patchbaykeep3_crowdFact.mono _
      | exact LeO.none _
      | refine LeO.ite ?_ ?_
      | refine LeO.bind ?_ (fun _ => ?_)
    · intro y0 y1 y2 y3 y4 y5 y6 y7 y8 y9 y10 y11
      unfold patchbaykeep3_CrowdOnce.l1
      repeat' first
      | (with_reducible exact ih0 _ _ _ _ _ _ _ _ _ _ _)
      | (with_reducible exact ih1 _ _ _ _ _ _ _ _ _ _ _ _)
      | (with_reducible exact ih2 _ _ _ _ _ _ _ _ _ _ _ _)
      | (with_reducible exact ih3 _ _ _ _ _ _ _ _ _ _ _ _)
      | (with_reducible exact ih4 _ _ _ _ _ _ _ _ _ _ _ _ _)
      | (with_reducible exact crowd_Ack.mono _ _ _ _ _ _ _ _ _ _ _)
      | (with_reducible exact patchbaykeep3_crowdFact.mono _)
      | (with_reducible exact LeO.refl _)
      | (with_reducible exact LeO.none _)
      | (with_reducible refine LeO.ite ?_ ?_)
      | (with_reducible refine LeO.bind ?_ (fun _ => ?_))
      | exact ih0 _ _ _ _ _ _ _ _ _ _ _
      | exact ih1 _ _ _ _ _ _ _ _ _ _ _ _
      | exact ih2 _ _ _ _ _ _ _ _ _ _ _ _
      | exact ih3 _ _ _ _ _ _ _ _ _ _ _ _
      | exact ih4 _ _ _ _ _ _ _ _ _ _ _ _ _
      | exact crowd_Ack.mono _ _ _ _ _ _ _ _ _ _ _
      | exact patchbaykeep3_crowdFact.mono _
      | exact LeO.none _
      | refine LeO.ite ?_ ?_
      | refine LeO.bind ?_ (fun _ => ?_)
    · intro y0 y1 y2 y3 y4 y5 y6 y7 y8 y9 y10 y11
      unfold patchbaykeep3_CrowdOnce.l2
      repeat' first
      | (with_reducible exact ih0 _ _ _ _ _ _ _ _ _ _ _)
      | (with_reducible exact ih1 _ _ _ _ _ _ _ _ _ _ _ _)
      | (with_reducible exact ih2 _ _ _ _ _ _ _ _ _ _ _ _)
      | (with_reducible exact ih3 _ _ _ _ _ _ _ _ _ _ _ _)
      | (with_reducible exact ih4 _ _ _ _ _ _ _ _ _ _ _ _ _)
      | (with_reducible exact crowd_Ack.mono _ _ _ _ _ _ _ _ _ _ _)
      | (with_reducible exact patchbaykeep3_crowdFact.mono _)
      | (with_reducible exact LeO.refl _)
      | (with_reducible exact LeO.none _)
      | (with_reducible refine LeO.ite ?_ ?_)
      | (with_reducible refine LeO.bind ?_ (fun _ => ?_))
      | exact ih0 _ _ _ _ _ _ _ _ _ _ _
      | exact ih1 _ _ _ _ _ _ _ _ _ _ _ _
      | exact ih2 _ _ _ _ _ _ _ _ _ _ _ _
      | exact ih3 _ _ _ _ _ _ _ _ _ _ _ _
      | exact ih4 _ _ _ _ _ _ _ _ _ _ _ _ _
      | exact crowd_Ack.mono _ _ _ _ _ _ _ _ _ _ _
      | exact patchbaykeep3_crowdFact.mono _
      | exact LeO.none _
      | refine LeO.ite ?_ ?_
      | refine LeO.bind ?_ (fun _ => ?_)
    · intro y0 y1 y2 y3 y4 y5 y6 y7 y8 y9 y10 y11 y12
      unfold patchbaykeep3_CrowdOnce.j4
      repeat' first
      | (with_reducible exact ih0 _ _ _ _ _ _ _ _ _ _ _)
      | (with_reducible exact ih1 _ _ _ _ _ _ _ _ _ _ _ _)
      | (with_reducible exact ih2 _ _ _ _ _ _ _ _ _ _ _ _)
      | (with_reducible exact ih3 _ _ _ _ _ _ _ _ _ _ _ _)
      | (with_reducible exact ih4 _ _ _ _ _ _ _ _ _ _ _ _ _)
      | (with_reducible exact crowd_Ack.mono _ _ _ _ _ _ _ _ _ _ _)
      | (with_reducible exact patchbaykeep3_crowdFact.mono _)
      | (with_reducible exact LeO.refl _)
      | (with_reducible exact LeO.none _)
      | (with_reducible refine LeO.ite ?_ ?_)
      | (with_reducible refine LeO.bind ?_ (fun _ => ?_))
      | exact ih0 _ _ _ _ _ _ _ _ _ _ _
      | exact ih1 _ _ _ _ _ _ _ _ _ _ _ _
      | exact ih2 _ _ _ _ _ _ _ _ _ _ _ _
      | exact ih3 _ _ _ _ _ _ _ _ _ _ _ _
      | exact ih4 _ _ _ _ _ _ _ _ _ _ _ _ _
      | exact crowd_Ack.mono _ _ _ _ _ _ _ _ _ _ _
      | exact patchbaykeep3_crowdFact.mono _
      | exact LeO.none _
      | refine LeO.ite ?_ ?_
      | refine LeO.bind ?_ (fun _ => ?_)
theorem patchbaykeep3_CrowdOnce.mono : ∀ a0 a1 a2 a3 k, LeO (patchbaykeep3_CrowdOnce.f k a0 a1 a2 a3) (patchbaykeep3_CrowdOnce.f (k + 1) a0 a1 a2 a3) := by
  intro a0 a1 a2 a3 k
  obtain ⟨ih0, ih1, ih2, ih3, ih4⟩ := patchbaykeep3_CrowdOnce.mono_l k
  unfold patchbaykeep3_CrowdOnce.f
  repeat' first
      | (with_reducible exact ih0 _ _ _ _ _ _ _ _ _ _ _)
      | (with_reducible exact ih1 _ _ _ _ _ _ _ _ _ _ _ _)
      | (with_reducible exact ih2 _ _ _ _ _ _ _ _ _ _ _ _)
      | (with_reducible exact ih3 _ _ _ _ _ _ _ _ _ _ _ _)
      | (with_reducible exact ih4 _ _ _ _ _ _ _ _ _ _ _ _ _)
      | (with_reducible exact crowd_Ack.mono _ _ _ _ _ _ _ _ _ _ _)
      | (with_reducible exact patchbaykeep3_crowdFact.mono _)
      | (with_reducible exact LeO.refl _)
      | (with_reducible exact LeO.none _)
      | (with_reducible refine LeO.ite ?_ ?_)
      | (with_reducible refine LeO.bind ?_ (fun _ => ?_))
      | exact ih0 _ _ _ _ _ _ _ _ _ _ _
      | exact ih1 _ _ _ _ _ _ _ _ _ _ _ _
      | exact ih2 _ _ _ _ _ _ _ _ _ _ _ _
      | exact ih3 _ _ _ _ _ _ _ _ _ _ _ _
      | exact ih4 _ _ _ _ _ _ _ _ _ _ _ _ _
      | exact crowd_Ack.mono _ _ _ _ _ _ _ _ _ _ _
      | exact patchbaykeep3_crowdFact.mono _
      | exact LeO.none _
      | refine LeO.ite ?_ ?_
      | refine LeO.bind ?_ (fun _ => ?_)
set_option maxHeartbeats 8000000 in
set_option maxRecDepth 100000 in
theorem patchbaykeep3_CrowdOnce.calls (k : Nat) (a0 : Int) (a1 : Int) (a2 : Int) (A3 : Option Addr) (c3 : Nat) (l3 : List Int) (r : Bool) (w : World) (hr3 : Kd.C (Kd.int .i64) w A3 l3.length l3) (hc3 : l3.length ≤ c3) (h : patchbaykeep3_CrowdOnce.f k a0 a1 a2 l3 = some r) :
    Calls Try.prog 5 #[.int .i64 a0, .int .i64 a1, .int .i64 a2, .slice A3 l3.length c3] w fun e w' => e = .returned (.bool r) ∧ Below w.heap.size w w' := by
  have hu26 := Try.underlying26
  have HR3 := Aside0.mk hr3
  have HC3 := Aside0.mk hc3
  clear hr3 hc3
  have HB := Aside0.mk (Below.refl w.heap.size w)
  have H : ((patchbaykeep3_crowdFact.f k).bind fun t133 => (if t133 = true then ((patchbaykeep3_rest.f a0 500).bind fun t134 => ((patchbaykeep3_rest.f a1 20000).bind fun t135 => (patchbaykeep3_CrowdOnce.l0 k (wrap64 (1 + t134)) (wrap64 ((wrap64 (4 * (wrap64 (1 + t134)))) + t135)) a2 l3 0 (wrap64 ((wrap64 (4 * (wrap64 (1 + t134)))) + t135)) (wrap64 (2 * (wrap64 (1 + t134)))) 0 0 false 0))) else (some false))) = some r := h
  clear h
  replace H := Option.bind_eq_some_iff.mp H
  obtain ⟨t133, A50, H⟩ := H
  replace H : (if t133 = true then ((patchbaykeep3_rest.f a0 500).bind fun t134 => ((patchbaykeep3_rest.f a1 20000).bind fun t135 => (patchbaykeep3_CrowdOnce.l0 k (wrap64 (1 + t134)) (wrap64 ((wrap64 (4 * (wrap64 (1 + t134)))) + t135)) a2 l3 0 (wrap64 ((wrap64 (4 * (wrap64 (1 + t134)))) + t135)) (wrap64 (2 * (wrap64 (1 + t134)))) 0 0 false 0))) else (some false)) = some r := H
  have A5 := Aside0.mk A50
  clear A50
  by_cases c6 : t133 = true
  · subst c6
    have H1 : ((patchbaykeep3_rest.f a0 500).bind fun t134 => ((patchbaykeep3_rest.f a1 20000).bind fun t135 => (patchbaykeep3_CrowdOnce.l0 k (wrap64 (1 + t134)) (wrap64 ((wrap64 (4 * (wrap64 (1 + t134)))) + t135)) a2 l3 0 (wrap64 ((wrap64 (4 * (wrap64 (1 + t134)))) + t135)) (wrap64 (2 * (wrap64 (1 + t134)))) 0 0 false 0))) = some r := by rw [if_pos rfl] at H; exact H
    clear H
    have H := H1
    clear H1
    replace H := Option.bind_eq_some_iff.mp H
    obtain ⟨t134, A70, H⟩ := H
    replace H : ((patchbaykeep3_rest.f a1 20000).bind fun t135 => (patchbaykeep3_CrowdOnce.l0 k (wrap64 (1 + t134)) (wrap64 ((wrap64 (4 * (wrap64 (1 + t134)))) + t135)) a2 l3 0 (wrap64 ((wrap64 (4 * (wrap64 (1 + t134)))) + t135)) (wrap64 (2 * (wrap64 (1 + t134)))) 0 0 false 0)) = some r := H
    have A7 := Aside0.mk A70
    clear A70
    replace H := Option.bind_eq_some_iff.mp H
    obtain ⟨t135, A80, H⟩ := H
    replace H : (patchbaykeep3_CrowdOnce.l0 k (wrap64 (1 + t134)) (wrap64 ((wrap64 (4 * (wrap64 (1 + t134)))) + t135)) a2 l3 0 (wrap64 ((wrap64 (4 * (wrap64 (1 + t134)))) + t135)) (wrap64 (2 * (wrap64 (1 + t134)))) 0 0 false 0) = some r := H
    have A8 := Aside0.mk A80
    clear A80
    have H' := Aside0.mk H
    clear H
    go_enter Try.func5, Try.ntmps5
    go_wp2_with (first | ((with_reducible refine gate_callee (f := 9) rfl ?_); refine goesL_ (some 18) rfl rfl Try.func9 (by kernel_rfl) rfl #[] rfl (by (try simp only [List.map_toArray, List.map_cons, List.map_nil]); first | done | rfl | (simp only [List.length_drop, List.length_take]; rfl)) ?_; (with_reducible refine (patchbaykeep3_crowdFact.calls k  true _ A5.out).mono ?_); rintro e w9 ⟨rfl, hb⟩; refine ⟨_, rfl, ?_⟩; have n0_ := Aside0.mk (below_step (by repeat (first | (with_reducible first | exact HB.out | apply below_alloc | apply pw_below_drewN | apply below_drew1) | exact HB.out)) hb); clear HB; have HB := n0_; clear n0_; (try clear hb); (try clear hb2); (try clear hk); (try clear hi)) | ((with_reducible refine gate_callee (f := 10) rfl ?_); refine goesL_ (some 21) rfl rfl Try.func10 (by kernel_rfl) rfl #[.int .i64 a0, .int .i64 500] rfl (by (try simp only [List.map_toArray, List.map_cons, List.map_nil]); first | done | rfl | (simp only [List.length_drop, List.length_take]; rfl)) ?_; (with_reducible refine (patchbaykeep3_rest.calls a0 500 t134 _ A7.out).mono ?_); rintro e w' ⟨rfl, ⟨nd, rfl⟩⟩; refine ⟨_, rfl, ?_⟩; (try (rw [drewN_self w9]; generalize hq_ : World.drewN w9 _ = w9; have n0_ : Aside0 (Below w.heap.size w w9) := ⟨by rw [← hq_]; exact (by repeat (first | (with_reducible first | exact HB.out | apply below_alloc | apply pw_below_drewN | apply below_drew1) | exact HB.out))⟩; clear HB hq_; have HB := n0_; clear n0_))) | ((with_reducible refine gate_callee (f := 10) rfl ?_); refine goesL_ (some 26) rfl rfl Try.func10 (by kernel_rfl) rfl #[.int .i64 a1, .int .i64 20000] rfl (by (try simp only [List.map_toArray, List.map_cons, List.map_nil]); first | done | rfl | (simp only [List.length_drop, List.length_take]; rfl)) ?_; (with_reducible refine (patchbaykeep3_rest.calls a1 20000 t135 _ A8.out).mono ?_); rintro e w' ⟨rfl, ⟨nd, rfl⟩⟩; refine ⟨_, rfl, ?_⟩; (try (rw [drewN_self w9]; generalize hq_ : World.drewN w9 _ = w9; have n0_ : Aside0 (Below w.heap.size w w9) := ⟨by rw [← hq_]; exact (by repeat (first | (with_reducible first | exact HB.out | apply below_alloc | apply pw_below_drewN | apply below_drew1) | exact HB.out))⟩; clear HB hq_; have HB := n0_; clear n0_))) | ((with_reducible refine gate_dst (N := 9) rfl ?_); refine box_event ?hg (N := 9) ?hd (cs := #[.int .i64 0, .int .i64 0, .int .i64 0, .int .i64 0, .bool false, .int .u32 0]) (t := 26) ?hr ?_; (case hd => rfl); (case hg => rfl); (case hr => first | (go_simp; done) | (go_simp; rfl)); intro gb136 hg w10 hbox hb; have n0_ := Aside0.mk (below_step (by repeat (first | (with_reducible first | exact HB.out | apply below_alloc | apply pw_below_drewN | apply below_drew1) | exact HB.out)) hb); have n1_ := Aside0.mk (hbox); have n2_ := Aside0.mk ((by rw [hg]; exact (below_size (by repeat (first | (with_reducible first | exact HB.out | apply below_alloc | apply pw_below_drewN | apply below_drew1) | exact HB.out))) : w.heap.size ≤ gb136)); have n3_ := Aside0.mk ((by rw [hg]; exact (below_size (by repeat (first | (with_reducible first | exact HB.out | apply below_alloc | apply pw_below_drewN | apply below_drew1) | exact HB.out))) : w.heap.size ≤ gb136)); clear HB; have HB := n0_; have BK136 := n1_; have GW136 := n2_; have GE136 := n3_; clear n0_ n1_ n2_ n3_; clear hb hbox hg; have hcz11_0 : w10.cell? ⟨gb136, 0, none⟩ = some (.int .i64 0) := (blk_cell BK136.out 0).trans rfl; have hcz11_1 : w10.cell? ⟨gb136, 1, none⟩ = some (.int .i64 0) := (blk_cell BK136.out 1).trans rfl; have hcz11_2 : w10.cell? ⟨gb136, 2, none⟩ = some (.int .i64 0) := (blk_cell BK136.out 2).trans rfl; have hcz11_3 : w10.cell? ⟨gb136, 3, none⟩ = some (.int .i64 0) := (blk_cell BK136.out 3).trans rfl; have hcz11_4 : w10.cell? ⟨gb136, 4, none⟩ = some (.bool false) := (blk_cell BK136.out 4).trans rfl; have hcz11_5 : w10.cell? ⟨gb136, 5, none⟩ = some (.int .u32 0) := (blk_cell BK136.out 5).trans rfl; have hfz11_0 := blk_frozen BK136.out 0; have hfz11_1 := blk_frozen BK136.out 1; have hfz11_2 := blk_frozen BK136.out 2; have hfz11_3 := blk_frozen BK136.out 3; have hfz11_4 := blk_frozen BK136.out 4; have hfz11_5 := blk_frozen BK136.out 5))
    go_loopg [12] k (fun kq v12 w' => ∃ (x12_1 : Int) (x137000_1 : Int) (x137001_1 : Int) (x137002_1 : Int) (x137003_1 : Int) (x137004_1 : Bool) (x137005_1 : Int), v12 = .int .i64 x12_1 ∧ Aside0 (patchbaykeep3_CrowdOnce.l0 kq (wrap64 (1 + t134)) (wrap64 ((wrap64 (4 * (wrap64 (1 + t134)))) + t135)) a2 l3 x12_1 x137000_1 x137001_1 x137002_1 x137003_1 x137004_1 x137005_1 = some r) ∧ Aside0 (kq ≤ k) ∧ Aside0 (w'.heap[gb136]? = some (.cells #[.int .i64 x137000_1, .int .i64 x137001_1, .int .i64 x137002_1, .int .i64 x137003_1, .bool x137004_1, .int .u32 x137005_1] 26 (0, 0))) ∧ Aside0 (Below w.heap.size w w'))
    case atStart => exact ⟨(0), (wrap64 ((wrap64 (4 * (wrap64 (1 + t134)))) + t135)), (wrap64 (2 * (wrap64 (1 + t134)))), (0), (0), (false), (0), (by first | rfl | (simp; done) | (simp [*]; done)), H', ⟨Nat.le_refl _⟩, ⟨by (with_reducible repeat (first | refine blk_drewN ?_ _ | refine blk_drew ?_ | refine blk_alloc ?_ _)); refine blk_put (cs := #[.int .i64 (wrap64 ((wrap64 (4 * (wrap64 (1 + t134)))) + t135)), .int .i64 (wrap64 (2 * (wrap64 (1 + t134)))), .int .i64 0, .int .i64 0, .bool false, .int .u32 0]) ?_ 5 _ rfl; (with_reducible repeat (first | refine blk_drewN ?_ _ | refine blk_drew ?_ | refine blk_alloc ?_ _)); refine blk_put (cs := #[.int .i64 (wrap64 ((wrap64 (4 * (wrap64 (1 + t134)))) + t135)), .int .i64 (wrap64 (2 * (wrap64 (1 + t134)))), .int .i64 0, .int .i64 0, .bool false, .int .u32 0]) ?_ 4 _ rfl; (with_reducible repeat (first | refine blk_drewN ?_ _ | refine blk_drew ?_ | refine blk_alloc ?_ _)); refine blk_put (cs := #[.int .i64 (wrap64 ((wrap64 (4 * (wrap64 (1 + t134)))) + t135)), .int .i64 (wrap64 (2 * (wrap64 (1 + t134)))), .int .i64 0, .int .i64 0, .bool false, .int .u32 0]) ?_ 3 _ rfl; (with_reducible repeat (first | refine blk_drewN ?_ _ | refine blk_drew ?_ | refine blk_alloc ?_ _)); refine blk_put (cs := #[.int .i64 (wrap64 ((wrap64 (4 * (wrap64 (1 + t134)))) + t135)), .int .i64 (wrap64 (2 * (wrap64 (1 + t134)))), .int .i64 0, .int .i64 0, .bool false, .int .u32 0]) ?_ 2 _ rfl; (with_reducible repeat (first | refine blk_drewN ?_ _ | refine blk_drew ?_ | refine blk_alloc ?_ _)); refine blk_put (cs := #[.int .i64 (wrap64 ((wrap64 (4 * (wrap64 (1 + t134)))) + t135)), .int .i64 0, .int .i64 0, .int .i64 0, .bool false, .int .u32 0]) ?_ 1 _ rfl; (with_reducible repeat (first | refine blk_drewN ?_ _ | refine blk_drew ?_ | refine blk_alloc ?_ _)); refine blk_put (cs := #[.int .i64 0, .int .i64 0, .int .i64 0, .int .i64 0, .bool false, .int .u32 0]) ?_ 0 _ rfl; (with_reducible repeat (first | refine blk_drewN ?_ _ | refine blk_drew ?_ | refine blk_alloc ?_ _)); exact BK136.out⟩, ⟨by repeat (first | (with_reducible first | exact HB.out | apply below_alloc | apply pw_below_drewN | apply below_drew1 | refine below_set ?_ GE136.out) | exact HB.out)⟩⟩
    case round =>
      clear H'
      try clear c1
      try clear p2
      try clear c3
      try clear p3
      try clear c5
      try clear c6
      try clear p6
      try clear c9
      try clear c10
      try clear hcz11_0
      try clear hcz11_1
      try clear hcz11_2
      try clear hcz11_3
      try clear hcz11_4
      try clear hcz11_5
      try clear hfz11_0
      try clear hfz11_1
      try clear hfz11_2
      try clear hfz11_3
      try clear hfz11_4
      try clear hfz11_5
      obtain ⟨x12_1, x137000_1, x137001_1, x137002_1, x137003_1, x137004_1, x137005_1, rfl, HA, HK1, BK136, HB⟩ := hrel
      cases gk with
      | zero => exact absurd HA.out (by simp [patchbaykeep3_CrowdOnce.l0])
      | succ k1 =>
        have H := HA.out
        clear HA
        simp only [patchbaykeep3_CrowdOnce.l0] at H
        by_cases c12 : x12_1 < 3
        · rw [if_pos c12] at H
          have c12b0 : decide (x12_1 < 3) = true := decide_eq_true c12
          clear c12
          replace H := Option.bind_eq_some_iff.mp H
          obtain ⟨⟨t137, t138, t139, t140, t141, t142, t143, t144⟩, A130, H⟩ := H
          replace H : (if t144 = 0 then (if (t143 != (x12_1 == 2)) = true then (some false) else (patchbaykeep3_CrowdOnce.l0 k1 (wrap64 (1 + t134)) (wrap64 ((wrap64 (4 * (wrap64 (1 + t134)))) + t135)) a2 l3 (wrap64 (x12_1 + 1)) t137 t138 t139 t140 t141 t142)) else (some false)) = some r := H
          have A13 := Aside0.mk A130
          clear A130
          by_cases c14 : t144 = 0
          · rw [if_pos c14] at H
            have c14b0 : (t144 == 0) = true := beq_iff_eq.mpr c14
            have c14b1 : (t144 != 0) = false := bne_eq_false_iff_eq.mpr c14
            clear c14
            by_cases c15 : (t143 != (x12_1 == 2)) = true
            · rw [if_pos c15] at H
              have c15b0 : (t143 != (x12_1 == 2)) = true := c15
              (try (have c15b1 : decide (t143 = (x12_1 == 2)) = false := by simpa using c15))
              (try (have c15b2 : (t143 == (x12_1 == 2)) = false := by simpa using c15))
              (try (have c15b3 : ¬ (t143 = (x12_1 == 2)) := by simpa using c15))
              clear c15
              obtain rfl := Option.some.inj H
              have hcz16_0 : wr.cell? ⟨gb136, 0, none⟩ = some (.int .i64 x137000_1) := (blk_cell BK136.out 0).trans rfl
              have hcz16_1 : wr.cell? ⟨gb136, 1, none⟩ = some (.int .i64 x137001_1) := (blk_cell BK136.out 1).trans rfl
              have hcz16_2 : wr.cell? ⟨gb136, 2, none⟩ = some (.int .i64 x137002_1) := (blk_cell BK136.out 2).trans rfl
              have hcz16_3 : wr.cell? ⟨gb136, 3, none⟩ = some (.int .i64 x137003_1) := (blk_cell BK136.out 3).trans rfl
              have hcz16_4 : wr.cell? ⟨gb136, 4, none⟩ = some (.bool x137004_1) := (blk_cell BK136.out 4).trans rfl
              have hcz16_5 : wr.cell? ⟨gb136, 5, none⟩ = some (.int .u32 x137005_1) := (blk_cell BK136.out 5).trans rfl
              have hfz16_0 := blk_frozen BK136.out 0
              have hfz16_1 := blk_frozen BK136.out 1
              have hfz16_2 := blk_frozen BK136.out 2
              have hfz16_3 := blk_frozen BK136.out 3
              have hfz16_4 := blk_frozen BK136.out 4
              have hfz16_5 := blk_frozen BK136.out 5
              go_wp2_with (first | ((with_reducible refine gate_callee (f := 12) rfl ?_); refine goesL_ (some 41) rfl rfl Try.func12 (by kernel_rfl) rfl #[.agg #[.int .i64 x137000_1, .int .i64 x137001_1, .int .i64 x137002_1, .int .i64 x137003_1, .bool x137004_1, .int .u32 x137005_1], .int .i64 (wrap64 (1 + t134)), .int .i64 0, .int .u32 0, .int .u32 (((wrap64 ((wrap64 (4 * (wrap64 (1 + t134)))) + t135))) % 4294967296)] rfl (by (try simp only [List.map_toArray, List.map_cons, List.map_nil]); first | done | rfl | (simp only [List.length_drop, List.length_take]; rfl)) ?_; (with_reducible refine (crowd_Ack.calls k1 x137000_1 x137001_1 x137002_1 x137003_1 x137004_1 x137005_1 (wrap64 (1 + t134)) 0 0 (((wrap64 ((wrap64 (4 * (wrap64 (1 + t134)))) + t135))) % 4294967296) t137 t138 t139 t140 t141 t142 t143 t144 _ A13.out).mono ?_); rintro e w17 ⟨rfl, hb⟩; refine ⟨_, rfl, ?_⟩; have n0_ := Aside0.mk (blk_below (g := gb136) (o := .cells #[.int .i64 x137000_1, .int .i64 x137001_1, .int .i64 x137002_1, .int .i64 x137003_1, .bool x137004_1, .int .u32 x137005_1] 26 (0, 0)) (by (with_reducible repeat (first | refine blk_drewN ?_ _ | refine blk_drew ?_ | refine blk_alloc ?_ _)); exact BK136.out) hb); have n1_ := Aside0.mk (below_step (by repeat (first | (with_reducible first | exact HB.out | apply below_alloc | apply pw_below_drewN | apply below_drew1 | refine below_set ?_ GE136.out) | exact HB.out)) hb); clear BK136; clear HB; have BK136 := n0_; have HB := n1_; clear n0_ n1_; (try clear hb); (try clear hb2); (try clear hk); (try clear hi); have hcz18_0 : w17.cell? ⟨gb136, 0, none⟩ = some (.int .i64 x137000_1) := (blk_cell BK136.out 0).trans rfl; have hcz18_1 : w17.cell? ⟨gb136, 1, none⟩ = some (.int .i64 x137001_1) := (blk_cell BK136.out 1).trans rfl; have hcz18_2 : w17.cell? ⟨gb136, 2, none⟩ = some (.int .i64 x137002_1) := (blk_cell BK136.out 2).trans rfl; have hcz18_3 : w17.cell? ⟨gb136, 3, none⟩ = some (.int .i64 x137003_1) := (blk_cell BK136.out 3).trans rfl; have hcz18_4 : w17.cell? ⟨gb136, 4, none⟩ = some (.bool x137004_1) := (blk_cell BK136.out 4).trans rfl; have hcz18_5 : w17.cell? ⟨gb136, 5, none⟩ = some (.int .u32 x137005_1) := (blk_cell BK136.out 5).trans rfl; have hfz18_0 := blk_frozen BK136.out 0; have hfz18_1 := blk_frozen BK136.out 1; have hfz18_2 := blk_frozen BK136.out 2; have hfz18_3 := blk_frozen BK136.out 3; have hfz18_4 := blk_frozen BK136.out 4; have hfz18_5 := blk_frozen BK136.out 5))
              go_ret
              exact ⟨by first | rfl | (simp [errW_none, errW_some] <;> rfl) | (simp [*, errW_none, errW_some] <;> rfl), by repeat (first | (with_reducible first | exact HB.out | apply below_alloc | apply pw_below_drewN | apply below_drew1 | refine below_set ?_ GE136.out) | exact HB.out)⟩
            · rw [if_neg c15] at H
              have c15b0 : (t143 != (x12_1 == 2)) = false := by simpa using c15
              (try (have c15b1 : decide (t143 = (x12_1 == 2)) = true := by simpa using c15))
              (try (have c15b2 : (t143 == (x12_1 == 2)) = true := by simpa using c15))
              clear c15
              have H' := Aside0.mk H
              clear H
              have hcz19_0 : wr.cell? ⟨gb136, 0, none⟩ = some (.int .i64 x137000_1) := (blk_cell BK136.out 0).trans rfl
              have hcz19_1 : wr.cell? ⟨gb136, 1, none⟩ = some (.int .i64 x137001_1) := (blk_cell BK136.out 1).trans rfl
              have hcz19_2 : wr.cell? ⟨gb136, 2, none⟩ = some (.int .i64 x137002_1) := (blk_cell BK136.out 2).trans rfl
              have hcz19_3 : wr.cell? ⟨gb136, 3, none⟩ = some (.int .i64 x137003_1) := (blk_cell BK136.out 3).trans rfl
              have hcz19_4 : wr.cell? ⟨gb136, 4, none⟩ = some (.bool x137004_1) := (blk_cell BK136.out 4).trans rfl
              have hcz19_5 : wr.cell? ⟨gb136, 5, none⟩ = some (.int .u32 x137005_1) := (blk_cell BK136.out 5).trans rfl
              have hfz19_0 := blk_frozen BK136.out 0
              have hfz19_1 := blk_frozen BK136.out 1
              have hfz19_2 := blk_frozen BK136.out 2
              have hfz19_3 := blk_frozen BK136.out 3
              have hfz19_4 := blk_frozen BK136.out 4
              have hfz19_5 := blk_frozen BK136.out 5
              go_wp2_with (first | ((with_reducible refine gate_callee (f := 12) rfl ?_); refine goesL_ (some 41) rfl rfl Try.func12 (by kernel_rfl) rfl #[.agg #[.int .i64 x137000_1, .int .i64 x137001_1, .int .i64 x137002_1, .int .i64 x137003_1, .bool x137004_1, .int .u32 x137005_1], .int .i64 (wrap64 (1 + t134)), .int .i64 0, .int .u32 0, .int .u32 (((wrap64 ((wrap64 (4 * (wrap64 (1 + t134)))) + t135))) % 4294967296)] rfl (by (try simp only [List.map_toArray, List.map_cons, List.map_nil]); first | done | rfl | (simp only [List.length_drop, List.length_take]; rfl)) ?_; (with_reducible refine (crowd_Ack.calls k1 x137000_1 x137001_1 x137002_1 x137003_1 x137004_1 x137005_1 (wrap64 (1 + t134)) 0 0 (((wrap64 ((wrap64 (4 * (wrap64 (1 + t134)))) + t135))) % 4294967296) t137 t138 t139 t140 t141 t142 t143 t144 _ A13.out).mono ?_); rintro e w20 ⟨rfl, hb⟩; refine ⟨_, rfl, ?_⟩; have n0_ := Aside0.mk (blk_below (g := gb136) (o := .cells #[.int .i64 x137000_1, .int .i64 x137001_1, .int .i64 x137002_1, .int .i64 x137003_1, .bool x137004_1, .int .u32 x137005_1] 26 (0, 0)) (by (with_reducible repeat (first | refine blk_drewN ?_ _ | refine blk_drew ?_ | refine blk_alloc ?_ _)); exact BK136.out) hb); have n1_ := Aside0.mk (below_step (by repeat (first | (with_reducible first | exact HB.out | apply below_alloc | apply pw_below_drewN | apply below_drew1 | refine below_set ?_ GE136.out) | exact HB.out)) hb); clear BK136; clear HB; have BK136 := n0_; have HB := n1_; clear n0_ n1_; (try clear hb); (try clear hb2); (try clear hk); (try clear hi); have hcz21_0 : w20.cell? ⟨gb136, 0, none⟩ = some (.int .i64 x137000_1) := (blk_cell BK136.out 0).trans rfl; have hcz21_1 : w20.cell? ⟨gb136, 1, none⟩ = some (.int .i64 x137001_1) := (blk_cell BK136.out 1).trans rfl; have hcz21_2 : w20.cell? ⟨gb136, 2, none⟩ = some (.int .i64 x137002_1) := (blk_cell BK136.out 2).trans rfl; have hcz21_3 : w20.cell? ⟨gb136, 3, none⟩ = some (.int .i64 x137003_1) := (blk_cell BK136.out 3).trans rfl; have hcz21_4 : w20.cell? ⟨gb136, 4, none⟩ = some (.bool x137004_1) := (blk_cell BK136.out 4).trans rfl; have hcz21_5 : w20.cell? ⟨gb136, 5, none⟩ = some (.int .u32 x137005_1) := (blk_cell BK136.out 5).trans rfl; have hfz21_0 := blk_frozen BK136.out 0; have hfz21_1 := blk_frozen BK136.out 1; have hfz21_2 := blk_frozen BK136.out 2; have hfz21_3 := blk_frozen BK136.out 3; have hfz21_4 := blk_frozen BK136.out 4; have hfz21_5 := blk_frozen BK136.out 5))
              go_roundg k1
              case measure => have := HK1.out; omega
              case rel => exact ⟨(wrap64 (x12_1 + 1)), (t137), (t138), (t139), (t140), (t141), (t142), (by first | rfl | (simp; done) | (simp [*]; done)), H', ⟨by have := HK1.out; omega⟩, ⟨by (with_reducible repeat (first | refine blk_drewN ?_ _ | refine blk_drew ?_ | refine blk_alloc ?_ _)); refine blk_put (cs := #[.int .i64 t137, .int .i64 t138, .int .i64 t139, .int .i64 t140, .bool t141, .int .u32 x137005_1]) ?_ 5 _ rfl; (with_reducible repeat (first | refine blk_drewN ?_ _ | refine blk_drew ?_ | refine blk_alloc ?_ _)); refine blk_put (cs := #[.int .i64 t137, .int .i64 t138, .int .i64 t139, .int .i64 t140, .bool x137004_1, .int .u32 x137005_1]) ?_ 4 _ rfl; (with_reducible repeat (first | refine blk_drewN ?_ _ | refine blk_drew ?_ | refine blk_alloc ?_ _)); refine blk_put (cs := #[.int .i64 t137, .int .i64 t138, .int .i64 t139, .int .i64 x137003_1, .bool x137004_1, .int .u32 x137005_1]) ?_ 3 _ rfl; (with_reducible repeat (first | refine blk_drewN ?_ _ | refine blk_drew ?_ | refine blk_alloc ?_ _)); refine blk_put (cs := #[.int .i64 t137, .int .i64 t138, .int .i64 x137002_1, .int .i64 x137003_1, .bool x137004_1, .int .u32 x137005_1]) ?_ 2 _ rfl; (with_reducible repeat (first | refine blk_drewN ?_ _ | refine blk_drew ?_ | refine blk_alloc ?_ _)); refine blk_put (cs := #[.int .i64 t137, .int .i64 x137001_1, .int .i64 x137002_1, .int .i64 x137003_1, .bool x137004_1, .int .u32 x137005_1]) ?_ 1 _ rfl; (with_reducible repeat (first | refine blk_drewN ?_ _ | refine blk_drew ?_ | refine blk_alloc ?_ _)); refine blk_put (cs := #[.int .i64 x137000_1, .int .i64 x137001_1, .int .i64 x137002_1, .int .i64 x137003_1, .bool x137004_1, .int .u32 x137005_1]) ?_ 0 _ rfl; (with_reducible repeat (first | refine blk_drewN ?_ _ | refine blk_drew ?_ | refine blk_alloc ?_ _)); exact BK136.out⟩, ⟨by repeat (first | (with_reducible first | exact HB.out | apply below_alloc | apply pw_below_drewN | apply below_drew1 | refine below_set ?_ GE136.out) | exact HB.out)⟩⟩
          · rw [if_neg c14] at H
            have c14b0 : (t144 == 0) = false := beq_eq_false_iff_ne.mpr c14
            have c14b1 : (t144 != 0) = true := bne_iff_ne.mpr c14
            obtain rfl := Option.some.inj H
            have hcz22_0 : wr.cell? ⟨gb136, 0, none⟩ = some (.int .i64 x137000_1) := (blk_cell BK136.out 0).trans rfl
            have hcz22_1 : wr.cell? ⟨gb136, 1, none⟩ = some (.int .i64 x137001_1) := (blk_cell BK136.out 1).trans rfl
            have hcz22_2 : wr.cell? ⟨gb136, 2, none⟩ = some (.int .i64 x137002_1) := (blk_cell BK136.out 2).trans rfl
            have hcz22_3 : wr.cell? ⟨gb136, 3, none⟩ = some (.int .i64 x137003_1) := (blk_cell BK136.out 3).trans rfl
            have hcz22_4 : wr.cell? ⟨gb136, 4, none⟩ = some (.bool x137004_1) := (blk_cell BK136.out 4).trans rfl
            have hcz22_5 : wr.cell? ⟨gb136, 5, none⟩ = some (.int .u32 x137005_1) := (blk_cell BK136.out 5).trans rfl
            have hfz22_0 := blk_frozen BK136.out 0
            have hfz22_1 := blk_frozen BK136.out 1
            have hfz22_2 := blk_frozen BK136.out 2
            have hfz22_3 := blk_frozen BK136.out 3
            have hfz22_4 := blk_frozen BK136.out 4
            have hfz22_5 := blk_frozen BK136.out 5
            go_wp2_with (first | ((with_reducible refine gate_callee (f := 12) rfl ?_); refine goesL_ (some 41) rfl rfl Try.func12 (by kernel_rfl) rfl #[.agg #[.int .i64 x137000_1, .int .i64 x137001_1, .int .i64 x137002_1, .int .i64 x137003_1, .bool x137004_1, .int .u32 x137005_1], .int .i64 (wrap64 (1 + t134)), .int .i64 0, .int .u32 0, .int .u32 (((wrap64 ((wrap64 (4 * (wrap64 (1 + t134)))) + t135))) % 4294967296)] rfl (by (try simp only [List.map_toArray, List.map_cons, List.map_nil]); first | done | rfl | (simp only [List.length_drop, List.length_take]; rfl)) ?_; (with_reducible refine (crowd_Ack.calls k1 x137000_1 x137001_1 x137002_1 x137003_1 x137004_1 x137005_1 (wrap64 (1 + t134)) 0 0 (((wrap64 ((wrap64 (4 * (wrap64 (1 + t134)))) + t135))) % 4294967296) t137 t138 t139 t140 t141 t142 t143 t144 _ A13.out).mono ?_); rintro e w23 ⟨rfl, hb⟩; refine ⟨_, rfl, ?_⟩; have n0_ := Aside0.mk (blk_below (g := gb136) (o := .cells #[.int .i64 x137000_1, .int .i64 x137001_1, .int .i64 x137002_1, .int .i64 x137003_1, .bool x137004_1, .int .u32 x137005_1] 26 (0, 0)) (by (with_reducible repeat (first | refine blk_drewN ?_ _ | refine blk_drew ?_ | refine blk_alloc ?_ _)); exact BK136.out) hb); have n1_ := Aside0.mk (below_step (by repeat (first | (with_reducible first | exact HB.out | apply below_alloc | apply pw_below_drewN | apply below_drew1 | refine below_set ?_ GE136.out) | exact HB.out)) hb); clear BK136; clear HB; have BK136 := n0_; have HB := n1_; clear n0_ n1_; (try clear hb); (try clear hb2); (try clear hk); (try clear hi); have hcz24_0 : w23.cell? ⟨gb136, 0, none⟩ = some (.int .i64 x137000_1) := (blk_cell BK136.out 0).trans rfl; have hcz24_1 : w23.cell? ⟨gb136, 1, none⟩ = some (.int .i64 x137001_1) := (blk_cell BK136.out 1).trans rfl; have hcz24_2 : w23.cell? ⟨gb136, 2, none⟩ = some (.int .i64 x137002_1) := (blk_cell BK136.out 2).trans rfl; have hcz24_3 : w23.cell? ⟨gb136, 3, none⟩ = some (.int .i64 x137003_1) := (blk_cell BK136.out 3).trans rfl; have hcz24_4 : w23.cell? ⟨gb136, 4, none⟩ = some (.bool x137004_1) := (blk_cell BK136.out 4).trans rfl; have hcz24_5 : w23.cell? ⟨gb136, 5, none⟩ = some (.int .u32 x137005_1) := (blk_cell BK136.out 5).trans rfl; have hfz24_0 := blk_frozen BK136.out 0; have hfz24_1 := blk_frozen BK136.out 1; have hfz24_2 := blk_frozen BK136.out 2; have hfz24_3 := blk_frozen BK136.out 3; have hfz24_4 := blk_frozen BK136.out 4; have hfz24_5 := blk_frozen BK136.out 5))
            go_ret
            exact ⟨by first | rfl | (simp [errW_none, errW_some] <;> rfl) | (simp [*, errW_none, errW_some] <;> rfl), by repeat (first | (with_reducible first | exact HB.out | apply below_alloc | apply pw_below_drewN | apply below_drew1 | refine below_set ?_ GE136.out) | exact HB.out)⟩
        · rw [if_neg c12] at H
          have c12b0 : decide (x12_1 < 3) = false := decide_eq_false c12
          clear c12
          obtain ⟨ji25, hji25⟩ : ∃ j_ : Int, (mx (wrap64 (Int.tdiv (wrap64 ((wrap64 (4 * (wrap64 (1 + t134)))) + t135)) 2)) (wrap64 (2 * (wrap64 (1 + t134))))) = j_ := ⟨_, rfl⟩
          replace H : (if x137004_1 = true then (if x137001_1 = (ji25) then (patchbaykeep3_CrowdOnce.j1 k1 (wrap64 (1 + t134)) (wrap64 ((wrap64 (4 * (wrap64 (1 + t134)))) + t135)) a2 l3 ji25 (x137005_1 != (((wrap64 ((wrap64 (4 * (wrap64 (1 + t134)))) + t135))) % 4294967296)) x137000_1 x137001_1 x137002_1 x137003_1 x137004_1 x137005_1) else (patchbaykeep3_CrowdOnce.j1 k1 (wrap64 (1 + t134)) (wrap64 ((wrap64 (4 * (wrap64 (1 + t134)))) + t135)) a2 l3 ji25 true x137000_1 x137001_1 x137002_1 x137003_1 x137004_1 x137005_1)) else (patchbaykeep3_CrowdOnce.j1 k1 (wrap64 (1 + t134)) (wrap64 ((wrap64 (4 * (wrap64 (1 + t134)))) + t135)) a2 l3 ji25 true x137000_1 x137001_1 x137002_1 x137003_1 x137004_1 x137005_1)) = some r := by first | (rw [hji25] at H; exact H) | (simp only [hji25] at H ⊢; exact H)
          have hji25_ : (if (wrap64 (Int.tdiv (wrap64 ((wrap64 (4 * (wrap64 (1 + t134)))) + t135)) 2)) < (wrap64 (2 * (wrap64 (1 + t134)))) then (wrap64 (2 * (wrap64 (1 + t134)))) else (wrap64 (Int.tdiv (wrap64 ((wrap64 (4 * (wrap64 (1 + t134)))) + t135)) 2))) = ji25 := hji25
          have HC26 := Aside0.mk H
          clear H
          go_upto_region 15 with (fail)
          go_cut [73] (fun v73 wc => ∃ (kq : Nat) (x73_25 : Bool), v73 = .bool x73_25 ∧ Aside0 (patchbaykeep3_CrowdOnce.j1 kq (wrap64 (1 + t134)) (wrap64 ((wrap64 (4 * (wrap64 (1 + t134)))) + t135)) a2 l3 ji25 x73_25 x137000_1 x137001_1 x137002_1 x137003_1 x137004_1 x137005_1 = some r) ∧ Aside0 (kq ≤ k1) ∧ Aside0 (wc.heap[gb136]? = some (.cells #[.int .i64 x137000_1, .int .i64 x137001_1, .int .i64 x137002_1, .int .i64 x137003_1, .bool x137004_1, .int .u32 x137005_1] 26 (0, 0))) ∧ Aside0 (Below w.heap.size w wc))
          case first =>
            have H := HC26.out
            clear HC26
            by_cases c27 : x137004_1 = true
            · subst c27
              have H1 : (if x137001_1 = (ji25) then (patchbaykeep3_CrowdOnce.j1 k1 (wrap64 (1 + t134)) (wrap64 ((wrap64 (4 * (wrap64 (1 + t134)))) + t135)) a2 l3 ji25 (x137005_1 != (((wrap64 ((wrap64 (4 * (wrap64 (1 + t134)))) + t135))) % 4294967296)) x137000_1 x137001_1 x137002_1 x137003_1 true x137005_1) else (patchbaykeep3_CrowdOnce.j1 k1 (wrap64 (1 + t134)) (wrap64 ((wrap64 (4 * (wrap64 (1 + t134)))) + t135)) a2 l3 ji25 true x137000_1 x137001_1 x137002_1 x137003_1 true x137005_1)) = some r := by rw [if_pos rfl] at H; exact H
              clear H
              have H := H1
              clear H1
              by_cases c28 : x137001_1 = (ji25)
              · rw [if_pos c28] at H
                have c28b0 : (x137001_1 == (ji25)) = true := beq_iff_eq.mpr c28
                have c28b1 : (x137001_1 != (ji25)) = false := bne_eq_false_iff_eq.mpr c28
                clear c28
                (first | rw [c28b0] | (simp only [i64_w, i32_w]; rw [c28b0]) | skip)
                have H' := Aside0.mk H
                clear H
                have hcz29_0 : wr.cell? ⟨gb136, 0, none⟩ = some (.int .i64 x137000_1) := (blk_cell BK136.out 0).trans rfl
                have hcz29_1 : wr.cell? ⟨gb136, 1, none⟩ = some (.int .i64 x137001_1) := (blk_cell BK136.out 1).trans rfl
                have hcz29_2 : wr.cell? ⟨gb136, 2, none⟩ = some (.int .i64 x137002_1) := (blk_cell BK136.out 2).trans rfl
                have hcz29_3 : wr.cell? ⟨gb136, 3, none⟩ = some (.int .i64 x137003_1) := (blk_cell BK136.out 3).trans rfl
                have hcz29_4 : wr.cell? ⟨gb136, 4, none⟩ = some (.bool true) := (blk_cell BK136.out 4).trans rfl
                have hcz29_5 : wr.cell? ⟨gb136, 5, none⟩ = some (.int .u32 x137005_1) := (blk_cell BK136.out 5).trans rfl
                have hfz29_0 := blk_frozen BK136.out 0
                have hfz29_1 := blk_frozen BK136.out 1
                have hfz29_2 := blk_frozen BK136.out 2
                have hfz29_3 := blk_frozen BK136.out 3
                have hfz29_4 := blk_frozen BK136.out 4
                have hfz29_5 := blk_frozen BK136.out 5
                go_wp2
                go_meet
                case rel => exact ⟨_, ((x137005_1 != (((wrap64 ((wrap64 (4 * (wrap64 (1 + t134)))) + t135))) % 4294967296))), (by first | rfl | (simp; done) | (simp [*]; done)), H', ⟨by have := HK1.out; first | omega | exact Nat.le_refl _⟩, ⟨by (with_reducible repeat (first | refine blk_drewN ?_ _ | refine blk_drew ?_ | refine blk_alloc ?_ _)); exact BK136.out⟩, ⟨by repeat (first | (with_reducible first | exact HB.out | apply below_alloc | apply pw_below_drewN | apply below_drew1 | refine below_set ?_ GE136.out) | exact HB.out)⟩⟩
              · rw [if_neg c28] at H
                have c28b0 : (x137001_1 == (ji25)) = false := beq_eq_false_iff_ne.mpr c28
                have c28b1 : (x137001_1 != (ji25)) = true := bne_iff_ne.mpr c28
                (first | rw [c28b0] | (simp only [i64_w, i32_w]; rw [c28b0]) | skip)
                have H' := Aside0.mk H
                clear H
                have hcz30_0 : wr.cell? ⟨gb136, 0, none⟩ = some (.int .i64 x137000_1) := (blk_cell BK136.out 0).trans rfl
                have hcz30_1 : wr.cell? ⟨gb136, 1, none⟩ = some (.int .i64 x137001_1) := (blk_cell BK136.out 1).trans rfl
                have hcz30_2 : wr.cell? ⟨gb136, 2, none⟩ = some (.int .i64 x137002_1) := (blk_cell BK136.out 2).trans rfl
                have hcz30_3 : wr.cell? ⟨gb136, 3, none⟩ = some (.int .i64 x137003_1) := (blk_cell BK136.out 3).trans rfl
                have hcz30_4 : wr.cell? ⟨gb136, 4, none⟩ = some (.bool true) := (blk_cell BK136.out 4).trans rfl
                have hcz30_5 : wr.cell? ⟨gb136, 5, none⟩ = some (.int .u32 x137005_1) := (blk_cell BK136.out 5).trans rfl
                have hfz30_0 := blk_frozen BK136.out 0
                have hfz30_1 := blk_frozen BK136.out 1
                have hfz30_2 := blk_frozen BK136.out 2
                have hfz30_3 := blk_frozen BK136.out 3
                have hfz30_4 := blk_frozen BK136.out 4
                have hfz30_5 := blk_frozen BK136.out 5
                go_wp2
                go_meet
                case rel => exact ⟨_, (true), (by first | rfl | (simp; done) | (simp [*]; done)), H', ⟨by have := HK1.out; first | omega | exact Nat.le_refl _⟩, ⟨by (with_reducible repeat (first | refine blk_drewN ?_ _ | refine blk_drew ?_ | refine blk_alloc ?_ _)); exact BK136.out⟩, ⟨by repeat (first | (with_reducible first | exact HB.out | apply below_alloc | apply pw_below_drewN | apply below_drew1 | refine below_set ?_ GE136.out) | exact HB.out)⟩⟩
            · replace c27 := Bool.eq_false_iff.mpr c27
              subst c27
              have H1 : (patchbaykeep3_CrowdOnce.j1 k1 (wrap64 (1 + t134)) (wrap64 ((wrap64 (4 * (wrap64 (1 + t134)))) + t135)) a2 l3 ji25 true x137000_1 x137001_1 x137002_1 x137003_1 false x137005_1) = some r := by rw [if_neg (show ¬ (false = true) by decide)] at H; exact H
              clear H
              have H := H1
              clear H1
              have H' := Aside0.mk H
              clear H
              have hcz31_0 : wr.cell? ⟨gb136, 0, none⟩ = some (.int .i64 x137000_1) := (blk_cell BK136.out 0).trans rfl
              have hcz31_1 : wr.cell? ⟨gb136, 1, none⟩ = some (.int .i64 x137001_1) := (blk_cell BK136.out 1).trans rfl
              have hcz31_2 : wr.cell? ⟨gb136, 2, none⟩ = some (.int .i64 x137002_1) := (blk_cell BK136.out 2).trans rfl
              have hcz31_3 : wr.cell? ⟨gb136, 3, none⟩ = some (.int .i64 x137003_1) := (blk_cell BK136.out 3).trans rfl
              have hcz31_4 : wr.cell? ⟨gb136, 4, none⟩ = some (.bool false) := (blk_cell BK136.out 4).trans rfl
              have hcz31_5 : wr.cell? ⟨gb136, 5, none⟩ = some (.int .u32 x137005_1) := (blk_cell BK136.out 5).trans rfl
              have hfz31_0 := blk_frozen BK136.out 0
              have hfz31_1 := blk_frozen BK136.out 1
              have hfz31_2 := blk_frozen BK136.out 2
              have hfz31_3 := blk_frozen BK136.out 3
              have hfz31_4 := blk_frozen BK136.out 4
              have hfz31_5 := blk_frozen BK136.out 5
              go_wp2
              go_meet
              case rel => exact ⟨_, (true), (by first | rfl | (simp; done) | (simp [*]; done)), H', ⟨by have := HK1.out; first | omega | exact Nat.le_refl _⟩, ⟨by (with_reducible repeat (first | refine blk_drewN ?_ _ | refine blk_drew ?_ | refine blk_alloc ?_ _)); exact BK136.out⟩, ⟨by repeat (first | (with_reducible first | exact HB.out | apply below_alloc | apply pw_below_drewN | apply below_drew1 | refine below_set ?_ GE136.out) | exact HB.out)⟩⟩
          case rest =>
            clear HC26
            try clear c1
            try clear c2
            try clear p2
            try clear c3
            try clear p3
            try clear c5
            try clear c6
            try clear p6
            try clear c9
            try clear c10
            try clear c12
            try clear c12b0
            try clear c14
            try clear c14b0
            try clear c14b1
            try clear c15
            try clear c15b0
            try clear c15b1
            try clear c15b2
            try clear c27
            try clear c28
            try clear c28b0
            try clear c28b1
            try clear hcz11_0
            try clear hcz11_1
            try clear hcz11_2
            try clear hcz11_3
            try clear hcz11_4
            try clear hcz11_5
            try clear hcz16_0
            try clear hcz16_1
            try clear hcz16_2
            try clear hcz16_3
            try clear hcz16_4
            try clear hcz16_5
            try clear hcz18_0
            try clear hcz18_1
            try clear hcz18_2
            try clear hcz18_3
            try clear hcz18_4
            try clear hcz18_5
            try clear hcz19_0
            try clear hcz19_1
            try clear hcz19_2
            try clear hcz19_3
            try clear hcz19_4
            try clear hcz19_5
            try clear hcz21_0
            try clear hcz21_1
            try clear hcz21_2
            try clear hcz21_3
            try clear hcz21_4
            try clear hcz21_5
            try clear hcz22_0
            try clear hcz22_1
            try clear hcz22_2
            try clear hcz22_3
            try clear hcz22_4
            try clear hcz22_5
            try clear hcz24_0
            try clear hcz24_1
            try clear hcz24_2
            try clear hcz24_3
            try clear hcz24_4
            try clear hcz24_5
            try clear hcz29_0
            try clear hcz29_1
            try clear hcz29_2
            try clear hcz29_3
            try clear hcz29_4
            try clear hcz29_5
            try clear hcz30_0
            try clear hcz30_1
            try clear hcz30_2
            try clear hcz30_3
            try clear hcz30_4
            try clear hcz30_5
            try clear hcz31_0
            try clear hcz31_1
            try clear hcz31_2
            try clear hcz31_3
            try clear hcz31_4
            try clear hcz31_5
            try clear hfz11_0
            try clear hfz11_1
            try clear hfz11_2
            try clear hfz11_3
            try clear hfz11_4
            try clear hfz11_5
            try clear hfz16_0
            try clear hfz16_1
            try clear hfz16_2
            try clear hfz16_3
            try clear hfz16_4
            try clear hfz16_5
            try clear hfz18_0
            try clear hfz18_1
            try clear hfz18_2
            try clear hfz18_3
            try clear hfz18_4
            try clear hfz18_5
            try clear hfz19_0
            try clear hfz19_1
            try clear hfz19_2
            try clear hfz19_3
            try clear hfz19_4
            try clear hfz19_5
            try clear hfz21_0
            try clear hfz21_1
            try clear hfz21_2
            try clear hfz21_3
            try clear hfz21_4
            try clear hfz21_5
            try clear hfz22_0
            try clear hfz22_1
            try clear hfz22_2
            try clear hfz22_3
            try clear hfz22_4
            try clear hfz22_5
            try clear hfz24_0
            try clear hfz24_1
            try clear hfz24_2
            try clear hfz24_3
            try clear hfz24_4
            try clear hfz24_5
            try clear hfz29_0
            try clear hfz29_1
            try clear hfz29_2
            try clear hfz29_3
            try clear hfz29_4
            try clear hfz29_5
            try clear hfz30_0
            try clear hfz30_1
            try clear hfz30_2
            try clear hfz30_3
            try clear hfz30_4
            try clear hfz30_5
            try clear hfz31_0
            try clear hfz31_1
            try clear hfz31_2
            try clear hfz31_3
            try clear hfz31_4
            try clear hfz31_5
            try clear p2
            try clear p3
            try clear p6
            obtain ⟨kq, x73_25, rfl, HA, HJ25, BK136, HB⟩ := hcut
            cases kq with
            | zero => exact absurd HA.out (by simp [patchbaykeep3_CrowdOnce.j1])
            | succ kj25 =>
              have H := HA.out
              clear HA
              simp only [patchbaykeep3_CrowdOnce.j1] at H
              by_cases c32 : x73_25 = true
              · subst c32
                have H1 : (some false) = some r := by rw [if_pos rfl] at H; exact H
                clear H
                have H := H1
                clear H1
                obtain rfl := Option.some.inj H
                go_wp2
                go_ret
                exact ⟨by first | rfl | (simp [errW_none, errW_some] <;> rfl) | (simp only [← hji25]; first | rfl | (simp [errW_none, errW_some] <;> rfl)) | (simp [*, errW_none, errW_some] <;> rfl), by repeat (first | (with_reducible first | exact HB.out | apply below_alloc | apply pw_below_drewN | apply below_drew1 | refine below_set ?_ GE136.out) | exact HB.out)⟩
              · replace c32 := Bool.eq_false_iff.mpr c32
                subst c32
                have H1 : (patchbaykeep3_CrowdOnce.l1 kj25 (wrap64 (1 + t134)) (wrap64 ((wrap64 (4 * (wrap64 (1 + t134)))) + t135)) a2 l3 ji25 0 x137000_1 x137001_1 x137002_1 x137003_1 x137004_1 x137005_1) = some r := by rw [if_neg (show ¬ (false = true) by decide)] at H; exact H
                clear H
                have H := H1
                clear H1
                have H' := Aside0.mk H
                clear H
                go_wp2
                go_loopg [14] kj25 (fun kq v14 w' => ∃ (x14_3 : Int) (x137000_3 : Int) (x137001_3 : Int) (x137002_3 : Int) (x137003_3 : Int) (x137004_3 : Bool) (x137005_3 : Int), v14 = .int .i64 x14_3 ∧ Aside0 (patchbaykeep3_CrowdOnce.l1 kq (wrap64 (1 + t134)) (wrap64 ((wrap64 (4 * (wrap64 (1 + t134)))) + t135)) a2 l3 ji25 x14_3 x137000_3 x137001_3 x137002_3 x137003_3 x137004_3 x137005_3 = some r) ∧ Aside0 (kq ≤ kj25) ∧ Aside0 (w'.heap[gb136]? = some (.cells #[.int .i64 x137000_3, .int .i64 x137001_3, .int .i64 x137002_3, .int .i64 x137003_3, .bool x137004_3, .int .u32 x137005_3] 26 (0, 0))) ∧ Aside0 (Below w.heap.size w w'))
                case atStart => exact ⟨(0), (x137000_1), (x137001_1), (x137002_1), (x137003_1), (x137004_1), (x137005_1), (by first | rfl | (simp; done) | (simp [*]; done)), H', ⟨Nat.le_refl _⟩, ⟨by (with_reducible repeat (first | refine blk_drewN ?_ _ | refine blk_drew ?_ | refine blk_alloc ?_ _)); exact BK136.out⟩, ⟨by repeat (first | (with_reducible first | exact HB.out | apply below_alloc | apply pw_below_drewN | apply below_drew1 | refine below_set ?_ GE136.out) | exact HB.out)⟩⟩
                case round =>
                  clear H'
                  try clear c1
                  try clear c2
                  try clear p2
                  try clear c3
                  try clear p3
                  try clear c5
                  try clear c6
                  try clear p6
                  try clear c9
                  try clear c10
                  try clear c12
                  try clear c12b0
                  try clear c14
                  try clear c14b0
                  try clear c14b1
                  try clear c15
                  try clear c15b0
                  try clear c15b1
                  try clear c15b2
                  try clear c27
                  try clear c28
                  try clear c28b0
                  try clear c28b1
                  try clear c32
                  try clear hcz11_0
                  try clear hcz11_1
                  try clear hcz11_2
                  try clear hcz11_3
                  try clear hcz11_4
                  try clear hcz11_5
                  try clear hcz16_0
                  try clear hcz16_1
                  try clear hcz16_2
                  try clear hcz16_3
                  try clear hcz16_4
                  try clear hcz16_5
                  try clear hcz18_0
                  try clear hcz18_1
                  try clear hcz18_2
                  try clear hcz18_3
                  try clear hcz18_4
                  try clear hcz18_5
                  try clear hcz19_0
                  try clear hcz19_1
                  try clear hcz19_2
                  try clear hcz19_3
                  try clear hcz19_4
                  try clear hcz19_5
                  try clear hcz21_0
                  try clear hcz21_1
                  try clear hcz21_2
                  try clear hcz21_3
                  try clear hcz21_4
                  try clear hcz21_5
                  try clear hcz22_0
                  try clear hcz22_1
                  try clear hcz22_2
                  try clear hcz22_3
                  try clear hcz22_4
                  try clear hcz22_5
                  try clear hcz24_0
                  try clear hcz24_1
                  try clear hcz24_2
                  try clear hcz24_3
                  try clear hcz24_4
                  try clear hcz24_5
                  try clear hcz29_0
                  try clear hcz29_1
                  try clear hcz29_2
                  try clear hcz29_3
                  try clear hcz29_4
                  try clear hcz29_5
                  try clear hcz30_0
                  try clear hcz30_1
                  try clear hcz30_2
                  try clear hcz30_3
                  try clear hcz30_4
                  try clear hcz30_5
                  try clear hcz31_0
                  try clear hcz31_1
                  try clear hcz31_2
                  try clear hcz31_3
                  try clear hcz31_4
                  try clear hcz31_5
                  try clear hfz11_0
                  try clear hfz11_1
                  try clear hfz11_2
                  try clear hfz11_3
                  try clear hfz11_4
                  try clear hfz11_5
                  try clear hfz16_0
                  try clear hfz16_1
                  try clear hfz16_2
                  try clear hfz16_3
                  try clear hfz16_4
                  try clear hfz16_5
                  try clear hfz18_0
                  try clear hfz18_1
                  try clear hfz18_2
                  try clear hfz18_3
                  try clear hfz18_4
                  try clear hfz18_5
                  try clear hfz19_0
                  try clear hfz19_1
                  try clear hfz19_2
                  try clear hfz19_3
                  try clear hfz19_4
                  try clear hfz19_5
                  try clear hfz21_0
                  try clear hfz21_1
                  try clear hfz21_2
                  try clear hfz21_3
                  try clear hfz21_4
                  try clear hfz21_5
                  try clear hfz22_0
                  try clear hfz22_1
                  try clear hfz22_2
                  try clear hfz22_3
                  try clear hfz22_4
                  try clear hfz22_5
                  try clear hfz24_0
                  try clear hfz24_1
                  try clear hfz24_2
                  try clear hfz24_3
                  try clear hfz24_4
                  try clear hfz24_5
                  try clear hfz29_0
                  try clear hfz29_1
                  try clear hfz29_2
                  try clear hfz29_3
                  try clear hfz29_4
                  try clear hfz29_5
                  try clear hfz30_0
                  try clear hfz30_1
                  try clear hfz30_2
                  try clear hfz30_3
                  try clear hfz30_4
                  try clear hfz30_5
                  try clear hfz31_0
                  try clear hfz31_1
                  try clear hfz31_2
                  try clear hfz31_3
                  try clear hfz31_4
                  try clear hfz31_5
                  try clear p2
                  try clear p3
                  try clear p6
                  obtain ⟨x14_3, x137000_3, x137001_3, x137002_3, x137003_3, x137004_3, x137005_3, rfl, HA, HK3, BK136, HB⟩ := hrel
                  cases gk with
                  | zero => exact absurd HA.out (by simp [patchbaykeep3_CrowdOnce.l1])
                  | succ k3 =>
                    have H := HA.out
                    clear HA
                    simp only [patchbaykeep3_CrowdOnce.l1] at H
                    replace H := Option.bind_eq_some_iff.mp H
                    obtain ⟨t145, A330, H⟩ := H
                    replace H : (if x14_3 < t145 then ((crowd_Ack.f k3 x137000_3 x137001_3 x137002_3 x137003_3 x137004_3 x137005_3 (wrap64 (1 + t134)) 0 0 (((wrap64 ((wrap64 (4 * (wrap64 (1 + t134)))) + t135))) % 4294967296)).bind fun bt146 => (if bt146.2.2.2.2.2.2.2 = 0 then (if bt146.2.2.2.2.2.2.1 = true then (some false) else (if bt146.2.1 = ji25 then (patchbaykeep3_CrowdOnce.l1 k3 (wrap64 (1 + t134)) (wrap64 ((wrap64 (4 * (wrap64 (1 + t134)))) + t135)) a2 l3 ji25 (wrap64 (x14_3 + 1)) bt146.1 bt146.2.1 bt146.2.2.1 bt146.2.2.2.1 bt146.2.2.2.2.1 bt146.2.2.2.2.2.1) else (some false))) else (some false))) else (patchbaykeep3_CrowdOnce.l2 k3 (wrap64 (1 + t134)) (wrap64 ((wrap64 (4 * (wrap64 (1 + t134)))) + t135)) l3 ji25 0 0 x137000_3 x137001_3 x137002_3 x137003_3 x137004_3 x137005_3)) = some r := H
                    have A33 := Aside0.mk A330
                    clear A330
                    by_cases c34 : x14_3 < t145
                    · rw [if_pos c34] at H
                      have c34b0 : decide (x14_3 < t145) = true := decide_eq_true c34
                      clear c34
                      replace H := Option.bind_eq_some_iff.mp H
                      obtain ⟨⟨t146, t147, t148, t149, t150, t151, t152, t153⟩, A350, H⟩ := H
                      replace H : (if t153 = 0 then (if t152 = true then (some false) else (if t147 = ji25 then (patchbaykeep3_CrowdOnce.l1 k3 (wrap64 (1 + t134)) (wrap64 ((wrap64 (4 * (wrap64 (1 + t134)))) + t135)) a2 l3 ji25 (wrap64 (x14_3 + 1)) t146 t147 t148 t149 t150 t151) else (some false))) else (some false)) = some r := H
                      have A35 := Aside0.mk A350
                      clear A350
                      by_cases c36 : t153 = 0
                      · rw [if_pos c36] at H
                        have c36b0 : (t153 == 0) = true := beq_iff_eq.mpr c36
                        have c36b1 : (t153 != 0) = false := bne_eq_false_iff_eq.mpr c36
                        clear c36
                        by_cases c37 : t152 = true
                        · subst c37
                          have H1 : (some false) = some r := by rw [if_pos rfl] at H; exact H
                          clear H
                          have H := H1
                          clear H1
                          obtain rfl := Option.some.inj H
                          go_wp2_with (first | ((with_reducible refine gate_callee (f := 10) rfl ?_); refine goesL_ (some 76) rfl rfl Try.func10 (by kernel_rfl) rfl #[.int .i64 a2, .int .i64 10] rfl (by (try simp only [List.map_toArray, List.map_cons, List.map_nil]); first | done | rfl | (simp only [List.length_drop, List.length_take]; rfl)) ?_; (with_reducible refine (patchbaykeep3_rest.calls a2 10 t145 _ A33.out).mono ?_); rintro e w' ⟨rfl, ⟨nd, rfl⟩⟩; refine ⟨_, rfl, ?_⟩; (try (rw [drewN_self wr]; generalize hq_ : World.drewN wr _ = wr; have n0_ : Aside0 (wr.heap[gb136]? = some (.cells #[.int .i64 x137000_3, .int .i64 x137001_3, .int .i64 x137002_3, .int .i64 x137003_3, .bool x137004_3, .int .u32 x137005_3] 26 (0, 0))) := ⟨by rw [← hq_]; exact (by (with_reducible repeat (first | refine blk_drewN ?_ _ | refine blk_drew ?_ | refine blk_alloc ?_ _)); exact BK136.out)⟩; have n1_ : Aside0 (Below w.heap.size w wr) := ⟨by rw [← hq_]; exact (by repeat (first | (with_reducible first | exact HB.out | apply below_alloc | apply pw_below_drewN | apply below_drew1 | refine below_set ?_ GE136.out) | exact HB.out))⟩; clear BK136 HB hq_; have BK136 := n0_; have HB := n1_; clear n0_ n1_)); have hcz38_0 : wr.cell? ⟨gb136, 0, none⟩ = some (.int .i64 x137000_3) := (blk_cell BK136.out 0).trans rfl; have hcz38_1 : wr.cell? ⟨gb136, 1, none⟩ = some (.int .i64 x137001_3) := (blk_cell BK136.out 1).trans rfl; have hcz38_2 : wr.cell? ⟨gb136, 2, none⟩ = some (.int .i64 x137002_3) := (blk_cell BK136.out 2).trans rfl; have hcz38_3 : wr.cell? ⟨gb136, 3, none⟩ = some (.int .i64 x137003_3) := (blk_cell BK136.out 3).trans rfl; have hcz38_4 : wr.cell? ⟨gb136, 4, none⟩ = some (.bool x137004_3) := (blk_cell BK136.out 4).trans rfl; have hcz38_5 : wr.cell? ⟨gb136, 5, none⟩ = some (.int .u32 x137005_3) := (blk_cell BK136.out 5).trans rfl; have hfz38_0 := blk_frozen BK136.out 0; have hfz38_1 := blk_frozen BK136.out 1; have hfz38_2 := blk_frozen BK136.out 2; have hfz38_3 := blk_frozen BK136.out 3; have hfz38_4 := blk_frozen BK136.out 4; have hfz38_5 := blk_frozen BK136.out 5) | ((with_reducible refine gate_callee (f := 12) rfl ?_); refine goesL_ (some 85) rfl rfl Try.func12 (by kernel_rfl) rfl #[.agg #[.int .i64 x137000_3, .int .i64 x137001_3, .int .i64 x137002_3, .int .i64 x137003_3, .bool x137004_3, .int .u32 x137005_3], .int .i64 (wrap64 (1 + t134)), .int .i64 0, .int .u32 0, .int .u32 (((wrap64 ((wrap64 (4 * (wrap64 (1 + t134)))) + t135))) % 4294967296)] rfl (by (try simp only [List.map_toArray, List.map_cons, List.map_nil]); first | done | rfl | (simp only [List.length_drop, List.length_take]; rfl)) ?_; (with_reducible refine (crowd_Ack.calls k3 x137000_3 x137001_3 x137002_3 x137003_3 x137004_3 x137005_3 (wrap64 (1 + t134)) 0 0 (((wrap64 ((wrap64 (4 * (wrap64 (1 + t134)))) + t135))) % 4294967296) t146 t147 t148 t149 t150 t151 true t153 _ A35.out).mono ?_); rintro e w39 ⟨rfl, hb⟩; refine ⟨_, rfl, ?_⟩; have n0_ := Aside0.mk (blk_below (g := gb136) (o := .cells #[.int .i64 x137000_3, .int .i64 x137001_3, .int .i64 x137002_3, .int .i64 x137003_3, .bool x137004_3, .int .u32 x137005_3] 26 (0, 0)) (by (with_reducible repeat (first | refine blk_drewN ?_ _ | refine blk_drew ?_ | refine blk_alloc ?_ _)); exact BK136.out) hb); have n1_ := Aside0.mk (below_step (by repeat (first | (with_reducible first | exact HB.out | apply below_alloc | apply pw_below_drewN | apply below_drew1 | refine below_set ?_ GE136.out) | exact HB.out)) hb); clear BK136; clear HB; have BK136 := n0_; have HB := n1_; clear n0_ n1_; (try clear hb); (try clear hb2); (try clear hk); (try clear hi); have hcz40_0 : w39.cell? ⟨gb136, 0, none⟩ = some (.int .i64 x137000_3) := (blk_cell BK136.out 0).trans rfl; have hcz40_1 : w39.cell? ⟨gb136, 1, none⟩ = some (.int .i64 x137001_3) := (blk_cell BK136.out 1).trans rfl; have hcz40_2 : w39.cell? ⟨gb136, 2, none⟩ = some (.int .i64 x137002_3) := (blk_cell BK136.out 2).trans rfl; have hcz40_3 : w39.cell? ⟨gb136, 3, none⟩ = some (.int .i64 x137003_3) := (blk_cell BK136.out 3).trans rfl; have hcz40_4 : w39.cell? ⟨gb136, 4, none⟩ = some (.bool x137004_3) := (blk_cell BK136.out 4).trans rfl; have hcz40_5 : w39.cell? ⟨gb136, 5, none⟩ = some (.int .u32 x137005_3) := (blk_cell BK136.out 5).trans rfl; have hfz40_0 := blk_frozen BK136.out 0; have hfz40_1 := blk_frozen BK136.out 1; have hfz40_2 := blk_frozen BK136.out 2; have hfz40_3 := blk_frozen BK136.out 3; have hfz40_4 := blk_frozen BK136.out 4; have hfz40_5 := blk_frozen BK136.out 5))
                          go_ret
                          exact ⟨by first | rfl | (simp [errW_none, errW_some] <;> rfl) | (simp only [← hji25]; first | rfl | (simp [errW_none, errW_some] <;> rfl)) | (simp [*, errW_none, errW_some] <;> rfl), by repeat (first | (with_reducible first | exact HB.out | apply below_alloc | apply pw_below_drewN | apply below_drew1 | refine below_set ?_ GE136.out) | exact HB.out)⟩
                        · replace c37 := Bool.eq_false_iff.mpr c37
                          subst c37
                          have H1 : (if t147 = ji25 then (patchbaykeep3_CrowdOnce.l1 k3 (wrap64 (1 + t134)) (wrap64 ((wrap64 (4 * (wrap64 (1 + t134)))) + t135)) a2 l3 ji25 (wrap64 (x14_3 + 1)) t146 t147 t148 t149 t150 t151) else (some false)) = some r := by rw [if_neg (show ¬ (false = true) by decide)] at H; exact H
                          clear H
                          have H := H1
                          clear H1
                          by_cases c41 : t147 = ji25
                          · rw [if_pos c41] at H
                            have c41b0 : (t147 == ji25) = true := beq_iff_eq.mpr c41
                            have c41b1 : (t147 != ji25) = false := bne_eq_false_iff_eq.mpr c41
                            clear c41
                            have H' := Aside0.mk H
                            clear H
                            go_wp2_with (first | ((with_reducible refine gate_callee (f := 10) rfl ?_); refine goesL_ (some 76) rfl rfl Try.func10 (by kernel_rfl) rfl #[.int .i64 a2, .int .i64 10] rfl (by (try simp only [List.map_toArray, List.map_cons, List.map_nil]); first | done | rfl | (simp only [List.length_drop, List.length_take]; rfl)) ?_; (with_reducible refine (patchbaykeep3_rest.calls a2 10 t145 _ A33.out).mono ?_); rintro e w' ⟨rfl, ⟨nd, rfl⟩⟩; refine ⟨_, rfl, ?_⟩; (try (rw [drewN_self wr]; generalize hq_ : World.drewN wr _ = wr; have n0_ : Aside0 (wr.heap[gb136]? = some (.cells #[.int .i64 x137000_3, .int .i64 x137001_3, .int .i64 x137002_3, .int .i64 x137003_3, .bool x137004_3, .int .u32 x137005_3] 26 (0, 0))) := ⟨by rw [← hq_]; exact (by (with_reducible repeat (first | refine blk_drewN ?_ _ | refine blk_drew ?_ | refine blk_alloc ?_ _)); exact BK136.out)⟩; have n1_ : Aside0 (Below w.heap.size w wr) := ⟨by rw [← hq_]; exact (by repeat (first | (with_reducible first | exact HB.out | apply below_alloc | apply pw_below_drewN | apply below_drew1 | refine below_set ?_ GE136.out) | exact HB.out))⟩; clear BK136 HB hq_; have BK136 := n0_; have HB := n1_; clear n0_ n1_)); have hcz42_0 : wr.cell? ⟨gb136, 0, none⟩ = some (.int .i64 x137000_3) := (blk_cell BK136.out 0).trans rfl; have hcz42_1 : wr.cell? ⟨gb136, 1, none⟩ = some (.int .i64 x137001_3) := (blk_cell BK136.out 1).trans rfl; have hcz42_2 : wr.cell? ⟨gb136, 2, none⟩ = some (.int .i64 x137002_3) := (blk_cell BK136.out 2).trans rfl; have hcz42_3 : wr.cell? ⟨gb136, 3, none⟩ = some (.int .i64 x137003_3) := (blk_cell BK136.out 3).trans rfl; have hcz42_4 : wr.cell? ⟨gb136, 4, none⟩ = some (.bool x137004_3) := (blk_cell BK136.out 4).trans rfl; have hcz42_5 : wr.cell? ⟨gb136, 5, none⟩ = some (.int .u32 x137005_3) := (blk_cell BK136.out 5).trans rfl; have hfz42_0 := blk_frozen BK136.out 0; have hfz42_1 := blk_frozen BK136.out 1; have hfz42_2 := blk_frozen BK136.out 2; have hfz42_3 := blk_frozen BK136.out 3; have hfz42_4 := blk_frozen BK136.out 4; have hfz42_5 := blk_frozen BK136.out 5) | ((with_reducible refine gate_callee (f := 12) rfl ?_); refine goesL_ (some 85) rfl rfl Try.func12 (by kernel_rfl) rfl #[.agg #[.int .i64 x137000_3, .int .i64 x137001_3, .int .i64 x137002_3, .int .i64 x137003_3, .bool x137004_3, .int .u32 x137005_3], .int .i64 (wrap64 (1 + t134)), .int .i64 0, .int .u32 0, .int .u32 (((wrap64 ((wrap64 (4 * (wrap64 (1 + t134)))) + t135))) % 4294967296)] rfl (by (try simp only [List.map_toArray, List.map_cons, List.map_nil]); first | done | rfl | (simp only [List.length_drop, List.length_take]; rfl)) ?_; (with_reducible refine (crowd_Ack.calls k3 x137000_3 x137001_3 x137002_3 x137003_3 x137004_3 x137005_3 (wrap64 (1 + t134)) 0 0 (((wrap64 ((wrap64 (4 * (wrap64 (1 + t134)))) + t135))) % 4294967296) t146 t147 t148 t149 t150 t151 false t153 _ A35.out).mono ?_); rintro e w43 ⟨rfl, hb⟩; refine ⟨_, rfl, ?_⟩; have n0_ := Aside0.mk (blk_below (g := gb136) (o := .cells #[.int .i64 x137000_3, .int .i64 x137001_3, .int .i64 x137002_3, .int .i64 x137003_3, .bool x137004_3, .int .u32 x137005_3] 26 (0, 0)) (by (with_reducible repeat (first | refine blk_drewN ?_ _ | refine blk_drew ?_ | refine blk_alloc ?_ _)); exact BK136.out) hb); have n1_ := Aside0.mk (below_step (by repeat (first | (with_reducible first | exact HB.out | apply below_alloc | apply pw_below_drewN | apply below_drew1 | refine below_set ?_ GE136.out) | exact HB.out)) hb); clear BK136; clear HB; have BK136 := n0_; have HB := n1_; clear n0_ n1_; (try clear hb); (try clear hb2); (try clear hk); (try clear hi); have hcz44_0 : w43.cell? ⟨gb136, 0, none⟩ = some (.int .i64 x137000_3) := (blk_cell BK136.out 0).trans rfl; have hcz44_1 : w43.cell? ⟨gb136, 1, none⟩ = some (.int .i64 x137001_3) := (blk_cell BK136.out 1).trans rfl; have hcz44_2 : w43.cell? ⟨gb136, 2, none⟩ = some (.int .i64 x137002_3) := (blk_cell BK136.out 2).trans rfl; have hcz44_3 : w43.cell? ⟨gb136, 3, none⟩ = some (.int .i64 x137003_3) := (blk_cell BK136.out 3).trans rfl; have hcz44_4 : w43.cell? ⟨gb136, 4, none⟩ = some (.bool x137004_3) := (blk_cell BK136.out 4).trans rfl; have hcz44_5 : w43.cell? ⟨gb136, 5, none⟩ = some (.int .u32 x137005_3) := (blk_cell BK136.out 5).trans rfl; have hfz44_0 := blk_frozen BK136.out 0; have hfz44_1 := blk_frozen BK136.out 1; have hfz44_2 := blk_frozen BK136.out 2; have hfz44_3 := blk_frozen BK136.out 3; have hfz44_4 := blk_frozen BK136.out 4; have hfz44_5 := blk_frozen BK136.out 5))
                            go_roundg k3
                            case measure => have := HK1.out; have := HJ25.out; have := HK3.out; omega
                            case rel => exact ⟨(wrap64 (x14_3 + 1)), (t146), (t147), (t148), (t149), (t150), (t151), (by first | rfl | (simp; done) | (simp [*]; done)), H', ⟨by have := HK1.out; have := HJ25.out; have := HK3.out; omega⟩, ⟨by (with_reducible repeat (first | refine blk_drewN ?_ _ | refine blk_drew ?_ | refine blk_alloc ?_ _)); refine blk_put (cs := #[.int .i64 t146, .int .i64 t147, .int .i64 t148, .int .i64 t149, .bool t150, .int .u32 x137005_3]) ?_ 5 _ rfl; (with_reducible repeat (first | refine blk_drewN ?_ _ | refine blk_drew ?_ | refine blk_alloc ?_ _)); refine blk_put (cs := #[.int .i64 t146, .int .i64 t147, .int .i64 t148, .int .i64 t149, .bool x137004_3, .int .u32 x137005_3]) ?_ 4 _ rfl; (with_reducible repeat (first | refine blk_drewN ?_ _ | refine blk_drew ?_ | refine blk_alloc ?_ _)); refine blk_put (cs := #[.int .i64 t146, .int .i64 t147, .int .i64 t148, .int .i64 x137003_3, .bool x137004_3, .int .u32 x137005_3]) ?_ 3 _ rfl; (with_reducible repeat (first | refine blk_drewN ?_ _ | refine blk_drew ?_ | refine blk_alloc ?_ _)); refine blk_put (cs := #[.int .i64 t146, .int .i64 t147, .int .i64 x137002_3, .int .i64 x137003_3, .bool x137004_3, .int .u32 x137005_3]) ?_ 2 _ rfl; (with_reducible repeat (first | refine blk_drewN ?_ _ | refine blk_drew ?_ | refine blk_alloc ?_ _)); refine blk_put (cs := #[.int .i64 t146, .int .i64 x137001_3, .int .i64 x137002_3, .int .i64 x137003_3, .bool x137004_3, .int .u32 x137005_3]) ?_ 1 _ rfl; (with_reducible repeat (first | refine blk_drewN ?_ _ | refine blk_drew ?_ | refine blk_alloc ?_ _)); refine blk_put (cs := #[.int .i64 x137000_3, .int .i64 x137001_3, .int .i64 x137002_3, .int .i64 x137003_3, .bool x137004_3, .int .u32 x137005_3]) ?_ 0 _ rfl; (with_reducible repeat (first | refine blk_drewN ?_ _ | refine blk_drew ?_ | refine blk_alloc ?_ _)); exact BK136.out⟩, ⟨by repeat (first | (with_reducible first | exact HB.out | apply below_alloc | apply pw_below_drewN | apply below_drew1 | refine below_set ?_ GE136.out) | exact HB.out)⟩⟩
                          · rw [if_neg c41] at H
                            have c41b0 : (t147 == ji25) = false := beq_eq_false_iff_ne.mpr c41
                            have c41b1 : (t147 != ji25) = true := bne_iff_ne.mpr c41
                            obtain rfl := Option.some.inj H
                            go_wp2_with (first | ((with_reducible refine gate_callee (f := 10) rfl ?_); refine goesL_ (some 76) rfl rfl Try.func10 (by kernel_rfl) rfl #[.int .i64 a2, .int .i64 10] rfl (by (try simp only [List.map_toArray, List.map_cons, List.map_nil]); first | done | rfl | (simp only [List.length_drop, List.length_take]; rfl)) ?_; (with_reducible refine (patchbaykeep3_rest.calls a2 10 t145 _ A33.out).mono ?_); rintro e w' ⟨rfl, ⟨nd, rfl⟩⟩; refine ⟨_, rfl, ?_⟩; (try (rw [drewN_self wr]; generalize hq_ : World.drewN wr _ = wr; have n0_ : Aside0 (wr.heap[gb136]? = some (.cells #[.int .i64 x137000_3, .int .i64 x137001_3, .int .i64 x137002_3, .int .i64 x137003_3, .bool x137004_3, .int .u32 x137005_3] 26 (0, 0))) := ⟨by rw [← hq_]; exact (by (with_reducible repeat (first | refine blk_drewN ?_ _ | refine blk_drew ?_ | refine blk_alloc ?_ _)); exact BK136.out)⟩; have n1_ : Aside0 (Below w.heap.size w wr) := ⟨by rw [← hq_]; exact (by repeat (first | (with_reducible first | exact HB.out | apply below_alloc | apply pw_below_drewN | apply below_drew1 | refine below_set ?_ GE136.out) | exact HB.out))⟩; clear BK136 HB hq_; have BK136 := n0_; have HB := n1_; clear n0_ n1_)); have hcz45_0 : wr.cell? ⟨gb136, 0, none⟩ = some (.int .i64 x137000_3) := (blk_cell BK136.out 0).trans rfl; have hcz45_1 : wr.cell? ⟨gb136, 1, none⟩ = some (.int .i64 x137001_3) := (blk_cell BK136.out 1).trans rfl; have hcz45_2 : wr.cell? ⟨gb136, 2, none⟩ = some (.int .i64 x137002_3) := (blk_cell BK136.out 2).trans rfl; have hcz45_3 : wr.cell? ⟨gb136, 3, none⟩ = some (.int .i64 x137003_3) := (blk_cell BK136.out 3).trans rfl; have hcz45_4 : wr.cell? ⟨gb136, 4, none⟩ = some (.bool x137004_3) := (blk_cell BK136.out 4).trans rfl; have hcz45_5 : wr.cell? ⟨gb136, 5, none⟩ = some (.int .u32 x137005_3) := (blk_cell BK136.out 5).trans rfl; have hfz45_0 := blk_frozen BK136.out 0; have hfz45_1 := blk_frozen BK136.out 1; have hfz45_2 := blk_frozen BK136.out 2; have hfz45_3 := blk_frozen BK136.out 3; have hfz45_4 := blk_frozen BK136.out 4; have hfz45_5 := blk_frozen BK136.out 5) | ((with_reducible refine gate_callee (f := 12) rfl ?_); refine goesL_ (some 85) rfl rfl Try.func12 (by kernel_rfl) rfl #[.agg #[.int .i64 x137000_3, .int .i64 x137001_3, .int .i64 x137002_3, .int .i64 x137003_3, .bool x137004_3, .int .u32 x137005_3], .int .i64 (wrap64 (1 + t134)), .int .i64 0, .int .u32 0, .int .u32 (((wrap64 ((wrap64 (4 * (wrap64 (1 + t134)))) + t135))) % 4294967296)] rfl (by (try simp only [List.map_toArray, List.map_cons, List.map_nil]); first | done | rfl | (simp only [List.length_drop, List.length_take]; rfl)) ?_; (with_reducible refine (crowd_Ack.calls k3 x137000_3 x137001_3 x137002_3 x137003_3 x137004_3 x137005_3 (wrap64 (1 + t134)) 0 0 (((wrap64 ((wrap64 (4 * (wrap64 (1 + t134)))) + t135))) % 4294967296) t146 t147 t148 t149 t150 t151 false t153 _ A35.out).mono ?_); rintro e w46 ⟨rfl, hb⟩; refine ⟨_, rfl, ?_⟩; have n0_ := Aside0.mk (blk_below (g := gb136) (o := .cells #[.int .i64 x137000_3, .int .i64 x137001_3, .int .i64 x137002_3, .int .i64 x137003_3, .bool x137004_3, .int .u32 x137005_3] 26 (0, 0)) (by (with_reducible repeat (first | refine blk_drewN ?_ _ | refine blk_drew ?_ | refine blk_alloc ?_ _)); exact BK136.out) hb); have n1_ := Aside0.mk (below_step (by repeat (first | (with_reducible first | exact HB.out | apply below_alloc | apply pw_below_drewN | apply below_drew1 | refine below_set ?_ GE136.out) | exact HB.out)) hb); clear BK136; clear HB; have BK136 := n0_; have HB := n1_; clear n0_ n1_; (try clear hb); (try clear hb2); (try clear hk); (try clear hi); have hcz47_0 : w46.cell? ⟨gb136, 0, none⟩ = some (.int .i64 x137000_3) := (blk_cell BK136.out 0).trans rfl; have hcz47_1 : w46.cell? ⟨gb136, 1, none⟩ = some (.int .i64 x137001_3) := (blk_cell BK136.out 1).trans rfl; have hcz47_2 : w46.cell? ⟨gb136, 2, none⟩ = some (.int .i64 x137002_3) := (blk_cell BK136.out 2).trans rfl; have hcz47_3 : w46.cell? ⟨gb136, 3, none⟩ = some (.int .i64 x137003_3) := (blk_cell BK136.out 3).trans rfl; have hcz47_4 : w46.cell? ⟨gb136, 4, none⟩ = some (.bool x137004_3) := (blk_cell BK136.out 4).trans rfl; have hcz47_5 : w46.cell? ⟨gb136, 5, none⟩ = some (.int .u32 x137005_3) := (blk_cell BK136.out 5).trans rfl; have hfz47_0 := blk_frozen BK136.out 0; have hfz47_1 := blk_frozen BK136.out 1; have hfz47_2 := blk_frozen BK136.out 2; have hfz47_3 := blk_frozen BK136.out 3; have hfz47_4 := blk_frozen BK136.out 4; have hfz47_5 := blk_frozen BK136.out 5))
                            go_ret
                            exact ⟨by first | rfl | (simp [errW_none, errW_some] <;> rfl) | (simp only [← hji25]; first | rfl | (simp [errW_none, errW_some] <;> rfl)) | (simp [*, errW_none, errW_some] <;> rfl), by repeat (first | (with_reducible first | exact HB.out | apply below_alloc | apply pw_below_drewN | apply below_drew1 | refine below_set ?_ GE136.out) | exact HB.out)⟩
                      · rw [if_neg c36] at H
                        have c36b0 : (t153 == 0) = false := beq_eq_false_iff_ne.mpr c36
                        have c36b1 : (t153 != 0) = true := bne_iff_ne.mpr c36
                        obtain rfl := Option.some.inj H
                        go_wp2_with (first | ((with_reducible refine gate_callee (f := 10) rfl ?_); refine goesL_ (some 76) rfl rfl Try.func10 (by kernel_rfl) rfl #[.int .i64 a2, .int .i64 10] rfl (by (try simp only [List.map_toArray, List.map_cons, List.map_nil]); first | done | rfl | (simp only [List.length_drop, List.length_take]; rfl)) ?_; (with_reducible refine (patchbaykeep3_rest.calls a2 10 t145 _ A33.out).mono ?_); rintro e w' ⟨rfl, ⟨nd, rfl⟩⟩; refine ⟨_, rfl, ?_⟩; (try (rw [drewN_self wr]; generalize hq_ : World.drewN wr _ = wr; have n0_ : Aside0 (wr.heap[gb136]? = some (.cells #[.int .i64 x137000_3, .int .i64 x137001_3, .int .i64 x137002_3, .int .i64 x137003_3, .bool x137004_3, .int .u32 x137005_3] 26 (0, 0))) := ⟨by rw [← hq_]; exact (by (with_reducible repeat (first | refine blk_drewN ?_ _ | refine blk_drew ?_ | refine blk_alloc ?_ _)); exact BK136.out)⟩; have n1_ : Aside0 (Below w.heap.size w wr) := ⟨by rw [← hq_]; exact (by repeat (first | (with_reducible first | exact HB.out | apply below_alloc | apply pw_below_drewN | apply below_drew1 | refine below_set ?_ GE136.out) | exact HB.out))⟩; clear BK136 HB hq_; have BK136 := n0_; have HB := n1_; clear n0_ n1_)); have hcz48_0 : wr.cell? ⟨gb136, 0, none⟩ = some (.int .i64 x137000_3) := (blk_cell BK136.out 0).trans rfl; have hcz48_1 : wr.cell? ⟨gb136, 1, none⟩ = some (.int .i64 x137001_3) := (blk_cell BK136.out 1).trans rfl; have hcz48_2 : wr.cell? ⟨gb136, 2, none⟩ = some (.int .i64 x137002_3) := (blk_cell BK136.out 2).trans rfl; have hcz48_3 : wr.cell? ⟨gb136, 3, none⟩ = some (.int .i64 x137003_3) := (blk_cell BK136.out 3).trans rfl; have hcz48_4 : wr.cell? ⟨gb136, 4, none⟩ = some (.bool x137004_3) := (blk_cell BK136.out 4).trans rfl; have hcz48_5 : wr.cell? ⟨gb136, 5, none⟩ = some (.int .u32 x137005_3) := (blk_cell BK136.out 5).trans rfl; have hfz48_0 := blk_frozen BK136.out 0; have hfz48_1 := blk_frozen BK136.out 1; have hfz48_2 := blk_frozen BK136.out 2; have hfz48_3 := blk_frozen BK136.out 3; have hfz48_4 := blk_frozen BK136.out 4; have hfz48_5 := blk_frozen BK136.out 5) | ((with_reducible refine gate_callee (f := 12) rfl ?_); refine goesL_ (some 85) rfl rfl Try.func12 (by kernel_rfl) rfl #[.agg #[.int .i64 x137000_3, .int .i64 x137001_3, .int .i64 x137002_3, .int .i64 x137003_3, .bool x137004_3, .int .u32 x137005_3], .int .i64 (wrap64 (1 + t134)), .int .i64 0, .int .u32 0, .int .u32 (((wrap64 ((wrap64 (4 * (wrap64 (1 + t134)))) + t135))) % 4294967296)] rfl (by (try simp only [List.map_toArray, List.map_cons, List.map_nil]); first | done | rfl | (simp only [List.length_drop, List.length_take]; rfl)) ?_; (with_reducible refine (crowd_Ack.calls k3 x137000_3 x137001_3 x137002_3 x137003_3 x137004_3 x137005_3 (wrap64 (1 + t134)) 0 0 (((wrap64 ((wrap64 (4 * (wrap64 (1 + t134)))) + t135))) % 4294967296) t146 t147 t148 t149 t150 t151 t152 t153 _ A35.out).mono ?_); rintro e w49 ⟨rfl, hb⟩; refine ⟨_, rfl, ?_⟩; have n0_ := Aside0.mk (blk_below (g := gb136) (o := .cells #[.int .i64 x137000_3, .int .i64 x137001_3, .int .i64 x137002_3, .int .i64 x137003_3, .bool x137004_3, .int .u32 x137005_3] 26 (0, 0)) (by (with_reducible repeat (first | refine blk_drewN ?_ _ | refine blk_drew ?_ | refine blk_alloc ?_ _)); exact BK136.out) hb); have n1_ := Aside0.mk (below_step (by repeat (first | (with_reducible first | exact HB.out | apply below_alloc | apply pw_below_drewN | apply below_drew1 | refine below_set ?_ GE136.out) | exact HB.out)) hb); clear BK136; clear HB; have BK136 := n0_; have HB := n1_; clear n0_ n1_; (try clear hb); (try clear hb2); (try clear hk); (try clear hi); have hcz50_0 : w49.cell? ⟨gb136, 0, none⟩ = some (.int .i64 x137000_3) := (blk_cell BK136.out 0).trans rfl; have hcz50_1 : w49.cell? ⟨gb136, 1, none⟩ = some (.int .i64 x137001_3) := (blk_cell BK136.out 1).trans rfl; have hcz50_2 : w49.cell? ⟨gb136, 2, none⟩ = some (.int .i64 x137002_3) := (blk_cell BK136.out 2).trans rfl; have hcz50_3 : w49.cell? ⟨gb136, 3, none⟩ = some (.int .i64 x137003_3) := (blk_cell BK136.out 3).trans rfl; have hcz50_4 : w49.cell? ⟨gb136, 4, none⟩ = some (.bool x137004_3) := (blk_cell BK136.out 4).trans rfl; have hcz50_5 : w49.cell? ⟨gb136, 5, none⟩ = some (.int .u32 x137005_3) := (blk_cell BK136.out 5).trans rfl; have hfz50_0 := blk_frozen BK136.out 0; have hfz50_1 := blk_frozen BK136.out 1; have hfz50_2 := blk_frozen BK136.out 2; have hfz50_3 := blk_frozen BK136.out 3; have hfz50_4 := blk_frozen BK136.out 4; have hfz50_5 := blk_frozen BK136.out 5))
                        go_ret
                        exact ⟨by first | rfl | (simp [errW_none, errW_some] <;> rfl) | (simp only [← hji25]; first | rfl | (simp [errW_none, errW_some] <;> rfl)) | (simp [*, errW_none, errW_some] <;> rfl), by repeat (first | (with_reducible first | exact HB.out | apply below_alloc | apply pw_below_drewN | apply below_drew1 | refine below_set ?_ GE136.out) | exact HB.out)⟩
                    · rw [if_neg c34] at H
                      have c34b0 : decide (x14_3 < t145) = false := decide_eq_false c34
                      clear c34
                      have H' := Aside0.mk H
                      clear H
                      go_wp2_with (first | ((with_reducible refine gate_callee (f := 10) rfl ?_); refine goesL_ (some 76) rfl rfl Try.func10 (by kernel_rfl) rfl #[.int .i64 a2, .int .i64 10] rfl (by (try simp only [List.map_toArray, List.map_cons, List.map_nil]); first | done | rfl | (simp only [List.length_drop, List.length_take]; rfl)) ?_; (with_reducible refine (patchbaykeep3_rest.calls a2 10 t145 _ A33.out).mono ?_); rintro e w' ⟨rfl, ⟨nd, rfl⟩⟩; refine ⟨_, rfl, ?_⟩))
                      go_loopg [15, 16] k3 (fun kq v15 v16 w' => ∃ (x15_4 : Int) (x16_4 : Int) (x137000_4 : Int) (x137001_4 : Int) (x137002_4 : Int) (x137003_4 : Int) (x137004_4 : Bool) (x137005_4 : Int), v15 = .int .i64 x15_4 ∧ v16 = .int .i64 x16_4 ∧ Aside0 (patchbaykeep3_CrowdOnce.l2 kq (wrap64 (1 + t134)) (wrap64 ((wrap64 (4 * (wrap64 (1 + t134)))) + t135)) l3 ji25 x15_4 x16_4 x137000_4 x137001_4 x137002_4 x137003_4 x137004_4 x137005_4 = some r) ∧ Aside0 (kq ≤ k3) ∧ Aside0 (w'.heap[gb136]? = some (.cells #[.int .i64 x137000_4, .int .i64 x137001_4, .int .i64 x137002_4, .int .i64 x137003_4, .bool x137004_4, .int .u32 x137005_4] 26 (0, 0))) ∧ Aside0 (Below w.heap.size w w'))
                      case atStart => exact ⟨(0), (0), (x137000_3), (x137001_3), (x137002_3), (x137003_3), (x137004_3), (x137005_3), (by first | rfl | (simp; done) | (simp [*]; done)), (by first | rfl | (simp; done) | (simp [*]; done)), H', ⟨Nat.le_refl _⟩, ⟨by (with_reducible repeat (first | refine blk_drewN ?_ _ | refine blk_drew ?_ | refine blk_alloc ?_ _)); exact BK136.out⟩, ⟨by repeat (first | (with_reducible first | exact HB.out | apply below_alloc | apply pw_below_drewN | apply below_drew1 | refine below_set ?_ GE136.out) | exact HB.out)⟩⟩
                      case round =>
                        clear H'
                        try clear c1
                        try clear c2
                        try clear p2
                        try clear c3
                        try clear p3
                        try clear c4
                        try clear c5
                        try clear c6
                        try clear p6
                        try clear c9
                        try clear c10
                        try clear c12
                        try clear c12b0
                        try clear c14
                        try clear c14b0
                        try clear c14b1
                        try clear c15
                        try clear c15b0
                        try clear c15b1
                        try clear c15b2
                        try clear c27
                        try clear c28
                        try clear c28b0
                        try clear c28b1
                        try clear c32
                        try clear c34
                        try clear c34b0
                        try clear c36
                        try clear c36b0
                        try clear c36b1
                        try clear c37
                        try clear c41
                        try clear c41b0
                        try clear c41b1
                        try clear hcz11_0
                        try clear hcz11_1
                        try clear hcz11_2
                        try clear hcz11_3
                        try clear hcz11_4
                        try clear hcz11_5
                        try clear hcz16_0
                        try clear hcz16_1
                        try clear hcz16_2
                        try clear hcz16_3
                        try clear hcz16_4
                        try clear hcz16_5
                        try clear hcz18_0
                        try clear hcz18_1
                        try clear hcz18_2
                        try clear hcz18_3
                        try clear hcz18_4
                        try clear hcz18_5
                        try clear hcz19_0
                        try clear hcz19_1
                        try clear hcz19_2
                        try clear hcz19_3
                        try clear hcz19_4
                        try clear hcz19_5
                        try clear hcz21_0
                        try clear hcz21_1
                        try clear hcz21_2
                        try clear hcz21_3
                        try clear hcz21_4
                        try clear hcz21_5
                        try clear hcz22_0
                        try clear hcz22_1
                        try clear hcz22_2
                        try clear hcz22_3
                        try clear hcz22_4
                        try clear hcz22_5
                        try clear hcz24_0
                        try clear hcz24_1
                        try clear hcz24_2
                        try clear hcz24_3
                        try clear hcz24_4
                        try clear hcz24_5
                        try clear hcz29_0
                        try clear hcz29_1
                        try clear hcz29_2
                        try clear hcz29_3
                        try clear hcz29_4
                        try clear hcz29_5
                        try clear hcz30_0
                        try clear hcz30_1
                        try clear hcz30_2
                        try clear hcz30_3
                        try clear hcz30_4
                        try clear hcz30_5
                        try clear hcz31_0
                        try clear hcz31_1
                        try clear hcz31_2
                        try clear hcz31_3
                        try clear hcz31_4
                        try clear hcz31_5
                        try clear hcz38_0
                        try clear hcz38_1
                        try clear hcz38_2
                        try clear hcz38_3
                        try clear hcz38_4
                        try clear hcz38_5
                        try clear hcz40_0
                        try clear hcz40_1
                        try clear hcz40_2
                        try clear hcz40_3
                        try clear hcz40_4
                        try clear hcz40_5
                        try clear hcz42_0
                        try clear hcz42_1
                        try clear hcz42_2
                        try clear hcz42_3
                        try clear hcz42_4
                        try clear hcz42_5
                        try clear hcz44_0
                        try clear hcz44_1
                        try clear hcz44_2
                        try clear hcz44_3
                        try clear hcz44_4
                        try clear hcz44_5
                        try clear hcz45_0
                        try clear hcz45_1
                        try clear hcz45_2
                        try clear hcz45_3
                        try clear hcz45_4
                        try clear hcz45_5
                        try clear hcz47_0
                        try clear hcz47_1
                        try clear hcz47_2
                        try clear hcz47_3
                        try clear hcz47_4
                        try clear hcz47_5
                        try clear hcz48_0
                        try clear hcz48_1
                        try clear hcz48_2
                        try clear hcz48_3
                        try clear hcz48_4
                        try clear hcz48_5
                        try clear hcz50_0
                        try clear hcz50_1
                        try clear hcz50_2
                        try clear hcz50_3
                        try clear hcz50_4
                        try clear hcz50_5
                        try clear hfz11_0
                        try clear hfz11_1
                        try clear hfz11_2
                        try clear hfz11_3
                        try clear hfz11_4
                        try clear hfz11_5
                        try clear hfz16_0
                        try clear hfz16_1
                        try clear hfz16_2
                        try clear hfz16_3
                        try clear hfz16_4
                        try clear hfz16_5
                        try clear hfz18_0
                        try clear hfz18_1
                        try clear hfz18_2
                        try clear hfz18_3
                        try clear hfz18_4
                        try clear hfz18_5
                        try clear hfz19_0
                        try clear hfz19_1
                        try clear hfz19_2
                        try clear hfz19_3
                        try clear hfz19_4
                        try clear hfz19_5
                        try clear hfz21_0
                        try clear hfz21_1
                        try clear hfz21_2
                        try clear hfz21_3
                        try clear hfz21_4
                        try clear hfz21_5
                        try clear hfz22_0
                        try clear hfz22_1
                        try clear hfz22_2
                        try clear hfz22_3
                        try clear hfz22_4
                        try clear hfz22_5
                        try clear hfz24_0
                        try clear hfz24_1
                        try clear hfz24_2
                        try clear hfz24_3
                        try clear hfz24_4
                        try clear hfz24_5
                        try clear hfz29_0
                        try clear hfz29_1
                        try clear hfz29_2
                        try clear hfz29_3
                        try clear hfz29_4
                        try clear hfz29_5
                        try clear hfz30_0
                        try clear hfz30_1
                        try clear hfz30_2
                        try clear hfz30_3
                        try clear hfz30_4
                        try clear hfz30_5
                        try clear hfz31_0
                        try clear hfz31_1
                        try clear hfz31_2
                        try clear hfz31_3
                        try clear hfz31_4
                        try clear hfz31_5
                        try clear hfz38_0
                        try clear hfz38_1
                        try clear hfz38_2
                        try clear hfz38_3
                        try clear hfz38_4
                        try clear hfz38_5
                        try clear hfz40_0
                        try clear hfz40_1
                        try clear hfz40_2
                        try clear hfz40_3
                        try clear hfz40_4
                        try clear hfz40_5
                        try clear hfz42_0
                        try clear hfz42_1
                        try clear hfz42_2
                        try clear hfz42_3
                        try clear hfz42_4
                        try clear hfz42_5
                        try clear hfz44_0
                        try clear hfz44_1
                        try clear hfz44_2
                        try clear hfz44_3
                        try clear hfz44_4
                        try clear hfz44_5
                        try clear hfz45_0
                        try clear hfz45_1
                        try clear hfz45_2
                        try clear hfz45_3
                        try clear hfz45_4
                        try clear hfz45_5
                        try clear hfz47_0
                        try clear hfz47_1
                        try clear hfz47_2
                        try clear hfz47_3
                        try clear hfz47_4
                        try clear hfz47_5
                        try clear hfz48_0
                        try clear hfz48_1
                        try clear hfz48_2
                        try clear hfz48_3
                        try clear hfz48_4
                        try clear hfz48_5
                        try clear hfz50_0
                        try clear hfz50_1
                        try clear hfz50_2
                        try clear hfz50_3
                        try clear hfz50_4
                        try clear hfz50_5
                        try clear p2
                        try clear p3
                        try clear p6
                        obtain ⟨x15_4, x16_4, x137000_4, x137001_4, x137002_4, x137003_4, x137004_4, x137005_4, rfl, rfl, HA, HK4, BK136, HB⟩ := hrel
                        cases gk with
                        | zero => exact absurd HA.out (by simp [patchbaykeep3_CrowdOnce.l2])
                        | succ k4 =>
                          have H := HA.out
                          clear HA
                          simp only [patchbaykeep3_CrowdOnce.l2] at H
                          have HC51 := Aside0.mk H
                          clear H
                          go_upto_region 25 with (fail)
                          go_cut [107] (fun v107 wc => ∃ (kq : Nat) (x107_50 : Bool), v107 = .bool x107_50 ∧ Aside0 (patchbaykeep3_CrowdOnce.j4 kq (wrap64 (1 + t134)) (wrap64 ((wrap64 (4 * (wrap64 (1 + t134)))) + t135)) l3 ji25 x15_4 x16_4 x107_50 x137000_4 x137001_4 x137002_4 x137003_4 x137004_4 x137005_4 = some r) ∧ Aside0 (kq ≤ k4) ∧ Aside0 (wc.heap[gb136]? = some (.cells #[.int .i64 x137000_4, .int .i64 x137001_4, .int .i64 x137002_4, .int .i64 x137003_4, .bool x137004_4, .int .u32 x137005_4] 26 (0, 0))) ∧ Aside0 (Below w.heap.size w wc))
                          case first =>
                            have H := HC51.out
                            clear HC51
                            by_cases c52 : x16_4 < (l3.length : Int)
                            · rw [if_pos c52] at H
                              have c52b0 : decide (x16_4 < (l3.length : Int)) = true := decide_eq_true c52
                              clear c52
                              (first | rw [c52b0] | (simp only [i64_w, i32_w]; rw [c52b0]) | skip)
                              have H' := Aside0.mk H
                              clear H
                              go_wp2
                              go_meet
                              case rel => exact ⟨_, (decide (x16_4 < 10)), (by first | rfl | (simp; done) | (simp [*]; done)), H', ⟨by have := HK1.out; have := HJ25.out; have := HK3.out; have := HK4.out; first | omega | exact Nat.le_refl _⟩, ⟨by (with_reducible repeat (first | refine blk_drewN ?_ _ | refine blk_drew ?_ | refine blk_alloc ?_ _)); exact BK136.out⟩, ⟨by repeat (first | (with_reducible first | exact HB.out | apply below_alloc | apply pw_below_drewN | apply below_drew1 | refine below_set ?_ GE136.out) | exact HB.out)⟩⟩
                            · rw [if_neg c52] at H
                              have c52b0 : decide (x16_4 < (l3.length : Int)) = false := decide_eq_false c52
                              clear c52
                              (first | rw [c52b0] | (simp only [i64_w, i32_w]; rw [c52b0]) | skip)
                              have H' := Aside0.mk H
                              clear H
                              go_wp2
                              go_meet
                              case rel => exact ⟨_, (false), (by first | rfl | (simp; done) | (simp [*]; done)), H', ⟨by have := HK1.out; have := HJ25.out; have := HK3.out; have := HK4.out; first | omega | exact Nat.le_refl _⟩, ⟨by (with_reducible repeat (first | refine blk_drewN ?_ _ | refine blk_drew ?_ | refine blk_alloc ?_ _)); exact BK136.out⟩, ⟨by repeat (first | (with_reducible first | exact HB.out | apply below_alloc | apply pw_below_drewN | apply below_drew1 | refine below_set ?_ GE136.out) | exact HB.out)⟩⟩
                          case rest =>
                            clear HC51
                            try clear c1
                            try clear c2
                            try clear p2
                            try clear c3
                            try clear p3
                            try clear c4
                            try clear c5
                            try clear c6
                            try clear p6
                            try clear c9
                            try clear c10
                            try clear c12
                            try clear c12b0
                            try clear c14
                            try clear c14b0
                            try clear c14b1
                            try clear c15
                            try clear c15b0
                            try clear c15b1
                            try clear c15b2
                            try clear c27
                            try clear c28
                            try clear c28b0
                            try clear c28b1
                            try clear c32
                            try clear c34
                            try clear c34b0
                            try clear c36
                            try clear c36b0
                            try clear c36b1
                            try clear c37
                            try clear c41
                            try clear c41b0
                            try clear c41b1
                            try clear c52
                            try clear c52b0
                            try clear hcz11_0
                            try clear hcz11_1
                            try clear hcz11_2
                            try clear hcz11_3
                            try clear hcz11_4
                            try clear hcz11_5
                            try clear hcz16_0
                            try clear hcz16_1
                            try clear hcz16_2
                            try clear hcz16_3
                            try clear hcz16_4
                            try clear hcz16_5
                            try clear hcz18_0
                            try clear hcz18_1
                            try clear hcz18_2
                            try clear hcz18_3
                            try clear hcz18_4
                            try clear hcz18_5
                            try clear hcz19_0
                            try clear hcz19_1
                            try clear hcz19_2
                            try clear hcz19_3
                            try clear hcz19_4
                            try clear hcz19_5
                            try clear hcz21_0
                            try clear hcz21_1
                            try clear hcz21_2
                            try clear hcz21_3
                            try clear hcz21_4
                            try clear hcz21_5
                            try clear hcz22_0
                            try clear hcz22_1
                            try clear hcz22_2
                            try clear hcz22_3
                            try clear hcz22_4
                            try clear hcz22_5
                            try clear hcz24_0
                            try clear hcz24_1
                            try clear hcz24_2
                            try clear hcz24_3
                            try clear hcz24_4
                            try clear hcz24_5
                            try clear hcz29_0
                            try clear hcz29_1
                            try clear hcz29_2
                            try clear hcz29_3
                            try clear hcz29_4
                            try clear hcz29_5
                            try clear hcz30_0
                            try clear hcz30_1
                            try clear hcz30_2
                            try clear hcz30_3
                            try clear hcz30_4
                            try clear hcz30_5
                            try clear hcz31_0
                            try clear hcz31_1
                            try clear hcz31_2
                            try clear hcz31_3
                            try clear hcz31_4
                            try clear hcz31_5
                            try clear hcz38_0
                            try clear hcz38_1
                            try clear hcz38_2
                            try clear hcz38_3
                            try clear hcz38_4
                            try clear hcz38_5
                            try clear hcz40_0
                            try clear hcz40_1
                            try clear hcz40_2
                            try clear hcz40_3
                            try clear hcz40_4
                            try clear hcz40_5
                            try clear hcz42_0
                            try clear hcz42_1
                            try clear hcz42_2
                            try clear hcz42_3
                            try clear hcz42_4
                            try clear hcz42_5
                            try clear hcz44_0
                            try clear hcz44_1
                            try clear hcz44_2
                            try clear hcz44_3
                            try clear hcz44_4
                            try clear hcz44_5
                            try clear hcz45_0
                            try clear hcz45_1
                            try clear hcz45_2
                            try clear hcz45_3
                            try clear hcz45_4
                            try clear hcz45_5
                            try clear hcz47_0
                            try clear hcz47_1
                            try clear hcz47_2
                            try clear hcz47_3
                            try clear hcz47_4
                            try clear hcz47_5
                            try clear hcz48_0
                            try clear hcz48_1
                            try clear hcz48_2
                            try clear hcz48_3
                            try clear hcz48_4
                            try clear hcz48_5
                            try clear hcz50_0
                            try clear hcz50_1
                            try clear hcz50_2
                            try clear hcz50_3
                            try clear hcz50_4
                            try clear hcz50_5
                            try clear hfz11_0
                            try clear hfz11_1
                            try clear hfz11_2
                            try clear hfz11_3
                            try clear hfz11_4
                            try clear hfz11_5
                            try clear hfz16_0
                            try clear hfz16_1
                            try clear hfz16_2
                            try clear hfz16_3
                            try clear hfz16_4
                            try clear hfz16_5
                            try clear hfz18_0
                            try clear hfz18_1
                            try clear hfz18_2
                            try clear hfz18_3
                            try clear hfz18_4
                            try clear hfz18_5
                            try clear hfz19_0
                            try clear hfz19_1
                            try clear hfz19_2
                            try clear hfz19_3
                            try clear hfz19_4
                            try clear hfz19_5
                            try clear hfz21_0
                            try clear hfz21_1
                            try clear hfz21_2
                            try clear hfz21_3
                            try clear hfz21_4
                            try clear hfz21_5
                            try clear hfz22_0
                            try clear hfz22_1
                            try clear hfz22_2
                            try clear hfz22_3
                            try clear hfz22_4
                            try clear hfz22_5
                            try clear hfz24_0
                            try clear hfz24_1
                            try clear hfz24_2
                            try clear hfz24_3
                            try clear hfz24_4
                            try clear hfz24_5
                            try clear hfz29_0
                            try clear hfz29_1
                            try clear hfz29_2
                            try clear hfz29_3
                            try clear hfz29_4
                            try clear hfz29_5
                            try clear hfz30_0
                            try clear hfz30_1
                            try clear hfz30_2
                            try clear hfz30_3
                            try clear hfz30_4
                            try clear hfz30_5
                            try clear hfz31_0
                            try clear hfz31_1
                            try clear hfz31_2
                            try clear hfz31_3
                            try clear hfz31_4
                            try clear hfz31_5
                            try clear hfz38_0
                            try clear hfz38_1
                            try clear hfz38_2
                            try clear hfz38_3
                            try clear hfz38_4
                            try clear hfz38_5
                            try clear hfz40_0
                            try clear hfz40_1
                            try clear hfz40_2
                            try clear hfz40_3
                            try clear hfz40_4
                            try clear hfz40_5
                            try clear hfz42_0
                            try clear hfz42_1
                            try clear hfz42_2
                            try clear hfz42_3
                            try clear hfz42_4
                            try clear hfz42_5
                            try clear hfz44_0
                            try clear hfz44_1
                            try clear hfz44_2
                            try clear hfz44_3
                            try clear hfz44_4
                            try clear hfz44_5
                            try clear hfz45_0
                            try clear hfz45_1
                            try clear hfz45_2
                            try clear hfz45_3
                            try clear hfz45_4
                            try clear hfz45_5
                            try clear hfz47_0
                            try clear hfz47_1
                            try clear hfz47_2
                            try clear hfz47_3
                            try clear hfz47_4
                            try clear hfz47_5
                            try clear hfz48_0
                            try clear hfz48_1
                            try clear hfz48_2
                            try clear hfz48_3
                            try clear hfz48_4
                            try clear hfz48_5
                            try clear hfz50_0
                            try clear hfz50_1
                            try clear hfz50_2
                            try clear hfz50_3
                            try clear hfz50_4
                            try clear hfz50_5
                            try clear p2
                            try clear p3
                            try clear p6
                            obtain ⟨kq, x107_50, rfl, HA, HJ50, BK136, HB⟩ := hcut
                            cases kq with
                            | zero => exact absurd HA.out (by simp [patchbaykeep3_CrowdOnce.j4])
                            | succ kj50 =>
                              have H := HA.out
                              clear HA
                              simp only [patchbaykeep3_CrowdOnce.j4] at H
                              by_cases c53 : x107_50 = true
                              · subst c53
                                have H1 : (if 0 ≤ x16_4 then (if x16_4 < (l3.length : Int) then ((patchbaykeep3_rest.f (rd l3 x16_4) 100).bind fun t163 => (if (wrap64 (x15_4 + (wrap64 (1 + t163)))) ≥ (wrap64 ((wrap64 (4 * (wrap64 (1 + t134)))) + t135)) then ((crowd_Ack.f kj50 x137000_4 x137001_4 x137002_4 x137003_4 x137004_4 x137005_4 (wrap64 (1 + t134)) (wrap64 ((wrap64 ((wrap64 (4 * (wrap64 (1 + t134)))) + t135)) - x15_4)) (((wrap64 ((wrap64 (4 * (wrap64 (1 + t134)))) + t135))) % 4294967296) (((wrap64 ((wrap64 (4 * (wrap64 (1 + t134)))) + t135))) % 4294967296)).bind fun bt164 => (if bt164.2.2.2.2.2.2.2 = 0 then (if bt164.2.2.2.2.2.2.1 = true then (some false) else (if bt164.2.2.2.2.1 = true then (some false) else (some (bt164.1 == ji25)))) else (some false))) else ((crowd_Ack.f kj50 x137000_4 x137001_4 x137002_4 x137003_4 x137004_4 x137005_4 (wrap64 (1 + t134)) (wrap64 (1 + t163)) ((wrap64 (x15_4 + (wrap64 (1 + t163)))) % 4294967296) (((wrap64 ((wrap64 (4 * (wrap64 (1 + t134)))) + t135))) % 4294967296)).bind fun bt172 => (if bt172.2.2.2.2.2.2.2 = 0 then (if bt172.2.2.2.2.2.2.1 = true then (if bt172.2.2.2.2.1 = true then (if bt172.2.1 = ji25 then (patchbaykeep3_CrowdOnce.l2 kj50 (wrap64 (1 + t134)) (wrap64 ((wrap64 (4 * (wrap64 (1 + t134)))) + t135)) l3 ji25 (wrap64 (x15_4 + (wrap64 (1 + t163)))) (wrap64 (x16_4 + 1)) bt172.1 bt172.2.1 bt172.2.2.1 bt172.2.2.2.1 bt172.2.2.2.2.1 bt172.2.2.2.2.2.1) else (some false)) else (some false)) else (some false)) else (some false))))) else (none)) else (none)) = some r := by rw [if_pos rfl] at H; exact H
                                clear H
                                have H := H1
                                clear H1
                                by_cases c54 : 0 ≤ x16_4
                                · rw [if_pos c54] at H
                                  have c54b0 : decide (0 ≤ x16_4) = true := decide_eq_true c54
                                  clear c54
                                  by_cases c55 : x16_4 < (l3.length : Int)
                                  · rw [if_pos c55] at H
                                    have c55b0 : decide (x16_4 < (l3.length : Int)) = true := decide_eq_true c55
                                    clear c55
                                    replace H := Option.bind_eq_some_iff.mp H
                                    obtain ⟨t163, A560, H⟩ := H
                                    replace H : (if (wrap64 (x15_4 + (wrap64 (1 + t163)))) ≥ (wrap64 ((wrap64 (4 * (wrap64 (1 + t134)))) + t135)) then ((crowd_Ack.f kj50 x137000_4 x137001_4 x137002_4 x137003_4 x137004_4 x137005_4 (wrap64 (1 + t134)) (wrap64 ((wrap64 ((wrap64 (4 * (wrap64 (1 + t134)))) + t135)) - x15_4)) (((wrap64 ((wrap64 (4 * (wrap64 (1 + t134)))) + t135))) % 4294967296) (((wrap64 ((wrap64 (4 * (wrap64 (1 + t134)))) + t135))) % 4294967296)).bind fun bt164 => (if bt164.2.2.2.2.2.2.2 = 0 then (if bt164.2.2.2.2.2.2.1 = true then (some false) else (if bt164.2.2.2.2.1 = true then (some false) else (some (bt164.1 == ji25)))) else (some false))) else ((crowd_Ack.f kj50 x137000_4 x137001_4 x137002_4 x137003_4 x137004_4 x137005_4 (wrap64 (1 + t134)) (wrap64 (1 + t163)) ((wrap64 (x15_4 + (wrap64 (1 + t163)))) % 4294967296) (((wrap64 ((wrap64 (4 * (wrap64 (1 + t134)))) + t135))) % 4294967296)).bind fun bt172 => (if bt172.2.2.2.2.2.2.2 = 0 then (if bt172.2.2.2.2.2.2.1 = true then (if bt172.2.2.2.2.1 = true then (if bt172.2.1 = ji25 then (patchbaykeep3_CrowdOnce.l2 kj50 (wrap64 (1 + t134)) (wrap64 ((wrap64 (4 * (wrap64 (1 + t134)))) + t135)) l3 ji25 (wrap64 (x15_4 + (wrap64 (1 + t163)))) (wrap64 (x16_4 + 1)) bt172.1 bt172.2.1 bt172.2.2.1 bt172.2.2.2.1 bt172.2.2.2.2.1 bt172.2.2.2.2.2.1) else (some false)) else (some false)) else (some false)) else (some false)))) = some r := H
                                    have A56 := Aside0.mk A560
                                    clear A560
                                    by_cases c57 : (wrap64 (x15_4 + (wrap64 (1 + t163)))) ≥ (wrap64 ((wrap64 (4 * (wrap64 (1 + t134)))) + t135))
                                    · rw [if_pos c57] at H
                                      have c57b0 : decide ((wrap64 ((wrap64 (4 * (wrap64 (1 + t134)))) + t135)) ≤ (wrap64 (x15_4 + (wrap64 (1 + t163))))) = true := decide_eq_true c57
                                      clear c57
                                      replace H := Option.bind_eq_some_iff.mp H
                                      obtain ⟨⟨t164, t165, t166, t167, t168, t169, t170, t171⟩, A580, H⟩ := H
                                      replace H : (if t171 = 0 then (if t170 = true then (some false) else (if t168 = true then (some false) else (some (t164 == ji25)))) else (some false)) = some r := H
                                      have A58 := Aside0.mk A580
                                      clear A580
                                      by_cases c59 : t171 = 0
                                      · rw [if_pos c59] at H
                                        have c59b0 : (t171 == 0) = true := beq_iff_eq.mpr c59
                                        have c59b1 : (t171 != 0) = false := bne_eq_false_iff_eq.mpr c59
                                        clear c59
                                        by_cases c60 : t170 = true
                                        · subst c60
                                          have H1 : (some false) = some r := by rw [if_pos rfl] at H; exact H
                                          clear H
                                          have H := H1
                                          clear H1
                                          obtain rfl := Option.some.inj H
                                          have p162 : 0 ≤ (x16_4 : Int) := of_decide_eq_true (by first | (with_reducible assumption) | assumption)
                                          have q162 : x16_4 < (l3.length : Int) := of_decide_eq_true (by first | (with_reducible assumption) | assumption)
                                          obtain ⟨ad162, e162, hx162_0⟩ := Kd.at_int HR3.out x16_4 p162 q162
                                          cases e162
                                          replace hx162_0 := (HB.out.cell (World.block_lt_of_cell? w _ hx162_0)).trans hx162_0
                                          replace p162 := eq_true p162
                                          replace q162 := eq_true q162
                                          go_wp2_with (first | ((with_reducible refine gate_callee (f := 10) rfl ?_); refine goesL_ (some 114) rfl rfl Try.func10 (by kernel_rfl) rfl #[.int .i64 (rd l3 x16_4), .int .i64 100] rfl (by (try simp only [List.map_toArray, List.map_cons, List.map_nil]); first | done | rfl | (simp only [List.length_drop, List.length_take]; rfl)) ?_; (with_reducible refine (patchbaykeep3_rest.calls (rd l3 x16_4) 100 t163 _ A56.out).mono ?_); rintro e w' ⟨rfl, ⟨nd, rfl⟩⟩; refine ⟨_, rfl, ?_⟩; (try (rw [drewN_self wc]; generalize hq_ : World.drewN wc _ = wc; have n0_ : Aside0 (wc.heap[gb136]? = some (.cells #[.int .i64 x137000_4, .int .i64 x137001_4, .int .i64 x137002_4, .int .i64 x137003_4, .bool x137004_4, .int .u32 x137005_4] 26 (0, 0))) := ⟨by rw [← hq_]; exact (by (with_reducible repeat (first | refine blk_drewN ?_ _ | refine blk_drew ?_ | refine blk_alloc ?_ _)); exact BK136.out)⟩; have n1_ : Aside0 (Below w.heap.size w wc) := ⟨by rw [← hq_]; exact (by repeat (first | (with_reducible first | exact HB.out | apply below_alloc | apply pw_below_drewN | apply below_drew1 | refine below_set ?_ GE136.out) | exact HB.out))⟩; clear BK136 HB hq_; have BK136 := n0_; have HB := n1_; clear n0_ n1_)); have hcz61_0 : wc.cell? ⟨gb136, 0, none⟩ = some (.int .i64 x137000_4) := (blk_cell BK136.out 0).trans rfl; have hcz61_1 : wc.cell? ⟨gb136, 1, none⟩ = some (.int .i64 x137001_4) := (blk_cell BK136.out 1).trans rfl; have hcz61_2 : wc.cell? ⟨gb136, 2, none⟩ = some (.int .i64 x137002_4) := (blk_cell BK136.out 2).trans rfl; have hcz61_3 : wc.cell? ⟨gb136, 3, none⟩ = some (.int .i64 x137003_4) := (blk_cell BK136.out 3).trans rfl; have hcz61_4 : wc.cell? ⟨gb136, 4, none⟩ = some (.bool x137004_4) := (blk_cell BK136.out 4).trans rfl; have hcz61_5 : wc.cell? ⟨gb136, 5, none⟩ = some (.int .u32 x137005_4) := (blk_cell BK136.out 5).trans rfl; have hfz61_0 := blk_frozen BK136.out 0; have hfz61_1 := blk_frozen BK136.out 1; have hfz61_2 := blk_frozen BK136.out 2; have hfz61_3 := blk_frozen BK136.out 3; have hfz61_4 := blk_frozen BK136.out 4; have hfz61_5 := blk_frozen BK136.out 5) | ((with_reducible refine gate_callee (f := 12) rfl ?_); refine goesL_ (some 163) rfl rfl Try.func12 (by kernel_rfl) rfl #[.agg #[.int .i64 x137000_4, .int .i64 x137001_4, .int .i64 x137002_4, .int .i64 x137003_4, .bool x137004_4, .int .u32 x137005_4], .int .i64 (wrap64 (1 + t134)), .int .i64 (wrap64 ((wrap64 ((wrap64 (4 * (wrap64 (1 + t134)))) + t135)) - x15_4)), .int .u32 (((wrap64 ((wrap64 (4 * (wrap64 (1 + t134)))) + t135))) % 4294967296), .int .u32 (((wrap64 ((wrap64 (4 * (wrap64 (1 + t134)))) + t135))) % 4294967296)] rfl (by (try simp only [List.map_toArray, List.map_cons, List.map_nil]); first | done | rfl | (simp only [List.length_drop, List.length_take]; rfl)) ?_; (with_reducible refine (crowd_Ack.calls kj50 x137000_4 x137001_4 x137002_4 x137003_4 x137004_4 x137005_4 (wrap64 (1 + t134)) (wrap64 ((wrap64 ((wrap64 (4 * (wrap64 (1 + t134)))) + t135)) - x15_4)) (((wrap64 ((wrap64 (4 * (wrap64 (1 + t134)))) + t135))) % 4294967296) (((wrap64 ((wrap64 (4 * (wrap64 (1 + t134)))) + t135))) % 4294967296) t164 t165 t166 t167 t168 t169 true t171 _ A58.out).mono ?_); rintro e w62 ⟨rfl, hb⟩; refine ⟨_, rfl, ?_⟩; have n0_ := Aside0.mk (blk_below (g := gb136) (o := .cells #[.int .i64 x137000_4, .int .i64 x137001_4, .int .i64 x137002_4, .int .i64 x137003_4, .bool x137004_4, .int .u32 x137005_4] 26 (0, 0)) (by (with_reducible repeat (first | refine blk_drewN ?_ _ | refine blk_drew ?_ | refine blk_alloc ?_ _)); exact BK136.out) hb); have n1_ := Aside0.mk (below_step (by repeat (first | (with_reducible first | exact HB.out | apply below_alloc | apply pw_below_drewN | apply below_drew1 | refine below_set ?_ GE136.out) | exact HB.out)) hb); clear BK136; clear HB; have BK136 := n0_; have HB := n1_; clear n0_ n1_; (try clear hb); (try clear hb2); (try clear hk); (try clear hi); have hcz63_0 : w62.cell? ⟨gb136, 0, none⟩ = some (.int .i64 x137000_4) := (blk_cell BK136.out 0).trans rfl; have hcz63_1 : w62.cell? ⟨gb136, 1, none⟩ = some (.int .i64 x137001_4) := (blk_cell BK136.out 1).trans rfl; have hcz63_2 : w62.cell? ⟨gb136, 2, none⟩ = some (.int .i64 x137002_4) := (blk_cell BK136.out 2).trans rfl; have hcz63_3 : w62.cell? ⟨gb136, 3, none⟩ = some (.int .i64 x137003_4) := (blk_cell BK136.out 3).trans rfl; have hcz63_4 : w62.cell? ⟨gb136, 4, none⟩ = some (.bool x137004_4) := (blk_cell BK136.out 4).trans rfl; have hcz63_5 : w62.cell? ⟨gb136, 5, none⟩ = some (.int .u32 x137005_4) := (blk_cell BK136.out 5).trans rfl; have hfz63_0 := blk_frozen BK136.out 0; have hfz63_1 := blk_frozen BK136.out 1; have hfz63_2 := blk_frozen BK136.out 2; have hfz63_3 := blk_frozen BK136.out 3; have hfz63_4 := blk_frozen BK136.out 4; have hfz63_5 := blk_frozen BK136.out 5))
                                          go_ret
                                          exact ⟨by first | rfl | (simp [errW_none, errW_some] <;> rfl) | (simp only [← hji25]; first | rfl | (simp [errW_none, errW_some] <;> rfl)) | (simp [*, errW_none, errW_some] <;> rfl), by repeat (first | (with_reducible first | exact HB.out | apply below_alloc | apply pw_below_drewN | apply below_drew1 | refine below_set ?_ GE136.out) | exact HB.out)⟩
                                        · replace c60 := Bool.eq_false_iff.mpr c60
                                          subst c60
                                          have H1 : (if t168 = true then (some false) else (some (t164 == ji25))) = some r := by rw [if_neg (show ¬ (false = true) by decide)] at H; exact H
                                          clear H
                                          have H := H1
                                          clear H1
                                          by_cases c64 : t168 = true
                                          · subst c64
                                            have H1 : (some false) = some r := by rw [if_pos rfl] at H; exact H
                                            clear H
                                            have H := H1
                                            clear H1
                                            obtain rfl := Option.some.inj H
                                            have p162 : 0 ≤ (x16_4 : Int) := of_decide_eq_true (by first | (with_reducible assumption) | assumption)
                                            have q162 : x16_4 < (l3.length : Int) := of_decide_eq_true (by first | (with_reducible assumption) | assumption)
                                            obtain ⟨ad162, e162, hx162_0⟩ := Kd.at_int HR3.out x16_4 p162 q162
                                            cases e162
                                            replace hx162_0 := (HB.out.cell (World.block_lt_of_cell? w _ hx162_0)).trans hx162_0
                                            replace p162 := eq_true p162
                                            replace q162 := eq_true q162
                                            go_wp2_with (first | ((with_reducible refine gate_callee (f := 10) rfl ?_); refine goesL_ (some 114) rfl rfl Try.func10 (by kernel_rfl) rfl #[.int .i64 (rd l3 x16_4), .int .i64 100] rfl (by (try simp only [List.map_toArray, List.map_cons, List.map_nil]); first | done | rfl | (simp only [List.length_drop, List.length_take]; rfl)) ?_; (with_reducible refine (patchbaykeep3_rest.calls (rd l3 x16_4) 100 t163 _ A56.out).mono ?_); rintro e w' ⟨rfl, ⟨nd, rfl⟩⟩; refine ⟨_, rfl, ?_⟩; (try (rw [drewN_self wc]; generalize hq_ : World.drewN wc _ = wc; have n0_ : Aside0 (wc.heap[gb136]? = some (.cells #[.int .i64 x137000_4, .int .i64 x137001_4, .int .i64 x137002_4, .int .i64 x137003_4, .bool x137004_4, .int .u32 x137005_4] 26 (0, 0))) := ⟨by rw [← hq_]; exact (by (with_reducible repeat (first | refine blk_drewN ?_ _ | refine blk_drew ?_ | refine blk_alloc ?_ _)); exact BK136.out)⟩; have n1_ : Aside0 (Below w.heap.size w wc) := ⟨by rw [← hq_]; exact (by repeat (first | (with_reducible first | exact HB.out | apply below_alloc | apply pw_below_drewN | apply below_drew1 | refine below_set ?_ GE136.out) | exact HB.out))⟩; clear BK136 HB hq_; have BK136 := n0_; have HB := n1_; clear n0_ n1_)); have hcz65_0 : wc.cell? ⟨gb136, 0, none⟩ = some (.int .i64 x137000_4) := (blk_cell BK136.out 0).trans rfl; have hcz65_1 : wc.cell? ⟨gb136, 1, none⟩ = some (.int .i64 x137001_4) := (blk_cell BK136.out 1).trans rfl; have hcz65_2 : wc.cell? ⟨gb136, 2, none⟩ = some (.int .i64 x137002_4) := (blk_cell BK136.out 2).trans rfl; have hcz65_3 : wc.cell? ⟨gb136, 3, none⟩ = some (.int .i64 x137003_4) := (blk_cell BK136.out 3).trans rfl; have hcz65_4 : wc.cell? ⟨gb136, 4, none⟩ = some (.bool x137004_4) := (blk_cell BK136.out 4).trans rfl; have hcz65_5 : wc.cell? ⟨gb136, 5, none⟩ = some (.int .u32 x137005_4) := (blk_cell BK136.out 5).trans rfl; have hfz65_0 := blk_frozen BK136.out 0; have hfz65_1 := blk_frozen BK136.out 1; have hfz65_2 := blk_frozen BK136.out 2; have hfz65_3 := blk_frozen BK136.out 3; have hfz65_4 := blk_frozen BK136.out 4; have hfz65_5 := blk_frozen BK136.out 5) | ((with_reducible refine gate_callee (f := 12) rfl ?_); refine goesL_ (some 163) rfl rfl Try.func12 (by kernel_rfl) rfl #[.agg #[.int .i64 x137000_4, .int .i64 x137001_4, .int .i64 x137002_4, .int .i64 x137003_4, .bool x137004_4, .int .u32 x137005_4], .int .i64 (wrap64 (1 + t134)), .int .i64 (wrap64 ((wrap64 ((wrap64 (4 * (wrap64 (1 + t134)))) + t135)) - x15_4)), .int .u32 (((wrap64 ((wrap64 (4 * (wrap64 (1 + t134)))) + t135))) % 4294967296), .int .u32 (((wrap64 ((wrap64 (4 * (wrap64 (1 + t134)))) + t135))) % 4294967296)] rfl (by (try simp only [List.map_toArray, List.map_cons, List.map_nil]); first | done | rfl | (simp only [List.length_drop, List.length_take]; rfl)) ?_; (with_reducible refine (crowd_Ack.calls kj50 x137000_4 x137001_4 x137002_4 x137003_4 x137004_4 x137005_4 (wrap64 (1 + t134)) (wrap64 ((wrap64 ((wrap64 (4 * (wrap64 (1 + t134)))) + t135)) - x15_4)) (((wrap64 ((wrap64 (4 * (wrap64 (1 + t134)))) + t135))) % 4294967296) (((wrap64 ((wrap64 (4 * (wrap64 (1 + t134)))) + t135))) % 4294967296) t164 t165 t166 t167 true t169 false t171 _ A58.out).mono ?_); rintro e w66 ⟨rfl, hb⟩; refine ⟨_, rfl, ?_⟩; have n0_ := Aside0.mk (blk_below (g := gb136) (o := .cells #[.int .i64 x137000_4, .int .i64 x137001_4, .int .i64 x137002_4, .int .i64 x137003_4, .bool x137004_4, .int .u32 x137005_4] 26 (0, 0)) (by (with_reducible repeat (first | refine blk_drewN ?_ _ | refine blk_drew ?_ | refine blk_alloc ?_ _)); exact BK136.out) hb); have n1_ := Aside0.mk (below_step (by repeat (first | (with_reducible first | exact HB.out | apply below_alloc | apply pw_below_drewN | apply below_drew1 | refine below_set ?_ GE136.out) | exact HB.out)) hb); clear BK136; clear HB; have BK136 := n0_; have HB := n1_; clear n0_ n1_; (try clear hb); (try clear hb2); (try clear hk); (try clear hi); have hcz67_0 : w66.cell? ⟨gb136, 0, none⟩ = some (.int .i64 x137000_4) := (blk_cell BK136.out 0).trans rfl; have hcz67_1 : w66.cell? ⟨gb136, 1, none⟩ = some (.int .i64 x137001_4) := (blk_cell BK136.out 1).trans rfl; have hcz67_2 : w66.cell? ⟨gb136, 2, none⟩ = some (.int .i64 x137002_4) := (blk_cell BK136.out 2).trans rfl; have hcz67_3 : w66.cell? ⟨gb136, 3, none⟩ = some (.int .i64 x137003_4) := (blk_cell BK136.out 3).trans rfl; have hcz67_4 : w66.cell? ⟨gb136, 4, none⟩ = some (.bool x137004_4) := (blk_cell BK136.out 4).trans rfl; have hcz67_5 : w66.cell? ⟨gb136, 5, none⟩ = some (.int .u32 x137005_4) := (blk_cell BK136.out 5).trans rfl; have hfz67_0 := blk_frozen BK136.out 0; have hfz67_1 := blk_frozen BK136.out 1; have hfz67_2 := blk_frozen BK136.out 2; have hfz67_3 := blk_frozen BK136.out 3; have hfz67_4 := blk_frozen BK136.out 4; have hfz67_5 := blk_frozen BK136.out 5))
                                            go_ret
                                            exact ⟨by first | rfl | (simp [errW_none, errW_some] <;> rfl) | (simp only [← hji25]; first | rfl | (simp [errW_none, errW_some] <;> rfl)) | (simp [*, errW_none, errW_some] <;> rfl), by repeat (first | (with_reducible first | exact HB.out | apply below_alloc | apply pw_below_drewN | apply below_drew1 | refine below_set ?_ GE136.out) | exact HB.out)⟩
                                          · replace c64 := Bool.eq_false_iff.mpr c64
                                            subst c64
                                            have H1 : (some (t164 == ji25)) = some r := by rw [if_neg (show ¬ (false = true) by decide)] at H; exact H
                                            clear H
                                            have H := H1
                                            clear H1
                                            obtain rfl := Option.some.inj H
                                            have p162 : 0 ≤ (x16_4 : Int) := of_decide_eq_true (by first | (with_reducible assumption) | assumption)
                                            have q162 : x16_4 < (l3.length : Int) := of_decide_eq_true (by first | (with_reducible assumption) | assumption)
                                            obtain ⟨ad162, e162, hx162_0⟩ := Kd.at_int HR3.out x16_4 p162 q162
                                            cases e162
                                            replace hx162_0 := (HB.out.cell (World.block_lt_of_cell? w _ hx162_0)).trans hx162_0
                                            replace p162 := eq_true p162
                                            replace q162 := eq_true q162
                                            go_wp2_with (first | ((with_reducible refine gate_callee (f := 10) rfl ?_); refine goesL_ (some 114) rfl rfl Try.func10 (by kernel_rfl) rfl #[.int .i64 (rd l3 x16_4), .int .i64 100] rfl (by (try simp only [List.map_toArray, List.map_cons, List.map_nil]); first | done | rfl | (simp only [List.length_drop, List.length_take]; rfl)) ?_; (with_reducible refine (patchbaykeep3_rest.calls (rd l3 x16_4) 100 t163 _ A56.out).mono ?_); rintro e w' ⟨rfl, ⟨nd, rfl⟩⟩; refine ⟨_, rfl, ?_⟩; (try (rw [drewN_self wc]; generalize hq_ : World.drewN wc _ = wc; have n0_ : Aside0 (wc.heap[gb136]? = some (.cells #[.int .i64 x137000_4, .int .i64 x137001_4, .int .i64 x137002_4, .int .i64 x137003_4, .bool x137004_4, .int .u32 x137005_4] 26 (0, 0))) := ⟨by rw [← hq_]; exact (by (with_reducible repeat (first | refine blk_drewN ?_ _ | refine blk_drew ?_ | refine blk_alloc ?_ _)); exact BK136.out)⟩; have n1_ : Aside0 (Below w.heap.size w wc) := ⟨by rw [← hq_]; exact (by repeat (first | (with_reducible first | exact HB.out | apply below_alloc | apply pw_below_drewN | apply below_drew1 | refine below_set ?_ GE136.out) | exact HB.out))⟩; clear BK136 HB hq_; have BK136 := n0_; have HB := n1_; clear n0_ n1_)); have hcz68_0 : wc.cell? ⟨gb136, 0, none⟩ = some (.int .i64 x137000_4) := (blk_cell BK136.out 0).trans rfl; have hcz68_1 : wc.cell? ⟨gb136, 1, none⟩ = some (.int .i64 x137001_4) := (blk_cell BK136.out 1).trans rfl; have hcz68_2 : wc.cell? ⟨gb136, 2, none⟩ = some (.int .i64 x137002_4) := (blk_cell BK136.out 2).trans rfl; have hcz68_3 : wc.cell? ⟨gb136, 3, none⟩ = some (.int .i64 x137003_4) := (blk_cell BK136.out 3).trans rfl; have hcz68_4 : wc.cell? ⟨gb136, 4, none⟩ = some (.bool x137004_4) := (blk_cell BK136.out 4).trans rfl; have hcz68_5 : wc.cell? ⟨gb136, 5, none⟩ = some (.int .u32 x137005_4) := (blk_cell BK136.out 5).trans rfl; have hfz68_0 := blk_frozen BK136.out 0; have hfz68_1 := blk_frozen BK136.out 1; have hfz68_2 := blk_frozen BK136.out 2; have hfz68_3 := blk_frozen BK136.out 3; have hfz68_4 := blk_frozen BK136.out 4; have hfz68_5 := blk_frozen BK136.out 5) | ((with_reducible refine gate_callee (f := 12) rfl ?_); refine goesL_ (some 163) rfl rfl Try.func12 (by kernel_rfl) rfl #[.agg #[.int .i64 x137000_4, .int .i64 x137001_4, .int .i64 x137002_4, .int .i64 x137003_4, .bool x137004_4, .int .u32 x137005_4], .int .i64 (wrap64 (1 + t134)), .int .i64 (wrap64 ((wrap64 ((wrap64 (4 * (wrap64 (1 + t134)))) + t135)) - x15_4)), .int .u32 (((wrap64 ((wrap64 (4 * (wrap64 (1 + t134)))) + t135))) % 4294967296), .int .u32 (((wrap64 ((wrap64 (4 * (wrap64 (1 + t134)))) + t135))) % 4294967296)] rfl (by (try simp only [List.map_toArray, List.map_cons, List.map_nil]); first | done | rfl | (simp only [List.length_drop, List.length_take]; rfl)) ?_; (with_reducible refine (crowd_Ack.calls kj50 x137000_4 x137001_4 x137002_4 x137003_4 x137004_4 x137005_4 (wrap64 (1 + t134)) (wrap64 ((wrap64 ((wrap64 (4 * (wrap64 (1 + t134)))) + t135)) - x15_4)) (((wrap64 ((wrap64 (4 * (wrap64 (1 + t134)))) + t135))) % 4294967296) (((wrap64 ((wrap64 (4 * (wrap64 (1 + t134)))) + t135))) % 4294967296) t164 t165 t166 t167 false t169 false t171 _ A58.out).mono ?_); rintro e w69 ⟨rfl, hb⟩; refine ⟨_, rfl, ?_⟩; have n0_ := Aside0.mk (blk_below (g := gb136) (o := .cells #[.int .i64 x137000_4, .int .i64 x137001_4, .int .i64 x137002_4, .int .i64 x137003_4, .bool x137004_4, .int .u32 x137005_4] 26 (0, 0)) (by (with_reducible repeat (first | refine blk_drewN ?_ _ | refine blk_drew ?_ | refine blk_alloc ?_ _)); exact BK136.out) hb); have n1_ := Aside0.mk (below_step (by repeat (first | (with_reducible first | exact HB.out | apply below_alloc | apply pw_below_drewN | apply below_drew1 | refine below_set ?_ GE136.out) | exact HB.out)) hb); clear BK136; clear HB; have BK136 := n0_; have HB := n1_; clear n0_ n1_; (try clear hb); (try clear hb2); (try clear hk); (try clear hi); have hcz70_0 : w69.cell? ⟨gb136, 0, none⟩ = some (.int .i64 x137000_4) := (blk_cell BK136.out 0).trans rfl; have hcz70_1 : w69.cell? ⟨gb136, 1, none⟩ = some (.int .i64 x137001_4) := (blk_cell BK136.out 1).trans rfl; have hcz70_2 : w69.cell? ⟨gb136, 2, none⟩ = some (.int .i64 x137002_4) := (blk_cell BK136.out 2).trans rfl; have hcz70_3 : w69.cell? ⟨gb136, 3, none⟩ = some (.int .i64 x137003_4) := (blk_cell BK136.out 3).trans rfl; have hcz70_4 : w69.cell? ⟨gb136, 4, none⟩ = some (.bool x137004_4) := (blk_cell BK136.out 4).trans rfl; have hcz70_5 : w69.cell? ⟨gb136, 5, none⟩ = some (.int .u32 x137005_4) := (blk_cell BK136.out 5).trans rfl; have hfz70_0 := blk_frozen BK136.out 0; have hfz70_1 := blk_frozen BK136.out 1; have hfz70_2 := blk_frozen BK136.out 2; have hfz70_3 := blk_frozen BK136.out 3; have hfz70_4 := blk_frozen BK136.out 4; have hfz70_5 := blk_frozen BK136.out 5))
                                            go_ret
                                            exact ⟨by first | rfl | (simp [errW_none, errW_some] <;> rfl) | (simp only [← hji25]; first | rfl | (simp [errW_none, errW_some] <;> rfl)) | (simp [*, errW_none, errW_some] <;> rfl), by repeat (first | (with_reducible first | exact HB.out | apply below_alloc | apply pw_below_drewN | apply below_drew1 | refine below_set ?_ GE136.out) | exact HB.out)⟩
                                      · rw [if_neg c59] at H
                                        have c59b0 : (t171 == 0) = false := beq_eq_false_iff_ne.mpr c59
                                        have c59b1 : (t171 != 0) = true := bne_iff_ne.mpr c59
                                        obtain rfl := Option.some.inj H
                                        have p162 : 0 ≤ (x16_4 : Int) := of_decide_eq_true (by first | (with_reducible assumption) | assumption)
                                        have q162 : x16_4 < (l3.length : Int) := of_decide_eq_true (by first | (with_reducible assumption) | assumption)
                                        obtain ⟨ad162, e162, hx162_0⟩ := Kd.at_int HR3.out x16_4 p162 q162
                                        cases e162
                                        replace hx162_0 := (HB.out.cell (World.block_lt_of_cell? w _ hx162_0)).trans hx162_0
                                        replace p162 := eq_true p162
                                        replace q162 := eq_true q162
                                        go_wp2_with (first | ((with_reducible refine gate_callee (f := 10) rfl ?_); refine goesL_ (some 114) rfl rfl Try.func10 (by kernel_rfl) rfl #[.int .i64 (rd l3 x16_4), .int .i64 100] rfl (by (try simp only [List.map_toArray, List.map_cons, List.map_nil]); first | done | rfl | (simp only [List.length_drop, List.length_take]; rfl)) ?_; (with_reducible refine (patchbaykeep3_rest.calls (rd l3 x16_4) 100 t163 _ A56.out).mono ?_); rintro e w' ⟨rfl, ⟨nd, rfl⟩⟩; refine ⟨_, rfl, ?_⟩; (try (rw [drewN_self wc]; generalize hq_ : World.drewN wc _ = wc; have n0_ : Aside0 (wc.heap[gb136]? = some (.cells #[.int .i64 x137000_4, .int .i64 x137001_4, .int .i64 x137002_4, .int .i64 x137003_4, .bool x137004_4, .int .u32 x137005_4] 26 (0, 0))) := ⟨by rw [← hq_]; exact (by (with_reducible repeat (first | refine blk_drewN ?_ _ | refine blk_drew ?_ | refine blk_alloc ?_ _)); exact BK136.out)⟩; have n1_ : Aside0 (Below w.heap.size w wc) := ⟨by rw [← hq_]; exact (by repeat (first | (with_reducible first | exact HB.out | apply below_alloc | apply pw_below_drewN | apply below_drew1 | refine below_set ?_ GE136.out) | exact HB.out))⟩; clear BK136 HB hq_; have BK136 := n0_; have HB := n1_; clear n0_ n1_)); have hcz71_0 : wc.cell? ⟨gb136, 0, none⟩ = some (.int .i64 x137000_4) := (blk_cell BK136.out 0).trans rfl; have hcz71_1 : wc.cell? ⟨gb136, 1, none⟩ = some (.int .i64 x137001_4) := (blk_cell BK136.out 1).trans rfl; have hcz71_2 : wc.cell? ⟨gb136, 2, none⟩ = some (.int .i64 x137002_4) := (blk_cell BK136.out 2).trans rfl; have hcz71_3 : wc.cell? ⟨gb136, 3, none⟩ = some (.int .i64 x137003_4) := (blk_cell BK136.out 3).trans rfl; have hcz71_4 : wc.cell? ⟨gb136, 4, none⟩ = some (.bool x137004_4) := (blk_cell BK136.out 4).trans rfl; have hcz71_5 : wc.cell? ⟨gb136, 5, none⟩ = some (.int .u32 x137005_4) := (blk_cell BK136.out 5).trans rfl; have hfz71_0 := blk_frozen BK136.out 0; have hfz71_1 := blk_frozen BK136.out 1; have hfz71_2 := blk_frozen BK136.out 2; have hfz71_3 := blk_frozen BK136.out 3; have hfz71_4 := blk_frozen BK136.out 4; have hfz71_5 := blk_frozen BK136.out 5) | ((with_reducible refine gate_callee (f := 12) rfl ?_); refine goesL_ (some 163) rfl rfl Try.func12 (by kernel_rfl) rfl #[.agg #[.int .i64 x137000_4, .int .i64 x137001_4, .int .i64 x137002_4, .int .i64 x137003_4, .bool x137004_4, .int .u32 x137005_4], .int .i64 (wrap64 (1 + t134)), .int .i64 (wrap64 ((wrap64 ((wrap64 (4 * (wrap64 (1 + t134)))) + t135)) - x15_4)), .int .u32 (((wrap64 ((wrap64 (4 * (wrap64 (1 + t134)))) + t135))) % 4294967296), .int .u32 (((wrap64 ((wrap64 (4 * (wrap64 (1 + t134)))) + t135))) % 4294967296)] rfl (by (try simp only [List.map_toArray, List.map_cons, List.map_nil]); first | done | rfl | (simp only [List.length_drop, List.length_take]; rfl)) ?_; (with_reducible refine (crowd_Ack.calls kj50 x137000_4 x137001_4 x137002_4 x137003_4 x137004_4 x137005_4 (wrap64 (1 + t134)) (wrap64 ((wrap64 ((wrap64 (4 * (wrap64 (1 + t134)))) + t135)) - x15_4)) (((wrap64 ((wrap64 (4 * (wrap64 (1 + t134)))) + t135))) % 4294967296) (((wrap64 ((wrap64 (4 * (wrap64 (1 + t134)))) + t135))) % 4294967296) t164 t165 t166 t167 t168 t169 t170 t171 _ A58.out).mono ?_); rintro e w72 ⟨rfl, hb⟩; refine ⟨_, rfl, ?_⟩; have n0_ := Aside0.mk (blk_below (g := gb136) (o := .cells #[.int .i64 x137000_4, .int .i64 x137001_4, .int .i64 x137002_4, .int .i64 x137003_4, .bool x137004_4, .int .u32 x137005_4] 26 (0, 0)) (by (with_reducible repeat (first | refine blk_drewN ?_ _ | refine blk_drew ?_ | refine blk_alloc ?_ _)); exact BK136.out) hb); have n1_ := Aside0.mk (below_step (by repeat (first | (with_reducible first | exact HB.out | apply below_alloc | apply pw_below_drewN | apply below_drew1 | refine below_set ?_ GE136.out) | exact HB.out)) hb); clear BK136; clear HB; have BK136 := n0_; have HB := n1_; clear n0_ n1_; (try clear hb); (try clear hb2); (try clear hk); (try clear hi); have hcz73_0 : w72.cell? ⟨gb136, 0, none⟩ = some (.int .i64 x137000_4) := (blk_cell BK136.out 0).trans rfl; have hcz73_1 : w72.cell? ⟨gb136, 1, none⟩ = some (.int .i64 x137001_4) := (blk_cell BK136.out 1).trans rfl; have hcz73_2 : w72.cell? ⟨gb136, 2, none⟩ = some (.int .i64 x137002_4) := (blk_cell BK136.out 2).trans rfl; have hcz73_3 : w72.cell? ⟨gb136, 3, none⟩ = some (.int .i64 x137003_4) := (blk_cell BK136.out 3).trans rfl; have hcz73_4 : w72.cell? ⟨gb136, 4, none⟩ = some (.bool x137004_4) := (blk_cell BK136.out 4).trans rfl; have hcz73_5 : w72.cell? ⟨gb136, 5, none⟩ = some (.int .u32 x137005_4) := (blk_cell BK136.out 5).trans rfl; have hfz73_0 := blk_frozen BK136.out 0; have hfz73_1 := blk_frozen BK136.out 1; have hfz73_2 := blk_frozen BK136.out 2; have hfz73_3 := blk_frozen BK136.out 3; have hfz73_4 := blk_frozen BK136.out 4; have hfz73_5 := blk_frozen BK136.out 5))
                                        go_ret
                                        exact ⟨by first | rfl | (simp [errW_none, errW_some] <;> rfl) | (simp only [← hji25]; first | rfl | (simp [errW_none, errW_some] <;> rfl)) | (simp [*, errW_none, errW_some] <;> rfl), by repeat (first | (with_reducible first | exact HB.out | apply below_alloc | apply pw_below_drewN | apply below_drew1 | refine below_set ?_ GE136.out) | exact HB.out)⟩
                                    · rw [if_neg c57] at H
                                      have c57b0 : decide ((wrap64 ((wrap64 (4 * (wrap64 (1 + t134)))) + t135)) ≤ (wrap64 (x15_4 + (wrap64 (1 + t163))))) = false := decide_eq_false c57
                                      clear c57
                                      replace H := Option.bind_eq_some_iff.mp H
                                      obtain ⟨⟨t172, t173, t174, t175, t176, t177, t178, t179⟩, A740, H⟩ := H
                                      replace H : (if t179 = 0 then (if t178 = true then (if t176 = true then (if t173 = ji25 then (patchbaykeep3_CrowdOnce.l2 kj50 (wrap64 (1 + t134)) (wrap64 ((wrap64 (4 * (wrap64 (1 + t134)))) + t135)) l3 ji25 (wrap64 (x15_4 + (wrap64 (1 + t163)))) (wrap64 (x16_4 + 1)) t172 t173 t174 t175 t176 t177) else (some false)) else (some false)) else (some false)) else (some false)) = some r := H
                                      have A74 := Aside0.mk A740
                                      clear A740
                                      by_cases c75 : t179 = 0
                                      · rw [if_pos c75] at H
                                        have c75b0 : (t179 == 0) = true := beq_iff_eq.mpr c75
                                        have c75b1 : (t179 != 0) = false := bne_eq_false_iff_eq.mpr c75
                                        clear c75
                                        by_cases c76 : t178 = true
                                        · subst c76
                                          have H1 : (if t176 = true then (if t173 = ji25 then (patchbaykeep3_CrowdOnce.l2 kj50 (wrap64 (1 + t134)) (wrap64 ((wrap64 (4 * (wrap64 (1 + t134)))) + t135)) l3 ji25 (wrap64 (x15_4 + (wrap64 (1 + t163)))) (wrap64 (x16_4 + 1)) t172 t173 t174 t175 t176 t177) else (some false)) else (some false)) = some r := by rw [if_pos rfl] at H; exact H
                                          clear H
                                          have H := H1
                                          clear H1
                                          by_cases c77 : t176 = true
                                          · subst c77
                                            have H1 : (if t173 = ji25 then (patchbaykeep3_CrowdOnce.l2 kj50 (wrap64 (1 + t134)) (wrap64 ((wrap64 (4 * (wrap64 (1 + t134)))) + t135)) l3 ji25 (wrap64 (x15_4 + (wrap64 (1 + t163)))) (wrap64 (x16_4 + 1)) t172 t173 t174 t175 true t177) else (some false)) = some r := by rw [if_pos rfl] at H; exact H
                                            clear H
                                            have H := H1
                                            clear H1
                                            by_cases c78 : t173 = ji25
                                            · rw [if_pos c78] at H
                                              have c78b0 : (t173 == ji25) = true := beq_iff_eq.mpr c78
                                              have c78b1 : (t173 != ji25) = false := bne_eq_false_iff_eq.mpr c78
                                              clear c78
                                              have H' := Aside0.mk H
                                              clear H
                                              have p162 : 0 ≤ (x16_4 : Int) := of_decide_eq_true (by first | (with_reducible assumption) | assumption)
                                              have q162 : x16_4 < (l3.length : Int) := of_decide_eq_true (by first | (with_reducible assumption) | assumption)
                                              obtain ⟨ad162, e162, hx162_0⟩ := Kd.at_int HR3.out x16_4 p162 q162
                                              cases e162
                                              replace hx162_0 := (HB.out.cell (World.block_lt_of_cell? w _ hx162_0)).trans hx162_0
                                              replace p162 := eq_true p162
                                              replace q162 := eq_true q162
                                              go_wp2_with (first | ((with_reducible refine gate_callee (f := 10) rfl ?_); refine goesL_ (some 114) rfl rfl Try.func10 (by kernel_rfl) rfl #[.int .i64 (rd l3 x16_4), .int .i64 100] rfl (by (try simp only [List.map_toArray, List.map_cons, List.map_nil]); first | done | rfl | (simp only [List.length_drop, List.length_take]; rfl)) ?_; (with_reducible refine (patchbaykeep3_rest.calls (rd l3 x16_4) 100 t163 _ A56.out).mono ?_); rintro e w' ⟨rfl, ⟨nd, rfl⟩⟩; refine ⟨_, rfl, ?_⟩; (try (rw [drewN_self wc]; generalize hq_ : World.drewN wc _ = wc; have n0_ : Aside0 (wc.heap[gb136]? = some (.cells #[.int .i64 x137000_4, .int .i64 x137001_4, .int .i64 x137002_4, .int .i64 x137003_4, .bool x137004_4, .int .u32 x137005_4] 26 (0, 0))) := ⟨by rw [← hq_]; exact (by (with_reducible repeat (first | refine blk_drewN ?_ _ | refine blk_drew ?_ | refine blk_alloc ?_ _)); exact BK136.out)⟩; have n1_ : Aside0 (Below w.heap.size w wc) := ⟨by rw [← hq_]; exact (by repeat (first | (with_reducible first | exact HB.out | apply below_alloc | apply pw_below_drewN | apply below_drew1 | refine below_set ?_ GE136.out) | exact HB.out))⟩; clear BK136 HB hq_; have BK136 := n0_; have HB := n1_; clear n0_ n1_)); have hcz79_0 : wc.cell? ⟨gb136, 0, none⟩ = some (.int .i64 x137000_4) := (blk_cell BK136.out 0).trans rfl; have hcz79_1 : wc.cell? ⟨gb136, 1, none⟩ = some (.int .i64 x137001_4) := (blk_cell BK136.out 1).trans rfl; have hcz79_2 : wc.cell? ⟨gb136, 2, none⟩ = some (.int .i64 x137002_4) := (blk_cell BK136.out 2).trans rfl; have hcz79_3 : wc.cell? ⟨gb136, 3, none⟩ = some (.int .i64 x137003_4) := (blk_cell BK136.out 3).trans rfl; have hcz79_4 : wc.cell? ⟨gb136, 4, none⟩ = some (.bool x137004_4) := (blk_cell BK136.out 4).trans rfl; have hcz79_5 : wc.cell? ⟨gb136, 5, none⟩ = some (.int .u32 x137005_4) := (blk_cell BK136.out 5).trans rfl; have hfz79_0 := blk_frozen BK136.out 0; have hfz79_1 := blk_frozen BK136.out 1; have hfz79_2 := blk_frozen BK136.out 2; have hfz79_3 := blk_frozen BK136.out 3; have hfz79_4 := blk_frozen BK136.out 4; have hfz79_5 := blk_frozen BK136.out 5) | ((with_reducible refine gate_callee (f := 12) rfl ?_); refine goesL_ (some 132) rfl rfl Try.func12 (by kernel_rfl) rfl #[.agg #[.int .i64 x137000_4, .int .i64 x137001_4, .int .i64 x137002_4, .int .i64 x137003_4, .bool x137004_4, .int .u32 x137005_4], .int .i64 (wrap64 (1 + t134)), .int .i64 (wrap64 (1 + t163)), .int .u32 ((wrap64 (x15_4 + (wrap64 (1 + t163)))) % 4294967296), .int .u32 (((wrap64 ((wrap64 (4 * (wrap64 (1 + t134)))) + t135))) % 4294967296)] rfl (by (try simp only [List.map_toArray, List.map_cons, List.map_nil]); first | done | rfl | (simp only [List.length_drop, List.length_take]; rfl)) ?_; (with_reducible refine (crowd_Ack.calls kj50 x137000_4 x137001_4 x137002_4 x137003_4 x137004_4 x137005_4 (wrap64 (1 + t134)) (wrap64 (1 + t163)) ((wrap64 (x15_4 + (wrap64 (1 + t163)))) % 4294967296) (((wrap64 ((wrap64 (4 * (wrap64 (1 + t134)))) + t135))) % 4294967296) t172 t173 t174 t175 true t177 true t179 _ A74.out).mono ?_); rintro e w80 ⟨rfl, hb⟩; refine ⟨_, rfl, ?_⟩; have n0_ := Aside0.mk (blk_below (g := gb136) (o := .cells #[.int .i64 x137000_4, .int .i64 x137001_4, .int .i64 x137002_4, .int .i64 x137003_4, .bool x137004_4, .int .u32 x137005_4] 26 (0, 0)) (by (with_reducible repeat (first | refine blk_drewN ?_ _ | refine blk_drew ?_ | refine blk_alloc ?_ _)); exact BK136.out) hb); have n1_ := Aside0.mk (below_step (by repeat (first | (with_reducible first | exact HB.out | apply below_alloc | apply pw_below_drewN | apply below_drew1 | refine below_set ?_ GE136.out) | exact HB.out)) hb); clear BK136; clear HB; have BK136 := n0_; have HB := n1_; clear n0_ n1_; (try clear hb); (try clear hb2); (try clear hk); (try clear hi); have hcz81_0 : w80.cell? ⟨gb136, 0, none⟩ = some (.int .i64 x137000_4) := (blk_cell BK136.out 0).trans rfl; have hcz81_1 : w80.cell? ⟨gb136, 1, none⟩ = some (.int .i64 x137001_4) := (blk_cell BK136.out 1).trans rfl; have hcz81_2 : w80.cell? ⟨gb136, 2, none⟩ = some (.int .i64 x137002_4) := (blk_cell BK136.out 2).trans rfl; have hcz81_3 : w80.cell? ⟨gb136, 3, none⟩ = some (.int .i64 x137003_4) := (blk_cell BK136.out 3).trans rfl; have hcz81_4 : w80.cell? ⟨gb136, 4, none⟩ = some (.bool x137004_4) := (blk_cell BK136.out 4).trans rfl; have hcz81_5 : w80.cell? ⟨gb136, 5, none⟩ = some (.int .u32 x137005_4) := (blk_cell BK136.out 5).trans rfl; have hfz81_0 := blk_frozen BK136.out 0; have hfz81_1 := blk_frozen BK136.out 1; have hfz81_2 := blk_frozen BK136.out 2; have hfz81_3 := blk_frozen BK136.out 3; have hfz81_4 := blk_frozen BK136.out 4; have hfz81_5 := blk_frozen BK136.out 5))
                                              go_roundg kj50
                                              case measure => have := HK1.out; have := HJ25.out; have := HK3.out; have := HK4.out; have := HJ50.out; omega
                                              case rel => exact ⟨(wrap64 (x15_4 + (wrap64 (1 + t163)))), (wrap64 (x16_4 + 1)), (t172), (t173), (t174), (t175), (true), (t177), (by first | rfl | (simp; done) | (simp [*]; done)), (by first | rfl | (simp; done) | (simp [*]; done)), H', ⟨by have := HK1.out; have := HJ25.out; have := HK3.out; have := HK4.out; have := HJ50.out; omega⟩, ⟨by (with_reducible repeat (first | refine blk_drewN ?_ _ | refine blk_drew ?_ | refine blk_alloc ?_ _)); refine blk_put (cs := #[.int .i64 t172, .int .i64 t173, .int .i64 t174, .int .i64 t175, .bool true, .int .u32 x137005_4]) ?_ 5 _ rfl; (with_reducible repeat (first | refine blk_drewN ?_ _ | refine blk_drew ?_ | refine blk_alloc ?_ _)); refine blk_put (cs := #[.int .i64 t172, .int .i64 t173, .int .i64 t174, .int .i64 t175, .bool x137004_4, .int .u32 x137005_4]) ?_ 4 _ rfl; (with_reducible repeat (first | refine blk_drewN ?_ _ | refine blk_drew ?_ | refine blk_alloc ?_ _)); refine blk_put (cs := #[.int .i64 t172, .int .i64 t173, .int .i64 t174, .int .i64 x137003_4, .bool x137004_4, .int .u32 x137005_4]) ?_ 3 _ rfl; (with_reducible repeat (first | refine blk_drewN ?_ _ | refine blk_drew ?_ | refine blk_alloc ?_ _)); refine blk_put (cs := #[.int .i64 t172, .int .i64 t173, .int .i64 x137002_4, .int .i64 x137003_4, .bool x137004_4, .int .u32 x137005_4]) ?_ 2 _ rfl; (with_reducible repeat (first | refine blk_drewN ?_ _ | refine blk_drew ?_ | refine blk_alloc ?_ _)); refine blk_put (cs := #[.int .i64 t172, .int .i64 x137001_4, .int .i64 x137002_4, .int .i64 x137003_4, .bool x137004_4, .int .u32 x137005_4]) ?_ 1 _ rfl; (with_reducible repeat (first | refine blk_drewN ?_ _ | refine blk_drew ?_ | refine blk_alloc ?_ _)); refine blk_put (cs := #[.int .i64 x137000_4, .int .i64 x137001_4, .int .i64 x137002_4, .int .i64 x137003_4, .bool x137004_4, .int .u32 x137005_4]) ?_ 0 _ rfl; (with_reducible repeat (first | refine blk_drewN ?_ _ | refine blk_drew ?_ | refine blk_alloc ?_ _)); exact BK136.out⟩, ⟨by repeat (first | (with_reducible first | exact HB.out | apply below_alloc | apply pw_below_drewN | apply below_drew1 | refine below_set ?_ GE136.out) | exact HB.out)⟩⟩
                                            · rw [if_neg c78] at H
                                              have c78b0 : (t173 == ji25) = false := beq_eq_false_iff_ne.mpr c78
                                              have c78b1 : (t173 != ji25) = true := bne_iff_ne.mpr c78
                                              obtain rfl := Option.some.inj H
                                              have p162 : 0 ≤ (x16_4 : Int) := of_decide_eq_true (by first | (with_reducible assumption) | assumption)
                                              have q162 : x16_4 < (l3.length : Int) := of_decide_eq_true (by first | (with_reducible assumption) | assumption)
                                              obtain ⟨ad162, e162, hx162_0⟩ := Kd.at_int HR3.out x16_4 p162 q162
                                              cases e162
                                              replace hx162_0 := (HB.out.cell (World.block_lt_of_cell? w _ hx162_0)).trans hx162_0
                                              replace p162 := eq_true p162
                                              replace q162 := eq_true q162
                                              go_wp2_with (first | ((with_reducible refine gate_callee (f := 10) rfl ?_); refine goesL_ (some 114) rfl rfl Try.func10 (by kernel_rfl) rfl #[.int .i64 (rd l3 x16_4), .int .i64 100] rfl (by (try simp only [List.map_toArray, List.map_cons, List.map_nil]); first | done | rfl | (simp only [List.length_drop, List.length_take]; rfl)) ?_; (with_reducible refine (patchbaykeep3_rest.calls (rd l3 x16_4) 100 t163 _ A56.out).mono ?_); rintro e w' ⟨rfl, ⟨nd, rfl⟩⟩; refine ⟨_, rfl, ?_⟩; (try (rw [drewN_self wc]; generalize hq_ : World.drewN wc _ = wc; have n0_ : Aside0 (wc.heap[gb136]? = some (.cells #[.int .i64 x137000_4, .int .i64 x137001_4, .int .i64 x137002_4, .int .i64 x137003_4, .bool x137004_4, .int .u32 x137005_4] 26 (0, 0))) := ⟨by rw [← hq_]; exact (by (with_reducible repeat (first | refine blk_drewN ?_ _ | refine blk_drew ?_ | refine blk_alloc ?_ _)); exact BK136.out)⟩; have n1_ : Aside0 (Below w.heap.size w wc) := ⟨by rw [← hq_]; exact (by repeat (first | (with_reducible first | exact HB.out | apply below_alloc | apply pw_below_drewN | apply below_drew1 | refine below_set ?_ GE136.out) | exact HB.out))⟩; clear BK136 HB hq_; have BK136 := n0_; have HB := n1_; clear n0_ n1_)); have hcz82_0 : wc.cell? ⟨gb136, 0, none⟩ = some (.int .i64 x137000_4) := (blk_cell BK136.out 0).trans rfl; have hcz82_1 : wc.cell? ⟨gb136, 1, none⟩ = some (.int .i64 x137001_4) := (blk_cell BK136.out 1).trans rfl; have hcz82_2 : wc.cell? ⟨gb136, 2, none⟩ = some (.int .i64 x137002_4) := (blk_cell BK136.out 2).trans rfl; have hcz82_3 : wc.cell? ⟨gb136, 3, none⟩ = some (.int .i64 x137003_4) := (blk_cell BK136.out 3).trans rfl; have hcz82_4 : wc.cell? ⟨gb136, 4, none⟩ = some (.bool x137004_4) := (blk_cell BK136.out 4).trans rfl; have hcz82_5 : wc.cell? ⟨gb136, 5, none⟩ = some (.int .u32 x137005_4) := (blk_cell BK136.out 5).trans rfl; have hfz82_0 := blk_frozen BK136.out 0; have hfz82_1 := blk_frozen BK136.out 1; have hfz82_2 := blk_frozen BK136.out 2; have hfz82_3 := blk_frozen BK136.out 3; have hfz82_4 := blk_frozen BK136.out 4; have hfz82_5 := blk_frozen BK136.out 5) | ((with_reducible refine gate_callee (f := 12) rfl ?_); refine goesL_ (some 132) rfl rfl Try.func12 (by kernel_rfl) rfl #[.agg #[.int .i64 x137000_4, .int .i64 x137001_4, .int .i64 x137002_4, .int .i64 x137003_4, .bool x137004_4, .int .u32 x137005_4], .int .i64 (wrap64 (1 + t134)), .int .i64 (wrap64 (1 + t163)), .int .u32 ((wrap64 (x15_4 + (wrap64 (1 + t163)))) % 4294967296), .int .u32 (((wrap64 ((wrap64 (4 * (wrap64 (1 + t134)))) + t135))) % 4294967296)] rfl (by (try simp only [List.map_toArray, List.map_cons, List.map_nil]); first | done | rfl | (simp only [List.length_drop, List.length_take]; rfl)) ?_; (with_reducible refine (crowd_Ack.calls kj50 x137000_4 x137001_4 x137002_4 x137003_4 x137004_4 x137005_4 (wrap64 (1 + t134)) (wrap64 (1 + t163)) ((wrap64 (x15_4 + (wrap64 (1 + t163)))) % 4294967296) (((wrap64 ((wrap64 (4 * (wrap64 (1 + t134)))) + t135))) % 4294967296) t172 t173 t174 t175 true t177 true t179 _ A74.out).mono ?_); rintro e w83 ⟨rfl, hb⟩; refine ⟨_, rfl, ?_⟩; have n0_ := Aside0.mk (blk_below (g := gb136) (o := .cells #[.int .i64 x137000_4, .int .i64 x137001_4, .int .i64 x137002_4, .int .i64 x137003_4, .bool x137004_4, .int .u32 x137005_4] 26 (0, 0)) (by (with_reducible repeat (first | refine blk_drewN ?_ _ | refine blk_drew ?_ | refine blk_alloc ?_ _)); exact BK136.out) hb); have n1_ := Aside0.mk (below_step (by repeat (first | (with_reducible first | exact HB.out | apply below_alloc | apply pw_below_drewN | apply below_drew1 | refine below_set ?_ GE136.out) | exact HB.out)) hb); clear BK136; clear HB; have BK136 := n0_; have HB := n1_; clear n0_ n1_; (try clear hb); (try clear hb2); (try clear hk); (try clear hi); have hcz84_0 : w83.cell? ⟨gb136, 0, none⟩ = some (.int .i64 x137000_4) := (blk_cell BK136.out 0).trans rfl; have hcz84_1 : w83.cell? ⟨gb136, 1, none⟩ = some (.int .i64 x137001_4) := (blk_cell BK136.out 1).trans rfl; have hcz84_2 : w83.cell? ⟨gb136, 2, none⟩ = some (.int .i64 x137002_4) := (blk_cell BK136.out 2).trans rfl; have hcz84_3 : w83.cell? ⟨gb136, 3, none⟩ = some (.int .i64 x137003_4) := (blk_cell BK136.out 3).trans rfl; have hcz84_4 : w83.cell? ⟨gb136, 4, none⟩ = some (.bool x137004_4) := (blk_cell BK136.out 4).trans rfl; have hcz84_5 : w83.cell? ⟨gb136, 5, none⟩ = some (.int .u32 x137005_4) := (blk_cell BK136.out 5).trans rfl; have hfz84_0 := blk_frozen BK136.out 0; have hfz84_1 := blk_frozen BK136.out 1; have hfz84_2 := blk_frozen BK136.out 2; have hfz84_3 := blk_frozen BK136.out 3; have hfz84_4 := blk_frozen BK136.out 4; have hfz84_5 := blk_frozen BK136.out 5))
                                              go_ret
                                              exact ⟨by first | rfl | (simp [errW_none, errW_some] <;> rfl) | (simp only [← hji25]; first | rfl | (simp [errW_none, errW_some] <;> rfl)) | (simp [*, errW_none, errW_some] <;> rfl), by repeat (first | (with_reducible first | exact HB.out | apply below_alloc | apply pw_below_drewN | apply below_drew1 | refine below_set ?_ GE136.out) | exact HB.out)⟩
                                          · replace c77 := Bool.eq_false_iff.mpr c77
                                            subst c77
                                            have H1 : (some false) = some r := by rw [if_neg (show ¬ (false = true) by decide)] at H; exact H
                                            clear H
                                            have H := H1
                                            clear H1
                                            obtain rfl := Option.some.inj H
                                            have p162 : 0 ≤ (x16_4 : Int) := of_decide_eq_true (by first | (with_reducible assumption) | assumption)
                                            have q162 : x16_4 < (l3.length : Int) := of_decide_eq_true (by first | (with_reducible assumption) | assumption)
                                            obtain ⟨ad162, e162, hx162_0⟩ := Kd.at_int HR3.out x16_4 p162 q162
                                            cases e162
                                            replace hx162_0 := (HB.out.cell (World.block_lt_of_cell? w _ hx162_0)).trans hx162_0
                                            replace p162 := eq_true p162
                                            replace q162 := eq_true q162
                                            go_wp2_with (first | ((with_reducible refine gate_callee (f := 10) rfl ?_); refine goesL_ (some 114) rfl rfl Try.func10 (by kernel_rfl) rfl #[.int .i64 (rd l3 x16_4), .int .i64 100] rfl (by (try simp only [List.map_toArray, List.map_cons, List.map_nil]); first | done | rfl | (simp only [List.length_drop, List.length_take]; rfl)) ?_; (with_reducible refine (patchbaykeep3_rest.calls (rd l3 x16_4) 100 t163 _ A56.out).mono ?_); rintro e w' ⟨rfl, ⟨nd, rfl⟩⟩; refine ⟨_, rfl, ?_⟩; (try (rw [drewN_self wc]; generalize hq_ : World.drewN wc _ = wc; have n0_ : Aside0 (wc.heap[gb136]? = some (.cells #[.int .i64 x137000_4, .int .i64 x137001_4, .int .i64 x137002_4, .int .i64 x137003_4, .bool x137004_4, .int .u32 x137005_4] 26 (0, 0))) := ⟨by rw [← hq_]; exact (by (with_reducible repeat (first | refine blk_drewN ?_ _ | refine blk_drew ?_ | refine blk_alloc ?_ _)); exact BK136.out)⟩; have n1_ : Aside0 (Below w.heap.size w wc) := ⟨by rw [← hq_]; exact (by repeat (first | (with_reducible first | exact HB.out | apply below_alloc | apply pw_below_drewN | apply below_drew1 | refine below_set ?_ GE136.out) | exact HB.out))⟩; clear BK136 HB hq_; have BK136 := n0_; have HB := n1_; clear n0_ n1_)); have hcz85_0 : wc.cell? ⟨gb136, 0, none⟩ = some (.int .i64 x137000_4) := (blk_cell BK136.out 0).trans rfl; have hcz85_1 : wc.cell? ⟨gb136, 1, none⟩ = some (.int .i64 x137001_4) := (blk_cell BK136.out 1).trans rfl; have hcz85_2 : wc.cell? ⟨gb136, 2, none⟩ = some (.int .i64 x137002_4) := (blk_cell BK136.out 2).trans rfl; have hcz85_3 : wc.cell? ⟨gb136, 3, none⟩ = some (.int .i64 x137003_4) := (blk_cell BK136.out 3).trans rfl; have hcz85_4 : wc.cell? ⟨gb136, 4, none⟩ = some (.bool x137004_4) := (blk_cell BK136.out 4).trans rfl; have hcz85_5 : wc.cell? ⟨gb136, 5, none⟩ = some (.int .u32 x137005_4) := (blk_cell BK136.out 5).trans rfl; have hfz85_0 := blk_frozen BK136.out 0; have hfz85_1 := blk_frozen BK136.out 1; have hfz85_2 := blk_frozen BK136.out 2; have hfz85_3 := blk_frozen BK136.out 3; have hfz85_4 := blk_frozen BK136.out 4; have hfz85_5 := blk_frozen BK136.out 5) | ((with_reducible refine gate_callee (f := 12) rfl ?_); refine goesL_ (some 132) rfl rfl Try.func12 (by kernel_rfl) rfl #[.agg #[.int .i64 x137000_4, .int .i64 x137001_4, .int .i64 x137002_4, .int .i64 x137003_4, .bool x137004_4, .int .u32 x137005_4], .int .i64 (wrap64 (1 + t134)), .int .i64 (wrap64 (1 + t163)), .int .u32 ((wrap64 (x15_4 + (wrap64 (1 + t163)))) % 4294967296), .int .u32 (((wrap64 ((wrap64 (4 * (wrap64 (1 + t134)))) + t135))) % 4294967296)] rfl (by (try simp only [List.map_toArray, List.map_cons, List.map_nil]); first | done | rfl | (simp only [List.length_drop, List.length_take]; rfl)) ?_; (with_reducible refine (crowd_Ack.calls kj50 x137000_4 x137001_4 x137002_4 x137003_4 x137004_4 x137005_4 (wrap64 (1 + t134)) (wrap64 (1 + t163)) ((wrap64 (x15_4 + (wrap64 (1 + t163)))) % 4294967296) (((wrap64 ((wrap64 (4 * (wrap64 (1 + t134)))) + t135))) % 4294967296) t172 t173 t174 t175 false t177 true t179 _ A74.out).mono ?_); rintro e w86 ⟨rfl, hb⟩; refine ⟨_, rfl, ?_⟩; have n0_ := Aside0.mk (blk_below (g := gb136) (o := .cells #[.int .i64 x137000_4, .int .i64 x137001_4, .int .i64 x137002_4, .int .i64 x137003_4, .bool x137004_4, .int .u32 x137005_4] 26 (0, 0)) (by (with_reducible repeat (first | refine blk_drewN ?_ _ | refine blk_drew ?_ | refine blk_alloc ?_ _)); exact BK136.out) hb); have n1_ := Aside0.mk (below_step (by repeat (first | (with_reducible first | exact HB.out | apply below_alloc | apply pw_below_drewN | apply below_drew1 | refine below_set ?_ GE136.out) | exact HB.out)) hb); clear BK136; clear HB; have BK136 := n0_; have HB := n1_; clear n0_ n1_; (try clear hb); (try clear hb2); (try clear hk); (try clear hi); have hcz87_0 : w86.cell? ⟨gb136, 0, none⟩ = some (.int .i64 x137000_4) := (blk_cell BK136.out 0).trans rfl; have hcz87_1 : w86.cell? ⟨gb136, 1, none⟩ = some (.int .i64 x137001_4) := (blk_cell BK136.out 1).trans rfl; have hcz87_2 : w86.cell? ⟨gb136, 2, none⟩ = some (.int .i64 x137002_4) := (blk_cell BK136.out 2).trans rfl; have hcz87_3 : w86.cell? ⟨gb136, 3, none⟩ = some (.int .i64 x137003_4) := (blk_cell BK136.out 3).trans rfl; have hcz87_4 : w86.cell? ⟨gb136, 4, none⟩ = some (.bool x137004_4) := (blk_cell BK136.out 4).trans rfl; have hcz87_5 : w86.cell? ⟨gb136, 5, none⟩ = some (.int .u32 x137005_4) := (blk_cell BK136.out 5).trans rfl; have hfz87_0 := blk_frozen BK136.out 0; have hfz87_1 := blk_frozen BK136.out 1; have hfz87_2 := blk_frozen BK136.out 2; have hfz87_3 := blk_frozen BK136.out 3; have hfz87_4 := blk_frozen BK136.out 4; have hfz87_5 := blk_frozen BK136.out 5))
                                            go_ret
                                            exact ⟨by first | rfl | (simp [errW_none, errW_some] <;> rfl) | (simp only [← hji25]; first | rfl | (simp [errW_none, errW_some] <;> rfl)) | (simp [*, errW_none, errW_some] <;> rfl), by repeat (first | (with_reducible first | exact HB.out | apply below_alloc | apply pw_below_drewN | apply below_drew1 | refine below_set ?_ GE136.out) | exact HB.out)⟩
                                        · replace c76 := Bool.eq_false_iff.mpr c76
                                          subst c76
                                          have H1 : (some false) = some r := by rw [if_neg (show ¬ (false = true) by decide)] at H; exact H
                                          clear H
                                          have H := H1
                                          clear H1
                                          obtain rfl := Option.some.inj H
                                          have p162 : 0 ≤ (x16_4 : Int) := of_decide_eq_true (by first | (with_reducible assumption) | assumption)
                                          have q162 : x16_4 < (l3.length : Int) := of_decide_eq_true (by first | (with_reducible assumption) | assumption)
                                          obtain ⟨ad162, e162, hx162_0⟩ := Kd.at_int HR3.out x16_4 p162 q162
                                          cases e162
                                          replace hx162_0 := (HB.out.cell (World.block_lt_of_cell? w _ hx162_0)).trans hx162_0
                                          replace p162 := eq_true p162
                                          replace q162 := eq_true q162
                                          go_wp2_with (first | ((with_reducible refine gate_callee (f := 10) rfl ?_); refine goesL_ (some 114) rfl rfl Try.func10 (by kernel_rfl) rfl #[.int .i64 (rd l3 x16_4), .int .i64 100] rfl (by (try simp only [List.map_toArray, List.map_cons, List.map_nil]); first | done | rfl | (simp only [List.length_drop, List.length_take]; rfl)) ?_; (with_reducible refine (patchbaykeep3_rest.calls (rd l3 x16_4) 100 t163 _ A56.out).mono ?_); rintro e w' ⟨rfl, ⟨nd, rfl⟩⟩; refine ⟨_, rfl, ?_⟩; (try (rw [drewN_self wc]; generalize hq_ : World.drewN wc _ = wc; have n0_ : Aside0 (wc.heap[gb136]? = some (.cells #[.int .i64 x137000_4, .int .i64 x137001_4, .int .i64 x137002_4, .int .i64 x137003_4, .bool x137004_4, .int .u32 x137005_4] 26 (0, 0))) := ⟨by rw [← hq_]; exact (by (with_reducible repeat (first | refine blk_drewN ?_ _ | refine blk_drew ?_ | refine blk_alloc ?_ _)); exact BK136.out)⟩; have n1_ : Aside0 (Below w.heap.size w wc) := ⟨by rw [← hq_]; exact (by repeat (first | (with_reducible first | exact HB.out | apply below_alloc | apply pw_below_drewN | apply below_drew1 | refine below_set ?_ GE136.out) | exact HB.out))⟩; clear BK136 HB hq_; have BK136 := n0_; have HB := n1_; clear n0_ n1_)); have hcz88_0 : wc.cell? ⟨gb136, 0, none⟩ = some (.int .i64 x137000_4) := (blk_cell BK136.out 0).trans rfl; have hcz88_1 : wc.cell? ⟨gb136, 1, none⟩ = some (.int .i64 x137001_4) := (blk_cell BK136.out 1).trans rfl; have hcz88_2 : wc.cell? ⟨gb136, 2, none⟩ = some (.int .i64 x137002_4) := (blk_cell BK136.out 2).trans rfl; have hcz88_3 : wc.cell? ⟨gb136, 3, none⟩ = some (.int .i64 x137003_4) := (blk_cell BK136.out 3).trans rfl; have hcz88_4 : wc.cell? ⟨gb136, 4, none⟩ = some (.bool x137004_4) := (blk_cell BK136.out 4).trans rfl; have hcz88_5 : wc.cell? ⟨gb136, 5, none⟩ = some (.int .u32 x137005_4) := (blk_cell BK136.out 5).trans rfl; have hfz88_0 := blk_frozen BK136.out 0; have hfz88_1 := blk_frozen BK136.out 1; have hfz88_2 := blk_frozen BK136.out 2; have hfz88_3 := blk_frozen BK136.out 3; have hfz88_4 := blk_frozen BK136.out 4; have hfz88_5 := blk_frozen BK136.out 5) | ((with_reducible refine gate_callee (f := 12) rfl ?_); refine goesL_ (some 132) rfl rfl Try.func12 (by kernel_rfl) rfl #[.agg #[.int .i64 x137000_4, .int .i64 x137001_4, .int .i64 x137002_4, .int .i64 x137003_4, .bool x137004_4, .int .u32 x137005_4], .int .i64 (wrap64 (1 + t134)), .int .i64 (wrap64 (1 + t163)), .int .u32 ((wrap64 (x15_4 + (wrap64 (1 + t163)))) % 4294967296), .int .u32 (((wrap64 ((wrap64 (4 * (wrap64 (1 + t134)))) + t135))) % 4294967296)] rfl (by (try simp only [List.map_toArray, List.map_cons, List.map_nil]); first | done | rfl | (simp only [List.length_drop, List.length_take]; rfl)) ?_; (with_reducible refine (crowd_Ack.calls kj50 x137000_4 x137001_4 x137002_4 x137003_4 x137004_4 x137005_4 (wrap64 (1 + t134)) (wrap64 (1 + t163)) ((wrap64 (x15_4 + (wrap64 (1 + t163)))) % 4294967296) (((wrap64 ((wrap64 (4 * (wrap64 (1 + t134)))) + t135))) % 4294967296) t172 t173 t174 t175 t176 t177 false t179 _ A74.out).mono ?_); rintro e w89 ⟨rfl, hb⟩; refine ⟨_, rfl, ?_⟩; have n0_ := Aside0.mk (blk_below (g := gb136) (o := .cells #[.int .i64 x137000_4, .int .i64 x137001_4, .int .i64 x137002_4, .int .i64 x137003_4, .bool x137004_4, .int .u32 x137005_4] 26 (0, 0)) (by (with_reducible repeat (first | refine blk_drewN ?_ _ | refine blk_drew ?_ | refine blk_alloc ?_ _)); exact BK136.out) hb); have n1_ := Aside0.mk (below_step (by repeat (first | (with_reducible first | exact HB.out | apply below_alloc | apply pw_below_drewN | apply below_drew1 | refine below_set ?_ GE136.out) | exact HB.out)) hb); clear BK136; clear HB; have BK136 := n0_; have HB := n1_; clear n0_ n1_; (try clear hb); (try clear hb2); (try clear hk); (try clear hi); have hcz90_0 : w89.cell? ⟨gb136, 0, none⟩ = some (.int .i64 x137000_4) := (blk_cell BK136.out 0).trans rfl; have hcz90_1 : w89.cell? ⟨gb136, 1, none⟩ = some (.int .i64 x137001_4) := (blk_cell BK136.out 1).trans rfl; have hcz90_2 : w89.cell? ⟨gb136, 2, none⟩ = some (.int .i64 x137002_4) := (blk_cell BK136.out 2).trans rfl; have hcz90_3 : w89.cell? ⟨gb136, 3, none⟩ = some (.int .i64 x137003_4) := (blk_cell BK136.out 3).trans rfl; have hcz90_4 : w89.cell? ⟨gb136, 4, none⟩ = some (.bool x137004_4) := (blk_cell BK136.out 4).trans rfl; have hcz90_5 : w89.cell? ⟨gb136, 5, none⟩ = some (.int .u32 x137005_4) := (blk_cell BK136.out 5).trans rfl; have hfz90_0 := blk_frozen BK136.out 0; have hfz90_1 := blk_frozen BK136.out 1; have hfz90_2 := blk_frozen BK136.out 2; have hfz90_3 := blk_frozen BK136.out 3; have hfz90_4 := blk_frozen BK136.out 4; have hfz90_5 := blk_frozen BK136.out 5))
                                          go_ret
                                          exact ⟨by first | rfl | (simp [errW_none, errW_some] <;> rfl) | (simp only [← hji25]; first | rfl | (simp [errW_none, errW_some] <;> rfl)) | (simp [*, errW_none, errW_some] <;> rfl), by repeat (first | (with_reducible first | exact HB.out | apply below_alloc | apply pw_below_drewN | apply below_drew1 | refine below_set ?_ GE136.out) | exact HB.out)⟩
                                      · rw [if_neg c75] at H
                                        have c75b0 : (t179 == 0) = false := beq_eq_false_iff_ne.mpr c75
                                        have c75b1 : (t179 != 0) = true := bne_iff_ne.mpr c75
                                        obtain rfl := Option.some.inj H
                                        have p162 : 0 ≤ (x16_4 : Int) := of_decide_eq_true (by first | (with_reducible assumption) | assumption)
                                        have q162 : x16_4 < (l3.length : Int) := of_decide_eq_true (by first | (with_reducible assumption) | assumption)
                                        obtain ⟨ad162, e162, hx162_0⟩ := Kd.at_int HR3.out x16_4 p162 q162
                                        cases e162
                                        replace hx162_0 := (HB.out.cell (World.block_lt_of_cell? w _ hx162_0)).trans hx162_0
                                        replace p162 := eq_true p162
                                        replace q162 := eq_true q162
                                        go_wp2_with (first | ((with_reducible refine gate_callee (f := 10) rfl ?_); refine goesL_ (some 114) rfl rfl Try.func10 (by kernel_rfl) rfl #[.int .i64 (rd l3 x16_4), .int .i64 100] rfl (by (try simp only [List.map_toArray, List.map_cons, List.map_nil]); first | done | rfl | (simp only [List.length_drop, List.length_take]; rfl)) ?_; (with_reducible refine (patchbaykeep3_rest.calls (rd l3 x16_4) 100 t163 _ A56.out).mono ?_); rintro e w' ⟨rfl, ⟨nd, rfl⟩⟩; refine ⟨_, rfl, ?_⟩; (try (rw [drewN_self wc]; generalize hq_ : World.drewN wc _ = wc; have n0_ : Aside0 (wc.heap[gb136]? = some (.cells #[.int .i64 x137000_4, .int .i64 x137001_4, .int .i64 x137002_4, .int .i64 x137003_4, .bool x137004_4, .int .u32 x137005_4] 26 (0, 0))) := ⟨by rw [← hq_]; exact (by (with_reducible repeat (first | refine blk_drewN ?_ _ | refine blk_drew ?_ | refine blk_alloc ?_ _)); exact BK136.out)⟩; have n1_ : Aside0 (Below w.heap.size w wc) := ⟨by rw [← hq_]; exact (by repeat (first | (with_reducible first | exact HB.out | apply below_alloc | apply pw_below_drewN | apply below_drew1 | refine below_set ?_ GE136.out) | exact HB.out))⟩; clear BK136 HB hq_; have BK136 := n0_; have HB := n1_; clear n0_ n1_)); have hcz91_0 : wc.cell? ⟨gb136, 0, none⟩ = some (.int .i64 x137000_4) := (blk_cell BK136.out 0).trans rfl; have hcz91_1 : wc.cell? ⟨gb136, 1, none⟩ = some (.int .i64 x137001_4) := (blk_cell BK136.out 1).trans rfl; have hcz91_2 : wc.cell? ⟨gb136, 2, none⟩ = some (.int .i64 x137002_4) := (blk_cell BK136.out 2).trans rfl; have hcz91_3 : wc.cell? ⟨gb136, 3, none⟩ = some (.int .i64 x137003_4) := (blk_cell BK136.out 3).trans rfl; have hcz91_4 : wc.cell? ⟨gb136, 4, none⟩ = some (.bool x137004_4) := (blk_cell BK136.out 4).trans rfl; have hcz91_5 : wc.cell? ⟨gb136, 5, none⟩ = some (.int .u32 x137005_4) := (blk_cell BK136.out 5).trans rfl; have hfz91_0 := blk_frozen BK136.out 0; have hfz91_1 := blk_frozen BK136.out 1; have hfz91_2 := blk_frozen BK136.out 2; have hfz91_3 := blk_frozen BK136.out 3; have hfz91_4 := blk_frozen BK136.out 4; have hfz91_5 := blk_frozen BK136.out 5) | ((with_reducible refine gate_callee (f := 12) rfl ?_); refine goesL_ (some 132) rfl rfl Try.func12 (by kernel_rfl) rfl #[.agg #[.int .i64 x137000_4, .int .i64 x137001_4, .int .i64 x137002_4, .int .i64 x137003_4, .bool x137004_4, .int .u32 x137005_4], .int .i64 (wrap64 (1 + t134)), .int .i64 (wrap64 (1 + t163)), .int .u32 ((wrap64 (x15_4 + (wrap64 (1 + t163)))) % 4294967296), .int .u32 (((wrap64 ((wrap64 (4 * (wrap64 (1 + t134)))) + t135))) % 4294967296)] rfl (by (try simp only [List.map_toArray, List.map_cons, List.map_nil]); first | done | rfl | (simp only [List.length_drop, List.length_take]; rfl)) ?_; (with_reducible refine (crowd_Ack.calls kj50 x137000_4 x137001_4 x137002_4 x137003_4 x137004_4 x137005_4 (wrap64 (1 + t134)) (wrap64 (1 + t163)) ((wrap64 (x15_4 + (wrap64 (1 + t163)))) % 4294967296) (((wrap64 ((wrap64 (4 * (wrap64 (1 + t134)))) + t135))) % 4294967296) t172 t173 t174 t175 t176 t177 t178 t179 _ A74.out).mono ?_); rintro e w92 ⟨rfl, hb⟩; refine ⟨_, rfl, ?_⟩; have n0_ := Aside0.mk (blk_below (g := gb136) (o := .cells #[.int .i64 x137000_4, .int .i64 x137001_4, .int .i64 x137002_4, .int .i64 x137003_4, .bool x137004_4, .int .u32 x137005_4] 26 (0, 0)) (by (with_reducible repeat (first | refine blk_drewN ?_ _ | refine blk_drew ?_ | refine blk_alloc ?_ _)); exact BK136.out) hb); have n1_ := Aside0.mk (below_step (by repeat (first | (with_reducible first | exact HB.out | apply below_alloc | apply pw_below_drewN | apply below_drew1 | refine below_set ?_ GE136.out) | exact HB.out)) hb); clear BK136; clear HB; have BK136 := n0_; have HB := n1_; clear n0_ n1_; (try clear hb); (try clear hb2); (try clear hk); (try clear hi); have hcz93_0 : w92.cell? ⟨gb136, 0, none⟩ = some (.int .i64 x137000_4) := (blk_cell BK136.out 0).trans rfl; have hcz93_1 : w92.cell? ⟨gb136, 1, none⟩ = some (.int .i64 x137001_4) := (blk_cell BK136.out 1).trans rfl; have hcz93_2 : w92.cell? ⟨gb136, 2, none⟩ = some (.int .i64 x137002_4) := (blk_cell BK136.out 2).trans rfl; have hcz93_3 : w92.cell? ⟨gb136, 3, none⟩ = some (.int .i64 x137003_4) := (blk_cell BK136.out 3).trans rfl; have hcz93_4 : w92.cell? ⟨gb136, 4, none⟩ = some (.bool x137004_4) := (blk_cell BK136.out 4).trans rfl; have hcz93_5 : w92.cell? ⟨gb136, 5, none⟩ = some (.int .u32 x137005_4) := (blk_cell BK136.out 5).trans rfl; have hfz93_0 := blk_frozen BK136.out 0; have hfz93_1 := blk_frozen BK136.out 1; have hfz93_2 := blk_frozen BK136.out 2; have hfz93_3 := blk_frozen BK136.out 3; have hfz93_4 := blk_frozen BK136.out 4; have hfz93_5 := blk_frozen BK136.out 5))
                                        go_ret
                                        exact ⟨by first | rfl | (simp [errW_none, errW_some] <;> rfl) | (simp only [← hji25]; first | rfl | (simp [errW_none, errW_some] <;> rfl)) | (simp [*, errW_none, errW_some] <;> rfl), by repeat (first | (with_reducible first | exact HB.out | apply below_alloc | apply pw_below_drewN | apply below_drew1 | refine below_set ?_ GE136.out) | exact HB.out)⟩
                                  · rw [if_neg c55] at H
                                    exact absurd H (by simp)
                                · rw [if_neg c54] at H
                                  exact absurd H (by simp)
                              · replace c53 := Bool.eq_false_iff.mpr c53
                                subst c53
                                have H1 : ((crowd_Ack.f kj50 x137000_4 x137001_4 x137002_4 x137003_4 x137004_4 x137005_4 (wrap64 (1 + t134)) (wrap64 ((wrap64 ((wrap64 (4 * (wrap64 (1 + t134)))) + t135)) - x15_4)) (((wrap64 ((wrap64 (4 * (wrap64 (1 + t134)))) + t135))) % 4294967296) (((wrap64 ((wrap64 (4 * (wrap64 (1 + t134)))) + t135))) % 4294967296)).bind fun bt154 => (if bt154.2.2.2.2.2.2.2 = 0 then (if bt154.2.2.2.2.2.2.1 = true then (some false) else (if bt154.2.2.2.2.1 = true then (some false) else (some (bt154.1 == ji25)))) else (some false))) = some r := by rw [if_neg (show ¬ (false = true) by decide)] at H; exact H
                                clear H
                                have H := H1
                                clear H1
                                replace H := Option.bind_eq_some_iff.mp H
                                obtain ⟨⟨t154, t155, t156, t157, t158, t159, t160, t161⟩, A940, H⟩ := H
                                replace H : (if t161 = 0 then (if t160 = true then (some false) else (if t158 = true then (some false) else (some (t154 == ji25)))) else (some false)) = some r := H
                                have A94 := Aside0.mk A940
                                clear A940
                                by_cases c95 : t161 = 0
                                · rw [if_pos c95] at H
                                  have c95b0 : (t161 == 0) = true := beq_iff_eq.mpr c95
                                  have c95b1 : (t161 != 0) = false := bne_eq_false_iff_eq.mpr c95
                                  clear c95
                                  by_cases c96 : t160 = true
                                  · subst c96
                                    have H1 : (some false) = some r := by rw [if_pos rfl] at H; exact H
                                    clear H
                                    have H := H1
                                    clear H1
                                    obtain rfl := Option.some.inj H
                                    have hcz97_0 : wc.cell? ⟨gb136, 0, none⟩ = some (.int .i64 x137000_4) := (blk_cell BK136.out 0).trans rfl
                                    have hcz97_1 : wc.cell? ⟨gb136, 1, none⟩ = some (.int .i64 x137001_4) := (blk_cell BK136.out 1).trans rfl
                                    have hcz97_2 : wc.cell? ⟨gb136, 2, none⟩ = some (.int .i64 x137002_4) := (blk_cell BK136.out 2).trans rfl
                                    have hcz97_3 : wc.cell? ⟨gb136, 3, none⟩ = some (.int .i64 x137003_4) := (blk_cell BK136.out 3).trans rfl
                                    have hcz97_4 : wc.cell? ⟨gb136, 4, none⟩ = some (.bool x137004_4) := (blk_cell BK136.out 4).trans rfl
                                    have hcz97_5 : wc.cell? ⟨gb136, 5, none⟩ = some (.int .u32 x137005_4) := (blk_cell BK136.out 5).trans rfl
                                    have hfz97_0 := blk_frozen BK136.out 0
                                    have hfz97_1 := blk_frozen BK136.out 1
                                    have hfz97_2 := blk_frozen BK136.out 2
                                    have hfz97_3 := blk_frozen BK136.out 3
                                    have hfz97_4 := blk_frozen BK136.out 4
                                    have hfz97_5 := blk_frozen BK136.out 5
                                    go_wp2_with (first | ((with_reducible refine gate_callee (f := 12) rfl ?_); refine goesL_ (some 163) rfl rfl Try.func12 (by kernel_rfl) rfl #[.agg #[.int .i64 x137000_4, .int .i64 x137001_4, .int .i64 x137002_4, .int .i64 x137003_4, .bool x137004_4, .int .u32 x137005_4], .int .i64 (wrap64 (1 + t134)), .int .i64 (wrap64 ((wrap64 ((wrap64 (4 * (wrap64 (1 + t134)))) + t135)) - x15_4)), .int .u32 (((wrap64 ((wrap64 (4 * (wrap64 (1 + t134)))) + t135))) % 4294967296), .int .u32 (((wrap64 ((wrap64 (4 * (wrap64 (1 + t134)))) + t135))) % 4294967296)] rfl (by (try simp only [List.map_toArray, List.map_cons, List.map_nil]); first | done | rfl | (simp only [List.length_drop, List.length_take]; rfl)) ?_; (with_reducible refine (crowd_Ack.calls kj50 x137000_4 x137001_4 x137002_4 x137003_4 x137004_4 x137005_4 (wrap64 (1 + t134)) (wrap64 ((wrap64 ((wrap64 (4 * (wrap64 (1 + t134)))) + t135)) - x15_4)) (((wrap64 ((wrap64 (4 * (wrap64 (1 + t134)))) + t135))) % 4294967296) (((wrap64 ((wrap64 (4 * (wrap64 (1 + t134)))) + t135))) % 4294967296) t154 t155 t156 t157 t158 t159 true t161 _ A94.out).mono ?_); rintro e w98 ⟨rfl, hb⟩; refine ⟨_, rfl, ?_⟩; have n0_ := Aside0.mk (blk_below (g := gb136) (o := .cells #[.int .i64 x137000_4, .int .i64 x137001_4, .int .i64 x137002_4, .int .i64 x137003_4, .bool x137004_4, .int .u32 x137005_4] 26 (0, 0)) (by (with_reducible repeat (first | refine blk_drewN ?_ _ | refine blk_drew ?_ | refine blk_alloc ?_ _)); exact BK136.out) hb); have n1_ := Aside0.mk (below_step (by repeat (first | (with_reducible first | exact HB.out | apply below_alloc | apply pw_below_drewN | apply below_drew1 | refine below_set ?_ GE136.out) | exact HB.out)) hb); clear BK136; clear HB; have BK136 := n0_; have HB := n1_; clear n0_ n1_; (try clear hb); (try clear hb2); (try clear hk); (try clear hi); have hcz99_0 : w98.cell? ⟨gb136, 0, none⟩ = some (.int .i64 x137000_4) := (blk_cell BK136.out 0).trans rfl; have hcz99_1 : w98.cell? ⟨gb136, 1, none⟩ = some (.int .i64 x137001_4) := (blk_cell BK136.out 1).trans rfl; have hcz99_2 : w98.cell? ⟨gb136, 2, none⟩ = some (.int .i64 x137002_4) := (blk_cell BK136.out 2).trans rfl; have hcz99_3 : w98.cell? ⟨gb136, 3, none⟩ = some (.int .i64 x137003_4) := (blk_cell BK136.out 3).trans rfl; have hcz99_4 : w98.cell? ⟨gb136, 4, none⟩ = some (.bool x137004_4) := (blk_cell BK136.out 4).trans rfl; have hcz99_5 : w98.cell? ⟨gb136, 5, none⟩ = some (.int .u32 x137005_4) := (blk_cell BK136.out 5).trans rfl; have hfz99_0 := blk_frozen BK136.out 0; have hfz99_1 := blk_frozen BK136.out 1; have hfz99_2 := blk_frozen BK136.out 2; have hfz99_3 := blk_frozen BK136.out 3; have hfz99_4 := blk_frozen BK136.out 4; have hfz99_5 := blk_frozen BK136.out 5))
                                    go_ret
                                    exact ⟨by first | rfl | (simp [errW_none, errW_some] <;> rfl) | (simp only [← hji25]; first | rfl | (simp [errW_none, errW_some] <;> rfl)) | (simp [*, errW_none, errW_some] <;> rfl), by repeat (first | (with_reducible first | exact HB.out | apply below_alloc | apply pw_below_drewN | apply below_drew1 | refine below_set ?_ GE136.out) | exact HB.out)⟩
                                  · replace c96 := Bool.eq_false_iff.mpr c96
                                    subst c96
                                    have H1 : (if t158 = true then (some false) else (some (t154 == ji25))) = some r := by rw [if_neg (show ¬ (false = true) by decide)] at H; exact H
                                    clear H
                                    have H := H1
                                    clear H1
                                    by_cases c100 : t158 = true
                                    · subst c100
                                      have H1 : (some false) = some r := by rw [if_pos rfl] at H; exact H
                                      clear H
                                      have H := H1
                                      clear H1
                                      obtain rfl := Option.some.inj H
                                      have hcz101_0 : wc.cell? ⟨gb136, 0, none⟩ = some (.int .i64 x137000_4) := (blk_cell BK136.out 0).trans rfl
                                      have hcz101_1 : wc.cell? ⟨gb136, 1, none⟩ = some (.int .i64 x137001_4) := (blk_cell BK136.out 1).trans rfl
                                      have hcz101_2 : wc.cell? ⟨gb136, 2, none⟩ = some (.int .i64 x137002_4) := (blk_cell BK136.out 2).trans rfl
                                      have hcz101_3 : wc.cell? ⟨gb136, 3, none⟩ = some (.int .i64 x137003_4) := (blk_cell BK136.out 3).trans rfl
                                      have hcz101_4 : wc.cell? ⟨gb136, 4, none⟩ = some (.bool x137004_4) := (blk_cell BK136.out 4).trans rfl
                                      have hcz101_5 : wc.cell? ⟨gb136, 5, none⟩ = some (.int .u32 x137005_4) := (blk_cell BK136.out 5).trans rfl
                                      have hfz101_0 := blk_frozen BK136.out 0
                                      have hfz101_1 := blk_frozen BK136.out 1
                                      have hfz101_2 := blk_frozen BK136.out 2
                                      have hfz101_3 := blk_frozen BK136.out 3
                                      have hfz101_4 := blk_frozen BK136.out 4
                                      have hfz101_5 := blk_frozen BK136.out 5
                                      go_wp2_with (first | ((with_reducible refine gate_callee (f := 12) rfl ?_); refine goesL_ (some 163) rfl rfl Try.func12 (by kernel_rfl) rfl #[.agg #[.int .i64 x137000_4, .int .i64 x137001_4, .int .i64 x137002_4, .int .i64 x137003_4, .bool x137004_4, .int .u32 x137005_4], .int .i64 (wrap64 (1 + t134)), .int .i64 (wrap64 ((wrap64 ((wrap64 (4 * (wrap64 (1 + t134)))) + t135)) - x15_4)), .int .u32 (((wrap64 ((wrap64 (4 * (wrap64 (1 + t134)))) + t135))) % 4294967296), .int .u32 (((wrap64 ((wrap64 (4 * (wrap64 (1 + t134)))) + t135))) % 4294967296)] rfl (by (try simp only [List.map_toArray, List.map_cons, List.map_nil]); first | done | rfl | (simp only [List.length_drop, List.length_take]; rfl)) ?_; (with_reducible refine (crowd_Ack.calls kj50 x137000_4 x137001_4 x137002_4 x137003_4 x137004_4 x137005_4 (wrap64 (1 + t134)) (wrap64 ((wrap64 ((wrap64 (4 * (wrap64 (1 + t134)))) + t135)) - x15_4)) (((wrap64 ((wrap64 (4 * (wrap64 (1 + t134)))) + t135))) % 4294967296) (((wrap64 ((wrap64 (4 * (wrap64 (1 + t134)))) + t135))) % 4294967296) t154 t155 t156 t157 true t159 false t161 _ A94.out).mono ?_); rintro e w102 ⟨rfl, hb⟩; refine ⟨_, rfl, ?_⟩; have n0_ := Aside0.mk (blk_below (g := gb136) (o := .cells #[.int .i64 x137000_4, .int .i64 x137001_4, .int .i64 x137002_4, .int .i64 x137003_4, .bool x137004_4, .int .u32 x137005_4] 26 (0, 0)) (by (with_reducible repeat (first | refine blk_drewN ?_ _ | refine blk_drew ?_ | refine blk_alloc ?_ _)); exact BK136.out) hb); have n1_ := Aside0.mk (below_step (by repeat (first | (with_reducible first | exact HB.out | apply below_alloc | apply pw_below_drewN | apply below_drew1 | refine below_set ?_ GE136.out) | exact HB.out)) hb); clear BK136; clear HB; have BK136 := n0_; have HB := n1_; clear n0_ n1_; (try clear hb); (try clear hb2); (try clear hk); (try clear hi); have hcz103_0 : w102.cell? ⟨gb136, 0, none⟩ = some (.int .i64 x137000_4) := (blk_cell BK136.out 0).trans rfl; have hcz103_1 : w102.cell? ⟨gb136, 1, none⟩ = some (.int .i64 x137001_4) := (blk_cell BK136.out 1).trans rfl; have hcz103_2 : w102.cell? ⟨gb136, 2, none⟩ = some (.int .i64 x137002_4) := (blk_cell BK136.out 2).trans rfl; have hcz103_3 : w102.cell? ⟨gb136, 3, none⟩ = some (.int .i64 x137003_4) := (blk_cell BK136.out 3).trans rfl; have hcz103_4 : w102.cell? ⟨gb136, 4, none⟩ = some (.bool x137004_4) := (blk_cell BK136.out 4).trans rfl; have hcz103_5 : w102.cell? ⟨gb136, 5, none⟩ = some (.int .u32 x137005_4) := (blk_cell BK136.out 5).trans rfl; have hfz103_0 := blk_frozen BK136.out 0; have hfz103_1 := blk_frozen BK136.out 1; have hfz103_2 := blk_frozen BK136.out 2; have hfz103_3 := blk_frozen BK136.out 3; have hfz103_4 := blk_frozen BK136.out 4; have hfz103_5 := blk_frozen BK136.out 5))
                                      go_ret
                                      exact ⟨by first | rfl | (simp [errW_none, errW_some] <;> rfl) | (simp only [← hji25]; first | rfl | (simp [errW_none, errW_some] <;> rfl)) | (simp [*, errW_none, errW_some] <;> rfl), by repeat (first | (with_reducible first | exact HB.out | apply below_alloc | apply pw_below_drewN | apply below_drew1 | refine below_set ?_ GE136.out) | exact HB.out)⟩
                                    · replace c100 := Bool.eq_false_iff.mpr c100
                                      subst c100
                                      have H1 : (some (t154 == ji25)) = some r := by rw [if_neg (show ¬ (false = true) by decide)] at H; exact H
                                      clear H
                                      have H := H1
                                      clear H1
                                      obtain rfl := Option.some.inj H
                                      have hcz104_0 : wc.cell? ⟨gb136, 0, none⟩ = some (.int .i64 x137000_4) := (blk_cell BK136.out 0).trans rfl
                                      have hcz104_1 : wc.cell? ⟨gb136, 1, none⟩ = some (.int .i64 x137001_4) := (blk_cell BK136.out 1).trans rfl
                                      have hcz104_2 : wc.cell? ⟨gb136, 2, none⟩ = some (.int .i64 x137002_4) := (blk_cell BK136.out 2).trans rfl
                                      have hcz104_3 : wc.cell? ⟨gb136, 3, none⟩ = some (.int .i64 x137003_4) := (blk_cell BK136.out 3).trans rfl
                                      have hcz104_4 : wc.cell? ⟨gb136, 4, none⟩ = some (.bool x137004_4) := (blk_cell BK136.out 4).trans rfl
                                      have hcz104_5 : wc.cell? ⟨gb136, 5, none⟩ = some (.int .u32 x137005_4) := (blk_cell BK136.out 5).trans rfl
                                      have hfz104_0 := blk_frozen BK136.out 0
                                      have hfz104_1 := blk_frozen BK136.out 1
                                      have hfz104_2 := blk_frozen BK136.out 2
                                      have hfz104_3 := blk_frozen BK136.out 3
                                      have hfz104_4 := blk_frozen BK136.out 4
                                      have hfz104_5 := blk_frozen BK136.out 5
                                      go_wp2_with (first | ((with_reducible refine gate_callee (f := 12) rfl ?_); refine goesL_ (some 163) rfl rfl Try.func12 (by kernel_rfl) rfl #[.agg #[.int .i64 x137000_4, .int .i64 x137001_4, .int .i64 x137002_4, .int .i64 x137003_4, .bool x137004_4, .int .u32 x137005_4], .int .i64 (wrap64 (1 + t134)), .int .i64 (wrap64 ((wrap64 ((wrap64 (4 * (wrap64 (1 + t134)))) + t135)) - x15_4)), .int .u32 (((wrap64 ((wrap64 (4 * (wrap64 (1 + t134)))) + t135))) % 4294967296), .int .u32 (((wrap64 ((wrap64 (4 * (wrap64 (1 + t134)))) + t135))) % 4294967296)] rfl (by (try simp only [List.map_toArray, List.map_cons, List.map_nil]); first | done | rfl | (simp only [List.length_drop, List.length_take]; rfl)) ?_; (with_reducible refine (crowd_Ack.calls kj50 x137000_4 x137001_4 x137002_4 x137003_4 x137004_4 x137005_4 (wrap64 (1 + t134)) (wrap64 ((wrap64 ((wrap64 (4 * (wrap64 (1 + t134)))) + t135)) - x15_4)) (((wrap64 ((wrap64 (4 * (wrap64 (1 + t134)))) + t135))) % 4294967296) (((wrap64 ((wrap64 (4 * (wrap64 (1 + t134)))) + t135))) % 4294967296) t154 t155 t156 t157 false t159 false t161 _ A94.out).mono ?_); rintro e w105 ⟨rfl, hb⟩; refine ⟨_, rfl, ?_⟩; have n0_ := Aside0.mk (blk_below (g := gb136) (o := .cells #[.int .i64 x137000_4, .int .i64 x137001_4, .int .i64 x137002_4, .int .i64 x137003_4, .bool x137004_4, .int .u32 x137005_4] 26 (0, 0)) (by (with_reducible repeat (first | refine blk_drewN ?_ _ | refine blk_drew ?_ | refine blk_alloc ?_ _)); exact BK136.out) hb); have n1_ := Aside0.mk (below_step (by repeat (first | (with_reducible first | exact HB.out | apply below_alloc | apply pw_below_drewN | apply below_drew1 | refine below_set ?_ GE136.out) | exact HB.out)) hb); clear BK136; clear HB; have BK136 := n0_; have HB := n1_; clear n0_ n1_; (try clear hb); (try clear hb2); (try clear hk); (try clear hi); have hcz106_0 : w105.cell? ⟨gb136, 0, none⟩ = some (.int .i64 x137000_4) := (blk_cell BK136.out 0).trans rfl; have hcz106_1 : w105.cell? ⟨gb136, 1, none⟩ = some (.int .i64 x137001_4) := (blk_cell BK136.out 1).trans rfl; have hcz106_2 : w105.cell? ⟨gb136, 2, none⟩ = some (.int .i64 x137002_4) := (blk_cell BK136.out 2).trans rfl; have hcz106_3 : w105.cell? ⟨gb136, 3, none⟩ = some (.int .i64 x137003_4) := (blk_cell BK136.out 3).trans rfl; have hcz106_4 : w105.cell? ⟨gb136, 4, none⟩ = some (.bool x137004_4) := (blk_cell BK136.out 4).trans rfl; have hcz106_5 : w105.cell? ⟨gb136, 5, none⟩ = some (.int .u32 x137005_4) := (blk_cell BK136.out 5).trans rfl; have hfz106_0 := blk_frozen BK136.out 0; have hfz106_1 := blk_frozen BK136.out 1; have hfz106_2 := blk_frozen BK136.out 2; have hfz106_3 := blk_frozen BK136.out 3; have hfz106_4 := blk_frozen BK136.out 4; have hfz106_5 := blk_frozen BK136.out 5))
                                      go_ret
                                      exact ⟨by first | rfl | (simp [errW_none, errW_some] <;> rfl) | (simp only [← hji25]; first | rfl | (simp [errW_none, errW_some] <;> rfl)) | (simp [*, errW_none, errW_some] <;> rfl), by repeat (first | (with_reducible first | exact HB.out | apply below_alloc | apply pw_below_drewN | apply below_drew1 | refine below_set ?_ GE136.out) | exact HB.out)⟩
                                · rw [if_neg c95] at H
                                  have c95b0 : (t161 == 0) = false := beq_eq_false_iff_ne.mpr c95
                                  have c95b1 : (t161 != 0) = true := bne_iff_ne.mpr c95
                                  obtain rfl := Option.some.inj H
                                  have hcz107_0 : wc.cell? ⟨gb136, 0, none⟩ = some (.int .i64 x137000_4) := (blk_cell BK136.out 0).trans rfl
                                  have hcz107_1 : wc.cell? ⟨gb136, 1, none⟩ = some (.int .i64 x137001_4) := (blk_cell BK136.out 1).trans rfl
                                  have hcz107_2 : wc.cell? ⟨gb136, 2, none⟩ = some (.int .i64 x137002_4) := (blk_cell BK136.out 2).trans rfl
                                  have hcz107_3 : wc.cell? ⟨gb136, 3, none⟩ = some (.int .i64 x137003_4) := (blk_cell BK136.out 3).trans rfl
                                  have hcz107_4 : wc.cell? ⟨gb136, 4, none⟩ = some (.bool x137004_4) := (blk_cell BK136.out 4).trans rfl
                                  have hcz107_5 : wc.cell? ⟨gb136, 5, none⟩ = some (.int .u32 x137005_4) := (blk_cell BK136.out 5).trans rfl
                                  have hfz107_0 := blk_frozen BK136.out 0
                                  have hfz107_1 := blk_frozen BK136.out 1
                                  have hfz107_2 := blk_frozen BK136.out 2
                                  have hfz107_3 := blk_frozen BK136.out 3
                                  have hfz107_4 := blk_frozen BK136.out 4
                                  have hfz107_5 := blk_frozen BK136.out 5
                                  go_wp2_with (first | ((with_reducible refine gate_callee (f := 12) rfl ?_); refine goesL_ (some 163) rfl rfl Try.func12 (by kernel_rfl) rfl #[.agg #[.int .i64 x137000_4, .int .i64 x137001_4, .int .i64 x137002_4, .int .i64 x137003_4, .bool x137004_4, .int .u32 x137005_4], .int .i64 (wrap64 (1 + t134)), .int .i64 (wrap64 ((wrap64 ((wrap64 (4 * (wrap64 (1 + t134)))) + t135)) - x15_4)), .int .u32 (((wrap64 ((wrap64 (4 * (wrap64 (1 + t134)))) + t135))) % 4294967296), .int .u32 (((wrap64 ((wrap64 (4 * (wrap64 (1 + t134)))) + t135))) % 4294967296)] rfl (by (try simp only [List.map_toArray, List.map_cons, List.map_nil]); first | done | rfl | (simp only [List.length_drop, List.length_take]; rfl)) ?_; (with_reducible refine (crowd_Ack.calls kj50 x137000_4 x137001_4 x137002_4 x137003_4 x137004_4 x137005_4 (wrap64 (1 + t134)) (wrap64 ((wrap64 ((wrap64 (4 * (wrap64 (1 + t134)))) + t135)) - x15_4)) (((wrap64 ((wrap64 (4 * (wrap64 (1 + t134)))) + t135))) % 4294967296) (((wrap64 ((wrap64 (4 * (wrap64 (1 + t134)))) + t135))) % 4294967296) t154 t155 t156 t157 t158 t159 t160 t161 _ A94.out).mono ?_); rintro e w108 ⟨rfl, hb⟩; refine ⟨_, rfl, ?_⟩; have n0_ := Aside0.mk (blk_below (g := gb136) (o := .cells #[.int .i64 x137000_4, .int .i64 x137001_4, .int .i64 x137002_4, .int .i64 x137003_4, .bool x137004_4, .int .u32 x137005_4] 26 (0, 0)) (by (with_reducible repeat (first | refine blk_drewN ?_ _ | refine blk_drew ?_ | refine blk_alloc ?_ _)); exact BK136.out) hb); have n1_ := Aside0.mk (below_step (by repeat (first | (with_reducible first | exact HB.out | apply below_alloc | apply pw_below_drewN | apply below_drew1 | refine below_set ?_ GE136.out) | exact HB.out)) hb); clear BK136; clear HB; have BK136 := n0_; have HB := n1_; clear n0_ n1_; (try clear hb); (try clear hb2); (try clear hk); (try clear hi); have hcz109_0 : w108.cell? ⟨gb136, 0, none⟩ = some (.int .i64 x137000_4) := (blk_cell BK136.out 0).trans rfl; have hcz109_1 : w108.cell? ⟨gb136, 1, none⟩ = some (.int .i64 x137001_4) := (blk_cell BK136.out 1).trans rfl; have hcz109_2 : w108.cell? ⟨gb136, 2, none⟩ = some (.int .i64 x137002_4) := (blk_cell BK136.out 2).trans rfl; have hcz109_3 : w108.cell? ⟨gb136, 3, none⟩ = some (.int .i64 x137003_4) := (blk_cell BK136.out 3).trans rfl; have hcz109_4 : w108.cell? ⟨gb136, 4, none⟩ = some (.bool x137004_4) := (blk_cell BK136.out 4).trans rfl; have hcz109_5 : w108.cell? ⟨gb136, 5, none⟩ = some (.int .u32 x137005_4) := (blk_cell BK136.out 5).trans rfl; have hfz109_0 := blk_frozen BK136.out 0; have hfz109_1 := blk_frozen BK136.out 1; have hfz109_2 := blk_frozen BK136.out 2; have hfz109_3 := blk_frozen BK136.out 3; have hfz109_4 := blk_frozen BK136.out 4; have hfz109_5 := blk_frozen BK136.out 5))
                                  go_ret
                                  exact ⟨by first | rfl | (simp [errW_none, errW_some] <;> rfl) | (simp only [← hji25]; first | rfl | (simp [errW_none, errW_some] <;> rfl)) | (simp [*, errW_none, errW_some] <;> rfl), by repeat (first | (with_reducible first | exact HB.out | apply below_alloc | apply pw_below_drewN | apply below_drew1 | refine below_set ?_ GE136.out) | exact HB.out)⟩
  · replace c6 := Bool.eq_false_iff.mpr c6
    subst c6
    have H1 : (some false) = some r := by rw [if_neg (show ¬ (false = true) by decide)] at H; exact H
    clear H
    have H := H1
    clear H1
    obtain rfl := Option.some.inj H
    go_enter Try.func5, Try.ntmps5
    go_wp2_with (first | ((with_reducible refine gate_callee (f := 9) rfl ?_); refine goesL_ (some 18) rfl rfl Try.func9 (by kernel_rfl) rfl #[] rfl (by (try simp only [List.map_toArray, List.map_cons, List.map_nil]); first | done | rfl | (simp only [List.length_drop, List.length_take]; rfl)) ?_; (with_reducible refine (patchbaykeep3_crowdFact.calls k  false _ A5.out).mono ?_); rintro e w110 ⟨rfl, hb⟩; refine ⟨_, rfl, ?_⟩; have n0_ := Aside0.mk (below_step (by repeat (first | (with_reducible first | exact HB.out | apply below_alloc | apply pw_below_drewN | apply below_drew1) | exact HB.out)) hb); clear HB; have HB := n0_; clear n0_; (try clear hb); (try clear hb2); (try clear hk); (try clear hi)))
    go_ret
    exact ⟨by first | rfl | (simp [errW_none, errW_some] <;> rfl) | (simp [*, errW_none, errW_some] <;> rfl), by repeat (first | (with_reducible first | exact HB.out | apply below_alloc | apply pw_below_drewN | apply below_drew1) | exact HB.out)⟩

/-- THE ONE PURE STATEMENT of patchbaykeep3_CrowdOnce: yours. -/
def patchbaykeep3_CrowdOnce.Pure : Prop := ∀ (a0 : Int) (a1 : Int) (a2 : Int) (l3 : List Int), (Lit.int .i64 a0).wf = true → (Lit.int .i64 a1).wf = true → (Lit.int .i64 a2).wf = true → l3.length ≤ maxLen → l3.length * 8 ≤ 140737488351232 → (∀ x ∈ l3, (Lit.int .i64 x).wf = true) → ∃ k, patchbaykeep3_CrowdOnce.f k a0 a1 a2 l3 = some true
theorem patchbaykeep3_CrowdOnce.walk (P : patchbaykeep3_CrowdOnce.Pure) (a0 : Int) (a1 : Int) (a2 : Int) (a3 : Option Addr) (len3 cap3 : Nat) (z3 : List Int) (w : World) (w0 : (Lit.int .i64 a0).wf = true) (w1 : (Lit.int .i64 a1).wf = true) (w2 : (Lit.int .i64 a2).wf = true) (w3 : (a3 = none ∧ len3 = 0 ∧ cap3 = 0 ∧ z3 = []) ∨ ∃ x, a3 = some x ∧ len3 ≤ cap3 ∧ cap3 ≤ maxLen ∧ z3.length = cap3 ∧ (∀ i, i < z3.length → w.cell? (x.add i) = some (.int .i64 (z3.getD i 0))) ∧ ∀ n ∈ z3, (Lit.int .i64 n).wf = true) (y3 : len3 * 8 ≤ 140737488351232) :
    Calls Try.prog 5 #[.int .i64 a0, .int .i64 a1, .int .i64 a2, .slice a3 len3 cap3] w fun e w' => e = .returned (.bool true) ∧ Below w.heap.size w w' := by
  obtain ⟨l3, rfl, hr3, hm3, hw3, hc3⟩ := ReadsInt.ofRowC w3
  obtain ⟨k, h⟩ := P a0 a1 a2 l3 w0 w1 w2 hm3 y3 hw3
  refine (patchbaykeep3_CrowdOnce.calls k a0 a1 a2 _ _ l3 true w (Kd.C_of_reads (d := (0 : Int)) (h1 := fun _ => rfl) hr3) hc3 h).mono ?_
  rintro e w' ⟨rfl, hd⟩
  exact ⟨rfl, hd⟩

end Go.Proofs.Ytopjfkcoknenfaa.PCrowdOnce
