/- CrowdAvoids: in congestion avoidance a full window of acknowledged bytes increases the window by mss. No condition: every input. -/
import Derived.Test.YtopjfkcoknenfaaPCrowdAvoidsx3
namespace Go.Proofs.Ytopjfkcoknenfaa.Pure
open Go.RowKit Go.Proofs.Ytopjfkcoknenfaa.PCrowdAvoids Go.Proofs.YtopjfkcoknenfaaW.PrintWords Go.Proofs.YtopjfkcoknenfaaW.PrintLast Go.Proofs.YtopjfkcoknenfaaW.PrintMore
namespace CCrowdAvoids
theorem w64 {x : Int} (h1 : -9223372036854775808 ≤ x) (h2 : x ≤ 9223372036854775807) : wrap64 x = x := by unfold wrap64; omega
theorem mn_eq (a b : Int) : mn a b = if b < a then b else a := rfl
theorem mx_eq (a b : Int) : mx a b = if a < b then b else a := rfl
theorem rest_some (a m : Int) (hm : 0 < m) (hm2 : m ≤ 100000) : ∃ r, patchbaykeep3_rest.f a m = some r ∧ 0 ≤ r ∧ r < m := by
  unfold patchbaykeep3_rest.f
  rw [if_neg (by omega)]
  have h1 := Int.tmod_lt_of_pos a hm
  have h2 : -m < Int.tmod a m := by
    have := Int.tmod_lt_of_pos (-a) hm
    rw [Int.neg_tmod] at this
    omega
  by_cases h : Int.tmod a m < 0
  · rw [if_pos h]
    exact ⟨_, rfl, by rw [w64 (by omega) (by omega)]; omega, by rw [w64 (by omega) (by omega)]; omega⟩
  · rw [if_neg h]
    exact ⟨_, rfl, by omega, by omega⟩
theorem in_some (a b c : Int) : crowd_in.f a b c = some (decide (b ≤ a ∧ a ≤ c)) := by
  unfold crowd_in.f
  by_cases h : a ≥ b
  · rw [if_pos h]; congr 1; by_cases h2 : a ≤ c <;> simp [h2]; exact h
  · rw [if_neg h]; congr 1; symm; rw [decide_eq_false_iff_not]; omega
def Ok (W L C D mss : Int) : Prop := 1 ≤ mss ∧ mss ≤ 1500 ∧ mss ≤ W ∧ W ≤ 65535 ∧ 2 * mss ≤ L ∧ L ≤ 65535 ∧ 0 ≤ C ∧ C ≤ 65535 ∧ 0 ≤ D ∧ D ≤ 3
theorem check_ok {W L C D mss : Int} (F : Bool) (R : Int) (h : Ok W L C D mss) : crowd_Check.f W L C D F R mss = some 0 := by
  obtain ⟨h1, h2, h3, h4, h5, h6, h7, h8, h9, h10⟩ := h
  unfold crowd_Check.f
  rw [w64 (x := 2 * mss) (by omega) (by omega)]
  simp only [in_some, Option.bind_some]
  simp [h1, h2, h3, h4, h5, h6, h7, h8, h9, h10]
theorem first_ok {mss : Int} (h1 : 1 ≤ mss) (h2 : mss ≤ 1500) : crowd_First.f mss = some (2 * mss, 65535, 0, 0, false, 0, 0) := by
  unfold crowd_First.f
  rw [in_some, w64 (x := 2 * mss) (by omega) (by omega)]
  simp [h1, h2]
theorem diff_add (u f : Int) (h0 : 0 ≤ f) (h1 : f < 2147483648) : seq_Diff.f ((u + f) % 4294967296) (u % 4294967296) = some f := by
  unfold seq_Diff.f
  have : ((u + f) % 4294967296 - u % 4294967296) % 4294967296 = f := by omega
  rw [this]
  have : wrap32 f = f := by unfold wrap32; omega
  rw [this, w64 (by omega) (by omega)]
theorem less_add (u f : Int) (h0 : 0 ≤ f) (h1 : f < 2147483648) : seq_Less.f ((u + f) % 4294967296) (u % 4294967296) = some false := by
  unfold seq_Less.f
  rw [diff_add u f h0 h1]
  simp; omega
theorem less_sub (u f : Int) (h0 : 0 < f) (h1 : f < 2147483648) : seq_Less.f (u % 4294967296) ((u + f) % 4294967296) = some true := by
  unfold seq_Less.f seq_Diff.f
  have : wrap32 ((u % 4294967296 - (u + f) % 4294967296) % 4294967296) = -f := by unfold wrap32; omega
  rw [this, w64 (by omega) (by omega)]
  simp; omega
theorem cut_ok (mss f : Int) (h1 : 1 ≤ mss) (h2 : mss ≤ 1500) (h3 : 0 ≤ f) (h4 : f < 2147483648) : crowd_cut.f mss f = some (mn (mx (f / 2) (2 * mss)) 65535) := by
  unfold crowd_cut.f
  rw [Int.tdiv_eq_ediv_of_nonneg h3, w64 (x := f / 2) (by omega) (by omega), w64 (x := 2 * mss) (by omega) (by omega)]
/-- Is una before R? (only looked at where fast recovery runs) -/
def before (una R : Int) : Bool := decide (wrap64 (wrap32 ((una - R) % 4294967296)) < 0)
/-- What Ack comes to, in a valid state. -/
def ackR (W L C D : Int) (F : Bool) (R mss acked flight una next : Int) : Int × Int × Int × Int × Bool × Int × Bool × Int :=
  if acked = 0 then
    if F = true then (mn (W + mss) 65535, L, C, D, true, R, false, 0)
    else if D + 1 ≥ 3 then (mn (mn (mx (flight / 2) (2 * mss)) 65535 + 3 * mss) 65535, mn (mx (flight / 2) (2 * mss)) 65535, 0, 0, true, next, true, 0)
    else (W, L, C, D + 1, false, R, false, 0)
  else if F = true then
    if before una R = true then (mn (mx (W - acked) 0 + mss) 65535, L, C, D, true, R, true, 0)
    else (L, L, 0, 0, false, R, false, 0)
  else if W < L then (mn (W + mn acked mss) 65535, L, C, 0, false, R, false, 0)
  else if C + mn acked W ≥ W then (mn (W + mss) 65535, L, mn (C + mn acked W - W) 65535, 0, false, R, false, 0)
  else (W, L, mn (C + mn acked W) 65535, 0, false, R, false, 0)
theorem ack_ok {W L C D mss : Int} (h : Ok W L C D mss) (F : Bool) (R acked u f : Int) (ha : 0 ≤ acked) (ha2 : acked ≤ 2147483648) (h0 : 0 ≤ f) (h1 : f < 2147483648) (k : Nat) :
    crowd_Ack.f (k + 3) W L C D F R mss acked (u % 4294967296) ((u + f) % 4294967296) = some (ackR W L C D F R mss acked f (u % 4294967296) ((u + f) % 4294967296)) := by
  unfold crowd_Ack.f
  rw [check_ok F R h, Option.bind_some, if_pos rfl, if_neg (by omega), if_neg (by omega), less_add u f h0 h1, Option.bind_some]
  obtain ⟨m1, m2, h3, h4, h5, h6, h7, h8, h9, h10⟩ := h
  unfold ackR
  have e1 : wrap64 (W + mss) = W + mss := w64 (by omega) (by omega)
  have e2 : wrap64 (D + 1) = D + 1 := w64 (by omega) (by omega)
  have e3 : wrap64 (3 * mss) = 3 * mss := w64 (by omega) (by omega)
  have e4 : wrap64 (W - acked) = W - acked := w64 (by omega) (by omega)
  have b1 : 0 ≤ mn (mx (f / 2) (2 * mss)) 65535 ∧ mn (mx (f / 2) (2 * mss)) 65535 ≤ 65535 := by
    rw [mn_eq, mx_eq]; split <;> (try split) <;> omega
  have e5 : wrap64 (mn (mx (f / 2) (2 * mss)) 65535 + 3 * mss) = mn (mx (f / 2) (2 * mss)) 65535 + 3 * mss := w64 (by omega) (by omega)
  have b2 : 0 ≤ mx (W - acked) 0 ∧ mx (W - acked) 0 ≤ 65535 := by rw [mx_eq]; split <;> omega
  have e6 : wrap64 (mx (W - acked) 0 + mss) = mx (W - acked) 0 + mss := w64 (by omega) (by omega)
  have b3 : 0 ≤ mn acked mss ∧ mn acked mss ≤ 1500 := by rw [mn_eq]; split <;> omega
  have e7 : wrap64 (W + mn acked mss) = W + mn acked mss := w64 (by omega) (by omega)
  have b4 : 0 ≤ mn acked W ∧ mn acked W ≤ 65535 := by rw [mn_eq]; split <;> omega
  have e8 : wrap64 (C + mn acked W) = C + mn acked W := w64 (by omega) (by omega)
  have e9 : wrap64 (C + mn acked W - W) = C + mn acked W - W := w64 (by omega) (by omega)
  by_cases ha0 : acked = 0
  · subst ha0
    cases F
    · simp only [crowd_Ack.j0, crowd_Ack.j1, if_true, e2]
      by_cases hd : D + 1 ≥ 3
      · simp [hd, diff_add u f h0 h1, cut_ok mss f m1 m2 h0 h1, e3, e5]
      · simp [hd]
    · simp [crowd_Ack.j0, crowd_Ack.j1, e1]
  · cases F
    · simp only [crowd_Ack.j0, crowd_Ack.j1, crowd_Ack.j2, if_neg ha0, e7, e8, e9, e1]
      by_cases hw : W < L
      · simp [hw]
      · by_cases hc : C + mn acked W ≥ W
        · simp [hw, hc]
        · simp [hw, hc]
    · have hl : seq_Less.f (u % 4294967296) R = some (before (u % 4294967296) R) := rfl
      by_cases hb : before (u % 4294967296) R = true
      · simp [crowd_Ack.j0, crowd_Ack.j1, crowd_Ack.j2, ha0, hl, hb, e4, e6]
      · simp [crowd_Ack.j0, crowd_Ack.j1, crowd_Ack.j2, ha0, hl, hb]
theorem fact_ok (k : Nat) : patchbaykeep3_crowdFact.f (k + 3) = some true := by
  unfold patchbaykeep3_crowdFact.f
  rw [first_ok (by omega) (by omega), Option.bind_some]
  have := ack_ok (W := 200) (L := 65535) (C := 0) (D := 0) (mss := 100) ⟨by omega, by omega, by omega, by omega, by omega, by omega, by omega, by omega, by omega, by omega⟩ false 0 100 200 100 (by omega) (by omega) (by omega) (by omega) k
  simp only [show ((200 : Int) % 4294967296) = 200 from rfl, show (((200 : Int) + 100) % 4294967296) = 300 from rfl] at this
  simp only [show (2 * 100 : Int) = 200 from rfl, this]
  rfl

/-- One acknowledgement in congestion avoidance. -/
theorem step {W mss C n : Int} (k : Nat) (h1 : 1 ≤ mss) (h2 : mss ≤ 500) (h3 : 2 * mss ≤ W) (h4 : W ≤ 60000) (hC : 0 ≤ C) (hn : 1 ≤ n) (hcn : C + n ≤ W) (u : Int) :
    crowd_Ack.f (k + 3) W (2 * mss) C 0 false 0 mss n (u % 4294967296) ((u + W) % 4294967296) =
      some (if C + n = W then (W + mss, 2 * mss, 0, 0, false, 0, false, 0) else (W, 2 * mss, C + n, 0, false, 0, false, 0)) := by
  rw [ack_ok ⟨h1, by omega, by omega, by omega, by omega, by omega, by omega, by omega, by omega, by omega⟩ false 0 n u W (by omega) (by omega) (by omega) (by omega) k]
  unfold ackR
  rw [if_neg (by omega), if_neg (by simp), if_neg (by omega)]
  have e : mn n W = n := by rw [mn_eq]; split <;> omega
  rw [e]
  by_cases h : C + n = W
  · rw [if_pos (by omega), if_pos h, mn_eq, if_neg (by omega), mn_eq, if_neg (by omega)]
    rw [show C + n - W = 0 from by omega]
  · rw [if_neg (by omega), if_neg h, mn_eq, if_neg (by omega)]
theorem ended (mss W : Int) (l : List Int) (una i A B C D : Int) (F : Bool) (E : Int) (k : Nat) : patchbaykeep3_CrowdAvoids.l0 (k + 2) mss W l una 0 i A B C D F E = some true := by
  rw [patchbaykeep3_CrowdAvoids.l0]
  simp only [patchbaykeep3_CrowdAvoids.j1]
  simp
theorem loop (mss W : Int) (l : List Int) (h1 : 1 ≤ mss) (h2 : mss ≤ 500) (h3 : 2 * mss ≤ W) (h4 : W ≤ 60000) :
    ∀ (d K : Nat) (i una left C : Int), i + d = 60 → 0 ≤ i → 0 ≤ una → una + left = W → 0 < left → C = una → 2 * d + 8 ≤ K →
    patchbaykeep3_CrowdAvoids.l0 K mss W l una left i W (2 * mss) C 0 false 0 = some true := by
  intro d
  induction d with
  | zero =>
    intro K i una left C hi _ _ _ _ _ hK
    obtain ⟨k, rfl⟩ : ∃ k, K = k + 2 := ⟨K - 2, by omega⟩
    rw [patchbaykeep3_CrowdAvoids.l0]
    simp only [patchbaykeep3_CrowdAvoids.j1]
    rw [if_neg (show ¬ i < 60 by omega)]
    simp
  | succ d ih =>
    intro K i una left C hi hi0 hu hl hl0 hC hK
    obtain ⟨k, rfl⟩ : ∃ k, K = k + 3 + 2 := ⟨K - 5, by omega⟩
    by_cases hlen : i < (l.length : Int)
    · rw [patchbaykeep3_CrowdAvoids.l0]
      simp only [patchbaykeep3_CrowdAvoids.j1]
      rw [if_pos hlen, if_pos (show i < 60 by omega), if_pos (show decide (left > 0) = true by simp; omega), if_pos hi0, if_pos hlen]
      obtain ⟨r, hr, r0, r1⟩ := rest_some (rd l i) 3000 (by omega) (by omega)
      rw [hr, Option.bind_some, w64 (x := 1 + r) (by omega) (by omega)]
      obtain ⟨n, hn, n1, n2⟩ : ∃ n, mn (1 + r) left = n ∧ 1 ≤ n ∧ n ≤ left := ⟨_, rfl, by rw [mn_eq]; split <;> omega, by rw [mn_eq]; split <;> omega⟩
      rw [hn, w64 (x := una + n) (by omega) (by omega), w64 (x := una + n + W) (by omega) (by omega), w64 (x := left - n) (by omega) (by omega), w64 (x := i + 1) (by omega) (by omega), w64 (x := W + mss) (by omega) (by omega)]
      rw [step k h1 h2 h3 h4 (by omega) n1 (by omega) (una + n), Option.bind_some]
      by_cases he : C + n = W
      · rw [if_pos he, if_pos (show left - n = 0 by omega)]
        simp only [if_true]
        rw [show left - n = 0 from by omega]
        exact ended mss W l _ _ _ _ _ _ _ _ (k + 1)
      · rw [if_neg he, if_neg (show ¬ left - n = 0 by omega)]
        simp only [if_true]
        exact ih (k + 3) (i + 1) (una + n) (left - n) (C + n) (by omega) (by omega) (by omega) (by omega) (by omega) (by omega) (by omega)
    · rw [patchbaykeep3_CrowdAvoids.l0]
      simp only [patchbaykeep3_CrowdAvoids.j1]
      rw [if_neg hlen]
      simp
theorem pure_holds : patchbaykeep3_CrowdAvoids.Pure := by
  intro a0 a1 l2 _ _ _ _ _
  refine ⟨1000, ?_⟩
  unfold patchbaykeep3_CrowdAvoids.f
  obtain ⟨m, hm, m0, m1⟩ := rest_some a0 500 (by omega) (by omega)
  obtain ⟨r, hr, r0, r1⟩ := rest_some a1 20000 (by omega) (by omega)
  rw [fact_ok 997, Option.bind_some, if_pos rfl, hm, Option.bind_some, hr, Option.bind_some, w64 (x := 1 + m) (by omega) (by omega), w64 (x := 2 * (1 + m)) (by omega) (by omega), w64 (x := 2 * (1 + m) + r) (by omega) (by omega)]
  obtain ⟨W, hW, w1, w2⟩ : ∃ W, mn (2 * (1 + m) + r) 60000 = W ∧ 2 * (1 + m) ≤ W ∧ W ≤ 60000 := ⟨_, rfl, by rw [mn_eq]; split <;> omega, by rw [mn_eq]; split <;> omega⟩
  rw [hW]
  exact loop (1 + m) W l2 (by omega) (by omega) w1 w2 60 1000 0 0 W 0 (by omega) (by omega) (by omega) (by omega) (by omega) rfl (by omega)

end CCrowdAvoids
theorem CrowdAvoids : patchbaykeep3_CrowdAvoids.Pure := CCrowdAvoids.pure_holds
end Go.Proofs.Ytopjfkcoknenfaa.Pure
