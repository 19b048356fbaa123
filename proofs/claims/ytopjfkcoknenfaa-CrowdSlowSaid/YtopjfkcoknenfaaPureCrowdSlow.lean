/- CrowdSlow: in slow start the window doubles when a full window is acknowledged in full segments. No condition: every input. -/
import Derived.Test.YtopjfkcoknenfaaPCrowdSlowx3
namespace Go.Proofs.Ytopjfkcoknenfaa.Pure
open Go.RowKit Go.Proofs.Ytopjfkcoknenfaa.PCrowdSlow Go.Proofs.YtopjfkcoknenfaaW.PrintWords Go.Proofs.YtopjfkcoknenfaaW.PrintLast Go.Proofs.YtopjfkcoknenfaaW.PrintMore
namespace CCrowdSlow
theorem w64 {x : Int} (h1 : -9223372036854775808 ≤ x) (h2 : x ≤ 9223372036854775807) : wrap64 x = x := by unfold wrap64; omega
theorem mn_eq (a b : Int) : mn a b = if b < a then b else a := rfl
theorem mx_eq (a b : Int) : mx a b = if a < b then b else a := rfl
theorem rest_some (a m : Int) (hm : 0 < m) (hm2 : m ≤ 100000) : ∃ r, patchbaykeep3_rest.f a m = some r ∧ 0 ≤ r ∧ r < m := by
  unfold patchbaykeep3_rest.f
  rw [if_neg (by omega)]
  have h1 := Int.tmod_lt_of_pos a hm
  have h2 : -m < Int.tmod a m := by
    have := Int.tmod_lt_of_pos (-a) hm
    rw [Int.neg_tmod] at this
    omega
  by_cases h : Int.tmod a m < 0
  · rw [if_pos h]
    exact ⟨_, rfl, by rw [w64 (by omega) (by omega)]; omega, by rw [w64 (by omega) (by omega)]; omega⟩
  · rw [if_neg h]
    exact ⟨_, rfl, by omega, by omega⟩
theorem in_some (a b c : Int) : crowd_in.f a b c = some (decide (b ≤ a ∧ a ≤ c)) := by
  unfold crowd_in.f
  by_cases h : a ≥ b
  · rw [if_pos h]; congr 1; by_cases h2 : a ≤ c <;> simp [h2]; exact h
  · rw [if_neg h]; congr 1; symm; rw [decide_eq_false_iff_not]; omega
def Ok (W L C D mss : Int) : Prop := 1 ≤ mss ∧ mss ≤ 1500 ∧ mss ≤ W ∧ W ≤ 65535 ∧ 2 * mss ≤ L ∧ L ≤ 65535 ∧ 0 ≤ C ∧ C ≤ 65535 ∧ 0 ≤ D ∧ D ≤ 3
theorem check_ok {W L C D mss : Int} (F : Bool) (R : Int) (h : Ok W L C D mss) : crowd_Check.f W L C D F R mss = some 0 := by
  obtain ⟨h1, h2, h3, h4, h5, h6, h7, h8, h9, h10⟩ := h
  unfold crowd_Check.f
  rw [w64 (x := 2 * mss) (by omega) (by omega)]
  simp only [in_some, Option.bind_some]
  simp [h1, h2, h3, h4, h5, h6, h7, h8, h9, h10]
theorem first_ok {mss : Int} (h1 : 1 ≤ mss) (h2 : mss ≤ 1500) : crowd_First.f mss = some (2 * mss, 65535, 0, 0, false, 0, 0) := by
  unfold crowd_First.f
  rw [in_some, w64 (x := 2 * mss) (by omega) (by omega)]
  simp [h1, h2]
theorem diff_add (u f : Int) (h0 : 0 ≤ f) (h1 : f < 2147483648) : seq_Diff.f ((u + f) % 4294967296) (u % 4294967296) = some f := by
  unfold seq_Diff.f
  have : ((u + f) % 4294967296 - u % 4294967296) % 4294967296 = f := by omega
  rw [this]
  have : wrap32 f = f := by unfold wrap32; omega
  rw [this, w64 (by omega) (by omega)]
theorem less_add (u f : Int) (h0 : 0 ≤ f) (h1 : f < 2147483648) : seq_Less.f ((u + f) % 4294967296) (u % 4294967296) = some false := by
  unfold seq_Less.f
  rw [diff_add u f h0 h1]
  simp; omega
theorem less_sub (u f : Int) (h0 : 0 < f) (h1 : f < 2147483648) : seq_Less.f (u % 4294967296) ((u + f) % 4294967296) = some true := by
  unfold seq_Less.f seq_Diff.f
  have : wrap32 ((u % 4294967296 - (u + f) % 4294967296) % 4294967296) = -f := by unfold wrap32; omega
  rw [this, w64 (by omega) (by omega)]
  simp; omega
theorem cut_ok (mss f : Int) (h1 : 1 ≤ mss) (h2 : mss ≤ 1500) (h3 : 0 ≤ f) (h4 : f < 2147483648) : crowd_cut.f mss f = some (mn (mx (f / 2) (2 * mss)) 65535) := by
  unfold crowd_cut.f
  rw [Int.tdiv_eq_ediv_of_nonneg h3, w64 (x := f / 2) (by omega) (by omega), w64 (x := 2 * mss) (by omega) (by omega)]
/-- Is una before R? (only looked at where fast recovery runs) -/
def before (una R : Int) : Bool := decide (wrap64 (wrap32 ((una - R) % 4294967296)) < 0)
/-- What Ack comes to, in a valid state. -/
def ackR (W L C D : Int) (F : Bool) (R mss acked flight una next : Int) : Int × Int × Int × Int × Bool × Int × Bool × Int :=
  if acked = 0 then
    if F = true then (mn (W + mss) 65535, L, C, D, true, R, false, 0)
    else if D + 1 ≥ 3 then (mn (mn (mx (flight / 2) (2 * mss)) 65535 + 3 * mss) 65535, mn (mx (flight / 2) (2 * mss)) 65535, 0, 0, true, next, true, 0)
    else (W, L, C, D + 1, false, R, false, 0)
  else if F = true then
    if before una R = true then (mn (mx (W - acked) 0 + mss) 65535, L, C, D, true, R, true, 0)
    else (L, L, 0, 0, false, R, false, 0)
  else if W < L then (mn (W + mn acked mss) 65535, L, C, 0, false, R, false, 0)
  else if C + mn acked W ≥ W then (mn (W + mss) 65535, L, mn (C + mn acked W - W) 65535, 0, false, R, false, 0)
  else (W, L, mn (C + mn acked W) 65535, 0, false, R, false, 0)
theorem ack_ok {W L C D mss : Int} (h : Ok W L C D mss) (F : Bool) (R acked u f : Int) (ha : 0 ≤ acked) (ha2 : acked ≤ 2147483648) (h0 : 0 ≤ f) (h1 : f < 2147483648) (k : Nat) :
    crowd_Ack.f (k + 3) W L C D F R mss acked (u % 4294967296) ((u + f) % 4294967296) = some (ackR W L C D F R mss acked f (u % 4294967296) ((u + f) % 4294967296)) := by
  unfold crowd_Ack.f
  rw [check_ok F R h, Option.bind_some, if_pos rfl, if_neg (by omega), if_neg (by omega), less_add u f h0 h1, Option.bind_some]
  obtain ⟨m1, m2, h3, h4, h5, h6, h7, h8, h9, h10⟩ := h
  unfold ackR
  have e1 : wrap64 (W + mss) = W + mss := w64 (by omega) (by omega)
  have e2 : wrap64 (D + 1) = D + 1 := w64 (by omega) (by omega)
  have e3 : wrap64 (3 * mss) = 3 * mss := w64 (by omega) (by omega)
  have e4 : wrap64 (W - acked) = W - acked := w64 (by omega) (by omega)
  have b1 : 0 ≤ mn (mx (f / 2) (2 * mss)) 65535 ∧ mn (mx (f / 2) (2 * mss)) 65535 ≤ 65535 := by
    rw [mn_eq, mx_eq]; split <;> (try split) <;> omega
  have e5 : wrap64 (mn (mx (f / 2) (2 * mss)) 65535 + 3 * mss) = mn (mx (f / 2) (2 * mss)) 65535 + 3 * mss := w64 (by omega) (by omega)
  have b2 : 0 ≤ mx (W - acked) 0 ∧ mx (W - acked) 0 ≤ 65535 := by rw [mx_eq]; split <;> omega
  have e6 : wrap64 (mx (W - acked) 0 + mss) = mx (W - acked) 0 + mss := w64 (by omega) (by omega)
  have b3 : 0 ≤ mn acked mss ∧ mn acked mss ≤ 1500 := by rw [mn_eq]; split <;> omega
  have e7 : wrap64 (W + mn acked mss) = W + mn acked mss := w64 (by omega) (by omega)
  have b4 : 0 ≤ mn acked W ∧ mn acked W ≤ 65535 := by rw [mn_eq]; split <;> omega
  have e8 : wrap64 (C + mn acked W) = C + mn acked W := w64 (by omega) (by omega)
  have e9 : wrap64 (C + mn acked W - W) = C + mn acked W - W := w64 (by omega) (by omega)
  by_cases ha0 : acked = 0
  · subst ha0
    cases F
    · simp only [crowd_Ack.j0, crowd_Ack.j1, if_true, e2]
      by_cases hd : D + 1 ≥ 3
      · simp [hd, diff_add u f h0 h1, cut_ok mss f m1 m2 h0 h1, e3, e5]
      · simp [hd]
    · simp [crowd_Ack.j0, crowd_Ack.j1, e1]
  · cases F
    · simp only [crowd_Ack.j0, crowd_Ack.j1, crowd_Ack.j2, if_neg ha0, e7, e8, e9, e1]
      by_cases hw : W < L
      · simp [hw]
      · by_cases hc : C + mn acked W ≥ W
        · simp [hw, hc]
        · simp [hw, hc]
    · have hl : seq_Less.f (u % 4294967296) R = some (before (u % 4294967296) R) := rfl
      by_cases hb : before (u % 4294967296) R = true
      · simp [crowd_Ack.j0, crowd_Ack.j1, crowd_Ack.j2, ha0, hl, hb, e4, e6]
      · simp [crowd_Ack.j0, crowd_Ack.j1, crowd_Ack.j2, ha0, hl, hb]
theorem fact_ok (k : Nat) : patchbaykeep3_crowdFact.f (k + 3) = some true := by
  unfold patchbaykeep3_crowdFact.f
  rw [first_ok (by omega) (by omega), Option.bind_some]
  have := ack_ok (W := 200) (L := 65535) (C := 0) (D := 0) (mss := 100) ⟨by omega, by omega, by omega, by omega, by omega, by omega, by omega, by omega, by omega, by omega⟩ false 0 100 200 100 (by omega) (by omega) (by omega) (by omega) k
  simp only [show ((200 : Int) % 4294967296) = 200 from rfl, show (((200 : Int) + 100) % 4294967296) = 300 from rfl] at this
  simp only [show (2 * 100 : Int) = 200 from rfl, this]
  rfl

/-- One acknowledgement in slow start. -/
theorem step {W mss : Int} (k : Nat) (h1 : 1 ≤ mss) (h2 : mss ≤ 200) (h3 : 2 * mss ≤ W) (h4 : W ≤ 30000) (u f : Int) (h0 : 0 ≤ f) (h5 : f < 2147483648) :
    crowd_Ack.f (k + 3) W 65535 0 0 false 0 mss mss (u % 4294967296) ((u + f) % 4294967296) = some (W + mss, 65535, 0, 0, false, 0, false, 0) := by
  rw [ack_ok ⟨h1, by omega, by omega, by omega, by omega, by omega, by omega, by omega, by omega, by omega⟩ false 0 mss u f (by omega) (by omega) h0 h5 k]
  unfold ackR
  rw [if_neg (by omega), if_neg (by simp), if_pos (by omega)]
  have : mn mss mss = mss := by rw [mn_eq]; split <;> rfl
  rw [this, mn_eq, if_neg (by omega)]
/-- The inner loop: from the j-th acknowledgement on, with d to come. -/
theorem inner (mss n : Int) (h1 : 1 ≤ mss) (h2 : mss ≤ 200) (i : Int) (m : Int) (hm : 2 ≤ m) (hm2 : m ≤ 64) (hs : mss * m ≤ 12800) (hs2 : 2 * mss ≤ mss * m) :
    ∀ (d k : Nat) (una j : Int), 0 ≤ una → una ≤ 1000000 - d * 200 → 0 ≤ j → j + d = m → mss * j ≤ 12800 → 0 ≤ mss * j → mss * j + mss * d = mss * m →
    patchbaykeep3_CrowdSlow.l1 (k + d + 4) mss n 0 una i (mss * m) j (mss * m + mss * j) 65535 0 0 false 0 =
      patchbaykeep3_CrowdSlow.l0 (k + 3) mss n 0 (una + mss * d) (wrap64 (i + 1)) (2 * (mss * m)) 65535 0 0 false 0 := by
  have ht : wrap64 (Int.tdiv (mss * m) mss) = m := by
    rw [Int.mul_comm, Int.mul_tdiv_cancel _ (by omega)]; exact w64 (by omega) (by omega)
  intro d
  induction d with
  | zero =>
    intro k una j hu hu2 hj hd _ _ he
    have hj2 : j = m := by omega
    subst hj2
    rw [Nat.add_zero]
    rw [patchbaykeep3_CrowdSlow.l1]
    rw [if_neg (by omega), ht, if_neg (by omega), if_pos rfl, w64 (x := 2 * (mss * j)) (by omega) (by omega), if_pos (by omega)]
    rw [show mss * j + mss * j = 2 * (mss * j) from by omega, show una + mss * ((0 : Nat) : Int) = una from by simp]
  | succ d ih =>
    intro k una j hu hu2 hj hd hjs hj0 he
    have hmul : mss * (j + 1) = mss * j + mss := by rw [Int.mul_add, Int.mul_one]
    have hmd : mss * ((d + 1 : Nat) : Int) = mss * d + mss := by rw [Int.natCast_add, Int.mul_add]; simp
    have hmd0 : 0 ≤ mss * (d : Int) := Int.mul_nonneg (by omega) (by omega)
    have g3 := ih k (una + mss) (j + 1) (by omega) (by omega) (by omega) (by omega) (by omega) (by omega) (by omega)
    rw [show k + (d + 1) + 4 = (k + d + 4) + 1 from by omega]
    rw [patchbaykeep3_CrowdSlow.l1]
    rw [if_neg (by omega), ht, if_pos (by omega), if_pos rfl]
    rw [w64 (x := una + mss) (by omega) (by omega), w64 (x := una + mss + mss * m) (by omega) (by omega)]
    rw [show k + d + 4 = (k + d + 1) + 3 from by omega, step (W := mss * m + mss * j) (k + d + 1) h1 h2 (by omega) (by omega) (una + mss) (mss * m) (by omega) (by omega), Option.bind_some]
    simp only
    rw [w64 (x := j + 1) (by omega) (by omega)]
    rw [show k + d + 1 + 3 = k + d + 4 from by omega, show mss * m + mss * j + mss = mss * m + mss * (j + 1) from by omega, g3, hmd]
    rw [show una + mss + mss * (d : Int) = una + (mss * d + mss) from by omega]
/-- The outer loop: d rounds to come, the window is mss * m. -/
theorem outer (mss n r : Int) (h1 : 1 ≤ mss) (h2 : mss ≤ 200) (hr : patchbaykeep3_rest.f n 6 = some r) (hr5 : r ≤ 5) :
    ∀ (d : Nat) (i una m : Int) (K : Nat), 0 ≤ una → una ≤ 500000 - d * 30000 → i + d = r → 0 ≤ i → i ≤ 10 → d ≤ 5 → 2 ≤ m → m * 2 ^ d ≤ 64 → 100 * d + 1 ≤ K →
    patchbaykeep3_CrowdSlow.l0 K mss n 0 una i (mss * m) 65535 0 0 false 0 = some true := by
  intro d
  induction d with
  | zero =>
    intro i una m K _ _ hi _ _ _ _ _ hK
    obtain ⟨K, rfl⟩ : ∃ k, K = k + 1 := ⟨K - 1, by omega⟩
    rw [patchbaykeep3_CrowdSlow.l0]
    rw [hr, Option.bind_some, if_neg (by omega)]
  | succ d ih =>
    intro i una m K hu hu2 hi hi0 hi10 hd hm hm2 hK
    have hp : (1 : Int) ≤ 2 ^ d := Int.pow_pos (by omega)
    have hpm : m * 2 ^ (d + 1) = 2 * (m * 2 ^ d) := by
      rw [Int.pow_succ, ← Int.mul_assoc, Int.mul_comm]
    have hmm : m ≤ m * 2 ^ d := by
      have := Int.mul_le_mul_of_nonneg_left hp (show 0 ≤ m by omega)
      rwa [Int.mul_one] at this
    have hm32 : m ≤ 32 := by omega
    have hs : mss * m ≤ 200 * 32 := Int.mul_le_mul h2 hm32 (by omega) (by omega)
    have hs2 : mss * 2 ≤ mss * m := Int.mul_le_mul_of_nonneg_left hm (by omega)
    obtain ⟨j, rfl⟩ : ∃ j : Nat, m = j := ⟨m.toNat, by omega⟩
    obtain ⟨k, rfl⟩ : ∃ k, K = (k + j + 4) + 1 := ⟨K - j - 5, by omega⟩
    have inn := inner mss n h1 h2 i j hm (by omega) (by omega) (by omega) j k una 0 hu (by omega) (by omega) (by omega) (by omega) (by omega) (by omega)
    rw [patchbaykeep3_CrowdSlow.l0]
    rw [hr, Option.bind_some, if_pos (by omega)]
    rw [show mss * (j : Int) + mss * 0 = mss * j from by omega] at inn
    rw [inn, w64 (x := i + 1) (by omega) (by omega), show 2 * (mss * (j : Int)) = mss * (2 * j) from by rw [← Int.mul_assoc, Int.mul_comm 2 mss, Int.mul_assoc]]
    exact ih (i + 1) (una + mss * j) (2 * j) (k + 3) (by omega) (by omega) (by omega) (by omega) (by omega) (by omega) (by omega) (by rw [Int.mul_assoc, ← hpm]; exact hm2) (by omega)
theorem pure_holds : patchbaykeep3_CrowdSlow.Pure := by
  intro a0 a1 _ _
  refine ⟨1000, ?_⟩
  unfold patchbaykeep3_CrowdSlow.f
  obtain ⟨m, hm, m0, m1⟩ := rest_some a0 200 (by omega) (by omega)
  obtain ⟨r, hr, r0, r1⟩ := rest_some a1 6 (by omega) (by omega)
  rw [fact_ok 997, Option.bind_some, if_pos rfl, hm, Option.bind_some, w64 (x := 1 + m) (by omega) (by omega), first_ok (by omega) (by omega), Option.bind_some]
  simp only
  rw [Int.mul_comm 2]
  have hp : (2 : Int) ^ r.toNat ≤ 2 ^ 5 := by
    have : r.toNat ≤ 5 := by omega
    exact_mod_cast Nat.pow_le_pow_right (by omega) this
  exact outer (1 + m) a1 r (by omega) (by omega) hr (by omega) r.toNat 0 0 2 1000 (by omega) (by omega) (by omega) (by omega) (by omega) (by omega) (by omega) (by omega) (by omega)

end CCrowdSlow
theorem CrowdSlow : patchbaykeep3_CrowdSlow.Pure := CCrowdSlow.pure_holds
end Go.Proofs.Ytopjfkcoknenfaa.Pure
