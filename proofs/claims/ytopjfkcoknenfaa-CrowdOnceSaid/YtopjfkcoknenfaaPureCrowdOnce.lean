/- CrowdOnce: three duplicates halve the threshold once; further duplicates and partial acknowledgements do not, and the end of fast recovery sets the window to the threshold. No condition: every input. -/
import Derived.Test.YtopjfkcoknenfaaPCrowdOncex4
namespace Go.Proofs.Ytopjfkcoknenfaa.Pure
open Go.RowKit Go.Proofs.Ytopjfkcoknenfaa.PCrowdOnce Go.Proofs.YtopjfkcoknenfaaW.PrintWords Go.Proofs.YtopjfkcoknenfaaW.PrintLast Go.Proofs.YtopjfkcoknenfaaW.PrintMore
namespace CCrowdOnce
theorem w64 {x : Int} (h1 : -9223372036854775808 ≤ x) (h2 : x ≤ 9223372036854775807) : wrap64 x = x := by unfold wrap64; omega
theorem mn_eq (a b : Int) : mn a b = if b < a then b else a := rfl
theorem mx_eq (a b : Int) : mx a b = if a < b then b else a := rfl
theorem rest_some (a m : Int) (hm : 0 < m) (hm2 : m ≤ 100000) : ∃ r, patchbaykeep3_rest.f a m = some r ∧ 0 ≤ r ∧ r < m := by
  unfold patchbaykeep3_rest.f
  rw [if_neg (by omega)]
  have h1 := Int.tmod_lt_of_pos a hm
  have h2 : -m < Int.tmod a m := by
    have := Int.tmod_lt_of_pos (-a) hm
    rw [Int.neg_tmod] at this
    omega
  by_cases h : Int.tmod a m < 0
  · rw [if_pos h]
    exact ⟨_, rfl, by rw [w64 (by omega) (by omega)]; omega, by rw [w64 (by omega) (by omega)]; omega⟩
  · rw [if_neg h]
    exact ⟨_, rfl, by omega, by omega⟩
theorem in_some (a b c : Int) : crowd_in.f a b c = some (decide (b ≤ a ∧ a ≤ c)) := by
  unfold crowd_in.f
  by_cases h : a ≥ b
  · rw [if_pos h]; congr 1; by_cases h2 : a ≤ c <;> simp [h2]; exact h
  · rw [if_neg h]; congr 1; symm; rw [decide_eq_false_iff_not]; omega
def Ok (W L C D mss : Int) : Prop := 1 ≤ mss ∧ mss ≤ 1500 ∧ mss ≤ W ∧ W ≤ 65535 ∧ 2 * mss ≤ L ∧ L ≤ 65535 ∧ 0 ≤ C ∧ C ≤ 65535 ∧ 0 ≤ D ∧ D ≤ 3
theorem check_ok {W L C D mss : Int} (F : Bool) (R : Int) (h : Ok W L C D mss) : crowd_Check.f W L C D F R mss = some 0 := by
  obtain ⟨h1, h2, h3, h4, h5, h6, h7, h8, h9, h10⟩ := h
  unfold crowd_Check.f
  rw [w64 (x := 2 * mss) (by omega) (by omega)]
  simp only [in_some, Option.bind_some]
  simp [h1, h2, h3, h4, h5, h6, h7, h8, h9, h10]
theorem first_ok {mss : Int} (h1 : 1 ≤ mss) (h2 : mss ≤ 1500) : crowd_First.f mss = some (2 * mss, 65535, 0, 0, false, 0, 0) := by
  unfold crowd_First.f
  rw [in_some, w64 (x := 2 * mss) (by omega) (by omega)]
  simp [h1, h2]
theorem diff_add (u f : Int) (h0 : 0 ≤ f) (h1 : f < 2147483648) : seq_Diff.f ((u + f) % 4294967296) (u % 4294967296) = some f := by
  unfold seq_Diff.f
  have : ((u + f) % 4294967296 - u % 4294967296) % 4294967296 = f := by omega
  rw [this]
  have : wrap32 f = f := by unfold wrap32; omega
  rw [this, w64 (by omega) (by omega)]
theorem less_add (u f : Int) (h0 : 0 ≤ f) (h1 : f < 2147483648) : seq_Less.f ((u + f) % 4294967296) (u % 4294967296) = some false := by
  unfold seq_Less.f
  rw [diff_add u f h0 h1]
  simp; omega
theorem less_sub (u f : Int) (h0 : 0 < f) (h1 : f < 2147483648) : seq_Less.f (u % 4294967296) ((u + f) % 4294967296) = some true := by
  unfold seq_Less.f seq_Diff.f
  have : wrap32 ((u % 4294967296 - (u + f) % 4294967296) % 4294967296) = -f := by unfold wrap32; omega
  rw [this, w64 (by omega) (by omega)]
  simp; omega
theorem cut_ok (mss f : Int) (h1 : 1 ≤ mss) (h2 : mss ≤ 1500) (h3 : 0 ≤ f) (h4 : f < 2147483648) : crowd_cut.f mss f = some (mn (mx (f / 2) (2 * mss)) 65535) := by
  unfold crowd_cut.f
  rw [Int.tdiv_eq_ediv_of_nonneg h3, w64 (x := f / 2) (by omega) (by omega), w64 (x := 2 * mss) (by omega) (by omega)]
/-- Is una before R? (only looked at where fast recovery runs) -/
def before (una R : Int) : Bool := decide (wrap64 (wrap32 ((una - R) % 4294967296)) < 0)
/-- What Ack comes to, in a valid state. -/
def ackR (W L C D : Int) (F : Bool) (R mss acked flight una next : Int) : Int × Int × Int × Int × Bool × Int × Bool × Int :=
  if acked = 0 then
    if F = true then (mn (W + mss) 65535, L, C, D, true, R, false, 0)
    else if D + 1 ≥ 3 then (mn (mn (mx (flight / 2) (2 * mss)) 65535 + 3 * mss) 65535, mn (mx (flight / 2) (2 * mss)) 65535, 0, 0, true, next, true, 0)
    else (W, L, C, D + 1, false, R, false, 0)
  else if F = true then
    if before una R = true then (mn (mx (W - acked) 0 + mss) 65535, L, C, D, true, R, true, 0)
    else (L, L, 0, 0, false, R, false, 0)
  else if W < L then (mn (W + mn acked mss) 65535, L, C, 0, false, R, false, 0)
  else if C + mn acked W ≥ W then (mn (W + mss) 65535, L, mn (C + mn acked W - W) 65535, 0, false, R, false, 0)
  else (W, L, mn (C + mn acked W) 65535, 0, false, R, false, 0)
theorem ack_ok {W L C D mss : Int} (h : Ok W L C D mss) (F : Bool) (R acked u f : Int) (ha : 0 ≤ acked) (ha2 : acked ≤ 2147483648) (h0 : 0 ≤ f) (h1 : f < 2147483648) (k : Nat) :
    crowd_Ack.f (k + 3) W L C D F R mss acked (u % 4294967296) ((u + f) % 4294967296) = some (ackR W L C D F R mss acked f (u % 4294967296) ((u + f) % 4294967296)) := by
  unfold crowd_Ack.f
  rw [check_ok F R h, Option.bind_some, if_pos rfl, if_neg (by omega), if_neg (by omega), less_add u f h0 h1, Option.bind_some]
  obtain ⟨m1, m2, h3, h4, h5, h6, h7, h8, h9, h10⟩ := h
  unfold ackR
  have e1 : wrap64 (W + mss) = W + mss := w64 (by omega) (by omega)
  have e2 : wrap64 (D + 1) = D + 1 := w64 (by omega) (by omega)
  have e3 : wrap64 (3 * mss) = 3 * mss := w64 (by omega) (by omega)
  have e4 : wrap64 (W - acked) = W - acked := w64 (by omega) (by omega)
  have b1 : 0 ≤ mn (mx (f / 2) (2 * mss)) 65535 ∧ mn (mx (f / 2) (2 * mss)) 65535 ≤ 65535 := by
    rw [mn_eq, mx_eq]; split <;> (try split) <;> omega
  have e5 : wrap64 (mn (mx (f / 2) (2 * mss)) 65535 + 3 * mss) = mn (mx (f / 2) (2 * mss)) 65535 + 3 * mss := w64 (by omega) (by omega)
  have b2 : 0 ≤ mx (W - acked) 0 ∧ mx (W - acked) 0 ≤ 65535 := by rw [mx_eq]; split <;> omega
  have e6 : wrap64 (mx (W - acked) 0 + mss) = mx (W - acked) 0 + mss := w64 (by omega) (by omega)
  have b3 : 0 ≤ mn acked mss ∧ mn acked mss ≤ 1500 := by rw [mn_eq]; split <;> omega
  have e7 : wrap64 (W + mn acked mss) = W + mn acked mss := w64 (by omega) (by omega)
  have b4 : 0 ≤ mn acked W ∧ mn acked W ≤ 65535 := by rw [mn_eq]; split <;> omega
  have e8 : wrap64 (C + mn acked W) = C + mn acked W := w64 (by omega) (by omega)
  have e9 : wrap64 (C + mn acked W - W) = C + mn acked W - W := w64 (by omega) (by omega)
  by_cases ha0 : acked = 0
  · subst ha0
    cases F
    · simp only [crowd_Ack.j0, crowd_Ack.j1, if_true, e2]
      by_cases hd : D + 1 ≥ 3
      · simp [hd, diff_add u f h0 h1, cut_ok mss f m1 m2 h0 h1, e3, e5]
      · simp [hd]
    · simp [crowd_Ack.j0, crowd_Ack.j1, e1]
  · cases F
    · simp only [crowd_Ack.j0, crowd_Ack.j1, crowd_Ack.j2, if_neg ha0, e7, e8, e9, e1]
      by_cases hw : W < L
      · simp [hw]
      · by_cases hc : C + mn acked W ≥ W
        · simp [hw, hc]
        · simp [hw, hc]
    · have hl : seq_Less.f (u % 4294967296) R = some (before (u % 4294967296) R) := rfl
      by_cases hb : before (u % 4294967296) R = true
      · simp [crowd_Ack.j0, crowd_Ack.j1, crowd_Ack.j2, ha0, hl, hb, e4, e6]
      · simp [crowd_Ack.j0, crowd_Ack.j1, crowd_Ack.j2, ha0, hl, hb]
theorem fact_ok (k : Nat) : patchbaykeep3_crowdFact.f (k + 3) = some true := by
  unfold patchbaykeep3_crowdFact.f
  rw [first_ok (by omega) (by omega), Option.bind_some]
  have := ack_ok (W := 200) (L := 65535) (C := 0) (D := 0) (mss := 100) ⟨by omega, by omega, by omega, by omega, by omega, by omega, by omega, by omega, by omega, by omega⟩ false 0 100 200 100 (by omega) (by omega) (by omega) (by omega) k
  simp only [show ((200 : Int) % 4294967296) = 200 from rfl, show (((200 : Int) + 100) % 4294967296) = 300 from rfl] at this
  simp only [show (2 * 100 : Int) = 200 from rfl, this]
  rfl

theorem before_lt {u R : Int} (h0 : u < R) (h1 : 0 ≤ u) (h2 : R < 2147483648) : before (u % 4294967296) (R % 4294967296) = true := by
  unfold before
  have : wrap32 ((u % 4294967296 - R % 4294967296) % 4294967296) = u - R := by unfold wrap32; omega
  rw [this, w64 (by omega) (by omega)]
  simp; omega
theorem before_self (R : Int) : before R R = false := by
  unfold before
  simp [wrap32, wrap64]
theorem lim_eq {mss W : Int} (h1 : 1 ≤ mss) (h2 : mss ≤ 500) (h3 : 4 * mss ≤ W) (h4 : W ≤ 22000) :
    mn (mx (W / 2) (2 * mss)) 65535 = mx (W / 2) (2 * mss) ∧ 2 * mss ≤ mx (W / 2) (2 * mss) ∧ mx (W / 2) (2 * mss) ≤ 11000 := by
  rw [mn_eq, mx_eq]
  refine ⟨?_, ?_, ?_⟩ <;> (try split) <;> (try split) <;> omega
/-- The last acknowledgement ends fast recovery. -/
theorem last (k : Nat) {mss W lim Wc una : Int} (h1 : 1 ≤ mss) (h2 : mss ≤ 500) (h4 : W ≤ 22000) (hl : 2 * mss ≤ lim) (hl2 : lim ≤ 11000) (hc : mss ≤ Wc) (hc2 : Wc ≤ 65535) (hu : 0 ≤ una) (hu2 : una < W) :
    crowd_Ack.f (k + 3) Wc lim 0 0 true (W % 4294967296) mss (wrap64 (W - una)) (W % 4294967296) (W % 4294967296) = some (lim, lim, 0, 0, false, W % 4294967296, false, 0) := by
  rw [w64 (x := W - una) (by omega) (by omega)]
  have := ack_ok (W := Wc) (L := lim) (C := 0) (D := 0) (mss := mss) ⟨h1, by omega, by omega, by omega, by omega, by omega, by omega, by omega, by omega, by omega⟩ true (W % 4294967296) (W - una) W 0 (by omega) (by omega) (by omega) (by omega) k
  rw [Int.add_zero] at this
  rw [this]
  unfold ackR
  rw [if_neg (by omega), if_pos rfl, before_self, if_neg (by simp)]
theorem loop2 (mss W lim : Int) (l : List Int) (h1 : 1 ≤ mss) (h2 : mss ≤ 500) (h4 : W ≤ 22000) (hl : 2 * mss ≤ lim) (hl2 : lim ≤ 11000) :
    ∀ (d K : Nat) (i una Wc : Int), i + d = 10 → 0 ≤ i → 0 ≤ una → una < W → mss ≤ Wc → Wc ≤ 65535 → 2 * d + 8 ≤ K →
    patchbaykeep3_CrowdOnce.l2 K mss W l lim una i Wc lim 0 0 true (W % 4294967296) = some true := by
  intro d
  induction d with
  | zero =>
    intro K i una Wc hi _ hu hu2 hc hc2 hK
    obtain ⟨k, rfl⟩ : ∃ k, K = k + 3 + 2 := ⟨K - 5, by omega⟩
    rw [patchbaykeep3_CrowdOnce.l2]
    simp only [patchbaykeep3_CrowdOnce.j4]
    rw [show decide (i < 10) = false from by simp; omega]
    simp only [Bool.false_eq_true, if_false]
    rw [last k h1 h2 h4 hl hl2 hc hc2 hu hu2]
    simp
  | succ d ih =>
    intro K i una Wc hi hi0 hu hu2 hc hc2 hK
    obtain ⟨k, rfl⟩ : ∃ k, K = k + 3 + 2 := ⟨K - 5, by omega⟩
    rw [patchbaykeep3_CrowdOnce.l2]
    simp only [patchbaykeep3_CrowdOnce.j4]
    by_cases hlen : i < (l.length : Int)
    · rw [if_pos hlen, if_pos (show decide (i < 10) = true by simp; omega), if_pos hi0, if_pos hlen]
      obtain ⟨r, hr, r0, r1⟩ := rest_some (rd l i) 100 (by omega) (by omega)
      rw [hr, Option.bind_some, w64 (x := 1 + r) (by omega) (by omega), w64 (x := una + (1 + r)) (by omega) (by omega), w64 (x := i + 1) (by omega) (by omega)]
      by_cases hb : una + (1 + r) ≥ W
      · rw [if_pos hb, last k h1 h2 h4 hl hl2 hc hc2 hu hu2]
        simp
      · rw [if_neg hb]
        have := ack_ok (W := Wc) (L := lim) (C := 0) (D := 0) (mss := mss) ⟨h1, by omega, by omega, by omega, by omega, by omega, by omega, by omega, by omega, by omega⟩ true (W % 4294967296) (1 + r) (una + (1 + r)) (W - (una + (1 + r))) (by omega) (by omega) (by omega) (by omega) k
        rw [show una + (1 + r) + (W - (una + (1 + r))) = W from by omega] at this
        rw [this]
        unfold ackR
        rw [if_neg (by omega), if_pos rfl, before_lt (by omega) (by omega) (by omega), if_pos rfl, Option.bind_some]
        simp only [if_true]
        have b : mss ≤ mn (mx (Wc - (1 + r)) 0 + mss) 65535 ∧ mn (mx (Wc - (1 + r)) 0 + mss) 65535 ≤ 65535 := by
          rw [mn_eq, mx_eq]; constructor <;> (split) <;> (try split) <;> omega
        exact ih (k + 3) (i + 1) (una + (1 + r)) _ (by omega) (by omega) (by omega) (by omega) b.1 b.2 (by omega)
    · rw [if_neg hlen]
      simp only [Bool.false_eq_true, if_false]
      rw [last k h1 h2 h4 hl hl2 hc hc2 hu hu2]
      simp
theorem loop1 (mss W lim n r : Int) (l : List Int) (h1 : 1 ≤ mss) (h2 : mss ≤ 500) (h3 : 4 * mss ≤ W) (h4 : W ≤ 22000) (hl : 2 * mss ≤ lim) (hl2 : lim ≤ 11000) (hr : patchbaykeep3_rest.f n 10 = some r) (hr10 : r ≤ 10) :
    ∀ (d K : Nat) (i Wc : Int), i + d = r → 0 ≤ i → i ≤ 10 → mss ≤ Wc → Wc ≤ 65535 → d + 40 ≤ K →
    patchbaykeep3_CrowdOnce.l1 K mss W n l lim i Wc lim 0 0 true (W % 4294967296) = some true := by
  intro d
  induction d with
  | zero =>
    intro K i Wc hi _ _ hc hc2 hK
    obtain ⟨k, rfl⟩ : ∃ k, K = k + 1 := ⟨K - 1, by omega⟩
    rw [patchbaykeep3_CrowdOnce.l1]
    rw [hr, Option.bind_some, if_neg (by omega)]
    exact loop2 mss W lim l h1 h2 h4 hl hl2 10 k 0 0 Wc (by omega) (by omega) (by omega) (by omega) hc hc2 (by omega)
  | succ d ih =>
    intro K i Wc hi hi0 hi10 hc hc2 hK
    obtain ⟨k, rfl⟩ : ∃ k, K = k + 3 + 1 := ⟨K - 4, by omega⟩
    rw [patchbaykeep3_CrowdOnce.l1]
    rw [hr, Option.bind_some, if_pos (by omega), w64 (x := i + 1) (by omega) (by omega)]
    have := ack_ok (W := Wc) (L := lim) (C := 0) (D := 0) (mss := mss) ⟨h1, by omega, by omega, by omega, by omega, by omega, by omega, by omega, by omega, by omega⟩ true (W % 4294967296) 0 0 W (by omega) (by omega) (by omega) (by omega) k
    rw [Int.zero_add, show (0 : Int) % 4294967296 = 0 from rfl] at this
    rw [this]
    unfold ackR
    rw [if_pos rfl, if_pos rfl, Option.bind_some]
    simp only [if_true, Bool.false_eq_true, if_false]
    have b : mss ≤ mn (Wc + mss) 65535 ∧ mn (Wc + mss) 65535 ≤ 65535 := by
      rw [mn_eq]; constructor <;> split <;> omega
    exact ih (k + 3) (i + 1) _ (by omega) (by omega) (by omega) b.1 b.2 (by omega)
theorem pure_at (a0 a1 a2 : Int) (l3 : List Int) (q' : Nat) (hq' : 60 ≤ q') : patchbaykeep3_CrowdOnce.f (q' + 6) a0 a1 a2 l3 = some true := by
  unfold patchbaykeep3_CrowdOnce.f
  obtain ⟨m, hm, m0, m1⟩ := rest_some a0 500 (by omega) (by omega)
  obtain ⟨r, hr, r0, r1⟩ := rest_some a1 20000 (by omega) (by omega)
  obtain ⟨q, hq, q0, q1⟩ := rest_some a2 10 (by omega) (by omega)
  rw [fact_ok (q' + 3), Option.bind_some, if_pos rfl, hm, Option.bind_some, hr, Option.bind_some, w64 (x := 1 + m) (by omega) (by omega), w64 (x := 2 * (1 + m)) (by omega) (by omega), w64 (x := 4 * (1 + m)) (by omega) (by omega), w64 (x := 4 * (1 + m) + r) (by omega) (by omega)]
  obtain ⟨mss, hmss, s1, s2⟩ : ∃ x, 1 + m = x ∧ 1 ≤ x ∧ x ≤ 500 := ⟨_, rfl, by omega, by omega⟩
  rw [hmss]
  obtain ⟨W, hW, w1, w2⟩ : ∃ W, 4 * mss + r = W ∧ 4 * mss ≤ W ∧ W ≤ 22000 := ⟨_, rfl, by omega, by omega⟩
  rw [hW]
  have dup := fun (D : Int) (hd : 0 ≤ D) (hd2 : D ≤ 3) (k : Nat) => ack_ok (W := W) (L := 2 * mss) (C := 0) (D := D) (mss := mss) ⟨s1, by omega, by omega, by omega, by omega, by omega, by omega, by omega, by omega, by omega⟩ false 0 0 0 W (by omega) (by omega) (by omega) (by omega) k
  simp only [Int.zero_add, show (0 : Int) % 4294967296 = 0 from rfl] at dup
  obtain ⟨L1, L2, L3⟩ := lim_eq s1 s2 w1 w2
  have d0 : crowd_Ack.f (q' + 5) W (2 * mss) 0 0 false 0 mss 0 0 (W % 4294967296) = some (W, 2 * mss, 0, 1, false, 0, false, 0) := dup 0 (by omega) (by omega) (q' + 2)
  have d1 : crowd_Ack.f (q' + 4) W (2 * mss) 0 1 false 0 mss 0 0 (W % 4294967296) = some (W, 2 * mss, 0, 2, false, 0, false, 0) := dup 1 (by omega) (by omega) (q' + 1)
  have d2 : crowd_Ack.f (q' + 3) W (2 * mss) 0 2 false 0 mss 0 0 (W % 4294967296) = some (mn (mn (mx (W / 2) (2 * mss)) 65535 + 3 * mss) 65535, mn (mx (W / 2) (2 * mss)) 65535, 0, 0, true, W % 4294967296, true, 0) := dup 2 (by omega) (by omega) q'
  rw [patchbaykeep3_CrowdOnce.l0, if_pos (by omega), d0, Option.bind_some, show wrap64 (0 + 1) = 1 from by simp [wrap64]]
  simp only [if_true, Bool.false_eq_true, if_false, show ((0 : Int) == 2) = false from rfl, show (false != false) = false from rfl]
  rw [patchbaykeep3_CrowdOnce.l0, if_pos (by omega), d1, Option.bind_some, show wrap64 (1 + 1) = 2 from by simp [wrap64]]
  simp only [if_true, Bool.false_eq_true, if_false, show ((1 : Int) == 2) = false from rfl, show (false != false) = false from rfl]
  rw [patchbaykeep3_CrowdOnce.l0, if_pos (by omega), d2, Option.bind_some, show wrap64 (2 + 1) = 3 from by simp [wrap64]]
  simp only [if_true, Bool.false_eq_true, if_false, show ((2 : Int) == 2) = true from rfl, show (true != true) = false from rfl]
  rw [patchbaykeep3_CrowdOnce.l0, if_neg (by omega), if_pos rfl]
  rw [L1, Int.tdiv_eq_ediv_of_nonneg (show 0 ≤ W by omega), w64 (x := W / 2) (by omega) (by omega), w64 (x := 2 * mss) (by omega) (by omega)]
  obtain ⟨lim, hlim⟩ : ∃ x, mx (W / 2) (2 * mss) = x := ⟨_, rfl⟩
  rw [hlim] at L2 L3 ⊢
  rw [if_pos rfl, show (W % 4294967296 != W % 4294967296) = false from by simp]
  rw [patchbaykeep3_CrowdOnce.j1]
  simp only [Bool.false_eq_true, if_false]
  have b : mss ≤ mn (lim + 3 * mss) 65535 ∧ mn (lim + 3 * mss) 65535 ≤ 65535 := by
    rw [mn_eq]; constructor <;> split <;> omega
  exact loop1 mss W lim a2 q l3 s1 s2 w1 w2 L2 L3 hq (by omega) q.toNat (q' + 1) 0 _ (by omega) (by omega) (by omega) b.1 b.2 (by omega)
theorem pure_holds : patchbaykeep3_CrowdOnce.Pure := fun a0 a1 a2 l3 _ _ _ _ _ _ => ⟨60 + 6, pure_at a0 a1 a2 l3 60 (by omega)⟩

end CCrowdOnce
theorem CrowdOnce : patchbaykeep3_CrowdOnce.Pure := CCrowdOnce.pure_holds
end Go.Proofs.Ytopjfkcoknenfaa.Pure
