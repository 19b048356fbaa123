/- CrowdRestarts: after a timeout the window is mss, and slow start leads at most to the threshold plus mss before avoidance begins. No condition: every input. -/
import Derived.Test.YtopjfkcoknenfaaPCrowdRestartsx4
namespace Go.Proofs.Ytopjfkcoknenfaa.Pure
open Go.RowKit Go.Proofs.Ytopjfkcoknenfaa.PCrowdRestarts Go.Proofs.YtopjfkcoknenfaaW.PrintWords Go.Proofs.YtopjfkcoknenfaaW.PrintLast Go.Proofs.YtopjfkcoknenfaaW.PrintMore
namespace CCrowdRestarts
theorem w64 {x : Int} (h1 : -9223372036854775808 ≤ x) (h2 : x ≤ 9223372036854775807) : wrap64 x = x := by unfold wrap64; omega
theorem mn_eq (a b : Int) : mn a b = if b < a then b else a := rfl
theorem mx_eq (a b : Int) : mx a b = if a < b then b else a := rfl
theorem rest_some (a m : Int) (hm : 0 < m) (hm2 : m ≤ 100000) : ∃ r, patchbaykeep3_rest.f a m = some r ∧ 0 ≤ r ∧ r < m := by
  unfold patchbaykeep3_rest.f
  rw [if_neg (by omega)]
  have h1 := Int.tmod_lt_of_pos a hm
  have h2 : -m < Int.tmod a m := by
    have := Int.tmod_lt_of_pos (-a) hm
    rw [Int.neg_tmod] at this
    omega
  by_cases h : Int.tmod a m < 0
  · rw [if_pos h]
    exact ⟨_, rfl, by rw [w64 (by omega) (by omega)]; omega, by rw [w64 (by omega) (by omega)]; omega⟩
  · rw [if_neg h]
    exact ⟨_, rfl, by omega, by omega⟩
theorem in_some (a b c : Int) : crowd_in.f a b c = some (decide (b ≤ a ∧ a ≤ c)) := by
  unfold crowd_in.f
  by_cases h : a ≥ b
  · rw [if_pos h]; congr 1; by_cases h2 : a ≤ c <;> simp [h2]; exact h
  · rw [if_neg h]; congr 1; symm; rw [decide_eq_false_iff_not]; omega
def Ok (W L C D mss : Int) : Prop := 1 ≤ mss ∧ mss ≤ 1500 ∧ mss ≤ W ∧ W ≤ 65535 ∧ 2 * mss ≤ L ∧ L ≤ 65535 ∧ 0 ≤ C ∧ C ≤ 65535 ∧ 0 ≤ D ∧ D ≤ 3
theorem check_ok {W L C D mss : Int} (F : Bool) (R : Int) (h : Ok W L C D mss) : crowd_Check.f W L C D F R mss = some 0 := by
  obtain ⟨h1, h2, h3, h4, h5, h6, h7, h8, h9, h10⟩ := h
  unfold crowd_Check.f
  rw [w64 (x := 2 * mss) (by omega) (by omega)]
  simp only [in_some, Option.bind_some]
  simp [h1, h2, h3, h4, h5, h6, h7, h8, h9, h10]
theorem first_ok {mss : Int} (h1 : 1 ≤ mss) (h2 : mss ≤ 1500) : crowd_First.f mss = some (2 * mss, 65535, 0, 0, false, 0, 0) := by
  unfold crowd_First.f
  rw [in_some, w64 (x := 2 * mss) (by omega) (by omega)]
  simp [h1, h2]
theorem diff_add (u f : Int) (h0 : 0 ≤ f) (h1 : f < 2147483648) : seq_Diff.f ((u + f) % 4294967296) (u % 4294967296) = some f := by
  unfold seq_Diff.f
  have : ((u + f) % 4294967296 - u % 4294967296) % 4294967296 = f := by omega
  rw [this]
  have : wrap32 f = f := by unfold wrap32; omega
  rw [this, w64 (by omega) (by omega)]
theorem less_add (u f : Int) (h0 : 0 ≤ f) (h1 : f < 2147483648) : seq_Less.f ((u + f) % 4294967296) (u % 4294967296) = some false := by
  unfold seq_Less.f
  rw [diff_add u f h0 h1]
  simp; omega
theorem less_sub (u f : Int) (h0 : 0 < f) (h1 : f < 2147483648) : seq_Less.f (u % 4294967296) ((u + f) % 4294967296) = some true := by
  unfold seq_Less.f seq_Diff.f
  have : wrap32 ((u % 4294967296 - (u + f) % 4294967296) % 4294967296) = -f := by unfold wrap32; omega
  rw [this, w64 (by omega) (by omega)]
  simp; omega
theorem cut_ok (mss f : Int) (h1 : 1 ≤ mss) (h2 : mss ≤ 1500) (h3 : 0 ≤ f) (h4 : f < 2147483648) : crowd_cut.f mss f = some (mn (mx (f / 2) (2 * mss)) 65535) := by
  unfold crowd_cut.f
  rw [Int.tdiv_eq_ediv_of_nonneg h3, w64 (x := f / 2) (by omega) (by omega), w64 (x := 2 * mss) (by omega) (by omega)]
/-- Is una before R? (only looked at where fast recovery runs) -/
def before (una R : Int) : Bool := decide (wrap64 (wrap32 ((una - R) % 4294967296)) < 0)
/-- What Ack comes to, in a valid state. -/
def ackR (W L C D : Int) (F : Bool) (R mss acked flight una next : Int) : Int × Int × Int × Int × Bool × Int × Bool × Int :=
  if acked = 0 then
    if F = true then (mn (W + mss) 65535, L, C, D, true, R, false, 0)
    else if D + 1 ≥ 3 then (mn (mn (mx (flight / 2) (2 * mss)) 65535 + 3 * mss) 65535, mn (mx (flight / 2) (2 * mss)) 65535, 0, 0, true, next, true, 0)
    else (W, L, C, D + 1, false, R, false, 0)
  else if F = true then
    if before una R = true then (mn (mx (W - acked) 0 + mss) 65535, L, C, D, true, R, true, 0)
    else (L, L, 0, 0, false, R, false, 0)
  else if W < L then (mn (W + mn acked mss) 65535, L, C, 0, false, R, false, 0)
  else if C + mn acked W ≥ W then (mn (W + mss) 65535, L, mn (C + mn acked W - W) 65535, 0, false, R, false, 0)
  else (W, L, mn (C + mn acked W) 65535, 0, false, R, false, 0)
theorem ack_ok {W L C D mss : Int} (h : Ok W L C D mss) (F : Bool) (R acked u f : Int) (ha : 0 ≤ acked) (ha2 : acked ≤ 2147483648) (h0 : 0 ≤ f) (h1 : f < 2147483648) (k : Nat) :
    crowd_Ack.f (k + 3) W L C D F R mss acked (u % 4294967296) ((u + f) % 4294967296) = some (ackR W L C D F R mss acked f (u % 4294967296) ((u + f) % 4294967296)) := by
  unfold crowd_Ack.f
  rw [check_ok F R h, Option.bind_some, if_pos rfl, if_neg (by omega), if_neg (by omega), less_add u f h0 h1, Option.bind_some]
  obtain ⟨m1, m2, h3, h4, h5, h6, h7, h8, h9, h10⟩ := h
  unfold ackR
  have e1 : wrap64 (W + mss) = W + mss := w64 (by omega) (by omega)
  have e2 : wrap64 (D + 1) = D + 1 := w64 (by omega) (by omega)
  have e3 : wrap64 (3 * mss) = 3 * mss := w64 (by omega) (by omega)
  have e4 : wrap64 (W - acked) = W - acked := w64 (by omega) (by omega)
  have b1 : 0 ≤ mn (mx (f / 2) (2 * mss)) 65535 ∧ mn (mx (f / 2) (2 * mss)) 65535 ≤ 65535 := by
    rw [mn_eq, mx_eq]; split <;> (try split) <;> omega
  have e5 : wrap64 (mn (mx (f / 2) (2 * mss)) 65535 + 3 * mss) = mn (mx (f / 2) (2 * mss)) 65535 + 3 * mss := w64 (by omega) (by omega)
  have b2 : 0 ≤ mx (W - acked) 0 ∧ mx (W - acked) 0 ≤ 65535 := by rw [mx_eq]; split <;> omega
  have e6 : wrap64 (mx (W - acked) 0 + mss) = mx (W - acked) 0 + mss := w64 (by omega) (by omega)
  have b3 : 0 ≤ mn acked mss ∧ mn acked mss ≤ 1500 := by rw [mn_eq]; split <;> omega
  have e7 : wrap64 (W + mn acked mss) = W + mn acked mss := w64 (by omega) (by omega)
  have b4 : 0 ≤ mn acked W ∧ mn acked W ≤ 65535 := by rw [mn_eq]; split <;> omega
  have e8 : wrap64 (C + mn acked W) = C + mn acked W := w64 (by omega) (by omega)
  have e9 : wrap64 (C + mn acked W - W) = C + mn acked W - W := w64 (by omega) (by omega)
  by_cases ha0 : acked = 0
  · subst ha0
    cases F
    · simp only [crowd_Ack.j0, crowd_Ack.j1, if_true, e2]
      by_cases hd : D + 1 ≥ 3
      · simp [hd, diff_add u f h0 h1, cut_ok mss f m1 m2 h0 h1, e3, e5]
      · simp [hd]
    · simp [crowd_Ack.j0, crowd_Ack.j1, e1]
  · cases F
    · simp only [crowd_Ack.j0, crowd_Ack.j1, crowd_Ack.j2, if_neg ha0, e7, e8, e9, e1]
      by_cases hw : W < L
      · simp [hw]
      · by_cases hc : C + mn acked W ≥ W
        · simp [hw, hc]
        · simp [hw, hc]
    · have hl : seq_Less.f (u % 4294967296) R = some (before (u % 4294967296) R) := rfl
      by_cases hb : before (u % 4294967296) R = true
      · simp [crowd_Ack.j0, crowd_Ack.j1, crowd_Ack.j2, ha0, hl, hb, e4, e6]
      · simp [crowd_Ack.j0, crowd_Ack.j1, crowd_Ack.j2, ha0, hl, hb]
theorem fact_ok (k : Nat) : patchbaykeep3_crowdFact.f (k + 3) = some true := by
  unfold patchbaykeep3_crowdFact.f
  rw [first_ok (by omega) (by omega), Option.bind_some]
  have := ack_ok (W := 200) (L := 65535) (C := 0) (D := 0) (mss := 100) ⟨by omega, by omega, by omega, by omega, by omega, by omega, by omega, by omega, by omega, by omega⟩ false 0 100 200 100 (by omega) (by omega) (by omega) (by omega) k
  simp only [show ((200 : Int) % 4294967296) = 200 from rfl, show (((200 : Int) + 100) % 4294967296) = 300 from rfl] at this
  simp only [show (2 * 100 : Int) = 200 from rfl, this]
  rfl

theorem ackR_ok {W L C D mss : Int} (h : Ok W L C D mss) (F : Bool) (R acked f una next : Int) (ha : 0 ≤ acked) :
    ∃ W' L' C' D' F' R' b, ackR W L C D F R mss acked f una next = (W', L', C', D', F', R', b, 0) ∧ Ok W' L' C' D' mss := by
  obtain ⟨m1, m2, h3, h4, h5, h6, h7, h8, h9, h10⟩ := h
  unfold ackR
  split
  · split
    · exact ⟨_, _, _, _, _, _, _, rfl, by refine ⟨m1, m2, ?_, ?_, h5, h6, h7, h8, h9, h10⟩ <;> rw [mn_eq] <;> split <;> omega⟩
    · split
      · have b1 : 2 * mss ≤ mn (mx (f / 2) (2 * mss)) 65535 ∧ mn (mx (f / 2) (2 * mss)) 65535 ≤ 65535 := by
          rw [mn_eq, mx_eq]; constructor <;> split <;> (try split) <;> omega
        exact ⟨_, _, _, _, _, _, _, rfl, m1, m2, by rw [mn_eq]; split <;> omega, by rw [mn_eq]; split <;> omega, b1.1, b1.2, by omega, by omega, by omega, by omega⟩
      · exact ⟨_, _, _, _, _, _, _, rfl, m1, m2, h3, h4, h5, h6, h7, h8, by omega, by omega⟩
  · split
    · split
      · refine ⟨_, _, _, _, _, _, _, rfl, m1, m2, ?_, ?_, h5, h6, h7, h8, h9, h10⟩ <;> rw [mn_eq, mx_eq] <;> split <;> (try split) <;> omega
      · exact ⟨_, _, _, _, _, _, _, rfl, m1, m2, by omega, h6, h5, h6, by omega, by omega, by omega, by omega⟩
    · split
      · have b3 : 0 ≤ mn acked mss := by rw [mn_eq]; split <;> omega
        refine ⟨_, _, _, _, _, _, _, rfl, m1, m2, ?_, ?_, h5, h6, h7, h8, by omega, by omega⟩ <;> rw [mn_eq] <;> split <;> omega
      · have b4 : 0 ≤ mn acked W := by rw [mn_eq]; split <;> omega
        split
        · refine ⟨_, _, _, _, _, _, _, rfl, m1, m2, ?_, ?_, h5, h6, ?_, ?_, by omega, by omega⟩ <;> rw [mn_eq] <;> split <;> omega
        · refine ⟨_, _, _, _, _, _, _, rfl, m1, m2, h3, h4, h5, h6, ?_, ?_, by omega, by omega⟩ <;> rw [mn_eq] <;> split <;> omega
theorem timeout_ok {W L C D mss f : Int} (h : Ok W L C D mss) (F : Bool) (R : Int) (h0 : 0 ≤ f) (h1 : f < 2147483648) :
    crowd_Timeout.f W L C D F R mss f = some (mss, mn (mx (f / 2) (2 * mss)) 65535, 0, 0, false, 0, 0) ∧ Ok mss (mn (mx (f / 2) (2 * mss)) 65535) 0 0 mss := by
  have hc := check_ok F R h
  obtain ⟨m1, m2, h3, h4, h5, h6, h7, h8, h9, h10⟩ := h
  have b1 : 2 * mss ≤ mn (mx (f / 2) (2 * mss)) 65535 ∧ mn (mx (f / 2) (2 * mss)) 65535 ≤ 65535 := by
    rw [mn_eq, mx_eq]; constructor <;> split <;> (try split) <;> omega
  constructor
  · unfold crowd_Timeout.f
    rw [hc, Option.bind_some, if_pos rfl, if_neg (by omega), cut_ok mss f m1 m2 h0 h1, Option.bind_some]
  · exact ⟨m1, m2, by omega, by omega, b1.1, b1.2, by omega, by omega, by omega, by omega⟩
/-- What grown comes to: a valid state, no error, and a bounded number of bytes. -/
theorem grown_loop (mss : Int) (l : List Int) :
    ∀ (d K : Nat) (i una W L C D : Int) (F : Bool) (R : Int), i + d = 80 → 0 ≤ i → 0 ≤ una → una ≤ 3000 * i → Ok W L C D mss → 2 * d + 8 ≤ K →
    ∃ W' L' C' D' F' R' una', patchbaykeep3_grown.l0 K mss l 0 una i W L C D F R = some (W', L', C', D', F', R', una', 0) ∧ Ok W' L' C' D' mss ∧ 0 ≤ una' ∧ una' ≤ 240000 := by
  intro d
  induction d with
  | zero =>
    intro K i una W L C D F R hi hi0 hu hu2 hok hK
    obtain ⟨k, rfl⟩ : ∃ k, K = k + 2 := ⟨K - 2, by omega⟩
    refine ⟨W, L, C, D, F, R, una, ?_, hok, hu, by omega⟩
    rw [patchbaykeep3_grown.l0]
    simp only [patchbaykeep3_grown.j1]
    rw [if_neg (show ¬ i < 80 by omega)]
    simp
  | succ d ih =>
    intro K i una W L C D F R hi hi0 hu hu2 hok hK
    obtain ⟨k, rfl⟩ : ∃ k, K = k + 3 + 2 := ⟨K - 5, by omega⟩
    rw [patchbaykeep3_grown.l0]
    simp only [patchbaykeep3_grown.j1]
    by_cases hlen : i < (l.length : Int)
    · rw [if_pos hlen, if_pos (show i < 80 by omega), if_pos (show ((0 : Int) == 0) = true from rfl), if_pos hi0, if_pos hlen, w64 (x := i + 1) (by omega) (by omega)]
      have hW : 0 ≤ W ∧ W ≤ 65535 := ⟨by have := hok.1; have := hok.2.2.1; omega, hok.2.2.2.1⟩
      have ht := Int.tmod_lt_of_pos (rd l i) (show (0 : Int) < 3000 by omega)
      by_cases hn : Int.tmod (rd l i) 3000 < 0
      · rw [if_pos hn]
        obtain ⟨t1, t2⟩ := timeout_ok hok F R hW.1 (show W < 2147483648 by omega)
        rw [t1, Option.bind_some]
        exact ih (k + 3) (i + 1) una _ _ _ _ _ _ (by omega) (by omega) hu (by omega) t2 (by omega)
      · rw [if_neg hn, w64 (x := una + Int.tmod (rd l i) 3000) (by omega) (by omega), w64 (x := una + Int.tmod (rd l i) 3000 + W) (by omega) (by omega)]
        rw [ack_ok hok F R (Int.tmod (rd l i) 3000) (una + Int.tmod (rd l i) 3000) W (by omega) (by omega) hW.1 (by omega) k]
        obtain ⟨W', L', C', D', F', R', b, e, hok'⟩ := ackR_ok hok F R (Int.tmod (rd l i) 3000) W ((una + Int.tmod (rd l i) 3000) % 4294967296) ((una + Int.tmod (rd l i) 3000 + W) % 4294967296) (by omega)
        rw [e, Option.bind_some]
        exact ih (k + 3) (i + 1) _ _ _ _ _ _ _ (by omega) (by omega) (by omega) (by omega) hok' (by omega)
    · refine ⟨W, L, C, D, F, R, una, ?_, hok, hu, by omega⟩
      rw [if_neg hlen]
      simp
theorem grown_ok {mss : Int} (h1 : 1 ≤ mss) (h2 : mss ≤ 1500) (l : List Int) (K : Nat) (hK : 200 ≤ K) :
    ∃ W' L' C' D' F' R' una', patchbaykeep3_grown.f K mss l = some (W', L', C', D', F', R', una', 0) ∧ Ok W' L' C' D' mss ∧ 0 ≤ una' ∧ una' ≤ 240000 := by
  unfold patchbaykeep3_grown.f
  rw [first_ok h1 h2, Option.bind_some]
  exact grown_loop mss l 80 K 0 0 (2 * mss) 65535 0 0 false 0 (by omega) (by omega) (by omega) (by omega) ⟨h1, h2, by omega, by omega, by omega, by omega, by omega, by omega, by omega, by omega⟩ (by omega)
theorem loop (mss n r lim : Int) (h1 : 1 ≤ mss) (h2 : mss ≤ 500) (hr : patchbaykeep3_rest.f n 30 = some r) (hl : 2 * mss ≤ lim) (hl2 : lim ≤ 65535) :
    ∀ (d K : Nat) (i una W : Int), i + d = 30 → 0 ≤ i → 0 ≤ una → una ≤ 300000 + 1000 * i → mss ≤ W → W < lim + mss → W ≤ 65535 → 2 * d + 8 ≤ K → r ≤ 30 →
    patchbaykeep3_CrowdRestarts.l0 K mss n una lim i W lim 0 0 false 0 = some true := by
  intro d
  induction d with
  | zero =>
    intro K i una W hi _ _ _ _ _ _ hK hr30
    obtain ⟨k, rfl⟩ : ∃ k, K = k + 2 := ⟨K - 2, by omega⟩
    rw [patchbaykeep3_CrowdRestarts.l0]
    simp only [patchbaykeep3_CrowdRestarts.j2]
    rw [hr, Option.bind_some, if_neg (by omega)]
    simp
  | succ d ih =>
    intro K i una W hi hi0 hu hu2 hw hw2 hw3 hK hr30
    obtain ⟨k, rfl⟩ : ∃ k, K = k + 3 + 2 := ⟨K - 5, by omega⟩
    rw [patchbaykeep3_CrowdRestarts.l0]
    simp only [patchbaykeep3_CrowdRestarts.j2]
    rw [hr, Option.bind_some]
    by_cases hir : i < r
    · rw [if_pos hir]
      by_cases hwl : W < lim
      · rw [if_pos (show decide (W < lim) = true by simp; omega), w64 (x := una + mss) (by omega) (by omega), w64 (x := una + mss + W) (by omega) (by omega), w64 (x := lim + mss) (by omega) (by omega), w64 (x := i + 1) (by omega) (by omega)]
        rw [ack_ok (W := W) (L := lim) (C := 0) (D := 0) (mss := mss) ⟨h1, by omega, by omega, by omega, by omega, by omega, by omega, by omega, by omega, by omega⟩ false 0 mss (una + mss) W (by omega) (by omega) (by omega) (by omega) k]
        have e : mn mss mss = mss := by rw [mn_eq]; split <;> rfl
        have b : mss ≤ mn (W + mss) 65535 ∧ mn (W + mss) 65535 ≤ 65535 ∧ mn (W + mss) 65535 < lim + mss := by
          rw [mn_eq]; refine ⟨?_, ?_, ?_⟩ <;> split <;> omega
        unfold ackR
        rw [if_neg (by omega), if_neg (by simp), if_pos hwl, Option.bind_some, e]
        simp only [if_true]
        rw [if_neg (show ¬ mn (W + mss) 65535 ≥ lim + mss by omega)]
        exact ih (k + 3) (i + 1) (una + mss) _ (by omega) (by omega) (by omega) (by omega) b.1 b.2.2 b.2.1 (by omega) hr30
      · rw [if_neg (show ¬ decide (W < lim) = true by simp; omega)]
    · rw [if_neg hir]
      simp
theorem pure_holds : patchbaykeep3_CrowdRestarts.Pure := by
  intro a0 l1 a2 a3 _ _ _ _ _ _
  refine ⟨1000, ?_⟩
  unfold patchbaykeep3_CrowdRestarts.f
  obtain ⟨m, hm, m0, m1⟩ := rest_some a0 500 (by omega) (by omega)
  rw [fact_ok 997, Option.bind_some, if_pos rfl, hm, Option.bind_some, w64 (x := 1 + m) (by omega) (by omega)]
  obtain ⟨W, L, C, D, F, R, una, hg, hok, hu, hu2⟩ := grown_ok (show 1 ≤ 1 + m by omega) (by omega) l1 1000 (by omega)
  obtain ⟨fl, hf, f0, f1⟩ := rest_some a2 20000 (by omega) (by omega)
  obtain ⟨q, hq, q0, q1⟩ := rest_some a3 30 (by omega) (by omega)
  obtain ⟨t1, t2⟩ := timeout_ok hok F R f0 (show fl < 2147483648 by omega)
  rw [hg, Option.bind_some, if_pos rfl, hf, Option.bind_some, t1, Option.bind_some, if_pos rfl, if_pos rfl, show (1000 : Nat) = 999 + 1 from rfl]
  rw [patchbaykeep3_CrowdRestarts.j0]
  simp only [Bool.false_eq_true, if_false]
  exact loop (1 + m) a3 q _ (by omega) (by omega) hq t2.2.2.2.2.1 t2.2.2.2.2.2.1 30 999 0 una (1 + m) (by omega) (by omega) (by omega) (by omega) (by omega) (by have := t2.2.2.2.2.1; omega) (by omega) (by omega) (by omega)

end CCrowdRestarts
theorem CrowdRestarts : patchbaykeep3_CrowdRestarts.Pure := CCrowdRestarts.pure_holds
end Go.Proofs.Ytopjfkcoknenfaa.Pure
