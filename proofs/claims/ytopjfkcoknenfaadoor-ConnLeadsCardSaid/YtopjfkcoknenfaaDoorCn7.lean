/- conn.Way: one round of the inner loop, for each state and each event. -/
import Derived.Test.YtopjfkcoknenfaaDoorCn6
namespace Go.Proofs.YtopjfkcoknenfaaDoor.Cn
open Go Go.Rx Go.RowKit Go.Proofs.YtopjfkcoknenfaaDoor
set_option linter.unusedVariables false
set_option maxRecDepth 100000
/-- What a round is to show. -/
structure Inn (s ev : Int) : Prop where
  go : ∀ {t : Nat} {W : World} (_ : Laid t W) {w : World} {ids : List Nat} {a : Act} (b : Int) (A : Option Addr) (n c : Nat) (sn : Nat → Bool) (B : Option Addr) (m d : Nat) {q : List (Int × Value × List Int)} {way : List Int} {s' : Int} {R : Ending → World → Prop},
  n = q.length → m = way.length → n < 1000 → m < 1000 → Sat (fun _ => False) W ids { n := 80, m := innS b (.slice A n c) ev } (innM sn s B m d) a w → St W w ids (.slice A n c) q → (s', Value.slice B m d, way) ∈ q →
  ((stepI s ev).2.2 = 0 → sn (stepI s ev).1.toNat = false → ∀ a' w' A2 c2 B2 d2, Sat (fun _ => False) W ids { n := 80, m := innS b (.slice A2 (n + 1) c2) (IntKind.i64.wrap (ev + 1)) } (innM (fun i => if i = (stepI s ev).1.toNat then true else sn i) s B m d) a' w' →
    St W w' ids (.slice A2 (n + 1) c2) (q ++ [((stepI s ev).1, Value.slice B2 (m + 1) d2, way ++ [ev])]) → Goes Tryd.prog 12 (.inLoop innL :: innK) a' w' R) →
  (¬ ((stepI s ev).2.2 = 0 ∧ sn (stepI s ev).1.toNat = false) → ∀ a' w', Sat (fun _ => False) W ids { n := 80, m := innS b (.slice A n c) (IntKind.i64.wrap (ev + 1)) } (innM sn s B m d) a' w' → St W w' ids (.slice A n c) q → Goes Tryd.prog 12 (.inLoop innL :: innK) a' w' R) →
  Goes Tryd.prog 12 (.code innL :: .inLoop innL :: innK) a w R
theorem inn_skip {t : Nat} {W : World} (hl : Laid t W) {w : World} {ids : List Nat} {a : Act} {s ev b : Int} {A : Option Addr} {n c : Nat} {sn : Nat → Bool} {B : Option Addr} {m d : Nat} {q : List (Int × Value × List Int)} {R : Ending → World → Prop} (ds : List Bool) {A' : Prop} (hA : A')
    (hs : Sat (fun _ => False) W ids { n := 80, m := innS b (.slice A n c) ev } (innM sn s B m d) a w) (st : St W w ids (.slice A n c) q)
    (he : All (run tab2 sp3 300 ds (iA b A n c ev s sn B m d)).1 = A') (ht : (run tab2 sp3 300 ds (iA b A n c ev s sn B m d)).2.todo = .inLoop innL :: innK) (hm : (run tab2 sp3 300 ds (iA b A n c ev s sn B m d)).2.mem = innM sn s B m d)
    (hsub : subL (innS b (.slice A n c) (IntKind.i64.wrap (ev + 1))) (run tab2 sp3 300 ds (iA b A n c ev s sn B m d)).2.sl.m) (hn : (run tab2 sp3 300 ds (iA b A n c ev s sn B m d)).2.sl.n = 80)
    (next : ∀ a' w', Sat (fun _ => False) W ids { n := 80, m := innS b (.slice A n c) (IntKind.i64.wrap (ev + 1)) } (innM sn s B m d) a' w' → St W w' ids (.slice A n c) q → Goes Tryd.prog 12 (.inLoop innL :: innK) a' w' R) :
    Goes Tryd.prog 12 (.code innL :: .inLoop innL :: innK) a w R := by
  refine Goes.upto tab2_fits (sp3_ok hl hs.mem) wide 300 ds (iA b A n c ev s sn B m d) (Rx.Sat.rebase hs) hA he fun ids2 a2 w2 hp2 hs2 => ?_
  rw [ht]
  have hk := (Sat.toW hs.mem hs2).keep _ hsub hn
  rw [hm] at hk
  have hi : ids2 = ids := ids_eq hp2 (by rw [hk.mem.len, hs.mem.len])
  subst hi
  exact next a2 w2 hk (st.after hs2.mem)
theorem inn_push {t : Nat} {W : World} (hl : Laid t W) {w : World} {ids : List Nat} {a : Act} {s ev nx b : Int} {A : Option Addr} {n c : Nat} {sn sn' : Nat → Bool} {B : Option Addr} {m d : Nat} {q : List (Int × Value × List Int)} {way : List Int} {s' : Int} {R : Ending → World → Prop} (ds : List Bool) {A' : Prop} (hA : A')
    (hnq : n = q.length) (hmw : m = way.length) (hnb : n < 1000) (hmb : m < 1000) (hs : Sat (fun _ => False) W ids { n := 80, m := innS b (.slice A n c) ev } (innM sn s B m d) a w) (st : St W w ids (.slice A n c) q) (hx : (s', Value.slice B m d, way) ∈ q)
    (he : All (run tab2 sp3 300 ds (iA b A n c ev s sn B m d)).1 = A') (ht : (run tab2 sp3 300 ds (iA b A n c ev s sn B m d)).2.todo = pTodo) (hm : (run tab2 sp3 300 ds (iA b A n c ev s sn B m d)).2.mem = innM sn' s B m d)
    (hsub : subL (pS b A n c ev nx B m d) (run tab2 sp3 300 ds (iA b A n c ev s sn B m d)).2.sl.m) (hn : (run tab2 sp3 300 ds (iA b A n c ev s sn B m d)).2.sl.n = 80)
    (next : ∀ a' w' A2 c2 B2 d2, Sat (fun _ => False) W ids { n := 80, m := innS b (.slice A2 (n + 1) c2) (IntKind.i64.wrap (ev + 1)) } (innM sn' s B m d) a' w' → St W w' ids (.slice A2 (n + 1) c2) (q ++ [(nx, Value.slice B2 (m + 1) d2, way ++ [ev])]) → Goes Tryd.prog 12 (.inLoop innL :: innK) a' w' R) :
    Goes Tryd.prog 12 (.code innL :: .inLoop innL :: innK) a w R := by
  refine Goes.upto tab2_fits (sp3_ok hl hs.mem) wide 300 ds (iA b A n c ev s sn B m d) (Rx.Sat.rebase hs) hA he fun ids2 a2 w2 hp2 hs2 => ?_
  rw [ht]
  have hk := (Sat.toW hs.mem hs2).keep _ hsub hn
  rw [hm] at hk
  have hi : ids2 = ids := ids_eq hp2 (by rw [hk.mem.len, hs.mem.len]; rfl)
  subst hi
  exact push hl b A n c ev nx s sn' B m d hnq hmw hnb hmb hk (st.after hs2.mem) hx next
theorem inn_0_0 : Inn 0 0 := by
  constructor
  intro t W hl w ids a b A n c sn B m d q way s' R hnq hmw hnb hmb hs st hx yes no
  have e1 : (stepI 0 0).1 = 1 := by decide +kernel
  have e2 : (stepI 0 0).2.2 = 0 := by decide +kernel
  rw [e1] at yes no
  cases hc : sn 1 with
  | true => exact inn_skip hl [true, true, false] (A' := (true = true) ∧ (true = true) ∧ ((0 : Int) ≤ 1) ∧ ((1 : Int) < 11) ∧ ((!sn 1) = false) ∧ True) ⟨rfl, rfl, by decide, by decide, by simp [hc], trivial⟩ hs st (by kernel_rfl) (by kernel_rfl) (by kernel_rfl) (by show _ = _; kernel_rfl) (by kernel_rfl) (no (fun h => by have := h.2; simp [hc] at this))
  | false => exact inn_push hl (nx := 1) (sn' := fun i => if i = 1 then true else sn i) [true, true, true] (A' := (true = true) ∧ (true = true) ∧ ((0 : Int) ≤ 1) ∧ ((1 : Int) < 11) ∧ ((!sn 1) = true) ∧ ((0 : Int) ≤ 1) ∧ ((1 : Int) < 11) ∧ True) ⟨rfl, rfl, by decide, by decide, by simp [hc], by decide, by decide, trivial⟩ hnq hmw hnb hmb hs st hx (by kernel_rfl) (by kernel_rfl) (by kernel_rfl) (by show _ = _; kernel_rfl) (by kernel_rfl) (yes e2 hc)
theorem inn_0_1 : Inn 0 1 := by
  constructor
  intro t W hl w ids a b A n c sn B m d q way s' R hnq hmw hnb hmb hs st hx yes no
  have e1 : (stepI 0 1).1 = 2 := by decide +kernel
  have e2 : (stepI 0 1).2.2 = 0 := by decide +kernel
  rw [e1] at yes no
  cases hc : sn 2 with
  | true => exact inn_skip hl [true, true, false] (A' := (true = true) ∧ (true = true) ∧ ((0 : Int) ≤ 2) ∧ ((2 : Int) < 11) ∧ ((!sn 2) = false) ∧ True) ⟨rfl, rfl, by decide, by decide, by simp [hc], trivial⟩ hs st (by kernel_rfl) (by kernel_rfl) (by kernel_rfl) (by show _ = _; kernel_rfl) (by kernel_rfl) (no (fun h => by have := h.2; simp [hc] at this))
  | false => exact inn_push hl (nx := 2) (sn' := fun i => if i = 2 then true else sn i) [true, true, true] (A' := (true = true) ∧ (true = true) ∧ ((0 : Int) ≤ 2) ∧ ((2 : Int) < 11) ∧ ((!sn 2) = true) ∧ ((0 : Int) ≤ 2) ∧ ((2 : Int) < 11) ∧ True) ⟨rfl, rfl, by decide, by decide, by simp [hc], by decide, by decide, trivial⟩ hnq hmw hnb hmb hs st hx (by kernel_rfl) (by kernel_rfl) (by kernel_rfl) (by show _ = _; kernel_rfl) (by kernel_rfl) (yes e2 hc)
theorem inn_0_2 : Inn 0 2 := by
  constructor
  intro t W hl w ids a b A n c sn B m d q way s' R hnq hmw hnb hmb hs st hx yes no
  exact inn_skip hl [true, false, false] (A' := (true = true) ∧ (false = false) ∧ (false = false) ∧ True) ⟨rfl, rfl, rfl, trivial⟩ hs st (by kernel_rfl) (by kernel_rfl) (by kernel_rfl) (by show _ = _; kernel_rfl) (by kernel_rfl) (no (fun h => absurd h.1 (by decide +kernel)))
theorem inn_0_3 : Inn 0 3 := by
  constructor
  intro t W hl w ids a b A n c sn B m d q way s' R hnq hmw hnb hmb hs st hx yes no
  exact inn_skip hl [true, false, false] (A' := (true = true) ∧ (false = false) ∧ (false = false) ∧ True) ⟨rfl, rfl, rfl, trivial⟩ hs st (by kernel_rfl) (by kernel_rfl) (by kernel_rfl) (by show _ = _; kernel_rfl) (by kernel_rfl) (no (fun h => absurd h.1 (by decide +kernel)))
theorem inn_0_4 : Inn 0 4 := by
  constructor
  intro t W hl w ids a b A n c sn B m d q way s' R hnq hmw hnb hmb hs st hx yes no
  exact inn_skip hl [true, false, false] (A' := (true = true) ∧ (false = false) ∧ (false = false) ∧ True) ⟨rfl, rfl, rfl, trivial⟩ hs st (by kernel_rfl) (by kernel_rfl) (by kernel_rfl) (by show _ = _; kernel_rfl) (by kernel_rfl) (no (fun h => absurd h.1 (by decide +kernel)))
theorem inn_0_5 : Inn 0 5 := by
  constructor
  intro t W hl w ids a b A n c sn B m d q way s' R hnq hmw hnb hmb hs st hx yes no
  exact inn_skip hl [true, false, false] (A' := (true = true) ∧ (false = false) ∧ (false = false) ∧ True) ⟨rfl, rfl, rfl, trivial⟩ hs st (by kernel_rfl) (by kernel_rfl) (by kernel_rfl) (by show _ = _; kernel_rfl) (by kernel_rfl) (no (fun h => absurd h.1 (by decide +kernel)))
theorem inn_0_6 : Inn 0 6 := by
  constructor
  intro t W hl w ids a b A n c sn B m d q way s' R hnq hmw hnb hmb hs st hx yes no
  exact inn_skip hl [true, false, false] (A' := (true = true) ∧ (false = false) ∧ (false = false) ∧ True) ⟨rfl, rfl, rfl, trivial⟩ hs st (by kernel_rfl) (by kernel_rfl) (by kernel_rfl) (by show _ = _; kernel_rfl) (by kernel_rfl) (no (fun h => absurd h.1 (by decide +kernel)))
theorem inn_0_7 : Inn 0 7 := by
  constructor
  intro t W hl w ids a b A n c sn B m d q way s' R hnq hmw hnb hmb hs st hx yes no
  exact inn_skip hl [true, false, false] (A' := (true = true) ∧ (false = false) ∧ (false = false) ∧ True) ⟨rfl, rfl, rfl, trivial⟩ hs st (by kernel_rfl) (by kernel_rfl) (by kernel_rfl) (by show _ = _; kernel_rfl) (by kernel_rfl) (no (fun h => absurd h.1 (by decide +kernel)))
theorem inn_0_8 : Inn 0 8 := by
  constructor
  intro t W hl w ids a b A n c sn B m d q way s' R hnq hmw hnb hmb hs st hx yes no
  exact inn_skip hl [true, false, false] (A' := (true = true) ∧ (false = false) ∧ (false = false) ∧ True) ⟨rfl, rfl, rfl, trivial⟩ hs st (by kernel_rfl) (by kernel_rfl) (by kernel_rfl) (by show _ = _; kernel_rfl) (by kernel_rfl) (no (fun h => absurd h.1 (by decide +kernel)))
theorem inn_0_9 : Inn 0 9 := by
  constructor
  intro t W hl w ids a b A n c sn B m d q way s' R hnq hmw hnb hmb hs st hx yes no
  exact inn_skip hl [true, false, false] (A' := (true = true) ∧ (false = false) ∧ (false = false) ∧ True) ⟨rfl, rfl, rfl, trivial⟩ hs st (by kernel_rfl) (by kernel_rfl) (by kernel_rfl) (by show _ = _; kernel_rfl) (by kernel_rfl) (no (fun h => absurd h.1 (by decide +kernel)))
theorem inn_1_0 : Inn 1 0 := by
  constructor
  intro t W hl w ids a b A n c sn B m d q way s' R hnq hmw hnb hmb hs st hx yes no
  exact inn_skip hl [true, false, false] (A' := (true = true) ∧ (false = false) ∧ (false = false) ∧ True) ⟨rfl, rfl, rfl, trivial⟩ hs st (by kernel_rfl) (by kernel_rfl) (by kernel_rfl) (by show _ = _; kernel_rfl) (by kernel_rfl) (no (fun h => absurd h.1 (by decide +kernel)))
theorem inn_1_1 : Inn 1 1 := by
  constructor
  intro t W hl w ids a b A n c sn B m d q way s' R hnq hmw hnb hmb hs st hx yes no
  have e1 : (stepI 1 1).1 = 2 := by decide +kernel
  have e2 : (stepI 1 1).2.2 = 0 := by decide +kernel
  rw [e1] at yes no
  cases hc : sn 2 with
  | true => exact inn_skip hl [true, true, false] (A' := (true = true) ∧ (true = true) ∧ ((0 : Int) ≤ 2) ∧ ((2 : Int) < 11) ∧ ((!sn 2) = false) ∧ True) ⟨rfl, rfl, by decide, by decide, by simp [hc], trivial⟩ hs st (by kernel_rfl) (by kernel_rfl) (by kernel_rfl) (by show _ = _; kernel_rfl) (by kernel_rfl) (no (fun h => by have := h.2; simp [hc] at this))
  | false => exact inn_push hl (nx := 2) (sn' := fun i => if i = 2 then true else sn i) [true, true, true] (A' := (true = true) ∧ (true = true) ∧ ((0 : Int) ≤ 2) ∧ ((2 : Int) < 11) ∧ ((!sn 2) = true) ∧ ((0 : Int) ≤ 2) ∧ ((2 : Int) < 11) ∧ True) ⟨rfl, rfl, by decide, by decide, by simp [hc], by decide, by decide, trivial⟩ hnq hmw hnb hmb hs st hx (by kernel_rfl) (by kernel_rfl) (by kernel_rfl) (by show _ = _; kernel_rfl) (by kernel_rfl) (yes e2 hc)
theorem inn_1_2 : Inn 1 2 := by
  constructor
  intro t W hl w ids a b A n c sn B m d q way s' R hnq hmw hnb hmb hs st hx yes no
  have e1 : (stepI 1 2).1 = 0 := by decide +kernel
  have e2 : (stepI 1 2).2.2 = 0 := by decide +kernel
  rw [e1] at yes no
  cases hc : sn 0 with
  | true => exact inn_skip hl [true, true, false] (A' := (true = true) ∧ (true = true) ∧ ((0 : Int) ≤ 0) ∧ ((0 : Int) < 11) ∧ ((!sn 0) = false) ∧ True) ⟨rfl, rfl, by decide, by decide, by simp [hc], trivial⟩ hs st (by kernel_rfl) (by kernel_rfl) (by kernel_rfl) (by show _ = _; kernel_rfl) (by kernel_rfl) (no (fun h => by have := h.2; simp [hc] at this))
  | false => exact inn_push hl (nx := 0) (sn' := fun i => if i = 0 then true else sn i) [true, true, true] (A' := (true = true) ∧ (true = true) ∧ ((0 : Int) ≤ 0) ∧ ((0 : Int) < 11) ∧ ((!sn 0) = true) ∧ ((0 : Int) ≤ 0) ∧ ((0 : Int) < 11) ∧ True) ⟨rfl, rfl, by decide, by decide, by simp [hc], by decide, by decide, trivial⟩ hnq hmw hnb hmb hs st hx (by kernel_rfl) (by kernel_rfl) (by kernel_rfl) (by show _ = _; kernel_rfl) (by kernel_rfl) (yes e2 hc)
theorem inn_1_3 : Inn 1 3 := by
  constructor
  intro t W hl w ids a b A n c sn B m d q way s' R hnq hmw hnb hmb hs st hx yes no
  have e1 : (stepI 1 3).1 = 0 := by decide +kernel
  have e2 : (stepI 1 3).2.2 = 0 := by decide +kernel
  rw [e1] at yes no
  cases hc : sn 0 with
  | true => exact inn_skip hl [true, true, false] (A' := (true = true) ∧ (true = true) ∧ ((0 : Int) ≤ 0) ∧ ((0 : Int) < 11) ∧ ((!sn 0) = false) ∧ True) ⟨rfl, rfl, by decide, by decide, by simp [hc], trivial⟩ hs st (by kernel_rfl) (by kernel_rfl) (by kernel_rfl) (by show _ = _; kernel_rfl) (by kernel_rfl) (no (fun h => by have := h.2; simp [hc] at this))
  | false => exact inn_push hl (nx := 0) (sn' := fun i => if i = 0 then true else sn i) [true, true, true] (A' := (true = true) ∧ (true = true) ∧ ((0 : Int) ≤ 0) ∧ ((0 : Int) < 11) ∧ ((!sn 0) = true) ∧ ((0 : Int) ≤ 0) ∧ ((0 : Int) < 11) ∧ True) ⟨rfl, rfl, by decide, by decide, by simp [hc], by decide, by decide, trivial⟩ hnq hmw hnb hmb hs st hx (by kernel_rfl) (by kernel_rfl) (by kernel_rfl) (by show _ = _; kernel_rfl) (by kernel_rfl) (yes e2 hc)
theorem inn_1_4 : Inn 1 4 := by
  constructor
  intro t W hl w ids a b A n c sn B m d q way s' R hnq hmw hnb hmb hs st hx yes no
  have e1 : (stepI 1 4).1 = 3 := by decide +kernel
  have e2 : (stepI 1 4).2.2 = 0 := by decide +kernel
  rw [e1] at yes no
  cases hc : sn 3 with
  | true => exact inn_skip hl [true, true, false] (A' := (true = true) ∧ (true = true) ∧ ((0 : Int) ≤ 3) ∧ ((3 : Int) < 11) ∧ ((!sn 3) = false) ∧ True) ⟨rfl, rfl, by decide, by decide, by simp [hc], trivial⟩ hs st (by kernel_rfl) (by kernel_rfl) (by kernel_rfl) (by show _ = _; kernel_rfl) (by kernel_rfl) (no (fun h => by have := h.2; simp [hc] at this))
  | false => exact inn_push hl (nx := 3) (sn' := fun i => if i = 3 then true else sn i) [true, true, true] (A' := (true = true) ∧ (true = true) ∧ ((0 : Int) ≤ 3) ∧ ((3 : Int) < 11) ∧ ((!sn 3) = true) ∧ ((0 : Int) ≤ 3) ∧ ((3 : Int) < 11) ∧ True) ⟨rfl, rfl, by decide, by decide, by simp [hc], by decide, by decide, trivial⟩ hnq hmw hnb hmb hs st hx (by kernel_rfl) (by kernel_rfl) (by kernel_rfl) (by show _ = _; kernel_rfl) (by kernel_rfl) (yes e2 hc)
theorem inn_1_5 : Inn 1 5 := by
  constructor
  intro t W hl w ids a b A n c sn B m d q way s' R hnq hmw hnb hmb hs st hx yes no
  exact inn_skip hl [true, false, false] (A' := (true = true) ∧ (false = false) ∧ (false = false) ∧ True) ⟨rfl, rfl, rfl, trivial⟩ hs st (by kernel_rfl) (by kernel_rfl) (by kernel_rfl) (by show _ = _; kernel_rfl) (by kernel_rfl) (no (fun h => absurd h.1 (by decide +kernel)))
theorem inn_1_6 : Inn 1 6 := by
  constructor
  intro t W hl w ids a b A n c sn B m d q way s' R hnq hmw hnb hmb hs st hx yes no
  exact inn_skip hl [true, false, false] (A' := (true = true) ∧ (false = false) ∧ (false = false) ∧ True) ⟨rfl, rfl, rfl, trivial⟩ hs st (by kernel_rfl) (by kernel_rfl) (by kernel_rfl) (by show _ = _; kernel_rfl) (by kernel_rfl) (no (fun h => absurd h.1 (by decide +kernel)))
theorem inn_1_7 : Inn 1 7 := by
  constructor
  intro t W hl w ids a b A n c sn B m d q way s' R hnq hmw hnb hmb hs st hx yes no
  exact inn_skip hl [true, false, false] (A' := (true = true) ∧ (false = false) ∧ (false = false) ∧ True) ⟨rfl, rfl, rfl, trivial⟩ hs st (by kernel_rfl) (by kernel_rfl) (by kernel_rfl) (by show _ = _; kernel_rfl) (by kernel_rfl) (no (fun h => absurd h.1 (by decide +kernel)))
theorem inn_1_8 : Inn 1 8 := by
  constructor
  intro t W hl w ids a b A n c sn B m d q way s' R hnq hmw hnb hmb hs st hx yes no
  exact inn_skip hl [true, false, false] (A' := (true = true) ∧ (false = false) ∧ (false = false) ∧ True) ⟨rfl, rfl, rfl, trivial⟩ hs st (by kernel_rfl) (by kernel_rfl) (by kernel_rfl) (by show _ = _; kernel_rfl) (by kernel_rfl) (no (fun h => absurd h.1 (by decide +kernel)))
theorem inn_1_9 : Inn 1 9 := by
  constructor
  intro t W hl w ids a b A n c sn B m d q way s' R hnq hmw hnb hmb hs st hx yes no
  exact inn_skip hl [true, false, false] (A' := (true = true) ∧ (false = false) ∧ (false = false) ∧ True) ⟨rfl, rfl, rfl, trivial⟩ hs st (by kernel_rfl) (by kernel_rfl) (by kernel_rfl) (by show _ = _; kernel_rfl) (by kernel_rfl) (no (fun h => absurd h.1 (by decide +kernel)))
theorem inn_2_0 : Inn 2 0 := by
  constructor
  intro t W hl w ids a b A n c sn B m d q way s' R hnq hmw hnb hmb hs st hx yes no
  exact inn_skip hl [true, false, false] (A' := (true = true) ∧ (false = false) ∧ (false = false) ∧ True) ⟨rfl, rfl, rfl, trivial⟩ hs st (by kernel_rfl) (by kernel_rfl) (by kernel_rfl) (by show _ = _; kernel_rfl) (by kernel_rfl) (no (fun h => absurd h.1 (by decide +kernel)))
theorem inn_2_1 : Inn 2 1 := by
  constructor
  intro t W hl w ids a b A n c sn B m d q way s' R hnq hmw hnb hmb hs st hx yes no
  exact inn_skip hl [true, false, false] (A' := (true = true) ∧ (false = false) ∧ (false = false) ∧ True) ⟨rfl, rfl, rfl, trivial⟩ hs st (by kernel_rfl) (by kernel_rfl) (by kernel_rfl) (by show _ = _; kernel_rfl) (by kernel_rfl) (no (fun h => absurd h.1 (by decide +kernel)))
theorem inn_2_2 : Inn 2 2 := by
  constructor
  intro t W hl w ids a b A n c sn B m d q way s' R hnq hmw hnb hmb hs st hx yes no
  have e1 : (stepI 2 2).1 = 0 := by decide +kernel
  have e2 : (stepI 2 2).2.2 = 0 := by decide +kernel
  rw [e1] at yes no
  cases hc : sn 0 with
  | true => exact inn_skip hl [true, true, false] (A' := (true = true) ∧ (true = true) ∧ ((0 : Int) ≤ 0) ∧ ((0 : Int) < 11) ∧ ((!sn 0) = false) ∧ True) ⟨rfl, rfl, by decide, by decide, by simp [hc], trivial⟩ hs st (by kernel_rfl) (by kernel_rfl) (by kernel_rfl) (by show _ = _; kernel_rfl) (by kernel_rfl) (no (fun h => by have := h.2; simp [hc] at this))
  | false => exact inn_push hl (nx := 0) (sn' := fun i => if i = 0 then true else sn i) [true, true, true] (A' := (true = true) ∧ (true = true) ∧ ((0 : Int) ≤ 0) ∧ ((0 : Int) < 11) ∧ ((!sn 0) = true) ∧ ((0 : Int) ≤ 0) ∧ ((0 : Int) < 11) ∧ True) ⟨rfl, rfl, by decide, by decide, by simp [hc], by decide, by decide, trivial⟩ hnq hmw hnb hmb hs st hx (by kernel_rfl) (by kernel_rfl) (by kernel_rfl) (by show _ = _; kernel_rfl) (by kernel_rfl) (yes e2 hc)
theorem inn_2_3 : Inn 2 3 := by
  constructor
  intro t W hl w ids a b A n c sn B m d q way s' R hnq hmw hnb hmb hs st hx yes no
  have e1 : (stepI 2 3).1 = 0 := by decide +kernel
  have e2 : (stepI 2 3).2.2 = 0 := by decide +kernel
  rw [e1] at yes no
  cases hc : sn 0 with
  | true => exact inn_skip hl [true, true, false] (A' := (true = true) ∧ (true = true) ∧ ((0 : Int) ≤ 0) ∧ ((0 : Int) < 11) ∧ ((!sn 0) = false) ∧ True) ⟨rfl, rfl, by decide, by decide, by simp [hc], trivial⟩ hs st (by kernel_rfl) (by kernel_rfl) (by kernel_rfl) (by show _ = _; kernel_rfl) (by kernel_rfl) (no (fun h => by have := h.2; simp [hc] at this))
  | false => exact inn_push hl (nx := 0) (sn' := fun i => if i = 0 then true else sn i) [true, true, true] (A' := (true = true) ∧ (true = true) ∧ ((0 : Int) ≤ 0) ∧ ((0 : Int) < 11) ∧ ((!sn 0) = true) ∧ ((0 : Int) ≤ 0) ∧ ((0 : Int) < 11) ∧ True) ⟨rfl, rfl, by decide, by decide, by simp [hc], by decide, by decide, trivial⟩ hnq hmw hnb hmb hs st hx (by kernel_rfl) (by kernel_rfl) (by kernel_rfl) (by show _ = _; kernel_rfl) (by kernel_rfl) (yes e2 hc)
theorem inn_2_4 : Inn 2 4 := by
  constructor
  intro t W hl w ids a b A n c sn B m d q way s' R hnq hmw hnb hmb hs st hx yes no
  have e1 : (stepI 2 4).1 = 3 := by decide +kernel
  have e2 : (stepI 2 4).2.2 = 0 := by decide +kernel
  rw [e1] at yes no
  cases hc : sn 3 with
  | true => exact inn_skip hl [true, true, false] (A' := (true = true) ∧ (true = true) ∧ ((0 : Int) ≤ 3) ∧ ((3 : Int) < 11) ∧ ((!sn 3) = false) ∧ True) ⟨rfl, rfl, by decide, by decide, by simp [hc], trivial⟩ hs st (by kernel_rfl) (by kernel_rfl) (by kernel_rfl) (by show _ = _; kernel_rfl) (by kernel_rfl) (no (fun h => by have := h.2; simp [hc] at this))
  | false => exact inn_push hl (nx := 3) (sn' := fun i => if i = 3 then true else sn i) [true, true, true] (A' := (true = true) ∧ (true = true) ∧ ((0 : Int) ≤ 3) ∧ ((3 : Int) < 11) ∧ ((!sn 3) = true) ∧ ((0 : Int) ≤ 3) ∧ ((3 : Int) < 11) ∧ True) ⟨rfl, rfl, by decide, by decide, by simp [hc], by decide, by decide, trivial⟩ hnq hmw hnb hmb hs st hx (by kernel_rfl) (by kernel_rfl) (by kernel_rfl) (by show _ = _; kernel_rfl) (by kernel_rfl) (yes e2 hc)
theorem inn_2_5 : Inn 2 5 := by
  constructor
  intro t W hl w ids a b A n c sn B m d q way s' R hnq hmw hnb hmb hs st hx yes no
  have e1 : (stepI 2 5).1 = 4 := by decide +kernel
  have e2 : (stepI 2 5).2.2 = 0 := by decide +kernel
  rw [e1] at yes no
  cases hc : sn 4 with
  | true => exact inn_skip hl [true, true, false] (A' := (true = true) ∧ (true = true) ∧ ((0 : Int) ≤ 4) ∧ ((4 : Int) < 11) ∧ ((!sn 4) = false) ∧ True) ⟨rfl, rfl, by decide, by decide, by simp [hc], trivial⟩ hs st (by kernel_rfl) (by kernel_rfl) (by kernel_rfl) (by show _ = _; kernel_rfl) (by kernel_rfl) (no (fun h => by have := h.2; simp [hc] at this))
  | false => exact inn_push hl (nx := 4) (sn' := fun i => if i = 4 then true else sn i) [true, true, true] (A' := (true = true) ∧ (true = true) ∧ ((0 : Int) ≤ 4) ∧ ((4 : Int) < 11) ∧ ((!sn 4) = true) ∧ ((0 : Int) ≤ 4) ∧ ((4 : Int) < 11) ∧ True) ⟨rfl, rfl, by decide, by decide, by simp [hc], by decide, by decide, trivial⟩ hnq hmw hnb hmb hs st hx (by kernel_rfl) (by kernel_rfl) (by kernel_rfl) (by show _ = _; kernel_rfl) (by kernel_rfl) (yes e2 hc)
theorem inn_2_6 : Inn 2 6 := by
  constructor
  intro t W hl w ids a b A n c sn B m d q way s' R hnq hmw hnb hmb hs st hx yes no
  exact inn_skip hl [true, false, false] (A' := (true = true) ∧ (false = false) ∧ (false = false) ∧ True) ⟨rfl, rfl, rfl, trivial⟩ hs st (by kernel_rfl) (by kernel_rfl) (by kernel_rfl) (by show _ = _; kernel_rfl) (by kernel_rfl) (no (fun h => absurd h.1 (by decide +kernel)))
theorem inn_2_7 : Inn 2 7 := by
  constructor
  intro t W hl w ids a b A n c sn B m d q way s' R hnq hmw hnb hmb hs st hx yes no
  exact inn_skip hl [true, false, false] (A' := (true = true) ∧ (false = false) ∧ (false = false) ∧ True) ⟨rfl, rfl, rfl, trivial⟩ hs st (by kernel_rfl) (by kernel_rfl) (by kernel_rfl) (by show _ = _; kernel_rfl) (by kernel_rfl) (no (fun h => absurd h.1 (by decide +kernel)))
theorem inn_2_8 : Inn 2 8 := by
  constructor
  intro t W hl w ids a b A n c sn B m d q way s' R hnq hmw hnb hmb hs st hx yes no
  have e1 : (stepI 2 8).1 = 0 := by decide +kernel
  have e2 : (stepI 2 8).2.2 = 0 := by decide +kernel
  rw [e1] at yes no
  cases hc : sn 0 with
  | true => exact inn_skip hl [true, true, false] (A' := (true = true) ∧ (true = true) ∧ ((0 : Int) ≤ 0) ∧ ((0 : Int) < 11) ∧ ((!sn 0) = false) ∧ True) ⟨rfl, rfl, by decide, by decide, by simp [hc], trivial⟩ hs st (by kernel_rfl) (by kernel_rfl) (by kernel_rfl) (by show _ = _; kernel_rfl) (by kernel_rfl) (no (fun h => by have := h.2; simp [hc] at this))
  | false => exact inn_push hl (nx := 0) (sn' := fun i => if i = 0 then true else sn i) [true, true, true] (A' := (true = true) ∧ (true = true) ∧ ((0 : Int) ≤ 0) ∧ ((0 : Int) < 11) ∧ ((!sn 0) = true) ∧ ((0 : Int) ≤ 0) ∧ ((0 : Int) < 11) ∧ True) ⟨rfl, rfl, by decide, by decide, by simp [hc], by decide, by decide, trivial⟩ hnq hmw hnb hmb hs st hx (by kernel_rfl) (by kernel_rfl) (by kernel_rfl) (by show _ = _; kernel_rfl) (by kernel_rfl) (yes e2 hc)
theorem inn_2_9 : Inn 2 9 := by
  constructor
  intro t W hl w ids a b A n c sn B m d q way s' R hnq hmw hnb hmb hs st hx yes no
  exact inn_skip hl [true, false, false] (A' := (true = true) ∧ (false = false) ∧ (false = false) ∧ True) ⟨rfl, rfl, rfl, trivial⟩ hs st (by kernel_rfl) (by kernel_rfl) (by kernel_rfl) (by show _ = _; kernel_rfl) (by kernel_rfl) (no (fun h => absurd h.1 (by decide +kernel)))
theorem inn_3_0 : Inn 3 0 := by
  constructor
  intro t W hl w ids a b A n c sn B m d q way s' R hnq hmw hnb hmb hs st hx yes no
  exact inn_skip hl [true, false, false] (A' := (true = true) ∧ (false = false) ∧ (false = false) ∧ True) ⟨rfl, rfl, rfl, trivial⟩ hs st (by kernel_rfl) (by kernel_rfl) (by kernel_rfl) (by show _ = _; kernel_rfl) (by kernel_rfl) (no (fun h => absurd h.1 (by decide +kernel)))
theorem inn_3_1 : Inn 3 1 := by
  constructor
  intro t W hl w ids a b A n c sn B m d q way s' R hnq hmw hnb hmb hs st hx yes no
  exact inn_skip hl [true, false, false] (A' := (true = true) ∧ (false = false) ∧ (false = false) ∧ True) ⟨rfl, rfl, rfl, trivial⟩ hs st (by kernel_rfl) (by kernel_rfl) (by kernel_rfl) (by show _ = _; kernel_rfl) (by kernel_rfl) (no (fun h => absurd h.1 (by decide +kernel)))
theorem inn_3_2 : Inn 3 2 := by
  constructor
  intro t W hl w ids a b A n c sn B m d q way s' R hnq hmw hnb hmb hs st hx yes no
  have e1 : (stepI 3 2).1 = 5 := by decide +kernel
  have e2 : (stepI 3 2).2.2 = 0 := by decide +kernel
  rw [e1] at yes no
  cases hc : sn 5 with
  | true => exact inn_skip hl [true, true, false] (A' := (true = true) ∧ (true = true) ∧ ((0 : Int) ≤ 5) ∧ ((5 : Int) < 11) ∧ ((!sn 5) = false) ∧ True) ⟨rfl, rfl, by decide, by decide, by simp [hc], trivial⟩ hs st (by kernel_rfl) (by kernel_rfl) (by kernel_rfl) (by show _ = _; kernel_rfl) (by kernel_rfl) (no (fun h => by have := h.2; simp [hc] at this))
  | false => exact inn_push hl (nx := 5) (sn' := fun i => if i = 5 then true else sn i) [true, true, true] (A' := (true = true) ∧ (true = true) ∧ ((0 : Int) ≤ 5) ∧ ((5 : Int) < 11) ∧ ((!sn 5) = true) ∧ ((0 : Int) ≤ 5) ∧ ((5 : Int) < 11) ∧ True) ⟨rfl, rfl, by decide, by decide, by simp [hc], by decide, by decide, trivial⟩ hnq hmw hnb hmb hs st hx (by kernel_rfl) (by kernel_rfl) (by kernel_rfl) (by show _ = _; kernel_rfl) (by kernel_rfl) (yes e2 hc)
theorem inn_3_3 : Inn 3 3 := by
  constructor
  intro t W hl w ids a b A n c sn B m d q way s' R hnq hmw hnb hmb hs st hx yes no
  have e1 : (stepI 3 3).1 = 0 := by decide +kernel
  have e2 : (stepI 3 3).2.2 = 0 := by decide +kernel
  rw [e1] at yes no
  cases hc : sn 0 with
  | true => exact inn_skip hl [true, true, false] (A' := (true = true) ∧ (true = true) ∧ ((0 : Int) ≤ 0) ∧ ((0 : Int) < 11) ∧ ((!sn 0) = false) ∧ True) ⟨rfl, rfl, by decide, by decide, by simp [hc], trivial⟩ hs st (by kernel_rfl) (by kernel_rfl) (by kernel_rfl) (by show _ = _; kernel_rfl) (by kernel_rfl) (no (fun h => by have := h.2; simp [hc] at this))
  | false => exact inn_push hl (nx := 0) (sn' := fun i => if i = 0 then true else sn i) [true, true, true] (A' := (true = true) ∧ (true = true) ∧ ((0 : Int) ≤ 0) ∧ ((0 : Int) < 11) ∧ ((!sn 0) = true) ∧ ((0 : Int) ≤ 0) ∧ ((0 : Int) < 11) ∧ True) ⟨rfl, rfl, by decide, by decide, by simp [hc], by decide, by decide, trivial⟩ hnq hmw hnb hmb hs st hx (by kernel_rfl) (by kernel_rfl) (by kernel_rfl) (by show _ = _; kernel_rfl) (by kernel_rfl) (yes e2 hc)
theorem inn_3_4 : Inn 3 4 := by
  constructor
  intro t W hl w ids a b A n c sn B m d q way s' R hnq hmw hnb hmb hs st hx yes no
  exact inn_skip hl [true, false, false] (A' := (true = true) ∧ (false = false) ∧ (false = false) ∧ True) ⟨rfl, rfl, rfl, trivial⟩ hs st (by kernel_rfl) (by kernel_rfl) (by kernel_rfl) (by show _ = _; kernel_rfl) (by kernel_rfl) (no (fun h => absurd h.1 (by decide +kernel)))
theorem inn_3_5 : Inn 3 5 := by
  constructor
  intro t W hl w ids a b A n c sn B m d q way s' R hnq hmw hnb hmb hs st hx yes no
  exact inn_skip hl [true, false, false] (A' := (true = true) ∧ (false = false) ∧ (false = false) ∧ True) ⟨rfl, rfl, rfl, trivial⟩ hs st (by kernel_rfl) (by kernel_rfl) (by kernel_rfl) (by show _ = _; kernel_rfl) (by kernel_rfl) (no (fun h => absurd h.1 (by decide +kernel)))
theorem inn_3_6 : Inn 3 6 := by
  constructor
  intro t W hl w ids a b A n c sn B m d q way s' R hnq hmw hnb hmb hs st hx yes no
  have e1 : (stepI 3 6).1 = 4 := by decide +kernel
  have e2 : (stepI 3 6).2.2 = 0 := by decide +kernel
  rw [e1] at yes no
  cases hc : sn 4 with
  | true => exact inn_skip hl [true, true, false] (A' := (true = true) ∧ (true = true) ∧ ((0 : Int) ≤ 4) ∧ ((4 : Int) < 11) ∧ ((!sn 4) = false) ∧ True) ⟨rfl, rfl, by decide, by decide, by simp [hc], trivial⟩ hs st (by kernel_rfl) (by kernel_rfl) (by kernel_rfl) (by show _ = _; kernel_rfl) (by kernel_rfl) (no (fun h => by have := h.2; simp [hc] at this))
  | false => exact inn_push hl (nx := 4) (sn' := fun i => if i = 4 then true else sn i) [true, true, true] (A' := (true = true) ∧ (true = true) ∧ ((0 : Int) ≤ 4) ∧ ((4 : Int) < 11) ∧ ((!sn 4) = true) ∧ ((0 : Int) ≤ 4) ∧ ((4 : Int) < 11) ∧ True) ⟨rfl, rfl, by decide, by decide, by simp [hc], by decide, by decide, trivial⟩ hnq hmw hnb hmb hs st hx (by kernel_rfl) (by kernel_rfl) (by kernel_rfl) (by show _ = _; kernel_rfl) (by kernel_rfl) (yes e2 hc)
theorem inn_3_7 : Inn 3 7 := by
  constructor
  intro t W hl w ids a b A n c sn B m d q way s' R hnq hmw hnb hmb hs st hx yes no
  exact inn_skip hl [true, false, false] (A' := (true = true) ∧ (false = false) ∧ (false = false) ∧ True) ⟨rfl, rfl, rfl, trivial⟩ hs st (by kernel_rfl) (by kernel_rfl) (by kernel_rfl) (by show _ = _; kernel_rfl) (by kernel_rfl) (no (fun h => absurd h.1 (by decide +kernel)))
theorem inn_3_8 : Inn 3 8 := by
  constructor
  intro t W hl w ids a b A n c sn B m d q way s' R hnq hmw hnb hmb hs st hx yes no
  have e1 : (stepI 3 8).1 = 0 := by decide +kernel
  have e2 : (stepI 3 8).2.2 = 0 := by decide +kernel
  rw [e1] at yes no
  cases hc : sn 0 with
  | true => exact inn_skip hl [true, true, false] (A' := (true = true) ∧ (true = true) ∧ ((0 : Int) ≤ 0) ∧ ((0 : Int) < 11) ∧ ((!sn 0) = false) ∧ True) ⟨rfl, rfl, by decide, by decide, by simp [hc], trivial⟩ hs st (by kernel_rfl) (by kernel_rfl) (by kernel_rfl) (by show _ = _; kernel_rfl) (by kernel_rfl) (no (fun h => by have := h.2; simp [hc] at this))
  | false => exact inn_push hl (nx := 0) (sn' := fun i => if i = 0 then true else sn i) [true, true, true] (A' := (true = true) ∧ (true = true) ∧ ((0 : Int) ≤ 0) ∧ ((0 : Int) < 11) ∧ ((!sn 0) = true) ∧ ((0 : Int) ≤ 0) ∧ ((0 : Int) < 11) ∧ True) ⟨rfl, rfl, by decide, by decide, by simp [hc], by decide, by decide, trivial⟩ hnq hmw hnb hmb hs st hx (by kernel_rfl) (by kernel_rfl) (by kernel_rfl) (by show _ = _; kernel_rfl) (by kernel_rfl) (yes e2 hc)
theorem inn_3_9 : Inn 3 9 := by
  constructor
  intro t W hl w ids a b A n c sn B m d q way s' R hnq hmw hnb hmb hs st hx yes no
  exact inn_skip hl [true, false, false] (A' := (true = true) ∧ (false = false) ∧ (false = false) ∧ True) ⟨rfl, rfl, rfl, trivial⟩ hs st (by kernel_rfl) (by kernel_rfl) (by kernel_rfl) (by show _ = _; kernel_rfl) (by kernel_rfl) (no (fun h => absurd h.1 (by decide +kernel)))
theorem inn_4_0 : Inn 4 0 := by
  constructor
  intro t W hl w ids a b A n c sn B m d q way s' R hnq hmw hnb hmb hs st hx yes no
  exact inn_skip hl [true, false, false] (A' := (true = true) ∧ (false = false) ∧ (false = false) ∧ True) ⟨rfl, rfl, rfl, trivial⟩ hs st (by kernel_rfl) (by kernel_rfl) (by kernel_rfl) (by show _ = _; kernel_rfl) (by kernel_rfl) (no (fun h => absurd h.1 (by decide +kernel)))
theorem inn_4_1 : Inn 4 1 := by
  constructor
  intro t W hl w ids a b A n c sn B m d q way s' R hnq hmw hnb hmb hs st hx yes no
  exact inn_skip hl [true, false, false] (A' := (true = true) ∧ (false = false) ∧ (false = false) ∧ True) ⟨rfl, rfl, rfl, trivial⟩ hs st (by kernel_rfl) (by kernel_rfl) (by kernel_rfl) (by show _ = _; kernel_rfl) (by kernel_rfl) (no (fun h => absurd h.1 (by decide +kernel)))
theorem inn_4_2 : Inn 4 2 := by
  constructor
  intro t W hl w ids a b A n c sn B m d q way s' R hnq hmw hnb hmb hs st hx yes no
  have e1 : (stepI 4 2).1 = 5 := by decide +kernel
  have e2 : (stepI 4 2).2.2 = 0 := by decide +kernel
  rw [e1] at yes no
  cases hc : sn 5 with
  | true => exact inn_skip hl [true, true, false] (A' := (true = true) ∧ (true = true) ∧ ((0 : Int) ≤ 5) ∧ ((5 : Int) < 11) ∧ ((!sn 5) = false) ∧ True) ⟨rfl, rfl, by decide, by decide, by simp [hc], trivial⟩ hs st (by kernel_rfl) (by kernel_rfl) (by kernel_rfl) (by show _ = _; kernel_rfl) (by kernel_rfl) (no (fun h => by have := h.2; simp [hc] at this))
  | false => exact inn_push hl (nx := 5) (sn' := fun i => if i = 5 then true else sn i) [true, true, true] (A' := (true = true) ∧ (true = true) ∧ ((0 : Int) ≤ 5) ∧ ((5 : Int) < 11) ∧ ((!sn 5) = true) ∧ ((0 : Int) ≤ 5) ∧ ((5 : Int) < 11) ∧ True) ⟨rfl, rfl, by decide, by decide, by simp [hc], by decide, by decide, trivial⟩ hnq hmw hnb hmb hs st hx (by kernel_rfl) (by kernel_rfl) (by kernel_rfl) (by show _ = _; kernel_rfl) (by kernel_rfl) (yes e2 hc)
theorem inn_4_3 : Inn 4 3 := by
  constructor
  intro t W hl w ids a b A n c sn B m d q way s' R hnq hmw hnb hmb hs st hx yes no
  have e1 : (stepI 4 3).1 = 0 := by decide +kernel
  have e2 : (stepI 4 3).2.2 = 0 := by decide +kernel
  rw [e1] at yes no
  cases hc : sn 0 with
  | true => exact inn_skip hl [true, true, false] (A' := (true = true) ∧ (true = true) ∧ ((0 : Int) ≤ 0) ∧ ((0 : Int) < 11) ∧ ((!sn 0) = false) ∧ True) ⟨rfl, rfl, by decide, by decide, by simp [hc], trivial⟩ hs st (by kernel_rfl) (by kernel_rfl) (by kernel_rfl) (by show _ = _; kernel_rfl) (by kernel_rfl) (no (fun h => by have := h.2; simp [hc] at this))
  | false => exact inn_push hl (nx := 0) (sn' := fun i => if i = 0 then true else sn i) [true, true, true] (A' := (true = true) ∧ (true = true) ∧ ((0 : Int) ≤ 0) ∧ ((0 : Int) < 11) ∧ ((!sn 0) = true) ∧ ((0 : Int) ≤ 0) ∧ ((0 : Int) < 11) ∧ True) ⟨rfl, rfl, by decide, by decide, by simp [hc], by decide, by decide, trivial⟩ hnq hmw hnb hmb hs st hx (by kernel_rfl) (by kernel_rfl) (by kernel_rfl) (by show _ = _; kernel_rfl) (by kernel_rfl) (yes e2 hc)
theorem inn_4_4 : Inn 4 4 := by
  constructor
  intro t W hl w ids a b A n c sn B m d q way s' R hnq hmw hnb hmb hs st hx yes no
  exact inn_skip hl [true, false, false] (A' := (true = true) ∧ (false = false) ∧ (false = false) ∧ True) ⟨rfl, rfl, rfl, trivial⟩ hs st (by kernel_rfl) (by kernel_rfl) (by kernel_rfl) (by show _ = _; kernel_rfl) (by kernel_rfl) (no (fun h => absurd h.1 (by decide +kernel)))
theorem inn_4_5 : Inn 4 5 := by
  constructor
  intro t W hl w ids a b A n c sn B m d q way s' R hnq hmw hnb hmb hs st hx yes no
  exact inn_skip hl [true, false, false] (A' := (true = true) ∧ (false = false) ∧ (false = false) ∧ True) ⟨rfl, rfl, rfl, trivial⟩ hs st (by kernel_rfl) (by kernel_rfl) (by kernel_rfl) (by show _ = _; kernel_rfl) (by kernel_rfl) (no (fun h => absurd h.1 (by decide +kernel)))
theorem inn_4_6 : Inn 4 6 := by
  constructor
  intro t W hl w ids a b A n c sn B m d q way s' R hnq hmw hnb hmb hs st hx yes no
  exact inn_skip hl [true, false, false] (A' := (true = true) ∧ (false = false) ∧ (false = false) ∧ True) ⟨rfl, rfl, rfl, trivial⟩ hs st (by kernel_rfl) (by kernel_rfl) (by kernel_rfl) (by show _ = _; kernel_rfl) (by kernel_rfl) (no (fun h => absurd h.1 (by decide +kernel)))
theorem inn_4_7 : Inn 4 7 := by
  constructor
  intro t W hl w ids a b A n c sn B m d q way s' R hnq hmw hnb hmb hs st hx yes no
  have e1 : (stepI 4 7).1 = 7 := by decide +kernel
  have e2 : (stepI 4 7).2.2 = 0 := by decide +kernel
  rw [e1] at yes no
  cases hc : sn 7 with
  | true => exact inn_skip hl [true, true, false] (A' := (true = true) ∧ (true = true) ∧ ((0 : Int) ≤ 7) ∧ ((7 : Int) < 11) ∧ ((!sn 7) = false) ∧ True) ⟨rfl, rfl, by decide, by decide, by simp [hc], trivial⟩ hs st (by kernel_rfl) (by kernel_rfl) (by kernel_rfl) (by show _ = _; kernel_rfl) (by kernel_rfl) (no (fun h => by have := h.2; simp [hc] at this))
  | false => exact inn_push hl (nx := 7) (sn' := fun i => if i = 7 then true else sn i) [true, true, true] (A' := (true = true) ∧ (true = true) ∧ ((0 : Int) ≤ 7) ∧ ((7 : Int) < 11) ∧ ((!sn 7) = true) ∧ ((0 : Int) ≤ 7) ∧ ((7 : Int) < 11) ∧ True) ⟨rfl, rfl, by decide, by decide, by simp [hc], by decide, by decide, trivial⟩ hnq hmw hnb hmb hs st hx (by kernel_rfl) (by kernel_rfl) (by kernel_rfl) (by show _ = _; kernel_rfl) (by kernel_rfl) (yes e2 hc)
theorem inn_4_8 : Inn 4 8 := by
  constructor
  intro t W hl w ids a b A n c sn B m d q way s' R hnq hmw hnb hmb hs st hx yes no
  have e1 : (stepI 4 8).1 = 0 := by decide +kernel
  have e2 : (stepI 4 8).2.2 = 0 := by decide +kernel
  rw [e1] at yes no
  cases hc : sn 0 with
  | true => exact inn_skip hl [true, true, false] (A' := (true = true) ∧ (true = true) ∧ ((0 : Int) ≤ 0) ∧ ((0 : Int) < 11) ∧ ((!sn 0) = false) ∧ True) ⟨rfl, rfl, by decide, by decide, by simp [hc], trivial⟩ hs st (by kernel_rfl) (by kernel_rfl) (by kernel_rfl) (by show _ = _; kernel_rfl) (by kernel_rfl) (no (fun h => by have := h.2; simp [hc] at this))
  | false => exact inn_push hl (nx := 0) (sn' := fun i => if i = 0 then true else sn i) [true, true, true] (A' := (true = true) ∧ (true = true) ∧ ((0 : Int) ≤ 0) ∧ ((0 : Int) < 11) ∧ ((!sn 0) = true) ∧ ((0 : Int) ≤ 0) ∧ ((0 : Int) < 11) ∧ True) ⟨rfl, rfl, by decide, by decide, by simp [hc], by decide, by decide, trivial⟩ hnq hmw hnb hmb hs st hx (by kernel_rfl) (by kernel_rfl) (by kernel_rfl) (by show _ = _; kernel_rfl) (by kernel_rfl) (yes e2 hc)
theorem inn_4_9 : Inn 4 9 := by
  constructor
  intro t W hl w ids a b A n c sn B m d q way s' R hnq hmw hnb hmb hs st hx yes no
  exact inn_skip hl [true, false, false] (A' := (true = true) ∧ (false = false) ∧ (false = false) ∧ True) ⟨rfl, rfl, rfl, trivial⟩ hs st (by kernel_rfl) (by kernel_rfl) (by kernel_rfl) (by show _ = _; kernel_rfl) (by kernel_rfl) (no (fun h => absurd h.1 (by decide +kernel)))
theorem inn_5_0 : Inn 5 0 := by
  constructor
  intro t W hl w ids a b A n c sn B m d q way s' R hnq hmw hnb hmb hs st hx yes no
  exact inn_skip hl [true, false, false] (A' := (true = true) ∧ (false = false) ∧ (false = false) ∧ True) ⟨rfl, rfl, rfl, trivial⟩ hs st (by kernel_rfl) (by kernel_rfl) (by kernel_rfl) (by show _ = _; kernel_rfl) (by kernel_rfl) (no (fun h => absurd h.1 (by decide +kernel)))
theorem inn_5_1 : Inn 5 1 := by
  constructor
  intro t W hl w ids a b A n c sn B m d q way s' R hnq hmw hnb hmb hs st hx yes no
  exact inn_skip hl [true, false, false] (A' := (true = true) ∧ (false = false) ∧ (false = false) ∧ True) ⟨rfl, rfl, rfl, trivial⟩ hs st (by kernel_rfl) (by kernel_rfl) (by kernel_rfl) (by show _ = _; kernel_rfl) (by kernel_rfl) (no (fun h => absurd h.1 (by decide +kernel)))
theorem inn_5_2 : Inn 5 2 := by
  constructor
  intro t W hl w ids a b A n c sn B m d q way s' R hnq hmw hnb hmb hs st hx yes no
  exact inn_skip hl [true, false, false] (A' := (true = true) ∧ (false = false) ∧ (false = false) ∧ True) ⟨rfl, rfl, rfl, trivial⟩ hs st (by kernel_rfl) (by kernel_rfl) (by kernel_rfl) (by show _ = _; kernel_rfl) (by kernel_rfl) (no (fun h => absurd h.1 (by decide +kernel)))
theorem inn_5_3 : Inn 5 3 := by
  constructor
  intro t W hl w ids a b A n c sn B m d q way s' R hnq hmw hnb hmb hs st hx yes no
  have e1 : (stepI 5 3).1 = 0 := by decide +kernel
  have e2 : (stepI 5 3).2.2 = 0 := by decide +kernel
  rw [e1] at yes no
  cases hc : sn 0 with
  | true => exact inn_skip hl [true, true, false] (A' := (true = true) ∧ (true = true) ∧ ((0 : Int) ≤ 0) ∧ ((0 : Int) < 11) ∧ ((!sn 0) = false) ∧ True) ⟨rfl, rfl, by decide, by decide, by simp [hc], trivial⟩ hs st (by kernel_rfl) (by kernel_rfl) (by kernel_rfl) (by show _ = _; kernel_rfl) (by kernel_rfl) (no (fun h => by have := h.2; simp [hc] at this))
  | false => exact inn_push hl (nx := 0) (sn' := fun i => if i = 0 then true else sn i) [true, true, true] (A' := (true = true) ∧ (true = true) ∧ ((0 : Int) ≤ 0) ∧ ((0 : Int) < 11) ∧ ((!sn 0) = true) ∧ ((0 : Int) ≤ 0) ∧ ((0 : Int) < 11) ∧ True) ⟨rfl, rfl, by decide, by decide, by simp [hc], by decide, by decide, trivial⟩ hnq hmw hnb hmb hs st hx (by kernel_rfl) (by kernel_rfl) (by kernel_rfl) (by show _ = _; kernel_rfl) (by kernel_rfl) (yes e2 hc)
theorem inn_5_4 : Inn 5 4 := by
  constructor
  intro t W hl w ids a b A n c sn B m d q way s' R hnq hmw hnb hmb hs st hx yes no
  exact inn_skip hl [true, false, false] (A' := (true = true) ∧ (false = false) ∧ (false = false) ∧ True) ⟨rfl, rfl, rfl, trivial⟩ hs st (by kernel_rfl) (by kernel_rfl) (by kernel_rfl) (by show _ = _; kernel_rfl) (by kernel_rfl) (no (fun h => absurd h.1 (by decide +kernel)))
theorem inn_5_5 : Inn 5 5 := by
  constructor
  intro t W hl w ids a b A n c sn B m d q way s' R hnq hmw hnb hmb hs st hx yes no
  exact inn_skip hl [true, false, false] (A' := (true = true) ∧ (false = false) ∧ (false = false) ∧ True) ⟨rfl, rfl, rfl, trivial⟩ hs st (by kernel_rfl) (by kernel_rfl) (by kernel_rfl) (by show _ = _; kernel_rfl) (by kernel_rfl) (no (fun h => absurd h.1 (by decide +kernel)))
theorem inn_5_6 : Inn 5 6 := by
  constructor
  intro t W hl w ids a b A n c sn B m d q way s' R hnq hmw hnb hmb hs st hx yes no
  have e1 : (stepI 5 6).1 = 6 := by decide +kernel
  have e2 : (stepI 5 6).2.2 = 0 := by decide +kernel
  rw [e1] at yes no
  cases hc : sn 6 with
  | true => exact inn_skip hl [true, true, false] (A' := (true = true) ∧ (true = true) ∧ ((0 : Int) ≤ 6) ∧ ((6 : Int) < 11) ∧ ((!sn 6) = false) ∧ True) ⟨rfl, rfl, by decide, by decide, by simp [hc], trivial⟩ hs st (by kernel_rfl) (by kernel_rfl) (by kernel_rfl) (by show _ = _; kernel_rfl) (by kernel_rfl) (no (fun h => by have := h.2; simp [hc] at this))
  | false => exact inn_push hl (nx := 6) (sn' := fun i => if i = 6 then true else sn i) [true, true, true] (A' := (true = true) ∧ (true = true) ∧ ((0 : Int) ≤ 6) ∧ ((6 : Int) < 11) ∧ ((!sn 6) = true) ∧ ((0 : Int) ≤ 6) ∧ ((6 : Int) < 11) ∧ True) ⟨rfl, rfl, by decide, by decide, by simp [hc], by decide, by decide, trivial⟩ hnq hmw hnb hmb hs st hx (by kernel_rfl) (by kernel_rfl) (by kernel_rfl) (by show _ = _; kernel_rfl) (by kernel_rfl) (yes e2 hc)
theorem inn_5_7 : Inn 5 7 := by
  constructor
  intro t W hl w ids a b A n c sn B m d q way s' R hnq hmw hnb hmb hs st hx yes no
  have e1 : (stepI 5 7).1 = 8 := by decide +kernel
  have e2 : (stepI 5 7).2.2 = 0 := by decide +kernel
  rw [e1] at yes no
  cases hc : sn 8 with
  | true => exact inn_skip hl [true, true, false] (A' := (true = true) ∧ (true = true) ∧ ((0 : Int) ≤ 8) ∧ ((8 : Int) < 11) ∧ ((!sn 8) = false) ∧ True) ⟨rfl, rfl, by decide, by decide, by simp [hc], trivial⟩ hs st (by kernel_rfl) (by kernel_rfl) (by kernel_rfl) (by show _ = _; kernel_rfl) (by kernel_rfl) (no (fun h => by have := h.2; simp [hc] at this))
  | false => exact inn_push hl (nx := 8) (sn' := fun i => if i = 8 then true else sn i) [true, true, true] (A' := (true = true) ∧ (true = true) ∧ ((0 : Int) ≤ 8) ∧ ((8 : Int) < 11) ∧ ((!sn 8) = true) ∧ ((0 : Int) ≤ 8) ∧ ((8 : Int) < 11) ∧ True) ⟨rfl, rfl, by decide, by decide, by simp [hc], by decide, by decide, trivial⟩ hnq hmw hnb hmb hs st hx (by kernel_rfl) (by kernel_rfl) (by kernel_rfl) (by show _ = _; kernel_rfl) (by kernel_rfl) (yes e2 hc)
theorem inn_5_8 : Inn 5 8 := by
  constructor
  intro t W hl w ids a b A n c sn B m d q way s' R hnq hmw hnb hmb hs st hx yes no
  have e1 : (stepI 5 8).1 = 0 := by decide +kernel
  have e2 : (stepI 5 8).2.2 = 0 := by decide +kernel
  rw [e1] at yes no
  cases hc : sn 0 with
  | true => exact inn_skip hl [true, true, false] (A' := (true = true) ∧ (true = true) ∧ ((0 : Int) ≤ 0) ∧ ((0 : Int) < 11) ∧ ((!sn 0) = false) ∧ True) ⟨rfl, rfl, by decide, by decide, by simp [hc], trivial⟩ hs st (by kernel_rfl) (by kernel_rfl) (by kernel_rfl) (by show _ = _; kernel_rfl) (by kernel_rfl) (no (fun h => by have := h.2; simp [hc] at this))
  | false => exact inn_push hl (nx := 0) (sn' := fun i => if i = 0 then true else sn i) [true, true, true] (A' := (true = true) ∧ (true = true) ∧ ((0 : Int) ≤ 0) ∧ ((0 : Int) < 11) ∧ ((!sn 0) = true) ∧ ((0 : Int) ≤ 0) ∧ ((0 : Int) < 11) ∧ True) ⟨rfl, rfl, by decide, by decide, by simp [hc], by decide, by decide, trivial⟩ hnq hmw hnb hmb hs st hx (by kernel_rfl) (by kernel_rfl) (by kernel_rfl) (by show _ = _; kernel_rfl) (by kernel_rfl) (yes e2 hc)
theorem inn_5_9 : Inn 5 9 := by
  constructor
  intro t W hl w ids a b A n c sn B m d q way s' R hnq hmw hnb hmb hs st hx yes no
  exact inn_skip hl [true, false, false] (A' := (true = true) ∧ (false = false) ∧ (false = false) ∧ True) ⟨rfl, rfl, rfl, trivial⟩ hs st (by kernel_rfl) (by kernel_rfl) (by kernel_rfl) (by show _ = _; kernel_rfl) (by kernel_rfl) (no (fun h => absurd h.1 (by decide +kernel)))
theorem inn_6_0 : Inn 6 0 := by
  constructor
  intro t W hl w ids a b A n c sn B m d q way s' R hnq hmw hnb hmb hs st hx yes no
  exact inn_skip hl [true, false, false] (A' := (true = true) ∧ (false = false) ∧ (false = false) ∧ True) ⟨rfl, rfl, rfl, trivial⟩ hs st (by kernel_rfl) (by kernel_rfl) (by kernel_rfl) (by show _ = _; kernel_rfl) (by kernel_rfl) (no (fun h => absurd h.1 (by decide +kernel)))
theorem inn_6_1 : Inn 6 1 := by
  constructor
  intro t W hl w ids a b A n c sn B m d q way s' R hnq hmw hnb hmb hs st hx yes no
  exact inn_skip hl [true, false, false] (A' := (true = true) ∧ (false = false) ∧ (false = false) ∧ True) ⟨rfl, rfl, rfl, trivial⟩ hs st (by kernel_rfl) (by kernel_rfl) (by kernel_rfl) (by show _ = _; kernel_rfl) (by kernel_rfl) (no (fun h => absurd h.1 (by decide +kernel)))
theorem inn_6_2 : Inn 6 2 := by
  constructor
  intro t W hl w ids a b A n c sn B m d q way s' R hnq hmw hnb hmb hs st hx yes no
  exact inn_skip hl [true, false, false] (A' := (true = true) ∧ (false = false) ∧ (false = false) ∧ True) ⟨rfl, rfl, rfl, trivial⟩ hs st (by kernel_rfl) (by kernel_rfl) (by kernel_rfl) (by show _ = _; kernel_rfl) (by kernel_rfl) (no (fun h => absurd h.1 (by decide +kernel)))
theorem inn_6_3 : Inn 6 3 := by
  constructor
  intro t W hl w ids a b A n c sn B m d q way s' R hnq hmw hnb hmb hs st hx yes no
  have e1 : (stepI 6 3).1 = 0 := by decide +kernel
  have e2 : (stepI 6 3).2.2 = 0 := by decide +kernel
  rw [e1] at yes no
  cases hc : sn 0 with
  | true => exact inn_skip hl [true, true, false] (A' := (true = true) ∧ (true = true) ∧ ((0 : Int) ≤ 0) ∧ ((0 : Int) < 11) ∧ ((!sn 0) = false) ∧ True) ⟨rfl, rfl, by decide, by decide, by simp [hc], trivial⟩ hs st (by kernel_rfl) (by kernel_rfl) (by kernel_rfl) (by show _ = _; kernel_rfl) (by kernel_rfl) (no (fun h => by have := h.2; simp [hc] at this))
  | false => exact inn_push hl (nx := 0) (sn' := fun i => if i = 0 then true else sn i) [true, true, true] (A' := (true = true) ∧ (true = true) ∧ ((0 : Int) ≤ 0) ∧ ((0 : Int) < 11) ∧ ((!sn 0) = true) ∧ ((0 : Int) ≤ 0) ∧ ((0 : Int) < 11) ∧ True) ⟨rfl, rfl, by decide, by decide, by simp [hc], by decide, by decide, trivial⟩ hnq hmw hnb hmb hs st hx (by kernel_rfl) (by kernel_rfl) (by kernel_rfl) (by show _ = _; kernel_rfl) (by kernel_rfl) (yes e2 hc)
theorem inn_6_4 : Inn 6 4 := by
  constructor
  intro t W hl w ids a b A n c sn B m d q way s' R hnq hmw hnb hmb hs st hx yes no
  exact inn_skip hl [true, false, false] (A' := (true = true) ∧ (false = false) ∧ (false = false) ∧ True) ⟨rfl, rfl, rfl, trivial⟩ hs st (by kernel_rfl) (by kernel_rfl) (by kernel_rfl) (by show _ = _; kernel_rfl) (by kernel_rfl) (no (fun h => absurd h.1 (by decide +kernel)))
theorem inn_6_5 : Inn 6 5 := by
  constructor
  intro t W hl w ids a b A n c sn B m d q way s' R hnq hmw hnb hmb hs st hx yes no
  exact inn_skip hl [true, false, false] (A' := (true = true) ∧ (false = false) ∧ (false = false) ∧ True) ⟨rfl, rfl, rfl, trivial⟩ hs st (by kernel_rfl) (by kernel_rfl) (by kernel_rfl) (by show _ = _; kernel_rfl) (by kernel_rfl) (no (fun h => absurd h.1 (by decide +kernel)))
theorem inn_6_6 : Inn 6 6 := by
  constructor
  intro t W hl w ids a b A n c sn B m d q way s' R hnq hmw hnb hmb hs st hx yes no
  exact inn_skip hl [true, false, false] (A' := (true = true) ∧ (false = false) ∧ (false = false) ∧ True) ⟨rfl, rfl, rfl, trivial⟩ hs st (by kernel_rfl) (by kernel_rfl) (by kernel_rfl) (by show _ = _; kernel_rfl) (by kernel_rfl) (no (fun h => absurd h.1 (by decide +kernel)))
theorem inn_6_7 : Inn 6 7 := by
  constructor
  intro t W hl w ids a b A n c sn B m d q way s' R hnq hmw hnb hmb hs st hx yes no
  have e1 : (stepI 6 7).1 = 10 := by decide +kernel
  have e2 : (stepI 6 7).2.2 = 0 := by decide +kernel
  rw [e1] at yes no
  cases hc : sn 10 with
  | true => exact inn_skip hl [true, true, false] (A' := (true = true) ∧ (true = true) ∧ ((0 : Int) ≤ 10) ∧ ((10 : Int) < 11) ∧ ((!sn 10) = false) ∧ True) ⟨rfl, rfl, by decide, by decide, by simp [hc], trivial⟩ hs st (by kernel_rfl) (by kernel_rfl) (by kernel_rfl) (by show _ = _; kernel_rfl) (by kernel_rfl) (no (fun h => by have := h.2; simp [hc] at this))
  | false => exact inn_push hl (nx := 10) (sn' := fun i => if i = 10 then true else sn i) [true, true, true] (A' := (true = true) ∧ (true = true) ∧ ((0 : Int) ≤ 10) ∧ ((10 : Int) < 11) ∧ ((!sn 10) = true) ∧ ((0 : Int) ≤ 10) ∧ ((10 : Int) < 11) ∧ True) ⟨rfl, rfl, by decide, by decide, by simp [hc], by decide, by decide, trivial⟩ hnq hmw hnb hmb hs st hx (by kernel_rfl) (by kernel_rfl) (by kernel_rfl) (by show _ = _; kernel_rfl) (by kernel_rfl) (yes e2 hc)
theorem inn_6_8 : Inn 6 8 := by
  constructor
  intro t W hl w ids a b A n c sn B m d q way s' R hnq hmw hnb hmb hs st hx yes no
  have e1 : (stepI 6 8).1 = 0 := by decide +kernel
  have e2 : (stepI 6 8).2.2 = 0 := by decide +kernel
  rw [e1] at yes no
  cases hc : sn 0 with
  | true => exact inn_skip hl [true, true, false] (A' := (true = true) ∧ (true = true) ∧ ((0 : Int) ≤ 0) ∧ ((0 : Int) < 11) ∧ ((!sn 0) = false) ∧ True) ⟨rfl, rfl, by decide, by decide, by simp [hc], trivial⟩ hs st (by kernel_rfl) (by kernel_rfl) (by kernel_rfl) (by show _ = _; kernel_rfl) (by kernel_rfl) (no (fun h => by have := h.2; simp [hc] at this))
  | false => exact inn_push hl (nx := 0) (sn' := fun i => if i = 0 then true else sn i) [true, true, true] (A' := (true = true) ∧ (true = true) ∧ ((0 : Int) ≤ 0) ∧ ((0 : Int) < 11) ∧ ((!sn 0) = true) ∧ ((0 : Int) ≤ 0) ∧ ((0 : Int) < 11) ∧ True) ⟨rfl, rfl, by decide, by decide, by simp [hc], by decide, by decide, trivial⟩ hnq hmw hnb hmb hs st hx (by kernel_rfl) (by kernel_rfl) (by kernel_rfl) (by show _ = _; kernel_rfl) (by kernel_rfl) (yes e2 hc)
theorem inn_6_9 : Inn 6 9 := by
  constructor
  intro t W hl w ids a b A n c sn B m d q way s' R hnq hmw hnb hmb hs st hx yes no
  exact inn_skip hl [true, false, false] (A' := (true = true) ∧ (false = false) ∧ (false = false) ∧ True) ⟨rfl, rfl, rfl, trivial⟩ hs st (by kernel_rfl) (by kernel_rfl) (by kernel_rfl) (by show _ = _; kernel_rfl) (by kernel_rfl) (no (fun h => absurd h.1 (by decide +kernel)))
theorem inn_7_0 : Inn 7 0 := by
  constructor
  intro t W hl w ids a b A n c sn B m d q way s' R hnq hmw hnb hmb hs st hx yes no
  exact inn_skip hl [true, false, false] (A' := (true = true) ∧ (false = false) ∧ (false = false) ∧ True) ⟨rfl, rfl, rfl, trivial⟩ hs st (by kernel_rfl) (by kernel_rfl) (by kernel_rfl) (by show _ = _; kernel_rfl) (by kernel_rfl) (no (fun h => absurd h.1 (by decide +kernel)))
theorem inn_7_1 : Inn 7 1 := by
  constructor
  intro t W hl w ids a b A n c sn B m d q way s' R hnq hmw hnb hmb hs st hx yes no
  exact inn_skip hl [true, false, false] (A' := (true = true) ∧ (false = false) ∧ (false = false) ∧ True) ⟨rfl, rfl, rfl, trivial⟩ hs st (by kernel_rfl) (by kernel_rfl) (by kernel_rfl) (by show _ = _; kernel_rfl) (by kernel_rfl) (no (fun h => absurd h.1 (by decide +kernel)))
theorem inn_7_2 : Inn 7 2 := by
  constructor
  intro t W hl w ids a b A n c sn B m d q way s' R hnq hmw hnb hmb hs st hx yes no
  have e1 : (stepI 7 2).1 = 9 := by decide +kernel
  have e2 : (stepI 7 2).2.2 = 0 := by decide +kernel
  rw [e1] at yes no
  cases hc : sn 9 with
  | true => exact inn_skip hl [true, true, false] (A' := (true = true) ∧ (true = true) ∧ ((0 : Int) ≤ 9) ∧ ((9 : Int) < 11) ∧ ((!sn 9) = false) ∧ True) ⟨rfl, rfl, by decide, by decide, by simp [hc], trivial⟩ hs st (by kernel_rfl) (by kernel_rfl) (by kernel_rfl) (by show _ = _; kernel_rfl) (by kernel_rfl) (no (fun h => by have := h.2; simp [hc] at this))
  | false => exact inn_push hl (nx := 9) (sn' := fun i => if i = 9 then true else sn i) [true, true, true] (A' := (true = true) ∧ (true = true) ∧ ((0 : Int) ≤ 9) ∧ ((9 : Int) < 11) ∧ ((!sn 9) = true) ∧ ((0 : Int) ≤ 9) ∧ ((9 : Int) < 11) ∧ True) ⟨rfl, rfl, by decide, by decide, by simp [hc], by decide, by decide, trivial⟩ hnq hmw hnb hmb hs st hx (by kernel_rfl) (by kernel_rfl) (by kernel_rfl) (by show _ = _; kernel_rfl) (by kernel_rfl) (yes e2 hc)
theorem inn_7_3 : Inn 7 3 := by
  constructor
  intro t W hl w ids a b A n c sn B m d q way s' R hnq hmw hnb hmb hs st hx yes no
  have e1 : (stepI 7 3).1 = 0 := by decide +kernel
  have e2 : (stepI 7 3).2.2 = 0 := by decide +kernel
  rw [e1] at yes no
  cases hc : sn 0 with
  | true => exact inn_skip hl [true, true, false] (A' := (true = true) ∧ (true = true) ∧ ((0 : Int) ≤ 0) ∧ ((0 : Int) < 11) ∧ ((!sn 0) = false) ∧ True) ⟨rfl, rfl, by decide, by decide, by simp [hc], trivial⟩ hs st (by kernel_rfl) (by kernel_rfl) (by kernel_rfl) (by show _ = _; kernel_rfl) (by kernel_rfl) (no (fun h => by have := h.2; simp [hc] at this))
  | false => exact inn_push hl (nx := 0) (sn' := fun i => if i = 0 then true else sn i) [true, true, true] (A' := (true = true) ∧ (true = true) ∧ ((0 : Int) ≤ 0) ∧ ((0 : Int) < 11) ∧ ((!sn 0) = true) ∧ ((0 : Int) ≤ 0) ∧ ((0 : Int) < 11) ∧ True) ⟨rfl, rfl, by decide, by decide, by simp [hc], by decide, by decide, trivial⟩ hnq hmw hnb hmb hs st hx (by kernel_rfl) (by kernel_rfl) (by kernel_rfl) (by show _ = _; kernel_rfl) (by kernel_rfl) (yes e2 hc)
theorem inn_7_4 : Inn 7 4 := by
  constructor
  intro t W hl w ids a b A n c sn B m d q way s' R hnq hmw hnb hmb hs st hx yes no
  exact inn_skip hl [true, false, false] (A' := (true = true) ∧ (false = false) ∧ (false = false) ∧ True) ⟨rfl, rfl, rfl, trivial⟩ hs st (by kernel_rfl) (by kernel_rfl) (by kernel_rfl) (by show _ = _; kernel_rfl) (by kernel_rfl) (no (fun h => absurd h.1 (by decide +kernel)))
theorem inn_7_5 : Inn 7 5 := by
  constructor
  intro t W hl w ids a b A n c sn B m d q way s' R hnq hmw hnb hmb hs st hx yes no
  exact inn_skip hl [true, false, false] (A' := (true = true) ∧ (false = false) ∧ (false = false) ∧ True) ⟨rfl, rfl, rfl, trivial⟩ hs st (by kernel_rfl) (by kernel_rfl) (by kernel_rfl) (by show _ = _; kernel_rfl) (by kernel_rfl) (no (fun h => absurd h.1 (by decide +kernel)))
theorem inn_7_6 : Inn 7 6 := by
  constructor
  intro t W hl w ids a b A n c sn B m d q way s' R hnq hmw hnb hmb hs st hx yes no
  exact inn_skip hl [true, false, false] (A' := (true = true) ∧ (false = false) ∧ (false = false) ∧ True) ⟨rfl, rfl, rfl, trivial⟩ hs st (by kernel_rfl) (by kernel_rfl) (by kernel_rfl) (by show _ = _; kernel_rfl) (by kernel_rfl) (no (fun h => absurd h.1 (by decide +kernel)))
theorem inn_7_7 : Inn 7 7 := by
  constructor
  intro t W hl w ids a b A n c sn B m d q way s' R hnq hmw hnb hmb hs st hx yes no
  exact inn_skip hl [true, false, false] (A' := (true = true) ∧ (false = false) ∧ (false = false) ∧ True) ⟨rfl, rfl, rfl, trivial⟩ hs st (by kernel_rfl) (by kernel_rfl) (by kernel_rfl) (by show _ = _; kernel_rfl) (by kernel_rfl) (no (fun h => absurd h.1 (by decide +kernel)))
theorem inn_7_8 : Inn 7 8 := by
  constructor
  intro t W hl w ids a b A n c sn B m d q way s' R hnq hmw hnb hmb hs st hx yes no
  have e1 : (stepI 7 8).1 = 0 := by decide +kernel
  have e2 : (stepI 7 8).2.2 = 0 := by decide +kernel
  rw [e1] at yes no
  cases hc : sn 0 with
  | true => exact inn_skip hl [true, true, false] (A' := (true = true) ∧ (true = true) ∧ ((0 : Int) ≤ 0) ∧ ((0 : Int) < 11) ∧ ((!sn 0) = false) ∧ True) ⟨rfl, rfl, by decide, by decide, by simp [hc], trivial⟩ hs st (by kernel_rfl) (by kernel_rfl) (by kernel_rfl) (by show _ = _; kernel_rfl) (by kernel_rfl) (no (fun h => by have := h.2; simp [hc] at this))
  | false => exact inn_push hl (nx := 0) (sn' := fun i => if i = 0 then true else sn i) [true, true, true] (A' := (true = true) ∧ (true = true) ∧ ((0 : Int) ≤ 0) ∧ ((0 : Int) < 11) ∧ ((!sn 0) = true) ∧ ((0 : Int) ≤ 0) ∧ ((0 : Int) < 11) ∧ True) ⟨rfl, rfl, by decide, by decide, by simp [hc], by decide, by decide, trivial⟩ hnq hmw hnb hmb hs st hx (by kernel_rfl) (by kernel_rfl) (by kernel_rfl) (by show _ = _; kernel_rfl) (by kernel_rfl) (yes e2 hc)
theorem inn_7_9 : Inn 7 9 := by
  constructor
  intro t W hl w ids a b A n c sn B m d q way s' R hnq hmw hnb hmb hs st hx yes no
  exact inn_skip hl [true, false, false] (A' := (true = true) ∧ (false = false) ∧ (false = false) ∧ True) ⟨rfl, rfl, rfl, trivial⟩ hs st (by kernel_rfl) (by kernel_rfl) (by kernel_rfl) (by show _ = _; kernel_rfl) (by kernel_rfl) (no (fun h => absurd h.1 (by decide +kernel)))
theorem inn_8_0 : Inn 8 0 := by
  constructor
  intro t W hl w ids a b A n c sn B m d q way s' R hnq hmw hnb hmb hs st hx yes no
  exact inn_skip hl [true, false, false] (A' := (true = true) ∧ (false = false) ∧ (false = false) ∧ True) ⟨rfl, rfl, rfl, trivial⟩ hs st (by kernel_rfl) (by kernel_rfl) (by kernel_rfl) (by show _ = _; kernel_rfl) (by kernel_rfl) (no (fun h => absurd h.1 (by decide +kernel)))
theorem inn_8_1 : Inn 8 1 := by
  constructor
  intro t W hl w ids a b A n c sn B m d q way s' R hnq hmw hnb hmb hs st hx yes no
  exact inn_skip hl [true, false, false] (A' := (true = true) ∧ (false = false) ∧ (false = false) ∧ True) ⟨rfl, rfl, rfl, trivial⟩ hs st (by kernel_rfl) (by kernel_rfl) (by kernel_rfl) (by show _ = _; kernel_rfl) (by kernel_rfl) (no (fun h => absurd h.1 (by decide +kernel)))
theorem inn_8_2 : Inn 8 2 := by
  constructor
  intro t W hl w ids a b A n c sn B m d q way s' R hnq hmw hnb hmb hs st hx yes no
  exact inn_skip hl [true, false, false] (A' := (true = true) ∧ (false = false) ∧ (false = false) ∧ True) ⟨rfl, rfl, rfl, trivial⟩ hs st (by kernel_rfl) (by kernel_rfl) (by kernel_rfl) (by show _ = _; kernel_rfl) (by kernel_rfl) (no (fun h => absurd h.1 (by decide +kernel)))
theorem inn_8_3 : Inn 8 3 := by
  constructor
  intro t W hl w ids a b A n c sn B m d q way s' R hnq hmw hnb hmb hs st hx yes no
  have e1 : (stepI 8 3).1 = 0 := by decide +kernel
  have e2 : (stepI 8 3).2.2 = 0 := by decide +kernel
  rw [e1] at yes no
  cases hc : sn 0 with
  | true => exact inn_skip hl [true, true, false] (A' := (true = true) ∧ (true = true) ∧ ((0 : Int) ≤ 0) ∧ ((0 : Int) < 11) ∧ ((!sn 0) = false) ∧ True) ⟨rfl, rfl, by decide, by decide, by simp [hc], trivial⟩ hs st (by kernel_rfl) (by kernel_rfl) (by kernel_rfl) (by show _ = _; kernel_rfl) (by kernel_rfl) (no (fun h => by have := h.2; simp [hc] at this))
  | false => exact inn_push hl (nx := 0) (sn' := fun i => if i = 0 then true else sn i) [true, true, true] (A' := (true = true) ∧ (true = true) ∧ ((0 : Int) ≤ 0) ∧ ((0 : Int) < 11) ∧ ((!sn 0) = true) ∧ ((0 : Int) ≤ 0) ∧ ((0 : Int) < 11) ∧ True) ⟨rfl, rfl, by decide, by decide, by simp [hc], by decide, by decide, trivial⟩ hnq hmw hnb hmb hs st hx (by kernel_rfl) (by kernel_rfl) (by kernel_rfl) (by show _ = _; kernel_rfl) (by kernel_rfl) (yes e2 hc)
theorem inn_8_4 : Inn 8 4 := by
  constructor
  intro t W hl w ids a b A n c sn B m d q way s' R hnq hmw hnb hmb hs st hx yes no
  exact inn_skip hl [true, false, false] (A' := (true = true) ∧ (false = false) ∧ (false = false) ∧ True) ⟨rfl, rfl, rfl, trivial⟩ hs st (by kernel_rfl) (by kernel_rfl) (by kernel_rfl) (by show _ = _; kernel_rfl) (by kernel_rfl) (no (fun h => absurd h.1 (by decide +kernel)))
theorem inn_8_5 : Inn 8 5 := by
  constructor
  intro t W hl w ids a b A n c sn B m d q way s' R hnq hmw hnb hmb hs st hx yes no
  exact inn_skip hl [true, false, false] (A' := (true = true) ∧ (false = false) ∧ (false = false) ∧ True) ⟨rfl, rfl, rfl, trivial⟩ hs st (by kernel_rfl) (by kernel_rfl) (by kernel_rfl) (by show _ = _; kernel_rfl) (by kernel_rfl) (no (fun h => absurd h.1 (by decide +kernel)))
theorem inn_8_6 : Inn 8 6 := by
  constructor
  intro t W hl w ids a b A n c sn B m d q way s' R hnq hmw hnb hmb hs st hx yes no
  have e1 : (stepI 8 6).1 = 10 := by decide +kernel
  have e2 : (stepI 8 6).2.2 = 0 := by decide +kernel
  rw [e1] at yes no
  cases hc : sn 10 with
  | true => exact inn_skip hl [true, true, false] (A' := (true = true) ∧ (true = true) ∧ ((0 : Int) ≤ 10) ∧ ((10 : Int) < 11) ∧ ((!sn 10) = false) ∧ True) ⟨rfl, rfl, by decide, by decide, by simp [hc], trivial⟩ hs st (by kernel_rfl) (by kernel_rfl) (by kernel_rfl) (by show _ = _; kernel_rfl) (by kernel_rfl) (no (fun h => by have := h.2; simp [hc] at this))
  | false => exact inn_push hl (nx := 10) (sn' := fun i => if i = 10 then true else sn i) [true, true, true] (A' := (true = true) ∧ (true = true) ∧ ((0 : Int) ≤ 10) ∧ ((10 : Int) < 11) ∧ ((!sn 10) = true) ∧ ((0 : Int) ≤ 10) ∧ ((10 : Int) < 11) ∧ True) ⟨rfl, rfl, by decide, by decide, by simp [hc], by decide, by decide, trivial⟩ hnq hmw hnb hmb hs st hx (by kernel_rfl) (by kernel_rfl) (by kernel_rfl) (by show _ = _; kernel_rfl) (by kernel_rfl) (yes e2 hc)
theorem inn_8_7 : Inn 8 7 := by
  constructor
  intro t W hl w ids a b A n c sn B m d q way s' R hnq hmw hnb hmb hs st hx yes no
  exact inn_skip hl [true, false, false] (A' := (true = true) ∧ (false = false) ∧ (false = false) ∧ True) ⟨rfl, rfl, rfl, trivial⟩ hs st (by kernel_rfl) (by kernel_rfl) (by kernel_rfl) (by show _ = _; kernel_rfl) (by kernel_rfl) (no (fun h => absurd h.1 (by decide +kernel)))
theorem inn_8_8 : Inn 8 8 := by
  constructor
  intro t W hl w ids a b A n c sn B m d q way s' R hnq hmw hnb hmb hs st hx yes no
  have e1 : (stepI 8 8).1 = 0 := by decide +kernel
  have e2 : (stepI 8 8).2.2 = 0 := by decide +kernel
  rw [e1] at yes no
  cases hc : sn 0 with
  | true => exact inn_skip hl [true, true, false] (A' := (true = true) ∧ (true = true) ∧ ((0 : Int) ≤ 0) ∧ ((0 : Int) < 11) ∧ ((!sn 0) = false) ∧ True) ⟨rfl, rfl, by decide, by decide, by simp [hc], trivial⟩ hs st (by kernel_rfl) (by kernel_rfl) (by kernel_rfl) (by show _ = _; kernel_rfl) (by kernel_rfl) (no (fun h => by have := h.2; simp [hc] at this))
  | false => exact inn_push hl (nx := 0) (sn' := fun i => if i = 0 then true else sn i) [true, true, true] (A' := (true = true) ∧ (true = true) ∧ ((0 : Int) ≤ 0) ∧ ((0 : Int) < 11) ∧ ((!sn 0) = true) ∧ ((0 : Int) ≤ 0) ∧ ((0 : Int) < 11) ∧ True) ⟨rfl, rfl, by decide, by decide, by simp [hc], by decide, by decide, trivial⟩ hnq hmw hnb hmb hs st hx (by kernel_rfl) (by kernel_rfl) (by kernel_rfl) (by show _ = _; kernel_rfl) (by kernel_rfl) (yes e2 hc)
theorem inn_8_9 : Inn 8 9 := by
  constructor
  intro t W hl w ids a b A n c sn B m d q way s' R hnq hmw hnb hmb hs st hx yes no
  exact inn_skip hl [true, false, false] (A' := (true = true) ∧ (false = false) ∧ (false = false) ∧ True) ⟨rfl, rfl, rfl, trivial⟩ hs st (by kernel_rfl) (by kernel_rfl) (by kernel_rfl) (by show _ = _; kernel_rfl) (by kernel_rfl) (no (fun h => absurd h.1 (by decide +kernel)))
theorem inn_9_0 : Inn 9 0 := by
  constructor
  intro t W hl w ids a b A n c sn B m d q way s' R hnq hmw hnb hmb hs st hx yes no
  exact inn_skip hl [true, false, false] (A' := (true = true) ∧ (false = false) ∧ (false = false) ∧ True) ⟨rfl, rfl, rfl, trivial⟩ hs st (by kernel_rfl) (by kernel_rfl) (by kernel_rfl) (by show _ = _; kernel_rfl) (by kernel_rfl) (no (fun h => absurd h.1 (by decide +kernel)))
theorem inn_9_1 : Inn 9 1 := by
  constructor
  intro t W hl w ids a b A n c sn B m d q way s' R hnq hmw hnb hmb hs st hx yes no
  exact inn_skip hl [true, false, false] (A' := (true = true) ∧ (false = false) ∧ (false = false) ∧ True) ⟨rfl, rfl, rfl, trivial⟩ hs st (by kernel_rfl) (by kernel_rfl) (by kernel_rfl) (by show _ = _; kernel_rfl) (by kernel_rfl) (no (fun h => absurd h.1 (by decide +kernel)))
theorem inn_9_2 : Inn 9 2 := by
  constructor
  intro t W hl w ids a b A n c sn B m d q way s' R hnq hmw hnb hmb hs st hx yes no
  exact inn_skip hl [true, false, false] (A' := (true = true) ∧ (false = false) ∧ (false = false) ∧ True) ⟨rfl, rfl, rfl, trivial⟩ hs st (by kernel_rfl) (by kernel_rfl) (by kernel_rfl) (by show _ = _; kernel_rfl) (by kernel_rfl) (no (fun h => absurd h.1 (by decide +kernel)))
theorem inn_9_3 : Inn 9 3 := by
  constructor
  intro t W hl w ids a b A n c sn B m d q way s' R hnq hmw hnb hmb hs st hx yes no
  have e1 : (stepI 9 3).1 = 0 := by decide +kernel
  have e2 : (stepI 9 3).2.2 = 0 := by decide +kernel
  rw [e1] at yes no
  cases hc : sn 0 with
  | true => exact inn_skip hl [true, true, false] (A' := (true = true) ∧ (true = true) ∧ ((0 : Int) ≤ 0) ∧ ((0 : Int) < 11) ∧ ((!sn 0) = false) ∧ True) ⟨rfl, rfl, by decide, by decide, by simp [hc], trivial⟩ hs st (by kernel_rfl) (by kernel_rfl) (by kernel_rfl) (by show _ = _; kernel_rfl) (by kernel_rfl) (no (fun h => by have := h.2; simp [hc] at this))
  | false => exact inn_push hl (nx := 0) (sn' := fun i => if i = 0 then true else sn i) [true, true, true] (A' := (true = true) ∧ (true = true) ∧ ((0 : Int) ≤ 0) ∧ ((0 : Int) < 11) ∧ ((!sn 0) = true) ∧ ((0 : Int) ≤ 0) ∧ ((0 : Int) < 11) ∧ True) ⟨rfl, rfl, by decide, by decide, by simp [hc], by decide, by decide, trivial⟩ hnq hmw hnb hmb hs st hx (by kernel_rfl) (by kernel_rfl) (by kernel_rfl) (by show _ = _; kernel_rfl) (by kernel_rfl) (yes e2 hc)
theorem inn_9_4 : Inn 9 4 := by
  constructor
  intro t W hl w ids a b A n c sn B m d q way s' R hnq hmw hnb hmb hs st hx yes no
  exact inn_skip hl [true, false, false] (A' := (true = true) ∧ (false = false) ∧ (false = false) ∧ True) ⟨rfl, rfl, rfl, trivial⟩ hs st (by kernel_rfl) (by kernel_rfl) (by kernel_rfl) (by show _ = _; kernel_rfl) (by kernel_rfl) (no (fun h => absurd h.1 (by decide +kernel)))
theorem inn_9_5 : Inn 9 5 := by
  constructor
  intro t W hl w ids a b A n c sn B m d q way s' R hnq hmw hnb hmb hs st hx yes no
  exact inn_skip hl [true, false, false] (A' := (true = true) ∧ (false = false) ∧ (false = false) ∧ True) ⟨rfl, rfl, rfl, trivial⟩ hs st (by kernel_rfl) (by kernel_rfl) (by kernel_rfl) (by show _ = _; kernel_rfl) (by kernel_rfl) (no (fun h => absurd h.1 (by decide +kernel)))
theorem inn_9_6 : Inn 9 6 := by
  constructor
  intro t W hl w ids a b A n c sn B m d q way s' R hnq hmw hnb hmb hs st hx yes no
  have e1 : (stepI 9 6).1 = 0 := by decide +kernel
  have e2 : (stepI 9 6).2.2 = 0 := by decide +kernel
  rw [e1] at yes no
  cases hc : sn 0 with
  | true => exact inn_skip hl [true, true, false] (A' := (true = true) ∧ (true = true) ∧ ((0 : Int) ≤ 0) ∧ ((0 : Int) < 11) ∧ ((!sn 0) = false) ∧ True) ⟨rfl, rfl, by decide, by decide, by simp [hc], trivial⟩ hs st (by kernel_rfl) (by kernel_rfl) (by kernel_rfl) (by show _ = _; kernel_rfl) (by kernel_rfl) (no (fun h => by have := h.2; simp [hc] at this))
  | false => exact inn_push hl (nx := 0) (sn' := fun i => if i = 0 then true else sn i) [true, true, true] (A' := (true = true) ∧ (true = true) ∧ ((0 : Int) ≤ 0) ∧ ((0 : Int) < 11) ∧ ((!sn 0) = true) ∧ ((0 : Int) ≤ 0) ∧ ((0 : Int) < 11) ∧ True) ⟨rfl, rfl, by decide, by decide, by simp [hc], by decide, by decide, trivial⟩ hnq hmw hnb hmb hs st hx (by kernel_rfl) (by kernel_rfl) (by kernel_rfl) (by show _ = _; kernel_rfl) (by kernel_rfl) (yes e2 hc)
theorem inn_9_7 : Inn 9 7 := by
  constructor
  intro t W hl w ids a b A n c sn B m d q way s' R hnq hmw hnb hmb hs st hx yes no
  exact inn_skip hl [true, false, false] (A' := (true = true) ∧ (false = false) ∧ (false = false) ∧ True) ⟨rfl, rfl, rfl, trivial⟩ hs st (by kernel_rfl) (by kernel_rfl) (by kernel_rfl) (by show _ = _; kernel_rfl) (by kernel_rfl) (no (fun h => absurd h.1 (by decide +kernel)))
theorem inn_9_8 : Inn 9 8 := by
  constructor
  intro t W hl w ids a b A n c sn B m d q way s' R hnq hmw hnb hmb hs st hx yes no
  have e1 : (stepI 9 8).1 = 0 := by decide +kernel
  have e2 : (stepI 9 8).2.2 = 0 := by decide +kernel
  rw [e1] at yes no
  cases hc : sn 0 with
  | true => exact inn_skip hl [true, true, false] (A' := (true = true) ∧ (true = true) ∧ ((0 : Int) ≤ 0) ∧ ((0 : Int) < 11) ∧ ((!sn 0) = false) ∧ True) ⟨rfl, rfl, by decide, by decide, by simp [hc], trivial⟩ hs st (by kernel_rfl) (by kernel_rfl) (by kernel_rfl) (by show _ = _; kernel_rfl) (by kernel_rfl) (no (fun h => by have := h.2; simp [hc] at this))
  | false => exact inn_push hl (nx := 0) (sn' := fun i => if i = 0 then true else sn i) [true, true, true] (A' := (true = true) ∧ (true = true) ∧ ((0 : Int) ≤ 0) ∧ ((0 : Int) < 11) ∧ ((!sn 0) = true) ∧ ((0 : Int) ≤ 0) ∧ ((0 : Int) < 11) ∧ True) ⟨rfl, rfl, by decide, by decide, by simp [hc], by decide, by decide, trivial⟩ hnq hmw hnb hmb hs st hx (by kernel_rfl) (by kernel_rfl) (by kernel_rfl) (by show _ = _; kernel_rfl) (by kernel_rfl) (yes e2 hc)
theorem inn_9_9 : Inn 9 9 := by
  constructor
  intro t W hl w ids a b A n c sn B m d q way s' R hnq hmw hnb hmb hs st hx yes no
  exact inn_skip hl [true, false, false] (A' := (true = true) ∧ (false = false) ∧ (false = false) ∧ True) ⟨rfl, rfl, rfl, trivial⟩ hs st (by kernel_rfl) (by kernel_rfl) (by kernel_rfl) (by show _ = _; kernel_rfl) (by kernel_rfl) (no (fun h => absurd h.1 (by decide +kernel)))
theorem inn_10_0 : Inn 10 0 := by
  constructor
  intro t W hl w ids a b A n c sn B m d q way s' R hnq hmw hnb hmb hs st hx yes no
  exact inn_skip hl [true, false, false] (A' := (true = true) ∧ (false = false) ∧ (false = false) ∧ True) ⟨rfl, rfl, rfl, trivial⟩ hs st (by kernel_rfl) (by kernel_rfl) (by kernel_rfl) (by show _ = _; kernel_rfl) (by kernel_rfl) (no (fun h => absurd h.1 (by decide +kernel)))
theorem inn_10_1 : Inn 10 1 := by
  constructor
  intro t W hl w ids a b A n c sn B m d q way s' R hnq hmw hnb hmb hs st hx yes no
  exact inn_skip hl [true, false, false] (A' := (true = true) ∧ (false = false) ∧ (false = false) ∧ True) ⟨rfl, rfl, rfl, trivial⟩ hs st (by kernel_rfl) (by kernel_rfl) (by kernel_rfl) (by show _ = _; kernel_rfl) (by kernel_rfl) (no (fun h => absurd h.1 (by decide +kernel)))
theorem inn_10_2 : Inn 10 2 := by
  constructor
  intro t W hl w ids a b A n c sn B m d q way s' R hnq hmw hnb hmb hs st hx yes no
  exact inn_skip hl [true, false, false] (A' := (true = true) ∧ (false = false) ∧ (false = false) ∧ True) ⟨rfl, rfl, rfl, trivial⟩ hs st (by kernel_rfl) (by kernel_rfl) (by kernel_rfl) (by show _ = _; kernel_rfl) (by kernel_rfl) (no (fun h => absurd h.1 (by decide +kernel)))
theorem inn_10_3 : Inn 10 3 := by
  constructor
  intro t W hl w ids a b A n c sn B m d q way s' R hnq hmw hnb hmb hs st hx yes no
  have e1 : (stepI 10 3).1 = 0 := by decide +kernel
  have e2 : (stepI 10 3).2.2 = 0 := by decide +kernel
  rw [e1] at yes no
  cases hc : sn 0 with
  | true => exact inn_skip hl [true, true, false] (A' := (true = true) ∧ (true = true) ∧ ((0 : Int) ≤ 0) ∧ ((0 : Int) < 11) ∧ ((!sn 0) = false) ∧ True) ⟨rfl, rfl, by decide, by decide, by simp [hc], trivial⟩ hs st (by kernel_rfl) (by kernel_rfl) (by kernel_rfl) (by show _ = _; kernel_rfl) (by kernel_rfl) (no (fun h => by have := h.2; simp [hc] at this))
  | false => exact inn_push hl (nx := 0) (sn' := fun i => if i = 0 then true else sn i) [true, true, true] (A' := (true = true) ∧ (true = true) ∧ ((0 : Int) ≤ 0) ∧ ((0 : Int) < 11) ∧ ((!sn 0) = true) ∧ ((0 : Int) ≤ 0) ∧ ((0 : Int) < 11) ∧ True) ⟨rfl, rfl, by decide, by decide, by simp [hc], by decide, by decide, trivial⟩ hnq hmw hnb hmb hs st hx (by kernel_rfl) (by kernel_rfl) (by kernel_rfl) (by show _ = _; kernel_rfl) (by kernel_rfl) (yes e2 hc)
theorem inn_10_4 : Inn 10 4 := by
  constructor
  intro t W hl w ids a b A n c sn B m d q way s' R hnq hmw hnb hmb hs st hx yes no
  exact inn_skip hl [true, false, false] (A' := (true = true) ∧ (false = false) ∧ (false = false) ∧ True) ⟨rfl, rfl, rfl, trivial⟩ hs st (by kernel_rfl) (by kernel_rfl) (by kernel_rfl) (by show _ = _; kernel_rfl) (by kernel_rfl) (no (fun h => absurd h.1 (by decide +kernel)))
theorem inn_10_5 : Inn 10 5 := by
  constructor
  intro t W hl w ids a b A n c sn B m d q way s' R hnq hmw hnb hmb hs st hx yes no
  exact inn_skip hl [true, false, false] (A' := (true = true) ∧ (false = false) ∧ (false = false) ∧ True) ⟨rfl, rfl, rfl, trivial⟩ hs st (by kernel_rfl) (by kernel_rfl) (by kernel_rfl) (by show _ = _; kernel_rfl) (by kernel_rfl) (no (fun h => absurd h.1 (by decide +kernel)))
theorem inn_10_6 : Inn 10 6 := by
  constructor
  intro t W hl w ids a b A n c sn B m d q way s' R hnq hmw hnb hmb hs st hx yes no
  exact inn_skip hl [true, false, false] (A' := (true = true) ∧ (false = false) ∧ (false = false) ∧ True) ⟨rfl, rfl, rfl, trivial⟩ hs st (by kernel_rfl) (by kernel_rfl) (by kernel_rfl) (by show _ = _; kernel_rfl) (by kernel_rfl) (no (fun h => absurd h.1 (by decide +kernel)))
theorem inn_10_7 : Inn 10 7 := by
  constructor
  intro t W hl w ids a b A n c sn B m d q way s' R hnq hmw hnb hmb hs st hx yes no
  have e1 : (stepI 10 7).1 = 10 := by decide +kernel
  have e2 : (stepI 10 7).2.2 = 0 := by decide +kernel
  rw [e1] at yes no
  cases hc : sn 10 with
  | true => exact inn_skip hl [true, true, false] (A' := (true = true) ∧ (true = true) ∧ ((0 : Int) ≤ 10) ∧ ((10 : Int) < 11) ∧ ((!sn 10) = false) ∧ True) ⟨rfl, rfl, by decide, by decide, by simp [hc], trivial⟩ hs st (by kernel_rfl) (by kernel_rfl) (by kernel_rfl) (by show _ = _; kernel_rfl) (by kernel_rfl) (no (fun h => by have := h.2; simp [hc] at this))
  | false => exact inn_push hl (nx := 10) (sn' := fun i => if i = 10 then true else sn i) [true, true, true] (A' := (true = true) ∧ (true = true) ∧ ((0 : Int) ≤ 10) ∧ ((10 : Int) < 11) ∧ ((!sn 10) = true) ∧ ((0 : Int) ≤ 10) ∧ ((10 : Int) < 11) ∧ True) ⟨rfl, rfl, by decide, by decide, by simp [hc], by decide, by decide, trivial⟩ hnq hmw hnb hmb hs st hx (by kernel_rfl) (by kernel_rfl) (by kernel_rfl) (by show _ = _; kernel_rfl) (by kernel_rfl) (yes e2 hc)
theorem inn_10_8 : Inn 10 8 := by
  constructor
  intro t W hl w ids a b A n c sn B m d q way s' R hnq hmw hnb hmb hs st hx yes no
  have e1 : (stepI 10 8).1 = 0 := by decide +kernel
  have e2 : (stepI 10 8).2.2 = 0 := by decide +kernel
  rw [e1] at yes no
  cases hc : sn 0 with
  | true => exact inn_skip hl [true, true, false] (A' := (true = true) ∧ (true = true) ∧ ((0 : Int) ≤ 0) ∧ ((0 : Int) < 11) ∧ ((!sn 0) = false) ∧ True) ⟨rfl, rfl, by decide, by decide, by simp [hc], trivial⟩ hs st (by kernel_rfl) (by kernel_rfl) (by kernel_rfl) (by show _ = _; kernel_rfl) (by kernel_rfl) (no (fun h => by have := h.2; simp [hc] at this))
  | false => exact inn_push hl (nx := 0) (sn' := fun i => if i = 0 then true else sn i) [true, true, true] (A' := (true = true) ∧ (true = true) ∧ ((0 : Int) ≤ 0) ∧ ((0 : Int) < 11) ∧ ((!sn 0) = true) ∧ ((0 : Int) ≤ 0) ∧ ((0 : Int) < 11) ∧ True) ⟨rfl, rfl, by decide, by decide, by simp [hc], by decide, by decide, trivial⟩ hnq hmw hnb hmb hs st hx (by kernel_rfl) (by kernel_rfl) (by kernel_rfl) (by show _ = _; kernel_rfl) (by kernel_rfl) (yes e2 hc)
theorem inn_10_9 : Inn 10 9 := by
  constructor
  intro t W hl w ids a b A n c sn B m d q way s' R hnq hmw hnb hmb hs st hx yes no
  have e1 : (stepI 10 9).1 = 0 := by decide +kernel
  have e2 : (stepI 10 9).2.2 = 0 := by decide +kernel
  rw [e1] at yes no
  cases hc : sn 0 with
  | true => exact inn_skip hl [true, true, false] (A' := (true = true) ∧ (true = true) ∧ ((0 : Int) ≤ 0) ∧ ((0 : Int) < 11) ∧ ((!sn 0) = false) ∧ True) ⟨rfl, rfl, by decide, by decide, by simp [hc], trivial⟩ hs st (by kernel_rfl) (by kernel_rfl) (by kernel_rfl) (by show _ = _; kernel_rfl) (by kernel_rfl) (no (fun h => by have := h.2; simp [hc] at this))
  | false => exact inn_push hl (nx := 0) (sn' := fun i => if i = 0 then true else sn i) [true, true, true] (A' := (true = true) ∧ (true = true) ∧ ((0 : Int) ≤ 0) ∧ ((0 : Int) < 11) ∧ ((!sn 0) = true) ∧ ((0 : Int) ≤ 0) ∧ ((0 : Int) < 11) ∧ True) ⟨rfl, rfl, by decide, by decide, by simp [hc], by decide, by decide, trivial⟩ hnq hmw hnb hmb hs st hx (by kernel_rfl) (by kernel_rfl) (by kernel_rfl) (by show _ = _; kernel_rfl) (by kernel_rfl) (yes e2 hc)
end Go.Proofs.YtopjfkcoknenfaaDoor.Cn
