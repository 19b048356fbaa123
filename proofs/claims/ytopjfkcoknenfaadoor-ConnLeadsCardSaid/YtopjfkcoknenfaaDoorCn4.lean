/- ConnFins answers true where the table of the states is in its block. -/
import Derived.Test.YtopjfkcoknenfaaDoorCn2
import Derived.Test.YtopjfkcoknenfaaDoorRx9
namespace Go.Proofs.YtopjfkcoknenfaaDoor.Cn
open Go Go.Rx Go.RowKit Go.Proofs.YtopjfkcoknenfaaDoor
set_option linter.unusedVariables false
set_option linter.unusedSimpArgs false
set_option maxRecDepth 100000
noncomputable def tab2 : Tab := [
  (3, { size := 1, zero := .int .i64 0, agg := false, kind := some .i64, cls := 5 }),
  (4, { size := 1, zero := .bool false, agg := false, cls := 1 }),
  (22, { size := 1, zero := .slice none 0 0, agg := false, cls := 3 }),
  (24, { size := 1, zero := .int .i64 0, agg := false, kind := some .i64, cls := 5 }),
  (73, { size := 11, zero := .agg #[.bool false, .bool false, .bool false, .bool false, .bool false, .bool false, .bool false, .bool false, .bool false, .bool false, .bool false], agg := true, elem := some (11, 1), eagg := some false, cls := 6 }),
  (75, { size := 2, zero := .agg #[.int .i64 0, .slice none 0 0], agg := true, flds := [(0, 1), (1, 1)], cls := 6 }),
  (76, { size := 1, zero := .slice none 0 0, agg := false, cls := 3 })]
theorem tab2_fits : tab2.fits Tryd.prog := ⟨
  ⟨by kernel_rfl, by kernel_rfl, by kernel_rfl, by kernel_rfl, by kernel_rfl, by kernel_rfl, by kernel_rfl⟩,
  ⟨by kernel_rfl, by kernel_rfl, by kernel_rfl, by kernel_rfl, by kernel_rfl, by kernel_rfl, by kernel_rfl⟩,
  ⟨by kernel_rfl, by kernel_rfl, by kernel_rfl, by kernel_rfl, by kernel_rfl, by kernel_rfl, by kernel_rfl⟩,
  ⟨by kernel_rfl, by kernel_rfl, by kernel_rfl, by kernel_rfl, by kernel_rfl, by kernel_rfl, by kernel_rfl⟩,
  ⟨by kernel_rfl, by kernel_rfl, by kernel_rfl, by kernel_rfl, by kernel_rfl, by kernel_rfl, by kernel_rfl⟩,
  ⟨by kernel_rfl, by kernel_rfl, by kernel_rfl, by kernel_rfl, by kernel_rfl, by kernel_rfl, by kernel_rfl⟩,
  ⟨by kernel_rfl, by kernel_rfl, by kernel_rfl, by kernel_rfl, by kernel_rfl, by kernel_rfl, by kernel_rfl⟩, trivial⟩
noncomputable def body3 : Code := Tryd.f3.body.getD .skip
noncomputable def finsA (A : Option Addr) (n c : Nat) : Cfg := (run tab2 sp1 300 [false] { todo := [.code body3], sl := { n := Tryd.f3.ntmps, m := argSl 0 [.l (.v (.slice A n c))] }, mem := [] }).2
def loopOf : List Item → Code
  | .code (.loop c) :: _ => c
  | _ => .skip
noncomputable def finsL : Code := loopOf (finsA none 0 0).todo
noncomputable def finsK : List Item := (finsA none 0 0).todo.tail
def finsS (A : Option Addr) (n c : Nat) (q f y i : Int) : List (Nat × SV) := [(0, .l (.v (.slice A n c))), (2, vBool false), (3, vInt .i64 q), (4, vInt .i64 f), (5, vInt .i64 y), (6, vInt .i64 i)]
noncomputable def finsB (A : Option Addr) (n c : Nat) (q f y i : Int) : Cfg := { todo := .code finsL :: .inLoop finsL :: finsK, sl := { n := 55, m := finsS A n c q f y i }, mem := [] }
noncomputable def finsC (A : Addr) (n c : Nat) (q f y i : Int) : Cfg := (run tab2 sp1 300 [true, true] (finsB (some A) n c q f y i)).2
noncomputable def finsD (A : Addr) (n c : Nat) (q f y i : Int) : Cfg := answered (finsC A n c q f y i) (.l (.v (.pointer (some (A.add (i.toNat * 1)))))) (finsC A n c q f y i).mem
noncomputable def finsE (A : Addr) (n c : Nat) (q f y i z : Int) : Cfg := answered (finsD A n c q f y i) (.l (.v (.int .i64 z))) (finsD A n c q f y i).mem
def reach : List (Int × Int × Int) := [(0, 0, 0), (1, 0, 0), (2, 0, 1), (3, 0, 1), (3, 0, 2), (4, 0, 1), (4, 0, 2), (5, 1, 1), (5, 1, 2), (6, 1, 1), (6, 1, 2), (7, 0, 1), (7, 0, 2), (8, 1, 1), (8, 1, 2), (9, 1, 1), (9, 1, 2), (10, 1, 1), (10, 1, 2)]
/-- What the round comes to, of what is reached. -/
def chk (q f y r : Int) : Prop :=
  if ((stepI q r).2.2 != 0) = true then True else if ((stepI q r).1 == 0) = true then True else
  if ((stepI q r).2.1.tmod 2 == 1) = true then
    if ((IntKind.i64.wrap ((stepI q r).2.1.tdiv 2)).tmod 2 == 1) = true then decide (IntKind.i64.wrap (f + 1) > 1) = false ∧ decide (IntKind.i64.wrap (y + 1) > 2) = false ∧ ((stepI q r).1, IntKind.i64.wrap (f + 1), IntKind.i64.wrap (y + 1)) ∈ reach
    else decide (IntKind.i64.wrap (f + 1) > 1) = false ∧ decide (y > 2) = false ∧ ((stepI q r).1, IntKind.i64.wrap (f + 1), y) ∈ reach
  else
    if ((IntKind.i64.wrap ((stepI q r).2.1.tdiv 2)).tmod 2 == 1) = true then decide (f > 1) = false ∧ decide (IntKind.i64.wrap (y + 1) > 2) = false ∧ ((stepI q r).1, f, IntKind.i64.wrap (y + 1)) ∈ reach
    else decide (f > 1) = false ∧ decide (y > 2) = false ∧ ((stepI q r).1, f, y) ∈ reach
instance (q f y r : Int) : Decidable (chk q f y r) := by unfold chk; infer_instance
theorem chk_all : ∀ t ∈ reach, ∀ r : Fin 10, chk t.1 t.2.1 t.2.2 (r.1 : Int) := by decide +kernel
theorem chk_ok {q f y : Int} (h : (q, f, y) ∈ reach) {r : Int} (hr : 0 ≤ r ∧ r < 10) : chk q f y r := by
  obtain ⟨j, rfl⟩ := nat_of (n := 10) hr
  exact chk_all _ h j
theorem fins_round {t : Nat} {W : World} (hl : Laid t W) (A : Addr) (n c : Nat) {q f y i z : Int} (hr : (q, f, y) ∈ reach) {R : Ending → World → Prop} {a : Act} {w : World}
    (hs3 : Sat (fun _ => False) W [] (finsE A n c q f y i z).sl (finsE A n c q f y i z).mem a w)
    (next : ∀ (q' f' y' : Int) (a' : Act) (w' : World), (q', f', y') ∈ reach → Sat (fun _ => False) W [] { n := 55, m := finsS (some A) n c q' f' y' (IntKind.i64.wrap (i + 1)) } [] a' w' → Goes Tryd.prog 3 (.inLoop finsL :: finsK) a' w' R) :
    Goes Tryd.prog 3 (finsE A n c q f y i z).todo a w R := by
  have hz := rest_in z 10 (by omega) (by omega)
  rcases Bool.eq_false_or_eq_true ((stepI q (restI z 10)).snd.snd != 0) with h0 | h0
  · -- h0 true
    refine Goes.upto tab2_fits (sp1_ok hl) wide 300 [true] (finsE A n c q f y i z) hs3 (A := (((stepI q (restI z 10)).snd.snd != 0) = true) ∧ True) ⟨h0, trivial⟩ (by kernel_rfl) fun ids' a' w' _ hs' => ?_
    have ht : (run tab2 sp1 300 [true] (finsE A n c q f y i z)).2.todo = .inLoop finsL :: finsK := by kernel_rfl
    rw [ht]
    exact next q (f) (y) a' w' hr (hs'.round (finsS (some A) n c (q) (f) (y) (IntKind.i64.wrap (i + 1))) (by kernel_rfl) (by show _ = _; kernel_rfl) (by kernel_rfl))
  · -- h0 false
    rcases Bool.eq_false_or_eq_true ((stepI q (restI z 10)).fst == 0) with h1 | h1
    · -- h1 true
      have hq0 : (stepI q (restI z 10)).1 = 0 := by simpa using h1
      refine Goes.upto tab2_fits (sp1_ok hl) wide 300 [false, true] (finsE A n c q f y i z) hs3 (A := (((stepI q (restI z 10)).snd.snd != 0) = false) ∧ (((stepI q (restI z 10)).fst == 0) = true) ∧ True) ⟨h0, h1, trivial⟩ (by kernel_rfl) fun ids' a' w' _ hs' => ?_
      have ht : (run tab2 sp1 300 [false, true] (finsE A n c q f y i z)).2.todo = .inLoop finsL :: finsK := by kernel_rfl
      rw [ht]
      exact next (stepI q (restI z 10)).1 (0) (0) a' w' (by rw [hq0]; decide) (hs'.round (finsS (some A) n c ((stepI q (restI z 10)).1) (0) (0) (IntKind.i64.wrap (i + 1))) (by kernel_rfl) (by show _ = _; kernel_rfl) (by kernel_rfl))
    · -- h1 false
      rcases Bool.eq_false_or_eq_true ((stepI q (restI z 10)).snd.fst.tmod 2 == 1) with h2 | h2
      · -- h2 true
        rcases Bool.eq_false_or_eq_true ((Go.IntKind.i64.wrap ((stepI q (restI z 10)).snd.fst.tdiv 2)).tmod 2 == 1) with h3 | h3
        · -- h3 true
          rcases Bool.eq_false_or_eq_true (decide (Go.IntKind.i64.wrap (f + 1) > 1)) with h4 | h4
          · -- h4 true
            exfalso
            have hk := chk_ok hr hz
            simp [chk, h0, h1, h2, h3, h4] at hk
          · -- h4 false
            rcases Bool.eq_false_or_eq_true (decide (Go.IntKind.i64.wrap (y + 1) > 2)) with h5 | h5
            · -- h5 true
              exfalso
              have hk := chk_ok hr hz
              simp [chk, h0, h1, h2, h3, h4, h5] at hk
            · -- h5 false
              have hk := chk_ok hr hz
              refine Goes.upto tab2_fits (sp1_ok hl) wide 300 [false, false, true, true, false, false] (finsE A n c q f y i z) hs3 (A := (((stepI q (restI z 10)).snd.snd != 0) = false) ∧ (((stepI q (restI z 10)).fst == 0) = false) ∧ ((2 : Int) ≠ 0) ∧ (((stepI q (restI z 10)).snd.fst.tmod 2 == 1) = true) ∧ ((2 : Int) ≠ 0) ∧ ((2 : Int) ≠ 0) ∧ (((Go.IntKind.i64.wrap ((stepI q (restI z 10)).snd.fst.tdiv 2)).tmod 2 == 1) = true) ∧ ((decide (Go.IntKind.i64.wrap (f + 1) > 1)) = false) ∧ ((decide (Go.IntKind.i64.wrap (y + 1) > 2)) = false) ∧ True) ⟨h0, h1, (by decide), h2, (by decide), (by decide), h3, h4, h5, trivial⟩ (by kernel_rfl) fun ids' a' w' _ hs' => ?_
              have ht : (run tab2 sp1 300 [false, false, true, true, false, false] (finsE A n c q f y i z)).2.todo = .inLoop finsL :: finsK := by kernel_rfl
              rw [ht]
              exact next (stepI q (restI z 10)).1 (IntKind.i64.wrap (f + 1)) (IntKind.i64.wrap (y + 1)) a' w' (by simpa [chk, h0, h1, h2, h3, h4, h5] using hk) (hs'.round (finsS (some A) n c ((stepI q (restI z 10)).1) (IntKind.i64.wrap (f + 1)) (IntKind.i64.wrap (y + 1)) (IntKind.i64.wrap (i + 1))) (by kernel_rfl) (by show _ = _; kernel_rfl) (by kernel_rfl))
        · -- h3 false
          rcases Bool.eq_false_or_eq_true (decide (Go.IntKind.i64.wrap (f + 1) > 1)) with h4 | h4
          · -- h4 true
            exfalso
            have hk := chk_ok hr hz
            simp [chk, h0, h1, h2, h3, h4] at hk
          · -- h4 false
            rcases Bool.eq_false_or_eq_true (decide (y > 2)) with h5 | h5
            · -- h5 true
              exfalso
              have hk := chk_ok hr hz
              simp [chk, h0, h1, h2, h3, h4, h5] at hk
            · -- h5 false
              have hk := chk_ok hr hz
              refine Goes.upto tab2_fits (sp1_ok hl) wide 300 [false, false, true, false, false, false] (finsE A n c q f y i z) hs3 (A := (((stepI q (restI z 10)).snd.snd != 0) = false) ∧ (((stepI q (restI z 10)).fst == 0) = false) ∧ ((2 : Int) ≠ 0) ∧ (((stepI q (restI z 10)).snd.fst.tmod 2 == 1) = true) ∧ ((2 : Int) ≠ 0) ∧ ((2 : Int) ≠ 0) ∧ (((Go.IntKind.i64.wrap ((stepI q (restI z 10)).snd.fst.tdiv 2)).tmod 2 == 1) = false) ∧ ((decide (Go.IntKind.i64.wrap (f + 1) > 1)) = false) ∧ ((decide (y > 2)) = false) ∧ True) ⟨h0, h1, (by decide), h2, (by decide), (by decide), h3, h4, h5, trivial⟩ (by kernel_rfl) fun ids' a' w' _ hs' => ?_
              have ht : (run tab2 sp1 300 [false, false, true, false, false, false] (finsE A n c q f y i z)).2.todo = .inLoop finsL :: finsK := by kernel_rfl
              rw [ht]
              exact next (stepI q (restI z 10)).1 (IntKind.i64.wrap (f + 1)) (y) a' w' (by simpa [chk, h0, h1, h2, h3, h4, h5] using hk) (hs'.round (finsS (some A) n c ((stepI q (restI z 10)).1) (IntKind.i64.wrap (f + 1)) (y) (IntKind.i64.wrap (i + 1))) (by kernel_rfl) (by show _ = _; kernel_rfl) (by kernel_rfl))
      · -- h2 false
        rcases Bool.eq_false_or_eq_true ((Go.IntKind.i64.wrap ((stepI q (restI z 10)).snd.fst.tdiv 2)).tmod 2 == 1) with h3 | h3
        · -- h3 true
          rcases Bool.eq_false_or_eq_true (decide (f > 1)) with h4 | h4
          · -- h4 true
            exfalso
            have hk := chk_ok hr hz
            simp [chk, h0, h1, h2, h3, h4] at hk
          · -- h4 false
            rcases Bool.eq_false_or_eq_true (decide (Go.IntKind.i64.wrap (y + 1) > 2)) with h5 | h5
            · -- h5 true
              exfalso
              have hk := chk_ok hr hz
              simp [chk, h0, h1, h2, h3, h4, h5] at hk
            · -- h5 false
              have hk := chk_ok hr hz
              refine Goes.upto tab2_fits (sp1_ok hl) wide 300 [false, false, false, true, false, false] (finsE A n c q f y i z) hs3 (A := (((stepI q (restI z 10)).snd.snd != 0) = false) ∧ (((stepI q (restI z 10)).fst == 0) = false) ∧ ((2 : Int) ≠ 0) ∧ (((stepI q (restI z 10)).snd.fst.tmod 2 == 1) = false) ∧ ((2 : Int) ≠ 0) ∧ ((2 : Int) ≠ 0) ∧ (((Go.IntKind.i64.wrap ((stepI q (restI z 10)).snd.fst.tdiv 2)).tmod 2 == 1) = true) ∧ ((decide (f > 1)) = false) ∧ ((decide (Go.IntKind.i64.wrap (y + 1) > 2)) = false) ∧ True) ⟨h0, h1, (by decide), h2, (by decide), (by decide), h3, h4, h5, trivial⟩ (by kernel_rfl) fun ids' a' w' _ hs' => ?_
              have ht : (run tab2 sp1 300 [false, false, false, true, false, false] (finsE A n c q f y i z)).2.todo = .inLoop finsL :: finsK := by kernel_rfl
              rw [ht]
              exact next (stepI q (restI z 10)).1 (f) (IntKind.i64.wrap (y + 1)) a' w' (by simpa [chk, h0, h1, h2, h3, h4, h5] using hk) (hs'.round (finsS (some A) n c ((stepI q (restI z 10)).1) (f) (IntKind.i64.wrap (y + 1)) (IntKind.i64.wrap (i + 1))) (by kernel_rfl) (by show _ = _; kernel_rfl) (by kernel_rfl))
        · -- h3 false
          rcases Bool.eq_false_or_eq_true (decide (f > 1)) with h4 | h4
          · -- h4 true
            exfalso
            have hk := chk_ok hr hz
            simp [chk, h0, h1, h2, h3, h4] at hk
          · -- h4 false
            rcases Bool.eq_false_or_eq_true (decide (y > 2)) with h5 | h5
            · -- h5 true
              exfalso
              have hk := chk_ok hr hz
              simp [chk, h0, h1, h2, h3, h4, h5] at hk
            · -- h5 false
              have hk := chk_ok hr hz
              refine Goes.upto tab2_fits (sp1_ok hl) wide 300 [false, false, false, false, false, false] (finsE A n c q f y i z) hs3 (A := (((stepI q (restI z 10)).snd.snd != 0) = false) ∧ (((stepI q (restI z 10)).fst == 0) = false) ∧ ((2 : Int) ≠ 0) ∧ (((stepI q (restI z 10)).snd.fst.tmod 2 == 1) = false) ∧ ((2 : Int) ≠ 0) ∧ ((2 : Int) ≠ 0) ∧ (((Go.IntKind.i64.wrap ((stepI q (restI z 10)).snd.fst.tdiv 2)).tmod 2 == 1) = false) ∧ ((decide (f > 1)) = false) ∧ ((decide (y > 2)) = false) ∧ True) ⟨h0, h1, (by decide), h2, (by decide), (by decide), h3, h4, h5, trivial⟩ (by kernel_rfl) fun ids' a' w' _ hs' => ?_
              have ht : (run tab2 sp1 300 [false, false, false, false, false, false] (finsE A n c q f y i z)).2.todo = .inLoop finsL :: finsK := by kernel_rfl
              rw [ht]
              exact next (stepI q (restI z 10)).1 (f) (y) a' w' (by simpa [chk, h0, h1, h2, h3, h4, h5] using hk) (hs'.round (finsS (some A) n c ((stepI q (restI z 10)).1) (f) (y) (IntKind.i64.wrap (i + 1))) (by kernel_rfl) (by show _ = _; kernel_rfl) (by kernel_rfl))
theorem below_of {W w' : World} {ids : List Nat} (hm : MemOk (fun _ => False) W ids [] w') : Below W.heap.size W w' := hm.toBelow
/-- The loop, from any state that is reached. -/
theorem fins_loop {t : Nat} {W : World} (hl : Laid t W) (A : Option Addr) (n c : Nat) (hz : ∀ j : Nat, j < n → ∃ (x : Addr) (z : Int), A = some x ∧ W.cell? (x.add j) = some (.int .i64 z) ∧ x.block < W.heap.size) (hn : (n : Int) < 9223372036854775808)
    {a : Act} {w : World} (hs : Sat (fun _ => False) W [] { n := 55, m := finsS A n c 0 0 0 0 } [] a w) :
    Goes Tryd.prog 3 (.code (.loop finsL) :: finsK) a w fun x w' => x = .returned (.bool true) ∧ Below W.heap.size W w' := by
  refine Goes.loop (n := 60) (fun m a w => ∃ q f y i : Int, (q, f, y) ∈ reach ∧ 0 ≤ i ∧ i ≤ 60 ∧ (m : Int) = 60 - i ∧ Sat (fun _ => False) W [] { n := 55, m := finsS A n c q f y i } [] a w) ⟨0, 0, 0, 0, by decide, by omega, by omega, by omega, hs⟩ ?_
  rintro m a w ⟨q, f, y, i, hr, hi0, hi1, hm, hs⟩ again
  show Goes Tryd.prog 3 (finsB A n c q f y i).todo a w _
  have next : (decide (i < (n : Int)) = true) → (decide (i < 60) = true) → Goes Tryd.prog 3 (finsB A n c q f y i).todo a w fun x w' => x = .returned (.bool true) ∧ Below W.heap.size W w' := fun h0 h1 => by
    simp only [decide_eq_true_eq] at h0 h1
    obtain ⟨x, z, rfl, hcell, hlt⟩ := hz i.toNat (by omega)
    refine Goes.upto tab2_fits (sp1_ok hl) wide 300 [true, true] (finsB (some x) n c q f y i) hs (A := (decide (i < (n : Int)) = true) ∧ (decide (i < 60) = true) ∧ True) ⟨by simpa using h0, by simpa using h1, trivial⟩ (by kernel_rfl) fun ids' a1 w1 _ hs1 => ?_
    have hs1' : Sat (fun _ => False) W ids' (finsC x n c q f y i).sl (finsC x n c q f y i).mem a1 w1 := hs1
    have hmem : (finsC x n c q f y i).mem = [] := by kernel_rfl
    have hids : ids' = [] := by have := hs1'.mem; rw [hmem] at this; exact this.nil
    subst hids
    refine Goes.atIndex (finsC x n c q f y i) (dst := some 26) (t := 22) (x := .tmp 24) (ix := .tmp 25) (by kernel_rfl) (by kernel_rfl) (A := x) (n := n) (cap := c) (sz := 1) (k := .i64) (i := i) (by kernel_rfl) (by kernel_rfl) Tryd.underlying22 (fun w => (Tab.fits_look tab2_fits (t := 3) rfl).size w) hi0 h0 hs1' fun a2 hs2 => ?_
    have hcell' : w1.cell? (x.add (i.toNat * 1)) = some (.int .i64 z) := by
      rw [Nat.mul_one]
      have hk := hs1'.mem.kept x.block hlt id
      rw [← hcell]
      have hb : (x.add i.toNat).block = x.block := by unfold Addr.add; split <;> rfl
      simp only [World.cell?, hb, hk]
    refine Goes.atLoad (finsD x n c q f y i) (dst := some 27) (t := 3) (ad := .tmp 26) (by kernel_rfl) (by kernel_rfl) (A := x.add (i.toNat * 1)) (v := .int .i64 z) (by kernel_rfl) (by kernel_rfl) hs2 hcell' fun a3 hs3 => ?_
    refine fins_round hl x n c hr hs3 fun q' f' y' a' w' hr' hs' => ?_
    have hi : IntKind.i64.wrap (i + 1) = i + 1 := by rw [IntKind.wrap_i64]; omega
    rw [hi] at hs'
    exact again (m - 1) a' w' (by omega) ⟨q', f', y', i + 1, hr', by omega, by omega, by omega, hs'⟩
  rcases Bool.eq_false_or_eq_true (decide (i < ↑n)) with h0 | h0
  · -- h0 true
    rcases Bool.eq_false_or_eq_true (decide (i < 60)) with h1 | h1
    · -- h1 true
      exact next h0 h1
    · -- h1 false
      exact Goes.path tab2_fits (sp1_ok hl) wide Tryd.func3 300 [true, false] (finsB A n c q f y i) hs (A := ((decide (i < ↑n)) = true) ∧ ((decide (i < 60)) = false) ∧ True) (vs := [Value.bool true]) ⟨h0, h1, trivial⟩ (by kernel_rfl) (by kernel_rfl) (by kernel_rfl) fun ids' w' _ hm => ⟨rfl, below_of hm⟩
  · -- h0 false
    exact Goes.path tab2_fits (sp1_ok hl) wide Tryd.func3 300 [false, false] (finsB A n c q f y i) hs (A := ((decide (i < ↑n)) = false) ∧ (false = false) ∧ True) (vs := [Value.bool true]) ⟨h0, rfl, trivial⟩ (by kernel_rfl) (by kernel_rfl) (by kernel_rfl) fun ids' w' _ hm => ⟨rfl, below_of hm⟩
theorem connFins_calls {t : Nat} {W : World} (hl : Laid t W) (A : Option Addr) (n c : Nat) (hz : ∀ j : Nat, j < n → ∃ (x : Addr) (z : Int), A = some x ∧ W.cell? (x.add j) = some (.int .i64 z) ∧ x.block < W.heap.size) (hn : (n : Int) < 9223372036854775808) :
    Calls Tryd.prog 3 #[.slice A n c] W fun x w' => x = .returned (.bool true) ∧ Below W.heap.size W w' := by
  refine Calls.rx Tryd.func3 rfl (args := [.l (.v (.slice A n c))]) (vals := [.slice A n c]) [] (fun h => by cases h) rfl (Nat.le_of_ble_eq_true (by kernel_rfl)) (MemOk.empty W) fun a hs => ?_
  refine Goes.upto tab2_fits (sp1_ok hl) wide 300 [false] { todo := [.code body3], sl := { n := Tryd.f3.ntmps, m := argSl 0 [.l (.v (.slice A n c))] }, mem := [] } hs (A := (false = false) ∧ True) ⟨rfl, trivial⟩ (by kernel_rfl) fun ids' a1 w1 _ hs1 => ?_
  have ht : (finsA A n c).todo = .code (.loop finsL) :: finsK := by kernel_rfl
  show Goes Tryd.prog 3 (finsA A n c).todo a1 w1 _
  rw [ht]
  refine fins_loop hl A n c hz hn (Sat.round (c := finsA A n c) hs1 (finsS A n c 0 0 0 0) (by kernel_rfl) (by show _ = _; kernel_rfl) (by kernel_rfl))
end Go.Proofs.YtopjfkcoknenfaaDoor.Cn
