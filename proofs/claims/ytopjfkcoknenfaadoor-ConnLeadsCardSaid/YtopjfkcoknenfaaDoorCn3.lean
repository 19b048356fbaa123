/- What the rows' condition gives: the table of the states lies in its block; the door's own heap meets it. -/
import Derived.Test.YtopjfkcoknenfaaDoorRows
import Derived.Test.YtopjfkcoknenfaaDoorCn1
import Derived.ProofKit
import Derived.LaidMore
import Derived.OpenShut
import Derived.MakeChecks
import Derived.Lib.SmallJoins
namespace Go.Proofs.YtopjfkcoknenfaaDoor.Cn
open Go.ChangeShapes Go.WideShapes Go.ChangeAt Go.WideMaps Go.WideElems Go.RowKit
set_option linter.unusedVariables false
abbrev laidL : List (String × DataW Unit) := [("patchbay/conn.rules", Rows.laid_patchbay_conn_rules)]
def ruleD (r : Int × Int × Int × Int) : DataW Unit := .agg [.lit (.int .i64 r.1), .lit (.int .i64 r.2.1), .lit (.int .i64 r.2.2.1), .lit (.int .i64 r.2.2.2)]
def ruleC (r : Int × Int × Int × Int) : List Value := [.int .i64 r.1, .int .i64 r.2.1, .int .i64 r.2.2.1, .int .i64 r.2.2.2]
theorem laid_rules : (Rows.laid_patchbay_conn_rules : DataW Unit) = .agg (rules.map ruleD) := by kernel_rfl
theorem rulesC_eq : rulesC = rules.flatMap ruleC := rfl
theorem gRules : Tryd.prog.globalNamed "patchbay/conn.rules" = some 0 := by kernel_rfl
theorem tRules : (Tryd.prog.globals[0]?).map (·.type) = some 72 := by kernel_rfl
theorem c3 : Tryd.prog.cellsOf 3 = 1 := by kernel_rfl
theorem c71 : Tryd.prog.cellsOf 71 = 4 := by kernel_rfl
theorem c72 : Tryd.prog.cellsOf 72 = 156 := by kernel_rfl
section
variable {w : World}
theorem one_int {m : Nat} {cs : List Value} {y : DataW Unit × List MemPlace} {k : Int} (h : DataW.trod (fun _ => ()) Tryd.prog w 0 (fun _ => true) false m 3 cs = some y) (hy : y.1 = .lit (.int .i64 k)) : cs = [.int .i64 k] := by
  obtain ⟨n, rfl, rfl, _⟩ := DataW.trod_int Tryd.underlying3 h
  cases hy
  rfl
theorem one_rule {m : Nat} {cs : List Value} {x : DataW Unit × List MemPlace} {r : Int × Int × Int × Int} (h : DataW.trod (fun _ => ()) Tryd.prog w 0 (fun _ => true) false m 71 cs = some x) (hx : x.1 = ruleD r) : cs = ruleC r := by
  obtain ⟨y0, y1, y2, y3, n, rfl, hl, h0, h1, h2, h3⟩ := Joins.trod_struct4 Tryd.underlying71 h
  simp only [ruleD, DataW.agg.injEq, List.cons.injEq, and_true] at hx
  obtain ⟨e0, e1, e2, e3⟩ := hx
  rw [c3] at h0 h1 h2 h3
  rw [c71] at hl
  have g0 := one_int h0 e0
  have g1 := one_int h1 e1
  have g2 := one_int h2 e2
  have g3 := one_int h3 e3
  match cs, hl with
  | [a, b, c, d], _ =>
    simp at g0 g1 g2 g3
    subst g0; subst g1; subst g2; subst g3
    rfl
theorem all_rules {m : Nat} : ∀ (rs : List (Int × Int × Int × Int)) (xs : List (DataW Unit × List MemPlace)) (cs : List Value), xs.map (·.1) = rs.map ruleD → cs.length = rs.length * 4 →
    (∀ i, i < rs.length → DataW.trod (fun _ => ()) Tryd.prog w 0 (fun _ => true) false m 71 ((cs.drop (i * 4)).take 4) = xs[i]?) → cs = rs.flatMap ruleC
  | [], xs, cs, _, hl, _ => by simpa using hl
  | r :: rs, [], cs, hx, _, _ => by cases hx
  | r :: rs, x :: xs, cs, hx, hl, h => by
    simp only [List.map_cons, List.cons.injEq] at hx
    simp only [List.length_cons] at hl h
    have h0 := h 0 (by omega)
    simp only [Nat.zero_mul, List.drop_zero, List.getElem?_cons_zero] at h0
    have e0 := one_rule h0 hx.1
    have e1 := all_rules rs xs (cs.drop 4) hx.2 (by simp; omega) (fun i hi => by
      have := h (i + 1) (by omega)
      rw [List.getElem?_cons_succ] at this
      rw [← this, List.drop_drop]
      congr 3
      omega)
    rw [List.flatMap_cons, ← e0, ← e1, List.take_append_drop]
end
/-- What the condition gives the walks. -/
theorem of_laid {W : World} (h : laidMetH Tryd.prog laidL W) : ∃ t, Laid t W := by
  rw [MakeChecks.laidMetH_plain _ _ _ (by kernel_rfl)] at h
  obtain ⟨ps, ⟨g, t, cs, f, p, q, hg, ht, hv, hd, hq, rfl⟩, _, hps⟩ := h
  obtain rfl := Option.some.inj (gRules.symm.trans hg)
  obtain rfl := Option.some.inj (tRules.symm.trans ht)
  rw [laid_rules] at hd
  obtain ⟨xs, m, rfl, hx1, hlen, hn, hel⟩ := DataW.trod_array Tryd.underlying72 hd
  simp only [Prod.mk.injEq, DataW.agg.injEq] at hx1
  rw [c71] at hel
  rw [c72] at hlen
  have hcs := all_rules rules xs cs.toList hx1.1.symm (by rw [hlen]; rfl) hel
  have hcs' : cs = rulesC.toArray := by rw [rulesC_eq, ← hcs]
  subst hcs'
  have hmem : MemPlace.cell 0 0 ∈ MemPlace.row ⟨0, 0, none⟩ rulesC.toArray.size ++ p ++ q := by
    refine List.mem_append_left _ (List.mem_append_left _ ?_)
    unfold MemPlace.row
    exact List.mem_map.2 ⟨0, List.mem_range.2 (by rw [show rulesC.toArray.size = 156 from by kernel_rfl]; omega), rfl⟩
  obtain ⟨⟨c, t, hb⟩, _⟩ := hps 0 0 hmem
  refine ⟨t, ?_⟩
  unfold Laid
  unfold World.var? at hv
  rw [gRules] at hv
  simp only [Option.bind_some, hb, Option.some.injEq] at hv
  rw [hb, hv]
/-- The door's own heap meets the condition. -/
theorem door_met (os : Os) (args : Array Value) : laidMetH Tryd.prog laidL ((World.doorLaid Tryd.prog 400 os).forCall (fun _ _ => 0) ⟨#[], args, []⟩).memory :=
  laidMetH_of_parts3 (fuel := 8) (laidMet_of_run' 8 (by kernel_rfl) (by kernel_rfl)) (by kernel_rfl) (by kernel_rfl)
theorem own : ownKnob Tryd.prog.godebug = none := by kernel_rfl
theorem laidOut : laidOutB Tryd.prog = true := by kernel_rfl
end Go.Proofs.YtopjfkcoknenfaaDoor.Cn
