/-
  NARROWER THAN 'FOR EVERY INPUT', by the rows' own cells (each row's printed sentence says how): ConnFins: laid · ConnEnds: laid · ConnLeads: laid · TopCrowd: laid · StreamGivesUp: laid · StreamPrefix: laid.
  DERIVED. THE GIVEN ROWS OF THIS SEAT. 6 by the template 'for every input the law returns true; each argument reads behind the call as it read before'; 0 by the template 'total and deterministic' (their statements: YtopjfkcoknenfaaDoorTotals.lean).
  GIVEN WITH THE SEED: the statements are not yours to turn. If you find one false, say at which input.
  Laid BY PROGRAM, IN A SANDBOX (cutbox-rows.mjs): the forced cells as the released guide's own fill.sh prints them over the translation 6f1546af6c2529b2… (all of the seat's roots in one cut). By AI agents, Wed Nov 11 2026. No macro, syntax, notation, axiom, sorry.
-/
import Derived.Test.YtopjfkcoknenfaaDoorChecked
import GoSem.Claim
import GoSem.ClaimJoined
import GoSem.ClaimMapViews
import Derived.JoinedTies
import Derived.KernelRfl
namespace Go.Proofs.YtopjfkcoknenfaaDoor
/- THE CELL 'sum', in the pinned program and in every row, IS THE sha256 OF THE DUMP (.gsa) THAT YtopjfkcoknenfaaDoorProg.lean LOADS. Nothing in Lean hashes anything: it is a label: what it is worth is what the hold of that sum in a sandbox is worth. -/
noncomputable def Tryd.pinned : Pinned := { name := "ytopjfkcoknenfaadoor", sum := "6f1546af6c2529b25188293f64da02f0cf3e2c719062781f28285e3d7bee66fa", checked := Tryd.checked }
namespace Rows
def none {H : Type} : Left H := { results := [], args := [] }

/- WHAT THE LISTED PACKAGE-LEVEL VARIABLES READ AS WHEN THE CALL BEGINS. Each datum BY PROGRAM (the guide's laid-datum.mjs) off the statement by which the dump's own 'gosem.cut.vars' lays the variable. In a bare row this is a premise. The card (YtopjfkcoknenfaaDoorCards.lean) ties it to the program's text. -/
def laid_patchbay_conn_rules {H : Type} : DataW H := .agg [.agg [.lit (.int .i64 0), .lit (.int .i64 0), .lit (.int .i64 1), .lit (.int .i64 0)], .agg [.lit (.int .i64 0), .lit (.int .i64 1), .lit (.int .i64 2), .lit (.int .i64 2)], .agg [.lit (.int .i64 1), .lit (.int .i64 2), .lit (.int .i64 0), .lit (.int .i64 0)], .agg [.lit (.int .i64 1), .lit (.int .i64 3), .lit (.int .i64 0), .lit (.int .i64 0)], .agg [.lit (.int .i64 1), .lit (.int .i64 1), .lit (.int .i64 2), .lit (.int .i64 2)], .agg [.lit (.int .i64 1), .lit (.int .i64 4), .lit (.int .i64 3), .lit (.int .i64 18)], .agg [.lit (.int .i64 2), .lit (.int .i64 2), .lit (.int .i64 0), .lit (.int .i64 0)], .agg [.lit (.int .i64 2), .lit (.int .i64 3), .lit (.int .i64 0), .lit (.int .i64 0)], .agg [.lit (.int .i64 2), .lit (.int .i64 4), .lit (.int .i64 3), .lit (.int .i64 18)], .agg [.lit (.int .i64 2), .lit (.int .i64 5), .lit (.int .i64 4), .lit (.int .i64 16)], .agg [.lit (.int .i64 2), .lit (.int .i64 8), .lit (.int .i64 0), .lit (.int .i64 0)], .agg [.lit (.int .i64 3), .lit (.int .i64 2), .lit (.int .i64 5), .lit (.int .i64 17)], .agg [.lit (.int .i64 3), .lit (.int .i64 3), .lit (.int .i64 0), .lit (.int .i64 4)], .agg [.lit (.int .i64 3), .lit (.int .i64 6), .lit (.int .i64 4), .lit (.int .i64 0)], .agg [.lit (.int .i64 3), .lit (.int .i64 8), .lit (.int .i64 0), .lit (.int .i64 0)], .agg [.lit (.int .i64 4), .lit (.int .i64 2), .lit (.int .i64 5), .lit (.int .i64 17)], .agg [.lit (.int .i64 4), .lit (.int .i64 3), .lit (.int .i64 0), .lit (.int .i64 4)], .agg [.lit (.int .i64 4), .lit (.int .i64 7), .lit (.int .i64 7), .lit (.int .i64 16)], .agg [.lit (.int .i64 4), .lit (.int .i64 8), .lit (.int .i64 0), .lit (.int .i64 0)], .agg [.lit (.int .i64 5), .lit (.int .i64 3), .lit (.int .i64 0), .lit (.int .i64 4)], .agg [.lit (.int .i64 5), .lit (.int .i64 6), .lit (.int .i64 6), .lit (.int .i64 0)], .agg [.lit (.int .i64 5), .lit (.int .i64 7), .lit (.int .i64 8), .lit (.int .i64 16)], .agg [.lit (.int .i64 5), .lit (.int .i64 8), .lit (.int .i64 0), .lit (.int .i64 0)], .agg [.lit (.int .i64 6), .lit (.int .i64 3), .lit (.int .i64 0), .lit (.int .i64 4)], .agg [.lit (.int .i64 6), .lit (.int .i64 7), .lit (.int .i64 10), .lit (.int .i64 16)], .agg [.lit (.int .i64 6), .lit (.int .i64 8), .lit (.int .i64 0), .lit (.int .i64 0)], .agg [.lit (.int .i64 7), .lit (.int .i64 2), .lit (.int .i64 9), .lit (.int .i64 17)], .agg [.lit (.int .i64 7), .lit (.int .i64 3), .lit (.int .i64 0), .lit (.int .i64 4)], .agg [.lit (.int .i64 7), .lit (.int .i64 8), .lit (.int .i64 0), .lit (.int .i64 0)], .agg [.lit (.int .i64 8), .lit (.int .i64 3), .lit (.int .i64 0), .lit (.int .i64 0)], .agg [.lit (.int .i64 8), .lit (.int .i64 6), .lit (.int .i64 10), .lit (.int .i64 0)], .agg [.lit (.int .i64 8), .lit (.int .i64 8), .lit (.int .i64 0), .lit (.int .i64 0)], .agg [.lit (.int .i64 9), .lit (.int .i64 3), .lit (.int .i64 0), .lit (.int .i64 0)], .agg [.lit (.int .i64 9), .lit (.int .i64 6), .lit (.int .i64 0), .lit (.int .i64 0)], .agg [.lit (.int .i64 9), .lit (.int .i64 8), .lit (.int .i64 0), .lit (.int .i64 0)], .agg [.lit (.int .i64 10), .lit (.int .i64 3), .lit (.int .i64 0), .lit (.int .i64 0)], .agg [.lit (.int .i64 10), .lit (.int .i64 7), .lit (.int .i64 10), .lit (.int .i64 16)], .agg [.lit (.int .i64 10), .lit (.int .i64 8), .lit (.int .i64 0), .lit (.int .i64 0)], .agg [.lit (.int .i64 10), .lit (.int .i64 9), .lit (.int .i64 0), .lit (.int .i64 0)]]

/-- 'patchbaykeep3.ConnFins': WHATEVER THE INPUT: true; the input reads as it did. -/
def connFinsSpec : ChangeSpec := { name := "connFins", fn := fun _ => fun
  | [d] => { results := [.lit (.bool true)], args := [d] }
  | _ => none }
def connFinsRow : OpenClaim := { program := "ytopjfkcoknenfaadoor", sum := "6f1546af6c2529b25188293f64da02f0cf3e2c719062781f28285e3d7bee66fa", func := "patchbay/patchbaykeep3.ConnFins", spec := "connFins", named := ["patchbay/conn.rules"], apart := false, laid := [("patchbay/conn.rules", laid_patchbay_conn_rules)] }
def ConnFinsSaid : Prop := connFinsRow.holds Tryd.pinned (OpenSpec.ofChange connFinsSpec)

/-- ITS FALSE NEIGHBOUR: 'it returns false'. Refute it at one input. -/
def connFinsWrong : ChangeSpec := { name := "connFins", fn := fun _ => fun
  | [d] => { results := [.lit (.bool false)], args := [d] }
  | _ => none }
def ConnFinsWrongFalsely : Prop := connFinsRow.holds Tryd.pinned (OpenSpec.ofChange connFinsWrong)

/-- 'patchbaykeep3.ConnEnds': WHATEVER THE INPUT: true; the input reads as it did. -/
def connEndsSpec : ChangeSpec := { name := "connEnds", fn := fun _ => fun
  | [d1, d2] => { results := [.lit (.bool true)], args := [d1, d2] }
  | _ => none }
def connEndsRow : OpenClaim := { program := "ytopjfkcoknenfaadoor", sum := "6f1546af6c2529b25188293f64da02f0cf3e2c719062781f28285e3d7bee66fa", func := "patchbay/patchbaykeep3.ConnEnds", spec := "connEnds", named := ["patchbay/conn.rules"], apart := false, laid := [("patchbay/conn.rules", laid_patchbay_conn_rules)] }
def ConnEndsSaid : Prop := connEndsRow.holds Tryd.pinned (OpenSpec.ofChange connEndsSpec)

/-- ITS FALSE NEIGHBOUR: 'it returns false'. Refute it at one input. -/
def connEndsWrong : ChangeSpec := { name := "connEnds", fn := fun _ => fun
  | [d1, d2] => { results := [.lit (.bool false)], args := [d1, d2] }
  | _ => none }
def ConnEndsWrongFalsely : Prop := connEndsRow.holds Tryd.pinned (OpenSpec.ofChange connEndsWrong)

/-- 'patchbaykeep3.ConnLeads': WHATEVER THE INPUT: true; the input reads as it did. -/
def connLeadsSpec : ChangeSpec := { name := "connLeads", fn := fun _ => fun
  | [d1, d2] => { results := [.lit (.bool true)], args := [d1, d2] }
  | _ => none }
def connLeadsRow : OpenClaim := { program := "ytopjfkcoknenfaadoor", sum := "6f1546af6c2529b25188293f64da02f0cf3e2c719062781f28285e3d7bee66fa", func := "patchbay/patchbaykeep3.ConnLeads", spec := "connLeads", named := ["patchbay/conn.rules"], apart := false, laid := [("patchbay/conn.rules", laid_patchbay_conn_rules)] }
def ConnLeadsSaid : Prop := connLeadsRow.holds Tryd.pinned (OpenSpec.ofChange connLeadsSpec)

/-- ITS FALSE NEIGHBOUR: 'it returns false'. Refute it at one input. -/
def connLeadsWrong : ChangeSpec := { name := "connLeads", fn := fun _ => fun
  | [d1, d2] => { results := [.lit (.bool false)], args := [d1, d2] }
  | _ => none }
def ConnLeadsWrongFalsely : Prop := connLeadsRow.holds Tryd.pinned (OpenSpec.ofChange connLeadsWrong)

/-- 'patchbaytop.TopCrowd': WHATEVER THE INPUT: true; the input reads as it did. -/
def topCrowdSpec : ChangeSpec := { name := "topCrowd", fn := fun _ => fun
  | [d1, d2, d3, d4] => { results := [.lit (.bool true)], args := [d1, d2, d3, d4] }
  | _ => none }
def topCrowdRow : OpenClaim := { program := "ytopjfkcoknenfaadoor", sum := "6f1546af6c2529b25188293f64da02f0cf3e2c719062781f28285e3d7bee66fa", func := "patchbay/patchbaytop.TopCrowd", spec := "topCrowd", named := ["patchbay/conn.rules"], apart := false, laid := [("patchbay/conn.rules", laid_patchbay_conn_rules)] }
def TopCrowdSaid : Prop := topCrowdRow.holds Tryd.pinned (OpenSpec.ofChange topCrowdSpec)

/-- ITS FALSE NEIGHBOUR: 'it returns false'. Refute it at one input. -/
def topCrowdWrong : ChangeSpec := { name := "topCrowd", fn := fun _ => fun
  | [d1, d2, d3, d4] => { results := [.lit (.bool false)], args := [d1, d2, d3, d4] }
  | _ => none }
def TopCrowdWrongFalsely : Prop := topCrowdRow.holds Tryd.pinned (OpenSpec.ofChange topCrowdWrong)

/-- 'patchbaykeep3.StreamGivesUp': WHATEVER THE INPUT: true; the input reads as it did. -/
def streamGivesUpSpec : ChangeSpec := { name := "streamGivesUp", fn := fun _ => fun
  | [d1, d2] => { results := [.lit (.bool true)], args := [d1, d2] }
  | _ => none }
def streamGivesUpRow : OpenClaim := { program := "ytopjfkcoknenfaadoor", sum := "6f1546af6c2529b25188293f64da02f0cf3e2c719062781f28285e3d7bee66fa", func := "patchbay/patchbaykeep3.StreamGivesUp", spec := "streamGivesUp", named := ["patchbay/conn.rules"], apart := false, laid := [("patchbay/conn.rules", laid_patchbay_conn_rules)] }
def StreamGivesUpSaid : Prop := streamGivesUpRow.holds Tryd.pinned (OpenSpec.ofChange streamGivesUpSpec)

/-- ITS FALSE NEIGHBOUR: 'it returns false'. Refute it at one input. -/
def streamGivesUpWrong : ChangeSpec := { name := "streamGivesUp", fn := fun _ => fun
  | [d1, d2] => { results := [.lit (.bool false)], args := [d1, d2] }
  | _ => none }
def StreamGivesUpWrongFalsely : Prop := streamGivesUpRow.holds Tryd.pinned (OpenSpec.ofChange streamGivesUpWrong)

/-- 'patchbaykeep3.StreamPrefix': WHATEVER THE INPUT: true; the input reads as it did. -/
def streamPrefixSpec : ChangeSpec := { name := "streamPrefix", fn := fun _ => fun
  | [d1, d2, d3, d4, d5, d6] => { results := [.lit (.bool true)], args := [d1, d2, d3, d4, d5, d6] }
  | _ => none }
def streamPrefixRow : OpenClaim := { program := "ytopjfkcoknenfaadoor", sum := "6f1546af6c2529b25188293f64da02f0cf3e2c719062781f28285e3d7bee66fa", func := "patchbay/patchbaykeep3.StreamPrefix", spec := "streamPrefix", named := ["patchbay/conn.rules"], apart := false, laid := [("patchbay/conn.rules", laid_patchbay_conn_rules)] }
def StreamPrefixSaid : Prop := streamPrefixRow.holds Tryd.pinned (OpenSpec.ofChange streamPrefixSpec)

/-- ITS FALSE NEIGHBOUR: 'it returns false'. Refute it at one input. -/
def streamPrefixWrong : ChangeSpec := { name := "streamPrefix", fn := fun _ => fun
  | [d1, d2, d3, d4, d5, d6] => { results := [.lit (.bool false)], args := [d1, d2, d3, d4, d5, d6] }
  | _ => none }
def StreamPrefixWrongFalsely : Prop := streamPrefixRow.holds Tryd.pinned (OpenSpec.ofChange streamPrefixWrong)

/- THE SECOND FORM. 'bulk': how many values and letters a reading holds, each counted each time it is reached (what is shared counts as often as it is met; a slice's spare places count too). A statement '..UptoSaid' is the law's where the arguments, and the package variables that the reading takes, are together of bulk at most 1048576: NARROWER than '..Said'. Prove '..Said' where nothing that the law and all that it calls make is longer than what came in: it says more and counts as full. Else prove '..UptoSaid'. A law counts once. -/
mutual
def uptoBulk {H : Type} : DataW H → Nat
  | .lit (.string bytes) => bytes.length + 1
  | .lit _ => 1
  | .nil => 1
  | .ptr d => uptoBulk d + 1
  | .slice elems spare => uptoBulkAll elems + uptoBulkAll spare + 1
  | .agg parts => uptoBulkAll parts + 1
  | .iface _ d => uptoBulk d + 1
  | .map entries => uptoBulkEntries entries + 1
  | .held _ => 1
def uptoBulkAll {H : Type} : List (DataW H) → Nat
  | [] => 0
  | d :: r => uptoBulk d + uptoBulkAll r
def uptoBulkEntries {H : Type} : List (Lit × DataW H) → Nat
  | [] => 0
  | x :: r => uptoBulkEntry x + uptoBulkEntries r
def uptoBulkEntry {H : Type} : Lit × DataW H → Nat
  | (.string bytes, d) => bytes.length + uptoBulk d + 1
  | (_, d) => uptoBulk d + 1
 end
def uptoSmall : (H : Type) → List (DataW H) → Bool := fun _ ds => decide (uptoBulkAll ds ≤ 1048576)
def OpenSpec.upto (s : _root_.Go.ChangeSpec) : _root_.Go.OpenSpec := { _root_.Go.OpenSpec.ofChange s with cond := some uptoSmall }

/-- 'patchbaykeep3.ConnFins', WHERE WHAT IT READS IS OF BULK AT MOST 1048576: true; the input reads as it did. -/
def connFinsUptoRow : OpenClaim := { program := "ytopjfkcoknenfaadoor", sum := "6f1546af6c2529b25188293f64da02f0cf3e2c719062781f28285e3d7bee66fa", func := "patchbay/patchbaykeep3.ConnFins", spec := "connFins", named := ["patchbay/conn.rules"], apart := false, laid := [("patchbay/conn.rules", laid_patchbay_conn_rules)], narrowed := true }
def ConnFinsUptoSaid : Prop := connFinsUptoRow.holds Tryd.pinned (OpenSpec.upto connFinsSpec)

/-- 'patchbaykeep3.ConnEnds', WHERE WHAT IT READS IS OF BULK AT MOST 1048576: true; the input reads as it did. -/
def connEndsUptoRow : OpenClaim := { program := "ytopjfkcoknenfaadoor", sum := "6f1546af6c2529b25188293f64da02f0cf3e2c719062781f28285e3d7bee66fa", func := "patchbay/patchbaykeep3.ConnEnds", spec := "connEnds", named := ["patchbay/conn.rules"], apart := false, laid := [("patchbay/conn.rules", laid_patchbay_conn_rules)], narrowed := true }
def ConnEndsUptoSaid : Prop := connEndsUptoRow.holds Tryd.pinned (OpenSpec.upto connEndsSpec)

/-- 'patchbaykeep3.ConnLeads', WHERE WHAT IT READS IS OF BULK AT MOST 1048576: true; the input reads as it did. -/
def connLeadsUptoRow : OpenClaim := { program := "ytopjfkcoknenfaadoor", sum := "6f1546af6c2529b25188293f64da02f0cf3e2c719062781f28285e3d7bee66fa", func := "patchbay/patchbaykeep3.ConnLeads", spec := "connLeads", named := ["patchbay/conn.rules"], apart := false, laid := [("patchbay/conn.rules", laid_patchbay_conn_rules)], narrowed := true }
def ConnLeadsUptoSaid : Prop := connLeadsUptoRow.holds Tryd.pinned (OpenSpec.upto connLeadsSpec)

/-- 'patchbaytop.TopCrowd', WHERE WHAT IT READS IS OF BULK AT MOST 1048576: true; the input reads as it did. -/
def topCrowdUptoRow : OpenClaim := { program := "ytopjfkcoknenfaadoor", sum := "6f1546af6c2529b25188293f64da02f0cf3e2c719062781f28285e3d7bee66fa", func := "patchbay/patchbaytop.TopCrowd", spec := "topCrowd", named := ["patchbay/conn.rules"], apart := false, laid := [("patchbay/conn.rules", laid_patchbay_conn_rules)], narrowed := true }
def TopCrowdUptoSaid : Prop := topCrowdUptoRow.holds Tryd.pinned (OpenSpec.upto topCrowdSpec)

/-- 'patchbaykeep3.StreamGivesUp', WHERE WHAT IT READS IS OF BULK AT MOST 1048576: true; the input reads as it did. -/
def streamGivesUpUptoRow : OpenClaim := { program := "ytopjfkcoknenfaadoor", sum := "6f1546af6c2529b25188293f64da02f0cf3e2c719062781f28285e3d7bee66fa", func := "patchbay/patchbaykeep3.StreamGivesUp", spec := "streamGivesUp", named := ["patchbay/conn.rules"], apart := false, laid := [("patchbay/conn.rules", laid_patchbay_conn_rules)], narrowed := true }
def StreamGivesUpUptoSaid : Prop := streamGivesUpUptoRow.holds Tryd.pinned (OpenSpec.upto streamGivesUpSpec)

/-- 'patchbaykeep3.StreamPrefix', WHERE WHAT IT READS IS OF BULK AT MOST 1048576: true; the input reads as it did. -/
def streamPrefixUptoRow : OpenClaim := { program := "ytopjfkcoknenfaadoor", sum := "6f1546af6c2529b25188293f64da02f0cf3e2c719062781f28285e3d7bee66fa", func := "patchbay/patchbaykeep3.StreamPrefix", spec := "streamPrefix", named := ["patchbay/conn.rules"], apart := false, laid := [("patchbay/conn.rules", laid_patchbay_conn_rules)], narrowed := true }
def StreamPrefixUptoSaid : Prop := streamPrefixUptoRow.holds Tryd.pinned (OpenSpec.upto streamPrefixSpec)

end Rows
end Go.Proofs.YtopjfkcoknenfaaDoor
