/-
  No cell of these rows narrows 'for every input' (looked for: loops, veiled, ifaces, maps, wideKeys, modest, calm, conditions, laid).
  DERIVED. THE GIVEN ROWS OF THIS SEAT. 6 by the template 'for every input the law returns true; each argument reads behind the call as it read before'; 0 by the template 'total and deterministic' (their statements: YtopjfkcoknenfaaTotals.lean).
  GIVEN WITH THE SEED: the statements are not yours to turn. If you find one false, say at which input.
  Laid BY PROGRAM, IN A SANDBOX (cutbox-rows.mjs): the forced cells as the released guide's own fill.sh prints them over the translation 3046a4f697399303… (all of the seat's roots in one cut). By AI agents, Wed Nov 11 2026. No macro, syntax, notation, axiom, sorry.
-/
import Derived.Test.YtopjfkcoknenfaaChecked
import GoSem.Claim
import GoSem.ClaimJoined
import GoSem.ClaimMapViews
import Derived.JoinedTies
import Derived.KernelRfl
namespace Go.Proofs.Ytopjfkcoknenfaa
/- THE CELL 'sum', in the pinned program and in every row, IS THE sha256 OF THE DUMP (.gsa) THAT YtopjfkcoknenfaaProg.lean LOADS. Nothing in Lean hashes anything: it is a label: what it is worth is what the hold of that sum in a sandbox is worth. -/
noncomputable def Try.pinned : Pinned := { name := "ytopjfkcoknenfaa", sum := "3046a4f69739930318042a2f3d019573f42a5d7bcd1786fc91c5f571293a076c", checked := Try.checked }
namespace Rows
def none {H : Type} : Left H := { results := [], args := [] }

/-- 'patchbaykeep3.CrowdSlow': WHATEVER THE INPUT: true; the input reads as it did. -/
def crowdSlowSpec : ChangeSpec := { name := "crowdSlow", fn := fun _ => fun
  | [d1, d2] => { results := [.lit (.bool true)], args := [d1, d2] }
  | _ => none }
def crowdSlowRow : OpenClaim := { program := "ytopjfkcoknenfaa", sum := "3046a4f69739930318042a2f3d019573f42a5d7bcd1786fc91c5f571293a076c", func := "patchbay/patchbaykeep3.CrowdSlow", spec := "crowdSlow", apart := false }
def CrowdSlowSaid : Prop := crowdSlowRow.holds Try.pinned (OpenSpec.ofChange crowdSlowSpec)

/-- ITS FALSE NEIGHBOUR: 'it returns false'. Refute it at one input. -/
def crowdSlowWrong : ChangeSpec := { name := "crowdSlow", fn := fun _ => fun
  | [d1, d2] => { results := [.lit (.bool false)], args := [d1, d2] }
  | _ => none }
def CrowdSlowWrongFalsely : Prop := crowdSlowRow.holds Try.pinned (OpenSpec.ofChange crowdSlowWrong)

/-- 'patchbaykeep3.CrowdAvoids': WHATEVER THE INPUT: true; the input reads as it did. -/
def crowdAvoidsSpec : ChangeSpec := { name := "crowdAvoids", fn := fun _ => fun
  | [d1, d2, d3] => { results := [.lit (.bool true)], args := [d1, d2, d3] }
  | _ => none }
def crowdAvoidsRow : OpenClaim := { program := "ytopjfkcoknenfaa", sum := "3046a4f69739930318042a2f3d019573f42a5d7bcd1786fc91c5f571293a076c", func := "patchbay/patchbaykeep3.CrowdAvoids", spec := "crowdAvoids", apart := false }
def CrowdAvoidsSaid : Prop := crowdAvoidsRow.holds Try.pinned (OpenSpec.ofChange crowdAvoidsSpec)

/-- ITS FALSE NEIGHBOUR: 'it returns false'. Refute it at one input. -/
def crowdAvoidsWrong : ChangeSpec := { name := "crowdAvoids", fn := fun _ => fun
  | [d1, d2, d3] => { results := [.lit (.bool false)], args := [d1, d2, d3] }
  | _ => none }
def CrowdAvoidsWrongFalsely : Prop := crowdAvoidsRow.holds Try.pinned (OpenSpec.ofChange crowdAvoidsWrong)

/-- 'patchbaykeep3.CrowdOnce': WHATEVER THE INPUT: true; the input reads as it did. -/
def crowdOnceSpec : ChangeSpec := { name := "crowdOnce", fn := fun _ => fun
  | [d1, d2, d3, d4] => { results := [.lit (.bool true)], args := [d1, d2, d3, d4] }
  | _ => none }
def crowdOnceRow : OpenClaim := { program := "ytopjfkcoknenfaa", sum := "3046a4f69739930318042a2f3d019573f42a5d7bcd1786fc91c5f571293a076c", func := "patchbay/patchbaykeep3.CrowdOnce", spec := "crowdOnce", apart := false }
def CrowdOnceSaid : Prop := crowdOnceRow.holds Try.pinned (OpenSpec.ofChange crowdOnceSpec)

/-- ITS FALSE NEIGHBOUR: 'it returns false'. Refute it at one input. -/
def crowdOnceWrong : ChangeSpec := { name := "crowdOnce", fn := fun _ => fun
  | [d1, d2, d3, d4] => { results := [.lit (.bool false)], args := [d1, d2, d3, d4] }
  | _ => none }
def CrowdOnceWrongFalsely : Prop := crowdOnceRow.holds Try.pinned (OpenSpec.ofChange crowdOnceWrong)

/-- 'patchbaykeep3.CrowdBounds': WHATEVER THE INPUT: true; the input reads as it did. -/
def crowdBoundsSpec : ChangeSpec := { name := "crowdBounds", fn := fun _ => fun
  | [d1, d2] => { results := [.lit (.bool true)], args := [d1, d2] }
  | _ => none }
def crowdBoundsRow : OpenClaim := { program := "ytopjfkcoknenfaa", sum := "3046a4f69739930318042a2f3d019573f42a5d7bcd1786fc91c5f571293a076c", func := "patchbay/patchbaykeep3.CrowdBounds", spec := "crowdBounds", apart := false }
def CrowdBoundsSaid : Prop := crowdBoundsRow.holds Try.pinned (OpenSpec.ofChange crowdBoundsSpec)

/-- ITS FALSE NEIGHBOUR: 'it returns false'. Refute it at one input. -/
def crowdBoundsWrong : ChangeSpec := { name := "crowdBounds", fn := fun _ => fun
  | [d1, d2] => { results := [.lit (.bool false)], args := [d1, d2] }
  | _ => none }
def CrowdBoundsWrongFalsely : Prop := crowdBoundsRow.holds Try.pinned (OpenSpec.ofChange crowdBoundsWrong)

/-- 'patchbaykeep3.CrowdRestarts': WHATEVER THE INPUT: true; the input reads as it did. -/
def crowdRestartsSpec : ChangeSpec := { name := "crowdRestarts", fn := fun _ => fun
  | [d1, d2, d3, d4] => { results := [.lit (.bool true)], args := [d1, d2, d3, d4] }
  | _ => none }
def crowdRestartsRow : OpenClaim := { program := "ytopjfkcoknenfaa", sum := "3046a4f69739930318042a2f3d019573f42a5d7bcd1786fc91c5f571293a076c", func := "patchbay/patchbaykeep3.CrowdRestarts", spec := "crowdRestarts", apart := false }
def CrowdRestartsSaid : Prop := crowdRestartsRow.holds Try.pinned (OpenSpec.ofChange crowdRestartsSpec)

/-- ITS FALSE NEIGHBOUR: 'it returns false'. Refute it at one input. -/
def crowdRestartsWrong : ChangeSpec := { name := "crowdRestarts", fn := fun _ => fun
  | [d1, d2, d3, d4] => { results := [.lit (.bool false)], args := [d1, d2, d3, d4] }
  | _ => none }
def CrowdRestartsWrongFalsely : Prop := crowdRestartsRow.holds Try.pinned (OpenSpec.ofChange crowdRestartsWrong)

/-- 'patchbaykeep3.SackChooses': WHATEVER THE INPUT: true; the input reads as it did. -/
def sackChoosesSpec : ChangeSpec := { name := "sackChooses", fn := fun _ => fun
  | [d1, d2, d3, d4] => { results := [.lit (.bool true)], args := [d1, d2, d3, d4] }
  | _ => none }
def sackChoosesRow : OpenClaim := { program := "ytopjfkcoknenfaa", sum := "3046a4f69739930318042a2f3d019573f42a5d7bcd1786fc91c5f571293a076c", func := "patchbay/patchbaykeep3.SackChooses", spec := "sackChooses", apart := false }
def SackChoosesSaid : Prop := sackChoosesRow.holds Try.pinned (OpenSpec.ofChange sackChoosesSpec)

/-- ITS FALSE NEIGHBOUR: 'it returns false'. Refute it at one input. -/
def sackChoosesWrong : ChangeSpec := { name := "sackChooses", fn := fun _ => fun
  | [d1, d2, d3, d4] => { results := [.lit (.bool false)], args := [d1, d2, d3, d4] }
  | _ => none }
def SackChoosesWrongFalsely : Prop := sackChoosesRow.holds Try.pinned (OpenSpec.ofChange sackChoosesWrong)

/- THE SECOND FORM. 'bulk': how many values and letters a reading holds, each counted each time it is reached (what is shared counts as often as it is met; a slice's spare places count too). A statement '..UptoSaid' is the law's where the arguments, and the package variables that the reading takes, are together of bulk at most 1048576: NARROWER than '..Said'. Prove '..Said' where nothing that the law and all that it calls make is longer than what came in: it says more and counts as full. Else prove '..UptoSaid'. A law counts once. -/
mutual
def uptoBulk {H : Type} : DataW H → Nat
  | .lit (.string bytes) => bytes.length + 1
  | .lit _ => 1
  | .nil => 1
  | .ptr d => uptoBulk d + 1
  | .slice elems spare => uptoBulkAll elems + uptoBulkAll spare + 1
  | .agg parts => uptoBulkAll parts + 1
  | .iface _ d => uptoBulk d + 1
  | .map entries => uptoBulkEntries entries + 1
  | .held _ => 1
def uptoBulkAll {H : Type} : List (DataW H) → Nat
  | [] => 0
  | d :: r => uptoBulk d + uptoBulkAll r
def uptoBulkEntries {H : Type} : List (Lit × DataW H) → Nat
  | [] => 0
  | x :: r => uptoBulkEntry x + uptoBulkEntries r
def uptoBulkEntry {H : Type} : Lit × DataW H → Nat
  | (.string bytes, d) => bytes.length + uptoBulk d + 1
  | (_, d) => uptoBulk d + 1
 end
def uptoSmall : (H : Type) → List (DataW H) → Bool := fun _ ds => decide (uptoBulkAll ds ≤ 1048576)
def OpenSpec.upto (s : _root_.Go.ChangeSpec) : _root_.Go.OpenSpec := { _root_.Go.OpenSpec.ofChange s with cond := some uptoSmall }

/-- 'patchbaykeep3.CrowdSlow', WHERE WHAT IT READS IS OF BULK AT MOST 1048576: true; the input reads as it did. -/
def crowdSlowUptoRow : OpenClaim := { program := "ytopjfkcoknenfaa", sum := "3046a4f69739930318042a2f3d019573f42a5d7bcd1786fc91c5f571293a076c", func := "patchbay/patchbaykeep3.CrowdSlow", spec := "crowdSlow", apart := false, narrowed := true }
def CrowdSlowUptoSaid : Prop := crowdSlowUptoRow.holds Try.pinned (OpenSpec.upto crowdSlowSpec)

/-- 'patchbaykeep3.CrowdAvoids', WHERE WHAT IT READS IS OF BULK AT MOST 1048576: true; the input reads as it did. -/
def crowdAvoidsUptoRow : OpenClaim := { program := "ytopjfkcoknenfaa", sum := "3046a4f69739930318042a2f3d019573f42a5d7bcd1786fc91c5f571293a076c", func := "patchbay/patchbaykeep3.CrowdAvoids", spec := "crowdAvoids", apart := false, narrowed := true }
def CrowdAvoidsUptoSaid : Prop := crowdAvoidsUptoRow.holds Try.pinned (OpenSpec.upto crowdAvoidsSpec)

/-- 'patchbaykeep3.CrowdOnce', WHERE WHAT IT READS IS OF BULK AT MOST 1048576: true; the input reads as it did. -/
def crowdOnceUptoRow : OpenClaim := { program := "ytopjfkcoknenfaa", sum := "3046a4f69739930318042a2f3d019573f42a5d7bcd1786fc91c5f571293a076c", func := "patchbay/patchbaykeep3.CrowdOnce", spec := "crowdOnce", apart := false, narrowed := true }
def CrowdOnceUptoSaid : Prop := crowdOnceUptoRow.holds Try.pinned (OpenSpec.upto crowdOnceSpec)

/-- 'patchbaykeep3.CrowdBounds', WHERE WHAT IT READS IS OF BULK AT MOST 1048576: true; the input reads as it did. -/
def crowdBoundsUptoRow : OpenClaim := { program := "ytopjfkcoknenfaa", sum := "3046a4f69739930318042a2f3d019573f42a5d7bcd1786fc91c5f571293a076c", func := "patchbay/patchbaykeep3.CrowdBounds", spec := "crowdBounds", apart := false, narrowed := true }
def CrowdBoundsUptoSaid : Prop := crowdBoundsUptoRow.holds Try.pinned (OpenSpec.upto crowdBoundsSpec)

/-- 'patchbaykeep3.CrowdRestarts', WHERE WHAT IT READS IS OF BULK AT MOST 1048576: true; the input reads as it did. -/
def crowdRestartsUptoRow : OpenClaim := { program := "ytopjfkcoknenfaa", sum := "3046a4f69739930318042a2f3d019573f42a5d7bcd1786fc91c5f571293a076c", func := "patchbay/patchbaykeep3.CrowdRestarts", spec := "crowdRestarts", apart := false, narrowed := true }
def CrowdRestartsUptoSaid : Prop := crowdRestartsUptoRow.holds Try.pinned (OpenSpec.upto crowdRestartsSpec)

/-- 'patchbaykeep3.SackChooses', WHERE WHAT IT READS IS OF BULK AT MOST 1048576: true; the input reads as it did. -/
def sackChoosesUptoRow : OpenClaim := { program := "ytopjfkcoknenfaa", sum := "3046a4f69739930318042a2f3d019573f42a5d7bcd1786fc91c5f571293a076c", func := "patchbay/patchbaykeep3.SackChooses", spec := "sackChooses", apart := false, narrowed := true }
def SackChoosesUptoSaid : Prop := sackChoosesUptoRow.holds Try.pinned (OpenSpec.upto sackChoosesSpec)

end Rows
end Go.Proofs.Ytopjfkcoknenfaa
