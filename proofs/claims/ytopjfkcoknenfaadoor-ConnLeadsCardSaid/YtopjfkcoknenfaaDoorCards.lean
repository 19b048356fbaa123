/-
  DERIVED. GIVEN WITH THE SEED: THE CARDS: each row of YtopjfkcoknenfaaDoorRows.lean that lists a variable, with what it lists TIED to the program's text (the seventh form; the later family's looks); each row that meets fmt, with fmt's text TOLD by the authors' own Lean function (tested against real Go, not proved from fmt's source: count such statements apart). THE CARD IS WHAT COUNTS. Prove the row's statement (the work); the ties are given (YtopjfkcoknenfaaDoorTie.lean); close each card by the builder's one call (the guide's Derived/Test/ToyasCard.lean, 'card_holds'). Laid BY PROGRAM, IN A SANDBOX (cutbox-door.mjs). By AI agents, Wed Nov 11 2026. No macro, syntax, notation, axiom, sorry.
-/
import Derived.Test.YtopjfkcoknenfaaDoorRows
import GoSem.ClaimSeven
namespace Go.Proofs.YtopjfkcoknenfaaDoor
namespace Rows

/-- THE TIED CARD OF 'patchbaykeep3.ConnFins'. -/
def connFinsCard : Claim7 := { stood := { row := connFinsRow, standIns := [], harness := (true, "14e39dbee74820bd825faafc2049c876b8379427ce6fba0612aff3d271468c84"), looks := false }, kinds := [], alts := [], laidByText := true, laidKinds := [.data], laidTests := true, laidLooks := .later }
def ConnFinsCardSaid : Prop := Claim7.holds Tryd.pinned (.plain (OpenSpec.ofChange connFinsSpec)) connFinsCard

/-- THE TIED CARD OF 'patchbaykeep3.ConnEnds'. -/
def connEndsCard : Claim7 := { stood := { row := connEndsRow, standIns := [], harness := (true, "14e39dbee74820bd825faafc2049c876b8379427ce6fba0612aff3d271468c84"), looks := false }, kinds := [], alts := [], laidByText := true, laidKinds := [.data], laidTests := true, laidLooks := .later }
def ConnEndsCardSaid : Prop := Claim7.holds Tryd.pinned (.plain (OpenSpec.ofChange connEndsSpec)) connEndsCard

/-- THE TIED CARD OF 'patchbaykeep3.ConnLeads'. -/
def connLeadsCard : Claim7 := { stood := { row := connLeadsRow, standIns := [], harness := (true, "14e39dbee74820bd825faafc2049c876b8379427ce6fba0612aff3d271468c84"), looks := false }, kinds := [], alts := [], laidByText := true, laidKinds := [.data], laidTests := true, laidLooks := .later }
def ConnLeadsCardSaid : Prop := Claim7.holds Tryd.pinned (.plain (OpenSpec.ofChange connLeadsSpec)) connLeadsCard

/-- THE TIED CARD OF 'patchbaytop.TopCrowd'. -/
def topCrowdCard : Claim7 := { stood := { row := topCrowdRow, standIns := [], harness := (true, "14e39dbee74820bd825faafc2049c876b8379427ce6fba0612aff3d271468c84"), looks := false }, kinds := [], alts := [], laidByText := true, laidKinds := [.data], laidTests := true, laidLooks := .later }
def TopCrowdCardSaid : Prop := Claim7.holds Tryd.pinned (.plain (OpenSpec.ofChange topCrowdSpec)) topCrowdCard

/-- THE TIED CARD OF 'patchbaykeep3.StreamGivesUp'. -/
def streamGivesUpCard : Claim7 := { stood := { row := streamGivesUpRow, standIns := [], harness := (true, "14e39dbee74820bd825faafc2049c876b8379427ce6fba0612aff3d271468c84"), looks := false }, kinds := [], alts := [], laidByText := true, laidKinds := [.data], laidTests := true, laidLooks := .later }
def StreamGivesUpCardSaid : Prop := Claim7.holds Tryd.pinned (.plain (OpenSpec.ofChange streamGivesUpSpec)) streamGivesUpCard

/-- THE TIED CARD OF 'patchbaykeep3.StreamPrefix'. -/
def streamPrefixCard : Claim7 := { stood := { row := streamPrefixRow, standIns := [], harness := (true, "14e39dbee74820bd825faafc2049c876b8379427ce6fba0612aff3d271468c84"), looks := false }, kinds := [], alts := [], laidByText := true, laidKinds := [.data], laidTests := true, laidLooks := .later }
def StreamPrefixCardSaid : Prop := Claim7.holds Tryd.pinned (.plain (OpenSpec.ofChange streamPrefixSpec)) streamPrefixCard

/-- THE SECOND FORM's CARD OF 'patchbaykeep3.ConnFins'. -/
def connFinsUptoCard : Claim7 := { stood := { row := connFinsUptoRow, standIns := [], harness := (true, "14e39dbee74820bd825faafc2049c876b8379427ce6fba0612aff3d271468c84"), looks := false }, kinds := [], alts := [], laidByText := true, laidKinds := [.data], laidTests := true, laidLooks := .later }
def ConnFinsUptoCardSaid : Prop := Claim7.holds Tryd.pinned (.plain (OpenSpec.upto connFinsSpec)) connFinsUptoCard

/-- THE SECOND FORM's CARD OF 'patchbaykeep3.ConnEnds'. -/
def connEndsUptoCard : Claim7 := { stood := { row := connEndsUptoRow, standIns := [], harness := (true, "14e39dbee74820bd825faafc2049c876b8379427ce6fba0612aff3d271468c84"), looks := false }, kinds := [], alts := [], laidByText := true, laidKinds := [.data], laidTests := true, laidLooks := .later }
def ConnEndsUptoCardSaid : Prop := Claim7.holds Tryd.pinned (.plain (OpenSpec.upto connEndsSpec)) connEndsUptoCard

/-- THE SECOND FORM's CARD OF 'patchbaykeep3.ConnLeads'. -/
def connLeadsUptoCard : Claim7 := { stood := { row := connLeadsUptoRow, standIns := [], harness := (true, "14e39dbee74820bd825faafc2049c876b8379427ce6fba0612aff3d271468c84"), looks := false }, kinds := [], alts := [], laidByText := true, laidKinds := [.data], laidTests := true, laidLooks := .later }
def ConnLeadsUptoCardSaid : Prop := Claim7.holds Tryd.pinned (.plain (OpenSpec.upto connLeadsSpec)) connLeadsUptoCard

/-- THE SECOND FORM's CARD OF 'patchbaytop.TopCrowd'. -/
def topCrowdUptoCard : Claim7 := { stood := { row := topCrowdUptoRow, standIns := [], harness := (true, "14e39dbee74820bd825faafc2049c876b8379427ce6fba0612aff3d271468c84"), looks := false }, kinds := [], alts := [], laidByText := true, laidKinds := [.data], laidTests := true, laidLooks := .later }
def TopCrowdUptoCardSaid : Prop := Claim7.holds Tryd.pinned (.plain (OpenSpec.upto topCrowdSpec)) topCrowdUptoCard

/-- THE SECOND FORM's CARD OF 'patchbaykeep3.StreamGivesUp'. -/
def streamGivesUpUptoCard : Claim7 := { stood := { row := streamGivesUpUptoRow, standIns := [], harness := (true, "14e39dbee74820bd825faafc2049c876b8379427ce6fba0612aff3d271468c84"), looks := false }, kinds := [], alts := [], laidByText := true, laidKinds := [.data], laidTests := true, laidLooks := .later }
def StreamGivesUpUptoCardSaid : Prop := Claim7.holds Tryd.pinned (.plain (OpenSpec.upto streamGivesUpSpec)) streamGivesUpUptoCard

/-- THE SECOND FORM's CARD OF 'patchbaykeep3.StreamPrefix'. -/
def streamPrefixUptoCard : Claim7 := { stood := { row := streamPrefixUptoRow, standIns := [], harness := (true, "14e39dbee74820bd825faafc2049c876b8379427ce6fba0612aff3d271468c84"), looks := false }, kinds := [], alts := [], laidByText := true, laidKinds := [.data], laidTests := true, laidLooks := .later }
def StreamPrefixUptoCardSaid : Prop := Claim7.holds Tryd.pinned (.plain (OpenSpec.upto streamPrefixSpec)) streamPrefixUptoCard
end Rows
end Go.Proofs.YtopjfkcoknenfaaDoor
