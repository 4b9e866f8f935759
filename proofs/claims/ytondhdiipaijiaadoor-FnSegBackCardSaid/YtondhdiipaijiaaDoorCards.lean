/-
  DERIVED. GIVEN WITH THE SEED: THE CARDS: each row of YtondhdiipaijiaaDoorRows.lean that lists a variable, with what it lists TIED to the program's text (the seventh form; the later family's looks); each row that meets fmt, with fmt's text TOLD by the authors' own Lean function (tested against real Go, not proved from fmt's source: count such statements apart). THE CARD IS WHAT COUNTS. Prove the row's statement (the work); the ties are given (YtondhdiipaijiaaDoorTie.lean); close each card by the builder's one call (the guide's Derived/Test/ToyasCard.lean, 'card_holds'). Laid BY PROGRAM, IN A SANDBOX (cutbox-door.mjs). By AI agents, Wed Nov 11 2026. No macro, syntax, notation, axiom, sorry.
-/
import Derived.Test.YtondhdiipaijiaaDoorRows
import GoSem.ClaimSeven
namespace Go.Proofs.YtondhdiipaijiaaDoor
namespace Rows

/-- THE TIED CARD OF 'laws.FnExactSegHear'. -/
def fnExactSegHearCard : Claim7 := { stood := { row := fnExactSegHearRow, standIns := [], harness := (true, "aa01e200ca97df319c6c287a363b4843e3b77bab1e8d25e11409fd5e468fee46"), looks := false }, kinds := [], alts := [], laidByText := true, laidKinds := [.sentinel], laidTests := true, laidLooks := .later }
def FnExactSegHearCardSaid : Prop := Claim7.holds Tryd.pinned (.plain (OpenSpec.ofChange fnExactSegHearSpec)) fnExactSegHearCard

/-- THE TIED CARD OF 'laws.FnSegOther'. -/
def fnSegOtherCard : Claim7 := { stood := { row := fnSegOtherRow, standIns := [], harness := (true, "aa01e200ca97df319c6c287a363b4843e3b77bab1e8d25e11409fd5e468fee46"), looks := false }, kinds := [], alts := [], laidByText := true, laidKinds := [.sentinel], laidTests := true, laidLooks := .later }
def FnSegOtherCardSaid : Prop := Claim7.holds Tryd.pinned (.plain (OpenSpec.ofChange fnSegOtherSpec)) fnSegOtherCard

/-- THE TIED CARD OF 'laws.FnSegBack'. -/
def fnSegBackCard : Claim7 := { stood := { row := fnSegBackRow, standIns := [], harness := (true, "aa01e200ca97df319c6c287a363b4843e3b77bab1e8d25e11409fd5e468fee46"), looks := false }, kinds := [], alts := [], laidByText := true, laidKinds := [.sentinel], laidTests := true, laidLooks := .later }
def FnSegBackCardSaid : Prop := Claim7.holds Tryd.pinned (.plain (OpenSpec.ofChange fnSegBackSpec)) fnSegBackCard

/-- THE TIED CARD OF 'laws.FnSegLost'. -/
def fnSegLostCard : Claim7 := { stood := { row := fnSegLostRow, standIns := [], harness := (true, "aa01e200ca97df319c6c287a363b4843e3b77bab1e8d25e11409fd5e468fee46"), looks := false }, kinds := [], alts := [], laidByText := true, laidKinds := [.sentinel], laidTests := true, laidLooks := .later }
def FnSegLostCardSaid : Prop := Claim7.holds Tryd.pinned (.plain (OpenSpec.ofChange fnSegLostSpec)) fnSegLostCard

/-- THE SECOND FORM's CARD OF 'laws.FnExactSegHear'. -/
def fnExactSegHearUptoCard : Claim7 := { stood := { row := fnExactSegHearUptoRow, standIns := [], harness := (true, "aa01e200ca97df319c6c287a363b4843e3b77bab1e8d25e11409fd5e468fee46"), looks := false }, kinds := [], alts := [], laidByText := true, laidKinds := [.sentinel], laidTests := true, laidLooks := .later }
def FnExactSegHearUptoCardSaid : Prop := Claim7.holds Tryd.pinned (.plain (OpenSpec.upto fnExactSegHearSpec)) fnExactSegHearUptoCard

/-- THE SECOND FORM's CARD OF 'laws.FnSegOther'. -/
def fnSegOtherUptoCard : Claim7 := { stood := { row := fnSegOtherUptoRow, standIns := [], harness := (true, "aa01e200ca97df319c6c287a363b4843e3b77bab1e8d25e11409fd5e468fee46"), looks := false }, kinds := [], alts := [], laidByText := true, laidKinds := [.sentinel], laidTests := true, laidLooks := .later }
def FnSegOtherUptoCardSaid : Prop := Claim7.holds Tryd.pinned (.plain (OpenSpec.upto fnSegOtherSpec)) fnSegOtherUptoCard

/-- THE SECOND FORM's CARD OF 'laws.FnSegBack'. -/
def fnSegBackUptoCard : Claim7 := { stood := { row := fnSegBackUptoRow, standIns := [], harness := (true, "aa01e200ca97df319c6c287a363b4843e3b77bab1e8d25e11409fd5e468fee46"), looks := false }, kinds := [], alts := [], laidByText := true, laidKinds := [.sentinel], laidTests := true, laidLooks := .later }
def FnSegBackUptoCardSaid : Prop := Claim7.holds Tryd.pinned (.plain (OpenSpec.upto fnSegBackSpec)) fnSegBackUptoCard

/-- THE SECOND FORM's CARD OF 'laws.FnSegLost'. -/
def fnSegLostUptoCard : Claim7 := { stood := { row := fnSegLostUptoRow, standIns := [], harness := (true, "aa01e200ca97df319c6c287a363b4843e3b77bab1e8d25e11409fd5e468fee46"), looks := false }, kinds := [], alts := [], laidByText := true, laidKinds := [.sentinel], laidTests := true, laidLooks := .later }
def FnSegLostUptoCardSaid : Prop := Claim7.holds Tryd.pinned (.plain (OpenSpec.upto fnSegLostSpec)) fnSegLostUptoCard
end Rows
end Go.Proofs.YtondhdiipaijiaaDoor
