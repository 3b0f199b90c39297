/-
  DERIVED. GIVEN WITH THE SEED: THE CARDS: each row of YthjllledhcfnhaaGreatDoorRows.lean that lists a variable, with what it lists TIED to the program's text (the seventh form; the later family's looks); each row that meets fmt, with fmt's text TOLD by the authors' own Lean function (tested against real Go, not proved from fmt's source: count such statements apart). THE CARD IS WHAT COUNTS. Prove the row's statement (the work); the ties are given (YthjllledhcfnhaaGreatDoorTie.lean); close each card by the builder's one call (the guide's Derived/Test/ToyasCard.lean, 'card_holds'). Laid BY PROGRAM, IN A SANDBOX (cutbox-door.mjs). By AI agents, Wed Nov 11 2026. No macro, syntax, notation, axiom, sorry.
-/
import Derived.Test.YthjllledhcfnhaaGreatDoorRows
import GoSem.ClaimSeven
namespace Go.Proofs.YthjllledhcfnhaaGreatDoor
namespace Rows

/-- THE TIED CARD OF 'laws.FnBrightness'. -/
def fnBrightnessCard : Claim7 := { stood := { row := fnBrightnessRow, standIns := [], harness := (true, "eeeae9f8f4b6677110dcdf367f8adc6b58b8c63544bf177ae23f7a9bdb9ec874"), looks := true }, kinds := [], alts := [], laidByText := true, laidKinds := [.data, .data, .data, .data, .sentinel, .sentinel, .data, .pinned], laidTests := true, laidLooks := .later }
def FnBrightnessCardSaid : Prop := Claim7.holds Tryz.pinned (.plain (OpenSpec.ofChange fnBrightnessSpec)) fnBrightnessCard

/-- THE TIED CARD OF 'laws.FnDome'. -/
def fnDomeCard : Claim7 := { stood := { row := fnDomeRow, standIns := [], harness := (true, "eeeae9f8f4b6677110dcdf367f8adc6b58b8c63544bf177ae23f7a9bdb9ec874"), looks := true }, kinds := [], alts := [], laidByText := true, laidKinds := [.data, .data, .data, .data, .sentinel, .sentinel, .data, .pinned], laidTests := true, laidLooks := .later }
def FnDomeCardSaid : Prop := Claim7.holds Tryz.pinned (.plain (OpenSpec.ofChange fnDomeSpec)) fnDomeCard

/-- THE SECOND FORM's CARD OF 'laws.FnBrightness'. -/
def fnBrightnessUptoCard : Claim7 := { stood := { row := fnBrightnessUptoRow, standIns := [], harness := (true, "eeeae9f8f4b6677110dcdf367f8adc6b58b8c63544bf177ae23f7a9bdb9ec874"), looks := true }, kinds := [], alts := [], laidByText := true, laidKinds := [.data, .data, .data, .data, .sentinel, .sentinel, .data, .pinned], laidTests := true, laidLooks := .later }
def FnBrightnessUptoCardSaid : Prop := Claim7.holds Tryz.pinned (.plain (OpenSpec.upto fnBrightnessSpec)) fnBrightnessUptoCard

/-- THE SECOND FORM's CARD OF 'laws.FnDome'. -/
def fnDomeUptoCard : Claim7 := { stood := { row := fnDomeUptoRow, standIns := [], harness := (true, "eeeae9f8f4b6677110dcdf367f8adc6b58b8c63544bf177ae23f7a9bdb9ec874"), looks := true }, kinds := [], alts := [], laidByText := true, laidKinds := [.data, .data, .data, .data, .sentinel, .sentinel, .data, .pinned], laidTests := true, laidLooks := .later }
def FnDomeUptoCardSaid : Prop := Claim7.holds Tryz.pinned (.plain (OpenSpec.upto fnDomeSpec)) fnDomeUptoCard
end Rows
end Go.Proofs.YthjllledhcfnhaaGreatDoor
