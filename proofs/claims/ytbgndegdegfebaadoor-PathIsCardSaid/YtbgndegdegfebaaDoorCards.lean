/-
  DERIVED. GIVEN WITH THE SEED: THE CARDS: each row of YtbgndegdegfebaaDoorRows.lean that lists a variable, with what it lists TIED to the program's text (the seventh form; the later family's looks); each row that meets fmt, with fmt's text TOLD by the authors' own Lean function (tested against real Go, not proved from fmt's source: count such statements apart). THE CARD IS WHAT COUNTS. Prove the row's statement (the work); the ties are given (YtbgndegdegfebaaDoorTie.lean); close each card by the builder's one call (the guide's Derived/Test/ToyasCard.lean, 'card_holds'). Laid BY PROGRAM, IN A SANDBOX (cutbox-door.mjs). By AI agents, Wed Nov 11 2026. No macro, syntax, notation, axiom, sorry.
-/
import Derived.Test.YtbgndegdegfebaaDoorRows
import GoSem.ClaimSeven
namespace Go.Proofs.YtbgndegdegfebaaDoor
namespace Rows

/-- THE TIED CARD OF 'postilionlaw13.ValueIs'. -/
def valueIsCard : Claim7 := { stood := { row := valueIsRow, standIns := [], harness := (true, "ed59346e760014d423187f81f977bb1e1ec3912c1ee745e010d1e4966d1876ae"), looks := false }, kinds := [], alts := [], laidByText := true, laidKinds := [.data, .pinned], laidTests := true, laidLooks := .later }
def ValueIsCardSaid : Prop := Claim7.holds Tryd.pinned (.plain (OpenSpec.ofChange valueIsSpec)) valueIsCard

/-- THE TIED CARD OF 'postilionlaw13.ValueBack'. -/
def valueBackCard : Claim7 := { stood := { row := valueBackRow, standIns := [], harness := (true, "ed59346e760014d423187f81f977bb1e1ec3912c1ee745e010d1e4966d1876ae"), looks := false }, kinds := [], alts := [], laidByText := true, laidKinds := [.data, .pinned], laidTests := true, laidLooks := .later }
def ValueBackCardSaid : Prop := Claim7.holds Tryd.pinned (.plain (OpenSpec.ofChange valueBackSpec)) valueBackCard

/-- THE TIED CARD OF 'postilionlaw16.PathIs'. -/
def pathIsCard : Claim7 := { stood := { row := pathIsRow, standIns := [], harness := (true, "ed59346e760014d423187f81f977bb1e1ec3912c1ee745e010d1e4966d1876ae"), looks := false }, kinds := [], alts := [], laidByText := true, laidKinds := [.data, .pinned], laidTests := true, laidLooks := .later }
def PathIsCardSaid : Prop := Claim7.holds Tryd.pinned (.plain (OpenSpec.ofChange pathIsSpec)) pathIsCard

/-- THE SECOND FORM's CARD OF 'postilionlaw13.ValueIs'. -/
def valueIsUptoCard : Claim7 := { stood := { row := valueIsUptoRow, standIns := [], harness := (true, "ed59346e760014d423187f81f977bb1e1ec3912c1ee745e010d1e4966d1876ae"), looks := false }, kinds := [], alts := [], laidByText := true, laidKinds := [.data, .pinned], laidTests := true, laidLooks := .later }
def ValueIsUptoCardSaid : Prop := Claim7.holds Tryd.pinned (.plain (OpenSpec.upto valueIsSpec)) valueIsUptoCard

/-- THE SECOND FORM's CARD OF 'postilionlaw13.ValueBack'. -/
def valueBackUptoCard : Claim7 := { stood := { row := valueBackUptoRow, standIns := [], harness := (true, "ed59346e760014d423187f81f977bb1e1ec3912c1ee745e010d1e4966d1876ae"), looks := false }, kinds := [], alts := [], laidByText := true, laidKinds := [.data, .pinned], laidTests := true, laidLooks := .later }
def ValueBackUptoCardSaid : Prop := Claim7.holds Tryd.pinned (.plain (OpenSpec.upto valueBackSpec)) valueBackUptoCard

/-- THE SECOND FORM's CARD OF 'postilionlaw16.PathIs'. -/
def pathIsUptoCard : Claim7 := { stood := { row := pathIsUptoRow, standIns := [], harness := (true, "ed59346e760014d423187f81f977bb1e1ec3912c1ee745e010d1e4966d1876ae"), looks := false }, kinds := [], alts := [], laidByText := true, laidKinds := [.data, .pinned], laidTests := true, laidLooks := .later }
def PathIsUptoCardSaid : Prop := Claim7.holds Tryd.pinned (.plain (OpenSpec.upto pathIsSpec)) pathIsUptoCard
end Rows
end Go.Proofs.YtbgndegdegfebaaDoor
