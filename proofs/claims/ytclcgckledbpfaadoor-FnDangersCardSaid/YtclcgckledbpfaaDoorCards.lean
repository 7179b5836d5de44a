/-
  DERIVED. GIVEN WITH THE SEED: THE CARDS: each row of YtclcgckledbpfaaDoorRows.lean that lists a variable, with what it lists TIED to the program's text (the seventh form; the later family's looks); each row that meets fmt, with fmt's text TOLD by the authors' own Lean function (tested against real Go, not proved from fmt's source: count such statements apart). THE CARD IS WHAT COUNTS. Prove the row's statement (the work); the ties are given (YtclcgckledbpfaaDoorTie.lean); close each card by the builder's one call (the guide's Derived/Test/ToyasCard.lean, 'card_holds'). Laid BY PROGRAM, IN A SANDBOX (cutbox-door.mjs). By AI agents, Wed Nov 11 2026. No macro, syntax, notation, axiom, sorry.
-/
import Derived.Test.YtclcgckledbpfaaDoorRows
import GoSem.ClaimSeven
namespace Go.Proofs.YtclcgckledbpfaaDoor
namespace Rows

/-- THE TIED CARD OF 'laws.FnExactDangerText'. -/
def fnExactDangerTextCard : Claim7 := { stood := { row := fnExactDangerTextRow, standIns := [], harness := (true, "03fe696a80ab5be4bdd29e0c0973e3c569f08e1e72fd96a94151eafe9ee06092"), looks := false }, kinds := [], alts := [], laidByText := true, laidKinds := [.data, .data, .data], laidTests := true, laidLooks := .later }
def FnExactDangerTextCardSaid : Prop := Claim7.holds Tryd.pinned (.plain (OpenSpec.ofChange fnExactDangerTextSpec)) fnExactDangerTextCard

/-- THE TIED CARD OF 'laws.FnDangers'. -/
def fnDangersCard : Claim7 := { stood := { row := fnDangersRow, standIns := [], harness := (true, "03fe696a80ab5be4bdd29e0c0973e3c569f08e1e72fd96a94151eafe9ee06092"), looks := false }, kinds := [], alts := [], laidByText := true, laidKinds := [.data, .data, .data], laidTests := true, laidLooks := .later }
def FnDangersCardSaid : Prop := Claim7.holds Tryd.pinned (.plain (OpenSpec.ofChange fnDangersSpec)) fnDangersCard

/-- THE SECOND FORM's CARD OF 'laws.FnExactDangerText'. -/
def fnExactDangerTextUptoCard : Claim7 := { stood := { row := fnExactDangerTextUptoRow, standIns := [], harness := (true, "03fe696a80ab5be4bdd29e0c0973e3c569f08e1e72fd96a94151eafe9ee06092"), looks := false }, kinds := [], alts := [], laidByText := true, laidKinds := [.data, .data, .data], laidTests := true, laidLooks := .later }
def FnExactDangerTextUptoCardSaid : Prop := Claim7.holds Tryd.pinned (.plain (OpenSpec.upto fnExactDangerTextSpec)) fnExactDangerTextUptoCard

/-- THE SECOND FORM's CARD OF 'laws.FnDangers'. -/
def fnDangersUptoCard : Claim7 := { stood := { row := fnDangersUptoRow, standIns := [], harness := (true, "03fe696a80ab5be4bdd29e0c0973e3c569f08e1e72fd96a94151eafe9ee06092"), looks := false }, kinds := [], alts := [], laidByText := true, laidKinds := [.data, .data, .data], laidTests := true, laidLooks := .later }
def FnDangersUptoCardSaid : Prop := Claim7.holds Tryd.pinned (.plain (OpenSpec.upto fnDangersSpec)) fnDangersUptoCard
end Rows
end Go.Proofs.YtclcgckledbpfaaDoor
