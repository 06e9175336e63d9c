/-
  DERIVED. GIVEN WITH THE SEED: THE CARDS: each row of YtainlbmedpljlaaDoorRows.lean that lists a variable, with what it lists TIED to the program's text (the seventh form; the later family's looks); each row that meets fmt, with fmt's text TOLD by the authors' own Lean function (tested against real Go, not proved from fmt's source: count such statements apart). THE CARD IS WHAT COUNTS. Prove the row's statement (the work); the ties are given (YtainlbmedpljlaaDoorTie.lean); close each card by the builder's one call (the guide's Derived/Test/ToyasCard.lean, 'card_holds'). Laid BY PROGRAM, IN A SANDBOX (cutbox-door.mjs). By AI agents, Wed Nov 11 2026. No macro, syntax, notation, axiom, sorry.
-/
import Derived.Test.YtainlbmedpljlaaDoorRows
import GoSem.ClaimSeven
namespace Go.Proofs.YtainlbmedpljlaaDoor
namespace Rows

/-- THE TIED CARD OF 'laws.FnExactFlipLoss'. -/
def fnExactFlipLossCard : Claim7 := { stood := { row := fnExactFlipLossRow, standIns := [], harness := (true, "1210afb81f7ca020ae928cc4896b850e6fdf3acaa971b1dba53e4deac11bc0ff"), looks := false }, kinds := [], alts := [], laidByText := true, laidKinds := [.data, .pinned], laidTests := true, laidLooks := .later }
def FnExactFlipLossCardSaid : Prop := Claim7.holds Tryd.pinned (.plain (OpenSpec.ofChange fnExactFlipLossSpec)) fnExactFlipLossCard

/-- THE TIED CARD OF 'laws.FnExactSyncWord'. -/
def fnExactSyncWordCard : Claim7 := { stood := { row := fnExactSyncWordRow, standIns := [], harness := (true, "1210afb81f7ca020ae928cc4896b850e6fdf3acaa971b1dba53e4deac11bc0ff"), looks := false }, kinds := [], alts := [], laidByText := true, laidKinds := [.data, .pinned], laidTests := true, laidLooks := .later }
def FnExactSyncWordCardSaid : Prop := Claim7.holds Tryd.pinned (.plain (OpenSpec.ofChange fnExactSyncWordSpec)) fnExactSyncWordCard

/-- THE SECOND FORM's CARD OF 'laws.FnExactFlipLoss'. -/
def fnExactFlipLossUptoCard : Claim7 := { stood := { row := fnExactFlipLossUptoRow, standIns := [], harness := (true, "1210afb81f7ca020ae928cc4896b850e6fdf3acaa971b1dba53e4deac11bc0ff"), looks := false }, kinds := [], alts := [], laidByText := true, laidKinds := [.data, .pinned], laidTests := true, laidLooks := .later }
def FnExactFlipLossUptoCardSaid : Prop := Claim7.holds Tryd.pinned (.plain (OpenSpec.upto fnExactFlipLossSpec)) fnExactFlipLossUptoCard

/-- THE SECOND FORM's CARD OF 'laws.FnExactSyncWord'. -/
def fnExactSyncWordUptoCard : Claim7 := { stood := { row := fnExactSyncWordUptoRow, standIns := [], harness := (true, "1210afb81f7ca020ae928cc4896b850e6fdf3acaa971b1dba53e4deac11bc0ff"), looks := false }, kinds := [], alts := [], laidByText := true, laidKinds := [.data, .pinned], laidTests := true, laidLooks := .later }
def FnExactSyncWordUptoCardSaid : Prop := Claim7.holds Tryd.pinned (.plain (OpenSpec.upto fnExactSyncWordSpec)) fnExactSyncWordUptoCard
end Rows
end Go.Proofs.YtainlbmedpljlaaDoor
