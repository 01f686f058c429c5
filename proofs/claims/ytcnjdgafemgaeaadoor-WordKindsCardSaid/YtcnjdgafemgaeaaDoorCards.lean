/-
  DERIVED. GIVEN WITH THE SEED: THE CARDS: each row of YtcnjdgafemgaeaaDoorRows.lean that lists a variable, with what it lists TIED to the program's text (the seventh form; the later family's looks); each row that meets fmt, with fmt's text TOLD by the authors' own Lean function (tested against real Go, not proved from fmt's source: count such statements apart). THE CARD IS WHAT COUNTS. Prove the row's statement (the work); the ties are given (YtcnjdgafemgaeaaDoorTie.lean); close each card by the builder's one call (the guide's Derived/Test/ToyasCard.lean, 'card_holds'). Laid BY PROGRAM, IN A SANDBOX (cutbox-door.mjs). By AI agents, Wed Nov 11 2026. No macro, syntax, notation, axiom, sorry.
-/
import Derived.Test.YtcnjdgafemgaeaaDoorRows
import GoSem.ClaimSeven
namespace Go.Proofs.YtcnjdgafemgaeaaDoor
namespace Rows

/-- THE TIED CARD OF 'kilnlaw1.WordOnce'. -/
def wordOnceCard : Claim7 := { stood := { row := wordOnceRow, standIns := [], harness := (true, "18ebcee4645a6193f3818534273a34f6bab603a73a2d790100027a1ab42acbc0"), looks := false }, kinds := [], alts := [], laidByText := true, laidKinds := [.data], laidTests := true, laidLooks := .later }
def WordOnceCardSaid : Prop := Claim7.holds Tryd.pinned (.plain (OpenSpec.ofChange wordOnceSpec)) wordOnceCard

/-- THE TIED CARD OF 'kilnlaw1.WordKinds'. -/
def wordKindsCard : Claim7 := { stood := { row := wordKindsRow, standIns := [], harness := (true, "18ebcee4645a6193f3818534273a34f6bab603a73a2d790100027a1ab42acbc0"), looks := false }, kinds := [], alts := [], laidByText := true, laidKinds := [.data, .data, .data, .data], laidTests := true, laidLooks := .later }
def WordKindsCardSaid : Prop := Claim7.holds Tryd.pinned (.plain (OpenSpec.ofChange wordKindsSpec)) wordKindsCard

/-- THE SECOND FORM's CARD OF 'kilnlaw1.WordOnce'. -/
def wordOnceUptoCard : Claim7 := { stood := { row := wordOnceUptoRow, standIns := [], harness := (true, "18ebcee4645a6193f3818534273a34f6bab603a73a2d790100027a1ab42acbc0"), looks := false }, kinds := [], alts := [], laidByText := true, laidKinds := [.data], laidTests := true, laidLooks := .later }
def WordOnceUptoCardSaid : Prop := Claim7.holds Tryd.pinned (.plain (OpenSpec.upto wordOnceSpec)) wordOnceUptoCard

/-- THE SECOND FORM's CARD OF 'kilnlaw1.WordKinds'. -/
def wordKindsUptoCard : Claim7 := { stood := { row := wordKindsUptoRow, standIns := [], harness := (true, "18ebcee4645a6193f3818534273a34f6bab603a73a2d790100027a1ab42acbc0"), looks := false }, kinds := [], alts := [], laidByText := true, laidKinds := [.data, .data, .data, .data], laidTests := true, laidLooks := .later }
def WordKindsUptoCardSaid : Prop := Claim7.holds Tryd.pinned (.plain (OpenSpec.upto wordKindsSpec)) wordKindsUptoCard
end Rows
end Go.Proofs.YtcnjdgafemgaeaaDoor
