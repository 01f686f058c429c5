/-
  No cell of these rows narrows 'for every input' (looked for: loops, veiled, ifaces, maps, wideKeys, modest, calm, conditions, laid).
  DERIVED. THE GIVEN ROWS OF THIS SEAT. 10 by the template 'for every input the law returns true; each argument reads behind the call as it read before'; 0 by the template 'total and deterministic' (their statements: YtcnjdgafemgaeaaTotals.lean).
  GIVEN WITH THE SEED: the statements are not yours to turn. If you find one false, say at which input.
  Laid BY PROGRAM, IN A SANDBOX (cutbox-rows.mjs): the forced cells as the released guide's own fill.sh prints them over the translation 8c3b9f32ee02e122… (all of the seat's roots in one cut). By AI agents, Wed Nov 11 2026. No macro, syntax, notation, axiom, sorry.
-/
import Derived.Test.YtcnjdgafemgaeaaChecked
import GoSem.Claim
import GoSem.ClaimJoined
import GoSem.ClaimMapViews
import Derived.JoinedTies
import Derived.KernelRfl
namespace Go.Proofs.Ytcnjdgafemgaeaa
/- THE CELL 'sum', in the pinned program and in every row, IS THE sha256 OF THE DUMP (.gsa) THAT YtcnjdgafemgaeaaProg.lean LOADS. Nothing in Lean hashes anything: it is a label: what it is worth is what the hold of that sum in a sandbox is worth. -/
noncomputable def Try.pinned : Pinned := { name := "ytcnjdgafemgaeaa", sum := "8c3b9f32ee02e1229bf768b3d6f1cc4f3af0f2af90433c56e0d8137557f089fc", checked := Try.checked }
namespace Rows
def none {H : Type} : Left H := { results := [], args := [] }

/-- 'kilnlaw1.WordModular': WHATEVER THE INPUT: true; the input reads as it did. -/
def wordModularSpec : ChangeSpec := { name := "wordModular", fn := fun _ => fun
  | [d1, d2] => { results := [.lit (.bool true)], args := [d1, d2] }
  | _ => none }
def wordModularRow : OpenClaim := { program := "ytcnjdgafemgaeaa", sum := "8c3b9f32ee02e1229bf768b3d6f1cc4f3af0f2af90433c56e0d8137557f089fc", func := "kiln/kilnlaw1.WordModular", spec := "wordModular", apart := false }
def WordModularSaid : Prop := wordModularRow.holds Try.pinned (OpenSpec.ofChange wordModularSpec)

/-- ITS FALSE NEIGHBOUR: 'it returns false'. Refute it at one input. -/
def wordModularWrong : ChangeSpec := { name := "wordModular", fn := fun _ => fun
  | [d1, d2] => { results := [.lit (.bool false)], args := [d1, d2] }
  | _ => none }
def WordModularWrongFalsely : Prop := wordModularRow.holds Try.pinned (OpenSpec.ofChange wordModularWrong)

/-- 'kilnlaw1.WordBits': WHATEVER THE INPUT: true; the input reads as it did. -/
def wordBitsSpec : ChangeSpec := { name := "wordBits", fn := fun _ => fun
  | [d1, d2] => { results := [.lit (.bool true)], args := [d1, d2] }
  | _ => none }
def wordBitsRow : OpenClaim := { program := "ytcnjdgafemgaeaa", sum := "8c3b9f32ee02e1229bf768b3d6f1cc4f3af0f2af90433c56e0d8137557f089fc", func := "kiln/kilnlaw1.WordBits", spec := "wordBits", apart := false }
def WordBitsSaid : Prop := wordBitsRow.holds Try.pinned (OpenSpec.ofChange wordBitsSpec)

/-- ITS FALSE NEIGHBOUR: 'it returns false'. Refute it at one input. -/
def wordBitsWrong : ChangeSpec := { name := "wordBits", fn := fun _ => fun
  | [d1, d2] => { results := [.lit (.bool false)], args := [d1, d2] }
  | _ => none }
def WordBitsWrongFalsely : Prop := wordBitsRow.holds Try.pinned (OpenSpec.ofChange wordBitsWrong)

/-- 'kilnlaw1.WordLogic': WHATEVER THE INPUT: true; the input reads as it did. -/
def wordLogicSpec : ChangeSpec := { name := "wordLogic", fn := fun _ => fun
  | [d1, d2, d3] => { results := [.lit (.bool true)], args := [d1, d2, d3] }
  | _ => none }
def wordLogicRow : OpenClaim := { program := "ytcnjdgafemgaeaa", sum := "8c3b9f32ee02e1229bf768b3d6f1cc4f3af0f2af90433c56e0d8137557f089fc", func := "kiln/kilnlaw1.WordLogic", spec := "wordLogic", apart := false }
def WordLogicSaid : Prop := wordLogicRow.holds Try.pinned (OpenSpec.ofChange wordLogicSpec)

/-- ITS FALSE NEIGHBOUR: 'it returns false'. Refute it at one input. -/
def wordLogicWrong : ChangeSpec := { name := "wordLogic", fn := fun _ => fun
  | [d1, d2, d3] => { results := [.lit (.bool false)], args := [d1, d2, d3] }
  | _ => none }
def WordLogicWrongFalsely : Prop := wordLogicRow.holds Try.pinned (OpenSpec.ofChange wordLogicWrong)

/-- 'kilnlaw1.WordFloor': WHATEVER THE INPUT: true; the input reads as it did. -/
def wordFloorSpec : ChangeSpec := { name := "wordFloor", fn := fun _ => fun
  | [d1, d2] => { results := [.lit (.bool true)], args := [d1, d2] }
  | _ => none }
def wordFloorRow : OpenClaim := { program := "ytcnjdgafemgaeaa", sum := "8c3b9f32ee02e1229bf768b3d6f1cc4f3af0f2af90433c56e0d8137557f089fc", func := "kiln/kilnlaw1.WordFloor", spec := "wordFloor", apart := false }
def WordFloorSaid : Prop := wordFloorRow.holds Try.pinned (OpenSpec.ofChange wordFloorSpec)

/-- ITS FALSE NEIGHBOUR: 'it returns false'. Refute it at one input. -/
def wordFloorWrong : ChangeSpec := { name := "wordFloor", fn := fun _ => fun
  | [d1, d2] => { results := [.lit (.bool false)], args := [d1, d2] }
  | _ => none }
def WordFloorWrongFalsely : Prop := wordFloorRow.holds Try.pinned (OpenSpec.ofChange wordFloorWrong)

/-- 'kilnlaw1.WordSums': WHATEVER THE INPUT: true; the input reads as it did. -/
def wordSumsSpec : ChangeSpec := { name := "wordSums", fn := fun _ => fun
  | [d1, d2] => { results := [.lit (.bool true)], args := [d1, d2] }
  | _ => none }
def wordSumsRow : OpenClaim := { program := "ytcnjdgafemgaeaa", sum := "8c3b9f32ee02e1229bf768b3d6f1cc4f3af0f2af90433c56e0d8137557f089fc", func := "kiln/kilnlaw1.WordSums", spec := "wordSums", apart := false }
def WordSumsSaid : Prop := wordSumsRow.holds Try.pinned (OpenSpec.ofChange wordSumsSpec)

/-- ITS FALSE NEIGHBOUR: 'it returns false'. Refute it at one input. -/
def wordSumsWrong : ChangeSpec := { name := "wordSums", fn := fun _ => fun
  | [d1, d2] => { results := [.lit (.bool false)], args := [d1, d2] }
  | _ => none }
def WordSumsWrongFalsely : Prop := wordSumsRow.holds Try.pinned (OpenSpec.ofChange wordSumsWrong)

/-- 'kilnlaw6.SymbolLoads': WHATEVER THE INPUT: true; the input reads as it did. -/
def symbolLoadsSpec : ChangeSpec := { name := "symbolLoads", fn := fun _ => fun
  | [d1, d2, d3] => { results := [.lit (.bool true)], args := [d1, d2, d3] }
  | _ => none }
def symbolLoadsRow : OpenClaim := { program := "ytcnjdgafemgaeaa", sum := "8c3b9f32ee02e1229bf768b3d6f1cc4f3af0f2af90433c56e0d8137557f089fc", func := "kiln/kilnlaw6.SymbolLoads", spec := "symbolLoads", apart := false }
def SymbolLoadsSaid : Prop := symbolLoadsRow.holds Try.pinned (OpenSpec.ofChange symbolLoadsSpec)

/-- ITS FALSE NEIGHBOUR: 'it returns false'. Refute it at one input. -/
def symbolLoadsWrong : ChangeSpec := { name := "symbolLoads", fn := fun _ => fun
  | [d1, d2, d3] => { results := [.lit (.bool false)], args := [d1, d2, d3] }
  | _ => none }
def SymbolLoadsWrongFalsely : Prop := symbolLoadsRow.holds Try.pinned (OpenSpec.ofChange symbolLoadsWrong)

/-- 'kilnlaw6.SymbolFirst': WHATEVER THE INPUT: true; the input reads as it did. -/
def symbolFirstSpec : ChangeSpec := { name := "symbolFirst", fn := fun _ => fun
  | [d] => { results := [.lit (.bool true)], args := [d] }
  | _ => none }
def symbolFirstRow : OpenClaim := { program := "ytcnjdgafemgaeaa", sum := "8c3b9f32ee02e1229bf768b3d6f1cc4f3af0f2af90433c56e0d8137557f089fc", func := "kiln/kilnlaw6.SymbolFirst", spec := "symbolFirst", apart := false }
def SymbolFirstSaid : Prop := symbolFirstRow.holds Try.pinned (OpenSpec.ofChange symbolFirstSpec)

/-- ITS FALSE NEIGHBOUR: 'it returns false'. Refute it at one input. -/
def symbolFirstWrong : ChangeSpec := { name := "symbolFirst", fn := fun _ => fun
  | [d] => { results := [.lit (.bool false)], args := [d] }
  | _ => none }
def SymbolFirstWrongFalsely : Prop := symbolFirstRow.holds Try.pinned (OpenSpec.ofChange symbolFirstWrong)

/-- 'kilnlaw6.SymbolBack': WHATEVER THE INPUT: true; the input reads as it did. -/
def symbolBackSpec : ChangeSpec := { name := "symbolBack", fn := fun _ => fun
  | [d1, d2, d3] => { results := [.lit (.bool true)], args := [d1, d2, d3] }
  | _ => none }
def symbolBackRow : OpenClaim := { program := "ytcnjdgafemgaeaa", sum := "8c3b9f32ee02e1229bf768b3d6f1cc4f3af0f2af90433c56e0d8137557f089fc", func := "kiln/kilnlaw6.SymbolBack", spec := "symbolBack", apart := false }
def SymbolBackSaid : Prop := symbolBackRow.holds Try.pinned (OpenSpec.ofChange symbolBackSpec)

/-- ITS FALSE NEIGHBOUR: 'it returns false'. Refute it at one input. -/
def symbolBackWrong : ChangeSpec := { name := "symbolBack", fn := fun _ => fun
  | [d1, d2, d3] => { results := [.lit (.bool false)], args := [d1, d2, d3] }
  | _ => none }
def SymbolBackWrongFalsely : Prop := symbolBackRow.holds Try.pinned (OpenSpec.ofChange symbolBackWrong)

/-- 'kilnlaw6.SymbolPlays': WHATEVER THE INPUT: true; the input reads as it did. -/
def symbolPlaysSpec : ChangeSpec := { name := "symbolPlays", fn := fun _ => fun
  | [d1, d2, d3] => { results := [.lit (.bool true)], args := [d1, d2, d3] }
  | _ => none }
def symbolPlaysRow : OpenClaim := { program := "ytcnjdgafemgaeaa", sum := "8c3b9f32ee02e1229bf768b3d6f1cc4f3af0f2af90433c56e0d8137557f089fc", func := "kiln/kilnlaw6.SymbolPlays", spec := "symbolPlays", apart := false }
def SymbolPlaysSaid : Prop := symbolPlaysRow.holds Try.pinned (OpenSpec.ofChange symbolPlaysSpec)

/-- ITS FALSE NEIGHBOUR: 'it returns false'. Refute it at one input. -/
def symbolPlaysWrong : ChangeSpec := { name := "symbolPlays", fn := fun _ => fun
  | [d1, d2, d3] => { results := [.lit (.bool false)], args := [d1, d2, d3] }
  | _ => none }
def SymbolPlaysWrongFalsely : Prop := symbolPlaysRow.holds Try.pinned (OpenSpec.ofChange symbolPlaysWrong)

/-- 'kilnlaw6.SymbolOwnLists': WHATEVER THE INPUT: true; the input reads as it did. -/
def symbolOwnListsSpec : ChangeSpec := { name := "symbolOwnLists", fn := fun _ => fun
  | [d1, d2] => { results := [.lit (.bool true)], args := [d1, d2] }
  | _ => none }
def symbolOwnListsRow : OpenClaim := { program := "ytcnjdgafemgaeaa", sum := "8c3b9f32ee02e1229bf768b3d6f1cc4f3af0f2af90433c56e0d8137557f089fc", func := "kiln/kilnlaw6.SymbolOwnLists", spec := "symbolOwnLists", apart := false }
def SymbolOwnListsSaid : Prop := symbolOwnListsRow.holds Try.pinned (OpenSpec.ofChange symbolOwnListsSpec)

/-- ITS FALSE NEIGHBOUR: 'it returns false'. Refute it at one input. -/
def symbolOwnListsWrong : ChangeSpec := { name := "symbolOwnLists", fn := fun _ => fun
  | [d1, d2] => { results := [.lit (.bool false)], args := [d1, d2] }
  | _ => none }
def SymbolOwnListsWrongFalsely : Prop := symbolOwnListsRow.holds Try.pinned (OpenSpec.ofChange symbolOwnListsWrong)

/- THE SECOND FORM. 'bulk': how many values and letters a reading holds, each counted each time it is reached (what is shared counts as often as it is met; a slice's spare places count too). A statement '..UptoSaid' is the law's where the arguments, and the package variables that the reading takes, are together of bulk at most 1048576: NARROWER than '..Said'. Prove '..Said' where nothing that the law and all that it calls make is longer than what came in: it says more and counts as full. Else prove '..UptoSaid'. A law counts once. -/
mutual
def uptoBulk {H : Type} : DataW H → Nat
  | .lit (.string bytes) => bytes.length + 1
  | .lit _ => 1
  | .nil => 1
  | .ptr d => uptoBulk d + 1
  | .slice elems spare => uptoBulkAll elems + uptoBulkAll spare + 1
  | .agg parts => uptoBulkAll parts + 1
  | .iface _ d => uptoBulk d + 1
  | .map entries => uptoBulkEntries entries + 1
  | .held _ => 1
def uptoBulkAll {H : Type} : List (DataW H) → Nat
  | [] => 0
  | d :: r => uptoBulk d + uptoBulkAll r
def uptoBulkEntries {H : Type} : List (Lit × DataW H) → Nat
  | [] => 0
  | x :: r => uptoBulkEntry x + uptoBulkEntries r
def uptoBulkEntry {H : Type} : Lit × DataW H → Nat
  | (.string bytes, d) => bytes.length + uptoBulk d + 1
  | (_, d) => uptoBulk d + 1
 end
def uptoSmall : (H : Type) → List (DataW H) → Bool := fun _ ds => decide (uptoBulkAll ds ≤ 1048576)
def OpenSpec.upto (s : _root_.Go.ChangeSpec) : _root_.Go.OpenSpec := { _root_.Go.OpenSpec.ofChange s with cond := some uptoSmall }

/-- 'kilnlaw1.WordModular', WHERE WHAT IT READS IS OF BULK AT MOST 1048576: true; the input reads as it did. -/
def wordModularUptoRow : OpenClaim := { program := "ytcnjdgafemgaeaa", sum := "8c3b9f32ee02e1229bf768b3d6f1cc4f3af0f2af90433c56e0d8137557f089fc", func := "kiln/kilnlaw1.WordModular", spec := "wordModular", apart := false, narrowed := true }
def WordModularUptoSaid : Prop := wordModularUptoRow.holds Try.pinned (OpenSpec.upto wordModularSpec)

/-- 'kilnlaw1.WordBits', WHERE WHAT IT READS IS OF BULK AT MOST 1048576: true; the input reads as it did. -/
def wordBitsUptoRow : OpenClaim := { program := "ytcnjdgafemgaeaa", sum := "8c3b9f32ee02e1229bf768b3d6f1cc4f3af0f2af90433c56e0d8137557f089fc", func := "kiln/kilnlaw1.WordBits", spec := "wordBits", apart := false, narrowed := true }
def WordBitsUptoSaid : Prop := wordBitsUptoRow.holds Try.pinned (OpenSpec.upto wordBitsSpec)

/-- 'kilnlaw1.WordLogic', WHERE WHAT IT READS IS OF BULK AT MOST 1048576: true; the input reads as it did. -/
def wordLogicUptoRow : OpenClaim := { program := "ytcnjdgafemgaeaa", sum := "8c3b9f32ee02e1229bf768b3d6f1cc4f3af0f2af90433c56e0d8137557f089fc", func := "kiln/kilnlaw1.WordLogic", spec := "wordLogic", apart := false, narrowed := true }
def WordLogicUptoSaid : Prop := wordLogicUptoRow.holds Try.pinned (OpenSpec.upto wordLogicSpec)

/-- 'kilnlaw1.WordFloor', WHERE WHAT IT READS IS OF BULK AT MOST 1048576: true; the input reads as it did. -/
def wordFloorUptoRow : OpenClaim := { program := "ytcnjdgafemgaeaa", sum := "8c3b9f32ee02e1229bf768b3d6f1cc4f3af0f2af90433c56e0d8137557f089fc", func := "kiln/kilnlaw1.WordFloor", spec := "wordFloor", apart := false, narrowed := true }
def WordFloorUptoSaid : Prop := wordFloorUptoRow.holds Try.pinned (OpenSpec.upto wordFloorSpec)

/-- 'kilnlaw1.WordSums', WHERE WHAT IT READS IS OF BULK AT MOST 1048576: true; the input reads as it did. -/
def wordSumsUptoRow : OpenClaim := { program := "ytcnjdgafemgaeaa", sum := "8c3b9f32ee02e1229bf768b3d6f1cc4f3af0f2af90433c56e0d8137557f089fc", func := "kiln/kilnlaw1.WordSums", spec := "wordSums", apart := false, narrowed := true }
def WordSumsUptoSaid : Prop := wordSumsUptoRow.holds Try.pinned (OpenSpec.upto wordSumsSpec)

/-- 'kilnlaw6.SymbolLoads', WHERE WHAT IT READS IS OF BULK AT MOST 1048576: true; the input reads as it did. -/
def symbolLoadsUptoRow : OpenClaim := { program := "ytcnjdgafemgaeaa", sum := "8c3b9f32ee02e1229bf768b3d6f1cc4f3af0f2af90433c56e0d8137557f089fc", func := "kiln/kilnlaw6.SymbolLoads", spec := "symbolLoads", apart := false, narrowed := true }
def SymbolLoadsUptoSaid : Prop := symbolLoadsUptoRow.holds Try.pinned (OpenSpec.upto symbolLoadsSpec)

/-- 'kilnlaw6.SymbolFirst', WHERE WHAT IT READS IS OF BULK AT MOST 1048576: true; the input reads as it did. -/
def symbolFirstUptoRow : OpenClaim := { program := "ytcnjdgafemgaeaa", sum := "8c3b9f32ee02e1229bf768b3d6f1cc4f3af0f2af90433c56e0d8137557f089fc", func := "kiln/kilnlaw6.SymbolFirst", spec := "symbolFirst", apart := false, narrowed := true }
def SymbolFirstUptoSaid : Prop := symbolFirstUptoRow.holds Try.pinned (OpenSpec.upto symbolFirstSpec)

/-- 'kilnlaw6.SymbolBack', WHERE WHAT IT READS IS OF BULK AT MOST 1048576: true; the input reads as it did. -/
def symbolBackUptoRow : OpenClaim := { program := "ytcnjdgafemgaeaa", sum := "8c3b9f32ee02e1229bf768b3d6f1cc4f3af0f2af90433c56e0d8137557f089fc", func := "kiln/kilnlaw6.SymbolBack", spec := "symbolBack", apart := false, narrowed := true }
def SymbolBackUptoSaid : Prop := symbolBackUptoRow.holds Try.pinned (OpenSpec.upto symbolBackSpec)

/-- 'kilnlaw6.SymbolPlays', WHERE WHAT IT READS IS OF BULK AT MOST 1048576: true; the input reads as it did. -/
def symbolPlaysUptoRow : OpenClaim := { program := "ytcnjdgafemgaeaa", sum := "8c3b9f32ee02e1229bf768b3d6f1cc4f3af0f2af90433c56e0d8137557f089fc", func := "kiln/kilnlaw6.SymbolPlays", spec := "symbolPlays", apart := false, narrowed := true }
def SymbolPlaysUptoSaid : Prop := symbolPlaysUptoRow.holds Try.pinned (OpenSpec.upto symbolPlaysSpec)

/-- 'kilnlaw6.SymbolOwnLists', WHERE WHAT IT READS IS OF BULK AT MOST 1048576: true; the input reads as it did. -/
def symbolOwnListsUptoRow : OpenClaim := { program := "ytcnjdgafemgaeaa", sum := "8c3b9f32ee02e1229bf768b3d6f1cc4f3af0f2af90433c56e0d8137557f089fc", func := "kiln/kilnlaw6.SymbolOwnLists", spec := "symbolOwnLists", apart := false, narrowed := true }
def SymbolOwnListsUptoSaid : Prop := symbolOwnListsUptoRow.holds Try.pinned (OpenSpec.upto symbolOwnListsSpec)

end Rows
end Go.Proofs.Ytcnjdgafemgaeaa
