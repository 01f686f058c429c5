/- What this claim needs of the words that print.sh wrote for this seat, cut out by a program of this session (trim.py). Conditions: those that each theorem states. -/
import Derived.Test.YtkfjjmmpbfjhaaaGreatDoorWTab
/-! ### 56. Four, five, six operations that may come up next, in any order -/
namespace Go.Proofs.YtkfjjmmpbfjhaaaGreatDoorW.PrintLast
section
variable {P : Program} {ops : Array Oper} {Q : Exit → Act → World → Prop} {md : Region.Mode} {S : World → Prop} {ds : List Nat} {T : Bool × List (List Nat × List Nat)}
end
end Go.Proofs.YtkfjjmmpbfjhaaaGreatDoorW.PrintLast
