/- Words over rows, slices and worlds: what this claim needs of the words that print.sh wrote for this seat, cut out by a program of this session (wip/trim.py). Conditions: those that each theorem states. -/
import Derived.Test.YtjibdaigclgmhaaGreatDoorWTab
/-! ### 56. Four, five, six operations that may come up next, in any order -/
namespace Go.Proofs.YtjibdaigclgmhaaGreatDoorW.PrintLast
section
variable {P : Program} {ops : Array Oper} {Q : Exit → Act → World → Prop} {md : Region.Mode} {S : World → Prop} {ds : List Nat} {T : Bool × List (List Nat × List Nat)}
end
end Go.Proofs.YtjibdaigclgmhaaGreatDoorW.PrintLast
