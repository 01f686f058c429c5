/- Words over rows, slices and worlds: what this claim needs of the words that print.sh wrote for this seat, cut out by a program of this session (wip/trim.py). Conditions: those that each theorem states. -/
import Derived.Test.YtjibdaigclgmhaaGreatDoorWInv
import Derived.Test.YtjibdaigclgmhaaGreatDoorWFootNe
namespace Go.Proofs.YtjibdaigclgmhaaGreatDoorW.PrintWords
open Go.RowKit
end Go.Proofs.YtjibdaigclgmhaaGreatDoorW.PrintWords
namespace Go.Proofs.YtjibdaigclgmhaaGreatDoorW.PrintLast
section
variable {ops : Array Oper} {a : Act} {o og : Oper} {g : Nat} {t : Tmp} {u : Bool}
end
end Go.Proofs.YtjibdaigclgmhaaGreatDoorW.PrintLast
