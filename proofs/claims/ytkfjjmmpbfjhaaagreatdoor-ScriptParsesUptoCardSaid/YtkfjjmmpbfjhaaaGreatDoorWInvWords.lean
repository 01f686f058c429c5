/- What this claim needs of the words that print.sh wrote for this seat, cut out by a program of this session (trim.py). Conditions: those that each theorem states. -/
import Derived.Test.YtkfjjmmpbfjhaaaGreatDoorWInv
import Derived.Test.YtkfjjmmpbfjhaaaGreatDoorWFootNe
namespace Go.Proofs.YtkfjjmmpbfjhaaaGreatDoorW.PrintWords
open Go.RowKit
end Go.Proofs.YtkfjjmmpbfjhaaaGreatDoorW.PrintWords
namespace Go.Proofs.YtkfjjmmpbfjhaaaGreatDoorW.PrintLast
section
variable {ops : Array Oper} {a : Act} {o og : Oper} {g : Nat} {t : Tmp} {u : Bool}
end
end Go.Proofs.YtkfjjmmpbfjhaaaGreatDoorW.PrintLast
