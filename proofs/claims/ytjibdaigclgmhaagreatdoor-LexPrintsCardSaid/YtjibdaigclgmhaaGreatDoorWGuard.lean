/- Words over rows, slices and worlds: what this claim needs of the words that print.sh wrote for this seat, cut out by a program of this session (wip/trim.py). Conditions: those that each theorem states. -/
import Derived.Test.YtjibdaigclgmhaaGreatDoorWWords
/-! ### 58. A guarded operation whose guard is known to want it: the same goal without the guard -/
namespace Go.Proofs.YtjibdaigclgmhaaGreatDoorW.PrintWords
open Go.RowKit
section
variable {P : Program} {ops : Array Oper} {rest : List Oper} {o : Oper} {a : Act} {Q : Exit → Act → World → Prop} {W : World}
end
end Go.Proofs.YtjibdaigclgmhaaGreatDoorW.PrintWords
