/- Words over rows, slices and worlds: what this claim needs of the words that print.sh wrote for this seat, cut out by a program of this session (wip/trim.py). Conditions: those that each theorem states. -/
import Derived.Test.YtjibdaigclgmhaaGreatDoorWWords
import Derived.Laws.StructEq
/-! ### 53. '==' of structs as_ one Bool -/
namespace Go.Proofs.YtjibdaigclgmhaaGreatDoorW.PrintWords
open Go.RowKit
section
variable {P : Program} {d : Nat} {xs ys : Array Value} {f : Field} {fs : List Field} {a b : Value} {r s : Bool} {w : World}
end
end Go.Proofs.YtjibdaigclgmhaaGreatDoorW.PrintWords
