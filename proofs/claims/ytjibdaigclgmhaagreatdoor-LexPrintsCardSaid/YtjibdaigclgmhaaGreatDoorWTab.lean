/- Words over rows, slices and worlds: what this claim needs of the words that print.sh wrote for this seat, cut out by a program of this session (wip/trim.py). Conditions: those that each theorem states. -/
import Derived.Test.YtjibdaigclgmhaaGreatDoorWLast
import Derived.Test.YtjibdaigclgmhaaGreatDoorWWords
/-! ### 50. A region's order in a table, made once a region: each step asks the table (numbers alone), not the operations -/
namespace Go.Proofs.YtjibdaigclgmhaaGreatDoorW.PrintLast
open Go.Proofs.YtjibdaigclgmhaaGreatDoorW.PrintWords (Aside0)
section
variable {md : Region.Mode} {ops : Array Oper} {T : Bool × List (List Nat × List Nat)} {l l' li lj lk : Array Bool} {ds : List Nat} {i j k : Nat}
end
end Go.Proofs.YtjibdaigclgmhaaGreatDoorW.PrintLast
