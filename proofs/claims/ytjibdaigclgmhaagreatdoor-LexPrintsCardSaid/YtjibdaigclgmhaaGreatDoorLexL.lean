/- Facts of Tokens' answers, for the laws of chapter 7. Conditions: those that each theorem states. -/
import Derived.Test.YtjibdaigclgmhaaGreatDoorLexK
import Derived.Test.YtjibdaigclgmhaaGreatDoorFacts
namespace Go.Proofs.YtjibdaigclgmhaaGreatDoor.LexW
open Go.RowKit Go.Maps Go.Proofs.YtjibdaigclgmhaaGreatDoor.Lex Go.Proofs.YtjibdaigclgmhaaGreatDoor.PLexPrints Go.Proofs.YtjibdaigclgmhaaGreatDoorW.PrintWords Go.Proofs.YtjibdaigclgmhaaGreatDoorW.PrintLast Go.Proofs.YtjibdaigclgmhaaGreatDoorW.PrintMore Go.Proofs.YtjibdaigclgmhaaGreatDoor.Facts
set_option linter.unusedVariables false
set_option linter.unusedSimpArgs false
end Go.Proofs.YtjibdaigclgmhaaGreatDoor.LexW
