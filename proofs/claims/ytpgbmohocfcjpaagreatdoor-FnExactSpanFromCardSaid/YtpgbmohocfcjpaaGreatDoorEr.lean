/- errors.Is over a sentinel. -/
import Derived.Test.YtpgbmohocfcjpaaGreatDoorEI
import Derived.LaidEql
import Derived.Stop.Asserts
import Derived.RowKitTokens
namespace Go.Proofs.YtpgbmohocfcjpaaGreatDoor
set_option linter.unusedVariables false
set_option linter.unusedSimpArgs false
set_option maxRecDepth 100000
open Go.RowKit Go.Extern.Stop Go.Stop Go.Extern

end Go.Proofs.YtpgbmohocfcjpaaGreatDoor
