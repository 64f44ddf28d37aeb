/- Contracts of toReqS and toEntS, that copy slices of structs of five integers; condition: at most 2^20 elements. -/
import Derived.Test.YtgdhieffjflejaaCopy
set_option linter.unusedSimpArgs false
set_option linter.unusedVariables false
namespace Go.Proofs.Ytgdhieffjflejaa
open Go.RowKit Go.Joins











end Go.Proofs.Ytgdhieffjflejaa
