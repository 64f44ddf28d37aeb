/- Contracts of toReqS and toEntS, that copy slices of structs of five integers; condition: at most 2^20 elements. -/
import Derived.Test.YtgebliigimofnaaDoorCopy
namespace Go.Proofs.YtgebliigimofnaaDoor
open Go.RowKit Go.Joins











end Go.Proofs.YtgebliigimofnaaDoor
