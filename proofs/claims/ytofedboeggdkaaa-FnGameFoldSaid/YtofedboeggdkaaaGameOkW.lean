/- The walk of FnExactGameOk; no condition. -/
import Derived.Test.YtofedboeggdkaaaGameOkS
import Derived.Test.YtofedboeggdkaaaArgsG
namespace Go.Proofs.Ytofedboeggdkaaa
open Go.RowKit Go.Joins

end Go.Proofs.Ytofedboeggdkaaa
