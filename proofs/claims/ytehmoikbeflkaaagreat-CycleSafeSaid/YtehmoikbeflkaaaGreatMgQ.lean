/- Package marker: markers that New did not make, and arenas that New did not make. -/
import Derived.Test.YtehmoikbeflkaaaGreatMgO
import Derived.Test.YtehmoikbeflkaaaGreatMgP
namespace Go.Proofs.YtehmoikbeflkaaaGreat
open Go.RowKit

end Go.Proofs.YtehmoikbeflkaaaGreat
