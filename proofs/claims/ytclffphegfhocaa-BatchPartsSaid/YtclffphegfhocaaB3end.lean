/- It is proved that sedimentlaw03.BatchParts and sedimentlaw03.BatchBack return true for every input, and that each argument reads behind the call as it read before. Under no condition. -/
import Derived.Test.YtclffphegfhocaaRows
import Derived.Test.YtclffphegfhocaaB3top
namespace Go.Proofs.Ytclffphegfhocaa

theorem batchPartsHolds : Rows.BatchPartsSaid := Go.V.Ytclffphegfhocaa.parts_holds
theorem batchBackHolds : Rows.BatchBackSaid := Go.V.Ytclffphegfhocaa.back_holds

end Go.Proofs.Ytclffphegfhocaa
