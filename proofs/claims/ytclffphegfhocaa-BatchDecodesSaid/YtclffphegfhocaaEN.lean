/- It is proved that sedimentlaw03.BatchEncodes and sedimentlaw03.BatchDecodes return true for every input, and that each argument reads behind the call as it read before. Under no condition. -/
import Derived.Test.YtclffphegfhocaaRows
import Derived.Test.YtclffphegfhocaaEM
namespace Go.Proofs.Ytclffphegfhocaa

theorem batchEncodesHolds : Rows.BatchEncodesSaid := Go.V.Ytclffphegfhocaa.encodes_holds
theorem batchDecodesHolds : Rows.BatchDecodesSaid := Go.V.Ytclffphegfhocaa.decodes_holds

end Go.Proofs.Ytclffphegfhocaa
