/- It is proved that sedimentlaw03.BatchActs returns true for every input, and that the argument reads behind the call as it read before. Under no condition. -/
import Derived.Test.YtclffphegfhocaaRows
import Derived.Test.YtclffphegfhocaaFT
namespace Go.Proofs.Ytclffphegfhocaa

theorem batchActsHolds : Rows.BatchActsSaid := Go.V.Ytclffphegfhocaa.acts_holds

end Go.Proofs.Ytclffphegfhocaa
