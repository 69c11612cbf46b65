/- It is proved that sedimentlaw22.SnapsAll returns true for every input, and that each argument reads behind the call as it read before. Under no condition. -/
import Derived.Test.YteojmnnobmpdiaaRows
import Derived.Test.YteojmnnobmpdiaaSN
namespace Go.Proofs.Yteojmnnobmpdiaa

theorem snapsAllHolds : Rows.SnapsAllSaid := Go.V.Yteojmnnobmpdiaa.snapsAll_holds

end Go.Proofs.Yteojmnnobmpdiaa
