/- It is proved that sedimentlaw22.SnapsCounted returns true for every input of bulk at most 1048576 (as the row measures it), and that the argument reads behind the call as it read before. Under no other condition. -/
import Derived.Test.YteojmnnobmpdiaaRows
import Derived.Test.YteojmnnobmpdiaaSY
namespace Go.Proofs.Yteojmnnobmpdiaa

theorem snapsCountedHolds : Rows.SnapsCountedUptoSaid := Go.V.Yteojmnnobmpdiaa.snapsCounted_holds

end Go.Proofs.Yteojmnnobmpdiaa
