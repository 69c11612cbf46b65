/- It is proved that sedimentlaw22.SnapsHeld returns true for every input, and that each argument reads behind the call as it read before. Under no condition. -/
import Derived.Test.YteojmnnobmpdiaaRows
import Derived.Test.YteojmnnobmpdiaaSR
namespace Go.Proofs.Yteojmnnobmpdiaa

theorem snapsHeldHolds : Rows.SnapsHeldSaid := Go.V.Yteojmnnobmpdiaa.snapsHeld_holds

end Go.Proofs.Yteojmnnobmpdiaa
