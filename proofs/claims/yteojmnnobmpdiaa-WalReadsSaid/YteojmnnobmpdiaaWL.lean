/- It is proved that sedimentlaw05.WalReads returns true for every input, and that each argument reads behind the call as it read before. Under no condition. -/
import Derived.Test.YteojmnnobmpdiaaRows
import Derived.Test.YteojmnnobmpdiaaWK
namespace Go.Proofs.Yteojmnnobmpdiaa

theorem walReadsHolds : Rows.WalReadsSaid := Go.V.Yteojmnnobmpdiaa.walReads_holds

end Go.Proofs.Yteojmnnobmpdiaa
