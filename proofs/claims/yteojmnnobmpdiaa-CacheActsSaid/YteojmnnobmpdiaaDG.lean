/- It is proved that sedimentlaw11.CacheActs returns true for every input, and that each argument reads behind the call as it read before. Under no condition. -/
import Derived.Test.YteojmnnobmpdiaaRows
import Derived.Test.YteojmnnobmpdiaaDF
namespace Go.Proofs.Yteojmnnobmpdiaa

theorem cacheActsHolds : Rows.CacheActsSaid := Go.V.Yteojmnnobmpdiaa.acts_holds

end Go.Proofs.Yteojmnnobmpdiaa
