/- It is proved that sedimentlaw11.CacheRoom, sedimentlaw11.CacheApart and sedimentlaw11.CachePinned return true for every input, and that each argument reads behind the call as it read before. Under no condition. -/
import Derived.Test.YteojmnnobmpdiaaRows
import Derived.Test.YteojmnnobmpdiaaCM
namespace Go.Proofs.Yteojmnnobmpdiaa

theorem cacheRoomHolds : Rows.CacheRoomSaid := Go.V.Yteojmnnobmpdiaa.room_holds
theorem cacheApartHolds : Rows.CacheApartSaid := Go.V.Yteojmnnobmpdiaa.apart_holds
theorem cachePinnedHolds : Rows.CachePinnedSaid := Go.V.Yteojmnnobmpdiaa.pinned_holds

end Go.Proofs.Yteojmnnobmpdiaa
