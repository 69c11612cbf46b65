/- It is proved that sedimentlaw02.DiskOnce returns true for every input of bulk at most 1048576 (as the row measures it), and that each argument reads behind the call as it read before. Under no other condition. -/
import Derived.Test.YtdeihieblljfcaaGreatRows
import Derived.Test.YtdeihieblljfcaaGreatLI
namespace Go.Proofs.YtdeihieblljfcaaGreat

theorem diskOnceHolds : Rows.DiskOnceUptoSaid := Go.V.YtdeihieblljfcaaGreat.once_holds

end Go.Proofs.YtdeihieblljfcaaGreat
