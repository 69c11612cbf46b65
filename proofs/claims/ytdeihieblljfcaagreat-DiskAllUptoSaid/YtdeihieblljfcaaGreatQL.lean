/- It is proved that sedimentlaw02.DiskAll returns true for every input of bulk at most 1048576 (as the row measures it), and that each argument reads behind the call as it read before. Under no other condition. -/
import Derived.Test.YtdeihieblljfcaaGreatRows
import Derived.Test.YtdeihieblljfcaaGreatQK
namespace Go.Proofs.YtdeihieblljfcaaGreat

theorem diskAllHolds : Rows.DiskAllUptoSaid := Go.V.YtdeihieblljfcaaGreat.all_holds

end Go.Proofs.YtdeihieblljfcaaGreat
