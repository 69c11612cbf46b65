/- It is proved that sedimentlaw02.DiskLinks returns true for every input, and that each argument reads behind the call as it read before. Under no condition. -/
import Derived.Test.YtdeihieblljfcaaRows
import Derived.Test.YtdeihieblljfcaaDT
namespace Go.Proofs.Ytdeihieblljfcaa

theorem diskLinksHolds : Rows.DiskLinksSaid := Go.V.Ytdeihieblljfcaa.links_holds

end Go.Proofs.Ytdeihieblljfcaa
