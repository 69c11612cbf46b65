/- It is proved that sedimentlaw02.DiskWhole returns true for every input, and that each argument reads behind the call as it read before. Under no condition. -/
import Derived.Test.YtdeihieblljfcaaRows
import Derived.Test.YtdeihieblljfcaaDQ
namespace Go.Proofs.Ytdeihieblljfcaa

theorem diskWholeHolds : Rows.DiskWholeSaid := Go.V.Ytdeihieblljfcaa.whole_holds

end Go.Proofs.Ytdeihieblljfcaa
