/- It is proved that sedimentlaw14.ManifestNames returns true for every input, and that each argument reads behind the call as it read before; the package variables that it reads are tied to the program's text by the card. Under no other condition. -/
import Derived.Test.YtdeihieblljfcaaDoorCards
import Derived.Test.YtdeihieblljfcaaDoorEQ
namespace Go.Proofs.YtdeihieblljfcaaDoor

theorem manifestNamesHolds : Rows.ManifestNamesCardSaid := Go.V.YtdeihieblljfcaaDoor.card3

end Go.Proofs.YtdeihieblljfcaaDoor
