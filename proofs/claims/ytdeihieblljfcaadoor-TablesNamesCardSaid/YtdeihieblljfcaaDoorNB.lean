/- It is proved that sedimentlaw12.TablesNames returns true for every input, and that each argument reads behind the call as it read before; the package variables that it reads are tied to the program's text by the card. Under no other condition. -/
import Derived.Test.YtdeihieblljfcaaDoorCards
import Derived.Test.YtdeihieblljfcaaDoorER
namespace Go.Proofs.YtdeihieblljfcaaDoor

theorem tablesNamesHolds : Rows.TablesNamesCardSaid := Go.V.YtdeihieblljfcaaDoor.card4

end Go.Proofs.YtdeihieblljfcaaDoor
