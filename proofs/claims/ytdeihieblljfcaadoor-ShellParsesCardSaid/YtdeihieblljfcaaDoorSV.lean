/- It is proved that sedimentlaw30.ShellParses returns true for every input, and that the argument reads behind the call as it read before; the package variables that its row lists are tied to the program's text by the card. Under no other condition. -/
import Derived.Test.YtdeihieblljfcaaDoorCards
import Derived.Test.YtdeihieblljfcaaDoorSU
namespace Go.Proofs.YtdeihieblljfcaaDoor

theorem shellParsesHolds : Rows.ShellParsesCardSaid := Go.V.YtdeihieblljfcaaDoor.card5

end Go.Proofs.YtdeihieblljfcaaDoor
