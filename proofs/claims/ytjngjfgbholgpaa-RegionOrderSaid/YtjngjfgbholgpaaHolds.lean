/- counterpanelaw4.RegionOrder: whatever the input, the law returns true, and the input reads as it did. No condition. -/
import Derived.Test.YtjngjfgbholgpaaRow
import Derived.Test.YtjngjfgbholgpaaBegun
namespace Go.Proofs.Ytjngjfgbholgpaa
theorem regionOrder_holds : Rows.RegionOrderSaid := regionOrder.over Go.Proofs.YtjngjfgbholgpaaBegun.begun
#print axioms regionOrder_holds
end Go.Proofs.Ytjngjfgbholgpaa
