/- Openers for chapter 8's claims over chapter 6's siblings. Conditions: none. -/
import Derived.Test.YtjgdcifkaopnpaaDoorNa3
import Derived.Test.YtjgdcifkaopnpaaDoorO1
import Derived.Test.YtjgdcifkaopnpaaDoorJ1
namespace Go.RV
end Go.RV
