/- Contracts, packed: Oh Oi Oj Ok Jp Jq Jr Fa Fb Mi. -/
import Derived.Test.YthoibeajhdhdhaaGreatDoorPs1
import Derived.Test.YthoibeajhdhdhaaGreatDoorPs30
import Derived.Test.YthoibeajhdhdhaaGreatDoorPs37
import Derived.Test.YthoibeajhdhdhaaGreatDoorPs38
import Derived.Test.YthoibeajhdhdhaaGreatDoorPs40
import Derived.Test.YthoibeajhdhdhaaGreatDoorPs45
import Derived.Test.YthoibeajhdhdhaaGreatDoorPs47
import Derived.Test.YthoibeajhdhdhaaGreatDoorPs49
import Derived.RegionTactic
import Derived.ChangeAlike
set_option linter.unusedVariables false
set_option linter.unusedSimpArgs false
namespace Go.Proofs.YthoibeajhdhdhaaGreatDoor
section
open Go.RowKit FracM
end
section
open Go.RowKit FracM
end
section
open Go.RowKit FracM
end
section
open Go.RowKit FracM
end
section
open Go.RowKit FracM
end
section
open Go.RowKit FracM
end
section
open Go.RowKit FracM
end
section
open Go.RowKit FracM
def bound (n most : Int) : Int := around n (2 * most + 1) - most
end
section
open Go.RowKit FracM
end
section
open Go.RowKit FracM
end
end Go.Proofs.YthoibeajhdhdhaaGreatDoor
