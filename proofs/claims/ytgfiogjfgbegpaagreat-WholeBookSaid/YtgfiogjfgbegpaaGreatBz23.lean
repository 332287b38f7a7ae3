/-
  backoff.meant, the reference's Meant: contracts.
-/
import Derived.Deep.DeepCutAuto
import Derived.Test.YtgfiogjfgbegpaaGreatBz3
import Derived.Test.YtgfiogjfgbegpaaGreatBz15
import Derived.Test.YtgfiogjfgbegpaaGreatBz21
namespace Go.Proofs.YtgfiogjfgbegpaaGreat
open Go.RowKit

end Go.Proofs.YtgfiogjfgbegpaaGreat
