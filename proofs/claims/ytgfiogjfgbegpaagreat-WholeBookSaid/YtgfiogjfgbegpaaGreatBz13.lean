/-
  Bytes as a text. Conditions: none of the program's.
-/
import Derived.Test.YtgfiogjfgbegpaaGreatRows
import Derived.Laws.IdiomStrings
import Derived.Test.YtgfiogjfgbegpaaGreatBz2
import Derived.Test.YtgfiogjfgbegpaaGreatBz6
namespace Go.Proofs.YtgfiogjfgbegpaaGreat
open Go.RowKit

end Go.Proofs.YtgfiogjfgbegpaaGreat
