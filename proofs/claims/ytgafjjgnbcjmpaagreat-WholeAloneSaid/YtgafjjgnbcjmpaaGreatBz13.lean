/-
  Bytes as a text. Conditions: none of the program's.
-/
import Derived.Test.YtgafjjgnbcjmpaaGreatRows
import Derived.Laws.IdiomStrings
import Derived.Test.YtgafjjgnbcjmpaaGreatBz2
import Derived.Test.YtgafjjgnbcjmpaaGreatBz6
namespace Go.Proofs.YtgafjjgnbcjmpaaGreat
open Go.RowKit

def mkS (l : List Nat) : ByteArray := ⟨(l.map UInt8.ofNat).toArray⟩
end Go.Proofs.YtgafjjgnbcjmpaaGreat
