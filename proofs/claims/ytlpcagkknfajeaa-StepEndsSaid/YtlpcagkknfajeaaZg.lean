/-
  step: the reference's Begin, Answer, Tick, Stop: contracts.
-/
import Derived.Test.YtlpcagkknfajeaaZf
namespace Go.Proofs.Ytlpcagkknfajeaa
open Go.RowKit
attribute [local go_sem ↓] Go.wp_at_zero Go.wp_at_succ

section
variable {s0 s1 s2 : ByteArray} {af : Option Addr} {an ac : Nat} {m f k l : Int} {nk : Int} {nt : ByteArray} {ka : Option Addr} {kn kc : Nat} {da : Option Addr} {dn dc : Nat} {nl : Int}

end
end Go.Proofs.Ytlpcagkknfajeaa
