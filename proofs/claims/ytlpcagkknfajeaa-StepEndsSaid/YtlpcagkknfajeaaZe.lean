/-
  step: the reference's Now, limit, next: contracts.
-/
import Derived.Test.YtlpcagkknfajeaaZc
import Derived.Test.YtlpcagkknfajeaaBb
namespace Go.Proofs.Ytlpcagkknfajeaa
open Go.RowKit
attribute [local go_sem ↓] Go.wp_at_zero Go.wp_at_succ

def valAt (W : World) (p : Addr) : Value := (W.cell? p).getD undef
theorem valAt_of {W : World} {p : Addr} {v : Value} (h : W.cell? p = some v) : W.cell? p = some (valAt W p) := by unfold valAt; rw [h]; rfl

section
variable {s0 s1 s2 : ByteArray} {af : Option Addr} {an ac : Nat} {m f k l : Int} {nk : Int} {nt : ByteArray} {ka : Option Addr} {kn kc : Nat} {da : Option Addr} {dn dc : Nat} {nl : Int}
end
end Go.Proofs.Ytlpcagkknfajeaa
