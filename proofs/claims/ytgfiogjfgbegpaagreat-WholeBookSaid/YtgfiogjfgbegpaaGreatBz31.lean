/-
  backoff.Span, the reference's Span: contracts.
-/
import Derived.Deep.RegionHeld3
import Derived.Deep.DrawnRows
import Derived.Test.YtgfiogjfgbegpaaGreatBz1
import Derived.Test.YtgfiogjfgbegpaaGreatBz28
namespace Go.Proofs.YtgfiogjfgbegpaaGreat
open Go.RowKit
attribute [local go_sem ↓] Go.wp_at_zero Go.wp_at_succ

def limI (l : Int) : Int := min (max (or0 l 100) 0) 10000
end Go.Proofs.YtgfiogjfgbegpaaGreat

/-
  backoff.Plan: contract.
-/
namespace Go.Proofs.YtgfiogjfgbegpaaGreat
open Go.RowKit
attribute [local go_sem] Oper.semAt_some wide_fn wide_depth wide_fn' wide_depth'

end Go.Proofs.YtgfiogjfgbegpaaGreat

/-
  The reference's Plan: contract.
-/
namespace Go.Proofs.YtgfiogjfgbegpaaGreat
open Go.RowKit

end Go.Proofs.YtgfiogjfgbegpaaGreat

/-
  backoff: live.
-/
namespace Go.Proofs.YtgfiogjfgbegpaaGreat
open Go.RowKit

end Go.Proofs.YtgfiogjfgbegpaaGreat

/-
  The law BackoffSpans: its walk.
-/
namespace Go.Proofs.YtgfiogjfgbegpaaGreat
open Go.RowKit
attribute [local go_sem ↓] Go.wp_at_zero Go.wp_at_succ

end Go.Proofs.YtgfiogjfgbegpaaGreat

/-
  step: the program's Now, end, try, fail, Begin: contracts.
-/
namespace Go.Proofs.YtgfiogjfgbegpaaGreat
open Go.RowKit
attribute [local go_sem ↓] Go.wp_at_zero Go.wp_at_succ

def nowI (n : Int) : Int := min (max n 0) 1099511627776
def runV (p t u : Int) (b : Bool) : Value := .agg #[.int .u8 p, .int .i64 t, .int .i64 u, .bool b]
section
variable {s0 s1 s2 : ByteArray} {af : Option Addr} {an ac : Nat} {m f k l : Int} {nk : Int} {nt : ByteArray} {ka : Option Addr} {kn kc : Nat} {da : Option Addr} {dn dc : Nat} {nl : Int}

def inc (t : Int) : Int := wrap64 (t + 1)
end
end Go.Proofs.YtgfiogjfgbegpaaGreat

/-
  step: fail, Begin, Answer, Tick, Stop, Settled: contracts.
-/
namespace Go.Proofs.YtgfiogjfgbegpaaGreat
open Go.RowKit
attribute [local go_sem ↓] Go.wp_at_zero Go.wp_at_succ

section
variable {s0 s1 s2 : ByteArray} {af : Option Addr} {an ac : Nat} {m f k l : Int} {nk : Int} {nt : ByteArray} {ka : Option Addr} {kn kc : Nat} {da : Option Addr} {dn dc : Nat} {nl : Int}

def runT (x : Int × Int × Int × Bool) : Value := runV x.1 x.2.1 x.2.2.1 x.2.2.2

end
end Go.Proofs.YtgfiogjfgbegpaaGreat

/-
  step: Begin, Answer, Tick, Stop, Settled: contracts.
-/
namespace Go.Proofs.YtgfiogjfgbegpaaGreat
open Go.RowKit
attribute [local go_sem ↓] Go.wp_at_zero Go.wp_at_succ

def stopT (p t u : Int) (b : Bool) : Int × Int × Int × Bool :=
  if p = 0 ∨ p = 2 then (4, t, 0, true) else if p = 1 then (p, t, u, true) else (p, t, u, b)
section
variable {s0 s1 s2 : ByteArray} {af : Option Addr} {an ac : Nat} {m f k l : Int} {nk : Int} {nt : ByteArray} {ka : Option Addr} {kn kc : Nat} {da : Option Addr} {dn dc : Nat} {nl : Int}

end
end Go.Proofs.YtgfiogjfgbegpaaGreat

/-
  step: Tick: contract.
-/
namespace Go.Proofs.YtgfiogjfgbegpaaGreat
open Go.RowKit
attribute [local go_sem ↓] Go.wp_at_zero Go.wp_at_succ

section
variable {s0 s1 s2 : ByteArray} {af : Option Addr} {an ac : Nat} {m f k l : Int} {nk : Int} {nt : ByteArray} {ka : Option Addr} {kn kc : Nat} {da : Option Addr} {dn dc : Nat} {nl : Int}

end
end Go.Proofs.YtgfiogjfgbegpaaGreat
