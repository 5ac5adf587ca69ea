/-
  Part 44 of EscrowTake. Conditions: named in each theorem.
-/
import Derived.Test.YtpcjekgfnfjbpaaGreatPkEscrowTake43
import Derived.Test.YtpcjekgfnfjbpaaGreatPkEscrowTake11
set_option linter.unusedVariables false
set_option linter.unusedSimpArgs false
namespace Go.Proofs.YtpcjekgfnfjbpaaGreat
open Go.RowKit Go.aZ
attribute [local go_sem ↓] Go.wp_at_zero Go.wp_at_succ
theorem Rs (v:Value) (n:Nat) (f:Nat->Int) (w:World) (hv:qM w v 1 (fun _=> n) (fun _=> f)) (hn:n<=1000000) (hf:∀i,i<n->0<=f i/\f i<256):
  Calls Tryz.prog 139 #[v] w fun e w'=> e=.returned (.agg (arr .u8 64 (oK n f)))/\Below w.heap.size w w':=
 Dt v 1 _ _ n f w hv (zY (f:=f) (n:=n)).1 (zY (f:=f) (n:=n)).2 hn hf
end Go.Proofs.YtpcjekgfnfjbpaaGreat
