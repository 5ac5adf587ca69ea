/-
  Part 32 of the texts that the proof of SuiteOpens rests on, one after the other. Conditions: named in each theorem.
-/
import Derived.Test.YtpcjekgfnfjbpaaGreatPkSuiteOpens31
import Derived.Test.YtpcjekgfnfjbpaaGreatPkSuiteOpens25
set_option linter.unusedVariables false
set_option linter.unusedSimpArgs false
namespace Go.Proofs.YtpcjekgfnfjbpaaGreat
open Go.RowKit Go.aG
attribute [local go_sem ↓] Go.wp_at_zero Go.wp_at_succ
theorem wK (v:Value) (n:Nat) (f:Nat→Int) (w:World) (hv:ko w v 1 (fun _=> n) (fun _=> f)) (hn:n≤1000000) (hf:∀i,i<n→0≤f i∧f i<256):
  Calls Tryz.prog 139 #[v] w fun e w'=> e=.returned (.agg (arr .u8 64 (gJ n f)))∧Below w.heap.size w w':=
 uw v 1 _ _ n f w hv (pO (f:=f) (n:=n)).1 (pO (f:=f) (n:=n)).2 hn hf
end Go.Proofs.YtpcjekgfnfjbpaaGreat
