/-
  Part 29 of the texts that the proof of RegressReach rests on, one after the other. Conditions: named in each theorem.
-/
import Derived.Test.YtpcjekgfnfjbpaaPkRegressReach21
import Derived.Test.YtpcjekgfnfjbpaaPkRegressReach3
import Derived.Test.YtpcjekgfnfjbpaaPkRegressReach19
import Derived.BigQuiet
import Derived.ChangeKeysEq
import Derived.Deep.DrawnRows
import Derived.Deep.QuietTactic
import Derived.Deep.RegionHeld3
import Derived.Deep.WholeRow
import Derived.Great.BuildSlice
import Derived.Laws.BitsAllLaws
import Derived.Laws.CopyOwn
import Derived.Laws.StructEq
import Derived.Lib.Hide
import Derived.Orders
import Derived.Test.YtpcjekgfnfjbpaaArr
import Derived.Test.YtpcjekgfnfjbpaaFlow
import Derived.Test.YtpcjekgfnfjbpaaKit
import Derived.Test.YtpcjekgfnfjbpaaTxt
import Derived.WalkKit
import Derived.WalkLawsBesides
import Derived.WalkSmall
import Derived.WalkSpells
set_option linter.unusedVariables false
set_option linter.unusedSimpArgs false
namespace Go.Bas
def keyK (n:Nat) (key:Nat→Int) (i:Nat):Int:=if 128<n then (if i<64 then sumB n key i else 0) else if i<n then key i else 0
def padK (n:Nat) (key:Nat→Int) (c:Int) (i:Nat):Int:=bits .xor .u8 (keyK n key i) c
theorem xor8_bound (a b:Int):0≤bits .xor .u8 a b∧bits .xor .u8 a b<256:=by
 show 0≤IntKind.u8.wrap _∧IntKind.u8.wrap _<256
 rw [IntKind.wrap_u8];omega
theorem padK_bound (n:Nat) (key:Nat→Int) (c:Int) (i:Nat):0≤padK n key c i∧padK n key c i<256:=xor8_bound _ _
theorem keyK_bound {n:Nat} {key:Nat→Int} (h:∀i,i<n→0≤key i∧key i<256) (i:Nat):0≤keyK n key i∧keyK n key i<256:=by
 unfold keyK
 split
 ·split
  ·exact sumB_bound _ _ _
  ·decide
 ·split
  ·exact h i (by assumption)
  ·decide
def tagB (nk:Nat) (key:Nat→Int) (n:Nat) (f:Nat→Int):Nat→Int:=sumB (128+64) (catF 128 (padK nk key 92) (sumB (128+n) (catF 128 (padK nk key 54) f)))
theorem tagB_bound (nk:Nat) (key:Nat→Int) (n:Nat) (f:Nat→Int) (i:Nat):0≤tagB nk key n f i∧tagB nk key n f i<256:=sumB_bound _ _ _
theorem keyK_congr {n:Nat} {k k':Nat→Int} (h:∀i,i<n→k i=k' i):keyK n k=keyK n k':=by
 funext i
 unfold keyK
 rw [sumB_congr h]
 split
 ·rfl
 ·split
  ·exact h i (by assumption)
  ·rfl
theorem tagB_congr {nk n:Nat} {k k' f f':Nat→Int} (hk:∀i,i<nk→k i=k' i) (hf:∀i,i<n→f i=f' i):tagB nk k n f=tagB nk k' n f':=by
 unfold tagB padK
 rw [keyK_congr hk]
 have:sumB (128+n) (catF 128 (fun i=> bits .xor .u8 (keyK nk k' i) 54) f)=sumB (128+n) (catF 128 (fun i=> bits .xor .u8 (keyK nk k' i) 54) f'):=sumB_congr (catF_congr (fun _ _=> rfl) hf)
 rw [this]
end Go.Bas
