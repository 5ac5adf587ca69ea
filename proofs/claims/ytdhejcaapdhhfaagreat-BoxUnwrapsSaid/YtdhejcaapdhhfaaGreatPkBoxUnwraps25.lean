/-
  Part 25 of the texts that the proof of BoxUnwraps rests on, one after the other. Conditions: named in each theorem.
-/
import Derived.Test.YtdhejcaapdhhfaaGreatPkBoxUnwraps7
import Derived.Test.YtdhejcaapdhhfaaGreatPkBoxUnwraps2
import Derived.Test.YtdhejcaapdhhfaaGreatPkBoxUnwraps24
import Derived.BigQuiet
import Derived.ChangeKeysEq
import Derived.Deep.DrawnRows
import Derived.Deep.QuietTactic
import Derived.Deep.RegionHeld3
import Derived.Deep.WholeRow
import Derived.Great.BuildSlice
import Derived.Laws.BitsAllLaws
import Derived.Laws.CopyOwn
import Derived.Laws.StructEq
import Derived.Lib.Hide
import Derived.Orders
import Derived.Test.YtdhejcaapdhhfaaGreatArr
import Derived.Test.YtdhejcaapdhhfaaGreatFlow
import Derived.Test.YtdhejcaapdhhfaaGreatKit
import Derived.Test.YtdhejcaapdhhfaaGreatTxt
import Derived.WalkKit
import Derived.WalkLawsBesides
import Derived.WalkSmall
import Derived.WalkSpells
set_option linter.unusedVariables false
set_option linter.unusedSimpArgs false
namespace Go.Bas
def keyK (n:Nat) (key:Nat→Int) (i:Nat):Int:=if 128<n then (if i<64 then sumB n key i else 0) else if i<n then key i else 0
def padK (n:Nat) (key:Nat→Int) (c:Int) (i:Nat):Int:=bits .xor .u8 (keyK n key i) c
theorem xor8_bound (a b:Int):0≤bits .xor .u8 a b∧bits .xor .u8 a b<256:=by
 show 0≤IntKind.u8.wrap _∧IntKind.u8.wrap _<256
 rw [IntKind.wrap_u8];omega
theorem xor8_zero:∀c:Fin 256,bits .xor .u8 0 (c.val:Int)=(c.val:Int):=by decide+kernel
theorem xor8_0 {c:Int} (h:0≤c∧c<256):bits .xor .u8 0 c=c:=by
 obtain ⟨q,rfl⟩:=Int.eq_ofNat_of_zero_le h.1
 exact xor8_zero ⟨q,by omega⟩
theorem padK_bound (n:Nat) (key:Nat→Int) (c:Int) (i:Nat):0≤padK n key c i∧padK n key c i<256:=xor8_bound _ _
theorem keyK_bound {n:Nat} {key:Nat→Int} (h:∀i,i<n→0≤key i∧key i<256) (i:Nat):0≤keyK n key i∧keyK n key i<256:=by
 unfold keyK
 split
 ·split
  ·exact sumB_bound _ _ _
  ·decide
 ·split
  ·exact h i (by assumption)
  ·decide
def tagB (nk:Nat) (key:Nat→Int) (n:Nat) (f:Nat→Int):Nat→Int:=sumB (128+64) (catF 128 (padK nk key 92) (sumB (128+n) (catF 128 (padK nk key 54) f)))
theorem tagB_bound (nk:Nat) (key:Nat→Int) (n:Nat) (f:Nat→Int) (i:Nat):0≤tagB nk key n f i∧tagB nk key n f i<256:=sumB_bound _ _ _
end Go.Bas
