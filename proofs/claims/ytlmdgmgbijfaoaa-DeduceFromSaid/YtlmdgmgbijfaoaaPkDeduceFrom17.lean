/-
  Part 17 of the texts that the proof of DeduceFrom rests on, one after the other. Conditions: named in each theorem.
-/
import Derived.Test.YtlmdgmgbijfaoaaPkDeduceFrom2
import Derived.Test.YtlmdgmgbijfaoaaPkDeduceFrom11
import Derived.Test.YtlmdgmgbijfaoaaPkDeduceFrom1
import Derived.Test.YtlmdgmgbijfaoaaPkDeduceFrom5
import Derived.Test.YtlmdgmgbijfaoaaPkDeduceFrom3
import Derived.Test.YtlmdgmgbijfaoaaPkDeduceFrom4
import Derived.Test.YtlmdgmgbijfaoaaPkDeduceFrom6
import Derived.Test.YtlmdgmgbijfaoaaPkDeduceFrom7
import Derived.Test.YtlmdgmgbijfaoaaPkDeduceFrom10
import Derived.Test.YtlmdgmgbijfaoaaPkDeduceFrom9
import Derived.Test.YtlmdgmgbijfaoaaPkDeduceFrom8
import Derived.BigQuiet
import Derived.ChangeKeysEq
import Derived.ChangeMaps5
import Derived.ChangeOld
import Derived.Deep.Cut
import Derived.Deep.DrawnRows
import Derived.Deep.MidRow
import Derived.Deep.QuietTactic
import Derived.Deep.RegionHeld3
import Derived.Deep.Slices
import Derived.Deep.Strs
import Derived.Deep.Upon
import Derived.Deep.WholeRow
import Derived.Great.BuildSlice
import Derived.Great.Walk
import Derived.Laws.CopyOwn
import Derived.Laws.IdiomCopy
import Derived.Laws.StructEq
import Derived.Lib.Hide
import Derived.Maps.AppendAt
import Derived.Maps.OwnSet
import Derived.Maps.Range
import Derived.Maps.Views
import Derived.OpenShut
import Derived.Orders
import Derived.ProofKit
import Derived.ShutString
import Derived.StillTactics
import Derived.Test.YtlmdgmgbijfaoaaArr
import Derived.Test.YtlmdgmgbijfaoaaFlow
import Derived.Test.YtlmdgmgbijfaoaaKit
import Derived.Test.YtlmdgmgbijfaoaaOpen
import Derived.Test.YtlmdgmgbijfaoaaOpenT
import Derived.Test.YtlmdgmgbijfaoaaRows
import Derived.Test.YtlmdgmgbijfaoaaTxt
import Derived.WalkKit
import Derived.WalkLawsBesides
import Derived.WalkSmall
import Derived.WalkSpells
set_option linter.unusedVariables false
set_option linter.unusedSimpArgs false
set_option maxRecDepth 100000
namespace Go.Proofs.Ytlmdgmgbijfaoaa
open Go.RowKit Go.Bas Go.ChangeShapes Go.Maps
attribute [local go_sem ↓] Go.wp_at_zero Go.wp_at_succ
abbrev kvI:Int→Value:=Value.int .i64
def okI:Int→Prop:=fun x=> -9223372036854775808≤x∧x≤9223372036854775807
section
variable {B : Nat} {w w' : World} {p mb : Nat} {vn vo : Value} {ov : Nat → Value} {nd : List Int} {os : List (List Nat)} {ed : Nat}
end
end Go.Proofs.Ytlmdgmgbijfaoaa
namespace Go.Bas
open Go.RowKit
end Go.Bas
namespace Go.Proofs.Ytlmdgmgbijfaoaa
open Go.RowKit Go.Bas Go.ChangeShapes Go.Maps
attribute [local go_sem ↓] Go.wp_at_zero Go.wp_at_succ
theorem ints_any (L M:List Int) (va vb:Value) (w:World) (ha:Mat w va L.length 1 (lv kvI L)) (hb:Mat w vb M.length 1 (lv kvI M)) (hl:L.length≤1000000):Calls Try.prog 39 #[va,vb] w fun e w'=> e=.returned (.bool (decide (L=M)))∧Below w.heap.size w w':=by
 obtain ⟨a,cap,rfl,hcap,hcap2,hcell⟩:=ha.one
 obtain ⟨a2,cap2,rfl,hcap3,hcap4,hcell2⟩:=hb.one
 have HC:=Lib.hid hcell
 have HC2:=Lib.hid hcell2
 clear ha hb hcell hcell2
 obtain ⟨R,hR⟩:∃R,R=decide (L=M):=⟨_,rfl⟩
 rw [←hR]
 have HR:=Lib.hid hR
 clear hR
 by_cases hlm:L.length=M.length
 ·obtain ⟨n,hn⟩:∃n,n=L.length:=⟨_,rfl⟩
  have HN:=Lib.hid hn
  have HM:Hid (M.length=n):=Lib.hid (by rw [hn,hlm])
  rw [HM.out,←hn]
  rw [←hn] at hl
  clear hlm hn
  go_enter Try.func39,Try.ntmps39
  go_wp2
  go_loopw [5] (fun i wr=> ∃k:Nat,k≤n∧i=.int .i64 k∧(∀j,j<k→L[j]? =M[j]?)∧Below w.heap.size w wr) (fun i _=> n - (intOf i).toNat)
  case atStart=> exact ⟨0,Nat.zero_le _,rfl,fun j hj=> absurd hj (Nat.not_lt_zero _),Below.refl _ _⟩
  case round=>
   obtain ⟨k,hk,rfl,hsame,hBe⟩:=hrel
   have HS:=Lib.hid hsame
   have HBe:=Lib.hid hBe
   clear hsame hBe
   by_cases hlt:k<n
   ·obtain ⟨b,o,rfl,hb1,z1⟩:=HC.out k (by rw [←HN.out];exact hlt)
    obtain ⟨b2,o2,rfl,hb2,z2⟩:=HC2.out k (by rw [HM.out];exact hlt)
    obtain ⟨x,hx⟩:∃x,L[k]? =some x:=⟨_,List.getElem?_eq_getElem (by rw [←HN.out];exact hlt)⟩
    obtain ⟨y,hy⟩:∃y,M[k]? =some y:=⟨_,List.getElem?_eq_getElem (by rw [HM.out];exact hlt)⟩
    rw [lv_at hx] at z1
    rw [lv_at hy] at z2
    replace z1:=(HBe.out.cell (p:=⟨b,o+k,none⟩) hb1).trans z1
    replace z2:=(HBe.out.cell (p:=⟨b2,o2+k,none⟩) hb2).trans z2
    have HX:=Lib.hid hx
    have HY:=Lib.hid hy
    have hk9:(k:Int)<1000000:=by omega
    clear hx hy
    by_cases hxy:x=y
    ·have hq:(x==y)=true:=by simpa using hxy
     have HN2:Hid (∀j,j<k+1→L[j]? =M[j]?):=fun j hj=> by
      by_cases e:j=k
      ·subst e
       rw [HX.out,HY.out,hxy]
      ·exact HS.out j (by omega)
     subst hxy
     clear hq
     go_wp2
     go_quiet (fail)
     go_wp2
     have NB:=Lib.hid (Go.Bas.below_drewN HBe.out nq)
     go_roundw
     case rel=> exact ⟨k+1,by omega,by go_num,HN2.out,NB.out⟩
     case measure=> simp [intOf];omega
    ·have hq:(x==y)=false:=by simpa using hxy
     have HT:Hid (R=false):=Lib.hid (by
      rw [HR.out]
      refine decide_eq_false fun hm=> ?_
      have h1:=HX.out
      rw [hm,HY.out] at h1
      exact hxy (Option.some.inj h1).symm)
     have hq2:(x !=y)=true:=by simpa using hxy
     clear hq hxy hcap hcap2 hcap3 hcap4 hl
     go_wp2
     go_quiet (fail)
     go_wp2
     go_ret
     rw [HT.out]
     exact ⟨rfl,Go.Bas.below_drewN HBe.out _⟩
   ·obtain rfl:k=n:=by omega
    have HT:Hid (R=true):=Lib.hid (by
     rw [HR.out]
     refine decide_eq_true (List.ext_getElem? fun j=> ?_)
     by_cases hj:j<k
     ·exact HS.out j hj
     ·rw [List.getElem?_eq_none (by rw [←HN.out];omega),List.getElem?_eq_none (by rw [HM.out];omega)])
    go_wp2
    go_ret
    rw [HT.out]
    exact ⟨rfl,HBe.out⟩
 ·have hne:¬ ((L.length:Int)=(M.length:Int)):=by omega
  have HT:Hid (R=false):=Lib.hid (by
   rw [HR.out]
   exact decide_eq_false fun hm=> hlm (by rw [hm]))
  clear hlm
  go_enter Try.func39,Try.ntmps39
  go_wp2
  go_ret
  rw [HT.out]
  exact ⟨rfl,Below.refl _ _⟩
end Go.Proofs.Ytlmdgmgbijfaoaa
namespace Go.Bas
open Go.RowKit Go.ChangeShapes Go.WideShapes Go.ChangeAt
section
variable {H : Type} {enc : TypeId × Value → H} {P : Program} {w : World} {base : Nat} {spare : Nat → Bool} {held : Bool}
theorem i64_of_wf {x:Int} (h:(Lit.int .i64 x).wf=true): -9223372036854775808≤x∧x≤9223372036854775807:=by have:=bounds_i64 h;omega
theorem open_numbers {t e:TypeId} {v:Value} {d:DataW H} {p:List MemPlace} (ht:P.underlying t=some (.slice e)) (he:P.underlying e=some (.int .i64)) (hc:P.cellsOf e=1)
  {b0:Nat} (hv:Value.okWide P w .any b0 t v) (h:DataW.Trod enc P w base spare held t v d p):
  ∃L:List Int,Mat w v L.length 1 (lv (Value.int .i64) L)∧∀x,x ∈ L→ -9223372036854775808≤x∧x≤9223372036854775807:=by
 obtain ⟨n,f,hr,hb⟩:=open_rd ht he hc hv h
 refine ⟨(List.range n).map f,?_,fun x hx=> ?_⟩
 ·obtain ⟨a,c,rfl,h1,h2,_,h4⟩:=hr
  rw [List.length_map,List.length_range]
  refine ⟨a,c,rfl,h1,h2,fun hn=> ?_⟩
  obtain ⟨b,o,rfl,hlt,hcc⟩:=h4 hn
  refine ⟨b,o,rfl,hlt,fun j hj i hi=> ?_⟩
  obtain rfl:i=0:=by omega
  rw [show o+j * 1+0=o+j by omega,lv_at (x:=f j) (by rw [List.getElem?_map,List.getElem?_range hj];rfl)]
  exact hcc j hj
 ·obtain ⟨j,hj,rfl⟩:=List.mem_map.1 hx
  exact i64_of_wf (hb j (List.mem_range.1 hj))
end
end Go.Bas
