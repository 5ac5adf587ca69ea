/-
  Part 17 of the texts that the proof of DeduceMore rests on, one after the other. Conditions: named in each theorem.
-/
import Derived.Test.YtlmdgmgbijfaoaaPkDeduceMore2
import Derived.Test.YtlmdgmgbijfaoaaPkDeduceMore11
import Derived.Test.YtlmdgmgbijfaoaaPkDeduceMore1
import Derived.Test.YtlmdgmgbijfaoaaPkDeduceMore5
import Derived.Test.YtlmdgmgbijfaoaaPkDeduceMore3
import Derived.Test.YtlmdgmgbijfaoaaPkDeduceMore4
import Derived.Test.YtlmdgmgbijfaoaaPkDeduceMore6
import Derived.Test.YtlmdgmgbijfaoaaPkDeduceMore7
import Derived.Test.YtlmdgmgbijfaoaaPkDeduceMore10
import Derived.Test.YtlmdgmgbijfaoaaPkDeduceMore9
import Derived.Test.YtlmdgmgbijfaoaaPkDeduceMore8
import Derived.BigQuiet
import Derived.ChangeKeysEq
import Derived.ChangeMaps5
import Derived.ChangeOld
import Derived.Deep.Cut
import Derived.Deep.DrawnRows
import Derived.Deep.MidRow
import Derived.Deep.QuietTactic
import Derived.Deep.RegionHeld3
import Derived.Deep.Slices
import Derived.Deep.Strs
import Derived.Deep.Upon
import Derived.Deep.WholeRow
import Derived.Great.BuildSlice
import Derived.Great.Walk
import Derived.Laws.CopyOwn
import Derived.Laws.IdiomCopy
import Derived.Laws.StructEq
import Derived.Lib.Hide
import Derived.Maps.AppendAt
import Derived.Maps.OwnSet
import Derived.Maps.Range
import Derived.Maps.Views
import Derived.OpenShut
import Derived.Orders
import Derived.ProofKit
import Derived.ShutString
import Derived.StillTactics
import Derived.Test.YtlmdgmgbijfaoaaArr
import Derived.Test.YtlmdgmgbijfaoaaFlow
import Derived.Test.YtlmdgmgbijfaoaaKit
import Derived.Test.YtlmdgmgbijfaoaaOpen
import Derived.Test.YtlmdgmgbijfaoaaOpenT
import Derived.Test.YtlmdgmgbijfaoaaRows
import Derived.Test.YtlmdgmgbijfaoaaTxt
import Derived.WalkKit
import Derived.WalkLawsBesides
import Derived.WalkSmall
import Derived.WalkSpells
set_option linter.unusedVariables false
set_option linter.unusedSimpArgs false
set_option maxRecDepth 100000
namespace Go.Proofs.Ytlmdgmgbijfaoaa
open Go.RowKit Go.Bas Go.ChangeShapes Go.Maps
attribute [local go_sem ↓] Go.wp_at_zero Go.wp_at_succ
abbrev kvI:Int→Value:=Value.int .i64
def okI:Int→Prop:=fun x=> -9223372036854775808≤x∧x≤9223372036854775807
section
variable {B : Nat} {w w' : World} {p mb : Nat} {vn vo : Value} {ov : Nat → Value} {nd : List Int} {os : List (List Nat)} {ed : Nat}
end
end Go.Proofs.Ytlmdgmgbijfaoaa
namespace Go.Bas
open Go.RowKit
end Go.Bas
namespace Go.Proofs.Ytlmdgmgbijfaoaa
open Go.RowKit Go.Bas Go.ChangeShapes Go.Maps
attribute [local go_sem ↓] Go.wp_at_zero Go.wp_at_succ
theorem ints_any (L M:List Int) (va vb:Value) (w:World) (ha:Mat w va L.length 1 (lv kvI L)) (hb:Mat w vb M.length 1 (lv kvI M)) (hl:L.length≤1000000):Calls Try.prog 39 #[va,vb] w fun e w'=> e=.returned (.bool (decide (L=M)))∧Below w.heap.size w w':=by
 obtain ⟨a,cap,rfl,hcap,hcap2,hcell⟩:=ha.one
 obtain ⟨a2,cap2,rfl,hcap3,hcap4,hcell2⟩:=hb.one
 have HC:=Lib.hid hcell
 have HC2:=Lib.hid hcell2
 clear ha hb hcell hcell2
 obtain ⟨R,hR⟩:∃R,R=decide (L=M):=⟨_,rfl⟩
 rw [←hR]
 have HR:=Lib.hid hR
 clear hR
 by_cases hlm:L.length=M.length
 ·obtain ⟨n,hn⟩:∃n,n=L.length:=⟨_,rfl⟩
  have HN:=Lib.hid hn
  have HM:Hid (M.length=n):=Lib.hid (by rw [hn,hlm])
  rw [HM.out,←hn]
  rw [←hn] at hl
  clear hlm hn
  go_enter Try.func39,Try.ntmps39
  go_wp2
  go_loopw [5] (fun i wr=> ∃k:Nat,k≤n∧i=.int .i64 k∧(∀j,j<k→L[j]? =M[j]?)∧Below w.heap.size w wr) (fun i _=> n - (intOf i).toNat)
  case atStart=> exact ⟨0,Nat.zero_le _,rfl,fun j hj=> absurd hj (Nat.not_lt_zero _),Below.refl _ _⟩
  case round=>
   obtain ⟨k,hk,rfl,hsame,hBe⟩:=hrel
   have HS:=Lib.hid hsame
   have HBe:=Lib.hid hBe
   clear hsame hBe
   by_cases hlt:k<n
   ·obtain ⟨b,o,rfl,hb1,z1⟩:=HC.out k (by rw [←HN.out];exact hlt)
    obtain ⟨b2,o2,rfl,hb2,z2⟩:=HC2.out k (by rw [HM.out];exact hlt)
    obtain ⟨x,hx⟩:∃x,L[k]? =some x:=⟨_,List.getElem?_eq_getElem (by rw [←HN.out];exact hlt)⟩
    obtain ⟨y,hy⟩:∃y,M[k]? =some y:=⟨_,List.getElem?_eq_getElem (by rw [HM.out];exact hlt)⟩
    rw [lv_at hx] at z1
    rw [lv_at hy] at z2
    replace z1:=(HBe.out.cell (p:=⟨b,o+k,none⟩) hb1).trans z1
    replace z2:=(HBe.out.cell (p:=⟨b2,o2+k,none⟩) hb2).trans z2
    have HX:=Lib.hid hx
    have HY:=Lib.hid hy
    have hk9:(k:Int)<1000000:=by omega
    clear hx hy
    by_cases hxy:x=y
    ·have hq:(x==y)=true:=by simpa using hxy
     have HN2:Hid (∀j,j<k+1→L[j]? =M[j]?):=fun j hj=> by
      by_cases e:j=k
      ·subst e
       rw [HX.out,HY.out,hxy]
      ·exact HS.out j (by omega)
     subst hxy
     clear hq
     go_wp2
     go_quiet (fail)
     go_wp2
     have NB:=Lib.hid (Go.Bas.below_drewN HBe.out nq)
     go_roundw
     case rel=> exact ⟨k+1,by omega,by go_num,HN2.out,NB.out⟩
     case measure=> simp [intOf];omega
    ·have hq:(x==y)=false:=by simpa using hxy
     have HT:Hid (R=false):=Lib.hid (by
      rw [HR.out]
      refine decide_eq_false fun hm=> ?_
      have h1:=HX.out
      rw [hm,HY.out] at h1
      exact hxy (Option.some.inj h1).symm)
     have hq2:(x !=y)=true:=by simpa using hxy
     clear hq hxy hcap hcap2 hcap3 hcap4 hl
     go_wp2
     go_quiet (fail)
     go_wp2
     go_ret
     rw [HT.out]
     exact ⟨rfl,Go.Bas.below_drewN HBe.out _⟩
   ·obtain rfl:k=n:=by omega
    have HT:Hid (R=true):=Lib.hid (by
     rw [HR.out]
     refine decide_eq_true (List.ext_getElem? fun j=> ?_)
     by_cases hj:j<k
     ·exact HS.out j hj
     ·rw [List.getElem?_eq_none (by rw [←HN.out];omega),List.getElem?_eq_none (by rw [HM.out];omega)])
    go_wp2
    go_ret
    rw [HT.out]
    exact ⟨rfl,HBe.out⟩
 ·have hne:¬ ((L.length:Int)=(M.length:Int)):=by omega
  have HT:Hid (R=false):=Lib.hid (by
   rw [HR.out]
   exact decide_eq_false fun hm=> hlm (by rw [hm]))
  clear hlm
  go_enter Try.func39,Try.ntmps39
  go_wp2
  go_ret
  rw [HT.out]
  exact ⟨rfl,Below.refl _ _⟩
end Go.Proofs.Ytlmdgmgbijfaoaa
namespace Go.Bas
open Go.RowKit Go.ChangeShapes Go.WideShapes Go.ChangeAt
section
variable {H : Type} {enc : TypeId × Value → H} {P : Program} {w : World} {base : Nat} {spare : Nat → Bool} {held : Bool}
theorem i64_of_wf {x:Int} (h:(Lit.int .i64 x).wf=true): -9223372036854775808≤x∧x≤9223372036854775807:=by have:=bounds_i64 h;omega
end
end Go.Bas
namespace Go.Bas
open Go.RowKit
theorem lv_cat {K:Type} {kv:K→Value} {L M:List K}:∀j,j<L.length+M.length→∀i,i<1→catM L.length (lv kv L) (lv kv M) j i=lv kv (L++M) j i:=by
 intro j hj i hi
 by_cases h:j<L.length
 ·rw [catM_lo h]
  unfold lv
  rw [List.getElem?_append_left h]
 ·obtain ⟨k,rfl⟩:∃k,j=L.length+k:=⟨j - L.length,by omega⟩
  rw [catM_hi]
  unfold lv
  rw [List.getElem?_append_right (by omega),Nat.add_sub_cancel_left]
theorem OwM.append0 {P:Program} {t ty e:TypeId} {c n bytes:Nat} {w:World} {v z:Value} {q:Nat→Nat→Value} (h:OwM e c w v n q) (hc:0<c) (h1:P.underlying t=some (.slice e)) (hinfo:(P.info? e).map (fun i=> (i.zero,i.size,i.bytes))=some (some z,c,bytes)) (hz:z.cells.size=c) (ad:Addr) (cp:Nat) (h63:n≤maxLen) (hb:n * bytes≤140737488355328):
  ∃v' w',(Builtin.append_ #[t,t] ty #[v,.slice (some ad) 0 cp]).run P w=.ok v' w'∧OwM e c w' v' n q∧w.grownBy w' v.ownBlock∧Placed w v v':=by
 obtain ⟨i0,hi,hz0,hz1,hz2⟩:=info_parts hinfo
 obtain ⟨xs,hown,hxs⟩:=h.owns hc
 obtain ⟨v',w',hr,r1,r2,_⟩:=run_append_own w 0 t ty e i0 z c bytes h1 hi hz0 hz1 hz2 hz hc v n xs hown ad 0 cp [] (by simp) (by simp) (by simp) h63 hb (Nat.zero_le _)
 have hp:=run_append_place w 0 t ty e i0 z c bytes h1 hi hz0 hz1 hz2 hz hc v n xs hown ad 0 cp [] (by simp) (by simp) (by simp) h63 hb v' w' hr
 rw [Nat.add_zero,List.append_nil] at r1
 exact ⟨v',w',hr,.of_owns r1 hxs,r2,hp⟩
theorem wp_append_ints {P:Program} {o:Oper} {a:Act} {w:World} {K:Act→World→Prop} {Q':Exit→Act→World→Prop} {e t:TypeId} {v u:Value} {bytes:Nat} {z:Value} (L M:List Int) (s x:Operand) (hop:o.op=.call { callee:=.builtin .append,args:=#[s,x],argTypes:=#[t,t] })
  (hs:a.eval s=v) (h:OwM e 1 w v L.length (lv (Value.int .i64) L)) (h1:P.underlying t=some (.slice e)) (hinfo:(P.info? e).map (fun i=> (i.zero,i.size,i.bytes))=some (some z,1,bytes)) (hz:z.cells.size=1)
  (hx:a.eval x=u) (hu:Mat w u M.length 1 (lv (Value.int .i64) M)) (hnil:∀n c,u=.slice none n c→n=0∧c=0)
  (h63:L.length+M.length≤maxLen) (hb:(L.length+M.length) * bytes≤140737488355328)
  (hK:∀v' w',OwM e 1 w' v' (L++M).length (lv (Value.int .i64) (L++M))→w.grownBy w' v.ownBlock→Placed w v v'→K (a.put o.dst v') w'):o.wp P a w K Q':=by
 obtain ⟨ad,cap,rfl,h2,h3,h4⟩:=hu
 cases ad with
 | none=>
  obtain ⟨hm,hc⟩:=hnil _ _ rfl
  rw [hm,hc] at hx
  have hM:M= [] :=List.eq_nil_of_length_eq_zero hm
  have hr:=OwM.append_nil (P:=P) (ty:=o.type) h (by decide) h1 hinfo
  unfold Oper.wp
  simp only [execOp,hop,resolve,invoke,builtin,Sem.run_bind,Sem.run_pure,Result.andThen_ok,List.map_toArray,List.map_cons,List.map_nil,hs,hx,hr]
  exact hK v w (by rw [hM,List.append_nil];exact h) (World.grownBy.refl _ _) (.inl rfl)
 | some ad=>
  have key:∀(b off:Nat),ad=⟨b,off,none⟩→o.wp P a w K Q':=by
   rintro b off rfl
   refine wp_append_m s x hop hs h (by decide) h1 hinfo hz b off cap M.length hx (lv (Value.int .i64) M) (fun j hj i hi=> ?_) h63 hb fun v' w' q1 q2 q3=> hK v' w' ?_ q2 q3
   ·obtain ⟨b',o',he,_,hcc⟩:=h4 (by omega)
    simp only [Option.some.injEq,Addr.mk.injEq,and_true] at he
    obtain ⟨rfl,rfl⟩:=he
    refine ⟨by rw [←Nat.add_assoc];exact hcc j hj i hi,lv_one (fun _=> rfl) hj⟩
   ·rw [List.length_append]
    exact q1.congr lv_cat
  by_cases hm:0<M.length
  ·obtain ⟨b',o',he,_⟩:=h4 hm
   exact key b' o' (Option.some.inj he)
  ·have hM:M= [] :=List.eq_nil_of_length_eq_zero (by omega)
   subst hM
   obtain ⟨v',w',hr,r1,r2,r3⟩:=OwM.append0 (P:=P) (ty:=o.type) h (by decide) h1 hinfo hz ad cap (by omega) (by rw [List.length_nil,Nat.add_zero] at hb;exact hb)
   rw [List.length_nil] at hx
   unfold Oper.wp
   simp only [execOp,hop,resolve,invoke,builtin,Sem.run_bind,Sem.run_pure,Result.andThen_ok,List.map_toArray,List.map_cons,List.map_nil,hs,hx,hr]
   exact hK v' w' (by rw [List.append_nil];exact r1) r2 r3
theorem wpList_append_ints {P:Program} {ops:Array Oper} {rest:List Oper} {o:Oper} {a:Act} {w:World} {Q':Exit→Act→World→Prop} {e t:TypeId} {v u:Value} {bytes:Nat} {z:Value} (L M:List Int) (hg:o.guard=none) (s x:Operand) (hop:o.op=.call { callee:=.builtin .append,args:=#[s,x],argTypes:=#[t,t] })
  (hs:a.eval s=v) (h:OwM e 1 w v L.length (lv (Value.int .i64) L)) (h1:P.underlying t=some (.slice e)) (hinfo:(P.info? e).map (fun i=> (i.zero,i.size,i.bytes))=some (some z,1,bytes)) (hz:z.cells.size=1)
  (hx:a.eval x=u) (hu:Mat w u M.length 1 (lv (Value.int .i64) M)) (hnil:∀n c,u=.slice none n c→n=0∧c=0)
  (h63:L.length+M.length≤maxLen) (hb:(L.length+M.length) * bytes≤140737488355328)
  (hK:∀v' w',OwM e 1 w' v' (L++M).length (lv (Value.int .i64) (L++M))→w.grownBy w' v.ownBlock→Placed w v v'→wpList P ops Q' rest (a.put o.dst v') w'):wpList P ops Q' (o::rest) a w:=
 wpList_plain hg fun _ hK'=> wp_append_ints L M s x hop hs h h1 hinfo hz hx hu hnil h63 hb fun v' w' q1 q2 q3=> hK' _ _ (hK v' w' q1 q2 q3)
end Go.Bas
namespace Go.Proofs.Ytlmdgmgbijfaoaa
open Go.RowKit Go.Bas Go.ChangeShapes Go.Maps
attribute [local go_sem ↓] Go.wp_at_zero Go.wp_at_succ
structure InL (w:World) (v:Value) (L:List Int):Prop where
 mat:Mat w v L.length 1 (lv kvI L)
 nil:∀n c,v=.slice none n c→n=0∧c=0
 ok:∀x,x ∈ L→okI x
theorem laterB {B:Nat} {w w1 w2:World} (hB:B=w.heap.size) (h:Below B w w1) (h2:Below w1.heap.size w1 w2):Below B w w2:=h.trans (h2.mono (hB▸h.size))
section
variable {w : World} {B2 : Nat} {va : Value} {SA : List Int} {x0 : Value} {p : Nat} {E : List (Int × Int)} {wr wr' : World}
end
end Go.Proofs.Ytlmdgmgbijfaoaa
namespace Go.Bas
open Go.RowKit Go.ChangeShapes Go.WideShapes Go.ChangeAt
section
variable {H : Type} {enc : TypeId × Value → H} {P : Program} {w : World} {base : Nat} {spare : Nat → Bool} {held : Bool}
theorem list_of_rd {v:Value} {n:Nat} {f:Nat→Int} (hr:Rd .i64 w v n f) (hb:∀i,i<n→(Lit.int .i64 (f i)).wf=true):
  ∃L:List Int,Mat w v L.length 1 (lv (Value.int .i64) L)∧(∀m c,v=.slice none m c→m=0∧c=0)∧∀x,x ∈ L→ -9223372036854775808≤x∧x≤9223372036854775807:=by
 refine ⟨(List.range n).map f,?_,?_,fun x hx=> ?_⟩
 ·obtain ⟨a,c,rfl,h1,h2,_,h4⟩:=hr
  rw [List.length_map,List.length_range]
  refine ⟨a,c,rfl,h1,h2,fun hn=> ?_⟩
  obtain ⟨b,o,rfl,hlt,hcc⟩:=h4 hn
  refine ⟨b,o,rfl,hlt,fun j hj i hi=> ?_⟩
  obtain rfl:i=0:=by omega
  rw [show o+j * 1+0=o+j by omega,lv_at (x:=f j) (by rw [List.getElem?_map,List.getElem?_range hj];rfl)]
  exact hcc j hj
 ·intro m c hv
  obtain ⟨a,c',rfl,h1,h2,h3,h4⟩:=hr
  cases hv
  have:=h3 rfl
  omega
 ·obtain ⟨j,hj,rfl⟩:=List.mem_map.1 hx
  exact i64_of_wf (hb j (List.mem_range.1 hj))
end
end Go.Bas
