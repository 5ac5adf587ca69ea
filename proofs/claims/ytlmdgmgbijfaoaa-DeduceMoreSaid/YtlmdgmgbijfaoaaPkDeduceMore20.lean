/-
  Part 20 of the texts that the proof of DeduceMore rests on, one after the other. Conditions: named in each theorem.
-/
import Derived.Test.YtlmdgmgbijfaoaaPkDeduceMore19
import Derived.Test.YtlmdgmgbijfaoaaPkDeduceMore18
import Derived.Test.YtlmdgmgbijfaoaaPkDeduceMore1
import Derived.Test.YtlmdgmgbijfaoaaPkDeduceMore13
import Derived.Test.YtlmdgmgbijfaoaaPkDeduceMore2
import Derived.Test.YtlmdgmgbijfaoaaPkDeduceMore11
import Derived.Test.YtlmdgmgbijfaoaaPkDeduceMore5
import Derived.Test.YtlmdgmgbijfaoaaPkDeduceMore3
import Derived.Test.YtlmdgmgbijfaoaaPkDeduceMore4
import Derived.Test.YtlmdgmgbijfaoaaPkDeduceMore6
import Derived.Test.YtlmdgmgbijfaoaaPkDeduceMore7
import Derived.Test.YtlmdgmgbijfaoaaPkDeduceMore10
import Derived.Test.YtlmdgmgbijfaoaaPkDeduceMore9
import Derived.Test.YtlmdgmgbijfaoaaPkDeduceMore8
import Derived.Test.YtlmdgmgbijfaoaaPkDeduceMore12
import Derived.Test.YtlmdgmgbijfaoaaPkDeduceMore15
import Derived.Test.YtlmdgmgbijfaoaaPkDeduceMore14
import Derived.Test.YtlmdgmgbijfaoaaPkDeduceMore16
import Derived.Test.YtlmdgmgbijfaoaaPkDeduceMore17
import Derived.BigFrame
import Derived.BigQuiet
import Derived.ChangeKeysEq
import Derived.ChangeMaps5
import Derived.ChangeOld
import Derived.Deep.Cut
import Derived.Deep.DrawnRows
import Derived.Deep.LoopGhost
import Derived.Deep.MidRow
import Derived.Deep.QuietTactic
import Derived.Deep.RegionHeld3
import Derived.Deep.RegionLaw
import Derived.Deep.Slices
import Derived.Deep.Strs
import Derived.Deep.Upon
import Derived.Deep.WholeRow
import Derived.DeepKeys4
import Derived.Great.BuildSlice
import Derived.Great.Walk
import Derived.Laws.BitsAllLaws
import Derived.Laws.BytesArg
import Derived.Laws.CopyOwn
import Derived.Laws.IdiomCopy
import Derived.Laws.Strings
import Derived.Laws.StructEq
import Derived.Lib.BufferRead
import Derived.Lib.Hide
import Derived.MapViews
import Derived.Maps.AppendAt
import Derived.Maps.OwnSet
import Derived.Maps.Range
import Derived.Maps.Views
import Derived.OpenShut
import Derived.Orders
import Derived.OrdersIn
import Derived.OwnWalkIn
import Derived.ProofKit
import Derived.RangeFuncCalls
import Derived.ShutString
import Derived.StillTactics
import Derived.Test.YtlmdgmgbijfaoaaArr
import Derived.Test.YtlmdgmgbijfaoaaFlow
import Derived.Test.YtlmdgmgbijfaoaaKit
import Derived.Test.YtlmdgmgbijfaoaaOpen
import Derived.Test.YtlmdgmgbijfaoaaOpenT
import Derived.Test.YtlmdgmgbijfaoaaRows
import Derived.Test.YtlmdgmgbijfaoaaTxt
import Derived.WalkKit
import Derived.WalkLawsBesides
import Derived.WalkMore
import Derived.WalkSmall
import Derived.WalkSpells
set_option linter.unusedVariables false
set_option linter.unusedSimpArgs false
set_option maxRecDepth 100000
set_option maxHeartbeats 1600000
namespace Go.Bas
open Go.RowKit
def okG (n:Nat) (G:List Int):Prop:=∀x,x ∈ G→0≤x∧x<(n:Int)
instance (n:Nat) (G:List Int):Decidable (okG n G):=by unfold okG;infer_instance
def addG (h:Nat→Bool) (G:List Int) (k:Nat):Nat→Bool:=fun n=> h n || givenB (G.take k) n
theorem addG_zero (h:Nat→Bool) (G:List Int):addG h G 0=h:=by funext n;simp [addG,givenB]
theorem addG_succ {h:Nat→Bool} {G:List Int} {k j:Nat} (hx:G[k]? =some (j:Int)):∀n,updB (addG h G k) j n=addG h G (k+1) n:=fun n=> by
 unfold updB addG givenB
 rw [List.take_add_one,hx]
 by_cases e:n=j
 ·subst e
  simp
 ·have:¬ (n:Int)=(j:Int):=by omega
  simp [e,this]
end Go.Bas
namespace Go.Proofs.Ytlmdgmgbijfaoaa
open Go.RowKit Go.Bas Go.ChangeShapes Go.Maps
attribute [local go_sem ↓] Go.wp_at_zero Go.wp_at_succ
theorem mat_at {w:World} {v:Value} {m:Nat} {G:List Int} (h:Mat w v m 1 (lv kvI G)) {j:Nat} (hj:j<m) {x:Int} (hx:G[j]? =some x):∃b o cap,v=.slice (some ⟨b,o,none⟩) m cap∧b<w.heap.size∧w.cell? ⟨b,o+j,none⟩=some (.int .i64 x):=by
 obtain ⟨a,cap,rfl,_,_,h3⟩:=h
 obtain ⟨b,o,rfl,hl,hc⟩:=h3 (by omega)
 have:=hc j hj 0 (by decide)
 rw [Nat.mul_one,Nat.add_zero,lv_at hx] at this
 exact ⟨b,o,cap,rfl,hl,this⟩
section
variable {w w' : World} {p : Nat} {vl vh vm : Value} {S : TS} {h m : Nat → Bool}
theorem kMore_nil (w:World) (v:Value):Calls Try.prog 75 #[.pointer none,v] w fun e w'=> e=.returned (.int .i64 1)∧w'=w:=by
 go_enter Try.func75,Try.ntmps75
 go_upto_region 1 with (fail)
 refine wp_scope_straight ?_
 go_wp2
 rw [Exit.noGoto_ret]
 go_ret
 exact ⟨rfl,rfl⟩
theorem kMore_bad (k:Knm w p vl vh vm S.l h m) (hlen:S.l.length≤1000) (G:List Int) (v:Value) (hv:Mat w v G.length 1 (lv kvI G)) (hG:G.length≤1000) (hbad:¬ okG S.l.length G):
  Calls Try.prog 75 #[.pointer (some ⟨p,0,none⟩),v] w fun e w'=> e=.returned (.int .i64 2)∧w'=w:=by
 have K:=Lib.hid k
 have HV:=Lib.hid hv
 have HG:=Lib.hid hG
 have HBAD:=Lib.hid hbad
 obtain ⟨av,cv,rfl,_⟩:=hv
 have c3:=k.c3
 clear k hG hbad hlen
 go_enter Try.func75,Try.ntmps75
 go_upto_region 1 with (fail)
 refine wp_scope_straight ?_
 go_wp2
 go_loop [20] (fun i=> ∃k:Nat,k≤G.length∧i=.int .i64 k∧∀j x,j<k→G[j]? =some x→0≤x∧x<(S.l.length:Int)) (fun i=> G.length - (intOf i).toNat)
 case atStart=> exact ⟨0,Nat.zero_le _,rfl,fun j x hj=> absurd hj (Nat.not_lt_zero _)⟩
 case round=>
  obtain ⟨k,hk,rfl,hno⟩:=hrel
  have HNO:=Lib.hid hno
  clear hno
  by_cases hlt:k<G.length
  ·obtain ⟨x,hx⟩:∃x,G[k]? =some x:=⟨_,List.getElem?_eq_getElem hlt⟩
   obtain ⟨b,o,cap,e,_,z0⟩:=mat_at HV.out hlt hx
   cases e
   have HX:=Lib.hid hx
   have hk9:(k:Int)<(G.length:Int):=by omega
   have hk8:(k:Int)<1000000:=by have:=HG.out;omega
   have HLT:=Lib.hid hlt
   clear hx hlt
   go_wp2_with fail
   refine (kAt_any K.out x).mono ?_
   by_cases hin:0≤x∧x<(S.l.length:Int)
   ·rw [decide_eq_true hin.1,decide_eq_true hin.2]
    have HIN:=Lib.hid hin
    clear hin
    rintro e w' ⟨rfl,rfl⟩
    go_wp2
    go_round
    case rel=> exact ⟨k+1,by have:=HLT.out;omega,by go_num,fun j y hj hy=> by
     by_cases e:j=k
     ·subst e
      rw [HX.out] at hy
      cases hy
      exact HIN.out
     ·exact HNO.out j y (by omega) hy⟩
    case measure=> have:=HLT.out;simp [intOf];omega
   ·have hf:(decide (0≤x) && decide (x<(S.l.length:Int)))=false:=by
     rw [Bool.and_eq_false_iff,decide_eq_false_iff_not,decide_eq_false_iff_not]
     by_cases h1:0≤x
     ·exact .inr fun h2=> hin ⟨h1,h2⟩
     ·exact .inl h1
    rw [hf]
    clear hin hf
    rintro e w' ⟨rfl,rfl⟩
    go_wp2
    rw [Exit.noGoto_ret]
    go_ret
    exact ⟨rfl,rfl⟩
  ·exfalso
   obtain rfl:k=G.length:=by omega
   refine HBAD.out fun x hx=> ?_
   obtain ⟨j,hj,rfl⟩:=List.mem_iff_getElem.1 hx
   exact HNO.out j _ hj (List.getElem?_eq_getElem hj)
theorem kMore_ok (k:Knm w p vl vh vm S.l h m) (hok:S.Ok) (hlen:S.l.length≤1000) (G:List Int) (v:Value) (hv:Mat w v G.length 1 (lv kvI G)) (hvb:0<G.length→∀b,v.ownBlock=some b→¬ KW vh vm b) (hG:G.length≤1000) (hgood:okG S.l.length G):
  Calls Try.prog 75 #[.pointer (some ⟨p,0,none⟩),v] w fun e w'=> e=.returned (.int .i64 0)∧∃h',Knm w' p vl vh vm S.l h' (md S.l h')∧IsCl S.l (fun n=> h n || givenB G n) h'∧Chg (KW vh vm) w w':=by
 have K:=Lib.hid k
 have HV:=Lib.hid hv
 have HVB:=Lib.hid hvb
 have HG:=Lib.hid hG
 have HOK:=Lib.hid hok
 have HL:=Lib.hid hlen
 have HGOOD:=Lib.hid hgood
 obtain ⟨av,cv,rfl,_⟩:=hv
 have c3:=k.c3
 have HX:Hid (Knm w p vl vh vm S.l (addG h G 0) m):=Lib.hid (by rw [addG_zero];exact k)
 obtain ⟨gg,hgg⟩:∃g,g=fun n=> h n || givenB G n:=⟨_,rfl⟩
 rw [←hgg]
 have HGG:=Lib.hid hgg
 clear k hG hgood hlen hok hvb hgg
 go_enter Try.func75,Try.ntmps75
 go_upto_region 1 with (fail)
 refine wp_scope_straight ?_
 go_wp2
 go_loop [20] (fun i=> ∃k:Nat,k≤G.length∧i=.int .i64 k) (fun i=> G.length - (intOf i).toNat)
 case atStart=> exact ⟨0,Nat.zero_le _,rfl⟩
 case round=>
  obtain ⟨k,hk,rfl⟩:=hrel
  by_cases hlt:k<G.length
  ·obtain ⟨x,hx⟩:∃x,G[k]? =some x:=⟨_,List.getElem?_eq_getElem hlt⟩
   obtain ⟨b,o,cap,e,_,z0⟩:=mat_at HV.out hlt hx
   cases e
   obtain ⟨h1,h2⟩:=HGOOD.out x (List.mem_of_getElem? hx)
   have HD:Hid ((decide (0≤x) && decide (x<(S.l.length:Int)))=true):=Lib.hid (by rw [decide_eq_true h1,decide_eq_true h2];rfl)
   have hk9:(k:Int)<(G.length:Int):=by omega
   have hk8:(k:Int)<1000000:=by have:=HG.out;omega
   have HLT:=Lib.hid hlt
   clear hx hlt h1 h2
   go_wp2_with fail
   refine (kAt_any K.out x).mono ?_
   rw [HD.out]
   rintro e w' ⟨rfl,rfl⟩
   go_wp2
   go_round
   case rel=> exact ⟨k+1,by have:=HLT.out;omega,by go_num⟩
   case measure=> have:=HLT.out;simp [intOf];omega
  ·obtain rfl:k=G.length:=by omega
   clear hlt
   go_wp2
   go_loopw [31] (fun i wr=> ∃k:Nat,k≤G.length∧i=.int .i64 k∧Knm wr p vl vh vm S.l (addG h G k) m∧Chg (KW vh vm) w wr) (fun i _=> G.length - (intOf i).toNat)
   case atStart=> exact ⟨0,Nat.zero_le _,rfl,HX.out,Chg.refl _ _⟩
   case round=>
    obtain ⟨k,hk,rfl,hkk,hc⟩:=hrel
    have HK:=Lib.hid hkk
    have HC:=Lib.hid hc
    clear hkk hc
    by_cases hlt:k<G.length
    ·obtain ⟨x,hx⟩:∃x,G[k]? =some x:=⟨_,List.getElem?_eq_getElem hlt⟩
     obtain ⟨b,o,cap,e,_,z0⟩:=mat_at (HV.out.chg HC.out HVB.out) hlt hx
     cases e
     obtain ⟨h1,h2⟩:=HGOOD.out x (List.mem_of_getElem? hx)
     obtain ⟨j,rfl⟩:=Int.eq_ofNat_of_zero_le h1
     have hjl:j<S.l.length:=by omega
     obtain ⟨g',c',e',hk2,hc2⟩:=HK.out.setH hjl
     obtain ⟨gq,cq,eq,_,_,_,zq,fq⟩:=HK.out.hs.one1 hjl
     obtain ⟨rfl,rfl⟩:g'=gq∧c'=cq:=by
      have:=e'.symm.trans eq
      cases this
      exact ⟨rfl,rfl⟩
     have c1:=HK.out.c1
     rw [eq] at c1
     simp only [bv] at zq
     have K2:Hid (Knm (wr.setCell ⟨g',j,none⟩ (.bool true)) p vl vh vm S.l (addG h G (k+1)) m):=Lib.hid (hk2.congr (fun n _=> addG_succ hx n) fun _ _=> rfl)
     have CC:=Lib.hid (HC.out.trans hc2 fun _ _ h=> h)
     have hk9:(k:Int)<(G.length:Int):=by omega
     have hk8:(k:Int)<1000000:=by have:=HG.out;omega
     have hj8:(j:Int)<1000000:=by have:=HL.out;omega
     have HLT:=Lib.hid hlt
     clear hx hlt h1 e' eq hk2 hc2
     go_wp2
     go_roundw
     case rel=> exact ⟨k+1,by have:=HLT.out;omega,by go_num,K2.out,CC.out⟩
     case measure=> have:=HLT.out;simp [intOf];omega
    ·obtain rfl:k=G.length:=by omega
     have K3:Hid (Knm wr p vl vh vm S.l gg m):=Lib.hid (HK.out.congr (fun n _=> by rw [HGG.out];unfold addG;rw [List.take_length]) fun _ _=> rfl)
     have C3:=HC
     clear hlt HK
     go_wp2
     refine wp_label ?_
     go_wp2
     go_loopg [42] (lft S.l gg) (fun g _ wr=> ∃h1 m1,g=lft S.l h1∧Knm wr p vl vh vm S.l h1 m1∧(∀n,n<S.l.length→gg n=true→h1 n=true)∧SoundK S.l gg h1∧Chg (KW vh vm) w wr)
     case atStart=> exact ⟨gg,m,rfl,K3.out,fun _ _ h=> h,SoundK.refl _ _,C3.out⟩
     case round=>
      obtain ⟨h1,m1,rfl,hk1,hup,hso,hc1⟩:=hrel
      have HK1:=Lib.hid hk1
      have HUP:=Lib.hid hup
      have HSO:=Lib.hid hso
      have HC1:=Lib.hid hc1
      clear hk1 hup hso hc1
      go_wp2_with fail
      refine (kround_any HK1.out HOK.out HL.out).mono ?_
      rintro e w2 ⟨rfl,hk2,hc2⟩
      obtain ⟨h2,hh2⟩:∃x,x=(rS S.l (md S.l h1) h1 S.l.length).1:=⟨_,rfl⟩
      rw [←hh2] at hk2
      have HK2:=Lib.hid hk2
      have HC2:=Lib.hid (HC1.out.trans hc2 fun _ _ h=> h)
      have HH2:=Lib.hid hh2
      clear hk2 hc2 hh2
      cases hf:(rS S.l (md S.l h1) h1 S.l.length).2 with
      | true=>
       have HLF:=Lib.hid (rS_found HOK.out _ (Nat.le_refl _) hf)
       rw [←HH2.out] at HLF
       have HUP2:Hid (∀n,n<S.l.length→gg n=true→h2 n=true):=Lib.hid fun n hn hg=> by rw [HH2.out];exact rS_up (HUP.out n hn hg) _
       have HSO2:Hid (SoundK S.l gg h2):=Lib.hid (by rw [HH2.out];exact rS_sound HOK.out HSO.out _ (Nat.le_refl _))
       clear hf
       go_wp2
       go_roundg (lft S.l h2)
       case rel=> exact ⟨h2,_,rfl,HK2.out,HUP2.out,HSO2.out,HC2.out⟩
       case measure=> exact HLF.out
      | false=>
       have HE:Hid (h2=h1):=Lib.hid (by rw [HH2.out];exact (rS_none _ hf).1)
       have HCL:=Lib.hid (rS_cl HOK.out HUP.out HSO.out hf)
       rw [HE.out] at HK2
       clear hf
       go_wp2
       rw [Exit.noGoto_ret]
       go_ret
       exact ⟨rfl,h1,HK2.out,HCL.out,HC2.out⟩
end
end Go.Proofs.Ytlmdgmgbijfaoaa
