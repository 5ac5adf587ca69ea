/-
  Part 19 of the texts that the proof of DeduceMore rests on, one after the other. Conditions: named in each theorem.
-/
import Derived.Test.YtlmdgmgbijfaoaaPkDeduceMore18
import Derived.Test.YtlmdgmgbijfaoaaPkDeduceMore1
import Derived.Test.YtlmdgmgbijfaoaaPkDeduceMore13
import Derived.Test.YtlmdgmgbijfaoaaPkDeduceMore2
import Derived.Test.YtlmdgmgbijfaoaaPkDeduceMore11
import Derived.Test.YtlmdgmgbijfaoaaPkDeduceMore5
import Derived.Test.YtlmdgmgbijfaoaaPkDeduceMore3
import Derived.Test.YtlmdgmgbijfaoaaPkDeduceMore4
import Derived.Test.YtlmdgmgbijfaoaaPkDeduceMore6
import Derived.Test.YtlmdgmgbijfaoaaPkDeduceMore7
import Derived.Test.YtlmdgmgbijfaoaaPkDeduceMore10
import Derived.Test.YtlmdgmgbijfaoaaPkDeduceMore9
import Derived.Test.YtlmdgmgbijfaoaaPkDeduceMore8
import Derived.Test.YtlmdgmgbijfaoaaPkDeduceMore12
import Derived.Test.YtlmdgmgbijfaoaaPkDeduceMore15
import Derived.Test.YtlmdgmgbijfaoaaPkDeduceMore14
import Derived.Test.YtlmdgmgbijfaoaaPkDeduceMore16
import Derived.BigFrame
import Derived.BigQuiet
import Derived.ChangeKeysEq
import Derived.ChangeMaps5
import Derived.ChangeOld
import Derived.Deep.Cut
import Derived.Deep.DrawnRows
import Derived.Deep.MidRow
import Derived.Deep.QuietTactic
import Derived.Deep.RegionHeld3
import Derived.Deep.RegionLaw
import Derived.Deep.Slices
import Derived.Deep.Strs
import Derived.Deep.Upon
import Derived.Deep.WholeRow
import Derived.DeepKeys4
import Derived.Great.BuildSlice
import Derived.Great.Walk
import Derived.Laws.BitsAllLaws
import Derived.Laws.BytesArg
import Derived.Laws.CopyOwn
import Derived.Laws.IdiomCopy
import Derived.Laws.Strings
import Derived.Laws.StructEq
import Derived.Lib.BufferRead
import Derived.Lib.Hide
import Derived.MapViews
import Derived.Maps.AppendAt
import Derived.Maps.OwnSet
import Derived.Maps.Range
import Derived.Maps.Views
import Derived.OpenShut
import Derived.Orders
import Derived.OrdersIn
import Derived.OwnWalkIn
import Derived.ProofKit
import Derived.RangeFuncCalls
import Derived.ShutString
import Derived.StillTactics
import Derived.Test.YtlmdgmgbijfaoaaArr
import Derived.Test.YtlmdgmgbijfaoaaFlow
import Derived.Test.YtlmdgmgbijfaoaaKit
import Derived.Test.YtlmdgmgbijfaoaaOpen
import Derived.Test.YtlmdgmgbijfaoaaOpenT
import Derived.Test.YtlmdgmgbijfaoaaRows
import Derived.Test.YtlmdgmgbijfaoaaTxt
import Derived.WalkKit
import Derived.WalkLawsBesides
import Derived.WalkSmall
import Derived.WalkSpells
set_option linter.unusedVariables false
set_option linter.unusedSimpArgs false
set_option maxRecDepth 100000
set_option maxHeartbeats 1600000
namespace Go.Bas
open Go.RowKit
section
variable {P : Program} {o : Oper} {a : Act} {w : World} {K : Act → World → Prop} {R : Exit → Act → World → Prop}
theorem wp_store_at (T:TypeId) (x y:Operand) (ho:o.op=.store T x y) (hd:o.dst=none) (b i:Nat) (v v0:Value) (hv:v.cells=#[v]) (h1:v.oneCell'=true)
  (hi:(P.info? T).map (·.size)=some 1) (hx:a.eval x=.pointer (some ⟨b,i,none⟩)) (hy:a.eval y=v) (hc:w.cell? ⟨b,i,none⟩=some v0) (hf:w.frozen? ⟨b,i,none⟩=false) (hK:K a (w.setCell ⟨b,i,none⟩ v)):o.wp P a w K R:=by
 have hr:=run_storeCells_cells (P:=P) b i [v] 0 w
  (by
   intro j hj
   have hj0:j=0:=by simp at hj;omega
   subst hj0
   show (w.cell? ⟨b,i,none⟩).isSome=true
   rw [hc];rfl)
  (by
   intro j hj
   have hj0:j=0:=by simp at hj;omega
   subst hj0
   exact hf)
  (by
   intro u hu
   simp at hu;subst hu;exact h1)
 obtain ⟨q,hq,hs⟩:=Option.map_eq_some_iff.1 hi
 unfold Oper.wp execOp
 simp only [Nat.add_zero] at hr
 have hs2:(storeVar T ⟨b,i,none⟩ v).run P w=.ok () (w.setCell ⟨b,i,none⟩ v):=by
  simp [storeVar,sizeOf,typeInfo,hq,hs,hv,hr,World.setCells]
 simp only [ho,hx,hy,Instr.storeAt,Instr.sureAddr,Sem.run_bind,Sem.run_pure,Result.andThen_ok,hs2]
 show K (a.put o.dst undef) _
 rw [hd]
 exact hK
end
theorem OwM.setB {e:TypeId} {w:World} {g n cap j:Nat} {h:Nat→Bool} (k:OwM e 1 w (.slice (some ⟨g,0,none⟩) n cap) n (bv h)) (hj:j<n) (b:Bool):
  OwM e 1 (w.setCell ⟨g,j,none⟩ (.bool b)) (.slice (some ⟨g,0,none⟩) n cap) n (bv fun i=> if i=j then b else h i):=by
 have:=k.set j 0 hj (by decide) (.bool b)
 rw [Nat.mul_one,Nat.add_zero] at this
 refine this.congr fun i hi c hc=> ?_
 obtain rfl:c=0:=by omega
 dsimp only [bv]
 by_cases e:i=j
 ·rw [if_pos ⟨e,rfl⟩,if_pos e]
 ·rw [if_neg (fun h=> e h.1),if_neg e]
end Go.Bas
namespace Go.Proofs.Ytlmdgmgbijfaoaa
open Go.RowKit Go.Bas Go.ChangeShapes Go.Maps
attribute [local go_sem ↓] Go.wp_at_zero Go.wp_at_succ
theorem opnA_snd (l:List Tm) (m:Nat→Bool) (n:Nat):(opnA l m n).2=opnB l m n:=by
 unfold opnA
 by_cases h:(tmD l n).1=4∨(tmD l n).1=5∨(tmD l n).1=8
 ·rw [if_pos h]
 ·rw [if_neg h]
  cases hb:opnB l m n with
  | false=> rfl
  | true=> exact absurd (opn_kind hb) h
theorem opnA_fst {l:List Tm} {m:Nat→Bool} {n:Nat} (h:opnB l m n=true):(opnA l m n).1=(inn l n:Int):=by
 unfold opnA
 rw [if_pos (opn_kind h)]
section
variable {w w' : World} {p : Nat} {vl vh vm : Value} {S : TS} {h m : Nat → Bool}
theorem Knm.setM (k:Knm w p vl vh vm S.l h m) {n:Nat} (hn:n<S.l.length) (b:Bool):∃g cap,vm=.slice (some ⟨g,0,none⟩) S.l.length cap∧Knm (w.setCell ⟨g,n,none⟩ (.bool b)) p vl vh vm S.l h (fun i=> if i=n then b else m i)∧Chg (KW vh vm) w (w.setCell ⟨g,n,none⟩ (.bool b)):=by
 obtain ⟨g,cap,e,_⟩:=k.ms.one1 hn
 have hc:Chg (fun b=> vm.ownBlock=some b) w (w.setCell ⟨g,n,none⟩ (.bool b)):=.set _ _ ⟨g,n,none⟩ _ (by rw [e];rfl)
 have hW:∀b,vm.ownBlock=some b→KW vh vm b:=fun b h=> .inr h
 have hp:¬ vm.ownBlock=some p:=fun h=> k.nP (hW _ h)
 have hl:=k.row.lt
 refine ⟨g,cap,e,⟨k.row.heap (hc.block p hl hp),(hc.cell (p:=⟨p,0,none⟩) hl hp).trans k.c0,(hc.cell (p:=⟨p,1,none⟩) hl hp).trans k.c1,(hc.cell (p:=⟨p,2,none⟩) hl hp).trans k.c2,(hc.cell (p:=⟨p,3,none⟩) hl hp).trans k.c3,k.ls.chg hc fun b hb h=> k.nL b hb (hW b h),k.hs.chg hc fun b hb h=> k.ne b hb h,?_,k.ne⟩,hc.mono fun b _ h=> hW b h⟩
 have:=k.ms
 rw [e] at this ⊢
 exact this.setB hn b
theorem Knm.setH (k:Knm w p vl vh vm S.l h m) {n:Nat} (hn:n<S.l.length):∃g cap,vh=.slice (some ⟨g,0,none⟩) S.l.length cap∧Knm (w.setCell ⟨g,n,none⟩ (.bool true)) p vl vh vm S.l (updB h n) m∧Chg (KW vh vm) w (w.setCell ⟨g,n,none⟩ (.bool true)):=by
 obtain ⟨g,cap,e,_⟩:=k.hs.one1 hn
 have hc:Chg (fun b=> vh.ownBlock=some b) w (w.setCell ⟨g,n,none⟩ (.bool true)):=.set _ _ ⟨g,n,none⟩ _ (by rw [e];rfl)
 have hW:∀b,vh.ownBlock=some b→KW vh vm b:=fun b h=> .inl h
 have hp:¬ vh.ownBlock=some p:=fun h=> k.nP (hW _ h)
 have hl:=k.row.lt
 refine ⟨g,cap,e,⟨k.row.heap (hc.block p hl hp),(hc.cell (p:=⟨p,0,none⟩) hl hp).trans k.c0,(hc.cell (p:=⟨p,1,none⟩) hl hp).trans k.c1,(hc.cell (p:=⟨p,2,none⟩) hl hp).trans k.c2,(hc.cell (p:=⟨p,3,none⟩) hl hp).trans k.c3,k.ls.chg hc fun b hb h=> k.nL b hb (hW b h),?_,k.ms.chg hc fun b hb h=> k.ne b h hb,k.ne⟩,hc.mono fun b _ h=> hW b h⟩
 have:=k.hs
 rw [e] at this ⊢
 exact this.setB hn true
theorem Knm.congr {h' m':Nat→Bool} (k:Knm w p vl vh vm S.l h m) (e1:∀n,n<S.l.length→h n=h' n) (e2:∀n,n<S.l.length→m n=m' n):Knm w p vl vh vm S.l h' m':=
 ⟨k.row,k.c0,k.c1,k.c2,k.c3,k.ls,k.hs.congr fun j hj i hi=> congrArg Value.bool (e1 j hj),k.ms.congr fun j hj i hi=> congrArg Value.bool (e2 j hj),k.ne⟩
def mdU (l:List Tm) (h m:Nat→Bool) (n:Nat):Nat→Bool:=fun j=> if j<n then md l h j else m j
theorem kround_any (k:Knm w p vl vh vm S.l h m) (hok:S.Ok) (hlen:S.l.length≤1000):Calls Try.prog 114 #[.pointer (some ⟨p,0,none⟩)] w fun e w'=> e=.returned (.bool (rS S.l (md S.l h) h S.l.length).2)∧Knm w' p vl vh vm S.l (rS S.l (md S.l h) h S.l.length).1 (md S.l h)∧Chg (KW vh vm) w w':=by
 have K:=Lib.hid k
 have HOK:=Lib.hid hok
 have HL:=Lib.hid hlen
 obtain ⟨al,cl,el,_⟩:=k.ls.slice
 have c0:=k.c0
 rw [el] at c0
 have EL:=Lib.hid el
 have HX:Hid (Knm w p vl vh vm S.l h (mdU S.l h m 0)):=Lib.hid (k.congr (fun _ _=> rfl) fun n _=> by unfold mdU;rw [if_neg (Nat.not_lt_zero _)])
 obtain ⟨M,hM⟩:∃M,M=md S.l h:=⟨_,rfl⟩
 rw [←hM]
 have HMM:=Lib.hid hM
 clear k hok hlen el hM
 go_enter Try.func114,Try.ntmps114
 go_wp2
 go_loopw [13] (fun i wr=> ∃n:Nat,n≤S.l.length∧i=.int .i64 n∧Knm wr p vl vh vm S.l h (mdU S.l h m n)∧Chg (KW vh vm) w wr) (fun i _=> S.l.length - (intOf i).toNat)
 case atStart=> exact ⟨0,Nat.zero_le _,rfl,HX.out,Chg.refl _ _⟩
 case round=>
  obtain ⟨n,hn,rfl,hk,hc⟩:=hrel
  have HK:=Lib.hid hk
  have HC:=Lib.hid hc
  clear hk hc
  by_cases hlt:n<S.l.length
  ·obtain ⟨gm,cm,em,hgm,_,_,zm,fm⟩:=HK.out.ms.one1 hlt
   have C2:Hid (wr.cell? ⟨p,2,none⟩=some (.slice (some ⟨gm,0,none⟩) S.l.length cm)):=Lib.hid (by rw [←em];exact HK.out.c2)
   have EM:=Lib.hid em
   have HGM:=Lib.hid hgm
   have HZM:=Lib.hid (show ∃v,wr.cell? ⟨gm,0+n,none⟩=some v from ⟨_,by rw [Nat.zero_add];exact zm⟩)
   have HFM:=Lib.hid fm
   have hn9:(n:Int)<(S.l.length:Int):=by omega
   have hn8:(n:Int)<1000000:=by have:=HL.out;omega
   have HLT:=Lib.hid hlt
   have HPL:=Lib.hid HK.out.row.lt
   obtain ⟨cb,hcb⟩:∃b,b=canB S.l h (mdU S.l h m n) n:=⟨_,rfl⟩
   have HCB:Hid (∀{w2:World},Below wr.heap.size wr w2→Calls Try.prog 119 #[.pointer (some ⟨p,0,none⟩),.int .i64 (n:Int)] w2 fun e w'=> e=.returned (.bool cb)∧Below w2.heap.size w2 w'):=Lib.hid fun hB=> by
    rw [hcb]
    exact kcan_any (HK.out.below hB) HOK.out HL.out n HLT.out
   have HMD:Hid (cb=md S.l h n):=Lib.hid (by
    rw [hcb,md_at HOK.out HLT.out]
    exact canB_congr HOK.out HLT.out fun a ha=> by unfold mdU;rw [if_pos ha])
   clear em hgm zm fm hcb hlt
   go_upto_region 5 with (fail)
   refine region_last' (n:=67) 9 rfl (by decide) (by kernel_rfl) (by kernel_rfl) (by kernel_rfl) (by kernel_rfl) rfl
    (fun ii vv _=> (match ii with | 0 | 1 | 5=> vv=.pointer (some ⟨p,0,none⟩) | 2=> vv=.pointer (some ⟨p,2,none⟩) | 3=> vv=.slice (some ⟨gm,0,none⟩) S.l.length cm | 4 | 6=> vv=.int .i64 ((n:Int)) | 7=> vv=.bool cb | 8=> vv=.pointer (some ⟨gm,0+n,none⟩) | _=> True))
    (fun w w'=> Below w.heap.size w w') (fun _ _ h=> h) (fun _ _ _ _ h _=> h) rfl ?_ ?_
   ·refine Each.all ?_
    refine ⟨?_,?_,?_,?_,?_,?_,?_,?_,?_,(fun h=> absurd rfl h),trivial⟩
    ·intro _ a w2 hB hF hd
     rw [if_pos (wanted_none rfl)]
     exact flow_move _ (.inl rfl) (by simp) (hF.same 0 rfl)
    ·intro _ a w2 hB hF hd
     rw [if_pos (wanted_none rfl)]
     exact flow_val (fun h=> by cases h) (run_nilCheck rfl (hd 0 _ rfl (waits_spec rfl))) rfl
    ·intro _ a w2 hB hF hd
     rw [if_pos (wanted_none rfl)]
     refine flow_val (fun h=> by cases h) (run_field_at (m:=0) (k:=2) rfl (hd 1 _ rfl (waits_spec rfl)) (by kernel_rfl)) ?_
     exact rfl
    ·intro _ a w2 hB hF hd
     rw [if_pos (wanted_none rfl)]
     exact flow_val (fun h=> by cases h) (run_load_slice rfl (hd 2 _ rfl (waits_spec rfl)) Try.underlying120 ((hB.cell (p:=⟨p,2,none⟩) HPL.out).trans C2.out)) rfl
    ·intro _ a w2 hB hF hd
     rw [if_pos (wanted_none rfl)]
     exact flow_move _ (.inl rfl) (by simp) (hF.same 4 rfl)
    ·intro _ a w2 hB hF hd
     rw [if_pos (wanted_none rfl)]
     exact flow_move _ (.inl rfl) (by simp) (hF.same 0 rfl)
    ·intro _ a w2 hB hF hd
     rw [if_pos (wanted_none rfl)]
     exact flow_move _ (.inl rfl) (by simp) (hF.same 4 rfl)
    ·intro _ a w2 hB hF hd
     rw [if_pos (wanted_none rfl)]
     refine flow_call _ _ _ rfl Try.call119 _ (args2 (hd 5 _ rfl (waits_spec rfl)) (hd 6 _ rfl (waits_spec rfl))) (by simp) ((HCB.out hB).mono ?_)
     rintro e w3 ⟨rfl,hb⟩;exact ⟨_,rfl,rfl,hb⟩
    ·intro _ a w2 hB hF hd
     rw [if_pos (wanted_none rfl)]
     exact flow_val (fun h=> by cases h) (run_index_slice rfl (hd 3 _ rfl (waits_spec rfl)) (hd 4 _ rfl (waits_spec rfl)) Try.underlying120 (by kernel_rfl) (by omega) (by have:=HLT.out;omega)) rfl
   ·intro a wf hB hF hS
    have ha:=puts_each rfl rfl hF [_,_,_,_,_,_,_,_,_,undef] rfl ⟨hS 0 _ rfl (by decide),hS 1 _ rfl (by decide),hS 2 _ rfl (by decide),hS 3 _ rfl (by decide),hS 4 _ rfl (by decide),hS 5 _ rfl (by decide),hS 6 _ rfl (by decide),hS 7 _ rfl (by decide),hS 8 _ rfl (by decide),trivial,trivial⟩
    simp only [puts,Act.put,List.setIfInBounds_toArray,List.set_cons_succ,List.set_cons_zero] at ha
    subst ha
    clear hS hF
    obtain ⟨v0,hv0⟩:=HZM.out
    refine wp_store_at 4 _ _ rfl rfl gm (0+n) (.bool cb) v0 rfl rfl (by kernel_rfl) rfl rfl ((hB.cell (p:=⟨gm,0+n,none⟩) HGM.out).trans hv0) ?_ ?_
    ·have hms:=(HK.out.below hB).ms
     rw [EM.out] at hms
     obtain ⟨g',c',e',_,_,_,_,f'⟩:=hms.one1 HLT.out
     cases e'
     rw [Nat.zero_add]
     exact f'
    rw [Nat.zero_add]
    have hK2:=(HK.out.below hB).setM HLT.out cb
    rw [EM.out] at hK2
    obtain ⟨g',c',e',hk2,hc2⟩:=hK2
    cases e'
    have K2:Hid (Knm (wf.setCell ⟨gm,n,none⟩ (.bool cb)) p vl vh vm S.l h (mdU S.l h m (n+1))):=Lib.hid (by
     rw [EM.out]
     refine hk2.congr (fun _ _=> rfl) fun j _=> ?_
     unfold mdU
     by_cases e:j=n
     ·subst e
      rw [if_pos rfl,if_pos (Nat.lt_succ_self _),HMD.out]
     ·rw [if_neg e]
      by_cases e2:j<n
      ·rw [if_pos e2,if_pos (by omega)]
      ·rw [if_neg e2,if_neg (by omega)])
    have CC:Hid (Chg (KW vh vm) w (wf.setCell ⟨gm,n,none⟩ (.bool cb))):=Lib.hid ((HC.out.trans (Chg.of_below hB _) fun _ _ h=> h).trans (by rw [EM.out];exact hc2) fun _ _ h=> h)
    clear hB hv0 hk2 hc2
    go_wp2
    go_roundw
    case rel=> exact ⟨n+1,by have:=HLT.out;omega,by go_num,K2.out,CC.out⟩
    case measure=> have:=HLT.out;simp [intOf];omega
  ·obtain rfl:n=S.l.length:=by omega
   have HM:Hid (Knm wr p vl vh vm S.l h M):=Lib.hid (HK.out.congr (fun _ _=> rfl) fun j hj=> by unfold mdU;rw [if_pos hj,HMM.out])
   have c0:=HM.out.c0
   rw [EL.out] at c0
   clear hlt HK
   go_wp2
   go_loopw [3,31] (fun f i wr=> ∃n:Nat,n≤S.l.length∧i=.int .i64 n∧f=.bool (rS S.l M h n).2∧Knm wr p vl vh vm S.l (rS S.l M h n).1 M∧Chg (KW vh vm) w wr) (fun _ i _=> S.l.length - (intOf i).toNat)
   case atStart=> exact ⟨0,Nat.zero_le _,rfl,rfl,HM.out,HC.out⟩
   case round=>
    obtain ⟨n,hn,rfl,rfl,hk,hc⟩:=hrel
    have HC2:=Lib.hid hc
    have HS:=Lib.hid (show rS S.l M h (n+1)= _ from rfl)
    obtain ⟨hx,hhx⟩:∃x,x=(rS S.l M h n).1:=⟨_,rfl⟩
    obtain ⟨fx,hfx⟩:∃x,x=(rS S.l M h n).2:=⟨_,rfl⟩
    have HHX:=Lib.hid hhx
    have HFX:=Lib.hid hfx
    rw [←hhx] at hk
    rw [←hfx]
    have HK:=Lib.hid hk
    clear hk hc hhx hfx
    by_cases hlt:n<S.l.length
    ·obtain ⟨gh,ch,eh,_,_,_,zh,_⟩:=HK.out.hs.one1 hlt
     have c1:=HK.out.c1
     rw [eh] at c1
     have EH:=Lib.hid eh
     have hn9:(n:Int)<(S.l.length:Int):=by omega
     have hn8:(n:Int)<1000000:=by have:=HL.out;omega
     have HLT:=Lib.hid hlt
     clear eh hlt
     have HR:Hid (rS S.l M h (n+1)=if hx n && opnB S.l M n && !hx (inn S.l n) then (updB hx (inn S.l n),true) else (hx,fx)):=Lib.hid (by rw [HHX.out,HFX.out];exact HS.out)
     cases hh:hx n with
     | false=>
      have H1:Hid (rS S.l M h (n+1)=(hx,fx)):=Lib.hid (by rw [HR.out,hh];rfl)
      simp only [bv,hh] at zh
      go_wp2
      go_roundw
      case rel=> exact ⟨n+1,by have:=HLT.out;omega,by go_num,by rw [H1.out],by rw [H1.out];exact HK.out,HC2.out⟩
      case measure=> have:=HLT.out;simp [intOf];omega
     | true=>
      simp only [bv,hh] at zh
      go_wp2_with fail
      refine (kopened_any HK.out HOK.out HL.out n HLT.out).mono ?_
      rintro e wq ⟨rfl,bq⟩
      have KQ:=Lib.hid (HK.out.below bq)
      have CQ:=Lib.hid (HC2.out.trans (Chg.of_below bq _) fun _ _ h=> h)
      rw [opnA_snd]
      clear bq zh c1
      cases ho:opnB S.l M n with
      | false=>
       have H1:Hid (rS S.l M h (n+1)=(hx,fx)):=Lib.hid (by rw [HR.out,ho,Bool.and_false,Bool.false_and];rfl)
       clear ho
       go_wp2
       go_roundw
       case rel=> exact ⟨n+1,by have:=HLT.out;omega,by go_num,by rw [H1.out],by rw [H1.out];exact KQ.out,CQ.out⟩
       case measure=> have:=HLT.out;simp [intOf];omega
      | true=>
       rw [opnA_fst ho]
       have HI:=Lib.hid (inn_lt HOK.out HLT.out ho).1
       have hil:inn S.l n<S.l.length:=by have:=HI.out;have:=HLT.out;omega
       obtain ⟨i,hi⟩:∃i,i=inn S.l n:=⟨_,rfl⟩
       have HR2:Hid (rS S.l M h (n+1)=if !hx i then (updB hx i,true) else (hx,fx)):=Lib.hid (by rw [HR.out,hh,ho,←hi];rfl)
       rw [←hi] at hil ⊢
       obtain ⟨gq,cq,eq,_,_,_,zq,fq⟩:=KQ.out.hs.one1 hil
       have c1:=KQ.out.c1
       rw [eq] at c1
       have EQ:=Lib.hid eq
       have hi9:(i:Int)<(S.l.length:Int):=by omega
       have hi8:(i:Int)<1000000:=by have:=HL.out;omega
       have HIL:=Lib.hid hil
       clear eq hi ho hil
       cases hhi:hx i with
       | true=>
        have H1:Hid (rS S.l M h (n+1)=(hx,fx)):=Lib.hid (by rw [HR2.out,hhi];rfl)
        simp only [bv,hhi] at zq
        go_wp2
        go_roundw
        case rel=> exact ⟨n+1,by have:=HLT.out;omega,by go_num,by rw [H1.out],by rw [H1.out];exact KQ.out,CQ.out⟩
        case measure=> have:=HLT.out;simp [intOf];omega
       | false=>
        have H1:Hid (rS S.l M h (n+1)=(updB hx i,true)):=Lib.hid (by rw [HR2.out,hhi];rfl)
        simp only [bv,hhi] at zq
        obtain ⟨g',c',e',hk2,hc2⟩:=KQ.out.setH HIL.out
        obtain ⟨rfl,rfl⟩:g'=gq∧c'=cq:=by
         have:=e'.symm.trans EQ.out
         cases this
         exact ⟨rfl,rfl⟩
        have K2:=Lib.hid hk2
        have CC:=Lib.hid (CQ.out.trans hc2 fun _ _ h=> h)
        clear e' hk2 hc2
        go_wp2
        go_roundw
        case rel=> exact ⟨n+1,by have:=HLT.out;omega,by go_num,by rw [H1.out],by rw [H1.out];exact K2.out,CC.out⟩
        case measure=> have:=HLT.out;simp [intOf];omega
    ·obtain rfl:n=S.l.length:=by omega
     clear hlt
     go_wp2
     go_ret
     rw [←HHX.out,←HFX.out]
     exact ⟨rfl,HK.out,HC2.out⟩
end
end Go.Proofs.Ytlmdgmgbijfaoaa
