/-
  Part 33 of the texts that the proof of RegressReach rests on, one after the other. Conditions: named in each theorem.
-/
import Derived.Test.YtpcjekgfnfjbpaaPkRegressReach28
import Derived.Test.YtpcjekgfnfjbpaaPkRegressReach25
import Derived.Test.YtpcjekgfnfjbpaaPkRegressReach24
import Derived.Test.YtpcjekgfnfjbpaaPkRegressReach22
import Derived.Test.YtpcjekgfnfjbpaaPkRegressReach2
import Derived.Test.YtpcjekgfnfjbpaaPkRegressReach9
import Derived.Test.YtpcjekgfnfjbpaaPkRegressReach8
import Derived.Test.YtpcjekgfnfjbpaaPkRegressReach21
import Derived.Test.YtpcjekgfnfjbpaaPkRegressReach3
import Derived.Test.YtpcjekgfnfjbpaaPkRegressReach23
import Derived.Test.YtpcjekgfnfjbpaaPkRegressReach15
import Derived.Test.YtpcjekgfnfjbpaaPkRegressReach18
import Derived.Test.YtpcjekgfnfjbpaaPkRegressReach27
import Derived.Test.YtpcjekgfnfjbpaaPkRegressReach26
import Derived.Test.YtpcjekgfnfjbpaaPkRegressReach29
import Derived.Test.YtpcjekgfnfjbpaaPkRegressReach19
import Derived.Test.YtpcjekgfnfjbpaaPkRegressReach30
import Derived.Test.YtpcjekgfnfjbpaaPkRegressReach13
import Derived.Test.YtpcjekgfnfjbpaaPkRegressReach31
import Derived.Test.YtpcjekgfnfjbpaaPkRegressReach32
import Derived.BigFrame
import Derived.BigQuiet
import Derived.ChangeKeysEq
import Derived.ChangeOld
import Derived.Deep.Cut
import Derived.Deep.DrawnRows
import Derived.Deep.LoopGhost
import Derived.Deep.MidRow
import Derived.Deep.QuietTactic
import Derived.Deep.RegionHeld3
import Derived.Deep.RegionLaw
import Derived.Deep.WholeRow
import Derived.Great.BuildSlice
import Derived.Laws.BitsAllLaws
import Derived.Laws.BytesArg
import Derived.Laws.CopyOwn
import Derived.Laws.IdiomCopy
import Derived.Laws.IdiomStrings
import Derived.Laws.Strings
import Derived.Laws.StructEq
import Derived.Lib.BufferRead
import Derived.Lib.Hide
import Derived.Maps.AppendAt
import Derived.Maps.Range
import Derived.OpenShut
import Derived.Orders
import Derived.OrdersIn
import Derived.OwnWalkIn
import Derived.ProofKit
import Derived.RangeFuncBox
import Derived.RangeFuncCalls
import Derived.ShutString
import Derived.Test.YtpcjekgfnfjbpaaArr
import Derived.Test.YtpcjekgfnfjbpaaFlow
import Derived.Test.YtpcjekgfnfjbpaaKit
import Derived.Test.YtpcjekgfnfjbpaaOpen
import Derived.Test.YtpcjekgfnfjbpaaRows
import Derived.Test.YtpcjekgfnfjbpaaTxt
import Derived.WalkKit
import Derived.WalkLawsBesides
import Derived.WalkSmall
import Derived.WalkSpells
set_option linter.unusedVariables false
set_option linter.unusedSimpArgs false
set_option maxRecDepth 100000
set_option maxHeartbeats 6400000
namespace Go.Bas
open Go.RowKit
theorem append_txt {P:Program} {w:World} {ops:Array Oper} {rest:List Oper} {o:Oper} {a:Act} {Q:Exit→Act→World→Prop} (hg:o.guard=none)
  (s x:Operand) (t:TypeId) (hop:o.op=.call { callee:=.builtin .append,args:=#[s,x],argTypes:=#[t,t] })
  (base:Nat) (e:TypeId) (bytes:Nat) (h1:P.underlying t=some (.slice e)) (hinfo:(P.info? e).map (fun i=> (i.zero,i.size,i.bytes))=some (some (.slice none 0 0),1,bytes))
  (v:Value) (m:Nat) (lens:Nat→Nat) (g:Nat→Nat→Int) (hown:OwnTxt e base w v m lens g) (hs:a.eval s=v)
  (u:Value) (m2:Nat) (us2:Nat→Value) (lens2:Nat→Nat) (g2:Nat→Nat→Int) (htx:TxtU w u m2 us2 lens2 g2) (hfar:∀j,j<m2→0<lens2 j→(us2 j).ownBlock≠v.ownBlock) (hx:a.eval x=u)
  (b2:(m+m2) * bytes≤140737488355328) (b3:m+m2≤140737488355328) (b4:base≤w.heap.size)
  (hK:∀v' w',OwnTxt e base w' v' (m+m2) (catL m lens lens2) (catG m g g2)→w.grownBy w' v.ownBlock→(∀b,v'.ownBlock=some b→base≤b)→Placed w v v'→wpList P ops Q rest (a.put o.dst v') w'):
  wpList P ops Q (o::rest) a w:=
 wpList_plain hg fun _ hK'=> wp_append_txt s x t hop base e bytes h1 hinfo v m lens g hown hs u m2 us2 lens2 g2 htx hfar hx b2 b3 b4 fun v' w' q1 q2 q3 q4=> hK' _ _ (hK v' w' q1 q2 q3 q4)
theorem copy_arr {P:Program} {w:World} {ops:Array Oper} {rest:List Oper} {o:Oper} {a:Act} {Q:Exit→Act→World→Prop} (hg:o.guard=none) (d s:Operand) (dT sT:TypeId) (ho:o.op=.call { callee:=.builtin .copy,args:=#[d,s],argTypes:=#[dT,sT] }) {e:TypeId} {k:IntKind} (g off dLen dCap n:Nat) (f:Nat→Int) (hu:P.underlying dT=some (.slice e)) (hsz:(P.info? e).map (·.size)=some 1)
  (hd:a.eval d=.slice (some ⟨g,off,none⟩) dLen dCap) (hA:Arr k w g n f) (u:Value) (m:Nat) (h:Nat→Int) (hr:Rd k w u m h) (hs:a.eval s=u) (hm:m≤dLen) (hf:off+m≤n)
  (hK:wpList P ops Q rest (a.put o.dst (goInt m)) (w.setRow g (arr k n (laid f off m h)))):wpList P ops Q (o::rest) a w:=
 wpList_plain hg fun _ hK'=> wp_copy_arr d s dT sT ho g off dLen dCap n f hu hsz hd hA u m h hr hs hm hf (hK' _ _ hK)
theorem newTwo {w w':World} {v u:Value} {n m:Nat} {f g:Nat→Int} {T:TypeId} (h:Rd .u8 w v n f) (h':Rd .u8 w u m g) (hb:Below w.heap.size w w'):
  Txt (w'.alloc (.cells [v,u].toArray T)) (.slice (some ⟨w'.heap.size,0,none⟩) 2 2) 2 (catL 1 (fun _=> n) (fun _=> m)) (catG 1 (fun _=> f) (fun _=> g)):=
 Txt.new (by decide) fun j hj=> by
  rcases (by omega:j=0∨j=1) with rfl | rfl
  ·exact ⟨v,rfl,h.below hb⟩
  ·exact ⟨u,rfl,h'.below hb⟩
end Go.Bas
namespace Go.Proofs.Ytpcjekgfnfjbpaa
open Go.RowKit Go.Bas
attribute [local go_sem ↓] Go.wp_at_zero Go.wp_at_succ
theorem Try.infoTxt:(Try.prog.info? 28).map (fun i=> (i.zero,i.size,i.bytes))=some (some (.slice none 0 0),1,24):=by kernel_rfl
theorem Try.undTxt:Try.prog.underlying 37=some (.slice 28):=by kernel_rfl
theorem sumCons_any (v:Value) (a m n:Nat) (lens:Nat→Nat) (f F:Nat→Int) (g:Nat→Nat→Int) (w:World) (hv:Txt w v (1+m) (catL 1 (fun _=> a) lens) (catG 1 (fun _=> f) g)) (hg:∀j,j<m→∀i,i<lens j→F (offs lens j+i)=g j i) (hn:offs lens m=n) (hl:a+n≤1000000)
  (hf:∀i,i<a→0≤f i∧f i<256) (hF:∀i,i<n→0≤F i∧F i<256):
  Calls Try.prog 60 #[v] w fun e w'=> e=.returned (.agg (arr .u8 64 (sumB (a+n) (catF a f F))))∧Below w.heap.size w w':=by
 have h1:offs (fun _=> a) 1=a:=by simp [offs]
 have h2:=flat_cat' (F1:=f) (F2:=F) (cut1 (f:=f) (n:=a)).1 hg
 rw [h1] at h2
 exact sum_any v (1+m) _ _ (a+n) _ w hv h2 (by rw [offs_cat,h1,hn]) hl (catF_bound hf hF)
theorem dPad_any (v:Value) (n:Nat) (key:Nat→Int) (c:Int) (w:World) (hv:Rd .u8 w v n key) (hn:n≤1000000) (hk:∀i,i<n→0≤key i∧key i<256) (hc:0≤c∧c<256):
  Calls Try.prog 61 #[v,.int .u8 c] w fun e w'=> ∃u,e=.returned u∧Rd .u8 w' u 128 (padK n key c)∧Below w.heap.size w w':=by
 obtain ⟨PK,hPK⟩:∃PK,PK=padK n key c:=⟨_,rfl⟩
 have HK:=Lib.hid hk
 have HKB:Hid (∀i,0≤keyK n key i∧keyK n key i<256):=keyK_bound hk
 have HPK:Hid (∀i,bits .xor .u8 (keyK n key i) c=PK i):=by rw [hPK];exact fun i=> rfl
 obtain ⟨KK,hKK⟩:∃KK,KK=keyK n key:=⟨_,rfl⟩
 have HK1:Hid (128<n→∀i,i<128→laid (fun _=> 0) 0 64 (sumB n key) i=KK i):=by
  rw [hKK];intro h i hi
  unfold laid keyK
  rw [if_pos h]
  by_cases q:i<64
  ·rw [if_pos (by omega),if_pos q,Nat.sub_zero]
  ·rw [if_neg (by omega),if_neg q]
 have HK2:Hid (¬ 128<n→∀i,i<128→laid (fun _=> 0) 0 n key i=KK i):=by
  rw [hKK];intro h i hi
  unfold laid keyK
  rw [if_neg h]
  by_cases q:i<n
  ·rw [if_pos (by omega),if_pos q,Nat.sub_zero]
  ·rw [if_neg (by omega),if_neg q]
 rw [←hPK]
 rw [←hKK] at HKB HPK
 have HV:=Lib.hid hv
 have HS:=Lib.hid (fun v w (h:Txt w v 1 (fun _=> n) (fun _=> key))=> sum1_any v n key w h hn hk)
 obtain ⟨va,vc,rfl,v1,v2,_,_⟩:=hv
 obtain ⟨c0,c1⟩:=hc
 clear hk hPK hKK
 by_cases hlong:128<n
 case' pos=>
  go_enter Try.func61,Try.ntmps61
  go_wp2_with fail
  refine (HS.out _ _ (new1 (T:=28) HV.out (Below.refl _ _))).mono ?_
  rintro e w1 ⟨rfl,hb1⟩
  have hbel1:Below w.heap.size w w1:=((Below.refl w.heap.size w).alloc (Nat.le_refl _) _).trans (hb1.mono (by simp))
  clear hb1
  go_upto_region 3 with (refine store_arr rfl 88 _ _ rfl .u8 w1.heap.size 64 (fun _=> 0) _ Try.size88 rfl rfl (Arr.newAt rfl (by rfl)) ?_)
  refine wp_world (fun w2=> Arr .u8 w2 w1.heap.size 64 (sumB n key)∧Below w.heap.size w w2) ⟨(Arr.newAt rfl (by rfl):Arr .u8 _ _ 64 (fun _=> 0)).setRow _ _,below_setRow' (hbel1.alloc hbel1.size _) hbel1.size _⟩ ?_
  rintro w2 ⟨hA,hb2⟩
  obtain ⟨q,hq⟩:∃q,q=w1.heap.size:=⟨_,rfl⟩
  rw [←hq] at hA ⊢
  clear hq hbel1
  simp only [Act.put]
  go_upto_region 3 with (fail)
  refine region_flow (n:=33) (by kernel_rfl) (by kernel_rfl) (by kernel_rfl) rfl
   (fun ii vv _=> (match ii with | 0 | 1=> vv=.slice (some ⟨q,0,none⟩) 64 64 | _=> True))
   (fun w w'=> Below w.heap.size w w') (fun _ _ h=> h) (fun _ _ _ _ h _=> h) ?_ ?_
  ·refine Each.all ?_
   refine ⟨?_,?_,trivial⟩
   ·intro a w2 hB hF hd
    rw [if_pos (wanted_none rfl)]
    exact flow_val (fun h=> by cases h) (run_slice_arr rfl (hF.same 5 rfl) Try.underlying88 (by kernel_rfl)) rfl
   ·intro a w2 hB hF hd
    rw [if_pos (wanted_none rfl)]
    exact flow_move _ (.inr rfl) (by simp) (hd 0 _ rfl (waits_spec rfl))
  ·intro a w3 hB hF hS
   have ha:=puts_each rfl rfl hF [_,_] rfl ⟨hS 0 _ rfl,hS 1 _ rfl,trivial⟩
   simp only [puts,Act.put,List.setIfInBounds_toArray,List.set_cons_succ,List.set_cons_zero] at ha
   subst ha
   clear hS hF
   have hb3:=hb2.trans (hB.mono hb2.size)
   have hs3:=hb3.size
   have HKV:Hid (Rd .u8 w3 (.slice (some ⟨q,0,none⟩) 64 64) 64 (sumB n key)):=(hA.kept hB).rd (by decide)
   have HL:Hid (∀i,i<128→laid (fun _=> 0) 0 64 (sumB n key) i=KK i):=HK1.out hlong
   obtain ⟨k0,hk0⟩:∃k0,k0=sumB n key:=⟨_,rfl⟩
   rw [←hk0] at HKV HL
   clear hA hb2 hB hk0
   go_upto_region 6 with (first
    | (refine make_ints rfl _ _ 28 rfl w.heap.size 5 .u8 1 Try.underlying28 Try.info5 .i64 .i64 128 rfl rfl (by decide) (by decide) hb3.size ?_;intro w4 hown hgrow;have hA4:=hown.rows.arr;have hKV4:=HKV.out.below (below_grown0 (Below.refl w3.heap.size w3) hgrow (Nat.le_refl _)))
    | (refine copy_arr rfl _ _ 28 28 rfl (e:=5) (k:=.u8) w3.heap.size 0 128 128 128 (fun _=> 0) Try.underlying28 Try.size5 rfl hA4 _ 64 k0 hKV4 rfl (by omega) (by omega) ?_))
   refine wp_world (fun w5=> Arr .u8 w5 w3.heap.size 128 KK∧Below w.heap.size w w5) ⟨(hA4.setRow _ _).congr HL.out,below_setRow' (below_grown0 hb3 hgrow hs3) hs3 _⟩ ?_
   rintro w5 ⟨hA5,hb5⟩
   obtain ⟨G,hG⟩:∃G,G=w3.heap.size:=⟨_,rfl⟩
   have hGl:w.heap.size≤G:=by rw [hG];exact hs3
   rw [←hG] at hA5 ⊢
   clear hG hA4 hKV4 hown hgrow HKV HL
   simp only [Act.put,List.setIfInBounds_toArray,List.set_cons_succ,List.set_cons_zero]
   go_wp2
   go_loopw [21] (fun u wr=> ∃i:Nat,i≤128∧u=.int .i64 (i:Int)∧Arr .u8 wr G 128 (upto i PK KK)∧Below w.heap.size w wr) (fun u _=> 128 - (intOf u).toNat)
   case atStart=> exact ⟨0,Nat.zero_le _,rfl,by rw [upto_zero];exact hA5,hb5⟩
   case round=>
    clear hA5 hb5
    obtain ⟨i,hi,rfl,hA,hbel⟩:=hrel
    have HA:=Lib.hid hA
    clear hA
    by_cases hlt:i<128
    ·have e1:=HA.out.cell i hlt
     rw [upto_at] at e1
     have f1:=HA.out.free i
     obtain ⟨x,hx⟩:∃x,x=KK i:=⟨_,rfl⟩
     have x01:=HKB.out i
     have hp:=HPK.out i
     rw [←hx] at e1 x01 hp
     have HX:=Lib.hid hx
     obtain ⟨x0,x1⟩:=x01
     clear hx
     go_wp2
     go_roundw
     case rel=> exact ⟨i+1,by omega,by go_num,by rw [←upto_step (j:=i) (g:=PK) (f:=KK) rfl];exact HA.out.set i _,hbel.setCell hGl _⟩
     case measure=> simp [intOf] <;> omega
    ·obtain rfl:i=128:=by omega
     have hR:=(HA.out.congr (g:=PK) (upto_full PK KK (Nat.le_refl _))).rd (by decide)
     clear HA
     go_wp2
     go_ret
     exact ⟨_,rfl,hR,hbel⟩
 case' neg=>
  go_enter Try.func61,Try.ntmps61
  have hn128:n≤128:=by omega
  have HKV:=HV
  have HL:Hid (∀i,i<128→laid (fun _=> 0) 0 n key i=KK i):=HK2.out hlong
  go_upto_region 6 with (first
   | (refine make_ints rfl _ _ 28 rfl w.heap.size 5 .u8 1 Try.underlying28 Try.info5 .i64 .i64 128 rfl rfl (by decide) (by decide) (Nat.le_refl _) ?_;intro w4 hown hgrow;have hA4:=hown.rows.arr;have hKV4:=HKV.out.below (below_grown0 (Below.refl w.heap.size w) hgrow (Nat.le_refl _)))
   | (refine copy_arr rfl _ _ 28 28 rfl (e:=5) (k:=.u8) w.heap.size 0 128 128 128 (fun _=> 0) Try.underlying28 Try.size5 rfl hA4 _ n key hKV4 rfl (by omega) (by omega) ?_))
  refine wp_world (fun w5=> Arr .u8 w5 w.heap.size 128 KK∧Below w.heap.size w w5) ⟨(hA4.setRow _ _).congr HL.out,below_setRow' (below_grown0 (Below.refl _ _) hgrow (Nat.le_refl _)) (Nat.le_refl _) _⟩ ?_
  rintro w5 ⟨hA5,hb5⟩
  obtain ⟨G,hG⟩:∃G,G=w.heap.size:=⟨_,rfl⟩
  have hGl:w.heap.size≤G:=by rw [hG];exact (Nat.le_refl _)
  rw [←hG] at hA5 ⊢
  clear hG hA4 hKV4 hown hgrow HKV HL
  simp only [Act.put,List.setIfInBounds_toArray,List.set_cons_succ,List.set_cons_zero]
  go_wp2
  go_loopw [21] (fun u wr=> ∃i:Nat,i≤128∧u=.int .i64 (i:Int)∧Arr .u8 wr G 128 (upto i PK KK)∧Below w.heap.size w wr) (fun u _=> 128 - (intOf u).toNat)
  case atStart=> exact ⟨0,Nat.zero_le _,rfl,by rw [upto_zero];exact hA5,hb5⟩
  case round=>
   clear hA5 hb5
   obtain ⟨i,hi,rfl,hA,hbel⟩:=hrel
   have HA:=Lib.hid hA
   clear hA
   by_cases hlt:i<128
   ·have e1:=HA.out.cell i hlt
    rw [upto_at] at e1
    have f1:=HA.out.free i
    obtain ⟨x,hx⟩:∃x,x=KK i:=⟨_,rfl⟩
    have x01:=HKB.out i
    have hp:=HPK.out i
    rw [←hx] at e1 x01 hp
    have HX:=Lib.hid hx
    obtain ⟨x0,x1⟩:=x01
    clear hx
    go_wp2
    go_roundw
    case rel=> exact ⟨i+1,by omega,by go_num,by rw [←upto_step (j:=i) (g:=PK) (f:=KK) rfl];exact HA.out.set i _,hbel.setCell hGl _⟩
    case measure=> simp [intOf] <;> omega
   ·obtain rfl:i=128:=by omega
    have hR:=(HA.out.congr (g:=PK) (upto_full PK KK (Nat.le_refl _))).rd (by decide)
    clear HA
    go_wp2
    go_ret
    exact ⟨_,rfl,hR,hbel⟩
theorem dTag_any (vk:Value) (nk:Nat) (key:Nat→Int) (vp:Value) (m:Nat) (lens:Nat→Nat) (g:Nat→Nat→Int) (n:Nat) (F:Nat→Int) (w:World) (hv:Rd .u8 w vk nk key) (hk1:nk≤1000000) (hk:∀i,i<nk→0≤key i∧key i<256)
  (hp:Txt w vp m lens g) (hm:m≤1000000) (hg:∀j,j<m→∀i,i<lens j→F (offs lens j+i)=g j i) (hn:offs lens m=n) (hn2:n≤900000) (hF:∀i,i<n→0≤F i∧F i<256):
  Calls Try.prog 49 #[vk,vp] w fun e w'=> e=.returned (.agg (arr .u8 64 (tagB nk key n F)))∧Below w.heap.size w w':=by
 obtain ⟨K1,hK1⟩:∃K1,K1=padK nk key 54:=⟨_,rfl⟩
 obtain ⟨K2,hK2⟩:∃K2,K2=padK nk key 92:=⟨_,rfl⟩
 have HP1:=Lib.hid (fun w h=> dPad_any vk nk key 54 w h hk1 hk (by decide))
 have HP2:=Lib.hid (fun w h=> dPad_any vk nk key 92 w h hk1 hk (by decide))
 have HB1:Hid (∀i,i<128→0≤K1 i∧K1 i<256):=by rw [hK1];exact fun i _=> padK_bound _ _ _ i
 have HB2:Hid (∀i,i<128→0≤K2 i∧K2 i<256):=by rw [hK2];exact fun i _=> padK_bound _ _ _ i
 obtain ⟨S1,hS1⟩:∃S1,S1=sumB (128+n) (catF 128 K1 F):=⟨_,rfl⟩
 have HSB:Hid (∀i,i<64→0≤S1 i∧S1 i<256):=by rw [hS1];exact fun i _=> sumB_bound _ _ i
 obtain ⟨TG,hTG⟩:∃TG,TG=sumB (128+64) (catF 128 K2 S1):=⟨_,rfl⟩
 have HS1:=Lib.hid (fun v w h=> sumCons_any v 128 m n lens K1 F g w h hg hn (by omega) HB1.out hF)
 have HS2:=Lib.hid (fun v w h=> sumCons_any v 128 1 64 (fun _=> 64) K2 S1 (fun _=> S1) w h (cut1 (f:=S1) (n:=64)).1 (cut1 (f:=S1) (n:=64)).2 (by decide) HB2.out HSB.out)
 have e1:tagB nk key n F=TG:=by rw [hTG,hS1,hK1,hK2];rfl
 rw [e1]
 rw [←hS1] at HS1
 rw [←hTG] at HS2
 rw [←hK1] at HP1
 rw [←hK2] at HP2
 have HV:=Lib.hid hv
 have HT:=Lib.hid hp
 obtain ⟨va,vc,rfl,v1,v2,_,_⟩:=hv
 obtain ⟨pa,pc,rfl,p1,p2,_⟩:=hp
 clear hk hg hn hF hS1 hTG e1 hK1 hK2
 go_enter Try.func49,Try.ntmps49
 go_upto_region 1 with (fail)
 refine wp_world (fun w1=> Arr .u8 w1 w.heap.size 64 (fun _=> 0)∧Below w.heap.size w w1∧w1.heap.size=w.heap.size+1) ⟨Arr.newAt rfl (by rfl),(Below.refl _ _).alloc (Nat.le_refl _) _,by simp⟩ ?_
 rintro w1 ⟨hZ,hb1,hs1⟩
 have HV1:=Lib.hid (HV.out.below hb1)
 have HT1:=Lib.hid (HT.out.below hb1)
 clear HV HT
 go_wp2_with fail
 refine (HP1.out _ HV1.out).mono ?_
 rintro e w2 ⟨u,rfl,hu,hb2⟩
 have hZ2:=hZ.kept hb2
 have hbel2:=hb1.trans (hb2.mono hb1.size)
 have HV2:=Lib.hid (HV1.out.below hb2)
 obtain ⟨us,hU⟩:=(HT1.out.below hb2).withU
 have HU:=Lib.hid hU
 have HUR:=Lib.hid hu
 have hs2:=hbel2.size
 clear hZ hb1 hs1 hb2 HV1 HT1 hU hu
 obtain ⟨ua,uc,rfl,u1,u2,_,_⟩:=id HUR.out
 have hO1:=Lib.hid (OwnTxt.lit1 (e:=28) (Nat.le_refl w2.heap.size) HUR.out)
 have hU1:=Lib.hid (HU.out.below ((Below.refl w2.heap.size w2).alloc (Nat.le_refl _) (.cells #[.slice ua 128 uc] 28)))
 have hF1:=Lib.hid (HU.out.far (u:=.slice (some ⟨w2.heap.size,0,none⟩) 1 1) (by intro b hb;simp [Value.ownBlock] at hb;omega))
 go_wp2_with (at_builtin;refine append_txt rfl _ _ 37 rfl w2.heap.size 28 24 Try.undTxt Try.infoTxt _ 1 (fun _=> 128) (fun _=> K1) hO1.out rfl _ m us lens g hU1.out hF1.out rfl (by omega) (by omega) (by simp) ?_;intro v3 w3 hown3 hgr3 hbs3 hpl3)
 have hb3:Below w.heap.size w w3:=(hbel2.alloc hs2 _).grown hgr3 (by simp;omega) (fun b hb=> by simp [Value.ownBlock] at hb;omega)
 have hlow:Below w2.heap.size w2 w3:=((Below.refl w2.heap.size w2).alloc (Nat.le_refl _) _).grown hgr3 (by simp) (fun b hb=> by simp [Value.ownBlock] at hb;omega)
 have HV3:=Lib.hid (HV2.out.below hlow)
 have hZ3:=hZ2.kept hlow
 have HT3:=Lib.hid hown3.txt
 clear hown3 hgr3 hbs3 hpl3 hZ2 hbel2 HV2 HU hO1 hU1 hF1 hlow
 refine (HS1.out _ _ HT3.out).mono ?_
 rintro e w4 ⟨rfl,hb4⟩
 have hbel4:=hb3.trans (hb4.mono hb3.size)
 have HV4:=Lib.hid (HV3.out.below hb4)
 have hZ4:=hZ3.kept hb4
 have hzl:=hZ4.lt
 clear hb3 hb4 HV3 hZ3 HT3
 go_upto_region 2 with (refine store_arr rfl 88 _ _ rfl .u8 w4.heap.size 64 (fun _=> 0) S1 Try.size88 rfl rfl (Arr.newAt rfl (by rfl)) ?_)
 refine wp_world (fun w5=> Arr .u8 w5 w4.heap.size 64 S1∧Arr .u8 w5 w.heap.size 64 (fun _=> 0)∧Below w.heap.size w w5∧Rd .u8 w5 (.slice va nk vc) nk key)
  ⟨(Arr.newAt rfl (by rfl):Arr .u8 _ _ 64 (fun _=> 0)).setRow _ _,Arr.setRowOther (Arr.alloc hZ4 _) _ (by omega) _,below_setRow' (hbel4.alloc hbel4.size _) hbel4.size _,HV4.out.below (below_setRow' ((Below.refl w4.heap.size w4).alloc (Nat.le_refl _) _) (Nat.le_refl _) _)⟩ ?_
 rintro w5 ⟨hA5,hZ5,hb5,hv5⟩
 have HV5:=Lib.hid hv5
 obtain ⟨q,hq⟩:∃q,q=w4.heap.size:=⟨_,rfl⟩
 rw [←hq] at hA5 ⊢
 clear hq hZ4 hbel4 hv5 HV4
 simp only [Act.put]
 refine region_last' (n:=17) 5 rfl (by decide) (by kernel_rfl) (by kernel_rfl) (by kernel_rfl) (by kernel_rfl) rfl
  (fun ii vv ww=> (match ii with | 0=> vv=.slice va nk vc | 2=> vv=.slice (some ⟨q,0,none⟩) 64 64 | 4=> vv=.agg (arr .u8 64 (TG)) | _=> True)∧(ii=1→Rd .u8 ww vv 128 (K2))∧(ii=3→Txt ww vv 2 (catL 1 (fun _=> 128) (fun _=> 64)) (catG 1 (fun _=> K2) (fun _=> S1))))
  (fun w w'=> Below w.heap.size w w') (fun _ _ h=> h) (fun i v w w' h hE=> ⟨h.1,fun e=> Rd.below (h.2.1 e) hE,fun e=> Txt.below (h.2.2 e) hE⟩) rfl ?_ ?_
 ·refine Each.all ?_
  refine ⟨?_,?_,?_,?_,?_,(fun h=> absurd rfl h),trivial⟩
  ·intro _ a w2 hB hF hd
   rw [if_pos (wanted_none rfl)]
   exact flow_move _ (.inl rfl) (by simp) ⟨(hF.same 0 rfl),fun h=> absurd h (by decide),fun h=> absurd h (by decide)⟩
  ·intro _ a w2 hB hF hd
   rw [if_pos (wanted_none rfl)]
   refine flow_call _ _ _ rfl Try.call61 _ (args2 ((hd 0 _ rfl (waits_spec rfl)).1) rfl) (by simp) ((HP2.out _ (HV5.out.below hB)).mono ?_)
   rintro e w3 ⟨u,rfl,hr,hb⟩;exact ⟨u,rfl,⟨trivial,fun _=> hr,fun h=> absurd h (by decide)⟩,hb⟩
  ·intro _ a w2 hB hF hd
   rw [if_pos (wanted_none rfl)]
   exact flow_val (fun h=> by cases h) (run_slice_arr rfl (hF.same 5 rfl) Try.underlying88 (by kernel_rfl)) ⟨rfl,fun h=> absurd h (by decide),fun h=> absurd h (by decide)⟩
  ·intro _ a w2 hB hF hd
   rw [if_pos (wanted_none rfl)]
   exact flow_lits 37 28 2 _ [a.eval (Operand.tmp 13),.slice (some ⟨q,0,none⟩) 64 64] rfl Try.underlying37 (by kernel_rfl) (by kernel_rfl) rfl (by decide) (by decide) (by intro v hv;simp only [List.mem_cons,List.not_mem_nil,or_false] at hv;rcases hv with rfl | rfl;exact Rd.cells1 ((hd 1 _ rfl (waits_spec rfl)).2.1 rfl);rfl) (by simp only [List.map_toArray,List.map_cons,List.map_nil,show a.eval (Operand.tmp 14)=.slice (some ⟨q,0,none⟩) 64 64 from ((hd 2 _ rfl (waits_spec rfl)).1)];rfl) (by simp) ⟨trivial,fun h=> absurd h (by decide),fun _=> (newTwo ((hd 1 _ rfl (waits_spec rfl)).2.1 rfl) ((hA5.kept hB).rd (by decide)) (Below.refl _ _))⟩
  ·intro _ a w2 hB hF hd
   rw [if_pos (wanted_none rfl)]
   refine flow_call _ _ _ rfl Try.call60 _ (args1 rfl) (by simp) ((HS2.out _ _ ((hd 3 _ rfl (waits_spec rfl)).2.2 rfl)).mono ?_)
   rintro e w3 ⟨rfl,hb⟩;exact ⟨_,rfl,⟨rfl,fun h=> absurd h (by decide),fun h=> absurd h (by decide)⟩,hb⟩
 ·intro a w6 hB hF hS
  obtain ⟨x13,hx13⟩:∃x,x=a.tmps.getD 13 undef:=⟨_,rfl⟩
  obtain ⟨x15,hx15⟩:∃x,x=a.tmps.getD 15 undef:=⟨_,rfl⟩
  have ha:=puts_each rfl rfl hF [_,x13,_,x15,_,undef] rfl ⟨(hS 0 _ rfl (by decide)).1,hx13.symm,(hS 2 _ rfl (by decide)).1,hx15.symm,(hS 4 _ rfl (by decide)).1,trivial,trivial⟩
  simp only [puts,Act.put,List.setIfInBounds_toArray,List.set_cons_succ,List.set_cons_zero] at ha
  subst ha
  clear hx13 hx15
  clear hS hF
  have hZ6:=hZ5.kept hB
  have hb6:=hb5.trans (hB.mono hb5.size)
  refine wp_store_arr 88 _ _ rfl .u8 w.heap.size 64 (fun _=> 0) TG Try.size88 rfl rfl hZ6 ?_
  have hZ7:=hZ6.setRow 64 TG
  have hb7:=below_setRow' hb6 (Nat.le_refl _) (arr .u8 64 TG)
  clear hZ5 hb5 hA5 hZ6 hb6 hB
  go_wp2
  exact bodyPost_ret (results_arr rfl _ _ .u8 w.heap.size 64 _ 5 rfl hZ7 Try.underlying88 Try.size88) rfl ⟨rfl,hb7⟩
end Go.Proofs.Ytpcjekgfnfjbpaa
namespace Go.Proofs.Ytpcjekgfnfjbpaa
open Go.RowKit Go.Bas
attribute [local go_sem ↓] Go.wp_at_zero Go.wp_at_succ
theorem long_any (a:Option Addr) (n c:Nat) (h1:n≤1048576) (w:World):Calls Try.prog 47 #[.slice a n c] w fun e w'=> e=.returned (.bool false)∧w=w':=by
 have hl:decide ((1048576:Int)<(n:Int))=false:=decide_eq_false (by omega)
 go_enter Try.func47,Try.ntmps47
 go_wp2
 go_ret
 exact ⟨rfl,rfl⟩
theorem idxLong_any (v:Value) (m:Nat) (lens:Nat→Nat) (g:Nat→Nat→Int) (w:World) (hv:Txt w v m lens g) (hl:∀j,j<m→lens j≤1048576):
  Calls Try.prog 59 #[v,.func (.func 47) #[] #[]] w fun e w'=> e=.returned (.int .i64 (-1))∧w=w':=by
 have HL:=Lib.hid hl
 obtain ⟨ta,tc,rfl,t1,t2,t3⟩:=hv
 have HT3:=Lib.hid t3
 clear hl t3
 go_enter Try.func59,Try.ntmps59
 go_wp2
 go_loop [8] (fun i=> ∃k:Nat,k≤m∧i=.int .i64 (k:Int)) (fun i=> m - (intOf i).toNat)
 case atStart=> exact ⟨0,Nat.zero_le _,rfl⟩
 case round=>
  obtain ⟨k,hk,rfl⟩:=hrel
  by_cases hlt:k<m
  ·obtain ⟨tb,to,rfl,tlt,tcell⟩:=HT3.out (by omega)
   obtain ⟨u,hu,hru⟩:=tcell k hlt
   obtain ⟨ua,uc,rfl,_,_,_,_⟩:=hru
   have hlk:=HL.out k hlt
   clear tcell
   go_wp2_with fail
   refine (long_any _ _ _ hlk _).mono ?_
   rintro e w1 ⟨rfl,rfl⟩
   go_wp2
   go_round
   case rel=> exact ⟨k+1,by omega,by go_num⟩
   case measure=> simp [intOf];omega
  ·obtain rfl:k=m:=by omega
   go_wp2
   go_ret
   exact ⟨rfl,rfl⟩
theorem hasLong_any (v:Value) (m:Nat) (lens:Nat→Nat) (g:Nat→Nat→Int) (w:World) (hv:Txt w v m lens g) (hl:∀j,j<m→lens j≤1048576):
  Calls Try.prog 48 #[v,.func (.func 47) #[] #[]] w fun e w'=> e=.returned (.bool false)∧Below w.heap.size w w':=by
 have H:=Lib.hid (idxLong_any v m lens g w hv hl)
 clear hv hl
 go_enter Try.func48,Try.ntmps48
 go_wp2_with fail
 refine H.out.mono ?_
 rintro e w1 ⟨rfl,rfl⟩
 go_wp2
 go_ret
 exact ⟨rfl,Below.refl _ _⟩
theorem dKey_any (vf:Value) (nf:Nat) (from_:Nat→Int) (s:ByteArray) (vc:Value) (m:Nat) (lens:Nat→Nat) (g:Nat→Nat→Int) (w:World) (hf:Rd .u8 w vf nf from_) (hf0:0<nf) (hf1:nf≤1000000) (hfb:∀i,i<nf→0≤from_ i∧from_ i<256)
  (hs:s.size≤64) (hc:Txt w vc m lens g) (hm:m≤16) (hl:∀j,j<m→lens j≤4000) (hg:∀j,j<m→∀i,i<lens j→0≤g j i∧g j i<256):
  Calls Try.prog 38 #[vf,.string s,vc] w fun e w'=> e=.returned (.tuple #[.agg (arr .u8 32 (tagB nf from_ (infN s.size lens m) (infF s.size (strB s) lens g m))),.int .i64 0])∧Below w.heap.size w w':=by
 obtain ⟨NN,hNN⟩:∃NN,NN=infN s.size lens:=⟨_,rfl⟩
 obtain ⟨FF,hFF⟩:∃FF,FF=infF s.size (strB s) lens g:=⟨_,rfl⟩
 have HNB:Hid (NN m≤900000):=by
  unfold Hid
  rw [hNN]
  have h1:=infN_le (L:=s.size) hl m (Nat.le_refl _)
  have h2:m * (4+4000)≤16 * (4+4000):=Nat.mul_le_mul_right _ hm
  omega
 have HFB:Hid (∀i,i<NN m→0≤FF m i∧FF m i<256):=by rw [hNN,hFF];exact infF_bound (by omega) (fun i _=> strB_bound s i) hg m (Nat.le_refl _)
 have HST:Hid (∀e base w v,OwnTxt e base w v 2 (catL 1 (fun _=> 1) (fun _=> s.size)) (catG 1 (fun _=> fun _=> (s.size:Int)) (fun _=> strB s))→Parts e base w v 0 (NN 0) (FF 0)):=by rw [hNN,hFF];exact fun e base w v h=> Parts.start h
 have HSP:Hid (∀e base w' v' k l1 g1,(∀j,j<2+2 * k→∀i,i<l1 j→FF k (offs l1 j+i)=g1 j i)→offs l1 (2+2 * k)=NN k→
   OwnTxt e base w' v' (2+2 * k+2) (catL (2+2 * k) l1 (catL 1 (fun _=> 4) (fun _=> lens k))) (catG (2+2 * k) g1 (catG 1 (fun _=> put4 (lens k)) (fun _=> g k)))→Parts e base w' v' (k+1) (NN (k+1)) (FF (k+1))):=by
  rw [hNN,hFF];exact fun e base w' v' k l1 g1 h1 h2 h3=> Parts.step (w:=w') (v:=v') h1 h2 h3
 obtain ⟨TG,hTG⟩:∃TG,TG=tagB nf from_ (NN m) (FF m):=⟨_,rfl⟩
 have HTAG:Hid (∀vp mm l1 g1 w,Rd .u8 w vf nf from_→Txt w vp mm l1 g1→mm≤1000000→(∀j,j<mm→∀i,i<l1 j→FF m (offs l1 j+i)=g1 j i)→offs l1 mm=NN m→
   Calls Try.prog 49 #[vf,vp] w fun e w'=> e=.returned (.agg (arr .u8 64 TG))∧Below w.heap.size w w'):=by
  rw [hTG];exact fun vp mm l1 g1 w h1 h2 h3 h4 h5=> dTag_any vf nf from_ vp mm l1 g1 (NN m) (FF m) w h1 hf1 hfb h2 h3 h4 h5 HNB.out HFB.out
 have HHL:=Lib.hid (fun w h=> hasLong_any vc m lens g w h (fun j hj=> by have:=hl j hj;omega))
 have e1:tagB nf from_ (infN s.size lens m) (infF s.size (strB s) lens g m)=TG:=by rw [hTG,hNN,hFF]
 rw [e1]
 obtain ⟨L,hL⟩:∃L,L=s.size:=⟨_,rfl⟩
 have HSL:Hid (s.size=L):=hL.symm
 have hL64:L≤64:=by omega
 rw [←hL] at HST
 obtain ⟨lab,hlab⟩:∃lab,lab=strB s:=⟨_,rfl⟩
 rw [←hlab] at HST
 have HLAB:Hid (strB s=lab):=hlab.symm
 have HLL:=Lib.hid hl
 have HFR:=Lib.hid hf
 have HC:=Lib.hid hc
 obtain ⟨fa,fc,rfl,f1,f2,_,_⟩:=hf
 obtain ⟨ca,cc,rfl,c1,c2,c3⟩:=hc
 have HC3:=Lib.hid c3
 have hlen:s.size≤64:=hs
 clear hfb hg hl hNN hFF hTG e1 hL hlab c3 hs
 go_enter Try.func38,Try.ntmps38
 go_upto_region 1 with (fail)
 refine wp_world (fun w1=> Arr .u8 w1 w.heap.size 32 (fun _=> 0)∧Below w.heap.size w w1∧w1.heap.size=w.heap.size+1) ⟨Arr.newAt rfl (by rfl),(Below.refl _ _).alloc (Nat.le_refl _) _,by simp⟩ ?_
 rintro w1 ⟨hZ,hb1,hs1⟩
 have HFR1:=Lib.hid (HFR.out.below hb1)
 have HC1:=Lib.hid (HC.out.below hb1)
 clear HFR HC
 have hnf:((nf:Int)==0)=false:=by simp;omega
 go_upto_region 4 with (fail)
 refine region_flow (n:=64) (by kernel_rfl) (by kernel_rfl) (by kernel_rfl) rfl
  (fun ii vv _=> (match ii with | 0=> vv=.string s | 1=> vv=.int .i64 ((s.size:Int)) | 2 | 3 | 6 | 7 | 8 | 11 | 12=> vv=.bool false | 4 | 9=> vv=.slice ca m cc | 5=> vv=.int .i64 ((m:Int)) | 10=> vv=.func (.func 47) #[] #[] | _=> True))
  (fun w w'=> Below w.heap.size w w') (fun _ _ h=> h) (fun _ _ _ _ h _=> h) ?_ ?_
 ·refine Each.all ?_
  refine ⟨?_,?_,?_,?_,?_,?_,?_,?_,?_,?_,?_,?_,?_,trivial⟩
  ·intro a w2 hB hF hd
   rw [if_pos (wanted_none rfl)]
   exact flow_move _ (.inl rfl) (by simp) (hF.same 1 rfl)
  ·intro a w2 hB hF hd
   rw [if_pos (wanted_none rfl)]
   exact flow_val (fun h=> by cases h) (run_len_str rfl (hd 0 _ rfl (waits_spec rfl)) Try.underlying9) rfl
  ·intro a w2 hB hF hd
   rw [if_pos (wanted_none rfl)]
   exact flow_val (fun h=> by cases h) (Go.Bas.run_gtr rfl (hd 1 _ rfl (waits_spec rfl)) rfl) (congrArg Value.bool (decide_eq_false (by omega)))
  ·intro a w2 hB hF hd
   rw [if_pos (wanted_none rfl)]
   exact flow_move _ (.inl rfl) (by simp) (hd 2 _ rfl (waits_spec rfl))
  ·intro a w2 hB hF hd
   refine flow_wanted (wanted_yes rfl rfl (hd 3 _ rfl (waits_spec rfl)) rfl) ?_
   exact flow_move _ (.inl rfl) (by simp) (hF.same 2 rfl)
  ·intro a w2 hB hF hd
   refine flow_wanted (wanted_yes rfl rfl (hd 3 _ rfl (waits_spec rfl)) rfl) ?_
   exact flow_val (fun h=> by cases h) (run_len_sl rfl (hd 4 _ rfl (waits_spec rfl)) Try.underlying37) rfl
  ·intro a w2 hB hF hd
   refine flow_wanted (wanted_yes rfl rfl (hd 3 _ rfl (waits_spec rfl)) rfl) ?_
   exact flow_val (fun h=> by cases h) (Go.Bas.run_gtr rfl (hd 5 _ rfl (waits_spec rfl)) rfl) (congrArg Value.bool (decide_eq_false (by omega)))
  ·intro a w2 hB hF hd
   rw [if_pos (wanted_none rfl)]
   exact flow_val (fun h=> by cases h) (run_pick rfl (hd 3 _ rfl (waits_spec rfl))) ((hd 6 _ rfl (waits_spec rfl)))
  ·intro a w2 hB hF hd
   rw [if_pos (wanted_none rfl)]
   exact flow_move _ (.inl rfl) (by simp) (hd 7 _ rfl (waits_spec rfl))
  ·intro a w2 hB hF hd
   refine flow_wanted (wanted_yes rfl rfl (hd 8 _ rfl (waits_spec rfl)) rfl) ?_
   exact flow_move _ (.inl rfl) (by simp) (hF.same 2 rfl)
  ·intro a w2 hB hF hd
   refine flow_wanted (wanted_yes rfl rfl (hd 8 _ rfl (waits_spec rfl)) rfl) ?_
   exact flow_move _ (.inl rfl) (by simp) (hF.same 8 rfl)
  ·intro a w2 hB hF hd
   refine flow_wanted (wanted_yes rfl rfl (hd 8 _ rfl (waits_spec rfl)) rfl) ?_
   refine flow_call _ _ _ rfl Try.call48 _ (args2 (hd 9 _ rfl (waits_spec rfl)) (hd 10 _ rfl (waits_spec rfl))) (by simp) ((HHL.out _ (HC1.out.below hB)).mono ?_)
   rintro e w3 ⟨rfl,hb⟩;exact ⟨_,rfl,rfl,hb⟩
  ·intro a w2 hB hF hd
   rw [if_pos (wanted_none rfl)]
   exact flow_val (fun h=> by cases h) (run_pick rfl (hd 8 _ rfl (waits_spec rfl))) ((hd 11 _ rfl (waits_spec rfl)))
 ·intro a wz hB hF hS
  have ha:=puts_each rfl rfl hF [_,_,_,_,_,_,_,_,_,_,_,_,_] rfl ⟨hS 0 _ rfl,hS 1 _ rfl,hS 2 _ rfl,hS 3 _ rfl,hS 4 _ rfl,hS 5 _ rfl,hS 6 _ rfl,hS 7 _ rfl,hS 8 _ rfl,hS 9 _ rfl,hS 10 _ rfl,hS 11 _ rfl,hS 12 _ rfl,trivial⟩
  simp only [puts,Act.put,List.setIfInBounds_toArray,List.set_cons_succ,List.set_cons_zero] at ha
  subst ha
  clear hS hF
  have hb2:=hb1.trans (hB.mono hb1.size)
  have hZ2:=hZ.kept hB
  have HFR2:=Lib.hid (HFR1.out.below hB)
  have HC2:=Lib.hid (HC1.out.below hB)
  have U35:Hid (IntKind.u8.wrap (s.size:Int)=(L:Int)):=by unfold Hid;rw [HSL.out,IntKind.wrap_u8];omega
  clear hZ hs1 hB HFR1 HC1 HHL hb1
  go_upto_region 6 with (fail)
  refine region_flow (n:=64) (by kernel_rfl) (by kernel_rfl) (by kernel_rfl) rfl
   (fun ii vv ww=> (match ii with | 0 | 4=> vv=.string s | 1=> vv=.int .i64 ((s.size:Int)) | 2=> vv=.int .u8 ((L:Int)) | _=> True)∧(ii=3→Rd .u8 ww vv 1 (fun _=> (L:Int)))∧(ii=5→Rd .u8 ww vv L (lab))∧(ii=6→OwnTxt 28 wz.heap.size ww vv 2 (catL 1 (fun _=> 1) (fun _=> L)) (catG 1 (fun _=> fun _=> (L:Int)) (fun _=> lab)))∧(ii=7→OwnTxt 28 wz.heap.size ww vv 2 (catL 1 (fun _=> 1) (fun _=> L)) (catG 1 (fun _=> fun _=> (L:Int)) (fun _=> lab))))
   (fun w w'=> Below w.heap.size w w') (fun _ _ h=> h) (fun i v w w' h hE=> ⟨h.1,fun e=> Rd.below (h.2.1 e) hE,fun e=> Rd.below (h.2.2.1 e) hE,fun e=> OwnTxt.below (h.2.2.2.1 e) hE,fun e=> OwnTxt.below (h.2.2.2.2 e) hE⟩) ?_ ?_
  ·refine Each.all ?_
   refine ⟨?_,?_,?_,?_,?_,?_,?_,?_,trivial⟩
   ·intro a w2 hB hF hd
    rw [if_pos (wanted_none rfl)]
    exact flow_move _ (.inl rfl) (by simp) ⟨(hF.same 1 rfl),fun h=> absurd h (by decide),fun h=> absurd h (by decide),fun h=> absurd h (by decide),fun h=> absurd h (by decide)⟩
   ·intro a w2 hB hF hd
    rw [if_pos (wanted_none rfl)]
    exact flow_val (fun h=> by cases h) (run_len_str rfl ((hd 0 _ rfl (waits_spec rfl)).1) Try.underlying9) ⟨rfl,fun h=> absurd h (by decide),fun h=> absurd h (by decide),fun h=> absurd h (by decide),fun h=> absurd h (by decide)⟩
   ·intro a w2 hB hF hd
    rw [if_pos (wanted_none rfl)]
    exact flow_val (fun h=> by cases h) (run_conv rfl ((hd 1 _ rfl (waits_spec rfl)).1) Try.underlying3 Try.underlying5) ⟨(congrArg (Value.int .u8) (U35.out)),fun h=> absurd h (by decide),fun h=> absurd h (by decide),fun h=> absurd h (by decide),fun h=> absurd h (by decide)⟩
   ·intro a w2 hB hF hd
    rw [if_pos (wanted_none rfl)]
    exact flow_lits 28 5 1 _ [.int .u8 ((L:Int))] rfl Try.underlying28 (by kernel_rfl) (by kernel_rfl) rfl (by decide) (by decide) (by intro v hv;simp only [List.mem_cons,List.not_mem_nil,or_false] at hv;rcases hv with rfl<;> rfl) (by simp only [List.map_toArray,List.map_cons,List.map_nil,show a.eval (Operand.tmp 35)=.int .u8 ((L:Int)) from ((hd 2 _ rfl (waits_spec rfl)).1)];rfl) (by simp) ⟨trivial,fun _=> (lit1_rd),fun h=> absurd h (by decide),fun h=> absurd h (by decide),fun h=> absurd h (by decide)⟩
   ·intro a w2 hB hF hd
    rw [if_pos (wanted_none rfl)]
    exact flow_move _ (.inl rfl) (by simp) ⟨(hF.same 1 rfl),fun h=> absurd h (by decide),fun h=> absurd h (by decide),fun h=> absurd h (by decide),fun h=> absurd h (by decide)⟩
   ·intro a w2 hB hF hd
    rw [if_pos (wanted_none rfl)]
    refine flow_conv_str (e:=5) (fun h=> by cases h) rfl ((hd 4 _ rfl (waits_spec rfl)).1) Try.underlying9 Try.underlying28 Try.underlying5 (by omega) ?_
    intro vq wq hq
    rw [HSL.out,HLAB.out] at hq
    exact ⟨trivial,fun h=> absurd h (by decide),fun _=> hq,fun h=> absurd h (by decide),fun h=> absurd h (by decide)⟩
   ·intro a w2 hB hF hd
    rw [if_pos (wanted_none rfl)]
    exact flow_lits 37 28 2 _ [a.eval (Operand.tmp 36),a.eval (Operand.tmp 38)] rfl Try.underlying37 (by kernel_rfl) (by kernel_rfl) rfl (by decide) (by decide) (by intro v hv;simp only [List.mem_cons,List.not_mem_nil,or_false] at hv;rcases hv with rfl | rfl;exact Rd.cells1 ((hd 3 _ rfl (waits_spec rfl)).2.1 rfl);exact Rd.cells1 ((hd 5 _ rfl (waits_spec rfl)).2.2.1 rfl)) (by simp only [List.map_toArray,List.map_cons,List.map_nil];rfl) (by simp) ⟨trivial,fun h=> absurd h (by decide),fun h=> absurd h (by decide),fun _=> (OwnTxt.lit2 hB.size ((hd 3 _ rfl (waits_spec rfl)).2.1 rfl) ((hd 5 _ rfl (waits_spec rfl)).2.2.1 rfl)),fun h=> absurd h (by decide)⟩
   ·intro a w2 hB hF hd
    rw [if_pos (wanted_none rfl)]
    exact flow_move _ (.inr rfl) (by simp) ⟨trivial,fun h=> absurd h (by decide),fun h=> absurd h (by decide),fun h=> absurd h (by decide),fun _=> ((hd 6 _ rfl (waits_spec rfl)).2.2.2.1 rfl)⟩
  ·intro a w3 hB hF hS
   obtain ⟨x36,hx36⟩:∃x,x=a.tmps.getD 36 undef:=⟨_,rfl⟩
   have P36:Rd .u8 w3 x36 1 (fun _=> (L:Int)):=by rw [hx36];exact (hS 3 _ rfl).2.1 rfl
   obtain ⟨x38,hx38⟩:∃x,x=a.tmps.getD 38 undef:=⟨_,rfl⟩
   have P38:Rd .u8 w3 x38 L (lab):=by rw [hx38];exact (hS 5 _ rfl).2.2.1 rfl
   obtain ⟨x39,hx39⟩:∃x,x=a.tmps.getD 39 undef:=⟨_,rfl⟩
   have P39:OwnTxt 28 wz.heap.size w3 x39 2 (catL 1 (fun _=> 1) (fun _=> L)) (catG 1 (fun _=> fun _=> (L:Int)) (fun _=> lab)):=by rw [hx39];exact (hS 6 _ rfl).2.2.2.1 rfl
   obtain ⟨x9,hx9⟩:∃x,x=a.tmps.getD 9 undef:=⟨_,rfl⟩
   have P9:OwnTxt 28 wz.heap.size w3 x9 2 (catL 1 (fun _=> 1) (fun _=> L)) (catG 1 (fun _=> fun _=> (L:Int)) (fun _=> lab)):=by rw [hx9];exact (hS 7 _ rfl).2.2.2.2 rfl
   have ha:=puts_each rfl rfl hF [_,_,_,x36,_,x38,x39,x9] rfl ⟨(hS 0 _ rfl).1,(hS 1 _ rfl).1,(hS 2 _ rfl).1,hx36.symm,(hS 4 _ rfl).1,hx38.symm,hx39.symm,hx9.symm,trivial⟩
   simp only [puts,Act.put,List.setIfInBounds_toArray,List.set_cons_succ,List.set_cons_zero] at ha
   subst ha
   clear hx36 hx38 hx39 hx9
   clear hS hF
   have hwz:=hb2.size
   have hP3:=HST.out _ _ _ _ P9
   have hBz:=hB
   clear hB P9 P39 P38 P36 U35 HST
   go_wp2
   go_loopw [9,42] (fun v i wr=> ∃k:Nat,k≤m∧i=.int .i64 (k:Int)∧Parts 28 wz.heap.size wr v k (NN k) (FF k)∧Below wz.heap.size wz wr) (fun _ i _=> m - (intOf i).toNat)
   case atStart=> exact ⟨0,Nat.zero_le _,rfl,hP3,hBz⟩
   case round=>
    clear hP3 hBz
    obtain ⟨k,hk,rfl,⟨l1,g1,ho,hflat,hoffs⟩,hbz⟩:=hrel
    have hbel:=hb2.trans (hbz.mono hwz)
    have hszr:=hbz.size
    have HO:=Lib.hid ho
    have HFL:=Lib.hid hflat
    have HOF:=Lib.hid hoffs
    clear ho hflat hoffs
    by_cases hlt:k<m
    ·obtain ⟨tb,to,rfl,tlt,tcell⟩:=HC3.out (by omega)
     obtain ⟨u,hu,hru⟩:=tcell k hlt
     have e1:=(hbel.cell (p:=⟨tb,to+k,none⟩) tlt).trans hu
     have HRU:=Lib.hid (hru.below hbel)
     have hin:=Lib.hid (fun hp=> hru.in hp)
     obtain ⟨ua,uc,rfl,u1,u2,_,_⟩:=hru
     have hlk:=HLL.out k hlt
     obtain ⟨n,hn⟩:∃n,n=lens k:=⟨_,rfl⟩
     rw [←hn] at HRU hin e1 u1 hlk
     have HN:=Lib.hid hn
     have h5:((n:Int) / 2 ^ (8 * 4) !=0)=false:=by
      have:(n:Int) / 2 ^ (8 * 4)=0:=Int.ediv_eq_zero_of_lt (by omega) (by omega)
      rw [this];rfl
     have HPUT:=Lib.hid (fun w=> put_ok (n:Int) 4 w (by decide) (by decide) (by omega) (by omega) (fun _=> h5))
     clear tcell hu hn h5
     go_wp2_with fail
     refine (HPUT.out _).mono ?_
     rintro e w5 ⟨nv,rfl,hon,hb5⟩
     have hbz5:=hbz.trans (hb5.mono hszr)
     have HO5:=Lib.hid (HO.out.below hb5)
     have HRU5:=Lib.hid (HRU.out.below hb5)
     have HNV:=Lib.hid hon.rd
     have hs5:=hbz5.size
     have hsr5:=hb5.size
     obtain ⟨ng,nc,rfl,hng,_⟩:=hon.form (by decide)
     have HFAR:Hid (∀j,j<2→0<catL 1 (fun _=> 4) (fun _=> n) j→(if j=0 then Value.slice (some ⟨ng,0,none⟩) 4 nc else .slice ua n uc).ownBlock≠u9.ownBlock):=by
      intro j hj hp he
      rcases (by omega:j=0∨j=1) with rfl | rfl
      ·have:=HO.out.block ng (by rw [←he];rfl);omega
      ·obtain ⟨b,hb,hlt'⟩:=hin.out hp
       have:=HO.out.block b (by rw [←he];exact hb);omega
     have HOA:=Lib.hid (HO5.out.below ((Below.refl w5.heap.size w5).alloc (Nat.le_refl _) (.cells #[.slice (some ⟨ng,0,none⟩) 4 nc,.slice ua n uc] 28)))
     have HTU:=Lib.hid (TxtU.lit2 (e:=28) HNV.out HRU5.out)
     clear hon hb5 HO5 HNV HRU5 hin HPUT e1 HRU
     go_wp2_with (at_builtin;refine append_txt rfl _ _ 37 rfl wz.heap.size 28 24 Try.undTxt Try.infoTxt _ (2+2 * k) l1 g1 HOA.out rfl _ 2 _ _ _ HTU.out HFAR.out rfl (by omega) (by omega) (by simp;omega) ?_;intro v6 w6 hown6 hgr6 hbs6 hpl6)
     have hP6:=HSP.out _ _ _ _ k l1 g1 HFL.out HOF.out (by rw [←HN.out];exact hown6)
     have hbz6:Below wz.heap.size wz w6:=(hbz5.alloc hs5 _).grown hgr6 (by simp;omega) (fun b hb=> (HO.out.block b hb).1)
     clear hown6 hgr6 hbs6 hpl6 HOA HTU HFAR hbz5
     go_wp2
     go_roundw
     case rel=> first | exact ⟨k+1,by omega,by go_num,hP6,hbz6⟩ | ((repeat apply Exists.intro);exact ⟨⟨k+1,by omega,by go_num,hP6,hbz6⟩,rfl⟩)
     case measure=> simp [intOf] <;> omega
    ·obtain rfl:k=m:=by omega
     have hZr:=hZ2.below hbz hZ2.lt
     have HTX:=Lib.hid HO.out.txt
     have HFRr:=Lib.hid (HFR2.out.below hbz)
     clear hbz hszr HFR2 HC2
     go_wp2_with fail
     refine (HTAG.out _ _ _ _ _ HFRr.out HTX.out (by omega) HFL.out HOF.out).mono ?_
     rintro e w5 ⟨rfl,hb5⟩
     have hbel5:=hbel.trans (hb5.mono hbel.size)
     have hZ5:=hZr.kept hb5
     have hzl:=hZ5.lt
     clear hbel hb5 hZr HTX HFRr HO HFL HOF
     go_upto_region 14 with (refine store_arr rfl 88 _ _ rfl .u8 w5.heap.size 64 (fun _=> 0) TG Try.size88 rfl rfl (Arr.newAt rfl (by rfl)) ?_)
     refine wp_world (fun w6=> Arr .u8 w6 w5.heap.size 64 TG∧Arr .u8 w6 w.heap.size 32 (fun _=> 0)∧Below w.heap.size w w6)
      ⟨(Arr.newAt rfl (by rfl):Arr .u8 _ _ 64 (fun _=> 0)).setRow _ _,Arr.setRowOther (Arr.alloc hZ5 _) _ (by omega) _,below_setRow' (hbel5.alloc hbel5.size _) hbel5.size _⟩ ?_
     rintro w6 ⟨hA6,hZ6,hb6⟩
     obtain ⟨q,hq⟩:∃q,q=w5.heap.size:=⟨_,rfl⟩
     rw [←hq] at hA6 ⊢
     have hql:=hA6.lt
     have HC6:Hid (∀i,i<32→w6.cell? ⟨q,0+i,none⟩=some (.int .u8 (TG i))):=fun i hi=> by rw [Nat.zero_add];exact hA6.cell i (by omega)
     clear hq hZ5 hbel5 hA6
     simp only [Act.put]
     refine region_tail (n:=64) 3 (by decide) (by kernel_rfl) (by kernel_rfl) (by kernel_rfl) (by kernel_rfl) rfl
      (fun ii vv _=> (match ii with | 0=> vv=.slice (some ⟨q,0,none⟩) 32 64 | 1=> vv=.pointer (some ⟨q,0,none⟩) | 2=> vv=.agg (arr .u8 32 (TG)) | _=> True))
      (fun _ _ _ _ h _=> h) ?_ ?_
     ·refine Each.all ?_
      refine ⟨?_,?_,?_,(fun h=> absurd h (by decide)),(fun h=> absurd h (by decide)),trivial⟩
      ·intro _ a w2 hB hF hd
       rw [if_pos (wanted_none rfl)]
       exact flow_val (fun h=> by cases h) (run_slice_part rfl (hF.same 14 rfl) (by simp only [Option.map_some,Option.map_none];exact run_sliceAt_ptr_h (m:=32) Try.underlying88 Try.size5 (by decide))) rfl
      ·intro _ a w2 hB hF hd
       rw [if_pos (wanted_none rfl)]
       exact flow_val (fun h=> by cases h) (run_to_array rfl (hd 0 _ rfl (waits_spec rfl)) Try.underlying22 (by decide)) rfl
      ·intro _ a w2 hB hF hd
       rw [if_pos (wanted_none rfl)]
       exact flow_val (fun h=> by cases h) (run_load_part rfl (hd 1 _ rfl (waits_spec rfl)) Try.underlying22 Try.size22 (fun i hi=> (hB.cell (p:=⟨q,0+i,none⟩) hql).trans (HC6.out i hi))) rfl
     ·intro a w7 hB hF hS
      have ha:=puts_each rfl rfl hF [_,_,_] rfl ⟨hS 0 _ rfl (by decide),hS 1 _ rfl (by decide),hS 2 _ rfl (by decide),trivial⟩
      simp only [puts,List.take_succ_cons,List.take_zero,Act.put,List.setIfInBounds_toArray,List.set_cons_succ,List.set_cons_zero] at ha
      subst ha
      change tl _ _ _ (_::_:: []) _ _
      clear hS hF
      have hZ7:=hZ6.kept hB
      have hb7:=hb6.trans (hB.mono hb6.size)
      refine tl_step rfl (wp_store_arr 22 _ _ rfl .u8 w.heap.size 32 (fun _=> 0) TG Try.size22 rfl rfl hZ7 ?_)
      refine tl_move rfl _ (.inr rfl) (tl_nil ?_)
      have hZ8:=hZ7.setRow 32 TG
      have hb8:=below_setRow' hb7 (Nat.le_refl _) (arr .u8 32 TG)
      clear hZ6 hb6 hZ7 hb7 hB
      simp only [Act.put,Act.eval,List.setIfInBounds_toArray,List.set_cons_succ,List.set_cons_zero]
      go_wp2
      exact bodyPost_ret (results_arr2 rfl _ _ .u8 w.heap.size 32 _ 5 rfl hZ8 Try.underlying22 Try.size22) rfl ⟨rfl,hb8⟩
end Go.Proofs.Ytpcjekgfnfjbpaa
namespace Go.Bas
def regS:ByteArray:=⟨#[114,101,103,114,101,115,115]⟩
theorem regS_info:∀i:Fin 8,catF 1 (fun _=> (7:Int)) (strB regS) i.val=infoN i.val:=by decide+kernel
def nextB (f:Nat→Int):Nat→Int:=tagB 32 f 8 infoN
theorem nextB_eq (f:Nat→Int) (lens:Nat→Nat) (g:Nat→Nat→Int):tagB 32 f (infN regS.size lens 0) (infF regS.size (strB regS) lens g 0)=nextB f:=
 tagB_congr (fun _ _=> rfl) fun i hi=> regS_info ⟨i,hi⟩
theorem nextB_bound (f:Nat→Int) (i:Nat):0≤nextB f i∧nextB f i<256:=tagB_bound _ _ _ _ i
end Go.Bas
namespace Go.Proofs.Ytpcjekgfnfjbpaa
open Go.RowKit Go.Bas
attribute [local go_sem ↓] Go.wp_at_zero Go.wp_at_succ
theorem dKeyN (v:Value) (f:Nat→Int) (hf:∀i,i<32→0≤f i∧f i<256) (w:World) (h:Rd .u8 w v 32 f):
  Calls Try.prog 38 #[v,.string regS,.slice none 0 0] w fun e w'=> e=.returned (.tuple #[.agg (arr .u8 32 (nextB f)),.int .i64 0])∧Below w.heap.size w w':=by
 have:=dKey_any v 32 f regS _ 0 (fun _=> 0) (fun _ _=> 0) w h (by decide) (by decide) hf (by decide) (Txt.nil _ _ _) (by decide) (fun j hj=> by omega) (fun j hj=> by omega)
 rwa [nextB_eq] at this
theorem dNext_any (f:Nat→Int) (hf:∀i,i<32→0≤f i∧f i<256) (w:World):
  Calls Try.prog 27 #[.agg (arr .u8 32 f)] w fun e w'=> e=.returned (.agg (arr .u8 32 (nextB f)))∧Below w.heap.size w w':=by
 obtain ⟨R,hR⟩:∃R,R=nextB f:=⟨_,rfl⟩
 have HK:=Lib.hid (fun v w h=> dKeyN v f hf w h)
 rw [←hR] at HK ⊢
 clear hf hR
 go_enter Try.func27,Try.ntmps27
 go_upto_region 1 with (fail)
 refine wp_world (fun w1=> Arr .u8 w1 w.heap.size 32 f∧Arr .u8 w1 (w.heap.size+1) 32 (fun _=> 0)∧Below w.heap.size w w1)
  ⟨Arr.alloc (Arr.newAt rfl rfl) _,Arr.newAt (by simp) (by rfl),((Below.refl _ _).alloc (Nat.le_refl _) _).alloc (by simp) _⟩ ?_
 rintro w1 ⟨hA,hZ,hb1⟩
 go_wp2_with fail
 refine (HK.out _ _ (hA.rd (by decide))).mono ?_
 rintro e w2 ⟨rfl,hb2⟩
 have hZ2:=hZ.kept hb2
 have hbel:=hb1.trans (hb2.mono hb1.size)
 have hzl:=hZ2.lt
 clear hA hZ hb1 hb2
 go_upto_region 2 with (refine store_arr rfl 22 _ _ rfl .u8 w2.heap.size 32 (fun _=> 0) R Try.size22 rfl rfl (Arr.newAt rfl (by rfl)) ?_)
 refine wp_world (fun w3=> Arr .u8 w3 w2.heap.size 32 R∧Arr .u8 w3 (w.heap.size+1) 32 (fun _=> 0)∧Below w.heap.size w w3)
  ⟨(Arr.newAt rfl (by rfl):Arr .u8 _ _ 32 (fun _=> 0)).setRow _ _,Arr.setRowOther (Arr.alloc hZ2 _) _ (by omega) _,below_setRow' (hbel.alloc hbel.size _) hbel.size _⟩ ?_
 rintro w3 ⟨hA3,hZ3,hb3⟩
 obtain ⟨q,hq⟩:∃q,q=w2.heap.size:=⟨_,rfl⟩
 rw [←hq] at hA3 ⊢
 clear hq hbel hZ2 hzl
 try simp only [Act.put,List.setIfInBounds_toArray,List.set_cons_succ,List.set_cons_zero]
 go_wp2_with (first
  | (refine load_arr rfl 22 _ rfl .u8 q 32 R 5 Try.underlying22 Try.size22 rfl hA3 ?_)
  | (refine store_arr rfl 22 _ _ rfl .u8 (w.heap.size+1) 32 (fun _=> 0) R Try.size22 rfl rfl hZ3 ?_))
 exact bodyPost_ret (results_arr rfl _ _ .u8 (w.heap.size+1) 32 _ 5 rfl (hZ3.setRow 32 R) Try.underlying22 Try.size22) rfl ⟨rfl,below_setRow' hb3 (by omega) _⟩
end Go.Proofs.Ytpcjekgfnfjbpaa
namespace Go.Bas
end Go.Bas
namespace Go.Proofs.Ytpcjekgfnfjbpaa
open Go.RowKit Go.Bas Go.ChangeShapes
attribute [local go_sem ↓] Go.wp_at_zero Go.wp_at_succ
end Go.Proofs.Ytpcjekgfnfjbpaa
namespace Go.Proofs.Ytpcjekgfnfjbpaa
open Go.RowKit Go.Bas
attribute [local go_sem ↓] Go.wp_at_zero Go.wp_at_succ
end Go.Proofs.Ytpcjekgfnfjbpaa
