/-
  Part 35 of the texts that the proof of SuiteOpens rests on, one after the other. Conditions: named in each theorem.
-/
import Derived.Test.YtpcjekgfnfjbpaaGreatPkSuiteOpens32
import Derived.Test.YtpcjekgfnfjbpaaGreatPkSuiteOpens34
set_option linter.unusedVariables false
set_option linter.unusedSimpArgs false
set_option maxRecDepth 100000
set_option maxHeartbeats 6400000
namespace Go.aG
open Go.RowKit
theorem mO {P:Program} {w:World} {ops:Array Oper} {rest:List Oper} {o:Oper} {a:Act} {Q:Exit→Act→World→Prop} (hg:o.guard=none)
  (s x:Operand) (t:TypeId) (hop:o.op=.call { callee:=.builtin .append,args:=#[s,x],argTypes:=#[t,t] })
  (base:Nat) (e:TypeId) (bytes:Nat) (h1:P.underlying t=some (.slice e)) (hinfo:(P.info? e).map (fun i=> (i.zero,i.size,i.bytes))=some (some (.slice none 0 0),1,bytes))
  (v:Value) (m:Nat) (lens:Nat→Nat) (g:Nat→Nat→Int) (hown:aL e base w v m lens g) (hs:a.eval s=v)
  (u:Value) (m2:Nat) (uh:Nat→Value) (jE:Nat→Nat) (g2:Nat→Nat→Int) (htx:mQ w u m2 uh jE g2) (nM:∀j,j<m2→0<jE j→(uh j).ownBlock≠v.ownBlock) (hx:a.eval x=u)
  (b2:(m+m2) * bytes≤140737488355328) (b3:m+m2≤140737488355328) (b4:base≤w.heap.size)
  (hK:∀v' w',aL e base w' v' (m+m2) (cK m lens jE) (eT m g g2)→w.grownBy w' v.ownBlock→(∀b,v'.ownBlock=some b→base≤b)→Placed w v v'→wpList P ops Q rest (a.put o.dst v') w'):
  wpList P ops Q (o::rest) a w:=
 wpList_plain hg fun _ hK'=> ni s x t hop base e bytes h1 hinfo v m lens g hown hs u m2 uh jE g2 htx nM hx b2 b3 b4 fun v' w' q1 q2 q3 q4=> hK' _ _ (hK v' w' q1 q2 q3 q4)
theorem rJ {P:Program} {w:World} {ops:Array Oper} {rest:List Oper} {o:Oper} {a:Act} {Q:Exit→Act→World→Prop} (hg:o.guard=none) (d s:Operand) (dT sT:TypeId) (ho:o.op=.call { callee:=.builtin .copy,args:=#[d,s],argTypes:=#[dT,sT] }) {e:TypeId} {k:IntKind} (g off dLen dCap n:Nat) (f:Nat→Int) (hu:P.underlying dT=some (.slice e)) (hsz:(P.info? e).map (·.size)=some 1)
  (hd:a.eval d=.slice (some ⟨g,off,none⟩) dLen dCap) (hA:aI k w g n f) (u:Value) (m:Nat) (h:Nat→Int) (hr:Rd k w u m h) (hs:a.eval s=u) (hm:m≤dLen) (hf:off+m≤n)
  (hK:wpList P ops Q rest (a.put o.dst (goInt m)) (w.setRow g (arr k n (laid f off m h)))):wpList P ops Q (o::rest) a w:=
 wpList_plain hg fun _ hK'=> gN d s dT sT ho g off dLen dCap n f hu hsz hd hA u m h hr hs hm hf (hK' _ _ hK)
theorem Bv {w w':World} {v u:Value} {n m:Nat} {f g:Nat→Int} {T:TypeId} (h:Rd .u8 w v n f) (h':Rd .u8 w u m g) (hb:Below w.heap.size w w'):
  ko (w'.alloc (.cells [v,u].toArray T)) (.slice (some ⟨w'.heap.size,0,none⟩) 2 2) 2 (cK 1 (fun _=> n) (fun _=> m)) (eT 1 (fun _=> f) (fun _=> g)):=
 ko.new (by decide) fun j hj=> by
  rcases (by omega:j=0∨j=1) with rfl | rfl
  ·exact ⟨v,rfl,h.below hb⟩
  ·exact ⟨u,rfl,h'.below hb⟩
end Go.aG
namespace Go.Proofs.YtpcjekgfnfjbpaaGreat
open Go.RowKit Go.aG
attribute [local go_sem ↓] Go.wp_at_zero Go.wp_at_succ
theorem Tryz.infoTxt:(Tryz.prog.info? 23).map (fun i=> (i.zero,i.size,i.bytes))=some (some (.slice none 0 0),1,24):=by kernel_rfl
theorem Tryz.undTxt:Tryz.prog.underlying 55=some (.slice 23):=by kernel_rfl
theorem kC (v:Value) (a m n:Nat) (lens:Nat→Nat) (f F:Nat→Int) (g:Nat→Nat→Int) (w:World) (hv:ko w v (1+m) (cK 1 (fun _=> a) lens) (eT 1 (fun _=> f) g)) (hg:∀j,j<m→∀i,i<lens j→F (aO lens j+i)=g j i) (hn:aO lens m=n) (hl:a+n≤1000000)
  (hf:∀i,i<a→0≤f i∧f i<256) (hF:∀i,i<n→0≤F i∧F i<256):
  Calls Tryz.prog 139 #[v] w fun e w'=> e=.returned (.agg (arr .u8 64 (gJ (a+n) (gF a f F))))∧Below w.heap.size w w':=by
 have h1:aO (fun _=> a) 1=a:=by simp [aO]
 have h2:=iJ (F1:=f) (F2:=F) (pO (f:=f) (n:=a)).1 hg
 rw [h1] at h2
 exact uw v (1+m) _ _ (a+n) _ w hv h2 (by rw [gY,h1,hn]) hl (bT hf hF)
theorem rH (v:Value) (n:Nat) (key:Nat→Int) (c:Int) (w:World) (hv:Rd .u8 w v n key) (hn:n≤1000000) (hk:∀i,i<n→0≤key i∧key i<256) (hc:0≤c∧c<256):
  Calls Tryz.prog 227 #[v,.int .u8 c] w fun e w'=> ∃u,e=.returned u∧Rd .u8 w' u 128 (qR n key c)∧Below w.heap.size w w':=by
 obtain ⟨PK,Hl⟩:∃PK,PK=qR n key c:=⟨_,rfl⟩
 have HK:=Lib.hid hk
 have IE:Hid (∀i,0≤nJ n key i∧nJ n key i<256):=tu hk
 have ze:Hid (∀i,bits .xor .u8 (nJ n key i) c=PK i):=by rw [Hl];exact fun i=> rfl
 obtain ⟨KK,FJ⟩:∃KK,KK=nJ n key:=⟨_,rfl⟩
 have IG:Hid (128<n→∀i,i<128→laid (fun _=> 0) 0 64 (gJ n key) i=KK i):=by
  rw [FJ];intro h i hi
  unfold laid nJ
  rw [if_pos h]
  by_cases q:i<64
  ·rw [if_pos (by omega),if_pos q,Nat.sub_zero]
  ·rw [if_neg (by omega),if_neg q]
 have Ns:Hid (¬ 128<n→∀i,i<128→laid (fun _=> 0) 0 n key i=KK i):=by
  rw [FJ];intro h i hi
  unfold laid nJ
  rw [if_neg h]
  by_cases q:i<n
  ·rw [if_pos (by omega),if_pos q,Nat.sub_zero]
  ·rw [if_neg (by omega),if_neg q]
 rw [←Hl]
 rw [←FJ] at IE ze
 have HV:=Lib.hid hv
 have HS:=Lib.hid (fun v w (h:ko w v 1 (fun _=> n) (fun _=> key))=> wK v n key w h hn hk)
 obtain ⟨va,vc,rfl,v1,v2,_,_⟩:=hv
 obtain ⟨c0,c1⟩:=hc
 clear hk Hl FJ
 by_cases hlong:128<n
 case' pos=>
  go_enter Tryz.func227,Tryz.ntmps227
  go_wp2_with fail
  refine (HS.out _ _ (new1 (T:=23) HV.out (Below.refl _ _))).mono ?_
  rintro e w1 ⟨rfl,hb1⟩
  have uM:Below w.heap.size w w1:=((Below.refl w.heap.size w).alloc (Nat.le_refl _) _).trans (hb1.mono (by simp))
  clear hb1
  go_upto_region 3 with (refine bE rfl 47 _ _ rfl .u8 w1.heap.size 64 (fun _=> 0) _ Tryz.size47 rfl rfl (aI.newAt rfl (by rfl)) ?_)
  refine aD (fun w2=> aI .u8 w2 w1.heap.size 64 (gJ n key)∧Below w.heap.size w w2) ⟨(aI.newAt rfl (by rfl):aI .u8 _ _ 64 (fun _=> 0)).setRow _ _,aF (uM.alloc uM.size _) uM.size _⟩ ?_
  rintro w2 ⟨hA,hb2⟩
  obtain ⟨q,hq⟩:∃q,q=w1.heap.size:=⟨_,rfl⟩
  rw [←hq] at hA ⊢
  clear hq uM
  simp only [Act.put]
  go_upto_region 3 with (fail)
  refine aN (n:=33) (by kernel_rfl) (by kernel_rfl) (by kernel_rfl) rfl
   (fun ii vv _=> (match ii with | 0 | 1=> vv=.slice (some ⟨q,0,none⟩) 64 64 | _=> True))
   (fun w w'=> Below w.heap.size w w') (fun _ _ h=> h) (fun _ _ _ _ h _=> h) ?_ ?_
  ·refine Each.all ?_
   refine ⟨?_,?_,trivial⟩
   ·intro a w2 hB hF hd
    rw [if_pos (ah rfl)]
    exact ak (fun h=> by cases h) (dO rfl (hF.same 5 rfl) Tryz.underlying47 (by kernel_rfl)) rfl
   ·intro a w2 hB hF hd
    rw [if_pos (ah rfl)]
    exact aA _ (.inr rfl) (by simp) (hd 0 _ rfl (aj rfl))
  ·intro a w3 hB hF hS
   have ha:=aH rfl rfl hF [_,_] rfl ⟨hS 0 _ rfl,hS 1 _ rfl,trivial⟩
   simp only [puts,Act.put,List.setIfInBounds_toArray,List.set_cons_succ,List.set_cons_zero] at ha
   subst ha
   clear hS hF
   have hb3:=hb2.trans (hB.mono hb2.size)
   have hs3:=hb3.size
   have Dn:Hid (Rd .u8 w3 (.slice (some ⟨q,0,none⟩) 64 64) 64 (gJ n key)):=(hA.kept hB).rd (by decide)
   have HL:Hid (∀i,i<128→laid (fun _=> 0) 0 64 (gJ n key) i=KK i):=IG.out hlong
   obtain ⟨k0,hk0⟩:∃k0,k0=gJ n key:=⟨_,rfl⟩
   rw [←hk0] at Dn HL
   clear hA hb2 hB hk0
   go_upto_region 6 with (first
    | (refine jV rfl _ _ 23 rfl w.heap.size 5 .u8 1 Tryz.underlying23 Tryz.info5 .i64 .i64 128 rfl rfl (by decide) (by decide) hb3.size ?_;intro w4 hown hgrow;have yX:=hown.rows.arr;have xZ:=Dn.out.below (bW (Below.refl w3.heap.size w3) hgrow (Nat.le_refl _)))
    | (refine rJ rfl _ _ 23 23 rfl (e:=5) (k:=.u8) w3.heap.size 0 128 128 128 (fun _=> 0) Tryz.underlying23 Tryz.size5 rfl yX _ 64 k0 xZ rfl (by omega) (by omega) ?_))
   refine aD (fun w5=> aI .u8 w5 w3.heap.size 128 KK∧Below w.heap.size w w5) ⟨(yX.setRow _ _).congr HL.out,aF (bW hb3 hgrow hs3) hs3 _⟩ ?_
   rintro w5 ⟨rF,hb5⟩
   obtain ⟨G,hG⟩:∃G,G=w3.heap.size:=⟨_,rfl⟩
   have Hu:w.heap.size≤G:=by rw [hG];exact hs3
   rw [←hG] at rF ⊢
   clear hG yX xZ hown hgrow Dn HL
   simp only [Act.put,List.setIfInBounds_toArray,List.set_cons_succ,List.set_cons_zero]
   go_wp2
   go_loopw [21] (fun u wr=> ∃i:Nat,i≤128∧u=.int .i64 (i:Int)∧aI .u8 wr G 128 (upto i PK KK)∧Below w.heap.size w wr) (fun u _=> 128 - (intOf u).toNat)
   case atStart=> exact ⟨0,Nat.zero_le _,rfl,by rw [iC];exact rF,hb5⟩
   case round=>
    clear rF hb5
    obtain ⟨i,hi,rfl,hA,hbel⟩:=hrel
    have HA:=Lib.hid hA
    clear hA
    by_cases hlt:i<128
    ·have e1:=HA.out.cell i hlt
     rw [upto_at] at e1
     have f1:=HA.out.free i
     obtain ⟨x,hx⟩:∃x,x=KK i:=⟨_,rfl⟩
     have x01:=IE.out i
     have hp:=ze.out i
     rw [←hx] at e1 x01 hp
     have HX:=Lib.hid hx
     obtain ⟨x0,x1⟩:=x01
     clear hx
     go_wp2
     go_roundw
     case rel=> exact ⟨i+1,by omega,by go_num,by rw [←iD (j:=i) (g:=PK) (f:=KK) rfl];exact HA.out.set i _,hbel.setCell Hu _⟩
     case measure=> simp [intOf] <;> omega
    ·obtain rfl:i=128:=by omega
     have hR:=(HA.out.congr (g:=PK) (iF PK KK (Nat.le_refl _))).rd (by decide)
     clear HA
     go_wp2
     go_ret
     exact ⟨_,rfl,hR,hbel⟩
 case' neg=>
  go_enter Tryz.func227,Tryz.ntmps227
  have JC:n≤128:=by omega
  have Dn:=HV
  have HL:Hid (∀i,i<128→laid (fun _=> 0) 0 n key i=KK i):=Ns.out hlong
  go_upto_region 6 with (first
   | (refine jV rfl _ _ 23 rfl w.heap.size 5 .u8 1 Tryz.underlying23 Tryz.info5 .i64 .i64 128 rfl rfl (by decide) (by decide) (Nat.le_refl _) ?_;intro w4 hown hgrow;have yX:=hown.rows.arr;have xZ:=Dn.out.below (bW (Below.refl w.heap.size w) hgrow (Nat.le_refl _)))
   | (refine rJ rfl _ _ 23 23 rfl (e:=5) (k:=.u8) w.heap.size 0 128 128 128 (fun _=> 0) Tryz.underlying23 Tryz.size5 rfl yX _ n key xZ rfl (by omega) (by omega) ?_))
  refine aD (fun w5=> aI .u8 w5 w.heap.size 128 KK∧Below w.heap.size w w5) ⟨(yX.setRow _ _).congr HL.out,aF (bW (Below.refl _ _) hgrow (Nat.le_refl _)) (Nat.le_refl _) _⟩ ?_
  rintro w5 ⟨rF,hb5⟩
  obtain ⟨G,hG⟩:∃G,G=w.heap.size:=⟨_,rfl⟩
  have Hu:w.heap.size≤G:=by rw [hG];exact (Nat.le_refl _)
  rw [←hG] at rF ⊢
  clear hG yX xZ hown hgrow Dn HL
  simp only [Act.put,List.setIfInBounds_toArray,List.set_cons_succ,List.set_cons_zero]
  go_wp2
  go_loopw [21] (fun u wr=> ∃i:Nat,i≤128∧u=.int .i64 (i:Int)∧aI .u8 wr G 128 (upto i PK KK)∧Below w.heap.size w wr) (fun u _=> 128 - (intOf u).toNat)
  case atStart=> exact ⟨0,Nat.zero_le _,rfl,by rw [iC];exact rF,hb5⟩
  case round=>
   clear rF hb5
   obtain ⟨i,hi,rfl,hA,hbel⟩:=hrel
   have HA:=Lib.hid hA
   clear hA
   by_cases hlt:i<128
   ·have e1:=HA.out.cell i hlt
    rw [upto_at] at e1
    have f1:=HA.out.free i
    obtain ⟨x,hx⟩:∃x,x=KK i:=⟨_,rfl⟩
    have x01:=IE.out i
    have hp:=ze.out i
    rw [←hx] at e1 x01 hp
    have HX:=Lib.hid hx
    obtain ⟨x0,x1⟩:=x01
    clear hx
    go_wp2
    go_roundw
    case rel=> exact ⟨i+1,by omega,by go_num,by rw [←iD (j:=i) (g:=PK) (f:=KK) rfl];exact HA.out.set i _,hbel.setCell Hu _⟩
    case measure=> simp [intOf] <;> omega
   ·obtain rfl:i=128:=by omega
    have hR:=(HA.out.congr (g:=PK) (iF PK KK (Nat.le_refl _))).rd (by decide)
    clear HA
    go_wp2
    go_ret
    exact ⟨_,rfl,hR,hbel⟩
theorem yB (vk:Value) (nk:Nat) (key:Nat→Int) (vp:Value) (m:Nat) (lens:Nat→Nat) (g:Nat→Nat→Int) (n:Nat) (F:Nat→Int) (w:World) (hv:Rd .u8 w vk nk key) (hk1:nk≤1000000) (hk:∀i,i<nk→0≤key i∧key i<256)
  (hp:ko w vp m lens g) (hm:m≤1000000) (hg:∀j,j<m→∀i,i<lens j→F (aO lens j+i)=g j i) (hn:aO lens m=n) (hn2:n≤900000) (hF:∀i,i<n→0≤F i∧F i<256):
  Calls Tryz.prog 177 #[vk,vp] w fun e w'=> e=.returned (.agg (arr .u8 64 (qB nk key n F)))∧Below w.heap.size w w':=by
 obtain ⟨K1,hK1⟩:∃K1,K1=qR nk key 54:=⟨_,rfl⟩
 obtain ⟨K2,hK2⟩:∃K2,K2=qR nk key 92:=⟨_,rfl⟩
 have KR:=Lib.hid (fun w h=> rH vk nk key 54 w h hk1 hk (by decide))
 have KQ:=Lib.hid (fun w h=> rH vk nk key 92 w h hk1 hk (by decide))
 have HB1:Hid (∀i,i<128→0≤K1 i∧K1 i<256):=by rw [hK1];exact fun i _=> mq _ _ _ i
 have HB2:Hid (∀i,i<128→0≤K2 i∧K2 i<256):=by rw [hK2];exact fun i _=> mq _ _ _ i
 obtain ⟨S1,hS1⟩:∃S1,S1=gJ (128+n) (gF 128 K1 F):=⟨_,rfl⟩
 have Ai:Hid (∀i,i<64→0≤S1 i∧S1 i<256):=by rw [hS1];exact fun i _=> iO _ _ i
 obtain ⟨TG,Cu⟩:∃TG,TG=gJ (128+64) (gF 128 K2 S1):=⟨_,rfl⟩
 have KM:=Lib.hid (fun v w h=> kC v 128 m n lens K1 F g w h hg hn (by omega) HB1.out hF)
 have HS2:=Lib.hid (fun v w h=> kC v 128 1 64 (fun _=> 64) K2 S1 (fun _=> S1) w h (pO (f:=S1) (n:=64)).1 (pO (f:=S1) (n:=64)).2 (by decide) HB2.out Ai.out)
 have e1:qB nk key n F=TG:=by rw [Cu,hS1,hK1,hK2];rfl
 rw [e1]
 rw [←hS1] at KM
 rw [←Cu] at HS2
 rw [←hK1] at KR
 rw [←hK2] at KQ
 have HV:=Lib.hid hv
 have HT:=Lib.hid hp
 obtain ⟨va,vc,rfl,v1,v2,_,_⟩:=hv
 obtain ⟨pa,pc,rfl,p1,p2,_⟩:=hp
 clear hk hg hn hF hS1 Cu e1 hK1 hK2
 go_enter Tryz.func177,Tryz.ntmps177
 go_upto_region 1 with (fail)
 refine aD (fun w1=> aI .u8 w1 w.heap.size 64 (fun _=> 0)∧Below w.heap.size w w1∧w1.heap.size=w.heap.size+1) ⟨aI.newAt rfl (by rfl),(Below.refl _ _).alloc (Nat.le_refl _) _,by simp⟩ ?_
 rintro w1 ⟨hZ,hb1,hs1⟩
 have Im:=Lib.hid (HV.out.below hb1)
 have HT1:=Lib.hid (HT.out.below hb1)
 clear HV HT
 go_wp2_with fail
 refine (KR.out _ Im.out).mono ?_
 rintro e w2 ⟨u,rfl,hu,hb2⟩
 have hZ2:=hZ.kept hb2
 have eZ:=hb1.trans (hb2.mono hb1.size)
 have KD:=Lib.hid (Im.out.below hb2)
 obtain ⟨us,hU⟩:=(HT1.out.below hb2).Dt
 have HU:=Lib.hid hU
 have KE:=Lib.hid hu
 have hs2:=eZ.size
 clear hZ hb1 hs1 hb2 Im HT1 hU hu
 obtain ⟨ua,uc,rfl,u1,u2,_,_⟩:=id KE.out
 have JU:=Lib.hid (aL.Gv (e:=23) (Nat.le_refl w2.heap.size) KE.out)
 have JM:=Lib.hid (HU.out.below ((Below.refl w2.heap.size w2).alloc (Nat.le_refl _) (.cells #[.slice ua 128 uc] 23)))
 have hF1:=Lib.hid (HU.out.far (u:=.slice (some ⟨w2.heap.size,0,none⟩) 1 1) (by intro b hb;simp [Value.ownBlock] at hb;omega))
 go_wp2_with (at_builtin;refine mO rfl _ _ 55 rfl w2.heap.size 23 24 Tryz.undTxt Tryz.infoTxt _ 1 (fun _=> 128) (fun _=> K1) JU.out rfl _ m us lens g JM.out hF1.out rfl (by omega) (by omega) (by simp) ?_;intro v3 w3 hown3 Cm GR GH)
 have hb3:Below w.heap.size w w3:=(eZ.alloc hs2 _).grown Cm (by simp;omega) (fun b hb=> by simp [Value.ownBlock] at hb;omega)
 have hlow:Below w2.heap.size w2 w3:=((Below.refl w2.heap.size w2).alloc (Nat.le_refl _) _).grown Cm (by simp) (fun b hb=> by simp [Value.ownBlock] at hb;omega)
 have KC:=Lib.hid (KD.out.below hlow)
 have hZ3:=hZ2.kept hlow
 have HT3:=Lib.hid hown3.txt
 clear hown3 Cm GR GH hZ2 eZ KD HU JU JM hF1 hlow
 refine (KM.out _ _ HT3.out).mono ?_
 rintro e w4 ⟨rfl,hb4⟩
 have kQ:=hb3.trans (hb4.mono hb3.size)
 have FV:=Lib.hid (KC.out.below hb4)
 have Dh:=hZ3.kept hb4
 have hzl:=Dh.lt
 clear hb3 hb4 KC hZ3 HT3
 go_upto_region 2 with (refine bE rfl 47 _ _ rfl .u8 w4.heap.size 64 (fun _=> 0) S1 Tryz.size47 rfl rfl (aI.newAt rfl (by rfl)) ?_)
 refine aD (fun w5=> aI .u8 w5 w4.heap.size 64 S1∧aI .u8 w5 w.heap.size 64 (fun _=> 0)∧Below w.heap.size w w5∧Rd .u8 w5 (.slice va nk vc) nk key)
  ⟨(aI.newAt rfl (by rfl):aI .u8 _ _ 64 (fun _=> 0)).setRow _ _,aI.bG (aI.alloc Dh _) _ (by omega) _,aF (kQ.alloc kQ.size _) kQ.size _,FV.out.below (aF ((Below.refl w4.heap.size w4).alloc (Nat.le_refl _) _) (Nat.le_refl _) _)⟩ ?_
 rintro w5 ⟨rF,rU,hb5,hv5⟩
 have HV5:=Lib.hid hv5
 obtain ⟨q,hq⟩:∃q,q=w4.heap.size:=⟨_,rfl⟩
 rw [←hq] at rF ⊢
 clear hq Dh kQ hv5 FV
 simp only [Act.put]
 refine dw (n:=17) 5 rfl (by decide) (by kernel_rfl) (by kernel_rfl) (by kernel_rfl) (by kernel_rfl) rfl
  (fun ii vv ww=> (match ii with | 0=> vv=.slice va nk vc | 2=> vv=.slice (some ⟨q,0,none⟩) 64 64 | 4=> vv=.agg (arr .u8 64 (TG)) | _=> True)∧(ii=1→Rd .u8 ww vv 128 (K2))∧(ii=3→ko ww vv 2 (cK 1 (fun _=> 128) (fun _=> 64)) (eT 1 (fun _=> K2) (fun _=> S1))))
  (fun w w'=> Below w.heap.size w w') (fun _ _ h=> h) (fun i v w w' h hE=> ⟨h.1,fun e=> Rd.below (h.2.1 e) hE,fun e=> ko.below (h.2.2 e) hE⟩) rfl ?_ ?_
 ·refine Each.all ?_
  refine ⟨?_,?_,?_,?_,?_,(fun h=> absurd rfl h),trivial⟩
  ·intro _ a w2 hB hF hd
   rw [if_pos (ah rfl)]
   exact aA _ (.inl rfl) (by simp) ⟨(hF.same 0 rfl),fun h=> absurd h (by decide),fun h=> absurd h (by decide)⟩
  ·intro _ a w2 hB hF hd
   rw [if_pos (ah rfl)]
   refine aJ _ _ _ rfl Tryz.call227 _ (args2 ((hd 0 _ rfl (aj rfl)).1) rfl) (by simp) ((KQ.out _ (HV5.out.below hB)).mono ?_)
   rintro e w3 ⟨u,rfl,hr,hb⟩;exact ⟨u,rfl,⟨trivial,fun _=> hr,fun h=> absurd h (by decide)⟩,hb⟩
  ·intro _ a w2 hB hF hd
   rw [if_pos (ah rfl)]
   exact ak (fun h=> by cases h) (dO rfl (hF.same 5 rfl) Tryz.underlying47 (by kernel_rfl)) ⟨rfl,fun h=> absurd h (by decide),fun h=> absurd h (by decide)⟩
  ·intro _ a w2 hB hF hd
   rw [if_pos (ah rfl)]
   exact jY 55 23 2 _ [a.eval (Operand.tmp 13),.slice (some ⟨q,0,none⟩) 64 64] rfl Tryz.underlying55 (by kernel_rfl) (by kernel_rfl) rfl (by decide) (by decide) (by intro v hv;simp only [List.mem_cons,List.not_mem_nil,or_false] at hv;rcases hv with rfl | rfl;exact Rd.pR ((hd 1 _ rfl (aj rfl)).2.1 rfl);rfl) (by simp only [List.map_toArray,List.map_cons,List.map_nil,show a.eval (Operand.tmp 14)=.slice (some ⟨q,0,none⟩) 64 64 from ((hd 2 _ rfl (aj rfl)).1)];rfl) (by simp) ⟨trivial,fun h=> absurd h (by decide),fun _=> (Bv ((hd 1 _ rfl (aj rfl)).2.1 rfl) ((rF.kept hB).rd (by decide)) (Below.refl _ _))⟩
  ·intro _ a w2 hB hF hd
   rw [if_pos (ah rfl)]
   refine aJ _ _ _ rfl Tryz.call139 _ (args1 rfl) (by simp) ((HS2.out _ _ ((hd 3 _ rfl (aj rfl)).2.2 rfl)).mono ?_)
   rintro e w3 ⟨rfl,hb⟩;exact ⟨_,rfl,⟨rfl,fun h=> absurd h (by decide),fun h=> absurd h (by decide)⟩,hb⟩
 ·intro a w6 hB hF hS
  obtain ⟨Fv,vS⟩:∃x,x=a.tmps.getD 13 undef:=⟨_,rfl⟩
  obtain ⟨Lr,DN⟩:∃x,x=a.tmps.getD 15 undef:=⟨_,rfl⟩
  have ha:=aH rfl rfl hF [_,Fv,_,Lr,_,undef] rfl ⟨(hS 0 _ rfl (by decide)).1,vS.symm,(hS 2 _ rfl (by decide)).1,DN.symm,(hS 4 _ rfl (by decide)).1,trivial,trivial⟩
  simp only [puts,Act.put,List.setIfInBounds_toArray,List.set_cons_succ,List.set_cons_zero] at ha
  subst ha
  clear vS DN
  clear hS hF
  have vU:=rU.kept hB
  have hb6:=hb5.trans (hB.mono hb5.size)
  refine aT 47 _ _ rfl .u8 w.heap.size 64 (fun _=> 0) TG Tryz.size47 rfl rfl vU ?_
  have xX:=vU.setRow 64 TG
  have FH:=aF hb6 (Nat.le_refl _) (arr .u8 64 TG)
  clear rU hb5 rF vU hb6 hB
  go_wp2
  exact bodyPost_ret (bQ rfl _ _ .u8 w.heap.size 64 _ 5 rfl xX Tryz.underlying47 Tryz.size47) rfl ⟨rfl,FH⟩
end Go.Proofs.YtpcjekgfnfjbpaaGreat
namespace Go.Proofs.YtpcjekgfnfjbpaaGreat
open Go.RowKit Go.aG
attribute [local go_sem ↓] Go.wp_at_zero Go.wp_at_succ
theorem xJ (a:Option Addr) (n c:Nat) (h1:n≤1048576) (w:World):Calls Tryz.prog 175 #[.slice a n c] w fun e w'=> e=.returned (.bool false)∧w=w':=by
 have hl:decide ((1048576:Int)<(n:Int))=false:=decide_eq_false (by omega)
 go_enter Tryz.func175,Tryz.ntmps175
 go_wp2
 go_ret
 exact ⟨rfl,rfl⟩
theorem qY (v:Value) (m:Nat) (lens:Nat→Nat) (g:Nat→Nat→Int) (w:World) (hv:ko w v m lens g) (hl:∀j,j<m→lens j≤1048576):
  Calls Tryz.prog 226 #[v,.func (.func 175) #[] #[]] w fun e w'=> e=.returned (.int .i64 (-1))∧w=w':=by
 have HL:=Lib.hid hl
 obtain ⟨ta,tc,rfl,t1,t2,t3⟩:=hv
 have HT3:=Lib.hid t3
 clear hl t3
 go_enter Tryz.func226,Tryz.ntmps226
 go_wp2
 go_loop [8] (fun i=> ∃k:Nat,k≤m∧i=.int .i64 (k:Int)) (fun i=> m - (intOf i).toNat)
 case atStart=> exact ⟨0,Nat.zero_le _,rfl⟩
 case round=>
  obtain ⟨k,hk,rfl⟩:=hrel
  by_cases hlt:k<m
  ·obtain ⟨tb,to,rfl,Fx,ku⟩:=HT3.out (by omega)
   obtain ⟨u,hu,zQ⟩:=ku k hlt
   obtain ⟨ua,uc,rfl,_,_,_,_⟩:=zQ
   have hlk:=HL.out k hlt
   clear ku
   go_wp2_with fail
   refine (xJ _ _ _ hlk _).mono ?_
   rintro e w1 ⟨rfl,rfl⟩
   go_wp2
   go_round
   case rel=> exact ⟨k+1,by omega,by go_num⟩
   case measure=> simp [intOf];omega
  ·obtain rfl:k=m:=by omega
   go_wp2
   go_ret
   exact ⟨rfl,rfl⟩
theorem rE (v:Value) (m:Nat) (lens:Nat→Nat) (g:Nat→Nat→Int) (w:World) (hv:ko w v m lens g) (hl:∀j,j<m→lens j≤1048576):
  Calls Tryz.prog 176 #[v,.func (.func 175) #[] #[]] w fun e w'=> e=.returned (.bool false)∧Below w.heap.size w w':=by
 have H:=Lib.hid (qY v m lens g w hv hl)
 clear hv hl
 go_enter Tryz.func176,Tryz.ntmps176
 go_wp2_with fail
 refine H.out.mono ?_
 rintro e w1 ⟨rfl,rfl⟩
 go_wp2
 go_ret
 exact ⟨rfl,Below.refl _ _⟩
theorem yC (vf:Value) (nf:Nat) (from_:Nat→Int) (s:ByteArray) (vc:Value) (m:Nat) (lens:Nat→Nat) (g:Nat→Nat→Int) (w:World) (hf:Rd .u8 w vf nf from_) (hf0:0<nf) (hf1:nf≤1000000) (JG:∀i,i<nf→0≤from_ i∧from_ i<256)
  (hs:s.size≤64) (hc:ko w vc m lens g) (hm:m≤16) (hl:∀j,j<m→lens j≤4000) (hg:∀j,j<m→∀i,i<lens j→0≤g j i∧g j i<256):
  Calls Tryz.prog 120 #[vf,.string s,vc] w fun e w'=> e=.returned (.tuple #[.agg (arr .u8 32 (qB nf from_ (jd s.size lens m) (nK s.size (iV s) lens g m))),.int .i64 0])∧Below w.heap.size w w':=by
 obtain ⟨NN,Dj⟩:∃NN,NN=jd s.size lens:=⟨_,rfl⟩
 obtain ⟨FF,yc⟩:∃FF,FF=nK s.size (iV s) lens g:=⟨_,rfl⟩
 have Ga:Hid (NN m≤900000):=by
  unfold Hid
  rw [Dj]
  have h1:=zP (L:=s.size) hl m (Nat.le_refl _)
  have h2:m * (4+4000)≤16 * (4+4000):=Nat.mul_le_mul_right _ hm
  omega
 have Nw:Hid (∀i,i<NN m→0≤FF m i∧FF m i<256):=by rw [Dj,yc];exact tC (by omega) (fun i _=> sI s i) hg m (Nat.le_refl _)
 have HST:Hid (∀e base w v,aL e base w v 2 (cK 1 (fun _=> 1) (fun _=> s.size)) (eT 1 (fun _=> fun _=> (s.size:Int)) (fun _=> iV s))→Parts e base w v 0 (NN 0) (FF 0)):=by rw [Dj,yc];exact fun e base w v h=> Parts.start h
 have wu:Hid (∀e base w' v' k l1 g1,(∀j,j<2+2 * k→∀i,i<l1 j→FF k (aO l1 j+i)=g1 j i)→aO l1 (2+2 * k)=NN k→
   aL e base w' v' (2+2 * k+2) (cK (2+2 * k) l1 (cK 1 (fun _=> 4) (fun _=> lens k))) (eT (2+2 * k) g1 (eT 1 (fun _=> qP (lens k)) (fun _=> g k)))→Parts e base w' v' (k+1) (NN (k+1)) (FF (k+1))):=by
  rw [Dj,yc];exact fun e base w' v' k l1 g1 h1 h2 h3=> Parts.step (w:=w') (v:=v') h1 h2 h3
 obtain ⟨TG,Cu⟩:∃TG,TG=qB nf from_ (NN m) (FF m):=⟨_,rfl⟩
 have Io:Hid (∀vp mm l1 g1 w,Rd .u8 w vf nf from_→ko w vp mm l1 g1→mm≤1000000→(∀j,j<mm→∀i,i<l1 j→FF m (aO l1 j+i)=g1 j i)→aO l1 mm=NN m→
   Calls Tryz.prog 177 #[vf,vp] w fun e w'=> e=.returned (.agg (arr .u8 64 TG))∧Below w.heap.size w w'):=by
  rw [Cu];exact fun vp mm l1 g1 w h1 h2 h3 h4 h5=> yB vf nf from_ vp mm l1 g1 (NN m) (FF m) w h1 hf1 JG h2 h3 h4 h5 Ga.out Nw.out
 have Lb:=Lib.hid (fun w h=> rE vc m lens g w h (fun j hj=> by have:=hl j hj;omega))
 have e1:qB nf from_ (jd s.size lens m) (nK s.size (iV s) lens g m)=TG:=by rw [Cu,Dj,yc]
 rw [e1]
 obtain ⟨L,hL⟩:∃L,L=s.size:=⟨_,rfl⟩
 have HSL:Hid (s.size=L):=hL.symm
 have Mi:L≤64:=by omega
 rw [←hL] at HST
 obtain ⟨lab,hlab⟩:∃lab,lab=iV s:=⟨_,rfl⟩
 rw [←hlab] at HST
 have IC:Hid (iV s=lab):=hlab.symm
 have Nq:=Lib.hid hl
 have Lc:=Lib.hid hf
 have HC:=Lib.hid hc
 obtain ⟨fa,fc,rfl,f1,f2,_,_⟩:=hf
 obtain ⟨ca,cc,rfl,c1,c2,c3⟩:=hc
 have IL:=Lib.hid c3
 have hlen:s.size≤64:=hs
 clear JG hg hl Dj yc Cu e1 hL hlab c3 hs
 go_enter Tryz.func120,Tryz.ntmps120
 go_upto_region 1 with (fail)
 refine aD (fun w1=> aI .u8 w1 w.heap.size 32 (fun _=> 0)∧Below w.heap.size w w1∧w1.heap.size=w.heap.size+1) ⟨aI.newAt rfl (by rfl),(Below.refl _ _).alloc (Nat.le_refl _) _,by simp⟩ ?_
 rintro w1 ⟨hZ,hb1,hs1⟩
 have Fb:=Lib.hid (Lc.out.below hb1)
 have ql:=Lib.hid (HC.out.below hb1)
 clear Lc HC
 have hnf:((nf:Int)==0)=false:=by simp;omega
 go_upto_region 4 with (fail)
 refine aN (n:=64) (by kernel_rfl) (by kernel_rfl) (by kernel_rfl) rfl
  (fun ii vv _=> (match ii with | 0=> vv=.string s | 1=> vv=.int .i64 ((s.size:Int)) | 2 | 3 | 6 | 7 | 8 | 11 | 12=> vv=.bool false | 4 | 9=> vv=.slice ca m cc | 5=> vv=.int .i64 ((m:Int)) | 10=> vv=.func (.func 175) #[] #[] | _=> True))
  (fun w w'=> Below w.heap.size w w') (fun _ _ h=> h) (fun _ _ _ _ h _=> h) ?_ ?_
 ·refine Each.all ?_
  refine ⟨?_,?_,?_,?_,?_,?_,?_,?_,?_,?_,?_,?_,?_,trivial⟩
  ·intro a w2 hB hF hd
   rw [if_pos (ah rfl)]
   exact aA _ (.inl rfl) (by simp) (hF.same 1 rfl)
  ·intro a w2 hB hF hd
   rw [if_pos (ah rfl)]
   exact ak (fun h=> by cases h) (kH rfl (hd 0 _ rfl (aj rfl)) Tryz.underlying9) rfl
  ·intro a w2 hB hF hd
   rw [if_pos (ah rfl)]
   exact ak (fun h=> by cases h) (Go.aG.uE rfl (hd 1 _ rfl (aj rfl)) rfl) (congrArg Value.bool (decide_eq_false (by omega)))
  ·intro a w2 hB hF hd
   rw [if_pos (ah rfl)]
   exact aA _ (.inl rfl) (by simp) (hd 2 _ rfl (aj rfl))
  ·intro a w2 hB hF hd
   refine bZ (dI rfl rfl (hd 3 _ rfl (aj rfl)) rfl) ?_
   exact aA _ (.inl rfl) (by simp) (hF.same 2 rfl)
  ·intro a w2 hB hF hd
   refine bZ (dI rfl rfl (hd 3 _ rfl (aj rfl)) rfl) ?_
   exact ak (fun h=> by cases h) (sK rfl (hd 4 _ rfl (aj rfl)) Tryz.underlying55) rfl
  ·intro a w2 hB hF hd
   refine bZ (dI rfl rfl (hd 3 _ rfl (aj rfl)) rfl) ?_
   exact ak (fun h=> by cases h) (Go.aG.uE rfl (hd 5 _ rfl (aj rfl)) rfl) (congrArg Value.bool (decide_eq_false (by omega)))
  ·intro a w2 hB hF hd
   rw [if_pos (ah rfl)]
   exact ak (fun h=> by cases h) (qI rfl (hd 3 _ rfl (aj rfl))) ((hd 6 _ rfl (aj rfl)))
  ·intro a w2 hB hF hd
   rw [if_pos (ah rfl)]
   exact aA _ (.inl rfl) (by simp) (hd 7 _ rfl (aj rfl))
  ·intro a w2 hB hF hd
   refine bZ (dI rfl rfl (hd 8 _ rfl (aj rfl)) rfl) ?_
   exact aA _ (.inl rfl) (by simp) (hF.same 2 rfl)
  ·intro a w2 hB hF hd
   refine bZ (dI rfl rfl (hd 8 _ rfl (aj rfl)) rfl) ?_
   exact aA _ (.inl rfl) (by simp) (hF.same 8 rfl)
  ·intro a w2 hB hF hd
   refine bZ (dI rfl rfl (hd 8 _ rfl (aj rfl)) rfl) ?_
   refine aJ _ _ _ rfl Tryz.call176 _ (args2 (hd 9 _ rfl (aj rfl)) (hd 10 _ rfl (aj rfl))) (by simp) ((Lb.out _ (ql.out.below hB)).mono ?_)
   rintro e w3 ⟨rfl,hb⟩;exact ⟨_,rfl,rfl,hb⟩
  ·intro a w2 hB hF hd
   rw [if_pos (ah rfl)]
   exact ak (fun h=> by cases h) (qI rfl (hd 8 _ rfl (aj rfl))) ((hd 11 _ rfl (aj rfl)))
 ·intro a wz hB hF hS
  have ha:=aH rfl rfl hF [_,_,_,_,_,_,_,_,_,_,_,_,_] rfl ⟨hS 0 _ rfl,hS 1 _ rfl,hS 2 _ rfl,hS 3 _ rfl,hS 4 _ rfl,hS 5 _ rfl,hS 6 _ rfl,hS 7 _ rfl,hS 8 _ rfl,hS 9 _ rfl,hS 10 _ rfl,hS 11 _ rfl,hS 12 _ rfl,trivial⟩
  simp only [puts,Act.put,List.setIfInBounds_toArray,List.set_cons_succ,List.set_cons_zero] at ha
  subst ha
  clear hS hF
  have hb2:=hb1.trans (hB.mono hb1.size)
  have hZ2:=hZ.kept hB
  have Fa:=Lib.hid (Fb.out.below hB)
  have uU:=Lib.hid (ql.out.below hB)
  have Kk:Hid (IntKind.u8.wrap (s.size:Int)=(L:Int)):=by unfold Hid;rw [HSL.out,IntKind.wrap_u8];omega
  clear hZ hs1 hB Fb ql Lb hb1
  go_upto_region 6 with (fail)
  refine aN (n:=64) (by kernel_rfl) (by kernel_rfl) (by kernel_rfl) rfl
   (fun ii vv ww=> (match ii with | 0 | 4=> vv=.string s | 1=> vv=.int .i64 ((s.size:Int)) | 2=> vv=.int .u8 ((L:Int)) | _=> True)∧(ii=3→Rd .u8 ww vv 1 (fun _=> (L:Int)))∧(ii=5→Rd .u8 ww vv L (lab))∧(ii=6→aL 23 wz.heap.size ww vv 2 (cK 1 (fun _=> 1) (fun _=> L)) (eT 1 (fun _=> fun _=> (L:Int)) (fun _=> lab)))∧(ii=7→aL 23 wz.heap.size ww vv 2 (cK 1 (fun _=> 1) (fun _=> L)) (eT 1 (fun _=> fun _=> (L:Int)) (fun _=> lab))))
   (fun w w'=> Below w.heap.size w w') (fun _ _ h=> h) (fun i v w w' h hE=> ⟨h.1,fun e=> Rd.below (h.2.1 e) hE,fun e=> Rd.below (h.2.2.1 e) hE,fun e=> aL.below (h.2.2.2.1 e) hE,fun e=> aL.below (h.2.2.2.2 e) hE⟩) ?_ ?_
  ·refine Each.all ?_
   refine ⟨?_,?_,?_,?_,?_,?_,?_,?_,trivial⟩
   ·intro a w2 hB hF hd
    rw [if_pos (ah rfl)]
    exact aA _ (.inl rfl) (by simp) ⟨(hF.same 1 rfl),fun h=> absurd h (by decide),fun h=> absurd h (by decide),fun h=> absurd h (by decide),fun h=> absurd h (by decide)⟩
   ·intro a w2 hB hF hd
    rw [if_pos (ah rfl)]
    exact ak (fun h=> by cases h) (kH rfl ((hd 0 _ rfl (aj rfl)).1) Tryz.underlying9) ⟨rfl,fun h=> absurd h (by decide),fun h=> absurd h (by decide),fun h=> absurd h (by decide),fun h=> absurd h (by decide)⟩
   ·intro a w2 hB hF hd
    rw [if_pos (ah rfl)]
    exact ak (fun h=> by cases h) (qJ rfl ((hd 1 _ rfl (aj rfl)).1) Tryz.underlying3 Tryz.underlying5) ⟨(congrArg (Value.int .u8) (Kk.out)),fun h=> absurd h (by decide),fun h=> absurd h (by decide),fun h=> absurd h (by decide),fun h=> absurd h (by decide)⟩
   ·intro a w2 hB hF hd
    rw [if_pos (ah rfl)]
    exact jY 23 5 1 _ [.int .u8 ((L:Int))] rfl Tryz.underlying23 (by kernel_rfl) (by kernel_rfl) rfl (by decide) (by decide) (by intro v hv;simp only [List.mem_cons,List.not_mem_nil,or_false] at hv;rcases hv with rfl<;> rfl) (by simp only [List.map_toArray,List.map_cons,List.map_nil,show a.eval (Operand.tmp 35)=.int .u8 ((L:Int)) from ((hd 2 _ rfl (aj rfl)).1)];rfl) (by simp) ⟨trivial,fun _=> (uK),fun h=> absurd h (by decide),fun h=> absurd h (by decide),fun h=> absurd h (by decide)⟩
   ·intro a w2 hB hF hd
    rw [if_pos (ah rfl)]
    exact aA _ (.inl rfl) (by simp) ⟨(hF.same 1 rfl),fun h=> absurd h (by decide),fun h=> absurd h (by decide),fun h=> absurd h (by decide),fun h=> absurd h (by decide)⟩
   ·intro a w2 hB hF hd
    rw [if_pos (ah rfl)]
    refine nN (e:=5) (fun h=> by cases h) rfl ((hd 4 _ rfl (aj rfl)).1) Tryz.underlying9 Tryz.underlying23 Tryz.underlying5 (by omega) ?_
    intro vq wq hq
    rw [HSL.out,IC.out] at hq
    exact ⟨trivial,fun h=> absurd h (by decide),fun _=> hq,fun h=> absurd h (by decide),fun h=> absurd h (by decide)⟩
   ·intro a w2 hB hF hd
    rw [if_pos (ah rfl)]
    exact jY 55 23 2 _ [a.eval (Operand.tmp 36),a.eval (Operand.tmp 38)] rfl Tryz.underlying55 (by kernel_rfl) (by kernel_rfl) rfl (by decide) (by decide) (by intro v hv;simp only [List.mem_cons,List.not_mem_nil,or_false] at hv;rcases hv with rfl | rfl;exact Rd.pR ((hd 3 _ rfl (aj rfl)).2.1 rfl);exact Rd.pR ((hd 5 _ rfl (aj rfl)).2.2.1 rfl)) (by simp only [List.map_toArray,List.map_cons,List.map_nil];rfl) (by simp) ⟨trivial,fun h=> absurd h (by decide),fun h=> absurd h (by decide),fun _=> (aL.BJ hB.size ((hd 3 _ rfl (aj rfl)).2.1 rfl) ((hd 5 _ rfl (aj rfl)).2.2.1 rfl)),fun h=> absurd h (by decide)⟩
   ·intro a w2 hB hF hd
    rw [if_pos (ah rfl)]
    exact aA _ (.inr rfl) (by simp) ⟨trivial,fun h=> absurd h (by decide),fun h=> absurd h (by decide),fun h=> absurd h (by decide),fun _=> ((hd 6 _ rfl (aj rfl)).2.2.2.1 rfl)⟩
  ·intro a w3 hB hF hS
   obtain ⟨Jc,BX⟩:∃x,x=a.tmps.getD 36 undef:=⟨_,rfl⟩
   have MR:Rd .u8 w3 Jc 1 (fun _=> (L:Int)):=by rw [BX];exact (hS 3 _ rfl).2.1 rfl
   obtain ⟨x38,hx38⟩:∃x,x=a.tmps.getD 38 undef:=⟨_,rfl⟩
   have MQ:Rd .u8 w3 x38 L (lab):=by rw [hx38];exact (hS 5 _ rfl).2.2.1 rfl
   obtain ⟨x39,hx39⟩:∃x,x=a.tmps.getD 39 undef:=⟨_,rfl⟩
   have MP:aL 23 wz.heap.size w3 x39 2 (cK 1 (fun _=> 1) (fun _=> L)) (eT 1 (fun _=> fun _=> (L:Int)) (fun _=> lab)):=by rw [hx39];exact (hS 6 _ rfl).2.2.2.1 rfl
   obtain ⟨x9,Gw⟩:∃x,x=a.tmps.getD 9 undef:=⟨_,rfl⟩
   have P9:aL 23 wz.heap.size w3 x9 2 (cK 1 (fun _=> 1) (fun _=> L)) (eT 1 (fun _=> fun _=> (L:Int)) (fun _=> lab)):=by rw [Gw];exact (hS 7 _ rfl).2.2.2.2 rfl
   have ha:=aH rfl rfl hF [_,_,_,Jc,_,x38,x39,x9] rfl ⟨(hS 0 _ rfl).1,(hS 1 _ rfl).1,(hS 2 _ rfl).1,BX.symm,(hS 4 _ rfl).1,hx38.symm,hx39.symm,Gw.symm,trivial⟩
   simp only [puts,Act.put,List.setIfInBounds_toArray,List.set_cons_succ,List.set_cons_zero] at ha
   subst ha
   clear BX hx38 hx39 Gw
   clear hS hF
   have hwz:=hb2.size
   have hP3:=HST.out _ _ _ _ P9
   have JZ:=hB
   clear hB P9 MP MQ MR Kk HST
   go_wp2
   go_loopw [9,42] (fun v i wr=> ∃k:Nat,k≤m∧i=.int .i64 (k:Int)∧Parts 23 wz.heap.size wr v k (NN k) (FF k)∧Below wz.heap.size wz wr) (fun _ i _=> m - (intOf i).toNat)
   case atStart=> exact ⟨0,Nat.zero_le _,rfl,hP3,JZ⟩
   case round=>
    clear hP3 JZ
    obtain ⟨k,hk,rfl,⟨l1,g1,ho,rz,Ay⟩,hbz⟩:=hrel
    have hbel:=hb2.trans (hbz.mono hwz)
    have DX:=hbz.size
    have HO:=Lib.hid ho
    have IJ:=Lib.hid rz
    have ET:=Lib.hid Ay
    clear ho rz Ay
    by_cases hlt:k<m
    ·obtain ⟨tb,to,rfl,Fx,ku⟩:=IL.out (by omega)
     obtain ⟨u,hu,zQ⟩:=ku k hlt
     have e1:=(hbel.cell (p:=⟨tb,to+k,none⟩) Fx).trans hu
     have ER:=Lib.hid (zQ.below hbel)
     have hin:=Lib.hid (fun hp=> zQ.in hp)
     obtain ⟨ua,uc,rfl,u1,u2,_,_⟩:=zQ
     have hlk:=Nq.out k hlt
     obtain ⟨n,hn⟩:∃n,n=lens k:=⟨_,rfl⟩
     rw [←hn] at ER hin e1 u1 hlk
     have HN:=Lib.hid hn
     have h5:((n:Int) / 2 ^ (8 * 4) !=0)=false:=by
      have:(n:Int) / 2 ^ (8 * 4)=0:=Int.ediv_eq_zero_of_lt (by omega) (by omega)
      rw [this];rfl
     have ES:=Lib.hid (fun w=> sP (n:Int) 4 w (by decide) (by decide) (by omega) (by omega) (fun _=> h5))
     clear ku hu hn h5
     go_wp2_with fail
     refine (ES.out _).mono ?_
     rintro e w5 ⟨nv,rfl,hon,hb5⟩
     have Cq:=hbz.trans (hb5.mono DX)
     have KV:=Lib.hid (HO.out.below hb5)
     have EP:=Lib.hid (ER.out.below hb5)
     have KY:=Lib.hid hon.rd
     have hs5:=Cq.size
     have LQ:=hb5.size
     obtain ⟨ng,nc,rfl,Oa,_⟩:=hon.form (by decide)
     have Fe:Hid (∀j,j<2→0<cK 1 (fun _=> 4) (fun _=> n) j→(if j=0 then Value.slice (some ⟨ng,0,none⟩) 4 nc else .slice ua n uc).ownBlock≠u9.ownBlock):=by
      intro j hj hp he
      rcases (by omega:j=0∨j=1) with rfl | rfl
      ·have:=HO.out.block ng (by rw [←he];rfl);omega
      ·obtain ⟨b,hb,hlt'⟩:=hin.out hp
       have:=HO.out.block b (by rw [←he];exact hb);omega
     have KU:=Lib.hid (KV.out.below ((Below.refl w5.heap.size w5).alloc (Nat.le_refl _) (.cells #[.slice (some ⟨ng,0,none⟩) 4 nc,.slice ua n uc] 23)))
     have KG:=Lib.hid (mQ.BJ (e:=23) KY.out EP.out)
     clear hon hb5 KV KY EP hin ES e1 ER
     go_wp2_with (at_builtin;refine mO rfl _ _ 55 rfl wz.heap.size 23 24 Tryz.undTxt Tryz.infoTxt _ (2+2 * k) l1 g1 KU.out rfl _ 2 _ _ _ KG.out Fe.out rfl (by omega) (by omega) (by simp;omega) ?_;intro v6 w6 hown6 Ej GQ GD)
     have JR:=wu.out _ _ _ _ k l1 g1 IJ.out ET.out (by rw [←HN.out];exact hown6)
     have Eo:Below wz.heap.size wz w6:=(Cq.alloc hs5 _).grown Ej (by simp;omega) (fun b hb=> (HO.out.block b hb).1)
     clear hown6 Ej GQ GD KU KG Fe Cq
     go_wp2
     go_roundw
     case rel=> first | exact ⟨k+1,by omega,by go_num,JR,Eo⟩ | ((repeat apply Exists.intro);exact ⟨⟨k+1,by omega,by go_num,JR,Eo⟩,rfl⟩)
     case measure=> simp [intOf] <;> omega
    ·obtain rfl:k=m:=by omega
     have JJ:=hZ2.below hbz hZ2.lt
     have KF:=Lib.hid HO.out.txt
     have EZ:=Lib.hid (Fa.out.below hbz)
     clear hbz DX Fa uU
     go_wp2_with fail
     refine (Io.out _ _ _ _ _ EZ.out KF.out (by omega) IJ.out ET.out).mono ?_
     rintro e w5 ⟨rfl,hb5⟩
     have eG:=hbel.trans (hb5.mono hbel.size)
     have rU:=JJ.kept hb5
     have hzl:=rU.lt
     clear hbel hb5 JJ KF EZ HO IJ ET
     go_upto_region 14 with (refine bE rfl 47 _ _ rfl .u8 w5.heap.size 64 (fun _=> 0) TG Tryz.size47 rfl rfl (aI.newAt rfl (by rfl)) ?_)
     refine aD (fun w6=> aI .u8 w6 w5.heap.size 64 TG∧aI .u8 w6 w.heap.size 32 (fun _=> 0)∧Below w.heap.size w w6)
      ⟨(aI.newAt rfl (by rfl):aI .u8 _ _ 64 (fun _=> 0)).setRow _ _,aI.bG (aI.alloc rU _) _ (by omega) _,aF (eG.alloc eG.size _) eG.size _⟩ ?_
     rintro w6 ⟨Cw,vU,hb6⟩
     obtain ⟨q,hq⟩:∃q,q=w5.heap.size:=⟨_,rfl⟩
     rw [←hq] at Cw ⊢
     have LW:=Cw.lt
     have Fj:Hid (∀i,i<32→w6.cell? ⟨q,0+i,none⟩=some (.int .u8 (TG i))):=fun i hi=> by rw [Nat.zero_add];exact Cw.cell i (by omega)
     clear hq rU eG Cw
     simp only [Act.put]
     refine qL (n:=64) 3 (by decide) (by kernel_rfl) (by kernel_rfl) (by kernel_rfl) (by kernel_rfl) rfl
      (fun ii vv _=> (match ii with | 0=> vv=.slice (some ⟨q,0,none⟩) 32 64 | 1=> vv=.pointer (some ⟨q,0,none⟩) | 2=> vv=.agg (arr .u8 32 (TG)) | _=> True))
      (fun _ _ _ _ h _=> h) ?_ ?_
     ·refine Each.all ?_
      refine ⟨?_,?_,?_,(fun h=> absurd h (by decide)),(fun h=> absurd h (by decide)),trivial⟩
      ·intro _ a w2 hB hF hd
       rw [if_pos (ah rfl)]
       exact ak (fun h=> by cases h) (gV rfl (hF.same 14 rfl) (by simp only [Option.map_some,Option.map_none];exact jr (m:=32) Tryz.underlying47 Tryz.size5 (by decide))) rfl
      ·intro _ a w2 hB hF hd
       rw [if_pos (ah rfl)]
       exact ak (fun h=> by cases h) (oO rfl (hd 0 _ rfl (aj rfl)) Tryz.underlying22 (by decide)) rfl
      ·intro _ a w2 hB hF hd
       rw [if_pos (ah rfl)]
       exact ak (fun h=> by cases h) (ny rfl (hd 1 _ rfl (aj rfl)) Tryz.underlying22 Tryz.size22 (fun i hi=> (hB.cell (p:=⟨q,0+i,none⟩) LW).trans (Fj.out i hi))) rfl
     ·intro a w7 hB hF hS
      have ha:=aH rfl rfl hF [_,_,_] rfl ⟨hS 0 _ rfl (by decide),hS 1 _ rfl (by decide),hS 2 _ rfl (by decide),trivial⟩
      simp only [puts,List.take_succ_cons,List.take_zero,Act.put,List.setIfInBounds_toArray,List.set_cons_succ,List.set_cons_zero] at ha
      subst ha
      change tl _ _ _ (_::_:: []) _ _
      clear hS hF
      have xX:=vU.kept hB
      have FH:=hb6.trans (hB.mono hb6.size)
      refine um rfl (aT 22 _ _ rfl .u8 w.heap.size 32 (fun _=> 0) TG Tryz.size22 rfl rfl xX ?_)
      refine zn rfl _ (.inr rfl) (Bg ?_)
      have AJ:=xX.setRow 32 TG
      have Mf:=aF FH (Nat.le_refl _) (arr .u8 32 TG)
      clear vU hb6 xX FH hB
      simp only [Act.put,Act.eval,List.setIfInBounds_toArray,List.set_cons_succ,List.set_cons_zero]
      go_wp2
      exact bodyPost_ret (oV rfl _ _ .u8 w.heap.size 32 _ 5 rfl AJ Tryz.underlying22 Tryz.size22) rfl ⟨rfl,Mf⟩
end Go.Proofs.YtpcjekgfnfjbpaaGreat
