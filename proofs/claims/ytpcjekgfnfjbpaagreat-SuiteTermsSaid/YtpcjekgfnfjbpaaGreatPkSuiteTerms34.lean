/-
  Part 34 of the texts that the proof of SuiteTerms rests on, one after the other. Conditions: named in each theorem.
-/
import Derived.Test.YtpcjekgfnfjbpaaGreatPkSuiteTerms31
import Derived.Test.YtpcjekgfnfjbpaaGreatPkSuiteTerms33
set_option linter.unusedVariables false
set_option linter.unusedSimpArgs false
set_option maxRecDepth 100000
set_option maxHeartbeats 6400000
namespace Go.aG
open Go.RowKit
theorem mD {P:Program} {w:World} {ops:Array Oper} {rest:List Oper} {o:Oper} {a:Act} {Q:Exit→Act→World→Prop} (hg:o.guard=none)
  (s x:Operand) (t:TypeId) (hop:o.op=.call { callee:=.builtin .append,args:=#[s,x],argTypes:=#[t,t] })
  (base:Nat) (e:TypeId) (bytes:Nat) (h1:P.underlying t=some (.slice e)) (hinfo:(P.info? e).map (fun i=> (i.zero,i.size,i.bytes))=some (some (.slice none 0 0),1,bytes))
  (v:Value) (m:Nat) (lens:Nat→Nat) (g:Nat→Nat→Int) (hown:aN e base w v m lens g) (hs:a.eval s=v)
  (u:Value) (m2:Nat) (tC:Nat→Value) (jA:Nat→Nat) (g2:Nat→Nat→Int) (htx:mG w u m2 tC jA g2) (nD:∀j,j<m2→0<jA j→(tC j).ownBlock≠v.ownBlock) (hx:a.eval x=u)
  (b2:(m+m2) * bytes≤140737488355328) (b3:m+m2≤140737488355328) (b4:base≤w.heap.size)
  (hK:∀v' w',aN e base w' v' (m+m2) (bQ m lens jA) (eG m g g2)→w.grownBy w' v.ownBlock→(∀b,v'.ownBlock=some b→base≤b)→Placed w v v'→wpList P ops Q rest (a.put o.dst v') w'):
  wpList P ops Q (o::rest) a w:=
 wpList_plain hg fun _ hK'=> mP s x t hop base e bytes h1 hinfo v m lens g hown hs u m2 tC jA g2 htx nD hx b2 b3 b4 fun v' w' q1 q2 q3 q4=> hK' _ _ (hK v' w' q1 q2 q3 q4)
theorem qX {P:Program} {w:World} {ops:Array Oper} {rest:List Oper} {o:Oper} {a:Act} {Q:Exit→Act→World→Prop} (hg:o.guard=none) (d s:Operand) (dT sT:TypeId) (ho:o.op=.call { callee:=.builtin .copy,args:=#[d,s],argTypes:=#[dT,sT] }) {e:TypeId} {k:IntKind} (g off dLen dCap n:Nat) (f:Nat→Int) (hu:P.underlying dT=some (.slice e)) (hsz:(P.info? e).map (·.size)=some 1)
  (hd:a.eval d=.slice (some ⟨g,off,none⟩) dLen dCap) (hA:aI k w g n f) (u:Value) (m:Nat) (h:Nat→Int) (hr:Rd k w u m h) (hs:a.eval s=u) (hm:m≤dLen) (hf:off+m≤n)
  (hK:wpList P ops Q rest (a.put o.dst (goInt m)) (w.setRow g (arr k n (laid f off m h)))):wpList P ops Q (o::rest) a w:=
 wpList_plain hg fun _ hK'=> gJ d s dT sT ho g off dLen dCap n f hu hsz hd hA u m h hr hs hm hf (hK' _ _ hK)
theorem AP {w w':World} {v u:Value} {n m:Nat} {f g:Nat→Int} {T:TypeId} (h:Rd .u8 w v n f) (h':Rd .u8 w u m g) (hb:Below w.heap.size w w'):
  jU (w'.alloc (.cells [v,u].toArray T)) (.slice (some ⟨w'.heap.size,0,none⟩) 2 2) 2 (bQ 1 (fun _=> n) (fun _=> m)) (eG 1 (fun _=> f) (fun _=> g)):=
 jU.new (by decide) fun j hj=> by
  rcases (by omega:j=0∨j=1) with rfl | rfl
  ·exact ⟨v,rfl,h.below hb⟩
  ·exact ⟨u,rfl,h'.below hb⟩
end Go.aG
namespace Go.Proofs.YtpcjekgfnfjbpaaGreat
open Go.RowKit Go.aG
attribute [local go_sem ↓] Go.wp_at_zero Go.wp_at_succ
theorem Tryz.infoTxt:(Tryz.prog.info? 23).map (fun i=> (i.zero,i.size,i.bytes))=some (some (.slice none 0 0),1,24):=by kernel_rfl
theorem Tryz.undTxt:Tryz.prog.underlying 55=some (.slice 23):=by kernel_rfl
theorem jY (v:Value) (a m n:Nat) (lens:Nat→Nat) (f F:Nat→Int) (g:Nat→Nat→Int) (w:World) (hv:jU w v (1+m) (bQ 1 (fun _=> a) lens) (eG 1 (fun _=> f) g)) (hg:∀j,j<m→∀i,i<lens j→F (aQ lens j+i)=g j i) (hn:aQ lens m=n) (hl:a+n≤1000000)
  (hf:∀i,i<a→0≤f i∧f i<256) (hF:∀i,i<n→0≤F i∧F i<256):
  Calls Tryz.prog 139 #[v] w fun e w'=> e=.returned (.agg (arr .u8 64 (gG (a+n) (gB a f F))))∧Below w.heap.size w w':=by
 have h1:aQ (fun _=> a) 1=a:=by simp [aQ]
 have h2:=iC (F1:=f) (F2:=F) (oW (f:=f) (n:=a)).1 hg
 rw [h1] at h2
 exact tL v (1+m) _ _ (a+n) _ w hv h2 (by rw [gU,h1,hn]) hl (dx hf hF)
theorem qW (v:Value) (n:Nat) (key:Nat→Int) (c:Int) (w:World) (hv:Rd .u8 w v n key) (hn:n≤1000000) (hk:∀i,i<n→0≤key i∧key i<256) (hc:0≤c∧c<256):
  Calls Tryz.prog 227 #[v,.int .u8 c] w fun e w'=> ∃u,e=.returned u∧Rd .u8 w' u 128 (qE n key c)∧Below w.heap.size w w':=by
 obtain ⟨PK,FW⟩:∃PK,PK=qE n key c:=⟨_,rfl⟩
 have HK:=Lib.hid hk
 have GK:Hid (∀i,0≤ny n key i∧ny n key i<256):=sN hk
 have BO:Hid (∀i,bits .xor .u8 (ny n key i) c=PK i):=by rw [FW];exact fun i=> rfl
 obtain ⟨KK,EM⟩:∃KK,KK=ny n key:=⟨_,rfl⟩
 have GL:Hid (128<n→∀i,i<128→laid (fun _=> 0) 0 64 (gG n key) i=KK i):=by
  rw [EM];intro h i hi
  unfold laid ny
  rw [if_pos h]
  by_cases q:i<64
  ·rw [if_pos (by omega),if_pos q,Nat.sub_zero]
  ·rw [if_neg (by omega),if_neg q]
 have Lr:Hid (¬ 128<n→∀i,i<128→laid (fun _=> 0) 0 n key i=KK i):=by
  rw [EM];intro h i hi
  unfold laid ny
  rw [if_neg h]
  by_cases q:i<n
  ·rw [if_pos (by omega),if_pos q,Nat.sub_zero]
  ·rw [if_neg (by omega),if_neg q]
 rw [←FW]
 rw [←EM] at GK BO
 have HV:=Lib.hid hv
 have HS:=Lib.hid (fun v w (h:jU w v 1 (fun _=> n) (fun _=> key))=> wC v n key w h hn hk)
 obtain ⟨va,vc,rfl,v1,v2,_,_⟩:=hv
 obtain ⟨c0,c1⟩:=hc
 clear hk FW EM
 by_cases hlong:128<n
 case' pos=>
  go_enter Tryz.func227,Tryz.ntmps227
  go_wp2_with fail
  refine (HS.out _ _ (new1 (T:=23) HV.out (Below.refl _ _))).mono ?_
  rintro e w1 ⟨rfl,hb1⟩
  have uo:Below w.heap.size w w1:=((Below.refl w.heap.size w).alloc (Nat.le_refl _) _).trans (hb1.mono (by simp))
  clear hb1
  go_upto_region 3 with (refine bq rfl 47 _ _ rfl .u8 w1.heap.size 64 (fun _=> 0) _ Tryz.size47 rfl rfl (aI.newAt rfl (by rfl)) ?_)
  refine aF (fun w2=> aI .u8 w2 w1.heap.size 64 (gG n key)∧Below w.heap.size w w2) ⟨(aI.newAt rfl (by rfl):aI .u8 _ _ 64 (fun _=> 0)).setRow _ _,aD (uo.alloc uo.size _) uo.size _⟩ ?_
  rintro w2 ⟨hA,hb2⟩
  obtain ⟨q,hq⟩:∃q,q=w1.heap.size:=⟨_,rfl⟩
  rw [←hq] at hA ⊢
  clear hq uo
  simp only [Act.put]
  go_upto_region 3 with (fail)
  refine aP (n:=33) (by kernel_rfl) (by kernel_rfl) (by kernel_rfl) rfl
   (fun ii vv _=> (match ii with | 0 | 1=> vv=.slice (some ⟨q,0,none⟩) 64 64 | _=> True))
   (fun w w'=> Below w.heap.size w w') (fun _ _ h=> h) (fun _ _ _ _ h _=> h) ?_ ?_
  ·refine Each.all ?_
   refine ⟨?_,?_,trivial⟩
   ·intro a w2 hB hF hd
    rw [if_pos (ah rfl)]
    exact ak (fun h=> by cases h) (dB rfl (hF.same 5 rfl) Tryz.underlying47 (by kernel_rfl)) rfl
   ·intro a w2 hB hF hd
    rw [if_pos (ah rfl)]
    exact aA _ (.inr rfl) (by simp) (hd 0 _ rfl (aj rfl))
  ·intro a w3 hB hF hS
   have ha:=aH rfl rfl hF [_,_] rfl ⟨hS 0 _ rfl,hS 1 _ rfl,trivial⟩
   simp only [puts,Act.put,List.setIfInBounds_toArray,List.set_cons_succ,List.set_cons_zero] at ha
   subst ha
   clear hS hF
   have hb3:=hb2.trans (hB.mono hb2.size)
   have hs3:=hb3.size
   have Cr:Hid (Rd .u8 w3 (.slice (some ⟨q,0,none⟩) 64 64) 64 (gG n key)):=(hA.kept hB).rd (by decide)
   have HL:Hid (∀i,i<128→laid (fun _=> 0) 0 64 (gG n key) i=KK i):=GL.out hlong
   obtain ⟨k0,hk0⟩:∃k0,k0=gG n key:=⟨_,rfl⟩
   rw [←hk0] at Cr HL
   clear hA hb2 hB hk0
   go_upto_region 6 with (first
    | (refine jO rfl _ _ 23 rfl w.heap.size 5 .u8 1 Tryz.underlying23 Tryz.info5 .i64 .i64 128 rfl rfl (by decide) (by decide) hb3.size ?_;intro w4 hown hgrow;have yH:=hown.rows.arr;have xQ:=Cr.out.below (bI (Below.refl w3.heap.size w3) hgrow (Nat.le_refl _)))
    | (refine qX rfl _ _ 23 23 rfl (e:=5) (k:=.u8) w3.heap.size 0 128 128 128 (fun _=> 0) Tryz.underlying23 Tryz.size5 rfl yH _ 64 k0 xQ rfl (by omega) (by omega) ?_))
   refine aF (fun w5=> aI .u8 w5 w3.heap.size 128 KK∧Below w.heap.size w w5) ⟨(yH.setRow _ _).congr HL.out,aD (bI hb3 hgrow hs3) hs3 _⟩ ?_
   rintro w5 ⟨qR,hb5⟩
   obtain ⟨G,hG⟩:∃G,G=w3.heap.size:=⟨_,rfl⟩
   have Ga:w.heap.size≤G:=by rw [hG];exact hs3
   rw [←hG] at qR ⊢
   clear hG yH xQ hown hgrow Cr HL
   simp only [Act.put,List.setIfInBounds_toArray,List.set_cons_succ,List.set_cons_zero]
   go_wp2
   go_loopw [21] (fun u wr=> ∃i:Nat,i≤128∧u=.int .i64 (i:Int)∧aI .u8 wr G 128 (upto i PK KK)∧Below w.heap.size w wr) (fun u _=> 128 - (intOf u).toNat)
   case atStart=> exact ⟨0,Nat.zero_le _,rfl,by rw [ig];exact qR,hb5⟩
   case round=>
    clear qR hb5
    obtain ⟨i,hi,rfl,hA,hbel⟩:=hrel
    have HA:=Lib.hid hA
    clear hA
    by_cases hlt:i<128
    ·have e1:=HA.out.cell i hlt
     rw [upto_at] at e1
     have f1:=HA.out.free i
     obtain ⟨x,hx⟩:∃x,x=KK i:=⟨_,rfl⟩
     have x01:=GK.out i
     have hp:=BO.out i
     rw [←hx] at e1 x01 hp
     have HX:=Lib.hid hx
     obtain ⟨x0,x1⟩:=x01
     clear hx
     go_wp2
     go_roundw
     case rel=> exact ⟨i+1,by omega,by go_num,by rw [←iq (j:=i) (g:=PK) (f:=KK) rfl];exact HA.out.set i _,hbel.setCell Ga _⟩
     case measure=> simp [intOf] <;> omega
    ·obtain rfl:i=128:=by omega
     have hR:=(HA.out.congr (g:=PK) (iw PK KK (Nat.le_refl _))).rd (by decide)
     clear HA
     go_wp2
     go_ret
     exact ⟨_,rfl,hR,hbel⟩
 case' neg=>
  go_enter Tryz.func227,Tryz.ntmps227
  have Ii:n≤128:=by omega
  have Cr:=HV
  have HL:Hid (∀i,i<128→laid (fun _=> 0) 0 n key i=KK i):=Lr.out hlong
  go_upto_region 6 with (first
   | (refine jO rfl _ _ 23 rfl w.heap.size 5 .u8 1 Tryz.underlying23 Tryz.info5 .i64 .i64 128 rfl rfl (by decide) (by decide) (Nat.le_refl _) ?_;intro w4 hown hgrow;have yH:=hown.rows.arr;have xQ:=Cr.out.below (bI (Below.refl w.heap.size w) hgrow (Nat.le_refl _)))
   | (refine qX rfl _ _ 23 23 rfl (e:=5) (k:=.u8) w.heap.size 0 128 128 128 (fun _=> 0) Tryz.underlying23 Tryz.size5 rfl yH _ n key xQ rfl (by omega) (by omega) ?_))
  refine aF (fun w5=> aI .u8 w5 w.heap.size 128 KK∧Below w.heap.size w w5) ⟨(yH.setRow _ _).congr HL.out,aD (bI (Below.refl _ _) hgrow (Nat.le_refl _)) (Nat.le_refl _) _⟩ ?_
  rintro w5 ⟨qR,hb5⟩
  obtain ⟨G,hG⟩:∃G,G=w.heap.size:=⟨_,rfl⟩
  have Ga:w.heap.size≤G:=by rw [hG];exact (Nat.le_refl _)
  rw [←hG] at qR ⊢
  clear hG yH xQ hown hgrow Cr HL
  simp only [Act.put,List.setIfInBounds_toArray,List.set_cons_succ,List.set_cons_zero]
  go_wp2
  go_loopw [21] (fun u wr=> ∃i:Nat,i≤128∧u=.int .i64 (i:Int)∧aI .u8 wr G 128 (upto i PK KK)∧Below w.heap.size w wr) (fun u _=> 128 - (intOf u).toNat)
  case atStart=> exact ⟨0,Nat.zero_le _,rfl,by rw [ig];exact qR,hb5⟩
  case round=>
   clear qR hb5
   obtain ⟨i,hi,rfl,hA,hbel⟩:=hrel
   have HA:=Lib.hid hA
   clear hA
   by_cases hlt:i<128
   ·have e1:=HA.out.cell i hlt
    rw [upto_at] at e1
    have f1:=HA.out.free i
    obtain ⟨x,hx⟩:∃x,x=KK i:=⟨_,rfl⟩
    have x01:=GK.out i
    have hp:=BO.out i
    rw [←hx] at e1 x01 hp
    have HX:=Lib.hid hx
    obtain ⟨x0,x1⟩:=x01
    clear hx
    go_wp2
    go_roundw
    case rel=> exact ⟨i+1,by omega,by go_num,by rw [←iq (j:=i) (g:=PK) (f:=KK) rfl];exact HA.out.set i _,hbel.setCell Ga _⟩
    case measure=> simp [intOf] <;> omega
   ·obtain rfl:i=128:=by omega
    have hR:=(HA.out.congr (g:=PK) (iw PK KK (Nat.le_refl _))).rd (by decide)
    clear HA
    go_wp2
    go_ret
    exact ⟨_,rfl,hR,hbel⟩
theorem yc (vk:Value) (nk:Nat) (key:Nat→Int) (vp:Value) (m:Nat) (lens:Nat→Nat) (g:Nat→Nat→Int) (n:Nat) (F:Nat→Int) (w:World) (hv:Rd .u8 w vk nk key) (hk1:nk≤1000000) (hk:∀i,i<nk→0≤key i∧key i<256)
  (hp:jU w vp m lens g) (hm:m≤1000000) (hg:∀j,j<m→∀i,i<lens j→F (aQ lens j+i)=g j i) (hn:aQ lens m=n) (hn2:n≤900000) (hF:∀i,i<n→0≤F i∧F i<256):
  Calls Tryz.prog 177 #[vk,vp] w fun e w'=> e=.returned (.agg (arr .u8 64 (qh nk key n F)))∧Below w.heap.size w w':=by
 obtain ⟨K1,hK1⟩:∃K1,K1=qE nk key 54:=⟨_,rfl⟩
 obtain ⟨K2,hK2⟩:∃K2,K2=qE nk key 92:=⟨_,rfl⟩
 have Jw:=Lib.hid (fun w h=> qW vk nk key 54 w h hk1 hk (by decide))
 have Jv:=Lib.hid (fun w h=> qW vk nk key 92 w h hk1 hk (by decide))
 have HB1:Hid (∀i,i<128→0≤K1 i∧K1 i<256):=by rw [hK1];exact fun i _=> lU _ _ _ i
 have HB2:Hid (∀i,i<128→0≤K2 i∧K2 i<256):=by rw [hK2];exact fun i _=> lU _ _ _ i
 obtain ⟨S1,hS1⟩:∃S1,S1=gG (128+n) (gB 128 K1 F):=⟨_,rfl⟩
 have zP:Hid (∀i,i<64→0≤S1 i∧S1 i<256):=by rw [hS1];exact fun i _=> iL _ _ i
 obtain ⟨TG,Bz⟩:∃TG,TG=gG (128+64) (gB 128 K2 S1):=⟨_,rfl⟩
 have Jr:=Lib.hid (fun v w h=> jY v 128 m n lens K1 F g w h hg hn (by omega) HB1.out hF)
 have HS2:=Lib.hid (fun v w h=> jY v 128 1 64 (fun _=> 64) K2 S1 (fun _=> S1) w h (oW (f:=S1) (n:=64)).1 (oW (f:=S1) (n:=64)).2 (by decide) HB2.out zP.out)
 have e1:qh nk key n F=TG:=by rw [Bz,hS1,hK1,hK2];rfl
 rw [e1]
 rw [←hS1] at Jr
 rw [←Bz] at HS2
 rw [←hK1] at Jw
 rw [←hK2] at Jv
 have HV:=Lib.hid hv
 have HT:=Lib.hid hp
 obtain ⟨va,vc,rfl,v1,v2,_,_⟩:=hv
 obtain ⟨pa,pc,rfl,p1,p2,_⟩:=hp
 clear hk hg hn hF hS1 Bz e1 hK1 hK2
 go_enter Tryz.func177,Tryz.ntmps177
 go_upto_region 1 with (fail)
 refine aF (fun w1=> aI .u8 w1 w.heap.size 64 (fun _=> 0)∧Below w.heap.size w w1∧w1.heap.size=w.heap.size+1) ⟨aI.newAt rfl (by rfl),(Below.refl _ _).alloc (Nat.le_refl _) _,by simp⟩ ?_
 rintro w1 ⟨hZ,hb1,hs1⟩
 have Gv:=Lib.hid (HV.out.below hb1)
 have HT1:=Lib.hid (HT.out.below hb1)
 clear HV HT
 go_wp2_with fail
 refine (Jw.out _ Gv.out).mono ?_
 rintro e w2 ⟨u,rfl,hu,hb2⟩
 have hZ2:=hZ.kept hb2
 have eT:=hb1.trans (hb2.mono hb1.size)
 have Jm:=Lib.hid (Gv.out.below hb2)
 obtain ⟨us,hU⟩:=(HT1.out.below hb2).Cy
 have HU:=Lib.hid hU
 have Jo:=Lib.hid hu
 have hs2:=eT.size
 clear hZ hb1 hs1 hb2 Gv HT1 hU hu
 obtain ⟨ua,uc,rfl,u1,u2,_,_⟩:=id Jo.out
 have IE:=Lib.hid (aN.Fw (e:=23) (Nat.le_refl w2.heap.size) Jo.out)
 have Iw:=Lib.hid (HU.out.below ((Below.refl w2.heap.size w2).alloc (Nat.le_refl _) (.cells #[.slice ua 128 uc] 23)))
 have hF1:=Lib.hid (HU.out.far (u:=.slice (some ⟨w2.heap.size,0,none⟩) 1 1) (by intro b hb;simp [Value.ownBlock] at hb;omega))
 go_wp2_with (at_builtin;refine mD rfl _ _ 55 rfl w2.heap.size 23 24 Tryz.undTxt Tryz.infoTxt _ 1 (fun _=> 128) (fun _=> K1) IE.out rfl _ m us lens g Iw.out hF1.out rfl (by omega) (by omega) (by simp) ?_;intro v3 w3 hown3 Bq FP FH)
 have hb3:Below w.heap.size w w3:=(eT.alloc hs2 _).grown Bq (by simp;omega) (fun b hb=> by simp [Value.ownBlock] at hb;omega)
 have hlow:Below w2.heap.size w2 w3:=((Below.refl w2.heap.size w2).alloc (Nat.le_refl _) _).grown Bq (by simp) (fun b hb=> by simp [Value.ownBlock] at hb;omega)
 have Jl:=Lib.hid (Jm.out.below hlow)
 have hZ3:=hZ2.kept hlow
 have HT3:=Lib.hid hown3.txt
 clear hown3 Bq FP FH hZ2 eT Jm HU IE Iw hF1 hlow
 refine (Jr.out _ _ HT3.out).mono ?_
 rintro e w4 ⟨rfl,hb4⟩
 have kF:=hb3.trans (hb4.mono hb3.size)
 have EU:=Lib.hid (Jl.out.below hb4)
 have Cg:=hZ3.kept hb4
 have hzl:=Cg.lt
 clear hb3 hb4 Jl hZ3 HT3
 go_upto_region 2 with (refine bq rfl 47 _ _ rfl .u8 w4.heap.size 64 (fun _=> 0) S1 Tryz.size47 rfl rfl (aI.newAt rfl (by rfl)) ?_)
 refine aF (fun w5=> aI .u8 w5 w4.heap.size 64 S1∧aI .u8 w5 w.heap.size 64 (fun _=> 0)∧Below w.heap.size w w5∧Rd .u8 w5 (.slice va nk vc) nk key)
  ⟨(aI.newAt rfl (by rfl):aI .u8 _ _ 64 (fun _=> 0)).setRow _ _,aI.bA (aI.alloc Cg _) _ (by omega) _,aD (kF.alloc kF.size _) kF.size _,EU.out.below (aD ((Below.refl w4.heap.size w4).alloc (Nat.le_refl _) _) (Nat.le_refl _) _)⟩ ?_
 rintro w5 ⟨qR,rE,hb5,hv5⟩
 have HV5:=Lib.hid hv5
 obtain ⟨q,hq⟩:∃q,q=w4.heap.size:=⟨_,rfl⟩
 rw [←hq] at qR ⊢
 clear hq Cg kF hv5 EU
 simp only [Act.put]
 refine bW (n:=17) 5 rfl (by decide) (by kernel_rfl) (by kernel_rfl) (by kernel_rfl) (by kernel_rfl) rfl
  (fun ii vv ww=> (match ii with | 0=> vv=.slice va nk vc | 2=> vv=.slice (some ⟨q,0,none⟩) 64 64 | 4=> vv=.agg (arr .u8 64 (TG)) | _=> True)∧(ii=1→Rd .u8 ww vv 128 (K2))∧(ii=3→jU ww vv 2 (bQ 1 (fun _=> 128) (fun _=> 64)) (eG 1 (fun _=> K2) (fun _=> S1))))
  (fun w w'=> Below w.heap.size w w') (fun _ _ h=> h) (fun i v w w' h hE=> ⟨h.1,fun e=> Rd.below (h.2.1 e) hE,fun e=> jU.below (h.2.2 e) hE⟩) rfl ?_ ?_
 ·refine Each.all ?_
  refine ⟨?_,?_,?_,?_,?_,(fun h=> absurd rfl h),trivial⟩
  ·intro _ a w2 hB hF hd
   rw [if_pos (ah rfl)]
   exact aA _ (.inl rfl) (by simp) ⟨(hF.same 0 rfl),fun h=> absurd h (by decide),fun h=> absurd h (by decide)⟩
  ·intro _ a w2 hB hF hd
   rw [if_pos (ah rfl)]
   refine aL _ _ _ rfl Tryz.call227 _ (args2 ((hd 0 _ rfl (aj rfl)).1) rfl) (by simp) ((Jv.out _ (HV5.out.below hB)).mono ?_)
   rintro e w3 ⟨u,rfl,hr,hb⟩;exact ⟨u,rfl,⟨trivial,fun _=> hr,fun h=> absurd h (by decide)⟩,hb⟩
  ·intro _ a w2 hB hF hd
   rw [if_pos (ah rfl)]
   exact ak (fun h=> by cases h) (dB rfl (hF.same 5 rfl) Tryz.underlying47 (by kernel_rfl)) ⟨rfl,fun h=> absurd h (by decide),fun h=> absurd h (by decide)⟩
  ·intro _ a w2 hB hF hd
   rw [if_pos (ah rfl)]
   exact jR 55 23 2 _ [a.eval (Operand.tmp 13),.slice (some ⟨q,0,none⟩) 64 64] rfl Tryz.underlying55 (by kernel_rfl) (by kernel_rfl) rfl (by decide) (by decide) (by intro v hv;simp only [List.mem_cons,List.not_mem_nil,or_false] at hv;rcases hv with rfl | rfl;exact Rd.pq ((hd 1 _ rfl (aj rfl)).2.1 rfl);rfl) (by simp only [List.map_toArray,List.map_cons,List.map_nil,show a.eval (Operand.tmp 14)=.slice (some ⟨q,0,none⟩) 64 64 from ((hd 2 _ rfl (aj rfl)).1)];rfl) (by simp) ⟨trivial,fun h=> absurd h (by decide),fun _=> (AP ((hd 1 _ rfl (aj rfl)).2.1 rfl) ((qR.kept hB).rd (by decide)) (Below.refl _ _))⟩
  ·intro _ a w2 hB hF hd
   rw [if_pos (ah rfl)]
   refine aL _ _ _ rfl Tryz.call139 _ (args1 rfl) (by simp) ((HS2.out _ _ ((hd 3 _ rfl (aj rfl)).2.2 rfl)).mono ?_)
   rintro e w3 ⟨rfl,hb⟩;exact ⟨_,rfl,⟨rfl,fun h=> absurd h (by decide),fun h=> absurd h (by decide)⟩,hb⟩
 ·intro a w6 hB hF hS
  obtain ⟨JR,CU⟩:∃x,x=a.tmps.getD 13 undef:=⟨_,rfl⟩
  obtain ⟨JQ,CQ⟩:∃x,x=a.tmps.getD 15 undef:=⟨_,rfl⟩
  have ha:=aH rfl rfl hF [_,JR,_,JQ,_,undef] rfl ⟨(hS 0 _ rfl (by decide)).1,CU.symm,(hS 2 _ rfl (by decide)).1,CQ.symm,(hS 4 _ rfl (by decide)).1,trivial,trivial⟩
  simp only [puts,Act.put,List.setIfInBounds_toArray,List.set_cons_succ,List.set_cons_zero] at ha
  subst ha
  clear CU CQ
  clear hS hF
  have vJ:=rE.kept hB
  have hb6:=hb5.trans (hB.mono hb5.size)
  refine aU 47 _ _ rfl .u8 w.heap.size 64 (fun _=> 0) TG Tryz.size47 rfl rfl vJ ?_
  have xO:=vJ.setRow 64 TG
  have EK:=aD hb6 (Nat.le_refl _) (arr .u8 64 TG)
  clear rE hb5 qR vJ hb6 hB
  go_wp2
  exact bodyPost_ret (bD rfl _ _ .u8 w.heap.size 64 _ 5 rfl xO Tryz.underlying47 Tryz.size47) rfl ⟨rfl,EK⟩
end Go.Proofs.YtpcjekgfnfjbpaaGreat
namespace Go.Proofs.YtpcjekgfnfjbpaaGreat
open Go.RowKit Go.aG
attribute [local go_sem ↓] Go.wp_at_zero Go.wp_at_succ
theorem xA (a:Option Addr) (n c:Nat) (h1:n≤1048576) (w:World):Calls Tryz.prog 175 #[.slice a n c] w fun e w'=> e=.returned (.bool false)∧w=w':=by
 have hl:decide ((1048576:Int)<(n:Int))=false:=decide_eq_false (by omega)
 go_enter Tryz.func175,Tryz.ntmps175
 go_wp2
 go_ret
 exact ⟨rfl,rfl⟩
theorem qK (v:Value) (m:Nat) (lens:Nat→Nat) (g:Nat→Nat→Int) (w:World) (hv:jU w v m lens g) (hl:∀j,j<m→lens j≤1048576):
  Calls Tryz.prog 226 #[v,.func (.func 175) #[] #[]] w fun e w'=> e=.returned (.int .i64 (-1))∧w=w':=by
 have HL:=Lib.hid hl
 obtain ⟨ta,tc,rfl,t1,t2,t3⟩:=hv
 have HT3:=Lib.hid t3
 clear hl t3
 go_enter Tryz.func226,Tryz.ntmps226
 go_wp2
 go_loop [8] (fun i=> ∃k:Nat,k≤m∧i=.int .i64 (k:Int)) (fun i=> m - (intOf i).toNat)
 case atStart=> exact ⟨0,Nat.zero_le _,rfl⟩
 case round=>
  obtain ⟨k,hk,rfl⟩:=hrel
  by_cases hlt:k<m
  ·obtain ⟨tb,to,rfl,EB,jX⟩:=HT3.out (by omega)
   obtain ⟨u,hu,zw⟩:=jX k hlt
   obtain ⟨ua,uc,rfl,_,_,_,_⟩:=zw
   have hlk:=HL.out k hlt
   clear jX
   go_wp2_with fail
   refine (xA _ _ _ hlk _).mono ?_
   rintro e w1 ⟨rfl,rfl⟩
   go_wp2
   go_round
   case rel=> exact ⟨k+1,by omega,by go_num⟩
   case measure=> simp [intOf];omega
  ·obtain rfl:k=m:=by omega
   go_wp2
   go_ret
   exact ⟨rfl,rfl⟩
theorem qQ (v:Value) (m:Nat) (lens:Nat→Nat) (g:Nat→Nat→Int) (w:World) (hv:jU w v m lens g) (hl:∀j,j<m→lens j≤1048576):
  Calls Tryz.prog 176 #[v,.func (.func 175) #[] #[]] w fun e w'=> e=.returned (.bool false)∧Below w.heap.size w w':=by
 have H:=Lib.hid (qK v m lens g w hv hl)
 clear hv hl
 go_enter Tryz.func176,Tryz.ntmps176
 go_wp2_with fail
 refine H.out.mono ?_
 rintro e w1 ⟨rfl,rfl⟩
 go_wp2
 go_ret
 exact ⟨rfl,Below.refl _ _⟩
theorem yg (vf:Value) (nf:Nat) (from_:Nat→Int) (s:ByteArray) (vc:Value) (m:Nat) (lens:Nat→Nat) (g:Nat→Nat→Int) (w:World) (hf:Rd .u8 w vf nf from_) (hf0:0<nf) (hf1:nf≤1000000) (Il:∀i,i<nf→0≤from_ i∧from_ i<256)
  (hs:s.size≤64) (hc:jU w vc m lens g) (hm:m≤16) (hl:∀j,j<m→lens j≤4000) (hg:∀j,j<m→∀i,i<lens j→0≤g j i∧g j i<256):
  Calls Tryz.prog 120 #[vf,.string s,vc] w fun e w'=> e=.returned (.tuple #[.agg (arr .u8 32 (qh nf from_ (iX s.size lens m) (nA s.size (iO s) lens g m))),.int .i64 0])∧Below w.heap.size w w':=by
 obtain ⟨NN,Ci⟩:∃NN,NN=iX s.size lens:=⟨_,rfl⟩
 obtain ⟨FF,xR⟩:∃FF,FF=nA s.size (iO s) lens g:=⟨_,rfl⟩
 have Cq:Hid (NN m≤900000):=by
  unfold Hid
  rw [Ci]
  have h1:=zu (L:=s.size) hl m (Nat.le_refl _)
  have h2:m * (4+4000)≤16 * (4+4000):=Nat.mul_le_mul_right _ hm
  omega
 have Lv:Hid (∀i,i<NN m→0≤FF m i∧FF m i<256):=by rw [Ci,xR];exact sO (by omega) (fun i _=> rW s i) hg m (Nat.le_refl _)
 have HST:Hid (∀e base w v,aN e base w v 2 (bQ 1 (fun _=> 1) (fun _=> s.size)) (eG 1 (fun _=> fun _=> (s.size:Int)) (fun _=> iO s))→Parts e base w v 0 (NN 0) (FF 0)):=by rw [Ci,xR];exact fun e base w v h=> Parts.start h
 have vU:Hid (∀e base w' v' k l1 g1,(∀j,j<2+2 * k→∀i,i<l1 j→FF k (aQ l1 j+i)=g1 j i)→aQ l1 (2+2 * k)=NN k→
   aN e base w' v' (2+2 * k+2) (bQ (2+2 * k) l1 (bQ 1 (fun _=> 4) (fun _=> lens k))) (eG (2+2 * k) g1 (eG 1 (fun _=> qC (lens k)) (fun _=> g k)))→Parts e base w' v' (k+1) (NN (k+1)) (FF (k+1))):=by
  rw [Ci,xR];exact fun e base w' v' k l1 g1 h1 h2 h3=> Parts.step (w:=w') (v:=v') h1 h2 h3
 obtain ⟨TG,Bz⟩:∃TG,TG=qh nf from_ (NN m) (FF m):=⟨_,rfl⟩
 have Gw:Hid (∀vp mm l1 g1 w,Rd .u8 w vf nf from_→jU w vp mm l1 g1→mm≤1000000→(∀j,j<mm→∀i,i<l1 j→FF m (aQ l1 j+i)=g1 j i)→aQ l1 mm=NN m→
   Calls Tryz.prog 177 #[vf,vp] w fun e w'=> e=.returned (.agg (arr .u8 64 TG))∧Below w.heap.size w w'):=by
  rw [Bz];exact fun vp mm l1 g1 w h1 h2 h3 h4 h5=> yc vf nf from_ vp mm l1 g1 (NN m) (FF m) w h1 hf1 Il h2 h3 h4 h5 Cq.out Lv.out
 have JG:=Lib.hid (fun w h=> qQ vc m lens g w h (fun j hj=> by have:=hl j hj;omega))
 have e1:qh nf from_ (iX s.size lens m) (nA s.size (iO s) lens g m)=TG:=by rw [Bz,Ci,xR]
 rw [e1]
 obtain ⟨L,hL⟩:∃L,L=s.size:=⟨_,rfl⟩
 have HSL:Hid (s.size=L):=hL.symm
 have Kw:L≤64:=by omega
 rw [←hL] at HST
 obtain ⟨lab,hlab⟩:∃lab,lab=iO s:=⟨_,rfl⟩
 rw [←hlab] at HST
 have GJ:Hid (iO s=lab):=hlab.symm
 have Lp:=Lib.hid hl
 have JH:=Lib.hid hf
 have HC:=Lib.hid hc
 obtain ⟨fa,fc,rfl,f1,f2,_,_⟩:=hf
 obtain ⟨ca,cc,rfl,c1,c2,c3⟩:=hc
 have GU:=Lib.hid c3
 have hlen:s.size≤64:=hs
 clear Il hg hl Ci xR Bz e1 hL hlab c3 hs
 go_enter Tryz.func120,Tryz.ntmps120
 go_upto_region 1 with (fail)
 refine aF (fun w1=> aI .u8 w1 w.heap.size 32 (fun _=> 0)∧Below w.heap.size w w1∧w1.heap.size=w.heap.size+1) ⟨aI.newAt rfl (by rfl),(Below.refl _ _).alloc (Nat.le_refl _) _,by simp⟩ ?_
 rintro w1 ⟨hZ,hb1,hs1⟩
 have Es:=Lib.hid (JH.out.below hb1)
 have vS:=Lib.hid (HC.out.below hb1)
 clear JH HC
 have hnf:((nf:Int)==0)=false:=by simp;omega
 go_upto_region 4 with (fail)
 refine aP (n:=64) (by kernel_rfl) (by kernel_rfl) (by kernel_rfl) rfl
  (fun ii vv _=> (match ii with | 0=> vv=.string s | 1=> vv=.int .i64 ((s.size:Int)) | 2 | 3 | 6 | 7 | 8 | 11 | 12=> vv=.bool false | 4 | 9=> vv=.slice ca m cc | 5=> vv=.int .i64 ((m:Int)) | 10=> vv=.func (.func 175) #[] #[] | _=> True))
  (fun w w'=> Below w.heap.size w w') (fun _ _ h=> h) (fun _ _ _ _ h _=> h) ?_ ?_
 ·refine Each.all ?_
  refine ⟨?_,?_,?_,?_,?_,?_,?_,?_,?_,?_,?_,?_,?_,trivial⟩
  ·intro a w2 hB hF hd
   rw [if_pos (ah rfl)]
   exact aA _ (.inl rfl) (by simp) (hF.same 1 rfl)
  ·intro a w2 hB hF hd
   rw [if_pos (ah rfl)]
   exact ak (fun h=> by cases h) (kg rfl (hd 0 _ rfl (aj rfl)) Tryz.underlying9) rfl
  ·intro a w2 hB hF hd
   rw [if_pos (ah rfl)]
   exact ak (fun h=> by cases h) (Go.aG.tT rfl (hd 1 _ rfl (aj rfl)) rfl) (congrArg Value.bool (decide_eq_false (by omega)))
  ·intro a w2 hB hF hd
   rw [if_pos (ah rfl)]
   exact aA _ (.inl rfl) (by simp) (hd 2 _ rfl (aj rfl))
  ·intro a w2 hB hF hd
   refine bN (cZ rfl rfl (hd 3 _ rfl (aj rfl)) rfl) ?_
   exact aA _ (.inl rfl) (by simp) (hF.same 2 rfl)
  ·intro a w2 hB hF hd
   refine bN (cZ rfl rfl (hd 3 _ rfl (aj rfl)) rfl) ?_
   exact ak (fun h=> by cases h) (rY rfl (hd 4 _ rfl (aj rfl)) Tryz.underlying55) rfl
  ·intro a w2 hB hF hd
   refine bN (cZ rfl rfl (hd 3 _ rfl (aj rfl)) rfl) ?_
   exact ak (fun h=> by cases h) (Go.aG.tT rfl (hd 5 _ rfl (aj rfl)) rfl) (congrArg Value.bool (decide_eq_false (by omega)))
  ·intro a w2 hB hF hd
   rw [if_pos (ah rfl)]
   exact ak (fun h=> by cases h) (qp rfl (hd 3 _ rfl (aj rfl))) ((hd 6 _ rfl (aj rfl)))
  ·intro a w2 hB hF hd
   rw [if_pos (ah rfl)]
   exact aA _ (.inl rfl) (by simp) (hd 7 _ rfl (aj rfl))
  ·intro a w2 hB hF hd
   refine bN (cZ rfl rfl (hd 8 _ rfl (aj rfl)) rfl) ?_
   exact aA _ (.inl rfl) (by simp) (hF.same 2 rfl)
  ·intro a w2 hB hF hd
   refine bN (cZ rfl rfl (hd 8 _ rfl (aj rfl)) rfl) ?_
   exact aA _ (.inl rfl) (by simp) (hF.same 8 rfl)
  ·intro a w2 hB hF hd
   refine bN (cZ rfl rfl (hd 8 _ rfl (aj rfl)) rfl) ?_
   refine aL _ _ _ rfl Tryz.call176 _ (args2 (hd 9 _ rfl (aj rfl)) (hd 10 _ rfl (aj rfl))) (by simp) ((JG.out _ (vS.out.below hB)).mono ?_)
   rintro e w3 ⟨rfl,hb⟩;exact ⟨_,rfl,rfl,hb⟩
  ·intro a w2 hB hF hd
   rw [if_pos (ah rfl)]
   exact ak (fun h=> by cases h) (qp rfl (hd 8 _ rfl (aj rfl))) ((hd 11 _ rfl (aj rfl)))
 ·intro a wz hB hF hS
  have ha:=aH rfl rfl hF [_,_,_,_,_,_,_,_,_,_,_,_,_] rfl ⟨hS 0 _ rfl,hS 1 _ rfl,hS 2 _ rfl,hS 3 _ rfl,hS 4 _ rfl,hS 5 _ rfl,hS 6 _ rfl,hS 7 _ rfl,hS 8 _ rfl,hS 9 _ rfl,hS 10 _ rfl,hS 11 _ rfl,hS 12 _ rfl,trivial⟩
  simp only [puts,Act.put,List.setIfInBounds_toArray,List.set_cons_succ,List.set_cons_zero] at ha
  subst ha
  clear hS hF
  have hb2:=hb1.trans (hB.mono hb1.size)
  have hZ2:=hZ.kept hB
  have Er:=Lib.hid (Es.out.below hB)
  have zQ:=Lib.hid (vS.out.below hB)
  have Ja:Hid (IntKind.u8.wrap (s.size:Int)=(L:Int)):=by unfold Hid;rw [HSL.out,IntKind.wrap_u8];omega
  clear hZ hs1 hB Es vS JG hb1
  go_upto_region 6 with (fail)
  refine aP (n:=64) (by kernel_rfl) (by kernel_rfl) (by kernel_rfl) rfl
   (fun ii vv ww=> (match ii with | 0 | 4=> vv=.string s | 1=> vv=.int .i64 ((s.size:Int)) | 2=> vv=.int .u8 ((L:Int)) | _=> True)∧(ii=3→Rd .u8 ww vv 1 (fun _=> (L:Int)))∧(ii=5→Rd .u8 ww vv L (lab))∧(ii=6→aN 23 wz.heap.size ww vv 2 (bQ 1 (fun _=> 1) (fun _=> L)) (eG 1 (fun _=> fun _=> (L:Int)) (fun _=> lab)))∧(ii=7→aN 23 wz.heap.size ww vv 2 (bQ 1 (fun _=> 1) (fun _=> L)) (eG 1 (fun _=> fun _=> (L:Int)) (fun _=> lab))))
   (fun w w'=> Below w.heap.size w w') (fun _ _ h=> h) (fun i v w w' h hE=> ⟨h.1,fun e=> Rd.below (h.2.1 e) hE,fun e=> Rd.below (h.2.2.1 e) hE,fun e=> aN.below (h.2.2.2.1 e) hE,fun e=> aN.below (h.2.2.2.2 e) hE⟩) ?_ ?_
  ·refine Each.all ?_
   refine ⟨?_,?_,?_,?_,?_,?_,?_,?_,trivial⟩
   ·intro a w2 hB hF hd
    rw [if_pos (ah rfl)]
    exact aA _ (.inl rfl) (by simp) ⟨(hF.same 1 rfl),fun h=> absurd h (by decide),fun h=> absurd h (by decide),fun h=> absurd h (by decide),fun h=> absurd h (by decide)⟩
   ·intro a w2 hB hF hd
    rw [if_pos (ah rfl)]
    exact ak (fun h=> by cases h) (kg rfl ((hd 0 _ rfl (aj rfl)).1) Tryz.underlying9) ⟨rfl,fun h=> absurd h (by decide),fun h=> absurd h (by decide),fun h=> absurd h (by decide),fun h=> absurd h (by decide)⟩
   ·intro a w2 hB hF hd
    rw [if_pos (ah rfl)]
    exact ak (fun h=> by cases h) (qw rfl ((hd 1 _ rfl (aj rfl)).1) Tryz.underlying3 Tryz.underlying5) ⟨(congrArg (Value.int .u8) (Ja.out)),fun h=> absurd h (by decide),fun h=> absurd h (by decide),fun h=> absurd h (by decide),fun h=> absurd h (by decide)⟩
   ·intro a w2 hB hF hd
    rw [if_pos (ah rfl)]
    exact jR 23 5 1 _ [.int .u8 ((L:Int))] rfl Tryz.underlying23 (by kernel_rfl) (by kernel_rfl) rfl (by decide) (by decide) (by intro v hv;simp only [List.mem_cons,List.not_mem_nil,or_false] at hv;rcases hv with rfl<;> rfl) (by simp only [List.map_toArray,List.map_cons,List.map_nil,show a.eval (Operand.tmp 35)=.int .u8 ((L:Int)) from ((hd 2 _ rfl (aj rfl)).1)];rfl) (by simp) ⟨trivial,fun _=> (uh),fun h=> absurd h (by decide),fun h=> absurd h (by decide),fun h=> absurd h (by decide)⟩
   ·intro a w2 hB hF hd
    rw [if_pos (ah rfl)]
    exact aA _ (.inl rfl) (by simp) ⟨(hF.same 1 rfl),fun h=> absurd h (by decide),fun h=> absurd h (by decide),fun h=> absurd h (by decide),fun h=> absurd h (by decide)⟩
   ·intro a w2 hB hF hd
    rw [if_pos (ah rfl)]
    refine nH (e:=5) (fun h=> by cases h) rfl ((hd 4 _ rfl (aj rfl)).1) Tryz.underlying9 Tryz.underlying23 Tryz.underlying5 (by omega) ?_
    intro vq wq hq
    rw [HSL.out,GJ.out] at hq
    exact ⟨trivial,fun h=> absurd h (by decide),fun _=> hq,fun h=> absurd h (by decide),fun h=> absurd h (by decide)⟩
   ·intro a w2 hB hF hd
    rw [if_pos (ah rfl)]
    exact jR 55 23 2 _ [a.eval (Operand.tmp 36),a.eval (Operand.tmp 38)] rfl Tryz.underlying55 (by kernel_rfl) (by kernel_rfl) rfl (by decide) (by decide) (by intro v hv;simp only [List.mem_cons,List.not_mem_nil,or_false] at hv;rcases hv with rfl | rfl;exact Rd.pq ((hd 3 _ rfl (aj rfl)).2.1 rfl);exact Rd.pq ((hd 5 _ rfl (aj rfl)).2.2.1 rfl)) (by simp only [List.map_toArray,List.map_cons,List.map_nil];rfl) (by simp) ⟨trivial,fun h=> absurd h (by decide),fun h=> absurd h (by decide),fun _=> (aN.AY hB.size ((hd 3 _ rfl (aj rfl)).2.1 rfl) ((hd 5 _ rfl (aj rfl)).2.2.1 rfl)),fun h=> absurd h (by decide)⟩
   ·intro a w2 hB hF hd
    rw [if_pos (ah rfl)]
    exact aA _ (.inr rfl) (by simp) ⟨trivial,fun h=> absurd h (by decide),fun h=> absurd h (by decide),fun h=> absurd h (by decide),fun _=> ((hd 6 _ rfl (aj rfl)).2.2.2.1 rfl)⟩
  ·intro a w3 hB hF hS
   obtain ⟨He,Bd⟩:∃x,x=a.tmps.getD 36 undef:=⟨_,rfl⟩
   have KP:Rd .u8 w3 He 1 (fun _=> (L:Int)):=by rw [Bd];exact (hS 3 _ rfl).2.1 rfl
   obtain ⟨x38,hx38⟩:∃x,x=a.tmps.getD 38 undef:=⟨_,rfl⟩
   have KO:Rd .u8 w3 x38 L (lab):=by rw [hx38];exact (hS 5 _ rfl).2.2.1 rfl
   obtain ⟨x39,hx39⟩:∃x,x=a.tmps.getD 39 undef:=⟨_,rfl⟩
   have KN:aN 23 wz.heap.size w3 x39 2 (bQ 1 (fun _=> 1) (fun _=> L)) (eG 1 (fun _=> fun _=> (L:Int)) (fun _=> lab)):=by rw [hx39];exact (hS 6 _ rfl).2.2.2.1 rfl
   obtain ⟨x9,Fx⟩:∃x,x=a.tmps.getD 9 undef:=⟨_,rfl⟩
   have P9:aN 23 wz.heap.size w3 x9 2 (bQ 1 (fun _=> 1) (fun _=> L)) (eG 1 (fun _=> fun _=> (L:Int)) (fun _=> lab)):=by rw [Fx];exact (hS 7 _ rfl).2.2.2.2 rfl
   have ha:=aH rfl rfl hF [_,_,_,He,_,x38,x39,x9] rfl ⟨(hS 0 _ rfl).1,(hS 1 _ rfl).1,(hS 2 _ rfl).1,Bd.symm,(hS 4 _ rfl).1,hx38.symm,hx39.symm,Fx.symm,trivial⟩
   simp only [puts,Act.put,List.setIfInBounds_toArray,List.set_cons_succ,List.set_cons_zero] at ha
   subst ha
   clear Bd hx38 hx39 Fx
   clear hS hF
   have hwz:=hb2.size
   have hP3:=HST.out _ _ _ _ P9
   have IL:=hB
   clear hB P9 KN KO KP Ja HST
   go_wp2
   go_loopw [9,42] (fun v i wr=> ∃k:Nat,k≤m∧i=.int .i64 (k:Int)∧Parts 23 wz.heap.size wr v k (NN k) (FF k)∧Below wz.heap.size wz wr) (fun _ i _=> m - (intOf i).toNat)
   case atStart=> exact ⟨0,Nat.zero_le _,rfl,hP3,IL⟩
   case round=>
    clear hP3 IL
    obtain ⟨k,hk,rfl,⟨l1,g1,ho,qN,zX⟩,hbz⟩:=hrel
    have hbel:=hb2.trans (hbz.mono hwz)
    have CY:=hbz.size
    have HO:=Lib.hid ho
    have GR:=Lib.hid qN
    have Ej:=Lib.hid zX
    clear ho qN zX
    by_cases hlt:k<m
    ·obtain ⟨tb,to,rfl,EB,jX⟩:=GU.out (by omega)
     obtain ⟨u,hu,zw⟩:=jX k hlt
     have e1:=(hbel.cell (p:=⟨tb,to+k,none⟩) EB).trans hu
     have Ed:=Lib.hid (zw.below hbel)
     have hin:=Lib.hid (fun hp=> zw.in hp)
     obtain ⟨ua,uc,rfl,u1,u2,_,_⟩:=zw
     have hlk:=Lp.out k hlt
     obtain ⟨n,hn⟩:∃n,n=lens k:=⟨_,rfl⟩
     rw [←hn] at Ed hin e1 u1 hlk
     have HN:=Lib.hid hn
     have h5:((n:Int) / 2 ^ (8 * 4) !=0)=false:=by
      have:(n:Int) / 2 ^ (8 * 4)=0:=Int.ediv_eq_zero_of_lt (by omega) (by omega)
      rw [this];rfl
     have Ee:=Lib.hid (fun w=> sD (n:Int) 4 w (by decide) (by decide) (by omega) (by omega) (fun _=> h5))
     clear jX hu hn h5
     go_wp2_with fail
     refine (Ee.out _).mono ?_
     rintro e w5 ⟨nv,rfl,hon,hb5⟩
     have Bu:=hbz.trans (hb5.mono CY)
     have JA:=Lib.hid (HO.out.below hb5)
     have Ec:=Lib.hid (Ed.out.below hb5)
     have EX:=Lib.hid hon.rd
     have hs5:=Bu.size
     have Kh:=hb5.size
     obtain ⟨ng,nc,rfl,LW,_⟩:=hon.form (by decide)
     have Et:Hid (∀j,j<2→0<bQ 1 (fun _=> 4) (fun _=> n) j→(if j=0 then Value.slice (some ⟨ng,0,none⟩) 4 nc else .slice ua n uc).ownBlock≠u9.ownBlock):=by
      intro j hj hp he
      rcases (by omega:j=0∨j=1) with rfl | rfl
      ·have:=HO.out.block ng (by rw [←he];rfl);omega
      ·obtain ⟨b,hb,hlt'⟩:=hin.out hp
       have:=HO.out.block b (by rw [←he];exact hb);omega
     have Jz:=Lib.hid (JA.out.below ((Below.refl w5.heap.size w5).alloc (Nat.le_refl _) (.cells #[.slice (some ⟨ng,0,none⟩) 4 nc,.slice ua n uc] 23)))
     have Jp:=Lib.hid (mG.AY (e:=23) EX.out Ec.out)
     clear hon hb5 JA EX Ec hin Ee e1 Ed
     go_wp2_with (at_builtin;refine mD rfl _ _ 55 rfl wz.heap.size 23 24 Tryz.undTxt Tryz.infoTxt _ (2+2 * k) l1 g1 Jz.out rfl _ 2 _ _ _ Jp.out Et.out rfl (by omega) (by omega) (by simp;omega) ?_;intro v6 w6 hown6 Dl FN FE)
     have IC:=vU.out _ _ _ _ k l1 g1 GR.out Ej.out (by rw [←HN.out];exact hown6)
     have Dq:Below wz.heap.size wz w6:=(Bu.alloc hs5 _).grown Dl (by simp;omega) (fun b hb=> (HO.out.block b hb).1)
     clear hown6 Dl FN FE Jz Jp Et Bu
     go_wp2
     go_roundw
     case rel=> first | exact ⟨k+1,by omega,by go_num,IC,Dq⟩ | ((repeat apply Exists.intro);exact ⟨⟨k+1,by omega,by go_num,IC,Dq⟩,rfl⟩)
     case measure=> simp [intOf] <;> omega
    ·obtain rfl:k=m:=by omega
     have Iq:=hZ2.below hbz hZ2.lt
     have Eb:=Lib.hid HO.out.txt
     have Ep:=Lib.hid (Er.out.below hbz)
     clear hbz CY Er zQ
     go_wp2_with fail
     refine (Gw.out _ _ _ _ _ Ep.out Eb.out (by omega) GR.out Ej.out).mono ?_
     rintro e w5 ⟨rfl,hb5⟩
     have eB:=hbel.trans (hb5.mono hbel.size)
     have rE:=Iq.kept hb5
     have hzl:=rE.lt
     clear hbel hb5 Iq Eb Ep HO GR Ej
     go_upto_region 14 with (refine bq rfl 47 _ _ rfl .u8 w5.heap.size 64 (fun _=> 0) TG Tryz.size47 rfl rfl (aI.newAt rfl (by rfl)) ?_)
     refine aF (fun w6=> aI .u8 w6 w5.heap.size 64 TG∧aI .u8 w6 w.heap.size 32 (fun _=> 0)∧Below w.heap.size w w6)
      ⟨(aI.newAt rfl (by rfl):aI .u8 _ _ 64 (fun _=> 0)).setRow _ _,aI.bA (aI.alloc rE _) _ (by omega) _,aD (eB.alloc eB.size _) eB.size _⟩ ?_
     rintro w6 ⟨BF,vJ,hb6⟩
     obtain ⟨q,hq⟩:∃q,q=w5.heap.size:=⟨_,rfl⟩
     rw [←hq] at BF ⊢
     have Kj:=BF.lt
     have Ey:Hid (∀i,i<32→w6.cell? ⟨q,0+i,none⟩=some (.int .u8 (TG i))):=fun i hi=> by rw [Nat.zero_add];exact BF.cell i (by omega)
     clear hq rE eB BF
     simp only [Act.put]
     refine qy (n:=64) 3 (by decide) (by kernel_rfl) (by kernel_rfl) (by kernel_rfl) (by kernel_rfl) rfl
      (fun ii vv _=> (match ii with | 0=> vv=.slice (some ⟨q,0,none⟩) 32 64 | 1=> vv=.pointer (some ⟨q,0,none⟩) | 2=> vv=.agg (arr .u8 32 (TG)) | _=> True))
      (fun _ _ _ _ h _=> h) ?_ ?_
     ·refine Each.all ?_
      refine ⟨?_,?_,?_,(fun h=> absurd h (by decide)),(fun h=> absurd h (by decide)),trivial⟩
      ·intro _ a w2 hB hF hd
       rw [if_pos (ah rfl)]
       exact ak (fun h=> by cases h) (gN rfl (hF.same 14 rfl) (by simp only [Option.map_some,Option.map_none];exact jo (m:=32) Tryz.underlying47 Tryz.size5 (by decide))) rfl
      ·intro _ a w2 hB hF hd
       rw [if_pos (ah rfl)]
       exact ak (fun h=> by cases h) (oD rfl (hd 0 _ rfl (aj rfl)) Tryz.underlying22 (by decide)) rfl
      ·intro _ a w2 hB hF hd
       rw [if_pos (ah rfl)]
       exact ak (fun h=> by cases h) (mR rfl (hd 1 _ rfl (aj rfl)) Tryz.underlying22 Tryz.size22 (fun i hi=> (hB.cell (p:=⟨q,0+i,none⟩) Kj).trans (Ey.out i hi))) rfl
     ·intro a w7 hB hF hS
      have ha:=aH rfl rfl hF [_,_,_] rfl ⟨hS 0 _ rfl (by decide),hS 1 _ rfl (by decide),hS 2 _ rfl (by decide),trivial⟩
      simp only [puts,List.take_succ_cons,List.take_zero,Act.put,List.setIfInBounds_toArray,List.set_cons_succ,List.set_cons_zero] at ha
      subst ha
      change tl _ _ _ (_::_:: []) _ _
      clear hS hF
      have xO:=vJ.kept hB
      have EK:=hb6.trans (hB.mono hb6.size)
      refine tH rfl (aU 22 _ _ rfl .u8 w.heap.size 32 (fun _=> 0) TG Tryz.size22 rfl rfl xO ?_)
      refine yR rfl _ (.inr rfl) (Aq ?_)
      have Ab:=xO.setRow 32 TG
      have Kr:=aD EK (Nat.le_refl _) (arr .u8 32 TG)
      clear vJ hb6 xO EK hB
      simp only [Act.put,Act.eval,List.setIfInBounds_toArray,List.set_cons_succ,List.set_cons_zero]
      go_wp2
      exact bodyPost_ret (oJ rfl _ _ .u8 w.heap.size 32 _ 5 rfl Ab Tryz.underlying22 Tryz.size22) rfl ⟨rfl,Kr⟩
end Go.Proofs.YtpcjekgfnfjbpaaGreat
