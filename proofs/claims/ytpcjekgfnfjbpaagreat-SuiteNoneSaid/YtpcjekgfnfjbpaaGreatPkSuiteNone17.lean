/-
  Part 17 of SuiteNone. Conditions: named in each theorem.
-/
import Derived.Test.YtpcjekgfnfjbpaaGreatPkSuiteNone15
import Derived.Test.YtpcjekgfnfjbpaaGreatPkSuiteNone16
set_option linter.unusedVariables false
set_option linter.unusedSimpArgs false
set_option maxRecDepth 100000
set_option maxHeartbeats 1600000
namespace Go.bI
open Go.RowKit
theorem Rd.agZ {F:Nat->Prop} {w w':World} {k:IntKind} {v:Value} {n:Nat} {f:Nat->Int} (h:Rd k w v n f) (hg:iH F w w') (hne:0<n->∀b,v.ownBlock=some b->¬ F b):Rd k w' v n f:=by
 obtain ⟨a,c,rfl,h1,h2,h3,h4⟩:=h;refine ⟨a,c,rfl,h1,h2,h3,fun hn=> ?_⟩;obtain ⟨b,o,rfl,hlt,hc⟩:=h4 hn;have:=hg.size;exact ⟨b,o,rfl,by omega,fun i hi=> (hg.cell (p:=⟨b,o+i,none⟩) hlt (hne hn b rfl)).trans (hc i hi)⟩
end Go.bI
namespace Go.Proofs.YtpcjekgfnfjbpaaGreat
open Go.RowKit Go.bI Go.ChangeShapes Go.Maps
attribute [local go_sem ↓] Go.wp_at_zero Go.wp_at_succ
section
variable {B : Nat} {w w' : World} {p mb mt : Nat} {vl vb : Value} {tv : Nat -> Value} {S : TS}
theorem Pn {F:Nat->Prop} (h:zh B w p F S) (hB:B<=w.heap.size) (s:Int) (hl:S.l.length<=1000):
  Calls Tryz.prog 79 #[.pointer (some ⟨p,0,none⟩),.int .i64 s] w fun e w'=> e=.returned (.tuple #[.int .i64 (yH S s).1,.int .i64 (yH S s).2])/\∃F',zh B w' p F' (S.draw s)/\iH F w w'/\∀b,F' b->F b\/w.heap.size<=b:=by
 obtain ⟨mb,mt,vl,vb,tv,h1,h2,h3⟩:=h;have H:=ak h1;have uL:=ak h2;have EN:=ak h3;have zk:=ak hB;have HL:=ak hl;obtain ⟨PA,VH⟩:∃x,x=yH S s:=⟨_,rfl⟩
 obtain ⟨SP,hSP⟩:∃x,x=S.draw s:=⟨_,rfl⟩
 rw [<-VH,←hSP];have Sr:=ak VH;have Sq:=ak hSP;clear h1 h2 h3 hB hl VH hSP
 go_enter Tryz.func79,Tryz.ntmps79
 go_wp2_with fail;refine (pK H.out).mono ?_;rintro e w1' ⟨rfl,rfl⟩;go_wp2_with fail;refine (Dw s _).mono ?_;rintro e w1 ⟨rfl,rfl⟩
 cases hm:isSort s with
 | false=>
  have E1:Hid (PA=(0,2)):=ak (by rw [Sr.out];unfold yH;rw [if_neg (by rw [hm];decide)]);have E2:Hid (SP=S):=ak (by rw [Sq.out];unfold TS.draw;rw [if_neg (fun h=> by rw [hm] at h;cases h.1)]);clear hm;go_wp2;go_ret2;rw [E1.out,E2.out];exact ⟨rfl,F,⟨mb,mt,vl,vb,tv,H.out,uL.out,EN.out⟩,.refl _ _,fun b hb=> .inl hb⟩
 | true=>
  have hs:=hm;simp only [isSort,GZ,decide_eq_true_eq] at hs;obtain ⟨k,rfl⟩:=Ca (show 0<=s by omega);have hk5:k<5:=by omega
  have hk9:(k:Int)<5:=by omega
  have z0:=H.out.nx k hk5;have aqC:=ak (YH S.l k);have Xw:=ak (ME S.l k);by_cases hx:wI S.l k<=nD
  ·have E1:Hid (PA=((S.l.length:Int),0)):=ak (by rw [Sr.out];unfold yH;rw [if_pos hm,if_pos hx]);have E2:Hid (SP=S.add (1,(k:Int),wI S.l k)):=ak (by rw [Sq.out];unfold TS.draw;rw [if_pos ⟨hm,hx⟩]);have aeb:=ak (YI hx);have OK2:Hid ((S.add (1,(k:Int),wI S.l k)).Ok):=ak (uL.out.add aeb.out (.inl ⟨rfl,hs,Xw.out⟩));have HS:=ak hs;have hgt:¬ (4611686018427387904:Int)<wI S.l k:=by unfold nD at hx;omega
   obtain ⟨X,hX⟩:∃X,X=wI S.l k:=⟨_,rfl⟩
   have HXT:Hid (0<=X/\X<=4611686018427387904):=ak (by rw [hX];exact ⟨Xw.out,by unfold nD at hx;exact hx⟩);rw [<-hX] at z0 E2 aeb OK2 hgt;clear hm hs hx hX;go_wp2_with fail;refine (zQ H.out zk.out (1,(k:Int),X) ⟨⟨by simp,by simp⟩,⟨by simp only;omega,by simp only;omega⟩,⟨by simp only;have:=HXT.out;omega,by simp only;have:=HXT.out;omega⟩⟩ aeb.out (fun _=> HS.out) HL.out).mono ?_;rintro e w4 ⟨rfl,BP,h4,hc4,hf4⟩;have S4:Hid (zh B w4 p (TF p mb mt BP vb S.tx.length tv) (S.add (1,(k:Int),X))):=ak ⟨mb,mt,BP,vb,tv,h4,OK2.out,fun b=> Iff.rfl⟩;have C4:Hid (iH F w1 w4):=ak (hc4.mono (G:=F) fun b _ hb=> (EN.out b).2 (by
    rcases hb with h | h | h
    ·exact .inl h
    ·exact .inr (.inl h)
    ·exact .inr (.inr (.inr (.inl h)))))
   have F4:Hid (∀b,TF p mb mt BP vb S.tx.length tv b->F b\/w1.heap.size<=b):=ak fun b hb=> (TF.add (N:=w1.heap.size) hf4 b hb).imp (EN.out b).2 id;clear h4 hc4 hf4;go_wp2;go_ret2;rw [E1.out,E2.out];exact ⟨rfl,_,S4.out,C4.out,F4.out⟩
  ·have E1:Hid (PA=(0,3)):=ak (by rw [Sr.out];unfold yH;rw [if_pos hm,if_neg hx]);have E2:Hid (SP=S):=ak (by rw [Sq.out];unfold TS.draw;rw [if_neg (fun h=> hx h.2)]);have hgt:(4611686018427387904:Int)<wI S.l k:=by unfold nD at hx;omega
   clear hm hs hx;go_wp2;go_ret2;rw [E1.out,E2.out];exact ⟨rfl,F,⟨mb,mt,vl,vb,tv,H.out,uL.out,EN.out⟩,.refl _ _,fun b hb=> .inl hb⟩
end
section
variable {B : Nat} {w w' : World} {p : Nat} {F : Nat -> Prop} {S : TS}
def yU (S:TS) (n:Int):Tm × Bool:=if 0<=n then (match S.l[n.toNat]? with | some t=> (t,true) | none=> ((0,0,0),false)) else ((0,0,0),false)
theorem Kg {n:Nat} {t:Tm} (h:S.l[n]? =some t):yU S n=(t,true):=by
 unfold yU;rw [if_pos (by omega),EM,h]
theorem Zr {n:Int} (h:gP S.l n 0=false):yU S n=((0,0,0),false):=by
 unfold yU
 split
 ·rename_i h0
  split
  ·rename_i t ht
   obtain ⟨a,rfl⟩:=Ca h0;rw [EM] at ht;rw [oN.2 ⟨a,rfl,t,ht,.inl rfl⟩] at h;cases h
  ·rfl
 ·rfl
theorem Ik (h:zh B w p F S) (n:Int):Calls Tryz.prog 61 #[.pointer (some ⟨p,0,none⟩),.int .i64 n] w fun e w'=> e=.returned (.tuple #[LK (yU S n).1,.bool (yU S n).2])/\Below w.heap.size w w':=by
 obtain ⟨mb,mt,vl,vb,tv,h1,h2,h3⟩:=h;have H:=ak h1;obtain ⟨G,hG⟩:∃x,x=yU S n:=⟨_,rfl⟩
 rw [<-hG];have HG:=ak hG;clear h1 h2 h3 hG
 go_enter Tryz.func61,Tryz.ntmps61
 go_upto_region 1 with (fail);refine aG (fun w1=> aH .i64 w1 w.heap.size 3 (fun _=> 0)/\Below w.heap.size w w1) ⟨bG rfl rfl,(bM _ _).alloc (bB _) _⟩ ?_;rintro w1 ⟨hA1,bb1⟩;have HA1:=ak hA1;have B1:=ak bb1;have H1:=ak (H.out.below bb1);clear hA1 bb1;go_wp2_with fail;refine (pK H1.out).mono ?_;rintro e w1' ⟨rfl,rfl⟩;go_wp2_with fail;refine (gV H1.out n 0).mono ?_;rintro e w2 ⟨rfl,rfl⟩
 cases hm:gP S.l n 0 with
 | false=>
  have E1:Hid (G=((0,0,0),false)):=ak (HG.out.trans (Zr hm));obtain ⟨t1,ht1⟩:=HA1.out;have HT1:=ak ht1;clear hm ht1;go_wp2_with (refine zW rfl 96 _ _ rfl w.heap.size 3 (fun i=> .int .i64 (tf (0,0,0) i)) _ t1 HT1.out rfl Tryz.sizeTm rfl rfl (fun i _=> rfl) ?_);have HA2:Hid (aH .i64 (w2.setRow w.heap.size (nE 3 fun i=> .int .i64 (tf (0,0,0) i))) w.heap.size 3 (tf (0,0,0))):=ak (HA1.out.setRow 3 (tf (0,0,0)));have B2:Hid (Below w.heap.size w (w2.setRow w.heap.size (nE 3 fun i=> .int .i64 (tf (0,0,0) i)))):=ak (aA B1.out (bB _) _);rw [E1.out];refine bodyPost_ret (dM rfl _ _ .i64 w.heap.size 3 _ rfl HA2.out Tryz.underlying96 rfl Tryz.sizeTm) rfl ?_;exact ⟨rfl,B2.out⟩
 | true=>
  obtain ⟨a,rfl,ha,_⟩:=mg hm;obtain ⟨t,ht⟩:∃t,S.l[a]? =some t:=⟨_,sU ha⟩
  have E1:Hid (G=(t,true)):=ak (HG.out.trans (Kg ht));obtain ⟨t1,ht1⟩:=HA1.out;have HT1:=ak ht1;have c0:=H1.out.c0;obtain ⟨g,cap,ev,_,_,_,hc⟩:=H1.out.ls.form (by omega);have HC:Hid (∀i,i<3->w2.cell? ⟨g,a * 3+i,none⟩=some (.int .i64 (tf t i))):=ak fun i hi=> (hc a ha i hi).trans (congrArg some (ER ht));rw [ev] at c0;have h9:(a:Int)<(S.l.length:Int):=by omega
  clear hm ht1 ha ht hc ev
  go_wp2_with (first
   | (refine AB (y:=fun i=> .int .i64 (tf t i)) rfl rfl rfl Tryz.underlying96 rfl Tryz.sizeTm HC.out ?_)
   | (refine zW rfl 96 _ _ rfl w.heap.size 3 (fun i=> .int .i64 (tf t i)) _ t1 HT1.out rfl Tryz.sizeTm rfl rfl (fun i _=> rfl) ?_))
  have HA2:Hid (aH .i64 (w2.setRow w.heap.size (nE 3 fun i=> .int .i64 (tf t i))) w.heap.size 3 (tf t)):=ak (HA1.out.setRow 3 (tf t));have B2:Hid (Below w.heap.size w (w2.setRow w.heap.size (nE 3 fun i=> .int .i64 (tf t i)))):=ak (aA B1.out (bB _) _);rw [E1.out];refine bodyPost_ret (dM rfl _ _ .i64 w.heap.size 3 _ rfl HA2.out Tryz.underlying96 rfl Tryz.sizeTm) rfl ?_;exact ⟨rfl,B2.out⟩
end
section
variable {B : Nat} {w w' : World} {p mb mt : Nat} {vl vb : Value} {tv : Nat -> Value} {S : TS}
theorem Cc.ofText {b:List Int} {BP vb':Value} {tv':Nat->Value} (h:Cc B w p mb mt vl vb tv S) (hob:okX b) (hn:b ∉ S.tx) (h9:((9,(S.tx.length:Int),0):Tm) ∉ S.l) (hlen:S.tx.length<=1000000) {nf:Nat->Int} (hp:Tsp B w' p mb mt BP vb' tv' (S.l++ [(9,(S.tx.length:Int),0)]) (S.l++ [(9,(S.tx.length:Int),0)]) (S.tx++ [b]) (S.tx++ [b]) (Ic (S.text b)) nf) (hf:∀k:Nat,k<5->nf k=wI S.l k):Cc B w' p mb mt BP vb' tv' (S.text b):=by
 have hS:S.text b=⟨S.l++ [(9,(S.tx.length:Int),0)],S.tx++ [b]⟩:=if_neg hn;rw [hS] at hp ⊢;refine ⟨⟨hp.row,hp.c0,hp.c1,hp.c2,hp.c3,fun k hk=> (hp.nx k hk).trans (by rw [hf k hk,qY,if_neg (fun h=> by have:=h.1;simp at this)]),hp.ls,hp.am,hp.xm,hp.bs,hp.bt,hp.ne,hp.hp,hp.hb,hp.hm,hp.hl,hp.hv⟩,gq h.nd h9,gq h.txn hn,fun j hj=> ?_,fun u hu=> ?_,fun u hu=> ?_⟩
 ·have hj:j<(S.tx++ [b]).length:=hj;rw [List.length_append,List.length_singleton] at hj;refine List.mem_append.2 ?_;by_cases h':j<S.tx.length
  ·exact .inl (h.all j h')
  ·exact .inr (by rw [show j=S.tx.length by omega];simp)
 ·rcases List.mem_append.1 hu with hu | hu
  ·exact h.okt u hu
  ·rw [List.mem_singleton.1 hu];exact ⟨⟨by simp,by simp⟩,⟨by simp only;omega,by simp only;omega⟩,⟨by simp,by simp⟩⟩
 ·rcases List.mem_append.1 hu with hu | hu
  ·exact h.okx u hu
  ·rw [List.mem_singleton.1 hu];exact hob
theorem XM {b:List Int} (h:S.l.Nodup) (hx:S.tx.Nodup) (hn:b ∉ S.tx) (h9:((9,(S.tx.length:Int),0):Tm) ∉ S.l):Ic (S.text b) b=S.l.length:=by
 have hS:S.text b=⟨S.l++ [(9,(S.tx.length:Int),0)],S.tx++ [b]⟩:=if_neg hn;rw [hS];unfold Ic;have e1:BS (S.tx++ [b]) b=S.tx.length:=FM (gq hx hn) (by rw [He (bB _),Nat.sub_self];rfl);simp only [e1];exact FM (gq h h9) (by rw [He (bB _),Nat.sub_self];rfl)
theorem XL {b y:List Int} (hx:S.tx.Nodup) (hn:b ∉ S.tx) (hy:y ∈ S.tx):Ic (S.text b) y=Ic (S.add (9,(S.tx.length:Int),0)) y:=by
 have hS:S.text b=⟨S.l++ [(9,(S.tx.length:Int),0)],S.tx++ [b]⟩:=if_neg hn;rw [hS];unfold Ic;simp only [uy (gq hx hn) (List.prefix_append _ _) hy]
 rfl
theorem Pm {F:Nat->Prop} (h:zh B w p F S) (hB:B<=w.heap.size) (b:List Int) (hob:okX b) (v:Value) (hv:Rd .u8 w v b.length (bf b)) (hvF:0<b.length->∀c,v.ownBlock=some c->¬ F c) (hl:S.l.length<=1000) (hx:S.tx.length<=1000):
  Calls Tryz.prog 81 #[.pointer (some ⟨p,0,none⟩),v] w fun e w'=> e=.returned (.tuple #[.int .i64 (xQ S b),.int .i64 0])/\∃F',zh B w' p F' (S.text b)/\iH F w w'/\∀b,F' b->F b\/w.heap.size<=b:=by
 obtain ⟨mb,mt,vl,vb,tv,h1,h2,h3⟩:=h;have H:=ak h1;have uL:=ak h2;have EN:=ak h3;have zk:=ak hB;have HL:=ak hl;have HX:=ak hx;have ZW:=ak hob;have HV:=ak hv;have HVF:=ak hvF;clear hvF;obtain ⟨av,cv,rfl,_⟩:=hv;obtain ⟨PA,VH⟩:∃x,x=xQ S b:=⟨_,rfl⟩
 obtain ⟨SP,hSP⟩:∃x,x=S.text b:=⟨_,rfl⟩
 rw [<-VH,←hSP];have Sr:=ak VH;have Sq:=ak hSP;have h9:¬ (1048576:Int)<(b.length:Int):=by have:=hob.2;omega
 clear h1 h2 h3 hB hl hx hob VH hSP
 go_enter Tryz.func81,Tryz.ntmps81
 go_wp2_with fail;refine (pK H.out).mono ?_;rintro e w1 ⟨rfl,rfl⟩;go_upto_region 5 with (fail);have c2:=H.out.c2;clear h9;by_cases hin:b ∈ S.tx
 ·have E1:Hid (PA=(Ic S b:Int)):=ak (by rw [Sr.out];unfold xQ;rw [if_pos hin];rfl);have E2:Hid (SP=S):=ak (by rw [Sq.out];unfold TS.text;rw [if_pos hin]);have l1:∀n,(Instr.lookup 161 (.map (some mt)) (.string (strOf b.length (bf b))) true).run Tryz.prog (w1.drewN n)=.ok (.tuple #[vP (Ic S b),.bool true]) (w1.drewN n):=fun n=> Vi.Oy (H.out.below (Go.bI.below_drewN (bM _ _) n)).xm hin;obtain ⟨X,hX⟩:∃X,X=Ic S b:=⟨_,rfl⟩
  rw [<-hX] at l1 E1;clear hin hX;refine wp_region_quiet_lit (by kernel_rfl) (by kernel_rfl) ?_
  repeat (first | (refine wT rfl (fun n=> qU rfl rfl (HV.out.below (Go.bI.below_drewN (bM _ _) n)) kN Tryz.underlying5 Tryz.underlying9 ZW.out.1.at) ?_) | quiet_step (fail))
  refine wpQuiet_nil ?_;rintro _ ⟨nq,rfl⟩;go_wp2;go_ret2;rw [E1.out,E2.out];exact ⟨rfl,F,⟨mb,mt,vl,vb,tv,H.out.below (Go.bI.below_drewN (bM _ _) nq),uL.out,EN.out⟩,.of_below (Go.bI.below_drewN (bM _ _) nq) _,fun b hb=> .inl hb⟩
 ·have E1:Hid (PA=(S.l.length:Int)):=ak (by rw [Sr.out];unfold xQ;rw [if_neg hin]);have l1:∀n,(Instr.lookup 161 (.map (some mt)) (.string (strOf b.length (bf b))) true).run Tryz.prog (w1.drewN n)=.ok (.tuple #[.int .i64 0,.bool false]) (w1.drewN n):=fun n=> Vi.Vb (H.out.below (Go.bI.below_drewN (bM _ _) n)).xm H.out.okx ZW.out hin;have HIN:=ak hin;clear hin;refine wp_region_quiet_lit (by kernel_rfl) (by kernel_rfl) ?_
  repeat (first | (refine wT rfl (fun n=> qU rfl rfl (HV.out.below (Go.bI.below_drewN (bM _ _) n)) kN Tryz.underlying5 Tryz.underlying9 ZW.out.1.at) ?_) | quiet_step (fail))
  refine wpQuiet_nil ?_;rintro _ ⟨nq,rfl⟩;clear l1 c2;have B3:=ak (Go.bI.below_drewN (bM w1.heap.size w1) nq);have H3:=ak (H.out.below B3.out);have HN9:=ak uL.out.VQ;have c3:=H3.out.c3;obtain ⟨ab,cb,eb,_⟩:=H3.out.bs.slice;have HEB:=ak eb;rw [eb] at c3;clear eb;go_wp2_with fail;refine (zQ H3.out (jG zk.out B3.out.size) (9,(S.tx.length:Int),0) ⟨⟨by simp,by simp⟩,⟨by simp only;have:=HX.out;omega,by simp only;have:=HX.out;omega⟩,⟨by simp,by simp⟩⟩ HN9.out (fun h=> by simp at h) HL.out).mono ?_;rintro e w4 ⟨rfl,BP,h4,hc4,hf4⟩;have H4:=ak h4;have C4:=ak hc4;have F4:=ak hf4;clear h4 hc4 hf4 c3;go_upto_region 11 with (fail)
  apply iQ (n:=63) [.f,.e,.e,.e,.e,.e,.c,.c,.c,.f,.f,.c] 2 (by kernel_rfl) (by kernel_rfl) (by kernel_rfl) rfl
  ·intro w5 QS;have c3:=(H4.out.below QS).c3;rw [HEB.out] at c3;simp only [eZ,Cl.Hu,cond_true,cond_false]
   repeat still_step
   exact wpStill_nil rfl
  ·intro w5;simp only [eZ,Cl.XA,cond_true,cond_false]
   repeat still_step
   exact wpStill_nil rfl
  ·simp only [eZ,Cl.oK,cond_true,cond_false];refine oW ((bM _ _).drew) (fun K hK=> ?_)
   go_simp
   have CF4:Hid (iH F w1 w4):=ak ((iH.of_below B3.out F).trans (C4.out.mono (G:=F) fun b _ hb=> (EN.out b).2 (by
    rcases hb with h | h | h
    ·exact .inl h
    ·exact .inr (.inl h)
    ·exact .inr (.inr (.inr (.inl h))))) fun _ _ h=> h)
   have HV4:=ak ((HV.out.agZ CF4.out HVF.out).below ((bM w4.heap.size w4).drew));have HB4:Hid (B<=w4.heap.size):=ak (jG zk.out CF4.out.size);refine (xG _ _ _ _ HV4.out (by have:=ZW.out.2;omega)).mono ?_;rintro e w5 ⟨u,rfl,hu,b5⟩;have UB:Hid (∀c,u.ownBlock=some c->w4.heap.size<=c):=ak hu.block;have hu:=hu.mono (show B<=w4.drew.heap.size from HB4.out);have OZ:Below w4.heap.size w4 w5:=((bM w4.heap.size w4).drew).trans b5;refine hK _ _ OZ ?_;clear hK K;obtain ⟨au,cu,eu,_⟩:=hu.yQ.slice;subst eu;refine oW OZ (fun K hK=> ?_);refine aJ <| Dk 55 23 1 _ rfl Tryz.underlying55 #[.slice au b.length cu] (by kernel_rfl) (hK _ _ (OZ.alloc OZ.size _) (oV ?_));clear hK K;have H5:=ak (H4.out.below OZ);refine uQ (w0:=w5) rfl _ _ rfl rfl rfl (HEB.out▸H5.out.bs) Tryz.underlying55 Tryz.infoBs rfl rfl rfl (by have:=HX.out;unfold maxLen;show S.tx.length+1<=_;omega) (by have:=HX.out;show (S.tx.length+1) * 24<=_;omega) ?_;intro v6 w6 ho6 QN hp6;obtain ⟨⟨e0,f0⟩,hT7,hC7,hF7⟩:=H5.out.toTsp.afi (b0:=b) (jG HB4.out OZ.size) ho6 rfl hu (HEB.out▸QN) (HEB.out▸hp6);rw [HEB.out] at e0;have T7:=ak hT7;have C7:Hid (iH (fun b=> b=p\/vb.ownBlock=some b) w4 _):=ak ((iH.of_below OZ _).trans hC7 fun _ _ h=> h);have F7:Hid (∀b,v6.ownBlock=some b->vb.ownBlock=some b\/w4.heap.size<=b):=ak fun b hb=> (hF7 b hb).imp id fun h=> jG OZ.size h;obtain ⟨a6,q6,rfl,_⟩:=ho6.slice;clear ho6 QN hp6 hT7 hC7 hF7 hu b5 OZ;go_wp2;refine DY ?_;go_upto_region 12 with (fail);refine aG (fun w7=> Tsp B w7 p mb mt BP (.slice a6 (S.tx.length+1) q6) (fun j=> if j=S.tx.length then .slice au b.length cu else tv j) (S.l++ [(9,(S.tx.length:Int),0)]) (S.l++ [(9,(S.tx.length:Int),0)]) (S.tx++ [b]) S.tx (Ic (S.add (9,(S.tx.length:Int),0))) (fun k=> wI (S.l++ [(9,(S.tx.length:Int),0)]) k)/\iH (fun b=> b=p\/vb.ownBlock=some b) w4 w7) ⟨T7.out,C7.out⟩ ?_;rintro w7 ⟨hT7,hC7⟩;have T7:=ak hT7;have C7:=ak hC7;have CF7:Hid (iH F w1 w7):=ak (CF4.out.trans (hC7.mono (G:=F) fun c _ hc=> (EN.out c).2 (by
    rcases hc with h | h
    ·exact .inl h
    ·exact .inr (.inr (.inr (.inr (.inl h)))))) fun _ _ h=> h)
   clear hT7 hC7 e0 f0;have HV7:=ak (HV.out.agZ CF7.out HVF.out);have akX:=HIN.out;obtain ⟨w8,hrun,Zp,hC8⟩:=(T7.out.below ((bM w7.heap.size w7).drew)).ajf (xv':=Ic (S.text b)) H.out.okx ZW.out HIN.out (by have:=HX.out;omega) (XM H.out.nd H.out.txn HIN.out HN9.out) (by have:=HL.out;omega) (fun y hy=> XL H.out.txn HIN.out hy);have NR:Hid ((Instr.mapUpdate 161 (.map (some mt)) (.string (strOf b.length (bf b))) (.int .i64 (S.l.length:Int))).run Tryz.prog w7.drew=.ok () w8):=ak hrun;have FIN:=ak (H.out.ofText ZW.out HIN.out HN9.out (by have:=HX.out;omega) Zp fun k _=> by rw [qY,if_neg (fun h=> by have:=h.1;simp at this)]);have CF8:Hid (iH F w1 w8):=ak ((CF7.out.trans (iH.of_below ((bM w7.heap.size w7).drew) (fun _=> False)) fun _ _ h=> h.elim).trans (hC8.mono (G:=F) fun c _ hc=> (EN.out c).2 (.inr (.inr (.inl hc)))) fun _ _ h=> h);have OK8:=ak (uL.out.text b);have F8:Hid (∀c,TF p mb mt BP (.slice a6 (S.tx.length+1) q6) (S.text b).tx.length (fun j=> if j=S.tx.length then .slice au b.length cu else tv j) c->F c\/w1.heap.size<=c):=ak fun c hc=> by
    have s4:=CF4.out.size;rcases hc with h | h | h | h | h | ⟨j,hj,h⟩
    ·exact .inl ((EN.out c).2 (.inl h))
    ·exact .inl ((EN.out c).2 (.inr (.inl h)))
    ·exact .inl ((EN.out c).2 (.inr (.inr (.inl h))))
    ·exact (F4.out c h).imp (fun h=> (EN.out c).2 (.inr (.inr (.inr (.inl h))))) fun h=> jG B3.out.size h
    ·exact (F7.out c h).imp (fun h=> (EN.out c).2 (.inr (.inr (.inr (.inr (.inl h)))))) fun h=> jG s4 h
    ·dsimp only at h
     by_cases e:j=S.tx.length
     ·rw [if_pos e] at h;exact .inr (jG s4 (UB.out c h))
     ·rw [if_neg e] at h;have hj:j<(S.text b).tx.length:=hj;rw [show S.text b=⟨S.l++ [(9,(S.tx.length:Int),0)],S.tx++ [b]⟩ from if_neg HIN.out] at hj;have hj:j<(S.tx++ [b]).length:=hj;rw [List.length_append,List.length_singleton] at hj;exact .inl ((EN.out c).2 (.inr (.inr (.inr (.inr (.inr ⟨j,by omega,h⟩))))))
   clear hrun Zp hC8 akX;rw [<-Sq.out] at FIN OK8 F8
   apply iQ (n:=63) [.e,.e,.e,.e,.e,.c,.e,.c] 1 (by kernel_rfl) (by kernel_rfl) (by kernel_rfl) rfl
   ·intro w9 hB9;have c2:=(T7.out.below hB9).c2;simp only [eZ,Cl.Hu,cond_true,cond_false]
    repeat still_step
    exact wpStill_nil rfl
   ·intro w9;simp only [eZ,Cl.XA,cond_true,cond_false]
    repeat still_step
    exact wpStill_nil rfl
   ·simp only [eZ,Cl.oK,cond_true,cond_false];refine oW ((bM _ _).drew) (fun K hK=> ?_);rw [if_pos (dD rfl)];unfold Oper.wp;rw [qU (v:=.slice av b.length cv) rfl rfl (HV7.out.below ((bM w7.heap.size w7).drew)) kN Tryz.underlying5 Tryz.underlying9 ZW.out.1.at];refine hK _ _ ((bM _ _).drew) (oV ?_);clear hK K;have hrun:=NR.out;go_wp2;refine DY ?_;clear hrun;go_wp2;go_ret2;rw [E1.out];exact ⟨rfl,_,⟨mb,mt,_,_,_,FIN.out,OK8.out,fun b=> Iff.rfl⟩,CF8.out,F8.out⟩
end
end Go.Proofs.YtpcjekgfnfjbpaaGreat
