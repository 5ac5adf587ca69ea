/-
  Part 54 of SuiteHides. Conditions: named in each theorem.
-/
import Derived.Test.YtpcjekgfnfjbpaaGreatPkSuiteHides53
import Derived.Test.YtpcjekgfnfjbpaaGreatPkSuiteHides51
set_option linter.unusedVariables false
set_option linter.unusedSimpArgs false
set_option maxRecDepth 100000
set_option maxHeartbeats 12800000
namespace Go.aQ
end Go.aQ
namespace Go.aQ
open Go.RowKit
theorem tC {P:Program} {w:World} {T e:TypeId} {b n m:Nat} (hu:P.underlying T=some (.array n e)) (hi:(P.info? e).map (·.size)=some 1) (hm:m<=n):
  (Instr.sliceAt T (.pointer (some ⟨b,0,none⟩)) none (some (.int .i64 (m:Int))) (some (.int .i64 (m:Int)))).run P w=.ok (.slice (some ⟨b,0,none⟩) m m) w:=by
 obtain ⟨i,h1,h2⟩:=Option.map_eq_some_iff.1 hi;simp [Instr.sliceAt,Instr.sureAddr,run_underlying hu,Instr.sliceBounds,run_sliceBound,sizeOf,typeInfo,h1,h2,hm]
 try exact fun _=> rfl
theorem wE {P:Program} {w:World} {o:Oper} {a:Act} {Q:Exit->Act->World->Prop} {S:Value->World->Prop}
  (s x:Operand) (t:TypeId) (hop:o.op=.call { callee:=.builtin .append,args:=#[s,x],argTypes:=#[t,t] })
  (e:TypeId) (k:IntKind) (bytes:Nat) (h1:P.underlying t=some (.slice e)) (hinfo:(P.info? e).map (fun i=> (i.zero,i.size,i.bytes))=some (some (.int k 0),1,bytes))
  (gg oo n:Nat) (f:Nat->Int) (hold:∀i,i<n->w.cell? ⟨gg,oo+i,none⟩=some (.int k (f i))) (hs:a.eval s=.slice (some ⟨gg,oo,none⟩) n n)
  (u:Value) (m:Nat) (g:Nat->Int) (hrd:Rd k w u m g) (hx:a.eval x=u) (hm:0<m) (hf:∀i,i<m->f (n+i)=g i)
  (b2:(n+m) * bytes<=140737488355328) (b3:n+m<=9223372036854775807) (hd:o.dst≠none)
  (hS:∀v' w',Rd k w' v' (n+m) f->S v' w'):o.wp P a w (fun a' w'=> ∃v,a'=a.put o.dst v/\(o.dst=none->v=undef)/\S v w'/\Below w.heap.size w w') Q:=
 qE s x t hop e k bytes h1 hinfo gg oo n f hold hs u m g hrd hx hm hf b2 b3 fun v' _ q1 q2=> ⟨v',rfl,fun h=> absurd h hd,hS v' _ q1,q2⟩
end Go.aQ
namespace Go.Proofs.YtpcjekgfnfjbpaaGreat
open Go.RowKit Go.aQ Go.ChangeShapes Go.Maps
attribute [local go_sem ↓] Go.wp_at_zero Go.wp_at_succ
noncomputable def Pk (f:Nat->Int):Nat->Int:=dg 256 (mulN (sm 256 f 32) 9)
theorem FC {f:Nat->Int} {m:Nat} (hf:∀i,i<m->0<=f i/\f i<256):arr .u8 m f=arr .u8 m (dg 256 (sm 256 f m)):=dY fun i hi=> (qh (by decide) hf i hi).symm
section
variable {B : Nat} {w w' w1 w2 w3 : World} {p q : Nat} {F F' G G' : Nat -> Prop} {sd : Nat -> Int} {n : Nat} {v u v' : Value} {l l' : List Int} {X X' : Su} {S : TS}
end
noncomputable def sJ (sd:Nat->Int) (n:Nat) (a b:List Int):UA:=
 if a.length=32 then
  if mulN (sm 256 (jg sd n) 32) (sm 256 (bf a) 32)=0 then ([],21,.by sd (n+1))
  else (lK (32+(b.length+16)) (fU (sm 256 (jg sd n) 32) (sm 256 (bf a) 32) b.length (bf b)),0,.by sd (n+1))
 else ([],11,.by sd n)
noncomputable def ji (a c:List Int):List Int × Int:=
 if a.length=32 then
  if c.length<48 then ([],10)
  else if jJ (sm 256 (bf a) 32) (bf c)=0 then ([],21)
  else if mJ (sm 256 (bf a) 32) (c.length - 48) (bf c)=true then (lK (c.length - 48) (Bj (sm 256 (bf a) 32) (bf c)),0) else ([],20)
 else ([],11)
theorem Gc {F:Nat->Prop} {w w':World} {v:Value} {r:List Int} {e:Int} (h:∃u,v=.tuple #[u,.int .i64 e] /\eF F w u r) (hb:Below w.heap.size w w'):∃u,v=.tuple #[u,.int .i64 e] /\eF F w' u r:=by
 obtain ⟨u,e,h⟩:=h;exact ⟨u,e,h.below hb⟩
theorem FX (S P:Int) (n:Nat) (f:Nat->Int) (i:Nat):0<=fU S P n f i/\fU S P n f i<256:=by
 unfold fU gK
 split
 ·exact aN (by decide) _ _
 ·exact qJ _ _ _ _ _ _ _
section
variable {B : Nat} {w w' w1 w2 w3 : World} {p q : Nat} {F F' G G' : Nat -> Prop} {sd : Nat -> Int} {n : Nat} {v u v' : Value} {l l' : List Int} {X X' : Su} {S : TS}
theorem Gs (h:BP B w p F (.by sd n)) (hb:eF F w v l) (hb':eF F w v' l') (hl':l'.length<=400):Calls Tryz.prog 22 #[.pointer (some ⟨p,0,none⟩),v,v'] w fun e w'=> ∃u,e=.returned (.tuple #[u,.int .i64 (ji l l').2])/\eF F w' u (ji l l').1/\Below w.heap.size w w':=by
 have HW:=ak (eG h.1.r);have HNF:=ak h.2;obtain ⟨R,hR⟩:∃x,x=ji l l':=⟨_,rfl⟩
 rw [<-hR];have HR:=ak hR;by_cases hl:l.length=32
 ·have hr1:=hb.rd;rw [hl] at hr1;have HK:=ak (rD hr1);obtain ⟨K,hK⟩:∃K,K=bf l:=⟨_,rfl⟩
  have HBX:Hid (∀w1,Below w.heap.size w w1->Calls Tryz.prog 75 #[.agg (arr .u8 32 K),v'] w1 fun e w'=> ∃u,e=.returned (.tuple #[u,.int .i64 R.2])/\eF F w' u R.1/\Below w1.heap.size w1 w'):=ak fun w1 b1=> by
   rw [hK,FC (fun i hi=> hb.ok.at i (by omega)),HR.out];unfold ji;rw [if_pos hl];have hv:=hb'.rd.below b1;by_cases h48:l'.length<48
   ·rw [if_pos h48];refine (Av _ v' _ _ w1 hv h48).mono ?_;rintro e w' ⟨rfl,b⟩;exact ⟨_,rfl,eF.nil _ _,b⟩
   ·rw [if_neg h48];refine (Fj _ v' (l'.length - 48) l'.length (by omega) _ w1 hv (by omega) (fun i hi=> hb'.ok.at i hi)).mono ?_;rintro e w' ⟨u,er,rfl,⟨r1,r2⟩,b⟩;by_cases hx:jJ (sm 256 (bf l) 32) (bf l')=0
    ·rw [if_pos hx];obtain ⟨rfl,rfl⟩:=r1 hx;exact ⟨_,rfl,eF.nil _ _,b⟩
    ·rw [if_neg hx];by_cases ho:mJ (sm 256 (bf l) 32) (l'.length - 48) (bf l')=true
     ·rw [if_pos ho];obtain ⟨rfl,hr⟩:=(r2 hx).2 ho;exact ⟨_,rfl,eF.any hr (fun i _=> mV _ _ _ _ i) HNF.out,b⟩
     ·rw [if_neg ho];obtain ⟨rfl,rfl⟩:=(r2 hx).1 (by simpa using ho);exact ⟨_,rfl,eF.nil _ _,b⟩
  rw [<-hK] at HK;obtain ⟨av,cv,rfl,_⟩:=hb.rd;obtain ⟨Kj,cv',rfl,_⟩:=hb'.rd;clear hR h hb hb' hl hr1 hK HR hl'
  go_enter Tryz.func22,Tryz.ntmps22
  go_wp2_with fail;refine HW.out.mono ?_;rintro e w1 ⟨rfl,rfl⟩;go_wp2_with fail;refine HK.out.mono ?_;rintro e w2 ⟨rfl,b2⟩;have B2:=ak b2;clear b2;go_upto_region 4 with (refine aH rfl 22 _ _ rfl .u8 w2.heap.size 32 (fun _=> 0) K bZ rfl rfl (bg rfl (by rfl)) ?_);refine aC (fun w3=> aD .u8 w3 w2.heap.size 32 K/\Below w1.heap.size w1 w3) ⟨(show aD .u8 (w2.alloc (.cells (arr .u8 32 (fun _=> 0)) 22)) w2.heap.size 32 (fun _=> 0) from bg rfl rfl).setRow 32 K,ay (B2.out.alloc B2.out.size _) B2.out.size _⟩ ?_;rintro w3 ⟨h8,b3⟩;have H8:=ak h8;have B3:=ak b3;clear h8 b3;go_wp2_with (refine aM rfl 22 _ rfl .u8 w2.heap.size 32 K 5 dB bZ rfl H8.out ?_);refine (HBX.out w3 B3.out).mono ?_;rintro e w4 ⟨u,rfl,hy,b4⟩;have HY:=ak hy;have B4:=ak (B3.out.trans (b4.mono B3.out.size));obtain ⟨au,cu,rfl⟩:=hy.slice;clear hy b4;go_wp2;go_ret2;exact ⟨_,rfl,HY.out,B4.out⟩
 ·have HK:=ak (uq hb.rd hl);have HE:Hid (R=([],11)):=ak (by rw [HR.out];exact if_neg hl);obtain ⟨av,cv,rfl,_⟩:=hb.rd;obtain ⟨Kj,cv',rfl,_⟩:=hb'.rd;clear hR h hb hb' hl
  go_enter Tryz.func22,Tryz.ntmps22
  go_wp2_with fail;refine HW.out.mono ?_;rintro e w1 ⟨rfl,rfl⟩;go_wp2_with fail;refine HK.out.mono ?_;rintro e w2 ⟨rfl,b2⟩;have B2:=ak b2;clear b2;go_upto_region 4 with (refine aH rfl 22 _ _ rfl .u8 w2.heap.size 32 (fun _=> 0) (fun _=> 0) bZ rfl rfl (bg rfl (by rfl)) ?_);refine aC (fun w3=> Below w1.heap.size w1 w3) (ay (B2.out.alloc B2.out.size _) B2.out.size _) ?_;rintro w3 b3;have B3:=ak b3;clear b3;go_wp2;go_ret2;rw [HE.out];exact ⟨_,rfl,eF.nil _ _,B3.out⟩
theorem OH (h:BP B w p F (.by sd n)) (hb:eF F w v l) (hb':eF F w v' l') (hn:n<=900) (hl':l'.length<=300):Calls Tryz.prog 13 #[.pointer (some ⟨p,0,none⟩),v,v'] w fun e w'=> ∃u,e=.returned (.tuple #[u,.int .i64 (sJ sd n l l').2.1])/\WC B w p F u (sJ sd n l l') w':=by
 have HQ:=ak h;have HW:=ak (eG h.1.r);have HNF:=ak h.2;obtain ⟨R,hR⟩:∃x,x=sJ sd n l l':=⟨_,rfl⟩
 rw [<-hR];have HR:=ak hR;by_cases hl:l.length=32
 ·have hr1:=hb.rd;rw [hl] at hr1;have HK:=ak (rD hr1);obtain ⟨K,hK⟩:∃K,K=bf l:=⟨_,rfl⟩
  obtain ⟨D,hD⟩:∃D,D=jg sd n:=⟨_,rfl⟩
  have HR2:Hid (R.2.2=.by sd (n+1)):=ak (by
   rw [HR.out];unfold sJ;rw [if_pos hl]
   split<;> rfl)
  have HBX:Hid (∀w1,Rd .u8 w1 v' l'.length (bf l')->Calls Tryz.prog 65 #[.agg (arr .u8 32 D),.agg (arr .u8 32 K),v'] w1 fun e w'=> ∃u,e=.returned (.tuple #[u,.int .i64 R.2.1])/\eF F w' u R.1/\Below w1.heap.size w1 w'):=ak fun w1 hv=> by
   rw [hK,hD,FC (fun i hi=> hb.ok.at i (by omega)),FC (f:=jg sd n) (fun i _=> vw sd n i),HR.out];unfold sJ;rw [if_pos hl];refine (ME _ _ v' _ _ w1 hv hl').mono ?_;rintro e w' ⟨u,er,rfl,⟨r1,r2⟩,b⟩;by_cases hx:mulN (sm 256 (jg sd n) 32) (sm 256 (bf l) 32)=0
   ·rw [if_pos hx];obtain ⟨rfl,rfl⟩:=r1 hx;exact ⟨_,rfl,eF.nil _ _,b⟩
   ·rw [if_neg hx];obtain ⟨rfl,hr⟩:=r2 hx;exact ⟨_,rfl,eF.any hr (fun i _=> FX _ _ _ _ i) HNF.out,b⟩
  have HDR:=ak (fun w h=> qF (w:=w) (B:=B) (p:=p) (sd:=sd) (n:=n) h (by omega));rw [<-hK] at HK;rw [<-hD] at HDR;have HV:=ak hb'.rd;have HPL:Hid (p<w.heap.size):=ak h.1.lt;obtain ⟨av,cv,rfl,_⟩:=hb.rd;obtain ⟨av2,cv2,rfl,_⟩:=hb'.rd;have ahu:Hid (∀w1,Rd .u8 w1 (.slice av2 l'.length cv2) l'.length (bf l')->Calls Tryz.prog 65 #[.agg (arr .u8 32 D),.agg (arr .u8 32 K),.slice av2 l'.length cv2] w1 fun e w'=> ∃x,e=.returned x/\(∃u,x=.tuple #[u,.int .i64 R.2.1] /\eF F w' u R.1)/\Below w1.heap.size w1 w'):=ak fun w1 hv=> (HBX.out w1 hv).mono fun e w' ⟨u,h1,h2,h3⟩=> ⟨_,h1,⟨u,rfl,h2⟩,h3⟩
  obtain ⟨N2,Ba⟩:∃N,N=l'.length:=⟨_,rfl⟩
  rw [<-Ba] at ahu HV ⊢;clear hR h hb hb' hl hr1 hK hD HR hl' hn HBX Ba
  go_enter Tryz.func13,Tryz.ntmps13
  go_wp2_with fail;refine HW.out.mono ?_;rintro e w1 ⟨rfl,rfl⟩;go_wp2_with fail;refine HK.out.mono ?_;rintro e w2 ⟨rfl,b2⟩;have B2:=ak b2;clear b2;go_upto_region 4 with (refine aH rfl 22 _ _ rfl .u8 w2.heap.size 32 (fun _=> 0) K bZ rfl rfl (bg rfl (by rfl)) ?_);refine aC (fun w3=> aD .u8 w3 w2.heap.size 32 K/\Below w1.heap.size w1 w3) ⟨(show aD .u8 (w2.alloc (.cells (arr .u8 32 (fun _=> 0)) 22)) w2.heap.size 32 (fun _=> 0) from bg rfl rfl).setRow 32 K,ay (B2.out.alloc B2.out.size _) B2.out.size _⟩ ?_;rintro w3 ⟨h8,b3⟩;have H8:=ak h8;have B3:=ak b3;have Rh:Hid (p<w2.heap.size):=ak (tN HPL.out B2.out.size);clear h8 b3;obtain ⟨x8,NM⟩:∃x,x=w2.heap.size:=⟨_,rfl⟩
  rw [<-NM] at H8 Rh ⊢;clear NM;go_upto_region 6 with (fail);have HQ3:Hid (AV B w3 p sd n):=ak (HQ.out.1.below B3.out);have HNP:Hid (¬ (x8=p\/False)):=ak fun h=> h.elim (fun e=> by have:=Rh.out;omega) id;have FM:=ak (HV.out.below B3.out)
  refine En (n:=37) 1 (by kernel_rfl) (by kernel_rfl) (by kernel_rfl) (by decide) (by kernel_rfl) rfl
   (fun ii vv=> (match ii with | 0=> vv=.pointer (some ⟨p,0,none⟩) | 1=> vv=.agg (arr .u8 32 (D)) | 2=> vv=.agg (arr .u8 32 (K)) | 3=> vv=.slice av2 N2 cv2 | 6 | 8=> vv=.int .i64 (R.2.1) | _=> True)) (fun ii vv ww=> (ii=4->∃u,vv=.tuple #[u,.int .i64 R.2.1] /\eF F ww u R.1)/\(ii=5->eF F ww vv R.1)/\(ii=7->eF F ww vv R.1))
   (fun i v w w' h hE=> ⟨fun e=> Gc (h.1 e) hE,fun e=> eF.below (h.2.1 e) hE,fun e=> eF.below (h.2.2 e) hE⟩)
   (fun ww=> AV B ww p sd (n+1)/\wV p (fun _=> False) w3 ww) (fun _ _ h hb=> ⟨h.1.below hb,h.2.trans (wV.of_below hb (fun _=> False)) fun _ h=> .inl h⟩) ?_ ?_ ?_
  ·refine dD ?_;refine ⟨?_,(fun h=> absurd rfl h),?_,?_,?_,?_,?_,?_,?_,trivial⟩
   ·intro _ a w2 hB' hP hO hF hd;have hB:=hB' (by kernel_rfl);exact aG <| bJ rfl ⟨(hF.same 0 rfl),aF,aF,aF⟩
   ·intro _ a w2 hB' hP hO hF hd;rw [if_pos (bG rfl)];have nU:aD .u8 w2 x8 32 K:=hO.elim (fun hB=> H8.out.kept hB) (fun hp=> H8.out.wN hp.2.wN HNP.out);exact aO (Ec rfl dB bZ (hF.same 8 rfl) nU) ⟨rfl,aF,aF,aF⟩
   ·intro _ a w2 hB' hP hO hF hd;exact aG <| bJ rfl ⟨(hF.same 2 rfl),aF,aF,aF⟩
   ·intro _ a w2 hB' hP hO hF hd;refine aG <| aI _ _ _ rfl Tryz.call65 _ (qj ((hd 1 _ rfl rfl).1) ((hd 2 _ rfl rfl).1) ((hd 3 _ rfl rfl).1)) (by simp) ((ahu.out w2 (FM.out.chS (hP (by kernel_rfl)).2 fun _ _ _=> id)).mono ?_);rintro e w3 ⟨u,rfl,hr,hb⟩;exact ⟨u,rfl,⟨trivial,fun _=> hr,aF,aF⟩,hb⟩
   ·intro _ a w2 hB' hP hO hF hd;rw [if_pos (bG rfl)];obtain ⟨u_,wJ,CZ⟩:=(((hd 4 _ rfl rfl).2 (by kernel_rfl)).1 rfl)
    exact aO (aU rfl wJ rfl) ⟨trivial,aF,fun _=> (CZ),aF⟩
   ·intro _ a w2 hB' hP hO hF hd;rw [if_pos (bG rfl)];obtain ⟨u_,wJ,CZ⟩:=(((hd 4 _ rfl rfl).2 (by kernel_rfl)).1 rfl)
    exact aO (aU rfl wJ rfl) ⟨rfl,aF,aF,aF⟩
   ·intro _ a w2 hB' hP hO hF hd;exact aG <| lS rfl ⟨trivial,aF,aF,fun _=> (((hd 5 _ rfl rfl).2 (by kernel_rfl)).2.1 rfl)⟩
   ·intro _ a w2 hB' hP hO hF hd;exact aG <| lS rfl ⟨((hd 6 _ rfl rfl).1),aF,aF,aF⟩
  ·intro o ho a w2 hB hF hd;obtain rfl:=iV ho;refine ⟨by rw [bG rfl],?_⟩;refine Rl 66 #[.tmp 22] _ rfl Tryz.call66 _ (args1 ((hd 0 _ rfl rfl).1)) (by simp) ((HDR.out w2 (HQ3.out.below hB)).mono ?_);rintro e w4 ⟨rfl,h4,c4⟩;exact ⟨_,rfl,⟨rfl,aF,aF,aF⟩,h4,(wV.of_below hB (fun _=> False)).trans c4 fun _ h=> .inl h⟩
  ·intro a w4 hP hF hS;obtain ⟨Ww,Aa⟩:∃x,x=a.tmps.getD 26 undef:=⟨_,rfl⟩
   have P26:∃u,Ww=.tuple #[u,.int .i64 R.2.1] /\eF F w4 u R.1:=by rw [Aa];exact ((hS 4 _ rfl).2 (by kernel_rfl)).1 rfl
   obtain ⟨x27,hx27⟩:∃x,x=a.tmps.getD 27 undef:=⟨_,rfl⟩
   have P27:eF F w4 x27 R.1:=by rw [hx27];exact ((hS 5 _ rfl).2 (by kernel_rfl)).2.1 rfl
   obtain ⟨x6,hx6⟩:∃x,x=a.tmps.getD 6 undef:=⟨_,rfl⟩
   have P6:eF F w4 x6 R.1:=by rw [hx6];exact ((hS 7 _ rfl).2 (by kernel_rfl)).2.2 rfl
   have ha:=aK rfl rfl hF [_,_,_,_,Ww,x27,_,x6,_] rfl ⟨(hS 0 _ rfl).1,(hS 1 _ rfl).1,(hS 2 _ rfl).1,(hS 3 _ rfl).1,Aa.symm,hx27.symm,(hS 6 _ rfl).1,hx6.symm,(hS 8 _ rfl).1,trivial⟩;simp only [puts,Act.put,dS,dU,dV] at ha;subst ha;clear Aa hx27 hx6;clear hS hF;have HY:=ak P6;have HD:Hid (WC B w1 p F x6 R w4):=ak (by
    refine ⟨F,?_,HY.out,?_,fun b hb=> .inl hb⟩
    ·rw [HR2.out];exact ⟨hP.1,HNF.out⟩
    ·refine (wV.of_below B3.out F).trans ⟨hP.2.wN.mono fun b _ hb=> hb.imp id fun h=> h.elim,fun b hb _=> hP.2.u8 b hb id⟩ fun b h=> .inl h)
   obtain ⟨a6,c6,e6⟩:=HY.out.slice;subst e6;clear P6 P26 P27 hP;go_wp2;go_ret2;exact ⟨_,rfl,HD.out⟩
 ·have HK:=ak (uq hb.rd hl);have HE:Hid (R=([],11,.by sd n)):=ak (by rw [HR.out];exact if_neg hl);obtain ⟨av,cv,rfl,_⟩:=hb.rd;obtain ⟨Kj,cv',rfl,_⟩:=hb'.rd;clear hR h hb hb' hl
  go_enter Tryz.func13,Tryz.ntmps13
  go_wp2_with fail;refine HW.out.mono ?_;rintro e w1 ⟨rfl,rfl⟩;go_wp2_with fail;refine HK.out.mono ?_;rintro e w2 ⟨rfl,b2⟩;have B2:=ak b2;clear b2;go_upto_region 4 with (refine aH rfl 22 _ _ rfl .u8 w2.heap.size 32 (fun _=> 0) (fun _=> 0) bZ rfl rfl (bg rfl (by rfl)) ?_);refine aC (fun w3=> Below w1.heap.size w1 w3) (ay (B2.out.alloc B2.out.size _) B2.out.size _) ?_;rintro w3 b3;have B3:=ak b3;clear b3;go_wp2;go_ret2;rw [HE.out];exact ⟨_,rfl,yw HQ.out B3.out 11⟩
end
theorem Ak (sd:Nat->Int) (hs:∀i,i<32->0<=sd i/\sd i<256) (n:Nat) (hn:n<=100000) (w:World):Calls Tryz.prog 18 #[.agg (arr .u8 32 sd),.int .i64 (n:Int)] w fun e w'=> e=.returned (.agg (arr .u8 32 (jg sd n)))/\Below w.heap.size w w':=by
 have HSD:=ak hs;have HN:=ak hn;obtain ⟨D,hD⟩:∃D,D=jg sd n:=⟨_,rfl⟩
 rw [<-hD];have vO:Hid (∀v vc w,Rd .u8 w v 32 sd->qm w vc 1 (fun _=> 8) (fun _=> rZ n)->Calls Tryz.prog 38 #[v,.string Aj,vc] w fun e w'=> e=.returned (.tuple #[.agg (arr .u8 32 D),.int .i64 0])/\Below w.heap.size w w'):=ak fun v vc w h1 h2=> by
  rw [hD];exact Cq _ 32 sd Aj _ 1 (fun _=> 8) (fun _=> rZ n) _ h1 (by decide) (by decide) hs (by decide) h2 (by decide) (fun j hj=> by decide) (fun j hj i hi=> vV _ _)
 clear hs hn hD
 go_enter Tryz.func18,Tryz.ntmps18
 go_upto_region 1 with (fail);refine aC (fun w1=> aD .u8 w1 w.heap.size 32 sd/\aD .u8 w1 (w.heap.size+1) 32 (fun _=> 0)/\Below w.heap.size w w1) ⟨.alloc (bg rfl rfl) _,bg (by first | omega | (simp<;> omega)) (by rfl),((bA _ _).alloc (aP _) _).alloc (by first | omega | (simp<;> omega)) _⟩ ?_;rintro w1 ⟨h2,h4,b1⟩;have H2:=ak h2;have H4:=ak h4;have B1:=ak b1;clear h2 h4 b1;go_wp2_with fail;refine (VP (n:Int) 8 w1 (by decide) (by decide) (by omega) (by have:=HN.out;omega) (by have:=HN.out;omega)).mono ?_;rintro e w2 ⟨u,rfl,hu,b2⟩;have HU:Hid (Rd .u8 w2 u 8 (rZ n)):=ak hu.rd;obtain ⟨au,cu,rfl,_⟩:=hu.rd;have HA2:=ak (H2.out.kept b2);have HB2:=ak (H4.out.kept b2);have B2:=ak (B1.out.trans (b2.mono B1.out.size));clear hu b2;go_wp2_with (refine aM rfl 22 _ rfl .u8 w.heap.size 32 sd 5 dB bZ rfl HA2.out ?_);refine (kH sd HSD.out w2.heap.size w2 (aP _)).mono ?_;rintro e w3 ⟨v3,rfl,hv3,b3⟩;have FM:=ak hv3.rd;obtain ⟨a3,c3,rfl,_⟩:=hv3.rd;have HU3:=ak (HU.out.below b3);have HB3:=ak (HB2.out.kept b3);have B3:=ak (B2.out.trans (b3.mono B2.out.size));clear hv3 b3;go_wp2_with fail;have BA:=(bA w3.heap.size w3).alloc (aP _) (.cells [Value.slice au 8 cu].toArray 23);refine (vO.out _ _ _ (FM.out.below BA) (new1 HU3.out (bA _ _))).mono ?_;rintro e w4 ⟨rfl,b4⟩;have WO:=ak (HB3.out.kept (BA.trans (b4.mono (by rw [World.size_alloc];omega))));have B4:=ak (B3.out.trans ((BA.trans (b4.mono (by rw [World.size_alloc];omega))).mono B3.out.size));clear b4 BA;go_upto_region 3 with (refine aH rfl 22 _ _ rfl .u8 w4.heap.size 32 (fun _=> 0) D bZ rfl rfl (bg rfl (by rfl)) ?_);refine aC (fun w5=> aD .u8 w5 (w.heap.size+1) 32 (fun _=> 0)/\aD .u8 w5 w4.heap.size 32 D/\Below w.heap.size w w5) ⟨(WO.out.alloc _).aA _ (Nat.ne_of_lt WO.out.lt) _,(show aD .u8 (w4.alloc (.cells (arr .u8 32 (fun _=> 0)) 22)) w4.heap.size 32 (fun _=> 0) from bg rfl rfl).setRow 32 D,ay (B4.out.alloc B4.out.size _) B4.out.size _⟩ ?_;rintro w5 ⟨h5,h6,b5⟩;have Ov:=ak h5;have HD5:=ak h6;have B5:=ak b5;clear h5 h6 b5;obtain ⟨x4,hx4⟩:∃x,x=w.heap.size+1:=⟨_,rfl⟩
 have HX4:Hid (w.heap.size<=x4):=ak (by omega);rw [<-hx4] at Ov ⊢;clear hx4
 go_wp2_with (first
  | (refine aM rfl 22 _ rfl .u8 w4.heap.size 32 D 5 dB bZ rfl HD5.out ?_)
  | (refine aH rfl 22 _ _ rfl .u8 x4 32 (fun _=> 0) D bZ rfl rfl Ov.out ?_))
 exact bodyPost_ret (aV rfl _ _ .u8 x4 32 _ 5 rfl (Ov.out.setRow _ _) dB bZ) rfl ⟨rfl,ay B5.out HX4.out _⟩
theorem yN {w w':World} {v:Value} {r:List Int × Int} (h:∃u,v=.tuple #[u,.int .i64 r.2] /\Rd .u8 w u r.1.length (bf r.1)) (hb:Below w.heap.size w w'):∃u,v=.tuple #[u,.int .i64 r.2] /\Rd .u8 w' u r.1.length (bf r.1):=by
 obtain ⟨u,e,h⟩:=h;exact ⟨u,e,h.below hb⟩
section
variable {B : Nat} {w w' : World} {p n : Nat} {sd : Nat -> Int} {u v : Value} {l c : List Int} {er : Int}
theorem KI (h:AV B w p sd n):Calls Tryz.prog 21 #[.pointer (some ⟨p,0,none⟩)] w fun e w'=> e=.returned (.int .i64 (n:Int))/\w'=w:=by
 have HW:=ak (eG h.r);have HC:=ak h.r.cn;clear h
 go_enter Tryz.func21,Tryz.ntmps21
 go_wp2_with fail;refine HW.out.mono ?_;rintro e w1 ⟨rfl,rfl⟩;have cn:=HC.out;go_wp2;go_ret;exact ⟨rfl,rfl⟩
theorem aar (hl:l.length=32) (h:UnA (sm 256 (bf l) 32) c.length (bf c) w u er):er=(ji l c).2/\Rd .u8 w u (ji l c).1.length (bf (ji l c).1):=by
 unfold ji;rw [if_pos hl];by_cases h48:c.length<48
 ·rw [if_pos h48];obtain ⟨rfl,rfl⟩:=h.1 h48;exact ⟨rfl,Rd.nil _ _ _⟩
 ·rw [if_neg h48];have hr:=h.2 (c.length - 48) (by omega);by_cases hX:jJ (sm 256 (bf l) 32) (bf c)=0
  ·rw [if_pos hX];obtain ⟨rfl,rfl⟩:=hr.1 hX;exact ⟨rfl,Rd.nil _ _ _⟩
  ·rw [if_neg hX];by_cases hok:mJ (sm 256 (bf l) 32) (c.length - 48) (bf c)=true
   ·rw [if_pos hok];obtain ⟨rfl,k⟩:=(hr.2 hX).2 hok;exact ⟨rfl,k.lK⟩
   ·rw [if_neg hok];obtain ⟨rfl,rfl⟩:=(hr.2 hX).1 (Bool.eq_false_iff.2 hok);exact ⟨rfl,Rd.nil _ _ _⟩
theorem Ep (hl:l.length=32) (hc:12<=c.length) (hc2:c.length<=1000) (ol:okB l) (oc:okB c) (hv:Rd .u8 w v (c.length - 12) (fun i=> bf c (12+i))):
  Calls Tryz.prog 25 #[.agg (arr .u8 32 (bf l)),.agg (arr .u8 12 (bf c)),.slice none 0 0,v] w fun e w'=> ∃u,e=.returned (.tuple #[u,.int .i64 (gQ l c).2])/\Rd .u8 w' u (gQ l c).1.length (bf (gQ l c).1)/\Below w.heap.size w w':=by
 have hk:∀i,i<32->0<=bf l i/\bf l i<256:=fun i hi=> ol.at i (by omega);have hn:∀i,i<12->0<=tQ 12 (bf c) i/\tQ 12 (bf c) i<256:=fun i hi=> by rw [zP hi];exact oc.at i (by omega)
 rw [yG .u8 12 (bf c)];unfold gQ;rw [if_pos hl];by_cases h28:c.length<28
 ·rw [if_pos h28];refine (Es (bf l) (tQ 12 (bf c)) (.slice none 0 0) v 0 (c.length - 12) (fun _=> 0) _ w (Rd.nil _ _ _) hv (by omega)).mono ?_;rintro e w' ⟨rfl,b⟩;exact ⟨_,rfl,Rd.nil _ _ _,b⟩
 ·rw [if_neg h28];rw [show c.length - 12=(c.length - 28)+16 by omega] at hv;refine (zH (bf l) (tQ 12 (bf c)) hk hn (.slice none 0 0) v 0 (c.length - 28) (fun _=> 0) _ w (Rd.nil _ _ _) hv (fun i hi=> by omega) (fun i hi=> oc.at (12+i) (by omega)) (by decide) (by omega)).mono ?_;rintro e w' ⟨x,rfl,ho,b⟩;by_cases hok:jS (bf l) (tQ 12 (bf c)) 0 (fun _=> 0) (c.length - 28) (fun i=> bf c (12+i))=true
  ·rw [if_pos hok];obtain ⟨u,rfl,hr⟩:=ho.1 hok;exact ⟨u,rfl,hr.lK,b⟩
  ·rw [if_neg hok];obtain rfl:=ho.2 (Bool.eq_false_iff.2 hok);exact ⟨_,rfl,Rd.nil _ _ _,b⟩
end
end Go.Proofs.YtpcjekgfnfjbpaaGreat
namespace Go.Proofs.YtpcjekgfnfjbpaaGreat
open Go.RowKit Go.aQ Go.ChangeShapes Go.Maps
noncomputable def Su.unw:Su->List Int->List Int->List Int × Int
 | .by _ _,a,c=> ji a c
 | .tm S,a,c=> oU S a c
noncomputable def Su.wrp:Su->List Int->List Int->UA
 | .by sd n,a,b=> sJ sd n a b
 | .tm S,a,b=> ((oV 4 S a b).1,(oV 4 S a b).2.1,.tm (oV 4 S a b).2.2)
section
variable {B : Nat} {w w' : World} {p : Nat} {F : Nat -> Prop} {v u v' : Value} {l l' : List Int} {X : Su}
theorem um (h:BP B w p F X) (hb:eF F w v l) (hb':eF F w v' l') (hl':l'.length<=400) (hn:X.size<=900):Calls Tryz.prog 22 #[.pointer (some ⟨p,0,none⟩),v,v'] w fun e w'=> ∃u,e=.returned (.tuple #[u,.int .i64 (X.unw l l').2])/\eF F w' u (X.unw l l').1/\Below w.heap.size w w':=by
 cases X with
 | «by» sd n=> exact Gs h hb hb' hl'
 | tm S=> exact Gq h hb hb' (qw hn (by decide))
theorem KG (h:BP B w p F X) (hb:eF F w v l) (hb':eF F w v' l') (hl':l'.length<=300) (hn:X.size<=900):Calls Tryz.prog 13 #[.pointer (some ⟨p,0,none⟩),v,v'] w fun e w'=> ∃u,e=.returned (.tuple #[u,.int .i64 (X.wrp l l').2.1])/\WC B w p F u (X.wrp l l') w':=by
 cases X with
 | «by» sd n=> exact OH h hb hb' hn hl'
 | tm S=> exact (OG h hb hb' hn).mono fun e w' ⟨u,h1,h2⟩=> ⟨u,h1,h2.su⟩
end
theorem Nr (a:List Int):sm 256 (bf (lK 32 (Pk (bf a)))) 32=mulN (sm 256 (bf a) 32) 9:=by
 rw [gW (fun i hi=> mZ hi)];unfold Pk;rw [nL (by decide),AJ (yC _ 9).1 (yC _ 9).2]
theorem Fh (sd:Nat->Int) (m:Nat) {a b:List Int} (ha:a.length=32) (hb:okB b):∃c,sJ sd m (lK 32 (Pk (bf a))) b=(c,0,.by sd (m+1))/\ji a c=(b,0)/\c.length=b.length+48/\okB c:=by
 obtain ⟨S,hS⟩:∃S,S=sm 256 (jg sd m) 32:=⟨_,rfl⟩
 obtain ⟨T,hT⟩:∃T,T=sm 256 (bf a) 32:=⟨_,rfl⟩
 obtain ⟨n,hn⟩:∃n,n=b.length:=⟨_,rfl⟩
 have hne:mulN S (mulN T 9)≠0:=vR S T;obtain ⟨c,hc⟩:∃c,c=lK (32+(n+16)) (fU S (mulN T 9) n (bf b)):=⟨_,rfl⟩
 refine ⟨c,?_,?_,by rw [hc,fK];omega,hc▸rH fun i _=> WU _ _ _ _ i⟩
 ·unfold sJ;rw [if_pos (fK _ _),Nr,←hS,←hT,←hn,if_neg hne,←hc]
 ·have hci:∀i,i<32+(n+16)->bf c i=fU S (mulN T 9) n (bf b) i:=fun i hi=> by rw [hc];exact mZ hi
  have e1:lW (bf c)=mulN S 9:=by
   rw [<-OB S (mulN T 9) n (bf b)];exact gW fun i hi=> hci i (by omega)
  have eX:jJ T (bf c)=mulN S (mulN T 9):=by unfold jJ;rw [e1,aaP]
  have eK:Bh T (bf c)=lN (mulN S (mulN T 9)) (mulN S 9) (mulN T 9):=by unfold Bh;rw [eX,e1]
  have hhi:∀i,i<n+16->bf c (32+i)=eP (lN (mulN S (mulN T 9)) (mulN S 9) (mulN T 9)) qR 0 qR n (bf b) i:=fun i hi=> (hci (32+i) (by omega)).trans (congrFun (WT S (mulN T 9) n (bf b)) i);have eO:mJ T n (bf c)=true:=by
   unfold mJ;rw [eK,xw hhi];exact zL
  have eH:lK n (Bj T (bf c))=b:=by
   conv=> rhs;rw [<-Tx b]
   rw [<-hn];refine vZ fun i hi=> ?_;unfold Bj;rw [eK];have:=Cx (key:=lN (mulN S (mulN T 9)) (mulN S 9) (mulN T 9)) (nonce:=qR) (nb:=0) (fb:=qR) (n:=n) (f:=bf b) (fun i hi=> hb.at i (by omega)) i hi;rw [<-this];show xo _ (bf c (32+i))=xo _ (eP _ _ _ _ _ _ i);rw [hhi i (by omega)]
  unfold ji;rw [if_pos ha,hc,fK,←hc,if_neg (by omega),←hT,if_neg (by rw [eX];exact hne),show 32+(n+16) - 48=n by omega,if_pos eO,eH]
end Go.Proofs.YtpcjekgfnfjbpaaGreat
namespace Go.Proofs.YtpcjekgfnfjbpaaGreat
open Go.RowKit Go.aQ Go.ChangeShapes Go.Maps
attribute [local go_sem ↓] Go.wp_at_zero Go.wp_at_succ
theorem Rk {sd:Nat->Int} {m:Nat} {a b c:List Int} {X:Su} (ha:a.length=32) (h:sJ sd m (lK 32 (Pk (bf a))) b=(c,0,X)):c=lK (32+(b.length+16)) (fU (sm 256 (jg sd m) 32) (mulN (sm 256 (bf a) 32) 9) b.length (bf b)):=by
 unfold sJ at h;rw [if_pos (fK _ _),Nr,if_neg (vR _ _)] at h;exact (Prod.mk.inj h).1.symm
theorem yS (w:World) (sd:Nat->Int) (hs:∀i,i<32->0<=sd i/\sd i<256) (S:Int) (s0:0<=S) (s1:S<256 ^ 32) (v:Value) (n:Nat) (f:Nat->Int) (hv:Rd .u8 w v n f) (hf:∀i,i<n->0<=f i/\f i<256):
  Calls Tryz.prog 3 #[.agg (arr .u8 32 sd),.agg (arr .u8 32 (dg 256 S)),v] w fun e w'=> e=.returned (.bool true)/\Below w.heap.size w w':=by
 have HSD:=ak hs;have HV:=ak hv;have HF:=ak hf;obtain ⟨av,cv,rfl,hcap,_⟩:=hv;have HCAP:=ak hcap;obtain ⟨sk,hsk⟩:∃l,l=lK 32 (dg 256 S):=⟨_,rfl⟩
 have YV:Hid (sk.length=32):=ak (by rw [hsk,fK]);have OSK:Hid (okB sk):=ak (hsk▸rH fun i _=> aN (by decide) _ _);have NSK:Hid (sm 256 (bf sk) 32=S):=ak (by rw [hsk,gW (fun i hi=> mZ hi),nL (by decide),AJ s0 s1]);have ASK:Hid (arr .u8 32 (dg 256 S)=arr .u8 32 (bf sk)):=ak (dY fun i hi=> by rw [hsk,mZ hi]);have BSK:Hid (∀i,i<32->dg 256 S i=bf sk i):=ak fun i hi=> by rw [hsk,mZ hi]
 obtain ⟨x,hx⟩:∃l,l=lK n f:=⟨_,rfl⟩
 have LX:Hid (x.length=n):=ak (by rw [hx,fK]);have OX:Hid (okB x):=ak (hx▸rH fun i hi=> HF.out i hi);have HXR:Hid (∀w',Below w.heap.size w w'->Rd .u8 w' (.slice av n cv) x.length (bf x)):=ak fun w' hb=> by rw [hx];exact (HV.out.below hb).lK
 obtain ⟨PS,hPS⟩:∃P,P=mulN S 9:=⟨_,rfl⟩
 obtain ⟨pk,hpk⟩:∃l,l=lK 32 (Pk (bf sk)):=⟨_,rfl⟩
 have HPK:Hid (pk=lK 32 (dg 256 PS)):=ak (by rw [hpk,hPS];unfold Pk;rw [NSK.out]);obtain ⟨cw,hw1,hw2,hw3,hw4⟩:=Fh sd 0 YV.out OX.out;obtain ⟨SD,hSD⟩:∃D,D=sm 256 (jg sd 0) 32:=⟨_,rfl⟩
 have HCW:Hid (cw=lK (32+(n+16)) (fU SD PS n (bf x))):=ak (by rw [Rk YV.out hw1,NSK.out,LX.out,hSD,hPS]);have HNE:Hid (mulN SD PS≠0):=ak (by rw [hPS];exact vR SD S);rw [<-hpk] at hw1;have W1:=ak hw1;have W2:=ak hw2;have W3:Hid (cw.length=n+48):=ak (by rw [hw3,LX.out]);obtain ⟨D1,hD1⟩:∃D,D=jg sd 1:=⟨_,rfl⟩
 have D1B:Hid (∀i,0<=D1 i/\D1 i<256):=ak fun i=> hD1▸vw sd 1 i;obtain ⟨SF,Db⟩:∃F,F=eP (bf sk) (tQ 12 D1) 0 (fun _=> 0) n (bf x):=⟨_,rfl⟩
 obtain ⟨cl,hcl⟩:∃l,l=lK (12+(n+16)) (gK 12 D1 SF):=⟨_,rfl⟩
 have HLK:Hid ((Su.by sd 1).lock sk x=(cl,0,.by sd 2)):=ak (by
  have:CV sd 1 sk x= _:=if_pos YV.out;show CV sd 1 sk x= _;rw [this,hcl,Db,hD1,LX.out])
 have HUL:Hid (gQ sk cl=(x,0)):=ak (Su.OC (X:=.by sd 2) (show 2<=900 by decide) (show sk.length=32/\okB x/\∃D:Nat->Int,(∀i,i<12->0<=D i/\D i<256)/\cl=lK (12+(x.length+16)) (gK 12 D (eP (bf sk) (tQ 12 D) 0 (fun _=> 0) x.length (bf x))) from ⟨YV.out,OX.out,D1,fun i _=> D1B.out i,by rw [hcl,Db,LX.out]⟩));have LCL:Hid (cl.length=n+28):=ak (by rw [hcl,fK];omega);have HSF:Hid (SF=eP (bf sk) (tQ 12 D1) 0 (fun _=> 0) n (bf x)):=ak Db;have yI:Hid (cl=lK (12+(n+16)) (gK 12 D1 SF)):=ak hcl;have HD0:Hid (∀w',Calls Tryz.prog 18 #[.agg (arr .u8 32 sd),.int .i64 0] w' fun e w2=> e=.returned (.agg (arr .u8 32 (dg 256 SD)))/\Below w'.heap.size w' w2):=ak fun w'=> by
  have:=Ak sd HSD.out 0 (by decide) w';rw [FC (fun i _=> vw sd 0 i),←hSD] at this;exact this
 have HD1:Hid (∀w',Calls Tryz.prog 18 #[.agg (arr .u8 32 sd),.int .i64 1] w' fun e w2=> e=.returned (.agg (arr .u8 32 D1))/\Below w'.heap.size w' w2):=ak fun w'=> by
  have:=Ak sd HSD.out 1 (by decide) w';rw [<-hD1] at this;exact this
 have Kk:Hid (∀w',Calls Tryz.prog 15 #[.agg (arr .u8 32 (dg 256 S))] w' fun e w2=> e=.returned (.agg (arr .u8 32 (dg 256 PS)))/\Below w'.heap.size w' w2):=ak fun w'=> hPS▸pE S w';obtain ⟨eu,heu⟩:∃r,r=ji sk x:=⟨_,rfl⟩
 obtain ⟨el,hel⟩:∃r,r=gQ sk x:=⟨_,rfl⟩
 have HEU:Hid (eu=ji sk x):=ak heu;have Zi:Hid (el=gQ sk x):=ak hel;clear hs hf hsk hx hPS hpk hw1 hw2 hw3 hw4 hSD hD1 Db hcl heu hel s0 s1 hcap
 go_enter Tryz.func3,Tryz.ntmps3
 go_upto_region 1 with (fail);refine aC (fun w1=> aD .u8 w1 w.heap.size 32 sd/\aD .u8 w1 (w.heap.size+1) 32 (dg 256 S)/\Below w.heap.size w w1) ⟨.alloc (bg rfl rfl) _,bg (by first | omega | (simp<;> omega)) rfl,((bA _ _).alloc (aP _) _).alloc (by first | omega | (simp<;> omega)) _⟩ ?_;rintro w1 ⟨h3,h4,b1⟩;have H31:=ak h3;have H41:=ak h4;have B1:=ak b1;clear h3 h4 b1;obtain ⟨x3,hx3⟩:∃x,x=w.heap.size:=⟨_,rfl⟩
 obtain ⟨x4,hx4⟩:∃x,x=w.heap.size+1:=⟨_,rfl⟩
 rw [<-hx4] at H41 ⊢;rw [show (Value.pointer (some ⟨w.heap.size,0,none⟩))=.pointer (some ⟨x3,0,none⟩) by rw [hx3]];replace H31:Hid (aD .u8 w1 x3 32 sd):=hx3▸H31;clear hx3 hx4;go_wp2_with fail;refine (YO w1).mono ?_;rintro e w0 ⟨rfl,b2⟩;have H30:=ak (H31.out.kept b2);have H40:=ak (H41.out.kept b2);have B0:=ak (B1.out.trans (b2.mono B1.out.size));clear b2 H31 H41;by_cases agc:200<n
 ·have q:(200:Int)<(n:Int):=by omega
  clear agc;go_wp2;go_ret;exact ⟨rfl,B0.out⟩
 have HN:Hid (n<=200):=ak (by omega);have q:¬ (200:Int)<(n:Int):=by omega
 clear agc;go_wp2_with (refine aM rfl 22 _ rfl .u8 x3 32 sd 5 dB bZ rfl H30.out ?_);refine (wX sd HSD.out w0).mono ?_;rintro e w4 ⟨p,rfl,h5,b4⟩;have N0:Hid (MS w0 w0.heap.size w4 p (fun _=> False) (.by sd 0) [(.slice av n cv,x)]):=ak (.one ⟨h5,fun _ h=> h⟩ b4 ⟨OX.out,HXR.out _ (B0.out.trans (b4.mono B0.out.size)),fun _ _ _ hf=> hf⟩ (aP _));have HK3:Hid (∀w' p F X L,MS w0 w0.heap.size w' p F X L->aD .u8 w' x3 32 sd):=ak fun w' p F X L h=> H30.out.kept h.b;have HK4:Hid (∀w' p F X L,MS w0 w0.heap.size w' p F X L->aD .u8 w' x4 32 (dg 256 S)):=ak fun w' p F X L h=> H40.out.kept h.b;have HSK:Hid (∀w' p F m L,MS w0 w0.heap.size w' p F (.by sd m) L->eF F w' (.slice (some ⟨x4,0,none⟩) 32 32) sk):=ak fun w' p F m L h=> by
  have h1:=(H40.out.kept h.b).rd (by decide);have h2:Rd .u8 w' (.slice (some ⟨x4,0,none⟩) 32 32) sk.length (bf sk):=by rw [YV.out];exact h1.congr BSK.out
  exact ⟨OSK.out,h2,fun _ b _=> h.m.2 b⟩
 clear h5 b4;go_wp2_with (refine aM rfl 22 _ rfl .u8 x4 32 (dg 256 S) 5 dB bZ rfl (HK4.out _ _ _ _ _ N0.out) ?_);refine (Kk.out w4).mono ?_;rintro e w5 ⟨rfl,b5⟩;have N1:=ak (N0.out.below b5);clear b5;go_wp2_with fail;refine (kH (dg 256 PS) (fun i _=> aN (by decide) _ _) w5.heap.size w5 (aP _)).mono ?_;rintro e w6 ⟨u6,rfl,hu6,b6⟩;have N2:=ak (N1.out.more (l:=pk) b6 (HPK.out▸eF.any hu6.rd (fun i _=> aN (by decide) _ _) N1.out.m.2));obtain ⟨a6,c6,rfl,_⟩:=hu6.rd;clear hu6 b6;go_wp2_with fail;have C3:=ak (KG (X:=.by sd 0) N2.out.m (N2.out.y 0 _ _ rfl) (N2.out.y 1 _ _ rfl) (by have:=LX.out;have:=HN.out;omega) (show 0<=900 by decide));rw [show (Su.by sd 0).wrp pk x=(cw,0,.by sd 1) from W1.out] at C3;refine C3.out.mono ?_;rintro e w7 ⟨u7,rfl,r7⟩;obtain ⟨F7,n7⟩:=N2.out.step r7;have N3:=ak n7;obtain ⟨a7,c7,rfl⟩:=(n7.y 0 _ _ rfl).slice;clear r7 n7 C3;go_wp2_with fail;have C4:=ak (KH (X:=.by sd 1) N3.out.m (HSK.out _ _ _ _ _ N3.out) (N3.out.y 2 _ _ rfl) (show 1<=900 by decide) (by have:=LX.out;have:=HN.out;omega));rw [HLK.out] at C4;refine C4.out.mono ?_;rintro e w8 ⟨u8,rfl,r8⟩;obtain ⟨F8,n8⟩:=N3.out.step r8;have N4:=ak n8;obtain ⟨a8,c8,rfl⟩:=(n8.y 0 _ _ rfl).slice;clear r8 n8 C4;have HWR:Hid (∀w',Below w8.heap.size w8 w'->Calls Tryz.prog 17 #[.agg (arr .u8 32 (dg 256 SD)),.agg (arr .u8 32 (dg 256 PS)),.slice av n cv] w' fun e wz=> ∃u,e=.returned u/\jK wz u (32+(n+16)) (fU SD PS n (bf x))/\Below w'.heap.size w' wz):=ak fun w' hb'=> by
  have hr:=(((N4.out.y 3 _ _ rfl).below hb').rd)
  rw [LX.out] at hr;refine (KN SD PS _ n (bf x) w' hr (by have:=HN.out;omega)).mono ?_;rintro e wz ⟨u,er,rfl,h,b⟩;obtain ⟨rfl,h2⟩:=h.2 HNE.out;exact ⟨_,rfl,⟨u,rfl,h2⟩,b⟩
 have h3:=HK3.out _ _ _ _ _ N4.out;have h4:=HK4.out _ _ _ _ _ N4.out;go_upto_region 8 with (fail)
 refine aT (n:=177) (by kernel_rfl) (by kernel_rfl) (by kernel_rfl) rfl
  (fun ii vv ww=> (match ii with | 0=> vv=.agg (arr .u8 32 (sd)) | 1=> vv=.agg (arr .u8 32 (dg 256 SD)) | 2=> vv=.agg (arr .u8 32 (dg 256 S)) | 3=> vv=.agg (arr .u8 32 (dg 256 PS)) | 4=> vv=.slice av n cv | 8 | 10=> vv=.int .i64 (0) | _=> True)/\(ii=5->jK ww vv (32+(n+16)) (fU SD PS n (bf x)))/\(ii=6->jK ww vv (32+(n+16)) (fU SD PS n (bf x)))/\(ii=7->Rd .u8 ww vv (32+(n+16)) ((fU SD PS n (bf x))))/\(ii=9->Rd .u8 ww vv (32+(n+16)) ((fU SD PS n (bf x)))))
  (fun w w'=> Below w.heap.size w w') (fun _ _ h=> h) (fun i v w w' h hE=> ⟨h.1,fun e=> jK.below (h.2.1 e) hE,fun e=> jK.below (h.2.2.1 e) hE,fun e=> Rd.below (h.2.2.2.1 e) hE,fun e=> Rd.below (h.2.2.2.2 e) hE⟩) ?_ ?_
 ·refine dD ?_;refine ⟨?_,?_,?_,?_,?_,?_,?_,?_,?_,?_,?_,trivial⟩
  ·intro a w2 hB hF hd;exact aG <| aO (aB rfl dB rfl bZ (hF.same 3 rfl) (h3.below hB h3.lt)) ⟨rfl,aF,aF,aF,aF⟩
  ·intro a w2 hB hF hd;refine aG <| aI _ _ _ rfl Tryz.call18 _ (args2 ((hd 0 _ rfl (aj rfl)).1) rfl) (by simp) ((HD0.out w2).mono ?_);rintro e w3 ⟨rfl,hb⟩;exact ⟨_,rfl,⟨rfl,aF,aF,aF,aF⟩,hb⟩
  ·intro a w2 hB hF hd;exact aG <| aO (aB rfl dB rfl bZ (hF.same 4 rfl) (h4.below hB h4.lt)) ⟨rfl,aF,aF,aF,aF⟩
  ·intro a w2 hB hF hd;refine aG <| aI _ _ _ rfl Tryz.call15 _ (args1 ((hd 2 _ rfl (aj rfl)).1)) (by simp) ((Kk.out w2).mono ?_);rintro e w3 ⟨rfl,hb⟩;exact ⟨_,rfl,⟨rfl,aF,aF,aF,aF⟩,hb⟩
  ·intro a w2 hB hF hd;exact aG <| bJ rfl ⟨(hF.same 2 rfl),aF,aF,aF,aF⟩
  ·intro a w2 hB hF hd;refine aG <| aI _ _ _ rfl Tryz.call17 _ (qj ((hd 1 _ rfl (aj rfl)).1) ((hd 3 _ rfl (aj rfl)).1) ((hd 4 _ rfl (aj rfl)).1)) (by simp) ((HWR.out w2 hB).mono ?_);rintro e w3 ⟨u,rfl,hr,hb⟩;exact ⟨u,rfl,⟨trivial,fun _=> hr,aF,aF,aF⟩,hb⟩
  ·intro a w2 hB hF hd;exact aG <| bJ rfl ⟨trivial,aF,fun _=> ((hd 5 _ rfl (aj rfl)).2.1 rfl),aF,aF⟩
  ·intro a w2 hB hF hd;rw [if_pos (bG rfl)];obtain ⟨u_,wJ,CZ⟩:=((hd 6 _ rfl (aj rfl)).2.2.1 rfl)
   exact aO (aU rfl wJ rfl) ⟨trivial,aF,aF,fun _=> (CZ),aF⟩
  ·intro a w2 hB hF hd;rw [if_pos (bG rfl)];obtain ⟨u_,wJ,CZ⟩:=((hd 6 _ rfl (aj rfl)).2.2.1 rfl)
   exact aO (aU rfl wJ rfl) ⟨rfl,aF,aF,aF,aF⟩
  ·intro a w2 hB hF hd;exact aG <| lS rfl ⟨trivial,aF,aF,aF,fun _=> ((hd 7 _ rfl (aj rfl)).2.2.2.1 rfl)⟩
  ·intro a w2 hB hF hd;exact aG <| lS rfl ⟨((hd 8 _ rfl (aj rfl)).1),aF,aF,aF,aF⟩
 ·intro a w9 hB hF hS;obtain ⟨x51,abq⟩:∃x,x=a.tmps.getD 51 undef:=⟨_,rfl⟩
  have P51:jK w9 x51 (32+(n+16)) (fU SD PS n (bf x)):=by rw [abq];exact (hS 5 _ rfl).2.1 rfl
  obtain ⟨x45,LK⟩:∃x,x=a.tmps.getD 45 undef:=⟨_,rfl⟩
  have P45:jK w9 x45 (32+(n+16)) (fU SD PS n (bf x)):=by rw [LK];exact (hS 6 _ rfl).2.2.1 rfl
  obtain ⟨x52,abp⟩:∃x,x=a.tmps.getD 52 undef:=⟨_,rfl⟩
  have P52:Rd .u8 w9 x52 (32+(n+16)) ((fU SD PS n (bf x))):=by rw [abp];exact (hS 7 _ rfl).2.2.2.1 rfl
  obtain ⟨x12,abz⟩:∃x,x=a.tmps.getD 12 undef:=⟨_,rfl⟩
  have P12:Rd .u8 w9 x12 (32+(n+16)) ((fU SD PS n (bf x))):=by rw [abz];exact (hS 9 _ rfl).2.2.2.2 rfl
  have ha:=aK rfl rfl hF [_,_,_,_,_,x51,x45,x52,_,x12,_] rfl ⟨(hS 0 _ rfl).1,(hS 1 _ rfl).1,(hS 2 _ rfl).1,(hS 3 _ rfl).1,(hS 4 _ rfl).1,abq.symm,LK.symm,abp.symm,(hS 8 _ rfl).1,abz.symm,(hS 10 _ rfl).1,trivial⟩;simp only [puts,Act.put,dS,dU,dV] at ha;subst ha;clear abq LK abp abz;clear hS hF;have N5:=ak (N4.out.more (l:=cw) hB (HCW.out▸eF.any P12 (fun i _=> FX _ _ _ _ i) N4.out.m.2));obtain ⟨a9,c9,e9,_⟩:=id P12;subst e9;clear P12 P45 P51 P52 h3 h4 hB;go_wp2_with (refine aM rfl 22 _ rfl .u8 x3 32 sd 5 dB bZ rfl (HK3.out _ _ _ _ _ N5.out) ?_);refine (HD1.out w9).mono ?_;rintro e WV ⟨rfl,b10⟩;have N6:=ak (N5.out.below b10);clear b10;go_upto_region 10 with (refine aH rfl 22 _ _ rfl .u8 WV.heap.size 32 (fun _=> 0) D1 bZ rfl rfl (bg rfl (by rfl)) ?_);refine aC (fun w11=> aD .u8 w11 WV.heap.size 32 D1/\Below WV.heap.size WV w11) ⟨(show aD .u8 (WV.alloc (.cells (arr .u8 32 (fun _=> 0)) 22)) WV.heap.size 32 (fun _=> 0) from bg rfl rfl).setRow 32 D1,ay ((bA _ _).alloc (aP _) _) (aP _) _⟩ ?_;rintro w11 ⟨h14,b11⟩;have N7:=ak (N6.out.below b11);obtain ⟨Zk,hq⟩:∃q,q=WV.heap.size:=⟨_,rfl⟩
  rw [<-hq] at h14 ⊢;have Wy:=h14.lt;have ahs:Hid (∀i,i<12->w11.cell? ⟨Zk,0+i,none⟩=some (.int .u8 (D1 i))):=ak fun i hi=> by rw [lH,h14.cell i (by omega)]
  clear hq b11;go_upto_region 10 with (fail)
  refine bT (n:=177) (by kernel_rfl) (by kernel_rfl) (by kernel_rfl) rfl
   (mU [(4,3)]) (iO [(4,3)]) (fun _=> arr .u8 12 (fun _=> 0)) (fun _=> (arr .u8 12 (D1))) (fun _=> 35) (fun _=> 15)
   (fun ii vv _=> (match ii with | 0=> vv=.slice (some ⟨Zk,0,none⟩) 12 32 | 1=> vv=.pointer (some ⟨Zk,0,none⟩) | 2=> vv=.agg (arr .u8 12 (D1)) | _=> True)) (fun _ _=> True) (fun _ _ _=> trivial) (fun _ _ _ _ _ _ _=> trivial) (fun _ _ _ _ h _=> h)
   (jL rfl) (iC rfl) ?_ ?_ ?_ ?_
  ·refine dD ?_;refine ⟨?_,?_,?_,(fun h=> by cases h),(fun _ h=> by cases h),trivial⟩
   ·intro _ _ a w2 hB hF hd;exact aG <| aO (aZ rfl (hF.same 14 rfl) (by simp only [Option.map_some,Option.map_none];exact iN (m:=12) dB Tryz.size5 (by decide))) rfl
   ·intro _ _ a w2 hB hF hd;exact aG <| aO (iD rfl (hd 0 _ rfl rfl rfl (aj rfl)) tT (by decide)) rfl
   ·intro _ _ a w2 hB hF hd;exact aG <| aO (gI rfl (hd 1 _ rfl rfl rfl (aj rfl)) tT AL (fun i hi=> (hB.cell (p:=⟨Zk,0+i,none⟩) Wy).trans (ahs.out i hi))) rfl
  ·refine dD ?_;refine ⟨(fun h=> by cases h),(fun h=> by cases h),(fun h=> by cases h),?_,(fun h=> by cases h),trivial⟩
   ·exact fun _=> ⟨rfl,rfl,fun a w2 K h=> bE rfl rfl Tryz.zeroValue35 (by simp) h⟩
  ·refine dD ?_;refine ⟨(fun _ h=> by cases h),(fun _ h=> by cases h),(fun _ h=> by cases h),(fun _ h=> by cases h),?_,trivial⟩
   ·intro p hp;obtain rfl:3=p:=iV hp;exact ⟨rfl,rfl,⟨_,rfl⟩,aj rfl,fun a w2 b K hB hF hd hx hb h=> cK rfl rfl AL hx (hd 2 _ rfl rfl rfl (aj rfl)) hb h⟩
  ·intro a QZ blk hB hF hS hv hfin fG;obtain ⟨v3,WX,v3u⟩:=hv 3 _ rfl rfl;have ha:=aK rfl rfl hF [_,_,_,_,undef] rfl ⟨hS 0 _ rfl rfl rfl,hS 1 _ rfl rfl rfl,hS 2 _ rfl rfl rfl,v3,trivial,trivial⟩;have f3:=hfin 4 _ 3 rfl rfl;simp only [puts,Act.put,dS,dU,dV] at ha;subst ha;have V3:aD .u8 QZ (blk 3) 12 (D1):=⟨_,f3⟩
   clear hS hv hfin fG hF v3 f3;have N8:=ak (N7.out.below hB);have H14:=ak (h14.kept hB);obtain ⟨y15,e15⟩:∃x,x=blk 3:=⟨_,rfl⟩
   rw [<-e15] at V3 ⊢;have H15:=ak V3;clear V3 WX v3u e15 hB h14 Wy ahs;have HSL:Hid (∀w',Below QZ.heap.size QZ w'->Calls Tryz.prog 20 #[.agg (arr .u8 32 (dg 256 S)),.agg (arr .u8 12 D1),.slice none 0 0,.slice av n cv] w' fun e wz=> ∃u,e=.returned u/\Rd .u8 wz u (n+16) SF/\Below w'.heap.size w' wz):=ak fun w' hb'=> by
    have hr:=(((N8.out.y 4 _ _ rfl).below hb').rd)
    rw [LX.out] at hr;rw [ASK.out,yG .u8 12 D1];have:=zG (bf sk) (tQ 12 D1) (fun i hi=> OSK.out.at i (by rw [YV.out];exact hi)) (fun i hi=> by rw [zP hi];exact D1B.out i) (.slice none 0 0) _ 0 n (fun _=> 0) (bf x) w' (Rd.nil _ _ _) hr (fun i hi=> by omega) (by decide) (by have:=HN.out;omega);rw [<-HSF.out] at this;exact this
   have FN:Hid (∀w',Below QZ.heap.size QZ w'->Calls Tryz.prog 19 #[.slice a7 cw.length c7,.slice a9 (32+(n+16)) c9] w' fun e wz=> e=.returned (.bool true)/\Below w'.heap.size w' wz):=ak fun w' hb'=> by
    have h1:=((N8.out.y 2 _ _ rfl).below hb').rd;have h2:=((N8.out.y 0 _ _ rfl).below hb').rd;exact mM _ _ _ _ _ w' h1 h2 fun _ _=> rfl
   have HS2:Hid (∀w' t,Below QZ.heap.size QZ w'->Rd .u8 w' t (12+(n+16)) (gK 12 D1 SF)->Calls Tryz.prog 19 #[.slice a8 cl.length c8,t] w' fun e wz=> e=.returned (.bool true)/\Below w'.heap.size w' wz):=ak fun w' t hb' ht=> by
    have h1:=((N8.out.y 1 _ _ rfl).below hb').rd;have h2:=ht.lK;rw [<-yI.out] at h2;exact mM _ _ _ _ _ w' h1 h2 fun _ _=> rfl
   have HDW:Hid (∀w',Below QZ.heap.size QZ w'->Calls Tryz.prog 21 #[.pointer (some ⟨p,0,none⟩)] w' fun e wz=> e=.returned (.int .i64 2)/\Below w'.heap.size w' wz):=ak fun w' hb'=> by
    refine (KI ((N8.out.below hb').m.1)).mono ?_;rintro e wz ⟨rfl,rfl⟩;exact ⟨rfl,bA _ _⟩
   have acZ:Hid (∀i,i<12->QZ.cell? ⟨Zk,0+i,none⟩=some (.int .u8 (gK 12 D1 SF i))):=ak fun i hi=> by rw [jW hi,lH];exact H14.out.cell i (by omega)
   have ahc:=ak H14.out.lt;have ZQ:Hid (0<n+16):=ak (by omega);have HNC:Hid ((12+(n+16)) * 1<=140737488355328):=ak (by have:=HN.out;omega);have h4:=HK4.out _ _ _ _ _ N8.out;have h15:=H15.out;obtain ⟨CF,hCF⟩:∃F,F=gK 12 D1 SF:=⟨_,rfl⟩
   have HCF:Hid (∀i,CF (12+i)=SF i):=ak fun i=> by rw [hCF];exact iQ
   rw [<-hCF] at HS2 acZ;obtain ⟨nw,hnw⟩:∃x,x=cw.length:=⟨_,rfl⟩
   obtain ⟨nl,hnl⟩:∃x,x=cl.length:=⟨_,rfl⟩
   have HNW:=ak hnw;have HNL:=ak hnl;rw [<-hnw] at FN ⊢;rw [<-hnl] at HS2 ⊢;clear hCF hnw hnl;go_upto_region 11 with (fail)
   refine aT (n:=177) (by kernel_rfl) (by kernel_rfl) (by kernel_rfl) rfl
    (fun ii vv ww=> (match ii with | 0 | 3=> vv=.int .i64 (0) | 1 | 2 | 4 | 5 | 6 | 10 | 11 | 12 | 21 | 22 | 23 | 26 | 27=> vv=.bool false | 7=> vv=.slice a7 nw c7 | 8=> vv=.slice a9 (32+(n+16)) c9 | 9 | 20=> vv=.bool true | 13=> vv=.slice a8 nl c8 | 14=> vv=.slice (some ⟨Zk,0,none⟩) 12 12 | 15=> vv=.agg (arr .u8 32 (dg 256 S)) | 16=> vv=.agg (arr .u8 12 (D1)) | 17=> vv=.slice av n cv | 24=> vv=.pointer (some ⟨p,0,none⟩) | 25=> vv=.int .i64 (2) | _=> True)/\(ii=18->Rd .u8 ww vv (n+16) (SF))/\(ii=19->Rd .u8 ww vv (12+(n+16)) (CF)))
    (fun w w'=> Below w.heap.size w w') (fun _ _ h=> h) (fun i v w w' h hE=> ⟨h.1,fun e=> Rd.below (h.2.1 e) hE,fun e=> Rd.below (h.2.2 e) hE⟩) ?_ ?_
   ·refine dD ?_;refine ⟨?_,?_,?_,?_,?_,?_,?_,?_,?_,?_,?_,?_,?_,?_,?_,?_,?_,?_,?_,?_,?_,?_,?_,?_,?_,?_,?_,?_,trivial⟩
    ·intro a w2 hB hF hd;exact aG <| bJ rfl ⟨(hF.same 9 rfl),aF,aF⟩
    ·intro a w2 hB hF hd;exact aG <| aO (Go.aQ.qL rfl ((hd 0 _ rfl (aj rfl)).1) rfl) ⟨(congrArg Value.bool (by decide)),aF,aF⟩
    ·intro a w2 hB hF hd;exact aG <| bJ rfl ⟨((hd 1 _ rfl (aj rfl)).1),aF,aF⟩
    ·intro a w2 hB hF hd;refine aS (aX rfl rfl ((hd 2 _ rfl (aj rfl)).1) rfl) ?_;exact bJ rfl ⟨(hF.same 11 rfl),aF,aF⟩
    ·intro a w2 hB hF hd;refine aS (aX rfl rfl ((hd 2 _ rfl (aj rfl)).1) rfl) ?_;exact aO (Go.aQ.qL rfl ((hd 3 _ rfl (aj rfl)).1) rfl) ⟨(congrArg Value.bool (by decide)),aF,aF⟩
    ·intro a w2 hB hF hd;exact aG <| aO (jQ rfl ((hd 2 _ rfl (aj rfl)).1)) ⟨(((hd 4 _ rfl (aj rfl)).1)),aF,aF⟩
    ·intro a w2 hB hF hd;exact aG <| bJ rfl ⟨((hd 5 _ rfl (aj rfl)).1),aF,aF⟩
    ·intro a w2 hB hF hd;refine aS (aX rfl rfl ((hd 6 _ rfl (aj rfl)).1) rfl) ?_;exact bJ rfl ⟨(hF.same 8 rfl),aF,aF⟩
    ·intro a w2 hB hF hd;refine aS (aX rfl rfl ((hd 6 _ rfl (aj rfl)).1) rfl) ?_;exact bJ rfl ⟨(hF.same 12 rfl),aF,aF⟩
    ·intro a w2 hB hF hd;refine aS (aX rfl rfl ((hd 6 _ rfl (aj rfl)).1) rfl) ?_;refine aI _ _ _ rfl Tryz.call19 _ (args2 ((hd 7 _ rfl (aj rfl)).1) ((hd 8 _ rfl (aj rfl)).1)) (by simp) ((FN.out w2 hB).mono ?_);rintro e w3 ⟨rfl,hb⟩;exact ⟨_,rfl,⟨rfl,aF,aF⟩,hb⟩
    ·intro a w2 hB hF hd;refine aS (aX rfl rfl ((hd 6 _ rfl (aj rfl)).1) rfl) ?_;exact aO (Eb rfl ((hd 9 _ rfl (aj rfl)).1)) ⟨rfl,aF,aF⟩
    ·intro a w2 hB hF hd;exact aG <| aO (jQ rfl ((hd 6 _ rfl (aj rfl)).1)) ⟨(((hd 10 _ rfl (aj rfl)).1)),aF,aF⟩
    ·intro a w2 hB hF hd;exact aG <| bJ rfl ⟨((hd 11 _ rfl (aj rfl)).1),aF,aF⟩
    ·intro a w2 hB hF hd;refine aS (aX rfl rfl ((hd 12 _ rfl (aj rfl)).1) rfl) ?_;exact bJ rfl ⟨(hF.same 10 rfl),aF,aF⟩
    ·intro a w2 hB hF hd;refine aS (aX rfl rfl ((hd 12 _ rfl (aj rfl)).1) rfl) ?_;exact aO (aZ rfl (hF.same 14 rfl) (by simp only [Option.map_some,Option.map_none];exact tC (m:=12) dB Tryz.size5 (by decide))) ⟨rfl,aF,aF⟩
    ·intro a w2 hB hF hd;refine aS (aX rfl rfl ((hd 12 _ rfl (aj rfl)).1) rfl) ?_;exact aO (aB rfl dB rfl bZ (hF.same 4 rfl) (h4.below hB h4.lt)) ⟨rfl,aF,aF⟩
    ·intro a w2 hB hF hd;refine aS (aX rfl rfl ((hd 12 _ rfl (aj rfl)).1) rfl) ?_;exact aO (aB rfl tT rfl AL (hF.same 15 rfl) (h15.below hB h15.lt)) ⟨rfl,aF,aF⟩
    ·intro a w2 hB hF hd;refine aS (aX rfl rfl ((hd 12 _ rfl (aj rfl)).1) rfl) ?_;exact bJ rfl ⟨(hF.same 2 rfl),aF,aF⟩
    ·intro a w2 hB hF hd;refine aS (aX rfl rfl ((hd 12 _ rfl (aj rfl)).1) rfl) ?_;refine aI _ _ _ rfl Tryz.call20 _ (lG ((hd 15 _ rfl (aj rfl)).1) ((hd 16 _ rfl (aj rfl)).1) rfl ((hd 17 _ rfl (aj rfl)).1)) (by simp) ((HSL.out w2 hB).mono ?_);rintro e w3 ⟨u,rfl,hr,hb⟩;exact ⟨u,rfl,⟨trivial,fun _=> hr,aF⟩,hb⟩
    ·intro a w2 hB hF hd;refine aS (aX rfl rfl ((hd 12 _ rfl (aj rfl)).1) rfl) ?_;exact wE (.tmp 73) (.tmp 77) 23 rfl 5 .u8 1 fQ iW Zk 0 12 CF (fun i hi=> (hB.cell (p:=⟨Zk,0+i,none⟩) ahc.out).trans (acZ.out i hi)) ((hd 14 _ rfl (aj rfl)).1) _ (n+16) SF ((hd 18 _ rfl (aj rfl)).2.1 rfl) rfl ZQ.out (fun i _=> HCF.out i) HNC.out (by have:=HNC.out;omega) (by simp) fun v_ w_ h_=> ⟨trivial,aF,fun _=> h_⟩
    ·intro a w2 hB hF hd;refine aS (aX rfl rfl ((hd 12 _ rfl (aj rfl)).1) rfl) ?_;refine aI _ _ _ rfl Tryz.call19 _ (args2 ((hd 13 _ rfl (aj rfl)).1) rfl) (by simp) ((HS2.out w2 _ hB ((hd 19 _ rfl (aj rfl)).2.2 rfl)).mono ?_);rintro e w3 ⟨rfl,hb⟩;exact ⟨_,rfl,⟨rfl,aF,aF⟩,hb⟩
    ·intro a w2 hB hF hd;refine aS (aX rfl rfl ((hd 12 _ rfl (aj rfl)).1) rfl) ?_;exact aO (Eb rfl ((hd 20 _ rfl (aj rfl)).1)) ⟨rfl,aF,aF⟩
    ·intro a w2 hB hF hd;exact aG <| aO (jQ rfl ((hd 12 _ rfl (aj rfl)).1)) ⟨(((hd 21 _ rfl (aj rfl)).1)),aF,aF⟩
    ·intro a w2 hB hF hd;exact aG <| bJ rfl ⟨((hd 22 _ rfl (aj rfl)).1),aF,aF⟩
    ·intro a w2 hB hF hd;refine aS (aX rfl rfl ((hd 23 _ rfl (aj rfl)).1) rfl) ?_;exact bJ rfl ⟨(hF.same 7 rfl),aF,aF⟩
    ·intro a w2 hB hF hd;refine aS (aX rfl rfl ((hd 23 _ rfl (aj rfl)).1) rfl) ?_;refine aI _ _ _ rfl Tryz.call21 _ (args1 ((hd 24 _ rfl (aj rfl)).1)) (by simp) ((HDW.out w2 hB).mono ?_);rintro e w3 ⟨rfl,hb⟩;exact ⟨_,rfl,⟨rfl,aF,aF⟩,hb⟩
    ·intro a w2 hB hF hd;refine aS (aX rfl rfl ((hd 23 _ rfl (aj rfl)).1) rfl) ?_;exact aO (Go.aQ.qL rfl ((hd 25 _ rfl (aj rfl)).1) rfl) ⟨(congrArg Value.bool (by decide)),aF,aF⟩
    ·intro a w2 hB hF hd;exact aG <| aO (jQ rfl ((hd 23 _ rfl (aj rfl)).1)) ⟨(((hd 26 _ rfl (aj rfl)).1)),aF,aF⟩
   ·intro a w13 hB hF hS;obtain ⟨x77,abk⟩:∃x,x=a.tmps.getD 77 undef:=⟨_,rfl⟩
    have P77:Rd .u8 w13 x77 (n+16) (SF):=by rw [abk];exact (hS 18 _ rfl).2.1 rfl
    obtain ⟨x78,abj⟩:∃x,x=a.tmps.getD 78 undef:=⟨_,rfl⟩
    have P78:Rd .u8 w13 x78 (12+(n+16)) (CF):=by rw [abj];exact (hS 19 _ rfl).2.2 rfl
    have ha:=aK rfl rfl hF [_,_,_,_,_,_,_,_,_,_,_,_,_,_,_,_,_,_,x77,x78,_,_,_,_,_,_,_,_] rfl ⟨(hS 0 _ rfl).1,(hS 1 _ rfl).1,(hS 2 _ rfl).1,(hS 3 _ rfl).1,(hS 4 _ rfl).1,(hS 5 _ rfl).1,(hS 6 _ rfl).1,(hS 7 _ rfl).1,(hS 8 _ rfl).1,(hS 9 _ rfl).1,(hS 10 _ rfl).1,(hS 11 _ rfl).1,(hS 12 _ rfl).1,(hS 13 _ rfl).1,(hS 14 _ rfl).1,(hS 15 _ rfl).1,(hS 16 _ rfl).1,(hS 17 _ rfl).1,abk.symm,abj.symm,(hS 20 _ rfl).1,(hS 21 _ rfl).1,(hS 22 _ rfl).1,(hS 23 _ rfl).1,(hS 24 _ rfl).1,(hS 25 _ rfl).1,(hS 26 _ rfl).1,(hS 27 _ rfl).1,trivial⟩;simp only [puts,Act.put,dS,dU,dV] at ha;subst ha;clear abk abj;clear hS hF;have N9:=ak (N8.out.below hB);clear h4 h15 hB H14 H15 HSL FN HS2 HDW acZ ahc
    try clear P77 P78
    go_wp2_with fail;have C10:=ak (um (X:=.by sd 2) N9.out.m (HSK.out _ _ _ _ _ N9.out) (N9.out.y 2 _ _ rfl) (by have:=W3.out;have:=HN.out;omega) (show 2<=900 by decide));rw [show (Su.by sd 2).unw sk cw=(x,0) from W2.out,←HNW.out] at C10;refine C10.out.mono ?_;rintro e w14 ⟨u14,rfl,aaj,b14⟩;have N10:=ak (N9.out.more b14 aaj);obtain ⟨a14,c14,rfl⟩:=aaj.slice;clear b14 aaj C10;go_wp2_with fail;have C11:=ak (uo (X:=.by sd 2) N10.out.m (HSK.out _ _ _ _ _ N10.out) (N10.out.y 2 _ _ rfl) (show 2<=900 by decide) (by have:=LCL.out;have:=HN.out;omega));rw [show (Su.by sd 2).unlock sk cl=(x,0) from HUL.out,←HNL.out] at C11;refine C11.out.mono ?_;rintro e w15 ⟨u15,rfl,aai,b15⟩;have N11:=ak (N10.out.more b15 aai);obtain ⟨a15,c15,rfl⟩:=aai.slice;clear b15 aai C11;go_wp2_with fail;have E1:=ak (mM _ _ _ _ _ w15 (N11.out.y 1 _ _ rfl).rd (N11.out.y 6 _ _ rfl).rd fun _ _=> rfl);refine E1.out.mono ?_;rintro e w16 ⟨rfl,b16⟩;have N12:=ak (N11.out.below b16);clear b16 E1;go_wp2_with fail;have E2:=ak (mM _ _ _ _ _ w16 (N12.out.y 0 _ _ rfl).rd (N12.out.y 6 _ _ rfl).rd fun _ _=> rfl);refine E2.out.mono ?_;rintro e w17 ⟨rfl,b17⟩;have N13:=ak (N12.out.below b17);clear b17 E2;go_wp2_with fail;have C14:=ak (um (X:=.by sd 2) N13.out.m (HSK.out _ _ _ _ _ N13.out) (N13.out.y 6 _ _ rfl) (by have:=LX.out;have:=HN.out;omega) (show 2<=900 by decide));rw [show (Su.by sd 2).unw sk x=eu from HEU.out.symm] at C14;refine C14.out.mono ?_;rintro e w18 ⟨u18,rfl,y18,b18⟩;have N14:=ak (N13.out.more b18 y18);obtain ⟨a18,c18,rfl⟩:=y18.slice;clear b18 y18 C14;go_wp2_with fail;have C15:=ak (uo (X:=.by sd 2) N14.out.m (HSK.out _ _ _ _ _ N14.out) (N14.out.y 7 _ _ rfl) (show 2<=900 by decide) (by have:=LX.out;have:=HN.out;omega));rw [show (Su.by sd 2).unlock sk x=el from Zi.out.symm] at C15;refine C15.out.mono ?_;rintro e w19 ⟨u19,rfl,y19,b19⟩;have N15:=ak (N14.out.more b19 y19);obtain ⟨a19,c19,rfl⟩:=y19.slice;clear b19 y19 C15;have HXU:Hid (∀w',Below w19.heap.size w19 w'->Calls Tryz.prog 24 #[.agg (arr .u8 32 (dg 256 S)),.slice av n cv] w' fun e wz=> ∃u,e=.returned (.tuple #[u,.int .i64 eu.2])/\Rd .u8 wz u eu.1.length (bf eu.1)/\Below w'.heap.size w' wz):=ak fun w' hb'=> by
     have hr:=(((N15.out.y 8 _ _ rfl).below hb').rd)
     have hr':=hr;rw [LX.out] at hr';refine (DY S _ n (bf x) w' hr' (by have:=HN.out;omega) (fun i hi=> OX.out.at i (by rw [LX.out];exact hi))).mono ?_;rintro e wz ⟨u,er,rfl,h,b⟩;rw [<-LX.out,←NSK.out] at h;obtain ⟨rfl,h2⟩:=aar YV.out h;rw [HEU.out];exact ⟨u,rfl,h2,b⟩
    go_wp2_with (refine aM rfl 22 _ rfl .u8 x4 32 (dg 256 S) 5 dB bZ rfl (HK4.out _ _ _ _ _ N15.out) ?_);refine (HXU.out w19 (bA _ _)).mono ?_;rintro e w20 ⟨u20,rfl,y20,b20⟩;have OEU:=ak (N15.out.y 1 _ _ rfl).ok;have N16:=ak (N15.out.more (l:=eu.1) b20 ⟨OEU.out,y20,fun _ b _=> N15.out.m.2 b⟩);obtain ⟨a20,c20,rfl,_⟩:=y20;clear b20 HXU;obtain ⟨ee,hee⟩:∃e,e=eu.2:=⟨_,rfl⟩
    rw [<-hee];have q2:(ee !=ee)=false:=by simp
    clear hee;go_wp2_with fail;have E3:=ak (mM _ _ _ _ _ w20 (N16.out.y 2 _ _ rfl).rd (N16.out.y 0 _ _ rfl).rd fun _ _=> rfl);refine E3.out.mono ?_;rintro e w21 ⟨rfl,b21⟩;have N17:=ak (N16.out.below b21);clear b21 E3 q2;by_cases h12:n<12
    ·have q3:(n:Int)<12:=by omega
     have HE:Hid (el=([],10)):=ak (by rw [Zi.out];unfold gQ;rw [if_pos YV.out,if_pos (by rw [LX.out];omega)]);obtain rfl:=HE.out;clear h12;go_wp2;go_ret;exact ⟨rfl,B0.out.trans (N17.out.b.mono B0.out.size)⟩
    ·have q3:¬ (n:Int)<12:=by omega
     have H12:Hid (12<=n):=ak (by omega);have G1:=ak (Rd.head (P:=Tryz.prog) fQ iW av n cv 12 (by omega) HCAP.out);obtain ⟨a2,g1,g2,g3⟩:=Rd.cut (P:=Tryz.prog) fQ iW av n cv 12 n (by omega) (aP _) HCAP.out;have G2:=ak g2;have agE:Hid (Rd .u8 w21 (.slice av n cv) n (bf x)):=ak (by have:=(N17.out.y 9 _ _ rfl).rd;rwa [LX.out] at this);have WG:Hid (∀w,Rd .u8 w (.slice av n cv) n (bf x)->Rd .u8 w (.slice a2 (n - 12) (cv - 12)) (n - 12) (fun i=> bf x (12+i))):=ak fun w h=> (g3 w (bf x) h).2;obtain ⟨b1,o1,q1,l1,c1⟩:=(G1.out.2 _ _ agE.out).wC (by decide);subst q1;have sW:=ak c1;have HL1:=ak l1;have Kl:Hid (∀w',Below w21.heap.size w21 w'->Calls Tryz.prog 25 #[.agg (arr .u8 32 (dg 256 S)),.agg (arr .u8 12 (bf x)),.slice none 0 0,.slice a2 (n - 12) (cv - 12)] w' fun e wz=> ∃t,e=.returned t/\(∃u,t=.tuple #[u,.int .i64 el.2] /\Rd .u8 wz u el.1.length (bf el.1))/\Below w'.heap.size w' wz):=ak fun w' hb'=> by
      have hr:=WG.out _ (agE.out.below hb');have h12:=H12.out;rw [ASK.out];refine (Ep (c:=x) YV.out (by rw [LX.out];exact h12) (by have:=LX.out;have:=HN.out;omega) OSK.out OX.out (by rw [LX.out];exact hr)).mono ?_;rintro e wz ⟨u,rfl,h,b⟩;rw [<-Zi.out] at h ⊢;exact ⟨_,rfl,⟨u,rfl,h⟩,b⟩
     have h4:=HK4.out _ _ _ _ _ N17.out;clear g1 g2 g3 c1 l1 h12 HCAP;go_upto_region 24 with (fail)
     refine aT (n:=177) (by kernel_rfl) (by kernel_rfl) (by kernel_rfl) rfl
      (fun ii vv ww=> (match ii with | 0=> vv=.agg (arr .u8 32 (dg 256 S)) | 1 | 5=> vv=.slice (some ⟨b1,o1,none⟩) n cv | 2=> vv=.slice (some ⟨b1,o1,none⟩) 12 cv | 3=> vv=.pointer (some ⟨b1,o1,none⟩) | 4=> vv=.agg (arr .u8 12 (bf x)) | 6=> vv=.slice a2 (n - 12) (cv - 12) | 10 | 12=> vv=.int .i64 (el.2) | _=> True)/\(ii=7->∃u,vv=.tuple #[u,.int .i64 el.2] /\Rd .u8 ww u el.1.length (bf el.1))/\(ii=8->∃u,vv=.tuple #[u,.int .i64 el.2] /\Rd .u8 ww u el.1.length (bf el.1))/\(ii=9->Rd .u8 ww vv el.1.length ((bf el.1)))/\(ii=11->Rd .u8 ww vv el.1.length ((bf el.1))))
      (fun w w'=> Below w.heap.size w w') (fun _ _ h=> h) (fun i v w w' h hE=> ⟨h.1,fun e=> yN (h.2.1 e) hE,fun e=> yN (h.2.2.1 e) hE,fun e=> Rd.below (h.2.2.2.1 e) hE,fun e=> Rd.below (h.2.2.2.2 e) hE⟩) ?_ ?_
     ·refine dD ?_;refine ⟨?_,?_,?_,?_,?_,?_,?_,?_,?_,?_,?_,?_,?_,trivial⟩
      ·intro a w2 hB hF hd;exact aG <| aO (aB rfl dB rfl bZ (hF.same 4 rfl) (h4.below hB h4.lt)) ⟨rfl,aF,aF,aF,aF⟩
      ·intro a w2 hB hF hd;exact aG <| bJ rfl ⟨(hF.same 2 rfl),aF,aF,aF,aF⟩
      ·intro a w2 hB hF hd;exact aG <| aO (aZ rfl ((hd 1 _ rfl (aj rfl)).1) (by simp only [Option.map_some,Option.map_none];exact G1.out.1 _)) ⟨rfl,aF,aF,aF,aF⟩
      ·intro a w2 hB hF hd;exact aG <| aO (iD rfl ((hd 2 _ rfl (aj rfl)).1) tT (by decide)) ⟨rfl,aF,aF,aF,aF⟩
      ·intro a w2 hB hF hd;exact aG <| aO (gI rfl ((hd 3 _ rfl (aj rfl)).1) tT AL (fun i hi=> (hB.cell (p:=⟨b1,o1+i,none⟩) HL1.out).trans (sW.out i hi))) ⟨rfl,aF,aF,aF,aF⟩
      ·intro a w2 hB hF hd;exact aG <| bJ rfl ⟨(hF.same 2 rfl),aF,aF,aF,aF⟩
      ·intro a w2 hB hF hd;exact aG <| aO (aZ rfl ((hd 5 _ rfl (aj rfl)).1) (by simp only [Option.map_some,Option.map_none];exact G2.out _)) ⟨rfl,aF,aF,aF,aF⟩
      ·intro a w2 hB hF hd;refine aG <| aI _ _ _ rfl Tryz.call25 _ (lG ((hd 0 _ rfl (aj rfl)).1) ((hd 4 _ rfl (aj rfl)).1) rfl ((hd 6 _ rfl (aj rfl)).1)) (by simp) ((Kl.out w2 hB).mono ?_);rintro e w3 ⟨u,rfl,hr,hb⟩;exact ⟨u,rfl,⟨trivial,fun _=> hr,aF,aF,aF⟩,hb⟩
      ·intro a w2 hB hF hd;exact aG <| bJ rfl ⟨trivial,aF,fun _=> ((hd 7 _ rfl (aj rfl)).2.1 rfl),aF,aF⟩
      ·intro a w2 hB hF hd;rw [if_pos (bG rfl)];obtain ⟨u_,wJ,CZ⟩:=((hd 8 _ rfl (aj rfl)).2.2.1 rfl)
       exact aO (aU rfl wJ rfl) ⟨trivial,aF,aF,fun _=> (CZ),aF⟩
      ·intro a w2 hB hF hd;rw [if_pos (bG rfl)];obtain ⟨u_,wJ,CZ⟩:=((hd 8 _ rfl (aj rfl)).2.2.1 rfl)
       exact aO (aU rfl wJ rfl) ⟨rfl,aF,aF,aF,aF⟩
      ·intro a w2 hB hF hd;exact aG <| lS rfl ⟨trivial,aF,aF,aF,fun _=> ((hd 9 _ rfl (aj rfl)).2.2.2.1 rfl)⟩
      ·intro a w2 hB hF hd;exact aG <| lS rfl ⟨((hd 10 _ rfl (aj rfl)).1),aF,aF,aF,aF⟩
     ·intro a w22 hB hF hS;obtain ⟨adX,TW⟩:∃x,x=a.tmps.getD 166 undef:=⟨_,rfl⟩
      have akB:∃u,adX=.tuple #[u,.int .i64 el.2] /\Rd .u8 w22 u el.1.length (bf el.1):=by rw [TW];exact (hS 7 _ rfl).2.1 rfl
      obtain ⟨x158,hx158⟩:∃x,x=a.tmps.getD 158 undef:=⟨_,rfl⟩
      have akC:∃u,x158=.tuple #[u,.int .i64 el.2] /\Rd .u8 w22 u el.1.length (bf el.1):=by rw [hx158];exact (hS 8 _ rfl).2.2.1 rfl
      obtain ⟨x167,hx167⟩:∃x,x=a.tmps.getD 167 undef:=⟨_,rfl⟩
      have akA:Rd .u8 w22 x167 el.1.length ((bf el.1)):=by rw [hx167];exact (hS 9 _ rfl).2.2.2.1 rfl
      obtain ⟨x20,aby⟩:∃x,x=a.tmps.getD 20 undef:=⟨_,rfl⟩
      have P20:Rd .u8 w22 x20 el.1.length ((bf el.1)):=by rw [aby];exact (hS 11 _ rfl).2.2.2.2 rfl
      have ha:=aK rfl rfl hF [_,_,_,_,_,_,_,adX,x158,x167,_,x20,_] rfl ⟨(hS 0 _ rfl).1,(hS 1 _ rfl).1,(hS 2 _ rfl).1,(hS 3 _ rfl).1,(hS 4 _ rfl).1,(hS 5 _ rfl).1,(hS 6 _ rfl).1,TW.symm,hx158.symm,hx167.symm,(hS 10 _ rfl).1,aby.symm,(hS 12 _ rfl).1,trivial⟩;simp only [puts,Act.put,dS,dU,dV] at ha;subst ha;clear TW hx158 hx167 aby;clear hS hF;have HP:=ak P20;have N18:=ak (N17.out.below hB);obtain ⟨a22,c22,e22,_⟩:=id HP.out;subst e22;clear P20 akC akB akA h4 hB Kl G1 G2 WG sW HL1;obtain ⟨ee,hee⟩:∃e,e=el.2:=⟨_,rfl⟩
      rw [<-hee];have q2:(ee==ee)=true:=by simp
      clear hee;go_wp2_with fail;have E4:=ak (mM _ _ _ _ _ w22 (N18.out.y 1 _ _ rfl).rd HP.out fun _ _=> rfl);refine E4.out.mono ?_;rintro e w23 ⟨rfl,b23⟩;have N19:=ak (N18.out.below b23);clear b23 E4 q2;go_wp2;go_ret;exact ⟨rfl,B0.out.trans (N19.out.b.mono B0.out.size)⟩
theorem yT (w:World) (sd:Nat->Int) (hs:∀i,i<32->(Lit.int .u8 (sd i)).wf=true) (se:Nat->Int) (he:∀i,i<32->(Lit.int .u8 (se i)).wf=true) (v:Value) (n:Nat) (f:Nat->Int) (hv:Rd .u8 w v n f) (hf:∀i,i<n->(Lit.int .u8 (f i)).wf=true):
  Calls Tryz.prog 3 #[.agg (arr .u8 32 sd),.agg (arr .u8 32 se),v] w fun e w'=> e=.returned (.bool true)/\Below w.heap.size w w':=by
 obtain ⟨S,eS,s0,s1⟩:=aer se he;rw [eS];exact yS w sd (fun i hi=> by have:=bounds_u8 (hs i hi);omega) S s0 s1 v n f hv (fun i hi=> by have:=bounds_u8 (hf i hi);omega)
end Go.Proofs.YtpcjekgfnfjbpaaGreat
