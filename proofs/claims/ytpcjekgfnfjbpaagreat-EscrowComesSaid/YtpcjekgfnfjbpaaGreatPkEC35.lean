/- Part 35 of EscrowComes; conditions: in each theorem. -/
import Derived.Test.YtpcjekgfnfjbpaaGreatPkEC28
import Derived.Test.YtpcjekgfnfjbpaaGreatPkEC29
import Derived.Test.YtpcjekgfnfjbpaaGreatPkEC34
import Derived.Test.YtpcjekgfnfjbpaaGreatPkEC10
import Derived.StillTailTactics
set_option linter.unusedVariables false
set_option linter.unusedSimpArgs false
set_option maxRecDepth 100000
set_option maxHeartbeats 3200000
namespace Go.bI
open Go.RowKit
def DL (key nonce:Nat->Int) (nb:Nat) (fb:Nat->Int) (nh:Nat) (fh:Nat->Int):Int:=Sw (sm 256 (uh key nonce 0) 32) (TP nb fb nh fh) (TM nb nh)
theorem DJ {key nonce:Nat->Int} {nb nh:Nat} {fb fb' fh fh':Nat->Int} (hb:∀i,i<nb->fb i=fb' i) (hh:∀i,i<nh->fh i=fh' i):DL key nonce nb fb nh fh=DL key nonce nb fb' nh fh':=by
 unfold DL Sw;rw[Ql (OL hb hh)]
theorem Gn (a b:Nat):a ^^^ b=0 ↔ a=b:=by
 constructor
 ·intro h;have h2:(a ^^^ b) ^^^ b=0 ^^^ b:=by rw[h]
  rw[Nat.xor_assoc,Nat.xor_self,Nat.xor_zero,Nat.zero_xor] at h2;exact h2
 ·rintro rfl;exact Nat.xor_self _
theorem afO {x a b:Int} (x0:0<=x/\x<256) (a0:0<=a/\a<256) (b0:0<=b/\b<256):(0<=bits .or .u8 x (bits .xor .u8 a b)/\bits .or .u8 x (bits .xor .u8 a b)<256)/\(bits .or .u8 x (bits .xor .u8 a b)=0 ↔ x=0/\a=b):=by
 have h1:(a.toNat ^^^ b.toNat)<256:=Nat.xor_lt_two_pow (n:=8) aH aH;have h2:(x.toNat ||| (a.toNat ^^^ b.toNat))<256:=Nat.or_lt_two_pow (n:=8) aH h1;rw[u8_xor a b a0.1 a0.2 b0.1 b0.2,u8_or x _ x0.1 x0.2 aH aH,MZ];refine⟨by omega,?_⟩;have h3:(x.toNat ||| (a.toNat ^^^ b.toNat))=0 ↔ x.toNat=0/\a.toNat=b.toNat:=by
  rw[Nat.or_eq_zero_iff,Gn]
 omega
theorem Rd.one {k:IntKind} {w:World} {v:Value} {n:Nat} {f:Nat->Int} (h:Rd k w v n f):v.cells=#[v] :=by
 obtain⟨a,c,rfl,_⟩:=h
 rfl
theorem aoQ {w:World} {v0 v1 v2 v3 v4 v5:Value} {nb nh:Nat} {fb fh:Nat->Int} {T:TypeId} (h0:Rd .u8 w v0 nb fb) (h1:Rd .u8 w v1 (gp nb) (fun _=>0)) (h2:Rd .u8 w v2 nh fh) (h3:Rd .u8 w v3 (gp nh) (fun _=>0)) (h4:Rd .u8 w v4 8 (ED nb)) (h5:Rd .u8 w v5 8 (ED nh)):
  uq (w.alloc (.cells [v0,v1,v2,v3,v4,v5].toArray T)) (.slice (some ⟨w.heap.size,0,none⟩) 6 6) 6 (qO nb nh) (zK nb fb nh fh):=
 uq.new aM fun j hj=>by
  rcases(by omega:j=0\/j=1\/j=2\/j=3\/j=4\/j=5) with rfl | rfl | rfl | rfl | rfl | rfl
  ·exact⟨v0,rfl,h0⟩
  ·exact⟨v1,rfl,h1⟩
  ·exact⟨v2,rfl,h2⟩
  ·exact⟨v3,rfl,h3⟩
  ·exact⟨v4,rfl,h4⟩
  ·exact⟨v5,rfl,h5⟩
def lC (key nonce:Nat->Int) (nb:Nat) (fb:Nat->Int) (n:Nat) (f:Nat->Int) (i:Nat):Int:=if i<n then lV key nonce 1 f i else dg 256 (DL key nonce nb fb n (lV key nonce 1 f)) (i - n)
theorem Ch {key nonce:Nat->Int} {nb:Nat} {fb:Nat->Int} {n:Nat} {f:Nat->Int} {i:Nat} (h:i<n):lC key nonce nb fb n f i=lV key nonce 1 f i:=if_pos h
theorem Km {key nonce:Nat->Int} {nb:Nat} {fb:Nat->Int} {n:Nat} {f:Nat->Int} (i:Nat):lC key nonce nb fb n f (n+i)=dg 256 (DL key nonce nb fb n (lV key nonce 1 f)) i:=by
 unfold lC;rw[if_neg aH,Vi]
theorem wE (key nonce:Nat->Int) (c:Int) (f:Nat->Int) (i:Nat):0<=lV key nonce c f i/\lV key nonce c f i<256:=Wi _ _
def tC (key nonce:Nat->Int) (nb:Nat) (fb:Nat->Int) (n:Nat) (f:Nat->Int):Bool:=mY 16 (dg 256 (DL key nonce nb fb n f)) (fun i=>f (n+i))
def AQ (w:World) (v:Value) (n:Nat) (f:Nat->Int):Prop:=∃u,v=.tuple #[u,.int .i64 0] /\Rd .u8 w u n f
theorem AQ.below {w w':World} {v:Value} {n:Nat} {f:Nat->Int} (h:AQ w v n f) (hb:Below w.heap.size w w'):AQ w' v n f:=by
 obtain⟨u,h1,h2⟩:=h;exact⟨u,h1,h2.below hb⟩
def OpR (ok:Bool) (w:World) (v:Value) (n:Nat) (h:Nat->Int):Prop:=(ok=true->AQ w v n h)/\(ok=false->v=.tuple #[.slice none 0 0,.int .i64 20])
theorem OpR.yes {w:World} {u:Value} {n:Nat} {h:Nat->Int} (hr:Rd .u8 w u n h):OpR true w (.tuple #[u,.int .i64 0]) n h:=⟨fun _=>⟨u,rfl,hr⟩,fun h=>Bool.noConfusion h⟩
theorem OpR.no {w:World} {n:Nat} {h:Nat->Int}:OpR false w (.tuple #[.slice none 0 0,.int .i64 20]) n h:=⟨fun h=>Bool.noConfusion h,fun _=>rfl⟩
theorem abd (s:Int) {f:Int} (h:0<=f/\f<256):xo s (xo s f)=f:=by
 obtain⟨h0,h1⟩:=h;have e:∀a b:Int,xo a b=((BitVec.ofInt 8 a ^^^ BitVec.ofInt 8 b).toNat:Int):=fun a b=>by
  unfold xo;show IntKind.u8.wrap (((BitVec.ofInt 8 a ^^^ BitVec.ofInt 8 b).toNat:Nat):Int)= _;have:=(BitVec.ofInt 8 a ^^^ BitVec.ofInt 8 b).isLt;rw[IntKind.wrap_u8];omega
 rw[e,e,BitVec.ofInt_natCast,BitVec.ofNat_toNat,BitVec.setWidth_eq,←BitVec.xor_assoc,BitVec.xor_self,BitVec.zero_xor,BitVec.toNat_ofInt];omega
theorem zQ (key nonce:Nat->Int) (nb:Nat) (fb:Nat->Int) (n:Nat) (f:Nat->Int) (i:Nat):0<=lC key nonce nb fb n f i/\lC key nonce nb fb n f i<256:=by
 unfold lC
 split
 ·exact wE _ _ _ _ _
 ·exact bR aM _ _
theorem Oz {key nonce:Nat->Int} {nb:Nat} {fb:Nat->Int} {n:Nat} {f:Nat->Int}:tC key nonce nb fb n (lC key nonce nb fb n f)=true:=by
 unfold tC;refine yT fun i hi=>?_;rw[Km,DJ (fun _ _=>rfl) (fun i hi=>Ch hi)]
theorem Tv {key nonce:Nat->Int} {nb:Nat} {fb:Nat->Int} {n:Nat} {f:Nat->Int} (hf:∀i,i<n->0<=f i/\f i<256):∀i,i<n->lV key nonce 1 (lC key nonce nb fb n f) i=f i:=fun i hi=>by
 show xo _ (lC key nonce nb fb n f i)=f i;rw[Ch hi];exact abd _ (hf i hi)
def QJ (n:Nat) (f:Nat->Int) (m:Nat) (g:Nat->Int):Bool:=decide (n=m) && mY n f g
end Go.bI
namespace Go.Proofs.YtpcjekgfnfjbpaaGreat
open Go.RowKit Go.bI
attribute [local go_sem ↓] Go.wp_at_zero Go.wp_at_succ
theorem MX (n:Nat) (hn:n<=1048576) (w:World):
  Calls Tryz.prog 183 #[.int .i64 n] w fun e w'=> ∃v,e=.returned v/\Rd .u8 w' v (gp n) (fun _=>0)/\Below w.heap.size w w':=by
 obtain⟨G,hG⟩:∃G:Nat,G=gp n:=⟨_,rfl⟩
 have hg:(16 - (n:Int) % 16) % 16=(G:Int):=by rw[hG];unfold gp;omega
 have hl:G<16:=by rw[hG];exact YS n
 rw[<-hG];have h1:Int.tmod (n:Int) 16=(n:Int) % 16:=Int.tmod_eq_emod_of_nonneg aH;have h2:Int.tmod (16 - (n:Int) % 16) 16=(G:Int):=by rw[Int.tmod_eq_emod_of_nonneg aH];exact hg
 clear hG
 go_enter Tryz.func183,Tryz.ntmps183
 go_wp2_with (refine uN rfl _ _ 23 rfl w.heap.size 5 .u8 1 mo yL .i64 .i64 G rfl rfl aH aH (bH _) ?_;intro w2 cK dL);go_ret;exact⟨_,rfl,cK.rd,iq (bT _ _) dL (bH _)⟩
theorem Gi (v:Value) (n:Nat) (f:Nat->Int) (w:World) (hv:Rd .u8 w v n f) (hn:n<=1048576):
  Calls Tryz.prog 184 #[v] w fun e w'=> ∃v,e=.returned v/\Rd .u8 w' v 8 (ED n)/\Below w.heap.size w w':=by
 obtain⟨a1,c1,rfl,l1,m1,z1,h1⟩:=hv;clear z1 h1
 go_enter Tryz.func184,Tryz.ntmps184
 go_wp2_with fail;refine(Yi n 8 _ aM aM aH aH (aP)).mono ?_;rintro e w2 ⟨v,rfl,hv,hb⟩;have HV:=ay hv.rd;clear hv;go_wp2;go_ret;exact⟨_,rfl,HV.out,hb⟩
theorem Xg {a b:Bool} (h:a=b):Ending.returned (.bool a)=.returned (.bool b):=by rw[h]
theorem Qm (va vb:Value) (n:Nat) (f g:Nat->Int) (w:World) (ha:Rd .u8 w va n f) (hb:Rd .u8 w vb n g) (hf:∀i,i<n->0<=f i/\f i<256) (hg:∀i,i<n->0<=g i/\g i<256):
  Calls Tryz.prog 105 #[va,vb] w fun e w'=>e=.returned (.bool (mY n f g))/\Below w.heap.size w w':=by
 obtain⟨a1,c1,rfl,l1,m1,z1,h1⟩:=ha;obtain⟨a2,c2,rfl,l2,m2,z2,h2⟩:=hb;have H1:=ay h1;have H2:=ay h2;have HF:=ay hf;have HG:=ay hg;clear h1 h2 z1 z2 hf hg
 go_enter Tryz.func105,Tryz.ntmps105
 go_wp2
 go_loopw [5,14] (fun d i wr=> ∃(k:Nat) (x:Int),k<=n/\i=.int .i64 k/\d=.int .u8 x/\(0<=x/\x<256)/\(x=0 ↔ ∀j,j<k->f j=g j)/\Below w.heap.size w wr) (fun _ i _=>n - (intOf i).toNat)
 case atStart=>exact⟨0,0,jm _,rfl,rfl,by decide,by simp,bT _ _⟩
 case round=>
  obtain⟨k,x,hk,rfl,rfl,hx,hiff,hnx⟩:=hrel;have HX:=ay hiff;clear hiff;by_cases hlt:k<n
  ·obtain⟨b1,o1,rfl,s1,e1⟩:=H1.out aH;obtain⟨b2,o2,rfl,s2,e2⟩:=H2.out aH;replace e1:=(hnx.cell s1).trans (e1 k hlt);replace e2:=(hnx.cell s2).trans (e2 k hlt);have HO:=ay (afO hx (HF.out k hlt) (HG.out k hlt));go_wp2
   go_quiet (fail)
   go_wp2;go_roundw
   case rel=>
    refine⟨k+1,_,by omega,by go_num,rfl,HO.out.1,?_,below_drewN hnx _⟩;rw[HO.out.2,HX.out]
    constructor
    ·rintro⟨q1,q2⟩ j hj;by_cases e:j=k
     ·rw[e];exact q2
     ·exact q1 j aH
    ·exact fun q=>⟨fun j hj=>q j aH,q k aH⟩
   case measure=>simp[intOf] <;> omega
  ·obtain rfl:k=n:=by omega
   by_cases hx0:x=0
   ·subst hx0;have HS:Hid (true=mY k f g):=by unfold Hid;exact(yT (HX.out.1 rfl)).symm
    go_wp2;go_ret;exact⟨Xg HS.out,hnx⟩
   ·have hxb:(x==0)=false:=by simpa using hx0
    have HS:Hid (false=mY k f g):=by unfold Hid;exact(Ck (fun q=>hx0 (HX.out.2 q))).symm
    clear hx0;go_wp2;go_ret;exact⟨Xg HS.out,hnx⟩
theorem MW (key nonce:Nat->Int) (hk:∀i,i<32->0<=key i/\key i<256) (hn:∀i,i<12->0<=nonce i/\nonce i<256) (vb vh:Value) (nb nh:Nat) (fb fh:Nat->Int) (w:World)
  (hb:Rd .u8 w vb nb fb) (hh:Rd .u8 w vh nh fh) (EH:∀i,i<nb->0<=fb i/\fb i<256) (hfh:∀i,i<nh->0<=fh i/\fh i<256) (l1:nb<=400000) (l2:nh<=400000):
  Calls Tryz.prog 132 #[.agg (arr .u8 32 key),.agg (arr .u8 12 nonce),vb,vh] w fun e w'=>e=.returned (.agg (arr .u8 16 (dg 256 (DL key nonce nb fb nh fh))))/\Below w.heap.size w w':=by
 obtain⟨F,hF⟩:∃F,F=TP nb fb nh fh:=⟨_,rfl⟩
 obtain⟨N,hN⟩:∃N,N=TM nb nh:=⟨_,rfl⟩
 obtain⟨K,hK⟩:∃K,K=sm 256 (uh key nonce 0) 32:=⟨_,rfl⟩
 have HKB:Hid (0<=K/\K<256 ^ 32):=by rw[hK];exact qI aM fun i hi=>Du _ _ _ _
 have HKD:Hid (∀i,i<32->uh key nonce 0 i=dg 256 K i):=by rw[hK];exact fun i hi=>(Af (f:=uh key nonce 0) aM (fun i hi=>Du _ _ _ _) i hi).symm
 have HTN:Hid (Sw K F N=DL key nonce nb fb nh fh):=by rw[hK,hF,hN];exact rfl
 have HG:Hid (∀j,j<6->∀i,i<qO nb nh j->F (dQ (qO nb nh) j+i)=zK nb fb nh fh j i):=by rw[hF];exact fun j hj i hi=>ada hj hi
 have HN:Hid (dQ (qO nb nh) 6=N):=by rw[hN];exact rfl
 have Vq:Hid (N<=1000000):=by have:=acF nb nh;have:=YS nb;have:=YS nh;unfold Hid;omega
 have HF:Hid (∀i,i<N->0<=F i/\F i<256):=by rw[hF,hN];exact OM EH hfh
 obtain⟨TN,hTN⟩:∃TN,TN=DL key nonce nb fb nh fh:=⟨_,rfl⟩
 rw[<-hTN] at HTN ⊢;have HBL:=ay (Ai key nonce 0 hk hn aM);have HB:=ay hb;have HH:=ay hh;obtain⟨ab,cb,rfl,b1,b2,b3,b4⟩:=hb;obtain⟨ah,ch,rfl,h1,h2,h3,h4⟩:=hh;clear hF hN hK hTN hk hn EH hfh b3 b4 h3 h4
 go_enter Tryz.func132,Tryz.ntmps132
 go_upto_region 1 with(fail)
 refine aJ (fun w1=>aK .u8 w1 w.heap.size 32 key/\aK .u8 w1 (w.heap.size+1) 12 nonce/\aK .u8 w1 (w.heap.size+2) 16 (fun _=>0)/\Below w.heap.size w w1/\w1.heap.size=w.heap.size+3)
  ⟨aK.alloc (aK.alloc (cB rfl rfl) _) _,aK.alloc (cB aR rfl) _,cB aR (by rfl),(((bT _ _).alloc (bH _) _).alloc aR _).alloc iU _,by simp⟩ ?_
 rintro w1 ⟨hA,hN,hZ,aD,hs⟩
 refine bN (n:=30) aQ aQ aQ rfl
  (ku [(4,3)]) (gH [(4,3)]) (fun _=>arr .u8 64 (fun _=>0)) (fun _=>(arr .u8 64 (uh key nonce 0))) (fun _=>47) (fun _=>9)
  (fun ii vv _=>(match ii with | 0=>vv=.agg (arr .u8 32 (key)) | 1=>vv=.agg (arr .u8 12 (nonce)) | 2=>vv=.agg (arr .u8 64 (uh key nonce 0)) | _=>True)) (fun _ _=>True) (fun _ _ _=>trivial) (fun _ _ _ _ _ _ _=>trivial) (fun _ _ _ _ h _=>h)
  (iJ rfl) (fT rfl) ?_ ?_ ?_ ?_
 ·refine dG ?_;refine⟨?_,?_,?_,(fun h=>by cases h),(fun _ h=>by cases h),trivial⟩
  ·intro _ _ a w2 hB hF hd;exact aN <| aW (aF rfl iL rfl fZ (hF.same 4 rfl) (hA.below hB hA.lt)) rfl
  ·intro _ _ a w2 hB hF hd;exact aN <| aW (aF rfl Tryz.underlying35 rfl Tryz.size35 (hF.same 5 rfl) (hN.below hB hN.lt)) rfl
  ·intro _ _ a w2 hB hF hd;refine aN <| aI _ _ _ rfl Tryz.call181 _ (vR (hd 0 _ rfl rfl rfl (aj rfl)) (hd 1 _ rfl rfl rfl (aj rfl)) rfl) aR ((HBL.out _).mono ?_);rintro e w3 ⟨rfl,hb⟩;exact⟨_,rfl,rfl,hb⟩
 ·refine dG ?_;refine⟨(fun h=>by cases h),(fun h=>by cases h),(fun h=>by cases h),?_,(fun h=>by cases h),trivial⟩
  ·exact fun _=>⟨rfl,rfl,fun a w2 K h=>bD rfl rfl Tryz.zeroValue47 aR h⟩
 ·refine dG ?_;refine⟨(fun _ h=>by cases h),(fun _ h=>by cases h),(fun _ h=>by cases h),(fun _ h=>by cases h),?_,trivial⟩
  ·intro p hp;obtain rfl:3=p:=gJ hp;exact⟨rfl,rfl,⟨_,rfl⟩,aj rfl,fun a w2 b K hB hF hd hx hb h=>bQ rfl rfl Tryz.size47 hx (hd 2 _ rfl rfl rfl (aj rfl)) hb h⟩
 ·intro a w2 blk hB hF hS hv hfin dS;obtain⟨v3,Gv,Sn⟩:=hv 3 _ rfl rfl;have ha:=aO rfl rfl hF [_,_,_,_,undef] rfl ⟨hS 0 _ rfl rfl rfl,hS 1 _ rfl rfl rfl,hS 2 _ rfl rfl rfl,v3,trivial,trivial⟩;have f3:=hfin 4 _ 3 rfl rfl;simp only[puts,Act.put,fB,fD,fF] at ha;subst ha;have V3:aK .u8 w2 (blk 3) 64 (uh key nonce 0):=⟨_,f3⟩
  clear hS hv hfin dS hF v3 f3;have jG:=hZ.kept hB;have fO:=aD.trans (hB.mono aD.size);obtain⟨q,hq⟩:∃q,q=blk 3:=⟨_,rfl⟩
  rw[<-hq] at V3 ⊢;have hc3:∀i,i<32->w2.cell? ⟨q,0+i,none⟩=some (.int .u8 (dg 256 K i)):=fun i hi=>by rw[qY,V3.cell i aH,HKD.out i hi]
  have HC3:=ay hc3;have VL:=V3.lt;have HBW:=ay (HB.out.below fO);have HHW:=ay (HH.out.below fO);have HZ2:=ay jG;clear hA hN hZ aD hs hq hc3 hB V3 jG;go_upto_region 2 with(fail)
  refine dJ (n:=30) (fun i=>i==17) aQ aQ aQ aQ rfl
   (fun ii vv ww=>(match ii with | 0=>vv=.slice (some ⟨q,0,none⟩) 32 64 | 1=>vv=.pointer (some ⟨q,0,none⟩) | 2=>vv=.agg (arr .u8 32 (dg 256 K)) | 3 | 4 | 11=>vv=.slice ab nb cb | 5=>vv=.int .i64 ((nb:Int)) | 7 | 8 | 13=>vv=.slice ah nh ch | 9=>vv=.int .i64 ((nh:Int)) | 16=>vv=.agg (arr .u8 16 (dg 256 TN)) | _=>True)/\(ii=6->Rd .u8 ww vv (gp nb) (fun _=>0))/\(ii=10->Rd .u8 ww vv (gp nh) (fun _=>0))/\(ii=12->Rd .u8 ww vv 8 (ED nb))/\(ii=14->Rd .u8 ww vv 8 (ED nh))/\(ii=15->uq ww vv 6 (qO nb nh) (zK nb fb nh fh)))
   (fun w w'=>Below w.heap.size w w') (fun _ _ h=>h) (fun i v w w' h hE=>⟨h.1,fun e=>Rd.below (h.2.1 e) hE,fun e=>Rd.below (h.2.2.1 e) hE,fun e=>Rd.below (h.2.2.2.1 e) hE,fun e=>Rd.below (h.2.2.2.2.1 e) hE,fun e=>uq.below (h.2.2.2.2.2 e) hE⟩)
   (fun _=>(w.heap.size+2)) (fun _=>(arr .u8 16 (fun _=>0))) (fun _=>(arr .u8 16 (dg 256 TN)))
   (by intro i j _ _ dD jJ gW;simp only[beq_iff_eq] at dD jJ;omega)
   (by intro i _ dD;exact(HZ2.out).row)
   ?_ ?_ ?_
  ·refine dG ?_;refine⟨?_,?_,?_,?_,?_,?_,?_,?_,?_,?_,?_,?_,?_,?_,?_,?_,?_,(aP),trivial⟩
   ·intro _ a w2 hB hF hd;exact aN <| aW (dY rfl (hF.same 9 rfl) (by simp only[Option.map_some,Option.map_none];exact lF (m:=32) Tryz.underlying47 Tryz.size5 aM)) ⟨rfl,aP,aP,aP,aP,aP⟩
   ·intro _ a w2 hB hF hd;exact aN <| aW (lD rfl ((hd 0 _ rfl rfl (aj rfl)).1) iL aM) ⟨rfl,aP,aP,aP,aP,aP⟩
   ·intro _ a w2 hB hF hd;exact aN <| aW (kJ rfl ((hd 1 _ rfl rfl (aj rfl)).1) iL fZ (fun i hi=>(hB.cell (p:=⟨q,0+i,none⟩) VL).trans (HC3.out i hi))) ⟨rfl,aP,aP,aP,aP,aP⟩
   ·intro _ a w2 hB hF hd;exact aN <| aG _ (.inl rfl) aR ⟨(hF.same 2 rfl),aP,aP,aP,aP,aP⟩
   ·intro _ a w2 hB hF hd;exact aN <| aG _ (.inl rfl) aR ⟨(hF.same 2 rfl),aP,aP,aP,aP,aP⟩
   ·intro _ a w2 hB hF hd;exact aN <| aW (oH rfl ((hd 4 _ rfl rfl (aj rfl)).1) mo) ⟨rfl,aP,aP,aP,aP,aP⟩
   ·intro _ a w2 hB hF hd;refine aN <| aI _ _ _ rfl Tryz.call183 _ (args1 ((hd 5 _ rfl rfl (aj rfl)).1)) aR ((MX nb aH _).mono ?_);rintro e w3 ⟨u,rfl,hr,hb⟩;exact⟨u,rfl,⟨trivial,fun _=>hr,aP,aP,aP,aP⟩,hb⟩
   ·intro _ a w2 hB hF hd;exact aN <| aG _ (.inl rfl) aR ⟨(hF.same 3 rfl),aP,aP,aP,aP,aP⟩
   ·intro _ a w2 hB hF hd;exact aN <| aG _ (.inl rfl) aR ⟨(hF.same 3 rfl),aP,aP,aP,aP,aP⟩
   ·intro _ a w2 hB hF hd;exact aN <| aW (oH rfl ((hd 8 _ rfl rfl (aj rfl)).1) mo) ⟨rfl,aP,aP,aP,aP,aP⟩
   ·intro _ a w2 hB hF hd;refine aN <| aI _ _ _ rfl Tryz.call183 _ (args1 ((hd 9 _ rfl rfl (aj rfl)).1)) aR ((MX nh aH _).mono ?_);rintro e w3 ⟨u,rfl,hr,hb⟩;exact⟨u,rfl,⟨trivial,aP,fun _=>hr,aP,aP,aP⟩,hb⟩
   ·intro _ a w2 hB hF hd;exact aN <| aG _ (.inl rfl) aR ⟨(hF.same 2 rfl),aP,aP,aP,aP,aP⟩
   ·intro _ a w2 hB hF hd;refine aN <| aI _ _ _ rfl Tryz.call184 _ (args1 ((hd 11 _ rfl rfl (aj rfl)).1)) aR ((Gi _ nb _ _ (HBW.out.below hB) aH).mono ?_);rintro e w3 ⟨u,rfl,hr,hb⟩;exact⟨u,rfl,⟨trivial,aP,aP,fun _=>hr,aP,aP⟩,hb⟩
   ·intro _ a w2 hB hF hd;exact aN <| aG _ (.inl rfl) aR ⟨(hF.same 3 rfl),aP,aP,aP,aP,aP⟩
   ·intro _ a w2 hB hF hd;refine aN <| aI _ _ _ rfl Tryz.call184 _ (args1 ((hd 13 _ rfl rfl (aj rfl)).1)) aR ((Gi _ nh _ _ (HHW.out.below hB) aH).mono ?_);rintro e w3 ⟨u,rfl,hr,hb⟩;exact⟨u,rfl,⟨trivial,aP,aP,aP,fun _=>hr,aP⟩,hb⟩
   ·intro _ a w2 hB hF hd;exact aN <| oC 55 23 6 _ [.slice ab nb cb,a.eval (Operand.tmp 19),.slice ah nh ch,a.eval (Operand.tmp 23),a.eval (Operand.tmp 25),a.eval (Operand.tmp 27)] rfl Tryz.underlying55 aQ aQ rfl aM aM (by intro v hv;simp only[List.mem_cons,List.not_mem_nil,or_false] at hv;rcases hv with rfl | rfl | rfl | rfl | rfl | rfl<;> first | exact Rd.one ((hd 6 _ rfl rfl (aj rfl)).2.1 rfl) | exact Rd.one ((hd 10 _ rfl rfl (aj rfl)).2.2.1 rfl) | exact Rd.one ((hd 12 _ rfl rfl (aj rfl)).2.2.2.1 rfl) | exact Rd.one ((hd 14 _ rfl rfl (aj rfl)).2.2.2.2.1 rfl) | rfl) (by simp only[vT,List.map_cons,List.map_nil,show a.eval (Operand.tmp 16)=.slice ab nb cb from((hd 3 _ rfl rfl (aj rfl)).1),show a.eval (Operand.tmp 20)=.slice ah nh ch from((hd 7 _ rfl rfl (aj rfl)).1)];rfl) aR ⟨trivial,aP,aP,aP,aP,fun _=>(aoQ (HBW.out.below hB) ((hd 6 _ rfl rfl (aj rfl)).2.1 rfl) (HHW.out.below hB) ((hd 10 _ rfl rfl (aj rfl)).2.2.1 rfl) ((hd 12 _ rfl rfl (aj rfl)).2.2.2.1 rfl) ((hd 14 _ rfl rfl (aj rfl)).2.2.2.2.1 rfl))⟩
   ·intro _ a w2 hB hF hd;refine aN <| aI _ _ _ rfl Tryz.call182 _ (args2 ((hd 2 _ rfl rfl (aj rfl)).1) rfl) aR (((HTN.out▸abr K HKB.out _ 6 _ _ F N w2 ((hd 15 _ rfl rfl (aj rfl)).2.2.2.2.2 rfl) HG.out HN.out Vq.out HF.out)).mono ?_);rintro e w3 ⟨rfl,hb⟩;exact⟨_,rfl,⟨rfl,aP,aP,aP,aP,aP⟩,hb⟩
  ·refine dG ?_;refine⟨(aP),(aP),(aP),(aP),(aP),(aP),(aP),(aP),(aP),(aP),(aP),(aP),(aP),(aP),(aP),(aP),(aP),?_,trivial⟩
   ·intro _ a w1 w2 K hB hF hS hr hK;exact bG 118 _ _ rfl .u8 ((w.heap.size+2)) 16 (fun _=>0) (dg 256 TN) Tryz.size118 (hF.same 8 rfl) ((hS 16 _ rfl rfl).1) hr hK
  ·intro a wf w4 hB hF hS hfil;have other:∀{k:IntKind} {qb n:Nat} {f:Nat->Int},qb≠(w.heap.size+2)->aK k wf qb n f->aK k w4 qb n f:=fun {k qb n f} e0 hA=>hfil.arr (by intro i _ dD;simp only[kZ,beq_iff_eq] at dD;subst dD<;> ((try simp only[]);(try dsimp only);omega)) hA;have dU:∀{B:Nat} {w0:World},B<=(w.heap.size+2)->Below B w0 wf->Below B w0 w4:=fun {B w0} e0 hA=>hfil.below (by intro i _ dD;simp only[kZ,beq_iff_eq] at dD;subst dD<;> ((try simp only[]);(try dsimp only);omega)) hA;have V17:aK .u8 w4 ((w.heap.size+2)) 16 (dg 256 TN):=hfil.at 17 aM rfl;have tO:=hfil.size;clear hfil;obtain⟨Si,Av⟩:∃x,x=a.tmps.getD 19 undef:=⟨_,rfl⟩
   obtain⟨x23,aki⟩:∃x,x=a.tmps.getD 23 undef:=⟨_,rfl⟩
   obtain⟨x25,hx25⟩:∃x,x=a.tmps.getD 25 undef:=⟨_,rfl⟩
   obtain⟨x27,hx27⟩:∃x,x=a.tmps.getD 27 undef:=⟨_,rfl⟩
   obtain⟨x28,hx28⟩:∃x,x=a.tmps.getD 28 undef:=⟨_,rfl⟩
   have ha:=aO rfl rfl hF [_,_,_,_,_,_,Si,_,_,_,x23,_,x25,_,x27,x28,_,undef] rfl ⟨(hS 0 _ rfl rfl).1,(hS 1 _ rfl rfl).1,(hS 2 _ rfl rfl).1,(hS 3 _ rfl rfl).1,(hS 4 _ rfl rfl).1,(hS 5 _ rfl rfl).1,Av.symm,(hS 7 _ rfl rfl).1,(hS 8 _ rfl rfl).1,(hS 9 _ rfl rfl).1,aki.symm,(hS 11 _ rfl rfl).1,hx25.symm,(hS 13 _ rfl rfl).1,hx27.symm,hx28.symm,(hS 16 _ rfl rfl).1,trivial,trivial⟩;simp only[puts,Act.put,fB,fD,fF] at ha;subst ha;clear Av aki hx25 hx27 hx28;clear hS hF;have jF:=dU aH (fO.trans (hB.mono fO.size));go_wp2;exact bodyPost_ret (bV rfl _ _ .u8 (w.heap.size+2) 16 _ 5 rfl V17 Tryz.underlying118 Tryz.size118) rfl ⟨rfl,jF⟩
theorem Vg (key nonce:Nat->Int) (hk:∀i,i<32->0<=key i/\key i<256) (hn:∀i,i<12->0<=nonce i/\nonce i<256) (vb v:Value) (nb n:Nat) (fb f:Nat->Int) (w:World)
  (hb:Rd .u8 w vb nb fb) (hv:Rd .u8 w v n f) (EH:∀i,i<nb->0<=fb i/\fb i<256) (l1:nb<=400000) (l2:n<=400000):
  Calls Tryz.prog 70 #[.agg (arr .u8 32 key),.agg (arr .u8 12 nonce),vb,v] w fun e w'=>
   ∃v,e=.returned (.tuple #[v,.int .i64 0])/\Go.bI.Own .u8 5 w.heap.size w' v (n+16) (lC key nonce nb fb n f)/\Below w.heap.size w w':=by
 have HK:=ay hk;have HN:=ay hn;have HFB:=ay EH;have HB:=ay hb;have HV:=ay hv;obtain⟨ab,cb,rfl,b1,b2,b3,b4⟩:=hb;obtain⟨a1,c1,rfl,h1,h2,h3,h4⟩:=hv;clear hk hn EH b3 b4 h3 h4
 go_enter Tryz.func70,Tryz.ntmps70
 go_upto_region 1 with(fail)
 refine aJ (fun w1=>aK .u8 w1 w.heap.size 32 key/\aK .u8 w1 (w.heap.size+1) 12 nonce/\Below w.heap.size w w1/\w1.heap.size=w.heap.size+2)
  ⟨aK.alloc (cB rfl rfl) _,cB aR rfl,((bT _ _).alloc (bH _) _).alloc aR _,by simp⟩ ?_
 rintro w1 ⟨hA,hN,aD,hs⟩
 go_wp2_with (first
  | (refine aZ rfl 22 _ rfl .u8 w.heap.size 32 _ 5 iL fZ rfl hA ?_)
  | (refine aZ rfl 35 _ rfl .u8 (w.heap.size+1) 12 _ 5 Tryz.underlying35 Tryz.size35 rfl hN ?_))
 refine(LK key nonce 1 HK.out HN.out aM _ n f _ (HV.out.below aD) aH aH).mono ?_;rintro e w2 ⟨v2,rfl,hO,fO⟩;have jv:=hA.kept fO;have Rx:=hN.kept fO;have dV:=aD.trans (fO.mono aD.size);have HO:=ay hO;have HR:=ay hO.rd;have HBW:=ay (HB.out.below dV);have s1:=dV.size;have s2:=fO.size;clear hA hN aD fO hO
 go_wp2_with (first
  | (refine aZ rfl 22 _ rfl .u8 w.heap.size 32 _ 5 iL fZ rfl jv ?_)
  | (refine aZ rfl 35 _ rfl .u8 (w.heap.size+1) 12 _ 5 Tryz.underlying35 Tryz.size35 rfl Rx ?_))
 refine(MW key nonce HK.out HN.out _ _ nb n fb (lV key nonce 1 f) _ HBW.out HR.out HFB.out (fun i _=>wE _ _ _ _ _) l1 l2).mono ?_;rintro e w3 ⟨rfl,ji⟩;have eU:=dV.trans (ji.mono dV.size);have HO3:=ay ((HO.out.below ji).congr (g:=lC key nonce nb fb n f) (fun i hi=>(Ch hi).symm));have s3:=ji.size;clear jv Rx dV ji HO;go_upto_region 7 with(refine aL rfl 118 _ _ rfl .u8 w3.heap.size 16 (fun _=>0) _ Tryz.size118 rfl rfl (cB rfl (by rfl)) ?_)
 refine aJ (fun w4=>aK .u8 w4 w3.heap.size 16 (dg 256 (DL key nonce nb fb n (lV key nonce 1 f)))/\Go.bI.Own .u8 5 w1.heap.size w4 v2 n (lC key nonce nb fb n f)/\Below w.heap.size w w4)
  ⟨aK.setRow (cB (n:=16) (f:=fun _=>0) rfl (by rfl)) _ _,HO3.out.below (aB ((bT _ _).alloc (bH _) _) (bH _) _),aB (eU.alloc eU.size _) eU.size _⟩ ?_
 rintro w4 ⟨hT,hO4,fU⟩;have HO4:=ay hO4;have HT:=ay (hT.rd aM);have hs4:=hT.lt;clear hO4 hT HO3 eU;simp only[Act.put];go_wp2_with (at_builtin;refine jE rfl _ _ 23 rfl w1.heap.size 5 .u8 1 mo yL _ n _ HO4.out rfl _ 16 _ HT.out rfl (fun i _=>Km i) aH aH aH ?_;intro v5 w5 cK hgr);have lW:=below_grown fU hgr HO4.out fU.size aH;have HO5:=ay cK;clear cK hgr;go_ret2;exact⟨_,rfl,HO5.out.mono aH,lW⟩
theorem agK (key nonce:Nat->Int) (c:Int) (hk:∀i,i<32->0<=key i/\key i<256) (hn:∀i,i<12->0<=nonce i/\nonce i<256) (hc:0<=c/\c<4294967296)
  (v:Value) (n:Nat) (f:Nat->Int) (w:World) (hv:Rd .u8 w v n f) (h1:n<=1048576) (h2:((n+63) / 64:Nat)<=4294967296 - c):
  Calls Tryz.prog 131 #[.agg (arr .u8 32 key),.agg (arr .u8 12 nonce),.int .u32 c,v] w fun e w'=> ∃u,e=.returned u/\AQ w' u n (lV key nonce c f)/\Below w.heap.size w w':=
 (YI key nonce c hk hn hc v n f w hv h1 h2).mono fun _ _ ⟨v,h1,h2,h3⟩=>⟨_,h1,⟨v,rfl,h2⟩,h3⟩
theorem Vh (key nonce:Nat->Int) (hk:∀i,i<32->0<=key i/\key i<256) (hn:∀i,i<12->0<=nonce i/\nonce i<256) (vb v:Value) (nb n:Nat) (fb f:Nat->Int) (w:World)
  (hb:Rd .u8 w vb nb fb) (hv:Rd .u8 w v (n+16) f) (EH:∀i,i<nb->0<=fb i/\fb i<256) (hf:∀i,i<n+16->0<=f i/\f i<256) (l1:nb<=400000) (l2:n<=400000):
  Calls Tryz.prog 78 #[.agg (arr .u8 32 key),.agg (arr .u8 12 nonce),vb,v] w fun e w'=>
   ∃v,e=.returned v/\OpR (tC key nonce nb fb n f) w' v n (lV key nonce 1 f)/\Below w.heap.size w w':=by
 have HK:=ay hk;have HN:=ay hn;have HFB:=ay EH;have HF:=ay hf;have HB:=ay hb;have HV:=ay hv;obtain⟨T,hT⟩:∃T,T=DL key nonce nb fb n f:=⟨_,rfl⟩
 obtain⟨ok,hok⟩:∃ok,ok=tC key nonce nb fb n f:=⟨_,rfl⟩
 have yM:Hid (mY 16 (dg 256 T) (fun i=>f (n+i))=ok):=by rw[hok,hT];exact rfl
 rw[<-hok];have HT:=ay hT;obtain⟨N,hNn⟩:∃N,N=n+16:=⟨_,rfl⟩
 rw[<-hNn] at hv HV HF;obtain⟨ab,cb,rfl,b1,b2,b3,b4⟩:=hb;obtain⟨a1,c1,rfl,h1,h2,h3,h4⟩:=hv;have G1:=ay (Rd.head (P:=Tryz.prog) mo yL a1 N c1 n aH h1);obtain⟨la,k1,k2,k3⟩:=Rd.cut mo yL a1 N c1 n N aH (bH _) h1;rw[show N - n=16 by omega] at k2 k3;have K2:=ay k2;have K3:=ay (fun w f h=>(k3 w f h).2);have q0:(N:Int) - 16=(n:Int):=by omega
 have q1:¬ (1048576:Int)<(N:Int):=by omega
 have q2:¬ (1048576:Int)<(nb:Int):=by omega
 have q3:¬ ((n:Int)<0):=by omega
 have HNn:=ay hNn;clear hk hn EH hf b3 b4 h3 h4 k1 k2 k3 hT hok hNn
 go_enter Tryz.func78,Tryz.ntmps78
 go_upto_region 1 with(fail)
 refine aJ (fun w1=>aK .u8 w1 w.heap.size 32 key/\aK .u8 w1 (w.heap.size+1) 12 nonce/\Below w.heap.size w w1/\w1.heap.size=w.heap.size+2)
  ⟨aK.alloc (cB rfl rfl) _,cB aR rfl,((bT _ _).alloc (bH _) _).alloc aR _,by simp⟩ ?_
 rintro w1 ⟨hA,hN,aD,hs⟩;have HB1:=ay (HB.out.below aD);have HV1:=ay (HV.out.below aD);clear hs;go_upto_region 6 with(fail);clear q0 q1 q2 q3
 refine bN (n:=48) aQ aQ aQ rfl
  (ku [(8,7)]) (gH [(8,7)]) (fun _=>arr .u8 16 (fun _=>0)) (fun _=>(arr .u8 16 (dg 256 T))) (fun _=>118) (fun _=>11)
  (fun ii vv _=>(match ii with | 0=>vv=.agg (arr .u8 32 (key)) | 1=>vv=.agg (arr .u8 12 (nonce)) | 2=>vv=.slice ab nb cb | 3=>vv=.slice a1 N c1 | 4=>vv=.int .i64 ((n:Int)) | 5=>vv=.slice a1 n c1 | 6=>vv=.agg (arr .u8 16 (dg 256 T)) | _=>True)) (fun _ _=>True) (fun _ _ _=>trivial) (fun _ _ _ _ _ _ _=>trivial) (fun _ _ _ _ h _=>h)
  (iJ rfl) (fT rfl) ?_ ?_ ?_ ?_
 ·refine dG ?_;refine⟨?_,?_,?_,?_,?_,?_,?_,(fun h=>by cases h),(fun _ h=>by cases h),trivial⟩
  ·intro _ _ a w2 hB hF hd;exact aN <| aW (aF rfl iL rfl fZ (hF.same 4 rfl) (hA.below hB hA.lt)) rfl
  ·intro _ _ a w2 hB hF hd;exact aN <| aW (aF rfl Tryz.underlying35 rfl Tryz.size35 (hF.same 5 rfl) (hN.below hB hN.lt)) rfl
  ·intro _ _ a w2 hB hF hd;exact aN <| aG _ (.inl rfl) aR (hF.same 2 rfl)
  ·intro _ _ a w2 hB hF hd;exact aN <| aG _ (.inl rfl) aR (hF.same 3 rfl)
  ·intro _ _ a w2 hB hF hd;exact aN <| aG _ (.inl rfl) aR (hF.same 10 rfl)
  ·intro _ _ a w2 hB hF hd;exact aN <| aW (dY rfl (hd 3 _ rfl rfl rfl (aj rfl)) (by simp only[Option.map_some,Option.map_none,show a.eval (Operand.tmp 31)=.int .i64 ((n:Int)) from(hd 4 _ rfl rfl rfl (aj rfl))];exact G1.out.1 _)) rfl
  ·intro _ _ a w2 hB hF hd;refine aN <| aI _ _ _ rfl Tryz.call132 _ (yD (hd 0 _ rfl rfl rfl (aj rfl)) (hd 1 _ rfl rfl rfl (aj rfl)) (hd 2 _ rfl rfl rfl (aj rfl)) (hd 5 _ rfl rfl rfl (aj rfl))) aR (((HT.out▸MW key nonce HK.out HN.out _ _ nb n fb f _ (HB1.out.below hB) (G1.out.2 _ _ (HV1.out.below hB)) HFB.out (fun i hi=>HF.out i (by have:=HNn.out;omega)) l1 l2)).mono ?_);rintro e w3 ⟨rfl,hb⟩;exact⟨_,rfl,rfl,hb⟩
 ·refine dG ?_;refine⟨(fun h=>by cases h),(fun h=>by cases h),(fun h=>by cases h),(fun h=>by cases h),(fun h=>by cases h),(fun h=>by cases h),(fun h=>by cases h),?_,(fun h=>by cases h),trivial⟩
  ·exact fun _=>⟨rfl,rfl,fun a w2 K h=>bD rfl rfl Tryz.zeroValue118 aR h⟩
 ·refine dG ?_;refine⟨(fun _ h=>by cases h),(fun _ h=>by cases h),(fun _ h=>by cases h),(fun _ h=>by cases h),(fun _ h=>by cases h),(fun _ h=>by cases h),(fun _ h=>by cases h),(fun _ h=>by cases h),?_,trivial⟩
  ·intro p hp;obtain rfl:7=p:=gJ hp;exact⟨rfl,rfl,⟨_,rfl⟩,aj rfl,fun a w2 b K hB hF hd hx hb h=>bQ rfl rfl Tryz.size118 hx (hd 6 _ rfl rfl rfl (aj rfl)) hb h⟩
 ·intro a w2 blk hB hF hS hv hfin dS;obtain⟨v7,Gu,v7u⟩:=hv 7 _ rfl rfl;have ha:=aO rfl rfl hF [_,_,_,_,_,_,_,_,undef] rfl ⟨hS 0 _ rfl rfl rfl,hS 1 _ rfl rfl rfl,hS 2 _ rfl rfl rfl,hS 3 _ rfl rfl rfl,hS 4 _ rfl rfl rfl,hS 5 _ rfl rfl rfl,hS 6 _ rfl rfl rfl,v7,trivial,trivial⟩;have f7:=hfin 8 _ 7 rfl rfl;simp only[puts,Act.put,fB,fD,fF] at ha;subst ha;have V7:aK .u8 w2 (blk 7) 16 (dg 256 T):=⟨_,f7⟩
  clear hS hv hfin dS hF v7 f7;have jv:=hA.kept hB;have Rx:=hN.kept hB;have fO:=aD.trans (hB.mono aD.size);have HV2:=ay (HV1.out.below hB);obtain⟨q,hq⟩:∃q,q=blk 7:=⟨_,rfl⟩
  rw[<-hq] at V7 ⊢;clear hA hN aD hB hq HB1 HV1;go_upto_region 7 with(fail)
  refine bC (n:=48) aQ aQ aQ rfl
   (fun ii vv _=>(match ii with | 0=>vv=.slice (some ⟨q,0,none⟩) 16 16 | 1=>vv=.slice a1 N c1 | 2=>vv=.int .i64 ((n:Int)) | 3=>vv=.slice la 16 (c1 - n) | 4=>vv=.bool ok | 5=>vv=.bool (!(ok)) | _=>True))
   (fun w w'=>Below w.heap.size w w') (fun _ _ h=>h) (fun _ _ _ _ h _=>h) ?_ ?_
  ·refine dG ?_;refine⟨?_,?_,?_,?_,?_,?_,trivial⟩
   ·intro a w2 hB hF hd;exact aN <| aW (gD rfl (hF.same 11 rfl) Tryz.underlying118 aQ) rfl
   ·intro a w2 hB hF hd;exact aN <| aG _ (.inl rfl) aR (hF.same 3 rfl)
   ·intro a w2 hB hF hd;exact aN <| aG _ (.inl rfl) aR (hF.same 10 rfl)
   ·intro a w2 hB hF hd;exact aN <| aW (dY rfl (hd 1 _ rfl (aj rfl)) (by simp only[Option.map_some,Option.map_none,show a.eval (Operand.tmp 36)=.int .i64 ((n:Int)) from(hd 2 _ rfl (aj rfl))];exact K2.out _)) rfl
   ·intro a w2 hB hF hd;refine aN <| aI _ _ _ rfl Tryz.call105 _ (args2 (hd 0 _ rfl (aj rfl)) (hd 3 _ rfl (aj rfl))) aR (((yM.out▸Qm _ _ 16 (dg 256 T) (fun i=>f (n+i)) _ ((V7.kept hB).rd aM) (K3.out _ _ (HV2.out.below hB)) (fun i _=>bR aM _ _) (fun i hi=>HF.out _ (by have:=HNn.out;omega)))).mono ?_);rintro e w3 ⟨rfl,hb⟩;exact⟨_,rfl,rfl,hb⟩
   ·intro a w2 hB hF hd;exact aN <| aW (pJ rfl (hd 4 _ rfl (aj rfl))) rfl
  ·intro a w3 hB hF hS;have ha:=aO rfl rfl hF [_,_,_,_,_,_] rfl ⟨hS 0 _ rfl,hS 1 _ rfl,hS 2 _ rfl,hS 3 _ rfl,hS 4 _ rfl,hS 5 _ rfl,trivial⟩;simp only[puts,Act.put,fB,fD,fF] at ha;subst ha;clear hS hF;have hA3:=jv.kept hB;have hN3:=Rx.kept hB;have ji:=fO.trans (hB.mono fO.size);have HV3:=ay (HV2.out.below hB);clear jv Rx fO hB V7 HV2
   cases ok with
   | false=>
    go_wp2;go_ret2;exact⟨_,rfl,OpR.no,ji⟩
   | true=>
    go_upto_region 9 with(fail)
    refine bC (n:=48) aQ aQ aQ rfl
     (fun ii vv ww=>(match ii with | 0=>vv=.agg (arr .u8 32 (key)) | 1=>vv=.agg (arr .u8 12 (nonce)) | 2=>vv=.slice a1 N c1 | 3=>vv=.int .i64 ((n:Int)) | 4=>vv=.slice a1 n c1 | 7 | 9=>vv=.int .i64 (0) | _=>True)/\(ii=5->AQ ww vv n (lV key nonce 1 f))/\(ii=6->Rd .u8 ww vv n (lV key nonce 1 f))/\(ii=8->Rd .u8 ww vv n (lV key nonce 1 f)))
     (fun w w'=>Below w.heap.size w w') (fun _ _ h=>h) (fun i v w w' h hE=>⟨h.1,fun e=>AQ.below (h.2.1 e) hE,fun e=>Rd.below (h.2.2.1 e) hE,fun e=>Rd.below (h.2.2.2 e) hE⟩) ?_ ?_
    ·refine dG ?_;refine⟨?_,?_,?_,?_,?_,?_,?_,?_,?_,?_,trivial⟩
     ·intro a w2 hB hF hd;exact aN <| aW (aF rfl iL rfl fZ (hF.same 4 rfl) (hA3.below hB hA3.lt)) ⟨rfl,aP,aP,aP⟩
     ·intro a w2 hB hF hd;exact aN <| aW (aF rfl Tryz.underlying35 rfl Tryz.size35 (hF.same 5 rfl) (hN3.below hB hN3.lt)) ⟨rfl,aP,aP,aP⟩
     ·intro a w2 hB hF hd;exact aN <| aG _ (.inl rfl) aR ⟨(hF.same 3 rfl),aP,aP,aP⟩
     ·intro a w2 hB hF hd;exact aN <| aG _ (.inl rfl) aR ⟨(hF.same 10 rfl),aP,aP,aP⟩
     ·intro a w2 hB hF hd;exact aN <| aW (dY rfl ((hd 2 _ rfl (aj rfl)).1) (by simp only[Option.map_some,Option.map_none,show a.eval (Operand.tmp 43)=.int .i64 ((n:Int)) from((hd 3 _ rfl (aj rfl)).1)];exact G1.out.1 _)) ⟨rfl,aP,aP,aP⟩
     ·intro a w2 hB hF hd;refine aN <| aI _ _ _ rfl Tryz.call131 _ (yD ((hd 0 _ rfl (aj rfl)).1) ((hd 1 _ rfl (aj rfl)).1) rfl ((hd 4 _ rfl (aj rfl)).1)) aR ((agK key nonce 1 HK.out HN.out aM _ n f _ (G1.out.2 _ _ (HV3.out.below hB)) aH aH).mono ?_);rintro e w3 ⟨u,rfl,hr,hb⟩;exact⟨u,rfl,⟨trivial,fun _=>hr,aP,aP⟩,hb⟩
     ·intro a w2 hB hF hd;rw[if_pos (dA rfl)];obtain⟨u,hu,hR⟩:=((hd 5 _ rfl (aj rfl)).2.1 rfl)
      exact aW (bU rfl hu rfl) ⟨trivial,aP,fun _=>hR,aP⟩
     ·intro a w2 hB hF hd;rw[if_pos (dA rfl)];obtain⟨u,hu,hR⟩:=((hd 5 _ rfl (aj rfl)).2.1 rfl)
      exact aW (bU rfl hu rfl) ⟨rfl,aP,aP,aP⟩
     ·intro a w2 hB hF hd;exact aN <| aG _ (.inr rfl) aR ⟨trivial,aP,aP,fun _=>((hd 6 _ rfl (aj rfl)).2.2.1 rfl)⟩
     ·intro a w2 hB hF hd;exact aN <| aG _ (.inr rfl) aR ⟨((hd 7 _ rfl (aj rfl)).1),aP,aP,aP⟩
    ·intro a w4 hB hF hS;obtain⟨x45,agv⟩:∃x,x=a.tmps.getD 45 undef:=⟨_,rfl⟩
     have P45:AQ w4 x45 n (lV key nonce 1 f):=by rw[agv];exact(hS 5 _ rfl).2.1 rfl
     obtain⟨x46,agu⟩:∃x,x=a.tmps.getD 46 undef:=⟨_,rfl⟩
     have P46:Rd .u8 w4 x46 n (lV key nonce 1 f):=by rw[agu];exact(hS 6 _ rfl).2.2.1 rfl
     obtain⟨x8,hx8⟩:∃x,x=a.tmps.getD 8 undef:=⟨_,rfl⟩
     have P8:Rd .u8 w4 x8 n (lV key nonce 1 f):=by rw[hx8];exact(hS 8 _ rfl).2.2.2 rfl
     have ha:=aO rfl rfl hF [_,_,_,_,_,x45,x46,_,x8,_] rfl ⟨(hS 0 _ rfl).1,(hS 1 _ rfl).1,(hS 2 _ rfl).1,(hS 3 _ rfl).1,(hS 4 _ rfl).1,agv.symm,agu.symm,(hS 7 _ rfl).1,hx8.symm,(hS 9 _ rfl).1,trivial⟩;simp only[puts,Act.put,fB,fD,fF] at ha;subst ha;clear agv agu hx8;clear hS hF;have jF:=ji.trans (hB.mono ji.size);have HP:=ay P8;clear P8 P46 P45;go_wp2;go_ret2;exact⟨_,rfl,OpR.yes HP.out,jF⟩
theorem afE (va vb:Value) (n m:Nat) (f g:Nat->Int) (w:World) (ha:Rd .u8 w va n f) (hb:Rd .u8 w vb m g):
  Calls Tryz.prog 19 #[va,vb] w fun e w'=>e=.returned (.bool (QJ n f m g))/\Below w.heap.size w w':=by
 unfold QJ;by_cases h:n=m
 ·subst h;rw[decide_eq_true rfl,Bool.true_and];by_cases hq:∀i,i<n->f i=g i
  ·rw[yT hq];exact Ci va vb n f g w ha hb hq
  ·rw[Ck hq];obtain⟨j,hj⟩:=Classical.not_forall.1 hq;obtain⟨h1,h2⟩:=Classical.not_imp.1 hj;exact abC va vb n f g w ha hb j h1 h2
 ·rw[decide_eq_false h,Bool.false_and];exact WZ va vb n m f g w ha hb h
end Go.Proofs.YtpcjekgfnfjbpaaGreat
