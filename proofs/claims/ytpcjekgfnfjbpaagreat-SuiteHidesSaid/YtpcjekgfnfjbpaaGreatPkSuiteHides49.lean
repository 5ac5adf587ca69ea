/-
  Part 49 of SuiteHides. Conditions: named in each theorem.
-/
import Derived.Test.YtpcjekgfnfjbpaaGreatPkSuiteHides40
import Derived.Test.YtpcjekgfnfjbpaaGreatPkSuiteHides41
import Derived.Test.YtpcjekgfnfjbpaaGreatPkSuiteHides48
import Derived.Test.YtpcjekgfnfjbpaaGreatPkSuiteHides23
set_option linter.unusedVariables false
set_option linter.unusedSimpArgs false
set_option maxRecDepth 100000
set_option maxHeartbeats 6400000
namespace Go.aQ
open Go.RowKit
def sH (key nonce:Nat->Int) (nb:Nat) (fb:Nat->Int) (nh:Nat) (fh:Nat->Int):Int:=yP (sm 256 (iH key nonce 0) 32) (pR nb fb nh fh) (Lr nb nh)
theorem AB {key nonce:Nat->Int} {nb nh:Nat} {fb fb' fh fh':Nat->Int} (hb:∀i,i<nb->fb i=fb' i) (hh:∀i,i<nh->fh i=fh' i):sH key nonce nb fb nh fh=sH key nonce nb fb' nh fh':=by
 unfold sH yP;rw [MN (Lv hb hh)]
theorem DI (a b:Nat):a ^^^ b=0 ↔ a=b:=by
 constructor
 ·intro h;have h2:(a ^^^ b) ^^^ b=0 ^^^ b:=by rw [h]
  rw [Nat.xor_assoc,Nat.xor_self,Nat.xor_zero,Nat.zero_xor] at h2;exact h2
 ·rintro rfl;exact Nat.xor_self _
theorem aaG {x a b:Int} (x0:0<=x/\x<256) (a0:0<=a/\a<256) (b0:0<=b/\b<256):(0<=bits .or .u8 x (bits .xor .u8 a b)/\bits .or .u8 x (bits .xor .u8 a b)<256)/\(bits .or .u8 x (bits .xor .u8 a b)=0 ↔ x=0/\a=b):=by
 have h1:(a.toNat ^^^ b.toNat)<256:=Nat.xor_lt_two_pow (n:=8) (by omega) (by omega);have h2:(x.toNat ||| (a.toNat ^^^ b.toNat))<256:=Nat.or_lt_two_pow (n:=8) (by omega) h1;rw [u8_xor a b a0.1 a0.2 b0.1 b0.2,u8_or x _ x0.1 x0.2 (by omega) (by omega),FU];refine ⟨by omega,?_⟩;have h3:(x.toNat ||| (a.toNat ^^^ b.toNat))=0 ↔ x.toNat=0/\a.toNat=b.toNat:=by
  rw [Nat.or_eq_zero_iff,DI]
 omega
theorem Rd.one {k:IntKind} {w:World} {v:Value} {n:Nat} {f:Nat->Int} (h:Rd k w v n f):v.cells=#[v] :=by
 obtain ⟨a,c,rfl,_⟩:=h
 rfl
theorem aiX {w:World} {v0 v1 v2 v3 v4 v5:Value} {nb nh:Nat} {fb fh:Nat->Int} {T:TypeId} (h0:Rd .u8 w v0 nb fb) (h1:Rd .u8 w v1 (gp nb) (fun _=> 0)) (h2:Rd .u8 w v2 nh fh) (h3:Rd .u8 w v3 (gp nh) (fun _=> 0)) (h4:Rd .u8 w v4 8 (sD nb)) (h5:Rd .u8 w v5 8 (sD nh)):
  qm (w.alloc (.cells [v0,v1,v2,v3,v4,v5].toArray T)) (.slice (some ⟨w.heap.size,0,none⟩) 6 6) 6 (fV nb nh) (jI nb fb nh fh):=
 qm.new (by decide) fun j hj=> by
  rcases (by omega:j=0\/j=1\/j=2\/j=3\/j=4\/j=5) with rfl | rfl | rfl | rfl | rfl | rfl
  ·exact ⟨v0,rfl,h0⟩
  ·exact ⟨v1,rfl,h1⟩
  ·exact ⟨v2,rfl,h2⟩
  ·exact ⟨v3,rfl,h3⟩
  ·exact ⟨v4,rfl,h4⟩
  ·exact ⟨v5,rfl,h5⟩
theorem zN {n:Nat} (h:n<=400000):(n:Int) / 2 ^ (8 * 8)=0:=by
 refine Int.ediv_eq_zero_of_lt (by omega) ?_;have:(2:Int) ^ (8 * 8)=18446744073709551616:=by decide
 rw [this];omega
def eP (key nonce:Nat->Int) (nb:Nat) (fb:Nat->Int) (n:Nat) (f:Nat->Int) (i:Nat):Int:=if i<n then fT key nonce 1 f i else dg 256 (sH key nonce nb fb n (fT key nonce 1 f)) (i - n)
theorem uy {key nonce:Nat->Int} {nb:Nat} {fb:Nat->Int} {n:Nat} {f:Nat->Int} {i:Nat} (h:i<n):eP key nonce nb fb n f i=fT key nonce 1 f i:=if_pos h
theorem zi {key nonce:Nat->Int} {nb:Nat} {fb:Nat->Int} {n:Nat} {f:Nat->Int} (i:Nat):eP key nonce nb fb n f (n+i)=dg 256 (sH key nonce nb fb n (fT key nonce 1 f)) i:=by
 unfold eP;rw [if_neg (by omega),WB]
theorem mV (key nonce:Nat->Int) (c:Int) (f:Nat->Int) (i:Nat):0<=fT key nonce c f i/\fT key nonce c f i<256:=Rj _ _
def jS (key nonce:Nat->Int) (nb:Nat) (fb:Nat->Int) (n:Nat) (f:Nat->Int):Bool:=jq 16 (dg 256 (sH key nonce nb fb n f)) (fun i=> f (n+i))
def jK (w:World) (v:Value) (n:Nat) (f:Nat->Int):Prop:=∃u,v=.tuple #[u,.int .i64 0] /\Rd .u8 w u n f
theorem jK.below {w w':World} {v:Value} {n:Nat} {f:Nat->Int} (h:jK w v n f) (hb:Below w.heap.size w w'):jK w' v n f:=by
 obtain ⟨u,h1,h2⟩:=h;exact ⟨u,h1,h2.below hb⟩
def Rf (ok:Bool) (w:World) (v:Value) (n:Nat) (h:Nat->Int):Prop:=(ok=true->jK w v n h)/\(ok=false->v=.tuple #[.slice none 0 0,.int .i64 20])
theorem Rf.yes {w:World} {u:Value} {n:Nat} {h:Nat->Int} (hr:Rd .u8 w u n h):Rf true w (.tuple #[u,.int .i64 0]) n h:=⟨fun _=> ⟨u,rfl,hr⟩,fun h=> Bool.noConfusion h⟩
theorem Rf.no {w:World} {n:Nat} {h:Nat->Int}:Rf false w (.tuple #[.slice none 0 0,.int .i64 20]) n h:=⟨fun h=> Bool.noConfusion h,fun _=> rfl⟩
theorem WS (s:Int) {f:Int} (h:0<=f/\f<256):xo s (xo s f)=f:=by
 obtain ⟨h0,h1⟩:=h;have e:∀a b:Int,xo a b=((BitVec.ofInt 8 a ^^^ BitVec.ofInt 8 b).toNat:Int):=fun a b=> by
  unfold xo;show IntKind.u8.wrap (((BitVec.ofInt 8 a ^^^ BitVec.ofInt 8 b).toNat:Nat):Int)= _;have:=(BitVec.ofInt 8 a ^^^ BitVec.ofInt 8 b).isLt;rw [IntKind.wrap_u8];omega
 rw [e,e,BitVec.ofInt_natCast,BitVec.ofNat_toNat,BitVec.setWidth_eq,←BitVec.xor_assoc,BitVec.xor_self,BitVec.zero_xor,BitVec.toNat_ofInt];omega
theorem qJ (key nonce:Nat->Int) (nb:Nat) (fb:Nat->Int) (n:Nat) (f:Nat->Int) (i:Nat):0<=eP key nonce nb fb n f i/\eP key nonce nb fb n f i<256:=by
 unfold eP
 split
 ·exact mV _ _ _ _ _
 ·exact aN (by decide) _ _
theorem zL {key nonce:Nat->Int} {nb:Nat} {fb:Nat->Int} {n:Nat} {f:Nat->Int}:jS key nonce nb fb n (eP key nonce nb fb n f)=true:=by
 unfold jS;refine rE fun i hi=> ?_;rw [zi,AB (fun _ _=> rfl) (fun i hi=> uy hi)]
theorem Cx {key nonce:Nat->Int} {nb:Nat} {fb:Nat->Int} {n:Nat} {f:Nat->Int} (hf:∀i,i<n->0<=f i/\f i<256):∀i,i<n->fT key nonce 1 (eP key nonce nb fb n f) i=f i:=fun i hi=> by
 show xo _ (eP key nonce nb fb n f i)=f i;rw [uy hi];exact WS _ (hf i hi)
def Nj (n:Nat) (f:Nat->Int) (m:Nat) (g:Nat->Int):Bool:=decide (n=m) && jq n f g
end Go.aQ
namespace Go.Proofs.YtpcjekgfnfjbpaaGreat
open Go.RowKit Go.aQ
attribute [local go_sem ↓] Go.wp_at_zero Go.wp_at_succ
theorem JI (n:Nat) (hn:n<=1048576) (w:World):
  Calls Tryz.prog 183 #[.int .i64 n] w fun e w'=> ∃v,e=.returned v/\Rd .u8 w' v (gp n) (fun _=> 0)/\Below w.heap.size w w':=by
 obtain ⟨G,hG⟩:∃G:Nat,G=gp n:=⟨_,rfl⟩
 have hg:(16 - (n:Int) % 16) % 16=(G:Int):=by rw [hG];unfold gp;omega
 have hl:G<16:=by rw [hG];exact Uw n
 rw [<-hG];have h1:Int.tmod (n:Int) 16=(n:Int) % 16:=Int.tmod_eq_emod_of_nonneg (by omega);have h2:Int.tmod (16 - (n:Int) % 16) 16=(G:Int):=by rw [Int.tmod_eq_emod_of_nonneg (by omega)];exact hg
 clear hG
 go_enter Tryz.func183,Tryz.ntmps183
 go_wp2_with (refine iJ rfl _ _ 23 rfl w.heap.size 5 .u8 1 fQ iW .i64 .i64 G rfl rfl (by omega) (by omega) (aP _) ?_;intro w2 hown hgrow);go_ret;exact ⟨_,rfl,hown.rd,bU (bA _ _) hgrow (aP _)⟩
theorem Dr (v:Value) (n:Nat) (f:Nat->Int) (w:World) (hv:Rd .u8 w v n f) (hn:n<=1048576):
  Calls Tryz.prog 184 #[v] w fun e w'=> ∃v,e=.returned v/\Rd .u8 w' v 8 (sD n)/\Below w.heap.size w w':=by
 obtain ⟨a1,c1,rfl,l1,m1,z1,h1⟩:=hv;clear z1 h1
 go_enter Tryz.func184,Tryz.ntmps184
 go_wp2_with fail;refine (Tn n 8 _ (by decide) (by decide) (by omega) (by omega) (aF)).mono ?_;rintro e w2 ⟨v,rfl,hv,hb⟩;have HV:=ak hv.rd;clear hv;go_wp2;go_ret;exact ⟨_,rfl,HV.out,hb⟩
theorem Sj {a b:Bool} (h:a=b):Ending.returned (.bool a)=.returned (.bool b):=by rw [h]
theorem MP (va vb:Value) (n:Nat) (f g:Nat->Int) (w:World) (ha:Rd .u8 w va n f) (hb:Rd .u8 w vb n g) (hf:∀i,i<n->0<=f i/\f i<256) (hg:∀i,i<n->0<=g i/\g i<256):
  Calls Tryz.prog 105 #[va,vb] w fun e w'=> e=.returned (.bool (jq n f g))/\Below w.heap.size w w':=by
 obtain ⟨a1,c1,rfl,l1,m1,z1,h1⟩:=ha;obtain ⟨a2,c2,rfl,l2,m2,z2,h2⟩:=hb;have H1:=ak h1;have H2:=ak h2;have HF:=ak hf;have HG:=ak hg;clear h1 h2 z1 z2 hf hg
 go_enter Tryz.func105,Tryz.ntmps105
 go_wp2
 go_loopw [5,14] (fun d i wr=> ∃(k:Nat) (x:Int),k<=n/\i=.int .i64 k/\d=.int .u8 x/\(0<=x/\x<256)/\(x=0 ↔ ∀j,j<k->f j=g j)/\Below w.heap.size w wr) (fun _ i _=> n - (intOf i).toNat)
 case atStart=> exact ⟨0,0,dR _,rfl,rfl,by decide,by simp,bA _ _⟩
 case round=>
  obtain ⟨k,x,hk,rfl,rfl,hx,hiff,hnx⟩:=hrel;have HX:=ak hiff;clear hiff;by_cases hlt:k<n
  ·obtain ⟨b1,o1,rfl,s1,e1⟩:=H1.out (by omega);obtain ⟨b2,o2,rfl,s2,e2⟩:=H2.out (by omega);replace e1:=(hnx.cell s1).trans (e1 k hlt);replace e2:=(hnx.cell s2).trans (e2 k hlt);have HO:=ak (aaG hx (HF.out k hlt) (HG.out k hlt));go_wp2
   go_quiet (fail)
   go_wp2;go_roundw
   case rel=>
    refine ⟨k+1,_,by omega,by go_num,rfl,HO.out.1,?_,below_drewN hnx _⟩;rw [HO.out.2,HX.out]
    constructor
    ·rintro ⟨q1,q2⟩ j hj;by_cases e:j=k
     ·rw [e];exact q2
     ·exact q1 j (by omega)
    ·exact fun q=> ⟨fun j hj=> q j (by omega),q k (by omega)⟩
   case measure=> simp [intOf] <;> omega
  ·obtain rfl:k=n:=by omega
   by_cases hx0:x=0
   ·subst hx0;have HS:Hid (true=jq k f g):=by unfold Hid;exact (rE (HX.out.1 rfl)).symm
    go_wp2;go_ret;exact ⟨Sj HS.out,hnx⟩
   ·have hxb:(x==0)=false:=by simpa using hx0
    have HS:Hid (false=jq k f g):=by unfold Hid;exact (uz (fun q=> hx0 (HX.out.2 q))).symm
    clear hx0;go_wp2;go_ret;exact ⟨Sj HS.out,hnx⟩
theorem JG (key nonce:Nat->Int) (hk:∀i,i<32->0<=key i/\key i<256) (hn:∀i,i<12->0<=nonce i/\nonce i<256) (vb vh:Value) (nb nh:Nat) (fb fh:Nat->Int) (w:World)
  (hb:Rd .u8 w vb nb fb) (hh:Rd .u8 w vh nh fh) (sQ:∀i,i<nb->0<=fb i/\fb i<256) (hfh:∀i,i<nh->0<=fh i/\fh i<256) (l1:nb<=400000) (l2:nh<=400000):
  Calls Tryz.prog 132 #[.agg (arr .u8 32 key),.agg (arr .u8 12 nonce),vb,vh] w fun e w'=> e=.returned (.agg (arr .u8 16 (dg 256 (sH key nonce nb fb nh fh))))/\Below w.heap.size w w':=by
 obtain ⟨F,hF⟩:∃F,F=pR nb fb nh fh:=⟨_,rfl⟩
 obtain ⟨N,hN⟩:∃N,N=Lr nb nh:=⟨_,rfl⟩
 obtain ⟨K,hK⟩:∃K,K=sm 256 (iH key nonce 0) 32:=⟨_,rfl⟩
 have Km:Hid (0<=K/\K<256 ^ 32):=by rw [hK];exact jB (by decide) fun i hi=> qc _ _ _ _
 have ZV:Hid (∀i,i<32->iH key nonce 0 i=dg 256 K i):=by rw [hK];exact fun i hi=> (qh (f:=iH key nonce 0) (by decide) (fun i hi=> qc _ _ _ _) i hi).symm
 have QT:Hid (yP K F N=sH key nonce nb fb nh fh):=by rw [hK,hF,hN];exact rfl
 have HG:Hid (∀j,j<6->∀i,i<fV nb nh j->F (bV (fV nb nh) j+i)=jI nb fb nh fh j i):=by rw [hF];exact fun j hj i hi=> pW hj hi
 have HN:Hid (bV (fV nb nh) 6=N):=by rw [hN];exact rfl
 have Wj:Hid (N<=1000000):=by have:=NC nb nh;have:=Uw nb;have:=Uw nh;unfold Hid;omega
 have HF:Hid (∀i,i<N->0<=F i/\F i<256):=by rw [hF,hN];exact zT sQ hfh
 obtain ⟨TN,Uu⟩:∃TN,TN=sH key nonce nb fb nh fh:=⟨_,rfl⟩
 rw [<-Uu] at QT ⊢;have Wt:=ak (xJ key nonce 0 hk hn (by decide));have HB:=ak hb;have HH:=ak hh;obtain ⟨ab,cb,rfl,b1,b2,b3,b4⟩:=hb;obtain ⟨ah,ch,rfl,h1,h2,h3,h4⟩:=hh;clear hF hN hK Uu hk hn sQ hfh b3 b4 h3 h4
 go_enter Tryz.func132,Tryz.ntmps132
 go_upto_region 1 with (fail)
 refine aC (fun w1=> aD .u8 w1 w.heap.size 32 key/\aD .u8 w1 (w.heap.size+1) 12 nonce/\aD .u8 w1 (w.heap.size+2) 16 (fun _=> 0)/\Below w.heap.size w w1/\w1.heap.size=w.heap.size+3)
  ⟨aD.alloc (aD.alloc (bg rfl rfl) _) _,aD.alloc (bg (by simp) rfl) _,bg (by simp) (by rfl),(((bA _ _).alloc (aP _) _).alloc (by simp) _).alloc (by simp;omega) _,by simp⟩ ?_
 rintro w1 ⟨hA,hN,hZ,hbel,hs⟩
 refine bT (n:=30) (by kernel_rfl) (by kernel_rfl) (by kernel_rfl) rfl
  (mU [(4,3)]) (iO [(4,3)]) (fun _=> arr .u8 64 (fun _=> 0)) (fun _=> (arr .u8 64 (iH key nonce 0))) (fun _=> 47) (fun _=> 9)
  (fun ii vv _=> (match ii with | 0=> vv=.agg (arr .u8 32 (key)) | 1=> vv=.agg (arr .u8 12 (nonce)) | 2=> vv=.agg (arr .u8 64 (iH key nonce 0)) | _=> True)) (fun _ _=> True) (fun _ _ _=> trivial) (fun _ _ _ _ _ _ _=> trivial) (fun _ _ _ _ h _=> h)
  (jL rfl) (iC rfl) ?_ ?_ ?_ ?_
 ·refine dD ?_;refine ⟨?_,?_,?_,(fun h=> by cases h),(fun _ h=> by cases h),trivial⟩
  ·intro _ _ a w2 hB hF hd;exact aG <| aO (aB rfl dB rfl bZ (hF.same 4 rfl) (hA.below hB hA.lt)) rfl
  ·intro _ _ a w2 hB hF hd;exact aG <| aO (aB rfl tT rfl AL (hF.same 5 rfl) (hN.below hB hN.lt)) rfl
  ·intro _ _ a w2 hB hF hd;refine aG <| aI _ _ _ rfl Tryz.call181 _ (qj (hd 0 _ rfl rfl rfl (aj rfl)) (hd 1 _ rfl rfl rfl (aj rfl)) rfl) (by simp) ((Wt.out _).mono ?_);rintro e w3 ⟨rfl,hb⟩;exact ⟨_,rfl,rfl,hb⟩
 ·refine dD ?_;refine ⟨(fun h=> by cases h),(fun h=> by cases h),(fun h=> by cases h),?_,(fun h=> by cases h),trivial⟩
  ·exact fun _=> ⟨rfl,rfl,fun a w2 K h=> bE rfl rfl Tryz.zeroValue47 (by simp) h⟩
 ·refine dD ?_;refine ⟨(fun _ h=> by cases h),(fun _ h=> by cases h),(fun _ h=> by cases h),(fun _ h=> by cases h),?_,trivial⟩
  ·intro p hp;obtain rfl:3=p:=iV hp;exact ⟨rfl,rfl,⟨_,rfl⟩,aj rfl,fun a w2 b K hB hF hd hx hb h=> cK rfl rfl FV hx (hd 2 _ rfl rfl rfl (aj rfl)) hb h⟩
 ·intro a w2 blk hB hF hS hv hfin fG;obtain ⟨v3,WX,v3u⟩:=hv 3 _ rfl rfl;have ha:=aK rfl rfl hF [_,_,_,_,undef] rfl ⟨hS 0 _ rfl rfl rfl,hS 1 _ rfl rfl rfl,hS 2 _ rfl rfl rfl,v3,trivial,trivial⟩;have f3:=hfin 4 _ 3 rfl rfl;simp only [puts,Act.put,dS,dU,dV] at ha;subst ha;have V3:aD .u8 w2 (blk 3) 64 (iH key nonce 0):=⟨_,f3⟩
  clear hS hv hfin fG hF v3 f3;have hZ2:=hZ.kept hB;have hb2:=hbel.trans (hB.mono hbel.size);obtain ⟨q,hq⟩:∃q,q=blk 3:=⟨_,rfl⟩
  rw [<-hq] at V3 ⊢;have hc3:∀i,i<32->w2.cell? ⟨q,0+i,none⟩=some (.int .u8 (dg 256 K i)):=fun i hi=> by rw [lH,V3.cell i (by omega),ZV.out i hi]
  have HC3:=ak hc3;have Wy:=V3.lt;have QW:=ak (HB.out.below hb2);have HHW:=ak (HH.out.below hb2);have HZ2:=ak hZ2;clear hA hN hZ hbel hs hq hc3 hB V3 hZ2;go_upto_region 2 with (fail)
  refine eD (n:=30) (fun i=> i==17) (by kernel_rfl) (by kernel_rfl) (by kernel_rfl) (by kernel_rfl) rfl
   (fun ii vv ww=> (match ii with | 0=> vv=.slice (some ⟨q,0,none⟩) 32 64 | 1=> vv=.pointer (some ⟨q,0,none⟩) | 2=> vv=.agg (arr .u8 32 (dg 256 K)) | 3 | 4 | 11=> vv=.slice ab nb cb | 5=> vv=.int .i64 ((nb:Int)) | 7 | 8 | 13=> vv=.slice ah nh ch | 9=> vv=.int .i64 ((nh:Int)) | 16=> vv=.agg (arr .u8 16 (dg 256 TN)) | _=> True)/\(ii=6->Rd .u8 ww vv (gp nb) (fun _=> 0))/\(ii=10->Rd .u8 ww vv (gp nh) (fun _=> 0))/\(ii=12->Rd .u8 ww vv 8 (sD nb))/\(ii=14->Rd .u8 ww vv 8 (sD nh))/\(ii=15->qm ww vv 6 (fV nb nh) (jI nb fb nh fh)))
   (fun w w'=> Below w.heap.size w w') (fun _ _ h=> h) (fun i v w w' h hE=> ⟨h.1,fun e=> Rd.below (h.2.1 e) hE,fun e=> Rd.below (h.2.2.1 e) hE,fun e=> Rd.below (h.2.2.2.1 e) hE,fun e=> Rd.below (h.2.2.2.2.1 e) hE,fun e=> qm.below (h.2.2.2.2.2 e) hE⟩)
   (fun _=> (w.heap.size+2)) (fun _=> (arr .u8 16 (fun _=> 0))) (fun _=> (arr .u8 16 (dg 256 TN)))
   (by intro i j _ _ hpi ko hne;simp only [beq_iff_eq] at hpi ko;omega)
   (by intro i _ hpi;exact (HZ2.out).row)
   ?_ ?_ ?_
  ·refine dD ?_;refine ⟨?_,?_,?_,?_,?_,?_,?_,?_,?_,?_,?_,?_,?_,?_,?_,?_,?_,(aF),trivial⟩
   ·intro _ a w2 hB hF hd;exact aG <| aO (aZ rfl (hF.same 9 rfl) (by simp only [Option.map_some,Option.map_none];exact iN (m:=32) Tryz.underlying47 Tryz.size5 (by decide))) ⟨rfl,aF,aF,aF,aF,aF⟩
   ·intro _ a w2 hB hF hd;exact aG <| aO (iD rfl ((hd 0 _ rfl rfl (aj rfl)).1) dB (by decide)) ⟨rfl,aF,aF,aF,aF,aF⟩
   ·intro _ a w2 hB hF hd;exact aG <| aO (gI rfl ((hd 1 _ rfl rfl (aj rfl)).1) dB bZ (fun i hi=> (hB.cell (p:=⟨q,0+i,none⟩) Wy).trans (HC3.out i hi))) ⟨rfl,aF,aF,aF,aF,aF⟩
   ·intro _ a w2 hB hF hd;exact aG <| bJ rfl ⟨(hF.same 2 rfl),aF,aF,aF,aF,aF⟩
   ·intro _ a w2 hB hF hd;exact aG <| bJ rfl ⟨(hF.same 2 rfl),aF,aF,aF,aF,aF⟩
   ·intro _ a w2 hB hF hd;exact aG <| aO (mO rfl ((hd 4 _ rfl rfl (aj rfl)).1) fQ) ⟨rfl,aF,aF,aF,aF,aF⟩
   ·intro _ a w2 hB hF hd;refine aG <| aI _ _ _ rfl Tryz.call183 _ (args1 ((hd 5 _ rfl rfl (aj rfl)).1)) (by simp) ((JI nb (by omega) _).mono ?_);rintro e w3 ⟨u,rfl,hr,hb⟩;exact ⟨u,rfl,⟨trivial,fun _=> hr,aF,aF,aF,aF⟩,hb⟩
   ·intro _ a w2 hB hF hd;exact aG <| bJ rfl ⟨(hF.same 3 rfl),aF,aF,aF,aF,aF⟩
   ·intro _ a w2 hB hF hd;exact aG <| bJ rfl ⟨(hF.same 3 rfl),aF,aF,aF,aF,aF⟩
   ·intro _ a w2 hB hF hd;exact aG <| aO (mO rfl ((hd 8 _ rfl rfl (aj rfl)).1) fQ) ⟨rfl,aF,aF,aF,aF,aF⟩
   ·intro _ a w2 hB hF hd;refine aG <| aI _ _ _ rfl Tryz.call183 _ (args1 ((hd 9 _ rfl rfl (aj rfl)).1)) (by simp) ((JI nh (by omega) _).mono ?_);rintro e w3 ⟨u,rfl,hr,hb⟩;exact ⟨u,rfl,⟨trivial,aF,fun _=> hr,aF,aF,aF⟩,hb⟩
   ·intro _ a w2 hB hF hd;exact aG <| bJ rfl ⟨(hF.same 2 rfl),aF,aF,aF,aF,aF⟩
   ·intro _ a w2 hB hF hd;refine aG <| aI _ _ _ rfl Tryz.call184 _ (args1 ((hd 11 _ rfl rfl (aj rfl)).1)) (by simp) ((Dr _ nb _ _ (QW.out.below hB) (by omega)).mono ?_);rintro e w3 ⟨u,rfl,hr,hb⟩;exact ⟨u,rfl,⟨trivial,aF,aF,fun _=> hr,aF,aF⟩,hb⟩
   ·intro _ a w2 hB hF hd;exact aG <| bJ rfl ⟨(hF.same 3 rfl),aF,aF,aF,aF,aF⟩
   ·intro _ a w2 hB hF hd;refine aG <| aI _ _ _ rfl Tryz.call184 _ (args1 ((hd 13 _ rfl rfl (aj rfl)).1)) (by simp) ((Dr _ nh _ _ (HHW.out.below hB) (by omega)).mono ?_);rintro e w3 ⟨u,rfl,hr,hb⟩;exact ⟨u,rfl,⟨trivial,aF,aF,aF,fun _=> hr,aF⟩,hb⟩
   ·intro _ a w2 hB hF hd;exact aG <| dW 55 23 6 _ [.slice ab nb cb,a.eval (Operand.tmp 19),.slice ah nh ch,a.eval (Operand.tmp 23),a.eval (Operand.tmp 25),a.eval (Operand.tmp 27)] rfl Tryz.underlying55 (by kernel_rfl) (by kernel_rfl) rfl (by decide) (by decide) (by intro v hv;simp only [List.mem_cons,List.not_mem_nil,or_false] at hv;rcases hv with rfl | rfl | rfl | rfl | rfl | rfl<;> first | exact Rd.one ((hd 6 _ rfl rfl (aj rfl)).2.1 rfl) | exact Rd.one ((hd 10 _ rfl rfl (aj rfl)).2.2.1 rfl) | exact Rd.one ((hd 12 _ rfl rfl (aj rfl)).2.2.2.1 rfl) | exact Rd.one ((hd 14 _ rfl rfl (aj rfl)).2.2.2.2.1 rfl) | rfl) (by simp only [qy,List.map_cons,List.map_nil,show a.eval (Operand.tmp 16)=.slice ab nb cb from ((hd 3 _ rfl rfl (aj rfl)).1),show a.eval (Operand.tmp 20)=.slice ah nh ch from ((hd 7 _ rfl rfl (aj rfl)).1)];rfl) (by simp) ⟨trivial,aF,aF,aF,aF,fun _=> (aiX (QW.out.below hB) ((hd 6 _ rfl rfl (aj rfl)).2.1 rfl) (HHW.out.below hB) ((hd 10 _ rfl rfl (aj rfl)).2.2.1 rfl) ((hd 12 _ rfl rfl (aj rfl)).2.2.2.1 rfl) ((hd 14 _ rfl rfl (aj rfl)).2.2.2.2.1 rfl))⟩
   ·intro _ a w2 hB hF hd;refine aG <| aI _ _ _ rfl Tryz.call182 _ (args2 ((hd 2 _ rfl rfl (aj rfl)).1) rfl) (by simp) (((QT.out▸Xc K Km.out _ 6 _ _ F N w2 ((hd 15 _ rfl rfl (aj rfl)).2.2.2.2.2 rfl) HG.out HN.out Wj.out HF.out)).mono ?_);rintro e w3 ⟨rfl,hb⟩;exact ⟨_,rfl,⟨rfl,aF,aF,aF,aF,aF⟩,hb⟩
  ·refine dD ?_;refine ⟨(aF),(aF),(aF),(aF),(aF),(aF),(aF),(aF),(aF),(aF),(aF),(aF),(aF),(aF),(aF),(aF),(aF),?_,trivial⟩
   ·intro _ a w1 w2 K hB hF hS hr hK;exact bB 118 _ _ rfl .u8 ((w.heap.size+2)) 16 (fun _=> 0) (dg 256 TN) Tryz.size118 (hF.same 8 rfl) ((hS 16 _ rfl rfl).1) hr hK
  ·intro a wf w4 hB hF hS hfil;have other:∀{k:IntKind} {qb n:Nat} {f:Nat->Int},qb≠(w.heap.size+2)->aD k wf qb n f->aD k w4 qb n f:=fun {k qb n f} e0 hA=> hfil.arr (by intro i _ hpi;simp only [oP,beq_iff_eq] at hpi;subst hpi<;> ((try simp only []);(try dsimp only);omega)) hA;have fP:∀{B:Nat} {w0:World},B<=(w.heap.size+2)->Below B w0 wf->Below B w0 w4:=fun {B w0} e0 hA=> hfil.below (by intro i _ hpi;simp only [oP,beq_iff_eq] at hpi;subst hpi<;> ((try simp only []);(try dsimp only);omega)) hA;have V17:aD .u8 w4 ((w.heap.size+2)) 16 (dg 256 TN):=hfil.at 17 (by decide) rfl;have EP:=hfil.size;clear hfil;obtain ⟨x19,TV⟩:∃x,x=a.tmps.getD 19 undef:=⟨_,rfl⟩
   obtain ⟨x23,aeF⟩:∃x,x=a.tmps.getD 23 undef:=⟨_,rfl⟩
   obtain ⟨x25,hx25⟩:∃x,x=a.tmps.getD 25 undef:=⟨_,rfl⟩
   obtain ⟨x27,hx27⟩:∃x,x=a.tmps.getD 27 undef:=⟨_,rfl⟩
   obtain ⟨x28,hx28⟩:∃x,x=a.tmps.getD 28 undef:=⟨_,rfl⟩
   have ha:=aK rfl rfl hF [_,_,_,_,_,_,x19,_,_,_,x23,_,x25,_,x27,x28,_,undef] rfl ⟨(hS 0 _ rfl rfl).1,(hS 1 _ rfl rfl).1,(hS 2 _ rfl rfl).1,(hS 3 _ rfl rfl).1,(hS 4 _ rfl rfl).1,(hS 5 _ rfl rfl).1,TV.symm,(hS 7 _ rfl rfl).1,(hS 8 _ rfl rfl).1,(hS 9 _ rfl rfl).1,aeF.symm,(hS 11 _ rfl rfl).1,hx25.symm,(hS 13 _ rfl rfl).1,hx27.symm,hx28.symm,(hS 16 _ rfl rfl).1,trivial,trivial⟩;simp only [puts,Act.put,dS,dU,dV] at ha;subst ha;clear TV aeF hx25 hx27 hx28;clear hS hF;have hb4:=fP (by omega) (hb2.trans (hB.mono hb2.size));go_wp2;exact bodyPost_ret (aV rfl _ _ .u8 (w.heap.size+2) 16 _ 5 rfl V17 Tryz.underlying118 Tryz.size118) rfl ⟨rfl,hb4⟩
theorem Cv (key nonce:Nat->Int) (hk:∀i,i<32->0<=key i/\key i<256) (hn:∀i,i<12->0<=nonce i/\nonce i<256) (vb vh:Value) (nb nh:Nat) (fb fh:Nat->Int) (w:World)
  (hb:Rd .u8 w vb nb fb) (hh:Rd .u8 w vh nh fh) (sQ:∀i,i<nb->0<=fb i/\fb i<256) (hfh:∀i,i<nh->0<=fh i/\fh i<256) (l1:nb<=400000) (l2:nh<=400000):
  Calls Tryz.prog 74 #[.agg (arr .u8 32 key),.agg (arr .u8 12 nonce),vb,vh] w fun e w'=> e=.returned (.agg (arr .u8 16 (dg 256 (sH key nonce nb fb nh fh))))/\Below w.heap.size w w':=by
 obtain ⟨F,hF⟩:∃F,F=pR nb fb nh fh:=⟨_,rfl⟩
 obtain ⟨N,hN⟩:∃N,N=Lr nb nh:=⟨_,rfl⟩
 obtain ⟨K,hK⟩:∃K,K=sm 256 (iH key nonce 0) 32:=⟨_,rfl⟩
 have Km:Hid (0<=K/\K<256 ^ 32):=by rw [hK];exact jB (by decide) fun i hi=> qc _ _ _ _
 have ZV:Hid (∀i,i<32->iH key nonce 0 i=dg 256 K i):=by rw [hK];exact fun i hi=> (qh (f:=iH key nonce 0) (by decide) (fun i hi=> qc _ _ _ _) i hi).symm
 have QT:Hid (yP K F N=sH key nonce nb fb nh fh):=by rw [hK,hF,hN];exact rfl
 have HF:Hid (∀i,i<N->0<=F i/\F i<256):=by rw [hF,hN];exact zT sQ hfh
 have Wp:Hid (∀i,i<nb->F (0+i)=fb i):=by rw [hF];exact fun i hi=> Ir hi
 have Wo:Hid (∀i,i<gp nb->F (nb+i)=0):=by rw [hF];exact fun i hi=> PU hi
 have HF2:Hid (∀i,i<nh->F (nb+gp nb+i)=fh i):=by rw [hF];exact fun i hi=> Iq hi
 have HF3:Hid (∀i,i<gp nh->F (nb+gp nb+nh+i)=0):=by rw [hF];exact fun i hi=> PO hi
 have HF4:Hid (∀i,i<8->F (nb+gp nb+nh+gp nh+i)=sD nb i):=by rw [hF];exact fun i hi=> Lu hi
 have HF5:Hid (∀i,i<8->F (nb+gp nb+nh+gp nh+8+i)=sD nh i):=by rw [hF];exact fun i hi=> Ls hi
 obtain ⟨TN,Uu⟩:∃TN,TN=sH key nonce nb fb nh fh:=⟨_,rfl⟩
 rw [<-Uu] at QT ⊢;have HGB:Hid ((nb+gp nb) % 16=0/\gp nb<16/\∀i,i<gp nb->(nb+i) % 16≠0):=by unfold Hid gp;refine ⟨by omega,by omega,fun i hi=> by omega⟩
 have HGH:Hid ((nb+gp nb+nh+gp nh) % 16=0/\gp nh<16/\∀i,i<gp nh->(nb+gp nb+nh+i) % 16≠0):=by have:=HGB.out.1;unfold Hid gp at *;refine ⟨by omega,by omega,fun i hi=> by omega⟩
 obtain ⟨M1,hM1⟩:∃M1,M1=nb+gp nb:=⟨_,rfl⟩
 obtain ⟨G1,hG1⟩:∃G1,G1=gp nb:=⟨_,rfl⟩
 obtain ⟨G2,hG2⟩:∃G2,G2=gp nh:=⟨_,rfl⟩
 have Dz:Hid (M1+nh+G2+8+8=N):=by unfold Hid;rw [hN,NC,hM1,hG2]
 rw [<-hM1] at HF2 HF3 HF4 HF5 HGB HGH;rw [<-hG1] at Wo HGB hM1;rw [<-hG2] at HF3 HF4 HF5 HGH;have HM1:=ak hM1;have Wt:=ak (zF key nonce 0 hk hn (by decide));have HB:=ak hb;have HH:=ak hh;have HL1:=ak (FK (nb:Int) 8);have HL2:=ak (FK (nh:Int) 8);obtain ⟨ab,cb,rfl,b1,b2,b3,b4⟩:=hb;obtain ⟨ah,ch,rfl,h1,h2,h3,h4⟩:=hh;have g1:=HGB.out.2.1;have g2:=HGH.out.2.1;have m1:M1<=nb+16:=by omega
 clear hF hN hK Uu hk hn sQ hfh b3 b4 h3 h4 hM1 hG1 hG2
 go_enter Tryz.func74,Tryz.ntmps74
 go_upto_region 1 with (fail)
 refine aC (fun w1=> aD .u8 w1 w.heap.size 32 key/\aD .u8 w1 (w.heap.size+1) 12 nonce/\aD .u8 w1 (w.heap.size+2) 16 (fun _=> 0)/\Below w.heap.size w w1/\w1.heap.size=w.heap.size+3)
  ⟨aD.alloc (aD.alloc (bg rfl rfl) _) _,aD.alloc (bg (by simp) rfl) _,bg (by simp) (by rfl),(((bA _ _).alloc (aP _) _).alloc (by simp) _).alloc (by simp;omega) _,by simp⟩ ?_
 rintro w1 ⟨hA,hN,hZ,hbel,hs⟩
 go_wp2_with (first
  | (refine aM rfl 22 _ rfl .u8 w.heap.size 32 _ 5 dB bZ rfl hA ?_)
  | (refine aM rfl 35 _ rfl .u8 (w.heap.size+1) 12 _ 5 tT AL rfl hN ?_))
 refine (Wt.out _).mono ?_;rintro e w2 ⟨v,rfl,hO,hb2⟩;obtain ⟨g,cg,rfl,_,q2,q3,q4,hcells,_⟩:=hO.form (by decide);have bq:=hbel.trans (hb2.mono hbel.size);have hZ2:=hZ.kept hb2;have HC:Hid (∀i,i<32->w2.cell? ⟨g,i,none⟩=some (.int .u8 (dg 256 K i))):=fun i hi=> by rw [hcells i (by omega),ZV.out i hi]
 have s2:=hZ2.lt;clear hA hN hZ hbel hs hb2 hO hcells;go_upto_region 3 with (fail);refine aC (fun w3=> aD .u8 w3 w2.heap.size 32 (upto 0 (dg 256 K) (fun _=> 0))/\Below w2.heap.size w2 w3/\w3.heap.size=w2.heap.size+1) ⟨by rw [bF];exact bg rfl (by rfl),(bA _ _).alloc (aP _) _,by simp⟩ ?_;rintro w3 ⟨hA3,hb3,hs3⟩;go_wp2
 go_loopw [11] (fun i wr=> ∃k:Nat,k<=32/\i=.int .i64 k/\aD .u8 wr w2.heap.size 32 (upto k (dg 256 K) (fun _=> 0))/\Below w2.heap.size w2 wr) (fun i _=> 32 - (intOf i).toNat)
 case atStart=> exact ⟨0,dR _,rfl,hA3,hb3⟩
 case round=>
  clear hA3 hb3 hs3;obtain ⟨k,hk,rfl,hA,hbw⟩:=hrel;by_cases hlt:k<32
  ·have e1:=(hbw.cell (p:=⟨g,k,none⟩) q2).trans (HC.out k hlt);have e2:=hA.cell k hlt;have f2:=hA.free k;rw [upto_at] at e2;have HA:=ak hA;have hlc:(k:Int)<64:=by omega
   clear hA;go_wp2;go_roundw
   case rel=> exact ⟨k+1,by omega,by go_num,by rw [<-aY rfl];exact HA.out.set k _,hbw.setCell (by simp) _⟩
   case measure=> simp [intOf] <;> omega
  ·obtain rfl:k=32:=by omega
   have wB:aD .u8 wr w2.heap.size 32 (dg 256 K):=hA.congr (bP _ _ (aP _));have hs4:=wB.lt;have hB0:=ak (HB.out.below (bq.trans (hbw.mono bq.size)));have HHB:=ak (HH.out.below (bq.trans (hbw.mono bq.size)));have pV:=hZ2.kept hbw;have ajN:w.heap.size+2<wr.heap.size:=pV.lt;have bQ:=bq.trans (hbw.mono bq.size);have sw:=bQ.size;have sw2:=hbw.size;obtain ⟨w4,hw4⟩:∃w4,w4=wr:=⟨_,rfl⟩
   subst hw4;clear hA hlt hbw bq hZ2;go_upto_region 9 with (at_builtin;refine dh rfl _ _ 23 rfl w4.heap.size 5 .u8 1 fQ iW _ 0 F (Own.nil _ _ _ _ _) rfl _ nb fb hB0.out rfl Wp.out (by omega) (by omega) (aP _) ?_;intro v5 w5 hown5 hgr5);have hown:Go.aQ.Own .u8 5 w4.heap.size w5 v5 nb F:=by rw [lH] at hown5;exact hown5
   have hb5:Below w4.heap.size w4 w5:=below_grown (bA w4.heap.size w4) hgr5 (Go.aQ.Own.nil .u8 5 w4.heap.size w4 F) (aP _) (aP _);clear hown5 hgr5;have nb1:nb<=M1:=by have:=HM1.out;omega
   have alN:Hid (∀i,i<M1 - nb->F (nb+i)=0):=fun i hi=> Wo.out i (by have:=HM1.out;omega);have alG:Hid (∀i,i<M1 - nb->(nb+i) % 16≠0):=fun i hi=> HGB.out.2.2 i (by have:=HM1.out;omega)
   go_loopw [12] (fun v wr=> ∃m:Nat,nb<=m/\m<=M1/\Go.aQ.Own .u8 5 w4.heap.size wr v m F/\Below w4.heap.size w4 wr) (fun v _=> M1 - aaZ v)
   case atStart=> exact ⟨nb,by omega,by omega,hown,hb5⟩
   case round=>
    clear hown hb5;obtain ⟨m,hm1,hm2,ho,hbw⟩:=hrel;have hsw:=hbw.size;have ht0:Int.tmod (m:Int) 16=(m:Int) % 16:=Int.tmod_eq_emod_of_nonneg (by omega);obtain ⟨la,lc,rfl,c1,c2,_,_⟩:=ho.rd;by_cases hlt:m<M1
    ·have hmod:((m:Int) % 16 !=0)=true:=by
      have:=alG.out (m - (nb)) (by omega);rw [show nb+(m - (nb))=m by omega] at this;simp;omega
     have HO:=ak ho;clear ho;go_wp2_with (at_builtin;refine iA rfl _ _ 23 rfl w4.heap.size 5 .u8 1 fQ iW _ m F _ _ rfl HO.out rfl 1 rfl rfl ?_ (by omega) (by omega) (by omega) ?_;rotate_right;intro v' w6 hown hgrow hpl)
     ·go_roundw
      case rel=> exact ⟨m+1,by omega,by omega,hown,below_grown (hbw.alloc hsw _) hgrow HO.out (by simp;omega) (aP _)⟩
      case measure=> obtain ⟨g',c',rfl⟩:=ownsRow_succ hown;show M1 - (m+1)<M1 - m;omega
     ·intro i hi;refine ig hi ?_;have:=alN.out (m - (nb)) (by omega);rw [show nb+(m - (nb))=m by omega] at this;rw [show m+i=m by omega];exact this.symm
    ·obtain rfl:M1=m:=by omega
     have hmod:((M1:Int) % 16 !=0)=false:=by
      have:=HGB.out.1;simp;omega
     have HO:=ak ho;have HHW:=ak (HHB.out.below hbw);clear ho;go_upto_region 12 with (at_builtin;refine dh rfl _ _ 23 rfl w4.heap.size 5 .u8 1 fQ iW _ M1 F HO.out rfl _ nh fh HHW.out rfl HF2.out (by omega) (by omega) hsw ?_;intro v7 w7 hown LV);have hb5:=below_grown hbw LV HO.out hsw (aP _);clear LV HO HHW hbw;obtain ⟨L2,hL2⟩:∃L2,L2=M1+nh:=⟨_,rfl⟩
     rw [<-hL2] at HF3 HF4 HF5 HGH Dz hown;obtain ⟨M2,hM2⟩:∃M2,M2=L2+G2:=⟨_,rfl⟩
     rw [<-hM2] at HF4 HF5 HGH Dz;have l2b:L2<=800016:=by omega
     have m2b:M2<=800032:=by omega
     have l2m:L2<=M2:=by omega
     have alM:Hid (∀i,i<M2 - L2->F (L2+i)=0):=fun i hi=> HF3.out i (by omega);have alF:Hid (∀i,i<M2 - L2->(L2+i) % 16≠0):=fun i hi=> HGH.out.2.2 i (by omega);clear hL2 hM2
     go_loopw [12] (fun v wr=> ∃m:Nat,L2<=m/\m<=M2/\Go.aQ.Own .u8 5 w4.heap.size wr v m F/\Below w4.heap.size w4 wr) (fun v _=> M2 - aaZ v)
     case atStart=> exact ⟨L2,by omega,by omega,hown,hb5⟩
     case round=>
      clear hown hb5;obtain ⟨m,hm1,hm2,ho,hbw⟩:=hrel;have hsw:=hbw.size;have ht0:Int.tmod (m:Int) 16=(m:Int) % 16:=Int.tmod_eq_emod_of_nonneg (by omega);obtain ⟨la,lc,rfl,c1,c2,_,_⟩:=ho.rd;by_cases hlt:m<M2
      ·have hmod:((m:Int) % 16 !=0)=true:=by
        have:=alF.out (m - (L2)) (by omega);rw [show L2+(m - (L2))=m by omega] at this;simp;omega
       have HO:=ak ho;clear ho;go_wp2_with (at_builtin;refine iA rfl _ _ 23 rfl w4.heap.size 5 .u8 1 fQ iW _ m F _ _ rfl HO.out rfl 1 rfl rfl ?_ (by omega) (by omega) (by omega) ?_;rotate_right;intro v' w6 hown hgrow hpl)
       ·go_roundw
        case rel=> exact ⟨m+1,by omega,by omega,hown,below_grown (hbw.alloc hsw _) hgrow HO.out (by simp;omega) (aP _)⟩
        case measure=> obtain ⟨g',c',rfl⟩:=ownsRow_succ hown;show M2 - (m+1)<M2 - m;omega
       ·intro i hi;refine ig hi ?_;have:=alM.out (m - (L2)) (by omega);rw [show L2+(m - (L2))=m by omega] at this;rw [show m+i=m by omega];exact this.symm
      ·obtain rfl:M2=m:=by omega
       have hmod:((M2:Int) % 16 !=0)=false:=by
        have:=HGH.out.1;simp;omega
       have HO:=ak ho;clear ho;go_wp2_with fail;refine (HL1.out _ (by decide) (by decide) (by omega) (by omega)).mono ?_;rintro e w8 ⟨x1,hx1,ny,he,_⟩;obtain rfl:=he (zN l1);have hX1:=ak hx1.rd;have HO8:=ak (HO.out.below ny);have abO:=hbw.trans (ny.mono hbw.size);clear hx1 he ny HO hbw;go_wp2_with fail;refine (HL2.out _ (by decide) (by decide) (by omega) (by omega)).mono ?_;rintro e w9 ⟨x2,hx2,xD,he,_⟩;obtain rfl:=he (zN l2);have hX2:=hx2.rd;have HX1:=ak (hX1.out.below xD);have HO9:=ak (HO8.out.below xD);have abN:=abO.trans (xD.mono abO.size);have hl2:(w8.heap.size:Nat)<=w9.heap.size:=xD.size;have hvb:∀b,(Value.slice la M2 lc).ownBlock=some b->b<w8.heap.size:=fun b e=> (World.ownsRow.lt HO8.out b e).2;have hxb:∀b,x2.ownBlock=some b->w8.heap.size<=b:=hx2.block;have agD:=ak hx2;clear he xD HO8 abO hX1;have hbs:=abN.size;go_upto_region 17 with (at_builtin;refine dh rfl _ _ 23 rfl w4.heap.size 5 .u8 1 fQ iW _ M2 F HO9.out rfl _ 8 _ HX1.out rfl HF4.out (by omega) (by omega) hbs ?_;intro v10 WV hown Un);have afG:=below_grown abN Un HO9.out hbs (aP _);have hX3:Rd .u8 WV x2 8 (sD nh):=Go.aQ.Own.rd (e:=5) (base:=w8.heap.size) (World.ownsRow.kept agD.out Un (by
        cases hv:x2.ownBlock with
        | none=> exact .inl rfl
        | some b=> exact .inr fun e=> by have:=hvb b e.symm;have:=hxb b hv;omega))
       have alp:=ak hown;have akM:=ak hX3;have Wu:=ak afG;clear hown Un hX3 hX2 agD HX1 HO9 abN afG hvb hxb
       refine sM (n:=70) 5 rfl (by decide) (by kernel_rfl) (by kernel_rfl) (by kernel_rfl) (by kernel_rfl) rfl
        (fun ii vv ww=> (match ii with | 0=> vv=.agg (arr .u8 32 (dg 256 K)) | 1=> vv=v10 | 2=> vv=x2 | 4=> vv=.agg (arr .u8 16 (dg 256 TN)) | _=> True)/\(ii=3->Rd .u8 ww vv N F)) 3
        (fun b ww=> Below w4.heap.size w4 ww/\(b=false->Go.aQ.Own .u8 5 w4.heap.size ww v10 (M2+8) F/\Rd .u8 ww x2 8 (sD nh))) ⟨Wu.out.drew,fun _=> ⟨alp.out.drew,akM.out⟩⟩
        (fun i ww w'=> match i with | 3=> (Below w4.heap.size w4 ww->Below w4.heap.size w4 w') | _=> Below ww.heap.size ww w') ?_ ?_ ?_ ?_ rfl ?_ ?_
       ·intro i ww;(try dsimp only);split
        ·exact id
        ·exact bA _ _
       ·intro i b ww w' hi hR hE;have hE':Below ww.heap.size ww w':=by (try dsimp only at hE);split at hE;(· exact absurd rfl hi);exact hE
        exact ⟨hR.1.trans (hE'.mono hR.1.size),fun hb=> ⟨(hR.2 hb).1.below hE',(hR.2 hb).2.below hE'⟩⟩
       ·intro ww w' hR hE;exact ⟨hE hR.1,fun h=> by cases h⟩
       ·intro i j b v ww w' hij hjb hR hS hE;refine ⟨hS.1,fun e=> ?_⟩;subst e;have hE':Below ww.heap.size ww w':=by (try dsimp only at hE);split at hE;(· exact absurd rfl hij);exact hE
        exact (hS.2 rfl).below hE'
       ·refine dD ?_;refine ⟨?_,?_,?_,?_,?_,(fun h=> absurd rfl h),trivial⟩
        ·intro _ b a w2 hcb hB hF hd;exact aG <| aO (aB rfl dB rfl bZ (hF.same 10 rfl) (wB.below hB.1 hs4)) ⟨rfl,aF⟩
        ·intro _ b a w2 hcb hB hF hd;exact aG <| bJ rfl ⟨(hF.same 12 rfl),aF⟩
        ·intro _ b a w2 hcb hB hF hd;exact aG <| bJ rfl ⟨(hF.same 15 rfl),aF⟩
        ·intro _ b a w2 hcb hB hF hd;rw [if_pos (bG rfl)];obtain ⟨ho2,hx2⟩:=hB.2 (hcb rfl);refine gq _ _ 23 rfl w4.heap.size 5 .u8 1 fQ iW _ (M2+8) F ho2 (hd 1 _ rfl (aj rfl)).1 _ 8 _ hx2 (hd 2 _ rfl (aj rfl)).1 HF5.out (by omega) (by omega) hB.1.size ?_;intro v3 w3 ho3 hg3;exact ⟨v3,rfl,(fun h=> by cases h),⟨trivial,fun _=> by have:=ho3.rd;rwa [show M2+8+8=N from Dz.out] at this⟩,fun hb=> below_grown hb hg3 ho2 hb.size (aP _)⟩
        ·intro _ b a w2 hcb hB hF hd;refine aG <| aI _ _ _ rfl Tryz.call136 _ (args2 (hd 0 _ rfl (aj rfl)).1 rfl) (by simp) ((Sv K Km.out _ F N _ ((hd 3 _ rfl (aj rfl)).2 rfl) (by have:=Dz.out;omega) HF.out).mono ?_);rintro e w3 ⟨rfl,hb⟩;exact ⟨_,rfl,⟨(by show Value.agg (arr .u8 16 (dg 256 (yP K F N)))= _;rw [QT.out]),aF⟩,hb⟩
       ·intro b a w3 hB hF hS;have hZ3:=pV.below hB.1 (by have:=ajN;omega);have bH:=bQ.trans (hB.1.mono sw);obtain ⟨x68,aeC⟩:∃x,x=a.tmps.getD 68 undef:=⟨_,rfl⟩
        have ha:=aK rfl rfl hF [_,_,_,x68,_,undef] rfl ⟨(hS 0 _ rfl (by decide)).1,(hS 1 _ rfl (by decide)).1,(hS 2 _ rfl (by decide)).1,aeC.symm,(hS 4 _ rfl (by decide)).1,trivial,trivial⟩;simp only [puts,Act.put,dS,dU,dV] at ha;subst ha;clear aeC hS hF hB;refine bB 118 _ _ rfl .u8 (w.heap.size+2) 16 (fun _=> 0) _ Tryz.size118 rfl rfl hZ3 ?_;go_wp2;exact bodyPost_ret (aV rfl _ _ .u8 (w.heap.size+2) 16 _ 5 rfl (hZ3.setRow _ _) Tryz.underlying118 Tryz.size118) rfl ⟨rfl,ay bH (by omega) _⟩
theorem Dt (key nonce:Nat->Int) (hk:∀i,i<32->0<=key i/\key i<256) (hn:∀i,i<12->0<=nonce i/\nonce i<256) (vb v:Value) (nb n:Nat) (fb f:Nat->Int) (w:World)
  (hb:Rd .u8 w vb nb fb) (hv:Rd .u8 w v n f) (sQ:∀i,i<nb->0<=fb i/\fb i<256) (l1:nb<=400000) (l2:n<=400000):
  Calls Tryz.prog 70 #[.agg (arr .u8 32 key),.agg (arr .u8 12 nonce),vb,v] w fun e w'=>
   ∃v,e=.returned (.tuple #[v,.int .i64 0])/\Go.aQ.Own .u8 5 w.heap.size w' v (n+16) (eP key nonce nb fb n f)/\Below w.heap.size w w':=by
 have HK:=ak hk;have HN:=ak hn;have JW:=ak sQ;have HB:=ak hb;have HV:=ak hv;obtain ⟨ab,cb,rfl,b1,b2,b3,b4⟩:=hb;obtain ⟨a1,c1,rfl,h1,h2,h3,h4⟩:=hv;clear hk hn sQ b3 b4 h3 h4
 go_enter Tryz.func70,Tryz.ntmps70
 go_upto_region 1 with (fail)
 refine aC (fun w1=> aD .u8 w1 w.heap.size 32 key/\aD .u8 w1 (w.heap.size+1) 12 nonce/\Below w.heap.size w w1/\w1.heap.size=w.heap.size+2)
  ⟨aD.alloc (bg rfl rfl) _,bg (by simp) rfl,((bA _ _).alloc (aP _) _).alloc (by simp) _,by simp⟩ ?_
 rintro w1 ⟨hA,hN,hbel,hs⟩
 go_wp2_with (first
  | (refine aM rfl 22 _ rfl .u8 w.heap.size 32 _ 5 dB bZ rfl hA ?_)
  | (refine aM rfl 35 _ rfl .u8 (w.heap.size+1) 12 _ 5 tT AL rfl hN ?_))
 refine (IG key nonce 1 HK.out HN.out (by decide) _ n f _ (HV.out.below hbel) (by omega) (by omega)).mono ?_;rintro e w2 ⟨v2,rfl,hO,hb2⟩;have hA2:=hA.kept hb2;have Ba:=hN.kept hb2;have bq:=hbel.trans (hb2.mono hbel.size);have HO:=ak hO;have HR:=ak hO.rd;have QW:=ak (HB.out.below bq);have s1:=bq.size;have s2:=hb2.size;clear hA hN hbel hb2 hO
 go_wp2_with (first
  | (refine aM rfl 22 _ rfl .u8 w.heap.size 32 _ 5 dB bZ rfl hA2 ?_)
  | (refine aM rfl 35 _ rfl .u8 (w.heap.size+1) 12 _ 5 tT AL rfl Ba ?_))
 refine (JG key nonce HK.out HN.out _ _ nb n fb (fT key nonce 1 f) _ QW.out HR.out JW.out (fun i _=> mV _ _ _ _ _) l1 l2).mono ?_;rintro e w3 ⟨rfl,hb3⟩;have bH:=bq.trans (hb3.mono bq.size);have JV:=ak ((HO.out.below hb3).congr (g:=eP key nonce nb fb n f) (fun i hi=> (uy hi).symm));have s3:=hb3.size;clear hA2 Ba bq hb3 HO;go_upto_region 7 with (refine aH rfl 118 _ _ rfl .u8 w3.heap.size 16 (fun _=> 0) _ Tryz.size118 rfl rfl (bg rfl (by rfl)) ?_)
 refine aC (fun w4=> aD .u8 w4 w3.heap.size 16 (dg 256 (sH key nonce nb fb n (fT key nonce 1 f)))/\Go.aQ.Own .u8 5 w1.heap.size w4 v2 n (eP key nonce nb fb n f)/\Below w.heap.size w w4)
  ⟨aD.setRow (bg (n:=16) (f:=fun _=> 0) rfl (by rfl)) _ _,JV.out.below (ay ((bA _ _).alloc (aP _) _) (aP _) _),ay (bH.alloc bH.size _) bH.size _⟩ ?_
 rintro w4 ⟨hT,hO4,bQ⟩;have Bb:=ak hO4;have HT:=ak (hT.rd (by decide));have hs4:=hT.lt;clear hO4 hT JV bH;simp only [Act.put];go_wp2_with (at_builtin;refine dh rfl _ _ 23 rfl w1.heap.size 5 .u8 1 fQ iW _ n _ Bb.out rfl _ 16 _ HT.out rfl (fun i _=> zi i) (by omega) (by omega) (by omega) ?_;intro v5 w5 hown hgr);have hb5:=below_grown bQ hgr Bb.out bQ.size (by omega);have FP:=ak hown;clear hown hgr;go_ret2;exact ⟨_,rfl,FP.out.mono (by omega),hb5⟩
theorem zG (key nonce:Nat->Int) (hk:∀i,i<32->0<=key i/\key i<256) (hn:∀i,i<12->0<=nonce i/\nonce i<256) (vb v:Value) (nb n:Nat) (fb f:Nat->Int) (w:World)
  (hb:Rd .u8 w vb nb fb) (hv:Rd .u8 w v n f) (sQ:∀i,i<nb->0<=fb i/\fb i<256) (l1:nb<=400000) (l2:n<=400000):
  Calls Tryz.prog 20 #[.agg (arr .u8 32 key),.agg (arr .u8 12 nonce),vb,v] w fun e w'=>
   ∃v,e=.returned v/\Rd .u8 w' v (n+16) (eP key nonce nb fb n f)/\Below w.heap.size w w':=by
 have HK:=ak hk;have HN:=ak hn;have JW:=ak sQ;have HB:=ak hb;have HV:=ak hv;obtain ⟨ab,cb,rfl,b1,b2,b3,b4⟩:=hb;obtain ⟨a1,c1,rfl,h1,h2,h3,h4⟩:=hv;clear hk hn sQ b3 b4 h3 h4
 go_enter Tryz.func20,Tryz.ntmps20
 go_upto_region 1 with (fail)
 refine aC (fun w1=> aD .u8 w1 w.heap.size 32 key/\aD .u8 w1 (w.heap.size+1) 12 nonce/\Below w.heap.size w w1/\w1.heap.size=w.heap.size+2)
  ⟨aD.alloc (bg rfl rfl) _,bg (by simp) rfl,((bA _ _).alloc (aP _) _).alloc (by simp) _,by simp⟩ ?_
 rintro w1 ⟨hA,hN,hbel,hs⟩
 go_wp2_with (first
  | (refine aM rfl 22 _ rfl .u8 w.heap.size 32 _ 5 dB bZ rfl hA ?_)
  | (refine aM rfl 35 _ rfl .u8 (w.heap.size+1) 12 _ 5 tT AL rfl hN ?_))
 refine (Cu key nonce 1 HK.out HN.out (by decide) _ n f _ (HV.out.below hbel) (by omega) (by omega)).mono ?_;rintro e w2 ⟨v2,rfl,hO,hb2⟩;have hA2:=hA.kept hb2;have Ba:=hN.kept hb2;have bq:=hbel.trans (hb2.mono hbel.size);have HO:=ak hO;have HR:=ak hO.rd;have QW:=ak (HB.out.below bq);have s1:=bq.size;have s2:=hb2.size;clear hA hN hbel hb2 hO
 go_wp2_with (first
  | (refine aM rfl 22 _ rfl .u8 w.heap.size 32 _ 5 dB bZ rfl hA2 ?_)
  | (refine aM rfl 35 _ rfl .u8 (w.heap.size+1) 12 _ 5 tT AL rfl Ba ?_))
 refine (Cv key nonce HK.out HN.out _ _ nb n fb (fT key nonce 1 f) _ QW.out HR.out JW.out (fun i _=> mV _ _ _ _ _) l1 l2).mono ?_;rintro e w3 ⟨rfl,hb3⟩;have bH:=bq.trans (hb3.mono bq.size);have JV:=ak ((HO.out.below hb3).congr (g:=eP key nonce nb fb n f) (fun i hi=> (uy hi).symm));have s3:=hb3.size;clear hA2 Ba bq hb3 HO;go_upto_region 3 with (refine aH rfl 118 _ _ rfl .u8 w3.heap.size 16 (fun _=> 0) _ Tryz.size118 rfl rfl (bg rfl (by rfl)) ?_);obtain ⟨T,hT⟩:∃T,T=sH key nonce nb fb n (fT key nonce 1 f):=⟨_,rfl⟩
 have HSF:Hid (∀i,eP key nonce nb fb n f (n+i)=dg 256 T i):=by rw [hT];exact fun i=> zi i
 rw [<-hT];clear hT
 refine aC (fun w4=> aD .u8 w4 w3.heap.size 16 (dg 256 T)/\Go.aQ.Own .u8 5 w1.heap.size w4 v2 n (eP key nonce nb fb n f)/\Below w.heap.size w w4)
  ⟨aD.setRow (bg (n:=16) (f:=fun _=> 0) rfl (by rfl)) _ _,JV.out.below (ay ((bA _ _).alloc (aP _) _) (aP _) _),ay (bH.alloc bH.size _) bH.size _⟩ ?_
 rintro w4 ⟨hT,hO4,bQ⟩;have hv2:some w3.heap.size≠v2.ownBlock:=fun e=> by have:=(World.ownsRow.lt JV.out _ e.symm).2;omega
 clear JV bH;simp only [Act.put];go_wp2
 go_loopw [9,11] (fun v i wr=> ∃k:Nat,k<=16/\i=.int .i64 k/\Go.aQ.Own .u8 5 w1.heap.size wr v (n+k) (eP key nonce nb fb n f)/\some w3.heap.size≠v.ownBlock/\aD .u8 wr w3.heap.size 16 (dg 256 T)/\Below w.heap.size w wr) (fun _ i _=> 16 - (intOf i).toNat)
 case atStart=> exact ⟨0,dR _,rfl,hO4,hv2,hT,bQ⟩
 case round=>
  clear hO4 hv2 hT bQ;obtain ⟨k,hk,rfl,hO,hne,hT,hbel⟩:=hrel;have hsl:=hbel.size;have HO:=ak hO;have hTl:=hT.lt;clear hO;by_cases hlt:k<16
  ·have e1:=hT.cell k hlt;have HT:=ak hT;clear hT;go_wp2_with (at_builtin;refine iA rfl _ _ 23 rfl w1.heap.size 5 .u8 1 fQ iW _ (n+k) (eP key nonce nb fb n f) _ _ rfl HO.out rfl 1 rfl rfl ?_ (by omega) (by omega) (by omega) ?_;rotate_right;intro v' w6 hown hgrow hpl)
   ·go_roundw
    case rel=> exact ⟨k+1,by omega,by go_num,hown,(by rcases hpl with h | h;(· rw [h];exact hne);intro e;have:=h _ e.symm;simp at this;omega),(aD.alloc HT.out _).grown hgrow hne,below_grown (hbel.alloc hsl _) hgrow HO.out (by simp;omega) (by omega)⟩
    case measure=> simp [intOf] <;> omega
   ·intro i hi;refine ig hi ?_;rw [show n+k+i=n+k by omega,HSF.out]
  ·obtain rfl:k=16:=by omega
   go_wp2;go_ret;exact ⟨_,rfl,HO.out.rd,hbel⟩
theorem abI (key nonce:Nat->Int) (c:Int) (hk:∀i,i<32->0<=key i/\key i<256) (hn:∀i,i<12->0<=nonce i/\nonce i<256) (hc:0<=c/\c<4294967296)
  (v:Value) (n:Nat) (f:Nat->Int) (w:World) (hv:Rd .u8 w v n f) (h1:n<=1048576) (h2:((n+63) / 64:Nat)<=4294967296 - c):
  Calls Tryz.prog 131 #[.agg (arr .u8 32 key),.agg (arr .u8 12 nonce),.int .u32 c,v] w fun e w'=> ∃u,e=.returned u/\jK w' u n (fT key nonce c f)/\Below w.heap.size w w':=
 (Uj key nonce c hk hn hc v n f w hv h1 h2).mono fun _ _ ⟨v,h1,h2,h3⟩=> ⟨_,h1,⟨v,rfl,h2⟩,h3⟩
theorem JH (key nonce:Nat->Int) (vb v:Value) (nb n:Nat) (fb f:Nat->Int) (w:World) (hb:Rd .u8 w vb nb fb) (hv:Rd .u8 w v n f) (l1:nb<=400000) (l2:n<16):
  Calls Tryz.prog 78 #[.agg (arr .u8 32 key),.agg (arr .u8 12 nonce),vb,v] w fun e w'=> e=.returned (.tuple #[.slice none 0 0,.int .i64 10])/\Below w.heap.size w w':=by
 obtain ⟨ab,cb,rfl,b1,b2,b3,b4⟩:=hb;obtain ⟨a1,c1,rfl,h1,h2,h3,h4⟩:=hv;clear b3 b4 h3 h4;have q1:¬ (1048576:Int)<(n:Int):=by omega
 have q2:¬ (1048576:Int)<(nb:Int):=by omega
 go_enter Tryz.func78,Tryz.ntmps78
 go_wp2;go_ret2;exact ⟨rfl,((bA _ _).alloc (aP _) _).alloc (by simp) _⟩
theorem Du (key nonce:Nat->Int) (hk:∀i,i<32->0<=key i/\key i<256) (hn:∀i,i<12->0<=nonce i/\nonce i<256) (vb v:Value) (nb n:Nat) (fb f:Nat->Int) (w:World)
  (hb:Rd .u8 w vb nb fb) (hv:Rd .u8 w v (n+16) f) (sQ:∀i,i<nb->0<=fb i/\fb i<256) (hf:∀i,i<n+16->0<=f i/\f i<256) (l1:nb<=400000) (l2:n<=400000):
  Calls Tryz.prog 78 #[.agg (arr .u8 32 key),.agg (arr .u8 12 nonce),vb,v] w fun e w'=>
   ∃v,e=.returned v/\Rf (jS key nonce nb fb n f) w' v n (fT key nonce 1 f)/\Below w.heap.size w w':=by
 have HK:=ak hk;have HN:=ak hn;have JW:=ak sQ;have HF:=ak hf;have HB:=ak hb;have HV:=ak hv;obtain ⟨T,hT⟩:∃T,T=sH key nonce nb fb n f:=⟨_,rfl⟩
 obtain ⟨ok,hok⟩:∃ok,ok=jS key nonce nb fb n f:=⟨_,rfl⟩
 have sV:Hid (jq 16 (dg 256 T) (fun i=> f (n+i))=ok):=by rw [hok,hT];exact rfl
 rw [<-hok];have HT:=ak hT;obtain ⟨N,hNn⟩:∃N,N=n+16:=⟨_,rfl⟩
 rw [<-hNn] at hv HV HF;obtain ⟨ab,cb,rfl,b1,b2,b3,b4⟩:=hb;obtain ⟨a1,c1,rfl,h1,h2,h3,h4⟩:=hv;have G1:=ak (Rd.head (P:=Tryz.prog) fQ iW a1 N c1 n (by omega) h1);obtain ⟨la,k1,k2,k3⟩:=Rd.cut fQ iW a1 N c1 n N (by omega) (aP _) h1;rw [show N - n=16 by omega] at k2 k3;have K2:=ak k2;have K3:=ak (fun w f h=> (k3 w f h).2);have q0:(N:Int) - 16=(n:Int):=by omega
 have q1:¬ (1048576:Int)<(N:Int):=by omega
 have q2:¬ (1048576:Int)<(nb:Int):=by omega
 have q3:¬ ((n:Int)<0):=by omega
 have HNn:=ak hNn;clear hk hn sQ hf b3 b4 h3 h4 k1 k2 k3 hT hok hNn
 go_enter Tryz.func78,Tryz.ntmps78
 go_upto_region 1 with (fail)
 refine aC (fun w1=> aD .u8 w1 w.heap.size 32 key/\aD .u8 w1 (w.heap.size+1) 12 nonce/\Below w.heap.size w w1/\w1.heap.size=w.heap.size+2)
  ⟨aD.alloc (bg rfl rfl) _,bg (by simp) rfl,((bA _ _).alloc (aP _) _).alloc (by simp) _,by simp⟩ ?_
 rintro w1 ⟨hA,hN,hbel,hs⟩;have HB1:=ak (HB.out.below hbel);have JQ:=ak (HV.out.below hbel);clear hs;go_upto_region 6 with (fail);clear q0 q1 q2 q3
 refine bT (n:=48) (by kernel_rfl) (by kernel_rfl) (by kernel_rfl) rfl
  (mU [(8,7)]) (iO [(8,7)]) (fun _=> arr .u8 16 (fun _=> 0)) (fun _=> (arr .u8 16 (dg 256 T))) (fun _=> 118) (fun _=> 11)
  (fun ii vv _=> (match ii with | 0=> vv=.agg (arr .u8 32 (key)) | 1=> vv=.agg (arr .u8 12 (nonce)) | 2=> vv=.slice ab nb cb | 3=> vv=.slice a1 N c1 | 4=> vv=.int .i64 ((n:Int)) | 5=> vv=.slice a1 n c1 | 6=> vv=.agg (arr .u8 16 (dg 256 T)) | _=> True)) (fun _ _=> True) (fun _ _ _=> trivial) (fun _ _ _ _ _ _ _=> trivial) (fun _ _ _ _ h _=> h)
  (jL rfl) (iC rfl) ?_ ?_ ?_ ?_
 ·refine dD ?_;refine ⟨?_,?_,?_,?_,?_,?_,?_,(fun h=> by cases h),(fun _ h=> by cases h),trivial⟩
  ·intro _ _ a w2 hB hF hd;exact aG <| aO (aB rfl dB rfl bZ (hF.same 4 rfl) (hA.below hB hA.lt)) rfl
  ·intro _ _ a w2 hB hF hd;exact aG <| aO (aB rfl tT rfl AL (hF.same 5 rfl) (hN.below hB hN.lt)) rfl
  ·intro _ _ a w2 hB hF hd;exact aG <| bJ rfl (hF.same 2 rfl)
  ·intro _ _ a w2 hB hF hd;exact aG <| bJ rfl (hF.same 3 rfl)
  ·intro _ _ a w2 hB hF hd;exact aG <| bJ rfl (hF.same 10 rfl)
  ·intro _ _ a w2 hB hF hd;exact aG <| aO (aZ rfl (hd 3 _ rfl rfl rfl (aj rfl)) (by simp only [Option.map_some,Option.map_none,show a.eval (Operand.tmp 31)=.int .i64 ((n:Int)) from (hd 4 _ rfl rfl rfl (aj rfl))];exact G1.out.1 _)) rfl
  ·intro _ _ a w2 hB hF hd;refine aG <| aI _ _ _ rfl Tryz.call132 _ (lG (hd 0 _ rfl rfl rfl (aj rfl)) (hd 1 _ rfl rfl rfl (aj rfl)) (hd 2 _ rfl rfl rfl (aj rfl)) (hd 5 _ rfl rfl rfl (aj rfl))) (by simp) (((HT.out▸JG key nonce HK.out HN.out _ _ nb n fb f _ (HB1.out.below hB) (G1.out.2 _ _ (JQ.out.below hB)) JW.out (fun i hi=> HF.out i (by have:=HNn.out;omega)) l1 l2)).mono ?_);rintro e w3 ⟨rfl,hb⟩;exact ⟨_,rfl,rfl,hb⟩
 ·refine dD ?_;refine ⟨(fun h=> by cases h),(fun h=> by cases h),(fun h=> by cases h),(fun h=> by cases h),(fun h=> by cases h),(fun h=> by cases h),(fun h=> by cases h),?_,(fun h=> by cases h),trivial⟩
  ·exact fun _=> ⟨rfl,rfl,fun a w2 K h=> bE rfl rfl Tryz.zeroValue118 (by simp) h⟩
 ·refine dD ?_;refine ⟨(fun _ h=> by cases h),(fun _ h=> by cases h),(fun _ h=> by cases h),(fun _ h=> by cases h),(fun _ h=> by cases h),(fun _ h=> by cases h),(fun _ h=> by cases h),(fun _ h=> by cases h),?_,trivial⟩
  ·intro p hp;obtain rfl:7=p:=iV hp;exact ⟨rfl,rfl,⟨_,rfl⟩,aj rfl,fun a w2 b K hB hF hd hx hb h=> cK rfl rfl Tryz.size118 hx (hd 6 _ rfl rfl rfl (aj rfl)) hb h⟩
 ·intro a w2 blk hB hF hS hv hfin fG;obtain ⟨v7,Ka,WW⟩:=hv 7 _ rfl rfl;have ha:=aK rfl rfl hF [_,_,_,_,_,_,_,_,undef] rfl ⟨hS 0 _ rfl rfl rfl,hS 1 _ rfl rfl rfl,hS 2 _ rfl rfl rfl,hS 3 _ rfl rfl rfl,hS 4 _ rfl rfl rfl,hS 5 _ rfl rfl rfl,hS 6 _ rfl rfl rfl,v7,trivial,trivial⟩;have f7:=hfin 8 _ 7 rfl rfl;simp only [puts,Act.put,dS,dU,dV] at ha;subst ha;have V7:aD .u8 w2 (blk 7) 16 (dg 256 T):=⟨_,f7⟩
  clear hS hv hfin fG hF v7 f7;have hA2:=hA.kept hB;have Ba:=hN.kept hB;have hb2:=hbel.trans (hB.mono hbel.size);have Om:=ak (JQ.out.below hB);obtain ⟨q,hq⟩:∃q,q=blk 7:=⟨_,rfl⟩
  rw [<-hq] at V7 ⊢;clear hA hN hbel hB hq HB1 JQ;go_upto_region 7 with (fail)
  refine aT (n:=48) (by kernel_rfl) (by kernel_rfl) (by kernel_rfl) rfl
   (fun ii vv _=> (match ii with | 0=> vv=.slice (some ⟨q,0,none⟩) 16 16 | 1=> vv=.slice a1 N c1 | 2=> vv=.int .i64 ((n:Int)) | 3=> vv=.slice la 16 (c1 - n) | 4=> vv=.bool ok | 5=> vv=.bool (!(ok)) | _=> True))
   (fun w w'=> Below w.heap.size w w') (fun _ _ h=> h) (fun _ _ _ _ h _=> h) ?_ ?_
  ·refine dD ?_;refine ⟨?_,?_,?_,?_,?_,?_,trivial⟩
   ·intro a w2 hB hF hd;exact aG <| aO (eB rfl (hF.same 11 rfl) Tryz.underlying118 (by kernel_rfl)) rfl
   ·intro a w2 hB hF hd;exact aG <| bJ rfl (hF.same 3 rfl)
   ·intro a w2 hB hF hd;exact aG <| bJ rfl (hF.same 10 rfl)
   ·intro a w2 hB hF hd;exact aG <| aO (aZ rfl (hd 1 _ rfl (aj rfl)) (by simp only [Option.map_some,Option.map_none,show a.eval (Operand.tmp 36)=.int .i64 ((n:Int)) from (hd 2 _ rfl (aj rfl))];exact K2.out _)) rfl
   ·intro a w2 hB hF hd;refine aG <| aI _ _ _ rfl Tryz.call105 _ (args2 (hd 0 _ rfl (aj rfl)) (hd 3 _ rfl (aj rfl))) (by simp) (((sV.out▸MP _ _ 16 (dg 256 T) (fun i=> f (n+i)) _ ((V7.kept hB).rd (by decide)) (K3.out _ _ (Om.out.below hB)) (fun i _=> aN (by decide) _ _) (fun i hi=> HF.out _ (by have:=HNn.out;omega)))).mono ?_);rintro e w3 ⟨rfl,hb⟩;exact ⟨_,rfl,rfl,hb⟩
   ·intro a w2 hB hF hd;exact aG <| aO (Eb rfl (hd 4 _ rfl (aj rfl))) rfl
  ·intro a w3 hB hF hS;have ha:=aK rfl rfl hF [_,_,_,_,_,_] rfl ⟨hS 0 _ rfl,hS 1 _ rfl,hS 2 _ rfl,hS 3 _ rfl,hS 4 _ rfl,hS 5 _ rfl,trivial⟩;simp only [puts,Act.put,dS,dU,dV] at ha;subst ha;clear hS hF;have hA3:=hA2.kept hB;have NU:=Ba.kept hB;have hb3:=hb2.trans (hB.mono hb2.size);have FM:=ak (Om.out.below hB);clear hA2 Ba hb2 hB V7 Om
   cases ok with
   | false=>
    go_wp2;go_ret2;exact ⟨_,rfl,Rf.no,hb3⟩
   | true=>
    go_upto_region 9 with (fail)
    refine aT (n:=48) (by kernel_rfl) (by kernel_rfl) (by kernel_rfl) rfl
     (fun ii vv ww=> (match ii with | 0=> vv=.agg (arr .u8 32 (key)) | 1=> vv=.agg (arr .u8 12 (nonce)) | 2=> vv=.slice a1 N c1 | 3=> vv=.int .i64 ((n:Int)) | 4=> vv=.slice a1 n c1 | 7 | 9=> vv=.int .i64 (0) | _=> True)/\(ii=5->jK ww vv n (fT key nonce 1 f))/\(ii=6->Rd .u8 ww vv n (fT key nonce 1 f))/\(ii=8->Rd .u8 ww vv n (fT key nonce 1 f)))
     (fun w w'=> Below w.heap.size w w') (fun _ _ h=> h) (fun i v w w' h hE=> ⟨h.1,fun e=> jK.below (h.2.1 e) hE,fun e=> Rd.below (h.2.2.1 e) hE,fun e=> Rd.below (h.2.2.2 e) hE⟩) ?_ ?_
    ·refine dD ?_;refine ⟨?_,?_,?_,?_,?_,?_,?_,?_,?_,?_,trivial⟩
     ·intro a w2 hB hF hd;exact aG <| aO (aB rfl dB rfl bZ (hF.same 4 rfl) (hA3.below hB hA3.lt)) ⟨rfl,aF,aF,aF⟩
     ·intro a w2 hB hF hd;exact aG <| aO (aB rfl tT rfl AL (hF.same 5 rfl) (NU.below hB NU.lt)) ⟨rfl,aF,aF,aF⟩
     ·intro a w2 hB hF hd;exact aG <| bJ rfl ⟨(hF.same 3 rfl),aF,aF,aF⟩
     ·intro a w2 hB hF hd;exact aG <| bJ rfl ⟨(hF.same 10 rfl),aF,aF,aF⟩
     ·intro a w2 hB hF hd;exact aG <| aO (aZ rfl ((hd 2 _ rfl (aj rfl)).1) (by simp only [Option.map_some,Option.map_none,show a.eval (Operand.tmp 43)=.int .i64 ((n:Int)) from ((hd 3 _ rfl (aj rfl)).1)];exact G1.out.1 _)) ⟨rfl,aF,aF,aF⟩
     ·intro a w2 hB hF hd;refine aG <| aI _ _ _ rfl Tryz.call131 _ (lG ((hd 0 _ rfl (aj rfl)).1) ((hd 1 _ rfl (aj rfl)).1) rfl ((hd 4 _ rfl (aj rfl)).1)) (by simp) ((abI key nonce 1 HK.out HN.out (by decide) _ n f _ (G1.out.2 _ _ (FM.out.below hB)) (by omega) (by omega)).mono ?_);rintro e w3 ⟨u,rfl,hr,hb⟩;exact ⟨u,rfl,⟨trivial,fun _=> hr,aF,aF⟩,hb⟩
     ·intro a w2 hB hF hd;rw [if_pos (bG rfl)];obtain ⟨u,hu,hR⟩:=((hd 5 _ rfl (aj rfl)).2.1 rfl)
      exact aO (aU rfl hu rfl) ⟨trivial,aF,fun _=> hR,aF⟩
     ·intro a w2 hB hF hd;rw [if_pos (bG rfl)];obtain ⟨u,hu,hR⟩:=((hd 5 _ rfl (aj rfl)).2.1 rfl)
      exact aO (aU rfl hu rfl) ⟨rfl,aF,aF,aF⟩
     ·intro a w2 hB hF hd;exact aG <| lS rfl ⟨trivial,aF,aF,fun _=> ((hd 6 _ rfl (aj rfl)).2.2.1 rfl)⟩
     ·intro a w2 hB hF hd;exact aG <| lS rfl ⟨((hd 7 _ rfl (aj rfl)).1),aF,aF,aF⟩
    ·intro a w4 hB hF hS;obtain ⟨x45,LK⟩:∃x,x=a.tmps.getD 45 undef:=⟨_,rfl⟩
     have P45:jK w4 x45 n (fT key nonce 1 f):=by rw [LK];exact (hS 5 _ rfl).2.1 rfl
     obtain ⟨x46,abt⟩:∃x,x=a.tmps.getD 46 undef:=⟨_,rfl⟩
     have P46:Rd .u8 w4 x46 n (fT key nonce 1 f):=by rw [abt];exact (hS 6 _ rfl).2.2.1 rfl
     obtain ⟨x8,NM⟩:∃x,x=a.tmps.getD 8 undef:=⟨_,rfl⟩
     have P8:Rd .u8 w4 x8 n (fT key nonce 1 f):=by rw [NM];exact (hS 8 _ rfl).2.2.2 rfl
     have ha:=aK rfl rfl hF [_,_,_,_,_,x45,x46,_,x8,_] rfl ⟨(hS 0 _ rfl).1,(hS 1 _ rfl).1,(hS 2 _ rfl).1,(hS 3 _ rfl).1,(hS 4 _ rfl).1,LK.symm,abt.symm,(hS 7 _ rfl).1,NM.symm,(hS 9 _ rfl).1,trivial⟩;simp only [puts,Act.put,dS,dU,dV] at ha;subst ha;clear LK abt NM;clear hS hF;have hb4:=hb3.trans (hB.mono hb3.size);have HP:=ak P8;clear P8 P46 P45;go_wp2;go_ret2;exact ⟨_,rfl,Rf.yes HP.out,hb4⟩
theorem zH (key nonce:Nat->Int) (hk:∀i,i<32->0<=key i/\key i<256) (hn:∀i,i<12->0<=nonce i/\nonce i<256) (vb v:Value) (nb n:Nat) (fb f:Nat->Int) (w:World)
  (hb:Rd .u8 w vb nb fb) (hv:Rd .u8 w v (n+16) f) (sQ:∀i,i<nb->0<=fb i/\fb i<256) (hf:∀i,i<n+16->0<=f i/\f i<256) (l1:nb<=400000) (l2:n<=400000):
  Calls Tryz.prog 25 #[.agg (arr .u8 32 key),.agg (arr .u8 12 nonce),vb,v] w fun e w'=>
   ∃v,e=.returned v/\Rf (jS key nonce nb fb n f) w' v n (fT key nonce 1 f)/\Below w.heap.size w w':=by
 have HK:=ak hk;have HN:=ak hn;have JW:=ak sQ;have HF:=ak hf;have HB:=ak hb;have HV:=ak hv;obtain ⟨T,hT⟩:∃T,T=sH key nonce nb fb n f:=⟨_,rfl⟩
 obtain ⟨ok,hok⟩:∃ok,ok=jS key nonce nb fb n f:=⟨_,rfl⟩
 have sV:Hid (jq 16 (dg 256 T) (fun i=> f (n+i))=ok):=by rw [hok,hT];exact rfl
 rw [<-hok];have HT:=ak hT;obtain ⟨N,hNn⟩:∃N,N=n+16:=⟨_,rfl⟩
 rw [<-hNn] at hv HV HF;obtain ⟨ab,cb,rfl,b1,b2,b3,b4⟩:=hb;obtain ⟨a1,c1,rfl,h1,h2,h3,h4⟩:=hv;have G1:=ak (Rd.head (P:=Tryz.prog) fQ iW a1 N c1 n (by omega) h1);obtain ⟨la,k1,k2,k3⟩:=Rd.cut fQ iW a1 N c1 n N (by omega) (aP _) h1;rw [show N - n=16 by omega] at k2 k3;have K2:=ak k2;have K3:=ak (fun w f h=> (k3 w f h).2);have q0:(N:Int) - 16=(n:Int):=by omega
 have q1:¬ (1048576:Int)<(N:Int):=by omega
 have q2:¬ (1048576:Int)<(nb:Int):=by omega
 have q3:¬ ((n:Int)<0):=by omega
 have HNn:=ak hNn;clear hk hn sQ hf b3 b4 h3 h4 k1 k2 k3 hT hok hNn
 go_enter Tryz.func25,Tryz.ntmps25
 go_upto_region 1 with (fail)
 refine aC (fun w1=> aD .u8 w1 w.heap.size 32 key/\aD .u8 w1 (w.heap.size+1) 12 nonce/\Below w.heap.size w w1/\w1.heap.size=w.heap.size+2)
  ⟨aD.alloc (bg rfl rfl) _,bg (by simp) rfl,((bA _ _).alloc (aP _) _).alloc (by simp) _,by simp⟩ ?_
 rintro w1 ⟨hA,hN,hbel,hs⟩;have HB1:=ak (HB.out.below hbel);have JQ:=ak (HV.out.below hbel);clear hs;go_upto_region 4 with (fail);clear q0 q1 q2 q3
 refine bT (n:=45) (by kernel_rfl) (by kernel_rfl) (by kernel_rfl) rfl
  (mU [(8,7)]) (iO [(8,7)]) (fun _=> arr .u8 16 (fun _=> 0)) (fun _=> (arr .u8 16 (dg 256 T))) (fun _=> 118) (fun _=> 11)
  (fun ii vv _=> (match ii with | 0=> vv=.agg (arr .u8 32 (key)) | 1=> vv=.agg (arr .u8 12 (nonce)) | 2=> vv=.slice ab nb cb | 3=> vv=.slice a1 N c1 | 4=> vv=.int .i64 ((n:Int)) | 5=> vv=.slice a1 n c1 | 6=> vv=.agg (arr .u8 16 (dg 256 T)) | _=> True)) (fun _ _=> True) (fun _ _ _=> trivial) (fun _ _ _ _ _ _ _=> trivial) (fun _ _ _ _ h _=> h)
  (jL rfl) (iC rfl) ?_ ?_ ?_ ?_
 ·refine dD ?_;refine ⟨?_,?_,?_,?_,?_,?_,?_,(fun h=> by cases h),(fun _ h=> by cases h),trivial⟩
  ·intro _ _ a w2 hB hF hd;exact aG <| aO (aB rfl dB rfl bZ (hF.same 4 rfl) (hA.below hB hA.lt)) rfl
  ·intro _ _ a w2 hB hF hd;exact aG <| aO (aB rfl tT rfl AL (hF.same 5 rfl) (hN.below hB hN.lt)) rfl
  ·intro _ _ a w2 hB hF hd;exact aG <| bJ rfl (hF.same 2 rfl)
  ·intro _ _ a w2 hB hF hd;exact aG <| bJ rfl (hF.same 3 rfl)
  ·intro _ _ a w2 hB hF hd;exact aG <| bJ rfl (hF.same 10 rfl)
  ·intro _ _ a w2 hB hF hd;exact aG <| aO (aZ rfl (hd 3 _ rfl rfl rfl (aj rfl)) (by simp only [Option.map_some,Option.map_none,show a.eval (Operand.tmp 22)=.int .i64 ((n:Int)) from (hd 4 _ rfl rfl rfl (aj rfl))];exact G1.out.1 _)) rfl
  ·intro _ _ a w2 hB hF hd;refine aG <| aI _ _ _ rfl Tryz.call74 _ (lG (hd 0 _ rfl rfl rfl (aj rfl)) (hd 1 _ rfl rfl rfl (aj rfl)) (hd 2 _ rfl rfl rfl (aj rfl)) (hd 5 _ rfl rfl rfl (aj rfl))) (by simp) (((HT.out▸Cv key nonce HK.out HN.out _ _ nb n fb f _ (HB1.out.below hB) (G1.out.2 _ _ (JQ.out.below hB)) JW.out (fun i hi=> HF.out i (by have:=HNn.out;omega)) l1 l2)).mono ?_);rintro e w3 ⟨rfl,hb⟩;exact ⟨_,rfl,rfl,hb⟩
 ·refine dD ?_;refine ⟨(fun h=> by cases h),(fun h=> by cases h),(fun h=> by cases h),(fun h=> by cases h),(fun h=> by cases h),(fun h=> by cases h),(fun h=> by cases h),?_,(fun h=> by cases h),trivial⟩
  ·exact fun _=> ⟨rfl,rfl,fun a w2 K h=> bE rfl rfl Tryz.zeroValue118 (by simp) h⟩
 ·refine dD ?_;refine ⟨(fun _ h=> by cases h),(fun _ h=> by cases h),(fun _ h=> by cases h),(fun _ h=> by cases h),(fun _ h=> by cases h),(fun _ h=> by cases h),(fun _ h=> by cases h),(fun _ h=> by cases h),?_,trivial⟩
  ·intro p hp;obtain rfl:7=p:=iV hp;exact ⟨rfl,rfl,⟨_,rfl⟩,aj rfl,fun a w2 b K hB hF hd hx hb h=> cK rfl rfl Tryz.size118 hx (hd 6 _ rfl rfl rfl (aj rfl)) hb h⟩
 ·intro a w2 blk hB hF hS hv hfin fG;obtain ⟨v7,Ka,WW⟩:=hv 7 _ rfl rfl;have ha:=aK rfl rfl hF [_,_,_,_,_,_,_,_,undef] rfl ⟨hS 0 _ rfl rfl rfl,hS 1 _ rfl rfl rfl,hS 2 _ rfl rfl rfl,hS 3 _ rfl rfl rfl,hS 4 _ rfl rfl rfl,hS 5 _ rfl rfl rfl,hS 6 _ rfl rfl rfl,v7,trivial,trivial⟩;have f7:=hfin 8 _ 7 rfl rfl;simp only [puts,Act.put,dS,dU,dV] at ha;subst ha;have V7:aD .u8 w2 (blk 7) 16 (dg 256 T):=⟨_,f7⟩
  clear hS hv hfin fG hF v7 f7;have hA2:=hA.kept hB;have Ba:=hN.kept hB;have hb2:=hbel.trans (hB.mono hbel.size);have Om:=ak (JQ.out.below hB);obtain ⟨q,hq⟩:∃q,q=blk 7:=⟨_,rfl⟩
  rw [<-hq] at V7 ⊢;have HQ:=ak V7;have HC:=ak (K3.out _ _ Om.out);obtain ⟨_,_,_,_,_,_,hcell⟩:=id Om.out;have yI:=ak hcell;clear hA hN hbel hB hq HB1 JQ V7 hcell;go_wp2
  go_loopw [12] (fun i wr=> ∃k:Nat,k<=16/\i=.int .i64 k/\Hid (∀j,j<k->dg 256 T j=f (n+j))/\Below w2.heap.size w2 wr) (fun i _=> 16 - (intOf i).toNat)
  case atStart=> exact ⟨0,dR _,rfl,fun j hj=> by omega,bA _ _⟩
  case round=>
   obtain ⟨k,hk,rfl,HEQ,hbw⟩:=hrel;by_cases hlt:k<16
   ·have HQW:=(HQ.out.kept hbw)
    have e1:=HQW.cell k hlt;obtain ⟨b1',o1,rfl,s1,e2⟩:=yI.out (by have:=HNn.out;omega);replace e2:=(hbw.cell s1).trans (e2 (n+k) (by have:=HNn.out;omega));have j1:(0:Int)<=(n:Int)+(k:Int):=by omega
    have j2:(n:Int)+(k:Int)<(N:Int):=by have:=HNn.out;omega
    by_cases heq:dg 256 T k=f (n+k)
    ·have hne:(dg 256 T k !=f (n+k))=false:=by simpa using heq
     have HE:=ak heq;clear heq;go_wp2
     go_quiet (fail)
     go_wp2;go_roundw
     case rel=> exact ⟨k+1,by omega,by go_num,(fun j hj=> by
      by_cases e:j=k
      ·subst e;exact HE.out
      ·exact HEQ.out j (by omega)),below_drewN hbw _⟩
     case measure=> simp [intOf] <;> omega
    ·have hne:(dg 256 T k !=f (n+k))=true:=by simpa using heq
     obtain rfl:ok=false:=by rw [<-sV.out];exact uz fun h=> heq (h k hlt)
     have hbf:=hb2.trans ((below_drewN hbw 0).mono hb2.size);clear heq;go_wp2
     go_quiet (fail)
     go_wp2;go_ret2;exact ⟨_,rfl,Rf.no,hb2.trans ((below_drewN hbw _).mono hb2.size)⟩
   ·obtain rfl:k=16:=by omega
    obtain rfl:ok=true:=by rw [<-sV.out];exact rE HEQ.out
    have hA3:=hA2.kept hbw;have NU:=Ba.kept hbw;have hb3:=hb2.trans (hbw.mono hb2.size);have FM:=ak (Om.out.below hbw);clear hA2 Ba hb2 hbw Om HQ HC yI hlt;go_upto_region 10 with (fail)
    refine aT (n:=45) (by kernel_rfl) (by kernel_rfl) (by kernel_rfl) rfl
     (fun ii vv ww=> (match ii with | 0=> vv=.agg (arr .u8 32 (key)) | 1=> vv=.agg (arr .u8 12 (nonce)) | 2=> vv=.slice a1 N c1 | 3=> vv=.int .i64 ((n:Int)) | 4=> vv=.slice a1 n c1 | 7=> vv=.int .i64 (0) | _=> True)/\(ii=5->Rd .u8 ww vv n (fT key nonce 1 f))/\(ii=6->Rd .u8 ww vv n (fT key nonce 1 f)))
     (fun w w'=> Below w.heap.size w w') (fun _ _ h=> h) (fun i v w w' h hE=> ⟨h.1,fun e=> Rd.below (h.2.1 e) hE,fun e=> Rd.below (h.2.2 e) hE⟩) ?_ ?_
    ·refine dD ?_;refine ⟨?_,?_,?_,?_,?_,?_,?_,?_,trivial⟩
     ·intro a w2 hB hF hd;exact aG <| aO (aB rfl dB rfl bZ (hF.same 4 rfl) (hA3.below hB hA3.lt)) ⟨rfl,aF,aF⟩
     ·intro a w2 hB hF hd;exact aG <| aO (aB rfl tT rfl AL (hF.same 5 rfl) (NU.below hB NU.lt)) ⟨rfl,aF,aF⟩
     ·intro a w2 hB hF hd;exact aG <| bJ rfl ⟨(hF.same 3 rfl),aF,aF⟩
     ·intro a w2 hB hF hd;exact aG <| bJ rfl ⟨(hF.same 10 rfl),aF,aF⟩
     ·intro a w2 hB hF hd;exact aG <| aO (aZ rfl ((hd 2 _ rfl (aj rfl)).1) (by simp only [Option.map_some,Option.map_none,show a.eval (Operand.tmp 42)=.int .i64 ((n:Int)) from ((hd 3 _ rfl (aj rfl)).1)];exact G1.out.1 _)) ⟨rfl,aF,aF⟩
     ·intro a w2 hB hF hd;refine aG <| aI _ _ _ rfl Tryz.call73 _ (lG ((hd 0 _ rfl (aj rfl)).1) ((hd 1 _ rfl (aj rfl)).1) rfl ((hd 4 _ rfl (aj rfl)).1)) (by simp) ((Pe key nonce 1 HK.out HN.out (by decide) _ n f _ (G1.out.2 _ _ (FM.out.below hB)) (by omega) (by omega)).mono ?_);rintro e w3 ⟨u,rfl,hr,hb⟩;exact ⟨u,rfl,⟨trivial,fun _=> hr,aF⟩,hb⟩
     ·intro a w2 hB hF hd;exact aG <| lS rfl ⟨trivial,aF,fun _=> ((hd 5 _ rfl (aj rfl)).2.1 rfl)⟩
     ·intro a w2 hB hF hd;exact aG <| lS rfl ⟨rfl,aF,aF⟩
    ·intro a w4 hB hF hS;obtain ⟨x44,abu⟩:∃x,x=a.tmps.getD 44 undef:=⟨_,rfl⟩
     have P44:Rd .u8 w4 x44 n (fT key nonce 1 f):=by rw [abu];exact (hS 5 _ rfl).2.1 rfl
     obtain ⟨x8,NM⟩:∃x,x=a.tmps.getD 8 undef:=⟨_,rfl⟩
     have P8:Rd .u8 w4 x8 n (fT key nonce 1 f):=by rw [NM];exact (hS 6 _ rfl).2.2 rfl
     have ha:=aK rfl rfl hF [_,_,_,_,_,x44,x8,_] rfl ⟨(hS 0 _ rfl).1,(hS 1 _ rfl).1,(hS 2 _ rfl).1,(hS 3 _ rfl).1,(hS 4 _ rfl).1,abu.symm,NM.symm,(hS 7 _ rfl).1,trivial⟩;simp only [puts,Act.put,dS,dU,dV] at ha;subst ha;clear abu NM;clear hS hF;have hb4:=hb3.trans (hB.mono hb3.size);have HP:=ak P8;clear P8 P44;go_wp2;go_ret2;exact ⟨_,rfl,Rf.yes HP.out,hb4⟩
theorem Es (key nonce:Nat->Int) (vb v:Value) (nb n:Nat) (fb f:Nat->Int) (w:World) (hb:Rd .u8 w vb nb fb) (hv:Rd .u8 w v n f) (l2:n<16):
  Calls Tryz.prog 25 #[.agg (arr .u8 32 key),.agg (arr .u8 12 nonce),vb,v] w fun e w'=> e=.returned (.tuple #[.slice none 0 0,.int .i64 10])/\Below w.heap.size w w':=by
 obtain ⟨a1,c1,rfl,h1,h2,h3,h4⟩:=hv;clear h3 h4
 go_enter Tryz.func25,Tryz.ntmps25
 go_wp2;go_ret2;exact ⟨rfl,((bA _ _).alloc (aP _) _).alloc (by simp) _⟩
theorem aaC (va vb:Value) (n m:Nat) (f g:Nat->Int) (w:World) (ha:Rd .u8 w va n f) (hb:Rd .u8 w vb m g):
  Calls Tryz.prog 19 #[va,vb] w fun e w'=> e=.returned (.bool (Nj n f m g))/\Below w.heap.size w w':=by
 unfold Nj;by_cases h:n=m
 ·subst h;rw [decide_eq_true rfl,Bool.true_and];by_cases hq:∀i,i<n->f i=g i
  ·rw [rE hq];exact mM va vb n f g w ha hb hq
  ·rw [uz hq];obtain ⟨j,hj⟩:=Classical.not_forall.1 hq;obtain ⟨h1,h2⟩:=Classical.not_imp.1 hj;exact Xk va vb n f g w ha hb j h1 h2
 ·rw [decide_eq_false h,Bool.false_and];exact RY va vb n m f g w ha hb h
end Go.Proofs.YtpcjekgfnfjbpaaGreat
