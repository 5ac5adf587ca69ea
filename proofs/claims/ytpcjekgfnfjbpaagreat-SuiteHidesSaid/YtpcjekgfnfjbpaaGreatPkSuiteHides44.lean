/-
  Part 44 of SuiteHides. Conditions: named in each theorem.
-/
import Derived.Test.YtpcjekgfnfjbpaaGreatPkSuiteHides43
import Derived.Test.YtpcjekgfnfjbpaaGreatPkSuiteHides21
import Derived.Test.YtpcjekgfnfjbpaaGreatPkSuiteHides6
set_option linter.unusedVariables false
set_option linter.unusedSimpArgs false
set_option maxRecDepth 100000
set_option maxHeartbeats 12800000
namespace Go.aQ
def wd4 (f:Nat->Int):Int:=f 0+256 * f 1+65536 * f 2+16777216 * f 3
theorem Oz {f:Nat->Int} (h:∀i,i<4->0<=f i/\f i<256):0<=wd4 f/\wd4 f<4294967296:=by
 have h0:=h 0 (by decide);have h1:=h 1 (by decide);have h2:=h 2 (by decide);have h3:=h 3 (by decide);unfold wd4;omega
theorem Rm (f:Nat->Int) {p j:Nat} (h:p=4 * j):wd4 (fun t=> f (p+t))=wd f j:=by subst h;rfl
theorem Yh (key nonce:Nat->Int) (c:Int) (j:Nat) (h:j<8):LJ key nonce c (4+j)=wd key j:=by
 unfold LJ;rw [if_neg (by omega),if_neg (by omega),if_neg (by omega),if_neg (by omega),if_pos (by omega),show 4+j - 4=j by omega]
theorem PZ (key nonce:Nat->Int) (c:Int) (j:Nat):LJ key nonce c (13+j)=wd nonce j:=by
 unfold LJ;rw [if_neg (by omega),if_neg (by omega),if_neg (by omega),if_neg (by omega),if_neg (by omega),if_neg (by omega),show 13+j - 13=j by omega]
theorem Lg {f:Nat->Int} {m:Nat} {x:Int} (h:f m=x):∀i,i<1->f (m+i)=x:=fun i hi=> by
 obtain rfl:i=0:=by omega
 exact h
theorem YN (f:Nat->Int):big (fun i=> f (4 - 1 - i)) 4=wd4 f:=by
 simp only [big,wd4];simp;omega
theorem vD (key nonce:Nat->Int) (c x:Int) (k t:Nat) (ht:t<4) (hx:x=xM key nonce c k):iH key nonce c (4 * k+t)=x / 256 ^ t % 256:=by
 unfold iH;rw [show (4 * k+t) / 4=k by omega,show (4 * k+t) % 4=t by omega,hx]
end Go.aQ
namespace Go.Proofs.YtpcjekgfnfjbpaaGreat
open Go.RowKit Go.aQ
attribute [local go_sem ↓] Go.wp_at_zero Go.wp_at_succ
theorem FZ (v:Value) (f:Nat->Int) (w:World) (hv:Rd .u8 w v 4 f) (hf:∀i,i<4->0<=f i/\f i<256):
  Calls Tryz.prog 185 #[v] w fun e w'=> e=.returned (.int .u32 (wd4 f))/\Below w.heap.size w w':=by
 obtain ⟨x0,x1⟩:=Oz hf;obtain ⟨x,hx⟩:∃x,x=wd4 f:=⟨_,rfl⟩
 have HX:=ak (YN f);rw [<-hx] at x0 x1 HX ⊢;clear hx;have HF:=ak hf;have HV:=ak hv;obtain ⟨a1,c1,rfl,l1,m1,z1,h1⟩:=hv;clear hf z1 h1
 go_enter Tryz.func185,Tryz.ntmps185
 go_wp2_with fail;refine (AU _ 4 f _ HV.out (by decide)).mono ?_;rintro e w1 ⟨u,rfl,hu,hb1⟩;have HU:=ak hu.rd;clear hu;go_wp2_with fail;refine (JJ _ 4 _ _ HU.out (fun i hi=> HF.out (4 - 1 - i) (by omega)) (by decide)).mono ?_;rintro e w2 ⟨rfl,hb2⟩;have hbel:=hb1.trans (hb2.mono hb1.size);rw [HX.out];clear hb1 hb2;go_wp2;go_ret;exact ⟨rfl,hbel⟩
theorem zF (key nonce:Nat->Int) (c:Int) (hk:∀i,i<32->0<=key i/\key i<256) (hn:∀i,i<12->0<=nonce i/\nonce i<256) (hc:0<=c/\c<4294967296) (w:World):
  Calls Tryz.prog 135 #[.agg (arr .u8 32 key),.agg (arr .u8 12 nonce),.int .u32 c] w fun e w'=> ∃v,e=.returned v/\Own .u8 5 w.heap.size w' v 64 (iH key nonce c)/\Below w.heap.size w w':=by
 obtain ⟨S,hS⟩:∃S,S=LJ key nonce c:=⟨_,rfl⟩
 have vN:Hid (∀i,i<16->0<=S i/\S i<4294967296):=by rw [hS];exact CX hk hn hc
 have ahd:=ak hk;have Zg:=ak hn;have HSK:Hid (∀j,j<8->S (4+j)=wd key j):=fun j hj=> by rw [hS];exact Yh key nonce c j hj
 have HSN:Hid (∀j,S (13+j)=wd nonce j):=fun j=> by rw [hS];exact PZ key nonce c j
 have Zf:Hid (S 0=1634760805/\S 1=857760878/\S 2=2036477234/\S 3=1797285236/\S 12=c):=by rw [hS];exact ⟨rfl,rfl,rfl,rfl,rfl⟩
 have Oo:=ak hS;clear hk hn hS
 go_enter Tryz.func135,Tryz.ntmps135
 go_upto_region 2 with (fail)
 refine aC (fun w1=> aD .u8 w1 w.heap.size 32 key/\aD .u8 w1 (w.heap.size+1) 12 nonce/\Own .u32 117 (w.heap.size+2) w1 (.slice (some ⟨w.heap.size+2,0,none⟩) 4 4) 4 S/\Below w.heap.size w w1)
  ⟨aD.alloc (aD.alloc (bg rfl rfl) _) _,aD.alloc (bg (by simp) rfl) _,by
   have:=Own.new .u32 117 (base:=w.heap.size+2) ((w.alloc (.cells (arr .u8 32 key) 22)).alloc (.cells (arr .u8 12 nonce) 35)) #[.int .u32 1634760805,.int .u32 857760878,.int .u32 2036477234,.int .u32 1797285236] 4 S (by simp) (by decide) rfl (fun i hi=> by
    obtain ⟨q0,q1,q2,q3,_⟩:=Zf.out;rcases (by omega:i=0\/i=1\/i=2\/i=3) with rfl | rfl | rfl | rfl
    ·rw [q0];rfl
    ·rw [q1];rfl
    ·rw [q2];rfl
    ·rw [q3];rfl)
   simpa using this,(((bA _ _).alloc (aP _) _).alloc (by simp) _).alloc (by simp;omega) _⟩ ?_
 rintro w1 ⟨hK,hN,hO,hbel⟩;have hs1:w.heap.size+2<=w1.heap.size:=by have:=hN.lt;omega
 go_wp2
 go_loopw [7,8] (fun v i wr=> ∃j p:Nat,j<=8/\p=4 * j/\i=.int .i64 p/\Own .u32 117 (w.heap.size+2) wr v (4+j) S/\aD .u8 wr w.heap.size 32 key/\aD .u8 wr (w.heap.size+1) 12 nonce/\Below w.heap.size w wr) (fun _ i _=> 32 - (intOf i).toNat)
 case atStart=> exact ⟨0,0,dR _,rfl,rfl,hO,hK,hN,hbel⟩
 case round=>
  clear hK hN hO hbel;obtain ⟨j,p,hj,hp,rfl,hO,hK,hN,hbel⟩:=hrel;have HO:=ak hO;have HP:=ak hp;have hpb:p<=32:=by omega
  have hsz:=hbel.size;have hnl:=hN.lt;have hne0:=HO.out.far (show w.heap.size<w.heap.size+2 by omega);have hne1:=HO.out.far (show w.heap.size+1<w.heap.size+2 by omega);clear hO;by_cases hlt:p<32
  ·have aqF:p+4<=32:=by omega
   have hj8:j<8:=by omega
   clear hp;obtain ⟨vs,hvs⟩:∃vs,vs=u7:=⟨_,rfl⟩
   subst hvs;go_upto_region 5 with (fail);have hp1:IntKind.i64.wrap ((p:Int)+1)=((p+1:Nat):Int):=by rw [aR (by omega) (by omega)];omega
   have hp2:IntKind.i64.wrap ((p:Int)+2)=((p+2:Nat):Int):=by rw [aR (by omega) (by omega)];omega
   have hp3:IntKind.i64.wrap ((p:Int)+3)=((p+3:Nat):Int):=by rw [aR (by omega) (by omega)];omega
   refine gB (n:=122) 19 (by decide) (by kernel_rfl) (by kernel_rfl) (by kernel_rfl) (by kernel_rfl) rfl
    (fun ii vv ww=> (match ii with | 0=> vv=vs | 1 | 4 | 8 | 12=> vv=.int .i64 ((p:Int)) | 2=> vv=.pointer (some ⟨w.heap.size,p,none⟩) | 3=> vv=.int .u8 (key (p+0)) | 5=> vv=.int .i64 (((p+1:Nat):Int)) | 6=> vv=.pointer (some ⟨w.heap.size,p+1,none⟩) | 7=> vv=.int .u8 (key (p+1)) | 9=> vv=.int .i64 (((p+2:Nat):Int)) | 10=> vv=.pointer (some ⟨w.heap.size,p+2,none⟩) | 11=> vv=.int .u8 (key (p+2)) | 13=> vv=.int .i64 (((p+3:Nat):Int)) | 14=> vv=.pointer (some ⟨w.heap.size,p+3,none⟩) | 15=> vv=.int .u8 (key (p+3)) | 17=> vv=.int .u32 (wd4 (fun t=> key (p+t))) | _=> True)/\(ii=16->Rd .u8 ww vv 4 (fun t=> key (p+t)))/\(ii=18->Rd .u32 ww vv 1 (fun _=> wd4 (fun t=> key (p+t)))))
    (fun i v w w' h hE=> ⟨h.1,fun e=> Rd.below (h.2.1 e) hE,fun e=> Rd.below (h.2.2 e) hE⟩) ?_ ?_
   ·refine dD ?_;refine ⟨?_,?_,?_,?_,?_,?_,?_,?_,?_,?_,?_,?_,?_,?_,?_,?_,?_,?_,?_,(aF),(aF),trivial⟩
    ·intro _ a w2 hB hF hd;exact aG <| bJ rfl ⟨(hF.same 7 rfl),aF,aF⟩
    ·intro _ a w2 hB hF hd;exact aG <| bJ rfl ⟨(hF.same 8 rfl),aF,aF⟩
    ·intro _ a w2 hB hF hd;exact aG <| aO (aL rfl (hF.same 3 rfl) ((hd 1 _ rfl (aj rfl)).1) dB (by kernel_rfl) (by omega) (by omega)) ⟨rfl,aF,aF⟩
    ·intro _ a w2 hB hF hd;exact aG <| aO (aJ rfl ((hd 2 _ rfl (aj rfl)).1) FD ((hK.kept hB).cell (p) (by omega))) ⟨rfl,aF,aF⟩
    ·intro _ a w2 hB hF hd;exact aG <| bJ rfl ⟨(hF.same 8 rfl),aF,aF⟩
    ·intro _ a w2 hB hF hd;exact aG <| aO (Go.aQ.bI rfl ((hd 4 _ rfl (aj rfl)).1) rfl) ⟨(congrArg (Value.int .i64) (hp1)),aF,aF⟩
    ·intro _ a w2 hB hF hd;exact aG <| aO (aL rfl (hF.same 3 rfl) ((hd 5 _ rfl (aj rfl)).1) dB (by kernel_rfl) (by omega) (by omega)) ⟨rfl,aF,aF⟩
    ·intro _ a w2 hB hF hd;exact aG <| aO (aJ rfl ((hd 6 _ rfl (aj rfl)).1) FD ((hK.kept hB).cell (p+1) (by omega))) ⟨rfl,aF,aF⟩
    ·intro _ a w2 hB hF hd;exact aG <| bJ rfl ⟨(hF.same 8 rfl),aF,aF⟩
    ·intro _ a w2 hB hF hd;exact aG <| aO (Go.aQ.bI rfl ((hd 8 _ rfl (aj rfl)).1) rfl) ⟨(congrArg (Value.int .i64) (hp2)),aF,aF⟩
    ·intro _ a w2 hB hF hd;exact aG <| aO (aL rfl (hF.same 3 rfl) ((hd 9 _ rfl (aj rfl)).1) dB (by kernel_rfl) (by omega) (by omega)) ⟨rfl,aF,aF⟩
    ·intro _ a w2 hB hF hd;exact aG <| aO (aJ rfl ((hd 10 _ rfl (aj rfl)).1) FD ((hK.kept hB).cell (p+2) (by omega))) ⟨rfl,aF,aF⟩
    ·intro _ a w2 hB hF hd;exact aG <| bJ rfl ⟨(hF.same 8 rfl),aF,aF⟩
    ·intro _ a w2 hB hF hd;exact aG <| aO (Go.aQ.bI rfl ((hd 12 _ rfl (aj rfl)).1) rfl) ⟨(congrArg (Value.int .i64) (hp3)),aF,aF⟩
    ·intro _ a w2 hB hF hd;exact aG <| aO (aL rfl (hF.same 3 rfl) ((hd 13 _ rfl (aj rfl)).1) dB (by kernel_rfl) (by omega) (by omega)) ⟨rfl,aF,aF⟩
    ·intro _ a w2 hB hF hd;exact aG <| aO (aJ rfl ((hd 14 _ rfl (aj rfl)).1) FD ((hK.kept hB).cell (p+3) (by omega))) ⟨rfl,aF,aF⟩
    ·intro _ a w2 hB hF hd;exact aG <| dW 23 5 4 _ [.int .u8 (key (p+0)),.int .u8 (key (p+1)),.int .u8 (key (p+2)),.int .u8 (key (p+3))] rfl fQ (by kernel_rfl) (by kernel_rfl) rfl (by decide) (by decide) (by intro v hv;simp only [List.mem_cons,List.not_mem_nil,or_false] at hv;rcases hv with rfl | rfl | rfl | rfl<;> rfl) (by simp only [qy,List.map_cons,List.map_nil,show a.eval (Operand.tmp 23)=.int .u8 (key (p+0)) from ((hd 3 _ rfl (aj rfl)).1),show a.eval (Operand.tmp 27)=.int .u8 (key (p+1)) from ((hd 7 _ rfl (aj rfl)).1),show a.eval (Operand.tmp 31)=.int .u8 (key (p+2)) from ((hd 11 _ rfl (aj rfl)).1),show a.eval (Operand.tmp 35)=.int .u8 (key (p+3)) from ((hd 15 _ rfl (aj rfl)).1)];rfl) (by simp) ⟨trivial,fun _=> (NG (f:=fun t=> key (p+t))),aF⟩
    ·intro _ a w2 hB hF hd;refine aG <| aI _ _ _ rfl Tryz.call185 _ (args1 rfl) (by simp) ((FZ _ (fun t=> key (p+t)) w2 ((hd 16 _ rfl (aj rfl)).2.1 rfl) (fun t ht=> ahd.out (p+t) (by omega))).mono ?_);rintro e w3 ⟨rfl,hb⟩;exact ⟨_,rfl,⟨rfl,aF,aF⟩,hb⟩
    ·intro _ a w2 hB hF hd;exact aG <| dW 223 117 1 _ [.int .u32 (wd4 (fun t=> key (p+t)))] rfl Tryz.underlying223 (by kernel_rfl) (by kernel_rfl) rfl (by decide) (by decide) (by intro v hv;simp only [List.mem_cons,List.not_mem_nil,or_false] at hv;rcases hv with rfl<;> rfl) (by simp only [qy,List.map_cons,List.map_nil,show a.eval (Operand.tmp 37)=.int .u32 (wd4 (fun t=> key (p+t))) from ((hd 17 _ rfl (aj rfl)).1)];rfl) (by simp) ⟨trivial,aF,fun _=> (nP)⟩
   ·intro a w4 hB hF hS;obtain ⟨x36,LQ⟩:∃x,x=a.tmps.getD 36 undef:=⟨_,rfl⟩
    have P36:Rd .u8 w4 x36 4 (fun t=> key (p+t)):=by rw [LQ];exact (hS 16 _ rfl (by decide)).2.1 rfl
    obtain ⟨x38,hx38⟩:∃x,x=a.tmps.getD 38 undef:=⟨_,rfl⟩
    have P38:Rd .u32 w4 x38 1 (fun _=> wd4 (fun t=> key (p+t))):=by rw [hx38];exact (hS 18 _ rfl (by decide)).2.2 rfl
    have ha:=aK rfl rfl hF [_,_,_,_,_,_,_,_,_,_,_,_,_,_,_,_,x36,_,x38] rfl ⟨(hS 0 _ rfl (by decide)).1,(hS 1 _ rfl (by decide)).1,(hS 2 _ rfl (by decide)).1,(hS 3 _ rfl (by decide)).1,(hS 4 _ rfl (by decide)).1,(hS 5 _ rfl (by decide)).1,(hS 6 _ rfl (by decide)).1,(hS 7 _ rfl (by decide)).1,(hS 8 _ rfl (by decide)).1,(hS 9 _ rfl (by decide)).1,(hS 10 _ rfl (by decide)).1,(hS 11 _ rfl (by decide)).1,(hS 12 _ rfl (by decide)).1,(hS 13 _ rfl (by decide)).1,(hS 14 _ rfl (by decide)).1,(hS 15 _ rfl (by decide)).1,LQ.symm,(hS 17 _ rfl (by decide)).1,hx38.symm,trivial⟩;simp only [puts,List.take_succ_cons,List.take_zero,Act.put,dS,dU,dV] at ha;subst ha;change tl _ _ _ (_::_:: []) _ _;clear LQ hx38;clear hS hF;have hb4:=hbel.trans (hB.mono hbel.size);have hO4:=HO.out.below hB;refine jP rfl (gq _ _ 223 rfl (w.heap.size+2) 117 .u32 4 Tryz.underlying223 Tryz.info117 _ (4+j) S hO4 rfl _ 1 _ P38 rfl (Lg (by rw [HSK.out j hj8,Rm key HP.out])) (by omega) (by omega) (by have:=hb4.size;have:=hB.size;omega) ?_);intro v' w5 hown hgrow;refine kN rfl _ (.inr rfl) (nY ?_);have hK5:=(hK.kept hB).grown hgrow hne0;have hN5:=(hN.kept hB).grown hgrow hne1;have hb5:=below_grown hb4 hgrow hO4 hb4.size (by omega);clear hK hN hbel hB hgrow;go_wp2;go_roundw
    case rel=> exact ⟨j+1,p+4,by have:=HP.out;omega,by have:=HP.out;omega,by go_num,hown,hK5,hN5,hb5⟩
    case measure=> simp [intOf] <;> omega
  ·obtain rfl:j=8:=by omega
   go_wp2_with (at_builtin;refine bC rfl _ _ 223 rfl (w.heap.size+2) 117 .u32 4 Tryz.underlying223 Tryz.info117 _ 12 S _ _ rfl HO.out rfl 1 rfl rfl ?_ (by omega) (by omega) (by omega) ?_;rotate_right;intro v' w3 hown hgrow)
   rotate_right
   ·first | exact Zf.out.2.2.2.2.symm | (intro i hi;exact ig hi (Lg Zf.out.2.2.2.2 i hi).symm)
   have hK3:=(aD.alloc hK _).grown hgrow hne0;have NU:=(aD.alloc hN _).grown hgrow hne1;have bH:=below_grown (hbel.alloc hsz _) hgrow HO.out (by simp;omega) (by omega);clear hK hN hbel HO hgrow HP hp
   go_loopw [7,9] (fun v i wr=> ∃j p:Nat,j<=3/\p=4 * j/\i=.int .i64 p/\Own .u32 117 (w.heap.size+2) wr v (13+j) S/\aD .u8 wr w.heap.size 32 key/\aD .u8 wr (w.heap.size+1) 12 nonce/\Below w.heap.size w wr) (fun _ i _=> 12 - (intOf i).toNat)
   case atStart=> exact ⟨0,0,dR _,rfl,rfl,hown,hK3,NU,bH⟩
   case round=>
    clear hK3 NU hown bH;obtain ⟨j,p,hj,hp,rfl,hO,hK,hN,hbel⟩:=hrel;have HO:=ak hO;have HP:=ak hp;have hpb:p<=12:=by omega
    have hsz:=hbel.size;have hnl:=hN.lt;have hne0:=HO.out.far (show w.heap.size<w.heap.size+2 by omega);have hne1:=HO.out.far (show w.heap.size+1<w.heap.size+2 by omega);clear hO;by_cases hlt:p<12
    ·have aqG:p+4<=12:=by omega
     clear hp;obtain ⟨vs,hvs⟩:∃vs,vs=u7:=⟨_,rfl⟩
     subst hvs;go_upto_region 10 with (fail);have hp1:IntKind.i64.wrap ((p:Int)+1)=((p+1:Nat):Int):=by rw [aR (by omega) (by omega)];omega
     have hp2:IntKind.i64.wrap ((p:Int)+2)=((p+2:Nat):Int):=by rw [aR (by omega) (by omega)];omega
     have hp3:IntKind.i64.wrap ((p:Int)+3)=((p+3:Nat):Int):=by rw [aR (by omega) (by omega)];omega
     refine gB (n:=122) 19 (by decide) (by kernel_rfl) (by kernel_rfl) (by kernel_rfl) (by kernel_rfl) rfl
      (fun ii vv ww=> (match ii with | 0=> vv=vs | 1 | 4 | 8 | 12=> vv=.int .i64 ((p:Int)) | 2=> vv=.pointer (some ⟨(w.heap.size+1),p,none⟩) | 3=> vv=.int .u8 (nonce (p+0)) | 5=> vv=.int .i64 (((p+1:Nat):Int)) | 6=> vv=.pointer (some ⟨(w.heap.size+1),p+1,none⟩) | 7=> vv=.int .u8 (nonce (p+1)) | 9=> vv=.int .i64 (((p+2:Nat):Int)) | 10=> vv=.pointer (some ⟨(w.heap.size+1),p+2,none⟩) | 11=> vv=.int .u8 (nonce (p+2)) | 13=> vv=.int .i64 (((p+3:Nat):Int)) | 14=> vv=.pointer (some ⟨(w.heap.size+1),p+3,none⟩) | 15=> vv=.int .u8 (nonce (p+3)) | 17=> vv=.int .u32 (wd4 (fun t=> nonce (p+t))) | _=> True)/\(ii=16->Rd .u8 ww vv 4 (fun t=> nonce (p+t)))/\(ii=18->Rd .u32 ww vv 1 (fun _=> wd4 (fun t=> nonce (p+t)))))
      (fun i v w w' h hE=> ⟨h.1,fun e=> Rd.below (h.2.1 e) hE,fun e=> Rd.below (h.2.2 e) hE⟩) ?_ ?_
     ·refine dD ?_;refine ⟨?_,?_,?_,?_,?_,?_,?_,?_,?_,?_,?_,?_,?_,?_,?_,?_,?_,?_,?_,(aF),(aF),trivial⟩
      ·intro _ a w2 hB hF hd;exact aG <| bJ rfl ⟨(hF.same 7 rfl),aF,aF⟩
      ·intro _ a w2 hB hF hd;exact aG <| bJ rfl ⟨(hF.same 9 rfl),aF,aF⟩
      ·intro _ a w2 hB hF hd;exact aG <| aO (aL rfl (hF.same 4 rfl) ((hd 1 _ rfl (aj rfl)).1) tT (by kernel_rfl) (by omega) (by omega)) ⟨rfl,aF,aF⟩
      ·intro _ a w2 hB hF hd;exact aG <| aO (aJ rfl ((hd 2 _ rfl (aj rfl)).1) FD ((hN.kept hB).cell (p) (by omega))) ⟨rfl,aF,aF⟩
      ·intro _ a w2 hB hF hd;exact aG <| bJ rfl ⟨(hF.same 9 rfl),aF,aF⟩
      ·intro _ a w2 hB hF hd;exact aG <| aO (Go.aQ.bI rfl ((hd 4 _ rfl (aj rfl)).1) rfl) ⟨(congrArg (Value.int .i64) (hp1)),aF,aF⟩
      ·intro _ a w2 hB hF hd;exact aG <| aO (aL rfl (hF.same 4 rfl) ((hd 5 _ rfl (aj rfl)).1) tT (by kernel_rfl) (by omega) (by omega)) ⟨rfl,aF,aF⟩
      ·intro _ a w2 hB hF hd;exact aG <| aO (aJ rfl ((hd 6 _ rfl (aj rfl)).1) FD ((hN.kept hB).cell (p+1) (by omega))) ⟨rfl,aF,aF⟩
      ·intro _ a w2 hB hF hd;exact aG <| bJ rfl ⟨(hF.same 9 rfl),aF,aF⟩
      ·intro _ a w2 hB hF hd;exact aG <| aO (Go.aQ.bI rfl ((hd 8 _ rfl (aj rfl)).1) rfl) ⟨(congrArg (Value.int .i64) (hp2)),aF,aF⟩
      ·intro _ a w2 hB hF hd;exact aG <| aO (aL rfl (hF.same 4 rfl) ((hd 9 _ rfl (aj rfl)).1) tT (by kernel_rfl) (by omega) (by omega)) ⟨rfl,aF,aF⟩
      ·intro _ a w2 hB hF hd;exact aG <| aO (aJ rfl ((hd 10 _ rfl (aj rfl)).1) FD ((hN.kept hB).cell (p+2) (by omega))) ⟨rfl,aF,aF⟩
      ·intro _ a w2 hB hF hd;exact aG <| bJ rfl ⟨(hF.same 9 rfl),aF,aF⟩
      ·intro _ a w2 hB hF hd;exact aG <| aO (Go.aQ.bI rfl ((hd 12 _ rfl (aj rfl)).1) rfl) ⟨(congrArg (Value.int .i64) (hp3)),aF,aF⟩
      ·intro _ a w2 hB hF hd;exact aG <| aO (aL rfl (hF.same 4 rfl) ((hd 13 _ rfl (aj rfl)).1) tT (by kernel_rfl) (by omega) (by omega)) ⟨rfl,aF,aF⟩
      ·intro _ a w2 hB hF hd;exact aG <| aO (aJ rfl ((hd 14 _ rfl (aj rfl)).1) FD ((hN.kept hB).cell (p+3) (by omega))) ⟨rfl,aF,aF⟩
      ·intro _ a w2 hB hF hd;exact aG <| dW 23 5 4 _ [.int .u8 (nonce (p+0)),.int .u8 (nonce (p+1)),.int .u8 (nonce (p+2)),.int .u8 (nonce (p+3))] rfl fQ (by kernel_rfl) (by kernel_rfl) rfl (by decide) (by decide) (by intro v hv;simp only [List.mem_cons,List.not_mem_nil,or_false] at hv;rcases hv with rfl | rfl | rfl | rfl<;> rfl) (by simp only [qy,List.map_cons,List.map_nil,show a.eval (Operand.tmp 51)=.int .u8 (nonce (p+0)) from ((hd 3 _ rfl (aj rfl)).1),show a.eval (Operand.tmp 55)=.int .u8 (nonce (p+1)) from ((hd 7 _ rfl (aj rfl)).1),show a.eval (Operand.tmp 59)=.int .u8 (nonce (p+2)) from ((hd 11 _ rfl (aj rfl)).1),show a.eval (Operand.tmp 63)=.int .u8 (nonce (p+3)) from ((hd 15 _ rfl (aj rfl)).1)];rfl) (by simp) ⟨trivial,fun _=> (NG (f:=fun t=> nonce (p+t))),aF⟩
      ·intro _ a w2 hB hF hd;refine aG <| aI _ _ _ rfl Tryz.call185 _ (args1 rfl) (by simp) ((FZ _ (fun t=> nonce (p+t)) w2 ((hd 16 _ rfl (aj rfl)).2.1 rfl) (fun t ht=> Zg.out (p+t) (by omega))).mono ?_);rintro e w3 ⟨rfl,hb⟩;exact ⟨_,rfl,⟨rfl,aF,aF⟩,hb⟩
      ·intro _ a w2 hB hF hd;exact aG <| dW 223 117 1 _ [.int .u32 (wd4 (fun t=> nonce (p+t)))] rfl Tryz.underlying223 (by kernel_rfl) (by kernel_rfl) rfl (by decide) (by decide) (by intro v hv;simp only [List.mem_cons,List.not_mem_nil,or_false] at hv;rcases hv with rfl<;> rfl) (by simp only [qy,List.map_cons,List.map_nil,show a.eval (Operand.tmp 65)=.int .u32 (wd4 (fun t=> nonce (p+t))) from ((hd 17 _ rfl (aj rfl)).1)];rfl) (by simp) ⟨trivial,aF,fun _=> (nP)⟩
     ·intro a w4 hB hF hS;obtain ⟨x64,abm⟩:∃x,x=a.tmps.getD 64 undef:=⟨_,rfl⟩
      have P64:Rd .u8 w4 x64 4 (fun t=> nonce (p+t)):=by rw [abm];exact (hS 16 _ rfl (by decide)).2.1 rfl
      obtain ⟨x66,abl⟩:∃x,x=a.tmps.getD 66 undef:=⟨_,rfl⟩
      have P66:Rd .u32 w4 x66 1 (fun _=> wd4 (fun t=> nonce (p+t))):=by rw [abl];exact (hS 18 _ rfl (by decide)).2.2 rfl
      have ha:=aK rfl rfl hF [_,_,_,_,_,_,_,_,_,_,_,_,_,_,_,_,x64,_,x66] rfl ⟨(hS 0 _ rfl (by decide)).1,(hS 1 _ rfl (by decide)).1,(hS 2 _ rfl (by decide)).1,(hS 3 _ rfl (by decide)).1,(hS 4 _ rfl (by decide)).1,(hS 5 _ rfl (by decide)).1,(hS 6 _ rfl (by decide)).1,(hS 7 _ rfl (by decide)).1,(hS 8 _ rfl (by decide)).1,(hS 9 _ rfl (by decide)).1,(hS 10 _ rfl (by decide)).1,(hS 11 _ rfl (by decide)).1,(hS 12 _ rfl (by decide)).1,(hS 13 _ rfl (by decide)).1,(hS 14 _ rfl (by decide)).1,(hS 15 _ rfl (by decide)).1,abm.symm,(hS 17 _ rfl (by decide)).1,abl.symm,trivial⟩;simp only [puts,List.take_succ_cons,List.take_zero,Act.put,dS,dU,dV] at ha;subst ha;change tl _ _ _ (_::_:: []) _ _;clear abm abl;clear hS hF;have hb4:=hbel.trans (hB.mono hbel.size);have hO4:=HO.out.below hB;refine jP rfl (gq _ _ 223 rfl (w.heap.size+2) 117 .u32 4 Tryz.underlying223 Tryz.info117 _ (13+j) S hO4 rfl _ 1 _ P66 rfl (Lg (by rw [HSN.out j,Rm nonce HP.out])) (by omega) (by omega) (by have:=hb4.size;have:=hB.size;omega) ?_);intro v' w5 hown hgrow;refine kN rfl _ (.inr rfl) (nY ?_);have hK5:=(hK.kept hB).grown hgrow hne0;have hN5:=(hN.kept hB).grown hgrow hne1;have hb5:=below_grown hb4 hgrow hO4 hb4.size (by omega);clear hK hN hbel hB hgrow;go_wp2;go_roundw
      case rel=> exact ⟨j+1,p+4,by have:=HP.out;omega,by have:=HP.out;omega,by go_num,hown,hK5,hN5,hb5⟩
      case measure=> simp [intOf] <;> omega
    ·obtain rfl:j=3:=by omega
     obtain ⟨W0,hW0⟩:∃W0,W0=wr:=⟨_,rfl⟩
     subst hW0;obtain ⟨g,cc,rfl,aqR,hgl,hc16,hcc,hcell,hfree⟩:=HO.out.form (by decide);have hgw:w.heap.size<=g:=by omega
     have agL:Hid (Own .u32 117 (w.heap.size+2) W0 (.slice (some ⟨g,0,none⟩) 16 cc) 16 S):=HO.out;clear hcell hfree HO hne0 hne1 HP hp;go_wp2_with (at_builtin;refine dh rfl _ _ 223 rfl W0.heap.size 117 .u32 4 Tryz.underlying223 Tryz.info117 _ 0 S (Own.nil _ _ _ _ _) rfl _ 16 S agL.out.rd rfl (fun i _=> by rw [lH]) (by omega) (by omega) (aP _) ?_;intro v' w4 hown hgrow);have hb4:Below W0.heap.size W0 w4:=bU (bA _ _) hgrow (aP _);have Zy:=hbel.trans (hb4.mono hsz);have hR0:=(agL.out.below hb4).rows;rw [lH] at hown;obtain ⟨vu,hvu⟩:∃vu,vu=v':=⟨_,rfl⟩
     subst hvu;have FW:Hid (∀r j i,i<16->0<=sU (pG S r) j i/\sU (pG S r) j i<4294967296):=fun r j=> rU (oI vN.out r) j;have hgB:g<W0.heap.size:=hgl;clear hgrow hb4 hbel hK hN
     go_loopw [11] (fun i wq=> ∃r:Nat,r<=10/\i=.int .i64 r/\Row .u32 wq g cc 16 (pG S r) 117/\Own .u32 117 W0.heap.size wq vu 16 S/\Below w.heap.size w wq) (fun i _=> 10 - (intOf i).toNat)
     case atStart=> exact ⟨0,dR _,rfl,hR0,hown,Zy⟩
     case round=>
      clear hR0 hown Zy;obtain ⟨r,hr,rfl,hR,hU,hbel⟩:=hrel;by_cases hrt:r<10
      ·replace hR:Row .u32 wr g cc 16 (sU (pG S r) 0) 117:=hR;go_wp2_with fail;refine (gF g cc 16 117 (sU (pG S r) 0) 0 4 8 12 (by decide) (by decide) hcc (FW.out r 0) _ hR).mono ?_;rintro e w11 ⟨z1,rfl,Dc,hg1⟩;have hU1:=hU.gr hg1 hgB;have hb1:=jX hbel hg1 hgw hbel.size;replace Dc:Row .u32 w11 g cc 16 (sU (pG S r) 1) 117:=Dc;clear hR hU hbel hg1;go_wp2_with fail;refine (gF g cc 16 117 (sU (pG S r) 1) 1 5 9 13 (by decide) (by decide) hcc (FW.out r 1) _ Dc).mono ?_;rintro e QZ ⟨z2,rfl,hR2,hg2⟩;have hU2:=hU1.gr hg2 hgB;have hb2:=jX hb1 hg2 hgw hb1.size;replace hR2:Row .u32 QZ g cc 16 (sU (pG S r) 2) 117:=hR2;clear Dc hU1 hb1 hg2;go_wp2_with fail;refine (gF g cc 16 117 (sU (pG S r) 2) 2 6 10 14 (by decide) (by decide) hcc (FW.out r 2) _ hR2).mono ?_;rintro e w13 ⟨z3,rfl,Kg,hg3⟩;have hU3:=hU2.gr hg3 hgB;have hb3:=jX hb2 hg3 hgw hb2.size;replace Kg:Row .u32 w13 g cc 16 (sU (pG S r) 3) 117:=Kg;clear hR2 hU2 hb2 hg3;go_wp2_with fail;refine (gF g cc 16 117 (sU (pG S r) 3) 3 7 11 15 (by decide) (by decide) hcc (FW.out r 3) _ Kg).mono ?_;rintro e w14 ⟨z4,rfl,IW,hg4⟩;have hU4:=hU3.gr hg4 hgB;have hb4:=jX hb3 hg4 hgw hb3.size;replace IW:Row .u32 w14 g cc 16 (sU (pG S r) 4) 117:=IW;clear Kg hU3 hb3 hg4;go_wp2_with fail;refine (gF g cc 16 117 (sU (pG S r) 4) 0 5 10 15 (by decide) (by decide) hcc (FW.out r 4) _ IW).mono ?_;rintro e w15 ⟨z5,rfl,hR5,hg5⟩;have hU5:=hU4.gr hg5 hgB;have hb5:=jX hb4 hg5 hgw hb4.size;replace hR5:Row .u32 w15 g cc 16 (sU (pG S r) 5) 117:=hR5;clear IW hU4 hb4 hg5;go_wp2_with fail;refine (gF g cc 16 117 (sU (pG S r) 5) 1 6 11 12 (by decide) (by decide) hcc (FW.out r 5) _ hR5).mono ?_;rintro e w16 ⟨z6,rfl,ZB,II⟩;have hU6:=hU5.gr II hgB;have hb6:=jX hb5 II hgw hb5.size;replace ZB:Row .u32 w16 g cc 16 (sU (pG S r) 6) 117:=ZB;clear hR5 hU5 hb5 II;go_wp2_with fail;refine (gF g cc 16 117 (sU (pG S r) 6) 2 7 8 13 (by decide) (by decide) hcc (FW.out r 6) _ ZB).mono ?_;rintro e w17 ⟨z7,rfl,hR7,Ra⟩;have hU7:=hU6.gr Ra hgB;have xE:=jX hb6 Ra hgw hb6.size;replace hR7:Row .u32 w17 g cc 16 (sU (pG S r) 7) 117:=hR7;clear ZB hU6 hb6 Ra;go_wp2_with fail;refine (gF g cc 16 117 (sU (pG S r) 7) 3 4 9 14 (by decide) (by decide) hcc (FW.out r 7) _ hR7).mono ?_;rintro e w18 ⟨z8,rfl,hR8,Yp⟩;have hU8:=hU7.gr Yp hgB;have ny:=jX xE Yp hgw xE.size;replace hR8:Row .u32 w18 g cc 16 (sU (pG S r) 8) 117:=hR8;clear hR7 hU7 xE Yp;go_wp2;go_roundw
       case rel=> exact ⟨r+1,by omega,by go_num,hR8,hU8,ny⟩
       case measure=> simp [intOf] <;> omega
      ·obtain rfl:r=10:=by omega
       have HR:=ak hR;have HU:=ak hU;obtain ⟨gu,cu,rfl,hgu,ajB,hcu,aqT,Ua,_⟩:=hU.form (by decide);have HUC:=ak Ua;have Wu:=ak hbel;clear hR hU Ua hbel;obtain ⟨W1,hW1⟩:∃W1,W1=wr:=⟨_,rfl⟩
       subst hW1;go_wp2
       go_loopw [12,13] (fun v i wq=> ∃k:Nat,k<=16/\i=.int .i64 k/\Own .u8 5 W1.heap.size wq v (4 * k) (iH key nonce c)/\Below W1.heap.size W1 wq) (fun _ i _=> 16 - (intOf i).toNat)
       case atStart=> exact ⟨0,dR _,rfl,Own.nil _ _ _ _ _,bA _ _⟩
       case round=>
        obtain ⟨k,hk,rfl,ho,hbel⟩:=hrel;have HO:=ak ho;have hsz1:=hbel.size;clear ho;by_cases hkt:k<16
        ·have e1:=(HR.out.kept hbel).cell k hkt;have e2:=(hbel.cell (p:=⟨gu,k,none⟩) ajB).trans (HUC.out k hkt);obtain ⟨b0,b1⟩:=oI vN.out 10 k hkt;obtain ⟨b2,b3⟩:=vN.out k hkt;obtain ⟨x,hx⟩:∃x,x=(pG S 10 k+S k) % 4294967296:=⟨_,rfl⟩
         have hwx:IntKind.u32.wrap (pG S 10 k+S k)=x:=by rw [IntKind.wrap_u32',hx]
         have hxe:(pG S 10 k+S k) % 4294967296=x:=hx.symm;have hxb:0<=x/\x<4294967296:=by omega
         obtain ⟨x0,x1⟩:=hxb;have hx2:x=xM key nonce c k:=by rw [hx,Oo.out];rfl
         have HB0:Hid (x % 256=iH key nonce c (4 * k)):=by unfold Hid;have:=vD key nonce c x k 0 (by decide) hx2;rw [Nat.add_zero] at this;rw [this];simp
         have HB1:Hid (x / 256 % 256=iH key nonce c (4 * k+1)):=by unfold Hid;rw [vD key nonce c x k 1 (by decide) hx2];simp
         have HB2:Hid (x / 65536 % 256=iH key nonce c (4 * k+2)):=by unfold Hid;rw [vD key nonce c x k 2 (by decide) hx2];rfl
         have HB3:Hid (x / 16777216=iH key nonce c (4 * k+3)):=by unfold Hid;rw [vD key nonce c x k 3 (by decide) hx2,show (256:Int) ^ 3=16777216 from rfl];omega
         have hq1:0<=x / 16777216/\x / 16777216<256:=by omega
         obtain ⟨q0,q1⟩:=hq1;clear hx hx2;go_wp2
         go_quiet (fail)
         clear hwx hxe;go_wp2_with (at_builtin;refine bC rfl _ _ 23 rfl W1.heap.size 5 .u8 1 fQ iW _ (4 * k) (iH key nonce c) _ _ rfl (HO.out.drewN _) rfl 4 rfl rfl ?_ (by omega) (by omega) hsz1 ?_;rotate_right;intro v' w5 hown hgrow)
         ·go_roundw
          case rel=>
           (repeat apply Exists.intro)
           refine ⟨?_,rfl⟩;exact ⟨k+1,by omega,by go_num,by rw [show 4 * (k+1)=4 * k+4 by omega];exact hown,below_grown ((below_drewN hbel _).alloc hsz1 _) hgrow HO.out (by simp;omega) (aP _)⟩
          case measure=> simp [intOf] <;> omega
         ·intro i hi;rcases (by omega:i=0\/i=1\/i=2\/i=3) with rfl | rfl | rfl | rfl
          ·rw [Nat.add_zero,←HB0.out];rfl
          ·rw [<-HB1.out];rfl
          ·rw [<-HB2.out];rfl
          ·rw [<-HB3.out];rfl
        ·obtain rfl:k=16:=by omega
         have hbf:=Wu.out.trans (hbel.mono Wu.out.size);go_wp2;go_ret;exact ⟨_,rfl,HO.out.mono (by have:=Wu.out.size;omega),hbf⟩
end Go.Proofs.YtpcjekgfnfjbpaaGreat
