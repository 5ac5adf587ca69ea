/-
  Part 48 of SuiteHides. Conditions: named in each theorem.
-/
import Derived.Test.YtpcjekgfnfjbpaaGreatPkSuiteHides44
import Derived.Test.YtpcjekgfnfjbpaaGreatPkSuiteHides47
set_option linter.unusedVariables false
set_option linter.unusedSimpArgs false
set_option maxRecDepth 100000
set_option maxHeartbeats 6400000
namespace Go.aQ
theorem WR (a b:Int):xo a b=xo b a:=by
 unfold xo bits
 first
  | simp only [BitVec.xor_comm]
  | (simp [BitVec.xor_comm])
end Go.aQ
namespace Go.Proofs.YtpcjekgfnfjbpaaGreat
open Go.RowKit Go.aQ
attribute [local go_sem ↓] Go.wp_at_zero Go.wp_at_succ
theorem Cu (key nonce:Nat->Int) (c:Int) (hk:∀i,i<32->0<=key i/\key i<256) (hn:∀i,i<12->0<=nonce i/\nonce i<256) (hc:0<=c/\c<4294967296)
  (v:Value) (n:Nat) (f:Nat->Int) (w:World) (hv:Rd .u8 w v n f) (h1:n<=1048576) (h2:((n+63) / 64:Nat)<=4294967296 - c):
  Calls Tryz.prog 73 #[.agg (arr .u8 32 key),.agg (arr .u8 12 nonce),.int .u32 c,v] w fun e w'=>
   ∃v,e=.returned v/\Go.aQ.Own .u8 5 w.heap.size w' v n (fT key nonce c f)/\Below w.heap.size w w':=by
 have Wt:=ak (zF key nonce);have HK:=ak hk;have HN:=ak hn;obtain ⟨a1,c1,rfl,l1,m1,z1,hc1⟩:=hv;have sW:=ak hc1;obtain ⟨c0,cc1⟩:=hc;clear hk hn z1 hc1
 go_enter Tryz.func73,Tryz.ntmps73
 go_wp2
 go_loopw [2,9,10] (fun cnt v a wr=> ∃(m p:Nat) (q:Int),p=64 * m/\p<=n+63/\q=(c+m) % 4294967296/\cnt=.int .u32 q/\a=.int .i64 p/\aQ.Own .u8 5 (w.heap.size+2) wr v (min p n) (fT key nonce c f)/\aD .u8 wr w.heap.size 32 key/\aD .u8 wr (w.heap.size+1) 12 nonce/\Below w.heap.size w wr) (fun _ _ a _=> n+63 - (intOf a).toNat)
 case atStart=> exact ⟨0,0,c,rfl,by omega,by omega,rfl,rfl,by rw [Nat.zero_min];exact aQ.Own.nil _ _ _ _ _,aD.alloc (bg rfl rfl) _,bg (by simp) rfl,((bA _ _).alloc (aP _) _).alloc (by simp) _⟩
 case round=>
  obtain ⟨m,p,q,hp,hpn,hq,rfl,rfl,hO,hK,hN,hbel⟩:=hrel;by_cases hlt:p<n
  ·have hqe:q=c+m:=by omega
   have HQ:=ak hqe;have HP:=ak hp;have hq0:0<=q/\q<4294967296:=by omega
   rw [show min p n=p by omega] at hO;have HO:=ak hO;have hs:=hbel.size;clear hq hqe hp hO
   go_wp2_with (first
    | (refine aM rfl 22 _ rfl .u8 w.heap.size 32 _ 5 dB bZ rfl hK ?_)
    | (refine aM rfl 35 _ rfl .u8 (w.heap.size+1) 12 _ 5 tT AL rfl hN ?_))
   refine (Wt.out q HK.out HN.out hq0 _).mono ?_;rintro e w2 ⟨sv,rfl,hsv,hb2⟩;obtain ⟨sg,sc,rfl,g1,g2,g3,g4,ZF,_⟩:=hsv.form (by decide);have HSC:=ak ZF;have hK2:=hK.kept hb2;have Ba:=hN.kept hb2;have hO2:=HO.out.below hb2;have hap:∀b,u9.ownBlock=some b->b≠sg:=fun b hb=> by have:=(World.ownsRow.lt HO.out b hb).2;omega
   have bq:=hbel.trans (hb2.mono hs);have aqK:=Ba.lt;clear hsv ZF hK hN hbel hb2 HO;obtain ⟨q0,q1⟩:=hq0;obtain ⟨W2,hW2⟩:∃W2,W2=w2:=⟨_,rfl⟩
   subst hW2;go_wp2
   go_loopw [9,12] (fun v i wr=> ∃k:Nat,k<=64/\p+k<=n/\i=.int .i64 k/\aQ.Own .u8 5 (w.heap.size+2) wr v (p+k) (fT key nonce c f)/\aD .u8 wr w.heap.size 32 key/\aD .u8 wr (w.heap.size+1) 12 nonce/\Below w.heap.size w wr/\(∀i,i<64->wr.cell? ⟨sg,i,none⟩=some (.int .u8 (iH key nonce q i)))/\(∀b,v.ownBlock=some b->b≠sg)) (fun _ i _=> 64 - (intOf i).toNat)
   case atStart=> exact ⟨0,by decide,by omega,rfl,hO2,hK2,Ba,bq,HSC.out,hap⟩
   case round=>
    clear hO2 hK2 Ba bq hap;obtain ⟨k,hk,hpk,rfl,hO,hK,hN,hbel,hsc,hap⟩:=hrel;have agJ:=ak hsc;have HAP:=ak hap;have HO:=ak hO;have hnl:=hN.lt;clear hsc hap hO;by_cases hkt:k<64/\p+k<n
    ·obtain ⟨hk1,hk2⟩:=hkt;obtain ⟨bb,ob,rfl,bl,ZI⟩:=sW.out (by omega);have e1:=(hbel.cell (p:=⟨bb,ob+(p+k),none⟩) bl).trans (ZI (p+k) hk2);have e2:=agJ.out k hk1;have aeV:sg<wr.heap.size:=World.block_lt_of_cell? _ _ e2;have abZ:bb<wr.heap.size:=tN bl hbel.size;have hw1:IntKind.i64.wrap ((p:Int)+(k:Int))=((p+k:Nat):Int):=by rw [aR (by omega) (by omega)];omega
     have hx:xo (f (p+k)) (iH key nonce q k)=fT key nonce c f (p+k):=by
      rw [WR];unfold fT qH;rw [HQ.out,show (p+k) / 64=m by have:=HP.out;omega,show (p+k) % 64=k by have:=HP.out;omega]
     have HX:=ak hx;have hne0:=HO.out.far (show w.heap.size<w.heap.size+2 by omega);have hne1:=HO.out.far (show w.heap.size+1<w.heap.size+2 by omega);clear ZI hx;obtain ⟨vs,hvs⟩:∃vs,vs=u9:=⟨_,rfl⟩
     subst hvs;go_upto_region 9 with (fail)
     refine gB (n:=52) 13 (by decide) (by kernel_rfl) (by kernel_rfl) (by kernel_rfl) (by kernel_rfl) rfl
      (fun ii vv ww=> (match ii with | 0=> vv=vs | 1=> vv=.slice (some ⟨bb,ob,none⟩) n c1 | 2=> vv=.int .i64 ((p:Int)) | 3 | 8=> vv=.int .i64 ((k:Int)) | 4=> vv=.int .i64 (((p+k:Nat):Int)) | 5=> vv=.pointer (some ⟨bb,ob+(p+k),none⟩) | 6=> vv=.int .u8 (f (p+k)) | 7=> vv=.slice (some ⟨sg,0,none⟩) 64 sc | 9=> vv=.pointer (some ⟨sg,0+k,none⟩) | 10=> vv=.int .u8 (iH key nonce q k) | 11=> vv=.int .u8 (bits .xor .u8 (f (p+k)) (iH key nonce q k)) | _=> True)/\(ii=12->Rd .u8 ww vv 1 (fun _=> bits .xor .u8 (f (p+k)) (iH key nonce q k))))
      (fun i v w w' h hE=> ⟨h.1,fun e=> Rd.below (h.2 e) hE⟩) ?_ ?_
     ·refine dD ?_;refine ⟨?_,?_,?_,?_,?_,?_,?_,?_,?_,?_,?_,?_,?_,(aF),(aF),trivial⟩
      ·intro _ a w2 hB hF hd;exact aG <| bJ rfl ⟨(hF.same 9 rfl),aF⟩
      ·intro _ a w2 hB hF hd;exact aG <| bJ rfl ⟨(hF.same 3 rfl),aF⟩
      ·intro _ a w2 hB hF hd;exact aG <| bJ rfl ⟨(hF.same 10 rfl),aF⟩
      ·intro _ a w2 hB hF hd;exact aG <| bJ rfl ⟨(hF.same 12 rfl),aF⟩
      ·intro _ a w2 hB hF hd;exact aG <| aO (Go.aQ.bI rfl ((hd 2 _ rfl (aj rfl)).1) ((hd 3 _ rfl (aj rfl)).1)) ⟨(congrArg (Value.int .i64) (hw1)),aF⟩
      ·intro _ a w2 hB hF hd;exact aG <| aO (bD rfl ((hd 1 _ rfl (aj rfl)).1) ((hd 4 _ rfl (aj rfl)).1) fQ (by kernel_rfl) (by omega) (by omega)) ⟨rfl,aF⟩
      ·intro _ a w2 hB hF hd;exact aG <| aO (aJ rfl ((hd 5 _ rfl (aj rfl)).1) FD ((hB.cell (p:=⟨bb,ob+(p+k),none⟩) abZ).trans e1)) ⟨rfl,aF⟩
      ·intro _ a w2 hB hF hd;exact aG <| bJ rfl ⟨(hF.same 11 rfl),aF⟩
      ·intro _ a w2 hB hF hd;exact aG <| bJ rfl ⟨(hF.same 12 rfl),aF⟩
      ·intro _ a w2 hB hF hd;exact aG <| aO (bD rfl ((hd 7 _ rfl (aj rfl)).1) ((hd 8 _ rfl (aj rfl)).1) fQ (by kernel_rfl) (by omega) (by omega)) ⟨rfl,aF⟩
      ·intro _ a w2 hB hF hd;exact aG <| aO (aJ rfl ((hd 9 _ rfl (aj rfl)).1) FD ((hB.cell (p:=⟨sg,0+k,none⟩) aeV).trans (by rw [lH];exact e2))) ⟨rfl,aF⟩
      ·intro _ a w2 hB hF hd;exact aG <| aO (Go.aQ.gy rfl ((hd 6 _ rfl (aj rfl)).1) ((hd 10 _ rfl (aj rfl)).1)) ⟨rfl,aF⟩
      ·intro _ a w2 hB hF hd;exact aG <| dW 23 5 1 _ [.int .u8 (bits .xor .u8 (f (p+k)) (iH key nonce q k))] rfl fQ (by kernel_rfl) (by kernel_rfl) rfl (by decide) (by decide) (by intro v hv;simp only [List.mem_cons,List.not_mem_nil,or_false] at hv;rcases hv with rfl<;> rfl) (by simp only [qy,List.map_cons,List.map_nil,show a.eval (Operand.tmp 46)=.int .u8 (bits .xor .u8 (f (p+k)) (iH key nonce q k)) from ((hd 11 _ rfl (aj rfl)).1)];rfl) (by simp) ⟨trivial,fun _=> (nP)⟩
     ·intro a w5 hB hF hS;obtain ⟨x47,abr⟩:∃x,x=a.tmps.getD 47 undef:=⟨_,rfl⟩
      have P47:Rd .u8 w5 x47 1 (fun _=> bits .xor .u8 (f (p+k)) (iH key nonce q k)):=by rw [abr];exact (hS 12 _ rfl (by decide)).2 rfl
      have ha:=aK rfl rfl hF [_,_,_,_,_,_,_,_,_,_,_,_,x47] rfl ⟨(hS 0 _ rfl (by decide)).1,(hS 1 _ rfl (by decide)).1,(hS 2 _ rfl (by decide)).1,(hS 3 _ rfl (by decide)).1,(hS 4 _ rfl (by decide)).1,(hS 5 _ rfl (by decide)).1,(hS 6 _ rfl (by decide)).1,(hS 7 _ rfl (by decide)).1,(hS 8 _ rfl (by decide)).1,(hS 9 _ rfl (by decide)).1,(hS 10 _ rfl (by decide)).1,(hS 11 _ rfl (by decide)).1,abr.symm,trivial⟩;simp only [puts,List.take_succ_cons,List.take_zero,Act.put,dS,dU,dV] at ha;subst ha;change tl _ _ _ (_::_:: []) _ _;clear abr;clear hS hF;have dA:=hbel.trans (hB.mono hbel.size);have NT:=HO.out.below hB;have hs5:=hB.size;refine jP rfl (Bg _ _ 23 rfl (w.heap.size+2) 5 .u8 1 fQ iW _ (p+k) (fT key nonce c f) NT rfl _ 1 _ P47 rfl (Nu (by rw [<-HX.out];rfl)) (by omega) (by omega) (by omega) ?_);intro v' w6 hown hgrow hpl;refine kN rfl _ (.inr rfl) (nY ?_);have hK6:=(hK.kept hB).grown hgrow hne0;have hN6:=(hN.kept hB).grown hgrow hne1;have hb6:=below_grown dA hgrow NT dA.size (by omega)
      have ajl:∀i,i<64->w6.cell? ⟨sg,i,none⟩=some (.int .u8 (iH key nonce q i)):=fun i hi=>
       (World.cell?_of_block (hgrow.block sg (by omega) (fun e=> HAP.out sg e.symm rfl))).trans ((hB.cell (p:=⟨sg,i,none⟩) aeV).trans (agJ.out i hi))
      have ajL:∀b,v'.ownBlock=some b->b≠sg:=fun b hb=> by
       rcases hpl with h | h
       ·exact HAP.out b (by rw [<-h];exact hb)
       ·have:=h b hb;omega
      clear hK hN hbel hB hgrow hpl e1 e2;go_wp2;go_roundw
      case rel=> exact ⟨k+1,by omega,by omega,by go_num,hown,hK6,hN6,hb6,ajl,ajL⟩
      case measure=> simp [intOf] <;> omega
    ·have hdone:min (p+64) n=p+k:=by omega
     have hfin:aQ.Own .u8 5 (w.heap.size+2) wr u9 (min (p+64) n) (fT key nonce c f):=by rw [hdone];exact HO.out
     have HF:=ak hfin;have hc3:(k:Int)<64->¬ ((p:Int)+k<n):=by omega
     have HQ':Hid ((q+1) % 4294967296=(c+((m+1:Nat):Int)) % 4294967296):=by unfold Hid;rw [HQ.out];congr 1;omega
     have HP':Hid (p+64=64 * (m+1)):=by unfold Hid;have:=HP.out;omega
     clear hfin;rcases (by omega:k=64\/(k<64/\p+k=n)) with rfl | ⟨hk1,hk2⟩
     ·clear hkt hc3;go_wp2;go_roundw
      case rel=> exact ⟨m+1,p+64,_,HP'.out,by omega,HQ'.out,rfl,by go_num,HF.out,hK,hN,hbel⟩
      case measure=> simp [intOf] <;> omega
     ·clear hkt hc3;subst hk2;go_wp2;go_roundw
      case rel=> exact ⟨m+1,p+64,_,HP'.out,by omega,HQ'.out,rfl,by go_num,HF.out,hK,hN,hbel⟩
      case measure=> simp [intOf] <;> omega
  ·rw [show min p n=n by omega] at hO;have HO:=ak hO;clear hO;go_wp2;go_ret;exact ⟨_,rfl,HO.out.mono (by omega),hbel⟩
theorem Pe (key nonce:Nat->Int) (c:Int) (hk:∀i,i<32->0<=key i/\key i<256) (hn:∀i,i<12->0<=nonce i/\nonce i<256) (hc:0<=c/\c<4294967296)
  (v:Value) (n:Nat) (f:Nat->Int) (w:World) (hv:Rd .u8 w v n f) (h1:n<=1048576) (h2:((n+63) / 64:Nat)<=4294967296 - c):
  Calls Tryz.prog 73 #[.agg (arr .u8 32 key),.agg (arr .u8 12 nonce),.int .u32 c,v] w fun e w'=>
   ∃v,e=.returned v/\Rd .u8 w' v n (fT key nonce c f)/\Below w.heap.size w w':=
 (Cu key nonce c hk hn hc v n f w hv h1 h2).mono fun _ _ ⟨v,h1,h2,h3⟩=> ⟨v,h1,h2.rd,h3⟩
end Go.Proofs.YtpcjekgfnfjbpaaGreat
