/- Part 37 of SuiteBytes; conditions: in each theorem. -/
import Derived.Test.YtpcjekgfnfjbpaaGreatPkSuiteBytes30
import Derived.Test.YtpcjekgfnfjbpaaGreatPkSuiteBytes36
import Derived.OpenShut
set_option linter.unusedVariables false
set_option linter.unusedSimpArgs false
set_option maxRecDepth 100000
set_option maxHeartbeats 25600000
namespace Go.bC
open Go.RowKit
theorem xC (S:Int):∀i,i<32->upd (upd (dg 256 S) 0 (dg 256 S 0 / 8 * 8)) 31 (dg 256 S 31 % 64+64) i=dg 256 (gV S) i:=by
 have key:∀i:Fin 32,upd (upd (dg 256 S) 0 (dg 256 S 0 / 8 * 8)) 31 (dg 256 S 31 % 64+64) i.val=dg 256 (gV S) i.val:=by
  intro ⟨i,hi⟩;have e:∀j,dg 256 (gV S) j=(S % 2 ^ 254 / 8 * 8+2 ^ 254) / 256 ^ j % 256:=fun _=>rfl;have e':∀j,dg 256 S j=S / 256 ^ j % 256:=fun _=>rfl;rcases i with _ | _ | _ | _ | _ | _ | _ | _ | _ | _ | _ | _ | _ | _ | _ | _ | _ | _ | _ | _ | _ | _ | _ | _ | _ | _ | _ | _ | _ | _ | _ | _ | i
  all_goals first
   | omega
   | (simp only[upd,e,e'];simp;omega)
 exact fun i h=>key ⟨i,h⟩
theorem Gq {P:Program} {fn:Func} {p q p2 q2:Tmp} {T:TypeId} (h:fn.results=#[.cell p T,.cell q T,.cell p2 T,.cell q2 T]) (tmps:Array Value) (w:World) (k:IntKind) (n:Nat) {d:TypeDesc} (hu:P.underlying T=some d) (hd:Cr d=true) (hi:(P.info? T).map (·.size)=some n)
  (b1 b2 b3 b4:Nat) (f1 f2 f3 f4:Nat->Int) (hp:tmps.getD p undef=.pointer (some ⟨b1,0,none⟩)) (ha:aQ k w b1 n f1) (hp2:tmps.getD q undef=.pointer (some ⟨b2,0,none⟩)) (ha2:aQ k w b2 n f2)
  (hp3:tmps.getD p2 undef=.pointer (some ⟨b3,0,none⟩)) (ha3:aQ k w b3 n f3) (hp4:tmps.getD q2 undef=.pointer (some ⟨b4,0,none⟩)) (ha4:aQ k w b4 n f4):
  (results fn tmps).run P w=.ok (.tuple #[.agg (arr k n f1),.agg (arr k n f2),.agg (arr k n f3),.agg (arr k n f4)]) w:=by
 obtain⟨t,ht⟩:=ha;obtain⟨t2,ht2⟩:=ha2;obtain⟨t3,ht3⟩:=ha3;obtain⟨t4,ht4⟩:=ha4;have e1:tmps[p]?.getD undef=.pointer (some ⟨b1,0,none⟩):=by simpa using hp
 have e2:tmps[q]?.getD undef=.pointer (some ⟨b2,0,none⟩):=by simpa using hp2
 have e3:tmps[p2]?.getD undef=.pointer (some ⟨b3,0,none⟩):=by simpa using hp3
 have e4:tmps[q2]?.getD undef=.pointer (some ⟨b4,0,none⟩):=by simpa using hp4
 have key:∀(b t:Nat) (f:Nat->Int),w.heap[b]? =some (.cells (arr k n f) t (0,0))->(loadVar T ⟨b,0,none⟩).run P w=.ok (.agg (arr k n f)) w:=fun b t f hb=>run_loadVar_row w b t T (arr k n f) (0,0) _ hb hu (by cases d<;> first | rfl | cases hd) (by rw[hi,gW]);simp[results,h,e1,e2,e3,e4,asAddr,key _ _ _ ht,key _ _ _ ht2,key _ _ _ ht3,key _ _ _ ht4]
theorem Pe (x:Int) (h0:0<=x) (h1:x<256):bits .and .u8 x 248=x / 8 * 8:=by
 obtain⟨n,rfl⟩:=IL h0;have key:∀n:Fin 256,bits .and .u8 ((n.val:Nat):Int) 248=(n.val:Int) / 8 * 8:=by decide+kernel
 exact key ⟨n,by omega⟩
theorem Pf (x:Int) (h0:0<=x) (h1:x<256):bits .and .u8 x 127=x % 128:=by
 obtain⟨n,rfl⟩:=IL h0;have key:∀n:Fin 256,bits .and .u8 ((n.val:Nat):Int) 127=(n.val:Int) % 128:=by decide+kernel
 exact key ⟨n,by omega⟩
theorem aal (x:Int) (h0:0<=x) (h1:x<128):bits .or .u8 x 64=x % 64+64:=by
 obtain⟨n,rfl⟩:=IL h0;have key:∀n:Fin 128,bits .or .u8 ((n.val:Nat):Int) 64=(n.val:Int) % 64+64:=by decide+kernel
 exact key ⟨n,by omega⟩
theorem Jv {P:Program} {w:World} {a:Act} {o:Oper} {x y:Operand} {t1 t2:TypeId} {k:IntKind} {m:Int} (ho:o.op=.call { callee:=.builtin .max,args:=#[x,y],argTypes:=#[t1,t2] }) (hx:a.eval x=.int k m) (hy:a.eval y=.int k 0) (hm:0<=m):
  (execOp a.eval o).run P w=.ok (.value (.int k m)) w:=by
 unfold execOp;simp only[ho,resolve,invoke,builtin,uD,xI,vG,zw,List.map_cons,List.map_nil,hx,hy];simp[go_sem,Builtin.max_,Builtin.max2];omega
def bD (p:Bool) (f g:Nat->Int):Nat->Int:=if p then g else f
theorem Ae {p:Bool} {f g:Nat->Int} {X Y:Int} (hf:Fe f X) (hg:Fe g Y):Fe (bD p f g) (if p then Y else X):=by cases p<;> assumption
end Go.bC
namespace Go.Proofs.YtpcjekgfnfjbpaaGreat
open Go.RowKit Go.bC Go.ChangeShapes
attribute [local go_sem ↓] Go.wp_at_zero Go.wp_at_succ
theorem wu {w w':World} {e:Ending} {X:Int} {b:Nat} (h:∃v,e=.returned v/\Own .i64 3 b w' v 16 (dg 65536 X)/\Below w.heap.size w w'):∃v,e=.returned v/\Rd .i64 w' v 16 (dg 65536 X)/\Below w.heap.size w w':=by
 obtain⟨v,h1,h2,h3⟩:=h;exact⟨v,h1,h2.rd,h3⟩
theorem adu (X:Int) (w:World):Calls Tryz.prog 122 #[.agg (arr .u8 32 (dg 256 X))] w fun e w'=> ∃v,e=.returned v/\Rd .i64 w' v 16 (dg 65536 (X % 2 ^ 255 % Pr))/\Below w.heap.size w w':=(Zh X w).mono fun _ _ h=>wu h
theorem ug (n:Int) (h0:0<=n) (h1:n<65536) (w:World):Calls Tryz.prog 123 #[.int .i64 n] w fun e w'=> ∃v,e=.returned v/\Rd .i64 w' v 16 (dg 65536 n)/\Below w.heap.size w w':=(AX n h0 h1 w).mono fun _ _ h=>wu h
theorem jB (A B:Int) (va vb:Value) (w:World) (ha:Rd .i64 w va 16 (dg 65536 (A % Pr))) (hb:Rd .i64 w vb 16 (dg 65536 (B % Pr))):Calls Tryz.prog 124 #[va,vb] w fun e w'=> ∃v,e=.returned v/\Rd .i64 w' v 16 (dg 65536 ((A+B) % Pr))/\Below w.heap.size w w':=by
 have h:=(VL va vb (A % Pr) (B % Pr) (GJ A) (GJ B) w ha hb).mono fun _ _ h=>wu h
 rwa [<-Int.add_emod] at h
theorem jA (A B:Int) (va vb:Value) (w:World) (ha:Rd .i64 w va 16 (dg 65536 (A % Pr))) (hb:Rd .i64 w vb 16 (dg 65536 (B % Pr))):Calls Tryz.prog 125 #[va,vb] w fun e w'=> ∃v,e=.returned v/\Rd .i64 w' v 16 (dg 65536 ((A - B) % Pr))/\Below w.heap.size w w':=by
 have h:=(VJ va vb (A % Pr) (B % Pr) (Bw A) (Bw B) w ha hb).mono fun _ _ h=>wu h
 rwa [<-Int.sub_emod] at h
theorem dF (A B:Int) (va vb:Value) (w:World) (ha:Rd .i64 w va 16 (dg 65536 (A % Pr))) (hb:Rd .i64 w vb 16 (dg 65536 (B % Pr))):Calls Tryz.prog 126 #[va,vb] w fun e w'=> ∃v,e=.returned v/\Rd .i64 w' v 16 (dg 65536 (A * B % Pr))/\Below w.heap.size w w':=by
 have h:=(VK va vb (A % Pr) (B % Pr) (GJ A) (GJ B) w ha hb).mono fun _ _ h=>wu h
 rwa [<-Int.mul_emod] at h
theorem Ib (X:Int):Fe (dg 65536 (X % 2 ^ 255)) (X % 2 ^ 255):=Fe.dg (GK X).1 (GK X).2 rfl
end Go.Proofs.YtpcjekgfnfjbpaaGreat
namespace Go.Proofs.YtpcjekgfnfjbpaaGreat
open Go.RowKit Go.bC
attribute [local go_sem ↓] Go.wp_at_zero Go.wp_at_succ
theorem TN (f:Nat->Int) (N:Int) (m:Nat) (h:m<256):IG f N (256 - m)=if N / 2 ^ m % 2=1 then aU (aU (IG f N (256 - (m+1))) (IG f N (256 - (m+1)))) f else aU (IG f N (256 - (m+1))) (IG f N (256 - (m+1))):=by
 obtain⟨k,hk⟩:∃k,256 - m=k+1:=⟨255 - m,by omega⟩
 rw[hk,show 256 - (m+1)=k by omega];show (if N / 2 ^ (255 - k) % 2=1 then _ else _)= _;rw[show 255 - k=m by omega]
theorem mH (f:Nat->Int) (X N:Int) (hf:Fe f X) (h0:0<=N) (h1:N<2 ^ 256) (w:World):
  Calls Tryz.prog 247 #[El f,.agg (arr .u8 32 (dg 256 N))] w fun e w'=>e=.returned (El (Gx f N))/\Below w.heap.size w w':=by
 have HF:=ak hf;have H0:=ak h0;have H1:=ak h1;clear hf h0 h1;unfold El
 go_enter Tryz.func247,Tryz.ntmps247
 go_wp2_with fail;refine(eO 1 _).mono ?_;rintro e w1 ⟨rfl,eP⟩;have mU:aQ .i64 w1 w.heap.size 16 f:=aQ.kept (aQ.alloc (aQ.alloc (bU (by first | omega | (simp<;> omega)) (by rfl)) _) _) eP;have hB1:aQ .u8 w1 (w.heap.size+1) 32 (dg 256 N):=aQ.kept (aQ.alloc (bU (by first | omega | (simp<;> omega)) (by rfl)) _) eP;have hZ1:aQ .i64 w1 (w.heap.size+2) 16 (fun _=>0):=aQ.kept (bU (by first | omega | (simp<;> omega)) (by rfl)) eP;have mY:Below w.heap.size w w1:=((((bT _ _).alloc (bB _) _).alloc aR _).alloc (by simp;omega) _).trans (eP.mono (by simp;omega));have l1:=hZ1.lt;clear eP;go_upto_region 2 with(refine aM rfl 191 _ _ rfl .i64 w1.heap.size 16 (fun _=>0) _ bQ rfl rfl (bU rfl rfl) ?_)
 refine aJ (fun w2=>aQ .i64 w2 w.heap.size 16 f/\aQ .u8 w2 (w.heap.size+1) 32 (dg 256 N)/\aQ .i64 w2 (w.heap.size+2) 16 (fun _=>0)/\aQ .i64 w2 w1.heap.size 16 (IG f N (256 - 256))/\Below w.heap.size w w2)
  ⟨aQ.aG (aQ.alloc mU _) _ aH _,aQ.aG (aQ.alloc hB1 _) _ aH _,aQ.aG (aQ.alloc hZ1 _) _ aH _,aQ.setRow (bU (n:=16) (f:=fun _=>0) rfl rfl) _ _,aC (mY.alloc mY.size _) mY.size _⟩ ?_
 rintro w2 ⟨hA,hB,hZ,hO,aA⟩;obtain⟨b,hb⟩:∃b,b=w1.heap.size:=⟨_,rfl⟩
 rw[<-hb] at hO l1 ⊢;clear hb mU hB1 hZ1 mY;go_wp2
 go_loopw [6] (fun i wr=> ∃k:Nat,k<=256/\i=.int .i64 ((k:Int) - 1)/\aQ .i64 wr w.heap.size 16 f/\aQ .u8 wr (w.heap.size+1) 32 (dg 256 N)/\aQ .i64 wr (w.heap.size+2) 16 (fun _=>0)/\aQ .i64 wr b 16 (IG f N (256 - k))/\Below w.heap.size w wr) (fun i _=>(intOf i+1).toNat)
 case atStart=>exact⟨256,bB _,rfl,hA,hB,hZ,hO,aA⟩
 case round=>
  clear hA hB hZ hO aA;obtain⟨k,hk,rfl,hA,hB,hZ,hO,aA⟩:=hrel;obtain _ | m:=k
  ·go_wp2_with (first
    | (refine bN rfl 191 _ rfl .i64 b 16 _ cZ rfl bQ rfl hO ?_)
    | (refine aM rfl 191 _ _ rfl .i64 (w.heap.size+2) 16 (fun _=>0) _ bQ rfl rfl hZ ?_))
   exact bodyPost_ret (dG rfl _ _ .i64 (w.heap.size+2) 16 _ rfl (hZ.setRow _ _) cZ rfl bQ) rfl ⟨rfl,aC aA aH _⟩
  ·have hkm:((m+1:Nat):Int) - 1=(m:Int):=by omega
   rw[hkm];have HP:=ak (HF.out.IG H0.out H1.out (256 - (m+1)) aH);have HST:=ak (TN f N m aH);obtain⟨g,hg⟩:∃g,g=IG f N (256 - (m+1)):=⟨_,rfl⟩
   rw[<-hg] at HP HST hO;clear hkm hg;go_wp2_with (refine bN rfl 191 _ rfl .i64 b 16 _ cZ rfl bQ rfl hO ?_);refine(bV g g _ _ HP.out HP.out _).mono ?_;rintro e w3 ⟨rfl,fP⟩;have hA3:=hA.kept fP;have hB3:=hB.kept fP;have jy:=hZ.kept fP;have hO3:=hO.kept fP;have gU:=aA.trans (fP.mono aA.size);clear hA hB hZ hO aA fP;go_upto_region 6 with(refine aM rfl 191 _ _ rfl .i64 b 16 _ _ bQ rfl rfl hO3 ?_)
   refine aJ (fun w4=>aQ .i64 w4 w.heap.size 16 f/\aQ .u8 w4 (w.heap.size+1) 32 (dg 256 N)/\aQ .i64 w4 (w.heap.size+2) 16 (fun _=>0)/\aQ .i64 w4 b 16 (aU g g)/\Below w.heap.size w w4)
    ⟨aQ.aG hA3 _ aH _,aQ.aG hB3 _ aH _,aQ.aG jy _ aH _,aQ.setRow hO3 _ _,aC gU aH _⟩ ?_
   rintro w4 ⟨hA,hB',hZ,hO,aA⟩;clear hA3 hB3 jy hO3 gU;have Xw:m % 8<8:=Nat.mod_lt _ aN;have hq:IntKind.i64.wrap (Int.tdiv (m:Int) 8)=((m / 8:Nat):Int):=by rw[Pg aH,bI] <;> omega
   have hr:Int.tmod (m:Int) 8=((m % 8:Nat):Int):=by rw[Int.tmod_eq_emod_of_nonneg aH];omega
   have hc:IntKind.u64.wrap ((m % 8:Nat):Int)=((m % 8:Nat):Int):=iY aH aH;obtain⟨d0,d1⟩:=aV (by decide:(0:Int)<256) N (m / 8);have hsh:=xD (x:=dg 256 N (m / 8)) (m % 8) Xw;have hand:bits .and .u8 (dg 256 N (m / 8) / 2 ^ (m % 8)) 1=N / 2 ^ m % 2:=by
    rw[tN (Int.ediv_nonneg d0 (vF (eG aN _))) (Int.lt_of_le_of_lt (Int.ediv_le_self _ d0) d1),vC N m]
   have hpl:((m / 8:Nat):Int).toNat=m / 8:=Ct _;have MP:m / 8<32:=by omega
   have hce:=hB'.cell (m / 8) MP;have hBl:=hB'.lt
   refine aX (n:=29) aS aS aS rfl
    (fun ii vv _=>(match ii with | 0 | 4=>vv=.int .i64 ((m:Int)) | 1=>vv=.int .i64 ((m / 8:Nat)) | 2=>vv=.pointer (some ⟨(w.heap.size+1),(m / 8),none⟩) | 3=>vv=.int .u8 (dg 256 N (m / 8)) | 5=>vv=.int .i64 ((m % 8:Nat)) | 6=>vv=.int .u64 ((m % 8:Nat)) | 7=>vv=.int .u8 (dg 256 N (m / 8) / 2 ^ (m % 8)) | 8=>vv=.int .u8 (N / 2 ^ m % 2) | 9=>vv=.bool ((N / 2 ^ m % 2)==(1)) | _=>True))
    (fun w w'=>Below w.heap.size w w') (fun _ _ h=>h) (fun _ _ _ _ h _=>h) ?_ ?_
   ·refine cB ?_;refine⟨?_,?_,?_,?_,?_,?_,?_,?_,?_,?_,trivial⟩
    ·intro a w2 hB hF hd;exact aO <| aB _ (.inl rfl) aR (hF.same 6 rfl)
    ·intro a w2 hB hF hd;exact aO <| aT (Go.bC.qJ rfl (hd 0 _ rfl (aj rfl)) rfl aN) (congrArg (Value.int .i64) (hq))
    ·intro a w2 hB hF hd;exact aO <| aT (bH rfl (hF.same 3 rfl) (hd 1 _ rfl (aj rfl)) dY aS aH aH) (congrArg (fun z=>Value.pointer (some ⟨w.heap.size+1,z,none⟩)) hpl)
    ·intro a w2 hB hF hd;exact aO <| aT (aY rfl (hd 2 _ rfl (aj rfl)) Tryz.underlying5 ((hB.cell (p:=⟨w.heap.size+1,m / 8,none⟩) hBl).trans hce)) rfl
    ·intro a w2 hB hF hd;exact aO <| aB _ (.inl rfl) aR (hF.same 6 rfl)
    ·intro a w2 hB hF hd;exact aO <| aT (Go.bC.vZ rfl (hd 4 _ rfl (aj rfl)) rfl aN) (congrArg (Value.int .i64) (hr))
    ·intro a w2 hB hF hd;exact aO <| aT (kU rfl (hd 5 _ rfl (aj rfl)) Tryz.underlying3 Tryz.underlying212) (congrArg (Value.int .u64) (hc))
    ·intro a w2 hB hF hd;exact aO <| aT (Go.bC.qI rfl (hd 3 _ rfl (aj rfl)) (hd 6 _ rfl (aj rfl)) aH) (congrArg (Value.int .u8) (hsh))
    ·intro a w2 hB hF hd;exact aO <| aT (Go.bC.iQ rfl (hd 7 _ rfl (aj rfl)) rfl) (congrArg (Value.int .u8) (hand))
    ·intro a w2 hB hF hd;refine aO <| aT (Go.bC.iF rfl (hd 8 _ rfl (aj rfl)) rfl) ?_;exact rfl
   ·intro a w5 hB hF hS;have ha:=aP rfl rfl hF [_,_,_,_,_,_,_,_,_,_] rfl ⟨hS 0 _ rfl,hS 1 _ rfl,hS 2 _ rfl,hS 3 _ rfl,hS 4 _ rfl,hS 5 _ rfl,hS 6 _ rfl,hS 7 _ rfl,hS 8 _ rfl,hS 9 _ rfl,trivial⟩;simp only[puts,Act.put,dK,dL,dM] at ha;subst ha;clear hS hF;have CK:=hA.below hB hA.lt;have QU:=hB'.below hB hB'.lt;have rW:=hZ.below hB hZ.lt;have Vt:=hO.below hB hO.lt;have iG:=aA.trans (hB.mono aA.size);clear hA hB' hZ hO aA hB hq hr hc hsh hand hce hpl;by_cases hbit:N / 2 ^ m % 2=1
    ·have hbb:(N / 2 ^ m % 2==1)=true:=by rw[hbit];rfl
     rw[if_pos hbit] at HST;clear hbit
     go_wp2_with (first
      | (refine bN rfl 191 (.tmp 5) rfl .i64 b 16 _ cZ rfl bQ rfl Vt ?_)
      | (refine bN rfl 191 (.tmp 2) rfl .i64 w.heap.size 16 _ cZ rfl bQ rfl CK ?_))
     refine(bV (aU g g) f _ _ (HP.out.aU HP.out) HF.out _).mono ?_;rintro e w6 ⟨rfl,kg⟩;have Lg:=CK.kept kg;have Sg:=QU.kept kg;have sW:=rW.kept kg;have hO6:=Vt.kept kg;have iw:=iG.trans (kg.mono iG.size);clear CK QU rW Vt iG kg;go_wp2_with (refine aM rfl 191 _ _ rfl .i64 b 16 _ _ bQ rfl rfl hO6 ?_);go_roundw
     case rel=>exact⟨m,by omega,by go_num,aQ.aG Lg _ aH _,aQ.aG Sg _ aH _,aQ.aG sW _ aH _,by rw[HST.out];exact aQ.setRow hO6 _ _,aC iw aH _⟩
     case measure=>simp[intOf] <;> omega
    ·have hbb:(N / 2 ^ m % 2==1)=false:=by simpa using hbit
     rw[if_neg hbit] at HST;clear hbit;go_wp2;go_roundw
     case rel=>exact⟨m,by omega,by go_num,CK,QU,rW,by rw[HST.out];exact Vt,iG⟩
     case measure=>simp[intOf] <;> omega
theorem qU (l:Int) (s:Nat) (h0:1<=l) (h1:l<=255) (hs:s<=8) (w:World):
  Calls Tryz.prog 248 #[.int .u8 l,.int .u64 s] w fun e w'=>e=.returned (.agg (arr .u8 32 (dg 256 ((2 ^ 255 - l) / 2 ^ s))))/\Below w.heap.size w w':=by
 have HD:=ak (MB h0 h1);obtain⟨M,hM⟩:∃M:Int,M=2 ^ 255 - l:=⟨_,rfl⟩
 have hMb:0<=M/\M<256 ^ 32:=by(rw[hM];have e:(256:Int) ^ 32=2 * 2 ^ 255:=by decide);(rw[e];have:(255:Int)<2 ^ 255:=by decide);omega
 rw[<-hM] at HD ⊢;have HMB:=ak hMb;have hneg:IntKind.u8.wrap (-l)=256 - l:=by rw[IntKind.wrap_u8];omega
 have HN:=ak hneg;clear hM hMb hneg
 go_enter Tryz.func248,Tryz.ntmps248
 go_wp2
 go_loopw [8] (fun i wr=> ∃k:Nat,k<=32/\i=.int .i64 k/\aQ .u8 wr w.heap.size 32 (fun _=>0)/\aQ .u8 wr (w.heap.size+1) 32 (upto k (fun _=>255) (fun _=>0))/\Below w.heap.size w wr) (fun i _=>32 - (intOf i).toNat)
 case atStart=>exact⟨0,gX _,rfl,aQ.alloc (bU (by first | omega | (simp<;> omega)) (by rfl)) _,by rw[dH];exact bU (by first | omega | (simp<;> omega)) (by rfl),((bT _ _).alloc (bB _) _).alloc aR _⟩
 case round=>
  obtain⟨k,hk,rfl,hZ,hA,aA⟩:=hrel;by_cases hlt:k<32
  ·have e1:=hA.cell k hlt;have f1:=hA.free k;have HA:=ak hA;have HZ:=ak hZ;clear hA hZ;go_wp2;go_roundw
   case rel=>exact⟨k+1,by omega,by go_num,HZ.out.other (by first | omega | (simp<;> omega)) _,by rw[<-bW rfl];exact HA.out.set k _,aA.setCell (by first | omega | (simp<;> omega)) _⟩
   case measure=>simp[intOf] <;> omega
  ·obtain rfl:k=32:=by omega
   have iK:=hA.congr (dQ _ _ (bB _));have e0:=iK.cell 0 aN;have e31:=iK.cell 31 aN;have f0:=iK.free 0;have f31:=iK.free 31;have HA:=ak iK;have HZ:=ak hZ;have HB:=ak aA;clear hA iK hZ aA;have hneg:=HN.out;go_upto_region 8 with(fail)
   refine aJ (fun w1=>aQ .u8 w1 w.heap.size 32 (fun _=>0)/\aQ .u8 w1 (w.heap.size+1) 32 (dg 256 M)/\Below w.heap.size w w1)
    ⟨(HZ.out.other (by first | omega | (simp<;> omega)) _).other (by first | omega | (simp<;> omega)) _,((HA.out.set 0 (256 - l)).set 31 127).congr HD.out,(HB.out.setCell (by first | omega | (simp<;> omega)) _).setCell (by first | omega | (simp<;> omega)) _⟩ ?_
   rintro w1 ⟨hZ,hA,aA⟩;clear e0 e31 f0 f31 HA HZ HB hneg;go_wp2
   go_loopw [19] (fun i wr=> ∃j:Nat,j<=s/\i=.int .u64 j/\aQ .u8 wr w.heap.size 32 (fun _=>0)/\aQ .u8 wr (w.heap.size+1) 32 (dg 256 (M / 2 ^ j))/\Below w.heap.size w wr) (fun i _=>s - (intOf i).toNat)
   case atStart=>exact⟨0,gX _,rfl,hZ,by rw[Int.pow_zero,Int.ediv_one];exact hA,aA⟩
   case round=>
    clear hZ hA aA;obtain⟨j,hj,rfl,hZ,hA,aA⟩:=hrel;by_cases hlt2:j<s
    ·obtain⟨Y,hY⟩:∃Y,Y=M / 2 ^ j:=⟨_,rfl⟩
     have hY2:M / 2 ^ (j+1)=Y / 2:=by rw[hY,dJ aN]
     have hYb:0<=Y/\Y<256 ^ 32:=by rw[hY];exact⟨Int.ediv_nonneg HMB.out.1 (vF (eG aN _)),Int.lt_of_le_of_lt (Int.ediv_le_self _ HMB.out.1) HMB.out.2⟩
     rw[<-hY] at hA;have HY2:=ak hY2;have Lh:=ak hYb;have HZ:=ak hZ;have HA:=ak hA;have HB:=ak aA;clear hY hY2 hYb hZ hA aA;go_wp2
     go_loopw [21] (fun i wr=> ∃k:Nat,k<=32/\i=.int .i64 k/\aQ .u8 wr w.heap.size 32 (fun _=>0)/\aQ .u8 wr (w.heap.size+1) 32 (upto k (dg 256 (Y / 2)) (dg 256 Y))/\Below w.heap.size w wr) (fun i _=>32 - (intOf i).toNat)
     case atStart=>exact⟨0,gX _,rfl,HZ.out,by rw[dH];exact HA.out,HB.out⟩
     case round=>
      clear HZ HA HB;obtain⟨k,hk,rfl,hZ,hA,aA⟩:=hrel;by_cases hlt3:k<32
      ·have e1:=hA.cell k hlt3;have f1:=hA.free k;rw[upto_at] at e1;obtain⟨a0,a1⟩:=aV (by decide:(0:Int)<256) Y k;obtain⟨c0,c1⟩:=aV (by decide:(0:Int)<256) Y (k+1);have hh:=MX Y k;obtain⟨a,ha⟩:∃a,a=dg 256 Y k:=⟨_,rfl⟩
       obtain⟨c,hc⟩:∃c,c=dg 256 Y (k+1):=⟨_,rfl⟩
       rw[<-ha] at e1 a0 a1 hh;rw[<-hc] at c0 c1 hh;have HH:=ak hh;have HC:=ak hc;clear hh ha;by_cases hk31:k<31
       ·have e2:=hA.cell (k+1) aH;have hu:upto k (dg 256 (Y / 2)) (dg 256 Y) (k+1)=c:=by rw[hc];exact if_neg aH
        rw[hu] at e2;have HA:=ak hA;have HZ:=ak hZ;have HB:=ak aA;have HU:=ak hu;clear hA hZ aA hc hu;go_upto_region 14 with(fail)
        refine aJ (fun w2=>aQ .u8 w2 w.heap.size 32 (fun _=>0)/\aQ .u8 w2 (w.heap.size+1) 32 (upd (upto k (dg 256 (Y / 2)) (dg 256 Y)) k (a / 2))/\Below w.heap.size w w2)
         ⟨HZ.out.other (by first | omega | (simp<;> omega)) _,HA.out.set k _,HB.out.setCell (by first | omega | (simp<;> omega)) _⟩ ?_
        rintro w2 ⟨gy,iK,dP⟩;have e3:=iK.cell (k+1) aH;rw[upd_ne _ _ aH,HU.out] at e3;have e4:=iK.cell k hlt3;have f4:=iK.free k;rw[kQ] at e4;have hor:=Go.bC.u8_or128 (a:=a / 2) (b:=c % 2) aH aH aH aH;have hmm:c * 128 % 256=c % 2 * 128:=by omega
        rw[<-hmm] at hor;have HMM:=ak hmm;have HA2:=ak iK;clear e1 e2 f1 HA HZ HB iK hmm;go_wp2
        go_region
        all_goals
         go_wp2;go_roundw
         case rel=>exact⟨k+1,by omega,by go_num,(gy.other (by first | omega | (simp<;> omega)) _).drew,by have h3:=(HA2.out.set k (a / 2+c * 128 % 256)).drew;rw[HMM.out] at h3;rw[HMM.out,←bW HH.out.symm];exact h3.congr (fun i _=>FT _ _ _ _ i),(dP.setCell (by first | omega | (simp<;> omega)) _).drew⟩
         case measure=>simp[intOf] <;> omega
       ·obtain rfl:k=31:=by omega
        have hc0:c=0:=by rw[hc];exact mJ Lh.out
        have HH2:Hid (a / 2=dg 256 (Y / 2) 31):=by show _= _;have:=HH.out;omega
        have HA:=ak hA;have HZ:=ak hZ;have HB:=ak aA;clear hA hZ aA hc hc0;go_wp2;go_roundw
        case rel=>exact⟨32,by omega,by go_num,HZ.out.other (by first | omega | (simp<;> omega)) _,by rw[<-bW HH2.out];exact HA.out.set 31 _,HB.out.setCell (by first | omega | (simp<;> omega)) _⟩
        case measure=>simp[intOf] <;> omega
      ·obtain rfl:k=32:=by omega
       have iK:=hA.congr (dQ _ _ (bB _));clear hA;go_wp2;go_roundw
       case rel=>exact⟨j+1,by omega,by go_num,hZ,by rw[HY2.out];exact iK,aA⟩
       case measure=>simp[intOf] <;> omega
    ·obtain rfl:j=s:=by omega
     go_wp2_with (first
      | (refine bq rfl 22 _ rfl .u8 (w.heap.size+1) 32 _ 5 dY dh rfl hA ?_)
      | (refine aM rfl 22 _ _ rfl .u8 w.heap.size 32 (fun _=>0) _ dh rfl rfl hZ ?_))
     exact bodyPost_ret (bg rfl _ _ .u8 w.heap.size 32 _ 5 rfl (hZ.setRow _ _) dY dh) rfl ⟨rfl,aC aA (bB _) _⟩
theorem YO:((2 ^ 255 - 21) / 2 ^ 0:Int)=((PN - 2:Nat):Int):=by decide
theorem lU:(0:Int)<=((PN - 2:Nat):Int)/\((PN - 2:Nat):Int)<2 ^ 256:=by decide
theorem Mx (w:World):Calls Tryz.prog 248 #[.int .u8 21,.int .u64 0] w fun e w'=>e=.returned (.agg (arr .u8 32 (dg 256 ((PN - 2:Nat):Int))))/\Below w.heap.size w w':=by
 have h:=qU 21 0 aN aN aN w;rw[YO] at h;exact h
def jL (f:Nat->Int):Nat->Int:=Gx f ((PN - 2:Nat):Int)
def wY (X:Int):Int:=X ^ (PN - 2)
theorem ku {f:Nat->Int} {X:Int} (hf:Fe f X):Fe (jL f) (wY X):=by
 unfold wY;have h:=hf.Gx lU.1 lU.2
 rwa [Ct] at h
theorem jY (f:Nat->Int) (X:Int) (hf:Fe f X) (w:World):
  Calls Tryz.prog 204 #[El f] w fun e w'=>e=.returned (El (jL f))/\Below w.heap.size w w':=by
 have HF:=ak hf;clear hf;unfold El
 go_enter Tryz.func204,Tryz.ntmps204
 go_wp2
 refine aJ (fun w1=>aQ .i64 w1 w.heap.size 16 f/\aQ .i64 w1 (w.heap.size+1) 16 (fun _=>0)/\Below w.heap.size w w1)
  ⟨aQ.alloc (bU (by first | omega | (simp<;> omega)) (by rfl)) _,bU (by first | omega | (simp<;> omega)) (by rfl),((bT _ _).alloc (bB _) _).alloc aR _⟩ ?_
 rintro w1 ⟨hA,hZ,aA⟩
 refine dz (n:=6) (fun i=>i==3) aS aS aS aS rfl
  (fun ii vv _=>(match ii with | 0=>vv=.agg (arr .i64 16 (f)) | 1=>vv=.agg (arr .u8 32 (dg 256 ((PN - 2:Nat):Int))) | 2=>vv=.agg (arr .i64 16 (jL f)) | _=>True))
  (fun w w'=>Below w.heap.size w w') (fun _ _ h=>h) (fun _ _ _ _ h _=>h)
  (fun _=>(w.heap.size+1)) (fun _=>(arr .i64 16 (fun _=>0))) (fun _=>(arr .i64 16 (jL f)))
  (by intro i j _ _ dx kL gB;simp only[beq_iff_eq] at dx kL;omega)
  (by intro i _ dx;exact(hZ).row)
  ?_ ?_ ?_
 ·refine cB ?_;refine⟨?_,?_,?_,(aL),trivial⟩
  ·intro _ a w2 hB hF hd;exact aO <| aT (aF rfl cZ rfl bQ (hF.same 1 rfl) (hA.below hB hA.lt)) rfl
  ·intro _ a w2 hB hF hd;refine aO <| aD _ _ _ rfl Tryz.call248 _ (args2 rfl rfl) aR ((Mx w2).mono ?_);rintro e w3 ⟨rfl,hb⟩;exact⟨_,rfl,rfl,hb⟩
  ·intro _ a w2 hB hF hd;refine aO <| aD _ _ _ rfl Tryz.call247 _ (args2 (hd 0 _ rfl rfl (aj rfl)) (hd 1 _ rfl rfl (aj rfl))) aR ((mH f X ((PN - 2:Nat):Int) HF.out lU.1 lU.2 w2).mono ?_);rintro e w3 ⟨rfl,hb⟩;exact⟨_,rfl,rfl,hb⟩
 ·refine cB ?_;refine⟨(aL),(aL),(aL),?_,trivial⟩
  ·intro _ a w1 w2 K hB hF hS hr hK;exact bE 191 _ _ rfl .i64 ((w.heap.size+1)) 16 (fun _=>0) (jL f) bQ (hF.same 2 rfl) (hS 2 _ rfl rfl) hr hK
 ·intro a wf w3 hB hF hS hfil;have other:∀{k:IntKind} {qb n:Nat} {f:Nat->Int},qb≠(w.heap.size+1)->aQ k wf qb n f->aQ k w3 qb n f:=fun {k qb n f} e0 hA=>hfil.arr (by intro i _ dx;simp only[mP,beq_iff_eq] at dx;subst dx<;> ((try simp only[]);(try dsimp only);omega)) hA;have dI:∀{B:Nat} {w0:World},B<=(w.heap.size+1)->Below B w0 wf->Below B w0 w3:=fun {B w0} e0 hA=>hfil.below (by intro i _ dx;simp only[mP,beq_iff_eq] at dx;subst dx<;> ((try simp only[]);(try dsimp only);omega)) hA;have V3:aQ .i64 w3 ((w.heap.size+1)) 16 (jL f):=hfil.at 3 aN rfl;have qh:=hfil.size;clear hfil;have ha:=aP rfl rfl hF [_,_,_,undef] rfl ⟨hS 0 _ rfl rfl,hS 1 _ rfl rfl,hS 2 _ rfl rfl,trivial,trivial⟩;simp only[puts,Act.put,dK,dL,dM] at ha;subst ha;clear hS hF;have hb:=dI aH (aA.trans (hB.mono aA.size));clear hA hZ aA hB other dI;go_wp2;exact bodyPost_ret (dG rfl _ _ .i64 (w.heap.size+1) 16 _ rfl V3 cZ rfl bQ) rfl ⟨rfl,hb⟩
theorem Ng (f g:Nat->Int) (X Y:Int) (hf:Fe f X) (hg:Fe g Y) (w:World):
  Calls Tryz.prog 201 #[El f,El g,.bool true] w fun e w'=>e=.returned (.tuple #[El g,El f])/\Below w.heap.size w w':=by
 have C1:∀w,Calls Tryz.prog 243 #[El f,El g,.int .i64 1] w fun e w'=>e=.returned (El g)/\Below w.heap.size w w':=fun w=>kY f g 1 aN (fun i hi=>by have:=hf.1.bound i hi;omega) (fun i hi=>by have:=hg.1.bound i hi;omega) w;have C2:∀w,Calls Tryz.prog 243 #[El g,El f,.int .i64 1] w fun e w'=>e=.returned (El f)/\Below w.heap.size w w':=fun w=>kY g f 1 aN (fun i hi=>by have:=hg.1.bound i hi;omega) (fun i hi=>by have:=hf.1.bound i hi;omega) w;have K1:=ak C1;have K2:=ak C2;clear C1 C2 hf hg;unfold El
 go_enter Tryz.func201,Tryz.ntmps201
 go_wp2
 refine aJ (fun w1=>aQ .i64 w1 w.heap.size 16 f/\aQ .i64 w1 (w.heap.size+1) 16 g/\aQ .i64 w1 (w.heap.size+2) 16 (fun _=>0)/\aQ .i64 w1 (w.heap.size+3) 16 (fun _=>0)/\Below w.heap.size w w1)
  ⟨aQ.alloc (aQ.alloc (aQ.alloc (bU (by first | omega | (simp<;> omega)) (by rfl)) _) _) _,aQ.alloc (aQ.alloc (bU (by first | omega | (simp<;> omega)) (by rfl)) _) _,aQ.alloc (bU (by first | omega | (simp<;> omega)) (by rfl)) _,bU (by first | omega | (simp<;> omega)) (by rfl),((((bT _ _).alloc (bB _) _).alloc aR _).alloc (by simp;omega) _).alloc (by simp;omega) _⟩ ?_
 rintro w1 ⟨hA,hG,hZ,hY,aA⟩
 refine dz (n:=18) (fun i=>i==8 || i==9) aS aS aS aS rfl
  (fun ii vv _=>(match ii with | 0 | 5 | 7=>vv=.agg (arr .i64 16 (f)) | 1 | 3 | 4=>vv=.agg (arr .i64 16 (g)) | 2 | 6=>vv=.int .i64 (1) | _=>True))
  (fun w w'=>Below w.heap.size w w') (fun _ _ h=>h) (fun _ _ _ _ h _=>h)
  (fun i=>match i with | 8=>(w.heap.size+2) | _=>(w.heap.size+3)) (fun i=>match i with | 8=>(arr .i64 16 (fun _=>0)) | _=>(arr .i64 16 (fun _=>0))) (fun i=>match i with | 8=>(arr .i64 16 (g)) | _=>(arr .i64 16 (f)))
  (by intro i j _ _ dx kL gB;simp only[mP,beq_iff_eq] at dx kL;rcases dx with rfl | rfl<;> rcases kL with rfl | rfl<;> first | exact absurd rfl gB | (simp only[];omega))
  (by intro i _ dx;simp only[mP,beq_iff_eq] at dx;rcases dx with rfl | rfl<;> first | exact(hZ).row | exact(hY).row)
  ?_ ?_ ?_
 ·refine cB ?_;refine⟨?_,?_,?_,?_,?_,?_,?_,?_,(aL),(aL),trivial⟩
  ·intro _ a w2 hB hF hd;exact aO <| aT (aF rfl cZ rfl bQ (hF.same 3 rfl) (hA.below hB hA.lt)) rfl
  ·intro _ a w2 hB hF hd;exact aO <| aT (aF rfl cZ rfl bQ (hF.same 4 rfl) (hG.below hB hG.lt)) rfl
  ·intro _ a w2 hB hF hd;exact aO <| aB _ (.inl rfl) aR (hF.same 8 rfl)
  ·intro _ a w2 hB hF hd;refine aO <| aD _ _ _ rfl Tryz.call243 _ (Cn (hd 0 _ rfl rfl (aj rfl)) (hd 1 _ rfl rfl (aj rfl)) (hd 2 _ rfl rfl (aj rfl))) aR ((K1.out w2).mono ?_);rintro e w3 ⟨rfl,hb⟩;exact⟨_,rfl,rfl,hb⟩
  ·intro _ a w2 hB hF hd;exact aO <| aT (aF rfl cZ rfl bQ (hF.same 4 rfl) (hG.below hB hG.lt)) rfl
  ·intro _ a w2 hB hF hd;exact aO <| aT (aF rfl cZ rfl bQ (hF.same 3 rfl) (hA.below hB hA.lt)) rfl
  ·intro _ a w2 hB hF hd;exact aO <| aB _ (.inl rfl) aR (hF.same 8 rfl)
  ·intro _ a w2 hB hF hd;refine aO <| aD _ _ _ rfl Tryz.call243 _ (Cn (hd 4 _ rfl rfl (aj rfl)) (hd 5 _ rfl rfl (aj rfl)) (hd 6 _ rfl rfl (aj rfl))) aR ((K2.out w2).mono ?_);rintro e w3 ⟨rfl,hb⟩;exact⟨_,rfl,rfl,hb⟩
 ·refine cB ?_;refine⟨(aL),(aL),(aL),(aL),(aL),(aL),(aL),(aL),?_,?_,trivial⟩
  ·intro _ a w1 w2 K hB hF hS hr hK;exact bE 191 _ _ rfl .i64 ((w.heap.size+2)) 16 (fun _=>0) (g) bQ (hF.same 6 rfl) (hS 3 _ rfl rfl) hr hK
  ·intro _ a w1 w2 K hB hF hS hr hK;exact bE 191 _ _ rfl .i64 ((w.heap.size+3)) 16 (fun _=>0) (f) bQ (hF.same 7 rfl) (hS 7 _ rfl rfl) hr hK
 ·intro a wf w3 hB hF hS hfil;have other:∀{k:IntKind} {qb n:Nat} {f:Nat->Int},qb≠(w.heap.size+2)->qb≠(w.heap.size+3)->aQ k wf qb n f->aQ k w3 qb n f:=fun {k qb n f} e0 e1 hA=>hfil.arr (by intro i _ dx;simp only[mP,beq_iff_eq] at dx;rcases dx with rfl | rfl<;> ((try simp only[]);(try dsimp only);omega)) hA;have dI:∀{B:Nat} {w0:World},B<=(w.heap.size+2)->B<=(w.heap.size+3)->Below B w0 wf->Below B w0 w3:=fun {B w0} e0 e1 hA=>hfil.below (by intro i _ dx;simp only[mP,beq_iff_eq] at dx;rcases dx with rfl | rfl<;> ((try simp only[]);(try dsimp only);omega)) hA;have V8:aQ .i64 w3 ((w.heap.size+2)) 16 (g):=hfil.at 8 aN rfl;have V9:aQ .i64 w3 ((w.heap.size+3)) 16 (f):=hfil.at 9 aN rfl;have qh:=hfil.size;clear hfil;have ha:=aP rfl rfl hF [_,_,_,_,_,_,_,_,undef,undef] rfl ⟨hS 0 _ rfl rfl,hS 1 _ rfl rfl,hS 2 _ rfl rfl,hS 3 _ rfl rfl,hS 4 _ rfl rfl,hS 5 _ rfl rfl,hS 6 _ rfl rfl,hS 7 _ rfl rfl,trivial,trivial,trivial⟩;simp only[puts,Act.put,dK,dL,dM] at ha;subst ha;clear hS hF;have hb:=dI aH aH (aA.trans (hB.mono aA.size));clear hA hG hZ hY aA hB other dI;go_wp2;exact bodyPost_ret (qK rfl _ _ .i64 (w.heap.size+2) 16 _ .i64 (w.heap.size+3) 16 _ rfl V8 cZ rfl bQ rfl V9 cZ rfl bQ) rfl ⟨rfl,hb⟩
theorem QY (f g:Nat->Int) (X Y:Int) (hf:Fe f X) (hg:Fe g Y) (w:World):
  Calls Tryz.prog 201 #[El f,El g,.bool false] w fun e w'=>e=.returned (.tuple #[El f,El g])/\Below w.heap.size w w':=by
 have C1:∀w,Calls Tryz.prog 243 #[El f,El g,.int .i64 0] w fun e w'=>e=.returned (El f)/\Below w.heap.size w w':=fun w=>kY f g 0 aN (fun i hi=>by have:=hf.1.bound i hi;omega) (fun i hi=>by have:=hg.1.bound i hi;omega) w;have C2:∀w,Calls Tryz.prog 243 #[El g,El f,.int .i64 0] w fun e w'=>e=.returned (El g)/\Below w.heap.size w w':=fun w=>kY g f 0 aN (fun i hi=>by have:=hg.1.bound i hi;omega) (fun i hi=>by have:=hf.1.bound i hi;omega) w;have K1:=ak C1;have K2:=ak C2;clear C1 C2 hf hg;unfold El
 go_enter Tryz.func201,Tryz.ntmps201
 go_wp2
 refine aJ (fun w1=>aQ .i64 w1 w.heap.size 16 f/\aQ .i64 w1 (w.heap.size+1) 16 g/\aQ .i64 w1 (w.heap.size+2) 16 (fun _=>0)/\aQ .i64 w1 (w.heap.size+3) 16 (fun _=>0)/\Below w.heap.size w w1)
  ⟨aQ.alloc (aQ.alloc (aQ.alloc (bU (by first | omega | (simp<;> omega)) (by rfl)) _) _) _,aQ.alloc (aQ.alloc (bU (by first | omega | (simp<;> omega)) (by rfl)) _) _,aQ.alloc (bU (by first | omega | (simp<;> omega)) (by rfl)) _,bU (by first | omega | (simp<;> omega)) (by rfl),((((bT _ _).alloc (bB _) _).alloc aR _).alloc (by simp;omega) _).alloc (by simp;omega) _⟩ ?_
 rintro w1 ⟨hA,hG,hZ,hY,aA⟩
 refine dz (n:=18) (fun i=>i==8 || i==9) aS aS aS aS rfl
  (fun ii vv _=>(match ii with | 0 | 3 | 5=>vv=.agg (arr .i64 16 (f)) | 1 | 4 | 7=>vv=.agg (arr .i64 16 (g)) | 2 | 6=>vv=.int .i64 (0) | _=>True))
  (fun w w'=>Below w.heap.size w w') (fun _ _ h=>h) (fun _ _ _ _ h _=>h)
  (fun i=>match i with | 8=>(w.heap.size+2) | _=>(w.heap.size+3)) (fun i=>match i with | 8=>(arr .i64 16 (fun _=>0)) | _=>(arr .i64 16 (fun _=>0))) (fun i=>match i with | 8=>(arr .i64 16 (f)) | _=>(arr .i64 16 (g)))
  (by intro i j _ _ dx kL gB;simp only[mP,beq_iff_eq] at dx kL;rcases dx with rfl | rfl<;> rcases kL with rfl | rfl<;> first | exact absurd rfl gB | (simp only[];omega))
  (by intro i _ dx;simp only[mP,beq_iff_eq] at dx;rcases dx with rfl | rfl<;> first | exact(hZ).row | exact(hY).row)
  ?_ ?_ ?_
 ·refine cB ?_;refine⟨?_,?_,?_,?_,?_,?_,?_,?_,(aL),(aL),trivial⟩
  ·intro _ a w2 hB hF hd;exact aO <| aT (aF rfl cZ rfl bQ (hF.same 3 rfl) (hA.below hB hA.lt)) rfl
  ·intro _ a w2 hB hF hd;exact aO <| aT (aF rfl cZ rfl bQ (hF.same 4 rfl) (hG.below hB hG.lt)) rfl
  ·intro _ a w2 hB hF hd;exact aO <| aB _ (.inl rfl) aR (hF.same 8 rfl)
  ·intro _ a w2 hB hF hd;refine aO <| aD _ _ _ rfl Tryz.call243 _ (Cn (hd 0 _ rfl rfl (aj rfl)) (hd 1 _ rfl rfl (aj rfl)) (hd 2 _ rfl rfl (aj rfl))) aR ((K1.out w2).mono ?_);rintro e w3 ⟨rfl,hb⟩;exact⟨_,rfl,rfl,hb⟩
  ·intro _ a w2 hB hF hd;exact aO <| aT (aF rfl cZ rfl bQ (hF.same 4 rfl) (hG.below hB hG.lt)) rfl
  ·intro _ a w2 hB hF hd;exact aO <| aT (aF rfl cZ rfl bQ (hF.same 3 rfl) (hA.below hB hA.lt)) rfl
  ·intro _ a w2 hB hF hd;exact aO <| aB _ (.inl rfl) aR (hF.same 8 rfl)
  ·intro _ a w2 hB hF hd;refine aO <| aD _ _ _ rfl Tryz.call243 _ (Cn (hd 4 _ rfl rfl (aj rfl)) (hd 5 _ rfl rfl (aj rfl)) (hd 6 _ rfl rfl (aj rfl))) aR ((K2.out w2).mono ?_);rintro e w3 ⟨rfl,hb⟩;exact⟨_,rfl,rfl,hb⟩
 ·refine cB ?_;refine⟨(aL),(aL),(aL),(aL),(aL),(aL),(aL),(aL),?_,?_,trivial⟩
  ·intro _ a w1 w2 K hB hF hS hr hK;exact bE 191 _ _ rfl .i64 ((w.heap.size+2)) 16 (fun _=>0) (f) bQ (hF.same 6 rfl) (hS 3 _ rfl rfl) hr hK
  ·intro _ a w1 w2 K hB hF hS hr hK;exact bE 191 _ _ rfl .i64 ((w.heap.size+3)) 16 (fun _=>0) (g) bQ (hF.same 7 rfl) (hS 7 _ rfl rfl) hr hK
 ·intro a wf w3 hB hF hS hfil;have other:∀{k:IntKind} {qb n:Nat} {f:Nat->Int},qb≠(w.heap.size+2)->qb≠(w.heap.size+3)->aQ k wf qb n f->aQ k w3 qb n f:=fun {k qb n f} e0 e1 hA=>hfil.arr (by intro i _ dx;simp only[mP,beq_iff_eq] at dx;rcases dx with rfl | rfl<;> ((try simp only[]);(try dsimp only);omega)) hA;have dI:∀{B:Nat} {w0:World},B<=(w.heap.size+2)->B<=(w.heap.size+3)->Below B w0 wf->Below B w0 w3:=fun {B w0} e0 e1 hA=>hfil.below (by intro i _ dx;simp only[mP,beq_iff_eq] at dx;rcases dx with rfl | rfl<;> ((try simp only[]);(try dsimp only);omega)) hA;have V8:aQ .i64 w3 ((w.heap.size+2)) 16 (f):=hfil.at 8 aN rfl;have V9:aQ .i64 w3 ((w.heap.size+3)) 16 (g):=hfil.at 9 aN rfl;have qh:=hfil.size;clear hfil;have ha:=aP rfl rfl hF [_,_,_,_,_,_,_,_,undef,undef] rfl ⟨hS 0 _ rfl rfl,hS 1 _ rfl rfl,hS 2 _ rfl rfl,hS 3 _ rfl rfl,hS 4 _ rfl rfl,hS 5 _ rfl rfl,hS 6 _ rfl rfl,hS 7 _ rfl rfl,trivial,trivial,trivial⟩;simp only[puts,Act.put,dK,dL,dM] at ha;subst ha;clear hS hF;have hb:=dI aH aH (aA.trans (hB.mono aA.size));clear hA hG hZ hY aA hB other dI;go_wp2;exact bodyPost_ret (qK rfl _ _ .i64 (w.heap.size+2) 16 _ .i64 (w.heap.size+3) 16 _ rfl V8 cZ rfl bQ rfl V9 cZ rfl bQ) rfl ⟨rfl,hb⟩
end Go.Proofs.YtpcjekgfnfjbpaaGreat
namespace Go.Proofs.YtpcjekgfnfjbpaaGreat
open Go.RowKit Go.bC Go.ChangeShapes
attribute [local go_sem ↓] Go.wp_at_zero Go.wp_at_succ
theorem zm (S:Int) (w:World):
  Calls Tryz.prog 198 #[.agg (arr .u8 32 (dg 256 S))] w fun e w'=>e=.returned (.agg (arr .u8 32 (dg 256 (gV S))))/\Below w.heap.size w w':=by
 have HQ:=ak (xC S);have HB:Hid (∀i,0<=dg 256 S i/\dg 256 S i<256):=fun i=>aV aN S i;obtain⟨F,hF⟩:∃F,F=dg 256 S:=⟨_,rfl⟩
 rw[<-hF] at HQ HB ⊢;clear hF
 go_enter Tryz.func198,Tryz.ntmps198
 go_upto_region 1 with(fail);refine aJ (fun w1=>aQ .u8 w1 w.heap.size 32 F/\aQ .u8 w1 (w.heap.size+1) 32 (fun _=>0)/\Below w.heap.size w w1) ⟨aQ.alloc (bU rfl rfl) _,bU aR (by rfl),((bT _ _).alloc (bB _) _).alloc aR _⟩ ?_;rintro w1 ⟨hA,hZ,hb⟩;have e0:=hA.cell 0 aN;have f0:=hA.free 0;obtain⟨x0,x1⟩:=HB.out 0;obtain⟨x,hx⟩:∃x,x=F 0:=⟨_,rfl⟩
 rw[<-hx] at e0 x0 x1;have a1:=Pe x x0 x1;have HX:=ak hx;have HA:=ak hA;clear hx hA;go_upto_region 2 with(fail);refine aJ (fun w2=>aQ .u8 w2 w.heap.size 32 (upd F 0 (x / 8 * 8))/\aQ .u8 w2 (w.heap.size+1) 32 (fun _=>0)/\Below w.heap.size w w2) ⟨HA.out.set 0 _,hZ.other (by first | omega | (simp<;> omega)) _,hb.setCell (by first | omega | (simp<;> omega)) _⟩ ?_;rintro w2 ⟨iK,gy,dP⟩;have e1:=iK.cell 31 aN;have f1:=iK.free 31;obtain⟨y0,y1⟩:=HB.out 31;obtain⟨y,hy⟩:∃y,y=F 31:=⟨_,rfl⟩
 rw[upd_ne _ _ aN,←hy] at e1;rw[<-hy] at y0 y1;have a2:=Pf y y0 y1;have a3:=aal (y % 128) aH aH;have a4:y % 128 % 64+64=y % 64+64:=by omega
 rw[a4] at a3;have HY:=ak hy;have HA2:=ak iK;clear hy iK e0 f0 hZ hb a4 a1;go_upto_region 3 with(fail);refine aJ (fun w3=>aQ .u8 w3 w.heap.size 32 (dg 256 (gV S))/\aQ .u8 w3 (w.heap.size+1) 32 (fun _=>0)/\Below w.heap.size w w3) ⟨((HA2.out.set 31 (y % 64+64)).congr (fun i hi=>by rw[HX.out,HY.out];exact HQ.out i hi)),gy.other (by first | omega | (simp<;> omega)) _,dP.setCell (by first | omega | (simp<;> omega)) _⟩ ?_;rintro w3 ⟨hA3,jy,fP⟩;clear e1 f1 gy dP
 go_wp2_with (first
  | (refine bq rfl 22 _ rfl .u8 w.heap.size 32 (dg 256 (gV S)) 5 dY dh rfl hA3 ?_)
  | (refine aM rfl 22 _ _ rfl .u8 (w.heap.size+1) 32 (fun _=>0) (dg 256 (gV S)) dh rfl rfl jy ?_))
 exact bodyPost_ret (bg rfl _ _ .u8 (w.heap.size+1) 32 _ 5 rfl (jy.setRow _ _) dY dh) rfl ⟨rfl,aC fP aH _⟩
theorem yY (S:Int) (w:World):
  Calls Tryz.prog 121 #[.agg (arr .u8 32 (dg 256 S))] w fun e w'=>e=.returned (.agg (arr .u8 32 (dg 256 (gV S))))/\Below w.heap.size w w':=by
 have HQ:=ak (xC S);have HB:Hid (∀i,0<=dg 256 S i/\dg 256 S i<256):=fun i=>aV aN S i;obtain⟨F,hF⟩:∃F,F=dg 256 S:=⟨_,rfl⟩
 rw[<-hF] at HQ HB ⊢;clear hF
 go_enter Tryz.func121,Tryz.ntmps121
 go_upto_region 1 with(fail);refine aJ (fun w1=>aQ .u8 w1 w.heap.size 32 F/\aQ .u8 w1 (w.heap.size+1) 32 (fun _=>0)/\Below w.heap.size w w1) ⟨aQ.alloc (bU rfl rfl) _,bU aR (by rfl),((bT _ _).alloc (bB _) _).alloc aR _⟩ ?_;rintro w1 ⟨hA,hZ,hb⟩;have e0:=hA.cell 0 aN;have f0:=hA.free 0;obtain⟨x0,x1⟩:=HB.out 0;obtain⟨x,hx⟩:∃x,x=F 0:=⟨_,rfl⟩
 rw[<-hx] at e0 x0 x1;have a1:=Pe x x0 x1;have HX:=ak hx;have HA:=ak hA;clear hx hA;go_upto_region 2 with(fail);refine aJ (fun w2=>aQ .u8 w2 w.heap.size 32 (upd F 0 (x / 8 * 8))/\aQ .u8 w2 (w.heap.size+1) 32 (fun _=>0)/\Below w.heap.size w w2) ⟨HA.out.set 0 _,hZ.other (by first | omega | (simp<;> omega)) _,hb.setCell (by first | omega | (simp<;> omega)) _⟩ ?_;rintro w2 ⟨iK,gy,dP⟩;have e1:=iK.cell 31 aN;have f1:=iK.free 31;obtain⟨y0,y1⟩:=HB.out 31;obtain⟨y,hy⟩:∃y,y=F 31:=⟨_,rfl⟩
 rw[upd_ne _ _ aN,←hy] at e1;rw[<-hy] at y0 y1;have a2:=Pf y y0 y1;have a3:=aal (y % 128) aH aH;have a4:y % 128 % 64+64=y % 64+64:=by omega
 rw[a4] at a3;have HY:=ak hy;have HA2:=ak iK;clear hy iK e0 f0 hZ hb a4 a1;go_upto_region 3 with(fail);refine aJ (fun w3=>aQ .u8 w3 w.heap.size 32 (dg 256 (gV S))/\aQ .u8 w3 (w.heap.size+1) 32 (fun _=>0)/\Below w.heap.size w w3) ⟨((HA2.out.set 31 (y % 64+64)).congr (fun i hi=>by rw[HX.out,HY.out];exact HQ.out i hi)),gy.other (by first | omega | (simp<;> omega)) _,dP.setCell (by first | omega | (simp<;> omega)) _⟩ ?_;rintro w3 ⟨hA3,jy,fP⟩;clear e1 f1 gy dP
 go_wp2_with (first
  | (refine bq rfl 22 _ rfl .u8 w.heap.size 32 (dg 256 (gV S)) 5 dY dh rfl hA3 ?_)
  | (refine aM rfl 22 _ _ rfl .u8 (w.heap.size+1) 32 (fun _=>0) (dg 256 (gV S)) dh rfl rfl jy ?_))
 exact bodyPost_ret (bg rfl _ _ .u8 (w.heap.size+1) 32 _ 5 rfl (jy.setRow _ _) dY dh) rfl ⟨rfl,aC fP aH _⟩
theorem ND {a:Act} (w:World):(Instr.build 22 ((#[(0,Operand.const (.int .u8 9))] :Array (Nat × Operand)).map fun(i,x)=>(i,a.eval x))).run Tryz.prog w=.ok (.agg (arr .u8 32 (dg 256 9))) w:=by
 simp only[zw,List.map_cons,List.map_nil,Act.eval];rw[Go.run_build w _ _ (arr .u8 32 (dg 256 9)) aS]
theorem MI (w:World):Calls Tryz.prog 142 #[] w fun e w'=>e=.returned (.agg (arr .u8 32 (dg 256 9)))/\Below w.heap.size w w':=by
 go_enter Tryz.func142,Tryz.ntmps142
 go_upto_region 1 with(fail);refine aJ (fun w1=>aQ .u8 w1 w.heap.size 32 (fun _=>0)/\Below w.heap.size w w1) ⟨bU rfl (by rfl),(bT _ _).alloc (bB _) _⟩ ?_;rintro w1 ⟨hZ,hb⟩
 go_wp2_with (first
  | (refine gq rfl (gN rfl (ND _)) ?_)
  | (refine aM rfl 22 _ _ rfl .u8 w.heap.size 32 (fun _=>0) (dg 256 9) dh rfl rfl hZ ?_))
 exact bodyPost_ret (bg rfl _ _ .u8 w.heap.size 32 _ 5 rfl (hZ.setRow _ _) dY dh) rfl ⟨rfl,aC hb (bB _) _⟩
theorem Nj:∀i,i<32->upto 3 (dg 256 121665) (fun _=>0) i=dg 256 121665 i:=by
 have key:∀i:Fin 32,upto 3 (dg 256 121665) (fun _=>0) i.val=dg 256 121665 i.val:=by decide+kernel
 exact fun i h=>key ⟨i,h⟩
def BO:Nat->Int:=dg 65536 (121665 % 2 ^ 255)
theorem Ia:Fe BO 121665:=by have h:=Ib 121665;rwa [show (121665:Int) % 2 ^ 255=121665 by decide] at h
theorem GN (w:World):Calls Tryz.prog 245 #[] w fun e w'=>e=.returned (El BO)/\Below w.heap.size w w':=by
 have HC:=ak (fun w=>BM 121665 w);unfold El;unfold El at HC;change Hid (∀w,Calls _ _ _ w fun e w'=>e=.returned (.agg (arr .i64 16 BO))/\_) at HC
 go_enter Tryz.func245,Tryz.ntmps245
 go_upto_region 2 with(fail);refine aJ (fun w1=>aQ .i64 w1 w.heap.size 16 (fun _=>0)/\aQ .u8 w1 (w.heap.size+1) 32 (upto 0 (dg 256 121665) (fun _=>0))/\Below w.heap.size w w1) ⟨aQ.alloc (bU rfl (by rfl)) _,by rw[dH];exact bU aR (by rfl),((bT _ _).alloc (bB _) _).alloc aR _⟩ ?_;rintro w1 ⟨hZ,hA,hb⟩;go_wp2
 go_loopw [4] (fun i wr=> ∃k:Nat,k<=3/\i=.int .i64 k/\aQ .i64 wr w.heap.size 16 (fun _=>0)/\aQ .u8 wr (w.heap.size+1) 32 (upto k (dg 256 121665) (fun _=>0))/\Below w.heap.size w wr) (fun i _=>3 - (intOf i).toNat)
 case atStart=>exact⟨0,gX _,rfl,hZ,hA,hb⟩
 case round=>
  clear hZ hA hb;obtain⟨k,hk,rfl,hZ,hA,hb⟩:=hrel;rcases(by omega:k=0\/k=1\/k=2\/k=3) with rfl | rfl | rfl | rfl
  case inl=>
   have f1:=hA.free 0;have e1:=hA.cell 0 aN;have HA:=ak hA;clear hA;go_wp2;go_roundw
   case rel=>exact⟨1,by omega,by rfl,hZ.other (by first | omega | (simp<;> omega)) _,by rw[<-bW (show dg 256 121665 0= _ from rfl)];exact HA.out.set _ _,hb.setCell (by first | omega | (simp<;> omega)) _⟩
   case measure=>simp[intOf] <;> omega
  case inr.inl=>
   have f1:=hA.free 1;have e1:=hA.cell 1 aN;have HA:=ak hA;clear hA;go_wp2;go_roundw
   case rel=>exact⟨2,by omega,by rfl,hZ.other (by first | omega | (simp<;> omega)) _,by rw[<-bW (show dg 256 121665 1= _ from rfl)];exact HA.out.set _ _,hb.setCell (by first | omega | (simp<;> omega)) _⟩
   case measure=>simp[intOf] <;> omega
  case inr.inr.inl=>
   have f1:=hA.free 2;have e1:=hA.cell 2 aN;have HA:=ak hA;clear hA;go_wp2;go_roundw
   case rel=>exact⟨3,by omega,by rfl,hZ.other (by first | omega | (simp<;> omega)) _,by rw[<-bW (show dg 256 121665 2= _ from rfl)];exact HA.out.set _ _,hb.setCell (by first | omega | (simp<;> omega)) _⟩
   case measure=>simp[intOf] <;> omega
  case inr.inr.inr=>
   have iK:=hA.congr Nj;go_wp2_with (refine bq rfl 22 _ rfl .u8 (w.heap.size+1) 32 (dg 256 121665) 5 dY dh rfl iK ?_);refine(HC.out _).mono ?_;rintro e w3 ⟨rfl,fP⟩;have jy:=hZ.kept fP;have jd:=hb.trans (fP.mono hb.size);clear hZ hA iK hb fP;go_wp2_with (refine aM rfl 191 _ _ rfl .i64 w.heap.size 16 (fun _=>0) BO bQ rfl rfl jy ?_);exact bodyPost_ret (dG rfl _ _ .i64 w.heap.size 16 _ rfl (jy.setRow _ _) cZ rfl bQ) rfl ⟨rfl,aC jd (bB _) _⟩
theorem MH (f2 k2 f3 k3 fu:Nat->Int) (A B C D U:Int) (h2:Fe f2 A) (i2:Fe k2 B) (h3:Fe f3 C) (i3:Fe k3 D) (hu:Fe fu U) (w:World):
  Calls Tryz.prog 202 #[El f2,El k2,El f3,El k3,El fu] w fun e w'=> ∃a b c d,e=.returned (.tuple #[El a,El b,El c,El d])/\(Fe a (dX A B)/\Fe b (dZ A B)/\Fe c (sX A B C D)/\Fe d (sZ U A B C D))/\Below w.heap.size w w':=by
 have H2:=ak h2;have I2:=ak i2;have H3:=ak h3;have I3:=ak i3;have HU:=ak hu;clear h2 i2 h3 i3 hu;unfold El
 go_enter Tryz.func202,Tryz.ntmps202
 go_upto_region 1 with(fail)
 refine aJ (fun w1=>(aQ .i64 w1 w.heap.size 16 f2/\aQ .i64 w1 (w.heap.size+1) 16 k2/\aQ .i64 w1 (w.heap.size+2) 16 f3/\aQ .i64 w1 (w.heap.size+3) 16 k3/\aQ .i64 w1 (w.heap.size+4) 16 fu)/\(aQ .i64 w1 (w.heap.size+5) 16 (fun _=>0)/\aQ .i64 w1 (w.heap.size+6) 16 (fun _=>0)/\aQ .i64 w1 (w.heap.size+7) 16 (fun _=>0)/\aQ .i64 w1 (w.heap.size+8) 16 (fun _=>0))/\Below w.heap.size w w1)
  ⟨⟨.alloc (.alloc (.alloc (.alloc (.alloc (.alloc (.alloc (.alloc (bU (by first | omega | (simp<;> omega)) (by rfl)) _) _) _) _) _) _) _) _,.alloc (.alloc (.alloc (.alloc (.alloc (.alloc (.alloc (bU (by first | omega | (simp<;> omega)) (by rfl)) _) _) _) _) _) _) _,.alloc (.alloc (.alloc (.alloc (.alloc (.alloc (bU (by first | omega | (simp<;> omega)) (by rfl)) _) _) _) _) _) _,.alloc (.alloc (.alloc (.alloc (.alloc (bU (by first | omega | (simp<;> omega)) (by rfl)) _) _) _) _) _,.alloc (.alloc (.alloc (.alloc (bU (by first | omega | (simp<;> omega)) (by rfl)) _) _) _) _⟩,
   ⟨.alloc (.alloc (.alloc (bU (by first | omega | (simp<;> omega)) (by rfl)) _) _) _,.alloc (.alloc (bU (by first | omega | (simp<;> omega)) (by rfl)) _) _,.alloc (bU (by first | omega | (simp<;> omega)) (by rfl)) _,bU (by first | omega | (simp<;> omega)) (by rfl)⟩,
   ((((((((((bT _ _).alloc (bB _) _).alloc (by first | omega | (simp<;> omega)) _).alloc (by first | omega | (simp<;> omega)) _).alloc (by first | omega | (simp<;> omega)) _).alloc (by first | omega | (simp<;> omega)) _).alloc (by first | omega | (simp<;> omega)) _).alloc (by first | omega | (simp<;> omega)) _).alloc (by first | omega | (simp<;> omega)) _).alloc (by first | omega | (simp<;> omega)) _)⟩ ?_
 rintro w1 ⟨⟨hA,hB',hC,hD,hE⟩,⟨fQ,gI,mO,Sd⟩,aA⟩;have fD:w.heap.size+9<=w1.heap.size:=by have:=Sd.lt;omega
 refine bG (n:=72) aS aS aS rfl
  (gZ [(8,6),(9,7)]) (eZ [(8,6),(9,7)]) (fun _=>arr .i64 16 (fun _=>0)) (fun i=>match i with | 6=>(arr .i64 16 (dD (f2) (k2))) | 7=>(arr .i64 16 (fE (f2) (k2))) | _=> #[]) (fun _=>191) (fun i=>match i with | 6=>14 | 7=>15 | _=>0)
  (fun ii vv _=>(match ii with | 0 | 3=>vv=.agg (arr .i64 16 (f2)) | 1 | 4=>vv=.agg (arr .i64 16 (k2)) | 2=>vv=.agg (arr .i64 16 (dD (f2) (k2))) | 5=>vv=.agg (arr .i64 16 (fE (f2) (k2))) | _=>True)) (fun _ _=>True) (fun _ _ _=>trivial) (fun _ _ _ _ _ _ _=>trivial) (fun _ _ _ _ h _=>h)
  (fJ rfl) (dU rfl) ?_ ?_ ?_ ?_
 ·refine cB ?_;refine⟨?_,?_,?_,?_,?_,?_,(fun h=>by cases h),(fun h=>by cases h),(fun _ h=>by cases h),(fun _ h=>by cases h),trivial⟩
  ·intro _ _ a w2 hB hF hd;exact aO <| aT (aF rfl cZ rfl bQ (hF.same 5 rfl) (hA.below hB hA.lt)) rfl
  ·intro _ _ a w2 hB hF hd;exact aO <| aT (aF rfl cZ rfl bQ (hF.same 6 rfl) (hB'.below hB hB'.lt)) rfl
  ·intro _ _ a w2 hB hF hd;refine aO <| aD _ _ _ rfl Tryz.call218 _ (args2 (hd 0 _ rfl rfl rfl (aj rfl)) (hd 1 _ rfl rfl rfl (aj rfl))) aR ((gG _ _ _ _ H2.out I2.out w2).mono ?_);rintro e w3 ⟨rfl,hb⟩;exact⟨_,rfl,rfl,hb⟩
  ·intro _ _ a w2 hB hF hd;exact aO <| aT (aF rfl cZ rfl bQ (hF.same 5 rfl) (hA.below hB hA.lt)) rfl
  ·intro _ _ a w2 hB hF hd;exact aO <| aT (aF rfl cZ rfl bQ (hF.same 6 rfl) (hB'.below hB hB'.lt)) rfl
  ·intro _ _ a w2 hB hF hd;refine aO <| aD _ _ _ rfl Tryz.call244 _ (args2 (hd 3 _ rfl rfl rfl (aj rfl)) (hd 4 _ rfl rfl rfl (aj rfl))) aR ((jk _ _ _ _ H2.out I2.out w2).mono ?_);rintro e w3 ⟨rfl,hb⟩;exact⟨_,rfl,rfl,hb⟩
 ·refine cB ?_;refine⟨(fun h=>by cases h),(fun h=>by cases h),(fun h=>by cases h),(fun h=>by cases h),(fun h=>by cases h),(fun h=>by cases h),?_,?_,(fun h=>by cases h),(fun h=>by cases h),trivial⟩
  ·exact fun _=>⟨rfl,rfl,fun a w2 K h=>aZ rfl rfl Tryz.zeroValue191 aR h⟩
  ·exact fun _=>⟨rfl,rfl,fun a w2 K h=>aZ rfl rfl Tryz.zeroValue191 aR h⟩
 ·refine cB ?_;refine⟨(fun _ h=>by cases h),(fun _ h=>by cases h),(fun _ h=>by cases h),(fun _ h=>by cases h),(fun _ h=>by cases h),(fun _ h=>by cases h),(fun _ h=>by cases h),(fun _ h=>by cases h),?_,?_,trivial⟩
  ·intro p hp;obtain rfl:6=p:=iy hp;exact⟨rfl,rfl,⟨_,rfl⟩,aj rfl,fun a w2 b K hB hF hd hx hb h=>bJ rfl rfl bQ hx (hd 2 _ rfl rfl rfl (aj rfl)) hb h⟩
  ·intro p hp;obtain rfl:7=p:=iy hp;exact⟨rfl,rfl,⟨_,rfl⟩,aj rfl,fun a w2 b K hB hF hd hx hb h=>bJ rfl rfl bQ hx (hd 5 _ rfl rfl rfl (aj rfl)) hb h⟩
 ·intro a w2 blk hB hF hS hv hfin dw;obtain⟨v6,Ld,XI⟩:=hv 6 _ rfl rfl;obtain⟨v7,Dc,Sz⟩:=hv 7 _ rfl rfl;have ha:=aP rfl rfl hF [_,_,_,_,_,_,_,_,undef,undef] rfl ⟨hS 0 _ rfl rfl rfl,hS 1 _ rfl rfl rfl,hS 2 _ rfl rfl rfl,hS 3 _ rfl rfl rfl,hS 4 _ rfl rfl rfl,hS 5 _ rfl rfl rfl,v6,v7,trivial,trivial,trivial⟩;have f6:=hfin 8 _ 6 rfl rfl;have f7:=hfin 9 _ 7 rfl rfl;have Wj:=dw 6 7 _ _ rfl rfl rfl rfl aN;simp only[puts,Act.put,dK,dL,dM] at ha;subst ha;have V6:aQ .i64 w2 (blk 6) 16 (dD (f2) (k2)):=⟨_,f6⟩
  have V7:aQ .i64 w2 (blk 7) 16 (fE (f2) (k2)):=⟨_,f7⟩
  clear hS hv hfin dw hF v6 v7 f6 f7;replace hA:=hA.kept hB;replace hB':=hB'.kept hB;replace hC:=hC.kept hB;replace hD:=hD.kept hB;replace hE:=hE.kept hB;replace fQ:=fQ.kept hB;replace gI:=gI.kept hB;replace mO:=mO.kept hB;replace Sd:=Sd.kept hB;obtain⟨bpl,acR⟩:∃x,x=blk 6:=⟨_,rfl⟩
  obtain⟨pl,hpl,Hpl⟩:∃x,x=dD f2 k2/\Hid (Fe x (A+B)):=⟨_,rfl,H2.out.dD I2.out⟩
  rw[<-hpl,←acR] at V6;rw[<-acR] at Ld ⊢;have lpl:w.heap.size+9<=bpl:=jS fD Ld;obtain⟨bmi,acS⟩:∃x,x=blk 7:=⟨_,rfl⟩
  obtain⟨mi,Ab,Hmi⟩:∃x,x=fE f2 k2/\Hid (Fe x (A - B)):=⟨_,rfl,H2.out.fE I2.out⟩
  rw[<-Ab,←acS] at V7;rw[<-acS] at Dc ⊢;have lmi:w.heap.size+9<=bmi:=jS fD Dc;replace aA:=aA.trans (hB.mono aA.size);replace fD:=jS fD hB.size;clear hB hpl acR Ab acS;have wZ:=V6;clear V6 Ld XI;have xg:=V7;clear V7 Dc Sz;go_upto_region 2 with(fail)
  refine bG (n:=72) aS aS aS rfl
   (gZ [(8,6),(9,7)]) (eZ [(8,6),(9,7)]) (fun _=>arr .i64 16 (fun _=>0)) (fun i=>match i with | 6=>(arr .i64 16 (aU (pl) (pl))) | 7=>(arr .i64 16 (aU (mi) (mi))) | _=> #[]) (fun _=>191) (fun i=>match i with | 6=>16 | 7=>17 | _=>0)
   (fun ii vv _=>(match ii with | 0 | 1=>vv=.agg (arr .i64 16 (pl)) | 2=>vv=.agg (arr .i64 16 (aU (pl) (pl))) | 3 | 4=>vv=.agg (arr .i64 16 (mi)) | 5=>vv=.agg (arr .i64 16 (aU (mi) (mi))) | _=>True)) (fun _ _=>True) (fun _ _ _=>trivial) (fun _ _ _ _ _ _ _=>trivial) (fun _ _ _ _ h _=>h)
   (fJ rfl) (dU rfl) ?_ ?_ ?_ ?_
  ·refine cB ?_;refine⟨?_,?_,?_,?_,?_,?_,(fun h=>by cases h),(fun h=>by cases h),(fun _ h=>by cases h),(fun _ h=>by cases h),trivial⟩
   ·intro _ _ a w2 hB hF hd;exact aO <| aT (aF rfl cZ rfl bQ (hF.same 14 rfl) (wZ.below hB wZ.lt)) rfl
   ·intro _ _ a w2 hB hF hd;exact aO <| aT (aF rfl cZ rfl bQ (hF.same 14 rfl) (wZ.below hB wZ.lt)) rfl
   ·intro _ _ a w2 hB hF hd;refine aO <| aD _ _ _ rfl Tryz.call203 _ (args2 (hd 0 _ rfl rfl rfl (aj rfl)) (hd 1 _ rfl rfl rfl (aj rfl))) aR ((bV _ _ _ _ Hpl.out Hpl.out w2).mono ?_);rintro e w3 ⟨rfl,hb⟩;exact⟨_,rfl,rfl,hb⟩
   ·intro _ _ a w2 hB hF hd;exact aO <| aT (aF rfl cZ rfl bQ (hF.same 15 rfl) (xg.below hB xg.lt)) rfl
   ·intro _ _ a w2 hB hF hd;exact aO <| aT (aF rfl cZ rfl bQ (hF.same 15 rfl) (xg.below hB xg.lt)) rfl
   ·intro _ _ a w2 hB hF hd;refine aO <| aD _ _ _ rfl Tryz.call203 _ (args2 (hd 3 _ rfl rfl rfl (aj rfl)) (hd 4 _ rfl rfl rfl (aj rfl))) aR ((bV _ _ _ _ Hmi.out Hmi.out w2).mono ?_);rintro e w3 ⟨rfl,hb⟩;exact⟨_,rfl,rfl,hb⟩
  ·refine cB ?_;refine⟨(fun h=>by cases h),(fun h=>by cases h),(fun h=>by cases h),(fun h=>by cases h),(fun h=>by cases h),(fun h=>by cases h),?_,?_,(fun h=>by cases h),(fun h=>by cases h),trivial⟩
   ·exact fun _=>⟨rfl,rfl,fun a w2 K h=>aZ rfl rfl Tryz.zeroValue191 aR h⟩
   ·exact fun _=>⟨rfl,rfl,fun a w2 K h=>aZ rfl rfl Tryz.zeroValue191 aR h⟩
  ·refine cB ?_;refine⟨(fun _ h=>by cases h),(fun _ h=>by cases h),(fun _ h=>by cases h),(fun _ h=>by cases h),(fun _ h=>by cases h),(fun _ h=>by cases h),(fun _ h=>by cases h),(fun _ h=>by cases h),?_,?_,trivial⟩
   ·intro p hp;obtain rfl:6=p:=iy hp;exact⟨rfl,rfl,⟨_,rfl⟩,aj rfl,fun a w2 b K hB hF hd hx hb h=>bJ rfl rfl bQ hx (hd 2 _ rfl rfl rfl (aj rfl)) hb h⟩
   ·intro p hp;obtain rfl:7=p:=iy hp;exact⟨rfl,rfl,⟨_,rfl⟩,aj rfl,fun a w2 b K hB hF hd hx hb h=>bJ rfl rfl bQ hx (hd 5 _ rfl rfl rfl (aj rfl)) hb h⟩
  ·intro a w3 blk hB hF hS hv hfin dw;obtain⟨v6,Ld,XI⟩:=hv 6 _ rfl rfl;obtain⟨v7,Dc,Sz⟩:=hv 7 _ rfl rfl;have ha:=aP rfl rfl hF [_,_,_,_,_,_,_,_,undef,undef] rfl ⟨hS 0 _ rfl rfl rfl,hS 1 _ rfl rfl rfl,hS 2 _ rfl rfl rfl,hS 3 _ rfl rfl rfl,hS 4 _ rfl rfl rfl,hS 5 _ rfl rfl rfl,v6,v7,trivial,trivial,trivial⟩;have f6:=hfin 8 _ 6 rfl rfl;have f7:=hfin 9 _ 7 rfl rfl;have Wj:=dw 6 7 _ _ rfl rfl rfl rfl aN;simp only[puts,Act.put,dK,dL,dM] at ha;subst ha;have V6:aQ .i64 w3 (blk 6) 16 (aU (pl) (pl)):=⟨_,f6⟩
   have V7:aQ .i64 w3 (blk 7) 16 (aU (mi) (mi)):=⟨_,f7⟩
   clear hS hv hfin dw hF v6 v7 f6 f7;replace hA:=hA.kept hB;replace hB':=hB'.kept hB;replace hC:=hC.kept hB;replace hD:=hD.kept hB;replace hE:=hE.kept hB;replace fQ:=fQ.kept hB;replace gI:=gI.kept hB;replace mO:=mO.kept hB;replace Sd:=Sd.kept hB;replace wZ:=wZ.kept hB;replace xg:=xg.kept hB;obtain⟨baa,MV⟩:∃x,x=blk 6:=⟨_,rfl⟩
   obtain⟨aa,haa,pJ⟩:∃x,x=aU pl pl/\Hid (Fe x ((A+B) * (A+B))):=⟨_,rfl,Hpl.out.aU Hpl.out⟩
   rw[<-haa,←MV] at V6;rw[<-MV] at Ld ⊢;have laa:w.heap.size+9<=baa:=jS fD Ld;obtain⟨bbb,MU⟩:∃x,x=blk 7:=⟨_,rfl⟩
   obtain⟨bb,hbb,zS⟩:∃x,x=aU mi mi/\Hid (Fe x ((A - B) * (A - B))):=⟨_,rfl,Hmi.out.aU Hmi.out⟩
   rw[<-hbb,←MU] at V7;rw[<-MU] at Dc ⊢;have lbb:w.heap.size+9<=bbb:=jS fD Dc;replace aA:=aA.trans (hB.mono aA.size);replace fD:=jS fD hB.size;clear hB haa MV hbb MU;have lq:=V6;clear V6 Ld XI;have nE:=V7;clear V7 Dc Sz;go_upto_region 3 with(fail)
   refine bG (n:=72) aS aS aS rfl
    (gZ [(4,3)]) (eZ [(4,3)]) (fun _=>arr .i64 16 (fun _=>0)) (fun _=>(arr .i64 16 (fE (aa) (bb)))) (fun _=>191) (fun _=>18)
    (fun ii vv _=>(match ii with | 0=>vv=.agg (arr .i64 16 (aa)) | 1=>vv=.agg (arr .i64 16 (bb)) | 2=>vv=.agg (arr .i64 16 (fE (aa) (bb))) | _=>True)) (fun _ _=>True) (fun _ _ _=>trivial) (fun _ _ _ _ _ _ _=>trivial) (fun _ _ _ _ h _=>h)
    (fJ rfl) (dU rfl) ?_ ?_ ?_ ?_
   ·refine cB ?_;refine⟨?_,?_,?_,(fun h=>by cases h),(fun _ h=>by cases h),trivial⟩
    ·intro _ _ a w2 hB hF hd;exact aO <| aT (aF rfl cZ rfl bQ (hF.same 16 rfl) (lq.below hB lq.lt)) rfl
    ·intro _ _ a w2 hB hF hd;exact aO <| aT (aF rfl cZ rfl bQ (hF.same 17 rfl) (nE.below hB nE.lt)) rfl
    ·intro _ _ a w2 hB hF hd;refine aO <| aD _ _ _ rfl Tryz.call244 _ (args2 (hd 0 _ rfl rfl rfl (aj rfl)) (hd 1 _ rfl rfl rfl (aj rfl))) aR ((jk _ _ _ _ pJ.out zS.out w2).mono ?_);rintro e w3 ⟨rfl,hb⟩;exact⟨_,rfl,rfl,hb⟩
   ·refine cB ?_;refine⟨(fun h=>by cases h),(fun h=>by cases h),(fun h=>by cases h),?_,(fun h=>by cases h),trivial⟩
    ·exact fun _=>⟨rfl,rfl,fun a w2 K h=>aZ rfl rfl Tryz.zeroValue191 aR h⟩
   ·refine cB ?_;refine⟨(fun _ h=>by cases h),(fun _ h=>by cases h),(fun _ h=>by cases h),(fun _ h=>by cases h),?_,trivial⟩
    ·intro p hp;obtain rfl:3=p:=iy hp;exact⟨rfl,rfl,⟨_,rfl⟩,aj rfl,fun a w2 b K hB hF hd hx hb h=>bJ rfl rfl bQ hx (hd 2 _ rfl rfl rfl (aj rfl)) hb h⟩
   ·intro a w4 blk hB hF hS hv hfin dw;obtain⟨v3,Ah,Le⟩:=hv 3 _ rfl rfl;have ha:=aP rfl rfl hF [_,_,_,_,undef] rfl ⟨hS 0 _ rfl rfl rfl,hS 1 _ rfl rfl rfl,hS 2 _ rfl rfl rfl,v3,trivial,trivial⟩;have f3:=hfin 4 _ 3 rfl rfl;simp only[puts,Act.put,dK,dL,dM] at ha;subst ha;have V3:aQ .i64 w4 (blk 3) 16 (fE (aa) (bb)):=⟨_,f3⟩
    clear hS hv hfin dw hF v3 f3;replace hA:=hA.kept hB;replace hB':=hB'.kept hB;replace hC:=hC.kept hB;replace hD:=hD.kept hB;replace hE:=hE.kept hB;replace fQ:=fQ.kept hB;replace gI:=gI.kept hB;replace mO:=mO.kept hB;replace Sd:=Sd.kept hB;replace wZ:=wZ.kept hB;replace xg:=xg.kept hB;replace lq:=lq.kept hB;replace nE:=nE.kept hB;obtain⟨bee,MS⟩:∃x,x=blk 3:=⟨_,rfl⟩
    obtain⟨ee,hee,uH⟩:∃x,x=fE aa bb/\Hid (Fe x ((A+B) * (A+B) - (A - B) * (A - B))):=⟨_,rfl,pJ.out.fE zS.out⟩
    rw[<-hee,←MS] at V3;rw[<-MS] at Ah ⊢;have lee:w.heap.size+9<=bee:=jS fD Ah;replace aA:=aA.trans (hB.mono aA.size);replace fD:=jS fD hB.size;clear hB hee MS;have yD:=V3;clear V3 Ah Le;go_upto_region 4 with(fail)
    refine bG (n:=72) aS aS aS rfl
     (gZ [(12,10),(13,11)]) (eZ [(12,10),(13,11)]) (fun _=>arr .i64 16 (fun _=>0)) (fun i=>match i with | 10=>(arr .i64 16 (aU (fE (f3) (k3)) (pl))) | 11=>(arr .i64 16 (aU (dD (f3) (k3)) (mi))) | _=> #[]) (fun _=>191) (fun i=>match i with | 10=>19 | 11=>20 | _=>0)
     (fun ii vv _=>(match ii with | 0 | 5=>vv=.agg (arr .i64 16 (f3)) | 1 | 6=>vv=.agg (arr .i64 16 (k3)) | 2=>vv=.agg (arr .i64 16 (fE (f3) (k3))) | 3=>vv=.agg (arr .i64 16 (pl)) | 4=>vv=.agg (arr .i64 16 (aU (fE (f3) (k3)) (pl))) | 7=>vv=.agg (arr .i64 16 (dD (f3) (k3))) | 8=>vv=.agg (arr .i64 16 (mi)) | 9=>vv=.agg (arr .i64 16 (aU (dD (f3) (k3)) (mi))) | _=>True)) (fun _ _=>True) (fun _ _ _=>trivial) (fun _ _ _ _ _ _ _=>trivial) (fun _ _ _ _ h _=>h)
     (fJ rfl) (dU rfl) ?_ ?_ ?_ ?_
    ·refine cB ?_;refine⟨?_,?_,?_,?_,?_,?_,?_,?_,?_,?_,(fun h=>by cases h),(fun h=>by cases h),(fun _ h=>by cases h),(fun _ h=>by cases h),trivial⟩
     ·intro _ _ a w2 hB hF hd;exact aO <| aT (aF rfl cZ rfl bQ (hF.same 7 rfl) (hC.below hB hC.lt)) rfl
     ·intro _ _ a w2 hB hF hd;exact aO <| aT (aF rfl cZ rfl bQ (hF.same 8 rfl) (hD.below hB hD.lt)) rfl
     ·intro _ _ a w2 hB hF hd;refine aO <| aD _ _ _ rfl Tryz.call244 _ (args2 (hd 0 _ rfl rfl rfl (aj rfl)) (hd 1 _ rfl rfl rfl (aj rfl))) aR ((jk _ _ _ _ H3.out I3.out w2).mono ?_);rintro e w3 ⟨rfl,hb⟩;exact⟨_,rfl,rfl,hb⟩
     ·intro _ _ a w2 hB hF hd;exact aO <| aT (aF rfl cZ rfl bQ (hF.same 14 rfl) (wZ.below hB wZ.lt)) rfl
     ·intro _ _ a w2 hB hF hd;refine aO <| aD _ _ _ rfl Tryz.call203 _ (args2 (hd 2 _ rfl rfl rfl (aj rfl)) (hd 3 _ rfl rfl rfl (aj rfl))) aR ((bV _ _ _ _ ((H3.out).fE I3.out) Hpl.out w2).mono ?_);rintro e w3 ⟨rfl,hb⟩;exact⟨_,rfl,rfl,hb⟩
     ·intro _ _ a w2 hB hF hd;exact aO <| aT (aF rfl cZ rfl bQ (hF.same 7 rfl) (hC.below hB hC.lt)) rfl
     ·intro _ _ a w2 hB hF hd;exact aO <| aT (aF rfl cZ rfl bQ (hF.same 8 rfl) (hD.below hB hD.lt)) rfl
     ·intro _ _ a w2 hB hF hd;refine aO <| aD _ _ _ rfl Tryz.call218 _ (args2 (hd 5 _ rfl rfl rfl (aj rfl)) (hd 6 _ rfl rfl rfl (aj rfl))) aR ((gG _ _ _ _ H3.out I3.out w2).mono ?_);rintro e w3 ⟨rfl,hb⟩;exact⟨_,rfl,rfl,hb⟩
     ·intro _ _ a w2 hB hF hd;exact aO <| aT (aF rfl cZ rfl bQ (hF.same 15 rfl) (xg.below hB xg.lt)) rfl
     ·intro _ _ a w2 hB hF hd;refine aO <| aD _ _ _ rfl Tryz.call203 _ (args2 (hd 7 _ rfl rfl rfl (aj rfl)) (hd 8 _ rfl rfl rfl (aj rfl))) aR ((bV _ _ _ _ ((H3.out).dD I3.out) Hmi.out w2).mono ?_);rintro e w3 ⟨rfl,hb⟩;exact⟨_,rfl,rfl,hb⟩
    ·refine cB ?_;refine⟨(fun h=>by cases h),(fun h=>by cases h),(fun h=>by cases h),(fun h=>by cases h),(fun h=>by cases h),(fun h=>by cases h),(fun h=>by cases h),(fun h=>by cases h),(fun h=>by cases h),(fun h=>by cases h),?_,?_,(fun h=>by cases h),(fun h=>by cases h),trivial⟩
     ·exact fun _=>⟨rfl,rfl,fun a w2 K h=>aZ rfl rfl Tryz.zeroValue191 aR h⟩
     ·exact fun _=>⟨rfl,rfl,fun a w2 K h=>aZ rfl rfl Tryz.zeroValue191 aR h⟩
    ·refine cB ?_;refine⟨(fun _ h=>by cases h),(fun _ h=>by cases h),(fun _ h=>by cases h),(fun _ h=>by cases h),(fun _ h=>by cases h),(fun _ h=>by cases h),(fun _ h=>by cases h),(fun _ h=>by cases h),(fun _ h=>by cases h),(fun _ h=>by cases h),(fun _ h=>by cases h),(fun _ h=>by cases h),?_,?_,trivial⟩
     ·intro p hp;obtain rfl:10=p:=iy hp;exact⟨rfl,rfl,⟨_,rfl⟩,aj rfl,fun a w2 b K hB hF hd hx hb h=>bJ rfl rfl bQ hx (hd 4 _ rfl rfl rfl (aj rfl)) hb h⟩
     ·intro p hp;obtain rfl:11=p:=iy hp;exact⟨rfl,rfl,⟨_,rfl⟩,aj rfl,fun a w2 b K hB hF hd hx hb h=>bJ rfl rfl bQ hx (hd 9 _ rfl rfl rfl (aj rfl)) hb h⟩
    ·intro a w5 blk hB hF hS hv hfin dw;obtain⟨v10,abp,aji⟩:=hv 10 _ rfl rfl;obtain⟨v11,Ai,SA⟩:=hv 11 _ rfl rfl;have ha:=aP rfl rfl hF [_,_,_,_,_,_,_,_,_,_,_,_,undef,undef] rfl ⟨hS 0 _ rfl rfl rfl,hS 1 _ rfl rfl rfl,hS 2 _ rfl rfl rfl,hS 3 _ rfl rfl rfl,hS 4 _ rfl rfl rfl,hS 5 _ rfl rfl rfl,hS 6 _ rfl rfl rfl,hS 7 _ rfl rfl rfl,hS 8 _ rfl rfl rfl,hS 9 _ rfl rfl rfl,v10,v11,trivial,trivial,trivial⟩;have f10:=hfin 12 _ 10 rfl rfl;have f11:=hfin 13 _ 11 rfl rfl;have akE:=dw 10 11 _ _ rfl rfl rfl rfl aN;simp only[puts,Act.put,dK,dL,dM] at ha;subst ha;have V10:aQ .i64 w5 (blk 10) 16 (aU (fE (f3) (k3)) (pl)):=⟨_,f10⟩
     have Rz:aQ .i64 w5 (blk 11) 16 (aU (dD (f3) (k3)) (mi)):=⟨_,f11⟩
     clear hS hv hfin dw hF v10 v11 f10 f11;replace hA:=hA.kept hB;replace hB':=hB'.kept hB;replace hC:=hC.kept hB;replace hD:=hD.kept hB;replace hE:=hE.kept hB;replace fQ:=fQ.kept hB;replace gI:=gI.kept hB;replace mO:=mO.kept hB;replace Sd:=Sd.kept hB;replace wZ:=wZ.kept hB;replace xg:=xg.kept hB;replace lq:=lq.kept hB;replace nE:=nE.kept hB;replace yD:=yD.kept hB;obtain⟨bda,acZ⟩:∃x,x=blk 10:=⟨_,rfl⟩
     obtain⟨da,hda,Hda⟩:∃x,x=aU (fE f3 k3) pl/\Hid (Fe x ((C - D) * (A+B))):=⟨_,rfl,(H3.out.fE I3.out).aU Hpl.out⟩
     rw[<-hda,←acZ] at V10;rw[<-acZ] at abp ⊢;have lda:w.heap.size+9<=bda:=jS fD abp;obtain⟨bcb,adb⟩:∃x,x=blk 11:=⟨_,rfl⟩
     obtain⟨cb,hcb,Hcb⟩:∃x,x=aU (dD f3 k3) mi/\Hid (Fe x ((C+D) * (A - B))):=⟨_,rfl,(H3.out.dD I3.out).aU Hmi.out⟩
     rw[<-hcb,←adb] at Rz;rw[<-adb] at Ai ⊢;have lcb:w.heap.size+9<=bcb:=jS fD Ai;replace aA:=aA.trans (hB.mono aA.size);replace fD:=jS fD hB.size;clear hB hda acZ hcb adb;have QL:=V10;clear V10 abp aji;have QN:=Rz;clear Rz Ai SA;go_upto_region 5 with(fail)
     refine bG (n:=72) aS aS aS rfl
      (gZ [(8,6),(9,7)]) (eZ [(8,6),(9,7)]) (fun _=>arr .i64 16 (fun _=>0)) (fun i=>match i with | 6=>(arr .i64 16 (dD (da) (cb))) | 7=>(arr .i64 16 (fE (da) (cb))) | _=> #[]) (fun _=>191) (fun i=>match i with | 6=>21 | 7=>22 | _=>0)
      (fun ii vv _=>(match ii with | 0 | 3=>vv=.agg (arr .i64 16 (da)) | 1 | 4=>vv=.agg (arr .i64 16 (cb)) | 2=>vv=.agg (arr .i64 16 (dD (da) (cb))) | 5=>vv=.agg (arr .i64 16 (fE (da) (cb))) | _=>True)) (fun _ _=>True) (fun _ _ _=>trivial) (fun _ _ _ _ _ _ _=>trivial) (fun _ _ _ _ h _=>h)
      (fJ rfl) (dU rfl) ?_ ?_ ?_ ?_
     ·refine cB ?_;refine⟨?_,?_,?_,?_,?_,?_,(fun h=>by cases h),(fun h=>by cases h),(fun _ h=>by cases h),(fun _ h=>by cases h),trivial⟩
      ·intro _ _ a w2 hB hF hd;exact aO <| aT (aF rfl cZ rfl bQ (hF.same 19 rfl) (QL.below hB QL.lt)) rfl
      ·intro _ _ a w2 hB hF hd;exact aO <| aT (aF rfl cZ rfl bQ (hF.same 20 rfl) (QN.below hB QN.lt)) rfl
      ·intro _ _ a w2 hB hF hd;refine aO <| aD _ _ _ rfl Tryz.call218 _ (args2 (hd 0 _ rfl rfl rfl (aj rfl)) (hd 1 _ rfl rfl rfl (aj rfl))) aR ((gG _ _ _ _ Hda.out Hcb.out w2).mono ?_);rintro e w3 ⟨rfl,hb⟩;exact⟨_,rfl,rfl,hb⟩
      ·intro _ _ a w2 hB hF hd;exact aO <| aT (aF rfl cZ rfl bQ (hF.same 19 rfl) (QL.below hB QL.lt)) rfl
      ·intro _ _ a w2 hB hF hd;exact aO <| aT (aF rfl cZ rfl bQ (hF.same 20 rfl) (QN.below hB QN.lt)) rfl
      ·intro _ _ a w2 hB hF hd;refine aO <| aD _ _ _ rfl Tryz.call244 _ (args2 (hd 3 _ rfl rfl rfl (aj rfl)) (hd 4 _ rfl rfl rfl (aj rfl))) aR ((jk _ _ _ _ Hda.out Hcb.out w2).mono ?_);rintro e w3 ⟨rfl,hb⟩;exact⟨_,rfl,rfl,hb⟩
     ·refine cB ?_;refine⟨(fun h=>by cases h),(fun h=>by cases h),(fun h=>by cases h),(fun h=>by cases h),(fun h=>by cases h),(fun h=>by cases h),?_,?_,(fun h=>by cases h),(fun h=>by cases h),trivial⟩
      ·exact fun _=>⟨rfl,rfl,fun a w2 K h=>aZ rfl rfl Tryz.zeroValue191 aR h⟩
      ·exact fun _=>⟨rfl,rfl,fun a w2 K h=>aZ rfl rfl Tryz.zeroValue191 aR h⟩
     ·refine cB ?_;refine⟨(fun _ h=>by cases h),(fun _ h=>by cases h),(fun _ h=>by cases h),(fun _ h=>by cases h),(fun _ h=>by cases h),(fun _ h=>by cases h),(fun _ h=>by cases h),(fun _ h=>by cases h),?_,?_,trivial⟩
      ·intro p hp;obtain rfl:6=p:=iy hp;exact⟨rfl,rfl,⟨_,rfl⟩,aj rfl,fun a w2 b K hB hF hd hx hb h=>bJ rfl rfl bQ hx (hd 2 _ rfl rfl rfl (aj rfl)) hb h⟩
      ·intro p hp;obtain rfl:7=p:=iy hp;exact⟨rfl,rfl,⟨_,rfl⟩,aj rfl,fun a w2 b K hB hF hd hx hb h=>bJ rfl rfl bQ hx (hd 5 _ rfl rfl rfl (aj rfl)) hb h⟩
     ·intro a w6 blk hB hF hS hv hfin dw;obtain⟨v6,Ld,XI⟩:=hv 6 _ rfl rfl;obtain⟨v7,Dc,Sz⟩:=hv 7 _ rfl rfl;have ha:=aP rfl rfl hF [_,_,_,_,_,_,_,_,undef,undef] rfl ⟨hS 0 _ rfl rfl rfl,hS 1 _ rfl rfl rfl,hS 2 _ rfl rfl rfl,hS 3 _ rfl rfl rfl,hS 4 _ rfl rfl rfl,hS 5 _ rfl rfl rfl,v6,v7,trivial,trivial,trivial⟩;have f6:=hfin 8 _ 6 rfl rfl;have f7:=hfin 9 _ 7 rfl rfl;have Wj:=dw 6 7 _ _ rfl rfl rfl rfl aN;simp only[puts,Act.put,dK,dL,dM] at ha;subst ha;have V6:aQ .i64 w6 (blk 6) 16 (dD (da) (cb)):=⟨_,f6⟩
      have V7:aQ .i64 w6 (blk 7) 16 (fE (da) (cb)):=⟨_,f7⟩
      clear hS hv hfin dw hF v6 v7 f6 f7;replace hA:=hA.kept hB;replace hB':=hB'.kept hB;replace hC:=hC.kept hB;replace hD:=hD.kept hB;replace hE:=hE.kept hB;replace fQ:=fQ.kept hB;replace gI:=gI.kept hB;replace mO:=mO.kept hB;replace Sd:=Sd.kept hB;replace wZ:=wZ.kept hB;replace xg:=xg.kept hB;replace lq:=lq.kept hB;replace nE:=nE.kept hB;replace yD:=yD.kept hB;replace QL:=QL.kept hB;replace QN:=QN.kept hB;obtain⟨bsu,acQ⟩:∃x,x=blk 6:=⟨_,rfl⟩
      obtain⟨su,hsu,Hsu⟩:∃x,x=dD da cb/\Hid (Fe x ((C - D) * (A+B)+(C+D) * (A - B))):=⟨_,rfl,Hda.out.dD Hcb.out⟩
      rw[<-hsu,←acQ] at V6;rw[<-acQ] at Ld ⊢;have lsu:w.heap.size+9<=bsu:=jS fD Ld;obtain⟨bdi,acX⟩:∃x,x=blk 7:=⟨_,rfl⟩
      obtain⟨di,hdi,Hdi⟩:∃x,x=fE da cb/\Hid (Fe x ((C - D) * (A+B) - (C+D) * (A - B))):=⟨_,rfl,Hda.out.fE Hcb.out⟩
      rw[<-hdi,←acX] at V7;rw[<-acX] at Dc ⊢;have ldi:w.heap.size+9<=bdi:=jS fD Dc;replace aA:=aA.trans (hB.mono aA.size);replace fD:=jS fD hB.size;clear hB hsu acQ hdi acX;have YQ:=V6;clear V6 Ld XI;have YV:=V7;clear V7 Dc Sz;go_upto_region 6 with(fail)
      refine dz (n:=72) (fun i=>i==18 || i==19 || i==20 || i==21) aS aS aS aS rfl
       (fun ii vv _=>(match ii with | 0 | 4=>vv=.agg (arr .i64 16 (aa)) | 1=>vv=.agg (arr .i64 16 (bb)) | 2=>vv=.agg (arr .i64 16 (aU (aa) (bb))) | 3 | 6=>vv=.agg (arr .i64 16 (ee)) | 5=>vv=.agg (arr .i64 16 (BO)) | 7=>vv=.agg (arr .i64 16 (aU (BO) (ee))) | 8=>vv=.agg (arr .i64 16 (dD (aa) (aU (BO) (ee)))) | 9=>vv=.agg (arr .i64 16 (aU (ee) (dD (aa) (aU (BO) (ee))))) | 10 | 11=>vv=.agg (arr .i64 16 (su)) | 12=>vv=.agg (arr .i64 16 (aU (su) (su))) | 13=>vv=.agg (arr .i64 16 (fu)) | 14 | 15=>vv=.agg (arr .i64 16 (di)) | 16=>vv=.agg (arr .i64 16 (aU (di) (di))) | 17=>vv=.agg (arr .i64 16 (aU (fu) (aU (di) (di)))) | _=>True))
       (fun w w'=>Below w.heap.size w w') (fun _ _ h=>h) (fun _ _ _ _ h _=>h)
       (fun i=>match i with | 18=>(w.heap.size+5) | 19=>(w.heap.size+6) | 20=>(w.heap.size+7) | _=>(w.heap.size+8)) (fun i=>match i with | 18=>(arr .i64 16 (fun _=>0)) | 19=>(arr .i64 16 (fun _=>0)) | 20=>(arr .i64 16 (fun _=>0)) | _=>(arr .i64 16 (fun _=>0))) (fun i=>match i with | 18=>(arr .i64 16 (aU (aa) (bb))) | 19=>(arr .i64 16 (aU (ee) (dD (aa) (aU (BO) (ee))))) | 20=>(arr .i64 16 (aU (su) (su))) | _=>(arr .i64 16 (aU (fu) (aU (di) (di)))))
       (by intro i j _ _ dx kL gB;simp only[mP,beq_iff_eq] at dx kL;rcases dx with((rfl | rfl) | rfl) | rfl<;> rcases kL with((rfl | rfl) | rfl) | rfl<;> first | exact absurd rfl gB | (simp only[];omega))
       (by intro i _ dx;simp only[mP,beq_iff_eq] at dx;rcases dx with((rfl | rfl) | rfl) | rfl<;> first | exact(fQ).row | exact(gI).row | exact(mO).row | exact(Sd).row)
       ?_ ?_ ?_
      ·refine cB ?_;refine⟨?_,?_,?_,?_,?_,?_,?_,?_,?_,?_,?_,?_,?_,?_,?_,?_,?_,?_,(aL),(aL),(aL),(aL),trivial⟩
       ·intro _ a w2 hB hF hd;exact aO <| aT (aF rfl cZ rfl bQ (hF.same 16 rfl) (lq.below hB lq.lt)) rfl
       ·intro _ a w2 hB hF hd;exact aO <| aT (aF rfl cZ rfl bQ (hF.same 17 rfl) (nE.below hB nE.lt)) rfl
       ·intro _ a w2 hB hF hd;refine aO <| aD _ _ _ rfl Tryz.call203 _ (args2 (hd 0 _ rfl rfl (aj rfl)) (hd 1 _ rfl rfl (aj rfl))) aR ((bV _ _ _ _ pJ.out zS.out w2).mono ?_);rintro e w3 ⟨rfl,hb⟩;exact⟨_,rfl,rfl,hb⟩
       ·intro _ a w2 hB hF hd;exact aO <| aT (aF rfl cZ rfl bQ (hF.same 18 rfl) (yD.below hB yD.lt)) rfl
       ·intro _ a w2 hB hF hd;exact aO <| aT (aF rfl cZ rfl bQ (hF.same 16 rfl) (lq.below hB lq.lt)) rfl
       ·intro _ a w2 hB hF hd;refine aO <| aD _ _ _ rfl Tryz.call245 _ mZ aR ((GN w2).mono ?_);rintro e w3 ⟨rfl,hb⟩;exact⟨_,rfl,rfl,hb⟩
       ·intro _ a w2 hB hF hd;exact aO <| aT (aF rfl cZ rfl bQ (hF.same 18 rfl) (yD.below hB yD.lt)) rfl
       ·intro _ a w2 hB hF hd;refine aO <| aD _ _ _ rfl Tryz.call203 _ (args2 (hd 5 _ rfl rfl (aj rfl)) (hd 6 _ rfl rfl (aj rfl))) aR ((bV _ _ _ _ Ia uH.out w2).mono ?_);rintro e w3 ⟨rfl,hb⟩;exact⟨_,rfl,rfl,hb⟩
       ·intro _ a w2 hB hF hd;refine aO <| aD _ _ _ rfl Tryz.call218 _ (args2 (hd 4 _ rfl rfl (aj rfl)) (hd 7 _ rfl rfl (aj rfl))) aR ((gG _ _ _ _ pJ.out ((Ia).aU uH.out) w2).mono ?_);rintro e w3 ⟨rfl,hb⟩;exact⟨_,rfl,rfl,hb⟩
       ·intro _ a w2 hB hF hd;refine aO <| aD _ _ _ rfl Tryz.call203 _ (args2 (hd 3 _ rfl rfl (aj rfl)) (hd 8 _ rfl rfl (aj rfl))) aR ((bV _ _ _ _ uH.out ((pJ.out).dD ((Ia).aU uH.out)) w2).mono ?_);rintro e w3 ⟨rfl,hb⟩;exact⟨_,rfl,rfl,hb⟩
       ·intro _ a w2 hB hF hd;exact aO <| aT (aF rfl cZ rfl bQ (hF.same 21 rfl) (YQ.below hB YQ.lt)) rfl
       ·intro _ a w2 hB hF hd;exact aO <| aT (aF rfl cZ rfl bQ (hF.same 21 rfl) (YQ.below hB YQ.lt)) rfl
       ·intro _ a w2 hB hF hd;refine aO <| aD _ _ _ rfl Tryz.call203 _ (args2 (hd 10 _ rfl rfl (aj rfl)) (hd 11 _ rfl rfl (aj rfl))) aR ((bV _ _ _ _ Hsu.out Hsu.out w2).mono ?_);rintro e w3 ⟨rfl,hb⟩;exact⟨_,rfl,rfl,hb⟩
       ·intro _ a w2 hB hF hd;exact aO <| aT (aF rfl cZ rfl bQ (hF.same 9 rfl) (hE.below hB hE.lt)) rfl
       ·intro _ a w2 hB hF hd;exact aO <| aT (aF rfl cZ rfl bQ (hF.same 22 rfl) (YV.below hB YV.lt)) rfl
       ·intro _ a w2 hB hF hd;exact aO <| aT (aF rfl cZ rfl bQ (hF.same 22 rfl) (YV.below hB YV.lt)) rfl
       ·intro _ a w2 hB hF hd;refine aO <| aD _ _ _ rfl Tryz.call203 _ (args2 (hd 14 _ rfl rfl (aj rfl)) (hd 15 _ rfl rfl (aj rfl))) aR ((bV _ _ _ _ Hdi.out Hdi.out w2).mono ?_);rintro e w3 ⟨rfl,hb⟩;exact⟨_,rfl,rfl,hb⟩
       ·intro _ a w2 hB hF hd;refine aO <| aD _ _ _ rfl Tryz.call203 _ (args2 (hd 13 _ rfl rfl (aj rfl)) (hd 16 _ rfl rfl (aj rfl))) aR ((bV _ _ _ _ HU.out ((Hdi.out).aU Hdi.out) w2).mono ?_);rintro e w3 ⟨rfl,hb⟩;exact⟨_,rfl,rfl,hb⟩
      ·refine cB ?_;refine⟨(aL),(aL),(aL),(aL),(aL),(aL),(aL),(aL),(aL),(aL),(aL),(aL),(aL),(aL),(aL),(aL),(aL),(aL),?_,?_,?_,?_,trivial⟩
       ·intro _ a w1 w2 K hB hF hS hr hK;exact bE 191 _ _ rfl .i64 ((w.heap.size+5)) 16 (fun _=>0) (aU (aa) (bb)) bQ (hF.same 10 rfl) (hS 2 _ rfl rfl) hr hK
       ·intro _ a w1 w2 K hB hF hS hr hK;exact bE 191 _ _ rfl .i64 ((w.heap.size+6)) 16 (fun _=>0) (aU (ee) (dD (aa) (aU (BO) (ee)))) bQ (hF.same 11 rfl) (hS 9 _ rfl rfl) hr hK
       ·intro _ a w1 w2 K hB hF hS hr hK;exact bE 191 _ _ rfl .i64 ((w.heap.size+7)) 16 (fun _=>0) (aU (su) (su)) bQ (hF.same 12 rfl) (hS 12 _ rfl rfl) hr hK
       ·intro _ a w1 w2 K hB hF hS hr hK;exact bE 191 _ _ rfl .i64 ((w.heap.size+8)) 16 (fun _=>0) (aU (fu) (aU (di) (di))) bQ (hF.same 13 rfl) (hS 17 _ rfl rfl) hr hK
      ·intro a wf w7 hB hF hS hfil;have other:∀{k:IntKind} {qb n:Nat} {f:Nat->Int},qb≠(w.heap.size+5)->qb≠(w.heap.size+6)->qb≠(w.heap.size+7)->qb≠(w.heap.size+8)->aQ k wf qb n f->aQ k w7 qb n f:=fun {k qb n f} e0 e1 e2 e3 hA=>hfil.arr (by intro i _ dx;simp only[mP,beq_iff_eq] at dx;rcases dx with((rfl | rfl) | rfl) | rfl<;> ((try simp only[]);(try dsimp only);omega)) hA;have dI:∀{B:Nat} {w0:World},B<=(w.heap.size+5)->B<=(w.heap.size+6)->B<=(w.heap.size+7)->B<=(w.heap.size+8)->Below B w0 wf->Below B w0 w7:=fun {B w0} e0 e1 e2 e3 hA=>hfil.below (by intro i _ dx;simp only[mP,beq_iff_eq] at dx;rcases dx with((rfl | rfl) | rfl) | rfl<;> ((try simp only[]);(try dsimp only);omega)) hA;have V18:aQ .i64 w7 ((w.heap.size+5)) 16 (aU (aa) (bb)):=hfil.at 18 aN rfl;have V19:aQ .i64 w7 ((w.heap.size+6)) 16 (aU (ee) (dD (aa) (aU (BO) (ee)))):=hfil.at 19 aN rfl;have V20:aQ .i64 w7 ((w.heap.size+7)) 16 (aU (su) (su)):=hfil.at 20 aN rfl;have V21:aQ .i64 w7 ((w.heap.size+8)) 16 (aU (fu) (aU (di) (di))):=hfil.at 21 aN rfl;have qh:=hfil.size;clear hfil;have ha:=aP rfl rfl hF [_,_,_,_,_,_,_,_,_,_,_,_,_,_,_,_,_,_,undef,undef,undef,undef] rfl ⟨hS 0 _ rfl rfl,hS 1 _ rfl rfl,hS 2 _ rfl rfl,hS 3 _ rfl rfl,hS 4 _ rfl rfl,hS 5 _ rfl rfl,hS 6 _ rfl rfl,hS 7 _ rfl rfl,hS 8 _ rfl rfl,hS 9 _ rfl rfl,hS 10 _ rfl rfl,hS 11 _ rfl rfl,hS 12 _ rfl rfl,hS 13 _ rfl rfl,hS 14 _ rfl rfl,hS 15 _ rfl rfl,hS 16 _ rfl rfl,hS 17 _ rfl rfl,trivial,trivial,trivial,trivial,trivial⟩;simp only[puts,Act.put,dK,dL,dM] at ha;subst ha;clear hS hF;have hb:=dI aH aH aH aH (aA.trans (hB.mono aA.size));go_wp2;exact bodyPost_ret (Gq rfl _ _ .i64 16 cZ rfl bQ (w.heap.size+5) (w.heap.size+6) (w.heap.size+7) (w.heap.size+8) _ _ _ _ rfl V18 rfl V19 rfl V20 rfl V21) rfl ⟨_,_,_,_,rfl,⟨pJ.out.aU zS.out,uH.out.aU (pJ.out.dD (Ia.aU uH.out)),Hsu.out.aU Hsu.out,HU.out.aU (Hdi.out.aU Hdi.out)⟩,hb⟩
end Go.Proofs.YtpcjekgfnfjbpaaGreat
namespace Go.Proofs.YtpcjekgfnfjbpaaGreat
open Go.RowKit Go.bC Go.ChangeShapes
theorem jG (p:Bool) (f g:Nat->Int) (X Y:Int) (hf:Fe f X) (hg:Fe g Y) (w:World):
  Calls Tryz.prog 201 #[El f,El g,.bool p] w fun e w'=>e=.returned (.tuple #[El (bD p f g),El (bD p g f)])/\Below w.heap.size w w':=by
 cases p
 ·exact QY f g X Y hf hg w
 ·exact Ng f g X Y hf hg w
end Go.Proofs.YtpcjekgfnfjbpaaGreat
namespace Go.Proofs.YtpcjekgfnfjbpaaGreat
open Go.RowKit Go.bC
attribute [local go_sem ↓] Go.wp_at_zero Go.wp_at_succ
theorem BP (va:Value) (A N:Int) (h0:0<=N) (h1:N<2 ^ 256) (w:World) (ha:Rd .i64 w va 16 (dg 65536 (A % Pr))):
  Calls Tryz.prog 127 #[va,.agg (arr .u8 32 (dg 256 N))] w fun e w'=>
   ∃v,e=.returned v/\Rd .i64 w' v 16 (dg 65536 (A ^ N.toNat % Pr))/\Below w.heap.size w w':=by
 have HA:=ak ha;have H0:=ak h0;have H1:=ak h1;clear ha h0 h1
 go_enter Tryz.func127,Tryz.ntmps127
 go_wp2_with fail;refine(AX 1 aN aN _).mono ?_;rintro e w1 ⟨v1,rfl,hv1,eP⟩;have hB1:aQ .u8 w1 w.heap.size 32 (dg 256 N):=aQ.kept (bU rfl (by rfl)) eP;have mY:Below w.heap.size w w1:=((bT _ _).alloc (bB _) _).trans (eP.mono aR);have ZK:=ak hv1.rd;have HA1:=ak (HA.out.below mY);clear hv1 eP;go_wp2
 go_loopw [0,5,6] (fun a o i wr=> ∃k:Nat,k<=32/\i=.int .i64 k/\Rd .i64 wr a 16 (dg 65536 (A ^ (2 ^ (8 * k)) % Pr))/\Rd .i64 wr o 16 (dg 65536 (sM A N (8 * k) % Pr))/\aQ .u8 wr w.heap.size 32 (dg 256 N)/\Below w.heap.size w wr) (fun _ _ i _=>32 - (intOf i).toNat)
 case atStart=>exact⟨0,gX _,rfl,by rw[Nat.mul_zero,Nat.pow_zero,Int.pow_succ,Int.pow_zero,Int.one_mul];exact HA1.out,by rw[Nat.mul_zero,Mg];exact ZK.out,hB1,mY⟩
 case round=>
  obtain⟨k,hk,rfl,ha,ho,hB,aA⟩:=hrel;have XG:=ak ha;have HO:=ak ho;clear ha ho;by_cases hlt:k<32
  ·have e1:=hB.cell k hlt;obtain⟨d0,d1⟩:=aV (by decide:(0:Int)<256) N k;have HB:=ak hB;have iq:=ak aA;clear hB aA;go_wp2;rw[show decide ((k:Int)<32)=true by simp;omega]
   go_loopw [0,5,7,8] (fun a o c i wr=> ∃j:Nat,j<=8/\i=.int .i64 j/\c=.int .i64 (dg 256 N k / 2 ^ j)/\Rd .i64 wr a 16 (dg 65536 (A ^ (2 ^ (8 * k+j)) % Pr))/\Rd .i64 wr o 16 (dg 65536 (sM A N (8 * k+j) % Pr))/\aQ .u8 wr w.heap.size 32 (dg 256 N)/\Below w.heap.size w wr) (fun _ _ _ i _=>8 - (intOf i).toNat)
   case atStart=>exact⟨0,gX _,rfl,by rw[Int.pow_zero,Int.ediv_one],XG.out,HO.out,HB.out,iq.out⟩
   case round=>
    clear XG HO HB iq e1;obtain⟨j,hj,rfl,rfl,ha,ho,hB,aA⟩:=hrel;have XG:=ak ha;have HO:=ak ho;have HB:=ak hB;have iq:=ak aA;clear ha ho hB aA;by_cases hlt2:j<8
    ·have hbit:=Wz N k j hlt2;have hnx:dg 256 N k / 2 ^ (j+1)=dg 256 N k / 2 ^ j / 2:=dJ aN _ _;have c0:0<=dg 256 N k / 2 ^ j:=Int.ediv_nonneg d0 (vF (eG aN _));have c1:dg 256 N k / 2 ^ j<256:=Int.lt_of_le_of_lt (Int.ediv_le_self _ d0) d1;obtain⟨c,hc⟩:∃c,c=dg 256 N k / 2 ^ j:=⟨_,rfl⟩
     rw[<-hc] at hbit hnx c0 c1 ⊢;have hps:=Mh A N (8 * k+j);rw[<-hbit] at hps;have HPS:=ak hps;have HNX:=ak hnx;have Xe:=ak (Ta A (8 * k+j));obtain⟨S,hS⟩:∃S,S=A ^ (2 ^ (8 * k+j)):=⟨_,rfl⟩
     obtain⟨O,hO⟩:∃O,O=sM A N (8 * k+j):=⟨_,rfl⟩
     rw[<-hS] at XG Xe HPS;rw[<-hO] at HO HPS;clear hbit hnx hc hps hS hO;by_cases kM:c % 2=1
     ·rw[if_pos kM] at HPS;have Sb:(c % 2==1)=true:=by rw[kM];rfl
      clear kM;go_wp2_with fail;refine(dF O S _ _ _ HO.out XG.out).mono ?_;rintro e w3 ⟨v3,rfl,hv3,fP⟩;have HV3:=ak hv3;have ahE:=ak (XG.out.below fP);have HB3:=ak (HB.out.kept fP);have aaX:=ak (iq.out.trans (fP.mono iq.out.size));clear hv3 fP XG HB iq;go_wp2_with fail;refine(dF S S _ _ _ ahE.out ahE.out).mono ?_;rintro e w4 ⟨v4,rfl,hv4,jd⟩;have HV4:=ak hv4;have Iy:=ak (HV3.out.below jd);have RY:=ak (HB3.out.kept jd);have Xq:=ak (aaX.out.trans (jd.mono aaX.out.size));clear hv4 jd;go_wp2;go_roundw
      case rel=>exact⟨j+1,by omega,by go_num,by rw[HNX.out],by rw[show 8 * k+(j+1)=8 * k+j+1 by omega,Xe.out];exact HV4.out,by rw[show 8 * k+(j+1)=8 * k+j+1 by omega,HPS.out];exact Iy.out,RY.out,Xq.out⟩
      case measure=>simp[intOf] <;> omega
     ·rw[if_neg kM] at HPS;have Sb:(c % 2==1)=false:=by simpa using kM
      clear kM;go_wp2_with fail;refine(dF S S _ _ _ XG.out XG.out).mono ?_;rintro e w4 ⟨v4,rfl,hv4,jd⟩;have HV4:=ak hv4;have Pk:=ak (HO.out.below jd);have RY:=ak (HB.out.kept jd);have Xq:=ak (iq.out.trans (jd.mono iq.out.size));clear hv4 jd;go_wp2;go_roundw
      case rel=>exact⟨j+1,by omega,by go_num,by rw[HNX.out],by rw[show 8 * k+(j+1)=8 * k+j+1 by omega,Xe.out];exact HV4.out,by rw[show 8 * k+(j+1)=8 * k+j+1 by omega,HPS.out];exact Pk.out,RY.out,Xq.out⟩
      case measure=>simp[intOf] <;> omega
    ·obtain rfl:j=8:=by omega
     go_wp2;go_roundw
     case rel=>exact⟨k+1,by omega,by go_num,XG.out,HO.out,HB.out,iq.out⟩
     case measure=>simp[intOf] <;> omega
  ·obtain rfl:k=32:=by omega
   have HF:=ak (Mi (X:=A) H0.out H1.out);have iq:=ak aA;clear hB aA;go_wp2;go_ret;exact⟨_,rfl,by rw[<-HF.out];exact HO.out,iq.out⟩
end Go.Proofs.YtpcjekgfnfjbpaaGreat
namespace Go.Proofs.YtpcjekgfnfjbpaaGreat
open Go.RowKit Go.bC Go.ChangeShapes
attribute [local go_sem ↓] Go.wp_at_zero Go.wp_at_succ
theorem tC (f g:Nat->Int) (X Y:Int) (hf:Fe f X) (hg:Fe g Y) (h:X % Pr=Y % Pr) (w:World):
  Calls Tryz.prog 210 #[El f,El g] w fun e w'=>e=.returned (.bool true)/\Below w.heap.size w w':=by
 have:=tF f g X Y hf hg w
 rwa [show Zi X Y=true from decide_eq_true h] at this
theorem qV (f g:Nat->Int) (X Y:Int) (hf:Fe f X) (hg:Fe g Y) (h:¬ X % Pr=Y % Pr) (w:World):
  Calls Tryz.prog 210 #[El f,El g] w fun e w'=>e=.returned (.bool false)/\Below w.heap.size w w':=by
 have:=tF f g X Y hf hg w
 rwa [show Zi X Y=false from decide_eq_false h] at this
end Go.Proofs.YtpcjekgfnfjbpaaGreat
namespace Go.Proofs.YtpcjekgfnfjbpaaGreat
open Go.RowKit Go.bC
attribute [local go_sem ↓] Go.wp_at_zero Go.wp_at_succ
theorem adv:((2 ^ 255 - 16) / 2 ^ 3:Int)=(((PN+3) / 8:Nat):Int):=by decide
theorem adw:((2 ^ 255 - 20) / 2 ^ 2:Int)=(((PN - 1) / 4:Nat):Int):=by decide
theorem qm:(0:Int)<=(((PN+3) / 8:Nat):Int)/\(((PN+3) / 8:Nat):Int)<2 ^ 256:=by decide
theorem qo:(0:Int)<=(((PN - 1) / 4:Nat):Int)/\(((PN - 1) / 4:Nat):Int)<2 ^ 256:=by decide
theorem EK (w:World):Calls Tryz.prog 248 #[.int .u8 16,.int .u64 3] w fun e w'=>e=.returned (.agg (arr .u8 32 (dg 256 (((PN+3) / 8:Nat):Int))))/\Below w.heap.size w w':=by
 have h:=qU 16 3 aN aN aN w;rw[adv] at h;exact h
theorem EL (w:World):Calls Tryz.prog 248 #[.int .u8 20,.int .u64 2] w fun e w'=>e=.returned (.agg (arr .u8 32 (dg 256 (((PN - 1) / 4:Nat):Int))))/\Below w.heap.size w w':=by
 have h:=qU 20 2 aN aN aN w;rw[adw] at h;exact h
def JA (f:Nat->Int):Nat->Int:=Gx f (((PN+3) / 8:Nat):Int)
def rT:Nat->Int:=Gx (aW 2) (((PN - 1) / 4:Nat):Int)
theorem Fq {f:Nat->Int} {X:Int} (hf:Fe f X):Fe (JA f) (je X):=by
 unfold je;have h:=hf.Gx qm.1 qm.2
 rwa [Ct] at h
theorem Nf:Fe (aW 2) 2:=by have h:=nN 2;rwa [show sG 2=2 by decide] at h
theorem Fu:Fe rT rV:=by
 unfold rV;have h:=Nf.Gx qo.1 qo.2
 rwa [Ct] at h
theorem yF (f:Nat->Int) (X:Int) (hf:Fe f X) (h:X % Pr % 2=1) (w:World):Calls Tryz.prog 222 #[El f] w fun e w'=>e=.returned (.bool true)/\Below w.heap.size w w':=by
 have h2:=Fv f X hf w
 rwa [h] at h2
theorem BN (f:Nat->Int) (X:Int) (hf:Fe f X) (h:X % Pr % 2=0) (w:World):Calls Tryz.prog 222 #[El f] w fun e w'=>e=.returned (.bool false)/\Below w.heap.size w w':=by
 have h2:=Fv f X hf w
 rwa [h] at h2
theorem Ue {R X:Int} (h:R * R % Pr=X % Pr): -R * -R % Pr=X % Pr:=by rw[show -R * -R=R * R by grind];exact h
theorem QZ (f:Nat->Int) (X:Int) (hf:Fe f X) (QS:qQ X=false) (w:World):
  Calls Tryz.prog 252 #[El f] w fun e w'=>e=.returned (.tuple #[El (fun _=>0),.bool false])/\Below w.heap.size w w':=by
 have HF:=ak hf;have Xe:=ak QS;clear hf QS;unfold El
 go_enter Tryz.func252,Tryz.ntmps252
 go_upto_region 1 with(fail)
 refine aJ (fun w1=>aQ .i64 w1 w.heap.size 16 f/\aQ .i64 w1 (w.heap.size+1) 16 (fun _=>0)/\Below w.heap.size w w1)
  ⟨aQ.alloc (bU (by first | omega | (simp<;> omega)) (by rfl)) _,bU (by first | omega | (simp<;> omega)) (by rfl),((bT _ _).alloc (bB _) _).alloc aR _⟩ ?_
 rintro w1 ⟨hA,hZ,aA⟩
 refine bG (n:=31) aS aS aS rfl
  (gZ [(4,3)]) (eZ [(4,3)]) (fun _=>arr .i64 16 (fun _=>0)) (fun _=>(arr .i64 16 (JA f))) (fun _=>191) (fun _=>4)
  (fun ii vv _=>(match ii with | 0=>vv=.agg (arr .i64 16 (f)) | 1=>vv=.agg (arr .u8 32 (dg 256 (((PN+3) / 8:Nat):Int))) | 2=>vv=.agg (arr .i64 16 (JA f)) | _=>True)) (fun _ _=>True) (fun _ _ _=>trivial) (fun _ _ _ _ _ _ _=>trivial) (fun _ _ _ _ h _=>h)
  (fJ rfl) (dU rfl) ?_ ?_ ?_ ?_
 ·refine cB ?_;refine⟨?_,?_,?_,(fun h=>by cases h),(fun _ h=>by cases h),trivial⟩
  ·intro _ _ a w2 hB hF hd;exact aO <| aT (aF rfl cZ rfl bQ (hF.same 1 rfl) (hA.below hB hA.lt)) rfl
  ·intro _ _ a w2 hB hF hd;refine aO <| aD _ _ _ rfl Tryz.call248 _ (args2 rfl rfl) aR ((EK w2).mono ?_);rintro e w3 ⟨rfl,hb⟩;exact⟨_,rfl,rfl,hb⟩
  ·intro _ _ a w2 hB hF hd;refine aO <| aD _ _ _ rfl Tryz.call247 _ (args2 (hd 0 _ rfl rfl rfl (aj rfl)) (hd 1 _ rfl rfl rfl (aj rfl))) aR ((mH f X (((PN+3) / 8:Nat):Int) HF.out qm.1 qm.2 w2).mono ?_);rintro e w3 ⟨rfl,hb⟩;exact⟨_,rfl,rfl,hb⟩
 ·refine cB ?_;refine⟨(fun h=>by cases h),(fun h=>by cases h),(fun h=>by cases h),?_,(fun h=>by cases h),trivial⟩
  ·exact fun _=>⟨rfl,rfl,fun a w2 K h=>aZ rfl rfl Tryz.zeroValue191 aR h⟩
 ·refine cB ?_;refine⟨(fun _ h=>by cases h),(fun _ h=>by cases h),(fun _ h=>by cases h),(fun _ h=>by cases h),?_,trivial⟩
  ·intro p hp;obtain rfl:3=p:=iy hp;exact⟨rfl,rfl,⟨_,rfl⟩,aj rfl,fun a w2 b K hB hF hd hx hb h=>bJ rfl rfl bQ hx (hd 2 _ rfl rfl rfl (aj rfl)) hb h⟩
 ·intro a w3 blk hB hF hS hv hfin dw;obtain⟨v3,Ah,Le⟩:=hv 3 _ rfl rfl;have ha:=aP rfl rfl hF [_,_,_,_,undef] rfl ⟨hS 0 _ rfl rfl rfl,hS 1 _ rfl rfl rfl,hS 2 _ rfl rfl rfl,v3,trivial,trivial⟩;have f3:=hfin 4 _ 3 rfl rfl;simp only[puts,Act.put,dK,dL,dM] at ha;subst ha;have V3:aQ .i64 w3 (blk 3) 16 (JA f):=⟨_,f3⟩
  clear hS hv hfin dw hF v3 f3;have mU:=hA.below hB hA.lt;have hZ1:=hZ.below hB hZ.lt;have eP:=aA.trans (hB.mono aA.size);have lb:=aA.size;have lz:=hZ.lt;have HR:=ak (Fq HF.out);obtain⟨b,hb⟩:∃b,b=blk 3:=⟨_,rfl⟩
  obtain⟨g,hg⟩:∃g,g=JA f:=⟨_,rfl⟩
  rw[<-hb] at V3 Ah ⊢;rw[<-hg] at HR V3 ⊢;have hr:=V3;have hbw:w.heap.size+2<=b:=by omega
  clear hb hg V3 Ah Le hA hZ aA hB lb lz;have HQ:=ak (Gp Xe.out (je X));have Pj:=ak (Gp Xe.out (je X * rV));go_upto_region 2 with(fail)
  refine aX (n:=31) aS aS aS rfl
   (fun ii vv _=>(match ii with | 0 | 1=>vv=.agg (arr .i64 16 (g)) | 2=>vv=.agg (arr .i64 16 (aU (g) (g))) | 3=>vv=.agg (arr .i64 16 (f)) | 4=>vv=.bool false | 5=>vv=.bool true | _=>True))
   (fun w w'=>Below w.heap.size w w') (fun _ _ h=>h) (fun _ _ _ _ h _=>h) ?_ ?_
  ·refine cB ?_;refine⟨?_,?_,?_,?_,?_,?_,trivial⟩
   ·intro a w2 hB hF hd;exact aO <| aT (aF rfl cZ rfl bQ (hF.same 4 rfl) (hr.below hB hr.lt)) rfl
   ·intro a w2 hB hF hd;exact aO <| aT (aF rfl cZ rfl bQ (hF.same 4 rfl) (hr.below hB hr.lt)) rfl
   ·intro a w2 hB hF hd;refine aO <| aD _ _ _ rfl Tryz.call203 _ (args2 (hd 0 _ rfl (aj rfl)) (hd 1 _ rfl (aj rfl))) aR ((bV (g) (g) (je X) (je X) HR.out HR.out w2).mono ?_);rintro e w3 ⟨rfl,hb⟩;exact⟨_,rfl,rfl,hb⟩
   ·intro a w2 hB hF hd;exact aO <| aT (aF rfl cZ rfl bQ (hF.same 1 rfl) (mU.below hB mU.lt)) rfl
   ·intro a w2 hB hF hd;refine aO <| aD _ _ _ rfl Tryz.call210 _ (args2 (hd 2 _ rfl (aj rfl)) (hd 3 _ rfl (aj rfl))) aR ((qV (aU (g) (g)) (f) ((je X) * (je X)) X (HR.out.aU HR.out) HF.out HQ.out w2).mono ?_);rintro e w3 ⟨rfl,hb⟩;exact⟨_,rfl,rfl,hb⟩
   ·intro a w2 hB hF hd;exact aO <| aT (iO rfl (hd 4 _ rfl (aj rfl))) rfl
  ·intro a w4 hB hF hS;have ha:=aP rfl rfl hF [_,_,_,_,_,_] rfl ⟨hS 0 _ rfl,hS 1 _ rfl,hS 2 _ rfl,hS 3 _ rfl,hS 4 _ rfl,hS 5 _ rfl,trivial⟩;simp only[puts,Act.put,dK,dL,dM] at ha;subst ha;clear hS hF;have iK:=mU.below hB mU.lt;have gy:=hZ1.below hB hZ1.lt;have dP:=eP.trans (hB.mono eP.size);have hr':=hr.below hB hr.lt;clear hr;have hr:=hr';clear hr' mU hZ1 eP hB;go_upto_region 3 with(fail)
   refine dz (n:=31) (fun i=>i==5) aS aS aS aS rfl
    (fun ii vv _=>(match ii with | 0=>vv=.agg (arr .i64 16 (g)) | 1=>vv=.agg (arr .i64 16 (aW 2)) | 2=>vv=.agg (arr .u8 32 (dg 256 (((PN - 1) / 4:Nat):Int))) | 3=>vv=.agg (arr .i64 16 (rT)) | 4=>vv=.agg (arr .i64 16 (aU (g) (rT))) | _=>True))
    (fun w w'=>Below w.heap.size w w') (fun _ _ h=>h) (fun _ _ _ _ h _=>h)
    (fun _=>b) (fun _=>(arr .i64 16 (g))) (fun _=>(arr .i64 16 (aU (g) (rT))))
    (by intro i j _ _ dx kL gB;simp only[beq_iff_eq] at dx kL;omega)
    (by intro i _ dx;exact(hr).row)
    ?_ ?_ ?_
   ·refine cB ?_;refine⟨?_,?_,?_,?_,?_,(aL),trivial⟩
    ·intro _ a w2 hB hF hd;exact aO <| aT (aF rfl cZ rfl bQ (hF.same 4 rfl) (hr.below hB hr.lt)) rfl
    ·intro _ a w2 hB hF hd;refine aO <| aD _ _ _ rfl Tryz.call200 _ (args1 rfl) aR ((eO 2 w2).mono ?_);rintro e w3 ⟨rfl,hb⟩;exact⟨_,rfl,rfl,hb⟩
    ·intro _ a w2 hB hF hd;refine aO <| aD _ _ _ rfl Tryz.call248 _ (args2 rfl rfl) aR ((EL w2).mono ?_);rintro e w3 ⟨rfl,hb⟩;exact⟨_,rfl,rfl,hb⟩
    ·intro _ a w2 hB hF hd;refine aO <| aD _ _ _ rfl Tryz.call247 _ (args2 (hd 1 _ rfl rfl (aj rfl)) (hd 2 _ rfl rfl (aj rfl))) aR ((mH (aW 2) 2 (((PN - 1) / 4:Nat):Int) Nf qo.1 qo.2 w2).mono ?_);rintro e w3 ⟨rfl,hb⟩;exact⟨_,rfl,rfl,hb⟩
    ·intro _ a w2 hB hF hd;refine aO <| aD _ _ _ rfl Tryz.call203 _ (args2 (hd 0 _ rfl rfl (aj rfl)) (hd 3 _ rfl rfl (aj rfl))) aR ((bV (g) (rT) (je X) rV HR.out Fu w2).mono ?_);rintro e w3 ⟨rfl,hb⟩;exact⟨_,rfl,rfl,hb⟩
   ·refine cB ?_;refine⟨(aL),(aL),(aL),(aL),(aL),?_,trivial⟩
    ·intro _ a w1 w2 K hB hF hS hr hK;exact bE 191 _ _ rfl .i64 (b) 16 (g) (aU (g) (rT)) bQ (hF.same 4 rfl) (hS 4 _ rfl rfl) hr hK
   ·intro a wf w6 hB hF hS hfil;have other:∀{k:IntKind} {qb n:Nat} {f:Nat->Int},qb≠b->aQ k wf qb n f->aQ k w6 qb n f:=fun {k qb n f} e0 hA=>hfil.arr (by intro i _ dx;simp only[mP,beq_iff_eq] at dx;subst dx<;> ((try simp only[]);(try dsimp only);omega)) hA;have dI:∀{B:Nat} {w0:World},B<=b->Below B w0 wf->Below B w0 w6:=fun {B w0} e0 hA=>hfil.below (by intro i _ dx;simp only[mP,beq_iff_eq] at dx;subst dx<;> ((try simp only[]);(try dsimp only);omega)) hA;have V5:aQ .i64 w6 (b) 16 (aU (g) (rT)):=hfil.at 5 aN rfl;have qh:=hfil.size;clear hfil;have ha:=aP rfl rfl hF [_,_,_,_,_,undef] rfl ⟨hS 0 _ rfl rfl,hS 1 _ rfl rfl,hS 2 _ rfl rfl,hS 3 _ rfl rfl,hS 4 _ rfl rfl,trivial,trivial⟩;simp only[puts,Act.put,dK,dL,dM] at ha;subst ha;clear hS hF;have hA3:=other aH (iK.below hB iK.lt);have jy:=other aH (gy.below hB gy.lt);have fP:=dI aH (dP.trans (hB.mono dP.size));have hr2:=V5;clear hr;have hr:=hr2;clear hr2 V5 iK gy dP hB other dI;have HR2:=ak (HR.out.aU Fu);go_upto_region 4 with(fail)
    refine aX (n:=31) aS aS aS rfl
     (fun ii vv _=>(match ii with | 0 | 1=>vv=.agg (arr .i64 16 (aU g rT)) | 2=>vv=.agg (arr .i64 16 (aU (aU g rT) (aU g rT))) | 3=>vv=.agg (arr .i64 16 (f)) | 4=>vv=.bool false | 5=>vv=.bool true | _=>True))
     (fun w w'=>Below w.heap.size w w') (fun _ _ h=>h) (fun _ _ _ _ h _=>h) ?_ ?_
    ·refine cB ?_;refine⟨?_,?_,?_,?_,?_,?_,trivial⟩
     ·intro a w2 hB hF hd;exact aO <| aT (aF rfl cZ rfl bQ (hF.same 4 rfl) (hr.below hB hr.lt)) rfl
     ·intro a w2 hB hF hd;exact aO <| aT (aF rfl cZ rfl bQ (hF.same 4 rfl) (hr.below hB hr.lt)) rfl
     ·intro a w2 hB hF hd;refine aO <| aD _ _ _ rfl Tryz.call203 _ (args2 (hd 0 _ rfl (aj rfl)) (hd 1 _ rfl (aj rfl))) aR ((bV (aU g rT) (aU g rT) (je X * rV) (je X * rV) HR2.out HR2.out w2).mono ?_);rintro e w3 ⟨rfl,hb⟩;exact⟨_,rfl,rfl,hb⟩
     ·intro a w2 hB hF hd;exact aO <| aT (aF rfl cZ rfl bQ (hF.same 1 rfl) (hA3.below hB hA3.lt)) rfl
     ·intro a w2 hB hF hd;refine aO <| aD _ _ _ rfl Tryz.call210 _ (args2 (hd 2 _ rfl (aj rfl)) (hd 3 _ rfl (aj rfl))) aR ((qV (aU (aU g rT) (aU g rT)) (f) ((je X * rV) * (je X * rV)) X (HR2.out.aU HR2.out) HF.out Pj.out w2).mono ?_);rintro e w3 ⟨rfl,hb⟩;exact⟨_,rfl,rfl,hb⟩
     ·intro a w2 hB hF hd;exact aO <| aT (iO rfl (hd 4 _ rfl (aj rfl))) rfl
    ·intro a w6 hB hF hS;have ha:=aP rfl rfl hF [_,_,_,_,_,_] rfl ⟨hS 0 _ rfl,hS 1 _ rfl,hS 2 _ rfl,hS 3 _ rfl,hS 4 _ rfl,hS 5 _ rfl,trivial⟩;simp only[puts,Act.put,dK,dL,dM] at ha;subst ha;clear hS hF;have Kz:=hA3.below hB hA3.lt;have xq:=jy.below hB jy.lt;have jd:=fP.trans (hB.mono fP.size);have hr':=hr.below hB hr.lt;clear hr;have hr:=hr';clear hr' hA3 jy fP hB
     go_wp2_with (first
      | (refine gq rfl (gN rfl (KV _)) ?_)
      | (refine aM rfl 191 _ _ rfl .i64 (w.heap.size+1) 16 (fun _=>0) _ bQ rfl rfl xq ?_))
     exact bodyPost_ret (eD rfl _ _ .i64 (w.heap.size+1) 16 _ rfl (xq.setRow _ _) cZ rfl bQ) rfl ⟨rfl,aC jd aH _⟩
end Go.Proofs.YtpcjekgfnfjbpaaGreat
namespace Go.Proofs.YtpcjekgfnfjbpaaGreat
open Go.RowKit Go.bC Go.ChangeShapes
attribute [local go_sem ↓] Go.wp_at_zero Go.wp_at_succ
theorem NC:∀i,i<16->upd (upd (fun _=>0) 0 56129) 1 1 i=dg 65536 (121665 % Pr) i:=by
 have key:∀i:Fin 16,upd (upd (fun _=>0) 0 56129) 1 1 i.val=dg 65536 (121665 % Pr) i.val:=by decide+kernel
 exact fun i h=>key ⟨i,h⟩
theorem NA:∀i,i<16->upd (upd (fun _=>0) 0 56130) 1 1 i=dg 65536 (121666 % Pr) i:=by
 have key:∀i:Fin 16,upd (upd (fun _=>0) 0 56130) 1 1 i.val=dg 65536 (121666 % Pr) i.val:=by decide+kernel
 exact fun i h=>key ⟨i,h⟩
theorem nK (n:Int) (h:n % Pr=n) (h0:0<=n) (h1:n<65536) (w:World):Calls Tryz.prog 123 #[.int .i64 n] w fun e w'=> ∃v,e=.returned v/\Rd .i64 w' v 16 (dg 65536 (n % Pr))/\Below w.heap.size w w':=by
 rw[h];exact ug n h0 h1 w
theorem QE (va vb:Value) (w:World) (ha:Rd .i64 w va 16 (dg 65536 Pr)) (hb:Rd .i64 w vb 16 (dg 65536 2)):
  Calls Tryz.prog 129 #[va,vb] w fun e w'=> ∃v,e=.returned v/\Rd .i64 w' v 16 (dg 65536 (Pr - 2))/\Below w.heap.size w w':=(lG va vb Pr 2 16 16 aN aN w ha hb).mono fun _ _ h=>wu h
theorem abI (w:World):Calls Tryz.prog 130 #[] w fun e w'=> ∃v,e=.returned v/\Rd .i64 w' v 16 (dg 65536 Pr)/\Below w.heap.size w w':=(AY w).mono fun _ _ h=>wu h
theorem YP (va:Value) (A:Int) (w:World) (ha:Rd .i64 w va 16 (dg 65536 (A % Pr))):
  Calls Tryz.prog 127 #[va,.agg (arr .u8 32 (dg 256 (Pr - 2)))] w fun e w'=> ∃v,e=.returned v/\Rd .i64 w' v 16 (dg 65536 (A ^ (PN - 2) % Pr))/\Below w.heap.size w w':=by
 have h:=BP va A (Pr - 2) aN aN w ha
 rwa [show (Pr - 2).toNat=PN - 2 by decide] at h
theorem Ba (va:Value) (A:Int) (w:World) (ha:Rd .i64 w va 16 (dg 65536 (A % Pr))):
  Calls Tryz.prog 147 #[va] w fun e w'=> ∃v,e=.returned v/\Rd .i64 w' v 16 (dg 65536 (A ^ (PN - 2) % Pr))/\Below w.heap.size w w':=by
 have Ha:=ak ha;clear ha
 go_enter Tryz.func147,Tryz.ntmps147
 have aA:=bT w.heap.size w;go_wp2_with fail;refine(abI _).mono ?_;rintro e wa ⟨vp,rfl,hv,hb⟩;have Hp:=ak hv;replace Ha:=ak (Ha.out.below hb);replace aA:=aA.trans (hb.mono aA.size);clear hv hb;go_wp2_with fail;refine(ug 2 aN aN _).mono ?_;rintro e wb ⟨v2,rfl,hv,hb⟩;have H2:=ak hv;replace Ha:=ak (Ha.out.below hb);replace Hp:=ak (Hp.out.below hb);replace aA:=aA.trans (hb.mono aA.size);clear hv hb;go_wp2_with fail;refine(QE _ _ _ Hp.out H2.out).mono ?_;rintro e wc ⟨vl,rfl,hv,hb⟩;have Hl:=ak hv;replace Ha:=ak (Ha.out.below hb);replace aA:=aA.trans (hb.mono aA.size);clear hv hb;go_wp2_with fail;refine(kr _ (Pr - 2) 16 aN _ Hl.out).mono ?_;rintro e wd ⟨rfl,hb⟩;replace Ha:=ak (Ha.out.below hb);replace aA:=aA.trans (hb.mono aA.size);clear hb;go_wp2_with fail;refine(YP _ _ _ Ha.out).mono ?_;rintro e we ⟨vi,rfl,hv,hb⟩;have Hi:=ak hv;replace aA:=aA.trans (hb.mono aA.size);clear hv hb;go_wp2;go_ret;exact⟨_,rfl,Hi.out,aA⟩
def dR:Int:=0 - 121665 * 121666 ^ (PN - 2)
theorem abJ (w:World):Calls Tryz.prog 148 #[] w fun e w'=> ∃v,e=.returned v/\Rd .i64 w' v 16 (dg 65536 (dR % Pr))/\Below w.heap.size w w':=by
 have HDR:Hid (dR=0 - 121665 * 121666 ^ (PN - 2)):=rfl;obtain⟨D,hD⟩:∃D,D=dR:=⟨_,rfl⟩
 rw[<-hD] at HDR ⊢;clear hD
 go_enter Tryz.func148,Tryz.ntmps148
 have aA:=bT w.heap.size w;go_upto_region 2 with(refine iB rfl _ _ 142 rfl w.heap.size 3 .i64 8 uP xJ .i64 .i64 16 rfl rfl aN aN (bB _) ?_;intro wz0 bM bA);have hbz:Below w.heap.size w wz0:=dW (bT _ _) bA (bB _);obtain⟨g,c,he,hg0,hgl,hc16,hcc,hcell,hfree⟩:=bM.form aN;simp only[DV,CO,Addr.mk.injEq] at he;obtain⟨⟨rfl,q1⟩,q2⟩:=he;have e0:=hcell 0 aN;have f0:=hfree 0;have e1:=hcell 1 aN;have f1:=hfree 1;have HO:=ak bM;have ZQ:=ak hbz;clear hcell hfree q1 q2 bA bM hbz;go_upto_region 4 with(fail);refine aJ (fun w9=>Rd .i64 w9 (.slice (some ⟨w.heap.size,0,none⟩) 16 16) 16 (dg 65536 (121665 % Pr))/\Below w.heap.size w w9) ⟨(((HO.out.store 0 _).store 1 _).congr NC).rd,(ZQ.out.setCell (bB _) _).setCell (bB _) _⟩ ?_;rintro wA1 ⟨hby,hb⟩;obtain⟨v0,hv0⟩:∃v,v=Value.slice (some ⟨w.heap.size,0,none⟩) 16 16:=⟨_,rfl⟩
 rw[<-hv0] at hby ⊢;have H0:=ak hby;replace aA:=aA.trans (hb.mono aA.size);clear hv0 hby hb e0 f0 e1 f1 HO ZQ hc16 hcc hgl hg0
 try simp only[Act.put,dK,dL,dM]
 go_upto_region 5 with(refine iB rfl _ _ 142 rfl wA1.heap.size 3 .i64 8 uP xJ .i64 .i64 16 rfl rfl aN aN (bB _) ?_;intro wz1 bM bA);have hbz:Below wA1.heap.size wA1 wz1:=dW (bT _ _) bA (bB _);obtain⟨g,c,he,hg0,hgl,hc16,hcc,hcell,hfree⟩:=bM.form aN;simp only[DV,CO,Addr.mk.injEq] at he;obtain⟨⟨rfl,q1⟩,q2⟩:=he;have e0:=hcell 0 aN;have f0:=hfree 0;have e1:=hcell 1 aN;have f1:=hfree 1;have HO:=ak bM;have ZQ:=ak hbz;clear hcell hfree q1 q2 bA bM hbz;go_upto_region 7 with(fail);refine aJ (fun w9=>Rd .i64 w9 (.slice (some ⟨wA1.heap.size,0,none⟩) 16 16) 16 (dg 65536 (121666 % Pr))/\Below wA1.heap.size wA1 w9) ⟨(((HO.out.store 0 _).store 1 _).congr NA).rd,(ZQ.out.setCell (bB _) _).setCell (bB _) _⟩ ?_;rintro wA2 ⟨hby,hb⟩;obtain⟨v1,hv1⟩:∃v,v=Value.slice (some ⟨wA1.heap.size,0,none⟩) 16 16:=⟨_,rfl⟩
 rw[<-hv1] at hby ⊢;have H1:=ak hby;replace H0:=ak (H0.out.below hb);replace aA:=aA.trans (hb.mono aA.size);clear hv1 hby hb e0 f0 e1 f1 HO ZQ hc16 hcc hgl hg0
 try simp only[Act.put,dK,dL,dM]
 go_wp2_with fail;refine(nK 0 aN aN aN _).mono ?_;rintro e wb ⟨vz,rfl,hv,hb⟩;have Hz:=ak hv;replace H0:=ak (H0.out.below hb);replace H1:=ak (H1.out.below hb);replace aA:=aA.trans (hb.mono aA.size);clear hv hb;go_wp2_with fail;refine(Ba _ 121666 _ H1.out).mono ?_;rintro e wc ⟨vi,rfl,hv,hb⟩;have Hi:=ak hv;replace H0:=ak (H0.out.below hb);replace Hz:=ak (Hz.out.below hb);replace aA:=aA.trans (hb.mono aA.size);clear hv hb;go_wp2_with fail;refine(dF 121665 (121666 ^ (PN - 2)) _ _ _ H0.out Hi.out).mono ?_;rintro e wd ⟨vm,rfl,hv,hb⟩;have Hm:=ak hv;replace Hz:=ak (Hz.out.below hb);replace aA:=aA.trans (hb.mono aA.size);clear hv hb;go_wp2_with fail;refine(jA 0 (121665 * 121666 ^ (PN - 2)) _ _ _ Hz.out Hm.out).mono ?_;rintro e we ⟨vr,rfl,hv,hb⟩;have Hr:=ak hv;replace aA:=aA.trans (hb.mono aA.size);clear hv hb;rw[<-HDR.out] at Hr;go_wp2;go_ret;exact⟨_,rfl,Hr.out,aA⟩
end Go.Proofs.YtpcjekgfnfjbpaaGreat
namespace Go.Proofs.YtpcjekgfnfjbpaaGreat
open Go.RowKit Go.bC
attribute [local go_sem ↓] Go.wp_at_zero Go.wp_at_succ
def pW (f:Nat->Int) (X:Int):Nat->Int:=
 if je X * je X % Pr=X % Pr then (if je X % Pr % 2=0 then JA f else iJ (JA f)) else (if (je X * rV) % Pr % 2=0 then aU (JA f) rT else iJ (aU (JA f) rT))
theorem Om {f:Nat->Int} {X:Int} (h:je X * je X % Pr=X % Pr) (h':je X % Pr % 2=0):pW f X=JA f:=by unfold pW;rw[if_pos h,if_pos h']
theorem Ol {f:Nat->Int} {X:Int} (h:je X * je X % Pr=X % Pr) (h':je X % Pr % 2=1):pW f X=iJ (JA f):=by unfold pW;rw[if_pos h,if_neg aH]
theorem Oj {f:Nat->Int} {X:Int} (h:¬ je X * je X % Pr=X % Pr) (h':(je X * rV) % Pr % 2=0):pW f X=aU (JA f) rT:=by unfold pW;rw[if_neg h,if_pos h']
theorem Oi {f:Nat->Int} {X:Int} (h:¬ je X * je X % Pr=X % Pr) (h':(je X * rV) % Pr % 2=1):pW f X=iJ (aU (JA f) rT):=by unfold pW;rw[if_neg h,if_neg aH]
theorem JC {f:Nat->Int} {X:Int} (hf:Fe f X) (QS:qQ X=true):∃R,Fe (pW f X) R/\R * R % Pr=X % Pr/\R % Pr % 2=0:=by
 by_cases hq:je X * je X % Pr=X % Pr
 ·rcases(by omega:je X % Pr % 2=0\/je X % Pr % 2=1) with ho | ho
  ·rw[Om hq ho];exact⟨_,Fq hf,hq,ho⟩
  ·rw[Ol hq ho];exact⟨_,(Fq hf).iJ,Ue hq,Ka ho⟩
 ·have hq2:=(Jz QS).resolve_left hq;rcases(by omega:(je X * rV) % Pr % 2=0\/(je X * rV) % Pr % 2=1) with ho | ho
  ·rw[Oj hq ho];exact⟨_,(Fq hf).aU Fu,hq2,ho⟩
  ·rw[Oi hq ho];exact⟨_,((Fq hf).aU Fu).iJ,Ue hq2,Ka ho⟩
theorem Nh (f:Nat->Int) (X:Int) (hf:Fe f X) (QS:qQ X=true) (w:World):
  Calls Tryz.prog 252 #[El f] w fun e w'=>e=.returned (.tuple #[El (pW f X),.bool true])/\Below w.heap.size w w':=by
 have HF:=ak hf;have Xe:=ak QS;clear hf QS;unfold El
 go_enter Tryz.func252,Tryz.ntmps252
 go_upto_region 1 with(fail)
 refine aJ (fun w1=>aQ .i64 w1 w.heap.size 16 f/\aQ .i64 w1 (w.heap.size+1) 16 (fun _=>0)/\Below w.heap.size w w1)
  ⟨aQ.alloc (bU (by first | omega | (simp<;> omega)) (by rfl)) _,bU (by first | omega | (simp<;> omega)) (by rfl),((bT _ _).alloc (bB _) _).alloc aR _⟩ ?_
 rintro w1 ⟨hA,hZ,aA⟩
 refine bG (n:=31) aS aS aS rfl
  (gZ [(4,3)]) (eZ [(4,3)]) (fun _=>arr .i64 16 (fun _=>0)) (fun _=>(arr .i64 16 (JA f))) (fun _=>191) (fun _=>4)
  (fun ii vv _=>(match ii with | 0=>vv=.agg (arr .i64 16 (f)) | 1=>vv=.agg (arr .u8 32 (dg 256 (((PN+3) / 8:Nat):Int))) | 2=>vv=.agg (arr .i64 16 (JA f)) | _=>True)) (fun _ _=>True) (fun _ _ _=>trivial) (fun _ _ _ _ _ _ _=>trivial) (fun _ _ _ _ h _=>h)
  (fJ rfl) (dU rfl) ?_ ?_ ?_ ?_
 ·refine cB ?_;refine⟨?_,?_,?_,(fun h=>by cases h),(fun _ h=>by cases h),trivial⟩
  ·intro _ _ a w2 hB hF hd;exact aO <| aT (aF rfl cZ rfl bQ (hF.same 1 rfl) (hA.below hB hA.lt)) rfl
  ·intro _ _ a w2 hB hF hd;refine aO <| aD _ _ _ rfl Tryz.call248 _ (args2 rfl rfl) aR ((EK w2).mono ?_);rintro e w3 ⟨rfl,hb⟩;exact⟨_,rfl,rfl,hb⟩
  ·intro _ _ a w2 hB hF hd;refine aO <| aD _ _ _ rfl Tryz.call247 _ (args2 (hd 0 _ rfl rfl rfl (aj rfl)) (hd 1 _ rfl rfl rfl (aj rfl))) aR ((mH f X (((PN+3) / 8:Nat):Int) HF.out qm.1 qm.2 w2).mono ?_);rintro e w3 ⟨rfl,hb⟩;exact⟨_,rfl,rfl,hb⟩
 ·refine cB ?_;refine⟨(fun h=>by cases h),(fun h=>by cases h),(fun h=>by cases h),?_,(fun h=>by cases h),trivial⟩
  ·exact fun _=>⟨rfl,rfl,fun a w2 K h=>aZ rfl rfl Tryz.zeroValue191 aR h⟩
 ·refine cB ?_;refine⟨(fun _ h=>by cases h),(fun _ h=>by cases h),(fun _ h=>by cases h),(fun _ h=>by cases h),?_,trivial⟩
  ·intro p hp;obtain rfl:3=p:=iy hp;exact⟨rfl,rfl,⟨_,rfl⟩,aj rfl,fun a w2 b K hB hF hd hx hb h=>bJ rfl rfl bQ hx (hd 2 _ rfl rfl rfl (aj rfl)) hb h⟩
 ·intro a w3 blk hB hF hS hv hfin dw;obtain⟨v3,Ah,Le⟩:=hv 3 _ rfl rfl;have ha:=aP rfl rfl hF [_,_,_,_,undef] rfl ⟨hS 0 _ rfl rfl rfl,hS 1 _ rfl rfl rfl,hS 2 _ rfl rfl rfl,v3,trivial,trivial⟩;have f3:=hfin 4 _ 3 rfl rfl;simp only[puts,Act.put,dK,dL,dM] at ha;subst ha;have V3:aQ .i64 w3 (blk 3) 16 (JA f):=⟨_,f3⟩
  clear hS hv hfin dw hF v3 f3;have mU:=hA.below hB hA.lt;have hZ1:=hZ.below hB hZ.lt;have eP:=aA.trans (hB.mono aA.size);have lb:=aA.size;have lz:=hZ.lt;have HR:=ak (Fq HF.out);obtain⟨b,hb⟩:∃b,b=blk 3:=⟨_,rfl⟩
  obtain⟨g,hg⟩:∃g,g=JA f:=⟨_,rfl⟩
  rw[<-hb] at V3 Ah ⊢;rw[<-hg] at HR V3 ⊢;have hr:=V3;have hbw:w.heap.size+2<=b:=by omega
  have HG:=ak hg;clear hb hg V3 Ah Le hA hZ aA hB lb lz;by_cases hq:je X * je X % Pr=X % Pr
  ·have HQ:=ak hq;clear hq;go_upto_region 2 with(fail)
   refine aX (n:=31) aS aS aS rfl
    (fun ii vv _=>(match ii with | 0 | 1=>vv=.agg (arr .i64 16 (g)) | 2=>vv=.agg (arr .i64 16 (aU (g) (g))) | 3=>vv=.agg (arr .i64 16 (f)) | 4=>vv=.bool true | 5=>vv=.bool false | _=>True))
    (fun w w'=>Below w.heap.size w w') (fun _ _ h=>h) (fun _ _ _ _ h _=>h) ?_ ?_
   ·refine cB ?_;refine⟨?_,?_,?_,?_,?_,?_,trivial⟩
    ·intro a w2 hB hF hd;exact aO <| aT (aF rfl cZ rfl bQ (hF.same 4 rfl) (hr.below hB hr.lt)) rfl
    ·intro a w2 hB hF hd;exact aO <| aT (aF rfl cZ rfl bQ (hF.same 4 rfl) (hr.below hB hr.lt)) rfl
    ·intro a w2 hB hF hd;refine aO <| aD _ _ _ rfl Tryz.call203 _ (args2 (hd 0 _ rfl (aj rfl)) (hd 1 _ rfl (aj rfl))) aR ((bV (g) (g) (je X) (je X) HR.out HR.out w2).mono ?_);rintro e w3 ⟨rfl,hb⟩;exact⟨_,rfl,rfl,hb⟩
    ·intro a w2 hB hF hd;exact aO <| aT (aF rfl cZ rfl bQ (hF.same 1 rfl) (mU.below hB mU.lt)) rfl
    ·intro a w2 hB hF hd;refine aO <| aD _ _ _ rfl Tryz.call210 _ (args2 (hd 2 _ rfl (aj rfl)) (hd 3 _ rfl (aj rfl))) aR ((tC (aU (g) (g)) (f) ((je X) * (je X)) X (HR.out.aU HR.out) HF.out HQ.out w2).mono ?_);rintro e w3 ⟨rfl,hb⟩;exact⟨_,rfl,rfl,hb⟩
    ·intro a w2 hB hF hd;exact aO <| aT (iO rfl (hd 4 _ rfl (aj rfl))) rfl
   ·intro a w4 hB hF hS;have ha:=aP rfl rfl hF [_,_,_,_,_,_] rfl ⟨hS 0 _ rfl,hS 1 _ rfl,hS 2 _ rfl,hS 3 _ rfl,hS 4 _ rfl,hS 5 _ rfl,trivial⟩;simp only[puts,Act.put,dK,dL,dM] at ha;subst ha;clear hS hF;have iK:=mU.below hB mU.lt;have gy:=hZ1.below hB hZ1.lt;have dP:=eP.trans (hB.mono eP.size);have hr':=hr.below hB hr.lt;clear hr;have hr:=hr';clear hr' mU hZ1 eP hB;go_upto_region 4 with(fail)
    refine aX (n:=31) aS aS aS rfl
     (fun ii vv _=>(match ii with | 0 | 1=>vv=.agg (arr .i64 16 (g)) | 2=>vv=.agg (arr .i64 16 (aU (g) (g))) | 3=>vv=.agg (arr .i64 16 (f)) | 4=>vv=.bool true | 5=>vv=.bool false | _=>True))
     (fun w w'=>Below w.heap.size w w') (fun _ _ h=>h) (fun _ _ _ _ h _=>h) ?_ ?_
    ·refine cB ?_;refine⟨?_,?_,?_,?_,?_,?_,trivial⟩
     ·intro a w2 hB hF hd;exact aO <| aT (aF rfl cZ rfl bQ (hF.same 4 rfl) (hr.below hB hr.lt)) rfl
     ·intro a w2 hB hF hd;exact aO <| aT (aF rfl cZ rfl bQ (hF.same 4 rfl) (hr.below hB hr.lt)) rfl
     ·intro a w2 hB hF hd;refine aO <| aD _ _ _ rfl Tryz.call203 _ (args2 (hd 0 _ rfl (aj rfl)) (hd 1 _ rfl (aj rfl))) aR ((bV (g) (g) (je X) (je X) HR.out HR.out w2).mono ?_);rintro e w3 ⟨rfl,hb⟩;exact⟨_,rfl,rfl,hb⟩
     ·intro a w2 hB hF hd;exact aO <| aT (aF rfl cZ rfl bQ (hF.same 1 rfl) (iK.below hB iK.lt)) rfl
     ·intro a w2 hB hF hd;refine aO <| aD _ _ _ rfl Tryz.call210 _ (args2 (hd 2 _ rfl (aj rfl)) (hd 3 _ rfl (aj rfl))) aR ((tC (aU (g) (g)) (f) ((je X) * (je X)) X (HR.out.aU HR.out) HF.out HQ.out w2).mono ?_);rintro e w3 ⟨rfl,hb⟩;exact⟨_,rfl,rfl,hb⟩
     ·intro a w2 hB hF hd;exact aO <| aT (iO rfl (hd 4 _ rfl (aj rfl))) rfl
    ·intro a w5 hB hF hS;have ha:=aP rfl rfl hF [_,_,_,_,_,_] rfl ⟨hS 0 _ rfl,hS 1 _ rfl,hS 2 _ rfl,hS 3 _ rfl,hS 4 _ rfl,hS 5 _ rfl,trivial⟩;simp only[puts,Act.put,dK,dL,dM] at ha;subst ha;clear hS hF;have hA3:=iK.below hB iK.lt;have jy:=gy.below hB gy.lt;have fP:=dP.trans (hB.mono dP.size);have hr':=hr.below hB hr.lt;clear hr;have hr:=hr';clear hr' iK gy dP hB;rcases(by omega:(je X) % Pr % 2=0\/(je X) % Pr % 2=1) with ho | ho
     ·have kM:=ak ho;clear ho;go_upto_region 6 with(fail)
      refine aX (n:=31) aS aS aS rfl
       (fun ii vv _=>(match ii with | 0=>vv=.agg (arr .i64 16 (g)) | 1=>vv=.bool false | _=>True))
       (fun w w'=>Below w.heap.size w w') (fun _ _ h=>h) (fun _ _ _ _ h _=>h) ?_ ?_
      ·refine cB ?_;refine⟨?_,?_,trivial⟩
       ·intro a w2 hB hF hd;exact aO <| aT (aF rfl cZ rfl bQ (hF.same 4 rfl) (hr.below hB hr.lt)) rfl
       ·intro a w2 hB hF hd;refine aO <| aD _ _ _ rfl Tryz.call222 _ (args1 (hd 0 _ rfl (aj rfl))) aR ((BN (g) (je X) HR.out kM.out w2).mono ?_);rintro e w3 ⟨rfl,hb⟩;exact⟨_,rfl,rfl,hb⟩
      ·intro a w9 hB hF hS;have ha:=aP rfl rfl hF [_,_] rfl ⟨hS 0 _ rfl,hS 1 _ rfl,trivial⟩;simp only[puts,Act.put,dK,dL,dM] at ha;subst ha;clear hS hF;have OM:=jy.below hB jy.lt;have hbz:=fP.trans (hB.mono fP.size);have hrz:=hr.below hB hr.lt;clear hr hA3 jy fP hB
       go_wp2_with (first
        | (refine bN rfl 191 _ rfl .i64 b 16 _ cZ rfl bQ rfl hrz ?_)
        | (refine aM rfl 191 _ _ rfl .i64 (w.heap.size+1) 16 (fun _=>0) _ bQ rfl rfl OM ?_))
       exact bodyPost_ret (eD rfl _ _ .i64 (w.heap.size+1) 16 _ rfl (OM.setRow _ _) cZ rfl bQ) rfl ⟨by rw[Om HQ.out kM.out,←HG.out];rfl,aC hbz aH _⟩
     ·have kM:=ak ho;clear ho;go_upto_region 6 with(fail)
      refine aX (n:=31) aS aS aS rfl
       (fun ii vv _=>(match ii with | 0=>vv=.agg (arr .i64 16 (g)) | 1=>vv=.bool true | _=>True))
       (fun w w'=>Below w.heap.size w w') (fun _ _ h=>h) (fun _ _ _ _ h _=>h) ?_ ?_
      ·refine cB ?_;refine⟨?_,?_,trivial⟩
       ·intro a w2 hB hF hd;exact aO <| aT (aF rfl cZ rfl bQ (hF.same 4 rfl) (hr.below hB hr.lt)) rfl
       ·intro a w2 hB hF hd;refine aO <| aD _ _ _ rfl Tryz.call222 _ (args1 (hd 0 _ rfl (aj rfl))) aR ((yF (g) (je X) HR.out kM.out w2).mono ?_);rintro e w3 ⟨rfl,hb⟩;exact⟨_,rfl,rfl,hb⟩
      ·intro a w9 hB hF hS;have ha:=aP rfl rfl hF [_,_] rfl ⟨hS 0 _ rfl,hS 1 _ rfl,trivial⟩;simp only[puts,Act.put,dK,dL,dM] at ha;subst ha;clear hS hF;have OM:=jy.below hB jy.lt;have hbz:=fP.trans (hB.mono fP.size);have hrz:=hr.below hB hr.lt;clear hr hA3 jy fP hB;go_wp2_with (refine bN rfl 191 _ rfl .i64 b 16 _ cZ rfl bQ rfl hrz ?_);refine(nP (g) ((je X)) HR.out _).mono ?_;rintro e w10 ⟨rfl,Ho⟩;have hZy:=OM.kept Ho;have hby:=hbz.trans (Ho.mono hbz.size);have hry:=hrz.kept Ho;clear OM hbz hrz Ho;go_upto_region 8 with(refine aM rfl 191 _ _ rfl .i64 b 16 _ _ bQ rfl rfl hry ?_);refine aJ (fun Xt=>aQ .i64 Xt b 16 (iJ (g))/\aQ .i64 Xt (w.heap.size+1) 16 (fun _=>0)/\Below w.heap.size w Xt) ⟨aQ.setRow hry _ _,aQ.aG hZy _ aH _,aC hby aH _⟩ ?_;rintro Xt ⟨hr2,gy,dP⟩;clear hZy hby hry
       go_wp2_with (first
        | (refine bN rfl 191 _ rfl .i64 b 16 _ cZ rfl bQ rfl hr2 ?_)
        | (refine aM rfl 191 _ _ rfl .i64 (w.heap.size+1) 16 (fun _=>0) _ bQ rfl rfl gy ?_))
       exact bodyPost_ret (eD rfl _ _ .i64 (w.heap.size+1) 16 _ rfl (gy.setRow _ _) cZ rfl bQ) rfl ⟨by rw[Ol HQ.out kM.out,←HG.out];rfl,aC dP aH _⟩
  ·have hq2:=(Jz Xe.out).resolve_left hq;have HQ:=ak hq;have Pj:=ak hq2;have HNQ:=ak hq;clear hq hq2;go_upto_region 2 with(fail)
   refine aX (n:=31) aS aS aS rfl
    (fun ii vv _=>(match ii with | 0 | 1=>vv=.agg (arr .i64 16 (g)) | 2=>vv=.agg (arr .i64 16 (aU (g) (g))) | 3=>vv=.agg (arr .i64 16 (f)) | 4=>vv=.bool false | 5=>vv=.bool true | _=>True))
    (fun w w'=>Below w.heap.size w w') (fun _ _ h=>h) (fun _ _ _ _ h _=>h) ?_ ?_
   ·refine cB ?_;refine⟨?_,?_,?_,?_,?_,?_,trivial⟩
    ·intro a w2 hB hF hd;exact aO <| aT (aF rfl cZ rfl bQ (hF.same 4 rfl) (hr.below hB hr.lt)) rfl
    ·intro a w2 hB hF hd;exact aO <| aT (aF rfl cZ rfl bQ (hF.same 4 rfl) (hr.below hB hr.lt)) rfl
    ·intro a w2 hB hF hd;refine aO <| aD _ _ _ rfl Tryz.call203 _ (args2 (hd 0 _ rfl (aj rfl)) (hd 1 _ rfl (aj rfl))) aR ((bV (g) (g) (je X) (je X) HR.out HR.out w2).mono ?_);rintro e w3 ⟨rfl,hb⟩;exact⟨_,rfl,rfl,hb⟩
    ·intro a w2 hB hF hd;exact aO <| aT (aF rfl cZ rfl bQ (hF.same 1 rfl) (mU.below hB mU.lt)) rfl
    ·intro a w2 hB hF hd;refine aO <| aD _ _ _ rfl Tryz.call210 _ (args2 (hd 2 _ rfl (aj rfl)) (hd 3 _ rfl (aj rfl))) aR ((qV (aU (g) (g)) (f) ((je X) * (je X)) X (HR.out.aU HR.out) HF.out HQ.out w2).mono ?_);rintro e w3 ⟨rfl,hb⟩;exact⟨_,rfl,rfl,hb⟩
    ·intro a w2 hB hF hd;exact aO <| aT (iO rfl (hd 4 _ rfl (aj rfl))) rfl
   ·intro a w4 hB hF hS;have ha:=aP rfl rfl hF [_,_,_,_,_,_] rfl ⟨hS 0 _ rfl,hS 1 _ rfl,hS 2 _ rfl,hS 3 _ rfl,hS 4 _ rfl,hS 5 _ rfl,trivial⟩;simp only[puts,Act.put,dK,dL,dM] at ha;subst ha;clear hS hF;have iK:=mU.below hB mU.lt;have gy:=hZ1.below hB hZ1.lt;have dP:=eP.trans (hB.mono eP.size);have hr':=hr.below hB hr.lt;clear hr;have hr:=hr';clear hr' mU hZ1 eP hB;go_upto_region 3 with(fail)
    refine dz (n:=31) (fun i=>i==5) aS aS aS aS rfl
     (fun ii vv _=>(match ii with | 0=>vv=.agg (arr .i64 16 (g)) | 1=>vv=.agg (arr .i64 16 (aW 2)) | 2=>vv=.agg (arr .u8 32 (dg 256 (((PN - 1) / 4:Nat):Int))) | 3=>vv=.agg (arr .i64 16 (rT)) | 4=>vv=.agg (arr .i64 16 (aU (g) (rT))) | _=>True))
     (fun w w'=>Below w.heap.size w w') (fun _ _ h=>h) (fun _ _ _ _ h _=>h)
     (fun _=>b) (fun _=>(arr .i64 16 (g))) (fun _=>(arr .i64 16 (aU (g) (rT))))
     (by intro i j _ _ dx kL gB;simp only[beq_iff_eq] at dx kL;omega)
     (by intro i _ dx;exact(hr).row)
     ?_ ?_ ?_
    ·refine cB ?_;refine⟨?_,?_,?_,?_,?_,(aL),trivial⟩
     ·intro _ a w2 hB hF hd;exact aO <| aT (aF rfl cZ rfl bQ (hF.same 4 rfl) (hr.below hB hr.lt)) rfl
     ·intro _ a w2 hB hF hd;refine aO <| aD _ _ _ rfl Tryz.call200 _ (args1 rfl) aR ((eO 2 w2).mono ?_);rintro e w3 ⟨rfl,hb⟩;exact⟨_,rfl,rfl,hb⟩
     ·intro _ a w2 hB hF hd;refine aO <| aD _ _ _ rfl Tryz.call248 _ (args2 rfl rfl) aR ((EL w2).mono ?_);rintro e w3 ⟨rfl,hb⟩;exact⟨_,rfl,rfl,hb⟩
     ·intro _ a w2 hB hF hd;refine aO <| aD _ _ _ rfl Tryz.call247 _ (args2 (hd 1 _ rfl rfl (aj rfl)) (hd 2 _ rfl rfl (aj rfl))) aR ((mH (aW 2) 2 (((PN - 1) / 4:Nat):Int) Nf qo.1 qo.2 w2).mono ?_);rintro e w3 ⟨rfl,hb⟩;exact⟨_,rfl,rfl,hb⟩
     ·intro _ a w2 hB hF hd;refine aO <| aD _ _ _ rfl Tryz.call203 _ (args2 (hd 0 _ rfl rfl (aj rfl)) (hd 3 _ rfl rfl (aj rfl))) aR ((bV (g) (rT) (je X) rV HR.out Fu w2).mono ?_);rintro e w3 ⟨rfl,hb⟩;exact⟨_,rfl,rfl,hb⟩
    ·refine cB ?_;refine⟨(aL),(aL),(aL),(aL),(aL),?_,trivial⟩
     ·intro _ a w1 w2 K hB hF hS hr hK;exact bE 191 _ _ rfl .i64 (b) 16 (g) (aU (g) (rT)) bQ (hF.same 4 rfl) (hS 4 _ rfl rfl) hr hK
    ·intro a wf w6 hB hF hS hfil;have other:∀{k:IntKind} {qb n:Nat} {f:Nat->Int},qb≠b->aQ k wf qb n f->aQ k w6 qb n f:=fun {k qb n f} e0 hA=>hfil.arr (by intro i _ dx;simp only[mP,beq_iff_eq] at dx;subst dx<;> ((try simp only[]);(try dsimp only);omega)) hA;have dI:∀{B:Nat} {w0:World},B<=b->Below B w0 wf->Below B w0 w6:=fun {B w0} e0 hA=>hfil.below (by intro i _ dx;simp only[mP,beq_iff_eq] at dx;subst dx<;> ((try simp only[]);(try dsimp only);omega)) hA;have V5:aQ .i64 w6 (b) 16 (aU (g) (rT)):=hfil.at 5 aN rfl;have qh:=hfil.size;clear hfil;have ha:=aP rfl rfl hF [_,_,_,_,_,undef] rfl ⟨hS 0 _ rfl rfl,hS 1 _ rfl rfl,hS 2 _ rfl rfl,hS 3 _ rfl rfl,hS 4 _ rfl rfl,trivial,trivial⟩;simp only[puts,Act.put,dK,dL,dM] at ha;subst ha;clear hS hF;have hA3:=other aH (iK.below hB iK.lt);have jy:=other aH (gy.below hB gy.lt);have fP:=dI aH (dP.trans (hB.mono dP.size));have hr2:=V5;clear hr;have hr:=hr2;clear hr2 V5 iK gy dP hB other dI;have HR2:=ak (HR.out.aU Fu);go_upto_region 4 with(fail)
     refine aX (n:=31) aS aS aS rfl
      (fun ii vv _=>(match ii with | 0 | 1=>vv=.agg (arr .i64 16 (aU g rT)) | 2=>vv=.agg (arr .i64 16 (aU (aU g rT) (aU g rT))) | 3=>vv=.agg (arr .i64 16 (f)) | 4=>vv=.bool true | 5=>vv=.bool false | _=>True))
      (fun w w'=>Below w.heap.size w w') (fun _ _ h=>h) (fun _ _ _ _ h _=>h) ?_ ?_
     ·refine cB ?_;refine⟨?_,?_,?_,?_,?_,?_,trivial⟩
      ·intro a w2 hB hF hd;exact aO <| aT (aF rfl cZ rfl bQ (hF.same 4 rfl) (hr.below hB hr.lt)) rfl
      ·intro a w2 hB hF hd;exact aO <| aT (aF rfl cZ rfl bQ (hF.same 4 rfl) (hr.below hB hr.lt)) rfl
      ·intro a w2 hB hF hd;refine aO <| aD _ _ _ rfl Tryz.call203 _ (args2 (hd 0 _ rfl (aj rfl)) (hd 1 _ rfl (aj rfl))) aR ((bV (aU g rT) (aU g rT) (je X * rV) (je X * rV) HR2.out HR2.out w2).mono ?_);rintro e w3 ⟨rfl,hb⟩;exact⟨_,rfl,rfl,hb⟩
      ·intro a w2 hB hF hd;exact aO <| aT (aF rfl cZ rfl bQ (hF.same 1 rfl) (hA3.below hB hA3.lt)) rfl
      ·intro a w2 hB hF hd;refine aO <| aD _ _ _ rfl Tryz.call210 _ (args2 (hd 2 _ rfl (aj rfl)) (hd 3 _ rfl (aj rfl))) aR ((tC (aU (aU g rT) (aU g rT)) (f) ((je X * rV) * (je X * rV)) X (HR2.out.aU HR2.out) HF.out Pj.out w2).mono ?_);rintro e w3 ⟨rfl,hb⟩;exact⟨_,rfl,rfl,hb⟩
      ·intro a w2 hB hF hd;exact aO <| aT (iO rfl (hd 4 _ rfl (aj rfl))) rfl
     ·intro a w6 hB hF hS;have ha:=aP rfl rfl hF [_,_,_,_,_,_] rfl ⟨hS 0 _ rfl,hS 1 _ rfl,hS 2 _ rfl,hS 3 _ rfl,hS 4 _ rfl,hS 5 _ rfl,trivial⟩;simp only[puts,Act.put,dK,dL,dM] at ha;subst ha;clear hS hF;have Kz:=hA3.below hB hA3.lt;have xq:=jy.below hB jy.lt;have jd:=fP.trans (hB.mono fP.size);have hr':=hr.below hB hr.lt;clear hr;have hr:=hr';clear hr' hA3 jy fP hB;rcases(by omega:(je X * rV) % Pr % 2=0\/(je X * rV) % Pr % 2=1) with ho | ho
      ·have kM:=ak ho;clear ho;go_upto_region 6 with(fail)
       refine aX (n:=31) aS aS aS rfl
        (fun ii vv _=>(match ii with | 0=>vv=.agg (arr .i64 16 (aU g rT)) | 1=>vv=.bool false | _=>True))
        (fun w w'=>Below w.heap.size w w') (fun _ _ h=>h) (fun _ _ _ _ h _=>h) ?_ ?_
       ·refine cB ?_;refine⟨?_,?_,trivial⟩
        ·intro a w2 hB hF hd;exact aO <| aT (aF rfl cZ rfl bQ (hF.same 4 rfl) (hr.below hB hr.lt)) rfl
        ·intro a w2 hB hF hd;refine aO <| aD _ _ _ rfl Tryz.call222 _ (args1 (hd 0 _ rfl (aj rfl))) aR ((BN (aU g rT) (je X * rV) HR2.out kM.out w2).mono ?_);rintro e w3 ⟨rfl,hb⟩;exact⟨_,rfl,rfl,hb⟩
       ·intro a w9 hB hF hS;have ha:=aP rfl rfl hF [_,_] rfl ⟨hS 0 _ rfl,hS 1 _ rfl,trivial⟩;simp only[puts,Act.put,dK,dL,dM] at ha;subst ha;clear hS hF;have OM:=xq.below hB xq.lt;have hbz:=jd.trans (hB.mono jd.size);have hrz:=hr.below hB hr.lt;clear hr Kz xq jd hB
        go_wp2_with (first
         | (refine bN rfl 191 _ rfl .i64 b 16 _ cZ rfl bQ rfl hrz ?_)
         | (refine aM rfl 191 _ _ rfl .i64 (w.heap.size+1) 16 (fun _=>0) _ bQ rfl rfl OM ?_))
        exact bodyPost_ret (eD rfl _ _ .i64 (w.heap.size+1) 16 _ rfl (OM.setRow _ _) cZ rfl bQ) rfl ⟨by rw[Oj HNQ.out kM.out,←HG.out];rfl,aC hbz aH _⟩
      ·have kM:=ak ho;clear ho;go_upto_region 6 with(fail)
       refine aX (n:=31) aS aS aS rfl
        (fun ii vv _=>(match ii with | 0=>vv=.agg (arr .i64 16 (aU g rT)) | 1=>vv=.bool true | _=>True))
        (fun w w'=>Below w.heap.size w w') (fun _ _ h=>h) (fun _ _ _ _ h _=>h) ?_ ?_
       ·refine cB ?_;refine⟨?_,?_,trivial⟩
        ·intro a w2 hB hF hd;exact aO <| aT (aF rfl cZ rfl bQ (hF.same 4 rfl) (hr.below hB hr.lt)) rfl
        ·intro a w2 hB hF hd;refine aO <| aD _ _ _ rfl Tryz.call222 _ (args1 (hd 0 _ rfl (aj rfl))) aR ((yF (aU g rT) (je X * rV) HR2.out kM.out w2).mono ?_);rintro e w3 ⟨rfl,hb⟩;exact⟨_,rfl,rfl,hb⟩
       ·intro a w9 hB hF hS;have ha:=aP rfl rfl hF [_,_] rfl ⟨hS 0 _ rfl,hS 1 _ rfl,trivial⟩;simp only[puts,Act.put,dK,dL,dM] at ha;subst ha;clear hS hF;have OM:=xq.below hB xq.lt;have hbz:=jd.trans (hB.mono jd.size);have hrz:=hr.below hB hr.lt;clear hr Kz xq jd hB;go_wp2_with (refine bN rfl 191 _ rfl .i64 b 16 _ cZ rfl bQ rfl hrz ?_);refine(nP (aU g rT) ((je X * rV)) HR2.out _).mono ?_;rintro e w10 ⟨rfl,Ho⟩;have hZy:=OM.kept Ho;have hby:=hbz.trans (Ho.mono hbz.size);have hry:=hrz.kept Ho;clear OM hbz hrz Ho;go_upto_region 8 with(refine aM rfl 191 _ _ rfl .i64 b 16 _ _ bQ rfl rfl hry ?_);refine aJ (fun Xt=>aQ .i64 Xt b 16 (iJ (aU g rT))/\aQ .i64 Xt (w.heap.size+1) 16 (fun _=>0)/\Below w.heap.size w Xt) ⟨aQ.setRow hry _ _,aQ.aG hZy _ aH _,aC hby aH _⟩ ?_;rintro Xt ⟨hr2,gy,dP⟩;clear hZy hby hry
        go_wp2_with (first
         | (refine bN rfl 191 _ rfl .i64 b 16 _ cZ rfl bQ rfl hr2 ?_)
         | (refine aM rfl 191 _ _ rfl .i64 (w.heap.size+1) 16 (fun _=>0) _ bQ rfl rfl gy ?_))
        exact bodyPost_ret (eD rfl _ _ .i64 (w.heap.size+1) 16 _ rfl (gy.setRow _ _) cZ rfl bQ) rfl ⟨by rw[Oi HNQ.out kM.out,←HG.out];rfl,aC dP aH _⟩
end Go.Proofs.YtpcjekgfnfjbpaaGreat
