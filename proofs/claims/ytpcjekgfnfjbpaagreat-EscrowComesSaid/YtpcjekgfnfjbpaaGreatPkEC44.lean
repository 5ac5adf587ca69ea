/- Part 44 of EscrowComes; conditions: in each theorem. -/
import Derived.Test.YtpcjekgfnfjbpaaGreatPkEC41
import Derived.Deep.LoopGhost
import Derived.OpenShut
set_option linter.unusedVariables false
set_option linter.unusedSimpArgs false
set_option maxRecDepth 100000
set_option maxHeartbeats 25600000
namespace Go.bI
open Go.RowKit
theorem IX (S:Int):∀i,i<32->upd (upd (dg 256 S) 0 (dg 256 S 0 / 8 * 8)) 31 (dg 256 S 31 % 64+64) i=dg 256 (fq S) i:=by
 have key:∀i:Fin 32,upd (upd (dg 256 S) 0 (dg 256 S 0 / 8 * 8)) 31 (dg 256 S 31 % 64+64) i.val=dg 256 (fq S) i.val:=by
  intro ⟨i,hi⟩;have e:∀j,dg 256 (fq S) j=(S % 2 ^ 254 / 8 * 8+2 ^ 254) / 256 ^ j % 256:=fun _=>rfl;have e':∀j,dg 256 S j=S / 256 ^ j % 256:=fun _=>rfl;rcases i with _ | _ | _ | _ | _ | _ | _ | _ | _ | _ | _ | _ | _ | _ | _ | _ | _ | _ | _ | _ | _ | _ | _ | _ | _ | _ | _ | _ | _ | _ | _ | _ | i
  all_goals first
   | omega
   | (simp only[upd,e,e'];simp;omega)
 exact fun i h=>key ⟨i,h⟩
theorem Hg {P:Program} {fn:Func} {p q p2 q2:Tmp} {T:TypeId} (h:fn.results=#[.cell p T,.cell q T,.cell p2 T,.cell q2 T]) (tmps:Array Value) (w:World) (k:IntKind) (n:Nat) {d:TypeDesc} (hu:P.underlying T=some d) (hd:EL d=true) (hi:(P.info? T).map (·.size)=some n)
  (b1 b2 b3 b4:Nat) (f1 f2 f3 f4:Nat->Int) (hp:tmps.getD p undef=.pointer (some ⟨b1,0,none⟩)) (ha:aK k w b1 n f1) (hp2:tmps.getD q undef=.pointer (some ⟨b2,0,none⟩)) (ha2:aK k w b2 n f2)
  (hp3:tmps.getD p2 undef=.pointer (some ⟨b3,0,none⟩)) (ha3:aK k w b3 n f3) (hp4:tmps.getD q2 undef=.pointer (some ⟨b4,0,none⟩)) (ha4:aK k w b4 n f4):
  (results fn tmps).run P w=.ok (.tuple #[.agg (arr k n f1),.agg (arr k n f2),.agg (arr k n f3),.agg (arr k n f4)]) w:=by
 obtain⟨t,ht⟩:=ha;obtain⟨t2,ht2⟩:=ha2;obtain⟨t3,ht3⟩:=ha3;obtain⟨t4,ht4⟩:=ha4;have e1:tmps[p]?.getD undef=.pointer (some ⟨b1,0,none⟩):=by simpa using hp
 have e2:tmps[q]?.getD undef=.pointer (some ⟨b2,0,none⟩):=by simpa using hp2
 have e3:tmps[p2]?.getD undef=.pointer (some ⟨b3,0,none⟩):=by simpa using hp3
 have e4:tmps[q2]?.getD undef=.pointer (some ⟨b4,0,none⟩):=by simpa using hp4
 have key:∀(b t:Nat) (f:Nat->Int),w.heap[b]? =some (.cells (arr k n f) t (0,0))->(loadVar T ⟨b,0,none⟩).run P w=.ok (.agg (arr k n f)) w:=fun b t f hb=>run_loadVar_row w b t T (arr k n f) (0,0) _ hb hu (by cases d<;> first | rfl | cases hd) (by rw[hi,iZ]);simp[results,h,e1,e2,e3,e4,asAddr,key _ _ _ ht,key _ _ _ ht2,key _ _ _ ht3,key _ _ _ ht4]
theorem adw (x:Int) (h0:0<=x) (h1:x<256):bits .and .u8 x 248=x / 8 * 8:=by
 obtain⟨n,rfl⟩:=Gl h0;have key:∀n:Fin 256,bits .and .u8 ((n.val:Nat):Int) 248=(n.val:Int) / 8 * 8:=by decide+kernel
 exact key ⟨n,by omega⟩
theorem adx (x:Int) (h0:0<=x) (h1:x<256):bits .and .u8 x 127=x % 128:=by
 obtain⟨n,rfl⟩:=Gl h0;have key:∀n:Fin 256,bits .and .u8 ((n.val:Nat):Int) 127=(n.val:Int) % 128:=by decide+kernel
 exact key ⟨n,by omega⟩
theorem ajS (x:Int) (h0:0<=x) (h1:x<128):bits .or .u8 x 64=x % 64+64:=by
 obtain⟨n,rfl⟩:=Gl h0;have key:∀n:Fin 128,bits .or .u8 ((n.val:Nat):Int) 64=(n.val:Int) % 64+64:=by decide+kernel
 exact key ⟨n,by omega⟩
theorem Ko {P:Program} {w:World} {a:Act} {o:Oper} {x y:Operand} {t1 t2:TypeId} {k:IntKind} {m:Int} (ho:o.op=.call { callee:=.builtin .max,args:=#[x,y],argTypes:=#[t1,t2] }) (hx:a.eval x=.int k m) (hy:a.eval y=.int k 0) (hm:0<=m):
  (execOp a.eval o).run P w=.ok (.value (.int k m)) w:=by
 unfold execOp;simp only[ho,resolve,invoke,builtin,uV,wL,vS,vT,List.map_cons,List.map_nil,hx,hy];simp[go_sem,Builtin.max_,Builtin.max2];omega
def bA (p:Bool) (f g:Nat->Int):Nat->Int:=if p then g else f
theorem Bn {p:Bool} {f g:Nat->Int} {X Y:Int} (hf:Fe f X) (hg:Fe g Y):Fe (bA p f g) (if p then Y else X):=by cases p<;> assumption
end Go.bI
namespace Go.Proofs.YtpcjekgfnfjbpaaGreat
open Go.RowKit Go.bI Go.ChangeShapes
attribute [local go_sem ↓] Go.wp_at_zero Go.wp_at_succ
theorem acG:(#[.int .u8 0,.int .u8 0,.int .u8 0,.int .u8 0,.int .u8 0,.int .u8 0,.int .u8 0,.int .u8 0,.int .u8 0,.int .u8 0,.int .u8 0,.int .u8 0,.int .u8 0,.int .u8 0,.int .u8 0,.int .u8 0,.int .u8 0,.int .u8 0,.int .u8 0,.int .u8 0,.int .u8 0,.int .u8 0,.int .u8 0,.int .u8 0,.int .u8 0,.int .u8 0,.int .u8 0,.int .u8 0,.int .u8 0,.int .u8 0,.int .u8 0,.int .u8 0] :Array Value)=arr .u8 32 (dg 256 0):=by kernel_rfl
theorem UL {a:Act} (w:World):(Instr.build 22 ((#[] :Array (Nat × Operand)).map fun(i,x)=>(i,a.eval x))).run Tryz.prog w=.ok (.agg (arr .u8 32 (dg 256 0))) w:=by
 simp only[vT,List.map_nil];rw[Go.run_build w _ _ #[.int .u8 0,.int .u8 0,.int .u8 0,.int .u8 0,.int .u8 0,.int .u8 0,.int .u8 0,.int .u8 0,.int .u8 0,.int .u8 0,.int .u8 0,.int .u8 0,.int .u8 0,.int .u8 0,.int .u8 0,.int .u8 0,.int .u8 0,.int .u8 0,.int .u8 0,.int .u8 0,.int .u8 0,.int .u8 0,.int .u8 0,.int .u8 0,.int .u8 0,.int .u8 0,.int .u8 0,.int .u8 0,.int .u8 0,.int .u8 0,.int .u8 0,.int .u8 0] aQ,acG]
theorem RG (X:Int):Fe (dg 65536 (X % 2 ^ 255)) (X % 2 ^ 255):=Fe.dg (XZ X).1 (XZ X).2 rfl
end Go.Proofs.YtpcjekgfnfjbpaaGreat
namespace Go.Proofs.YtpcjekgfnfjbpaaGreat
open Go.RowKit Go.bI
attribute [local go_sem ↓] Go.wp_at_zero Go.wp_at_succ
theorem Xo (f:Nat->Int) (N:Int) (m:Nat) (h:m<256):Ju f N (256 - m)=if N / 2 ^ m % 2=1 then aS (aS (Ju f N (256 - (m+1))) (Ju f N (256 - (m+1)))) f else aS (Ju f N (256 - (m+1))) (Ju f N (256 - (m+1))):=by
 obtain⟨k,hk⟩:∃k,256 - m=k+1:=⟨255 - m,by omega⟩
 rw[hk,show 256 - (m+1)=k by omega];show (if N / 2 ^ (255 - k) % 2=1 then _ else _)= _;rw[show 255 - k=m by omega]
theorem tX (f:Nat->Int) (X N:Int) (hf:Fe f X) (h0:0<=N) (h1:N<2 ^ 256) (w:World):
  Calls Tryz.prog 247 #[El f,.agg (arr .u8 32 (dg 256 N))] w fun e w'=>e=.returned (El (Hw f N))/\Below w.heap.size w w':=by
 have HF:=ay hf;have H0:=ay h0;have H1:=ay h1;clear hf h0 h1;unfold El
 go_enter Tryz.func247,Tryz.ntmps247
 go_wp2_with fail;refine(fI 1 _).mono ?_;rintro e w1 ⟨rfl,gX⟩;have vO:aK .i64 w1 w.heap.size 16 f:=aK.kept (aK.alloc (aK.alloc (cB dO (by rfl)) _) _) gX;have hB1:aK .u8 w1 (w.heap.size+1) 32 (dg 256 N):=aK.kept (aK.alloc (cB dO (by rfl)) _) gX;have hZ1:aK .i64 w1 (w.heap.size+2) 16 (fun _=>0):=aK.kept (cB dO (by rfl)) gX;have jf:Below w.heap.size w w1:=((((bT _ _).alloc (bH _) _).alloc aR _).alloc iU _).trans (gX.mono iU);have l1:=hZ1.lt;clear gX;go_upto_region 2 with(refine aL rfl 191 _ _ rfl .i64 w1.heap.size 16 (fun _=>0) _ bP rfl rfl (cB rfl rfl) ?_)
 refine aJ (fun w2=>aK .i64 w2 w.heap.size 16 f/\aK .u8 w2 (w.heap.size+1) 32 (dg 256 N)/\aK .i64 w2 (w.heap.size+2) 16 (fun _=>0)/\aK .i64 w2 w1.heap.size 16 (Ju f N (256 - 256))/\Below w.heap.size w w2)
  ⟨aK.aC (aK.alloc vO _) _ aH _,aK.aC (aK.alloc hB1 _) _ aH _,aK.aC (aK.alloc hZ1 _) _ aH _,aK.setRow (cB (n:=16) (f:=fun _=>0) rfl rfl) _ _,aB (jf.alloc jf.size _) jf.size _⟩ ?_
 rintro w2 ⟨hA,hB,hZ,hO,aD⟩;obtain⟨b,hb⟩:∃b,b=w1.heap.size:=⟨_,rfl⟩
 rw[<-hb] at hO l1 ⊢;clear hb vO hB1 hZ1 jf;go_wp2
 go_loopw [6] (fun i wr=> ∃k:Nat,k<=256/\i=.int .i64 ((k:Int) - 1)/\aK .i64 wr w.heap.size 16 f/\aK .u8 wr (w.heap.size+1) 32 (dg 256 N)/\aK .i64 wr (w.heap.size+2) 16 (fun _=>0)/\aK .i64 wr b 16 (Ju f N (256 - k))/\Below w.heap.size w wr) (fun i _=>(intOf i+1).toNat)
 case atStart=>exact⟨256,bH _,rfl,hA,hB,hZ,hO,aD⟩
 case round=>
  clear hA hB hZ hO aD;obtain⟨k,hk,rfl,hA,hB,hZ,hO,aD⟩:=hrel;obtain _ | m:=k
  ·go_wp2_with (first
    | (refine bJ rfl 191 _ rfl .i64 b 16 _ dB rfl bP rfl hO ?_)
    | (refine aL rfl 191 _ _ rfl .i64 (w.heap.size+2) 16 (fun _=>0) _ bP rfl rfl hZ ?_))
   exact bodyPost_ret (dI rfl _ _ .i64 (w.heap.size+2) 16 _ rfl (hZ.setRow _ _) dB rfl bP) rfl ⟨rfl,aB aD aH _⟩
  ·have hkm:((m+1:Nat):Int) - 1=(m:Int):=by omega
   rw[hkm];have HP:=ay (HF.out.Ju H0.out H1.out (256 - (m+1)) aH);have HST:=ay (Xo f N m aH);obtain⟨g,hg⟩:∃g,g=Ju f N (256 - (m+1)):=⟨_,rfl⟩
   rw[<-hg] at HP HST hO;clear hkm hg;go_wp2_with (refine bJ rfl 191 _ rfl .i64 b 16 _ dB rfl bP rfl hO ?_);refine(bZ g g _ _ HP.out HP.out _).mono ?_;rintro e w3 ⟨rfl,ji⟩;have hA3:=hA.kept ji;have hB3:=hB.kept ji;have lZ:=hZ.kept ji;have hO3:=hO.kept ji;have eU:=aD.trans (ji.mono aD.size);clear hA hB hZ hO aD ji;go_upto_region 6 with(refine aL rfl 191 _ _ rfl .i64 b 16 _ _ bP rfl rfl hO3 ?_)
   refine aJ (fun w4=>aK .i64 w4 w.heap.size 16 f/\aK .u8 w4 (w.heap.size+1) 32 (dg 256 N)/\aK .i64 w4 (w.heap.size+2) 16 (fun _=>0)/\aK .i64 w4 b 16 (aS g g)/\Below w.heap.size w w4)
    ⟨aK.aC hA3 _ aH _,aK.aC hB3 _ aH _,aK.aC lZ _ aH _,aK.setRow hO3 _ _,aB eU aH _⟩ ?_
   rintro w4 ⟨hA,hB',hZ,hO,aD⟩;clear hA3 hB3 lZ hO3 eU;have hm9:m % 8<8:=Nat.mod_lt _ aM;have hq:IntKind.i64.wrap (Int.tdiv (m:Int) 8)=((m / 8:Nat):Int):=by rw[Zqg aH,jq] <;> omega
   have hr:Int.tmod (m:Int) 8=((m % 8:Nat):Int):=by rw[Int.tmod_eq_emod_of_nonneg aH];omega
   have hc:IntKind.u64.wrap ((m % 8:Nat):Int)=((m % 8:Nat):Int):=sG aH aH;obtain⟨d0,d1⟩:=bR (by decide:(0:Int)<256) N (m / 8);have hsh:=Dr (x:=dg 256 N (m / 8)) (m % 8) hm9;have hand:bits .and .u8 (dg 256 N (m / 8) / 2 ^ (m % 8)) 1=N / 2 ^ m % 2:=by
    rw[yE (Int.ediv_nonneg d0 (EM (iH aM _))) (Int.lt_of_le_of_lt (Int.ediv_le_self _ d0) d1),Qd N m]
   have hpl:((m / 8:Nat):Int).toNat=m / 8:=MZ _;have hm8:m / 8<32:=by omega
   have hce:=hB'.cell (m / 8) hm8;have hBl:=hB'.lt
   refine bC (n:=29) aQ aQ aQ rfl
    (fun ii vv _=>(match ii with | 0 | 4=>vv=.int .i64 ((m:Int)) | 1=>vv=.int .i64 ((m / 8:Nat)) | 2=>vv=.pointer (some ⟨(w.heap.size+1),(m / 8),none⟩) | 3=>vv=.int .u8 (dg 256 N (m / 8)) | 5=>vv=.int .i64 ((m % 8:Nat)) | 6=>vv=.int .u64 ((m % 8:Nat)) | 7=>vv=.int .u8 (dg 256 N (m / 8) / 2 ^ (m % 8)) | 8=>vv=.int .u8 (N / 2 ^ m % 2) | 9=>vv=.bool ((N / 2 ^ m % 2)==(1)) | _=>True))
    (fun w w'=>Below w.heap.size w w') (fun _ _ h=>h) (fun _ _ _ _ h _=>h) ?_ ?_
   ·refine dG ?_;refine⟨?_,?_,?_,?_,?_,?_,?_,?_,?_,?_,trivial⟩
    ·intro a w2 hB hF hd;exact aN <| aG _ (.inl rfl) aR (hF.same 6 rfl)
    ·intro a w2 hB hF hd;exact aN <| aW (Go.bI.GU rfl (hd 0 _ rfl (aj rfl)) rfl aM) (congrArg (Value.int .i64) (hq))
    ·intro a w2 hB hF hd;exact aN <| aW (aU rfl (hF.same 3 rfl) (hd 1 _ rfl (aj rfl)) iL aQ aH aH) (congrArg (fun z=>Value.pointer (some ⟨w.heap.size+1,z,none⟩)) hpl)
    ·intro a w2 hB hF hd;exact aN <| aW (bg rfl (hd 2 _ rfl (aj rfl)) Tryz.underlying5 ((hB.cell (p:=⟨w.heap.size+1,m / 8,none⟩) hBl).trans hce)) rfl
    ·intro a w2 hB hF hd;exact aN <| aG _ (.inl rfl) aR (hF.same 6 rfl)
    ·intro a w2 hB hF hd;exact aN <| aW (Go.bI.xA rfl (hd 4 _ rfl (aj rfl)) rfl aM) (congrArg (Value.int .i64) (hr))
    ·intro a w2 hB hF hd;exact aN <| aW (sV rfl (hd 5 _ rfl (aj rfl)) Tryz.underlying3 Tryz.underlying212) (congrArg (Value.int .u64) (hc))
    ·intro a w2 hB hF hd;exact aN <| aW (Go.bI.uH rfl (hd 3 _ rfl (aj rfl)) (hd 6 _ rfl (aj rfl)) aH) (congrArg (Value.int .u8) (hsh))
    ·intro a w2 hB hF hd;exact aN <| aW (Go.bI.nT rfl (hd 7 _ rfl (aj rfl)) rfl) (congrArg (Value.int .u8) (hand))
    ·intro a w2 hB hF hd;refine aN <| aW (Go.bI.mZ rfl (hd 8 _ rfl (aj rfl)) rfl) ?_;exact rfl
   ·intro a w5 hB hF hS;have ha:=aO rfl rfl hF [_,_,_,_,_,_,_,_,_,_] rfl ⟨hS 0 _ rfl,hS 1 _ rfl,hS 2 _ rfl,hS 3 _ rfl,hS 4 _ rfl,hS 5 _ rfl,hS 6 _ rfl,hS 7 _ rfl,hS 8 _ rfl,hS 9 _ rfl,trivial⟩;simp only[puts,Act.put,fB,fD,fF] at ha;subst ha;clear hS hF;have wF:=hA.below hB hA.lt;have hB5:=hB'.below hB hB'.lt;have qF:=hZ.below hB hZ.lt;have hO5:=hO.below hB hO.lt;have gQ:=aD.trans (hB.mono aD.size);clear hA hB' hZ hO aD hB hq hr hc hsh hand hce hpl;by_cases hbit:N / 2 ^ m % 2=1
    ·have hbb:(N / 2 ^ m % 2==1)=true:=by rw[hbit];rfl
     rw[if_pos hbit] at HST;clear hbit
     go_wp2_with (first
      | (refine bJ rfl 191 (.tmp 5) rfl .i64 b 16 _ dB rfl bP rfl hO5 ?_)
      | (refine bJ rfl 191 (.tmp 2) rfl .i64 w.heap.size 16 _ dB rfl bP rfl wF ?_))
     refine(bZ (aS g g) f _ _ (HP.out.aS HP.out) HF.out _).mono ?_;rintro e w6 ⟨rfl,tQ⟩;have VP:=wF.kept tQ;have hB6:=hB5.kept tQ;have zm:=qF.kept tQ;have hO6:=hO5.kept tQ;have jR:=gQ.trans (tQ.mono gQ.size);clear wF hB5 qF hO5 gQ tQ;go_wp2_with (refine aL rfl 191 _ _ rfl .i64 b 16 _ _ bP rfl rfl hO6 ?_);go_roundw
     case rel=>exact⟨m,by omega,by go_num,aK.aC VP _ aH _,aK.aC hB6 _ aH _,aK.aC zm _ aH _,by rw[HST.out];exact aK.setRow hO6 _ _,aB jR aH _⟩
     case measure=>simp[intOf] <;> omega
    ·have hbb:(N / 2 ^ m % 2==1)=false:=by simpa using hbit
     rw[if_neg hbit] at HST;clear hbit;go_wp2;go_roundw
     case rel=>exact⟨m,by omega,by go_num,wF,hB5,qF,by rw[HST.out];exact hO5,gQ⟩
     case measure=>simp[intOf] <;> omega
theorem rO (l:Int) (s:Nat) (h0:1<=l) (h1:l<=255) (hs:s<=8) (w:World):
  Calls Tryz.prog 248 #[.int .u8 l,.int .u64 s] w fun e w'=>e=.returned (.agg (arr .u8 32 (dg 256 ((2 ^ 255 - l) / 2 ^ s))))/\Below w.heap.size w w':=by
 have HD:=ay (OC h0 h1);obtain⟨M,hM⟩:∃M:Int,M=2 ^ 255 - l:=⟨_,rfl⟩
 have hMb:0<=M/\M<256 ^ 32:=by(rw[hM];have e:(256:Int) ^ 32=2 * 2 ^ 255:=by decide);(rw[e];have:(255:Int)<2 ^ 255:=by decide);omega
 rw[<-hM] at HD ⊢;have HMB:=ay hMb;have hneg:IntKind.u8.wrap (-l)=256 - l:=by rw[IntKind.wrap_u8];omega
 have HN:=ay hneg;clear hM hMb hneg
 go_enter Tryz.func248,Tryz.ntmps248
 go_wp2
 go_loopw [8] (fun i wr=> ∃k:Nat,k<=32/\i=.int .i64 k/\aK .u8 wr w.heap.size 32 (fun _=>0)/\aK .u8 wr (w.heap.size+1) 32 (upto k (fun _=>255) (fun _=>0))/\Below w.heap.size w wr) (fun i _=>32 - (intOf i).toNat)
 case atStart=>exact⟨0,jm _,rfl,aK.alloc (cB dO (by rfl)) _,by rw[dR];exact cB dO (by rfl),((bT _ _).alloc (bH _) _).alloc aR _⟩
 case round=>
  obtain⟨k,hk,rfl,hZ,hA,aD⟩:=hrel;by_cases hlt:k<32
  ·have e1:=hA.cell k hlt;have f1:=hA.free k;have HA:=ay hA;have HZ:=ay hZ;clear hA hZ;go_wp2;go_roundw
   case rel=>exact⟨k+1,by omega,by go_num,HZ.out.other dO _,by rw[<-dh rfl];exact HA.out.set k _,aD.setCell dO _⟩
   case measure=>simp[intOf] <;> omega
  ·obtain rfl:k=32:=by omega
   have jv:=hA.congr (fJ _ _ (bH _));have e0:=jv.cell 0 aM;have e31:=jv.cell 31 aM;have f0:=jv.free 0;have f31:=jv.free 31;have HA:=ay jv;have HZ:=ay hZ;have HB:=ay aD;clear hA jv hZ aD;have hneg:=HN.out;go_upto_region 8 with(fail)
   refine aJ (fun w1=>aK .u8 w1 w.heap.size 32 (fun _=>0)/\aK .u8 w1 (w.heap.size+1) 32 (dg 256 M)/\Below w.heap.size w w1)
    ⟨(HZ.out.other dO _).other dO _,((HA.out.set 0 (256 - l)).set 31 127).congr HD.out,(HB.out.setCell dO _).setCell dO _⟩ ?_
   rintro w1 ⟨hZ,hA,aD⟩;clear e0 e31 f0 f31 HA HZ HB hneg;go_wp2
   go_loopw [19] (fun i wr=> ∃j:Nat,j<=s/\i=.int .u64 j/\aK .u8 wr w.heap.size 32 (fun _=>0)/\aK .u8 wr (w.heap.size+1) 32 (dg 256 (M / 2 ^ j))/\Below w.heap.size w wr) (fun i _=>s - (intOf i).toNat)
   case atStart=>exact⟨0,jm _,rfl,hZ,by rw[Int.pow_zero,Int.ediv_one];exact hA,aD⟩
   case round=>
    clear hZ hA aD;obtain⟨j,hj,rfl,hZ,hA,aD⟩:=hrel;by_cases hlt2:j<s
    ·obtain⟨Y,hY⟩:∃Y,Y=M / 2 ^ j:=⟨_,rfl⟩
     have hY2:M / 2 ^ (j+1)=Y / 2:=by rw[hY,jU aM]
     have hYb:0<=Y/\Y<256 ^ 32:=by rw[hY];exact⟨Int.ediv_nonneg HMB.out.1 (EM (iH aM _)),Int.lt_of_le_of_lt (Int.ediv_le_self _ HMB.out.1) HMB.out.2⟩
     rw[<-hY] at hA;have HY2:=ay hY2;have HYB:=ay hYb;have HZ:=ay hZ;have HA:=ay hA;have HB:=ay aD;clear hY hY2 hYb hZ hA aD;go_wp2
     go_loopw [21] (fun i wr=> ∃k:Nat,k<=32/\i=.int .i64 k/\aK .u8 wr w.heap.size 32 (fun _=>0)/\aK .u8 wr (w.heap.size+1) 32 (upto k (dg 256 (Y / 2)) (dg 256 Y))/\Below w.heap.size w wr) (fun i _=>32 - (intOf i).toNat)
     case atStart=>exact⟨0,jm _,rfl,HZ.out,by rw[dR];exact HA.out,HB.out⟩
     case round=>
      clear HZ HA HB;obtain⟨k,hk,rfl,hZ,hA,aD⟩:=hrel;by_cases hlt3:k<32
      ·have e1:=hA.cell k hlt3;have f1:=hA.free k;rw[upto_at] at e1;obtain⟨a0,a1⟩:=bR (by decide:(0:Int)<256) Y k;obtain⟨c0,c1⟩:=bR (by decide:(0:Int)<256) Y (k+1);have hh:=Pj Y k;obtain⟨a,ha⟩:∃a,a=dg 256 Y k:=⟨_,rfl⟩
       obtain⟨c,hc⟩:∃c,c=dg 256 Y (k+1):=⟨_,rfl⟩
       rw[<-ha] at e1 a0 a1 hh;rw[<-hc] at c0 c1 hh;have HH:=ay hh;have HC:=ay hc;clear hh ha;by_cases hk31:k<31
       ·have e2:=hA.cell (k+1) aH;have hu:upto k (dg 256 (Y / 2)) (dg 256 Y) (k+1)=c:=by rw[hc];exact if_neg aH
        rw[hu] at e2;have HA:=ay hA;have HZ:=ay hZ;have HB:=ay aD;have HU:=ay hu;clear hA hZ aD hc hu;go_upto_region 14 with(fail)
        refine aJ (fun w2=>aK .u8 w2 w.heap.size 32 (fun _=>0)/\aK .u8 w2 (w.heap.size+1) 32 (upd (upto k (dg 256 (Y / 2)) (dg 256 Y)) k (a / 2))/\Below w.heap.size w w2)
         ⟨HZ.out.other dO _,HA.out.set k _,HB.out.setCell dO _⟩ ?_
        rintro w2 ⟨jG,jv,fO⟩;have e3:=jv.cell (k+1) aH;rw[upd_ne _ _ aH,HU.out] at e3;have e4:=jv.cell k hlt3;have f4:=jv.free k;rw[mE] at e4;have hor:=Go.bI.u8_or128 (a:=a / 2) (b:=c % 2) aH aH aH aH;have hmm:c * 128 % 256=c % 2 * 128:=by omega
        rw[<-hmm] at hor;have HMM:=ay hmm;have HA2:=ay jv;clear e1 e2 f1 HA HZ HB jv hmm;go_wp2
        go_region
        all_goals
         go_wp2;go_roundw
         case rel=>exact⟨k+1,by omega,by go_num,(jG.other dO _).drew,by have h3:=(HA2.out.set k (a / 2+c * 128 % 256)).drew;rw[HMM.out] at h3;rw[HMM.out,←dh HH.out.symm];exact h3.congr (fun i _=>wV _ _ _ _ i),(fO.setCell dO _).drew⟩
         case measure=>simp[intOf] <;> omega
       ·obtain rfl:k=31:=by omega
        have hc0:c=0:=by rw[hc];exact Mj HYB.out
        have HH2:Hid (a / 2=dg 256 (Y / 2) 31):=by show _= _;have:=HH.out;omega
        have HA:=ay hA;have HZ:=ay hZ;have HB:=ay aD;clear hA hZ aD hc hc0;go_wp2;go_roundw
        case rel=>exact⟨32,by omega,by go_num,HZ.out.other dO _,by rw[<-dh HH2.out];exact HA.out.set 31 _,HB.out.setCell dO _⟩
        case measure=>simp[intOf] <;> omega
      ·obtain rfl:k=32:=by omega
       have jv:=hA.congr (fJ _ _ (bH _));clear hA;go_wp2;go_roundw
       case rel=>exact⟨j+1,by omega,by go_num,hZ,by rw[HY2.out];exact jv,aD⟩
       case measure=>simp[intOf] <;> omega
    ·obtain rfl:j=s:=by omega
     go_wp2_with (first
      | (refine aZ rfl 22 _ rfl .u8 (w.heap.size+1) 32 _ 5 iL fZ rfl hA ?_)
      | (refine aL rfl 22 _ _ rfl .u8 w.heap.size 32 (fun _=>0) _ fZ rfl rfl hZ ?_))
     exact bodyPost_ret (bV rfl _ _ .u8 w.heap.size 32 _ 5 rfl (hZ.setRow _ _) iL fZ) rfl ⟨rfl,aB aD (bH _) _⟩
theorem acJ:((2 ^ 255 - 21) / 2 ^ 0:Int)=((PN - 2:Nat):Int):=by decide
theorem mV:(0:Int)<=((PN - 2:Nat):Int)/\((PN - 2:Nat):Int)<2 ^ 256:=by decide
theorem OB (w:World):Calls Tryz.prog 248 #[.int .u8 21,.int .u64 0] w fun e w'=>e=.returned (.agg (arr .u8 32 (dg 256 ((PN - 2:Nat):Int))))/\Below w.heap.size w w':=by
 have h:=rO 21 0 aM aM aM w;rw[acJ] at h;exact h
def kC (f:Nat->Int):Nat->Int:=Hw f ((PN - 2:Nat):Int)
def zh (X:Int):Int:=X ^ (PN - 2)
theorem kR {f:Nat->Int} {X:Int} (hf:Fe f X):Fe (kC f) (zh X):=by
 unfold zh;have h:=hf.Hw mV.1 mV.2
 rwa [MZ] at h
theorem kL (f:Nat->Int) (X:Int) (hf:Fe f X) (w:World):
  Calls Tryz.prog 204 #[El f] w fun e w'=>e=.returned (El (kC f))/\Below w.heap.size w w':=by
 have HF:=ay hf;clear hf;unfold El
 go_enter Tryz.func204,Tryz.ntmps204
 go_wp2
 refine aJ (fun w1=>aK .i64 w1 w.heap.size 16 f/\aK .i64 w1 (w.heap.size+1) 16 (fun _=>0)/\Below w.heap.size w w1)
  ⟨aK.alloc (cB dO (by rfl)) _,cB dO (by rfl),((bT _ _).alloc (bH _) _).alloc aR _⟩ ?_
 rintro w1 ⟨hA,hZ,aD⟩
 refine dJ (n:=6) (fun i=>i==3) aQ aQ aQ aQ rfl
  (fun ii vv _=>(match ii with | 0=>vv=.agg (arr .i64 16 (f)) | 1=>vv=.agg (arr .u8 32 (dg 256 ((PN - 2:Nat):Int))) | 2=>vv=.agg (arr .i64 16 (kC f)) | _=>True))
  (fun w w'=>Below w.heap.size w w') (fun _ _ h=>h) (fun _ _ _ _ h _=>h)
  (fun _=>(w.heap.size+1)) (fun _=>(arr .i64 16 (fun _=>0))) (fun _=>(arr .i64 16 (kC f)))
  (by intro i j _ _ dD jJ gW;simp only[beq_iff_eq] at dD jJ;omega)
  (by intro i _ dD;exact(hZ).row)
  ?_ ?_ ?_
 ·refine dG ?_;refine⟨?_,?_,?_,(aP),trivial⟩
  ·intro _ a w2 hB hF hd;exact aN <| aW (aF rfl dB rfl bP (hF.same 1 rfl) (hA.below hB hA.lt)) rfl
  ·intro _ a w2 hB hF hd;refine aN <| aI _ _ _ rfl Tryz.call248 _ (args2 rfl rfl) aR ((OB w2).mono ?_);rintro e w3 ⟨rfl,hb⟩;exact⟨_,rfl,rfl,hb⟩
  ·intro _ a w2 hB hF hd;refine aN <| aI _ _ _ rfl Tryz.call247 _ (args2 (hd 0 _ rfl rfl (aj rfl)) (hd 1 _ rfl rfl (aj rfl))) aR ((tX f X ((PN - 2:Nat):Int) HF.out mV.1 mV.2 w2).mono ?_);rintro e w3 ⟨rfl,hb⟩;exact⟨_,rfl,rfl,hb⟩
 ·refine dG ?_;refine⟨(aP),(aP),(aP),?_,trivial⟩
  ·intro _ a w1 w2 K hB hF hS hr hK;exact bG 191 _ _ rfl .i64 ((w.heap.size+1)) 16 (fun _=>0) (kC f) bP (hF.same 2 rfl) (hS 2 _ rfl rfl) hr hK
 ·intro a wf w3 hB hF hS hfil;have other:∀{k:IntKind} {qb n:Nat} {f:Nat->Int},qb≠(w.heap.size+1)->aK k wf qb n f->aK k w3 qb n f:=fun {k qb n f} e0 hA=>hfil.arr (by intro i _ dD;simp only[kZ,beq_iff_eq] at dD;subst dD<;> ((try simp only[]);(try dsimp only);omega)) hA;have dU:∀{B:Nat} {w0:World},B<=(w.heap.size+1)->Below B w0 wf->Below B w0 w3:=fun {B w0} e0 hA=>hfil.below (by intro i _ dD;simp only[kZ,beq_iff_eq] at dD;subst dD<;> ((try simp only[]);(try dsimp only);omega)) hA;have V3:aK .i64 w3 ((w.heap.size+1)) 16 (kC f):=hfil.at 3 aM rfl;have tO:=hfil.size;clear hfil;have ha:=aO rfl rfl hF [_,_,_,undef] rfl ⟨hS 0 _ rfl rfl,hS 1 _ rfl rfl,hS 2 _ rfl rfl,trivial,trivial⟩;simp only[puts,Act.put,fB,fD,fF] at ha;subst ha;clear hS hF;have hb:=dU aH (aD.trans (hB.mono aD.size));clear hA hZ aD hB other dU;go_wp2;exact bodyPost_ret (dI rfl _ _ .i64 (w.heap.size+1) 16 _ rfl V3 dB rfl bP) rfl ⟨rfl,hb⟩
theorem Pv (f g:Nat->Int) (X Y:Int) (hf:Fe f X) (hg:Fe g Y) (w:World):
  Calls Tryz.prog 201 #[El f,El g,.bool true] w fun e w'=>e=.returned (.tuple #[El g,El f])/\Below w.heap.size w w':=by
 have C1:∀w,Calls Tryz.prog 243 #[El f,El g,.int .i64 1] w fun e w'=>e=.returned (El g)/\Below w.heap.size w w':=fun w=>lM f g 1 aM (fun i hi=>by have:=hf.1.bound i hi;omega) (fun i hi=>by have:=hg.1.bound i hi;omega) w;have C2:∀w,Calls Tryz.prog 243 #[El g,El f,.int .i64 1] w fun e w'=>e=.returned (El f)/\Below w.heap.size w w':=fun w=>lM g f 1 aM (fun i hi=>by have:=hg.1.bound i hi;omega) (fun i hi=>by have:=hf.1.bound i hi;omega) w;have K1:=ay C1;have K2:=ay C2;clear C1 C2 hf hg;unfold El
 go_enter Tryz.func201,Tryz.ntmps201
 go_wp2
 refine aJ (fun w1=>aK .i64 w1 w.heap.size 16 f/\aK .i64 w1 (w.heap.size+1) 16 g/\aK .i64 w1 (w.heap.size+2) 16 (fun _=>0)/\aK .i64 w1 (w.heap.size+3) 16 (fun _=>0)/\Below w.heap.size w w1)
  ⟨aK.alloc (aK.alloc (aK.alloc (cB dO (by rfl)) _) _) _,aK.alloc (aK.alloc (cB dO (by rfl)) _) _,aK.alloc (cB dO (by rfl)) _,cB dO (by rfl),((((bT _ _).alloc (bH _) _).alloc aR _).alloc iU _).alloc iU _⟩ ?_
 rintro w1 ⟨hA,hG,hZ,hY,aD⟩
 refine dJ (n:=18) (fun i=>i==8 || i==9) aQ aQ aQ aQ rfl
  (fun ii vv _=>(match ii with | 0 | 5 | 7=>vv=.agg (arr .i64 16 (f)) | 1 | 3 | 4=>vv=.agg (arr .i64 16 (g)) | 2 | 6=>vv=.int .i64 (1) | _=>True))
  (fun w w'=>Below w.heap.size w w') (fun _ _ h=>h) (fun _ _ _ _ h _=>h)
  (fun i=>match i with | 8=>(w.heap.size+2) | _=>(w.heap.size+3)) (fun i=>match i with | 8=>(arr .i64 16 (fun _=>0)) | _=>(arr .i64 16 (fun _=>0))) (fun i=>match i with | 8=>(arr .i64 16 (g)) | _=>(arr .i64 16 (f)))
  (by intro i j _ _ dD jJ gW;simp only[kZ,beq_iff_eq] at dD jJ;rcases dD with rfl | rfl<;> rcases jJ with rfl | rfl<;> first | exact absurd rfl gW | (simp only[];omega))
  (by intro i _ dD;simp only[kZ,beq_iff_eq] at dD;rcases dD with rfl | rfl<;> first | exact(hZ).row | exact(hY).row)
  ?_ ?_ ?_
 ·refine dG ?_;refine⟨?_,?_,?_,?_,?_,?_,?_,?_,(aP),(aP),trivial⟩
  ·intro _ a w2 hB hF hd;exact aN <| aW (aF rfl dB rfl bP (hF.same 3 rfl) (hA.below hB hA.lt)) rfl
  ·intro _ a w2 hB hF hd;exact aN <| aW (aF rfl dB rfl bP (hF.same 4 rfl) (hG.below hB hG.lt)) rfl
  ·intro _ a w2 hB hF hd;exact aN <| aG _ (.inl rfl) aR (hF.same 8 rfl)
  ·intro _ a w2 hB hF hd;refine aN <| aI _ _ _ rfl Tryz.call243 _ (vR (hd 0 _ rfl rfl (aj rfl)) (hd 1 _ rfl rfl (aj rfl)) (hd 2 _ rfl rfl (aj rfl))) aR ((K1.out w2).mono ?_);rintro e w3 ⟨rfl,hb⟩;exact⟨_,rfl,rfl,hb⟩
  ·intro _ a w2 hB hF hd;exact aN <| aW (aF rfl dB rfl bP (hF.same 4 rfl) (hG.below hB hG.lt)) rfl
  ·intro _ a w2 hB hF hd;exact aN <| aW (aF rfl dB rfl bP (hF.same 3 rfl) (hA.below hB hA.lt)) rfl
  ·intro _ a w2 hB hF hd;exact aN <| aG _ (.inl rfl) aR (hF.same 8 rfl)
  ·intro _ a w2 hB hF hd;refine aN <| aI _ _ _ rfl Tryz.call243 _ (vR (hd 4 _ rfl rfl (aj rfl)) (hd 5 _ rfl rfl (aj rfl)) (hd 6 _ rfl rfl (aj rfl))) aR ((K2.out w2).mono ?_);rintro e w3 ⟨rfl,hb⟩;exact⟨_,rfl,rfl,hb⟩
 ·refine dG ?_;refine⟨(aP),(aP),(aP),(aP),(aP),(aP),(aP),(aP),?_,?_,trivial⟩
  ·intro _ a w1 w2 K hB hF hS hr hK;exact bG 191 _ _ rfl .i64 ((w.heap.size+2)) 16 (fun _=>0) (g) bP (hF.same 6 rfl) (hS 3 _ rfl rfl) hr hK
  ·intro _ a w1 w2 K hB hF hS hr hK;exact bG 191 _ _ rfl .i64 ((w.heap.size+3)) 16 (fun _=>0) (f) bP (hF.same 7 rfl) (hS 7 _ rfl rfl) hr hK
 ·intro a wf w3 hB hF hS hfil;have other:∀{k:IntKind} {qb n:Nat} {f:Nat->Int},qb≠(w.heap.size+2)->qb≠(w.heap.size+3)->aK k wf qb n f->aK k w3 qb n f:=fun {k qb n f} e0 e1 hA=>hfil.arr (by intro i _ dD;simp only[kZ,beq_iff_eq] at dD;rcases dD with rfl | rfl<;> ((try simp only[]);(try dsimp only);omega)) hA;have dU:∀{B:Nat} {w0:World},B<=(w.heap.size+2)->B<=(w.heap.size+3)->Below B w0 wf->Below B w0 w3:=fun {B w0} e0 e1 hA=>hfil.below (by intro i _ dD;simp only[kZ,beq_iff_eq] at dD;rcases dD with rfl | rfl<;> ((try simp only[]);(try dsimp only);omega)) hA;have V8:aK .i64 w3 ((w.heap.size+2)) 16 (g):=hfil.at 8 aM rfl;have V9:aK .i64 w3 ((w.heap.size+3)) 16 (f):=hfil.at 9 aM rfl;have tO:=hfil.size;clear hfil;have ha:=aO rfl rfl hF [_,_,_,_,_,_,_,_,undef,undef] rfl ⟨hS 0 _ rfl rfl,hS 1 _ rfl rfl,hS 2 _ rfl rfl,hS 3 _ rfl rfl,hS 4 _ rfl rfl,hS 5 _ rfl rfl,hS 6 _ rfl rfl,hS 7 _ rfl rfl,trivial,trivial,trivial⟩;simp only[puts,Act.put,fB,fD,fF] at ha;subst ha;clear hS hF;have hb:=dU aH aH (aD.trans (hB.mono aD.size));clear hA hG hZ hY aD hB other dU;go_wp2;exact bodyPost_ret (rF rfl _ _ .i64 (w.heap.size+2) 16 _ .i64 (w.heap.size+3) 16 _ rfl V8 dB rfl bP rfl V9 dB rfl bP) rfl ⟨rfl,hb⟩
theorem Ur (f g:Nat->Int) (X Y:Int) (hf:Fe f X) (hg:Fe g Y) (w:World):
  Calls Tryz.prog 201 #[El f,El g,.bool false] w fun e w'=>e=.returned (.tuple #[El f,El g])/\Below w.heap.size w w':=by
 have C1:∀w,Calls Tryz.prog 243 #[El f,El g,.int .i64 0] w fun e w'=>e=.returned (El f)/\Below w.heap.size w w':=fun w=>lM f g 0 aM (fun i hi=>by have:=hf.1.bound i hi;omega) (fun i hi=>by have:=hg.1.bound i hi;omega) w;have C2:∀w,Calls Tryz.prog 243 #[El g,El f,.int .i64 0] w fun e w'=>e=.returned (El g)/\Below w.heap.size w w':=fun w=>lM g f 0 aM (fun i hi=>by have:=hg.1.bound i hi;omega) (fun i hi=>by have:=hf.1.bound i hi;omega) w;have K1:=ay C1;have K2:=ay C2;clear C1 C2 hf hg;unfold El
 go_enter Tryz.func201,Tryz.ntmps201
 go_wp2
 refine aJ (fun w1=>aK .i64 w1 w.heap.size 16 f/\aK .i64 w1 (w.heap.size+1) 16 g/\aK .i64 w1 (w.heap.size+2) 16 (fun _=>0)/\aK .i64 w1 (w.heap.size+3) 16 (fun _=>0)/\Below w.heap.size w w1)
  ⟨aK.alloc (aK.alloc (aK.alloc (cB dO (by rfl)) _) _) _,aK.alloc (aK.alloc (cB dO (by rfl)) _) _,aK.alloc (cB dO (by rfl)) _,cB dO (by rfl),((((bT _ _).alloc (bH _) _).alloc aR _).alloc iU _).alloc iU _⟩ ?_
 rintro w1 ⟨hA,hG,hZ,hY,aD⟩
 refine dJ (n:=18) (fun i=>i==8 || i==9) aQ aQ aQ aQ rfl
  (fun ii vv _=>(match ii with | 0 | 3 | 5=>vv=.agg (arr .i64 16 (f)) | 1 | 4 | 7=>vv=.agg (arr .i64 16 (g)) | 2 | 6=>vv=.int .i64 (0) | _=>True))
  (fun w w'=>Below w.heap.size w w') (fun _ _ h=>h) (fun _ _ _ _ h _=>h)
  (fun i=>match i with | 8=>(w.heap.size+2) | _=>(w.heap.size+3)) (fun i=>match i with | 8=>(arr .i64 16 (fun _=>0)) | _=>(arr .i64 16 (fun _=>0))) (fun i=>match i with | 8=>(arr .i64 16 (f)) | _=>(arr .i64 16 (g)))
  (by intro i j _ _ dD jJ gW;simp only[kZ,beq_iff_eq] at dD jJ;rcases dD with rfl | rfl<;> rcases jJ with rfl | rfl<;> first | exact absurd rfl gW | (simp only[];omega))
  (by intro i _ dD;simp only[kZ,beq_iff_eq] at dD;rcases dD with rfl | rfl<;> first | exact(hZ).row | exact(hY).row)
  ?_ ?_ ?_
 ·refine dG ?_;refine⟨?_,?_,?_,?_,?_,?_,?_,?_,(aP),(aP),trivial⟩
  ·intro _ a w2 hB hF hd;exact aN <| aW (aF rfl dB rfl bP (hF.same 3 rfl) (hA.below hB hA.lt)) rfl
  ·intro _ a w2 hB hF hd;exact aN <| aW (aF rfl dB rfl bP (hF.same 4 rfl) (hG.below hB hG.lt)) rfl
  ·intro _ a w2 hB hF hd;exact aN <| aG _ (.inl rfl) aR (hF.same 8 rfl)
  ·intro _ a w2 hB hF hd;refine aN <| aI _ _ _ rfl Tryz.call243 _ (vR (hd 0 _ rfl rfl (aj rfl)) (hd 1 _ rfl rfl (aj rfl)) (hd 2 _ rfl rfl (aj rfl))) aR ((K1.out w2).mono ?_);rintro e w3 ⟨rfl,hb⟩;exact⟨_,rfl,rfl,hb⟩
  ·intro _ a w2 hB hF hd;exact aN <| aW (aF rfl dB rfl bP (hF.same 4 rfl) (hG.below hB hG.lt)) rfl
  ·intro _ a w2 hB hF hd;exact aN <| aW (aF rfl dB rfl bP (hF.same 3 rfl) (hA.below hB hA.lt)) rfl
  ·intro _ a w2 hB hF hd;exact aN <| aG _ (.inl rfl) aR (hF.same 8 rfl)
  ·intro _ a w2 hB hF hd;refine aN <| aI _ _ _ rfl Tryz.call243 _ (vR (hd 4 _ rfl rfl (aj rfl)) (hd 5 _ rfl rfl (aj rfl)) (hd 6 _ rfl rfl (aj rfl))) aR ((K2.out w2).mono ?_);rintro e w3 ⟨rfl,hb⟩;exact⟨_,rfl,rfl,hb⟩
 ·refine dG ?_;refine⟨(aP),(aP),(aP),(aP),(aP),(aP),(aP),(aP),?_,?_,trivial⟩
  ·intro _ a w1 w2 K hB hF hS hr hK;exact bG 191 _ _ rfl .i64 ((w.heap.size+2)) 16 (fun _=>0) (f) bP (hF.same 6 rfl) (hS 3 _ rfl rfl) hr hK
  ·intro _ a w1 w2 K hB hF hS hr hK;exact bG 191 _ _ rfl .i64 ((w.heap.size+3)) 16 (fun _=>0) (g) bP (hF.same 7 rfl) (hS 7 _ rfl rfl) hr hK
 ·intro a wf w3 hB hF hS hfil;have other:∀{k:IntKind} {qb n:Nat} {f:Nat->Int},qb≠(w.heap.size+2)->qb≠(w.heap.size+3)->aK k wf qb n f->aK k w3 qb n f:=fun {k qb n f} e0 e1 hA=>hfil.arr (by intro i _ dD;simp only[kZ,beq_iff_eq] at dD;rcases dD with rfl | rfl<;> ((try simp only[]);(try dsimp only);omega)) hA;have dU:∀{B:Nat} {w0:World},B<=(w.heap.size+2)->B<=(w.heap.size+3)->Below B w0 wf->Below B w0 w3:=fun {B w0} e0 e1 hA=>hfil.below (by intro i _ dD;simp only[kZ,beq_iff_eq] at dD;rcases dD with rfl | rfl<;> ((try simp only[]);(try dsimp only);omega)) hA;have V8:aK .i64 w3 ((w.heap.size+2)) 16 (f):=hfil.at 8 aM rfl;have V9:aK .i64 w3 ((w.heap.size+3)) 16 (g):=hfil.at 9 aM rfl;have tO:=hfil.size;clear hfil;have ha:=aO rfl rfl hF [_,_,_,_,_,_,_,_,undef,undef] rfl ⟨hS 0 _ rfl rfl,hS 1 _ rfl rfl,hS 2 _ rfl rfl,hS 3 _ rfl rfl,hS 4 _ rfl rfl,hS 5 _ rfl rfl,hS 6 _ rfl rfl,hS 7 _ rfl rfl,trivial,trivial,trivial⟩;simp only[puts,Act.put,fB,fD,fF] at ha;subst ha;clear hS hF;have hb:=dU aH aH (aD.trans (hB.mono aD.size));clear hA hG hZ hY aD hB other dU;go_wp2;exact bodyPost_ret (rF rfl _ _ .i64 (w.heap.size+2) 16 _ .i64 (w.heap.size+3) 16 _ rfl V8 dB rfl bP rfl V9 dB rfl bP) rfl ⟨rfl,hb⟩
end Go.Proofs.YtpcjekgfnfjbpaaGreat
namespace Go.Proofs.YtpcjekgfnfjbpaaGreat
open Go.RowKit Go.bI Go.ChangeShapes
attribute [local go_sem ↓] Go.wp_at_zero Go.wp_at_succ
theorem zZ (S:Int) (w:World):
  Calls Tryz.prog 198 #[.agg (arr .u8 32 (dg 256 S))] w fun e w'=>e=.returned (.agg (arr .u8 32 (dg 256 (fq S))))/\Below w.heap.size w w':=by
 have HQ:=ay (IX S);have HB:Hid (∀i,0<=dg 256 S i/\dg 256 S i<256):=fun i=>bR aM S i;obtain⟨F,hF⟩:∃F,F=dg 256 S:=⟨_,rfl⟩
 rw[<-hF] at HQ HB ⊢;clear hF
 go_enter Tryz.func198,Tryz.ntmps198
 go_upto_region 1 with(fail);refine aJ (fun w1=>aK .u8 w1 w.heap.size 32 F/\aK .u8 w1 (w.heap.size+1) 32 (fun _=>0)/\Below w.heap.size w w1) ⟨aK.alloc (cB rfl rfl) _,cB aR (by rfl),((bT _ _).alloc (bH _) _).alloc aR _⟩ ?_;rintro w1 ⟨hA,hZ,hb⟩;have e0:=hA.cell 0 aM;have f0:=hA.free 0;obtain⟨x0,x1⟩:=HB.out 0;obtain⟨x,hx⟩:∃x,x=F 0:=⟨_,rfl⟩
 rw[<-hx] at e0 x0 x1;have a1:=adw x x0 x1;have HX:=ay hx;have HA:=ay hA;clear hx hA;go_upto_region 2 with(fail);refine aJ (fun w2=>aK .u8 w2 w.heap.size 32 (upd F 0 (x / 8 * 8))/\aK .u8 w2 (w.heap.size+1) 32 (fun _=>0)/\Below w.heap.size w w2) ⟨HA.out.set 0 _,hZ.other dO _,hb.setCell dO _⟩ ?_;rintro w2 ⟨jv,jG,fO⟩;have e1:=jv.cell 31 aM;have f1:=jv.free 31;obtain⟨y0,y1⟩:=HB.out 31;obtain⟨y,hy⟩:∃y,y=F 31:=⟨_,rfl⟩
 rw[upd_ne _ _ aM,←hy] at e1;rw[<-hy] at y0 y1;have a2:=adx y y0 y1;have a3:=ajS (y % 128) aH aH;have a4:y % 128 % 64+64=y % 64+64:=by omega
 rw[a4] at a3;have HY:=ay hy;have HA2:=ay jv;clear hy jv e0 f0 hZ hb a4 a1;go_upto_region 3 with(fail);refine aJ (fun w3=>aK .u8 w3 w.heap.size 32 (dg 256 (fq S))/\aK .u8 w3 (w.heap.size+1) 32 (fun _=>0)/\Below w.heap.size w w3) ⟨((HA2.out.set 31 (y % 64+64)).congr (fun i hi=>by rw[HX.out,HY.out];exact HQ.out i hi)),jG.other dO _,fO.setCell dO _⟩ ?_;rintro w3 ⟨hA3,lZ,ji⟩;clear e1 f1 jG fO
 go_wp2_with (first
  | (refine aZ rfl 22 _ rfl .u8 w.heap.size 32 (dg 256 (fq S)) 5 iL fZ rfl hA3 ?_)
  | (refine aL rfl 22 _ _ rfl .u8 (w.heap.size+1) 32 (fun _=>0) (dg 256 (fq S)) fZ rfl rfl lZ ?_))
 exact bodyPost_ret (bV rfl _ _ .u8 (w.heap.size+1) 32 _ 5 rfl (lZ.setRow _ _) iL fZ) rfl ⟨rfl,aB ji aH _⟩
theorem Qb {a:Act} (w:World):(Instr.build 22 ((#[(0,Operand.const (.int .u8 9))] :Array (Nat × Operand)).map fun(i,x)=>(i,a.eval x))).run Tryz.prog w=.ok (.agg (arr .u8 32 (dg 256 9))) w:=by
 simp only[vT,List.map_cons,List.map_nil,Act.eval];rw[Go.run_build w _ _ (arr .u8 32 (dg 256 9)) aQ]
theorem OP (w:World):Calls Tryz.prog 142 #[] w fun e w'=>e=.returned (.agg (arr .u8 32 (dg 256 9)))/\Below w.heap.size w w':=by
 go_enter Tryz.func142,Tryz.ntmps142
 go_upto_region 1 with(fail);refine aJ (fun w1=>aK .u8 w1 w.heap.size 32 (fun _=>0)/\Below w.heap.size w w1) ⟨cB rfl (by rfl),(bT _ _).alloc (bH _) _⟩ ?_;rintro w1 ⟨hZ,hb⟩
 go_wp2_with (first
  | (refine fC rfl (fK rfl (Qb _)) ?_)
  | (refine aL rfl 22 _ _ rfl .u8 w.heap.size 32 (fun _=>0) (dg 256 9) fZ rfl rfl hZ ?_))
 exact bodyPost_ret (bV rfl _ _ .u8 w.heap.size 32 _ 5 rfl (hZ.setRow _ _) iL fZ) rfl ⟨rfl,aB hb (bH _) _⟩
theorem Pz:∀i,i<32->upto 3 (dg 256 121665) (fun _=>0) i=dg 256 121665 i:=by
 have key:∀i:Fin 32,upto 3 (dg 256 121665) (fun _=>0) i.val=dg 256 121665 i.val:=by decide+kernel
 exact fun i h=>key ⟨i,h⟩
def Db:Nat->Int:=dg 65536 (121665 % 2 ^ 255)
theorem IG:Fe Db 121665:=by have h:=RG 121665;rwa [show (121665:Int) % 2 ^ 255=121665 by decide] at h
theorem Ik (w:World):Calls Tryz.prog 245 #[] w fun e w'=>e=.returned (El Db)/\Below w.heap.size w w':=by
 have HC:=ay (fun w=>Me 121665 w);unfold El;unfold El at HC;change Hid (∀w,Calls _ _ _ w fun e w'=>e=.returned (.agg (arr .i64 16 Db))/\_) at HC
 go_enter Tryz.func245,Tryz.ntmps245
 go_upto_region 2 with(fail);refine aJ (fun w1=>aK .i64 w1 w.heap.size 16 (fun _=>0)/\aK .u8 w1 (w.heap.size+1) 32 (upto 0 (dg 256 121665) (fun _=>0))/\Below w.heap.size w w1) ⟨aK.alloc (cB rfl (by rfl)) _,by rw[dR];exact cB aR (by rfl),((bT _ _).alloc (bH _) _).alloc aR _⟩ ?_;rintro w1 ⟨hZ,hA,hb⟩;go_wp2
 go_loopw [4] (fun i wr=> ∃k:Nat,k<=3/\i=.int .i64 k/\aK .i64 wr w.heap.size 16 (fun _=>0)/\aK .u8 wr (w.heap.size+1) 32 (upto k (dg 256 121665) (fun _=>0))/\Below w.heap.size w wr) (fun i _=>3 - (intOf i).toNat)
 case atStart=>exact⟨0,jm _,rfl,hZ,hA,hb⟩
 case round=>
  clear hZ hA hb;obtain⟨k,hk,rfl,hZ,hA,hb⟩:=hrel;rcases(by omega:k=0\/k=1\/k=2\/k=3) with rfl | rfl | rfl | rfl
  case inl=>
   have f1:=hA.free 0;have e1:=hA.cell 0 aM;have HA:=ay hA;clear hA;go_wp2;go_roundw
   case rel=>exact⟨1,by omega,by rfl,hZ.other dO _,by rw[<-dh (show dg 256 121665 0= _ from rfl)];exact HA.out.set _ _,hb.setCell dO _⟩
   case measure=>simp[intOf] <;> omega
  case inr.inl=>
   have f1:=hA.free 1;have e1:=hA.cell 1 aM;have HA:=ay hA;clear hA;go_wp2;go_roundw
   case rel=>exact⟨2,by omega,by rfl,hZ.other dO _,by rw[<-dh (show dg 256 121665 1= _ from rfl)];exact HA.out.set _ _,hb.setCell dO _⟩
   case measure=>simp[intOf] <;> omega
  case inr.inr.inl=>
   have f1:=hA.free 2;have e1:=hA.cell 2 aM;have HA:=ay hA;clear hA;go_wp2;go_roundw
   case rel=>exact⟨3,by omega,by rfl,hZ.other dO _,by rw[<-dh (show dg 256 121665 2= _ from rfl)];exact HA.out.set _ _,hb.setCell dO _⟩
   case measure=>simp[intOf] <;> omega
  case inr.inr.inr=>
   have jv:=hA.congr Pz;go_wp2_with (refine aZ rfl 22 _ rfl .u8 (w.heap.size+1) 32 (dg 256 121665) 5 iL fZ rfl jv ?_);refine(HC.out _).mono ?_;rintro e w3 ⟨rfl,ji⟩;have lZ:=hZ.kept ji;have jF:=hb.trans (ji.mono hb.size);clear hZ hA jv hb ji;go_wp2_with (refine aL rfl 191 _ _ rfl .i64 w.heap.size 16 (fun _=>0) Db bP rfl rfl lZ ?_);exact bodyPost_ret (dI rfl _ _ .i64 w.heap.size 16 _ rfl (lZ.setRow _ _) dB rfl bP) rfl ⟨rfl,aB jF (bH _) _⟩
theorem OO (f2 k2 f3 k3 fu:Nat->Int) (A B C D U:Int) (h2:Fe f2 A) (i2:Fe k2 B) (h3:Fe f3 C) (i3:Fe k3 D) (hu:Fe fu U) (w:World):
  Calls Tryz.prog 202 #[El f2,El k2,El f3,El k3,El fu] w fun e w'=> ∃a b c d,e=.returned (.tuple #[El a,El b,El c,El d])/\(Fe a (dX A B)/\Fe b (dZ A B)/\Fe c (sX A B C D)/\Fe d (sZ U A B C D))/\Below w.heap.size w w':=by
 have H2:=ay h2;have I2:=ay i2;have H3:=ay h3;have I3:=ay i3;have HU:=ay hu;clear h2 i2 h3 i3 hu;unfold El
 go_enter Tryz.func202,Tryz.ntmps202
 go_upto_region 1 with(fail)
 refine aJ (fun w1=>(aK .i64 w1 w.heap.size 16 f2/\aK .i64 w1 (w.heap.size+1) 16 k2/\aK .i64 w1 (w.heap.size+2) 16 f3/\aK .i64 w1 (w.heap.size+3) 16 k3/\aK .i64 w1 (w.heap.size+4) 16 fu)/\(aK .i64 w1 (w.heap.size+5) 16 (fun _=>0)/\aK .i64 w1 (w.heap.size+6) 16 (fun _=>0)/\aK .i64 w1 (w.heap.size+7) 16 (fun _=>0)/\aK .i64 w1 (w.heap.size+8) 16 (fun _=>0))/\Below w.heap.size w w1)
  ⟨⟨.alloc (.alloc (.alloc (.alloc (.alloc (.alloc (.alloc (.alloc (cB dO (by rfl)) _) _) _) _) _) _) _) _,.alloc (.alloc (.alloc (.alloc (.alloc (.alloc (.alloc (cB dO (by rfl)) _) _) _) _) _) _) _,.alloc (.alloc (.alloc (.alloc (.alloc (.alloc (cB dO (by rfl)) _) _) _) _) _) _,.alloc (.alloc (.alloc (.alloc (.alloc (cB dO (by rfl)) _) _) _) _) _,.alloc (.alloc (.alloc (.alloc (cB dO (by rfl)) _) _) _) _⟩,
   ⟨.alloc (.alloc (.alloc (cB dO (by rfl)) _) _) _,.alloc (.alloc (cB dO (by rfl)) _) _,.alloc (cB dO (by rfl)) _,cB dO (by rfl)⟩,
   ((((((((((bT _ _).alloc (bH _) _).alloc dO _).alloc dO _).alloc dO _).alloc dO _).alloc dO _).alloc dO _).alloc dO _).alloc dO _)⟩ ?_
 rintro w1 ⟨⟨hA,hB',hC,hD,hE⟩,⟨YQ,CW,YP,VO⟩,aD⟩;have gP:w.heap.size+9<=w1.heap.size:=by have:=VO.lt;omega
 refine bN (n:=72) aQ aQ aQ rfl
  (ku [(8,6),(9,7)]) (gH [(8,6),(9,7)]) (fun _=>arr .i64 16 (fun _=>0)) (fun i=>match i with | 6=>(arr .i64 16 (dw (f2) (k2))) | 7=>(arr .i64 16 (fG (f2) (k2))) | _=> #[]) (fun _=>191) (fun i=>match i with | 6=>14 | 7=>15 | _=>0)
  (fun ii vv _=>(match ii with | 0 | 3=>vv=.agg (arr .i64 16 (f2)) | 1 | 4=>vv=.agg (arr .i64 16 (k2)) | 2=>vv=.agg (arr .i64 16 (dw (f2) (k2))) | 5=>vv=.agg (arr .i64 16 (fG (f2) (k2))) | _=>True)) (fun _ _=>True) (fun _ _ _=>trivial) (fun _ _ _ _ _ _ _=>trivial) (fun _ _ _ _ h _=>h)
  (iJ rfl) (fT rfl) ?_ ?_ ?_ ?_
 ·refine dG ?_;refine⟨?_,?_,?_,?_,?_,?_,(fun h=>by cases h),(fun h=>by cases h),(fun _ h=>by cases h),(fun _ h=>by cases h),trivial⟩
  ·intro _ _ a w2 hB hF hd;exact aN <| aW (aF rfl dB rfl bP (hF.same 5 rfl) (hA.below hB hA.lt)) rfl
  ·intro _ _ a w2 hB hF hd;exact aN <| aW (aF rfl dB rfl bP (hF.same 6 rfl) (hB'.below hB hB'.lt)) rfl
  ·intro _ _ a w2 hB hF hd;refine aN <| aI _ _ _ rfl Tryz.call218 _ (args2 (hd 0 _ rfl rfl rfl (aj rfl)) (hd 1 _ rfl rfl rfl (aj rfl))) aR ((iD _ _ _ _ H2.out I2.out w2).mono ?_);rintro e w3 ⟨rfl,hb⟩;exact⟨_,rfl,rfl,hb⟩
  ·intro _ _ a w2 hB hF hd;exact aN <| aW (aF rfl dB rfl bP (hF.same 5 rfl) (hA.below hB hA.lt)) rfl
  ·intro _ _ a w2 hB hF hd;exact aN <| aW (aF rfl dB rfl bP (hF.same 6 rfl) (hB'.below hB hB'.lt)) rfl
  ·intro _ _ a w2 hB hF hd;refine aN <| aI _ _ _ rfl Tryz.call244 _ (args2 (hd 3 _ rfl rfl rfl (aj rfl)) (hd 4 _ rfl rfl rfl (aj rfl))) aR ((jD _ _ _ _ H2.out I2.out w2).mono ?_);rintro e w3 ⟨rfl,hb⟩;exact⟨_,rfl,rfl,hb⟩
 ·refine dG ?_;refine⟨(fun h=>by cases h),(fun h=>by cases h),(fun h=>by cases h),(fun h=>by cases h),(fun h=>by cases h),(fun h=>by cases h),?_,?_,(fun h=>by cases h),(fun h=>by cases h),trivial⟩
  ·exact fun _=>⟨rfl,rfl,fun a w2 K h=>bD rfl rfl Tryz.zeroValue191 aR h⟩
  ·exact fun _=>⟨rfl,rfl,fun a w2 K h=>bD rfl rfl Tryz.zeroValue191 aR h⟩
 ·refine dG ?_;refine⟨(fun _ h=>by cases h),(fun _ h=>by cases h),(fun _ h=>by cases h),(fun _ h=>by cases h),(fun _ h=>by cases h),(fun _ h=>by cases h),(fun _ h=>by cases h),(fun _ h=>by cases h),?_,?_,trivial⟩
  ·intro p hp;obtain rfl:6=p:=gJ hp;exact⟨rfl,rfl,⟨_,rfl⟩,aj rfl,fun a w2 b K hB hF hd hx hb h=>bQ rfl rfl bP hx (hd 2 _ rfl rfl rfl (aj rfl)) hb h⟩
  ·intro p hp;obtain rfl:7=p:=gJ hp;exact⟨rfl,rfl,⟨_,rfl⟩,aj rfl,fun a w2 b K hB hF hd hx hb h=>bQ rfl rfl bP hx (hd 5 _ rfl rfl rfl (aj rfl)) hb h⟩
 ·intro a w2 blk hB hF hS hv hfin dS;obtain⟨v6,QA,v6u⟩:=hv 6 _ rfl rfl;obtain⟨v7,Gu,v7u⟩:=hv 7 _ rfl rfl;have ha:=aO rfl rfl hF [_,_,_,_,_,_,_,_,undef,undef] rfl ⟨hS 0 _ rfl rfl rfl,hS 1 _ rfl rfl rfl,hS 2 _ rfl rfl rfl,hS 3 _ rfl rfl rfl,hS 4 _ rfl rfl rfl,hS 5 _ rfl rfl rfl,v6,v7,trivial,trivial,trivial⟩;have f6:=hfin 8 _ 6 rfl rfl;have f7:=hfin 9 _ 7 rfl rfl;have ZC:=dS 6 7 _ _ rfl rfl rfl rfl aM;simp only[puts,Act.put,fB,fD,fF] at ha;subst ha;have V6:aK .i64 w2 (blk 6) 16 (dw (f2) (k2)):=⟨_,f6⟩
  have V7:aK .i64 w2 (blk 7) 16 (fG (f2) (k2)):=⟨_,f7⟩
  clear hS hv hfin dS hF v6 v7 f6 f7;replace hA:=hA.kept hB;replace hB':=hB'.kept hB;replace hC:=hC.kept hB;replace hD:=hD.kept hB;replace hE:=hE.kept hB;replace YQ:=YQ.kept hB;replace CW:=CW.kept hB;replace YP:=YP.kept hB;replace VO:=VO.kept hB;obtain⟨bpl,agT⟩:∃x,x=blk 6:=⟨_,rfl⟩
  obtain⟨pl,hpl,Hpl⟩:∃x,x=dw f2 k2/\Hid (Fe x (A+B)):=⟨_,rfl,H2.out.dw I2.out⟩
  rw[<-hpl,←agT] at V6;rw[<-agT] at QA ⊢;have lpl:w.heap.size+9<=bpl:=iw gP QA;obtain⟨bmi,agV⟩:∃x,x=blk 7:=⟨_,rfl⟩
  obtain⟨mi,Bl,Hmi⟩:∃x,x=fG f2 k2/\Hid (Fe x (A - B)):=⟨_,rfl,H2.out.fG I2.out⟩
  rw[<-Bl,←agV] at V7;rw[<-agV] at Gu ⊢;have lmi:w.heap.size+9<=bmi:=iw gP Gu;replace aD:=aD.trans (hB.mono aD.size);replace gP:=iw gP hB.size;clear hB hpl agT Bl agV;have xV:=V6;clear V6 QA v6u;have xW:=V7;clear V7 Gu v7u;go_upto_region 2 with(fail)
  refine bN (n:=72) aQ aQ aQ rfl
   (ku [(8,6),(9,7)]) (gH [(8,6),(9,7)]) (fun _=>arr .i64 16 (fun _=>0)) (fun i=>match i with | 6=>(arr .i64 16 (aS (pl) (pl))) | 7=>(arr .i64 16 (aS (mi) (mi))) | _=> #[]) (fun _=>191) (fun i=>match i with | 6=>16 | 7=>17 | _=>0)
   (fun ii vv _=>(match ii with | 0 | 1=>vv=.agg (arr .i64 16 (pl)) | 2=>vv=.agg (arr .i64 16 (aS (pl) (pl))) | 3 | 4=>vv=.agg (arr .i64 16 (mi)) | 5=>vv=.agg (arr .i64 16 (aS (mi) (mi))) | _=>True)) (fun _ _=>True) (fun _ _ _=>trivial) (fun _ _ _ _ _ _ _=>trivial) (fun _ _ _ _ h _=>h)
   (iJ rfl) (fT rfl) ?_ ?_ ?_ ?_
  ·refine dG ?_;refine⟨?_,?_,?_,?_,?_,?_,(fun h=>by cases h),(fun h=>by cases h),(fun _ h=>by cases h),(fun _ h=>by cases h),trivial⟩
   ·intro _ _ a w2 hB hF hd;exact aN <| aW (aF rfl dB rfl bP (hF.same 14 rfl) (xV.below hB xV.lt)) rfl
   ·intro _ _ a w2 hB hF hd;exact aN <| aW (aF rfl dB rfl bP (hF.same 14 rfl) (xV.below hB xV.lt)) rfl
   ·intro _ _ a w2 hB hF hd;refine aN <| aI _ _ _ rfl Tryz.call203 _ (args2 (hd 0 _ rfl rfl rfl (aj rfl)) (hd 1 _ rfl rfl rfl (aj rfl))) aR ((bZ _ _ _ _ Hpl.out Hpl.out w2).mono ?_);rintro e w3 ⟨rfl,hb⟩;exact⟨_,rfl,rfl,hb⟩
   ·intro _ _ a w2 hB hF hd;exact aN <| aW (aF rfl dB rfl bP (hF.same 15 rfl) (xW.below hB xW.lt)) rfl
   ·intro _ _ a w2 hB hF hd;exact aN <| aW (aF rfl dB rfl bP (hF.same 15 rfl) (xW.below hB xW.lt)) rfl
   ·intro _ _ a w2 hB hF hd;refine aN <| aI _ _ _ rfl Tryz.call203 _ (args2 (hd 3 _ rfl rfl rfl (aj rfl)) (hd 4 _ rfl rfl rfl (aj rfl))) aR ((bZ _ _ _ _ Hmi.out Hmi.out w2).mono ?_);rintro e w3 ⟨rfl,hb⟩;exact⟨_,rfl,rfl,hb⟩
  ·refine dG ?_;refine⟨(fun h=>by cases h),(fun h=>by cases h),(fun h=>by cases h),(fun h=>by cases h),(fun h=>by cases h),(fun h=>by cases h),?_,?_,(fun h=>by cases h),(fun h=>by cases h),trivial⟩
   ·exact fun _=>⟨rfl,rfl,fun a w2 K h=>bD rfl rfl Tryz.zeroValue191 aR h⟩
   ·exact fun _=>⟨rfl,rfl,fun a w2 K h=>bD rfl rfl Tryz.zeroValue191 aR h⟩
  ·refine dG ?_;refine⟨(fun _ h=>by cases h),(fun _ h=>by cases h),(fun _ h=>by cases h),(fun _ h=>by cases h),(fun _ h=>by cases h),(fun _ h=>by cases h),(fun _ h=>by cases h),(fun _ h=>by cases h),?_,?_,trivial⟩
   ·intro p hp;obtain rfl:6=p:=gJ hp;exact⟨rfl,rfl,⟨_,rfl⟩,aj rfl,fun a w2 b K hB hF hd hx hb h=>bQ rfl rfl bP hx (hd 2 _ rfl rfl rfl (aj rfl)) hb h⟩
   ·intro p hp;obtain rfl:7=p:=gJ hp;exact⟨rfl,rfl,⟨_,rfl⟩,aj rfl,fun a w2 b K hB hF hd hx hb h=>bQ rfl rfl bP hx (hd 5 _ rfl rfl rfl (aj rfl)) hb h⟩
  ·intro a w3 blk hB hF hS hv hfin dS;obtain⟨v6,QA,v6u⟩:=hv 6 _ rfl rfl;obtain⟨v7,Gu,v7u⟩:=hv 7 _ rfl rfl;have ha:=aO rfl rfl hF [_,_,_,_,_,_,_,_,undef,undef] rfl ⟨hS 0 _ rfl rfl rfl,hS 1 _ rfl rfl rfl,hS 2 _ rfl rfl rfl,hS 3 _ rfl rfl rfl,hS 4 _ rfl rfl rfl,hS 5 _ rfl rfl rfl,v6,v7,trivial,trivial,trivial⟩;have f6:=hfin 8 _ 6 rfl rfl;have f7:=hfin 9 _ 7 rfl rfl;have ZC:=dS 6 7 _ _ rfl rfl rfl rfl aM;simp only[puts,Act.put,fB,fD,fF] at ha;subst ha;have V6:aK .i64 w3 (blk 6) 16 (aS (pl) (pl)):=⟨_,f6⟩
   have V7:aK .i64 w3 (blk 7) 16 (aS (mi) (mi)):=⟨_,f7⟩
   clear hS hv hfin dS hF v6 v7 f6 f7;replace hA:=hA.kept hB;replace hB':=hB'.kept hB;replace hC:=hC.kept hB;replace hD:=hD.kept hB;replace hE:=hE.kept hB;replace YQ:=YQ.kept hB;replace CW:=CW.kept hB;replace YP:=YP.kept hB;replace VO:=VO.kept hB;replace xV:=xV.kept hB;replace xW:=xW.kept hB;obtain⟨baa,Pg⟩:∃x,x=blk 6:=⟨_,rfl⟩
   obtain⟨aa,haa,VT⟩:∃x,x=aS pl pl/\Hid (Fe x ((A+B) * (A+B))):=⟨_,rfl,Hpl.out.aS Hpl.out⟩
   rw[<-haa,←Pg] at V6;rw[<-Pg] at QA ⊢;have laa:w.heap.size+9<=baa:=iw gP QA;obtain⟨bbb,Pf⟩:∃x,x=blk 7:=⟨_,rfl⟩
   obtain⟨bb,hbb,Hbb⟩:∃x,x=aS mi mi/\Hid (Fe x ((A - B) * (A - B))):=⟨_,rfl,Hmi.out.aS Hmi.out⟩
   rw[<-hbb,←Pf] at V7;rw[<-Pf] at Gu ⊢;have lbb:w.heap.size+9<=bbb:=iw gP Gu;replace aD:=aD.trans (hB.mono aD.size);replace gP:=iw gP hB.size;clear hB haa Pg hbb Pf;have lU:=V6;clear V6 QA v6u;have nW:=V7;clear V7 Gu v7u;go_upto_region 3 with(fail)
   refine bN (n:=72) aQ aQ aQ rfl
    (ku [(4,3)]) (gH [(4,3)]) (fun _=>arr .i64 16 (fun _=>0)) (fun _=>(arr .i64 16 (fG (aa) (bb)))) (fun _=>191) (fun _=>18)
    (fun ii vv _=>(match ii with | 0=>vv=.agg (arr .i64 16 (aa)) | 1=>vv=.agg (arr .i64 16 (bb)) | 2=>vv=.agg (arr .i64 16 (fG (aa) (bb))) | _=>True)) (fun _ _=>True) (fun _ _ _=>trivial) (fun _ _ _ _ _ _ _=>trivial) (fun _ _ _ _ h _=>h)
    (iJ rfl) (fT rfl) ?_ ?_ ?_ ?_
   ·refine dG ?_;refine⟨?_,?_,?_,(fun h=>by cases h),(fun _ h=>by cases h),trivial⟩
    ·intro _ _ a w2 hB hF hd;exact aN <| aW (aF rfl dB rfl bP (hF.same 16 rfl) (lU.below hB lU.lt)) rfl
    ·intro _ _ a w2 hB hF hd;exact aN <| aW (aF rfl dB rfl bP (hF.same 17 rfl) (nW.below hB nW.lt)) rfl
    ·intro _ _ a w2 hB hF hd;refine aN <| aI _ _ _ rfl Tryz.call244 _ (args2 (hd 0 _ rfl rfl rfl (aj rfl)) (hd 1 _ rfl rfl rfl (aj rfl))) aR ((jD _ _ _ _ VT.out Hbb.out w2).mono ?_);rintro e w3 ⟨rfl,hb⟩;exact⟨_,rfl,rfl,hb⟩
   ·refine dG ?_;refine⟨(fun h=>by cases h),(fun h=>by cases h),(fun h=>by cases h),?_,(fun h=>by cases h),trivial⟩
    ·exact fun _=>⟨rfl,rfl,fun a w2 K h=>bD rfl rfl Tryz.zeroValue191 aR h⟩
   ·refine dG ?_;refine⟨(fun _ h=>by cases h),(fun _ h=>by cases h),(fun _ h=>by cases h),(fun _ h=>by cases h),?_,trivial⟩
    ·intro p hp;obtain rfl:3=p:=gJ hp;exact⟨rfl,rfl,⟨_,rfl⟩,aj rfl,fun a w2 b K hB hF hd hx hb h=>bQ rfl rfl bP hx (hd 2 _ rfl rfl rfl (aj rfl)) hb h⟩
   ·intro a w4 blk hB hF hS hv hfin dS;obtain⟨v3,Gv,Sn⟩:=hv 3 _ rfl rfl;have ha:=aO rfl rfl hF [_,_,_,_,undef] rfl ⟨hS 0 _ rfl rfl rfl,hS 1 _ rfl rfl rfl,hS 2 _ rfl rfl rfl,v3,trivial,trivial⟩;have f3:=hfin 4 _ 3 rfl rfl;simp only[puts,Act.put,fB,fD,fF] at ha;subst ha;have V3:aK .i64 w4 (blk 3) 16 (fG (aa) (bb)):=⟨_,f3⟩
    clear hS hv hfin dS hF v3 f3;replace hA:=hA.kept hB;replace hB':=hB'.kept hB;replace hC:=hC.kept hB;replace hD:=hD.kept hB;replace hE:=hE.kept hB;replace YQ:=YQ.kept hB;replace CW:=CW.kept hB;replace YP:=YP.kept hB;replace VO:=VO.kept hB;replace xV:=xV.kept hB;replace xW:=xW.kept hB;replace lU:=lU.kept hB;replace nW:=nW.kept hB;obtain⟨bee,Pe⟩:∃x,x=blk 3:=⟨_,rfl⟩
    obtain⟨ee,hee,Hee⟩:∃x,x=fG aa bb/\Hid (Fe x ((A+B) * (A+B) - (A - B) * (A - B))):=⟨_,rfl,VT.out.fG Hbb.out⟩
    rw[<-hee,←Pe] at V3;rw[<-Pe] at Gv ⊢;have lee:w.heap.size+9<=bee:=iw gP Gv;replace aD:=aD.trans (hB.mono aD.size);replace gP:=iw gP hB.size;clear hB hee Pe;have zk:=V3;clear V3 Gv Sn;go_upto_region 4 with(fail)
    refine bN (n:=72) aQ aQ aQ rfl
     (ku [(12,10),(13,11)]) (gH [(12,10),(13,11)]) (fun _=>arr .i64 16 (fun _=>0)) (fun i=>match i with | 10=>(arr .i64 16 (aS (fG (f3) (k3)) (pl))) | 11=>(arr .i64 16 (aS (dw (f3) (k3)) (mi))) | _=> #[]) (fun _=>191) (fun i=>match i with | 10=>19 | 11=>20 | _=>0)
     (fun ii vv _=>(match ii with | 0 | 5=>vv=.agg (arr .i64 16 (f3)) | 1 | 6=>vv=.agg (arr .i64 16 (k3)) | 2=>vv=.agg (arr .i64 16 (fG (f3) (k3))) | 3=>vv=.agg (arr .i64 16 (pl)) | 4=>vv=.agg (arr .i64 16 (aS (fG (f3) (k3)) (pl))) | 7=>vv=.agg (arr .i64 16 (dw (f3) (k3))) | 8=>vv=.agg (arr .i64 16 (mi)) | 9=>vv=.agg (arr .i64 16 (aS (dw (f3) (k3)) (mi))) | _=>True)) (fun _ _=>True) (fun _ _ _=>trivial) (fun _ _ _ _ _ _ _=>trivial) (fun _ _ _ _ h _=>h)
     (iJ rfl) (fT rfl) ?_ ?_ ?_ ?_
    ·refine dG ?_;refine⟨?_,?_,?_,?_,?_,?_,?_,?_,?_,?_,(fun h=>by cases h),(fun h=>by cases h),(fun _ h=>by cases h),(fun _ h=>by cases h),trivial⟩
     ·intro _ _ a w2 hB hF hd;exact aN <| aW (aF rfl dB rfl bP (hF.same 7 rfl) (hC.below hB hC.lt)) rfl
     ·intro _ _ a w2 hB hF hd;exact aN <| aW (aF rfl dB rfl bP (hF.same 8 rfl) (hD.below hB hD.lt)) rfl
     ·intro _ _ a w2 hB hF hd;refine aN <| aI _ _ _ rfl Tryz.call244 _ (args2 (hd 0 _ rfl rfl rfl (aj rfl)) (hd 1 _ rfl rfl rfl (aj rfl))) aR ((jD _ _ _ _ H3.out I3.out w2).mono ?_);rintro e w3 ⟨rfl,hb⟩;exact⟨_,rfl,rfl,hb⟩
     ·intro _ _ a w2 hB hF hd;exact aN <| aW (aF rfl dB rfl bP (hF.same 14 rfl) (xV.below hB xV.lt)) rfl
     ·intro _ _ a w2 hB hF hd;refine aN <| aI _ _ _ rfl Tryz.call203 _ (args2 (hd 2 _ rfl rfl rfl (aj rfl)) (hd 3 _ rfl rfl rfl (aj rfl))) aR ((bZ _ _ _ _ ((H3.out).fG I3.out) Hpl.out w2).mono ?_);rintro e w3 ⟨rfl,hb⟩;exact⟨_,rfl,rfl,hb⟩
     ·intro _ _ a w2 hB hF hd;exact aN <| aW (aF rfl dB rfl bP (hF.same 7 rfl) (hC.below hB hC.lt)) rfl
     ·intro _ _ a w2 hB hF hd;exact aN <| aW (aF rfl dB rfl bP (hF.same 8 rfl) (hD.below hB hD.lt)) rfl
     ·intro _ _ a w2 hB hF hd;refine aN <| aI _ _ _ rfl Tryz.call218 _ (args2 (hd 5 _ rfl rfl rfl (aj rfl)) (hd 6 _ rfl rfl rfl (aj rfl))) aR ((iD _ _ _ _ H3.out I3.out w2).mono ?_);rintro e w3 ⟨rfl,hb⟩;exact⟨_,rfl,rfl,hb⟩
     ·intro _ _ a w2 hB hF hd;exact aN <| aW (aF rfl dB rfl bP (hF.same 15 rfl) (xW.below hB xW.lt)) rfl
     ·intro _ _ a w2 hB hF hd;refine aN <| aI _ _ _ rfl Tryz.call203 _ (args2 (hd 7 _ rfl rfl rfl (aj rfl)) (hd 8 _ rfl rfl rfl (aj rfl))) aR ((bZ _ _ _ _ ((H3.out).dw I3.out) Hmi.out w2).mono ?_);rintro e w3 ⟨rfl,hb⟩;exact⟨_,rfl,rfl,hb⟩
    ·refine dG ?_;refine⟨(fun h=>by cases h),(fun h=>by cases h),(fun h=>by cases h),(fun h=>by cases h),(fun h=>by cases h),(fun h=>by cases h),(fun h=>by cases h),(fun h=>by cases h),(fun h=>by cases h),(fun h=>by cases h),?_,?_,(fun h=>by cases h),(fun h=>by cases h),trivial⟩
     ·exact fun _=>⟨rfl,rfl,fun a w2 K h=>bD rfl rfl Tryz.zeroValue191 aR h⟩
     ·exact fun _=>⟨rfl,rfl,fun a w2 K h=>bD rfl rfl Tryz.zeroValue191 aR h⟩
    ·refine dG ?_;refine⟨(fun _ h=>by cases h),(fun _ h=>by cases h),(fun _ h=>by cases h),(fun _ h=>by cases h),(fun _ h=>by cases h),(fun _ h=>by cases h),(fun _ h=>by cases h),(fun _ h=>by cases h),(fun _ h=>by cases h),(fun _ h=>by cases h),(fun _ h=>by cases h),(fun _ h=>by cases h),?_,?_,trivial⟩
     ·intro p hp;obtain rfl:10=p:=gJ hp;exact⟨rfl,rfl,⟨_,rfl⟩,aj rfl,fun a w2 b K hB hF hd hx hb h=>bQ rfl rfl bP hx (hd 4 _ rfl rfl rfl (aj rfl)) hb h⟩
     ·intro p hp;obtain rfl:11=p:=gJ hp;exact⟨rfl,rfl,⟨_,rfl⟩,aj rfl,fun a w2 b K hB hF hd hx hb h=>bQ rfl rfl bP hx (hd 9 _ rfl rfl rfl (aj rfl)) hb h⟩
    ·intro a w5 blk hB hF hS hv hfin dS;obtain⟨v10,Wv,aff⟩:=hv 10 _ rfl rfl;obtain⟨v11,BL,Wu⟩:=hv 11 _ rfl rfl;have ha:=aO rfl rfl hF [_,_,_,_,_,_,_,_,_,_,_,_,undef,undef] rfl ⟨hS 0 _ rfl rfl rfl,hS 1 _ rfl rfl rfl,hS 2 _ rfl rfl rfl,hS 3 _ rfl rfl rfl,hS 4 _ rfl rfl rfl,hS 5 _ rfl rfl rfl,hS 6 _ rfl rfl rfl,hS 7 _ rfl rfl rfl,hS 8 _ rfl rfl rfl,hS 9 _ rfl rfl rfl,v10,v11,trivial,trivial,trivial⟩;have f10:=hfin 12 _ 10 rfl rfl;have f11:=hfin 13 _ 11 rfl rfl;have aqd:=dS 10 11 _ _ rfl rfl rfl rfl aM;simp only[puts,Act.put,fB,fD,fF] at ha;subst ha;have V10:aK .i64 w5 (blk 10) 16 (aS (fG (f3) (k3)) (pl)):=⟨_,f10⟩
     have V11:aK .i64 w5 (blk 11) 16 (aS (dw (f3) (k3)) (mi)):=⟨_,f11⟩
     clear hS hv hfin dS hF v10 v11 f10 f11;replace hA:=hA.kept hB;replace hB':=hB'.kept hB;replace hC:=hC.kept hB;replace hD:=hD.kept hB;replace hE:=hE.kept hB;replace YQ:=YQ.kept hB;replace CW:=CW.kept hB;replace YP:=YP.kept hB;replace VO:=VO.kept hB;replace xV:=xV.kept hB;replace xW:=xW.kept hB;replace lU:=lU.kept hB;replace nW:=nW.kept hB;replace zk:=zk.kept hB;obtain⟨bda,ahb⟩:∃x,x=blk 10:=⟨_,rfl⟩
     obtain⟨da,hda,Hda⟩:∃x,x=aS (fG f3 k3) pl/\Hid (Fe x ((C - D) * (A+B))):=⟨_,rfl,(H3.out.fG I3.out).aS Hpl.out⟩
     rw[<-hda,←ahb] at V10;rw[<-ahb] at Wv ⊢;have lda:w.heap.size+9<=bda:=iw gP Wv;obtain⟨bcb,ahd⟩:∃x,x=blk 11:=⟨_,rfl⟩
     obtain⟨cb,hcb,Hcb⟩:∃x,x=aS (dw f3 k3) mi/\Hid (Fe x ((C+D) * (A - B))):=⟨_,rfl,(H3.out.dw I3.out).aS Hmi.out⟩
     rw[<-hcb,←ahd] at V11;rw[<-ahd] at BL ⊢;have lcb:w.heap.size+9<=bcb:=iw gP BL;replace aD:=aD.trans (hB.mono aD.size);replace gP:=iw gP hB.size;clear hB hda ahb hcb ahd;have Ue:=V10;clear V10 Wv aff;have Ug:=V11;clear V11 BL Wu;go_upto_region 5 with(fail)
     refine bN (n:=72) aQ aQ aQ rfl
      (ku [(8,6),(9,7)]) (gH [(8,6),(9,7)]) (fun _=>arr .i64 16 (fun _=>0)) (fun i=>match i with | 6=>(arr .i64 16 (dw (da) (cb))) | 7=>(arr .i64 16 (fG (da) (cb))) | _=> #[]) (fun _=>191) (fun i=>match i with | 6=>21 | 7=>22 | _=>0)
      (fun ii vv _=>(match ii with | 0 | 3=>vv=.agg (arr .i64 16 (da)) | 1 | 4=>vv=.agg (arr .i64 16 (cb)) | 2=>vv=.agg (arr .i64 16 (dw (da) (cb))) | 5=>vv=.agg (arr .i64 16 (fG (da) (cb))) | _=>True)) (fun _ _=>True) (fun _ _ _=>trivial) (fun _ _ _ _ _ _ _=>trivial) (fun _ _ _ _ h _=>h)
      (iJ rfl) (fT rfl) ?_ ?_ ?_ ?_
     ·refine dG ?_;refine⟨?_,?_,?_,?_,?_,?_,(fun h=>by cases h),(fun h=>by cases h),(fun _ h=>by cases h),(fun _ h=>by cases h),trivial⟩
      ·intro _ _ a w2 hB hF hd;exact aN <| aW (aF rfl dB rfl bP (hF.same 19 rfl) (Ue.below hB Ue.lt)) rfl
      ·intro _ _ a w2 hB hF hd;exact aN <| aW (aF rfl dB rfl bP (hF.same 20 rfl) (Ug.below hB Ug.lt)) rfl
      ·intro _ _ a w2 hB hF hd;refine aN <| aI _ _ _ rfl Tryz.call218 _ (args2 (hd 0 _ rfl rfl rfl (aj rfl)) (hd 1 _ rfl rfl rfl (aj rfl))) aR ((iD _ _ _ _ Hda.out Hcb.out w2).mono ?_);rintro e w3 ⟨rfl,hb⟩;exact⟨_,rfl,rfl,hb⟩
      ·intro _ _ a w2 hB hF hd;exact aN <| aW (aF rfl dB rfl bP (hF.same 19 rfl) (Ue.below hB Ue.lt)) rfl
      ·intro _ _ a w2 hB hF hd;exact aN <| aW (aF rfl dB rfl bP (hF.same 20 rfl) (Ug.below hB Ug.lt)) rfl
      ·intro _ _ a w2 hB hF hd;refine aN <| aI _ _ _ rfl Tryz.call244 _ (args2 (hd 3 _ rfl rfl rfl (aj rfl)) (hd 4 _ rfl rfl rfl (aj rfl))) aR ((jD _ _ _ _ Hda.out Hcb.out w2).mono ?_);rintro e w3 ⟨rfl,hb⟩;exact⟨_,rfl,rfl,hb⟩
     ·refine dG ?_;refine⟨(fun h=>by cases h),(fun h=>by cases h),(fun h=>by cases h),(fun h=>by cases h),(fun h=>by cases h),(fun h=>by cases h),?_,?_,(fun h=>by cases h),(fun h=>by cases h),trivial⟩
      ·exact fun _=>⟨rfl,rfl,fun a w2 K h=>bD rfl rfl Tryz.zeroValue191 aR h⟩
      ·exact fun _=>⟨rfl,rfl,fun a w2 K h=>bD rfl rfl Tryz.zeroValue191 aR h⟩
     ·refine dG ?_;refine⟨(fun _ h=>by cases h),(fun _ h=>by cases h),(fun _ h=>by cases h),(fun _ h=>by cases h),(fun _ h=>by cases h),(fun _ h=>by cases h),(fun _ h=>by cases h),(fun _ h=>by cases h),?_,?_,trivial⟩
      ·intro p hp;obtain rfl:6=p:=gJ hp;exact⟨rfl,rfl,⟨_,rfl⟩,aj rfl,fun a w2 b K hB hF hd hx hb h=>bQ rfl rfl bP hx (hd 2 _ rfl rfl rfl (aj rfl)) hb h⟩
      ·intro p hp;obtain rfl:7=p:=gJ hp;exact⟨rfl,rfl,⟨_,rfl⟩,aj rfl,fun a w2 b K hB hF hd hx hb h=>bQ rfl rfl bP hx (hd 5 _ rfl rfl rfl (aj rfl)) hb h⟩
     ·intro a w6 blk hB hF hS hv hfin dS;obtain⟨v6,QA,v6u⟩:=hv 6 _ rfl rfl;obtain⟨v7,Gu,v7u⟩:=hv 7 _ rfl rfl;have ha:=aO rfl rfl hF [_,_,_,_,_,_,_,_,undef,undef] rfl ⟨hS 0 _ rfl rfl rfl,hS 1 _ rfl rfl rfl,hS 2 _ rfl rfl rfl,hS 3 _ rfl rfl rfl,hS 4 _ rfl rfl rfl,hS 5 _ rfl rfl rfl,v6,v7,trivial,trivial,trivial⟩;have f6:=hfin 8 _ 6 rfl rfl;have f7:=hfin 9 _ 7 rfl rfl;have ZC:=dS 6 7 _ _ rfl rfl rfl rfl aM;simp only[puts,Act.put,fB,fD,fF] at ha;subst ha;have V6:aK .i64 w6 (blk 6) 16 (dw (da) (cb)):=⟨_,f6⟩
      have V7:aK .i64 w6 (blk 7) 16 (fG (da) (cb)):=⟨_,f7⟩
      clear hS hv hfin dS hF v6 v7 f6 f7;replace hA:=hA.kept hB;replace hB':=hB'.kept hB;replace hC:=hC.kept hB;replace hD:=hD.kept hB;replace hE:=hE.kept hB;replace YQ:=YQ.kept hB;replace CW:=CW.kept hB;replace YP:=YP.kept hB;replace VO:=VO.kept hB;replace xV:=xV.kept hB;replace xW:=xW.kept hB;replace lU:=lU.kept hB;replace nW:=nW.kept hB;replace zk:=zk.kept hB;replace Ue:=Ue.kept hB;replace Ug:=Ug.kept hB;obtain⟨bsu,agS⟩:∃x,x=blk 6:=⟨_,rfl⟩
      obtain⟨su,hsu,Hsu⟩:∃x,x=dw da cb/\Hid (Fe x ((C - D) * (A+B)+(C+D) * (A - B))):=⟨_,rfl,Hda.out.dw Hcb.out⟩
      rw[<-hsu,←agS] at V6;rw[<-agS] at QA ⊢;have lsu:w.heap.size+9<=bsu:=iw gP QA;obtain⟨bdi,agZ⟩:∃x,x=blk 7:=⟨_,rfl⟩
      obtain⟨di,hdi,Hdi⟩:∃x,x=fG da cb/\Hid (Fe x ((C - D) * (A+B) - (C+D) * (A - B))):=⟨_,rfl,Hda.out.fG Hcb.out⟩
      rw[<-hdi,←agZ] at V7;rw[<-agZ] at Gu ⊢;have ldi:w.heap.size+9<=bdi:=iw gP Gu;replace aD:=aD.trans (hB.mono aD.size);replace gP:=iw gP hB.size;clear hB hsu agS hdi agZ;have acM:=V6;clear V6 QA v6u;have acQ:=V7;clear V7 Gu v7u;go_upto_region 6 with(fail)
      refine dJ (n:=72) (fun i=>i==18 || i==19 || i==20 || i==21) aQ aQ aQ aQ rfl
       (fun ii vv _=>(match ii with | 0 | 4=>vv=.agg (arr .i64 16 (aa)) | 1=>vv=.agg (arr .i64 16 (bb)) | 2=>vv=.agg (arr .i64 16 (aS (aa) (bb))) | 3 | 6=>vv=.agg (arr .i64 16 (ee)) | 5=>vv=.agg (arr .i64 16 (Db)) | 7=>vv=.agg (arr .i64 16 (aS (Db) (ee))) | 8=>vv=.agg (arr .i64 16 (dw (aa) (aS (Db) (ee)))) | 9=>vv=.agg (arr .i64 16 (aS (ee) (dw (aa) (aS (Db) (ee))))) | 10 | 11=>vv=.agg (arr .i64 16 (su)) | 12=>vv=.agg (arr .i64 16 (aS (su) (su))) | 13=>vv=.agg (arr .i64 16 (fu)) | 14 | 15=>vv=.agg (arr .i64 16 (di)) | 16=>vv=.agg (arr .i64 16 (aS (di) (di))) | 17=>vv=.agg (arr .i64 16 (aS (fu) (aS (di) (di)))) | _=>True))
       (fun w w'=>Below w.heap.size w w') (fun _ _ h=>h) (fun _ _ _ _ h _=>h)
       (fun i=>match i with | 18=>(w.heap.size+5) | 19=>(w.heap.size+6) | 20=>(w.heap.size+7) | _=>(w.heap.size+8)) (fun i=>match i with | 18=>(arr .i64 16 (fun _=>0)) | 19=>(arr .i64 16 (fun _=>0)) | 20=>(arr .i64 16 (fun _=>0)) | _=>(arr .i64 16 (fun _=>0))) (fun i=>match i with | 18=>(arr .i64 16 (aS (aa) (bb))) | 19=>(arr .i64 16 (aS (ee) (dw (aa) (aS (Db) (ee))))) | 20=>(arr .i64 16 (aS (su) (su))) | _=>(arr .i64 16 (aS (fu) (aS (di) (di)))))
       (by intro i j _ _ dD jJ gW;simp only[kZ,beq_iff_eq] at dD jJ;rcases dD with((rfl | rfl) | rfl) | rfl<;> rcases jJ with((rfl | rfl) | rfl) | rfl<;> first | exact absurd rfl gW | (simp only[];omega))
       (by intro i _ dD;simp only[kZ,beq_iff_eq] at dD;rcases dD with((rfl | rfl) | rfl) | rfl<;> first | exact(YQ).row | exact(CW).row | exact(YP).row | exact(VO).row)
       ?_ ?_ ?_
      ·refine dG ?_;refine⟨?_,?_,?_,?_,?_,?_,?_,?_,?_,?_,?_,?_,?_,?_,?_,?_,?_,?_,(aP),(aP),(aP),(aP),trivial⟩
       ·intro _ a w2 hB hF hd;exact aN <| aW (aF rfl dB rfl bP (hF.same 16 rfl) (lU.below hB lU.lt)) rfl
       ·intro _ a w2 hB hF hd;exact aN <| aW (aF rfl dB rfl bP (hF.same 17 rfl) (nW.below hB nW.lt)) rfl
       ·intro _ a w2 hB hF hd;refine aN <| aI _ _ _ rfl Tryz.call203 _ (args2 (hd 0 _ rfl rfl (aj rfl)) (hd 1 _ rfl rfl (aj rfl))) aR ((bZ _ _ _ _ VT.out Hbb.out w2).mono ?_);rintro e w3 ⟨rfl,hb⟩;exact⟨_,rfl,rfl,hb⟩
       ·intro _ a w2 hB hF hd;exact aN <| aW (aF rfl dB rfl bP (hF.same 18 rfl) (zk.below hB zk.lt)) rfl
       ·intro _ a w2 hB hF hd;exact aN <| aW (aF rfl dB rfl bP (hF.same 16 rfl) (lU.below hB lU.lt)) rfl
       ·intro _ a w2 hB hF hd;refine aN <| aI _ _ _ rfl Tryz.call245 _ Ak aR ((Ik w2).mono ?_);rintro e w3 ⟨rfl,hb⟩;exact⟨_,rfl,rfl,hb⟩
       ·intro _ a w2 hB hF hd;exact aN <| aW (aF rfl dB rfl bP (hF.same 18 rfl) (zk.below hB zk.lt)) rfl
       ·intro _ a w2 hB hF hd;refine aN <| aI _ _ _ rfl Tryz.call203 _ (args2 (hd 5 _ rfl rfl (aj rfl)) (hd 6 _ rfl rfl (aj rfl))) aR ((bZ _ _ _ _ IG Hee.out w2).mono ?_);rintro e w3 ⟨rfl,hb⟩;exact⟨_,rfl,rfl,hb⟩
       ·intro _ a w2 hB hF hd;refine aN <| aI _ _ _ rfl Tryz.call218 _ (args2 (hd 4 _ rfl rfl (aj rfl)) (hd 7 _ rfl rfl (aj rfl))) aR ((iD _ _ _ _ VT.out ((IG).aS Hee.out) w2).mono ?_);rintro e w3 ⟨rfl,hb⟩;exact⟨_,rfl,rfl,hb⟩
       ·intro _ a w2 hB hF hd;refine aN <| aI _ _ _ rfl Tryz.call203 _ (args2 (hd 3 _ rfl rfl (aj rfl)) (hd 8 _ rfl rfl (aj rfl))) aR ((bZ _ _ _ _ Hee.out ((VT.out).dw ((IG).aS Hee.out)) w2).mono ?_);rintro e w3 ⟨rfl,hb⟩;exact⟨_,rfl,rfl,hb⟩
       ·intro _ a w2 hB hF hd;exact aN <| aW (aF rfl dB rfl bP (hF.same 21 rfl) (acM.below hB acM.lt)) rfl
       ·intro _ a w2 hB hF hd;exact aN <| aW (aF rfl dB rfl bP (hF.same 21 rfl) (acM.below hB acM.lt)) rfl
       ·intro _ a w2 hB hF hd;refine aN <| aI _ _ _ rfl Tryz.call203 _ (args2 (hd 10 _ rfl rfl (aj rfl)) (hd 11 _ rfl rfl (aj rfl))) aR ((bZ _ _ _ _ Hsu.out Hsu.out w2).mono ?_);rintro e w3 ⟨rfl,hb⟩;exact⟨_,rfl,rfl,hb⟩
       ·intro _ a w2 hB hF hd;exact aN <| aW (aF rfl dB rfl bP (hF.same 9 rfl) (hE.below hB hE.lt)) rfl
       ·intro _ a w2 hB hF hd;exact aN <| aW (aF rfl dB rfl bP (hF.same 22 rfl) (acQ.below hB acQ.lt)) rfl
       ·intro _ a w2 hB hF hd;exact aN <| aW (aF rfl dB rfl bP (hF.same 22 rfl) (acQ.below hB acQ.lt)) rfl
       ·intro _ a w2 hB hF hd;refine aN <| aI _ _ _ rfl Tryz.call203 _ (args2 (hd 14 _ rfl rfl (aj rfl)) (hd 15 _ rfl rfl (aj rfl))) aR ((bZ _ _ _ _ Hdi.out Hdi.out w2).mono ?_);rintro e w3 ⟨rfl,hb⟩;exact⟨_,rfl,rfl,hb⟩
       ·intro _ a w2 hB hF hd;refine aN <| aI _ _ _ rfl Tryz.call203 _ (args2 (hd 13 _ rfl rfl (aj rfl)) (hd 16 _ rfl rfl (aj rfl))) aR ((bZ _ _ _ _ HU.out ((Hdi.out).aS Hdi.out) w2).mono ?_);rintro e w3 ⟨rfl,hb⟩;exact⟨_,rfl,rfl,hb⟩
      ·refine dG ?_;refine⟨(aP),(aP),(aP),(aP),(aP),(aP),(aP),(aP),(aP),(aP),(aP),(aP),(aP),(aP),(aP),(aP),(aP),(aP),?_,?_,?_,?_,trivial⟩
       ·intro _ a w1 w2 K hB hF hS hr hK;exact bG 191 _ _ rfl .i64 ((w.heap.size+5)) 16 (fun _=>0) (aS (aa) (bb)) bP (hF.same 10 rfl) (hS 2 _ rfl rfl) hr hK
       ·intro _ a w1 w2 K hB hF hS hr hK;exact bG 191 _ _ rfl .i64 ((w.heap.size+6)) 16 (fun _=>0) (aS (ee) (dw (aa) (aS (Db) (ee)))) bP (hF.same 11 rfl) (hS 9 _ rfl rfl) hr hK
       ·intro _ a w1 w2 K hB hF hS hr hK;exact bG 191 _ _ rfl .i64 ((w.heap.size+7)) 16 (fun _=>0) (aS (su) (su)) bP (hF.same 12 rfl) (hS 12 _ rfl rfl) hr hK
       ·intro _ a w1 w2 K hB hF hS hr hK;exact bG 191 _ _ rfl .i64 ((w.heap.size+8)) 16 (fun _=>0) (aS (fu) (aS (di) (di))) bP (hF.same 13 rfl) (hS 17 _ rfl rfl) hr hK
      ·intro a wf w7 hB hF hS hfil;have other:∀{k:IntKind} {qb n:Nat} {f:Nat->Int},qb≠(w.heap.size+5)->qb≠(w.heap.size+6)->qb≠(w.heap.size+7)->qb≠(w.heap.size+8)->aK k wf qb n f->aK k w7 qb n f:=fun {k qb n f} e0 e1 e2 e3 hA=>hfil.arr (by intro i _ dD;simp only[kZ,beq_iff_eq] at dD;rcases dD with((rfl | rfl) | rfl) | rfl<;> ((try simp only[]);(try dsimp only);omega)) hA;have dU:∀{B:Nat} {w0:World},B<=(w.heap.size+5)->B<=(w.heap.size+6)->B<=(w.heap.size+7)->B<=(w.heap.size+8)->Below B w0 wf->Below B w0 w7:=fun {B w0} e0 e1 e2 e3 hA=>hfil.below (by intro i _ dD;simp only[kZ,beq_iff_eq] at dD;rcases dD with((rfl | rfl) | rfl) | rfl<;> ((try simp only[]);(try dsimp only);omega)) hA;have V18:aK .i64 w7 ((w.heap.size+5)) 16 (aS (aa) (bb)):=hfil.at 18 aM rfl;have V19:aK .i64 w7 ((w.heap.size+6)) 16 (aS (ee) (dw (aa) (aS (Db) (ee)))):=hfil.at 19 aM rfl;have V20:aK .i64 w7 ((w.heap.size+7)) 16 (aS (su) (su)):=hfil.at 20 aM rfl;have V21:aK .i64 w7 ((w.heap.size+8)) 16 (aS (fu) (aS (di) (di))):=hfil.at 21 aM rfl;have tO:=hfil.size;clear hfil;have ha:=aO rfl rfl hF [_,_,_,_,_,_,_,_,_,_,_,_,_,_,_,_,_,_,undef,undef,undef,undef] rfl ⟨hS 0 _ rfl rfl,hS 1 _ rfl rfl,hS 2 _ rfl rfl,hS 3 _ rfl rfl,hS 4 _ rfl rfl,hS 5 _ rfl rfl,hS 6 _ rfl rfl,hS 7 _ rfl rfl,hS 8 _ rfl rfl,hS 9 _ rfl rfl,hS 10 _ rfl rfl,hS 11 _ rfl rfl,hS 12 _ rfl rfl,hS 13 _ rfl rfl,hS 14 _ rfl rfl,hS 15 _ rfl rfl,hS 16 _ rfl rfl,hS 17 _ rfl rfl,trivial,trivial,trivial,trivial,trivial⟩;simp only[puts,Act.put,fB,fD,fF] at ha;subst ha;clear hS hF;have hb:=dU aH aH aH aH (aD.trans (hB.mono aD.size));go_wp2;exact bodyPost_ret (Hg rfl _ _ .i64 16 dB rfl bP (w.heap.size+5) (w.heap.size+6) (w.heap.size+7) (w.heap.size+8) _ _ _ _ rfl V18 rfl V19 rfl V20 rfl V21) rfl ⟨_,_,_,_,rfl,⟨VT.out.aS Hbb.out,Hee.out.aS (VT.out.dw (IG.aS Hee.out)),Hsu.out.aS Hsu.out,HU.out.aS (Hdi.out.aS Hdi.out)⟩,hb⟩
end Go.Proofs.YtpcjekgfnfjbpaaGreat
namespace Go.Proofs.YtpcjekgfnfjbpaaGreat
open Go.RowKit Go.bI Go.ChangeShapes
theorem jT (p:Bool) (f g:Nat->Int) (X Y:Int) (hf:Fe f X) (hg:Fe g Y) (w:World):
  Calls Tryz.prog 201 #[El f,El g,.bool p] w fun e w'=>e=.returned (.tuple #[El (bA p f g),El (bA p g f)])/\Below w.heap.size w w':=by
 cases p
 ·exact Ur f g X Y hf hg w
 ·exact Pv f g X Y hf hg w
end Go.Proofs.YtpcjekgfnfjbpaaGreat
namespace Go.Proofs.YtpcjekgfnfjbpaaGreat
open Go.RowKit Go.bI Go.ChangeShapes
attribute [local go_sem ↓] Go.wp_at_zero Go.wp_at_succ
theorem tY (f g:Nat->Int) (X Y:Int) (hf:Fe f X) (hg:Fe g Y) (h:X % Pr=Y % Pr) (w:World):
  Calls Tryz.prog 210 #[El f,El g] w fun e w'=>e=.returned (.bool true)/\Below w.heap.size w w':=by
 have:=Ad f g X Y hf hg w
 rwa [show eqP X Y=true from decide_eq_true h] at this
theorem Da (f g:Nat->Int) (X Y:Int) (hf:Fe f X) (hg:Fe g Y) (h:¬ X % Pr=Y % Pr) (w:World):
  Calls Tryz.prog 210 #[El f,El g] w fun e w'=>e=.returned (.bool false)/\Below w.heap.size w w':=by
 have:=Ad f g X Y hf hg w
 rwa [show eqP X Y=false from decide_eq_false h] at this
end Go.Proofs.YtpcjekgfnfjbpaaGreat
namespace Go.Proofs.YtpcjekgfnfjbpaaGreat
open Go.RowKit Go.bI
attribute [local go_sem ↓] Go.wp_at_zero Go.wp_at_succ
theorem ahw:((2 ^ 255 - 16) / 2 ^ 3:Int)=(((PN+3) / 8:Nat):Int):=by decide
theorem ahx:((2 ^ 255 - 20) / 2 ^ 2:Int)=(((PN - 1) / 4:Nat):Int):=by decide
theorem yg:(0:Int)<=(((PN+3) / 8:Nat):Int)/\(((PN+3) / 8:Nat):Int)<2 ^ 256:=by decide
theorem yh:(0:Int)<=(((PN - 1) / 4:Nat):Int)/\(((PN - 1) / 4:Nat):Int)<2 ^ 256:=by decide
theorem TB (w:World):Calls Tryz.prog 248 #[.int .u8 16,.int .u64 3] w fun e w'=>e=.returned (.agg (arr .u8 32 (dg 256 (((PN+3) / 8:Nat):Int))))/\Below w.heap.size w w':=by
 have h:=rO 16 3 aM aM aM w;rw[ahw] at h;exact h
theorem TD (w:World):Calls Tryz.prog 248 #[.int .u8 20,.int .u64 2] w fun e w'=>e=.returned (.agg (arr .u8 32 (dg 256 (((PN - 1) / 4:Nat):Int))))/\Below w.heap.size w w':=by
 have h:=rO 20 2 aM aM aM w;rw[ahx] at h;exact h
def SX (f:Nat->Int):Nat->Int:=Hw f (((PN+3) / 8:Nat):Int)
def Bj:Nat->Int:=Hw (aV 2) (((PN - 1) / 4:Nat):Int)
theorem Mc {f:Nat->Int} {X:Int} (hf:Fe f X):Fe (SX f) (kE X):=by
 unfold kE;have h:=hf.Hw yg.1 yg.2
 rwa [MZ] at h
theorem Zg:Fe (aV 2) 2:=by have h:=oD 2;rwa [show sN 2=2 by decide] at h
theorem RD:Fe Bj wK:=by
 unfold wK;have h:=Zg.Hw yh.1 yh.2
 rwa [MZ] at h
theorem zu (f:Nat->Int) (X:Int) (hf:Fe f X) (h:X % Pr % 2=1) (w:World):Calls Tryz.prog 222 #[El f] w fun e w'=>e=.returned (.bool true)/\Below w.heap.size w w':=by
 have h2:=FV f X hf w
 rwa [h] at h2
theorem CZ (f:Nat->Int) (X:Int) (hf:Fe f X) (h:X % Pr % 2=0) (w:World):Calls Tryz.prog 222 #[El f] w fun e w'=>e=.returned (.bool false)/\Below w.heap.size w w':=by
 have h2:=FV f X hf w
 rwa [h] at h2
theorem XV {R X:Int} (h:R * R % Pr=X % Pr): -R * -R % Pr=X % Pr:=by rw[show -R * -R=R * R by grind];exact h
def qL (f:Nat->Int) (X:Int):Nat->Int:=
 if kE X * kE X % Pr=X % Pr then (if kE X % Pr % 2=0 then SX f else tJ (SX f)) else (if (kE X * wK) % Pr % 2=0 then aS (SX f) Bj else tJ (aS (SX f) Bj))
theorem QT {f:Nat->Int} {X:Int} (h:kE X * kE X % Pr=X % Pr) (h':kE X % Pr % 2=0):qL f X=SX f:=by unfold qL;rw[if_pos h,if_pos h']
theorem QS {f:Nat->Int} {X:Int} (h:kE X * kE X % Pr=X % Pr) (h':kE X % Pr % 2=1):qL f X=tJ (SX f):=by unfold qL;rw[if_pos h,if_neg aH]
theorem QO {f:Nat->Int} {X:Int} (h:¬ kE X * kE X % Pr=X % Pr) (h':(kE X * wK) % Pr % 2=0):qL f X=aS (SX f) Bj:=by unfold qL;rw[if_neg h,if_pos h']
theorem QN {f:Nat->Int} {X:Int} (h:¬ kE X * kE X % Pr=X % Pr) (h':(kE X * wK) % Pr % 2=1):qL f X=tJ (aS (SX f) Bj):=by unfold qL;rw[if_neg h,if_neg aH]
theorem Xd {f:Nat->Int} {X:Int} (hf:Fe f X) (hsq:wD X=true):∃R,Fe (qL f X) R/\R * R % Pr=X % Pr/\R % Pr % 2=0:=by
 by_cases hq:kE X * kE X % Pr=X % Pr
 ·rcases(by omega:kE X % Pr % 2=0\/kE X % Pr % 2=1) with ho | ho
  ·rw[QT hq ho];exact⟨_,Mc hf,hq,ho⟩
  ·rw[QS hq ho];exact⟨_,(Mc hf).tJ,XV hq,Lh ho⟩
 ·have hq2:=(Co hsq).resolve_left hq;rcases(by omega:(kE X * wK) % Pr % 2=0\/(kE X * wK) % Pr % 2=1) with ho | ho
  ·rw[QO hq ho];exact⟨_,(Mc hf).aS RD,hq2,ho⟩
  ·rw[QN hq ho];exact⟨_,((Mc hf).aS RD).tJ,XV hq2,Lh ho⟩
theorem Pw (f:Nat->Int) (X:Int) (hf:Fe f X) (hsq:wD X=true) (w:World):
  Calls Tryz.prog 252 #[El f] w fun e w'=>e=.returned (.tuple #[El (qL f X),.bool true])/\Below w.heap.size w w':=by
 have HF:=ay hf;have HSQ:=ay hsq;clear hf hsq;unfold El
 go_enter Tryz.func252,Tryz.ntmps252
 go_upto_region 1 with(fail)
 refine aJ (fun w1=>aK .i64 w1 w.heap.size 16 f/\aK .i64 w1 (w.heap.size+1) 16 (fun _=>0)/\Below w.heap.size w w1)
  ⟨aK.alloc (cB dO (by rfl)) _,cB dO (by rfl),((bT _ _).alloc (bH _) _).alloc aR _⟩ ?_
 rintro w1 ⟨hA,hZ,aD⟩
 refine bN (n:=31) aQ aQ aQ rfl
  (ku [(4,3)]) (gH [(4,3)]) (fun _=>arr .i64 16 (fun _=>0)) (fun _=>(arr .i64 16 (SX f))) (fun _=>191) (fun _=>4)
  (fun ii vv _=>(match ii with | 0=>vv=.agg (arr .i64 16 (f)) | 1=>vv=.agg (arr .u8 32 (dg 256 (((PN+3) / 8:Nat):Int))) | 2=>vv=.agg (arr .i64 16 (SX f)) | _=>True)) (fun _ _=>True) (fun _ _ _=>trivial) (fun _ _ _ _ _ _ _=>trivial) (fun _ _ _ _ h _=>h)
  (iJ rfl) (fT rfl) ?_ ?_ ?_ ?_
 ·refine dG ?_;refine⟨?_,?_,?_,(fun h=>by cases h),(fun _ h=>by cases h),trivial⟩
  ·intro _ _ a w2 hB hF hd;exact aN <| aW (aF rfl dB rfl bP (hF.same 1 rfl) (hA.below hB hA.lt)) rfl
  ·intro _ _ a w2 hB hF hd;refine aN <| aI _ _ _ rfl Tryz.call248 _ (args2 rfl rfl) aR ((TB w2).mono ?_);rintro e w3 ⟨rfl,hb⟩;exact⟨_,rfl,rfl,hb⟩
  ·intro _ _ a w2 hB hF hd;refine aN <| aI _ _ _ rfl Tryz.call247 _ (args2 (hd 0 _ rfl rfl rfl (aj rfl)) (hd 1 _ rfl rfl rfl (aj rfl))) aR ((tX f X (((PN+3) / 8:Nat):Int) HF.out yg.1 yg.2 w2).mono ?_);rintro e w3 ⟨rfl,hb⟩;exact⟨_,rfl,rfl,hb⟩
 ·refine dG ?_;refine⟨(fun h=>by cases h),(fun h=>by cases h),(fun h=>by cases h),?_,(fun h=>by cases h),trivial⟩
  ·exact fun _=>⟨rfl,rfl,fun a w2 K h=>bD rfl rfl Tryz.zeroValue191 aR h⟩
 ·refine dG ?_;refine⟨(fun _ h=>by cases h),(fun _ h=>by cases h),(fun _ h=>by cases h),(fun _ h=>by cases h),?_,trivial⟩
  ·intro p hp;obtain rfl:3=p:=gJ hp;exact⟨rfl,rfl,⟨_,rfl⟩,aj rfl,fun a w2 b K hB hF hd hx hb h=>bQ rfl rfl bP hx (hd 2 _ rfl rfl rfl (aj rfl)) hb h⟩
 ·intro a w3 blk hB hF hS hv hfin dS;obtain⟨v3,Gv,Sn⟩:=hv 3 _ rfl rfl;have ha:=aO rfl rfl hF [_,_,_,_,undef] rfl ⟨hS 0 _ rfl rfl rfl,hS 1 _ rfl rfl rfl,hS 2 _ rfl rfl rfl,v3,trivial,trivial⟩;have f3:=hfin 4 _ 3 rfl rfl;simp only[puts,Act.put,fB,fD,fF] at ha;subst ha;have V3:aK .i64 w3 (blk 3) 16 (SX f):=⟨_,f3⟩
  clear hS hv hfin dS hF v3 f3;have vO:=hA.below hB hA.lt;have hZ1:=hZ.below hB hZ.lt;have gX:=aD.trans (hB.mono aD.size);have lb:=aD.size;have lz:=hZ.lt;have HR:=ay (Mc HF.out);obtain⟨b,hb⟩:∃b,b=blk 3:=⟨_,rfl⟩
  obtain⟨g,hg⟩:∃g,g=SX f:=⟨_,rfl⟩
  rw[<-hb] at V3 Gv ⊢;rw[<-hg] at HR V3 ⊢;have hr:=V3;have hbw:w.heap.size+2<=b:=by omega
  have HG:=ay hg;clear hb hg V3 Gv Sn hA hZ aD hB lb lz;by_cases hq:kE X * kE X % Pr=X % Pr
  ·have HQ:=ay hq;clear hq;go_upto_region 2 with(fail)
   refine bC (n:=31) aQ aQ aQ rfl
    (fun ii vv _=>(match ii with | 0 | 1=>vv=.agg (arr .i64 16 (g)) | 2=>vv=.agg (arr .i64 16 (aS (g) (g))) | 3=>vv=.agg (arr .i64 16 (f)) | 4=>vv=.bool true | 5=>vv=.bool false | _=>True))
    (fun w w'=>Below w.heap.size w w') (fun _ _ h=>h) (fun _ _ _ _ h _=>h) ?_ ?_
   ·refine dG ?_;refine⟨?_,?_,?_,?_,?_,?_,trivial⟩
    ·intro a w2 hB hF hd;exact aN <| aW (aF rfl dB rfl bP (hF.same 4 rfl) (hr.below hB hr.lt)) rfl
    ·intro a w2 hB hF hd;exact aN <| aW (aF rfl dB rfl bP (hF.same 4 rfl) (hr.below hB hr.lt)) rfl
    ·intro a w2 hB hF hd;refine aN <| aI _ _ _ rfl Tryz.call203 _ (args2 (hd 0 _ rfl (aj rfl)) (hd 1 _ rfl (aj rfl))) aR ((bZ (g) (g) (kE X) (kE X) HR.out HR.out w2).mono ?_);rintro e w3 ⟨rfl,hb⟩;exact⟨_,rfl,rfl,hb⟩
    ·intro a w2 hB hF hd;exact aN <| aW (aF rfl dB rfl bP (hF.same 1 rfl) (vO.below hB vO.lt)) rfl
    ·intro a w2 hB hF hd;refine aN <| aI _ _ _ rfl Tryz.call210 _ (args2 (hd 2 _ rfl (aj rfl)) (hd 3 _ rfl (aj rfl))) aR ((tY (aS (g) (g)) (f) ((kE X) * (kE X)) X (HR.out.aS HR.out) HF.out HQ.out w2).mono ?_);rintro e w3 ⟨rfl,hb⟩;exact⟨_,rfl,rfl,hb⟩
    ·intro a w2 hB hF hd;exact aN <| aW (pJ rfl (hd 4 _ rfl (aj rfl))) rfl
   ·intro a w4 hB hF hS;have ha:=aO rfl rfl hF [_,_,_,_,_,_] rfl ⟨hS 0 _ rfl,hS 1 _ rfl,hS 2 _ rfl,hS 3 _ rfl,hS 4 _ rfl,hS 5 _ rfl,trivial⟩;simp only[puts,Act.put,fB,fD,fF] at ha;subst ha;clear hS hF;have jv:=vO.below hB vO.lt;have jG:=hZ1.below hB hZ1.lt;have fO:=gX.trans (hB.mono gX.size);have hr':=hr.below hB hr.lt;clear hr;have hr:=hr';clear hr' vO hZ1 gX hB;go_upto_region 4 with(fail)
    refine bC (n:=31) aQ aQ aQ rfl
     (fun ii vv _=>(match ii with | 0 | 1=>vv=.agg (arr .i64 16 (g)) | 2=>vv=.agg (arr .i64 16 (aS (g) (g))) | 3=>vv=.agg (arr .i64 16 (f)) | 4=>vv=.bool true | 5=>vv=.bool false | _=>True))
     (fun w w'=>Below w.heap.size w w') (fun _ _ h=>h) (fun _ _ _ _ h _=>h) ?_ ?_
    ·refine dG ?_;refine⟨?_,?_,?_,?_,?_,?_,trivial⟩
     ·intro a w2 hB hF hd;exact aN <| aW (aF rfl dB rfl bP (hF.same 4 rfl) (hr.below hB hr.lt)) rfl
     ·intro a w2 hB hF hd;exact aN <| aW (aF rfl dB rfl bP (hF.same 4 rfl) (hr.below hB hr.lt)) rfl
     ·intro a w2 hB hF hd;refine aN <| aI _ _ _ rfl Tryz.call203 _ (args2 (hd 0 _ rfl (aj rfl)) (hd 1 _ rfl (aj rfl))) aR ((bZ (g) (g) (kE X) (kE X) HR.out HR.out w2).mono ?_);rintro e w3 ⟨rfl,hb⟩;exact⟨_,rfl,rfl,hb⟩
     ·intro a w2 hB hF hd;exact aN <| aW (aF rfl dB rfl bP (hF.same 1 rfl) (jv.below hB jv.lt)) rfl
     ·intro a w2 hB hF hd;refine aN <| aI _ _ _ rfl Tryz.call210 _ (args2 (hd 2 _ rfl (aj rfl)) (hd 3 _ rfl (aj rfl))) aR ((tY (aS (g) (g)) (f) ((kE X) * (kE X)) X (HR.out.aS HR.out) HF.out HQ.out w2).mono ?_);rintro e w3 ⟨rfl,hb⟩;exact⟨_,rfl,rfl,hb⟩
     ·intro a w2 hB hF hd;exact aN <| aW (pJ rfl (hd 4 _ rfl (aj rfl))) rfl
    ·intro a w5 hB hF hS;have ha:=aO rfl rfl hF [_,_,_,_,_,_] rfl ⟨hS 0 _ rfl,hS 1 _ rfl,hS 2 _ rfl,hS 3 _ rfl,hS 4 _ rfl,hS 5 _ rfl,trivial⟩;simp only[puts,Act.put,fB,fD,fF] at ha;subst ha;clear hS hF;have hA3:=jv.below hB jv.lt;have lZ:=jG.below hB jG.lt;have ji:=fO.trans (hB.mono fO.size);have hr':=hr.below hB hr.lt;clear hr;have hr:=hr';clear hr' jv jG fO hB;rcases(by omega:(kE X) % Pr % 2=0\/(kE X) % Pr % 2=1) with ho | ho
     ·have Ay:=ay ho;clear ho;go_upto_region 6 with(fail)
      refine bC (n:=31) aQ aQ aQ rfl
       (fun ii vv _=>(match ii with | 0=>vv=.agg (arr .i64 16 (g)) | 1=>vv=.bool false | _=>True))
       (fun w w'=>Below w.heap.size w w') (fun _ _ h=>h) (fun _ _ _ _ h _=>h) ?_ ?_
      ·refine dG ?_;refine⟨?_,?_,trivial⟩
       ·intro a w2 hB hF hd;exact aN <| aW (aF rfl dB rfl bP (hF.same 4 rfl) (hr.below hB hr.lt)) rfl
       ·intro a w2 hB hF hd;refine aN <| aI _ _ _ rfl Tryz.call222 _ (args1 (hd 0 _ rfl (aj rfl))) aR ((CZ (g) (kE X) HR.out Ay.out w2).mono ?_);rintro e w3 ⟨rfl,hb⟩;exact⟨_,rfl,rfl,hb⟩
      ·intro a w9 hB hF hS;have ha:=aO rfl rfl hF [_,_] rfl ⟨hS 0 _ rfl,hS 1 _ rfl,trivial⟩;simp only[puts,Act.put,fB,fD,fF] at ha;subst ha;clear hS hF;have YO:=lZ.below hB lZ.lt;have hbz:=ji.trans (hB.mono ji.size);have hrz:=hr.below hB hr.lt;clear hr hA3 lZ ji hB
       go_wp2_with (first
        | (refine bJ rfl 191 _ rfl .i64 b 16 _ dB rfl bP rfl hrz ?_)
        | (refine aL rfl 191 _ _ rfl .i64 (w.heap.size+1) 16 (fun _=>0) _ bP rfl rfl YO ?_))
       exact bodyPost_ret (iW rfl _ _ .i64 (w.heap.size+1) 16 _ rfl (YO.setRow _ _) dB rfl bP) rfl ⟨by rw[QT HQ.out Ay.out,←HG.out];rfl,aB hbz aH _⟩
     ·have Ay:=ay ho;clear ho;go_upto_region 6 with(fail)
      refine bC (n:=31) aQ aQ aQ rfl
       (fun ii vv _=>(match ii with | 0=>vv=.agg (arr .i64 16 (g)) | 1=>vv=.bool true | _=>True))
       (fun w w'=>Below w.heap.size w w') (fun _ _ h=>h) (fun _ _ _ _ h _=>h) ?_ ?_
      ·refine dG ?_;refine⟨?_,?_,trivial⟩
       ·intro a w2 hB hF hd;exact aN <| aW (aF rfl dB rfl bP (hF.same 4 rfl) (hr.below hB hr.lt)) rfl
       ·intro a w2 hB hF hd;refine aN <| aI _ _ _ rfl Tryz.call222 _ (args1 (hd 0 _ rfl (aj rfl))) aR ((zu (g) (kE X) HR.out Ay.out w2).mono ?_);rintro e w3 ⟨rfl,hb⟩;exact⟨_,rfl,rfl,hb⟩
      ·intro a w9 hB hF hS;have ha:=aO rfl rfl hF [_,_] rfl ⟨hS 0 _ rfl,hS 1 _ rfl,trivial⟩;simp only[puts,Act.put,fB,fD,fF] at ha;subst ha;clear hS hF;have YO:=lZ.below hB lZ.lt;have hbz:=ji.trans (hB.mono ji.size);have hrz:=hr.below hB hr.lt;clear hr hA3 lZ ji hB;go_wp2_with (refine bJ rfl 191 _ rfl .i64 b 16 _ dB rfl bP rfl hrz ?_);refine(zw (g) ((kE X)) HR.out _).mono ?_;rintro e w10 ⟨rfl,Iy⟩;have hZy:=YO.kept Iy;have hby:=hbz.trans (Iy.mono hbz.size);have hry:=hrz.kept Iy;clear YO hbz hrz Iy;go_upto_region 8 with(refine aL rfl 191 _ _ rfl .i64 b 16 _ _ bP rfl rfl hry ?_);refine aJ (fun VF=>aK .i64 VF b 16 (tJ (g))/\aK .i64 VF (w.heap.size+1) 16 (fun _=>0)/\Below w.heap.size w VF) ⟨aK.setRow hry _ _,aK.aC hZy _ aH _,aB hby aH _⟩ ?_;rintro VF ⟨hr2,jG,fO⟩;clear hZy hby hry
       go_wp2_with (first
        | (refine bJ rfl 191 _ rfl .i64 b 16 _ dB rfl bP rfl hr2 ?_)
        | (refine aL rfl 191 _ _ rfl .i64 (w.heap.size+1) 16 (fun _=>0) _ bP rfl rfl jG ?_))
       exact bodyPost_ret (iW rfl _ _ .i64 (w.heap.size+1) 16 _ rfl (jG.setRow _ _) dB rfl bP) rfl ⟨by rw[QS HQ.out Ay.out,←HG.out];rfl,aB fO aH _⟩
  ·have hq2:=(Co HSQ.out).resolve_left hq;have HQ:=ay hq;have HQ2:=ay hq2;have HNQ:=ay hq;clear hq hq2;go_upto_region 2 with(fail)
   refine bC (n:=31) aQ aQ aQ rfl
    (fun ii vv _=>(match ii with | 0 | 1=>vv=.agg (arr .i64 16 (g)) | 2=>vv=.agg (arr .i64 16 (aS (g) (g))) | 3=>vv=.agg (arr .i64 16 (f)) | 4=>vv=.bool false | 5=>vv=.bool true | _=>True))
    (fun w w'=>Below w.heap.size w w') (fun _ _ h=>h) (fun _ _ _ _ h _=>h) ?_ ?_
   ·refine dG ?_;refine⟨?_,?_,?_,?_,?_,?_,trivial⟩
    ·intro a w2 hB hF hd;exact aN <| aW (aF rfl dB rfl bP (hF.same 4 rfl) (hr.below hB hr.lt)) rfl
    ·intro a w2 hB hF hd;exact aN <| aW (aF rfl dB rfl bP (hF.same 4 rfl) (hr.below hB hr.lt)) rfl
    ·intro a w2 hB hF hd;refine aN <| aI _ _ _ rfl Tryz.call203 _ (args2 (hd 0 _ rfl (aj rfl)) (hd 1 _ rfl (aj rfl))) aR ((bZ (g) (g) (kE X) (kE X) HR.out HR.out w2).mono ?_);rintro e w3 ⟨rfl,hb⟩;exact⟨_,rfl,rfl,hb⟩
    ·intro a w2 hB hF hd;exact aN <| aW (aF rfl dB rfl bP (hF.same 1 rfl) (vO.below hB vO.lt)) rfl
    ·intro a w2 hB hF hd;refine aN <| aI _ _ _ rfl Tryz.call210 _ (args2 (hd 2 _ rfl (aj rfl)) (hd 3 _ rfl (aj rfl))) aR ((Da (aS (g) (g)) (f) ((kE X) * (kE X)) X (HR.out.aS HR.out) HF.out HQ.out w2).mono ?_);rintro e w3 ⟨rfl,hb⟩;exact⟨_,rfl,rfl,hb⟩
    ·intro a w2 hB hF hd;exact aN <| aW (pJ rfl (hd 4 _ rfl (aj rfl))) rfl
   ·intro a w4 hB hF hS;have ha:=aO rfl rfl hF [_,_,_,_,_,_] rfl ⟨hS 0 _ rfl,hS 1 _ rfl,hS 2 _ rfl,hS 3 _ rfl,hS 4 _ rfl,hS 5 _ rfl,trivial⟩;simp only[puts,Act.put,fB,fD,fF] at ha;subst ha;clear hS hF;have jv:=vO.below hB vO.lt;have jG:=hZ1.below hB hZ1.lt;have fO:=gX.trans (hB.mono gX.size);have hr':=hr.below hB hr.lt;clear hr;have hr:=hr';clear hr' vO hZ1 gX hB;go_upto_region 3 with(fail)
    refine dJ (n:=31) (fun i=>i==5) aQ aQ aQ aQ rfl
     (fun ii vv _=>(match ii with | 0=>vv=.agg (arr .i64 16 (g)) | 1=>vv=.agg (arr .i64 16 (aV 2)) | 2=>vv=.agg (arr .u8 32 (dg 256 (((PN - 1) / 4:Nat):Int))) | 3=>vv=.agg (arr .i64 16 (Bj)) | 4=>vv=.agg (arr .i64 16 (aS (g) (Bj))) | _=>True))
     (fun w w'=>Below w.heap.size w w') (fun _ _ h=>h) (fun _ _ _ _ h _=>h)
     (fun _=>b) (fun _=>(arr .i64 16 (g))) (fun _=>(arr .i64 16 (aS (g) (Bj))))
     (by intro i j _ _ dD jJ gW;simp only[beq_iff_eq] at dD jJ;omega)
     (by intro i _ dD;exact(hr).row)
     ?_ ?_ ?_
    ·refine dG ?_;refine⟨?_,?_,?_,?_,?_,(aP),trivial⟩
     ·intro _ a w2 hB hF hd;exact aN <| aW (aF rfl dB rfl bP (hF.same 4 rfl) (hr.below hB hr.lt)) rfl
     ·intro _ a w2 hB hF hd;refine aN <| aI _ _ _ rfl Tryz.call200 _ (args1 rfl) aR ((fI 2 w2).mono ?_);rintro e w3 ⟨rfl,hb⟩;exact⟨_,rfl,rfl,hb⟩
     ·intro _ a w2 hB hF hd;refine aN <| aI _ _ _ rfl Tryz.call248 _ (args2 rfl rfl) aR ((TD w2).mono ?_);rintro e w3 ⟨rfl,hb⟩;exact⟨_,rfl,rfl,hb⟩
     ·intro _ a w2 hB hF hd;refine aN <| aI _ _ _ rfl Tryz.call247 _ (args2 (hd 1 _ rfl rfl (aj rfl)) (hd 2 _ rfl rfl (aj rfl))) aR ((tX (aV 2) 2 (((PN - 1) / 4:Nat):Int) Zg yh.1 yh.2 w2).mono ?_);rintro e w3 ⟨rfl,hb⟩;exact⟨_,rfl,rfl,hb⟩
     ·intro _ a w2 hB hF hd;refine aN <| aI _ _ _ rfl Tryz.call203 _ (args2 (hd 0 _ rfl rfl (aj rfl)) (hd 3 _ rfl rfl (aj rfl))) aR ((bZ (g) (Bj) (kE X) wK HR.out RD w2).mono ?_);rintro e w3 ⟨rfl,hb⟩;exact⟨_,rfl,rfl,hb⟩
    ·refine dG ?_;refine⟨(aP),(aP),(aP),(aP),(aP),?_,trivial⟩
     ·intro _ a w1 w2 K hB hF hS hr hK;exact bG 191 _ _ rfl .i64 (b) 16 (g) (aS (g) (Bj)) bP (hF.same 4 rfl) (hS 4 _ rfl rfl) hr hK
    ·intro a wf w6 hB hF hS hfil;have other:∀{k:IntKind} {qb n:Nat} {f:Nat->Int},qb≠b->aK k wf qb n f->aK k w6 qb n f:=fun {k qb n f} e0 hA=>hfil.arr (by intro i _ dD;simp only[kZ,beq_iff_eq] at dD;subst dD<;> ((try simp only[]);(try dsimp only);omega)) hA;have dU:∀{B:Nat} {w0:World},B<=b->Below B w0 wf->Below B w0 w6:=fun {B w0} e0 hA=>hfil.below (by intro i _ dD;simp only[kZ,beq_iff_eq] at dD;subst dD<;> ((try simp only[]);(try dsimp only);omega)) hA;have V5:aK .i64 w6 (b) 16 (aS (g) (Bj)):=hfil.at 5 aM rfl;have tO:=hfil.size;clear hfil;have ha:=aO rfl rfl hF [_,_,_,_,_,undef] rfl ⟨hS 0 _ rfl rfl,hS 1 _ rfl rfl,hS 2 _ rfl rfl,hS 3 _ rfl rfl,hS 4 _ rfl rfl,trivial,trivial⟩;simp only[puts,Act.put,fB,fD,fF] at ha;subst ha;clear hS hF;have hA3:=other aH (jv.below hB jv.lt);have lZ:=other aH (jG.below hB jG.lt);have ji:=dU aH (fO.trans (hB.mono fO.size));have hr2:=V5;clear hr;have hr:=hr2;clear hr2 V5 jv jG fO hB other dU;have HR2:=ay (HR.out.aS RD);go_upto_region 4 with(fail)
     refine bC (n:=31) aQ aQ aQ rfl
      (fun ii vv _=>(match ii with | 0 | 1=>vv=.agg (arr .i64 16 (aS g Bj)) | 2=>vv=.agg (arr .i64 16 (aS (aS g Bj) (aS g Bj))) | 3=>vv=.agg (arr .i64 16 (f)) | 4=>vv=.bool true | 5=>vv=.bool false | _=>True))
      (fun w w'=>Below w.heap.size w w') (fun _ _ h=>h) (fun _ _ _ _ h _=>h) ?_ ?_
     ·refine dG ?_;refine⟨?_,?_,?_,?_,?_,?_,trivial⟩
      ·intro a w2 hB hF hd;exact aN <| aW (aF rfl dB rfl bP (hF.same 4 rfl) (hr.below hB hr.lt)) rfl
      ·intro a w2 hB hF hd;exact aN <| aW (aF rfl dB rfl bP (hF.same 4 rfl) (hr.below hB hr.lt)) rfl
      ·intro a w2 hB hF hd;refine aN <| aI _ _ _ rfl Tryz.call203 _ (args2 (hd 0 _ rfl (aj rfl)) (hd 1 _ rfl (aj rfl))) aR ((bZ (aS g Bj) (aS g Bj) (kE X * wK) (kE X * wK) HR2.out HR2.out w2).mono ?_);rintro e w3 ⟨rfl,hb⟩;exact⟨_,rfl,rfl,hb⟩
      ·intro a w2 hB hF hd;exact aN <| aW (aF rfl dB rfl bP (hF.same 1 rfl) (hA3.below hB hA3.lt)) rfl
      ·intro a w2 hB hF hd;refine aN <| aI _ _ _ rfl Tryz.call210 _ (args2 (hd 2 _ rfl (aj rfl)) (hd 3 _ rfl (aj rfl))) aR ((tY (aS (aS g Bj) (aS g Bj)) (f) ((kE X * wK) * (kE X * wK)) X (HR2.out.aS HR2.out) HF.out HQ2.out w2).mono ?_);rintro e w3 ⟨rfl,hb⟩;exact⟨_,rfl,rfl,hb⟩
      ·intro a w2 hB hF hd;exact aN <| aW (pJ rfl (hd 4 _ rfl (aj rfl))) rfl
     ·intro a w6 hB hF hS;have ha:=aO rfl rfl hF [_,_,_,_,_,_] rfl ⟨hS 0 _ rfl,hS 1 _ rfl,hS 2 _ rfl,hS 3 _ rfl,hS 4 _ rfl,hS 5 _ rfl,trivial⟩;simp only[puts,Act.put,fB,fD,fF] at ha;subst ha;clear hS hF;have zn:=hA3.below hB hA3.lt;have qX:=lZ.below hB lZ.lt;have jF:=ji.trans (hB.mono ji.size);have hr':=hr.below hB hr.lt;clear hr;have hr:=hr';clear hr' hA3 lZ ji hB;rcases(by omega:(kE X * wK) % Pr % 2=0\/(kE X * wK) % Pr % 2=1) with ho | ho
      ·have Ay:=ay ho;clear ho;go_upto_region 6 with(fail)
       refine bC (n:=31) aQ aQ aQ rfl
        (fun ii vv _=>(match ii with | 0=>vv=.agg (arr .i64 16 (aS g Bj)) | 1=>vv=.bool false | _=>True))
        (fun w w'=>Below w.heap.size w w') (fun _ _ h=>h) (fun _ _ _ _ h _=>h) ?_ ?_
       ·refine dG ?_;refine⟨?_,?_,trivial⟩
        ·intro a w2 hB hF hd;exact aN <| aW (aF rfl dB rfl bP (hF.same 4 rfl) (hr.below hB hr.lt)) rfl
        ·intro a w2 hB hF hd;refine aN <| aI _ _ _ rfl Tryz.call222 _ (args1 (hd 0 _ rfl (aj rfl))) aR ((CZ (aS g Bj) (kE X * wK) HR2.out Ay.out w2).mono ?_);rintro e w3 ⟨rfl,hb⟩;exact⟨_,rfl,rfl,hb⟩
       ·intro a w9 hB hF hS;have ha:=aO rfl rfl hF [_,_] rfl ⟨hS 0 _ rfl,hS 1 _ rfl,trivial⟩;simp only[puts,Act.put,fB,fD,fF] at ha;subst ha;clear hS hF;have YO:=qX.below hB qX.lt;have hbz:=jF.trans (hB.mono jF.size);have hrz:=hr.below hB hr.lt;clear hr zn qX jF hB
        go_wp2_with (first
         | (refine bJ rfl 191 _ rfl .i64 b 16 _ dB rfl bP rfl hrz ?_)
         | (refine aL rfl 191 _ _ rfl .i64 (w.heap.size+1) 16 (fun _=>0) _ bP rfl rfl YO ?_))
        exact bodyPost_ret (iW rfl _ _ .i64 (w.heap.size+1) 16 _ rfl (YO.setRow _ _) dB rfl bP) rfl ⟨by rw[QO HNQ.out Ay.out,←HG.out];rfl,aB hbz aH _⟩
      ·have Ay:=ay ho;clear ho;go_upto_region 6 with(fail)
       refine bC (n:=31) aQ aQ aQ rfl
        (fun ii vv _=>(match ii with | 0=>vv=.agg (arr .i64 16 (aS g Bj)) | 1=>vv=.bool true | _=>True))
        (fun w w'=>Below w.heap.size w w') (fun _ _ h=>h) (fun _ _ _ _ h _=>h) ?_ ?_
       ·refine dG ?_;refine⟨?_,?_,trivial⟩
        ·intro a w2 hB hF hd;exact aN <| aW (aF rfl dB rfl bP (hF.same 4 rfl) (hr.below hB hr.lt)) rfl
        ·intro a w2 hB hF hd;refine aN <| aI _ _ _ rfl Tryz.call222 _ (args1 (hd 0 _ rfl (aj rfl))) aR ((zu (aS g Bj) (kE X * wK) HR2.out Ay.out w2).mono ?_);rintro e w3 ⟨rfl,hb⟩;exact⟨_,rfl,rfl,hb⟩
       ·intro a w9 hB hF hS;have ha:=aO rfl rfl hF [_,_] rfl ⟨hS 0 _ rfl,hS 1 _ rfl,trivial⟩;simp only[puts,Act.put,fB,fD,fF] at ha;subst ha;clear hS hF;have YO:=qX.below hB qX.lt;have hbz:=jF.trans (hB.mono jF.size);have hrz:=hr.below hB hr.lt;clear hr zn qX jF hB;go_wp2_with (refine bJ rfl 191 _ rfl .i64 b 16 _ dB rfl bP rfl hrz ?_);refine(zw (aS g Bj) ((kE X * wK)) HR2.out _).mono ?_;rintro e w10 ⟨rfl,Iy⟩;have hZy:=YO.kept Iy;have hby:=hbz.trans (Iy.mono hbz.size);have hry:=hrz.kept Iy;clear YO hbz hrz Iy;go_upto_region 8 with(refine aL rfl 191 _ _ rfl .i64 b 16 _ _ bP rfl rfl hry ?_);refine aJ (fun VF=>aK .i64 VF b 16 (tJ (aS g Bj))/\aK .i64 VF (w.heap.size+1) 16 (fun _=>0)/\Below w.heap.size w VF) ⟨aK.setRow hry _ _,aK.aC hZy _ aH _,aB hby aH _⟩ ?_;rintro VF ⟨hr2,jG,fO⟩;clear hZy hby hry
        go_wp2_with (first
         | (refine bJ rfl 191 _ rfl .i64 b 16 _ dB rfl bP rfl hr2 ?_)
         | (refine aL rfl 191 _ _ rfl .i64 (w.heap.size+1) 16 (fun _=>0) _ bP rfl rfl jG ?_))
        exact bodyPost_ret (iW rfl _ _ .i64 (w.heap.size+1) 16 _ rfl (jG.setRow _ _) dB rfl bP) rfl ⟨by rw[QN HNQ.out Ay.out,←HG.out];rfl,aB fO aH _⟩
end Go.Proofs.YtpcjekgfnfjbpaaGreat
