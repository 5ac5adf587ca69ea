/-
  Part 41 of SuiteNone. Conditions: named in each theorem.
-/
import Derived.Test.YtpcjekgfnfjbpaaGreatPkSuiteNone38
import Derived.Deep.LoopGhost
import Derived.OpenShut
set_option linter.unusedVariables false
set_option linter.unusedSimpArgs false
set_option maxRecDepth 100000
set_option maxHeartbeats 25600000
namespace Go.bI
open Go.RowKit
theorem GA (S:Int):∀i,i<32->upd (upd (dg 256 S) 0 (dg 256 S 0 / 8 * 8)) 31 (dg 256 S 31 % 64+64) i=dg 256 (eD S) i:=by
 have key:∀i:Fin 32,upd (upd (dg 256 S) 0 (dg 256 S 0 / 8 * 8)) 31 (dg 256 S 31 % 64+64) i.val=dg 256 (eD S) i.val:=by
  intro ⟨i,hi⟩;have e:∀j,dg 256 (eD S) j=(S % 2 ^ 254 / 8 * 8+2 ^ 254) / 256 ^ j % 256:=fun _=> rfl;have e':∀j,dg 256 S j=S / 256 ^ j % 256:=fun _=> rfl;rcases i with _ | _ | _ | _ | _ | _ | _ | _ | _ | _ | _ | _ | _ | _ | _ | _ | _ | _ | _ | _ | _ | _ | _ | _ | _ | _ | _ | _ | _ | _ | _ | _ | i
  all_goals first
   | omega
   | (simp only [upd,e,e'];simp;omega)
 exact fun i h=> key ⟨i,h⟩
theorem Fy {P:Program} {fn:Func} {p q p2 q2:Tmp} {T:TypeId} (h:fn.results=#[.cell p T,.cell q T,.cell p2 T,.cell q2 T]) (tmps:Array Value) (w:World) (k:IntKind) (n:Nat) {d:TypeDesc} (hu:P.underlying T=some d) (hd:GX d=true) (hi:(P.info? T).map (·.size)=some n)
  (b1 b2 b3 b4:Nat) (f1 f2 f3 f4:Nat->Int) (hp:tmps.getD p undef=.pointer (some ⟨b1,0,none⟩)) (ha:aH k w b1 n f1) (hp2:tmps.getD q undef=.pointer (some ⟨b2,0,none⟩)) (ha2:aH k w b2 n f2)
  (hp3:tmps.getD p2 undef=.pointer (some ⟨b3,0,none⟩)) (ha3:aH k w b3 n f3) (hp4:tmps.getD q2 undef=.pointer (some ⟨b4,0,none⟩)) (ha4:aH k w b4 n f4):
  (results fn tmps).run P w=.ok (.tuple #[.agg (arr k n f1),.agg (arr k n f2),.agg (arr k n f3),.agg (arr k n f4)]) w:=by
 obtain ⟨t,ht⟩:=ha;obtain ⟨t2,ht2⟩:=ha2;obtain ⟨t3,ht3⟩:=ha3;obtain ⟨t4,ht4⟩:=ha4;have e1:tmps[p]?.getD undef=.pointer (some ⟨b1,0,none⟩):=by simpa using hp
 have e2:tmps[q]?.getD undef=.pointer (some ⟨b2,0,none⟩):=by simpa using hp2
 have e3:tmps[p2]?.getD undef=.pointer (some ⟨b3,0,none⟩):=by simpa using hp3
 have e4:tmps[q2]?.getD undef=.pointer (some ⟨b4,0,none⟩):=by simpa using hp4
 have key:∀(b t:Nat) (f:Nat->Int),w.heap[b]? =some (.cells (arr k n f) t (0,0))->(loadVar T ⟨b,0,none⟩).run P w=.ok (.agg (arr k n f)) w:=fun b t f hb=> run_loadVar_row w b t T (arr k n f) (0,0) _ hb hu (by cases d<;> first | rfl | cases hd) (by rw [hi,iw]);simp [results,h,e1,e2,e3,e4,asAddr,key _ _ _ ht,key _ _ _ ht2,key _ _ _ ht3,key _ _ _ ht4]
theorem ZL (x:Int) (h0:0<=x) (h1:x<256):bits .and .u8 x 248=x / 8 * 8:=by
 obtain ⟨n,rfl⟩:=Ca h0;have key:∀n:Fin 256,bits .and .u8 ((n.val:Nat):Int) 248=(n.val:Int) / 8 * 8:=by decide+kernel
 exact key ⟨n,by omega⟩
theorem ZM (x:Int) (h0:0<=x) (h1:x<256):bits .and .u8 x 127=x % 128:=by
 obtain ⟨n,rfl⟩:=Ca h0;have key:∀n:Fin 256,bits .and .u8 ((n.val:Nat):Int) 127=(n.val:Int) % 128:=by decide+kernel
 exact key ⟨n,by omega⟩
theorem afo (x:Int) (h0:0<=x) (h1:x<128):bits .or .u8 x 64=x % 64+64:=by
 obtain ⟨n,rfl⟩:=Ca h0;have key:∀n:Fin 128,bits .or .u8 ((n.val:Nat):Int) 64=(n.val:Int) % 64+64:=by decide+kernel
 exact key ⟨n,by omega⟩
theorem IW {P:Program} {w:World} {a:Act} {o:Oper} {x y:Operand} {t1 t2:TypeId} {k:IntKind} {m:Int} (ho:o.op=.call { callee:=.builtin .max,args:=#[x,y],argTypes:=#[t1,t2] }) (hx:a.eval x=.int k m) (hy:a.eval y=.int k 0) (hm:0<=m):
  (execOp a.eval o).run P w=.ok (.value (.int k m)) w:=by
 unfold execOp;simp only [ho,resolve,invoke,builtin,Sem.run_bind,Sem.run_pure,Result.andThen_ok,uG,List.map_cons,List.map_nil,hx,hy];simp [go_sem,Builtin.max_,Builtin.max2];omega
def aV (p:Bool) (f g:Nat->Int):Nat->Int:=if p then g else f
theorem zD {p:Bool} {f g:Nat->Int} {X Y:Int} (hf:Fe f X) (hg:Fe g Y):Fe (aV p f g) (if p then Y else X):=by cases p<;> assumption
end Go.bI
namespace Go.Proofs.YtpcjekgfnfjbpaaGreat
open Go.RowKit Go.bI Go.ChangeShapes
attribute [local go_sem ↓] Go.wp_at_zero Go.wp_at_succ
theorem YZ:(#[.int .u8 0,.int .u8 0,.int .u8 0,.int .u8 0,.int .u8 0,.int .u8 0,.int .u8 0,.int .u8 0,.int .u8 0,.int .u8 0,.int .u8 0,.int .u8 0,.int .u8 0,.int .u8 0,.int .u8 0,.int .u8 0,.int .u8 0,.int .u8 0,.int .u8 0,.int .u8 0,.int .u8 0,.int .u8 0,.int .u8 0,.int .u8 0,.int .u8 0,.int .u8 0,.int .u8 0,.int .u8 0,.int .u8 0,.int .u8 0,.int .u8 0,.int .u8 0] :Array Value)=arr .u8 32 (dg 256 0):=by kernel_rfl
theorem Rs {a:Act} (w:World):(Instr.build 22 ((#[] :Array (Nat × Operand)).map fun (i,x)=> (i,a.eval x))).run Tryz.prog w=.ok (.agg (arr .u8 32 (dg 256 0))) w:=by
 simp only [uG,List.map_nil];rw [Go.run_build w _ _ #[.int .u8 0,.int .u8 0,.int .u8 0,.int .u8 0,.int .u8 0,.int .u8 0,.int .u8 0,.int .u8 0,.int .u8 0,.int .u8 0,.int .u8 0,.int .u8 0,.int .u8 0,.int .u8 0,.int .u8 0,.int .u8 0,.int .u8 0,.int .u8 0,.int .u8 0,.int .u8 0,.int .u8 0,.int .u8 0,.int .u8 0,.int .u8 0,.int .u8 0,.int .u8 0,.int .u8 0,.int .u8 0,.int .u8 0,.int .u8 0,.int .u8 0,.int .u8 0] (by kernel_rfl),YZ]
theorem Gw (X:Int):Fe (dg 65536 (X % 2 ^ 255)) (X % 2 ^ 255):=Fe.dg (UH X).1 (UH X).2 rfl
end Go.Proofs.YtpcjekgfnfjbpaaGreat
namespace Go.Proofs.YtpcjekgfnfjbpaaGreat
open Go.RowKit Go.bI
attribute [local go_sem ↓] Go.wp_at_zero Go.wp_at_succ
theorem Ud (f:Nat->Int) (N:Int) (m:Nat) (h:m<256):Ht f N (256 - m)=if N / 2 ^ m % 2=1 then aL (aL (Ht f N (256 - (m+1))) (Ht f N (256 - (m+1)))) f else aL (Ht f N (256 - (m+1))) (Ht f N (256 - (m+1))):=by
 obtain ⟨k,hk⟩:∃k,256 - m=k+1:=⟨255 - m,by omega⟩
 rw [hk,show 256 - (m+1)=k by omega];show (if N / 2 ^ (255 - k) % 2=1 then _ else _)= _;rw [show 255 - k=m by omega]
theorem lK (f:Nat->Int) (X N:Int) (hf:Fe f X) (h0:0<=N) (h1:N<2 ^ 256) (w:World):
  Calls Tryz.prog 247 #[El f,.agg (arr .u8 32 (dg 256 N))] w fun e w'=> e=.returned (El (FK f N))/\Below w.heap.size w w':=by
 have HF:=ak hf;have H0:=ak h0;have H1:=ak h1;clear hf h0 h1;unfold El
 go_enter Tryz.func247,Tryz.ntmps247
 go_wp2_with fail;refine (dR 1 _).mono ?_;rintro e w1 ⟨rfl,hb1⟩;have hA1:aH .i64 w1 w.heap.size 16 f:=aH.kept (aH.alloc (aH.alloc (bG (by first | omega | (simp<;> omega)) (by rfl)) _) _) hb1;have hB1:aH .u8 w1 (w.heap.size+1) 32 (dg 256 N):=aH.kept (aH.alloc (bG (by first | omega | (simp<;> omega)) (by rfl)) _) hb1;have hZ1:aH .i64 w1 (w.heap.size+2) 16 (fun _=> 0):=aH.kept (bG (by first | omega | (simp<;> omega)) (by rfl)) hb1;have iC:Below w.heap.size w w1:=((((bM _ _).alloc (bB _) _).alloc (by simp) _).alloc (by simp;omega) _).trans (hb1.mono (by simp;omega));have l1:=hZ1.lt;clear hb1;go_upto_region 2 with (refine aF rfl 191 _ _ rfl .i64 w1.heap.size 16 (fun _=> 0) _ bE rfl rfl (bG rfl rfl) ?_)
 refine aG (fun w2=> aH .i64 w2 w.heap.size 16 f/\aH .u8 w2 (w.heap.size+1) 32 (dg 256 N)/\aH .i64 w2 (w.heap.size+2) 16 (fun _=> 0)/\aH .i64 w2 w1.heap.size 16 (Ht f N (256 - 256))/\Below w.heap.size w w2)
  ⟨aH.aC (aH.alloc hA1 _) _ (by omega) _,aH.aC (aH.alloc hB1 _) _ (by omega) _,aH.aC (aH.alloc hZ1 _) _ (by omega) _,aH.setRow (bG (n:=16) (f:=fun _=> 0) rfl rfl) _ _,aA (iC.alloc iC.size _) iC.size _⟩ ?_
 rintro w2 ⟨hA,hB,hZ,hO,hbel⟩;obtain ⟨b,hb⟩:∃b,b=w1.heap.size:=⟨_,rfl⟩
 rw [<-hb] at hO l1 ⊢;clear hb hA1 hB1 hZ1 iC;go_wp2
 go_loopw [6] (fun i wr=> ∃k:Nat,k<=256/\i=.int .i64 ((k:Int) - 1)/\aH .i64 wr w.heap.size 16 f/\aH .u8 wr (w.heap.size+1) 32 (dg 256 N)/\aH .i64 wr (w.heap.size+2) 16 (fun _=> 0)/\aH .i64 wr b 16 (Ht f N (256 - k))/\Below w.heap.size w wr) (fun i _=> (intOf i+1).toNat)
 case atStart=> exact ⟨256,bB _,rfl,hA,hB,hZ,hO,hbel⟩
 case round=>
  clear hA hB hZ hO hbel;obtain ⟨k,hk,rfl,hA,hB,hZ,hO,hbel⟩:=hrel;obtain _ | m:=k
  ·go_wp2_with (first
    | (refine bA rfl 191 _ rfl .i64 b 16 _ bT rfl bE rfl hO ?_)
    | (refine aF rfl 191 _ _ rfl .i64 (w.heap.size+2) 16 (fun _=> 0) _ bE rfl rfl hZ ?_))
   exact bodyPost_ret (cO rfl _ _ .i64 (w.heap.size+2) 16 _ rfl (hZ.setRow _ _) bT rfl bE) rfl ⟨rfl,aA hbel (by omega) _⟩
  ·have hkm:((m+1:Nat):Int) - 1=(m:Int):=by omega
   rw [hkm];have HP:=ak (HF.out.Ht H0.out H1.out (256 - (m+1)) (by omega));have HST:=ak (Ud f N m (by omega));obtain ⟨g,hg⟩:∃g,g=Ht f N (256 - (m+1)):=⟨_,rfl⟩
   rw [<-hg] at HP HST hO;clear hkm hg;go_wp2_with (refine bA rfl 191 _ rfl .i64 b 16 _ bT rfl bE rfl hO ?_);refine (bJ g g _ _ HP.out HP.out _).mono ?_;rintro e w3 ⟨rfl,hb3⟩;have hA3:=hA.kept hb3;have hB3:=hB.kept hb3;have hZ3:=hZ.kept hb3;have hO3:=hO.kept hb3;have dQ:=hbel.trans (hb3.mono hbel.size);clear hA hB hZ hO hbel hb3;go_upto_region 6 with (refine aF rfl 191 _ _ rfl .i64 b 16 _ _ bE rfl rfl hO3 ?_)
   refine aG (fun w4=> aH .i64 w4 w.heap.size 16 f/\aH .u8 w4 (w.heap.size+1) 32 (dg 256 N)/\aH .i64 w4 (w.heap.size+2) 16 (fun _=> 0)/\aH .i64 w4 b 16 (aL g g)/\Below w.heap.size w w4)
    ⟨aH.aC hA3 _ (by omega) _,aH.aC hB3 _ (by omega) _,aH.aC hZ3 _ (by omega) _,aH.setRow hO3 _ _,aA dQ (by omega) _⟩ ?_
   rintro w4 ⟨hA,hB',hZ,hO,hbel⟩;clear hA3 hB3 hZ3 hO3 dQ;have Zl:m % 8<8:=Nat.mod_lt _ (by decide);have hq:IntKind.i64.wrap (Int.tdiv (m:Int) 8)=((m / 8:Nat):Int):=by rw [Int.tdiv_eq_ediv_of_nonneg (by omega),gU] <;> omega
   have hr:Int.tmod (m:Int) 8=((m % 8:Nat):Int):=by rw [Int.tmod_eq_emod_of_nonneg (by omega)];omega
   have hc:IntKind.u64.wrap ((m % 8:Nat):Int)=((m % 8:Nat):Int):=jf (by omega) (by omega);obtain ⟨d0,d1⟩:=aX (by decide:(0:Int)<256) N (m / 8);have hsh:=wh (x:=dg 256 N (m / 8)) (m % 8) Zl;have hand:bits .and .u8 (dg 256 N (m / 8) / 2 ^ (m % 8)) 1=N / 2 ^ m % 2:=by
    rw [rM (Int.ediv_nonneg d0 (Int.le_of_lt (gD (by decide) _))) (Int.lt_of_le_of_lt (Int.ediv_le_self _ d0) d1),GQ N m]
   have hpl:((m / 8:Nat):Int).toNat=m / 8:=EM _;have Si:m / 8<32:=by omega
   have hce:=hB'.cell (m / 8) Si;have hBl:=hB'.lt
   refine aR (n:=29) (by kernel_rfl) (by kernel_rfl) (by kernel_rfl) rfl
    (fun ii vv _=> (match ii with | 0 | 4=> vv=.int .i64 ((m:Int)) | 1=> vv=.int .i64 ((m / 8:Nat)) | 2=> vv=.pointer (some ⟨(w.heap.size+1),(m / 8),none⟩) | 3=> vv=.int .u8 (dg 256 N (m / 8)) | 5=> vv=.int .i64 ((m % 8:Nat)) | 6=> vv=.int .u64 ((m % 8:Nat)) | 7=> vv=.int .u8 (dg 256 N (m / 8) / 2 ^ (m % 8)) | 8=> vv=.int .u8 (N / 2 ^ m % 2) | 9=> vv=.bool ((N / 2 ^ m % 2)==(1)) | _=> True))
    (fun w w'=> Below w.heap.size w w') (fun _ _ h=> h) (fun _ _ _ _ h _=> h) ?_ ?_
   ·refine bQ ?_;refine ⟨?_,?_,?_,?_,?_,?_,?_,?_,?_,?_,trivial⟩
    ·intro a w2 hB hF hd;exact aJ <| fq rfl (hF.same 6 rfl)
    ·intro a w2 hB hF hd;exact aJ <| aO (Go.bI.zw rfl (hd 0 _ rfl (aj rfl)) rfl (by decide)) (congrArg (Value.int .i64) (hq))
    ·intro a w2 hB hF hd;exact aJ <| aO (aQ rfl (hF.same 3 rfl) (hd 1 _ rfl (aj rfl)) dU (by kernel_rfl) (by omega) (by omega)) (congrArg (fun z=> Value.pointer (some ⟨w.heap.size+1,z,none⟩)) hpl)
    ·intro a w2 hB hF hd;exact aJ <| aO (aU rfl (hd 2 _ rfl (aj rfl)) Tryz.underlying5 ((hB.cell (p:=⟨w.heap.size+1,m / 8,none⟩) hBl).trans hce)) rfl
    ·intro a w2 hB hF hd;exact aJ <| fq rfl (hF.same 6 rfl)
    ·intro a w2 hB hF hd;exact aJ <| aO (Go.bI.zu rfl (hd 4 _ rfl (aj rfl)) rfl (by decide)) (congrArg (Value.int .i64) (hr))
    ·intro a w2 hB hF hd;exact aJ <| aO (mP rfl (hd 5 _ rfl (aj rfl)) Tryz.underlying3 Tryz.underlying212) (congrArg (Value.int .u64) (hc))
    ·intro a w2 hB hF hd;exact aJ <| aO (Go.bI.pQ rfl (hd 3 _ rfl (aj rfl)) (hd 6 _ rfl (aj rfl)) (by omega)) (congrArg (Value.int .u8) (hsh))
    ·intro a w2 hB hF hd;exact aJ <| aO (Go.bI.kr rfl (hd 7 _ rfl (aj rfl)) rfl) (congrArg (Value.int .u8) (hand))
    ·intro a w2 hB hF hd;refine aJ <| aO (Go.bI.qQ rfl (hd 8 _ rfl (aj rfl)) rfl) ?_;exact rfl
   ·intro a w5 hB hF hS;have ha:=aI rfl rfl hF [_,_,_,_,_,_,_,_,_,_] rfl ⟨hS 0 _ rfl,hS 1 _ rfl,hS 2 _ rfl,hS 3 _ rfl,hS 4 _ rfl,hS 5 _ rfl,hS 6 _ rfl,hS 7 _ rfl,hS 8 _ rfl,hS 9 _ rfl,trivial⟩;simp only [puts,Act.put,dH,dI,dJ] at ha;subst ha;clear hS hF;have uz:=hA.below hB hA.lt;have QS:=hB'.below hB hB'.lt;have nG:=hZ.below hB hZ.lt;have hO5:=hO.below hB hO.lt;have fV:=hbel.trans (hB.mono hbel.size);clear hA hB' hZ hO hbel hB hq hr hc hsh hand hce hpl;by_cases hbit:N / 2 ^ m % 2=1
    ·have hbb:(N / 2 ^ m % 2==1)=true:=by rw [hbit];rfl
     rw [if_pos hbit] at HST;clear hbit
     go_wp2_with (first
      | (refine bA rfl 191 (.tmp 5) rfl .i64 b 16 _ bT rfl bE rfl hO5 ?_)
      | (refine bA rfl 191 (.tmp 2) rfl .i64 w.heap.size 16 _ bT rfl bE rfl uz ?_))
     refine (bJ (aL g g) f _ _ (HP.out.aL HP.out) HF.out _).mono ?_;rintro e w6 ⟨rfl,hb6⟩;have Sm:=uz.kept hb6;have hB6:=QS.kept hb6;have xu:=nG.kept hb6;have hO6:=hO5.kept hb6;have jo:=fV.trans (hb6.mono fV.size);clear uz QS nG hO5 fV hb6;go_wp2_with (refine aF rfl 191 _ _ rfl .i64 b 16 _ _ bE rfl rfl hO6 ?_);go_roundw
     case rel=> exact ⟨m,by omega,by go_num,aH.aC Sm _ (by omega) _,aH.aC hB6 _ (by omega) _,aH.aC xu _ (by omega) _,by rw [HST.out];exact aH.setRow hO6 _ _,aA jo (by omega) _⟩
     case measure=> simp [intOf] <;> omega
    ·have hbb:(N / 2 ^ m % 2==1)=false:=by simpa using hbit
     rw [if_neg hbit] at HST;clear hbit;go_wp2;go_roundw
     case rel=> exact ⟨m,by omega,by go_num,uz,QS,nG,by rw [HST.out];exact hO5,fV⟩
     case measure=> simp [intOf] <;> omega
theorem pY (l:Int) (s:Nat) (h0:1<=l) (h1:l<=255) (hs:s<=8) (w:World):
  Calls Tryz.prog 248 #[.int .u8 l,.int .u64 s] w fun e w'=> e=.returned (.agg (arr .u8 32 (dg 256 ((2 ^ 255 - l) / 2 ^ s))))/\Below w.heap.size w w':=by
 have HD:=ak (MG h0 h1);obtain ⟨M,hM⟩:∃M:Int,M=2 ^ 255 - l:=⟨_,rfl⟩
 have hMb:0<=M/\M<256 ^ 32:=by (rw [hM];have e:(256:Int) ^ 32=2 * 2 ^ 255:=by decide);(rw [e];have:(255:Int)<2 ^ 255:=by decide);omega
 rw [<-hM] at HD ⊢;have HMB:=ak hMb;have hneg:IntKind.u8.wrap (-l)=256 - l:=by rw [IntKind.wrap_u8];omega
 have HN:=ak hneg;clear hM hMb hneg
 go_enter Tryz.func248,Tryz.ntmps248
 go_wp2
 go_loopw [8] (fun i wr=> ∃k:Nat,k<=32/\i=.int .i64 k/\aH .u8 wr w.heap.size 32 (fun _=> 0)/\aH .u8 wr (w.heap.size+1) 32 (upto k (fun _=> 255) (fun _=> 0))/\Below w.heap.size w wr) (fun i _=> 32 - (intOf i).toNat)
 case atStart=> exact ⟨0,je _,rfl,aH.alloc (bG (by first | omega | (simp<;> omega)) (by rfl)) _,by rw [cZ];exact bG (by first | omega | (simp<;> omega)) (by rfl),((bM _ _).alloc (bB _) _).alloc (by simp) _⟩
 case round=>
  obtain ⟨k,hk,rfl,hZ,hA,hbel⟩:=hrel;by_cases hlt:k<32
  ·have e1:=hA.cell k hlt;have f1:=hA.free k;have HA:=ak hA;have HZ:=ak hZ;clear hA hZ;go_wp2;go_roundw
   case rel=> exact ⟨k+1,by omega,by go_num,HZ.out.other (by first | omega | (simp<;> omega)) _,by rw [<-bN rfl];exact HA.out.set k _,hbel.setCell (by first | omega | (simp<;> omega)) _⟩
   case measure=> simp [intOf] <;> omega
  ·obtain rfl:k=32:=by omega
   have hA2:=hA.congr (dK _ _ (bB _));have e0:=hA2.cell 0 (by decide);have e31:=hA2.cell 31 (by decide);have f0:=hA2.free 0;have f31:=hA2.free 31;have HA:=ak hA2;have HZ:=ak hZ;have HB:=ak hbel;clear hA hA2 hZ hbel;have hneg:=HN.out;go_upto_region 8 with (fail)
   refine aG (fun w1=> aH .u8 w1 w.heap.size 32 (fun _=> 0)/\aH .u8 w1 (w.heap.size+1) 32 (dg 256 M)/\Below w.heap.size w w1)
    ⟨(HZ.out.other (by first | omega | (simp<;> omega)) _).other (by first | omega | (simp<;> omega)) _,((HA.out.set 0 (256 - l)).set 31 127).congr HD.out,(HB.out.setCell (by first | omega | (simp<;> omega)) _).setCell (by first | omega | (simp<;> omega)) _⟩ ?_
   rintro w1 ⟨hZ,hA,hbel⟩;clear e0 e31 f0 f31 HA HZ HB hneg;go_wp2
   go_loopw [19] (fun i wr=> ∃j:Nat,j<=s/\i=.int .u64 j/\aH .u8 wr w.heap.size 32 (fun _=> 0)/\aH .u8 wr (w.heap.size+1) 32 (dg 256 (M / 2 ^ j))/\Below w.heap.size w wr) (fun i _=> s - (intOf i).toNat)
   case atStart=> exact ⟨0,je _,rfl,hZ,by rw [Int.pow_zero,Int.ediv_one];exact hA,hbel⟩
   case round=>
    clear hZ hA hbel;obtain ⟨j,hj,rfl,hZ,hA,hbel⟩:=hrel;by_cases hlt2:j<s
    ·obtain ⟨Y,hY⟩:∃Y,Y=M / 2 ^ j:=⟨_,rfl⟩
     have hY2:M / 2 ^ (j+1)=Y / 2:=by rw [hY,fG (by decide)]
     have hYb:0<=Y/\Y<256 ^ 32:=by rw [hY];exact ⟨Int.ediv_nonneg HMB.out.1 (Int.le_of_lt (gD (by decide) _)),Int.lt_of_le_of_lt (Int.ediv_le_self _ HMB.out.1) HMB.out.2⟩
     rw [<-hY] at hA;have HY2:=ak hY2;have HYB:=ak hYb;have HZ:=ak hZ;have HA:=ak hA;have HB:=ak hbel;clear hY hY2 hYb hZ hA hbel;go_wp2
     go_loopw [21] (fun i wr=> ∃k:Nat,k<=32/\i=.int .i64 k/\aH .u8 wr w.heap.size 32 (fun _=> 0)/\aH .u8 wr (w.heap.size+1) 32 (upto k (dg 256 (Y / 2)) (dg 256 Y))/\Below w.heap.size w wr) (fun i _=> 32 - (intOf i).toNat)
     case atStart=> exact ⟨0,je _,rfl,HZ.out,by rw [cZ];exact HA.out,HB.out⟩
     case round=>
      clear HZ HA HB;obtain ⟨k,hk,rfl,hZ,hA,hbel⟩:=hrel;by_cases hlt3:k<32
      ·have e1:=hA.cell k hlt3;have f1:=hA.free k;rw [upto_at] at e1;obtain ⟨a0,a1⟩:=aX (by decide:(0:Int)<256) Y k;obtain ⟨c0,c1⟩:=aX (by decide:(0:Int)<256) Y (k+1);have hh:=MZ Y k;obtain ⟨a,ha⟩:∃a,a=dg 256 Y k:=⟨_,rfl⟩
       obtain ⟨c,hc⟩:∃c,c=dg 256 Y (k+1):=⟨_,rfl⟩
       rw [<-ha] at e1 a0 a1 hh;rw [<-hc] at c0 c1 hh;have HH:=ak hh;have HC:=ak hc;clear hh ha;by_cases hk31:k<31
       ·have e2:=hA.cell (k+1) (by omega);have hu:upto k (dg 256 (Y / 2)) (dg 256 Y) (k+1)=c:=by rw [hc];exact if_neg (by omega)
        rw [hu] at e2;have HA:=ak hA;have HZ:=ak hZ;have HB:=ak hbel;have HU:=ak hu;clear hA hZ hbel hc hu;go_upto_region 14 with (fail)
        refine aG (fun w2=> aH .u8 w2 w.heap.size 32 (fun _=> 0)/\aH .u8 w2 (w.heap.size+1) 32 (upd (upto k (dg 256 (Y / 2)) (dg 256 Y)) k (a / 2))/\Below w.heap.size w w2)
         ⟨HZ.out.other (by first | omega | (simp<;> omega)) _,HA.out.set k _,HB.out.setCell (by first | omega | (simp<;> omega)) _⟩ ?_
        rintro w2 ⟨hZ2,hA2,hb2⟩;have e3:=hA2.cell (k+1) (by omega);rw [upd_ne _ _ (by omega),HU.out] at e3;have e4:=hA2.cell k hlt3;have f4:=hA2.free k;rw [kQ] at e4;have hor:=Go.bI.u8_or128 (a:=a / 2) (b:=c % 2) (by omega) (by omega) (by omega) (by omega);have hmm:c * 128 % 256=c % 2 * 128:=by omega
        rw [<-hmm] at hor;have HMM:=ak hmm;have HA2:=ak hA2;clear e1 e2 f1 HA HZ HB hA2 hmm;go_wp2
        go_region
        all_goals
         go_wp2;go_roundw
         case rel=> exact ⟨k+1,by omega,by go_num,(hZ2.other (by first | omega | (simp<;> omega)) _).drew,by have h3:=(HA2.out.set k (a / 2+c * 128 % 256)).drew;rw [HMM.out] at h3;rw [HMM.out,←bN HH.out.symm];exact h3.congr (fun i _=> uV _ _ _ _ i),(hb2.setCell (by first | omega | (simp<;> omega)) _).drew⟩
         case measure=> simp [intOf] <;> omega
       ·obtain rfl:k=31:=by omega
        have hc0:c=0:=by rw [hc];exact Bb HYB.out
        have HH2:Hid (a / 2=dg 256 (Y / 2) 31):=by show _= _;have:=HH.out;omega
        have HA:=ak hA;have HZ:=ak hZ;have HB:=ak hbel;clear hA hZ hbel hc hc0;go_wp2;go_roundw
        case rel=> exact ⟨32,by omega,by go_num,HZ.out.other (by first | omega | (simp<;> omega)) _,by rw [<-bN HH2.out];exact HA.out.set 31 _,HB.out.setCell (by first | omega | (simp<;> omega)) _⟩
        case measure=> simp [intOf] <;> omega
      ·obtain rfl:k=32:=by omega
       have hA2:=hA.congr (dK _ _ (bB _));clear hA;go_wp2;go_roundw
       case rel=> exact ⟨j+1,by omega,by go_num,hZ,by rw [HY2.out];exact hA2,hbel⟩
       case measure=> simp [intOf] <;> omega
    ·obtain rfl:j=s:=by omega
     go_wp2_with (first
      | (refine aM rfl 22 _ rfl .u8 (w.heap.size+1) 32 _ 5 dU dz rfl hA ?_)
      | (refine aF rfl 22 _ _ rfl .u8 w.heap.size 32 (fun _=> 0) _ dz rfl rfl hZ ?_))
     exact bodyPost_ret (aZ rfl _ _ .u8 w.heap.size 32 _ 5 rfl (hZ.setRow _ _) dU dz) rfl ⟨rfl,aA hbel (bB _) _⟩
theorem Zc:((2 ^ 255 - 21) / 2 ^ 0:Int)=((PN - 2:Nat):Int):=by decide
theorem lC:(0:Int)<=((PN - 2:Nat):Int)/\((PN - 2:Nat):Int)<2 ^ 256:=by decide
theorem MF (w:World):Calls Tryz.prog 248 #[.int .u8 21,.int .u64 0] w fun e w'=> e=.returned (.agg (arr .u8 32 (dg 256 ((PN - 2:Nat):Int))))/\Below w.heap.size w w':=by
 have h:=pY 21 0 (by decide) (by decide) (by decide) w;rw [Zc] at h;exact h
def jD (f:Nat->Int):Nat->Int:=FK f ((PN - 2:Nat):Int)
def vT (X:Int):Int:=X ^ (PN - 2)
theorem jR {f:Nat->Int} {X:Int} (hf:Fe f X):Fe (jD f) (vT X):=by
 unfold vT;have h:=hf.FK lC.1 lC.2
 rwa [EM] at h
theorem jL (f:Nat->Int) (X:Int) (hf:Fe f X) (w:World):
  Calls Tryz.prog 204 #[El f] w fun e w'=> e=.returned (El (jD f))/\Below w.heap.size w w':=by
 have HF:=ak hf;clear hf;unfold El
 go_enter Tryz.func204,Tryz.ntmps204
 go_wp2
 refine aG (fun w1=> aH .i64 w1 w.heap.size 16 f/\aH .i64 w1 (w.heap.size+1) 16 (fun _=> 0)/\Below w.heap.size w w1)
  ⟨aH.alloc (bG (by first | omega | (simp<;> omega)) (by rfl)) _,bG (by first | omega | (simp<;> omega)) (by rfl),((bM _ _).alloc (bB _) _).alloc (by simp) _⟩ ?_
 rintro w1 ⟨hA,hZ,hbel⟩
 refine bV (n:=6) (fun i=> i==3) (by kernel_rfl) (by kernel_rfl) (by kernel_rfl) (by kernel_rfl) rfl
  (fun ii vv _=> (match ii with | 0=> vv=.agg (arr .i64 16 (f)) | 1=> vv=.agg (arr .u8 32 (dg 256 ((PN - 2:Nat):Int))) | 2=> vv=.agg (arr .i64 16 (jD f)) | _=> True))
  (fun w w'=> Below w.heap.size w w') (fun _ _ h=> h) (fun _ _ _ _ h _=> h)
  (fun _=> (w.heap.size+1)) (fun _=> (arr .i64 16 (fun _=> 0))) (fun _=> (arr .i64 16 (jD f)))
  (by intro i j _ _ hpi iL hne;simp only [beq_iff_eq] at hpi iL;omega)
  (by intro i _ hpi;exact (hZ).row)
  ?_ ?_ ?_
 ·refine bQ ?_;refine ⟨?_,?_,?_,(aK),trivial⟩
  ·intro _ a w2 hB hF hd;exact aJ <| aO (aB rfl bT rfl bE (hF.same 1 rfl) (hA.below hB hA.lt)) rfl
  ·intro _ a w2 hB hF hd;refine aJ <| aD _ _ _ rfl Tryz.call248 _ (args2 rfl rfl) (by simp) ((MF w2).mono ?_);rintro e w3 ⟨rfl,hb⟩;exact ⟨_,rfl,rfl,hb⟩
  ·intro _ a w2 hB hF hd;refine aJ <| aD _ _ _ rfl Tryz.call247 _ (args2 (hd 0 _ rfl rfl (aj rfl)) (hd 1 _ rfl rfl (aj rfl))) (by simp) ((lK f X ((PN - 2:Nat):Int) HF.out lC.1 lC.2 w2).mono ?_);rintro e w3 ⟨rfl,hb⟩;exact ⟨_,rfl,rfl,hb⟩
 ·refine bQ ?_;refine ⟨(aK),(aK),(aK),?_,trivial⟩
  ·intro _ a w1 w2 K hB hF hS hr hK;exact aW 191 _ _ rfl .i64 ((w.heap.size+1)) 16 (fun _=> 0) (jD f) bE (hF.same 2 rfl) (hS 2 _ rfl rfl) hr hK
 ·intro a wf w3 hB hF hS hfil;have other:∀{k:IntKind} {qb n:Nat} {f:Nat->Int},qb≠(w.heap.size+1)->aH k wf qb n f->aH k w3 qb n f:=fun {k qb n f} e0 hA=> hfil.arr (by intro i _ hpi;simp only [jY,beq_iff_eq] at hpi;subst hpi<;> ((try simp only []);(try dsimp only);omega)) hA;have dx:∀{B:Nat} {w0:World},B<=(w.heap.size+1)->Below B w0 wf->Below B w0 w3:=fun {B w0} e0 hA=> hfil.below (by intro i _ hpi;simp only [jY,beq_iff_eq] at hpi;subst hpi<;> ((try simp only []);(try dsimp only);omega)) hA;have V3:aH .i64 w3 ((w.heap.size+1)) 16 (jD f):=hfil.at 3 (by decide) rfl;have oL:=hfil.size;clear hfil;have ha:=aI rfl rfl hF [_,_,_,undef] rfl ⟨hS 0 _ rfl rfl,hS 1 _ rfl rfl,hS 2 _ rfl rfl,trivial,trivial⟩;simp only [puts,Act.put,dH,dI,dJ] at ha;subst ha;clear hS hF;have hb:=dx (by omega) (hbel.trans (hB.mono hbel.size));clear hA hZ hbel hB other dx;go_wp2;exact bodyPost_ret (cO rfl _ _ .i64 (w.heap.size+1) 16 _ rfl V3 bT rfl bE) rfl ⟨rfl,hb⟩
theorem Nh (f g:Nat->Int) (X Y:Int) (hf:Fe f X) (hg:Fe g Y) (w:World):
  Calls Tryz.prog 201 #[El f,El g,.bool true] w fun e w'=> e=.returned (.tuple #[El g,El f])/\Below w.heap.size w w':=by
 have C1:∀w,Calls Tryz.prog 243 #[El f,El g,.int .i64 1] w fun e w'=> e=.returned (El g)/\Below w.heap.size w w':=fun w=> kH f g 1 (by decide) (fun i hi=> by have:=hf.1.bound i hi;omega) (fun i hi=> by have:=hg.1.bound i hi;omega) w;have C2:∀w,Calls Tryz.prog 243 #[El g,El f,.int .i64 1] w fun e w'=> e=.returned (El f)/\Below w.heap.size w w':=fun w=> kH g f 1 (by decide) (fun i hi=> by have:=hg.1.bound i hi;omega) (fun i hi=> by have:=hf.1.bound i hi;omega) w;have K1:=ak C1;have K2:=ak C2;clear C1 C2 hf hg;unfold El
 go_enter Tryz.func201,Tryz.ntmps201
 go_wp2
 refine aG (fun w1=> aH .i64 w1 w.heap.size 16 f/\aH .i64 w1 (w.heap.size+1) 16 g/\aH .i64 w1 (w.heap.size+2) 16 (fun _=> 0)/\aH .i64 w1 (w.heap.size+3) 16 (fun _=> 0)/\Below w.heap.size w w1)
  ⟨aH.alloc (aH.alloc (aH.alloc (bG (by first | omega | (simp<;> omega)) (by rfl)) _) _) _,aH.alloc (aH.alloc (bG (by first | omega | (simp<;> omega)) (by rfl)) _) _,aH.alloc (bG (by first | omega | (simp<;> omega)) (by rfl)) _,bG (by first | omega | (simp<;> omega)) (by rfl),((((bM _ _).alloc (bB _) _).alloc (by simp) _).alloc (by simp;omega) _).alloc (by simp;omega) _⟩ ?_
 rintro w1 ⟨hA,hG,hZ,hY,hbel⟩
 refine bV (n:=18) (fun i=> i==8 || i==9) (by kernel_rfl) (by kernel_rfl) (by kernel_rfl) (by kernel_rfl) rfl
  (fun ii vv _=> (match ii with | 0 | 5 | 7=> vv=.agg (arr .i64 16 (f)) | 1 | 3 | 4=> vv=.agg (arr .i64 16 (g)) | 2 | 6=> vv=.int .i64 (1) | _=> True))
  (fun w w'=> Below w.heap.size w w') (fun _ _ h=> h) (fun _ _ _ _ h _=> h)
  (fun i=> match i with | 8=> (w.heap.size+2) | _=> (w.heap.size+3)) (fun i=> match i with | 8=> (arr .i64 16 (fun _=> 0)) | _=> (arr .i64 16 (fun _=> 0))) (fun i=> match i with | 8=> (arr .i64 16 (g)) | _=> (arr .i64 16 (f)))
  (by intro i j _ _ hpi iL hne;simp only [jY,beq_iff_eq] at hpi iL;rcases hpi with rfl | rfl<;> rcases iL with rfl | rfl<;> first | exact absurd rfl hne | (simp only [];omega))
  (by intro i _ hpi;simp only [jY,beq_iff_eq] at hpi;rcases hpi with rfl | rfl<;> first | exact (hZ).row | exact (hY).row)
  ?_ ?_ ?_
 ·refine bQ ?_;refine ⟨?_,?_,?_,?_,?_,?_,?_,?_,(aK),(aK),trivial⟩
  ·intro _ a w2 hB hF hd;exact aJ <| aO (aB rfl bT rfl bE (hF.same 3 rfl) (hA.below hB hA.lt)) rfl
  ·intro _ a w2 hB hF hd;exact aJ <| aO (aB rfl bT rfl bE (hF.same 4 rfl) (hG.below hB hG.lt)) rfl
  ·intro _ a w2 hB hF hd;exact aJ <| fq rfl (hF.same 8 rfl)
  ·intro _ a w2 hB hF hd;refine aJ <| aD _ _ _ rfl Tryz.call243 _ (tY (hd 0 _ rfl rfl (aj rfl)) (hd 1 _ rfl rfl (aj rfl)) (hd 2 _ rfl rfl (aj rfl))) (by simp) ((K1.out w2).mono ?_);rintro e w3 ⟨rfl,hb⟩;exact ⟨_,rfl,rfl,hb⟩
  ·intro _ a w2 hB hF hd;exact aJ <| aO (aB rfl bT rfl bE (hF.same 4 rfl) (hG.below hB hG.lt)) rfl
  ·intro _ a w2 hB hF hd;exact aJ <| aO (aB rfl bT rfl bE (hF.same 3 rfl) (hA.below hB hA.lt)) rfl
  ·intro _ a w2 hB hF hd;exact aJ <| fq rfl (hF.same 8 rfl)
  ·intro _ a w2 hB hF hd;refine aJ <| aD _ _ _ rfl Tryz.call243 _ (tY (hd 4 _ rfl rfl (aj rfl)) (hd 5 _ rfl rfl (aj rfl)) (hd 6 _ rfl rfl (aj rfl))) (by simp) ((K2.out w2).mono ?_);rintro e w3 ⟨rfl,hb⟩;exact ⟨_,rfl,rfl,hb⟩
 ·refine bQ ?_;refine ⟨(aK),(aK),(aK),(aK),(aK),(aK),(aK),(aK),?_,?_,trivial⟩
  ·intro _ a w1 w2 K hB hF hS hr hK;exact aW 191 _ _ rfl .i64 ((w.heap.size+2)) 16 (fun _=> 0) (g) bE (hF.same 6 rfl) (hS 3 _ rfl rfl) hr hK
  ·intro _ a w1 w2 K hB hF hS hr hK;exact aW 191 _ _ rfl .i64 ((w.heap.size+3)) 16 (fun _=> 0) (f) bE (hF.same 7 rfl) (hS 7 _ rfl rfl) hr hK
 ·intro a wf w3 hB hF hS hfil;have other:∀{k:IntKind} {qb n:Nat} {f:Nat->Int},qb≠(w.heap.size+2)->qb≠(w.heap.size+3)->aH k wf qb n f->aH k w3 qb n f:=fun {k qb n f} e0 e1 hA=> hfil.arr (by intro i _ hpi;simp only [jY,beq_iff_eq] at hpi;rcases hpi with rfl | rfl<;> ((try simp only []);(try dsimp only);omega)) hA;have dx:∀{B:Nat} {w0:World},B<=(w.heap.size+2)->B<=(w.heap.size+3)->Below B w0 wf->Below B w0 w3:=fun {B w0} e0 e1 hA=> hfil.below (by intro i _ hpi;simp only [jY,beq_iff_eq] at hpi;rcases hpi with rfl | rfl<;> ((try simp only []);(try dsimp only);omega)) hA;have V8:aH .i64 w3 ((w.heap.size+2)) 16 (g):=hfil.at 8 (by decide) rfl;have V9:aH .i64 w3 ((w.heap.size+3)) 16 (f):=hfil.at 9 (by decide) rfl;have oL:=hfil.size;clear hfil;have ha:=aI rfl rfl hF [_,_,_,_,_,_,_,_,undef,undef] rfl ⟨hS 0 _ rfl rfl,hS 1 _ rfl rfl,hS 2 _ rfl rfl,hS 3 _ rfl rfl,hS 4 _ rfl rfl,hS 5 _ rfl rfl,hS 6 _ rfl rfl,hS 7 _ rfl rfl,trivial,trivial,trivial⟩;simp only [puts,Act.put,dH,dI,dJ] at ha;subst ha;clear hS hF;have hb:=dx (by omega) (by omega) (hbel.trans (hB.mono hbel.size));clear hA hG hZ hY hbel hB other dx;go_wp2;exact bodyPost_ret (pU rfl _ _ .i64 (w.heap.size+2) 16 _ .i64 (w.heap.size+3) 16 _ rfl V8 bT rfl bE rfl V9 bT rfl bE) rfl ⟨rfl,hb⟩
theorem QW (f g:Nat->Int) (X Y:Int) (hf:Fe f X) (hg:Fe g Y) (w:World):
  Calls Tryz.prog 201 #[El f,El g,.bool false] w fun e w'=> e=.returned (.tuple #[El f,El g])/\Below w.heap.size w w':=by
 have C1:∀w,Calls Tryz.prog 243 #[El f,El g,.int .i64 0] w fun e w'=> e=.returned (El f)/\Below w.heap.size w w':=fun w=> kH f g 0 (by decide) (fun i hi=> by have:=hf.1.bound i hi;omega) (fun i hi=> by have:=hg.1.bound i hi;omega) w;have C2:∀w,Calls Tryz.prog 243 #[El g,El f,.int .i64 0] w fun e w'=> e=.returned (El g)/\Below w.heap.size w w':=fun w=> kH g f 0 (by decide) (fun i hi=> by have:=hg.1.bound i hi;omega) (fun i hi=> by have:=hf.1.bound i hi;omega) w;have K1:=ak C1;have K2:=ak C2;clear C1 C2 hf hg;unfold El
 go_enter Tryz.func201,Tryz.ntmps201
 go_wp2
 refine aG (fun w1=> aH .i64 w1 w.heap.size 16 f/\aH .i64 w1 (w.heap.size+1) 16 g/\aH .i64 w1 (w.heap.size+2) 16 (fun _=> 0)/\aH .i64 w1 (w.heap.size+3) 16 (fun _=> 0)/\Below w.heap.size w w1)
  ⟨aH.alloc (aH.alloc (aH.alloc (bG (by first | omega | (simp<;> omega)) (by rfl)) _) _) _,aH.alloc (aH.alloc (bG (by first | omega | (simp<;> omega)) (by rfl)) _) _,aH.alloc (bG (by first | omega | (simp<;> omega)) (by rfl)) _,bG (by first | omega | (simp<;> omega)) (by rfl),((((bM _ _).alloc (bB _) _).alloc (by simp) _).alloc (by simp;omega) _).alloc (by simp;omega) _⟩ ?_
 rintro w1 ⟨hA,hG,hZ,hY,hbel⟩
 refine bV (n:=18) (fun i=> i==8 || i==9) (by kernel_rfl) (by kernel_rfl) (by kernel_rfl) (by kernel_rfl) rfl
  (fun ii vv _=> (match ii with | 0 | 3 | 5=> vv=.agg (arr .i64 16 (f)) | 1 | 4 | 7=> vv=.agg (arr .i64 16 (g)) | 2 | 6=> vv=.int .i64 (0) | _=> True))
  (fun w w'=> Below w.heap.size w w') (fun _ _ h=> h) (fun _ _ _ _ h _=> h)
  (fun i=> match i with | 8=> (w.heap.size+2) | _=> (w.heap.size+3)) (fun i=> match i with | 8=> (arr .i64 16 (fun _=> 0)) | _=> (arr .i64 16 (fun _=> 0))) (fun i=> match i with | 8=> (arr .i64 16 (f)) | _=> (arr .i64 16 (g)))
  (by intro i j _ _ hpi iL hne;simp only [jY,beq_iff_eq] at hpi iL;rcases hpi with rfl | rfl<;> rcases iL with rfl | rfl<;> first | exact absurd rfl hne | (simp only [];omega))
  (by intro i _ hpi;simp only [jY,beq_iff_eq] at hpi;rcases hpi with rfl | rfl<;> first | exact (hZ).row | exact (hY).row)
  ?_ ?_ ?_
 ·refine bQ ?_;refine ⟨?_,?_,?_,?_,?_,?_,?_,?_,(aK),(aK),trivial⟩
  ·intro _ a w2 hB hF hd;exact aJ <| aO (aB rfl bT rfl bE (hF.same 3 rfl) (hA.below hB hA.lt)) rfl
  ·intro _ a w2 hB hF hd;exact aJ <| aO (aB rfl bT rfl bE (hF.same 4 rfl) (hG.below hB hG.lt)) rfl
  ·intro _ a w2 hB hF hd;exact aJ <| fq rfl (hF.same 8 rfl)
  ·intro _ a w2 hB hF hd;refine aJ <| aD _ _ _ rfl Tryz.call243 _ (tY (hd 0 _ rfl rfl (aj rfl)) (hd 1 _ rfl rfl (aj rfl)) (hd 2 _ rfl rfl (aj rfl))) (by simp) ((K1.out w2).mono ?_);rintro e w3 ⟨rfl,hb⟩;exact ⟨_,rfl,rfl,hb⟩
  ·intro _ a w2 hB hF hd;exact aJ <| aO (aB rfl bT rfl bE (hF.same 4 rfl) (hG.below hB hG.lt)) rfl
  ·intro _ a w2 hB hF hd;exact aJ <| aO (aB rfl bT rfl bE (hF.same 3 rfl) (hA.below hB hA.lt)) rfl
  ·intro _ a w2 hB hF hd;exact aJ <| fq rfl (hF.same 8 rfl)
  ·intro _ a w2 hB hF hd;refine aJ <| aD _ _ _ rfl Tryz.call243 _ (tY (hd 4 _ rfl rfl (aj rfl)) (hd 5 _ rfl rfl (aj rfl)) (hd 6 _ rfl rfl (aj rfl))) (by simp) ((K2.out w2).mono ?_);rintro e w3 ⟨rfl,hb⟩;exact ⟨_,rfl,rfl,hb⟩
 ·refine bQ ?_;refine ⟨(aK),(aK),(aK),(aK),(aK),(aK),(aK),(aK),?_,?_,trivial⟩
  ·intro _ a w1 w2 K hB hF hS hr hK;exact aW 191 _ _ rfl .i64 ((w.heap.size+2)) 16 (fun _=> 0) (f) bE (hF.same 6 rfl) (hS 3 _ rfl rfl) hr hK
  ·intro _ a w1 w2 K hB hF hS hr hK;exact aW 191 _ _ rfl .i64 ((w.heap.size+3)) 16 (fun _=> 0) (g) bE (hF.same 7 rfl) (hS 7 _ rfl rfl) hr hK
 ·intro a wf w3 hB hF hS hfil;have other:∀{k:IntKind} {qb n:Nat} {f:Nat->Int},qb≠(w.heap.size+2)->qb≠(w.heap.size+3)->aH k wf qb n f->aH k w3 qb n f:=fun {k qb n f} e0 e1 hA=> hfil.arr (by intro i _ hpi;simp only [jY,beq_iff_eq] at hpi;rcases hpi with rfl | rfl<;> ((try simp only []);(try dsimp only);omega)) hA;have dx:∀{B:Nat} {w0:World},B<=(w.heap.size+2)->B<=(w.heap.size+3)->Below B w0 wf->Below B w0 w3:=fun {B w0} e0 e1 hA=> hfil.below (by intro i _ hpi;simp only [jY,beq_iff_eq] at hpi;rcases hpi with rfl | rfl<;> ((try simp only []);(try dsimp only);omega)) hA;have V8:aH .i64 w3 ((w.heap.size+2)) 16 (f):=hfil.at 8 (by decide) rfl;have V9:aH .i64 w3 ((w.heap.size+3)) 16 (g):=hfil.at 9 (by decide) rfl;have oL:=hfil.size;clear hfil;have ha:=aI rfl rfl hF [_,_,_,_,_,_,_,_,undef,undef] rfl ⟨hS 0 _ rfl rfl,hS 1 _ rfl rfl,hS 2 _ rfl rfl,hS 3 _ rfl rfl,hS 4 _ rfl rfl,hS 5 _ rfl rfl,hS 6 _ rfl rfl,hS 7 _ rfl rfl,trivial,trivial,trivial⟩;simp only [puts,Act.put,dH,dI,dJ] at ha;subst ha;clear hS hF;have hb:=dx (by omega) (by omega) (hbel.trans (hB.mono hbel.size));clear hA hG hZ hY hbel hB other dx;go_wp2;exact bodyPost_ret (pU rfl _ _ .i64 (w.heap.size+2) 16 _ .i64 (w.heap.size+3) 16 _ rfl V8 bT rfl bE rfl V9 bT rfl bE) rfl ⟨rfl,hb⟩
end Go.Proofs.YtpcjekgfnfjbpaaGreat
namespace Go.Proofs.YtpcjekgfnfjbpaaGreat
open Go.RowKit Go.bI Go.ChangeShapes
attribute [local go_sem ↓] Go.wp_at_zero Go.wp_at_succ
theorem yC (S:Int) (w:World):
  Calls Tryz.prog 198 #[.agg (arr .u8 32 (dg 256 S))] w fun e w'=> e=.returned (.agg (arr .u8 32 (dg 256 (eD S))))/\Below w.heap.size w w':=by
 have HQ:=ak (GA S);have HB:Hid (∀i,0<=dg 256 S i/\dg 256 S i<256):=fun i=> aX (by decide) S i;obtain ⟨F,hF⟩:∃F,F=dg 256 S:=⟨_,rfl⟩
 rw [<-hF] at HQ HB ⊢;clear hF
 go_enter Tryz.func198,Tryz.ntmps198
 go_upto_region 1 with (fail);refine aG (fun w1=> aH .u8 w1 w.heap.size 32 F/\aH .u8 w1 (w.heap.size+1) 32 (fun _=> 0)/\Below w.heap.size w w1) ⟨aH.alloc (bG rfl rfl) _,bG (by simp) (by rfl),((bM _ _).alloc (bB _) _).alloc (by simp) _⟩ ?_;rintro w1 ⟨hA,hZ,hb⟩;have e0:=hA.cell 0 (by decide);have f0:=hA.free 0;obtain ⟨x0,x1⟩:=HB.out 0;obtain ⟨x,hx⟩:∃x,x=F 0:=⟨_,rfl⟩
 rw [<-hx] at e0 x0 x1;have a1:=ZL x x0 x1;have HX:=ak hx;have HA:=ak hA;clear hx hA;go_upto_region 2 with (fail);refine aG (fun w2=> aH .u8 w2 w.heap.size 32 (upd F 0 (x / 8 * 8))/\aH .u8 w2 (w.heap.size+1) 32 (fun _=> 0)/\Below w.heap.size w w2) ⟨HA.out.set 0 _,hZ.other (by first | omega | (simp<;> omega)) _,hb.setCell (by first | omega | (simp<;> omega)) _⟩ ?_;rintro w2 ⟨hA2,hZ2,hb2⟩;have e1:=hA2.cell 31 (by decide);have f1:=hA2.free 31;obtain ⟨y0,y1⟩:=HB.out 31;obtain ⟨y,hy⟩:∃y,y=F 31:=⟨_,rfl⟩
 rw [upd_ne _ _ (by decide),←hy] at e1;rw [<-hy] at y0 y1;have a2:=ZM y y0 y1;have a3:=afo (y % 128) (by omega) (by omega);have a4:y % 128 % 64+64=y % 64+64:=by omega
 rw [a4] at a3;have HY:=ak hy;have HA2:=ak hA2;clear hy hA2 e0 f0 hZ hb a4 a1;go_upto_region 3 with (fail);refine aG (fun w3=> aH .u8 w3 w.heap.size 32 (dg 256 (eD S))/\aH .u8 w3 (w.heap.size+1) 32 (fun _=> 0)/\Below w.heap.size w w3) ⟨((HA2.out.set 31 (y % 64+64)).congr (fun i hi=> by rw [HX.out,HY.out];exact HQ.out i hi)),hZ2.other (by first | omega | (simp<;> omega)) _,hb2.setCell (by first | omega | (simp<;> omega)) _⟩ ?_;rintro w3 ⟨hA3,hZ3,hb3⟩;clear e1 f1 hZ2 hb2
 go_wp2_with (first
  | (refine aM rfl 22 _ rfl .u8 w.heap.size 32 (dg 256 (eD S)) 5 dU dz rfl hA3 ?_)
  | (refine aF rfl 22 _ _ rfl .u8 (w.heap.size+1) 32 (fun _=> 0) (dg 256 (eD S)) dz rfl rfl hZ3 ?_))
 exact bodyPost_ret (aZ rfl _ _ .u8 (w.heap.size+1) 32 _ 5 rfl (hZ3.setRow _ _) dU dz) rfl ⟨rfl,aA hb3 (by omega) _⟩
theorem Nz {a:Act} (w:World):(Instr.build 22 ((#[(0,Operand.const (.int .u8 9))] :Array (Nat × Operand)).map fun (i,x)=> (i,a.eval x))).run Tryz.prog w=.ok (.agg (arr .u8 32 (dg 256 9))) w:=by
 simp only [uG,List.map_cons,List.map_nil,Act.eval];rw [Go.run_build w _ _ (arr .u8 32 (dg 256 9)) (by kernel_rfl)]
theorem MO (w:World):Calls Tryz.prog 142 #[] w fun e w'=> e=.returned (.agg (arr .u8 32 (dg 256 9)))/\Below w.heap.size w w':=by
 go_enter Tryz.func142,Tryz.ntmps142
 go_upto_region 1 with (fail);refine aG (fun w1=> aH .u8 w1 w.heap.size 32 (fun _=> 0)/\Below w.heap.size w w1) ⟨bG rfl (by rfl),(bM _ _).alloc (bB _) _⟩ ?_;rintro w1 ⟨hZ,hb⟩
 go_wp2_with (first
  | (refine dV rfl (dL rfl (Nz _)) ?_)
  | (refine aF rfl 22 _ _ rfl .u8 w.heap.size 32 (fun _=> 0) (dg 256 9) dz rfl rfl hZ ?_))
 exact bodyPost_ret (aZ rfl _ _ .u8 w.heap.size 32 _ 5 rfl (hZ.setRow _ _) dU dz) rfl ⟨rfl,aA hb (bB _) _⟩
theorem Nk:∀i,i<32->upto 3 (dg 256 121665) (fun _=> 0) i=dg 256 121665 i:=by
 have key:∀i:Fin 32,upto 3 (dg 256 121665) (fun _=> 0) i.val=dg 256 121665 i.val:=by decide+kernel
 exact fun i h=> key ⟨i,h⟩
def AZ:Nat->Int:=dg 65536 (121665 % 2 ^ 255)
theorem Gv:Fe AZ 121665:=by have h:=Gw 121665;rwa [show (121665:Int) % 2 ^ 255=121665 by decide] at h
theorem Gc (w:World):Calls Tryz.prog 245 #[] w fun e w'=> e=.returned (El AZ)/\Below w.heap.size w w':=by
 have HC:=ak (fun w=> AX 121665 w);unfold El;unfold El at HC;change Hid (∀w,Calls _ _ _ w fun e w'=> e=.returned (.agg (arr .i64 16 AZ))/\_) at HC
 go_enter Tryz.func245,Tryz.ntmps245
 go_upto_region 2 with (fail);refine aG (fun w1=> aH .i64 w1 w.heap.size 16 (fun _=> 0)/\aH .u8 w1 (w.heap.size+1) 32 (upto 0 (dg 256 121665) (fun _=> 0))/\Below w.heap.size w w1) ⟨aH.alloc (bG rfl (by rfl)) _,by rw [cZ];exact bG (by simp) (by rfl),((bM _ _).alloc (bB _) _).alloc (by simp) _⟩ ?_;rintro w1 ⟨hZ,hA,hb⟩;go_wp2
 go_loopw [4] (fun i wr=> ∃k:Nat,k<=3/\i=.int .i64 k/\aH .i64 wr w.heap.size 16 (fun _=> 0)/\aH .u8 wr (w.heap.size+1) 32 (upto k (dg 256 121665) (fun _=> 0))/\Below w.heap.size w wr) (fun i _=> 3 - (intOf i).toNat)
 case atStart=> exact ⟨0,je _,rfl,hZ,hA,hb⟩
 case round=>
  clear hZ hA hb;obtain ⟨k,hk,rfl,hZ,hA,hb⟩:=hrel;rcases (by omega:k=0\/k=1\/k=2\/k=3) with rfl | rfl | rfl | rfl
  case inl=>
   have f1:=hA.free 0;have e1:=hA.cell 0 (by decide);have HA:=ak hA;clear hA;go_wp2;go_roundw
   case rel=> exact ⟨1,by omega,by rfl,hZ.other (by first | omega | (simp<;> omega)) _,by rw [<-bN (show dg 256 121665 0= _ from rfl)];exact HA.out.set _ _,hb.setCell (by first | omega | (simp<;> omega)) _⟩
   case measure=> simp [intOf] <;> omega
  case inr.inl=>
   have f1:=hA.free 1;have e1:=hA.cell 1 (by decide);have HA:=ak hA;clear hA;go_wp2;go_roundw
   case rel=> exact ⟨2,by omega,by rfl,hZ.other (by first | omega | (simp<;> omega)) _,by rw [<-bN (show dg 256 121665 1= _ from rfl)];exact HA.out.set _ _,hb.setCell (by first | omega | (simp<;> omega)) _⟩
   case measure=> simp [intOf] <;> omega
  case inr.inr.inl=>
   have f1:=hA.free 2;have e1:=hA.cell 2 (by decide);have HA:=ak hA;clear hA;go_wp2;go_roundw
   case rel=> exact ⟨3,by omega,by rfl,hZ.other (by first | omega | (simp<;> omega)) _,by rw [<-bN (show dg 256 121665 2= _ from rfl)];exact HA.out.set _ _,hb.setCell (by first | omega | (simp<;> omega)) _⟩
   case measure=> simp [intOf] <;> omega
  case inr.inr.inr=>
   have hA2:=hA.congr Nk;go_wp2_with (refine aM rfl 22 _ rfl .u8 (w.heap.size+1) 32 (dg 256 121665) 5 dU dz rfl hA2 ?_);refine (HC.out _).mono ?_;rintro e w3 ⟨rfl,hb3⟩;have hZ3:=hZ.kept hb3;have hb4:=hb.trans (hb3.mono hb.size);clear hZ hA hA2 hb hb3;go_wp2_with (refine aF rfl 191 _ _ rfl .i64 w.heap.size 16 (fun _=> 0) AZ bE rfl rfl hZ3 ?_);exact bodyPost_ret (cO rfl _ _ .i64 w.heap.size 16 _ rfl (hZ3.setRow _ _) bT rfl bE) rfl ⟨rfl,aA hb4 (bB _) _⟩
theorem MN (f2 k2 f3 k3 fu:Nat->Int) (A B C D U:Int) (h2:Fe f2 A) (i2:Fe k2 B) (h3:Fe f3 C) (i3:Fe k3 D) (hu:Fe fu U) (w:World):
  Calls Tryz.prog 202 #[El f2,El k2,El f3,El k3,El fu] w fun e w'=> ∃a b c d,e=.returned (.tuple #[El a,El b,El c,El d])/\(Fe a (dX A B)/\Fe b (dZ A B)/\Fe c (sX A B C D)/\Fe d (sZ U A B C D))/\Below w.heap.size w w':=by
 have H2:=ak h2;have I2:=ak i2;have H3:=ak h3;have I3:=ak i3;have HU:=ak hu;clear h2 i2 h3 i3 hu;unfold El
 go_enter Tryz.func202,Tryz.ntmps202
 go_upto_region 1 with (fail)
 refine aG (fun w1=> (aH .i64 w1 w.heap.size 16 f2/\aH .i64 w1 (w.heap.size+1) 16 k2/\aH .i64 w1 (w.heap.size+2) 16 f3/\aH .i64 w1 (w.heap.size+3) 16 k3/\aH .i64 w1 (w.heap.size+4) 16 fu)/\(aH .i64 w1 (w.heap.size+5) 16 (fun _=> 0)/\aH .i64 w1 (w.heap.size+6) 16 (fun _=> 0)/\aH .i64 w1 (w.heap.size+7) 16 (fun _=> 0)/\aH .i64 w1 (w.heap.size+8) 16 (fun _=> 0))/\Below w.heap.size w w1)
  ⟨⟨.alloc (.alloc (.alloc (.alloc (.alloc (.alloc (.alloc (.alloc (bG (by first | omega | (simp<;> omega)) (by rfl)) _) _) _) _) _) _) _) _,.alloc (.alloc (.alloc (.alloc (.alloc (.alloc (.alloc (bG (by first | omega | (simp<;> omega)) (by rfl)) _) _) _) _) _) _) _,.alloc (.alloc (.alloc (.alloc (.alloc (.alloc (bG (by first | omega | (simp<;> omega)) (by rfl)) _) _) _) _) _) _,.alloc (.alloc (.alloc (.alloc (.alloc (bG (by first | omega | (simp<;> omega)) (by rfl)) _) _) _) _) _,.alloc (.alloc (.alloc (.alloc (bG (by first | omega | (simp<;> omega)) (by rfl)) _) _) _) _⟩,
   ⟨.alloc (.alloc (.alloc (bG (by first | omega | (simp<;> omega)) (by rfl)) _) _) _,.alloc (.alloc (bG (by first | omega | (simp<;> omega)) (by rfl)) _) _,.alloc (bG (by first | omega | (simp<;> omega)) (by rfl)) _,bG (by first | omega | (simp<;> omega)) (by rfl)⟩,
   ((((((((((bM _ _).alloc (bB _) _).alloc (by first | omega | (simp<;> omega)) _).alloc (by first | omega | (simp<;> omega)) _).alloc (by first | omega | (simp<;> omega)) _).alloc (by first | omega | (simp<;> omega)) _).alloc (by first | omega | (simp<;> omega)) _).alloc (by first | omega | (simp<;> omega)) _).alloc (by first | omega | (simp<;> omega)) _).alloc (by first | omega | (simp<;> omega)) _)⟩ ?_
 rintro w1 ⟨⟨hA,hB',hC,hD,hE⟩,⟨VG,hR2,VF,Sl⟩,hbel⟩;have hsz:w.heap.size+9<=w1.heap.size:=by have:=Sl.lt;omega
 refine aT (n:=72) (by kernel_rfl) (by kernel_rfl) (by kernel_rfl) rfl
  (gJ [(8,6),(9,7)]) (dS [(8,6),(9,7)]) (fun _=> arr .i64 16 (fun _=> 0)) (fun i=> match i with | 6=> (arr .i64 16 (bW (f2) (k2))) | 7=> (arr .i64 16 (eG (f2) (k2))) | _=> #[]) (fun _=> 191) (fun i=> match i with | 6=> 14 | 7=> 15 | _=> 0)
  (fun ii vv _=> (match ii with | 0 | 3=> vv=.agg (arr .i64 16 (f2)) | 1 | 4=> vv=.agg (arr .i64 16 (k2)) | 2=> vv=.agg (arr .i64 16 (bW (f2) (k2))) | 5=> vv=.agg (arr .i64 16 (eG (f2) (k2))) | _=> True)) (fun _ _=> True) (fun _ _ _=> trivial) (fun _ _ _ _ _ _ _=> trivial) (fun _ _ _ _ h _=> h)
  (eT rfl) (dA rfl) ?_ ?_ ?_ ?_
 ·refine bQ ?_;refine ⟨?_,?_,?_,?_,?_,?_,(fun h=> by cases h),(fun h=> by cases h),(fun _ h=> by cases h),(fun _ h=> by cases h),trivial⟩
  ·intro _ _ a w2 hB hF hd;exact aJ <| aO (aB rfl bT rfl bE (hF.same 5 rfl) (hA.below hB hA.lt)) rfl
  ·intro _ _ a w2 hB hF hd;exact aJ <| aO (aB rfl bT rfl bE (hF.same 6 rfl) (hB'.below hB hB'.lt)) rfl
  ·intro _ _ a w2 hB hF hd;refine aJ <| aD _ _ _ rfl Tryz.call218 _ (args2 (hd 0 _ rfl rfl rfl (aj rfl)) (hd 1 _ rfl rfl rfl (aj rfl))) (by simp) ((fZ _ _ _ _ H2.out I2.out w2).mono ?_);rintro e w3 ⟨rfl,hb⟩;exact ⟨_,rfl,rfl,hb⟩
  ·intro _ _ a w2 hB hF hd;exact aJ <| aO (aB rfl bT rfl bE (hF.same 5 rfl) (hA.below hB hA.lt)) rfl
  ·intro _ _ a w2 hB hF hd;exact aJ <| aO (aB rfl bT rfl bE (hF.same 6 rfl) (hB'.below hB hB'.lt)) rfl
  ·intro _ _ a w2 hB hF hd;refine aJ <| aD _ _ _ rfl Tryz.call244 _ (args2 (hd 3 _ rfl rfl rfl (aj rfl)) (hd 4 _ rfl rfl rfl (aj rfl))) (by simp) ((iU _ _ _ _ H2.out I2.out w2).mono ?_);rintro e w3 ⟨rfl,hb⟩;exact ⟨_,rfl,rfl,hb⟩
 ·refine bQ ?_;refine ⟨(fun h=> by cases h),(fun h=> by cases h),(fun h=> by cases h),(fun h=> by cases h),(fun h=> by cases h),(fun h=> by cases h),?_,?_,(fun h=> by cases h),(fun h=> by cases h),trivial⟩
  ·exact fun _=> ⟨rfl,rfl,fun a w2 K h=> aP rfl rfl Tryz.zeroValue191 (by simp) h⟩
  ·exact fun _=> ⟨rfl,rfl,fun a w2 K h=> aP rfl rfl Tryz.zeroValue191 (by simp) h⟩
 ·refine bQ ?_;refine ⟨(fun _ h=> by cases h),(fun _ h=> by cases h),(fun _ h=> by cases h),(fun _ h=> by cases h),(fun _ h=> by cases h),(fun _ h=> by cases h),(fun _ h=> by cases h),(fun _ h=> by cases h),?_,?_,trivial⟩
  ·intro p hp;obtain rfl:6=p:=fT hp;exact ⟨rfl,rfl,⟨_,rfl⟩,aj rfl,fun a w2 b K hB hF hd hx hb h=> aY rfl rfl bE hx (hd 2 _ rfl rfl rfl (aj rfl)) hb h⟩
  ·intro p hp;obtain rfl:7=p:=fT hp;exact ⟨rfl,rfl,⟨_,rfl⟩,aj rfl,fun a w2 b K hB hF hd hx hb h=> aY rfl rfl bE hx (hd 5 _ rfl rfl rfl (aj rfl)) hb h⟩
 ·intro a w2 blk hB hF hS hv hfin bU;obtain ⟨v6,NU,v6u⟩:=hv 6 _ rfl rfl;obtain ⟨v7,BQ,Sc⟩:=hv 7 _ rfl rfl;have ha:=aI rfl rfl hF [_,_,_,_,_,_,_,_,undef,undef] rfl ⟨hS 0 _ rfl rfl rfl,hS 1 _ rfl rfl rfl,hS 2 _ rfl rfl rfl,hS 3 _ rfl rfl rfl,hS 4 _ rfl rfl rfl,hS 5 _ rfl rfl rfl,v6,v7,trivial,trivial,trivial⟩;have f6:=hfin 8 _ 6 rfl rfl;have f7:=hfin 9 _ 7 rfl rfl;have Wv:=bU 6 7 _ _ rfl rfl rfl rfl (by decide);simp only [puts,Act.put,dH,dI,dJ] at ha;subst ha;have V6:aH .i64 w2 (blk 6) 16 (bW (f2) (k2)):=⟨_,f6⟩
  have V7:aH .i64 w2 (blk 7) 16 (eG (f2) (k2)):=⟨_,f7⟩
  clear hS hv hfin bU hF v6 v7 f6 f7;replace hA:=hA.kept hB;replace hB':=hB'.kept hB;replace hC:=hC.kept hB;replace hD:=hD.kept hB;replace hE:=hE.kept hB;replace VG:=VG.kept hB;replace hR2:=hR2.kept hB;replace VF:=VF.kept hB;replace Sl:=Sl.kept hB;obtain ⟨bpl,acU⟩:∃x,x=blk 6:=⟨_,rfl⟩
  obtain ⟨pl,hpl,Hpl⟩:∃x,x=bW f2 k2/\Hid (Fe x (A+B)):=⟨_,rfl,H2.out.bW I2.out⟩
  rw [<-hpl,←acU] at V6;rw [<-acU] at NU ⊢;have lpl:w.heap.size+9<=bpl:=jG hsz NU;obtain ⟨bmi,acV⟩:∃x,x=blk 7:=⟨_,rfl⟩
  obtain ⟨mi,zB,Hmi⟩:∃x,x=eG f2 k2/\Hid (Fe x (A - B)):=⟨_,rfl,H2.out.eG I2.out⟩
  rw [<-zB,←acV] at V7;rw [<-acV] at BQ ⊢;have lmi:w.heap.size+9<=bmi:=jG hsz BQ;replace hbel:=hbel.trans (hB.mono hbel.size);replace hsz:=jG hsz hB.size;clear hB hpl acU zB acV;have vU:=V6;clear V6 NU v6u;have vV:=V7;clear V7 BQ Sc;go_upto_region 2 with (fail)
  refine aT (n:=72) (by kernel_rfl) (by kernel_rfl) (by kernel_rfl) rfl
   (gJ [(8,6),(9,7)]) (dS [(8,6),(9,7)]) (fun _=> arr .i64 16 (fun _=> 0)) (fun i=> match i with | 6=> (arr .i64 16 (aL (pl) (pl))) | 7=> (arr .i64 16 (aL (mi) (mi))) | _=> #[]) (fun _=> 191) (fun i=> match i with | 6=> 16 | 7=> 17 | _=> 0)
   (fun ii vv _=> (match ii with | 0 | 1=> vv=.agg (arr .i64 16 (pl)) | 2=> vv=.agg (arr .i64 16 (aL (pl) (pl))) | 3 | 4=> vv=.agg (arr .i64 16 (mi)) | 5=> vv=.agg (arr .i64 16 (aL (mi) (mi))) | _=> True)) (fun _ _=> True) (fun _ _ _=> trivial) (fun _ _ _ _ _ _ _=> trivial) (fun _ _ _ _ h _=> h)
   (eT rfl) (dA rfl) ?_ ?_ ?_ ?_
  ·refine bQ ?_;refine ⟨?_,?_,?_,?_,?_,?_,(fun h=> by cases h),(fun h=> by cases h),(fun _ h=> by cases h),(fun _ h=> by cases h),trivial⟩
   ·intro _ _ a w2 hB hF hd;exact aJ <| aO (aB rfl bT rfl bE (hF.same 14 rfl) (vU.below hB vU.lt)) rfl
   ·intro _ _ a w2 hB hF hd;exact aJ <| aO (aB rfl bT rfl bE (hF.same 14 rfl) (vU.below hB vU.lt)) rfl
   ·intro _ _ a w2 hB hF hd;refine aJ <| aD _ _ _ rfl Tryz.call203 _ (args2 (hd 0 _ rfl rfl rfl (aj rfl)) (hd 1 _ rfl rfl rfl (aj rfl))) (by simp) ((bJ _ _ _ _ Hpl.out Hpl.out w2).mono ?_);rintro e w3 ⟨rfl,hb⟩;exact ⟨_,rfl,rfl,hb⟩
   ·intro _ _ a w2 hB hF hd;exact aJ <| aO (aB rfl bT rfl bE (hF.same 15 rfl) (vV.below hB vV.lt)) rfl
   ·intro _ _ a w2 hB hF hd;exact aJ <| aO (aB rfl bT rfl bE (hF.same 15 rfl) (vV.below hB vV.lt)) rfl
   ·intro _ _ a w2 hB hF hd;refine aJ <| aD _ _ _ rfl Tryz.call203 _ (args2 (hd 3 _ rfl rfl rfl (aj rfl)) (hd 4 _ rfl rfl rfl (aj rfl))) (by simp) ((bJ _ _ _ _ Hmi.out Hmi.out w2).mono ?_);rintro e w3 ⟨rfl,hb⟩;exact ⟨_,rfl,rfl,hb⟩
  ·refine bQ ?_;refine ⟨(fun h=> by cases h),(fun h=> by cases h),(fun h=> by cases h),(fun h=> by cases h),(fun h=> by cases h),(fun h=> by cases h),?_,?_,(fun h=> by cases h),(fun h=> by cases h),trivial⟩
   ·exact fun _=> ⟨rfl,rfl,fun a w2 K h=> aP rfl rfl Tryz.zeroValue191 (by simp) h⟩
   ·exact fun _=> ⟨rfl,rfl,fun a w2 K h=> aP rfl rfl Tryz.zeroValue191 (by simp) h⟩
  ·refine bQ ?_;refine ⟨(fun _ h=> by cases h),(fun _ h=> by cases h),(fun _ h=> by cases h),(fun _ h=> by cases h),(fun _ h=> by cases h),(fun _ h=> by cases h),(fun _ h=> by cases h),(fun _ h=> by cases h),?_,?_,trivial⟩
   ·intro p hp;obtain rfl:6=p:=fT hp;exact ⟨rfl,rfl,⟨_,rfl⟩,aj rfl,fun a w2 b K hB hF hd hx hb h=> aY rfl rfl bE hx (hd 2 _ rfl rfl rfl (aj rfl)) hb h⟩
   ·intro p hp;obtain rfl:7=p:=fT hp;exact ⟨rfl,rfl,⟨_,rfl⟩,aj rfl,fun a w2 b K hB hF hd hx hb h=> aY rfl rfl bE hx (hd 5 _ rfl rfl rfl (aj rfl)) hb h⟩
  ·intro a w3 blk hB hF hS hv hfin bU;obtain ⟨v6,NU,v6u⟩:=hv 6 _ rfl rfl;obtain ⟨v7,BQ,Sc⟩:=hv 7 _ rfl rfl;have ha:=aI rfl rfl hF [_,_,_,_,_,_,_,_,undef,undef] rfl ⟨hS 0 _ rfl rfl rfl,hS 1 _ rfl rfl rfl,hS 2 _ rfl rfl rfl,hS 3 _ rfl rfl rfl,hS 4 _ rfl rfl rfl,hS 5 _ rfl rfl rfl,v6,v7,trivial,trivial,trivial⟩;have f6:=hfin 8 _ 6 rfl rfl;have f7:=hfin 9 _ 7 rfl rfl;have Wv:=bU 6 7 _ _ rfl rfl rfl rfl (by decide);simp only [puts,Act.put,dH,dI,dJ] at ha;subst ha;have V6:aH .i64 w3 (blk 6) 16 (aL (pl) (pl)):=⟨_,f6⟩
   have V7:aH .i64 w3 (blk 7) 16 (aL (mi) (mi)):=⟨_,f7⟩
   clear hS hv hfin bU hF v6 v7 f6 f7;replace hA:=hA.kept hB;replace hB':=hB'.kept hB;replace hC:=hC.kept hB;replace hD:=hD.kept hB;replace hE:=hE.kept hB;replace VG:=VG.kept hB;replace hR2:=hR2.kept hB;replace VF:=VF.kept hB;replace Sl:=Sl.kept hB;replace vU:=vU.kept hB;replace vV:=vV.kept hB;obtain ⟨baa,MW⟩:∃x,x=blk 6:=⟨_,rfl⟩
   obtain ⟨aa,haa,Sn⟩:∃x,x=aL pl pl/\Hid (Fe x ((A+B) * (A+B))):=⟨_,rfl,Hpl.out.aL Hpl.out⟩
   rw [<-haa,←MW] at V6;rw [<-MW] at NU ⊢;have laa:w.heap.size+9<=baa:=jG hsz NU;obtain ⟨bbb,MV⟩:∃x,x=blk 7:=⟨_,rfl⟩
   obtain ⟨bb,hbb,ZP⟩:∃x,x=aL mi mi/\Hid (Fe x ((A - B) * (A - B))):=⟨_,rfl,Hmi.out.aL Hmi.out⟩
   rw [<-hbb,←MV] at V7;rw [<-MV] at BQ ⊢;have lbb:w.heap.size+9<=bbb:=jG hsz BQ;replace hbel:=hbel.trans (hB.mono hbel.size);replace hsz:=jG hsz hB.size;clear hB haa MW hbb MV;have kL:=V6;clear V6 NU v6u;have lZ:=V7;clear V7 BQ Sc;go_upto_region 3 with (fail)
   refine aT (n:=72) (by kernel_rfl) (by kernel_rfl) (by kernel_rfl) rfl
    (gJ [(4,3)]) (dS [(4,3)]) (fun _=> arr .i64 16 (fun _=> 0)) (fun _=> (arr .i64 16 (eG (aa) (bb)))) (fun _=> 191) (fun _=> 18)
    (fun ii vv _=> (match ii with | 0=> vv=.agg (arr .i64 16 (aa)) | 1=> vv=.agg (arr .i64 16 (bb)) | 2=> vv=.agg (arr .i64 16 (eG (aa) (bb))) | _=> True)) (fun _ _=> True) (fun _ _ _=> trivial) (fun _ _ _ _ _ _ _=> trivial) (fun _ _ _ _ h _=> h)
    (eT rfl) (dA rfl) ?_ ?_ ?_ ?_
   ·refine bQ ?_;refine ⟨?_,?_,?_,(fun h=> by cases h),(fun _ h=> by cases h),trivial⟩
    ·intro _ _ a w2 hB hF hd;exact aJ <| aO (aB rfl bT rfl bE (hF.same 16 rfl) (kL.below hB kL.lt)) rfl
    ·intro _ _ a w2 hB hF hd;exact aJ <| aO (aB rfl bT rfl bE (hF.same 17 rfl) (lZ.below hB lZ.lt)) rfl
    ·intro _ _ a w2 hB hF hd;refine aJ <| aD _ _ _ rfl Tryz.call244 _ (args2 (hd 0 _ rfl rfl rfl (aj rfl)) (hd 1 _ rfl rfl rfl (aj rfl))) (by simp) ((iU _ _ _ _ Sn.out ZP.out w2).mono ?_);rintro e w3 ⟨rfl,hb⟩;exact ⟨_,rfl,rfl,hb⟩
   ·refine bQ ?_;refine ⟨(fun h=> by cases h),(fun h=> by cases h),(fun h=> by cases h),?_,(fun h=> by cases h),trivial⟩
    ·exact fun _=> ⟨rfl,rfl,fun a w2 K h=> aP rfl rfl Tryz.zeroValue191 (by simp) h⟩
   ·refine bQ ?_;refine ⟨(fun _ h=> by cases h),(fun _ h=> by cases h),(fun _ h=> by cases h),(fun _ h=> by cases h),?_,trivial⟩
    ·intro p hp;obtain rfl:3=p:=fT hp;exact ⟨rfl,rfl,⟨_,rfl⟩,aj rfl,fun a w2 b K hB hF hd hx hb h=> aY rfl rfl bE hx (hd 2 _ rfl rfl rfl (aj rfl)) hb h⟩
   ·intro a w4 blk hB hF hS hv hfin bU;obtain ⟨v3,BR,LB⟩:=hv 3 _ rfl rfl;have ha:=aI rfl rfl hF [_,_,_,_,undef] rfl ⟨hS 0 _ rfl rfl rfl,hS 1 _ rfl rfl rfl,hS 2 _ rfl rfl rfl,v3,trivial,trivial⟩;have f3:=hfin 4 _ 3 rfl rfl;simp only [puts,Act.put,dH,dI,dJ] at ha;subst ha;have V3:aH .i64 w4 (blk 3) 16 (eG (aa) (bb)):=⟨_,f3⟩
    clear hS hv hfin bU hF v3 f3;replace hA:=hA.kept hB;replace hB':=hB'.kept hB;replace hC:=hC.kept hB;replace hD:=hD.kept hB;replace hE:=hE.kept hB;replace VG:=VG.kept hB;replace hR2:=hR2.kept hB;replace VF:=VF.kept hB;replace Sl:=Sl.kept hB;replace vU:=vU.kept hB;replace vV:=vV.kept hB;replace kL:=kL.kept hB;replace lZ:=lZ.kept hB;obtain ⟨bee,MU⟩:∃x,x=blk 3:=⟨_,rfl⟩
    obtain ⟨ee,hee,ZO⟩:∃x,x=eG aa bb/\Hid (Fe x ((A+B) * (A+B) - (A - B) * (A - B))):=⟨_,rfl,Sn.out.eG ZP.out⟩
    rw [<-hee,←MU] at V3;rw [<-MU] at BR ⊢;have lee:w.heap.size+9<=bee:=jG hsz BR;replace hbel:=hbel.trans (hB.mono hbel.size);replace hsz:=jG hsz hB.size;clear hB hee MU;have xk:=V3;clear V3 BR LB;go_upto_region 4 with (fail)
    refine aT (n:=72) (by kernel_rfl) (by kernel_rfl) (by kernel_rfl) rfl
     (gJ [(12,10),(13,11)]) (dS [(12,10),(13,11)]) (fun _=> arr .i64 16 (fun _=> 0)) (fun i=> match i with | 10=> (arr .i64 16 (aL (eG (f3) (k3)) (pl))) | 11=> (arr .i64 16 (aL (bW (f3) (k3)) (mi))) | _=> #[]) (fun _=> 191) (fun i=> match i with | 10=> 19 | 11=> 20 | _=> 0)
     (fun ii vv _=> (match ii with | 0 | 5=> vv=.agg (arr .i64 16 (f3)) | 1 | 6=> vv=.agg (arr .i64 16 (k3)) | 2=> vv=.agg (arr .i64 16 (eG (f3) (k3))) | 3=> vv=.agg (arr .i64 16 (pl)) | 4=> vv=.agg (arr .i64 16 (aL (eG (f3) (k3)) (pl))) | 7=> vv=.agg (arr .i64 16 (bW (f3) (k3))) | 8=> vv=.agg (arr .i64 16 (mi)) | 9=> vv=.agg (arr .i64 16 (aL (bW (f3) (k3)) (mi))) | _=> True)) (fun _ _=> True) (fun _ _ _=> trivial) (fun _ _ _ _ _ _ _=> trivial) (fun _ _ _ _ h _=> h)
     (eT rfl) (dA rfl) ?_ ?_ ?_ ?_
    ·refine bQ ?_;refine ⟨?_,?_,?_,?_,?_,?_,?_,?_,?_,?_,(fun h=> by cases h),(fun h=> by cases h),(fun _ h=> by cases h),(fun _ h=> by cases h),trivial⟩
     ·intro _ _ a w2 hB hF hd;exact aJ <| aO (aB rfl bT rfl bE (hF.same 7 rfl) (hC.below hB hC.lt)) rfl
     ·intro _ _ a w2 hB hF hd;exact aJ <| aO (aB rfl bT rfl bE (hF.same 8 rfl) (hD.below hB hD.lt)) rfl
     ·intro _ _ a w2 hB hF hd;refine aJ <| aD _ _ _ rfl Tryz.call244 _ (args2 (hd 0 _ rfl rfl rfl (aj rfl)) (hd 1 _ rfl rfl rfl (aj rfl))) (by simp) ((iU _ _ _ _ H3.out I3.out w2).mono ?_);rintro e w3 ⟨rfl,hb⟩;exact ⟨_,rfl,rfl,hb⟩
     ·intro _ _ a w2 hB hF hd;exact aJ <| aO (aB rfl bT rfl bE (hF.same 14 rfl) (vU.below hB vU.lt)) rfl
     ·intro _ _ a w2 hB hF hd;refine aJ <| aD _ _ _ rfl Tryz.call203 _ (args2 (hd 2 _ rfl rfl rfl (aj rfl)) (hd 3 _ rfl rfl rfl (aj rfl))) (by simp) ((bJ _ _ _ _ ((H3.out).eG I3.out) Hpl.out w2).mono ?_);rintro e w3 ⟨rfl,hb⟩;exact ⟨_,rfl,rfl,hb⟩
     ·intro _ _ a w2 hB hF hd;exact aJ <| aO (aB rfl bT rfl bE (hF.same 7 rfl) (hC.below hB hC.lt)) rfl
     ·intro _ _ a w2 hB hF hd;exact aJ <| aO (aB rfl bT rfl bE (hF.same 8 rfl) (hD.below hB hD.lt)) rfl
     ·intro _ _ a w2 hB hF hd;refine aJ <| aD _ _ _ rfl Tryz.call218 _ (args2 (hd 5 _ rfl rfl rfl (aj rfl)) (hd 6 _ rfl rfl rfl (aj rfl))) (by simp) ((fZ _ _ _ _ H3.out I3.out w2).mono ?_);rintro e w3 ⟨rfl,hb⟩;exact ⟨_,rfl,rfl,hb⟩
     ·intro _ _ a w2 hB hF hd;exact aJ <| aO (aB rfl bT rfl bE (hF.same 15 rfl) (vV.below hB vV.lt)) rfl
     ·intro _ _ a w2 hB hF hd;refine aJ <| aD _ _ _ rfl Tryz.call203 _ (args2 (hd 7 _ rfl rfl rfl (aj rfl)) (hd 8 _ rfl rfl rfl (aj rfl))) (by simp) ((bJ _ _ _ _ ((H3.out).bW I3.out) Hmi.out w2).mono ?_);rintro e w3 ⟨rfl,hb⟩;exact ⟨_,rfl,rfl,hb⟩
    ·refine bQ ?_;refine ⟨(fun h=> by cases h),(fun h=> by cases h),(fun h=> by cases h),(fun h=> by cases h),(fun h=> by cases h),(fun h=> by cases h),(fun h=> by cases h),(fun h=> by cases h),(fun h=> by cases h),(fun h=> by cases h),?_,?_,(fun h=> by cases h),(fun h=> by cases h),trivial⟩
     ·exact fun _=> ⟨rfl,rfl,fun a w2 K h=> aP rfl rfl Tryz.zeroValue191 (by simp) h⟩
     ·exact fun _=> ⟨rfl,rfl,fun a w2 K h=> aP rfl rfl Tryz.zeroValue191 (by simp) h⟩
    ·refine bQ ?_;refine ⟨(fun _ h=> by cases h),(fun _ h=> by cases h),(fun _ h=> by cases h),(fun _ h=> by cases h),(fun _ h=> by cases h),(fun _ h=> by cases h),(fun _ h=> by cases h),(fun _ h=> by cases h),(fun _ h=> by cases h),(fun _ h=> by cases h),(fun _ h=> by cases h),(fun _ h=> by cases h),?_,?_,trivial⟩
     ·intro p hp;obtain rfl:10=p:=fT hp;exact ⟨rfl,rfl,⟨_,rfl⟩,aj rfl,fun a w2 b K hB hF hd hx hb h=> aY rfl rfl bE hx (hd 4 _ rfl rfl rfl (aj rfl)) hb h⟩
     ·intro p hp;obtain rfl:11=p:=fT hp;exact ⟨rfl,rfl,⟨_,rfl⟩,aj rfl,fun a w2 b K hB hF hd hx hb h=> aY rfl rfl bE hx (hd 9 _ rfl rfl rfl (aj rfl)) hb h⟩
    ·intro a w5 blk hB hF hS hv hfin bU;obtain ⟨v10,SS,abr⟩:=hv 10 _ rfl rfl;obtain ⟨v11,zK,SQ⟩:=hv 11 _ rfl rfl;have ha:=aI rfl rfl hF [_,_,_,_,_,_,_,_,_,_,_,_,undef,undef] rfl ⟨hS 0 _ rfl rfl rfl,hS 1 _ rfl rfl rfl,hS 2 _ rfl rfl rfl,hS 3 _ rfl rfl rfl,hS 4 _ rfl rfl rfl,hS 5 _ rfl rfl rfl,hS 6 _ rfl rfl rfl,hS 7 _ rfl rfl rfl,hS 8 _ rfl rfl rfl,hS 9 _ rfl rfl rfl,v10,v11,trivial,trivial,trivial⟩;have f10:=hfin 12 _ 10 rfl rfl;have f11:=hfin 13 _ 11 rfl rfl;have akl:=bU 10 11 _ _ rfl rfl rfl rfl (by decide);simp only [puts,Act.put,dH,dI,dJ] at ha;subst ha;have V10:aH .i64 w5 (blk 10) 16 (aL (eG (f3) (k3)) (pl)):=⟨_,f10⟩
     have RL:aH .i64 w5 (blk 11) 16 (aL (bW (f3) (k3)) (mi)):=⟨_,f11⟩
     clear hS hv hfin bU hF v10 v11 f10 f11;replace hA:=hA.kept hB;replace hB':=hB'.kept hB;replace hC:=hC.kept hB;replace hD:=hD.kept hB;replace hE:=hE.kept hB;replace VG:=VG.kept hB;replace hR2:=hR2.kept hB;replace VF:=VF.kept hB;replace Sl:=Sl.kept hB;replace vU:=vU.kept hB;replace vV:=vV.kept hB;replace kL:=kL.kept hB;replace lZ:=lZ.kept hB;replace xk:=xk.kept hB;obtain ⟨bda,adb⟩:∃x,x=blk 10:=⟨_,rfl⟩
     obtain ⟨da,hda,Hda⟩:∃x,x=aL (eG f3 k3) pl/\Hid (Fe x ((C - D) * (A+B))):=⟨_,rfl,(H3.out.eG I3.out).aL Hpl.out⟩
     rw [<-hda,←adb] at V10;rw [<-adb] at SS ⊢;have lda:w.heap.size+9<=bda:=jG hsz SS;obtain ⟨bcb,adf⟩:∃x,x=blk 11:=⟨_,rfl⟩
     obtain ⟨cb,hcb,Hcb⟩:∃x,x=aL (bW f3 k3) mi/\Hid (Fe x ((C+D) * (A - B))):=⟨_,rfl,(H3.out.bW I3.out).aL Hmi.out⟩
     rw [<-hcb,←adf] at RL;rw [<-adf] at zK ⊢;have lcb:w.heap.size+9<=bcb:=jG hsz zK;replace hbel:=hbel.trans (hB.mono hbel.size);replace hsz:=jG hsz hB.size;clear hB hda adb hcb adf;have QI:=V10;clear V10 SS abr;have QK:=RL;clear RL zK SQ;go_upto_region 5 with (fail)
     refine aT (n:=72) (by kernel_rfl) (by kernel_rfl) (by kernel_rfl) rfl
      (gJ [(8,6),(9,7)]) (dS [(8,6),(9,7)]) (fun _=> arr .i64 16 (fun _=> 0)) (fun i=> match i with | 6=> (arr .i64 16 (bW (da) (cb))) | 7=> (arr .i64 16 (eG (da) (cb))) | _=> #[]) (fun _=> 191) (fun i=> match i with | 6=> 21 | 7=> 22 | _=> 0)
      (fun ii vv _=> (match ii with | 0 | 3=> vv=.agg (arr .i64 16 (da)) | 1 | 4=> vv=.agg (arr .i64 16 (cb)) | 2=> vv=.agg (arr .i64 16 (bW (da) (cb))) | 5=> vv=.agg (arr .i64 16 (eG (da) (cb))) | _=> True)) (fun _ _=> True) (fun _ _ _=> trivial) (fun _ _ _ _ _ _ _=> trivial) (fun _ _ _ _ h _=> h)
      (eT rfl) (dA rfl) ?_ ?_ ?_ ?_
     ·refine bQ ?_;refine ⟨?_,?_,?_,?_,?_,?_,(fun h=> by cases h),(fun h=> by cases h),(fun _ h=> by cases h),(fun _ h=> by cases h),trivial⟩
      ·intro _ _ a w2 hB hF hd;exact aJ <| aO (aB rfl bT rfl bE (hF.same 19 rfl) (QI.below hB QI.lt)) rfl
      ·intro _ _ a w2 hB hF hd;exact aJ <| aO (aB rfl bT rfl bE (hF.same 20 rfl) (QK.below hB QK.lt)) rfl
      ·intro _ _ a w2 hB hF hd;refine aJ <| aD _ _ _ rfl Tryz.call218 _ (args2 (hd 0 _ rfl rfl rfl (aj rfl)) (hd 1 _ rfl rfl rfl (aj rfl))) (by simp) ((fZ _ _ _ _ Hda.out Hcb.out w2).mono ?_);rintro e w3 ⟨rfl,hb⟩;exact ⟨_,rfl,rfl,hb⟩
      ·intro _ _ a w2 hB hF hd;exact aJ <| aO (aB rfl bT rfl bE (hF.same 19 rfl) (QI.below hB QI.lt)) rfl
      ·intro _ _ a w2 hB hF hd;exact aJ <| aO (aB rfl bT rfl bE (hF.same 20 rfl) (QK.below hB QK.lt)) rfl
      ·intro _ _ a w2 hB hF hd;refine aJ <| aD _ _ _ rfl Tryz.call244 _ (args2 (hd 3 _ rfl rfl rfl (aj rfl)) (hd 4 _ rfl rfl rfl (aj rfl))) (by simp) ((iU _ _ _ _ Hda.out Hcb.out w2).mono ?_);rintro e w3 ⟨rfl,hb⟩;exact ⟨_,rfl,rfl,hb⟩
     ·refine bQ ?_;refine ⟨(fun h=> by cases h),(fun h=> by cases h),(fun h=> by cases h),(fun h=> by cases h),(fun h=> by cases h),(fun h=> by cases h),?_,?_,(fun h=> by cases h),(fun h=> by cases h),trivial⟩
      ·exact fun _=> ⟨rfl,rfl,fun a w2 K h=> aP rfl rfl Tryz.zeroValue191 (by simp) h⟩
      ·exact fun _=> ⟨rfl,rfl,fun a w2 K h=> aP rfl rfl Tryz.zeroValue191 (by simp) h⟩
     ·refine bQ ?_;refine ⟨(fun _ h=> by cases h),(fun _ h=> by cases h),(fun _ h=> by cases h),(fun _ h=> by cases h),(fun _ h=> by cases h),(fun _ h=> by cases h),(fun _ h=> by cases h),(fun _ h=> by cases h),?_,?_,trivial⟩
      ·intro p hp;obtain rfl:6=p:=fT hp;exact ⟨rfl,rfl,⟨_,rfl⟩,aj rfl,fun a w2 b K hB hF hd hx hb h=> aY rfl rfl bE hx (hd 2 _ rfl rfl rfl (aj rfl)) hb h⟩
      ·intro p hp;obtain rfl:7=p:=fT hp;exact ⟨rfl,rfl,⟨_,rfl⟩,aj rfl,fun a w2 b K hB hF hd hx hb h=> aY rfl rfl bE hx (hd 5 _ rfl rfl rfl (aj rfl)) hb h⟩
     ·intro a w6 blk hB hF hS hv hfin bU;obtain ⟨v6,NU,v6u⟩:=hv 6 _ rfl rfl;obtain ⟨v7,BQ,Sc⟩:=hv 7 _ rfl rfl;have ha:=aI rfl rfl hF [_,_,_,_,_,_,_,_,undef,undef] rfl ⟨hS 0 _ rfl rfl rfl,hS 1 _ rfl rfl rfl,hS 2 _ rfl rfl rfl,hS 3 _ rfl rfl rfl,hS 4 _ rfl rfl rfl,hS 5 _ rfl rfl rfl,v6,v7,trivial,trivial,trivial⟩;have f6:=hfin 8 _ 6 rfl rfl;have f7:=hfin 9 _ 7 rfl rfl;have Wv:=bU 6 7 _ _ rfl rfl rfl rfl (by decide);simp only [puts,Act.put,dH,dI,dJ] at ha;subst ha;have V6:aH .i64 w6 (blk 6) 16 (bW (da) (cb)):=⟨_,f6⟩
      have V7:aH .i64 w6 (blk 7) 16 (eG (da) (cb)):=⟨_,f7⟩
      clear hS hv hfin bU hF v6 v7 f6 f7;replace hA:=hA.kept hB;replace hB':=hB'.kept hB;replace hC:=hC.kept hB;replace hD:=hD.kept hB;replace hE:=hE.kept hB;replace VG:=VG.kept hB;replace hR2:=hR2.kept hB;replace VF:=VF.kept hB;replace Sl:=Sl.kept hB;replace vU:=vU.kept hB;replace vV:=vV.kept hB;replace kL:=kL.kept hB;replace lZ:=lZ.kept hB;replace xk:=xk.kept hB;replace QI:=QI.kept hB;replace QK:=QK.kept hB;obtain ⟨bsu,acT⟩:∃x,x=blk 6:=⟨_,rfl⟩
      obtain ⟨su,hsu,Hsu⟩:∃x,x=bW da cb/\Hid (Fe x ((C - D) * (A+B)+(C+D) * (A - B))):=⟨_,rfl,Hda.out.bW Hcb.out⟩
      rw [<-hsu,←acT] at V6;rw [<-acT] at NU ⊢;have lsu:w.heap.size+9<=bsu:=jG hsz NU;obtain ⟨bdi,acZ⟩:∃x,x=blk 7:=⟨_,rfl⟩
      obtain ⟨di,hdi,Hdi⟩:∃x,x=eG da cb/\Hid (Fe x ((C - D) * (A+B) - (C+D) * (A - B))):=⟨_,rfl,Hda.out.eG Hcb.out⟩
      rw [<-hdi,←acZ] at V7;rw [<-acZ] at BQ ⊢;have ldi:w.heap.size+9<=bdi:=jG hsz BQ;replace hbel:=hbel.trans (hB.mono hbel.size);replace hsz:=jG hsz hB.size;clear hB hsu acT hdi acZ;have Ze:=V6;clear V6 NU v6u;have Zi:=V7;clear V7 BQ Sc;go_upto_region 6 with (fail)
      refine bV (n:=72) (fun i=> i==18 || i==19 || i==20 || i==21) (by kernel_rfl) (by kernel_rfl) (by kernel_rfl) (by kernel_rfl) rfl
       (fun ii vv _=> (match ii with | 0 | 4=> vv=.agg (arr .i64 16 (aa)) | 1=> vv=.agg (arr .i64 16 (bb)) | 2=> vv=.agg (arr .i64 16 (aL (aa) (bb))) | 3 | 6=> vv=.agg (arr .i64 16 (ee)) | 5=> vv=.agg (arr .i64 16 (AZ)) | 7=> vv=.agg (arr .i64 16 (aL (AZ) (ee))) | 8=> vv=.agg (arr .i64 16 (bW (aa) (aL (AZ) (ee)))) | 9=> vv=.agg (arr .i64 16 (aL (ee) (bW (aa) (aL (AZ) (ee))))) | 10 | 11=> vv=.agg (arr .i64 16 (su)) | 12=> vv=.agg (arr .i64 16 (aL (su) (su))) | 13=> vv=.agg (arr .i64 16 (fu)) | 14 | 15=> vv=.agg (arr .i64 16 (di)) | 16=> vv=.agg (arr .i64 16 (aL (di) (di))) | 17=> vv=.agg (arr .i64 16 (aL (fu) (aL (di) (di)))) | _=> True))
       (fun w w'=> Below w.heap.size w w') (fun _ _ h=> h) (fun _ _ _ _ h _=> h)
       (fun i=> match i with | 18=> (w.heap.size+5) | 19=> (w.heap.size+6) | 20=> (w.heap.size+7) | _=> (w.heap.size+8)) (fun i=> match i with | 18=> (arr .i64 16 (fun _=> 0)) | 19=> (arr .i64 16 (fun _=> 0)) | 20=> (arr .i64 16 (fun _=> 0)) | _=> (arr .i64 16 (fun _=> 0))) (fun i=> match i with | 18=> (arr .i64 16 (aL (aa) (bb))) | 19=> (arr .i64 16 (aL (ee) (bW (aa) (aL (AZ) (ee))))) | 20=> (arr .i64 16 (aL (su) (su))) | _=> (arr .i64 16 (aL (fu) (aL (di) (di)))))
       (by intro i j _ _ hpi iL hne;simp only [jY,beq_iff_eq] at hpi iL;rcases hpi with ((rfl | rfl) | rfl) | rfl<;> rcases iL with ((rfl | rfl) | rfl) | rfl<;> first | exact absurd rfl hne | (simp only [];omega))
       (by intro i _ hpi;simp only [jY,beq_iff_eq] at hpi;rcases hpi with ((rfl | rfl) | rfl) | rfl<;> first | exact (VG).row | exact (hR2).row | exact (VF).row | exact (Sl).row)
       ?_ ?_ ?_
      ·refine bQ ?_;refine ⟨?_,?_,?_,?_,?_,?_,?_,?_,?_,?_,?_,?_,?_,?_,?_,?_,?_,?_,(aK),(aK),(aK),(aK),trivial⟩
       ·intro _ a w2 hB hF hd;exact aJ <| aO (aB rfl bT rfl bE (hF.same 16 rfl) (kL.below hB kL.lt)) rfl
       ·intro _ a w2 hB hF hd;exact aJ <| aO (aB rfl bT rfl bE (hF.same 17 rfl) (lZ.below hB lZ.lt)) rfl
       ·intro _ a w2 hB hF hd;refine aJ <| aD _ _ _ rfl Tryz.call203 _ (args2 (hd 0 _ rfl rfl (aj rfl)) (hd 1 _ rfl rfl (aj rfl))) (by simp) ((bJ _ _ _ _ Sn.out ZP.out w2).mono ?_);rintro e w3 ⟨rfl,hb⟩;exact ⟨_,rfl,rfl,hb⟩
       ·intro _ a w2 hB hF hd;exact aJ <| aO (aB rfl bT rfl bE (hF.same 18 rfl) (xk.below hB xk.lt)) rfl
       ·intro _ a w2 hB hF hd;exact aJ <| aO (aB rfl bT rfl bE (hF.same 16 rfl) (kL.below hB kL.lt)) rfl
       ·intro _ a w2 hB hF hd;refine aJ <| aD _ _ _ rfl Tryz.call245 _ pz (by simp) ((Gc w2).mono ?_);rintro e w3 ⟨rfl,hb⟩;exact ⟨_,rfl,rfl,hb⟩
       ·intro _ a w2 hB hF hd;exact aJ <| aO (aB rfl bT rfl bE (hF.same 18 rfl) (xk.below hB xk.lt)) rfl
       ·intro _ a w2 hB hF hd;refine aJ <| aD _ _ _ rfl Tryz.call203 _ (args2 (hd 5 _ rfl rfl (aj rfl)) (hd 6 _ rfl rfl (aj rfl))) (by simp) ((bJ _ _ _ _ Gv ZO.out w2).mono ?_);rintro e w3 ⟨rfl,hb⟩;exact ⟨_,rfl,rfl,hb⟩
       ·intro _ a w2 hB hF hd;refine aJ <| aD _ _ _ rfl Tryz.call218 _ (args2 (hd 4 _ rfl rfl (aj rfl)) (hd 7 _ rfl rfl (aj rfl))) (by simp) ((fZ _ _ _ _ Sn.out ((Gv).aL ZO.out) w2).mono ?_);rintro e w3 ⟨rfl,hb⟩;exact ⟨_,rfl,rfl,hb⟩
       ·intro _ a w2 hB hF hd;refine aJ <| aD _ _ _ rfl Tryz.call203 _ (args2 (hd 3 _ rfl rfl (aj rfl)) (hd 8 _ rfl rfl (aj rfl))) (by simp) ((bJ _ _ _ _ ZO.out ((Sn.out).bW ((Gv).aL ZO.out)) w2).mono ?_);rintro e w3 ⟨rfl,hb⟩;exact ⟨_,rfl,rfl,hb⟩
       ·intro _ a w2 hB hF hd;exact aJ <| aO (aB rfl bT rfl bE (hF.same 21 rfl) (Ze.below hB Ze.lt)) rfl
       ·intro _ a w2 hB hF hd;exact aJ <| aO (aB rfl bT rfl bE (hF.same 21 rfl) (Ze.below hB Ze.lt)) rfl
       ·intro _ a w2 hB hF hd;refine aJ <| aD _ _ _ rfl Tryz.call203 _ (args2 (hd 10 _ rfl rfl (aj rfl)) (hd 11 _ rfl rfl (aj rfl))) (by simp) ((bJ _ _ _ _ Hsu.out Hsu.out w2).mono ?_);rintro e w3 ⟨rfl,hb⟩;exact ⟨_,rfl,rfl,hb⟩
       ·intro _ a w2 hB hF hd;exact aJ <| aO (aB rfl bT rfl bE (hF.same 9 rfl) (hE.below hB hE.lt)) rfl
       ·intro _ a w2 hB hF hd;exact aJ <| aO (aB rfl bT rfl bE (hF.same 22 rfl) (Zi.below hB Zi.lt)) rfl
       ·intro _ a w2 hB hF hd;exact aJ <| aO (aB rfl bT rfl bE (hF.same 22 rfl) (Zi.below hB Zi.lt)) rfl
       ·intro _ a w2 hB hF hd;refine aJ <| aD _ _ _ rfl Tryz.call203 _ (args2 (hd 14 _ rfl rfl (aj rfl)) (hd 15 _ rfl rfl (aj rfl))) (by simp) ((bJ _ _ _ _ Hdi.out Hdi.out w2).mono ?_);rintro e w3 ⟨rfl,hb⟩;exact ⟨_,rfl,rfl,hb⟩
       ·intro _ a w2 hB hF hd;refine aJ <| aD _ _ _ rfl Tryz.call203 _ (args2 (hd 13 _ rfl rfl (aj rfl)) (hd 16 _ rfl rfl (aj rfl))) (by simp) ((bJ _ _ _ _ HU.out ((Hdi.out).aL Hdi.out) w2).mono ?_);rintro e w3 ⟨rfl,hb⟩;exact ⟨_,rfl,rfl,hb⟩
      ·refine bQ ?_;refine ⟨(aK),(aK),(aK),(aK),(aK),(aK),(aK),(aK),(aK),(aK),(aK),(aK),(aK),(aK),(aK),(aK),(aK),(aK),?_,?_,?_,?_,trivial⟩
       ·intro _ a w1 w2 K hB hF hS hr hK;exact aW 191 _ _ rfl .i64 ((w.heap.size+5)) 16 (fun _=> 0) (aL (aa) (bb)) bE (hF.same 10 rfl) (hS 2 _ rfl rfl) hr hK
       ·intro _ a w1 w2 K hB hF hS hr hK;exact aW 191 _ _ rfl .i64 ((w.heap.size+6)) 16 (fun _=> 0) (aL (ee) (bW (aa) (aL (AZ) (ee)))) bE (hF.same 11 rfl) (hS 9 _ rfl rfl) hr hK
       ·intro _ a w1 w2 K hB hF hS hr hK;exact aW 191 _ _ rfl .i64 ((w.heap.size+7)) 16 (fun _=> 0) (aL (su) (su)) bE (hF.same 12 rfl) (hS 12 _ rfl rfl) hr hK
       ·intro _ a w1 w2 K hB hF hS hr hK;exact aW 191 _ _ rfl .i64 ((w.heap.size+8)) 16 (fun _=> 0) (aL (fu) (aL (di) (di))) bE (hF.same 13 rfl) (hS 17 _ rfl rfl) hr hK
      ·intro a wf w7 hB hF hS hfil;have other:∀{k:IntKind} {qb n:Nat} {f:Nat->Int},qb≠(w.heap.size+5)->qb≠(w.heap.size+6)->qb≠(w.heap.size+7)->qb≠(w.heap.size+8)->aH k wf qb n f->aH k w7 qb n f:=fun {k qb n f} e0 e1 e2 e3 hA=> hfil.arr (by intro i _ hpi;simp only [jY,beq_iff_eq] at hpi;rcases hpi with ((rfl | rfl) | rfl) | rfl<;> ((try simp only []);(try dsimp only);omega)) hA;have dx:∀{B:Nat} {w0:World},B<=(w.heap.size+5)->B<=(w.heap.size+6)->B<=(w.heap.size+7)->B<=(w.heap.size+8)->Below B w0 wf->Below B w0 w7:=fun {B w0} e0 e1 e2 e3 hA=> hfil.below (by intro i _ hpi;simp only [jY,beq_iff_eq] at hpi;rcases hpi with ((rfl | rfl) | rfl) | rfl<;> ((try simp only []);(try dsimp only);omega)) hA;have V18:aH .i64 w7 ((w.heap.size+5)) 16 (aL (aa) (bb)):=hfil.at 18 (by decide) rfl;have V19:aH .i64 w7 ((w.heap.size+6)) 16 (aL (ee) (bW (aa) (aL (AZ) (ee)))):=hfil.at 19 (by decide) rfl;have V20:aH .i64 w7 ((w.heap.size+7)) 16 (aL (su) (su)):=hfil.at 20 (by decide) rfl;have V21:aH .i64 w7 ((w.heap.size+8)) 16 (aL (fu) (aL (di) (di))):=hfil.at 21 (by decide) rfl;have oL:=hfil.size;clear hfil;have ha:=aI rfl rfl hF [_,_,_,_,_,_,_,_,_,_,_,_,_,_,_,_,_,_,undef,undef,undef,undef] rfl ⟨hS 0 _ rfl rfl,hS 1 _ rfl rfl,hS 2 _ rfl rfl,hS 3 _ rfl rfl,hS 4 _ rfl rfl,hS 5 _ rfl rfl,hS 6 _ rfl rfl,hS 7 _ rfl rfl,hS 8 _ rfl rfl,hS 9 _ rfl rfl,hS 10 _ rfl rfl,hS 11 _ rfl rfl,hS 12 _ rfl rfl,hS 13 _ rfl rfl,hS 14 _ rfl rfl,hS 15 _ rfl rfl,hS 16 _ rfl rfl,hS 17 _ rfl rfl,trivial,trivial,trivial,trivial,trivial⟩;simp only [puts,Act.put,dH,dI,dJ] at ha;subst ha;clear hS hF;have hb:=dx (by omega) (by omega) (by omega) (by omega) (hbel.trans (hB.mono hbel.size));go_wp2;exact bodyPost_ret (Fy rfl _ _ .i64 16 bT rfl bE (w.heap.size+5) (w.heap.size+6) (w.heap.size+7) (w.heap.size+8) _ _ _ _ rfl V18 rfl V19 rfl V20 rfl V21) rfl ⟨_,_,_,_,rfl,⟨Sn.out.aL ZP.out,ZO.out.aL (Sn.out.bW (Gv.aL ZO.out)),Hsu.out.aL Hsu.out,HU.out.aL (Hdi.out.aL Hdi.out)⟩,hb⟩
end Go.Proofs.YtpcjekgfnfjbpaaGreat
namespace Go.Proofs.YtpcjekgfnfjbpaaGreat
open Go.RowKit Go.bI Go.ChangeShapes
theorem jv (p:Bool) (f g:Nat->Int) (X Y:Int) (hf:Fe f X) (hg:Fe g Y) (w:World):
  Calls Tryz.prog 201 #[El f,El g,.bool p] w fun e w'=> e=.returned (.tuple #[El (aV p f g),El (aV p g f)])/\Below w.heap.size w w':=by
 cases p
 ·exact QW f g X Y hf hg w
 ·exact Nh f g X Y hf hg w
end Go.Proofs.YtpcjekgfnfjbpaaGreat
namespace Go.Proofs.YtpcjekgfnfjbpaaGreat
open Go.RowKit Go.bI Go.ChangeShapes
attribute [local go_sem ↓] Go.wp_at_zero Go.wp_at_succ
theorem rD (f g:Nat->Int) (X Y:Int) (hf:Fe f X) (hg:Fe g Y) (h:X % Pr=Y % Pr) (w:World):
  Calls Tryz.prog 210 #[El f,El g] w fun e w'=> e=.returned (.bool true)/\Below w.heap.size w w':=by
 have:=rE f g X Y hf hg w
 rwa [show XE X Y=true from decide_eq_true h] at this
theorem qc (f g:Nat->Int) (X Y:Int) (hf:Fe f X) (hg:Fe g Y) (h:¬ X % Pr=Y % Pr) (w:World):
  Calls Tryz.prog 210 #[El f,El g] w fun e w'=> e=.returned (.bool false)/\Below w.heap.size w w':=by
 have:=rE f g X Y hf hg w
 rwa [show XE X Y=false from decide_eq_false h] at this
end Go.Proofs.YtpcjekgfnfjbpaaGreat
namespace Go.Proofs.YtpcjekgfnfjbpaaGreat
open Go.RowKit Go.bI
attribute [local go_sem ↓] Go.wp_at_zero Go.wp_at_succ
theorem adx:((2 ^ 255 - 16) / 2 ^ 3:Int)=(((PN+3) / 8:Nat):Int):=by decide
theorem ady:((2 ^ 255 - 20) / 2 ^ 2:Int)=(((PN - 1) / 4:Nat):Int):=by decide
theorem oP:(0:Int)<=(((PN+3) / 8:Nat):Int)/\(((PN+3) / 8:Nat):Int)<2 ^ 256:=by decide
theorem oQ:(0:Int)<=(((PN - 1) / 4:Nat):Int)/\(((PN - 1) / 4:Nat):Int)<2 ^ 256:=by decide
theorem Ec (w:World):Calls Tryz.prog 248 #[.int .u8 16,.int .u64 3] w fun e w'=> e=.returned (.agg (arr .u8 32 (dg 256 (((PN+3) / 8:Nat):Int))))/\Below w.heap.size w w':=by
 have h:=pY 16 3 (by decide) (by decide) (by decide) w;rw [adx] at h;exact h
theorem Ee (w:World):Calls Tryz.prog 248 #[.int .u8 20,.int .u64 2] w fun e w'=> e=.returned (.agg (arr .u8 32 (dg 256 (((PN - 1) / 4:Nat):Int))))/\Below w.heap.size w w':=by
 have h:=pY 20 2 (by decide) (by decide) (by decide) w;rw [ady] at h;exact h
def IX (f:Nat->Int):Nat->Int:=FK f (((PN+3) / 8:Nat):Int)
def qF:Nat->Int:=FK (aN 2) (((PN - 1) / 4:Nat):Int)
theorem Ev {f:Nat->Int} {X:Int} (hf:Fe f X):Fe (IX f) (iK X):=by
 unfold iK;have h:=hf.FK oP.1 oP.2
 rwa [EM] at h
theorem Ng:Fe (aN 2) 2:=by have h:=mG 2;rwa [show qM 2=2 by decide] at h
theorem Ew:Fe qF qI:=by
 unfold qI;have h:=Ng.FK oQ.1 oQ.2
 rwa [EM] at h
theorem xB (f:Nat->Int) (X:Int) (hf:Fe f X) (h:X % Pr % 2=1) (w:World):Calls Tryz.prog 222 #[El f] w fun e w'=> e=.returned (.bool true)/\Below w.heap.size w w':=by
 have h2:=Ey f X hf w
 rwa [h] at h2
theorem AY (f:Nat->Int) (X:Int) (hf:Fe f X) (h:X % Pr % 2=0) (w:World):Calls Tryz.prog 222 #[El f] w fun e w'=> e=.returned (.bool false)/\Below w.heap.size w w':=by
 have h2:=Ey f X hf w
 rwa [h] at h2
theorem UE {R X:Int} (h:R * R % Pr=X % Pr): -R * -R % Pr=X % Pr:=by rw [show -R * -R=R * R by grind];exact h
theorem QX (f:Nat->Int) (X:Int) (hf:Fe f X) (QL:mY X=false) (w:World):
  Calls Tryz.prog 252 #[El f] w fun e w'=> e=.returned (.tuple #[El (fun _=> 0),.bool false])/\Below w.heap.size w w':=by
 have HF:=ak hf;have HSQ:=ak QL;clear hf QL;unfold El
 go_enter Tryz.func252,Tryz.ntmps252
 go_upto_region 1 with (fail)
 refine aG (fun w1=> aH .i64 w1 w.heap.size 16 f/\aH .i64 w1 (w.heap.size+1) 16 (fun _=> 0)/\Below w.heap.size w w1)
  ⟨aH.alloc (bG (by first | omega | (simp<;> omega)) (by rfl)) _,bG (by first | omega | (simp<;> omega)) (by rfl),((bM _ _).alloc (bB _) _).alloc (by simp) _⟩ ?_
 rintro w1 ⟨hA,hZ,hbel⟩
 refine aT (n:=31) (by kernel_rfl) (by kernel_rfl) (by kernel_rfl) rfl
  (gJ [(4,3)]) (dS [(4,3)]) (fun _=> arr .i64 16 (fun _=> 0)) (fun _=> (arr .i64 16 (IX f))) (fun _=> 191) (fun _=> 4)
  (fun ii vv _=> (match ii with | 0=> vv=.agg (arr .i64 16 (f)) | 1=> vv=.agg (arr .u8 32 (dg 256 (((PN+3) / 8:Nat):Int))) | 2=> vv=.agg (arr .i64 16 (IX f)) | _=> True)) (fun _ _=> True) (fun _ _ _=> trivial) (fun _ _ _ _ _ _ _=> trivial) (fun _ _ _ _ h _=> h)
  (eT rfl) (dA rfl) ?_ ?_ ?_ ?_
 ·refine bQ ?_;refine ⟨?_,?_,?_,(fun h=> by cases h),(fun _ h=> by cases h),trivial⟩
  ·intro _ _ a w2 hB hF hd;exact aJ <| aO (aB rfl bT rfl bE (hF.same 1 rfl) (hA.below hB hA.lt)) rfl
  ·intro _ _ a w2 hB hF hd;refine aJ <| aD _ _ _ rfl Tryz.call248 _ (args2 rfl rfl) (by simp) ((Ec w2).mono ?_);rintro e w3 ⟨rfl,hb⟩;exact ⟨_,rfl,rfl,hb⟩
  ·intro _ _ a w2 hB hF hd;refine aJ <| aD _ _ _ rfl Tryz.call247 _ (args2 (hd 0 _ rfl rfl rfl (aj rfl)) (hd 1 _ rfl rfl rfl (aj rfl))) (by simp) ((lK f X (((PN+3) / 8:Nat):Int) HF.out oP.1 oP.2 w2).mono ?_);rintro e w3 ⟨rfl,hb⟩;exact ⟨_,rfl,rfl,hb⟩
 ·refine bQ ?_;refine ⟨(fun h=> by cases h),(fun h=> by cases h),(fun h=> by cases h),?_,(fun h=> by cases h),trivial⟩
  ·exact fun _=> ⟨rfl,rfl,fun a w2 K h=> aP rfl rfl Tryz.zeroValue191 (by simp) h⟩
 ·refine bQ ?_;refine ⟨(fun _ h=> by cases h),(fun _ h=> by cases h),(fun _ h=> by cases h),(fun _ h=> by cases h),?_,trivial⟩
  ·intro p hp;obtain rfl:3=p:=fT hp;exact ⟨rfl,rfl,⟨_,rfl⟩,aj rfl,fun a w2 b K hB hF hd hx hb h=> aY rfl rfl bE hx (hd 2 _ rfl rfl rfl (aj rfl)) hb h⟩
 ·intro a w3 blk hB hF hS hv hfin bU;obtain ⟨v3,BR,LB⟩:=hv 3 _ rfl rfl;have ha:=aI rfl rfl hF [_,_,_,_,undef] rfl ⟨hS 0 _ rfl rfl rfl,hS 1 _ rfl rfl rfl,hS 2 _ rfl rfl rfl,v3,trivial,trivial⟩;have f3:=hfin 4 _ 3 rfl rfl;simp only [puts,Act.put,dH,dI,dJ] at ha;subst ha;have V3:aH .i64 w3 (blk 3) 16 (IX f):=⟨_,f3⟩
  clear hS hv hfin bU hF v3 f3;have hA1:=hA.below hB hA.lt;have hZ1:=hZ.below hB hZ.lt;have hb1:=hbel.trans (hB.mono hbel.size);have lb:=hbel.size;have lz:=hZ.lt;have HR:=ak (Ev HF.out);obtain ⟨b,hb⟩:∃b,b=blk 3:=⟨_,rfl⟩
  obtain ⟨g,hg⟩:∃g,g=IX f:=⟨_,rfl⟩
  rw [<-hb] at V3 BR ⊢;rw [<-hg] at HR V3 ⊢;have hr:=V3;have hbw:w.heap.size+2<=b:=by omega
  clear hb hg V3 BR LB hA hZ hbel hB lb lz;have HQ:=ak (Fw HSQ.out (iK X));have ZT:=ak (Fw HSQ.out (iK X * qI));go_upto_region 2 with (fail)
  refine aR (n:=31) (by kernel_rfl) (by kernel_rfl) (by kernel_rfl) rfl
   (fun ii vv _=> (match ii with | 0 | 1=> vv=.agg (arr .i64 16 (g)) | 2=> vv=.agg (arr .i64 16 (aL (g) (g))) | 3=> vv=.agg (arr .i64 16 (f)) | 4=> vv=.bool false | 5=> vv=.bool true | _=> True))
   (fun w w'=> Below w.heap.size w w') (fun _ _ h=> h) (fun _ _ _ _ h _=> h) ?_ ?_
  ·refine bQ ?_;refine ⟨?_,?_,?_,?_,?_,?_,trivial⟩
   ·intro a w2 hB hF hd;exact aJ <| aO (aB rfl bT rfl bE (hF.same 4 rfl) (hr.below hB hr.lt)) rfl
   ·intro a w2 hB hF hd;exact aJ <| aO (aB rfl bT rfl bE (hF.same 4 rfl) (hr.below hB hr.lt)) rfl
   ·intro a w2 hB hF hd;refine aJ <| aD _ _ _ rfl Tryz.call203 _ (args2 (hd 0 _ rfl (aj rfl)) (hd 1 _ rfl (aj rfl))) (by simp) ((bJ (g) (g) (iK X) (iK X) HR.out HR.out w2).mono ?_);rintro e w3 ⟨rfl,hb⟩;exact ⟨_,rfl,rfl,hb⟩
   ·intro a w2 hB hF hd;exact aJ <| aO (aB rfl bT rfl bE (hF.same 1 rfl) (hA1.below hB hA1.lt)) rfl
   ·intro a w2 hB hF hd;refine aJ <| aD _ _ _ rfl Tryz.call210 _ (args2 (hd 2 _ rfl (aj rfl)) (hd 3 _ rfl (aj rfl))) (by simp) ((qc (aL (g) (g)) (f) ((iK X) * (iK X)) X (HR.out.aL HR.out) HF.out HQ.out w2).mono ?_);rintro e w3 ⟨rfl,hb⟩;exact ⟨_,rfl,rfl,hb⟩
   ·intro a w2 hB hF hd;exact aJ <| aO (jP rfl (hd 4 _ rfl (aj rfl))) rfl
  ·intro a w4 hB hF hS;have ha:=aI rfl rfl hF [_,_,_,_,_,_] rfl ⟨hS 0 _ rfl,hS 1 _ rfl,hS 2 _ rfl,hS 3 _ rfl,hS 4 _ rfl,hS 5 _ rfl,trivial⟩;simp only [puts,Act.put,dH,dI,dJ] at ha;subst ha;clear hS hF;have hA2:=hA1.below hB hA1.lt;have hZ2:=hZ1.below hB hZ1.lt;have hb2:=hb1.trans (hB.mono hb1.size);have hr':=hr.below hB hr.lt;clear hr;have hr:=hr';clear hr' hA1 hZ1 hb1 hB;go_upto_region 3 with (fail)
   refine bV (n:=31) (fun i=> i==5) (by kernel_rfl) (by kernel_rfl) (by kernel_rfl) (by kernel_rfl) rfl
    (fun ii vv _=> (match ii with | 0=> vv=.agg (arr .i64 16 (g)) | 1=> vv=.agg (arr .i64 16 (aN 2)) | 2=> vv=.agg (arr .u8 32 (dg 256 (((PN - 1) / 4:Nat):Int))) | 3=> vv=.agg (arr .i64 16 (qF)) | 4=> vv=.agg (arr .i64 16 (aL (g) (qF))) | _=> True))
    (fun w w'=> Below w.heap.size w w') (fun _ _ h=> h) (fun _ _ _ _ h _=> h)
    (fun _=> b) (fun _=> (arr .i64 16 (g))) (fun _=> (arr .i64 16 (aL (g) (qF))))
    (by intro i j _ _ hpi iL hne;simp only [beq_iff_eq] at hpi iL;omega)
    (by intro i _ hpi;exact (hr).row)
    ?_ ?_ ?_
   ·refine bQ ?_;refine ⟨?_,?_,?_,?_,?_,(aK),trivial⟩
    ·intro _ a w2 hB hF hd;exact aJ <| aO (aB rfl bT rfl bE (hF.same 4 rfl) (hr.below hB hr.lt)) rfl
    ·intro _ a w2 hB hF hd;refine aJ <| aD _ _ _ rfl Tryz.call200 _ (args1 rfl) (by simp) ((dR 2 w2).mono ?_);rintro e w3 ⟨rfl,hb⟩;exact ⟨_,rfl,rfl,hb⟩
    ·intro _ a w2 hB hF hd;refine aJ <| aD _ _ _ rfl Tryz.call248 _ (args2 rfl rfl) (by simp) ((Ee w2).mono ?_);rintro e w3 ⟨rfl,hb⟩;exact ⟨_,rfl,rfl,hb⟩
    ·intro _ a w2 hB hF hd;refine aJ <| aD _ _ _ rfl Tryz.call247 _ (args2 (hd 1 _ rfl rfl (aj rfl)) (hd 2 _ rfl rfl (aj rfl))) (by simp) ((lK (aN 2) 2 (((PN - 1) / 4:Nat):Int) Ng oQ.1 oQ.2 w2).mono ?_);rintro e w3 ⟨rfl,hb⟩;exact ⟨_,rfl,rfl,hb⟩
    ·intro _ a w2 hB hF hd;refine aJ <| aD _ _ _ rfl Tryz.call203 _ (args2 (hd 0 _ rfl rfl (aj rfl)) (hd 3 _ rfl rfl (aj rfl))) (by simp) ((bJ (g) (qF) (iK X) qI HR.out Ew w2).mono ?_);rintro e w3 ⟨rfl,hb⟩;exact ⟨_,rfl,rfl,hb⟩
   ·refine bQ ?_;refine ⟨(aK),(aK),(aK),(aK),(aK),?_,trivial⟩
    ·intro _ a w1 w2 K hB hF hS hr hK;exact aW 191 _ _ rfl .i64 (b) 16 (g) (aL (g) (qF)) bE (hF.same 4 rfl) (hS 4 _ rfl rfl) hr hK
   ·intro a wf w6 hB hF hS hfil;have other:∀{k:IntKind} {qb n:Nat} {f:Nat->Int},qb≠b->aH k wf qb n f->aH k w6 qb n f:=fun {k qb n f} e0 hA=> hfil.arr (by intro i _ hpi;simp only [jY,beq_iff_eq] at hpi;subst hpi<;> ((try simp only []);(try dsimp only);omega)) hA;have dx:∀{B:Nat} {w0:World},B<=b->Below B w0 wf->Below B w0 w6:=fun {B w0} e0 hA=> hfil.below (by intro i _ hpi;simp only [jY,beq_iff_eq] at hpi;subst hpi<;> ((try simp only []);(try dsimp only);omega)) hA;have V5:aH .i64 w6 (b) 16 (aL (g) (qF)):=hfil.at 5 (by decide) rfl;have oL:=hfil.size;clear hfil;have ha:=aI rfl rfl hF [_,_,_,_,_,undef] rfl ⟨hS 0 _ rfl rfl,hS 1 _ rfl rfl,hS 2 _ rfl rfl,hS 3 _ rfl rfl,hS 4 _ rfl rfl,trivial,trivial⟩;simp only [puts,Act.put,dH,dI,dJ] at ha;subst ha;clear hS hF;have hA3:=other (by omega) (hA2.below hB hA2.lt);have hZ3:=other (by omega) (hZ2.below hB hZ2.lt);have hb3:=dx (by omega) (hb2.trans (hB.mono hb2.size));have hr2:=V5;clear hr;have hr:=hr2;clear hr2 V5 hA2 hZ2 hb2 hB other dx;have HR2:=ak (HR.out.aL Ew);go_upto_region 4 with (fail)
    refine aR (n:=31) (by kernel_rfl) (by kernel_rfl) (by kernel_rfl) rfl
     (fun ii vv _=> (match ii with | 0 | 1=> vv=.agg (arr .i64 16 (aL g qF)) | 2=> vv=.agg (arr .i64 16 (aL (aL g qF) (aL g qF))) | 3=> vv=.agg (arr .i64 16 (f)) | 4=> vv=.bool false | 5=> vv=.bool true | _=> True))
     (fun w w'=> Below w.heap.size w w') (fun _ _ h=> h) (fun _ _ _ _ h _=> h) ?_ ?_
    ·refine bQ ?_;refine ⟨?_,?_,?_,?_,?_,?_,trivial⟩
     ·intro a w2 hB hF hd;exact aJ <| aO (aB rfl bT rfl bE (hF.same 4 rfl) (hr.below hB hr.lt)) rfl
     ·intro a w2 hB hF hd;exact aJ <| aO (aB rfl bT rfl bE (hF.same 4 rfl) (hr.below hB hr.lt)) rfl
     ·intro a w2 hB hF hd;refine aJ <| aD _ _ _ rfl Tryz.call203 _ (args2 (hd 0 _ rfl (aj rfl)) (hd 1 _ rfl (aj rfl))) (by simp) ((bJ (aL g qF) (aL g qF) (iK X * qI) (iK X * qI) HR2.out HR2.out w2).mono ?_);rintro e w3 ⟨rfl,hb⟩;exact ⟨_,rfl,rfl,hb⟩
     ·intro a w2 hB hF hd;exact aJ <| aO (aB rfl bT rfl bE (hF.same 1 rfl) (hA3.below hB hA3.lt)) rfl
     ·intro a w2 hB hF hd;refine aJ <| aD _ _ _ rfl Tryz.call210 _ (args2 (hd 2 _ rfl (aj rfl)) (hd 3 _ rfl (aj rfl))) (by simp) ((qc (aL (aL g qF) (aL g qF)) (f) ((iK X * qI) * (iK X * qI)) X (HR2.out.aL HR2.out) HF.out ZT.out w2).mono ?_);rintro e w3 ⟨rfl,hb⟩;exact ⟨_,rfl,rfl,hb⟩
     ·intro a w2 hB hF hd;exact aJ <| aO (jP rfl (hd 4 _ rfl (aj rfl))) rfl
    ·intro a w6 hB hF hS;have ha:=aI rfl rfl hF [_,_,_,_,_,_] rfl ⟨hS 0 _ rfl,hS 1 _ rfl,hS 2 _ rfl,hS 3 _ rfl,hS 4 _ rfl,hS 5 _ rfl,trivial⟩;simp only [puts,Act.put,dH,dI,dJ] at ha;subst ha;clear hS hF;have wJ:=hA3.below hB hA3.lt;have ny:=hZ3.below hB hZ3.lt;have hb4:=hb3.trans (hB.mono hb3.size);have hr':=hr.below hB hr.lt;clear hr;have hr:=hr';clear hr' hA3 hZ3 hb3 hB
     go_wp2_with (first
      | (refine dV rfl (dL rfl (KP _)) ?_)
      | (refine aF rfl 191 _ _ rfl .i64 (w.heap.size+1) 16 (fun _=> 0) _ bE rfl rfl ny ?_))
     exact bodyPost_ret (dM rfl _ _ .i64 (w.heap.size+1) 16 _ rfl (ny.setRow _ _) bT rfl bE) rfl ⟨rfl,aA hb4 (by omega) _⟩
def oD (f:Nat->Int) (X:Int):Nat->Int:=
 if iK X * iK X % Pr=X % Pr then (if iK X % Pr % 2=0 then IX f else iy (IX f)) else (if (iK X * qI) % Pr % 2=0 then aL (IX f) qF else iy (aL (IX f) qF))
theorem Ol {f:Nat->Int} {X:Int} (h:iK X * iK X % Pr=X % Pr) (h':iK X % Pr % 2=0):oD f X=IX f:=by unfold oD;rw [if_pos h,if_pos h']
theorem Oj {f:Nat->Int} {X:Int} (h:iK X * iK X % Pr=X % Pr) (h':iK X % Pr % 2=1):oD f X=iy (IX f):=by unfold oD;rw [if_pos h,if_neg (by omega)]
theorem Oi {f:Nat->Int} {X:Int} (h:¬ iK X * iK X % Pr=X % Pr) (h':(iK X * qI) % Pr % 2=0):oD f X=aL (IX f) qF:=by unfold oD;rw [if_neg h,if_pos h']
theorem Oh {f:Nat->Int} {X:Int} (h:¬ iK X * iK X % Pr=X % Pr) (h':(iK X * qI) % Pr % 2=1):oD f X=iy (aL (IX f) qF):=by unfold oD;rw [if_neg h,if_neg (by omega)]
theorem IY {f:Nat->Int} {X:Int} (hf:Fe f X) (QL:mY X=true):∃R,Fe (oD f X) R/\R * R % Pr=X % Pr/\R % Pr % 2=0:=by
 by_cases hq:iK X * iK X % Pr=X % Pr
 ·rcases (by omega:iK X % Pr % 2=0\/iK X % Pr % 2=1) with ho | ho
  ·rw [Ol hq ho];exact ⟨_,Ev hf,hq,ho⟩
  ·rw [Oj hq ho];exact ⟨_,(Ev hf).iy,UE hq,JE ho⟩
 ·have hq2:=(Af QL).resolve_left hq;rcases (by omega:(iK X * qI) % Pr % 2=0\/(iK X * qI) % Pr % 2=1) with ho | ho
  ·rw [Oi hq ho];exact ⟨_,(Ev hf).aL Ew,hq2,ho⟩
  ·rw [Oh hq ho];exact ⟨_,((Ev hf).aL Ew).iy,UE hq2,JE ho⟩
theorem Ni (f:Nat->Int) (X:Int) (hf:Fe f X) (QL:mY X=true) (w:World):
  Calls Tryz.prog 252 #[El f] w fun e w'=> e=.returned (.tuple #[El (oD f X),.bool true])/\Below w.heap.size w w':=by
 have HF:=ak hf;have HSQ:=ak QL;clear hf QL;unfold El
 go_enter Tryz.func252,Tryz.ntmps252
 go_upto_region 1 with (fail)
 refine aG (fun w1=> aH .i64 w1 w.heap.size 16 f/\aH .i64 w1 (w.heap.size+1) 16 (fun _=> 0)/\Below w.heap.size w w1)
  ⟨aH.alloc (bG (by first | omega | (simp<;> omega)) (by rfl)) _,bG (by first | omega | (simp<;> omega)) (by rfl),((bM _ _).alloc (bB _) _).alloc (by simp) _⟩ ?_
 rintro w1 ⟨hA,hZ,hbel⟩
 refine aT (n:=31) (by kernel_rfl) (by kernel_rfl) (by kernel_rfl) rfl
  (gJ [(4,3)]) (dS [(4,3)]) (fun _=> arr .i64 16 (fun _=> 0)) (fun _=> (arr .i64 16 (IX f))) (fun _=> 191) (fun _=> 4)
  (fun ii vv _=> (match ii with | 0=> vv=.agg (arr .i64 16 (f)) | 1=> vv=.agg (arr .u8 32 (dg 256 (((PN+3) / 8:Nat):Int))) | 2=> vv=.agg (arr .i64 16 (IX f)) | _=> True)) (fun _ _=> True) (fun _ _ _=> trivial) (fun _ _ _ _ _ _ _=> trivial) (fun _ _ _ _ h _=> h)
  (eT rfl) (dA rfl) ?_ ?_ ?_ ?_
 ·refine bQ ?_;refine ⟨?_,?_,?_,(fun h=> by cases h),(fun _ h=> by cases h),trivial⟩
  ·intro _ _ a w2 hB hF hd;exact aJ <| aO (aB rfl bT rfl bE (hF.same 1 rfl) (hA.below hB hA.lt)) rfl
  ·intro _ _ a w2 hB hF hd;refine aJ <| aD _ _ _ rfl Tryz.call248 _ (args2 rfl rfl) (by simp) ((Ec w2).mono ?_);rintro e w3 ⟨rfl,hb⟩;exact ⟨_,rfl,rfl,hb⟩
  ·intro _ _ a w2 hB hF hd;refine aJ <| aD _ _ _ rfl Tryz.call247 _ (args2 (hd 0 _ rfl rfl rfl (aj rfl)) (hd 1 _ rfl rfl rfl (aj rfl))) (by simp) ((lK f X (((PN+3) / 8:Nat):Int) HF.out oP.1 oP.2 w2).mono ?_);rintro e w3 ⟨rfl,hb⟩;exact ⟨_,rfl,rfl,hb⟩
 ·refine bQ ?_;refine ⟨(fun h=> by cases h),(fun h=> by cases h),(fun h=> by cases h),?_,(fun h=> by cases h),trivial⟩
  ·exact fun _=> ⟨rfl,rfl,fun a w2 K h=> aP rfl rfl Tryz.zeroValue191 (by simp) h⟩
 ·refine bQ ?_;refine ⟨(fun _ h=> by cases h),(fun _ h=> by cases h),(fun _ h=> by cases h),(fun _ h=> by cases h),?_,trivial⟩
  ·intro p hp;obtain rfl:3=p:=fT hp;exact ⟨rfl,rfl,⟨_,rfl⟩,aj rfl,fun a w2 b K hB hF hd hx hb h=> aY rfl rfl bE hx (hd 2 _ rfl rfl rfl (aj rfl)) hb h⟩
 ·intro a w3 blk hB hF hS hv hfin bU;obtain ⟨v3,BR,LB⟩:=hv 3 _ rfl rfl;have ha:=aI rfl rfl hF [_,_,_,_,undef] rfl ⟨hS 0 _ rfl rfl rfl,hS 1 _ rfl rfl rfl,hS 2 _ rfl rfl rfl,v3,trivial,trivial⟩;have f3:=hfin 4 _ 3 rfl rfl;simp only [puts,Act.put,dH,dI,dJ] at ha;subst ha;have V3:aH .i64 w3 (blk 3) 16 (IX f):=⟨_,f3⟩
  clear hS hv hfin bU hF v3 f3;have hA1:=hA.below hB hA.lt;have hZ1:=hZ.below hB hZ.lt;have hb1:=hbel.trans (hB.mono hbel.size);have lb:=hbel.size;have lz:=hZ.lt;have HR:=ak (Ev HF.out);obtain ⟨b,hb⟩:∃b,b=blk 3:=⟨_,rfl⟩
  obtain ⟨g,hg⟩:∃g,g=IX f:=⟨_,rfl⟩
  rw [<-hb] at V3 BR ⊢;rw [<-hg] at HR V3 ⊢;have hr:=V3;have hbw:w.heap.size+2<=b:=by omega
  have HG:=ak hg;clear hb hg V3 BR LB hA hZ hbel hB lb lz;by_cases hq:iK X * iK X % Pr=X % Pr
  ·have HQ:=ak hq;clear hq;go_upto_region 2 with (fail)
   refine aR (n:=31) (by kernel_rfl) (by kernel_rfl) (by kernel_rfl) rfl
    (fun ii vv _=> (match ii with | 0 | 1=> vv=.agg (arr .i64 16 (g)) | 2=> vv=.agg (arr .i64 16 (aL (g) (g))) | 3=> vv=.agg (arr .i64 16 (f)) | 4=> vv=.bool true | 5=> vv=.bool false | _=> True))
    (fun w w'=> Below w.heap.size w w') (fun _ _ h=> h) (fun _ _ _ _ h _=> h) ?_ ?_
   ·refine bQ ?_;refine ⟨?_,?_,?_,?_,?_,?_,trivial⟩
    ·intro a w2 hB hF hd;exact aJ <| aO (aB rfl bT rfl bE (hF.same 4 rfl) (hr.below hB hr.lt)) rfl
    ·intro a w2 hB hF hd;exact aJ <| aO (aB rfl bT rfl bE (hF.same 4 rfl) (hr.below hB hr.lt)) rfl
    ·intro a w2 hB hF hd;refine aJ <| aD _ _ _ rfl Tryz.call203 _ (args2 (hd 0 _ rfl (aj rfl)) (hd 1 _ rfl (aj rfl))) (by simp) ((bJ (g) (g) (iK X) (iK X) HR.out HR.out w2).mono ?_);rintro e w3 ⟨rfl,hb⟩;exact ⟨_,rfl,rfl,hb⟩
    ·intro a w2 hB hF hd;exact aJ <| aO (aB rfl bT rfl bE (hF.same 1 rfl) (hA1.below hB hA1.lt)) rfl
    ·intro a w2 hB hF hd;refine aJ <| aD _ _ _ rfl Tryz.call210 _ (args2 (hd 2 _ rfl (aj rfl)) (hd 3 _ rfl (aj rfl))) (by simp) ((rD (aL (g) (g)) (f) ((iK X) * (iK X)) X (HR.out.aL HR.out) HF.out HQ.out w2).mono ?_);rintro e w3 ⟨rfl,hb⟩;exact ⟨_,rfl,rfl,hb⟩
    ·intro a w2 hB hF hd;exact aJ <| aO (jP rfl (hd 4 _ rfl (aj rfl))) rfl
   ·intro a w4 hB hF hS;have ha:=aI rfl rfl hF [_,_,_,_,_,_] rfl ⟨hS 0 _ rfl,hS 1 _ rfl,hS 2 _ rfl,hS 3 _ rfl,hS 4 _ rfl,hS 5 _ rfl,trivial⟩;simp only [puts,Act.put,dH,dI,dJ] at ha;subst ha;clear hS hF;have hA2:=hA1.below hB hA1.lt;have hZ2:=hZ1.below hB hZ1.lt;have hb2:=hb1.trans (hB.mono hb1.size);have hr':=hr.below hB hr.lt;clear hr;have hr:=hr';clear hr' hA1 hZ1 hb1 hB;go_upto_region 4 with (fail)
    refine aR (n:=31) (by kernel_rfl) (by kernel_rfl) (by kernel_rfl) rfl
     (fun ii vv _=> (match ii with | 0 | 1=> vv=.agg (arr .i64 16 (g)) | 2=> vv=.agg (arr .i64 16 (aL (g) (g))) | 3=> vv=.agg (arr .i64 16 (f)) | 4=> vv=.bool true | 5=> vv=.bool false | _=> True))
     (fun w w'=> Below w.heap.size w w') (fun _ _ h=> h) (fun _ _ _ _ h _=> h) ?_ ?_
    ·refine bQ ?_;refine ⟨?_,?_,?_,?_,?_,?_,trivial⟩
     ·intro a w2 hB hF hd;exact aJ <| aO (aB rfl bT rfl bE (hF.same 4 rfl) (hr.below hB hr.lt)) rfl
     ·intro a w2 hB hF hd;exact aJ <| aO (aB rfl bT rfl bE (hF.same 4 rfl) (hr.below hB hr.lt)) rfl
     ·intro a w2 hB hF hd;refine aJ <| aD _ _ _ rfl Tryz.call203 _ (args2 (hd 0 _ rfl (aj rfl)) (hd 1 _ rfl (aj rfl))) (by simp) ((bJ (g) (g) (iK X) (iK X) HR.out HR.out w2).mono ?_);rintro e w3 ⟨rfl,hb⟩;exact ⟨_,rfl,rfl,hb⟩
     ·intro a w2 hB hF hd;exact aJ <| aO (aB rfl bT rfl bE (hF.same 1 rfl) (hA2.below hB hA2.lt)) rfl
     ·intro a w2 hB hF hd;refine aJ <| aD _ _ _ rfl Tryz.call210 _ (args2 (hd 2 _ rfl (aj rfl)) (hd 3 _ rfl (aj rfl))) (by simp) ((rD (aL (g) (g)) (f) ((iK X) * (iK X)) X (HR.out.aL HR.out) HF.out HQ.out w2).mono ?_);rintro e w3 ⟨rfl,hb⟩;exact ⟨_,rfl,rfl,hb⟩
     ·intro a w2 hB hF hd;exact aJ <| aO (jP rfl (hd 4 _ rfl (aj rfl))) rfl
    ·intro a w5 hB hF hS;have ha:=aI rfl rfl hF [_,_,_,_,_,_] rfl ⟨hS 0 _ rfl,hS 1 _ rfl,hS 2 _ rfl,hS 3 _ rfl,hS 4 _ rfl,hS 5 _ rfl,trivial⟩;simp only [puts,Act.put,dH,dI,dJ] at ha;subst ha;clear hS hF;have hA3:=hA2.below hB hA2.lt;have hZ3:=hZ2.below hB hZ2.lt;have hb3:=hb2.trans (hB.mono hb2.size);have hr':=hr.below hB hr.lt;clear hr;have hr:=hr';clear hr' hA2 hZ2 hb2 hB;rcases (by omega:(iK X) % Pr % 2=0\/(iK X) % Pr % 2=1) with ho | ho
     ·have hodd:=ak ho;clear ho;go_upto_region 6 with (fail)
      refine aR (n:=31) (by kernel_rfl) (by kernel_rfl) (by kernel_rfl) rfl
       (fun ii vv _=> (match ii with | 0=> vv=.agg (arr .i64 16 (g)) | 1=> vv=.bool false | _=> True))
       (fun w w'=> Below w.heap.size w w') (fun _ _ h=> h) (fun _ _ _ _ h _=> h) ?_ ?_
      ·refine bQ ?_;refine ⟨?_,?_,trivial⟩
       ·intro a w2 hB hF hd;exact aJ <| aO (aB rfl bT rfl bE (hF.same 4 rfl) (hr.below hB hr.lt)) rfl
       ·intro a w2 hB hF hd;refine aJ <| aD _ _ _ rfl Tryz.call222 _ (args1 (hd 0 _ rfl (aj rfl))) (by simp) ((AY (g) (iK X) HR.out hodd.out w2).mono ?_);rintro e w3 ⟨rfl,hb⟩;exact ⟨_,rfl,rfl,hb⟩
      ·intro a w9 hB hF hS;have ha:=aI rfl rfl hF [_,_] rfl ⟨hS 0 _ rfl,hS 1 _ rfl,trivial⟩;simp only [puts,Act.put,dH,dI,dJ] at ha;subst ha;clear hS hF;have VE:=hZ3.below hB hZ3.lt;have hbz:=hb3.trans (hB.mono hb3.size);have hrz:=hr.below hB hr.lt;clear hr hA3 hZ3 hb3 hB
       go_wp2_with (first
        | (refine bA rfl 191 _ rfl .i64 b 16 _ bT rfl bE rfl hrz ?_)
        | (refine aF rfl 191 _ _ rfl .i64 (w.heap.size+1) 16 (fun _=> 0) _ bE rfl rfl VE ?_))
       exact bodyPost_ret (dM rfl _ _ .i64 (w.heap.size+1) 16 _ rfl (VE.setRow _ _) bT rfl bE) rfl ⟨by rw [Ol HQ.out hodd.out,←HG.out];rfl,aA hbz (by omega) _⟩
     ·have hodd:=ak ho;clear ho;go_upto_region 6 with (fail)
      refine aR (n:=31) (by kernel_rfl) (by kernel_rfl) (by kernel_rfl) rfl
       (fun ii vv _=> (match ii with | 0=> vv=.agg (arr .i64 16 (g)) | 1=> vv=.bool true | _=> True))
       (fun w w'=> Below w.heap.size w w') (fun _ _ h=> h) (fun _ _ _ _ h _=> h) ?_ ?_
      ·refine bQ ?_;refine ⟨?_,?_,trivial⟩
       ·intro a w2 hB hF hd;exact aJ <| aO (aB rfl bT rfl bE (hF.same 4 rfl) (hr.below hB hr.lt)) rfl
       ·intro a w2 hB hF hd;refine aJ <| aD _ _ _ rfl Tryz.call222 _ (args1 (hd 0 _ rfl (aj rfl))) (by simp) ((xB (g) (iK X) HR.out hodd.out w2).mono ?_);rintro e w3 ⟨rfl,hb⟩;exact ⟨_,rfl,rfl,hb⟩
      ·intro a w9 hB hF hS;have ha:=aI rfl rfl hF [_,_] rfl ⟨hS 0 _ rfl,hS 1 _ rfl,trivial⟩;simp only [puts,Act.put,dH,dI,dJ] at ha;subst ha;clear hS hF;have VE:=hZ3.below hB hZ3.lt;have hbz:=hb3.trans (hB.mono hb3.size);have hrz:=hr.below hB hr.lt;clear hr hA3 hZ3 hb3 hB;go_wp2_with (refine bA rfl 191 _ rfl .i64 b 16 _ bT rfl bE rfl hrz ?_);refine (mI (g) ((iK X)) HR.out _).mono ?_;rintro e w10 ⟨rfl,Gp⟩;have hZy:=VE.kept Gp;have hby:=hbz.trans (Gp.mono hbz.size);have hry:=hrz.kept Gp;clear VE hbz hrz Gp;go_upto_region 8 with (refine aF rfl 191 _ _ rfl .i64 b 16 _ _ bE rfl rfl hry ?_);refine aG (fun SE=> aH .i64 SE b 16 (iy (g))/\aH .i64 SE (w.heap.size+1) 16 (fun _=> 0)/\Below w.heap.size w SE) ⟨aH.setRow hry _ _,aH.aC hZy _ (by omega) _,aA hby (by omega) _⟩ ?_;rintro SE ⟨hr2,hZ2,hb2⟩;clear hZy hby hry
       go_wp2_with (first
        | (refine bA rfl 191 _ rfl .i64 b 16 _ bT rfl bE rfl hr2 ?_)
        | (refine aF rfl 191 _ _ rfl .i64 (w.heap.size+1) 16 (fun _=> 0) _ bE rfl rfl hZ2 ?_))
       exact bodyPost_ret (dM rfl _ _ .i64 (w.heap.size+1) 16 _ rfl (hZ2.setRow _ _) bT rfl bE) rfl ⟨by rw [Oj HQ.out hodd.out,←HG.out];rfl,aA hb2 (by omega) _⟩
  ·have hq2:=(Af HSQ.out).resolve_left hq;have HQ:=ak hq;have ZT:=ak hq2;have HNQ:=ak hq;clear hq hq2;go_upto_region 2 with (fail)
   refine aR (n:=31) (by kernel_rfl) (by kernel_rfl) (by kernel_rfl) rfl
    (fun ii vv _=> (match ii with | 0 | 1=> vv=.agg (arr .i64 16 (g)) | 2=> vv=.agg (arr .i64 16 (aL (g) (g))) | 3=> vv=.agg (arr .i64 16 (f)) | 4=> vv=.bool false | 5=> vv=.bool true | _=> True))
    (fun w w'=> Below w.heap.size w w') (fun _ _ h=> h) (fun _ _ _ _ h _=> h) ?_ ?_
   ·refine bQ ?_;refine ⟨?_,?_,?_,?_,?_,?_,trivial⟩
    ·intro a w2 hB hF hd;exact aJ <| aO (aB rfl bT rfl bE (hF.same 4 rfl) (hr.below hB hr.lt)) rfl
    ·intro a w2 hB hF hd;exact aJ <| aO (aB rfl bT rfl bE (hF.same 4 rfl) (hr.below hB hr.lt)) rfl
    ·intro a w2 hB hF hd;refine aJ <| aD _ _ _ rfl Tryz.call203 _ (args2 (hd 0 _ rfl (aj rfl)) (hd 1 _ rfl (aj rfl))) (by simp) ((bJ (g) (g) (iK X) (iK X) HR.out HR.out w2).mono ?_);rintro e w3 ⟨rfl,hb⟩;exact ⟨_,rfl,rfl,hb⟩
    ·intro a w2 hB hF hd;exact aJ <| aO (aB rfl bT rfl bE (hF.same 1 rfl) (hA1.below hB hA1.lt)) rfl
    ·intro a w2 hB hF hd;refine aJ <| aD _ _ _ rfl Tryz.call210 _ (args2 (hd 2 _ rfl (aj rfl)) (hd 3 _ rfl (aj rfl))) (by simp) ((qc (aL (g) (g)) (f) ((iK X) * (iK X)) X (HR.out.aL HR.out) HF.out HQ.out w2).mono ?_);rintro e w3 ⟨rfl,hb⟩;exact ⟨_,rfl,rfl,hb⟩
    ·intro a w2 hB hF hd;exact aJ <| aO (jP rfl (hd 4 _ rfl (aj rfl))) rfl
   ·intro a w4 hB hF hS;have ha:=aI rfl rfl hF [_,_,_,_,_,_] rfl ⟨hS 0 _ rfl,hS 1 _ rfl,hS 2 _ rfl,hS 3 _ rfl,hS 4 _ rfl,hS 5 _ rfl,trivial⟩;simp only [puts,Act.put,dH,dI,dJ] at ha;subst ha;clear hS hF;have hA2:=hA1.below hB hA1.lt;have hZ2:=hZ1.below hB hZ1.lt;have hb2:=hb1.trans (hB.mono hb1.size);have hr':=hr.below hB hr.lt;clear hr;have hr:=hr';clear hr' hA1 hZ1 hb1 hB;go_upto_region 3 with (fail)
    refine bV (n:=31) (fun i=> i==5) (by kernel_rfl) (by kernel_rfl) (by kernel_rfl) (by kernel_rfl) rfl
     (fun ii vv _=> (match ii with | 0=> vv=.agg (arr .i64 16 (g)) | 1=> vv=.agg (arr .i64 16 (aN 2)) | 2=> vv=.agg (arr .u8 32 (dg 256 (((PN - 1) / 4:Nat):Int))) | 3=> vv=.agg (arr .i64 16 (qF)) | 4=> vv=.agg (arr .i64 16 (aL (g) (qF))) | _=> True))
     (fun w w'=> Below w.heap.size w w') (fun _ _ h=> h) (fun _ _ _ _ h _=> h)
     (fun _=> b) (fun _=> (arr .i64 16 (g))) (fun _=> (arr .i64 16 (aL (g) (qF))))
     (by intro i j _ _ hpi iL hne;simp only [beq_iff_eq] at hpi iL;omega)
     (by intro i _ hpi;exact (hr).row)
     ?_ ?_ ?_
    ·refine bQ ?_;refine ⟨?_,?_,?_,?_,?_,(aK),trivial⟩
     ·intro _ a w2 hB hF hd;exact aJ <| aO (aB rfl bT rfl bE (hF.same 4 rfl) (hr.below hB hr.lt)) rfl
     ·intro _ a w2 hB hF hd;refine aJ <| aD _ _ _ rfl Tryz.call200 _ (args1 rfl) (by simp) ((dR 2 w2).mono ?_);rintro e w3 ⟨rfl,hb⟩;exact ⟨_,rfl,rfl,hb⟩
     ·intro _ a w2 hB hF hd;refine aJ <| aD _ _ _ rfl Tryz.call248 _ (args2 rfl rfl) (by simp) ((Ee w2).mono ?_);rintro e w3 ⟨rfl,hb⟩;exact ⟨_,rfl,rfl,hb⟩
     ·intro _ a w2 hB hF hd;refine aJ <| aD _ _ _ rfl Tryz.call247 _ (args2 (hd 1 _ rfl rfl (aj rfl)) (hd 2 _ rfl rfl (aj rfl))) (by simp) ((lK (aN 2) 2 (((PN - 1) / 4:Nat):Int) Ng oQ.1 oQ.2 w2).mono ?_);rintro e w3 ⟨rfl,hb⟩;exact ⟨_,rfl,rfl,hb⟩
     ·intro _ a w2 hB hF hd;refine aJ <| aD _ _ _ rfl Tryz.call203 _ (args2 (hd 0 _ rfl rfl (aj rfl)) (hd 3 _ rfl rfl (aj rfl))) (by simp) ((bJ (g) (qF) (iK X) qI HR.out Ew w2).mono ?_);rintro e w3 ⟨rfl,hb⟩;exact ⟨_,rfl,rfl,hb⟩
    ·refine bQ ?_;refine ⟨(aK),(aK),(aK),(aK),(aK),?_,trivial⟩
     ·intro _ a w1 w2 K hB hF hS hr hK;exact aW 191 _ _ rfl .i64 (b) 16 (g) (aL (g) (qF)) bE (hF.same 4 rfl) (hS 4 _ rfl rfl) hr hK
    ·intro a wf w6 hB hF hS hfil;have other:∀{k:IntKind} {qb n:Nat} {f:Nat->Int},qb≠b->aH k wf qb n f->aH k w6 qb n f:=fun {k qb n f} e0 hA=> hfil.arr (by intro i _ hpi;simp only [jY,beq_iff_eq] at hpi;subst hpi<;> ((try simp only []);(try dsimp only);omega)) hA;have dx:∀{B:Nat} {w0:World},B<=b->Below B w0 wf->Below B w0 w6:=fun {B w0} e0 hA=> hfil.below (by intro i _ hpi;simp only [jY,beq_iff_eq] at hpi;subst hpi<;> ((try simp only []);(try dsimp only);omega)) hA;have V5:aH .i64 w6 (b) 16 (aL (g) (qF)):=hfil.at 5 (by decide) rfl;have oL:=hfil.size;clear hfil;have ha:=aI rfl rfl hF [_,_,_,_,_,undef] rfl ⟨hS 0 _ rfl rfl,hS 1 _ rfl rfl,hS 2 _ rfl rfl,hS 3 _ rfl rfl,hS 4 _ rfl rfl,trivial,trivial⟩;simp only [puts,Act.put,dH,dI,dJ] at ha;subst ha;clear hS hF;have hA3:=other (by omega) (hA2.below hB hA2.lt);have hZ3:=other (by omega) (hZ2.below hB hZ2.lt);have hb3:=dx (by omega) (hb2.trans (hB.mono hb2.size));have hr2:=V5;clear hr;have hr:=hr2;clear hr2 V5 hA2 hZ2 hb2 hB other dx;have HR2:=ak (HR.out.aL Ew);go_upto_region 4 with (fail)
     refine aR (n:=31) (by kernel_rfl) (by kernel_rfl) (by kernel_rfl) rfl
      (fun ii vv _=> (match ii with | 0 | 1=> vv=.agg (arr .i64 16 (aL g qF)) | 2=> vv=.agg (arr .i64 16 (aL (aL g qF) (aL g qF))) | 3=> vv=.agg (arr .i64 16 (f)) | 4=> vv=.bool true | 5=> vv=.bool false | _=> True))
      (fun w w'=> Below w.heap.size w w') (fun _ _ h=> h) (fun _ _ _ _ h _=> h) ?_ ?_
     ·refine bQ ?_;refine ⟨?_,?_,?_,?_,?_,?_,trivial⟩
      ·intro a w2 hB hF hd;exact aJ <| aO (aB rfl bT rfl bE (hF.same 4 rfl) (hr.below hB hr.lt)) rfl
      ·intro a w2 hB hF hd;exact aJ <| aO (aB rfl bT rfl bE (hF.same 4 rfl) (hr.below hB hr.lt)) rfl
      ·intro a w2 hB hF hd;refine aJ <| aD _ _ _ rfl Tryz.call203 _ (args2 (hd 0 _ rfl (aj rfl)) (hd 1 _ rfl (aj rfl))) (by simp) ((bJ (aL g qF) (aL g qF) (iK X * qI) (iK X * qI) HR2.out HR2.out w2).mono ?_);rintro e w3 ⟨rfl,hb⟩;exact ⟨_,rfl,rfl,hb⟩
      ·intro a w2 hB hF hd;exact aJ <| aO (aB rfl bT rfl bE (hF.same 1 rfl) (hA3.below hB hA3.lt)) rfl
      ·intro a w2 hB hF hd;refine aJ <| aD _ _ _ rfl Tryz.call210 _ (args2 (hd 2 _ rfl (aj rfl)) (hd 3 _ rfl (aj rfl))) (by simp) ((rD (aL (aL g qF) (aL g qF)) (f) ((iK X * qI) * (iK X * qI)) X (HR2.out.aL HR2.out) HF.out ZT.out w2).mono ?_);rintro e w3 ⟨rfl,hb⟩;exact ⟨_,rfl,rfl,hb⟩
      ·intro a w2 hB hF hd;exact aJ <| aO (jP rfl (hd 4 _ rfl (aj rfl))) rfl
     ·intro a w6 hB hF hS;have ha:=aI rfl rfl hF [_,_,_,_,_,_] rfl ⟨hS 0 _ rfl,hS 1 _ rfl,hS 2 _ rfl,hS 3 _ rfl,hS 4 _ rfl,hS 5 _ rfl,trivial⟩;simp only [puts,Act.put,dH,dI,dJ] at ha;subst ha;clear hS hF;have wJ:=hA3.below hB hA3.lt;have ny:=hZ3.below hB hZ3.lt;have hb4:=hb3.trans (hB.mono hb3.size);have hr':=hr.below hB hr.lt;clear hr;have hr:=hr';clear hr' hA3 hZ3 hb3 hB;rcases (by omega:(iK X * qI) % Pr % 2=0\/(iK X * qI) % Pr % 2=1) with ho | ho
      ·have hodd:=ak ho;clear ho;go_upto_region 6 with (fail)
       refine aR (n:=31) (by kernel_rfl) (by kernel_rfl) (by kernel_rfl) rfl
        (fun ii vv _=> (match ii with | 0=> vv=.agg (arr .i64 16 (aL g qF)) | 1=> vv=.bool false | _=> True))
        (fun w w'=> Below w.heap.size w w') (fun _ _ h=> h) (fun _ _ _ _ h _=> h) ?_ ?_
       ·refine bQ ?_;refine ⟨?_,?_,trivial⟩
        ·intro a w2 hB hF hd;exact aJ <| aO (aB rfl bT rfl bE (hF.same 4 rfl) (hr.below hB hr.lt)) rfl
        ·intro a w2 hB hF hd;refine aJ <| aD _ _ _ rfl Tryz.call222 _ (args1 (hd 0 _ rfl (aj rfl))) (by simp) ((AY (aL g qF) (iK X * qI) HR2.out hodd.out w2).mono ?_);rintro e w3 ⟨rfl,hb⟩;exact ⟨_,rfl,rfl,hb⟩
       ·intro a w9 hB hF hS;have ha:=aI rfl rfl hF [_,_] rfl ⟨hS 0 _ rfl,hS 1 _ rfl,trivial⟩;simp only [puts,Act.put,dH,dI,dJ] at ha;subst ha;clear hS hF;have VE:=ny.below hB ny.lt;have hbz:=hb4.trans (hB.mono hb4.size);have hrz:=hr.below hB hr.lt;clear hr wJ ny hb4 hB
        go_wp2_with (first
         | (refine bA rfl 191 _ rfl .i64 b 16 _ bT rfl bE rfl hrz ?_)
         | (refine aF rfl 191 _ _ rfl .i64 (w.heap.size+1) 16 (fun _=> 0) _ bE rfl rfl VE ?_))
        exact bodyPost_ret (dM rfl _ _ .i64 (w.heap.size+1) 16 _ rfl (VE.setRow _ _) bT rfl bE) rfl ⟨by rw [Oi HNQ.out hodd.out,←HG.out];rfl,aA hbz (by omega) _⟩
      ·have hodd:=ak ho;clear ho;go_upto_region 6 with (fail)
       refine aR (n:=31) (by kernel_rfl) (by kernel_rfl) (by kernel_rfl) rfl
        (fun ii vv _=> (match ii with | 0=> vv=.agg (arr .i64 16 (aL g qF)) | 1=> vv=.bool true | _=> True))
        (fun w w'=> Below w.heap.size w w') (fun _ _ h=> h) (fun _ _ _ _ h _=> h) ?_ ?_
       ·refine bQ ?_;refine ⟨?_,?_,trivial⟩
        ·intro a w2 hB hF hd;exact aJ <| aO (aB rfl bT rfl bE (hF.same 4 rfl) (hr.below hB hr.lt)) rfl
        ·intro a w2 hB hF hd;refine aJ <| aD _ _ _ rfl Tryz.call222 _ (args1 (hd 0 _ rfl (aj rfl))) (by simp) ((xB (aL g qF) (iK X * qI) HR2.out hodd.out w2).mono ?_);rintro e w3 ⟨rfl,hb⟩;exact ⟨_,rfl,rfl,hb⟩
       ·intro a w9 hB hF hS;have ha:=aI rfl rfl hF [_,_] rfl ⟨hS 0 _ rfl,hS 1 _ rfl,trivial⟩;simp only [puts,Act.put,dH,dI,dJ] at ha;subst ha;clear hS hF;have VE:=ny.below hB ny.lt;have hbz:=hb4.trans (hB.mono hb4.size);have hrz:=hr.below hB hr.lt;clear hr wJ ny hb4 hB;go_wp2_with (refine bA rfl 191 _ rfl .i64 b 16 _ bT rfl bE rfl hrz ?_);refine (mI (aL g qF) ((iK X * qI)) HR2.out _).mono ?_;rintro e w10 ⟨rfl,Gp⟩;have hZy:=VE.kept Gp;have hby:=hbz.trans (Gp.mono hbz.size);have hry:=hrz.kept Gp;clear VE hbz hrz Gp;go_upto_region 8 with (refine aF rfl 191 _ _ rfl .i64 b 16 _ _ bE rfl rfl hry ?_);refine aG (fun SE=> aH .i64 SE b 16 (iy (aL g qF))/\aH .i64 SE (w.heap.size+1) 16 (fun _=> 0)/\Below w.heap.size w SE) ⟨aH.setRow hry _ _,aH.aC hZy _ (by omega) _,aA hby (by omega) _⟩ ?_;rintro SE ⟨hr2,hZ2,hb2⟩;clear hZy hby hry
        go_wp2_with (first
         | (refine bA rfl 191 _ rfl .i64 b 16 _ bT rfl bE rfl hr2 ?_)
         | (refine aF rfl 191 _ _ rfl .i64 (w.heap.size+1) 16 (fun _=> 0) _ bE rfl rfl hZ2 ?_))
        exact bodyPost_ret (dM rfl _ _ .i64 (w.heap.size+1) 16 _ rfl (hZ2.setRow _ _) bT rfl bE) rfl ⟨by rw [Oh HNQ.out hodd.out,←HG.out];rfl,aA hb2 (by omega) _⟩
end Go.Proofs.YtpcjekgfnfjbpaaGreat
