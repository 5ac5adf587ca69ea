/-
  Part 45 of EscrowTake. Conditions: named in each theorem.
-/
import Derived.Test.YtpcjekgfnfjbpaaGreatPkEscrowTake41
import Derived.Deep.LoopGhost
import Derived.OpenShut
set_option linter.unusedVariables false
set_option linter.unusedSimpArgs false
set_option maxRecDepth 100000
set_option maxHeartbeats 25600000
namespace Go.aZ
open Go.RowKit
theorem EM (S:Int):∀i,i<32->upd (upd (dg 256 S) 0 (dg 256 S 0 / 8 * 8)) 31 (dg 256 S 31 % 64+64) i=dg 256 (dP S) i:=by
 have key:∀i:Fin 32,upd (upd (dg 256 S) 0 (dg 256 S 0 / 8 * 8)) 31 (dg 256 S 31 % 64+64) i.val=dg 256 (dP S) i.val:=by
  intro ⟨i,hi⟩;have e:∀j,dg 256 (dP S) j=(S % 2 ^ 254 / 8 * 8+2 ^ 254) / 256 ^ j % 256:=fun _=> rfl;have e':∀j,dg 256 S j=S / 256 ^ j % 256:=fun _=> rfl;rcases i with _ | _ | _ | _ | _ | _ | _ | _ | _ | _ | _ | _ | _ | _ | _ | _ | _ | _ | _ | _ | _ | _ | _ | _ | _ | _ | _ | _ | _ | _ | _ | _ | i
  all_goals first
   | omega
   | (simp only [upd,e,e'];simp;omega)
 exact fun i h=> key ⟨i,h⟩
theorem DT {P:Program} {fn:Func} {p q p2 q2:Tmp} {T:TypeId} (h:fn.results=#[.cell p T,.cell q T,.cell p2 T,.cell q2 T]) (tmps:Array Value) (w:World) (k:IntKind) (n:Nat) {d:TypeDesc} (hu:P.underlying T=some d) (hd:BH d=true) (hi:(P.info? T).map (·.size)=some n)
  (b1 b2 b3 b4:Nat) (f1 f2 f3 f4:Nat->Int) (hp:tmps.getD p undef=.pointer (some ⟨b1,0,none⟩)) (ha:aF k w b1 n f1) (hp2:tmps.getD q undef=.pointer (some ⟨b2,0,none⟩)) (ha2:aF k w b2 n f2)
  (hp3:tmps.getD p2 undef=.pointer (some ⟨b3,0,none⟩)) (ha3:aF k w b3 n f3) (hp4:tmps.getD q2 undef=.pointer (some ⟨b4,0,none⟩)) (ha4:aF k w b4 n f4):
  (results fn tmps).run P w=.ok (.tuple #[.agg (arr k n f1),.agg (arr k n f2),.agg (arr k n f3),.agg (arr k n f4)]) w:=by
 obtain ⟨t,ht⟩:=ha;obtain ⟨t2,ht2⟩:=ha2;obtain ⟨t3,ht3⟩:=ha3;obtain ⟨t4,ht4⟩:=ha4;have e1:tmps[p]?.getD undef=.pointer (some ⟨b1,0,none⟩):=by simpa using hp
 have e2:tmps[q]?.getD undef=.pointer (some ⟨b2,0,none⟩):=by simpa using hp2
 have e3:tmps[p2]?.getD undef=.pointer (some ⟨b3,0,none⟩):=by simpa using hp3
 have e4:tmps[q2]?.getD undef=.pointer (some ⟨b4,0,none⟩):=by simpa using hp4
 have key:∀(b t:Nat) (f:Nat->Int),w.heap[b]? =some (.cells (arr k n f) t (0,0))->(loadVar T ⟨b,0,none⟩).run P w=.ok (.agg (arr k n f)) w:=fun b t f hb=> run_loadVar_row w b t T (arr k n f) (0,0) _ hb hu (by cases d<;> first | rfl | cases hd) (by rw [hi,gN]);simp [results,h,e1,e2,e3,e4,asAddr,key _ _ _ ht,key _ _ _ ht2,key _ _ _ ht3,key _ _ _ ht4]
theorem YI (x:Int) (h0:0<=x) (h1:x<256):bits .and .u8 x 248=x / 8 * 8:=by
 obtain ⟨n,rfl⟩:=Db h0;have key:∀n:Fin 256,bits .and .u8 ((n.val:Nat):Int) 248=(n.val:Int) / 8 * 8:=by decide+kernel
 exact key ⟨n,by omega⟩
theorem YJ (x:Int) (h0:0<=x) (h1:x<256):bits .and .u8 x 127=x % 128:=by
 obtain ⟨n,rfl⟩:=Db h0;have key:∀n:Fin 256,bits .and .u8 ((n.val:Nat):Int) 127=(n.val:Int) % 128:=by decide+kernel
 exact key ⟨n,by omega⟩
theorem aeQ (x:Int) (h0:0<=x) (h1:x<128):bits .or .u8 x 64=x % 64+64:=by
 obtain ⟨n,rfl⟩:=Db h0;have key:∀n:Fin 128,bits .or .u8 ((n.val:Nat):Int) 64=(n.val:Int) % 64+64:=by decide+kernel
 exact key ⟨n,by omega⟩
theorem Gi {P:Program} {w:World} {a:Act} {o:Oper} {x y:Operand} {t1 t2:TypeId} {k:IntKind} {m:Int} (ho:o.op=.call { callee:=.builtin .max,args:=#[x,y],argTypes:=#[t1,t2] }) (hx:a.eval x=.int k m) (hy:a.eval y=.int k 0) (hm:0<=m):
  (execOp a.eval o).run P w=.ok (.value (.int k m)) w:=by
 unfold execOp;simp only [ho,resolve,invoke,builtin,Sem.run_bind,Sem.run_pure,Result.andThen_ok,vg,List.map_cons,List.map_nil,hx,hy];simp [go_sem,Builtin.max_,Builtin.max2];omega
def aS (p:Bool) (f g:Nat->Int):Nat->Int:=if p then g else f
theorem yC {p:Bool} {f g:Nat->Int} {X Y:Int} (hf:Fe f X) (hg:Fe g Y):Fe (aS p f g) (if p then Y else X):=by cases p<;> assumption
end Go.aZ
namespace Go.Proofs.YtpcjekgfnfjbpaaGreat
open Go.RowKit Go.aZ Go.ChangeShapes
attribute [local go_sem ↓] Go.wp_at_zero Go.wp_at_succ
theorem XU:(#[.int .u8 0,.int .u8 0,.int .u8 0,.int .u8 0,.int .u8 0,.int .u8 0,.int .u8 0,.int .u8 0,.int .u8 0,.int .u8 0,.int .u8 0,.int .u8 0,.int .u8 0,.int .u8 0,.int .u8 0,.int .u8 0,.int .u8 0,.int .u8 0,.int .u8 0,.int .u8 0,.int .u8 0,.int .u8 0,.int .u8 0,.int .u8 0,.int .u8 0,.int .u8 0,.int .u8 0,.int .u8 0,.int .u8 0,.int .u8 0,.int .u8 0,.int .u8 0] :Array Value)=arr .u8 32 (dg 256 0):=by kernel_rfl
theorem Qa {a:Act} (w:World):(Instr.build 22 ((#[] :Array (Nat × Operand)).map fun (i,x)=> (i,a.eval x))).run Tryz.prog w=.ok (.agg (arr .u8 32 (dg 256 0))) w:=by
 simp only [vg,List.map_nil];rw [Go.run_build w _ _ #[.int .u8 0,.int .u8 0,.int .u8 0,.int .u8 0,.int .u8 0,.int .u8 0,.int .u8 0,.int .u8 0,.int .u8 0,.int .u8 0,.int .u8 0,.int .u8 0,.int .u8 0,.int .u8 0,.int .u8 0,.int .u8 0,.int .u8 0,.int .u8 0,.int .u8 0,.int .u8 0,.int .u8 0,.int .u8 0,.int .u8 0,.int .u8 0,.int .u8 0,.int .u8 0,.int .u8 0,.int .u8 0,.int .u8 0,.int .u8 0,.int .u8 0,.int .u8 0] (by kernel_rfl),XU]
theorem Nv (X:Int):Fe (dg 65536 (X % 2 ^ 255)) (X % 2 ^ 255):=Fe.dg (SS X).1 (SS X).2 rfl
end Go.Proofs.YtpcjekgfnfjbpaaGreat
namespace Go.Proofs.YtpcjekgfnfjbpaaGreat
open Go.RowKit Go.aZ
attribute [local go_sem ↓] Go.wp_at_zero Go.wp_at_succ
theorem RZ (f:Nat->Int) (N:Int) (m:Nat) (h:m<256):Fv f N (256 - m)=if N / 2 ^ m % 2=1 then aM (aM (Fv f N (256 - (m+1))) (Fv f N (256 - (m+1)))) f else aM (Fv f N (256 - (m+1))) (Fv f N (256 - (m+1))):=by
 obtain ⟨k,hk⟩:∃k,256 - m=k+1:=⟨255 - m,by omega⟩
 rw [hk,show 256 - (m+1)=k by omega];show (if N / 2 ^ (255 - k) % 2=1 then _ else _)= _;rw [show 255 - k=m by omega]
theorem qG (f:Nat->Int) (X N:Int) (hf:Fe f X) (h0:0<=N) (h1:N<2 ^ 256) (w:World):
  Calls Tryz.prog 247 #[El f,.agg (arr .u8 32 (dg 256 N))] w fun e w'=> e=.returned (El (Ea f N))/\Below w.heap.size w w':=by
 have HF:=ak hf;have H0:=ak h0;have H1:=ak h1;clear hf h0 h1;unfold El
 go_enter Tryz.func247,Tryz.ntmps247
 go_wp2_with fail;refine (dW 1 _).mono ?_;rintro e w1 ⟨rfl,hb1⟩;have hA1:aF .i64 w1 w.heap.size 16 f:=aF.kept (aF.alloc (aF.alloc (bM (by first | omega | (simp<;> omega)) (by rfl)) _) _) hb1;have hB1:aF .u8 w1 (w.heap.size+1) 32 (dg 256 N):=aF.kept (aF.alloc (bM (by first | omega | (simp<;> omega)) (by rfl)) _) hb1;have hZ1:aF .i64 w1 (w.heap.size+2) 16 (fun _=> 0):=aF.kept (bM (by first | omega | (simp<;> omega)) (by rfl)) hb1;have gP:Below w.heap.size w w1:=((((bN _ _).alloc (bA _) _).alloc (by simp) _).alloc (by simp;omega) _).trans (hb1.mono (by simp;omega));have l1:=hZ1.lt;clear hb1;go_upto_region 2 with (refine aG rfl 191 _ _ rfl .i64 w1.heap.size 16 (fun _=> 0) _ bC rfl rfl (bM rfl rfl) ?_)
 refine aD (fun w2=> aF .i64 w2 w.heap.size 16 f/\aF .u8 w2 (w.heap.size+1) 32 (dg 256 N)/\aF .i64 w2 (w.heap.size+2) 16 (fun _=> 0)/\aF .i64 w2 w1.heap.size 16 (Fv f N (256 - 256))/\Below w.heap.size w w2)
  ⟨aF.aA (aF.alloc hA1 _) _ (by omega) _,aF.aA (aF.alloc hB1 _) _ (by omega) _,aF.aA (aF.alloc hZ1 _) _ (by omega) _,aF.setRow (bM (n:=16) (f:=fun _=> 0) rfl rfl) _ _,ay (gP.alloc gP.size _) gP.size _⟩ ?_
 rintro w2 ⟨hA,hB,hZ,hO,hbel⟩;obtain ⟨b,hb⟩:∃b,b=w1.heap.size:=⟨_,rfl⟩
 rw [<-hb] at hO l1 ⊢;clear hb hA1 hB1 hZ1 gP;go_wp2
 go_loopw [6] (fun i wr=> ∃k:Nat,k<=256/\i=.int .i64 ((k:Int) - 1)/\aF .i64 wr w.heap.size 16 f/\aF .u8 wr (w.heap.size+1) 32 (dg 256 N)/\aF .i64 wr (w.heap.size+2) 16 (fun _=> 0)/\aF .i64 wr b 16 (Fv f N (256 - k))/\Below w.heap.size w wr) (fun i _=> (intOf i+1).toNat)
 case atStart=> exact ⟨256,bA _,rfl,hA,hB,hZ,hO,hbel⟩
 case round=>
  clear hA hB hZ hO hbel;obtain ⟨k,hk,rfl,hA,hB,hZ,hO,hbel⟩:=hrel;obtain _ | m:=k
  ·go_wp2_with (first
    | (refine aY rfl 191 _ rfl .i64 b 16 _ bZ rfl bC rfl hO ?_)
    | (refine aG rfl 191 _ _ rfl .i64 (w.heap.size+2) 16 (fun _=> 0) _ bC rfl rfl hZ ?_))
   exact bodyPost_ret (dn rfl _ _ .i64 (w.heap.size+2) 16 _ rfl (hZ.setRow _ _) bZ rfl bC) rfl ⟨rfl,ay hbel (by omega) _⟩
  ·have hkm:((m+1:Nat):Int) - 1=(m:Int):=by omega
   rw [hkm];have HP:=ak (HF.out.Fv H0.out H1.out (256 - (m+1)) (by omega));have HST:=ak (RZ f N m (by omega));obtain ⟨g,hg⟩:∃g,g=Fv f N (256 - (m+1)):=⟨_,rfl⟩
   rw [<-hg] at HP HST hO;clear hkm hg;go_wp2_with (refine aY rfl 191 _ rfl .i64 b 16 _ bZ rfl bC rfl hO ?_);refine (bI g g _ _ HP.out HP.out _).mono ?_;rintro e w3 ⟨rfl,hb3⟩;have hA3:=hA.kept hb3;have hB3:=hB.kept hb3;have hZ3:=hZ.kept hb3;have hO3:=hO.kept hb3;have dL:=hbel.trans (hb3.mono hbel.size);clear hA hB hZ hO hbel hb3;go_upto_region 6 with (refine aG rfl 191 _ _ rfl .i64 b 16 _ _ bC rfl rfl hO3 ?_)
   refine aD (fun w4=> aF .i64 w4 w.heap.size 16 f/\aF .u8 w4 (w.heap.size+1) 32 (dg 256 N)/\aF .i64 w4 (w.heap.size+2) 16 (fun _=> 0)/\aF .i64 w4 b 16 (aM g g)/\Below w.heap.size w w4)
    ⟨aF.aA hA3 _ (by omega) _,aF.aA hB3 _ (by omega) _,aF.aA hZ3 _ (by omega) _,aF.setRow hO3 _ _,ay dL (by omega) _⟩ ?_
   rintro w4 ⟨hA,hB',hZ,hO,hbel⟩;clear hA3 hB3 hZ3 hO3 dL;have hm9:m % 8<8:=Nat.mod_lt _ (by decide);have hq:IntKind.i64.wrap (Int.tdiv (m:Int) 8)=((m / 8:Nat):Int):=by rw [Int.tdiv_eq_ediv_of_nonneg (by omega),jC] <;> omega
   have hr:Int.tmod (m:Int) 8=((m % 8:Nat):Int):=by rw [Int.tmod_eq_emod_of_nonneg (by omega)];omega
   have hc:IntKind.u64.wrap ((m % 8:Nat):Int)=((m % 8:Nat):Int):=pR (by omega) (by omega);obtain ⟨d0,d1⟩:=bE (by decide:(0:Int)<256) N (m / 8);have hsh:=Af (x:=dg 256 N (m / 8)) (m % 8) hm9;have hand:bits .and .u8 (dg 256 N (m / 8) / 2 ^ (m % 8)) 1=N / 2 ^ m % 2:=by
    rw [uY (Int.ediv_nonneg d0 (Int.le_of_lt (gB (by decide) _))) (Int.lt_of_le_of_lt (Int.ediv_le_self _ d0) d1),LV N m]
   have hpl:((m / 8:Nat):Int).toNat=m / 8:=Jt _;have Zu:m / 8<32:=by omega
   have hce:=hB'.cell (m / 8) Zu;have hBl:=hB'.lt
   refine aT (n:=29) (by kernel_rfl) (by kernel_rfl) (by kernel_rfl) rfl
    (fun ii vv _=> (match ii with | 0 | 4=> vv=.int .i64 ((m:Int)) | 1=> vv=.int .i64 ((m / 8:Nat)) | 2=> vv=.pointer (some ⟨(w.heap.size+1),(m / 8),none⟩) | 3=> vv=.int .u8 (dg 256 N (m / 8)) | 5=> vv=.int .i64 ((m % 8:Nat)) | 6=> vv=.int .u64 ((m % 8:Nat)) | 7=> vv=.int .u8 (dg 256 N (m / 8) / 2 ^ (m % 8)) | 8=> vv=.int .u8 (N / 2 ^ m % 2) | 9=> vv=.bool ((N / 2 ^ m % 2)==(1)) | _=> True))
    (fun w w'=> Below w.heap.size w w') (fun _ _ h=> h) (fun _ _ _ _ h _=> h) ?_ ?_
   ·refine cO ?_;refine ⟨?_,?_,?_,?_,?_,?_,?_,?_,?_,?_,trivial⟩
    ·intro a w2 hB hF hd;exact aH <| dJ rfl (hF.same 6 rfl)
    ·intro a w2 hB hF hd;exact aH <| aP (Go.aZ.DI rfl (hd 0 _ rfl (aj rfl)) rfl (by decide)) (congrArg (Value.int .i64) (hq))
    ·intro a w2 hB hF hd;exact aH <| aP (aO rfl (hF.same 3 rfl) (hd 1 _ rfl (aj rfl)) gH (by kernel_rfl) (by omega) (by omega)) (congrArg (fun z=> Value.pointer (some ⟨w.heap.size+1,z,none⟩)) hpl)
    ·intro a w2 hB hF hd;exact aH <| aP (aR rfl (hd 2 _ rfl (aj rfl)) Tryz.underlying5 ((hB.cell (p:=⟨w.heap.size+1,m / 8,none⟩) hBl).trans hce)) rfl
    ·intro a w2 hB hF hd;exact aH <| dJ rfl (hF.same 6 rfl)
    ·intro a w2 hB hF hd;exact aH <| aP (Go.aZ.oM rfl (hd 4 _ rfl (aj rfl)) rfl (by decide)) (congrArg (Value.int .i64) (hr))
    ·intro a w2 hB hF hd;exact aH <| aP (qh rfl (hd 5 _ rfl (aj rfl)) Tryz.underlying3 Tryz.underlying212) (congrArg (Value.int .u64) (hc))
    ·intro a w2 hB hF hd;exact aH <| aP (Go.aZ.qU rfl (hd 3 _ rfl (aj rfl)) (hd 6 _ rfl (aj rfl)) (by omega)) (congrArg (Value.int .u8) (hsh))
    ·intro a w2 hB hF hd;exact aH <| aP (Go.aZ.lK rfl (hd 7 _ rfl (aj rfl)) rfl) (congrArg (Value.int .u8) (hand))
    ·intro a w2 hB hF hd;refine aH <| aP (Go.aZ.fI rfl (hd 8 _ rfl (aj rfl)) rfl) ?_;exact rfl
   ·intro a w5 hB hF hS;have ha:=aI rfl rfl hF [_,_,_,_,_,_,_,_,_,_] rfl ⟨hS 0 _ rfl,hS 1 _ rfl,hS 2 _ rfl,hS 3 _ rfl,hS 4 _ rfl,hS 5 _ rfl,hS 6 _ rfl,hS 7 _ rfl,hS 8 _ rfl,hS 9 _ rfl,trivial⟩;simp only [puts,Act.put,dQ,dR,dS] at ha;subst ha;clear hS hF;have sU:=hA.below hB hA.lt;have hB5:=hB'.below hB hB'.lt;have nV:=hZ.below hB hZ.lt;have hO5:=hO.below hB hO.lt;have fM:=hbel.trans (hB.mono hbel.size);clear hA hB' hZ hO hbel hB hq hr hc hsh hand hce hpl;by_cases hbit:N / 2 ^ m % 2=1
    ·have hbb:(N / 2 ^ m % 2==1)=true:=by rw [hbit];rfl
     rw [if_pos hbit] at HST;clear hbit
     go_wp2_with (first
      | (refine aY rfl 191 (.tmp 5) rfl .i64 b 16 _ bZ rfl bC rfl hO5 ?_)
      | (refine aY rfl 191 (.tmp 2) rfl .i64 w.heap.size 16 _ bZ rfl bC rfl sU ?_))
     refine (bI (aM g g) f _ _ (HP.out.aM HP.out) HF.out _).mono ?_;rintro e w6 ⟨rfl,hb6⟩;have QG:=sU.kept hb6;have hB6:=hB5.kept hb6;have vT:=nV.kept hb6;have hO6:=hO5.kept hb6;have iO:=fM.trans (hb6.mono fM.size);clear sU hB5 nV hO5 fM hb6;go_wp2_with (refine aG rfl 191 _ _ rfl .i64 b 16 _ _ bC rfl rfl hO6 ?_);go_roundw
     case rel=> exact ⟨m,by omega,by go_num,aF.aA QG _ (by omega) _,aF.aA hB6 _ (by omega) _,aF.aA vT _ (by omega) _,by rw [HST.out];exact aF.setRow hO6 _ _,ay iO (by omega) _⟩
     case measure=> simp [intOf] <;> omega
    ·have hbb:(N / 2 ^ m % 2==1)=false:=by simpa using hbit
     rw [if_neg hbit] at HST;clear hbit;go_wp2;go_roundw
     case rel=> exact ⟨m,by omega,by go_num,sU,hB5,nV,by rw [HST.out];exact hO5,fM⟩
     case measure=> simp [intOf] <;> omega
theorem oW (l:Int) (s:Nat) (h0:1<=l) (h1:l<=255) (hs:s<=8) (w:World):
  Calls Tryz.prog 248 #[.int .u8 l,.int .u64 s] w fun e w'=> e=.returned (.agg (arr .u8 32 (dg 256 ((2 ^ 255 - l) / 2 ^ s))))/\Below w.heap.size w w':=by
 have HD:=ak (KL h0 h1);obtain ⟨M,hM⟩:∃M:Int,M=2 ^ 255 - l:=⟨_,rfl⟩
 have hMb:0<=M/\M<256 ^ 32:=by (rw [hM];have e:(256:Int) ^ 32=2 * 2 ^ 255:=by decide);(rw [e];have:(255:Int)<2 ^ 255:=by decide);omega
 rw [<-hM] at HD ⊢;have HMB:=ak hMb;have hneg:IntKind.u8.wrap (-l)=256 - l:=by rw [IntKind.wrap_u8];omega
 have HN:=ak hneg;clear hM hMb hneg
 go_enter Tryz.func248,Tryz.ntmps248
 go_wp2
 go_loopw [8] (fun i wr=> ∃k:Nat,k<=32/\i=.int .i64 k/\aF .u8 wr w.heap.size 32 (fun _=> 0)/\aF .u8 wr (w.heap.size+1) 32 (upto k (fun _=> 255) (fun _=> 0))/\Below w.heap.size w wr) (fun i _=> 32 - (intOf i).toNat)
 case atStart=> exact ⟨0,iY _,rfl,aF.alloc (bM (by first | omega | (simp<;> omega)) (by rfl)) _,by rw [dB];exact bM (by first | omega | (simp<;> omega)) (by rfl),((bN _ _).alloc (bA _) _).alloc (by simp) _⟩
 case round=>
  obtain ⟨k,hk,rfl,hZ,hA,hbel⟩:=hrel;by_cases hlt:k<32
  ·have e1:=hA.cell k hlt;have f1:=hA.free k;have HA:=ak hA;have HZ:=ak hZ;clear hA hZ;go_wp2;go_roundw
   case rel=> exact ⟨k+1,by omega,by go_num,HZ.out.other (by first | omega | (simp<;> omega)) _,by rw [<-bR rfl];exact HA.out.set k _,hbel.setCell (by first | omega | (simp<;> omega)) _⟩
   case measure=> simp [intOf] <;> omega
  ·obtain rfl:k=32:=by omega
   have hA2:=hA.congr (dY _ _ (bA _));have e0:=hA2.cell 0 (by decide);have e31:=hA2.cell 31 (by decide);have f0:=hA2.free 0;have f31:=hA2.free 31;have HA:=ak hA2;have HZ:=ak hZ;have HB:=ak hbel;clear hA hA2 hZ hbel;have hneg:=HN.out;go_upto_region 8 with (fail)
   refine aD (fun w1=> aF .u8 w1 w.heap.size 32 (fun _=> 0)/\aF .u8 w1 (w.heap.size+1) 32 (dg 256 M)/\Below w.heap.size w w1)
    ⟨(HZ.out.other (by first | omega | (simp<;> omega)) _).other (by first | omega | (simp<;> omega)) _,((HA.out.set 0 (256 - l)).set 31 127).congr HD.out,(HB.out.setCell (by first | omega | (simp<;> omega)) _).setCell (by first | omega | (simp<;> omega)) _⟩ ?_
   rintro w1 ⟨hZ,hA,hbel⟩;clear e0 e31 f0 f31 HA HZ HB hneg;go_wp2
   go_loopw [19] (fun i wr=> ∃j:Nat,j<=s/\i=.int .u64 j/\aF .u8 wr w.heap.size 32 (fun _=> 0)/\aF .u8 wr (w.heap.size+1) 32 (dg 256 (M / 2 ^ j))/\Below w.heap.size w wr) (fun i _=> s - (intOf i).toNat)
   case atStart=> exact ⟨0,iY _,rfl,hZ,by rw [Int.pow_zero,Int.ediv_one];exact hA,hbel⟩
   case round=>
    clear hZ hA hbel;obtain ⟨j,hj,rfl,hZ,hA,hbel⟩:=hrel;by_cases hlt2:j<s
    ·obtain ⟨Y,hY⟩:∃Y,Y=M / 2 ^ j:=⟨_,rfl⟩
     have hY2:M / 2 ^ (j+1)=Y / 2:=by rw [hY,iV (by decide)]
     have hYb:0<=Y/\Y<256 ^ 32:=by rw [hY];exact ⟨Int.ediv_nonneg HMB.out.1 (Int.le_of_lt (gB (by decide) _)),Int.lt_of_le_of_lt (Int.ediv_le_self _ HMB.out.1) HMB.out.2⟩
     rw [<-hY] at hA;have HY2:=ak hY2;have HYB:=ak hYb;have HZ:=ak hZ;have HA:=ak hA;have HB:=ak hbel;clear hY hY2 hYb hZ hA hbel;go_wp2
     go_loopw [21] (fun i wr=> ∃k:Nat,k<=32/\i=.int .i64 k/\aF .u8 wr w.heap.size 32 (fun _=> 0)/\aF .u8 wr (w.heap.size+1) 32 (upto k (dg 256 (Y / 2)) (dg 256 Y))/\Below w.heap.size w wr) (fun i _=> 32 - (intOf i).toNat)
     case atStart=> exact ⟨0,iY _,rfl,HZ.out,by rw [dB];exact HA.out,HB.out⟩
     case round=>
      clear HZ HA HB;obtain ⟨k,hk,rfl,hZ,hA,hbel⟩:=hrel;by_cases hlt3:k<32
      ·have e1:=hA.cell k hlt3;have f1:=hA.free k;rw [upto_at] at e1;obtain ⟨a0,a1⟩:=bE (by decide:(0:Int)<256) Y k;obtain ⟨c0,c1⟩:=bE (by decide:(0:Int)<256) Y (k+1);have hh:=Ll Y k;obtain ⟨a,ha⟩:∃a,a=dg 256 Y k:=⟨_,rfl⟩
       obtain ⟨c,hc⟩:∃c,c=dg 256 Y (k+1):=⟨_,rfl⟩
       rw [<-ha] at e1 a0 a1 hh;rw [<-hc] at c0 c1 hh;have HH:=ak hh;have HC:=ak hc;clear hh ha;by_cases hk31:k<31
       ·have e2:=hA.cell (k+1) (by omega);have hu:upto k (dg 256 (Y / 2)) (dg 256 Y) (k+1)=c:=by rw [hc];exact if_neg (by omega)
        rw [hu] at e2;have HA:=ak hA;have HZ:=ak hZ;have HB:=ak hbel;have HU:=ak hu;clear hA hZ hbel hc hu;go_upto_region 14 with (fail)
        refine aD (fun w2=> aF .u8 w2 w.heap.size 32 (fun _=> 0)/\aF .u8 w2 (w.heap.size+1) 32 (upd (upto k (dg 256 (Y / 2)) (dg 256 Y)) k (a / 2))/\Below w.heap.size w w2)
         ⟨HZ.out.other (by first | omega | (simp<;> omega)) _,HA.out.set k _,HB.out.setCell (by first | omega | (simp<;> omega)) _⟩ ?_
        rintro w2 ⟨hZ2,hA2,hb2⟩;have e3:=hA2.cell (k+1) (by omega);rw [upd_ne _ _ (by omega),HU.out] at e3;have e4:=hA2.cell k hlt3;have f4:=hA2.free k;rw [kC] at e4;have hor:=Go.aZ.u8_or128 (a:=a / 2) (b:=c % 2) (by omega) (by omega) (by omega) (by omega);have hmm:c * 128 % 256=c % 2 * 128:=by omega
        rw [<-hmm] at hor;have HMM:=ak hmm;have HA2:=ak hA2;clear e1 e2 f1 HA HZ HB hA2 hmm;go_wp2
        go_region
        all_goals
         go_wp2;go_roundw
         case rel=> exact ⟨k+1,by omega,by go_num,(hZ2.other (by first | omega | (simp<;> omega)) _).drew,by have h3:=(HA2.out.set k (a / 2+c * 128 % 256)).drew;rw [HMM.out] at h3;rw [HMM.out,←bR HH.out.symm];exact h3.congr (fun i _=> tQ _ _ _ _ i),(hb2.setCell (by first | omega | (simp<;> omega)) _).drew⟩
         case measure=> simp [intOf] <;> omega
       ·obtain rfl:k=31:=by omega
        have hc0:c=0:=by rw [hc];exact IK HYB.out
        have HH2:Hid (a / 2=dg 256 (Y / 2) 31):=by show _= _;have:=HH.out;omega
        have HA:=ak hA;have HZ:=ak hZ;have HB:=ak hbel;clear hA hZ hbel hc hc0;go_wp2;go_roundw
        case rel=> exact ⟨32,by omega,by go_num,HZ.out.other (by first | omega | (simp<;> omega)) _,by rw [<-bR HH2.out];exact HA.out.set 31 _,HB.out.setCell (by first | omega | (simp<;> omega)) _⟩
        case measure=> simp [intOf] <;> omega
      ·obtain rfl:k=32:=by omega
       have hA2:=hA.congr (dY _ _ (bA _));clear hA;go_wp2;go_roundw
       case rel=> exact ⟨j+1,by omega,by go_num,hZ,by rw [HY2.out];exact hA2,hbel⟩
       case measure=> simp [intOf] <;> omega
    ·obtain rfl:j=s:=by omega
     go_wp2_with (first
      | (refine aQ rfl 22 _ rfl .u8 (w.heap.size+1) 32 _ 5 gH eT rfl hA ?_)
      | (refine aG rfl 22 _ _ rfl .u8 w.heap.size 32 (fun _=> 0) _ eT rfl rfl hZ ?_))
     exact bodyPost_ret (bG rfl _ _ .u8 w.heap.size 32 _ 5 rfl (hZ.setRow _ _) gH eT) rfl ⟨rfl,ay hbel (bA _) _⟩
theorem XY:((2 ^ 255 - 21) / 2 ^ 0:Int)=((PN - 2:Nat):Int):=by decide
theorem kS:(0:Int)<=((PN - 2:Nat):Int)/\((PN - 2:Nat):Int)<2 ^ 256:=by decide
theorem KJ (w:World):Calls Tryz.prog 248 #[.int .u8 21,.int .u64 0] w fun e w'=> e=.returned (.agg (arr .u8 32 (dg 256 ((PN - 2:Nat):Int))))/\Below w.heap.size w w':=by
 have h:=oW 21 0 (by decide) (by decide) (by decide) w;rw [XY] at h;exact h
def ji (f:Nat->Int):Nat->Int:=Ea f ((PN - 2:Nat):Int)
def vP (X:Int):Int:=X ^ (PN - 2)
theorem jB {f:Nat->Int} {X:Int} (hf:Fe f X):Fe (ji f) (vP X):=by
 unfold vP;have h:=hf.Ea kS.1 kS.2
 rwa [Jt] at h
theorem jw (f:Nat->Int) (X:Int) (hf:Fe f X) (w:World):
  Calls Tryz.prog 204 #[El f] w fun e w'=> e=.returned (El (ji f))/\Below w.heap.size w w':=by
 have HF:=ak hf;clear hf;unfold El
 go_enter Tryz.func204,Tryz.ntmps204
 go_wp2
 refine aD (fun w1=> aF .i64 w1 w.heap.size 16 f/\aF .i64 w1 (w.heap.size+1) 16 (fun _=> 0)/\Below w.heap.size w w1)
  ⟨aF.alloc (bM (by first | omega | (simp<;> omega)) (by rfl)) _,bM (by first | omega | (simp<;> omega)) (by rfl),((bN _ _).alloc (bA _) _).alloc (by simp) _⟩ ?_
 rintro w1 ⟨hA,hZ,hbel⟩
 refine dw (n:=6) (fun i=> i==3) (by kernel_rfl) (by kernel_rfl) (by kernel_rfl) (by kernel_rfl) rfl
  (fun ii vv _=> (match ii with | 0=> vv=.agg (arr .i64 16 (f)) | 1=> vv=.agg (arr .u8 32 (dg 256 ((PN - 2:Nat):Int))) | 2=> vv=.agg (arr .i64 16 (ji f)) | _=> True))
  (fun w w'=> Below w.heap.size w w') (fun _ _ h=> h) (fun _ _ _ _ h _=> h)
  (fun _=> (w.heap.size+1)) (fun _=> (arr .i64 16 (fun _=> 0))) (fun _=> (arr .i64 16 (ji f)))
  (by intro i j _ _ hpi iI hne;simp only [beq_iff_eq] at hpi iI;omega)
  (by intro i _ hpi;exact (hZ).row)
  ?_ ?_ ?_
 ·refine cO ?_;refine ⟨?_,?_,?_,(aJ),trivial⟩
  ·intro _ a w2 hB hF hd;exact aH <| aP (aB rfl bZ rfl bC (hF.same 1 rfl) (hA.below hB hA.lt)) rfl
  ·intro _ a w2 hB hF hd;refine aH <| aC _ _ _ rfl Tryz.call248 _ (args2 rfl rfl) (by simp) ((KJ w2).mono ?_);rintro e w3 ⟨rfl,hb⟩;exact ⟨_,rfl,rfl,hb⟩
  ·intro _ a w2 hB hF hd;refine aH <| aC _ _ _ rfl Tryz.call247 _ (args2 (hd 0 _ rfl rfl (aj rfl)) (hd 1 _ rfl rfl (aj rfl))) (by simp) ((qG f X ((PN - 2:Nat):Int) HF.out kS.1 kS.2 w2).mono ?_);rintro e w3 ⟨rfl,hb⟩;exact ⟨_,rfl,rfl,hb⟩
 ·refine cO ?_;refine ⟨(aJ),(aJ),(aJ),?_,trivial⟩
  ·intro _ a w1 w2 K hB hF hS hr hK;exact aX 191 _ _ rfl .i64 ((w.heap.size+1)) 16 (fun _=> 0) (ji f) bC (hF.same 2 rfl) (hS 2 _ rfl rfl) hr hK
 ·intro a wf w3 hB hF hS hfil;have other:∀{k:IntKind} {qb n:Nat} {f:Nat->Int},qb≠(w.heap.size+1)->aF k wf qb n f->aF k w3 qb n f:=fun {k qb n f} e0 hA=> hfil.arr (by intro i _ hpi;simp only [jG,beq_iff_eq] at hpi;subst hpi<;> ((try simp only []);(try dsimp only);omega)) hA;have dF:∀{B:Nat} {w0:World},B<=(w.heap.size+1)->Below B w0 wf->Below B w0 w3:=fun {B w0} e0 hA=> hfil.below (by intro i _ hpi;simp only [jG,beq_iff_eq] at hpi;subst hpi<;> ((try simp only []);(try dsimp only);omega)) hA;have V3:aF .i64 w3 ((w.heap.size+1)) 16 (ji f):=hfil.at 3 (by decide) rfl;have qz:=hfil.size;clear hfil;have ha:=aI rfl rfl hF [_,_,_,undef] rfl ⟨hS 0 _ rfl rfl,hS 1 _ rfl rfl,hS 2 _ rfl rfl,trivial,trivial⟩;simp only [puts,Act.put,dQ,dR,dS] at ha;subst ha;clear hS hF;have hb:=dF (by omega) (hbel.trans (hB.mono hbel.size));clear hA hZ hbel hB other dF;go_wp2;exact bodyPost_ret (dn rfl _ _ .i64 (w.heap.size+1) 16 _ rfl V3 bZ rfl bC) rfl ⟨rfl,hb⟩
theorem Lu (f g:Nat->Int) (X Y:Int) (hf:Fe f X) (hg:Fe g Y) (w:World):
  Calls Tryz.prog 201 #[El f,El g,.bool true] w fun e w'=> e=.returned (.tuple #[El g,El f])/\Below w.heap.size w w':=by
 have C1:∀w,Calls Tryz.prog 243 #[El f,El g,.int .i64 1] w fun e w'=> e=.returned (El g)/\Below w.heap.size w w':=fun w=> jT f g 1 (by decide) (fun i hi=> by have:=hf.1.bound i hi;omega) (fun i hi=> by have:=hg.1.bound i hi;omega) w;have C2:∀w,Calls Tryz.prog 243 #[El g,El f,.int .i64 1] w fun e w'=> e=.returned (El f)/\Below w.heap.size w w':=fun w=> jT g f 1 (by decide) (fun i hi=> by have:=hg.1.bound i hi;omega) (fun i hi=> by have:=hf.1.bound i hi;omega) w;have K1:=ak C1;have K2:=ak C2;clear C1 C2 hf hg;unfold El
 go_enter Tryz.func201,Tryz.ntmps201
 go_wp2
 refine aD (fun w1=> aF .i64 w1 w.heap.size 16 f/\aF .i64 w1 (w.heap.size+1) 16 g/\aF .i64 w1 (w.heap.size+2) 16 (fun _=> 0)/\aF .i64 w1 (w.heap.size+3) 16 (fun _=> 0)/\Below w.heap.size w w1)
  ⟨aF.alloc (aF.alloc (aF.alloc (bM (by first | omega | (simp<;> omega)) (by rfl)) _) _) _,aF.alloc (aF.alloc (bM (by first | omega | (simp<;> omega)) (by rfl)) _) _,aF.alloc (bM (by first | omega | (simp<;> omega)) (by rfl)) _,bM (by first | omega | (simp<;> omega)) (by rfl),((((bN _ _).alloc (bA _) _).alloc (by simp) _).alloc (by simp;omega) _).alloc (by simp;omega) _⟩ ?_
 rintro w1 ⟨hA,hG,hZ,hY,hbel⟩
 refine dw (n:=18) (fun i=> i==8 || i==9) (by kernel_rfl) (by kernel_rfl) (by kernel_rfl) (by kernel_rfl) rfl
  (fun ii vv _=> (match ii with | 0 | 5 | 7=> vv=.agg (arr .i64 16 (f)) | 1 | 3 | 4=> vv=.agg (arr .i64 16 (g)) | 2 | 6=> vv=.int .i64 (1) | _=> True))
  (fun w w'=> Below w.heap.size w w') (fun _ _ h=> h) (fun _ _ _ _ h _=> h)
  (fun i=> match i with | 8=> (w.heap.size+2) | _=> (w.heap.size+3)) (fun i=> match i with | 8=> (arr .i64 16 (fun _=> 0)) | _=> (arr .i64 16 (fun _=> 0))) (fun i=> match i with | 8=> (arr .i64 16 (g)) | _=> (arr .i64 16 (f)))
  (by intro i j _ _ hpi iI hne;simp only [jG,beq_iff_eq] at hpi iI;rcases hpi with rfl | rfl<;> rcases iI with rfl | rfl<;> first | exact absurd rfl hne | (simp only [];omega))
  (by intro i _ hpi;simp only [jG,beq_iff_eq] at hpi;rcases hpi with rfl | rfl<;> first | exact (hZ).row | exact (hY).row)
  ?_ ?_ ?_
 ·refine cO ?_;refine ⟨?_,?_,?_,?_,?_,?_,?_,?_,(aJ),(aJ),trivial⟩
  ·intro _ a w2 hB hF hd;exact aH <| aP (aB rfl bZ rfl bC (hF.same 3 rfl) (hA.below hB hA.lt)) rfl
  ·intro _ a w2 hB hF hd;exact aH <| aP (aB rfl bZ rfl bC (hF.same 4 rfl) (hG.below hB hG.lt)) rfl
  ·intro _ a w2 hB hF hd;exact aH <| dJ rfl (hF.same 8 rfl)
  ·intro _ a w2 hB hF hd;refine aH <| aC _ _ _ rfl Tryz.call243 _ (sH (hd 0 _ rfl rfl (aj rfl)) (hd 1 _ rfl rfl (aj rfl)) (hd 2 _ rfl rfl (aj rfl))) (by simp) ((K1.out w2).mono ?_);rintro e w3 ⟨rfl,hb⟩;exact ⟨_,rfl,rfl,hb⟩
  ·intro _ a w2 hB hF hd;exact aH <| aP (aB rfl bZ rfl bC (hF.same 4 rfl) (hG.below hB hG.lt)) rfl
  ·intro _ a w2 hB hF hd;exact aH <| aP (aB rfl bZ rfl bC (hF.same 3 rfl) (hA.below hB hA.lt)) rfl
  ·intro _ a w2 hB hF hd;exact aH <| dJ rfl (hF.same 8 rfl)
  ·intro _ a w2 hB hF hd;refine aH <| aC _ _ _ rfl Tryz.call243 _ (sH (hd 4 _ rfl rfl (aj rfl)) (hd 5 _ rfl rfl (aj rfl)) (hd 6 _ rfl rfl (aj rfl))) (by simp) ((K2.out w2).mono ?_);rintro e w3 ⟨rfl,hb⟩;exact ⟨_,rfl,rfl,hb⟩
 ·refine cO ?_;refine ⟨(aJ),(aJ),(aJ),(aJ),(aJ),(aJ),(aJ),(aJ),?_,?_,trivial⟩
  ·intro _ a w1 w2 K hB hF hS hr hK;exact aX 191 _ _ rfl .i64 ((w.heap.size+2)) 16 (fun _=> 0) (g) bC (hF.same 6 rfl) (hS 3 _ rfl rfl) hr hK
  ·intro _ a w1 w2 K hB hF hS hr hK;exact aX 191 _ _ rfl .i64 ((w.heap.size+3)) 16 (fun _=> 0) (f) bC (hF.same 7 rfl) (hS 7 _ rfl rfl) hr hK
 ·intro a wf w3 hB hF hS hfil;have other:∀{k:IntKind} {qb n:Nat} {f:Nat->Int},qb≠(w.heap.size+2)->qb≠(w.heap.size+3)->aF k wf qb n f->aF k w3 qb n f:=fun {k qb n f} e0 e1 hA=> hfil.arr (by intro i _ hpi;simp only [jG,beq_iff_eq] at hpi;rcases hpi with rfl | rfl<;> ((try simp only []);(try dsimp only);omega)) hA;have dF:∀{B:Nat} {w0:World},B<=(w.heap.size+2)->B<=(w.heap.size+3)->Below B w0 wf->Below B w0 w3:=fun {B w0} e0 e1 hA=> hfil.below (by intro i _ hpi;simp only [jG,beq_iff_eq] at hpi;rcases hpi with rfl | rfl<;> ((try simp only []);(try dsimp only);omega)) hA;have V8:aF .i64 w3 ((w.heap.size+2)) 16 (g):=hfil.at 8 (by decide) rfl;have V9:aF .i64 w3 ((w.heap.size+3)) 16 (f):=hfil.at 9 (by decide) rfl;have qz:=hfil.size;clear hfil;have ha:=aI rfl rfl hF [_,_,_,_,_,_,_,_,undef,undef] rfl ⟨hS 0 _ rfl rfl,hS 1 _ rfl rfl,hS 2 _ rfl rfl,hS 3 _ rfl rfl,hS 4 _ rfl rfl,hS 5 _ rfl rfl,hS 6 _ rfl rfl,hS 7 _ rfl rfl,trivial,trivial,trivial⟩;simp only [puts,Act.put,dQ,dR,dS] at ha;subst ha;clear hS hF;have hb:=dF (by omega) (by omega) (hbel.trans (hB.mono hbel.size));clear hA hG hZ hY hbel hB other dF;go_wp2;exact bodyPost_ret (oO rfl _ _ .i64 (w.heap.size+2) 16 _ .i64 (w.heap.size+3) 16 _ rfl V8 bZ rfl bC rfl V9 bZ rfl bC) rfl ⟨rfl,hb⟩
theorem Px (f g:Nat->Int) (X Y:Int) (hf:Fe f X) (hg:Fe g Y) (w:World):
  Calls Tryz.prog 201 #[El f,El g,.bool false] w fun e w'=> e=.returned (.tuple #[El f,El g])/\Below w.heap.size w w':=by
 have C1:∀w,Calls Tryz.prog 243 #[El f,El g,.int .i64 0] w fun e w'=> e=.returned (El f)/\Below w.heap.size w w':=fun w=> jT f g 0 (by decide) (fun i hi=> by have:=hf.1.bound i hi;omega) (fun i hi=> by have:=hg.1.bound i hi;omega) w;have C2:∀w,Calls Tryz.prog 243 #[El g,El f,.int .i64 0] w fun e w'=> e=.returned (El g)/\Below w.heap.size w w':=fun w=> jT g f 0 (by decide) (fun i hi=> by have:=hg.1.bound i hi;omega) (fun i hi=> by have:=hf.1.bound i hi;omega) w;have K1:=ak C1;have K2:=ak C2;clear C1 C2 hf hg;unfold El
 go_enter Tryz.func201,Tryz.ntmps201
 go_wp2
 refine aD (fun w1=> aF .i64 w1 w.heap.size 16 f/\aF .i64 w1 (w.heap.size+1) 16 g/\aF .i64 w1 (w.heap.size+2) 16 (fun _=> 0)/\aF .i64 w1 (w.heap.size+3) 16 (fun _=> 0)/\Below w.heap.size w w1)
  ⟨aF.alloc (aF.alloc (aF.alloc (bM (by first | omega | (simp<;> omega)) (by rfl)) _) _) _,aF.alloc (aF.alloc (bM (by first | omega | (simp<;> omega)) (by rfl)) _) _,aF.alloc (bM (by first | omega | (simp<;> omega)) (by rfl)) _,bM (by first | omega | (simp<;> omega)) (by rfl),((((bN _ _).alloc (bA _) _).alloc (by simp) _).alloc (by simp;omega) _).alloc (by simp;omega) _⟩ ?_
 rintro w1 ⟨hA,hG,hZ,hY,hbel⟩
 refine dw (n:=18) (fun i=> i==8 || i==9) (by kernel_rfl) (by kernel_rfl) (by kernel_rfl) (by kernel_rfl) rfl
  (fun ii vv _=> (match ii with | 0 | 3 | 5=> vv=.agg (arr .i64 16 (f)) | 1 | 4 | 7=> vv=.agg (arr .i64 16 (g)) | 2 | 6=> vv=.int .i64 (0) | _=> True))
  (fun w w'=> Below w.heap.size w w') (fun _ _ h=> h) (fun _ _ _ _ h _=> h)
  (fun i=> match i with | 8=> (w.heap.size+2) | _=> (w.heap.size+3)) (fun i=> match i with | 8=> (arr .i64 16 (fun _=> 0)) | _=> (arr .i64 16 (fun _=> 0))) (fun i=> match i with | 8=> (arr .i64 16 (f)) | _=> (arr .i64 16 (g)))
  (by intro i j _ _ hpi iI hne;simp only [jG,beq_iff_eq] at hpi iI;rcases hpi with rfl | rfl<;> rcases iI with rfl | rfl<;> first | exact absurd rfl hne | (simp only [];omega))
  (by intro i _ hpi;simp only [jG,beq_iff_eq] at hpi;rcases hpi with rfl | rfl<;> first | exact (hZ).row | exact (hY).row)
  ?_ ?_ ?_
 ·refine cO ?_;refine ⟨?_,?_,?_,?_,?_,?_,?_,?_,(aJ),(aJ),trivial⟩
  ·intro _ a w2 hB hF hd;exact aH <| aP (aB rfl bZ rfl bC (hF.same 3 rfl) (hA.below hB hA.lt)) rfl
  ·intro _ a w2 hB hF hd;exact aH <| aP (aB rfl bZ rfl bC (hF.same 4 rfl) (hG.below hB hG.lt)) rfl
  ·intro _ a w2 hB hF hd;exact aH <| dJ rfl (hF.same 8 rfl)
  ·intro _ a w2 hB hF hd;refine aH <| aC _ _ _ rfl Tryz.call243 _ (sH (hd 0 _ rfl rfl (aj rfl)) (hd 1 _ rfl rfl (aj rfl)) (hd 2 _ rfl rfl (aj rfl))) (by simp) ((K1.out w2).mono ?_);rintro e w3 ⟨rfl,hb⟩;exact ⟨_,rfl,rfl,hb⟩
  ·intro _ a w2 hB hF hd;exact aH <| aP (aB rfl bZ rfl bC (hF.same 4 rfl) (hG.below hB hG.lt)) rfl
  ·intro _ a w2 hB hF hd;exact aH <| aP (aB rfl bZ rfl bC (hF.same 3 rfl) (hA.below hB hA.lt)) rfl
  ·intro _ a w2 hB hF hd;exact aH <| dJ rfl (hF.same 8 rfl)
  ·intro _ a w2 hB hF hd;refine aH <| aC _ _ _ rfl Tryz.call243 _ (sH (hd 4 _ rfl rfl (aj rfl)) (hd 5 _ rfl rfl (aj rfl)) (hd 6 _ rfl rfl (aj rfl))) (by simp) ((K2.out w2).mono ?_);rintro e w3 ⟨rfl,hb⟩;exact ⟨_,rfl,rfl,hb⟩
 ·refine cO ?_;refine ⟨(aJ),(aJ),(aJ),(aJ),(aJ),(aJ),(aJ),(aJ),?_,?_,trivial⟩
  ·intro _ a w1 w2 K hB hF hS hr hK;exact aX 191 _ _ rfl .i64 ((w.heap.size+2)) 16 (fun _=> 0) (f) bC (hF.same 6 rfl) (hS 3 _ rfl rfl) hr hK
  ·intro _ a w1 w2 K hB hF hS hr hK;exact aX 191 _ _ rfl .i64 ((w.heap.size+3)) 16 (fun _=> 0) (g) bC (hF.same 7 rfl) (hS 7 _ rfl rfl) hr hK
 ·intro a wf w3 hB hF hS hfil;have other:∀{k:IntKind} {qb n:Nat} {f:Nat->Int},qb≠(w.heap.size+2)->qb≠(w.heap.size+3)->aF k wf qb n f->aF k w3 qb n f:=fun {k qb n f} e0 e1 hA=> hfil.arr (by intro i _ hpi;simp only [jG,beq_iff_eq] at hpi;rcases hpi with rfl | rfl<;> ((try simp only []);(try dsimp only);omega)) hA;have dF:∀{B:Nat} {w0:World},B<=(w.heap.size+2)->B<=(w.heap.size+3)->Below B w0 wf->Below B w0 w3:=fun {B w0} e0 e1 hA=> hfil.below (by intro i _ hpi;simp only [jG,beq_iff_eq] at hpi;rcases hpi with rfl | rfl<;> ((try simp only []);(try dsimp only);omega)) hA;have V8:aF .i64 w3 ((w.heap.size+2)) 16 (f):=hfil.at 8 (by decide) rfl;have V9:aF .i64 w3 ((w.heap.size+3)) 16 (g):=hfil.at 9 (by decide) rfl;have qz:=hfil.size;clear hfil;have ha:=aI rfl rfl hF [_,_,_,_,_,_,_,_,undef,undef] rfl ⟨hS 0 _ rfl rfl,hS 1 _ rfl rfl,hS 2 _ rfl rfl,hS 3 _ rfl rfl,hS 4 _ rfl rfl,hS 5 _ rfl rfl,hS 6 _ rfl rfl,hS 7 _ rfl rfl,trivial,trivial,trivial⟩;simp only [puts,Act.put,dQ,dR,dS] at ha;subst ha;clear hS hF;have hb:=dF (by omega) (by omega) (hbel.trans (hB.mono hbel.size));clear hA hG hZ hY hbel hB other dF;go_wp2;exact bodyPost_ret (oO rfl _ _ .i64 (w.heap.size+2) 16 _ .i64 (w.heap.size+3) 16 _ rfl V8 bZ rfl bC rfl V9 bZ rfl bC) rfl ⟨rfl,hb⟩
end Go.Proofs.YtpcjekgfnfjbpaaGreat
namespace Go.Proofs.YtpcjekgfnfjbpaaGreat
open Go.RowKit Go.aZ Go.ChangeShapes
attribute [local go_sem ↓] Go.wp_at_zero Go.wp_at_succ
theorem wZ (S:Int) (w:World):
  Calls Tryz.prog 198 #[.agg (arr .u8 32 (dg 256 S))] w fun e w'=> e=.returned (.agg (arr .u8 32 (dg 256 (dP S))))/\Below w.heap.size w w':=by
 have HQ:=ak (EM S);have HB:Hid (∀i,0<=dg 256 S i/\dg 256 S i<256):=fun i=> bE (by decide) S i;obtain ⟨F,hF⟩:∃F,F=dg 256 S:=⟨_,rfl⟩
 rw [<-hF] at HQ HB ⊢;clear hF
 go_enter Tryz.func198,Tryz.ntmps198
 go_upto_region 1 with (fail);refine aD (fun w1=> aF .u8 w1 w.heap.size 32 F/\aF .u8 w1 (w.heap.size+1) 32 (fun _=> 0)/\Below w.heap.size w w1) ⟨aF.alloc (bM rfl rfl) _,bM (by simp) (by rfl),((bN _ _).alloc (bA _) _).alloc (by simp) _⟩ ?_;rintro w1 ⟨hA,hZ,hb⟩;have e0:=hA.cell 0 (by decide);have f0:=hA.free 0;obtain ⟨x0,x1⟩:=HB.out 0;obtain ⟨x,hx⟩:∃x,x=F 0:=⟨_,rfl⟩
 rw [<-hx] at e0 x0 x1;have a1:=YI x x0 x1;have HX:=ak hx;have HA:=ak hA;clear hx hA;go_upto_region 2 with (fail);refine aD (fun w2=> aF .u8 w2 w.heap.size 32 (upd F 0 (x / 8 * 8))/\aF .u8 w2 (w.heap.size+1) 32 (fun _=> 0)/\Below w.heap.size w w2) ⟨HA.out.set 0 _,hZ.other (by first | omega | (simp<;> omega)) _,hb.setCell (by first | omega | (simp<;> omega)) _⟩ ?_;rintro w2 ⟨hA2,hZ2,hb2⟩;have e1:=hA2.cell 31 (by decide);have f1:=hA2.free 31;obtain ⟨y0,y1⟩:=HB.out 31;obtain ⟨y,hy⟩:∃y,y=F 31:=⟨_,rfl⟩
 rw [upd_ne _ _ (by decide),←hy] at e1;rw [<-hy] at y0 y1;have a2:=YJ y y0 y1;have a3:=aeQ (y % 128) (by omega) (by omega);have a4:y % 128 % 64+64=y % 64+64:=by omega
 rw [a4] at a3;have HY:=ak hy;have HA2:=ak hA2;clear hy hA2 e0 f0 hZ hb a4 a1;go_upto_region 3 with (fail);refine aD (fun w3=> aF .u8 w3 w.heap.size 32 (dg 256 (dP S))/\aF .u8 w3 (w.heap.size+1) 32 (fun _=> 0)/\Below w.heap.size w w3) ⟨((HA2.out.set 31 (y % 64+64)).congr (fun i hi=> by rw [HX.out,HY.out];exact HQ.out i hi)),hZ2.other (by first | omega | (simp<;> omega)) _,hb2.setCell (by first | omega | (simp<;> omega)) _⟩ ?_;rintro w3 ⟨hA3,hZ3,hb3⟩;clear e1 f1 hZ2 hb2
 go_wp2_with (first
  | (refine aQ rfl 22 _ rfl .u8 w.heap.size 32 (dg 256 (dP S)) 5 gH eT rfl hA3 ?_)
  | (refine aG rfl 22 _ _ rfl .u8 (w.heap.size+1) 32 (fun _=> 0) (dg 256 (dP S)) eT rfl rfl hZ3 ?_))
 exact bodyPost_ret (bG rfl _ _ .u8 (w.heap.size+1) 32 _ 5 rfl (hZ3.setRow _ _) gH eT) rfl ⟨rfl,ay hb3 (by omega) _⟩
theorem LQ {a:Act} (w:World):(Instr.build 22 ((#[(0,Operand.const (.int .u8 9))] :Array (Nat × Operand)).map fun (i,x)=> (i,a.eval x))).run Tryz.prog w=.ok (.agg (arr .u8 32 (dg 256 9))) w:=by
 simp only [vg,List.map_cons,List.map_nil,Act.eval];rw [Go.run_build w _ _ (arr .u8 32 (dg 256 9)) (by kernel_rfl)]
theorem KU (w:World):Calls Tryz.prog 142 #[] w fun e w'=> e=.returned (.agg (arr .u8 32 (dg 256 9)))/\Below w.heap.size w w':=by
 go_enter Tryz.func142,Tryz.ntmps142
 go_upto_region 1 with (fail);refine aD (fun w1=> aF .u8 w1 w.heap.size 32 (fun _=> 0)/\Below w.heap.size w w1) ⟨bM rfl (by rfl),(bN _ _).alloc (bA _) _⟩ ?_;rintro w1 ⟨hZ,hb⟩
 go_wp2_with (first
  | (refine eB rfl (eD rfl (LQ _)) ?_)
  | (refine aG rfl 22 _ _ rfl .u8 w.heap.size 32 (fun _=> 0) (dg 256 9) eT rfl rfl hZ ?_))
 exact bodyPost_ret (bG rfl _ _ .u8 w.heap.size 32 _ 5 rfl (hZ.setRow _ _) gH eT) rfl ⟨rfl,ay hb (bA _) _⟩
theorem LA:∀i,i<32->upto 3 (dg 256 121665) (fun _=> 0) i=dg 256 121665 i:=by
 have key:∀i:Fin 32,upto 3 (dg 256 121665) (fun _=> 0) i.val=dg 256 121665 i.val:=by decide+kernel
 exact fun i h=> key ⟨i,h⟩
def zS:Nat->Int:=dg 65536 (121665 % 2 ^ 255)
theorem EG:Fe zS 121665:=by have h:=Nv 121665;rwa [show (121665:Int) % 2 ^ 255=121665 by decide] at h
theorem Ep (w:World):Calls Tryz.prog 245 #[] w fun e w'=> e=.returned (El zS)/\Below w.heap.size w w':=by
 have HC:=ak (fun w=> IE 121665 w);unfold El;unfold El at HC;change Hid (∀w,Calls _ _ _ w fun e w'=> e=.returned (.agg (arr .i64 16 zS))/\_) at HC
 go_enter Tryz.func245,Tryz.ntmps245
 go_upto_region 2 with (fail);refine aD (fun w1=> aF .i64 w1 w.heap.size 16 (fun _=> 0)/\aF .u8 w1 (w.heap.size+1) 32 (upto 0 (dg 256 121665) (fun _=> 0))/\Below w.heap.size w w1) ⟨aF.alloc (bM rfl (by rfl)) _,by rw [dB];exact bM (by simp) (by rfl),((bN _ _).alloc (bA _) _).alloc (by simp) _⟩ ?_;rintro w1 ⟨hZ,hA,hb⟩;go_wp2
 go_loopw [4] (fun i wr=> ∃k:Nat,k<=3/\i=.int .i64 k/\aF .i64 wr w.heap.size 16 (fun _=> 0)/\aF .u8 wr (w.heap.size+1) 32 (upto k (dg 256 121665) (fun _=> 0))/\Below w.heap.size w wr) (fun i _=> 3 - (intOf i).toNat)
 case atStart=> exact ⟨0,iY _,rfl,hZ,hA,hb⟩
 case round=>
  clear hZ hA hb;obtain ⟨k,hk,rfl,hZ,hA,hb⟩:=hrel;rcases (by omega:k=0\/k=1\/k=2\/k=3) with rfl | rfl | rfl | rfl
  case inl=>
   have f1:=hA.free 0;have e1:=hA.cell 0 (by decide);have HA:=ak hA;clear hA;go_wp2;go_roundw
   case rel=> exact ⟨1,by omega,by rfl,hZ.other (by first | omega | (simp<;> omega)) _,by rw [<-bR (show dg 256 121665 0= _ from rfl)];exact HA.out.set _ _,hb.setCell (by first | omega | (simp<;> omega)) _⟩
   case measure=> simp [intOf] <;> omega
  case inr.inl=>
   have f1:=hA.free 1;have e1:=hA.cell 1 (by decide);have HA:=ak hA;clear hA;go_wp2;go_roundw
   case rel=> exact ⟨2,by omega,by rfl,hZ.other (by first | omega | (simp<;> omega)) _,by rw [<-bR (show dg 256 121665 1= _ from rfl)];exact HA.out.set _ _,hb.setCell (by first | omega | (simp<;> omega)) _⟩
   case measure=> simp [intOf] <;> omega
  case inr.inr.inl=>
   have f1:=hA.free 2;have e1:=hA.cell 2 (by decide);have HA:=ak hA;clear hA;go_wp2;go_roundw
   case rel=> exact ⟨3,by omega,by rfl,hZ.other (by first | omega | (simp<;> omega)) _,by rw [<-bR (show dg 256 121665 2= _ from rfl)];exact HA.out.set _ _,hb.setCell (by first | omega | (simp<;> omega)) _⟩
   case measure=> simp [intOf] <;> omega
  case inr.inr.inr=>
   have hA2:=hA.congr LA;go_wp2_with (refine aQ rfl 22 _ rfl .u8 (w.heap.size+1) 32 (dg 256 121665) 5 gH eT rfl hA2 ?_);refine (HC.out _).mono ?_;rintro e w3 ⟨rfl,hb3⟩;have hZ3:=hZ.kept hb3;have hb4:=hb.trans (hb3.mono hb.size);clear hZ hA hA2 hb hb3;go_wp2_with (refine aG rfl 191 _ _ rfl .i64 w.heap.size 16 (fun _=> 0) zS bC rfl rfl hZ3 ?_);exact bodyPost_ret (dn rfl _ _ .i64 w.heap.size 16 _ rfl (hZ3.setRow _ _) bZ rfl bC) rfl ⟨rfl,ay hb4 (bA _) _⟩
theorem KS (f2 k2 f3 k3 fu:Nat->Int) (A B C D U:Int) (h2:Fe f2 A) (i2:Fe k2 B) (h3:Fe f3 C) (i3:Fe k3 D) (hu:Fe fu U) (w:World):
  Calls Tryz.prog 202 #[El f2,El k2,El f3,El k3,El fu] w fun e w'=> ∃a b c d,e=.returned (.tuple #[El a,El b,El c,El d])/\(Fe a (dX A B)/\Fe b (dZ A B)/\Fe c (sX A B C D)/\Fe d (sZ U A B C D))/\Below w.heap.size w w':=by
 have H2:=ak h2;have I2:=ak i2;have H3:=ak h3;have I3:=ak i3;have HU:=ak hu;clear h2 i2 h3 i3 hu;unfold El
 go_enter Tryz.func202,Tryz.ntmps202
 go_upto_region 1 with (fail)
 refine aD (fun w1=> (aF .i64 w1 w.heap.size 16 f2/\aF .i64 w1 (w.heap.size+1) 16 k2/\aF .i64 w1 (w.heap.size+2) 16 f3/\aF .i64 w1 (w.heap.size+3) 16 k3/\aF .i64 w1 (w.heap.size+4) 16 fu)/\(aF .i64 w1 (w.heap.size+5) 16 (fun _=> 0)/\aF .i64 w1 (w.heap.size+6) 16 (fun _=> 0)/\aF .i64 w1 (w.heap.size+7) 16 (fun _=> 0)/\aF .i64 w1 (w.heap.size+8) 16 (fun _=> 0))/\Below w.heap.size w w1)
  ⟨⟨.alloc (.alloc (.alloc (.alloc (.alloc (.alloc (.alloc (.alloc (bM (by first | omega | (simp<;> omega)) (by rfl)) _) _) _) _) _) _) _) _,.alloc (.alloc (.alloc (.alloc (.alloc (.alloc (.alloc (bM (by first | omega | (simp<;> omega)) (by rfl)) _) _) _) _) _) _) _,.alloc (.alloc (.alloc (.alloc (.alloc (.alloc (bM (by first | omega | (simp<;> omega)) (by rfl)) _) _) _) _) _) _,.alloc (.alloc (.alloc (.alloc (.alloc (bM (by first | omega | (simp<;> omega)) (by rfl)) _) _) _) _) _,.alloc (.alloc (.alloc (.alloc (bM (by first | omega | (simp<;> omega)) (by rfl)) _) _) _) _⟩,
   ⟨.alloc (.alloc (.alloc (bM (by first | omega | (simp<;> omega)) (by rfl)) _) _) _,.alloc (.alloc (bM (by first | omega | (simp<;> omega)) (by rfl)) _) _,.alloc (bM (by first | omega | (simp<;> omega)) (by rfl)) _,bM (by first | omega | (simp<;> omega)) (by rfl)⟩,
   ((((((((((bN _ _).alloc (bA _) _).alloc (by first | omega | (simp<;> omega)) _).alloc (by first | omega | (simp<;> omega)) _).alloc (by first | omega | (simp<;> omega)) _).alloc (by first | omega | (simp<;> omega)) _).alloc (by first | omega | (simp<;> omega)) _).alloc (by first | omega | (simp<;> omega)) _).alloc (by first | omega | (simp<;> omega)) _).alloc (by first | omega | (simp<;> omega)) _)⟩ ?_
 rintro w1 ⟨⟨hA,hB',hC,hD,hE⟩,⟨Ud,hR2,Uc,QF⟩,hbel⟩;have hsz:w.heap.size+9<=w1.heap.size:=by have:=QF.lt;omega
 refine bB (n:=72) (by kernel_rfl) (by kernel_rfl) (by kernel_rfl) rfl
  (jh [(8,6),(9,7)]) (fJ [(8,6),(9,7)]) (fun _=> arr .i64 16 (fun _=> 0)) (fun i=> match i with | 6=> (arr .i64 16 (bU (f2) (k2))) | 7=> (arr .i64 16 (dU (f2) (k2))) | _=> #[]) (fun _=> 191) (fun i=> match i with | 6=> 14 | 7=> 15 | _=> 0)
  (fun ii vv _=> (match ii with | 0 | 3=> vv=.agg (arr .i64 16 (f2)) | 1 | 4=> vv=.agg (arr .i64 16 (k2)) | 2=> vv=.agg (arr .i64 16 (bU (f2) (k2))) | 5=> vv=.agg (arr .i64 16 (dU (f2) (k2))) | _=> True)) (fun _ _=> True) (fun _ _ _=> trivial) (fun _ _ _ _ _ _ _=> trivial) (fun _ _ _ _ h _=> h)
  (gF rfl) (eG rfl) ?_ ?_ ?_ ?_
 ·refine cO ?_;refine ⟨?_,?_,?_,?_,?_,?_,(fun h=> by cases h),(fun h=> by cases h),(fun _ h=> by cases h),(fun _ h=> by cases h),trivial⟩
  ·intro _ _ a w2 hB hF hd;exact aH <| aP (aB rfl bZ rfl bC (hF.same 5 rfl) (hA.below hB hA.lt)) rfl
  ·intro _ _ a w2 hB hF hd;exact aH <| aP (aB rfl bZ rfl bC (hF.same 6 rfl) (hB'.below hB hB'.lt)) rfl
  ·intro _ _ a w2 hB hF hd;refine aH <| aC _ _ _ rfl Tryz.call218 _ (args2 (hd 0 _ rfl rfl rfl (aj rfl)) (hd 1 _ rfl rfl rfl (aj rfl))) (by simp) ((gq _ _ _ _ H2.out I2.out w2).mono ?_);rintro e w3 ⟨rfl,hb⟩;exact ⟨_,rfl,rfl,hb⟩
  ·intro _ _ a w2 hB hF hd;exact aH <| aP (aB rfl bZ rfl bC (hF.same 5 rfl) (hA.below hB hA.lt)) rfl
  ·intro _ _ a w2 hB hF hd;exact aH <| aP (aB rfl bZ rfl bC (hF.same 6 rfl) (hB'.below hB hB'.lt)) rfl
  ·intro _ _ a w2 hB hF hd;refine aH <| aC _ _ _ rfl Tryz.call244 _ (args2 (hd 3 _ rfl rfl rfl (aj rfl)) (hd 4 _ rfl rfl rfl (aj rfl))) (by simp) ((iD _ _ _ _ H2.out I2.out w2).mono ?_);rintro e w3 ⟨rfl,hb⟩;exact ⟨_,rfl,rfl,hb⟩
 ·refine cO ?_;refine ⟨(fun h=> by cases h),(fun h=> by cases h),(fun h=> by cases h),(fun h=> by cases h),(fun h=> by cases h),(fun h=> by cases h),?_,?_,(fun h=> by cases h),(fun h=> by cases h),trivial⟩
  ·exact fun _=> ⟨rfl,rfl,fun a w2 K h=> aU rfl rfl Tryz.zeroValue191 (by simp) h⟩
  ·exact fun _=> ⟨rfl,rfl,fun a w2 K h=> aU rfl rfl Tryz.zeroValue191 (by simp) h⟩
 ·refine cO ?_;refine ⟨(fun _ h=> by cases h),(fun _ h=> by cases h),(fun _ h=> by cases h),(fun _ h=> by cases h),(fun _ h=> by cases h),(fun _ h=> by cases h),(fun _ h=> by cases h),(fun _ h=> by cases h),?_,?_,trivial⟩
  ·intro p hp;obtain rfl:6=p:=fO hp;exact ⟨rfl,rfl,⟨_,rfl⟩,aj rfl,fun a w2 b K hB hF hd hx hb h=> bD rfl rfl bC hx (hd 2 _ rfl rfl rfl (aj rfl)) hb h⟩
  ·intro p hp;obtain rfl:7=p:=fO hp;exact ⟨rfl,rfl,⟨_,rfl⟩,aj rfl,fun a w2 b K hB hF hd hx hb h=> bD rfl rfl bC hx (hd 5 _ rfl rfl rfl (aj rfl)) hb h⟩
 ·intro a w2 blk hB hF hS hv hfin dD;obtain ⟨v6,Ml,v6u⟩:=hv 6 _ rfl rfl;obtain ⟨v7,Dm,Wp⟩:=hv 7 _ rfl rfl;have ha:=aI rfl rfl hF [_,_,_,_,_,_,_,_,undef,undef] rfl ⟨hS 0 _ rfl rfl rfl,hS 1 _ rfl rfl rfl,hS 2 _ rfl rfl rfl,hS 3 _ rfl rfl rfl,hS 4 _ rfl rfl rfl,hS 5 _ rfl rfl rfl,v6,v7,trivial,trivial,trivial⟩;have f6:=hfin 8 _ 6 rfl rfl;have f7:=hfin 9 _ 7 rfl rfl;have UY:=dD 6 7 _ _ rfl rfl rfl rfl (by decide);simp only [puts,Act.put,dQ,dR,dS] at ha;subst ha;have V6:aF .i64 w2 (blk 6) 16 (bU (f2) (k2)):=⟨_,f6⟩
  have V7:aF .i64 w2 (blk 7) 16 (dU (f2) (k2)):=⟨_,f7⟩
  clear hS hv hfin dD hF v6 v7 f6 f7;replace hA:=hA.kept hB;replace hB':=hB'.kept hB;replace hC:=hC.kept hB;replace hD:=hD.kept hB;replace hE:=hE.kept hB;replace Ud:=Ud.kept hB;replace hR2:=hR2.kept hB;replace Uc:=Uc.kept hB;replace QF:=QF.kept hB;obtain ⟨bpl,abZ⟩:∃x,x=blk 6:=⟨_,rfl⟩
  obtain ⟨pl,hpl,Hpl⟩:∃x,x=bU f2 k2/\Hid (Fe x (A+B)):=⟨_,rfl,H2.out.bU I2.out⟩
  rw [<-hpl,←abZ] at V6;rw [<-abZ] at Ml ⊢;have lpl:w.heap.size+9<=bpl:=gQ hsz Ml;obtain ⟨bmi,acd⟩:∃x,x=blk 7:=⟨_,rfl⟩
  obtain ⟨mi,yB,Hmi⟩:∃x,x=dU f2 k2/\Hid (Fe x (A - B)):=⟨_,rfl,H2.out.dU I2.out⟩
  rw [<-yB,←acd] at V7;rw [<-acd] at Dm ⊢;have lmi:w.heap.size+9<=bmi:=gQ hsz Dm;replace hbel:=hbel.trans (hB.mono hbel.size);replace hsz:=gQ hsz hB.size;clear hB hpl abZ yB acd;have uN:=V6;clear V6 Ml v6u;have uO:=V7;clear V7 Dm Wp;go_upto_region 2 with (fail)
  refine bB (n:=72) (by kernel_rfl) (by kernel_rfl) (by kernel_rfl) rfl
   (jh [(8,6),(9,7)]) (fJ [(8,6),(9,7)]) (fun _=> arr .i64 16 (fun _=> 0)) (fun i=> match i with | 6=> (arr .i64 16 (aM (pl) (pl))) | 7=> (arr .i64 16 (aM (mi) (mi))) | _=> #[]) (fun _=> 191) (fun i=> match i with | 6=> 16 | 7=> 17 | _=> 0)
   (fun ii vv _=> (match ii with | 0 | 1=> vv=.agg (arr .i64 16 (pl)) | 2=> vv=.agg (arr .i64 16 (aM (pl) (pl))) | 3 | 4=> vv=.agg (arr .i64 16 (mi)) | 5=> vv=.agg (arr .i64 16 (aM (mi) (mi))) | _=> True)) (fun _ _=> True) (fun _ _ _=> trivial) (fun _ _ _ _ _ _ _=> trivial) (fun _ _ _ _ h _=> h)
   (gF rfl) (eG rfl) ?_ ?_ ?_ ?_
  ·refine cO ?_;refine ⟨?_,?_,?_,?_,?_,?_,(fun h=> by cases h),(fun h=> by cases h),(fun _ h=> by cases h),(fun _ h=> by cases h),trivial⟩
   ·intro _ _ a w2 hB hF hd;exact aH <| aP (aB rfl bZ rfl bC (hF.same 14 rfl) (uN.below hB uN.lt)) rfl
   ·intro _ _ a w2 hB hF hd;exact aH <| aP (aB rfl bZ rfl bC (hF.same 14 rfl) (uN.below hB uN.lt)) rfl
   ·intro _ _ a w2 hB hF hd;refine aH <| aC _ _ _ rfl Tryz.call203 _ (args2 (hd 0 _ rfl rfl rfl (aj rfl)) (hd 1 _ rfl rfl rfl (aj rfl))) (by simp) ((bI _ _ _ _ Hpl.out Hpl.out w2).mono ?_);rintro e w3 ⟨rfl,hb⟩;exact ⟨_,rfl,rfl,hb⟩
   ·intro _ _ a w2 hB hF hd;exact aH <| aP (aB rfl bZ rfl bC (hF.same 15 rfl) (uO.below hB uO.lt)) rfl
   ·intro _ _ a w2 hB hF hd;exact aH <| aP (aB rfl bZ rfl bC (hF.same 15 rfl) (uO.below hB uO.lt)) rfl
   ·intro _ _ a w2 hB hF hd;refine aH <| aC _ _ _ rfl Tryz.call203 _ (args2 (hd 3 _ rfl rfl rfl (aj rfl)) (hd 4 _ rfl rfl rfl (aj rfl))) (by simp) ((bI _ _ _ _ Hmi.out Hmi.out w2).mono ?_);rintro e w3 ⟨rfl,hb⟩;exact ⟨_,rfl,rfl,hb⟩
  ·refine cO ?_;refine ⟨(fun h=> by cases h),(fun h=> by cases h),(fun h=> by cases h),(fun h=> by cases h),(fun h=> by cases h),(fun h=> by cases h),?_,?_,(fun h=> by cases h),(fun h=> by cases h),trivial⟩
   ·exact fun _=> ⟨rfl,rfl,fun a w2 K h=> aU rfl rfl Tryz.zeroValue191 (by simp) h⟩
   ·exact fun _=> ⟨rfl,rfl,fun a w2 K h=> aU rfl rfl Tryz.zeroValue191 (by simp) h⟩
  ·refine cO ?_;refine ⟨(fun _ h=> by cases h),(fun _ h=> by cases h),(fun _ h=> by cases h),(fun _ h=> by cases h),(fun _ h=> by cases h),(fun _ h=> by cases h),(fun _ h=> by cases h),(fun _ h=> by cases h),?_,?_,trivial⟩
   ·intro p hp;obtain rfl:6=p:=fO hp;exact ⟨rfl,rfl,⟨_,rfl⟩,aj rfl,fun a w2 b K hB hF hd hx hb h=> bD rfl rfl bC hx (hd 2 _ rfl rfl rfl (aj rfl)) hb h⟩
   ·intro p hp;obtain rfl:7=p:=fO hp;exact ⟨rfl,rfl,⟨_,rfl⟩,aj rfl,fun a w2 b K hB hF hd hx hb h=> bD rfl rfl bC hx (hd 5 _ rfl rfl rfl (aj rfl)) hb h⟩
  ·intro a w3 blk hB hF hS hv hfin dD;obtain ⟨v6,Ml,v6u⟩:=hv 6 _ rfl rfl;obtain ⟨v7,Dm,Wp⟩:=hv 7 _ rfl rfl;have ha:=aI rfl rfl hF [_,_,_,_,_,_,_,_,undef,undef] rfl ⟨hS 0 _ rfl rfl rfl,hS 1 _ rfl rfl rfl,hS 2 _ rfl rfl rfl,hS 3 _ rfl rfl rfl,hS 4 _ rfl rfl rfl,hS 5 _ rfl rfl rfl,v6,v7,trivial,trivial,trivial⟩;have f6:=hfin 8 _ 6 rfl rfl;have f7:=hfin 9 _ 7 rfl rfl;have UY:=dD 6 7 _ _ rfl rfl rfl rfl (by decide);simp only [puts,Act.put,dQ,dR,dS] at ha;subst ha;have V6:aF .i64 w3 (blk 6) 16 (aM (pl) (pl)):=⟨_,f6⟩
   have V7:aF .i64 w3 (blk 7) 16 (aM (mi) (mi)):=⟨_,f7⟩
   clear hS hv hfin dD hF v6 v7 f6 f7;replace hA:=hA.kept hB;replace hB':=hB'.kept hB;replace hC:=hC.kept hB;replace hD:=hD.kept hB;replace hE:=hE.kept hB;replace Ud:=Ud.kept hB;replace hR2:=hR2.kept hB;replace Uc:=Uc.kept hB;replace QF:=QF.kept hB;replace uN:=uN.kept hB;replace uO:=uO.kept hB;obtain ⟨baa,Lh⟩:∃x,x=blk 6:=⟨_,rfl⟩
   obtain ⟨aa,haa,QI⟩:∃x,x=aM pl pl/\Hid (Fe x ((A+B) * (A+B))):=⟨_,rfl,Hpl.out.aM Hpl.out⟩
   rw [<-haa,←Lh] at V6;rw [<-Lh] at Ml ⊢;have laa:w.heap.size+9<=baa:=gQ hsz Ml;obtain ⟨bbb,Lg⟩:∃x,x=blk 7:=⟨_,rfl⟩
   obtain ⟨bb,hbb,YN⟩:∃x,x=aM mi mi/\Hid (Fe x ((A - B) * (A - B))):=⟨_,rfl,Hmi.out.aM Hmi.out⟩
   rw [<-hbb,←Lg] at V7;rw [<-Lg] at Dm ⊢;have lbb:w.heap.size+9<=bbb:=gQ hsz Dm;replace hbel:=hbel.trans (hB.mono hbel.size);replace hsz:=gQ hsz hB.size;clear hB haa Lh hbb Lg;have jW:=V6;clear V6 Ml v6u;have lN:=V7;clear V7 Dm Wp;go_upto_region 3 with (fail)
   refine bB (n:=72) (by kernel_rfl) (by kernel_rfl) (by kernel_rfl) rfl
    (jh [(4,3)]) (fJ [(4,3)]) (fun _=> arr .i64 16 (fun _=> 0)) (fun _=> (arr .i64 16 (dU (aa) (bb)))) (fun _=> 191) (fun _=> 18)
    (fun ii vv _=> (match ii with | 0=> vv=.agg (arr .i64 16 (aa)) | 1=> vv=.agg (arr .i64 16 (bb)) | 2=> vv=.agg (arr .i64 16 (dU (aa) (bb))) | _=> True)) (fun _ _=> True) (fun _ _ _=> trivial) (fun _ _ _ _ _ _ _=> trivial) (fun _ _ _ _ h _=> h)
    (gF rfl) (eG rfl) ?_ ?_ ?_ ?_
   ·refine cO ?_;refine ⟨?_,?_,?_,(fun h=> by cases h),(fun _ h=> by cases h),trivial⟩
    ·intro _ _ a w2 hB hF hd;exact aH <| aP (aB rfl bZ rfl bC (hF.same 16 rfl) (jW.below hB jW.lt)) rfl
    ·intro _ _ a w2 hB hF hd;exact aH <| aP (aB rfl bZ rfl bC (hF.same 17 rfl) (lN.below hB lN.lt)) rfl
    ·intro _ _ a w2 hB hF hd;refine aH <| aC _ _ _ rfl Tryz.call244 _ (args2 (hd 0 _ rfl rfl rfl (aj rfl)) (hd 1 _ rfl rfl rfl (aj rfl))) (by simp) ((iD _ _ _ _ QI.out YN.out w2).mono ?_);rintro e w3 ⟨rfl,hb⟩;exact ⟨_,rfl,rfl,hb⟩
   ·refine cO ?_;refine ⟨(fun h=> by cases h),(fun h=> by cases h),(fun h=> by cases h),?_,(fun h=> by cases h),trivial⟩
    ·exact fun _=> ⟨rfl,rfl,fun a w2 K h=> aU rfl rfl Tryz.zeroValue191 (by simp) h⟩
   ·refine cO ?_;refine ⟨(fun _ h=> by cases h),(fun _ h=> by cases h),(fun _ h=> by cases h),(fun _ h=> by cases h),?_,trivial⟩
    ·intro p hp;obtain rfl:3=p:=fO hp;exact ⟨rfl,rfl,⟨_,rfl⟩,aj rfl,fun a w2 b K hB hF hd hx hb h=> bD rfl rfl bC hx (hd 2 _ rfl rfl rfl (aj rfl)) hb h⟩
   ·intro a w4 blk hB hF hS hv hfin dD;obtain ⟨v3,Dn,NU⟩:=hv 3 _ rfl rfl;have ha:=aI rfl rfl hF [_,_,_,_,undef] rfl ⟨hS 0 _ rfl rfl rfl,hS 1 _ rfl rfl rfl,hS 2 _ rfl rfl rfl,v3,trivial,trivial⟩;have f3:=hfin 4 _ 3 rfl rfl;simp only [puts,Act.put,dQ,dR,dS] at ha;subst ha;have V3:aF .i64 w4 (blk 3) 16 (dU (aa) (bb)):=⟨_,f3⟩
    clear hS hv hfin dD hF v3 f3;replace hA:=hA.kept hB;replace hB':=hB'.kept hB;replace hC:=hC.kept hB;replace hD:=hD.kept hB;replace hE:=hE.kept hB;replace Ud:=Ud.kept hB;replace hR2:=hR2.kept hB;replace Uc:=Uc.kept hB;replace QF:=QF.kept hB;replace uN:=uN.kept hB;replace uO:=uO.kept hB;replace jW:=jW.kept hB;replace lN:=lN.kept hB;obtain ⟨bee,Lf⟩:∃x,x=blk 3:=⟨_,rfl⟩
    obtain ⟨ee,hee,YM⟩:∃x,x=dU aa bb/\Hid (Fe x ((A+B) * (A+B) - (A - B) * (A - B))):=⟨_,rfl,QI.out.dU YN.out⟩
    rw [<-hee,←Lf] at V3;rw [<-Lf] at Dn ⊢;have lee:w.heap.size+9<=bee:=gQ hsz Dn;replace hbel:=hbel.trans (hB.mono hbel.size);replace hsz:=gQ hsz hB.size;clear hB hee Lf;have vR:=V3;clear V3 Dn NU;go_upto_region 4 with (fail)
    refine bB (n:=72) (by kernel_rfl) (by kernel_rfl) (by kernel_rfl) rfl
     (jh [(12,10),(13,11)]) (fJ [(12,10),(13,11)]) (fun _=> arr .i64 16 (fun _=> 0)) (fun i=> match i with | 10=> (arr .i64 16 (aM (dU (f3) (k3)) (pl))) | 11=> (arr .i64 16 (aM (bU (f3) (k3)) (mi))) | _=> #[]) (fun _=> 191) (fun i=> match i with | 10=> 19 | 11=> 20 | _=> 0)
     (fun ii vv _=> (match ii with | 0 | 5=> vv=.agg (arr .i64 16 (f3)) | 1 | 6=> vv=.agg (arr .i64 16 (k3)) | 2=> vv=.agg (arr .i64 16 (dU (f3) (k3))) | 3=> vv=.agg (arr .i64 16 (pl)) | 4=> vv=.agg (arr .i64 16 (aM (dU (f3) (k3)) (pl))) | 7=> vv=.agg (arr .i64 16 (bU (f3) (k3))) | 8=> vv=.agg (arr .i64 16 (mi)) | 9=> vv=.agg (arr .i64 16 (aM (bU (f3) (k3)) (mi))) | _=> True)) (fun _ _=> True) (fun _ _ _=> trivial) (fun _ _ _ _ _ _ _=> trivial) (fun _ _ _ _ h _=> h)
     (gF rfl) (eG rfl) ?_ ?_ ?_ ?_
    ·refine cO ?_;refine ⟨?_,?_,?_,?_,?_,?_,?_,?_,?_,?_,(fun h=> by cases h),(fun h=> by cases h),(fun _ h=> by cases h),(fun _ h=> by cases h),trivial⟩
     ·intro _ _ a w2 hB hF hd;exact aH <| aP (aB rfl bZ rfl bC (hF.same 7 rfl) (hC.below hB hC.lt)) rfl
     ·intro _ _ a w2 hB hF hd;exact aH <| aP (aB rfl bZ rfl bC (hF.same 8 rfl) (hD.below hB hD.lt)) rfl
     ·intro _ _ a w2 hB hF hd;refine aH <| aC _ _ _ rfl Tryz.call244 _ (args2 (hd 0 _ rfl rfl rfl (aj rfl)) (hd 1 _ rfl rfl rfl (aj rfl))) (by simp) ((iD _ _ _ _ H3.out I3.out w2).mono ?_);rintro e w3 ⟨rfl,hb⟩;exact ⟨_,rfl,rfl,hb⟩
     ·intro _ _ a w2 hB hF hd;exact aH <| aP (aB rfl bZ rfl bC (hF.same 14 rfl) (uN.below hB uN.lt)) rfl
     ·intro _ _ a w2 hB hF hd;refine aH <| aC _ _ _ rfl Tryz.call203 _ (args2 (hd 2 _ rfl rfl rfl (aj rfl)) (hd 3 _ rfl rfl rfl (aj rfl))) (by simp) ((bI _ _ _ _ ((H3.out).dU I3.out) Hpl.out w2).mono ?_);rintro e w3 ⟨rfl,hb⟩;exact ⟨_,rfl,rfl,hb⟩
     ·intro _ _ a w2 hB hF hd;exact aH <| aP (aB rfl bZ rfl bC (hF.same 7 rfl) (hC.below hB hC.lt)) rfl
     ·intro _ _ a w2 hB hF hd;exact aH <| aP (aB rfl bZ rfl bC (hF.same 8 rfl) (hD.below hB hD.lt)) rfl
     ·intro _ _ a w2 hB hF hd;refine aH <| aC _ _ _ rfl Tryz.call218 _ (args2 (hd 5 _ rfl rfl rfl (aj rfl)) (hd 6 _ rfl rfl rfl (aj rfl))) (by simp) ((gq _ _ _ _ H3.out I3.out w2).mono ?_);rintro e w3 ⟨rfl,hb⟩;exact ⟨_,rfl,rfl,hb⟩
     ·intro _ _ a w2 hB hF hd;exact aH <| aP (aB rfl bZ rfl bC (hF.same 15 rfl) (uO.below hB uO.lt)) rfl
     ·intro _ _ a w2 hB hF hd;refine aH <| aC _ _ _ rfl Tryz.call203 _ (args2 (hd 7 _ rfl rfl rfl (aj rfl)) (hd 8 _ rfl rfl rfl (aj rfl))) (by simp) ((bI _ _ _ _ ((H3.out).bU I3.out) Hmi.out w2).mono ?_);rintro e w3 ⟨rfl,hb⟩;exact ⟨_,rfl,rfl,hb⟩
    ·refine cO ?_;refine ⟨(fun h=> by cases h),(fun h=> by cases h),(fun h=> by cases h),(fun h=> by cases h),(fun h=> by cases h),(fun h=> by cases h),(fun h=> by cases h),(fun h=> by cases h),(fun h=> by cases h),(fun h=> by cases h),?_,?_,(fun h=> by cases h),(fun h=> by cases h),trivial⟩
     ·exact fun _=> ⟨rfl,rfl,fun a w2 K h=> aU rfl rfl Tryz.zeroValue191 (by simp) h⟩
     ·exact fun _=> ⟨rfl,rfl,fun a w2 K h=> aU rfl rfl Tryz.zeroValue191 (by simp) h⟩
    ·refine cO ?_;refine ⟨(fun _ h=> by cases h),(fun _ h=> by cases h),(fun _ h=> by cases h),(fun _ h=> by cases h),(fun _ h=> by cases h),(fun _ h=> by cases h),(fun _ h=> by cases h),(fun _ h=> by cases h),(fun _ h=> by cases h),(fun _ h=> by cases h),(fun _ h=> by cases h),(fun _ h=> by cases h),?_,?_,trivial⟩
     ·intro p hp;obtain rfl:10=p:=fO hp;exact ⟨rfl,rfl,⟨_,rfl⟩,aj rfl,fun a w2 b K hB hF hd hx hb h=> bD rfl rfl bC hx (hd 4 _ rfl rfl rfl (aj rfl)) hb h⟩
     ·intro p hp;obtain rfl:11=p:=fO hp;exact ⟨rfl,rfl,⟨_,rfl⟩,aj rfl,fun a w2 b K hB hF hd hx hb h=> bD rfl rfl bC hx (hd 9 _ rfl rfl rfl (aj rfl)) hb h⟩
    ·intro a w5 blk hB hF hS hv hfin dD;obtain ⟨v10,QW,aar⟩:=hv 10 _ rfl rfl;obtain ⟨v11,yQ,QV⟩:=hv 11 _ rfl rfl;have ha:=aI rfl rfl hF [_,_,_,_,_,_,_,_,_,_,_,_,undef,undef] rfl ⟨hS 0 _ rfl rfl rfl,hS 1 _ rfl rfl rfl,hS 2 _ rfl rfl rfl,hS 3 _ rfl rfl rfl,hS 4 _ rfl rfl rfl,hS 5 _ rfl rfl rfl,hS 6 _ rfl rfl rfl,hS 7 _ rfl rfl rfl,hS 8 _ rfl rfl rfl,hS 9 _ rfl rfl rfl,v10,v11,trivial,trivial,trivial⟩;have f10:=hfin 12 _ 10 rfl rfl;have f11:=hfin 13 _ 11 rfl rfl;have ajS:=dD 10 11 _ _ rfl rfl rfl rfl (by decide);simp only [puts,Act.put,dQ,dR,dS] at ha;subst ha;have V10:aF .i64 w5 (blk 10) 16 (aM (dU (f3) (k3)) (pl)):=⟨_,f10⟩
     have VR:aF .i64 w5 (blk 11) 16 (aM (bU (f3) (k3)) (mi)):=⟨_,f11⟩
     clear hS hv hfin dD hF v10 v11 f10 f11;replace hA:=hA.kept hB;replace hB':=hB'.kept hB;replace hC:=hC.kept hB;replace hD:=hD.kept hB;replace hE:=hE.kept hB;replace Ud:=Ud.kept hB;replace hR2:=hR2.kept hB;replace Uc:=Uc.kept hB;replace QF:=QF.kept hB;replace uN:=uN.kept hB;replace uO:=uO.kept hB;replace jW:=jW.kept hB;replace lN:=lN.kept hB;replace vR:=vR.kept hB;obtain ⟨bda,acj⟩:∃x,x=blk 10:=⟨_,rfl⟩
     obtain ⟨da,hda,Hda⟩:∃x,x=aM (dU f3 k3) pl/\Hid (Fe x ((C - D) * (A+B))):=⟨_,rfl,(H3.out.dU I3.out).aM Hpl.out⟩
     rw [<-hda,←acj] at V10;rw [<-acj] at QW ⊢;have lda:w.heap.size+9<=bda:=gQ hsz QW;obtain ⟨bcb,aco⟩:∃x,x=blk 11:=⟨_,rfl⟩
     obtain ⟨cb,hcb,Hcb⟩:∃x,x=aM (bU f3 k3) mi/\Hid (Fe x ((C+D) * (A - B))):=⟨_,rfl,(H3.out.bU I3.out).aM Hmi.out⟩
     rw [<-hcb,←aco] at VR;rw [<-aco] at yQ ⊢;have lcb:w.heap.size+9<=bcb:=gQ hsz yQ;replace hbel:=hbel.trans (hB.mono hbel.size);replace hsz:=gQ hsz hB.size;clear hB hda acj hcb aco;have Pk:=V10;clear V10 QW aar;have Pn:=VR;clear VR yQ QV;go_upto_region 5 with (fail)
     refine bB (n:=72) (by kernel_rfl) (by kernel_rfl) (by kernel_rfl) rfl
      (jh [(8,6),(9,7)]) (fJ [(8,6),(9,7)]) (fun _=> arr .i64 16 (fun _=> 0)) (fun i=> match i with | 6=> (arr .i64 16 (bU (da) (cb))) | 7=> (arr .i64 16 (dU (da) (cb))) | _=> #[]) (fun _=> 191) (fun i=> match i with | 6=> 21 | 7=> 22 | _=> 0)
      (fun ii vv _=> (match ii with | 0 | 3=> vv=.agg (arr .i64 16 (da)) | 1 | 4=> vv=.agg (arr .i64 16 (cb)) | 2=> vv=.agg (arr .i64 16 (bU (da) (cb))) | 5=> vv=.agg (arr .i64 16 (dU (da) (cb))) | _=> True)) (fun _ _=> True) (fun _ _ _=> trivial) (fun _ _ _ _ _ _ _=> trivial) (fun _ _ _ _ h _=> h)
      (gF rfl) (eG rfl) ?_ ?_ ?_ ?_
     ·refine cO ?_;refine ⟨?_,?_,?_,?_,?_,?_,(fun h=> by cases h),(fun h=> by cases h),(fun _ h=> by cases h),(fun _ h=> by cases h),trivial⟩
      ·intro _ _ a w2 hB hF hd;exact aH <| aP (aB rfl bZ rfl bC (hF.same 19 rfl) (Pk.below hB Pk.lt)) rfl
      ·intro _ _ a w2 hB hF hd;exact aH <| aP (aB rfl bZ rfl bC (hF.same 20 rfl) (Pn.below hB Pn.lt)) rfl
      ·intro _ _ a w2 hB hF hd;refine aH <| aC _ _ _ rfl Tryz.call218 _ (args2 (hd 0 _ rfl rfl rfl (aj rfl)) (hd 1 _ rfl rfl rfl (aj rfl))) (by simp) ((gq _ _ _ _ Hda.out Hcb.out w2).mono ?_);rintro e w3 ⟨rfl,hb⟩;exact ⟨_,rfl,rfl,hb⟩
      ·intro _ _ a w2 hB hF hd;exact aH <| aP (aB rfl bZ rfl bC (hF.same 19 rfl) (Pk.below hB Pk.lt)) rfl
      ·intro _ _ a w2 hB hF hd;exact aH <| aP (aB rfl bZ rfl bC (hF.same 20 rfl) (Pn.below hB Pn.lt)) rfl
      ·intro _ _ a w2 hB hF hd;refine aH <| aC _ _ _ rfl Tryz.call244 _ (args2 (hd 3 _ rfl rfl rfl (aj rfl)) (hd 4 _ rfl rfl rfl (aj rfl))) (by simp) ((iD _ _ _ _ Hda.out Hcb.out w2).mono ?_);rintro e w3 ⟨rfl,hb⟩;exact ⟨_,rfl,rfl,hb⟩
     ·refine cO ?_;refine ⟨(fun h=> by cases h),(fun h=> by cases h),(fun h=> by cases h),(fun h=> by cases h),(fun h=> by cases h),(fun h=> by cases h),?_,?_,(fun h=> by cases h),(fun h=> by cases h),trivial⟩
      ·exact fun _=> ⟨rfl,rfl,fun a w2 K h=> aU rfl rfl Tryz.zeroValue191 (by simp) h⟩
      ·exact fun _=> ⟨rfl,rfl,fun a w2 K h=> aU rfl rfl Tryz.zeroValue191 (by simp) h⟩
     ·refine cO ?_;refine ⟨(fun _ h=> by cases h),(fun _ h=> by cases h),(fun _ h=> by cases h),(fun _ h=> by cases h),(fun _ h=> by cases h),(fun _ h=> by cases h),(fun _ h=> by cases h),(fun _ h=> by cases h),?_,?_,trivial⟩
      ·intro p hp;obtain rfl:6=p:=fO hp;exact ⟨rfl,rfl,⟨_,rfl⟩,aj rfl,fun a w2 b K hB hF hd hx hb h=> bD rfl rfl bC hx (hd 2 _ rfl rfl rfl (aj rfl)) hb h⟩
      ·intro p hp;obtain rfl:7=p:=fO hp;exact ⟨rfl,rfl,⟨_,rfl⟩,aj rfl,fun a w2 b K hB hF hd hx hb h=> bD rfl rfl bC hx (hd 5 _ rfl rfl rfl (aj rfl)) hb h⟩
     ·intro a w6 blk hB hF hS hv hfin dD;obtain ⟨v6,Ml,v6u⟩:=hv 6 _ rfl rfl;obtain ⟨v7,Dm,Wp⟩:=hv 7 _ rfl rfl;have ha:=aI rfl rfl hF [_,_,_,_,_,_,_,_,undef,undef] rfl ⟨hS 0 _ rfl rfl rfl,hS 1 _ rfl rfl rfl,hS 2 _ rfl rfl rfl,hS 3 _ rfl rfl rfl,hS 4 _ rfl rfl rfl,hS 5 _ rfl rfl rfl,v6,v7,trivial,trivial,trivial⟩;have f6:=hfin 8 _ 6 rfl rfl;have f7:=hfin 9 _ 7 rfl rfl;have UY:=dD 6 7 _ _ rfl rfl rfl rfl (by decide);simp only [puts,Act.put,dQ,dR,dS] at ha;subst ha;have V6:aF .i64 w6 (blk 6) 16 (bU (da) (cb)):=⟨_,f6⟩
      have V7:aF .i64 w6 (blk 7) 16 (dU (da) (cb)):=⟨_,f7⟩
      clear hS hv hfin dD hF v6 v7 f6 f7;replace hA:=hA.kept hB;replace hB':=hB'.kept hB;replace hC:=hC.kept hB;replace hD:=hD.kept hB;replace hE:=hE.kept hB;replace Ud:=Ud.kept hB;replace hR2:=hR2.kept hB;replace Uc:=Uc.kept hB;replace QF:=QF.kept hB;replace uN:=uN.kept hB;replace uO:=uO.kept hB;replace jW:=jW.kept hB;replace lN:=lN.kept hB;replace vR:=vR.kept hB;replace Pk:=Pk.kept hB;replace Pn:=Pn.kept hB;obtain ⟨bsu,abY⟩:∃x,x=blk 6:=⟨_,rfl⟩
      obtain ⟨su,hsu,Hsu⟩:∃x,x=bU da cb/\Hid (Fe x ((C - D) * (A+B)+(C+D) * (A - B))):=⟨_,rfl,Hda.out.bU Hcb.out⟩
      rw [<-hsu,←abY] at V6;rw [<-abY] at Ml ⊢;have lsu:w.heap.size+9<=bsu:=gQ hsz Ml;obtain ⟨bdi,ach⟩:∃x,x=blk 7:=⟨_,rfl⟩
      obtain ⟨di,hdi,Hdi⟩:∃x,x=dU da cb/\Hid (Fe x ((C - D) * (A+B) - (C+D) * (A - B))):=⟨_,rfl,Hda.out.dU Hcb.out⟩
      rw [<-hdi,←ach] at V7;rw [<-ach] at Dm ⊢;have ldi:w.heap.size+9<=bdi:=gQ hsz Dm;replace hbel:=hbel.trans (hB.mono hbel.size);replace hsz:=gQ hsz hB.size;clear hB hsu abY hdi ach;have Ya:=V6;clear V6 Ml v6u;have Ye:=V7;clear V7 Dm Wp;go_upto_region 6 with (fail)
      refine dw (n:=72) (fun i=> i==18 || i==19 || i==20 || i==21) (by kernel_rfl) (by kernel_rfl) (by kernel_rfl) (by kernel_rfl) rfl
       (fun ii vv _=> (match ii with | 0 | 4=> vv=.agg (arr .i64 16 (aa)) | 1=> vv=.agg (arr .i64 16 (bb)) | 2=> vv=.agg (arr .i64 16 (aM (aa) (bb))) | 3 | 6=> vv=.agg (arr .i64 16 (ee)) | 5=> vv=.agg (arr .i64 16 (zS)) | 7=> vv=.agg (arr .i64 16 (aM (zS) (ee))) | 8=> vv=.agg (arr .i64 16 (bU (aa) (aM (zS) (ee)))) | 9=> vv=.agg (arr .i64 16 (aM (ee) (bU (aa) (aM (zS) (ee))))) | 10 | 11=> vv=.agg (arr .i64 16 (su)) | 12=> vv=.agg (arr .i64 16 (aM (su) (su))) | 13=> vv=.agg (arr .i64 16 (fu)) | 14 | 15=> vv=.agg (arr .i64 16 (di)) | 16=> vv=.agg (arr .i64 16 (aM (di) (di))) | 17=> vv=.agg (arr .i64 16 (aM (fu) (aM (di) (di)))) | _=> True))
       (fun w w'=> Below w.heap.size w w') (fun _ _ h=> h) (fun _ _ _ _ h _=> h)
       (fun i=> match i with | 18=> (w.heap.size+5) | 19=> (w.heap.size+6) | 20=> (w.heap.size+7) | _=> (w.heap.size+8)) (fun i=> match i with | 18=> (arr .i64 16 (fun _=> 0)) | 19=> (arr .i64 16 (fun _=> 0)) | 20=> (arr .i64 16 (fun _=> 0)) | _=> (arr .i64 16 (fun _=> 0))) (fun i=> match i with | 18=> (arr .i64 16 (aM (aa) (bb))) | 19=> (arr .i64 16 (aM (ee) (bU (aa) (aM (zS) (ee))))) | 20=> (arr .i64 16 (aM (su) (su))) | _=> (arr .i64 16 (aM (fu) (aM (di) (di)))))
       (by intro i j _ _ hpi iI hne;simp only [jG,beq_iff_eq] at hpi iI;rcases hpi with ((rfl | rfl) | rfl) | rfl<;> rcases iI with ((rfl | rfl) | rfl) | rfl<;> first | exact absurd rfl hne | (simp only [];omega))
       (by intro i _ hpi;simp only [jG,beq_iff_eq] at hpi;rcases hpi with ((rfl | rfl) | rfl) | rfl<;> first | exact (Ud).row | exact (hR2).row | exact (Uc).row | exact (QF).row)
       ?_ ?_ ?_
      ·refine cO ?_;refine ⟨?_,?_,?_,?_,?_,?_,?_,?_,?_,?_,?_,?_,?_,?_,?_,?_,?_,?_,(aJ),(aJ),(aJ),(aJ),trivial⟩
       ·intro _ a w2 hB hF hd;exact aH <| aP (aB rfl bZ rfl bC (hF.same 16 rfl) (jW.below hB jW.lt)) rfl
       ·intro _ a w2 hB hF hd;exact aH <| aP (aB rfl bZ rfl bC (hF.same 17 rfl) (lN.below hB lN.lt)) rfl
       ·intro _ a w2 hB hF hd;refine aH <| aC _ _ _ rfl Tryz.call203 _ (args2 (hd 0 _ rfl rfl (aj rfl)) (hd 1 _ rfl rfl (aj rfl))) (by simp) ((bI _ _ _ _ QI.out YN.out w2).mono ?_);rintro e w3 ⟨rfl,hb⟩;exact ⟨_,rfl,rfl,hb⟩
       ·intro _ a w2 hB hF hd;exact aH <| aP (aB rfl bZ rfl bC (hF.same 18 rfl) (vR.below hB vR.lt)) rfl
       ·intro _ a w2 hB hF hd;exact aH <| aP (aB rfl bZ rfl bC (hF.same 16 rfl) (jW.below hB jW.lt)) rfl
       ·intro _ a w2 hB hF hd;refine aH <| aC _ _ _ rfl Tryz.call245 _ xH (by simp) ((Ep w2).mono ?_);rintro e w3 ⟨rfl,hb⟩;exact ⟨_,rfl,rfl,hb⟩
       ·intro _ a w2 hB hF hd;exact aH <| aP (aB rfl bZ rfl bC (hF.same 18 rfl) (vR.below hB vR.lt)) rfl
       ·intro _ a w2 hB hF hd;refine aH <| aC _ _ _ rfl Tryz.call203 _ (args2 (hd 5 _ rfl rfl (aj rfl)) (hd 6 _ rfl rfl (aj rfl))) (by simp) ((bI _ _ _ _ EG YM.out w2).mono ?_);rintro e w3 ⟨rfl,hb⟩;exact ⟨_,rfl,rfl,hb⟩
       ·intro _ a w2 hB hF hd;refine aH <| aC _ _ _ rfl Tryz.call218 _ (args2 (hd 4 _ rfl rfl (aj rfl)) (hd 7 _ rfl rfl (aj rfl))) (by simp) ((gq _ _ _ _ QI.out ((EG).aM YM.out) w2).mono ?_);rintro e w3 ⟨rfl,hb⟩;exact ⟨_,rfl,rfl,hb⟩
       ·intro _ a w2 hB hF hd;refine aH <| aC _ _ _ rfl Tryz.call203 _ (args2 (hd 3 _ rfl rfl (aj rfl)) (hd 8 _ rfl rfl (aj rfl))) (by simp) ((bI _ _ _ _ YM.out ((QI.out).bU ((EG).aM YM.out)) w2).mono ?_);rintro e w3 ⟨rfl,hb⟩;exact ⟨_,rfl,rfl,hb⟩
       ·intro _ a w2 hB hF hd;exact aH <| aP (aB rfl bZ rfl bC (hF.same 21 rfl) (Ya.below hB Ya.lt)) rfl
       ·intro _ a w2 hB hF hd;exact aH <| aP (aB rfl bZ rfl bC (hF.same 21 rfl) (Ya.below hB Ya.lt)) rfl
       ·intro _ a w2 hB hF hd;refine aH <| aC _ _ _ rfl Tryz.call203 _ (args2 (hd 10 _ rfl rfl (aj rfl)) (hd 11 _ rfl rfl (aj rfl))) (by simp) ((bI _ _ _ _ Hsu.out Hsu.out w2).mono ?_);rintro e w3 ⟨rfl,hb⟩;exact ⟨_,rfl,rfl,hb⟩
       ·intro _ a w2 hB hF hd;exact aH <| aP (aB rfl bZ rfl bC (hF.same 9 rfl) (hE.below hB hE.lt)) rfl
       ·intro _ a w2 hB hF hd;exact aH <| aP (aB rfl bZ rfl bC (hF.same 22 rfl) (Ye.below hB Ye.lt)) rfl
       ·intro _ a w2 hB hF hd;exact aH <| aP (aB rfl bZ rfl bC (hF.same 22 rfl) (Ye.below hB Ye.lt)) rfl
       ·intro _ a w2 hB hF hd;refine aH <| aC _ _ _ rfl Tryz.call203 _ (args2 (hd 14 _ rfl rfl (aj rfl)) (hd 15 _ rfl rfl (aj rfl))) (by simp) ((bI _ _ _ _ Hdi.out Hdi.out w2).mono ?_);rintro e w3 ⟨rfl,hb⟩;exact ⟨_,rfl,rfl,hb⟩
       ·intro _ a w2 hB hF hd;refine aH <| aC _ _ _ rfl Tryz.call203 _ (args2 (hd 13 _ rfl rfl (aj rfl)) (hd 16 _ rfl rfl (aj rfl))) (by simp) ((bI _ _ _ _ HU.out ((Hdi.out).aM Hdi.out) w2).mono ?_);rintro e w3 ⟨rfl,hb⟩;exact ⟨_,rfl,rfl,hb⟩
      ·refine cO ?_;refine ⟨(aJ),(aJ),(aJ),(aJ),(aJ),(aJ),(aJ),(aJ),(aJ),(aJ),(aJ),(aJ),(aJ),(aJ),(aJ),(aJ),(aJ),(aJ),?_,?_,?_,?_,trivial⟩
       ·intro _ a w1 w2 K hB hF hS hr hK;exact aX 191 _ _ rfl .i64 ((w.heap.size+5)) 16 (fun _=> 0) (aM (aa) (bb)) bC (hF.same 10 rfl) (hS 2 _ rfl rfl) hr hK
       ·intro _ a w1 w2 K hB hF hS hr hK;exact aX 191 _ _ rfl .i64 ((w.heap.size+6)) 16 (fun _=> 0) (aM (ee) (bU (aa) (aM (zS) (ee)))) bC (hF.same 11 rfl) (hS 9 _ rfl rfl) hr hK
       ·intro _ a w1 w2 K hB hF hS hr hK;exact aX 191 _ _ rfl .i64 ((w.heap.size+7)) 16 (fun _=> 0) (aM (su) (su)) bC (hF.same 12 rfl) (hS 12 _ rfl rfl) hr hK
       ·intro _ a w1 w2 K hB hF hS hr hK;exact aX 191 _ _ rfl .i64 ((w.heap.size+8)) 16 (fun _=> 0) (aM (fu) (aM (di) (di))) bC (hF.same 13 rfl) (hS 17 _ rfl rfl) hr hK
      ·intro a wf w7 hB hF hS hfil;have other:∀{k:IntKind} {qb n:Nat} {f:Nat->Int},qb≠(w.heap.size+5)->qb≠(w.heap.size+6)->qb≠(w.heap.size+7)->qb≠(w.heap.size+8)->aF k wf qb n f->aF k w7 qb n f:=fun {k qb n f} e0 e1 e2 e3 hA=> hfil.arr (by intro i _ hpi;simp only [jG,beq_iff_eq] at hpi;rcases hpi with ((rfl | rfl) | rfl) | rfl<;> ((try simp only []);(try dsimp only);omega)) hA;have dF:∀{B:Nat} {w0:World},B<=(w.heap.size+5)->B<=(w.heap.size+6)->B<=(w.heap.size+7)->B<=(w.heap.size+8)->Below B w0 wf->Below B w0 w7:=fun {B w0} e0 e1 e2 e3 hA=> hfil.below (by intro i _ hpi;simp only [jG,beq_iff_eq] at hpi;rcases hpi with ((rfl | rfl) | rfl) | rfl<;> ((try simp only []);(try dsimp only);omega)) hA;have V18:aF .i64 w7 ((w.heap.size+5)) 16 (aM (aa) (bb)):=hfil.at 18 (by decide) rfl;have V19:aF .i64 w7 ((w.heap.size+6)) 16 (aM (ee) (bU (aa) (aM (zS) (ee)))):=hfil.at 19 (by decide) rfl;have V20:aF .i64 w7 ((w.heap.size+7)) 16 (aM (su) (su)):=hfil.at 20 (by decide) rfl;have V21:aF .i64 w7 ((w.heap.size+8)) 16 (aM (fu) (aM (di) (di))):=hfil.at 21 (by decide) rfl;have qz:=hfil.size;clear hfil;have ha:=aI rfl rfl hF [_,_,_,_,_,_,_,_,_,_,_,_,_,_,_,_,_,_,undef,undef,undef,undef] rfl ⟨hS 0 _ rfl rfl,hS 1 _ rfl rfl,hS 2 _ rfl rfl,hS 3 _ rfl rfl,hS 4 _ rfl rfl,hS 5 _ rfl rfl,hS 6 _ rfl rfl,hS 7 _ rfl rfl,hS 8 _ rfl rfl,hS 9 _ rfl rfl,hS 10 _ rfl rfl,hS 11 _ rfl rfl,hS 12 _ rfl rfl,hS 13 _ rfl rfl,hS 14 _ rfl rfl,hS 15 _ rfl rfl,hS 16 _ rfl rfl,hS 17 _ rfl rfl,trivial,trivial,trivial,trivial,trivial⟩;simp only [puts,Act.put,dQ,dR,dS] at ha;subst ha;clear hS hF;have hb:=dF (by omega) (by omega) (by omega) (by omega) (hbel.trans (hB.mono hbel.size));go_wp2;exact bodyPost_ret (DT rfl _ _ .i64 16 bZ rfl bC (w.heap.size+5) (w.heap.size+6) (w.heap.size+7) (w.heap.size+8) _ _ _ _ rfl V18 rfl V19 rfl V20 rfl V21) rfl ⟨_,_,_,_,rfl,⟨QI.out.aM YN.out,YM.out.aM (QI.out.bU (EG.aM YM.out)),Hsu.out.aM Hsu.out,HU.out.aM (Hdi.out.aM Hdi.out)⟩,hb⟩
end Go.Proofs.YtpcjekgfnfjbpaaGreat
namespace Go.Proofs.YtpcjekgfnfjbpaaGreat
open Go.RowKit Go.aZ Go.ChangeShapes
theorem iU (p:Bool) (f g:Nat->Int) (X Y:Int) (hf:Fe f X) (hg:Fe g Y) (w:World):
  Calls Tryz.prog 201 #[El f,El g,.bool p] w fun e w'=> e=.returned (.tuple #[El (aS p f g),El (aS p g f)])/\Below w.heap.size w w':=by
 cases p
 ·exact Px f g X Y hf hg w
 ·exact Lu f g X Y hf hg w
end Go.Proofs.YtpcjekgfnfjbpaaGreat
namespace Go.Proofs.YtpcjekgfnfjbpaaGreat
open Go.RowKit Go.aZ Go.ChangeShapes
attribute [local go_sem ↓] Go.wp_at_zero Go.wp_at_succ
theorem qH (f g:Nat->Int) (X Y:Int) (hf:Fe f X) (hg:Fe g Y) (h:X % Pr=Y % Pr) (w:World):
  Calls Tryz.prog 210 #[El f,El g] w fun e w'=> e=.returned (.bool true)/\Below w.heap.size w w':=by
 have:=xw f g X Y hf hg w
 rwa [show ZG X Y=true from decide_eq_true h] at this
theorem zR (f g:Nat->Int) (X Y:Int) (hf:Fe f X) (hg:Fe g Y) (h:¬ X % Pr=Y % Pr) (w:World):
  Calls Tryz.prog 210 #[El f,El g] w fun e w'=> e=.returned (.bool false)/\Below w.heap.size w w':=by
 have:=xw f g X Y hf hg w
 rwa [show ZG X Y=false from decide_eq_false h] at this
end Go.Proofs.YtpcjekgfnfjbpaaGreat
namespace Go.Proofs.YtpcjekgfnfjbpaaGreat
open Go.RowKit Go.aZ
attribute [local go_sem ↓] Go.wp_at_zero Go.wp_at_succ
theorem acJ:((2 ^ 255 - 16) / 2 ^ 3:Int)=(((PN+3) / 8:Nat):Int):=by decide
theorem acK:((2 ^ 255 - 20) / 2 ^ 2:Int)=(((PN - 1) / 4:Nat):Int):=by decide
theorem uR:(0:Int)<=(((PN+3) / 8:Nat):Int)/\(((PN+3) / 8:Nat):Int)<2 ^ 256:=by decide
theorem uS:(0:Int)<=(((PN - 1) / 4:Nat):Int)/\(((PN - 1) / 4:Nat):Int)<2 ^ 256:=by decide
theorem OM (w:World):Calls Tryz.prog 248 #[.int .u8 16,.int .u64 3] w fun e w'=> e=.returned (.agg (arr .u8 32 (dg 256 (((PN+3) / 8:Nat):Int))))/\Below w.heap.size w w':=by
 have h:=oW 16 3 (by decide) (by decide) (by decide) w;rw [acJ] at h;exact h
theorem OO (w:World):Calls Tryz.prog 248 #[.int .u8 20,.int .u64 2] w fun e w'=> e=.returned (.agg (arr .u8 32 (dg 256 (((PN - 1) / 4:Nat):Int))))/\Below w.heap.size w w':=by
 have h:=oW 20 2 (by decide) (by decide) (by decide) w;rw [acK] at h;exact h
def Oo (f:Nat->Int):Nat->Int:=Ea f (((PN+3) / 8:Nat):Int)
def yA:Nat->Int:=Ea (aN 2) (((PN - 1) / 4:Nat):Int)
theorem IB {f:Nat->Int} {X:Int} (hf:Fe f X):Fe (Oo f) (jm X):=by
 unfold jm;have h:=hf.Ea uR.1 uR.2
 rwa [Jt] at h
theorem Uu:Fe (aN 2) 2:=by have h:=mh 2;rwa [show pX 2=2 by decide] at h
theorem Nt:Fe yA tF:=by
 unfold tF;have h:=Uu.Ea uS.1 uS.2
 rwa [Jt] at h
theorem vX (f:Nat->Int) (X:Int) (hf:Fe f X) (h:X % Pr % 2=1) (w:World):Calls Tryz.prog 222 #[El f] w fun e w'=> e=.returned (.bool true)/\Below w.heap.size w w':=by
 have h2:=CF f X hf w
 rwa [h] at h2
theorem zQ (f:Nat->Int) (X:Int) (hf:Fe f X) (h:X % Pr % 2=0) (w:World):Calls Tryz.prog 222 #[El f] w fun e w'=> e=.returned (.bool false)/\Below w.heap.size w w':=by
 have h2:=CF f X hf w
 rwa [h] at h2
theorem SN {R X:Int} (h:R * R % Pr=X % Pr): -R * -R % Pr=X % Pr:=by rw [show -R * -R=R * R by grind];exact h
def oh (f:Nat->Int) (X:Int):Nat->Int:=
 if jm X * jm X % Pr=X % Pr then (if jm X % Pr % 2=0 then Oo f else qp (Oo f)) else (if (jm X * tF) % Pr % 2=0 then aM (Oo f) yA else qp (aM (Oo f) yA))
theorem ML {f:Nat->Int} {X:Int} (h:jm X * jm X % Pr=X % Pr) (h':jm X % Pr % 2=0):oh f X=Oo f:=by unfold oh;rw [if_pos h,if_pos h']
theorem MK {f:Nat->Int} {X:Int} (h:jm X * jm X % Pr=X % Pr) (h':jm X % Pr % 2=1):oh f X=qp (Oo f):=by unfold oh;rw [if_pos h,if_neg (by omega)]
theorem MJ {f:Nat->Int} {X:Int} (h:¬ jm X * jm X % Pr=X % Pr) (h':(jm X * tF) % Pr % 2=0):oh f X=aM (Oo f) yA:=by unfold oh;rw [if_neg h,if_pos h']
theorem MI {f:Nat->Int} {X:Int} (h:¬ jm X * jm X % Pr=X % Pr) (h':(jm X * tF) % Pr % 2=1):oh f X=qp (aM (Oo f) yA):=by unfold oh;rw [if_neg h,if_neg (by omega)]
theorem RH {f:Nat->Int} {X:Int} (hf:Fe f X) (Zn:sQ X=true):∃R,Fe (oh f X) R/\R * R % Pr=X % Pr/\R % Pr % 2=0:=by
 by_cases hq:jm X * jm X % Pr=X % Pr
 ·rcases (by omega:jm X % Pr % 2=0\/jm X % Pr % 2=1) with ho | ho
  ·rw [ML hq ho];exact ⟨_,IB hf,hq,ho⟩
  ·rw [MK hq ho];exact ⟨_,(IB hf).qp,SN hq,Ht ho⟩
 ·have hq2:=(zm Zn).resolve_left hq;rcases (by omega:(jm X * tF) % Pr % 2=0\/(jm X * tF) % Pr % 2=1) with ho | ho
  ·rw [MJ hq ho];exact ⟨_,(IB hf).aM Nt,hq2,ho⟩
  ·rw [MI hq ho];exact ⟨_,((IB hf).aM Nt).qp,SN hq2,Ht ho⟩
theorem Lv (f:Nat->Int) (X:Int) (hf:Fe f X) (Zn:sQ X=true) (w:World):
  Calls Tryz.prog 252 #[El f] w fun e w'=> e=.returned (.tuple #[El (oh f X),.bool true])/\Below w.heap.size w w':=by
 have HF:=ak hf;have HSQ:=ak Zn;clear hf Zn;unfold El
 go_enter Tryz.func252,Tryz.ntmps252
 go_upto_region 1 with (fail)
 refine aD (fun w1=> aF .i64 w1 w.heap.size 16 f/\aF .i64 w1 (w.heap.size+1) 16 (fun _=> 0)/\Below w.heap.size w w1)
  ⟨aF.alloc (bM (by first | omega | (simp<;> omega)) (by rfl)) _,bM (by first | omega | (simp<;> omega)) (by rfl),((bN _ _).alloc (bA _) _).alloc (by simp) _⟩ ?_
 rintro w1 ⟨hA,hZ,hbel⟩
 refine bB (n:=31) (by kernel_rfl) (by kernel_rfl) (by kernel_rfl) rfl
  (jh [(4,3)]) (fJ [(4,3)]) (fun _=> arr .i64 16 (fun _=> 0)) (fun _=> (arr .i64 16 (Oo f))) (fun _=> 191) (fun _=> 4)
  (fun ii vv _=> (match ii with | 0=> vv=.agg (arr .i64 16 (f)) | 1=> vv=.agg (arr .u8 32 (dg 256 (((PN+3) / 8:Nat):Int))) | 2=> vv=.agg (arr .i64 16 (Oo f)) | _=> True)) (fun _ _=> True) (fun _ _ _=> trivial) (fun _ _ _ _ _ _ _=> trivial) (fun _ _ _ _ h _=> h)
  (gF rfl) (eG rfl) ?_ ?_ ?_ ?_
 ·refine cO ?_;refine ⟨?_,?_,?_,(fun h=> by cases h),(fun _ h=> by cases h),trivial⟩
  ·intro _ _ a w2 hB hF hd;exact aH <| aP (aB rfl bZ rfl bC (hF.same 1 rfl) (hA.below hB hA.lt)) rfl
  ·intro _ _ a w2 hB hF hd;refine aH <| aC _ _ _ rfl Tryz.call248 _ (args2 rfl rfl) (by simp) ((OM w2).mono ?_);rintro e w3 ⟨rfl,hb⟩;exact ⟨_,rfl,rfl,hb⟩
  ·intro _ _ a w2 hB hF hd;refine aH <| aC _ _ _ rfl Tryz.call247 _ (args2 (hd 0 _ rfl rfl rfl (aj rfl)) (hd 1 _ rfl rfl rfl (aj rfl))) (by simp) ((qG f X (((PN+3) / 8:Nat):Int) HF.out uR.1 uR.2 w2).mono ?_);rintro e w3 ⟨rfl,hb⟩;exact ⟨_,rfl,rfl,hb⟩
 ·refine cO ?_;refine ⟨(fun h=> by cases h),(fun h=> by cases h),(fun h=> by cases h),?_,(fun h=> by cases h),trivial⟩
  ·exact fun _=> ⟨rfl,rfl,fun a w2 K h=> aU rfl rfl Tryz.zeroValue191 (by simp) h⟩
 ·refine cO ?_;refine ⟨(fun _ h=> by cases h),(fun _ h=> by cases h),(fun _ h=> by cases h),(fun _ h=> by cases h),?_,trivial⟩
  ·intro p hp;obtain rfl:3=p:=fO hp;exact ⟨rfl,rfl,⟨_,rfl⟩,aj rfl,fun a w2 b K hB hF hd hx hb h=> bD rfl rfl bC hx (hd 2 _ rfl rfl rfl (aj rfl)) hb h⟩
 ·intro a w3 blk hB hF hS hv hfin dD;obtain ⟨v3,Dn,NU⟩:=hv 3 _ rfl rfl;have ha:=aI rfl rfl hF [_,_,_,_,undef] rfl ⟨hS 0 _ rfl rfl rfl,hS 1 _ rfl rfl rfl,hS 2 _ rfl rfl rfl,v3,trivial,trivial⟩;have f3:=hfin 4 _ 3 rfl rfl;simp only [puts,Act.put,dQ,dR,dS] at ha;subst ha;have V3:aF .i64 w3 (blk 3) 16 (Oo f):=⟨_,f3⟩
  clear hS hv hfin dD hF v3 f3;have hA1:=hA.below hB hA.lt;have hZ1:=hZ.below hB hZ.lt;have hb1:=hbel.trans (hB.mono hbel.size);have lb:=hbel.size;have lz:=hZ.lt;have HR:=ak (IB HF.out);obtain ⟨b,hb⟩:∃b,b=blk 3:=⟨_,rfl⟩
  obtain ⟨g,hg⟩:∃g,g=Oo f:=⟨_,rfl⟩
  rw [<-hb] at V3 Dn ⊢;rw [<-hg] at HR V3 ⊢;have hr:=V3;have hbw:w.heap.size+2<=b:=by omega
  have HG:=ak hg;clear hb hg V3 Dn NU hA hZ hbel hB lb lz;by_cases hq:jm X * jm X % Pr=X % Pr
  ·have HQ:=ak hq;clear hq;go_upto_region 2 with (fail)
   refine aT (n:=31) (by kernel_rfl) (by kernel_rfl) (by kernel_rfl) rfl
    (fun ii vv _=> (match ii with | 0 | 1=> vv=.agg (arr .i64 16 (g)) | 2=> vv=.agg (arr .i64 16 (aM (g) (g))) | 3=> vv=.agg (arr .i64 16 (f)) | 4=> vv=.bool true | 5=> vv=.bool false | _=> True))
    (fun w w'=> Below w.heap.size w w') (fun _ _ h=> h) (fun _ _ _ _ h _=> h) ?_ ?_
   ·refine cO ?_;refine ⟨?_,?_,?_,?_,?_,?_,trivial⟩
    ·intro a w2 hB hF hd;exact aH <| aP (aB rfl bZ rfl bC (hF.same 4 rfl) (hr.below hB hr.lt)) rfl
    ·intro a w2 hB hF hd;exact aH <| aP (aB rfl bZ rfl bC (hF.same 4 rfl) (hr.below hB hr.lt)) rfl
    ·intro a w2 hB hF hd;refine aH <| aC _ _ _ rfl Tryz.call203 _ (args2 (hd 0 _ rfl (aj rfl)) (hd 1 _ rfl (aj rfl))) (by simp) ((bI (g) (g) (jm X) (jm X) HR.out HR.out w2).mono ?_);rintro e w3 ⟨rfl,hb⟩;exact ⟨_,rfl,rfl,hb⟩
    ·intro a w2 hB hF hd;exact aH <| aP (aB rfl bZ rfl bC (hF.same 1 rfl) (hA1.below hB hA1.lt)) rfl
    ·intro a w2 hB hF hd;refine aH <| aC _ _ _ rfl Tryz.call210 _ (args2 (hd 2 _ rfl (aj rfl)) (hd 3 _ rfl (aj rfl))) (by simp) ((qH (aM (g) (g)) (f) ((jm X) * (jm X)) X (HR.out.aM HR.out) HF.out HQ.out w2).mono ?_);rintro e w3 ⟨rfl,hb⟩;exact ⟨_,rfl,rfl,hb⟩
    ·intro a w2 hB hF hd;exact aH <| aP (qV rfl (hd 4 _ rfl (aj rfl))) rfl
   ·intro a w4 hB hF hS;have ha:=aI rfl rfl hF [_,_,_,_,_,_] rfl ⟨hS 0 _ rfl,hS 1 _ rfl,hS 2 _ rfl,hS 3 _ rfl,hS 4 _ rfl,hS 5 _ rfl,trivial⟩;simp only [puts,Act.put,dQ,dR,dS] at ha;subst ha;clear hS hF;have hA2:=hA1.below hB hA1.lt;have hZ2:=hZ1.below hB hZ1.lt;have hb2:=hb1.trans (hB.mono hb1.size);have hr':=hr.below hB hr.lt;clear hr;have hr:=hr';clear hr' hA1 hZ1 hb1 hB;go_upto_region 4 with (fail)
    refine aT (n:=31) (by kernel_rfl) (by kernel_rfl) (by kernel_rfl) rfl
     (fun ii vv _=> (match ii with | 0 | 1=> vv=.agg (arr .i64 16 (g)) | 2=> vv=.agg (arr .i64 16 (aM (g) (g))) | 3=> vv=.agg (arr .i64 16 (f)) | 4=> vv=.bool true | 5=> vv=.bool false | _=> True))
     (fun w w'=> Below w.heap.size w w') (fun _ _ h=> h) (fun _ _ _ _ h _=> h) ?_ ?_
    ·refine cO ?_;refine ⟨?_,?_,?_,?_,?_,?_,trivial⟩
     ·intro a w2 hB hF hd;exact aH <| aP (aB rfl bZ rfl bC (hF.same 4 rfl) (hr.below hB hr.lt)) rfl
     ·intro a w2 hB hF hd;exact aH <| aP (aB rfl bZ rfl bC (hF.same 4 rfl) (hr.below hB hr.lt)) rfl
     ·intro a w2 hB hF hd;refine aH <| aC _ _ _ rfl Tryz.call203 _ (args2 (hd 0 _ rfl (aj rfl)) (hd 1 _ rfl (aj rfl))) (by simp) ((bI (g) (g) (jm X) (jm X) HR.out HR.out w2).mono ?_);rintro e w3 ⟨rfl,hb⟩;exact ⟨_,rfl,rfl,hb⟩
     ·intro a w2 hB hF hd;exact aH <| aP (aB rfl bZ rfl bC (hF.same 1 rfl) (hA2.below hB hA2.lt)) rfl
     ·intro a w2 hB hF hd;refine aH <| aC _ _ _ rfl Tryz.call210 _ (args2 (hd 2 _ rfl (aj rfl)) (hd 3 _ rfl (aj rfl))) (by simp) ((qH (aM (g) (g)) (f) ((jm X) * (jm X)) X (HR.out.aM HR.out) HF.out HQ.out w2).mono ?_);rintro e w3 ⟨rfl,hb⟩;exact ⟨_,rfl,rfl,hb⟩
     ·intro a w2 hB hF hd;exact aH <| aP (qV rfl (hd 4 _ rfl (aj rfl))) rfl
    ·intro a w5 hB hF hS;have ha:=aI rfl rfl hF [_,_,_,_,_,_] rfl ⟨hS 0 _ rfl,hS 1 _ rfl,hS 2 _ rfl,hS 3 _ rfl,hS 4 _ rfl,hS 5 _ rfl,trivial⟩;simp only [puts,Act.put,dQ,dR,dS] at ha;subst ha;clear hS hF;have hA3:=hA2.below hB hA2.lt;have hZ3:=hZ2.below hB hZ2.lt;have hb3:=hb2.trans (hB.mono hb2.size);have hr':=hr.below hB hr.lt;clear hr;have hr:=hr';clear hr' hA2 hZ2 hb2 hB;rcases (by omega:(jm X) % Pr % 2=0\/(jm X) % Pr % 2=1) with ho | ho
     ·have hodd:=ak ho;clear ho;go_upto_region 6 with (fail)
      refine aT (n:=31) (by kernel_rfl) (by kernel_rfl) (by kernel_rfl) rfl
       (fun ii vv _=> (match ii with | 0=> vv=.agg (arr .i64 16 (g)) | 1=> vv=.bool false | _=> True))
       (fun w w'=> Below w.heap.size w w') (fun _ _ h=> h) (fun _ _ _ _ h _=> h) ?_ ?_
      ·refine cO ?_;refine ⟨?_,?_,trivial⟩
       ·intro a w2 hB hF hd;exact aH <| aP (aB rfl bZ rfl bC (hF.same 4 rfl) (hr.below hB hr.lt)) rfl
       ·intro a w2 hB hF hd;refine aH <| aC _ _ _ rfl Tryz.call222 _ (args1 (hd 0 _ rfl (aj rfl))) (by simp) ((zQ (g) (jm X) HR.out hodd.out w2).mono ?_);rintro e w3 ⟨rfl,hb⟩;exact ⟨_,rfl,rfl,hb⟩
      ·intro a w9 hB hF hS;have ha:=aI rfl rfl hF [_,_] rfl ⟨hS 0 _ rfl,hS 1 _ rfl,trivial⟩;simp only [puts,Act.put,dQ,dR,dS] at ha;subst ha;clear hS hF;have Ub:=hZ3.below hB hZ3.lt;have hbz:=hb3.trans (hB.mono hb3.size);have hrz:=hr.below hB hr.lt;clear hr hA3 hZ3 hb3 hB
       go_wp2_with (first
        | (refine aY rfl 191 _ rfl .i64 b 16 _ bZ rfl bC rfl hrz ?_)
        | (refine aG rfl 191 _ _ rfl .i64 (w.heap.size+1) 16 (fun _=> 0) _ bC rfl rfl Ub ?_))
       exact bodyPost_ret (gK rfl _ _ .i64 (w.heap.size+1) 16 _ rfl (Ub.setRow _ _) bZ rfl bC) rfl ⟨by rw [ML HQ.out hodd.out,←HG.out];rfl,ay hbz (by omega) _⟩
     ·have hodd:=ak ho;clear ho;go_upto_region 6 with (fail)
      refine aT (n:=31) (by kernel_rfl) (by kernel_rfl) (by kernel_rfl) rfl
       (fun ii vv _=> (match ii with | 0=> vv=.agg (arr .i64 16 (g)) | 1=> vv=.bool true | _=> True))
       (fun w w'=> Below w.heap.size w w') (fun _ _ h=> h) (fun _ _ _ _ h _=> h) ?_ ?_
      ·refine cO ?_;refine ⟨?_,?_,trivial⟩
       ·intro a w2 hB hF hd;exact aH <| aP (aB rfl bZ rfl bC (hF.same 4 rfl) (hr.below hB hr.lt)) rfl
       ·intro a w2 hB hF hd;refine aH <| aC _ _ _ rfl Tryz.call222 _ (args1 (hd 0 _ rfl (aj rfl))) (by simp) ((vX (g) (jm X) HR.out hodd.out w2).mono ?_);rintro e w3 ⟨rfl,hb⟩;exact ⟨_,rfl,rfl,hb⟩
      ·intro a w9 hB hF hS;have ha:=aI rfl rfl hF [_,_] rfl ⟨hS 0 _ rfl,hS 1 _ rfl,trivial⟩;simp only [puts,Act.put,dQ,dR,dS] at ha;subst ha;clear hS hF;have Ub:=hZ3.below hB hZ3.lt;have hbz:=hb3.trans (hB.mono hb3.size);have hrz:=hr.below hB hr.lt;clear hr hA3 hZ3 hb3 hB;go_wp2_with (refine aY rfl 191 _ rfl .i64 b 16 _ bZ rfl bC rfl hrz ?_);refine (vY (g) ((jm X)) HR.out _).mono ?_;rintro e w10 ⟨rfl,EA⟩;have hZy:=Ub.kept EA;have hby:=hbz.trans (EA.mono hbz.size);have hry:=hrz.kept EA;clear Ub hbz hrz EA;go_upto_region 8 with (refine aG rfl 191 _ _ rfl .i64 b 16 _ _ bC rfl rfl hry ?_);refine aD (fun WE=> aF .i64 WE b 16 (qp (g))/\aF .i64 WE (w.heap.size+1) 16 (fun _=> 0)/\Below w.heap.size w WE) ⟨aF.setRow hry _ _,aF.aA hZy _ (by omega) _,ay hby (by omega) _⟩ ?_;rintro WE ⟨hr2,hZ2,hb2⟩;clear hZy hby hry
       go_wp2_with (first
        | (refine aY rfl 191 _ rfl .i64 b 16 _ bZ rfl bC rfl hr2 ?_)
        | (refine aG rfl 191 _ _ rfl .i64 (w.heap.size+1) 16 (fun _=> 0) _ bC rfl rfl hZ2 ?_))
       exact bodyPost_ret (gK rfl _ _ .i64 (w.heap.size+1) 16 _ rfl (hZ2.setRow _ _) bZ rfl bC) rfl ⟨by rw [MK HQ.out hodd.out,←HG.out];rfl,ay hb2 (by omega) _⟩
  ·have hq2:=(zm HSQ.out).resolve_left hq;have HQ:=ak hq;have HQ2:=ak hq2;have HNQ:=ak hq;clear hq hq2;go_upto_region 2 with (fail)
   refine aT (n:=31) (by kernel_rfl) (by kernel_rfl) (by kernel_rfl) rfl
    (fun ii vv _=> (match ii with | 0 | 1=> vv=.agg (arr .i64 16 (g)) | 2=> vv=.agg (arr .i64 16 (aM (g) (g))) | 3=> vv=.agg (arr .i64 16 (f)) | 4=> vv=.bool false | 5=> vv=.bool true | _=> True))
    (fun w w'=> Below w.heap.size w w') (fun _ _ h=> h) (fun _ _ _ _ h _=> h) ?_ ?_
   ·refine cO ?_;refine ⟨?_,?_,?_,?_,?_,?_,trivial⟩
    ·intro a w2 hB hF hd;exact aH <| aP (aB rfl bZ rfl bC (hF.same 4 rfl) (hr.below hB hr.lt)) rfl
    ·intro a w2 hB hF hd;exact aH <| aP (aB rfl bZ rfl bC (hF.same 4 rfl) (hr.below hB hr.lt)) rfl
    ·intro a w2 hB hF hd;refine aH <| aC _ _ _ rfl Tryz.call203 _ (args2 (hd 0 _ rfl (aj rfl)) (hd 1 _ rfl (aj rfl))) (by simp) ((bI (g) (g) (jm X) (jm X) HR.out HR.out w2).mono ?_);rintro e w3 ⟨rfl,hb⟩;exact ⟨_,rfl,rfl,hb⟩
    ·intro a w2 hB hF hd;exact aH <| aP (aB rfl bZ rfl bC (hF.same 1 rfl) (hA1.below hB hA1.lt)) rfl
    ·intro a w2 hB hF hd;refine aH <| aC _ _ _ rfl Tryz.call210 _ (args2 (hd 2 _ rfl (aj rfl)) (hd 3 _ rfl (aj rfl))) (by simp) ((zR (aM (g) (g)) (f) ((jm X) * (jm X)) X (HR.out.aM HR.out) HF.out HQ.out w2).mono ?_);rintro e w3 ⟨rfl,hb⟩;exact ⟨_,rfl,rfl,hb⟩
    ·intro a w2 hB hF hd;exact aH <| aP (qV rfl (hd 4 _ rfl (aj rfl))) rfl
   ·intro a w4 hB hF hS;have ha:=aI rfl rfl hF [_,_,_,_,_,_] rfl ⟨hS 0 _ rfl,hS 1 _ rfl,hS 2 _ rfl,hS 3 _ rfl,hS 4 _ rfl,hS 5 _ rfl,trivial⟩;simp only [puts,Act.put,dQ,dR,dS] at ha;subst ha;clear hS hF;have hA2:=hA1.below hB hA1.lt;have hZ2:=hZ1.below hB hZ1.lt;have hb2:=hb1.trans (hB.mono hb1.size);have hr':=hr.below hB hr.lt;clear hr;have hr:=hr';clear hr' hA1 hZ1 hb1 hB;go_upto_region 3 with (fail)
    refine dw (n:=31) (fun i=> i==5) (by kernel_rfl) (by kernel_rfl) (by kernel_rfl) (by kernel_rfl) rfl
     (fun ii vv _=> (match ii with | 0=> vv=.agg (arr .i64 16 (g)) | 1=> vv=.agg (arr .i64 16 (aN 2)) | 2=> vv=.agg (arr .u8 32 (dg 256 (((PN - 1) / 4:Nat):Int))) | 3=> vv=.agg (arr .i64 16 (yA)) | 4=> vv=.agg (arr .i64 16 (aM (g) (yA))) | _=> True))
     (fun w w'=> Below w.heap.size w w') (fun _ _ h=> h) (fun _ _ _ _ h _=> h)
     (fun _=> b) (fun _=> (arr .i64 16 (g))) (fun _=> (arr .i64 16 (aM (g) (yA))))
     (by intro i j _ _ hpi iI hne;simp only [beq_iff_eq] at hpi iI;omega)
     (by intro i _ hpi;exact (hr).row)
     ?_ ?_ ?_
    ·refine cO ?_;refine ⟨?_,?_,?_,?_,?_,(aJ),trivial⟩
     ·intro _ a w2 hB hF hd;exact aH <| aP (aB rfl bZ rfl bC (hF.same 4 rfl) (hr.below hB hr.lt)) rfl
     ·intro _ a w2 hB hF hd;refine aH <| aC _ _ _ rfl Tryz.call200 _ (args1 rfl) (by simp) ((dW 2 w2).mono ?_);rintro e w3 ⟨rfl,hb⟩;exact ⟨_,rfl,rfl,hb⟩
     ·intro _ a w2 hB hF hd;refine aH <| aC _ _ _ rfl Tryz.call248 _ (args2 rfl rfl) (by simp) ((OO w2).mono ?_);rintro e w3 ⟨rfl,hb⟩;exact ⟨_,rfl,rfl,hb⟩
     ·intro _ a w2 hB hF hd;refine aH <| aC _ _ _ rfl Tryz.call247 _ (args2 (hd 1 _ rfl rfl (aj rfl)) (hd 2 _ rfl rfl (aj rfl))) (by simp) ((qG (aN 2) 2 (((PN - 1) / 4:Nat):Int) Uu uS.1 uS.2 w2).mono ?_);rintro e w3 ⟨rfl,hb⟩;exact ⟨_,rfl,rfl,hb⟩
     ·intro _ a w2 hB hF hd;refine aH <| aC _ _ _ rfl Tryz.call203 _ (args2 (hd 0 _ rfl rfl (aj rfl)) (hd 3 _ rfl rfl (aj rfl))) (by simp) ((bI (g) (yA) (jm X) tF HR.out Nt w2).mono ?_);rintro e w3 ⟨rfl,hb⟩;exact ⟨_,rfl,rfl,hb⟩
    ·refine cO ?_;refine ⟨(aJ),(aJ),(aJ),(aJ),(aJ),?_,trivial⟩
     ·intro _ a w1 w2 K hB hF hS hr hK;exact aX 191 _ _ rfl .i64 (b) 16 (g) (aM (g) (yA)) bC (hF.same 4 rfl) (hS 4 _ rfl rfl) hr hK
    ·intro a wf w6 hB hF hS hfil;have other:∀{k:IntKind} {qb n:Nat} {f:Nat->Int},qb≠b->aF k wf qb n f->aF k w6 qb n f:=fun {k qb n f} e0 hA=> hfil.arr (by intro i _ hpi;simp only [jG,beq_iff_eq] at hpi;subst hpi<;> ((try simp only []);(try dsimp only);omega)) hA;have dF:∀{B:Nat} {w0:World},B<=b->Below B w0 wf->Below B w0 w6:=fun {B w0} e0 hA=> hfil.below (by intro i _ hpi;simp only [jG,beq_iff_eq] at hpi;subst hpi<;> ((try simp only []);(try dsimp only);omega)) hA;have V5:aF .i64 w6 (b) 16 (aM (g) (yA)):=hfil.at 5 (by decide) rfl;have qz:=hfil.size;clear hfil;have ha:=aI rfl rfl hF [_,_,_,_,_,undef] rfl ⟨hS 0 _ rfl rfl,hS 1 _ rfl rfl,hS 2 _ rfl rfl,hS 3 _ rfl rfl,hS 4 _ rfl rfl,trivial,trivial⟩;simp only [puts,Act.put,dQ,dR,dS] at ha;subst ha;clear hS hF;have hA3:=other (by omega) (hA2.below hB hA2.lt);have hZ3:=other (by omega) (hZ2.below hB hZ2.lt);have hb3:=dF (by omega) (hb2.trans (hB.mono hb2.size));have hr2:=V5;clear hr;have hr:=hr2;clear hr2 V5 hA2 hZ2 hb2 hB other dF;have HR2:=ak (HR.out.aM Nt);go_upto_region 4 with (fail)
     refine aT (n:=31) (by kernel_rfl) (by kernel_rfl) (by kernel_rfl) rfl
      (fun ii vv _=> (match ii with | 0 | 1=> vv=.agg (arr .i64 16 (aM g yA)) | 2=> vv=.agg (arr .i64 16 (aM (aM g yA) (aM g yA))) | 3=> vv=.agg (arr .i64 16 (f)) | 4=> vv=.bool true | 5=> vv=.bool false | _=> True))
      (fun w w'=> Below w.heap.size w w') (fun _ _ h=> h) (fun _ _ _ _ h _=> h) ?_ ?_
     ·refine cO ?_;refine ⟨?_,?_,?_,?_,?_,?_,trivial⟩
      ·intro a w2 hB hF hd;exact aH <| aP (aB rfl bZ rfl bC (hF.same 4 rfl) (hr.below hB hr.lt)) rfl
      ·intro a w2 hB hF hd;exact aH <| aP (aB rfl bZ rfl bC (hF.same 4 rfl) (hr.below hB hr.lt)) rfl
      ·intro a w2 hB hF hd;refine aH <| aC _ _ _ rfl Tryz.call203 _ (args2 (hd 0 _ rfl (aj rfl)) (hd 1 _ rfl (aj rfl))) (by simp) ((bI (aM g yA) (aM g yA) (jm X * tF) (jm X * tF) HR2.out HR2.out w2).mono ?_);rintro e w3 ⟨rfl,hb⟩;exact ⟨_,rfl,rfl,hb⟩
      ·intro a w2 hB hF hd;exact aH <| aP (aB rfl bZ rfl bC (hF.same 1 rfl) (hA3.below hB hA3.lt)) rfl
      ·intro a w2 hB hF hd;refine aH <| aC _ _ _ rfl Tryz.call210 _ (args2 (hd 2 _ rfl (aj rfl)) (hd 3 _ rfl (aj rfl))) (by simp) ((qH (aM (aM g yA) (aM g yA)) (f) ((jm X * tF) * (jm X * tF)) X (HR2.out.aM HR2.out) HF.out HQ2.out w2).mono ?_);rintro e w3 ⟨rfl,hb⟩;exact ⟨_,rfl,rfl,hb⟩
      ·intro a w2 hB hF hd;exact aH <| aP (qV rfl (hd 4 _ rfl (aj rfl))) rfl
     ·intro a w6 hB hF hS;have ha:=aI rfl rfl hF [_,_,_,_,_,_] rfl ⟨hS 0 _ rfl,hS 1 _ rfl,hS 2 _ rfl,hS 3 _ rfl,hS 4 _ rfl,hS 5 _ rfl,trivial⟩;simp only [puts,Act.put,dQ,dR,dS] at ha;subst ha;clear hS hF;have vU:=hA3.below hB hA3.lt;have oH:=hZ3.below hB hZ3.lt;have hb4:=hb3.trans (hB.mono hb3.size);have hr':=hr.below hB hr.lt;clear hr;have hr:=hr';clear hr' hA3 hZ3 hb3 hB;rcases (by omega:(jm X * tF) % Pr % 2=0\/(jm X * tF) % Pr % 2=1) with ho | ho
      ·have hodd:=ak ho;clear ho;go_upto_region 6 with (fail)
       refine aT (n:=31) (by kernel_rfl) (by kernel_rfl) (by kernel_rfl) rfl
        (fun ii vv _=> (match ii with | 0=> vv=.agg (arr .i64 16 (aM g yA)) | 1=> vv=.bool false | _=> True))
        (fun w w'=> Below w.heap.size w w') (fun _ _ h=> h) (fun _ _ _ _ h _=> h) ?_ ?_
       ·refine cO ?_;refine ⟨?_,?_,trivial⟩
        ·intro a w2 hB hF hd;exact aH <| aP (aB rfl bZ rfl bC (hF.same 4 rfl) (hr.below hB hr.lt)) rfl
        ·intro a w2 hB hF hd;refine aH <| aC _ _ _ rfl Tryz.call222 _ (args1 (hd 0 _ rfl (aj rfl))) (by simp) ((zQ (aM g yA) (jm X * tF) HR2.out hodd.out w2).mono ?_);rintro e w3 ⟨rfl,hb⟩;exact ⟨_,rfl,rfl,hb⟩
       ·intro a w9 hB hF hS;have ha:=aI rfl rfl hF [_,_] rfl ⟨hS 0 _ rfl,hS 1 _ rfl,trivial⟩;simp only [puts,Act.put,dQ,dR,dS] at ha;subst ha;clear hS hF;have Ub:=oH.below hB oH.lt;have hbz:=hb4.trans (hB.mono hb4.size);have hrz:=hr.below hB hr.lt;clear hr vU oH hb4 hB
        go_wp2_with (first
         | (refine aY rfl 191 _ rfl .i64 b 16 _ bZ rfl bC rfl hrz ?_)
         | (refine aG rfl 191 _ _ rfl .i64 (w.heap.size+1) 16 (fun _=> 0) _ bC rfl rfl Ub ?_))
        exact bodyPost_ret (gK rfl _ _ .i64 (w.heap.size+1) 16 _ rfl (Ub.setRow _ _) bZ rfl bC) rfl ⟨by rw [MJ HNQ.out hodd.out,←HG.out];rfl,ay hbz (by omega) _⟩
      ·have hodd:=ak ho;clear ho;go_upto_region 6 with (fail)
       refine aT (n:=31) (by kernel_rfl) (by kernel_rfl) (by kernel_rfl) rfl
        (fun ii vv _=> (match ii with | 0=> vv=.agg (arr .i64 16 (aM g yA)) | 1=> vv=.bool true | _=> True))
        (fun w w'=> Below w.heap.size w w') (fun _ _ h=> h) (fun _ _ _ _ h _=> h) ?_ ?_
       ·refine cO ?_;refine ⟨?_,?_,trivial⟩
        ·intro a w2 hB hF hd;exact aH <| aP (aB rfl bZ rfl bC (hF.same 4 rfl) (hr.below hB hr.lt)) rfl
        ·intro a w2 hB hF hd;refine aH <| aC _ _ _ rfl Tryz.call222 _ (args1 (hd 0 _ rfl (aj rfl))) (by simp) ((vX (aM g yA) (jm X * tF) HR2.out hodd.out w2).mono ?_);rintro e w3 ⟨rfl,hb⟩;exact ⟨_,rfl,rfl,hb⟩
       ·intro a w9 hB hF hS;have ha:=aI rfl rfl hF [_,_] rfl ⟨hS 0 _ rfl,hS 1 _ rfl,trivial⟩;simp only [puts,Act.put,dQ,dR,dS] at ha;subst ha;clear hS hF;have Ub:=oH.below hB oH.lt;have hbz:=hb4.trans (hB.mono hb4.size);have hrz:=hr.below hB hr.lt;clear hr vU oH hb4 hB;go_wp2_with (refine aY rfl 191 _ rfl .i64 b 16 _ bZ rfl bC rfl hrz ?_);refine (vY (aM g yA) ((jm X * tF)) HR2.out _).mono ?_;rintro e w10 ⟨rfl,EA⟩;have hZy:=Ub.kept EA;have hby:=hbz.trans (EA.mono hbz.size);have hry:=hrz.kept EA;clear Ub hbz hrz EA;go_upto_region 8 with (refine aG rfl 191 _ _ rfl .i64 b 16 _ _ bC rfl rfl hry ?_);refine aD (fun WE=> aF .i64 WE b 16 (qp (aM g yA))/\aF .i64 WE (w.heap.size+1) 16 (fun _=> 0)/\Below w.heap.size w WE) ⟨aF.setRow hry _ _,aF.aA hZy _ (by omega) _,ay hby (by omega) _⟩ ?_;rintro WE ⟨hr2,hZ2,hb2⟩;clear hZy hby hry
        go_wp2_with (first
         | (refine aY rfl 191 _ rfl .i64 b 16 _ bZ rfl bC rfl hr2 ?_)
         | (refine aG rfl 191 _ _ rfl .i64 (w.heap.size+1) 16 (fun _=> 0) _ bC rfl rfl hZ2 ?_))
        exact bodyPost_ret (gK rfl _ _ .i64 (w.heap.size+1) 16 _ rfl (hZ2.setRow _ _) bZ rfl bC) rfl ⟨by rw [MI HNQ.out hodd.out,←HG.out];rfl,ay hb2 (by omega) _⟩
end Go.Proofs.YtpcjekgfnfjbpaaGreat
