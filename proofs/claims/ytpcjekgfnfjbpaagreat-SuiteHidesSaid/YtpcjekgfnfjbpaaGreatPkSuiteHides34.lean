/-
  Part 34 of SuiteHides. Conditions: named in each theorem.
-/
import Derived.Test.YtpcjekgfnfjbpaaGreatPkSuiteHides27
import Derived.Test.YtpcjekgfnfjbpaaGreatPkSuiteHides33
import Derived.OpenShut
set_option linter.unusedVariables false
set_option linter.unusedSimpArgs false
set_option maxRecDepth 100000
set_option maxHeartbeats 6400000
namespace Go.aQ
open Go.RowKit
theorem vC (S:Int):∀i,i<32->upd (upd (dg 256 S) 0 (dg 256 S 0 / 8 * 8)) 31 (dg 256 S 31 % 64+64) i=dg 256 (dx S) i:=by
 have key:∀i:Fin 32,upd (upd (dg 256 S) 0 (dg 256 S 0 / 8 * 8)) 31 (dg 256 S 31 % 64+64) i.val=dg 256 (dx S) i.val:=by
  intro ⟨i,hi⟩;have e:∀j,dg 256 (dx S) j=(S % 2 ^ 254 / 8 * 8+2 ^ 254) / 256 ^ j % 256:=fun _=> rfl;have e':∀j,dg 256 S j=S / 256 ^ j % 256:=fun _=> rfl;rcases i with _ | _ | _ | _ | _ | _ | _ | _ | _ | _ | _ | _ | _ | _ | _ | _ | _ | _ | _ | _ | _ | _ | _ | _ | _ | _ | _ | _ | _ | _ | _ | _ | i
  all_goals first
   | omega
   | (simp only [upd,e,e'];simp;omega)
 exact fun i h=> key ⟨i,h⟩
theorem Eh {P:Program} {fn:Func} {p q p2 q2:Tmp} {T:TypeId} (h:fn.results=#[.cell p T,.cell q T,.cell p2 T,.cell q2 T]) (tmps:Array Value) (w:World) (k:IntKind) (n:Nat) {d:TypeDesc} (hu:P.underlying T=some d) (hd:JF d=true) (hi:(P.info? T).map (·.size)=some n)
  (b1 b2 b3 b4:Nat) (f1 f2 f3 f4:Nat->Int) (hp:tmps.getD p undef=.pointer (some ⟨b1,0,none⟩)) (ha:aD k w b1 n f1) (hp2:tmps.getD q undef=.pointer (some ⟨b2,0,none⟩)) (ha2:aD k w b2 n f2)
  (hp3:tmps.getD p2 undef=.pointer (some ⟨b3,0,none⟩)) (ha3:aD k w b3 n f3) (hp4:tmps.getD q2 undef=.pointer (some ⟨b4,0,none⟩)) (ha4:aD k w b4 n f4):
  (results fn tmps).run P w=.ok (.tuple #[.agg (arr k n f1),.agg (arr k n f2),.agg (arr k n f3),.agg (arr k n f4)]) w:=by
 obtain ⟨t,ht⟩:=ha;obtain ⟨t2,ht2⟩:=ha2;obtain ⟨t3,ht3⟩:=ha3;obtain ⟨t4,ht4⟩:=ha4;have e1:tmps[p]?.getD undef=.pointer (some ⟨b1,0,none⟩):=by simpa using hp
 have e2:tmps[q]?.getD undef=.pointer (some ⟨b2,0,none⟩):=by simpa using hp2
 have e3:tmps[p2]?.getD undef=.pointer (some ⟨b3,0,none⟩):=by simpa using hp3
 have e4:tmps[q2]?.getD undef=.pointer (some ⟨b4,0,none⟩):=by simpa using hp4
 have key:∀(b t:Nat) (f:Nat->Int),w.heap[b]? =some (.cells (arr k n f) t (0,0))->(loadVar T ⟨b,0,none⟩).run P w=.ok (.agg (arr k n f)) w:=fun b t f hb=> run_loadVar_row w b t T (arr k n f) (0,0) _ hb hu (by cases d<;> first | rfl | cases hd) (by rw [hi,gH]);simp [results,h,e1,e2,e3,e4,asAddr,key _ _ _ ht,key _ _ _ ht2,key _ _ _ ht3,key _ _ _ ht4]
theorem Oh (x:Int) (h0:0<=x) (h1:x<256):bits .and .u8 x 248=x / 8 * 8:=by
 obtain ⟨n,rfl⟩:=Dv h0;have key:∀n:Fin 256,bits .and .u8 ((n.val:Nat):Int) 248=(n.val:Int) / 8 * 8:=by decide+kernel
 exact key ⟨n,by omega⟩
theorem Oi (x:Int) (h0:0<=x) (h1:x<256):bits .and .u8 x 127=x % 128:=by
 obtain ⟨n,rfl⟩:=Dv h0;have key:∀n:Fin 256,bits .and .u8 ((n.val:Nat):Int) 127=(n.val:Int) % 128:=by decide+kernel
 exact key ⟨n,by omega⟩
theorem Zn (x:Int) (h0:0<=x) (h1:x<128):bits .or .u8 x 64=x % 64+64:=by
 obtain ⟨n,rfl⟩:=Dv h0;have key:∀n:Fin 128,bits .or .u8 ((n.val:Nat):Int) 64=(n.val:Int) % 64+64:=by decide+kernel
 exact key ⟨n,by omega⟩
theorem Gz {P:Program} {w:World} {a:Act} {o:Oper} {x y:Operand} {t1 t2:TypeId} {k:IntKind} {m:Int} (ho:o.op=.call { callee:=.builtin .max,args:=#[x,y],argTypes:=#[t1,t2] }) (hx:a.eval x=.int k m) (hy:a.eval y=.int k 0) (hm:0<=m):
  (execOp a.eval o).run P w=.ok (.value (.int k m)) w:=by
 unfold execOp;simp only [ho,resolve,invoke,builtin,Sem.run_bind,Sem.run_pure,Result.andThen_ok,qy,List.map_cons,List.map_nil,hx,hy];simp [go_sem,Builtin.max_,Builtin.max2];omega
def cB (p:Bool) (f g:Nat->Int):Nat->Int:=if p then g else f
theorem yE {p:Bool} {f g:Nat->Int} {X Y:Int} (hf:Fe f X) (hg:Fe g Y):Fe (cB p f g) (if p then Y else X):=by cases p<;> assumption
end Go.aQ
namespace Go.Proofs.YtpcjekgfnfjbpaaGreat
open Go.RowKit Go.aQ Go.ChangeShapes
attribute [local go_sem ↓] Go.wp_at_zero Go.wp_at_succ
theorem Yb:(#[.int .u8 0,.int .u8 0,.int .u8 0,.int .u8 0,.int .u8 0,.int .u8 0,.int .u8 0,.int .u8 0,.int .u8 0,.int .u8 0,.int .u8 0,.int .u8 0,.int .u8 0,.int .u8 0,.int .u8 0,.int .u8 0,.int .u8 0,.int .u8 0,.int .u8 0,.int .u8 0,.int .u8 0,.int .u8 0,.int .u8 0,.int .u8 0,.int .u8 0,.int .u8 0,.int .u8 0,.int .u8 0,.int .u8 0,.int .u8 0,.int .u8 0,.int .u8 0] :Array Value)=arr .u8 32 (dg 256 0):=by kernel_rfl
theorem Qz {a:Act} (w:World):(Instr.build 22 ((#[] :Array (Nat × Operand)).map fun (i,x)=> (i,a.eval x))).run Tryz.prog w=.ok (.agg (arr .u8 32 (dg 256 0))) w:=by
 simp only [qy,List.map_nil];rw [Go.run_build w _ _ #[.int .u8 0,.int .u8 0,.int .u8 0,.int .u8 0,.int .u8 0,.int .u8 0,.int .u8 0,.int .u8 0,.int .u8 0,.int .u8 0,.int .u8 0,.int .u8 0,.int .u8 0,.int .u8 0,.int .u8 0,.int .u8 0,.int .u8 0,.int .u8 0,.int .u8 0,.int .u8 0,.int .u8 0,.int .u8 0,.int .u8 0,.int .u8 0,.int .u8 0,.int .u8 0,.int .u8 0,.int .u8 0,.int .u8 0,.int .u8 0,.int .u8 0,.int .u8 0] (by kernel_rfl),Yb]
theorem aer (f:Nat->Int) (h:∀i,i<32->(Lit.int .u8 (f i)).wf=true):∃X:Int,arr .u8 32 f=arr .u8 32 (dg 256 X)/\0<=X/\X<256 ^ 32:=by
 have h':∀i,i<32->0<=f i/\f i<256:=fun i hi=> by have:=bounds_u8 (h i hi);omega
 exact ⟨sm 256 f 32,dY fun i hi=> (qh (by decide) h' i hi).symm,jB (by decide) h'⟩
theorem zy {w w':World} {e:Ending} {X:Int} {b:Nat} (h:∃v,e=.returned v/\Own .i64 3 b w' v 16 (dg 65536 X)/\Below w.heap.size w w'):∃v,e=.returned v/\Rd .i64 w' v 16 (dg 65536 X)/\Below w.heap.size w w':=by
 obtain ⟨v,h1,h2,h3⟩:=h;exact ⟨v,h1,h2.rd,h3⟩
theorem acG (X:Int) (w:World):Calls Tryz.prog 122 #[.agg (arr .u8 32 (dg 256 X))] w fun e w'=> ∃v,e=.returned v/\Rd .i64 w' v 16 (dg 65536 (X % 2 ^ 255 % Pr))/\Below w.heap.size w w':=(YB X w).mono fun _ _ h=> zy h
theorem Cr (n:Int) (h0:0<=n) (h1:n<65536) (w:World):Calls Tryz.prog 123 #[.int .i64 n] w fun e w'=> ∃v,e=.returned v/\Rd .i64 w' v 16 (dg 65536 n)/\Below w.heap.size w w':=(zC n h0 h1 w).mono fun _ _ h=> zy h
theorem kY (A B:Int) (va vb:Value) (w:World) (ha:Rd .i64 w va 16 (dg 65536 (A % Pr))) (hb:Rd .i64 w vb 16 (dg 65536 (B % Pr))):Calls Tryz.prog 124 #[va,vb] w fun e w'=> ∃v,e=.returned v/\Rd .i64 w' v 16 (dg 65536 ((A+B) % Pr))/\Below w.heap.size w w':=by
 have h:=(UM va vb (A % Pr) (B % Pr) (ED A) (ED B) w ha hb).mono fun _ _ h=> zy h
 rwa [<-Int.add_emod] at h
theorem kX (A B:Int) (va vb:Value) (w:World) (ha:Rd .i64 w va 16 (dg 65536 (A % Pr))) (hb:Rd .i64 w vb 16 (dg 65536 (B % Pr))):Calls Tryz.prog 125 #[va,vb] w fun e w'=> ∃v,e=.returned v/\Rd .i64 w' v 16 (dg 65536 ((A - B) % Pr))/\Below w.heap.size w w':=by
 have h:=(UK va vb (A % Pr) (B % Pr) (PI A) (PI B) w ha hb).mono fun _ _ h=> zy h
 rwa [<-Int.sub_emod] at h
theorem dJ (A B:Int) (va vb:Value) (w:World) (ha:Rd .i64 w va 16 (dg 65536 (A % Pr))) (hb:Rd .i64 w vb 16 (dg 65536 (B % Pr))):Calls Tryz.prog 126 #[va,vb] w fun e w'=> ∃v,e=.returned v/\Rd .i64 w' v 16 (dg 65536 (A * B % Pr))/\Below w.heap.size w w':=by
 have h:=(UL va vb (A % Pr) (B % Pr) (ED A) (ED B) w ha hb).mono fun _ _ h=> zy h
 rwa [<-Int.mul_emod] at h
theorem NZ (X:Int):Fe (dg 65536 (X % 2 ^ 255)) (X % 2 ^ 255):=Fe.dg (EF X).1 (EF X).2 rfl
end Go.Proofs.YtpcjekgfnfjbpaaGreat
namespace Go.Proofs.YtpcjekgfnfjbpaaGreat
open Go.RowKit Go.aQ
attribute [local go_sem ↓] Go.wp_at_zero Go.wp_at_succ
theorem Sy (f:Nat->Int) (N:Int) (m:Nat) (h:m<256):FQ f N (256 - m)=if N / 2 ^ m % 2=1 then dn (dn (FQ f N (256 - (m+1))) (FQ f N (256 - (m+1)))) f else dn (FQ f N (256 - (m+1))) (FQ f N (256 - (m+1))):=by
 obtain ⟨k,hk⟩:∃k,256 - m=k+1:=⟨255 - m,by omega⟩
 rw [hk,show 256 - (m+1)=k by omega];show (if N / 2 ^ (255 - k) % 2=1 then _ else _)= _;rw [show 255 - k=m by omega]
theorem Jb (f:Nat->Int) (X N:Int) (hf:Fe f X) (h0:0<=N) (h1:N<2 ^ 256) (w:World):
  Calls Tryz.prog 247 #[El f,.agg (arr .u8 32 (dg 256 N))] w fun e w'=> e=.returned (El (SK f N))/\Below w.heap.size w w':=by
 have HF:=ak hf;have H0:=ak h0;have H1:=ak h1;clear hf h0 h1;unfold El
 go_enter Tryz.func247,Tryz.ntmps247
 go_wp2_with fail;refine (qZ 1 _).mono ?_;rintro e w1 ⟨rfl,hb1⟩;have hA1:aD .i64 w1 w.heap.size 16 f:=aD.kept (aD.alloc (aD.alloc (bg (by first | omega | (simp<;> omega)) (by rfl)) _) _) hb1;have hB1:aD .u8 w1 (w.heap.size+1) 32 (dg 256 N):=aD.kept (aD.alloc (bg (by first | omega | (simp<;> omega)) (by rfl)) _) hb1;have hZ1:aD .i64 w1 (w.heap.size+2) 16 (fun _=> 0):=aD.kept (bg (by first | omega | (simp<;> omega)) (by rfl)) hb1;have eT:Below w.heap.size w w1:=((((bA _ _).alloc (aP _) _).alloc (by simp) _).alloc (by simp;omega) _).trans (hb1.mono (by simp;omega));have l1:=hZ1.lt;clear hb1;go_upto_region 2 with (refine aH rfl 191 _ _ rfl .i64 w1.heap.size 16 (fun _=> 0) _ dz rfl rfl (bg rfl rfl) ?_)
 refine aC (fun w2=> aD .i64 w2 w.heap.size 16 f/\aD .u8 w2 (w.heap.size+1) 32 (dg 256 N)/\aD .i64 w2 (w.heap.size+2) 16 (fun _=> 0)/\aD .i64 w2 w1.heap.size 16 (FQ f N (256 - 256))/\Below w.heap.size w w2)
  ⟨aD.aA (aD.alloc hA1 _) _ (by omega) _,aD.aA (aD.alloc hB1 _) _ (by omega) _,aD.aA (aD.alloc hZ1 _) _ (by omega) _,aD.setRow (bg (n:=16) (f:=fun _=> 0) rfl rfl) _ _,ay (eT.alloc eT.size _) eT.size _⟩ ?_
 rintro w2 ⟨hA,hB,hZ,hO,hbel⟩;obtain ⟨b,hb⟩:∃b,b=w1.heap.size:=⟨_,rfl⟩
 rw [<-hb] at hO l1 ⊢;clear hb hA1 hB1 hZ1 eT;go_wp2
 go_loopw [6] (fun i wr=> ∃k:Nat,k<=256/\i=.int .i64 ((k:Int) - 1)/\aD .i64 wr w.heap.size 16 f/\aD .u8 wr (w.heap.size+1) 32 (dg 256 N)/\aD .i64 wr (w.heap.size+2) 16 (fun _=> 0)/\aD .i64 wr b 16 (FQ f N (256 - k))/\Below w.heap.size w wr) (fun i _=> (intOf i+1).toNat)
 case atStart=> exact ⟨256,aP _,rfl,hA,hB,hZ,hO,hbel⟩
 case round=>
  clear hA hB hZ hO hbel;obtain ⟨k,hk,rfl,hA,hB,hZ,hO,hbel⟩:=hrel;obtain _ | m:=k
  ·go_wp2_with (first
    | (refine bN rfl 191 _ rfl .i64 b 16 _ fZ rfl dz rfl hO ?_)
    | (refine aH rfl 191 _ _ rfl .i64 (w.heap.size+2) 16 (fun _=> 0) _ dz rfl rfl hZ ?_))
   exact bodyPost_ret (dP rfl _ _ .i64 (w.heap.size+2) 16 _ rfl (hZ.setRow _ _) fZ rfl dz) rfl ⟨rfl,ay hbel (by omega) _⟩
  ·have hkm:((m+1:Nat):Int) - 1=(m:Int):=by omega
   rw [hkm];have HP:=ak (HF.out.FQ H0.out H1.out (256 - (m+1)) (by omega));have HST:=ak (Sy f N m (by omega));obtain ⟨g,hg⟩:∃g,g=FQ f N (256 - (m+1)):=⟨_,rfl⟩
   rw [<-hg] at HP HST hO;clear hkm hg;go_wp2_with (refine bN rfl 191 _ rfl .i64 b 16 _ fZ rfl dz rfl hO ?_);refine (fI g g _ _ HP.out HP.out _).mono ?_;rintro e w3 ⟨rfl,hb3⟩;have hA3:=hA.kept hb3;have hB3:=hB.kept hb3;have hZ3:=hZ.kept hb3;have hO3:=hO.kept hb3;have bH:=hbel.trans (hb3.mono hbel.size);clear hA hB hZ hO hbel hb3;go_upto_region 6 with (refine aH rfl 191 _ _ rfl .i64 b 16 _ _ dz rfl rfl hO3 ?_)
   refine aC (fun w4=> aD .i64 w4 w.heap.size 16 f/\aD .u8 w4 (w.heap.size+1) 32 (dg 256 N)/\aD .i64 w4 (w.heap.size+2) 16 (fun _=> 0)/\aD .i64 w4 b 16 (dn g g)/\Below w.heap.size w w4)
    ⟨aD.aA hA3 _ (by omega) _,aD.aA hB3 _ (by omega) _,aD.aA hZ3 _ (by omega) _,aD.setRow hO3 _ _,ay bH (by omega) _⟩ ?_
   rintro w4 ⟨hA,hB',hZ,hO,hbel⟩;clear hA3 hB3 hZ3 hO3 bH;have hm9:m % 8<8:=Nat.mod_lt _ (by decide);have hq:IntKind.i64.wrap (Int.tdiv (m:Int) 8)=((m / 8:Nat):Int):=by rw [Int.tdiv_eq_ediv_of_nonneg (by omega),aR] <;> omega
   have hr:Int.tmod (m:Int) 8=((m % 8:Nat):Int):=by rw [Int.tmod_eq_emod_of_nonneg (by omega)];omega
   have hc:IntKind.u64.wrap ((m % 8:Nat):Int)=((m % 8:Nat):Int):=qz (by omega) (by omega);obtain ⟨d0,d1⟩:=aN (by decide:(0:Int)<256) N (m / 8);have hsh:=Jy (x:=dg 256 N (m / 8)) (m % 8) hm9;have hand:bits .and .u8 (dg 256 N (m / 8) / 2 ^ (m % 8)) 1=N / 2 ^ m % 2:=by
    rw [JE (Int.ediv_nonneg d0 (Int.le_of_lt (cZ (by decide) _))) (Int.lt_of_le_of_lt (Int.ediv_le_self _ d0) d1),Fw N m]
   have hpl:((m / 8:Nat):Int).toNat=m / 8:=FU _;have Zu:m / 8<32:=by omega
   have hce:=hB'.cell (m / 8) Zu;have hBl:=hB'.lt
   refine aT (n:=29) (by kernel_rfl) (by kernel_rfl) (by kernel_rfl) rfl
    (fun ii vv _=> (match ii with | 0 | 4=> vv=.int .i64 ((m:Int)) | 1=> vv=.int .i64 ((m / 8:Nat)) | 2=> vv=.pointer (some ⟨(w.heap.size+1),(m / 8),none⟩) | 3=> vv=.int .u8 (dg 256 N (m / 8)) | 5=> vv=.int .i64 ((m % 8:Nat)) | 6=> vv=.int .u64 ((m % 8:Nat)) | 7=> vv=.int .u8 (dg 256 N (m / 8) / 2 ^ (m % 8)) | 8=> vv=.int .u8 (N / 2 ^ m % 2) | 9=> vv=.bool ((N / 2 ^ m % 2)==(1)) | _=> True))
    (fun w w'=> Below w.heap.size w w') (fun _ _ h=> h) (fun _ _ _ _ h _=> h) ?_ ?_
   ·refine dD ?_;refine ⟨?_,?_,?_,?_,?_,?_,?_,?_,?_,?_,trivial⟩
    ·intro a w2 hB hF hd;exact aG <| bJ rfl (hF.same 6 rfl)
    ·intro a w2 hB hF hd;exact aG <| aO (Go.aQ.uE rfl (hd 0 _ rfl (aj rfl)) rfl (by decide)) (congrArg (Value.int .i64) (hq))
    ·intro a w2 hB hF hd;exact aG <| aO (aL rfl (hF.same 3 rfl) (hd 1 _ rfl (aj rfl)) dB (by kernel_rfl) (by omega) (by omega)) (congrArg (fun z=> Value.pointer (some ⟨w.heap.size+1,z,none⟩)) hpl)
    ·intro a w2 hB hF hd;exact aG <| aO (aJ rfl (hd 2 _ rfl (aj rfl)) FD ((hB.cell (p:=⟨w.heap.size+1,m / 8,none⟩) hBl).trans hce)) rfl
    ·intro a w2 hB hF hd;exact aG <| bJ rfl (hF.same 6 rfl)
    ·intro a w2 hB hF hd;exact aG <| aO (Go.aQ.DZ rfl (hd 4 _ rfl (aj rfl)) rfl (by decide)) (congrArg (Value.int .i64) (hr))
    ·intro a w2 hB hF hd;exact aG <| aO (qN rfl (hd 5 _ rfl (aj rfl)) Tryz.underlying3 Tryz.underlying212) (congrArg (Value.int .u64) (hc))
    ·intro a w2 hB hF hd;exact aG <| aO (Go.aQ.uD rfl (hd 3 _ rfl (aj rfl)) (hd 6 _ rfl (aj rfl)) (by omega)) (congrArg (Value.int .u8) (hsh))
    ·intro a w2 hB hF hd;exact aG <| aO (Go.aQ.jo rfl (hd 7 _ rfl (aj rfl)) rfl) (congrArg (Value.int .u8) (hand))
    ·intro a w2 hB hF hd;refine aG <| aO (Go.aQ.wY rfl (hd 8 _ rfl (aj rfl)) rfl) ?_;exact rfl
   ·intro a w5 hB hF hS;have ha:=aK rfl rfl hF [_,_,_,_,_,_,_,_,_,_] rfl ⟨hS 0 _ rfl,hS 1 _ rfl,hS 2 _ rfl,hS 3 _ rfl,hS 4 _ rfl,hS 5 _ rfl,hS 6 _ rfl,hS 7 _ rfl,hS 8 _ rfl,hS 9 _ rfl,trivial⟩;simp only [puts,Act.put,dS,dU,dV] at ha;subst ha;clear hS hF;have tH:=hA.below hB hA.lt;have hB5:=hB'.below hB hB'.lt;have nC:=hZ.below hB hZ.lt;have NT:=hO.below hB hO.lt;have dA:=hbel.trans (hB.mono hbel.size);clear hA hB' hZ hO hbel hB hq hr hc hsh hand hce hpl;by_cases hbit:N / 2 ^ m % 2=1
    ·have hbb:(N / 2 ^ m % 2==1)=true:=by rw [hbit];rfl
     rw [if_pos hbit] at HST;clear hbit
     go_wp2_with (first
      | (refine bN rfl 191 (.tmp 5) rfl .i64 b 16 _ fZ rfl dz rfl NT ?_)
      | (refine bN rfl 191 (.tmp 2) rfl .i64 w.heap.size 16 _ fZ rfl dz rfl tH ?_))
     refine (fI (dn g g) f _ _ (HP.out.dn HP.out) HF.out _).mono ?_;rintro e w6 ⟨rfl,hb6⟩;have Ki:=tH.kept hb6;have hB6:=hB5.kept hb6;have sG:=nC.kept hb6;have ZE:=NT.kept hb6;have dI:=dA.trans (hb6.mono dA.size);clear tH hB5 nC NT dA hb6;go_wp2_with (refine aH rfl 191 _ _ rfl .i64 b 16 _ _ dz rfl rfl ZE ?_);go_roundw
     case rel=> exact ⟨m,by omega,by go_num,aD.aA Ki _ (by omega) _,aD.aA hB6 _ (by omega) _,aD.aA sG _ (by omega) _,by rw [HST.out];exact aD.setRow ZE _ _,ay dI (by omega) _⟩
     case measure=> simp [intOf] <;> omega
    ·have hbb:(N / 2 ^ m % 2==1)=false:=by simpa using hbit
     rw [if_neg hbit] at HST;clear hbit;go_wp2;go_roundw
     case rel=> exact ⟨m,by omega,by go_num,tH,hB5,nC,by rw [HST.out];exact NT,dA⟩
     case measure=> simp [intOf] <;> omega
theorem EZ (l:Int) (s:Nat) (h0:1<=l) (h1:l<=255) (hs:s<=8) (w:World):
  Calls Tryz.prog 248 #[.int .u8 l,.int .u64 s] w fun e w'=> e=.returned (.agg (arr .u8 32 (dg 256 ((2 ^ 255 - l) / 2 ^ s))))/\Below w.heap.size w w':=by
 have HD:=ak (Ll h0 h1);obtain ⟨M,hM⟩:∃M:Int,M=2 ^ 255 - l:=⟨_,rfl⟩
 have hMb:0<=M/\M<256 ^ 32:=by (rw [hM];have e:(256:Int) ^ 32=2 * 2 ^ 255:=by decide);(rw [e];have:(255:Int)<2 ^ 255:=by decide);omega
 rw [<-hM] at HD ⊢;have HMB:=ak hMb;have hneg:IntKind.u8.wrap (-l)=256 - l:=by rw [IntKind.wrap_u8];omega
 have HN:=ak hneg;clear hM hMb hneg
 go_enter Tryz.func248,Tryz.ntmps248
 go_wp2
 go_loopw [8] (fun i wr=> ∃k:Nat,k<=32/\i=.int .i64 k/\aD .u8 wr w.heap.size 32 (fun _=> 0)/\aD .u8 wr (w.heap.size+1) 32 (upto k (fun _=> 255) (fun _=> 0))/\Below w.heap.size w wr) (fun i _=> 32 - (intOf i).toNat)
 case atStart=> exact ⟨0,dR _,rfl,aD.alloc (bg (by first | omega | (simp<;> omega)) (by rfl)) _,by rw [bF];exact bg (by first | omega | (simp<;> omega)) (by rfl),((bA _ _).alloc (aP _) _).alloc (by simp) _⟩
 case round=>
  obtain ⟨k,hk,rfl,hZ,hA,hbel⟩:=hrel;by_cases hlt:k<32
  ·have e1:=hA.cell k hlt;have f1:=hA.free k;have HA:=ak hA;have HZ:=ak hZ;clear hA hZ;go_wp2;go_roundw
   case rel=> exact ⟨k+1,by omega,by go_num,HZ.out.other (by first | omega | (simp<;> omega)) _,by rw [<-aY rfl];exact HA.out.set k _,hbel.setCell (by first | omega | (simp<;> omega)) _⟩
   case measure=> simp [intOf] <;> omega
  ·obtain rfl:k=32:=by omega
   have hA2:=hA.congr (bP _ _ (aP _));have e0:=hA2.cell 0 (by decide);have e31:=hA2.cell 31 (by decide);have f0:=hA2.free 0;have f31:=hA2.free 31;have HA:=ak hA2;have HZ:=ak hZ;have HB:=ak hbel;clear hA hA2 hZ hbel;have hneg:=HN.out;go_upto_region 8 with (fail)
   refine aC (fun w1=> aD .u8 w1 w.heap.size 32 (fun _=> 0)/\aD .u8 w1 (w.heap.size+1) 32 (dg 256 M)/\Below w.heap.size w w1)
    ⟨(HZ.out.other (by first | omega | (simp<;> omega)) _).other (by first | omega | (simp<;> omega)) _,((HA.out.set 0 (256 - l)).set 31 127).congr HD.out,(HB.out.setCell (by first | omega | (simp<;> omega)) _).setCell (by first | omega | (simp<;> omega)) _⟩ ?_
   rintro w1 ⟨hZ,hA,hbel⟩;clear e0 e31 f0 f31 HA HZ HB hneg;go_wp2
   go_loopw [19] (fun i wr=> ∃j:Nat,j<=s/\i=.int .u64 j/\aD .u8 wr w.heap.size 32 (fun _=> 0)/\aD .u8 wr (w.heap.size+1) 32 (dg 256 (M / 2 ^ j))/\Below w.heap.size w wr) (fun i _=> s - (intOf i).toNat)
   case atStart=> exact ⟨0,dR _,rfl,hZ,by rw [Int.pow_zero,Int.ediv_one];exact hA,hbel⟩
   case round=>
    clear hZ hA hbel;obtain ⟨j,hj,rfl,hZ,hA,hbel⟩:=hrel;by_cases hlt2:j<s
    ·obtain ⟨Y,hY⟩:∃Y,Y=M / 2 ^ j:=⟨_,rfl⟩
     have hY2:M / 2 ^ (j+1)=Y / 2:=by rw [hY,bW (by decide)]
     have hYb:0<=Y/\Y<256 ^ 32:=by rw [hY];exact ⟨Int.ediv_nonneg HMB.out.1 (Int.le_of_lt (cZ (by decide) _)),Int.lt_of_le_of_lt (Int.ediv_le_self _ HMB.out.1) HMB.out.2⟩
     rw [<-hY] at hA;have HY2:=ak hY2;have Oj:=ak hYb;have HZ:=ak hZ;have HA:=ak hA;have HB:=ak hbel;clear hY hY2 hYb hZ hA hbel;go_wp2
     go_loopw [21] (fun i wr=> ∃k:Nat,k<=32/\i=.int .i64 k/\aD .u8 wr w.heap.size 32 (fun _=> 0)/\aD .u8 wr (w.heap.size+1) 32 (upto k (dg 256 (Y / 2)) (dg 256 Y))/\Below w.heap.size w wr) (fun i _=> 32 - (intOf i).toNat)
     case atStart=> exact ⟨0,dR _,rfl,HZ.out,by rw [bF];exact HA.out,HB.out⟩
     case round=>
      clear HZ HA HB;obtain ⟨k,hk,rfl,hZ,hA,hbel⟩:=hrel;by_cases hlt3:k<32
      ·have e1:=hA.cell k hlt3;have f1:=hA.free k;rw [upto_at] at e1;obtain ⟨a0,a1⟩:=aN (by decide:(0:Int)<256) Y k;obtain ⟨c0,c1⟩:=aN (by decide:(0:Int)<256) Y (k+1);have hh:=Mc Y k;obtain ⟨a,ha⟩:∃a,a=dg 256 Y k:=⟨_,rfl⟩
       obtain ⟨c,hc⟩:∃c,c=dg 256 Y (k+1):=⟨_,rfl⟩
       rw [<-ha] at e1 a0 a1 hh;rw [<-hc] at c0 c1 hh;have HH:=ak hh;have HC:=ak hc;clear hh ha;by_cases hk31:k<31
       ·have e2:=hA.cell (k+1) (by omega);have hu:upto k (dg 256 (Y / 2)) (dg 256 Y) (k+1)=c:=by rw [hc];exact if_neg (by omega)
        rw [hu] at e2;have HA:=ak hA;have HZ:=ak hZ;have HB:=ak hbel;have HU:=ak hu;clear hA hZ hbel hc hu;go_upto_region 14 with (fail)
        refine aC (fun w2=> aD .u8 w2 w.heap.size 32 (fun _=> 0)/\aD .u8 w2 (w.heap.size+1) 32 (upd (upto k (dg 256 (Y / 2)) (dg 256 Y)) k (a / 2))/\Below w.heap.size w w2)
         ⟨HZ.out.other (by first | omega | (simp<;> omega)) _,HA.out.set k _,HB.out.setCell (by first | omega | (simp<;> omega)) _⟩ ?_
        rintro w2 ⟨hZ2,hA2,hb2⟩;have e3:=hA2.cell (k+1) (by omega);rw [upd_ne _ _ (by omega),HU.out] at e3;have e4:=hA2.cell k hlt3;have f4:=hA2.free k;rw [iY] at e4;have hor:=Go.aQ.u8_or128 (a:=a / 2) (b:=c % 2) (by omega) (by omega) (by omega) (by omega);have hmm:c * 128 % 256=c % 2 * 128:=by omega
        rw [<-hmm] at hor;have HMM:=ak hmm;have HA2:=ak hA2;clear e1 e2 f1 HA HZ HB hA2 hmm;go_wp2
        go_region
        all_goals
         go_wp2;go_roundw
         case rel=> exact ⟨k+1,by omega,by go_num,(hZ2.other (by first | omega | (simp<;> omega)) _).drew,by have h3:=(HA2.out.set k (a / 2+c * 128 % 256)).drew;rw [HMM.out] at h3;rw [HMM.out,←aY HH.out.symm];exact h3.congr (fun i _=> ug _ _ _ _ i),(hb2.setCell (by first | omega | (simp<;> omega)) _).drew⟩
         case measure=> simp [intOf] <;> omega
       ·obtain rfl:k=31:=by omega
        have hc0:c=0:=by rw [hc];exact lD Oj.out
        have HH2:Hid (a / 2=dg 256 (Y / 2) 31):=by show _= _;have:=HH.out;omega
        have HA:=ak hA;have HZ:=ak hZ;have HB:=ak hbel;clear hA hZ hbel hc hc0;go_wp2;go_roundw
        case rel=> exact ⟨32,by omega,by go_num,HZ.out.other (by first | omega | (simp<;> omega)) _,by rw [<-aY HH2.out];exact HA.out.set 31 _,HB.out.setCell (by first | omega | (simp<;> omega)) _⟩
        case measure=> simp [intOf] <;> omega
      ·obtain rfl:k=32:=by omega
       have hA2:=hA.congr (bP _ _ (aP _));clear hA;go_wp2;go_roundw
       case rel=> exact ⟨j+1,by omega,by go_num,hZ,by rw [HY2.out];exact hA2,hbel⟩
       case measure=> simp [intOf] <;> omega
    ·obtain rfl:j=s:=by omega
     go_wp2_with (first
      | (refine aM rfl 22 _ rfl .u8 (w.heap.size+1) 32 _ 5 dB bZ rfl hA ?_)
      | (refine aH rfl 22 _ _ rfl .u8 w.heap.size 32 (fun _=> 0) _ bZ rfl rfl hZ ?_))
     exact bodyPost_ret (aV rfl _ _ .u8 w.heap.size 32 _ 5 rfl (hZ.setRow _ _) dB bZ) rfl ⟨rfl,ay hbel (aP _) _⟩
theorem Yg:((2 ^ 255 - 21) / 2 ^ 0:Int)=((PN - 2:Nat):Int):=by decide
theorem kV:(0:Int)<=((PN - 2:Nat):Int)/\((PN - 2:Nat):Int)<2 ^ 256:=by decide
theorem Lj (w:World):Calls Tryz.prog 248 #[.int .u8 21,.int .u64 0] w fun e w'=> e=.returned (.agg (arr .u8 32 (dg 256 ((PN - 2:Nat):Int))))/\Below w.heap.size w w':=by
 have h:=EZ 21 0 (by decide) (by decide) (by decide) w;rw [Yg] at h;exact h
def EK (f:Nat->Int):Nat->Int:=SK f ((PN - 2:Nat):Int)
def aeA (X:Int):Int:=X ^ (PN - 2)
theorem UJ {f:Nat->Int} {X:Int} (hf:Fe f X):Fe (EK f) (aeA X):=by
 unfold aeA;have h:=hf.SK kV.1 kV.2
 rwa [FU] at h
theorem BK (f:Nat->Int) (X:Int) (hf:Fe f X) (w:World):
  Calls Tryz.prog 204 #[El f] w fun e w'=> e=.returned (El (EK f))/\Below w.heap.size w w':=by
 have HF:=ak hf;clear hf;unfold El
 go_enter Tryz.func204,Tryz.ntmps204
 go_wp2
 refine aC (fun w1=> aD .i64 w1 w.heap.size 16 f/\aD .i64 w1 (w.heap.size+1) 16 (fun _=> 0)/\Below w.heap.size w w1)
  ⟨aD.alloc (bg (by first | omega | (simp<;> omega)) (by rfl)) _,bg (by first | omega | (simp<;> omega)) (by rfl),((bA _ _).alloc (aP _) _).alloc (by simp) _⟩ ?_
 rintro w1 ⟨hA,hZ,hbel⟩
 refine eD (n:=6) (fun i=> i==3) (by kernel_rfl) (by kernel_rfl) (by kernel_rfl) (by kernel_rfl) rfl
  (fun ii vv _=> (match ii with | 0=> vv=.agg (arr .i64 16 (f)) | 1=> vv=.agg (arr .u8 32 (dg 256 ((PN - 2:Nat):Int))) | 2=> vv=.agg (arr .i64 16 (EK f)) | _=> True))
  (fun w w'=> Below w.heap.size w w') (fun _ _ h=> h) (fun _ _ _ _ h _=> h)
  (fun _=> (w.heap.size+1)) (fun _=> (arr .i64 16 (fun _=> 0))) (fun _=> (arr .i64 16 (EK f)))
  (by intro i j _ _ hpi ko hne;simp only [beq_iff_eq] at hpi ko;omega)
  (by intro i _ hpi;exact (hZ).row)
  ?_ ?_ ?_
 ·refine dD ?_;refine ⟨?_,?_,?_,(aF),trivial⟩
  ·intro _ a w2 hB hF hd;exact aG <| aO (aB rfl fZ rfl dz (hF.same 1 rfl) (hA.below hB hA.lt)) rfl
  ·intro _ a w2 hB hF hd;refine aG <| aI _ _ _ rfl Tryz.call248 _ (args2 rfl rfl) (by simp) ((Lj w2).mono ?_);rintro e w3 ⟨rfl,hb⟩;exact ⟨_,rfl,rfl,hb⟩
  ·intro _ a w2 hB hF hd;refine aG <| aI _ _ _ rfl Tryz.call247 _ (args2 (hd 0 _ rfl rfl (aj rfl)) (hd 1 _ rfl rfl (aj rfl))) (by simp) ((Jb f X ((PN - 2:Nat):Int) HF.out kV.1 kV.2 w2).mono ?_);rintro e w3 ⟨rfl,hb⟩;exact ⟨_,rfl,rfl,hb⟩
 ·refine dD ?_;refine ⟨(aF),(aF),(aF),?_,trivial⟩
  ·intro _ a w1 w2 K hB hF hS hr hK;exact bB 191 _ _ rfl .i64 ((w.heap.size+1)) 16 (fun _=> 0) (EK f) dz (hF.same 2 rfl) (hS 2 _ rfl rfl) hr hK
 ·intro a wf w3 hB hF hS hfil;have other:∀{k:IntKind} {qb n:Nat} {f:Nat->Int},qb≠(w.heap.size+1)->aD k wf qb n f->aD k w3 qb n f:=fun {k qb n f} e0 hA=> hfil.arr (by intro i _ hpi;simp only [oP,beq_iff_eq] at hpi;subst hpi<;> ((try simp only []);(try dsimp only);omega)) hA;have fP:∀{B:Nat} {w0:World},B<=(w.heap.size+1)->Below B w0 wf->Below B w0 w3:=fun {B w0} e0 hA=> hfil.below (by intro i _ hpi;simp only [oP,beq_iff_eq] at hpi;subst hpi<;> ((try simp only []);(try dsimp only);omega)) hA;have V3:aD .i64 w3 ((w.heap.size+1)) 16 (EK f):=hfil.at 3 (by decide) rfl;have EP:=hfil.size;clear hfil;have ha:=aK rfl rfl hF [_,_,_,undef] rfl ⟨hS 0 _ rfl rfl,hS 1 _ rfl rfl,hS 2 _ rfl rfl,trivial,trivial⟩;simp only [puts,Act.put,dS,dU,dV] at ha;subst ha;clear hS hF;have hb:=fP (by omega) (hbel.trans (hB.mono hbel.size));clear hA hZ hbel hB other fP;go_wp2;exact bodyPost_ret (dP rfl _ _ .i64 (w.heap.size+1) 16 _ rfl V3 fZ rfl dz) rfl ⟨rfl,hb⟩
theorem Mh (f g:Nat->Int) (X Y:Int) (hf:Fe f X) (hg:Fe g Y) (w:World):
  Calls Tryz.prog 201 #[El f,El g,.bool true] w fun e w'=> e=.returned (.tuple #[El g,El f])/\Below w.heap.size w w':=by
 have C1:∀w,Calls Tryz.prog 243 #[El f,El g,.int .i64 1] w fun e w'=> e=.returned (El g)/\Below w.heap.size w w':=fun w=> jV f g 1 (by decide) (fun i hi=> by have:=hf.1.bound i hi;omega) (fun i hi=> by have:=hg.1.bound i hi;omega) w;have C2:∀w,Calls Tryz.prog 243 #[El g,El f,.int .i64 1] w fun e w'=> e=.returned (El f)/\Below w.heap.size w w':=fun w=> jV g f 1 (by decide) (fun i hi=> by have:=hg.1.bound i hi;omega) (fun i hi=> by have:=hf.1.bound i hi;omega) w;have K1:=ak C1;have K2:=ak C2;clear C1 C2 hf hg;unfold El
 go_enter Tryz.func201,Tryz.ntmps201
 go_wp2
 refine aC (fun w1=> aD .i64 w1 w.heap.size 16 f/\aD .i64 w1 (w.heap.size+1) 16 g/\aD .i64 w1 (w.heap.size+2) 16 (fun _=> 0)/\aD .i64 w1 (w.heap.size+3) 16 (fun _=> 0)/\Below w.heap.size w w1)
  ⟨aD.alloc (aD.alloc (aD.alloc (bg (by first | omega | (simp<;> omega)) (by rfl)) _) _) _,aD.alloc (aD.alloc (bg (by first | omega | (simp<;> omega)) (by rfl)) _) _,aD.alloc (bg (by first | omega | (simp<;> omega)) (by rfl)) _,bg (by first | omega | (simp<;> omega)) (by rfl),((((bA _ _).alloc (aP _) _).alloc (by simp) _).alloc (by simp;omega) _).alloc (by simp;omega) _⟩ ?_
 rintro w1 ⟨hA,hG,hZ,hY,hbel⟩
 refine eD (n:=18) (fun i=> i==8 || i==9) (by kernel_rfl) (by kernel_rfl) (by kernel_rfl) (by kernel_rfl) rfl
  (fun ii vv _=> (match ii with | 0 | 5 | 7=> vv=.agg (arr .i64 16 (f)) | 1 | 3 | 4=> vv=.agg (arr .i64 16 (g)) | 2 | 6=> vv=.int .i64 (1) | _=> True))
  (fun w w'=> Below w.heap.size w w') (fun _ _ h=> h) (fun _ _ _ _ h _=> h)
  (fun i=> match i with | 8=> (w.heap.size+2) | _=> (w.heap.size+3)) (fun i=> match i with | 8=> (arr .i64 16 (fun _=> 0)) | _=> (arr .i64 16 (fun _=> 0))) (fun i=> match i with | 8=> (arr .i64 16 (g)) | _=> (arr .i64 16 (f)))
  (by intro i j _ _ hpi ko hne;simp only [oP,beq_iff_eq] at hpi ko;rcases hpi with rfl | rfl<;> rcases ko with rfl | rfl<;> first | exact absurd rfl hne | (simp only [];omega))
  (by intro i _ hpi;simp only [oP,beq_iff_eq] at hpi;rcases hpi with rfl | rfl<;> first | exact (hZ).row | exact (hY).row)
  ?_ ?_ ?_
 ·refine dD ?_;refine ⟨?_,?_,?_,?_,?_,?_,?_,?_,(aF),(aF),trivial⟩
  ·intro _ a w2 hB hF hd;exact aG <| aO (aB rfl fZ rfl dz (hF.same 3 rfl) (hA.below hB hA.lt)) rfl
  ·intro _ a w2 hB hF hd;exact aG <| aO (aB rfl fZ rfl dz (hF.same 4 rfl) (hG.below hB hG.lt)) rfl
  ·intro _ a w2 hB hF hd;exact aG <| bJ rfl (hF.same 8 rfl)
  ·intro _ a w2 hB hF hd;refine aG <| aI _ _ _ rfl Tryz.call243 _ (qj (hd 0 _ rfl rfl (aj rfl)) (hd 1 _ rfl rfl (aj rfl)) (hd 2 _ rfl rfl (aj rfl))) (by simp) ((K1.out w2).mono ?_);rintro e w3 ⟨rfl,hb⟩;exact ⟨_,rfl,rfl,hb⟩
  ·intro _ a w2 hB hF hd;exact aG <| aO (aB rfl fZ rfl dz (hF.same 4 rfl) (hG.below hB hG.lt)) rfl
  ·intro _ a w2 hB hF hd;exact aG <| aO (aB rfl fZ rfl dz (hF.same 3 rfl) (hA.below hB hA.lt)) rfl
  ·intro _ a w2 hB hF hd;exact aG <| bJ rfl (hF.same 8 rfl)
  ·intro _ a w2 hB hF hd;refine aG <| aI _ _ _ rfl Tryz.call243 _ (qj (hd 4 _ rfl rfl (aj rfl)) (hd 5 _ rfl rfl (aj rfl)) (hd 6 _ rfl rfl (aj rfl))) (by simp) ((K2.out w2).mono ?_);rintro e w3 ⟨rfl,hb⟩;exact ⟨_,rfl,rfl,hb⟩
 ·refine dD ?_;refine ⟨(aF),(aF),(aF),(aF),(aF),(aF),(aF),(aF),?_,?_,trivial⟩
  ·intro _ a w1 w2 K hB hF hS hr hK;exact bB 191 _ _ rfl .i64 ((w.heap.size+2)) 16 (fun _=> 0) (g) dz (hF.same 6 rfl) (hS 3 _ rfl rfl) hr hK
  ·intro _ a w1 w2 K hB hF hS hr hK;exact bB 191 _ _ rfl .i64 ((w.heap.size+3)) 16 (fun _=> 0) (f) dz (hF.same 7 rfl) (hS 7 _ rfl rfl) hr hK
 ·intro a wf w3 hB hF hS hfil;have other:∀{k:IntKind} {qb n:Nat} {f:Nat->Int},qb≠(w.heap.size+2)->qb≠(w.heap.size+3)->aD k wf qb n f->aD k w3 qb n f:=fun {k qb n f} e0 e1 hA=> hfil.arr (by intro i _ hpi;simp only [oP,beq_iff_eq] at hpi;rcases hpi with rfl | rfl<;> ((try simp only []);(try dsimp only);omega)) hA;have fP:∀{B:Nat} {w0:World},B<=(w.heap.size+2)->B<=(w.heap.size+3)->Below B w0 wf->Below B w0 w3:=fun {B w0} e0 e1 hA=> hfil.below (by intro i _ hpi;simp only [oP,beq_iff_eq] at hpi;rcases hpi with rfl | rfl<;> ((try simp only []);(try dsimp only);omega)) hA;have V8:aD .i64 w3 ((w.heap.size+2)) 16 (g):=hfil.at 8 (by decide) rfl;have V9:aD .i64 w3 ((w.heap.size+3)) 16 (f):=hfil.at 9 (by decide) rfl;have EP:=hfil.size;clear hfil;have ha:=aK rfl rfl hF [_,_,_,_,_,_,_,_,undef,undef] rfl ⟨hS 0 _ rfl rfl,hS 1 _ rfl rfl,hS 2 _ rfl rfl,hS 3 _ rfl rfl,hS 4 _ rfl rfl,hS 5 _ rfl rfl,hS 6 _ rfl rfl,hS 7 _ rfl rfl,trivial,trivial,trivial⟩;simp only [puts,Act.put,dS,dU,dV] at ha;subst ha;clear hS hF;have hb:=fP (by omega) (by omega) (hbel.trans (hB.mono hbel.size));clear hA hG hZ hY hbel hB other fP;go_wp2;exact bodyPost_ret (uJ rfl _ _ .i64 (w.heap.size+2) 16 _ .i64 (w.heap.size+3) 16 _ rfl V8 fZ rfl dz rfl V9 fZ rfl dz) rfl ⟨rfl,hb⟩
theorem Qh (f g:Nat->Int) (X Y:Int) (hf:Fe f X) (hg:Fe g Y) (w:World):
  Calls Tryz.prog 201 #[El f,El g,.bool false] w fun e w'=> e=.returned (.tuple #[El f,El g])/\Below w.heap.size w w':=by
 have C1:∀w,Calls Tryz.prog 243 #[El f,El g,.int .i64 0] w fun e w'=> e=.returned (El f)/\Below w.heap.size w w':=fun w=> jV f g 0 (by decide) (fun i hi=> by have:=hf.1.bound i hi;omega) (fun i hi=> by have:=hg.1.bound i hi;omega) w;have C2:∀w,Calls Tryz.prog 243 #[El g,El f,.int .i64 0] w fun e w'=> e=.returned (El g)/\Below w.heap.size w w':=fun w=> jV g f 0 (by decide) (fun i hi=> by have:=hg.1.bound i hi;omega) (fun i hi=> by have:=hf.1.bound i hi;omega) w;have K1:=ak C1;have K2:=ak C2;clear C1 C2 hf hg;unfold El
 go_enter Tryz.func201,Tryz.ntmps201
 go_wp2
 refine aC (fun w1=> aD .i64 w1 w.heap.size 16 f/\aD .i64 w1 (w.heap.size+1) 16 g/\aD .i64 w1 (w.heap.size+2) 16 (fun _=> 0)/\aD .i64 w1 (w.heap.size+3) 16 (fun _=> 0)/\Below w.heap.size w w1)
  ⟨aD.alloc (aD.alloc (aD.alloc (bg (by first | omega | (simp<;> omega)) (by rfl)) _) _) _,aD.alloc (aD.alloc (bg (by first | omega | (simp<;> omega)) (by rfl)) _) _,aD.alloc (bg (by first | omega | (simp<;> omega)) (by rfl)) _,bg (by first | omega | (simp<;> omega)) (by rfl),((((bA _ _).alloc (aP _) _).alloc (by simp) _).alloc (by simp;omega) _).alloc (by simp;omega) _⟩ ?_
 rintro w1 ⟨hA,hG,hZ,hY,hbel⟩
 refine eD (n:=18) (fun i=> i==8 || i==9) (by kernel_rfl) (by kernel_rfl) (by kernel_rfl) (by kernel_rfl) rfl
  (fun ii vv _=> (match ii with | 0 | 3 | 5=> vv=.agg (arr .i64 16 (f)) | 1 | 4 | 7=> vv=.agg (arr .i64 16 (g)) | 2 | 6=> vv=.int .i64 (0) | _=> True))
  (fun w w'=> Below w.heap.size w w') (fun _ _ h=> h) (fun _ _ _ _ h _=> h)
  (fun i=> match i with | 8=> (w.heap.size+2) | _=> (w.heap.size+3)) (fun i=> match i with | 8=> (arr .i64 16 (fun _=> 0)) | _=> (arr .i64 16 (fun _=> 0))) (fun i=> match i with | 8=> (arr .i64 16 (f)) | _=> (arr .i64 16 (g)))
  (by intro i j _ _ hpi ko hne;simp only [oP,beq_iff_eq] at hpi ko;rcases hpi with rfl | rfl<;> rcases ko with rfl | rfl<;> first | exact absurd rfl hne | (simp only [];omega))
  (by intro i _ hpi;simp only [oP,beq_iff_eq] at hpi;rcases hpi with rfl | rfl<;> first | exact (hZ).row | exact (hY).row)
  ?_ ?_ ?_
 ·refine dD ?_;refine ⟨?_,?_,?_,?_,?_,?_,?_,?_,(aF),(aF),trivial⟩
  ·intro _ a w2 hB hF hd;exact aG <| aO (aB rfl fZ rfl dz (hF.same 3 rfl) (hA.below hB hA.lt)) rfl
  ·intro _ a w2 hB hF hd;exact aG <| aO (aB rfl fZ rfl dz (hF.same 4 rfl) (hG.below hB hG.lt)) rfl
  ·intro _ a w2 hB hF hd;exact aG <| bJ rfl (hF.same 8 rfl)
  ·intro _ a w2 hB hF hd;refine aG <| aI _ _ _ rfl Tryz.call243 _ (qj (hd 0 _ rfl rfl (aj rfl)) (hd 1 _ rfl rfl (aj rfl)) (hd 2 _ rfl rfl (aj rfl))) (by simp) ((K1.out w2).mono ?_);rintro e w3 ⟨rfl,hb⟩;exact ⟨_,rfl,rfl,hb⟩
  ·intro _ a w2 hB hF hd;exact aG <| aO (aB rfl fZ rfl dz (hF.same 4 rfl) (hG.below hB hG.lt)) rfl
  ·intro _ a w2 hB hF hd;exact aG <| aO (aB rfl fZ rfl dz (hF.same 3 rfl) (hA.below hB hA.lt)) rfl
  ·intro _ a w2 hB hF hd;exact aG <| bJ rfl (hF.same 8 rfl)
  ·intro _ a w2 hB hF hd;refine aG <| aI _ _ _ rfl Tryz.call243 _ (qj (hd 4 _ rfl rfl (aj rfl)) (hd 5 _ rfl rfl (aj rfl)) (hd 6 _ rfl rfl (aj rfl))) (by simp) ((K2.out w2).mono ?_);rintro e w3 ⟨rfl,hb⟩;exact ⟨_,rfl,rfl,hb⟩
 ·refine dD ?_;refine ⟨(aF),(aF),(aF),(aF),(aF),(aF),(aF),(aF),?_,?_,trivial⟩
  ·intro _ a w1 w2 K hB hF hS hr hK;exact bB 191 _ _ rfl .i64 ((w.heap.size+2)) 16 (fun _=> 0) (f) dz (hF.same 6 rfl) (hS 3 _ rfl rfl) hr hK
  ·intro _ a w1 w2 K hB hF hS hr hK;exact bB 191 _ _ rfl .i64 ((w.heap.size+3)) 16 (fun _=> 0) (g) dz (hF.same 7 rfl) (hS 7 _ rfl rfl) hr hK
 ·intro a wf w3 hB hF hS hfil;have other:∀{k:IntKind} {qb n:Nat} {f:Nat->Int},qb≠(w.heap.size+2)->qb≠(w.heap.size+3)->aD k wf qb n f->aD k w3 qb n f:=fun {k qb n f} e0 e1 hA=> hfil.arr (by intro i _ hpi;simp only [oP,beq_iff_eq] at hpi;rcases hpi with rfl | rfl<;> ((try simp only []);(try dsimp only);omega)) hA;have fP:∀{B:Nat} {w0:World},B<=(w.heap.size+2)->B<=(w.heap.size+3)->Below B w0 wf->Below B w0 w3:=fun {B w0} e0 e1 hA=> hfil.below (by intro i _ hpi;simp only [oP,beq_iff_eq] at hpi;rcases hpi with rfl | rfl<;> ((try simp only []);(try dsimp only);omega)) hA;have V8:aD .i64 w3 ((w.heap.size+2)) 16 (f):=hfil.at 8 (by decide) rfl;have V9:aD .i64 w3 ((w.heap.size+3)) 16 (g):=hfil.at 9 (by decide) rfl;have EP:=hfil.size;clear hfil;have ha:=aK rfl rfl hF [_,_,_,_,_,_,_,_,undef,undef] rfl ⟨hS 0 _ rfl rfl,hS 1 _ rfl rfl,hS 2 _ rfl rfl,hS 3 _ rfl rfl,hS 4 _ rfl rfl,hS 5 _ rfl rfl,hS 6 _ rfl rfl,hS 7 _ rfl rfl,trivial,trivial,trivial⟩;simp only [puts,Act.put,dS,dU,dV] at ha;subst ha;clear hS hF;have hb:=fP (by omega) (by omega) (hbel.trans (hB.mono hbel.size));clear hA hG hZ hY hbel hB other fP;go_wp2;exact bodyPost_ret (uJ rfl _ _ .i64 (w.heap.size+2) 16 _ .i64 (w.heap.size+3) 16 _ rfl V8 fZ rfl dz rfl V9 fZ rfl dz) rfl ⟨rfl,hb⟩
end Go.Proofs.YtpcjekgfnfjbpaaGreat
namespace Go.Proofs.YtpcjekgfnfjbpaaGreat
open Go.RowKit Go.aQ Go.ChangeShapes
attribute [local go_sem ↓] Go.wp_at_zero Go.wp_at_succ
theorem Iu (S:Int) (w:World):
  Calls Tryz.prog 198 #[.agg (arr .u8 32 (dg 256 S))] w fun e w'=> e=.returned (.agg (arr .u8 32 (dg 256 (dx S))))/\Below w.heap.size w w':=by
 have HQ:=ak (vC S);have HB:Hid (∀i,0<=dg 256 S i/\dg 256 S i<256):=fun i=> aN (by decide) S i;obtain ⟨F,hF⟩:∃F,F=dg 256 S:=⟨_,rfl⟩
 rw [<-hF] at HQ HB ⊢;clear hF
 go_enter Tryz.func198,Tryz.ntmps198
 go_upto_region 1 with (fail);refine aC (fun w1=> aD .u8 w1 w.heap.size 32 F/\aD .u8 w1 (w.heap.size+1) 32 (fun _=> 0)/\Below w.heap.size w w1) ⟨aD.alloc (bg rfl rfl) _,bg (by simp) (by rfl),((bA _ _).alloc (aP _) _).alloc (by simp) _⟩ ?_;rintro w1 ⟨hA,hZ,hb⟩;have e0:=hA.cell 0 (by decide);have f0:=hA.free 0;obtain ⟨x0,x1⟩:=HB.out 0;obtain ⟨x,hx⟩:∃x,x=F 0:=⟨_,rfl⟩
 rw [<-hx] at e0 x0 x1;have a1:=Oh x x0 x1;have HX:=ak hx;have HA:=ak hA;clear hx hA;go_upto_region 2 with (fail);refine aC (fun w2=> aD .u8 w2 w.heap.size 32 (upd F 0 (x / 8 * 8))/\aD .u8 w2 (w.heap.size+1) 32 (fun _=> 0)/\Below w.heap.size w w2) ⟨HA.out.set 0 _,hZ.other (by first | omega | (simp<;> omega)) _,hb.setCell (by first | omega | (simp<;> omega)) _⟩ ?_;rintro w2 ⟨hA2,hZ2,hb2⟩;have e1:=hA2.cell 31 (by decide);have f1:=hA2.free 31;obtain ⟨y0,y1⟩:=HB.out 31;obtain ⟨y,hy⟩:∃y,y=F 31:=⟨_,rfl⟩
 rw [upd_ne _ _ (by decide),←hy] at e1;rw [<-hy] at y0 y1;have a2:=Oi y y0 y1;have a3:=Zn (y % 128) (by omega) (by omega);have a4:y % 128 % 64+64=y % 64+64:=by omega
 rw [a4] at a3;have HY:=ak hy;have HA2:=ak hA2;clear hy hA2 e0 f0 hZ hb a4 a1;go_upto_region 3 with (fail);refine aC (fun w3=> aD .u8 w3 w.heap.size 32 (dg 256 (dx S))/\aD .u8 w3 (w.heap.size+1) 32 (fun _=> 0)/\Below w.heap.size w w3) ⟨((HA2.out.set 31 (y % 64+64)).congr (fun i hi=> by rw [HX.out,HY.out];exact HQ.out i hi)),hZ2.other (by first | omega | (simp<;> omega)) _,hb2.setCell (by first | omega | (simp<;> omega)) _⟩ ?_;rintro w3 ⟨hA3,hZ3,hb3⟩;clear e1 f1 hZ2 hb2
 go_wp2_with (first
  | (refine aM rfl 22 _ rfl .u8 w.heap.size 32 (dg 256 (dx S)) 5 dB bZ rfl hA3 ?_)
  | (refine aH rfl 22 _ _ rfl .u8 (w.heap.size+1) 32 (fun _=> 0) (dg 256 (dx S)) bZ rfl rfl hZ3 ?_))
 exact bodyPost_ret (aV rfl _ _ .u8 (w.heap.size+1) 32 _ 5 rfl (hZ3.setRow _ _) dB bZ) rfl ⟨rfl,ay hb3 (by omega) _⟩
theorem GJ (S:Int) (w:World):
  Calls Tryz.prog 121 #[.agg (arr .u8 32 (dg 256 S))] w fun e w'=> e=.returned (.agg (arr .u8 32 (dg 256 (dx S))))/\Below w.heap.size w w':=by
 have HQ:=ak (vC S);have HB:Hid (∀i,0<=dg 256 S i/\dg 256 S i<256):=fun i=> aN (by decide) S i;obtain ⟨F,hF⟩:∃F,F=dg 256 S:=⟨_,rfl⟩
 rw [<-hF] at HQ HB ⊢;clear hF
 go_enter Tryz.func121,Tryz.ntmps121
 go_upto_region 1 with (fail);refine aC (fun w1=> aD .u8 w1 w.heap.size 32 F/\aD .u8 w1 (w.heap.size+1) 32 (fun _=> 0)/\Below w.heap.size w w1) ⟨aD.alloc (bg rfl rfl) _,bg (by simp) (by rfl),((bA _ _).alloc (aP _) _).alloc (by simp) _⟩ ?_;rintro w1 ⟨hA,hZ,hb⟩;have e0:=hA.cell 0 (by decide);have f0:=hA.free 0;obtain ⟨x0,x1⟩:=HB.out 0;obtain ⟨x,hx⟩:∃x,x=F 0:=⟨_,rfl⟩
 rw [<-hx] at e0 x0 x1;have a1:=Oh x x0 x1;have HX:=ak hx;have HA:=ak hA;clear hx hA;go_upto_region 2 with (fail);refine aC (fun w2=> aD .u8 w2 w.heap.size 32 (upd F 0 (x / 8 * 8))/\aD .u8 w2 (w.heap.size+1) 32 (fun _=> 0)/\Below w.heap.size w w2) ⟨HA.out.set 0 _,hZ.other (by first | omega | (simp<;> omega)) _,hb.setCell (by first | omega | (simp<;> omega)) _⟩ ?_;rintro w2 ⟨hA2,hZ2,hb2⟩;have e1:=hA2.cell 31 (by decide);have f1:=hA2.free 31;obtain ⟨y0,y1⟩:=HB.out 31;obtain ⟨y,hy⟩:∃y,y=F 31:=⟨_,rfl⟩
 rw [upd_ne _ _ (by decide),←hy] at e1;rw [<-hy] at y0 y1;have a2:=Oi y y0 y1;have a3:=Zn (y % 128) (by omega) (by omega);have a4:y % 128 % 64+64=y % 64+64:=by omega
 rw [a4] at a3;have HY:=ak hy;have HA2:=ak hA2;clear hy hA2 e0 f0 hZ hb a4 a1;go_upto_region 3 with (fail);refine aC (fun w3=> aD .u8 w3 w.heap.size 32 (dg 256 (dx S))/\aD .u8 w3 (w.heap.size+1) 32 (fun _=> 0)/\Below w.heap.size w w3) ⟨((HA2.out.set 31 (y % 64+64)).congr (fun i hi=> by rw [HX.out,HY.out];exact HQ.out i hi)),hZ2.other (by first | omega | (simp<;> omega)) _,hb2.setCell (by first | omega | (simp<;> omega)) _⟩ ?_;rintro w3 ⟨hA3,hZ3,hb3⟩;clear e1 f1 hZ2 hb2
 go_wp2_with (first
  | (refine aM rfl 22 _ rfl .u8 w.heap.size 32 (dg 256 (dx S)) 5 dB bZ rfl hA3 ?_)
  | (refine aH rfl 22 _ _ rfl .u8 (w.heap.size+1) 32 (fun _=> 0) (dg 256 (dx S)) bZ rfl rfl hZ3 ?_))
 exact bodyPost_ret (aV rfl _ _ .u8 (w.heap.size+1) 32 _ 5 rfl (hZ3.setRow _ _) dB bZ) rfl ⟨rfl,ay hb3 (by omega) _⟩
theorem MF {a:Act} (w:World):(Instr.build 22 ((#[(0,Operand.const (.int .u8 9))] :Array (Nat × Operand)).map fun (i,x)=> (i,a.eval x))).run Tryz.prog w=.ok (.agg (arr .u8 32 (dg 256 9))) w:=by
 simp only [qy,List.map_cons,List.map_nil,Act.eval];rw [Go.run_build w _ _ (arr .u8 32 (dg 256 9)) (by kernel_rfl)]
theorem LC (w:World):Calls Tryz.prog 142 #[] w fun e w'=> e=.returned (.agg (arr .u8 32 (dg 256 9)))/\Below w.heap.size w w':=by
 go_enter Tryz.func142,Tryz.ntmps142
 go_upto_region 1 with (fail);refine aC (fun w1=> aD .u8 w1 w.heap.size 32 (fun _=> 0)/\Below w.heap.size w w1) ⟨bg rfl (by rfl),(bA _ _).alloc (aP _) _⟩ ?_;rintro w1 ⟨hZ,hb⟩
 go_wp2_with (first
  | (refine oD rfl (fF rfl (MF _)) ?_)
  | (refine aH rfl 22 _ _ rfl .u8 w.heap.size 32 (fun _=> 0) (dg 256 9) bZ rfl rfl hZ ?_))
 exact bodyPost_ret (aV rfl _ _ .u8 w.heap.size 32 _ 5 rfl (hZ.setRow _ _) dB bZ) rfl ⟨rfl,ay hb (aP _) _⟩
theorem Mj:∀i,i<32->upto 3 (dg 256 121665) (fun _=> 0) i=dg 256 121665 i:=by
 have key:∀i:Fin 32,upto 3 (dg 256 121665) (fun _=> 0) i.val=dg 256 121665 i.val:=by decide+kernel
 exact fun i h=> key ⟨i,h⟩
def Ag:Nat->Int:=dg 65536 (121665 % 2 ^ 255)
theorem EY:Fe Ag 121665:=by have h:=NZ 121665;rwa [show (121665:Int) % 2 ^ 255=121665 by decide] at h
theorem EH (w:World):Calls Tryz.prog 245 #[] w fun e w'=> e=.returned (El Ag)/\Below w.heap.size w w':=by
 have HC:=ak (fun w=> Jc 121665 w);unfold El;unfold El at HC;change Hid (∀w,Calls _ _ _ w fun e w'=> e=.returned (.agg (arr .i64 16 Ag))/\_) at HC
 go_enter Tryz.func245,Tryz.ntmps245
 go_upto_region 2 with (fail);refine aC (fun w1=> aD .i64 w1 w.heap.size 16 (fun _=> 0)/\aD .u8 w1 (w.heap.size+1) 32 (upto 0 (dg 256 121665) (fun _=> 0))/\Below w.heap.size w w1) ⟨aD.alloc (bg rfl (by rfl)) _,by rw [bF];exact bg (by simp) (by rfl),((bA _ _).alloc (aP _) _).alloc (by simp) _⟩ ?_;rintro w1 ⟨hZ,hA,hb⟩;go_wp2
 go_loopw [4] (fun i wr=> ∃k:Nat,k<=3/\i=.int .i64 k/\aD .i64 wr w.heap.size 16 (fun _=> 0)/\aD .u8 wr (w.heap.size+1) 32 (upto k (dg 256 121665) (fun _=> 0))/\Below w.heap.size w wr) (fun i _=> 3 - (intOf i).toNat)
 case atStart=> exact ⟨0,dR _,rfl,hZ,hA,hb⟩
 case round=>
  clear hZ hA hb;obtain ⟨k,hk,rfl,hZ,hA,hb⟩:=hrel;rcases (by omega:k=0\/k=1\/k=2\/k=3) with rfl | rfl | rfl | rfl
  case inl=>
   have f1:=hA.free 0;have e1:=hA.cell 0 (by decide);have HA:=ak hA;clear hA;go_wp2;go_roundw
   case rel=> exact ⟨1,by omega,by rfl,hZ.other (by first | omega | (simp<;> omega)) _,by rw [<-aY (show dg 256 121665 0= _ from rfl)];exact HA.out.set _ _,hb.setCell (by first | omega | (simp<;> omega)) _⟩
   case measure=> simp [intOf] <;> omega
  case inr.inl=>
   have f1:=hA.free 1;have e1:=hA.cell 1 (by decide);have HA:=ak hA;clear hA;go_wp2;go_roundw
   case rel=> exact ⟨2,by omega,by rfl,hZ.other (by first | omega | (simp<;> omega)) _,by rw [<-aY (show dg 256 121665 1= _ from rfl)];exact HA.out.set _ _,hb.setCell (by first | omega | (simp<;> omega)) _⟩
   case measure=> simp [intOf] <;> omega
  case inr.inr.inl=>
   have f1:=hA.free 2;have e1:=hA.cell 2 (by decide);have HA:=ak hA;clear hA;go_wp2;go_roundw
   case rel=> exact ⟨3,by omega,by rfl,hZ.other (by first | omega | (simp<;> omega)) _,by rw [<-aY (show dg 256 121665 2= _ from rfl)];exact HA.out.set _ _,hb.setCell (by first | omega | (simp<;> omega)) _⟩
   case measure=> simp [intOf] <;> omega
  case inr.inr.inr=>
   have hA2:=hA.congr Mj;go_wp2_with (refine aM rfl 22 _ rfl .u8 (w.heap.size+1) 32 (dg 256 121665) 5 dB bZ rfl hA2 ?_);refine (HC.out _).mono ?_;rintro e w3 ⟨rfl,hb3⟩;have hZ3:=hZ.kept hb3;have hb4:=hb.trans (hb3.mono hb.size);clear hZ hA hA2 hb hb3;go_wp2_with (refine aH rfl 191 _ _ rfl .i64 w.heap.size 16 (fun _=> 0) Ag dz rfl rfl hZ3 ?_);exact bodyPost_ret (dP rfl _ _ .i64 w.heap.size 16 _ rfl (hZ3.setRow _ _) fZ rfl dz) rfl ⟨rfl,ay hb4 (aP _) _⟩
theorem LB (f2 k2 f3 k3 fu:Nat->Int) (A B C D U:Int) (h2:Fe f2 A) (i2:Fe k2 B) (h3:Fe f3 C) (i3:Fe k3 D) (hu:Fe fu U) (w:World):
  Calls Tryz.prog 202 #[El f2,El k2,El f3,El k3,El fu] w fun e w'=> ∃a b c d,e=.returned (.tuple #[El a,El b,El c,El d])/\(Fe a (dX A B)/\Fe b (dZ A B)/\Fe c (sX A B C D)/\Fe d (sZ U A B C D))/\Below w.heap.size w w':=by
 have H2:=ak h2;have I2:=ak i2;have H3:=ak h3;have I3:=ak i3;have HU:=ak hu;clear h2 i2 h3 i3 hu;unfold El
 go_enter Tryz.func202,Tryz.ntmps202
 go_upto_region 1 with (fail)
 refine aC (fun w1=> (aD .i64 w1 w.heap.size 16 f2/\aD .i64 w1 (w.heap.size+1) 16 k2/\aD .i64 w1 (w.heap.size+2) 16 f3/\aD .i64 w1 (w.heap.size+3) 16 k3/\aD .i64 w1 (w.heap.size+4) 16 fu)/\(aD .i64 w1 (w.heap.size+5) 16 (fun _=> 0)/\aD .i64 w1 (w.heap.size+6) 16 (fun _=> 0)/\aD .i64 w1 (w.heap.size+7) 16 (fun _=> 0)/\aD .i64 w1 (w.heap.size+8) 16 (fun _=> 0))/\Below w.heap.size w w1)
  ⟨⟨.alloc (.alloc (.alloc (.alloc (.alloc (.alloc (.alloc (.alloc (bg (by first | omega | (simp<;> omega)) (by rfl)) _) _) _) _) _) _) _) _,.alloc (.alloc (.alloc (.alloc (.alloc (.alloc (.alloc (bg (by first | omega | (simp<;> omega)) (by rfl)) _) _) _) _) _) _) _,.alloc (.alloc (.alloc (.alloc (.alloc (.alloc (bg (by first | omega | (simp<;> omega)) (by rfl)) _) _) _) _) _) _,.alloc (.alloc (.alloc (.alloc (.alloc (bg (by first | omega | (simp<;> omega)) (by rfl)) _) _) _) _) _,.alloc (.alloc (.alloc (.alloc (bg (by first | omega | (simp<;> omega)) (by rfl)) _) _) _) _⟩,
   ⟨.alloc (.alloc (.alloc (bg (by first | omega | (simp<;> omega)) (by rfl)) _) _) _,.alloc (.alloc (bg (by first | omega | (simp<;> omega)) (by rfl)) _) _,.alloc (bg (by first | omega | (simp<;> omega)) (by rfl)) _,bg (by first | omega | (simp<;> omega)) (by rfl)⟩,
   ((((((((((bA _ _).alloc (aP _) _).alloc (by first | omega | (simp<;> omega)) _).alloc (by first | omega | (simp<;> omega)) _).alloc (by first | omega | (simp<;> omega)) _).alloc (by first | omega | (simp<;> omega)) _).alloc (by first | omega | (simp<;> omega)) _).alloc (by first | omega | (simp<;> omega)) _).alloc (by first | omega | (simp<;> omega)) _).alloc (by first | omega | (simp<;> omega)) _)⟩ ?_
 rintro w1 ⟨⟨hA,hB',hC,hD,hE⟩,⟨Dc,hR2,Kg,IW⟩,hbel⟩;have hsz:w.heap.size+9<=w1.heap.size:=by have:=IW.lt;omega
 refine bT (n:=72) (by kernel_rfl) (by kernel_rfl) (by kernel_rfl) rfl
  (mU [(8,6),(9,7)]) (iO [(8,6),(9,7)]) (fun _=> arr .i64 16 (fun _=> 0)) (fun i=> match i with | 6=> (arr .i64 16 (kJ (f2) (k2))) | 7=> (arr .i64 16 (lI (f2) (k2))) | _=> #[]) (fun _=> 191) (fun i=> match i with | 6=> 14 | 7=> 15 | _=> 0)
  (fun ii vv _=> (match ii with | 0 | 3=> vv=.agg (arr .i64 16 (f2)) | 1 | 4=> vv=.agg (arr .i64 16 (k2)) | 2=> vv=.agg (arr .i64 16 (kJ (f2) (k2))) | 5=> vv=.agg (arr .i64 16 (lI (f2) (k2))) | _=> True)) (fun _ _=> True) (fun _ _ _=> trivial) (fun _ _ _ _ _ _ _=> trivial) (fun _ _ _ _ h _=> h)
  (jL rfl) (iC rfl) ?_ ?_ ?_ ?_
 ·refine dD ?_;refine ⟨?_,?_,?_,?_,?_,?_,(fun h=> by cases h),(fun h=> by cases h),(fun _ h=> by cases h),(fun _ h=> by cases h),trivial⟩
  ·intro _ _ a w2 hB hF hd;exact aG <| aO (aB rfl fZ rfl dz (hF.same 5 rfl) (hA.below hB hA.lt)) rfl
  ·intro _ _ a w2 hB hF hd;exact aG <| aO (aB rfl fZ rfl dz (hF.same 6 rfl) (hB'.below hB hB'.lt)) rfl
  ·intro _ _ a w2 hB hF hd;refine aG <| aI _ _ _ rfl Tryz.call218 _ (args2 (hd 0 _ rfl rfl rfl (aj rfl)) (hd 1 _ rfl rfl rfl (aj rfl))) (by simp) ((rT _ _ _ _ H2.out I2.out w2).mono ?_);rintro e w3 ⟨rfl,hb⟩;exact ⟨_,rfl,rfl,hb⟩
  ·intro _ _ a w2 hB hF hd;exact aG <| aO (aB rfl fZ rfl dz (hF.same 5 rfl) (hA.below hB hA.lt)) rfl
  ·intro _ _ a w2 hB hF hd;exact aG <| aO (aB rfl fZ rfl dz (hF.same 6 rfl) (hB'.below hB hB'.lt)) rfl
  ·intro _ _ a w2 hB hF hd;refine aG <| aI _ _ _ rfl Tryz.call244 _ (args2 (hd 3 _ rfl rfl rfl (aj rfl)) (hd 4 _ rfl rfl rfl (aj rfl))) (by simp) ((rR _ _ _ _ H2.out I2.out w2).mono ?_);rintro e w3 ⟨rfl,hb⟩;exact ⟨_,rfl,rfl,hb⟩
 ·refine dD ?_;refine ⟨(fun h=> by cases h),(fun h=> by cases h),(fun h=> by cases h),(fun h=> by cases h),(fun h=> by cases h),(fun h=> by cases h),?_,?_,(fun h=> by cases h),(fun h=> by cases h),trivial⟩
  ·exact fun _=> ⟨rfl,rfl,fun a w2 K h=> bE rfl rfl Tryz.zeroValue191 (by simp) h⟩
  ·exact fun _=> ⟨rfl,rfl,fun a w2 K h=> bE rfl rfl Tryz.zeroValue191 (by simp) h⟩
 ·refine dD ?_;refine ⟨(fun _ h=> by cases h),(fun _ h=> by cases h),(fun _ h=> by cases h),(fun _ h=> by cases h),(fun _ h=> by cases h),(fun _ h=> by cases h),(fun _ h=> by cases h),(fun _ h=> by cases h),?_,?_,trivial⟩
  ·intro p hp;obtain rfl:6=p:=iV hp;exact ⟨rfl,rfl,⟨_,rfl⟩,aj rfl,fun a w2 b K hB hF hd hx hb h=> cK rfl rfl dz hx (hd 2 _ rfl rfl rfl (aj rfl)) hb h⟩
  ·intro p hp;obtain rfl:7=p:=iV hp;exact ⟨rfl,rfl,⟨_,rfl⟩,aj rfl,fun a w2 b K hB hF hd hx hb h=> cK rfl rfl dz hx (hd 5 _ rfl rfl rfl (aj rfl)) hb h⟩
 ·intro a w2 blk hB hF hS hv hfin fG;obtain ⟨v6,Nb,v6u⟩:=hv 6 _ rfl rfl;obtain ⟨v7,Ka,WW⟩:=hv 7 _ rfl rfl;have ha:=aK rfl rfl hF [_,_,_,_,_,_,_,_,undef,undef] rfl ⟨hS 0 _ rfl rfl rfl,hS 1 _ rfl rfl rfl,hS 2 _ rfl rfl rfl,hS 3 _ rfl rfl rfl,hS 4 _ rfl rfl rfl,hS 5 _ rfl rfl rfl,v6,v7,trivial,trivial,trivial⟩;have f6:=hfin 8 _ 6 rfl rfl;have f7:=hfin 9 _ 7 rfl rfl;have Vb:=fG 6 7 _ _ rfl rfl rfl rfl (by decide);simp only [puts,Act.put,dS,dU,dV] at ha;subst ha;have V6:aD .i64 w2 (blk 6) 16 (kJ (f2) (k2)):=⟨_,f6⟩
  have V7:aD .i64 w2 (blk 7) 16 (lI (f2) (k2)):=⟨_,f7⟩
  clear hS hv hfin fG hF v6 v7 f6 f7;replace hA:=hA.kept hB;replace hB':=hB'.kept hB;replace hC:=hC.kept hB;replace hD:=hD.kept hB;replace hE:=hE.kept hB;replace Dc:=Dc.kept hB;replace hR2:=hR2.kept hB;replace Kg:=Kg.kept hB;replace IW:=IW.kept hB;obtain ⟨bpl,abR⟩:∃x,x=blk 6:=⟨_,rfl⟩
  obtain ⟨pl,hpl,Hpl⟩:∃x,x=kJ f2 k2/\Hid (Fe x (A+B)):=⟨_,rfl,H2.out.kJ I2.out⟩
  rw [<-hpl,←abR] at V6;rw [<-abR] at Nb ⊢;have lpl:w.heap.size+9<=bpl:=qw hsz Nb;obtain ⟨bmi,abT⟩:∃x,x=blk 7:=⟨_,rfl⟩
  obtain ⟨mi,yD,Hmi⟩:∃x,x=lI f2 k2/\Hid (Fe x (A - B)):=⟨_,rfl,H2.out.lI I2.out⟩
  rw [<-yD,←abT] at V7;rw [<-abT] at Ka ⊢;have lmi:w.heap.size+9<=bmi:=qw hsz Ka;replace hbel:=hbel.trans (hB.mono hbel.size);replace hsz:=qw hsz hB.size;clear hB hpl abR yD abT;have uV:=V6;clear V6 Nb v6u;have uW:=V7;clear V7 Ka WW;go_upto_region 2 with (fail)
  refine bT (n:=72) (by kernel_rfl) (by kernel_rfl) (by kernel_rfl) rfl
   (mU [(8,6),(9,7)]) (iO [(8,6),(9,7)]) (fun _=> arr .i64 16 (fun _=> 0)) (fun i=> match i with | 6=> (arr .i64 16 (dn (pl) (pl))) | 7=> (arr .i64 16 (dn (mi) (mi))) | _=> #[]) (fun _=> 191) (fun i=> match i with | 6=> 16 | 7=> 17 | _=> 0)
   (fun ii vv _=> (match ii with | 0 | 1=> vv=.agg (arr .i64 16 (pl)) | 2=> vv=.agg (arr .i64 16 (dn (pl) (pl))) | 3 | 4=> vv=.agg (arr .i64 16 (mi)) | 5=> vv=.agg (arr .i64 16 (dn (mi) (mi))) | _=> True)) (fun _ _=> True) (fun _ _ _=> trivial) (fun _ _ _ _ _ _ _=> trivial) (fun _ _ _ _ h _=> h)
   (jL rfl) (iC rfl) ?_ ?_ ?_ ?_
  ·refine dD ?_;refine ⟨?_,?_,?_,?_,?_,?_,(fun h=> by cases h),(fun h=> by cases h),(fun _ h=> by cases h),(fun _ h=> by cases h),trivial⟩
   ·intro _ _ a w2 hB hF hd;exact aG <| aO (aB rfl fZ rfl dz (hF.same 14 rfl) (uV.below hB uV.lt)) rfl
   ·intro _ _ a w2 hB hF hd;exact aG <| aO (aB rfl fZ rfl dz (hF.same 14 rfl) (uV.below hB uV.lt)) rfl
   ·intro _ _ a w2 hB hF hd;refine aG <| aI _ _ _ rfl Tryz.call203 _ (args2 (hd 0 _ rfl rfl rfl (aj rfl)) (hd 1 _ rfl rfl rfl (aj rfl))) (by simp) ((fI _ _ _ _ Hpl.out Hpl.out w2).mono ?_);rintro e w3 ⟨rfl,hb⟩;exact ⟨_,rfl,rfl,hb⟩
   ·intro _ _ a w2 hB hF hd;exact aG <| aO (aB rfl fZ rfl dz (hF.same 15 rfl) (uW.below hB uW.lt)) rfl
   ·intro _ _ a w2 hB hF hd;exact aG <| aO (aB rfl fZ rfl dz (hF.same 15 rfl) (uW.below hB uW.lt)) rfl
   ·intro _ _ a w2 hB hF hd;refine aG <| aI _ _ _ rfl Tryz.call203 _ (args2 (hd 3 _ rfl rfl rfl (aj rfl)) (hd 4 _ rfl rfl rfl (aj rfl))) (by simp) ((fI _ _ _ _ Hmi.out Hmi.out w2).mono ?_);rintro e w3 ⟨rfl,hb⟩;exact ⟨_,rfl,rfl,hb⟩
  ·refine dD ?_;refine ⟨(fun h=> by cases h),(fun h=> by cases h),(fun h=> by cases h),(fun h=> by cases h),(fun h=> by cases h),(fun h=> by cases h),?_,?_,(fun h=> by cases h),(fun h=> by cases h),trivial⟩
   ·exact fun _=> ⟨rfl,rfl,fun a w2 K h=> bE rfl rfl Tryz.zeroValue191 (by simp) h⟩
   ·exact fun _=> ⟨rfl,rfl,fun a w2 K h=> bE rfl rfl Tryz.zeroValue191 (by simp) h⟩
  ·refine dD ?_;refine ⟨(fun _ h=> by cases h),(fun _ h=> by cases h),(fun _ h=> by cases h),(fun _ h=> by cases h),(fun _ h=> by cases h),(fun _ h=> by cases h),(fun _ h=> by cases h),(fun _ h=> by cases h),?_,?_,trivial⟩
   ·intro p hp;obtain rfl:6=p:=iV hp;exact ⟨rfl,rfl,⟨_,rfl⟩,aj rfl,fun a w2 b K hB hF hd hx hb h=> cK rfl rfl dz hx (hd 2 _ rfl rfl rfl (aj rfl)) hb h⟩
   ·intro p hp;obtain rfl:7=p:=iV hp;exact ⟨rfl,rfl,⟨_,rfl⟩,aj rfl,fun a w2 b K hB hF hd hx hb h=> cK rfl rfl dz hx (hd 5 _ rfl rfl rfl (aj rfl)) hb h⟩
  ·intro a w3 blk hB hF hS hv hfin fG;obtain ⟨v6,Nb,v6u⟩:=hv 6 _ rfl rfl;obtain ⟨v7,Ka,WW⟩:=hv 7 _ rfl rfl;have ha:=aK rfl rfl hF [_,_,_,_,_,_,_,_,undef,undef] rfl ⟨hS 0 _ rfl rfl rfl,hS 1 _ rfl rfl rfl,hS 2 _ rfl rfl rfl,hS 3 _ rfl rfl rfl,hS 4 _ rfl rfl rfl,hS 5 _ rfl rfl rfl,v6,v7,trivial,trivial,trivial⟩;have f6:=hfin 8 _ 6 rfl rfl;have f7:=hfin 9 _ 7 rfl rfl;have Vb:=fG 6 7 _ _ rfl rfl rfl rfl (by decide);simp only [puts,Act.put,dS,dU,dV] at ha;subst ha;have V6:aD .i64 w3 (blk 6) 16 (dn (pl) (pl)):=⟨_,f6⟩
   have V7:aD .i64 w3 (blk 7) 16 (dn (mi) (mi)):=⟨_,f7⟩
   clear hS hv hfin fG hF v6 v7 f6 f7;replace hA:=hA.kept hB;replace hB':=hB'.kept hB;replace hC:=hC.kept hB;replace hD:=hD.kept hB;replace hE:=hE.kept hB;replace Dc:=Dc.kept hB;replace hR2:=hR2.kept hB;replace Kg:=Kg.kept hB;replace IW:=IW.kept hB;replace uV:=uV.kept hB;replace uW:=uW.kept hB;obtain ⟨baa,ace⟩:∃x,x=blk 6:=⟨_,rfl⟩
   obtain ⟨aa,haa,qx⟩:∃x,x=dn pl pl/\Hid (Fe x ((A+B) * (A+B))):=⟨_,rfl,Hpl.out.dn Hpl.out⟩
   rw [<-haa,←ace] at V6;rw [<-ace] at Nb ⊢;have laa:w.heap.size+9<=baa:=qw hsz Nb;obtain ⟨bbb,acd⟩:∃x,x=blk 7:=⟨_,rfl⟩
   obtain ⟨bb,hbb,Dy⟩:∃x,x=dn mi mi/\Hid (Fe x ((A - B) * (A - B))):=⟨_,rfl,Hmi.out.dn Hmi.out⟩
   rw [<-hbb,←acd] at V7;rw [<-acd] at Ka ⊢;have lbb:w.heap.size+9<=bbb:=qw hsz Ka;replace hbel:=hbel.trans (hB.mono hbel.size);replace hsz:=qw hsz hB.size;clear hB haa ace hbb acd;have xX:=V6;clear V6 Nb v6u;have BH:=V7;clear V7 Ka WW;go_upto_region 3 with (fail)
   refine bT (n:=72) (by kernel_rfl) (by kernel_rfl) (by kernel_rfl) rfl
    (mU [(4,3)]) (iO [(4,3)]) (fun _=> arr .i64 16 (fun _=> 0)) (fun _=> (arr .i64 16 (lI (aa) (bb)))) (fun _=> 191) (fun _=> 18)
    (fun ii vv _=> (match ii with | 0=> vv=.agg (arr .i64 16 (aa)) | 1=> vv=.agg (arr .i64 16 (bb)) | 2=> vv=.agg (arr .i64 16 (lI (aa) (bb))) | _=> True)) (fun _ _=> True) (fun _ _ _=> trivial) (fun _ _ _ _ _ _ _=> trivial) (fun _ _ _ _ h _=> h)
    (jL rfl) (iC rfl) ?_ ?_ ?_ ?_
   ·refine dD ?_;refine ⟨?_,?_,?_,(fun h=> by cases h),(fun _ h=> by cases h),trivial⟩
    ·intro _ _ a w2 hB hF hd;exact aG <| aO (aB rfl fZ rfl dz (hF.same 16 rfl) (xX.below hB xX.lt)) rfl
    ·intro _ _ a w2 hB hF hd;exact aG <| aO (aB rfl fZ rfl dz (hF.same 17 rfl) (BH.below hB BH.lt)) rfl
    ·intro _ _ a w2 hB hF hd;refine aG <| aI _ _ _ rfl Tryz.call244 _ (args2 (hd 0 _ rfl rfl rfl (aj rfl)) (hd 1 _ rfl rfl rfl (aj rfl))) (by simp) ((rR _ _ _ _ qx.out Dy.out w2).mono ?_);rintro e w3 ⟨rfl,hb⟩;exact ⟨_,rfl,rfl,hb⟩
   ·refine dD ?_;refine ⟨(fun h=> by cases h),(fun h=> by cases h),(fun h=> by cases h),?_,(fun h=> by cases h),trivial⟩
    ·exact fun _=> ⟨rfl,rfl,fun a w2 K h=> bE rfl rfl Tryz.zeroValue191 (by simp) h⟩
   ·refine dD ?_;refine ⟨(fun _ h=> by cases h),(fun _ h=> by cases h),(fun _ h=> by cases h),(fun _ h=> by cases h),?_,trivial⟩
    ·intro p hp;obtain rfl:3=p:=iV hp;exact ⟨rfl,rfl,⟨_,rfl⟩,aj rfl,fun a w2 b K hB hF hd hx hb h=> cK rfl rfl dz hx (hd 2 _ rfl rfl rfl (aj rfl)) hb h⟩
   ·intro a w4 blk hB hF hS hv hfin fG;obtain ⟨v3,WX,v3u⟩:=hv 3 _ rfl rfl;have ha:=aK rfl rfl hF [_,_,_,_,undef] rfl ⟨hS 0 _ rfl rfl rfl,hS 1 _ rfl rfl rfl,hS 2 _ rfl rfl rfl,v3,trivial,trivial⟩;have f3:=hfin 4 _ 3 rfl rfl;simp only [puts,Act.put,dS,dU,dV] at ha;subst ha;have V3:aD .i64 w4 (blk 3) 16 (lI (aa) (bb)):=⟨_,f3⟩
    clear hS hv hfin fG hF v3 f3;replace hA:=hA.kept hB;replace hB':=hB'.kept hB;replace hC:=hC.kept hB;replace hD:=hD.kept hB;replace hE:=hE.kept hB;replace Dc:=Dc.kept hB;replace hR2:=hR2.kept hB;replace Kg:=Kg.kept hB;replace IW:=IW.kept hB;replace uV:=uV.kept hB;replace uW:=uW.kept hB;replace xX:=xX.kept hB;replace BH:=BH.kept hB;obtain ⟨bee,abV⟩:∃x,x=blk 3:=⟨_,rfl⟩
    obtain ⟨ee,hee,tV⟩:∃x,x=lI aa bb/\Hid (Fe x ((A+B) * (A+B) - (A - B) * (A - B))):=⟨_,rfl,qx.out.lI Dy.out⟩
    rw [<-hee,←abV] at V3;rw [<-abV] at WX ⊢;have lee:w.heap.size+9<=bee:=qw hsz WX;replace hbel:=hbel.trans (hB.mono hbel.size);replace hsz:=qw hsz hB.size;clear hB hee abV;have IC:=V3;clear V3 WX v3u;go_upto_region 4 with (fail)
    refine bT (n:=72) (by kernel_rfl) (by kernel_rfl) (by kernel_rfl) rfl
     (mU [(12,10),(13,11)]) (iO [(12,10),(13,11)]) (fun _=> arr .i64 16 (fun _=> 0)) (fun i=> match i with | 10=> (arr .i64 16 (dn (lI (f3) (k3)) (pl))) | 11=> (arr .i64 16 (dn (kJ (f3) (k3)) (mi))) | _=> #[]) (fun _=> 191) (fun i=> match i with | 10=> 19 | 11=> 20 | _=> 0)
     (fun ii vv _=> (match ii with | 0 | 5=> vv=.agg (arr .i64 16 (f3)) | 1 | 6=> vv=.agg (arr .i64 16 (k3)) | 2=> vv=.agg (arr .i64 16 (lI (f3) (k3))) | 3=> vv=.agg (arr .i64 16 (pl)) | 4=> vv=.agg (arr .i64 16 (dn (lI (f3) (k3)) (pl))) | 7=> vv=.agg (arr .i64 16 (kJ (f3) (k3))) | 8=> vv=.agg (arr .i64 16 (mi)) | 9=> vv=.agg (arr .i64 16 (dn (kJ (f3) (k3)) (mi))) | _=> True)) (fun _ _=> True) (fun _ _ _=> trivial) (fun _ _ _ _ _ _ _=> trivial) (fun _ _ _ _ h _=> h)
     (jL rfl) (iC rfl) ?_ ?_ ?_ ?_
    ·refine dD ?_;refine ⟨?_,?_,?_,?_,?_,?_,?_,?_,?_,?_,(fun h=> by cases h),(fun h=> by cases h),(fun _ h=> by cases h),(fun _ h=> by cases h),trivial⟩
     ·intro _ _ a w2 hB hF hd;exact aG <| aO (aB rfl fZ rfl dz (hF.same 7 rfl) (hC.below hB hC.lt)) rfl
     ·intro _ _ a w2 hB hF hd;exact aG <| aO (aB rfl fZ rfl dz (hF.same 8 rfl) (hD.below hB hD.lt)) rfl
     ·intro _ _ a w2 hB hF hd;refine aG <| aI _ _ _ rfl Tryz.call244 _ (args2 (hd 0 _ rfl rfl rfl (aj rfl)) (hd 1 _ rfl rfl rfl (aj rfl))) (by simp) ((rR _ _ _ _ H3.out I3.out w2).mono ?_);rintro e w3 ⟨rfl,hb⟩;exact ⟨_,rfl,rfl,hb⟩
     ·intro _ _ a w2 hB hF hd;exact aG <| aO (aB rfl fZ rfl dz (hF.same 14 rfl) (uV.below hB uV.lt)) rfl
     ·intro _ _ a w2 hB hF hd;refine aG <| aI _ _ _ rfl Tryz.call203 _ (args2 (hd 2 _ rfl rfl rfl (aj rfl)) (hd 3 _ rfl rfl rfl (aj rfl))) (by simp) ((fI _ _ _ _ ((H3.out).lI I3.out) Hpl.out w2).mono ?_);rintro e w3 ⟨rfl,hb⟩;exact ⟨_,rfl,rfl,hb⟩
     ·intro _ _ a w2 hB hF hd;exact aG <| aO (aB rfl fZ rfl dz (hF.same 7 rfl) (hC.below hB hC.lt)) rfl
     ·intro _ _ a w2 hB hF hd;exact aG <| aO (aB rfl fZ rfl dz (hF.same 8 rfl) (hD.below hB hD.lt)) rfl
     ·intro _ _ a w2 hB hF hd;refine aG <| aI _ _ _ rfl Tryz.call218 _ (args2 (hd 5 _ rfl rfl rfl (aj rfl)) (hd 6 _ rfl rfl rfl (aj rfl))) (by simp) ((rT _ _ _ _ H3.out I3.out w2).mono ?_);rintro e w3 ⟨rfl,hb⟩;exact ⟨_,rfl,rfl,hb⟩
     ·intro _ _ a w2 hB hF hd;exact aG <| aO (aB rfl fZ rfl dz (hF.same 15 rfl) (uW.below hB uW.lt)) rfl
     ·intro _ _ a w2 hB hF hd;refine aG <| aI _ _ _ rfl Tryz.call203 _ (args2 (hd 7 _ rfl rfl rfl (aj rfl)) (hd 8 _ rfl rfl rfl (aj rfl))) (by simp) ((fI _ _ _ _ ((H3.out).kJ I3.out) Hmi.out w2).mono ?_);rintro e w3 ⟨rfl,hb⟩;exact ⟨_,rfl,rfl,hb⟩
    ·refine dD ?_;refine ⟨(fun h=> by cases h),(fun h=> by cases h),(fun h=> by cases h),(fun h=> by cases h),(fun h=> by cases h),(fun h=> by cases h),(fun h=> by cases h),(fun h=> by cases h),(fun h=> by cases h),(fun h=> by cases h),?_,?_,(fun h=> by cases h),(fun h=> by cases h),trivial⟩
     ·exact fun _=> ⟨rfl,rfl,fun a w2 K h=> bE rfl rfl Tryz.zeroValue191 (by simp) h⟩
     ·exact fun _=> ⟨rfl,rfl,fun a w2 K h=> bE rfl rfl Tryz.zeroValue191 (by simp) h⟩
    ·refine dD ?_;refine ⟨(fun _ h=> by cases h),(fun _ h=> by cases h),(fun _ h=> by cases h),(fun _ h=> by cases h),(fun _ h=> by cases h),(fun _ h=> by cases h),(fun _ h=> by cases h),(fun _ h=> by cases h),(fun _ h=> by cases h),(fun _ h=> by cases h),(fun _ h=> by cases h),(fun _ h=> by cases h),?_,?_,trivial⟩
     ·intro p hp;obtain rfl:10=p:=iV hp;exact ⟨rfl,rfl,⟨_,rfl⟩,aj rfl,fun a w2 b K hB hF hd hx hb h=> cK rfl rfl dz hx (hd 4 _ rfl rfl rfl (aj rfl)) hb h⟩
     ·intro p hp;obtain rfl:11=p:=iV hp;exact ⟨rfl,rfl,⟨_,rfl⟩,aj rfl,fun a w2 b K hB hF hd hx hb h=> cK rfl rfl dz hx (hd 9 _ rfl rfl rfl (aj rfl)) hb h⟩
    ·intro a w5 blk hB hF hS hv hfin fG;obtain ⟨v10,Kv,Rs⟩:=hv 10 _ rfl rfl;obtain ⟨v11,Rq,aap⟩:=hv 11 _ rfl rfl;have ha:=aK rfl rfl hF [_,_,_,_,_,_,_,_,_,_,_,_,undef,undef] rfl ⟨hS 0 _ rfl rfl rfl,hS 1 _ rfl rfl rfl,hS 2 _ rfl rfl rfl,hS 3 _ rfl rfl rfl,hS 4 _ rfl rfl rfl,hS 5 _ rfl rfl rfl,hS 6 _ rfl rfl rfl,hS 7 _ rfl rfl rfl,hS 8 _ rfl rfl rfl,hS 9 _ rfl rfl rfl,v10,v11,trivial,trivial,trivial⟩;have f10:=hfin 12 _ 10 rfl rfl;have f11:=hfin 13 _ 11 rfl rfl;have akn:=fG 10 11 _ _ rfl rfl rfl rfl (by decide);simp only [puts,Act.put,dS,dU,dV] at ha;subst ha;have VO:aD .i64 w5 (blk 10) 16 (dn (lI (f3) (k3)) (pl)):=⟨_,f10⟩
     have V11:aD .i64 w5 (blk 11) 16 (dn (kJ (f3) (k3)) (mi)):=⟨_,f11⟩
     clear hS hv hfin fG hF v10 v11 f10 f11;replace hA:=hA.kept hB;replace hB':=hB'.kept hB;replace hC:=hC.kept hB;replace hD:=hD.kept hB;replace hE:=hE.kept hB;replace Dc:=Dc.kept hB;replace hR2:=hR2.kept hB;replace Kg:=Kg.kept hB;replace IW:=IW.kept hB;replace uV:=uV.kept hB;replace uW:=uW.kept hB;replace xX:=xX.kept hB;replace BH:=BH.kept hB;replace IC:=IC.kept hB;obtain ⟨bda,abX⟩:∃x,x=blk 10:=⟨_,rfl⟩
     obtain ⟨da,hda,Hda⟩:∃x,x=dn (lI f3 k3) pl/\Hid (Fe x ((C - D) * (A+B))):=⟨_,rfl,(H3.out.lI I3.out).dn Hpl.out⟩
     rw [<-hda,←abX] at VO;rw [<-abX] at Kv ⊢;have lda:w.heap.size+9<=bda:=qw hsz Kv;obtain ⟨bcb,abY⟩:∃x,x=blk 11:=⟨_,rfl⟩
     obtain ⟨cb,hcb,Hcb⟩:∃x,x=dn (kJ f3 k3) mi/\Hid (Fe x ((C+D) * (A - B))):=⟨_,rfl,(H3.out.kJ I3.out).dn Hmi.out⟩
     rw [<-hcb,←abY] at V11;rw [<-abY] at Rq ⊢;have lcb:w.heap.size+9<=bcb:=qw hsz Rq;replace hbel:=hbel.trans (hB.mono hbel.size);replace hsz:=qw hsz hB.size;clear hB hda abX hcb abY;have Qd:=VO;clear VO Kv Rs;have Qe:=V11;clear V11 Rq aap;go_upto_region 5 with (fail)
     refine bT (n:=72) (by kernel_rfl) (by kernel_rfl) (by kernel_rfl) rfl
      (mU [(8,6),(9,7)]) (iO [(8,6),(9,7)]) (fun _=> arr .i64 16 (fun _=> 0)) (fun i=> match i with | 6=> (arr .i64 16 (kJ (da) (cb))) | 7=> (arr .i64 16 (lI (da) (cb))) | _=> #[]) (fun _=> 191) (fun i=> match i with | 6=> 21 | 7=> 22 | _=> 0)
      (fun ii vv _=> (match ii with | 0 | 3=> vv=.agg (arr .i64 16 (da)) | 1 | 4=> vv=.agg (arr .i64 16 (cb)) | 2=> vv=.agg (arr .i64 16 (kJ (da) (cb))) | 5=> vv=.agg (arr .i64 16 (lI (da) (cb))) | _=> True)) (fun _ _=> True) (fun _ _ _=> trivial) (fun _ _ _ _ _ _ _=> trivial) (fun _ _ _ _ h _=> h)
      (jL rfl) (iC rfl) ?_ ?_ ?_ ?_
     ·refine dD ?_;refine ⟨?_,?_,?_,?_,?_,?_,(fun h=> by cases h),(fun h=> by cases h),(fun _ h=> by cases h),(fun _ h=> by cases h),trivial⟩
      ·intro _ _ a w2 hB hF hd;exact aG <| aO (aB rfl fZ rfl dz (hF.same 19 rfl) (Qd.below hB Qd.lt)) rfl
      ·intro _ _ a w2 hB hF hd;exact aG <| aO (aB rfl fZ rfl dz (hF.same 20 rfl) (Qe.below hB Qe.lt)) rfl
      ·intro _ _ a w2 hB hF hd;refine aG <| aI _ _ _ rfl Tryz.call218 _ (args2 (hd 0 _ rfl rfl rfl (aj rfl)) (hd 1 _ rfl rfl rfl (aj rfl))) (by simp) ((rT _ _ _ _ Hda.out Hcb.out w2).mono ?_);rintro e w3 ⟨rfl,hb⟩;exact ⟨_,rfl,rfl,hb⟩
      ·intro _ _ a w2 hB hF hd;exact aG <| aO (aB rfl fZ rfl dz (hF.same 19 rfl) (Qd.below hB Qd.lt)) rfl
      ·intro _ _ a w2 hB hF hd;exact aG <| aO (aB rfl fZ rfl dz (hF.same 20 rfl) (Qe.below hB Qe.lt)) rfl
      ·intro _ _ a w2 hB hF hd;refine aG <| aI _ _ _ rfl Tryz.call244 _ (args2 (hd 3 _ rfl rfl rfl (aj rfl)) (hd 4 _ rfl rfl rfl (aj rfl))) (by simp) ((rR _ _ _ _ Hda.out Hcb.out w2).mono ?_);rintro e w3 ⟨rfl,hb⟩;exact ⟨_,rfl,rfl,hb⟩
     ·refine dD ?_;refine ⟨(fun h=> by cases h),(fun h=> by cases h),(fun h=> by cases h),(fun h=> by cases h),(fun h=> by cases h),(fun h=> by cases h),?_,?_,(fun h=> by cases h),(fun h=> by cases h),trivial⟩
      ·exact fun _=> ⟨rfl,rfl,fun a w2 K h=> bE rfl rfl Tryz.zeroValue191 (by simp) h⟩
      ·exact fun _=> ⟨rfl,rfl,fun a w2 K h=> bE rfl rfl Tryz.zeroValue191 (by simp) h⟩
     ·refine dD ?_;refine ⟨(fun _ h=> by cases h),(fun _ h=> by cases h),(fun _ h=> by cases h),(fun _ h=> by cases h),(fun _ h=> by cases h),(fun _ h=> by cases h),(fun _ h=> by cases h),(fun _ h=> by cases h),?_,?_,trivial⟩
      ·intro p hp;obtain rfl:6=p:=iV hp;exact ⟨rfl,rfl,⟨_,rfl⟩,aj rfl,fun a w2 b K hB hF hd hx hb h=> cK rfl rfl dz hx (hd 2 _ rfl rfl rfl (aj rfl)) hb h⟩
      ·intro p hp;obtain rfl:7=p:=iV hp;exact ⟨rfl,rfl,⟨_,rfl⟩,aj rfl,fun a w2 b K hB hF hd hx hb h=> cK rfl rfl dz hx (hd 5 _ rfl rfl rfl (aj rfl)) hb h⟩
     ·intro a w6 blk hB hF hS hv hfin fG;obtain ⟨v6,Nb,v6u⟩:=hv 6 _ rfl rfl;obtain ⟨v7,Ka,WW⟩:=hv 7 _ rfl rfl;have ha:=aK rfl rfl hF [_,_,_,_,_,_,_,_,undef,undef] rfl ⟨hS 0 _ rfl rfl rfl,hS 1 _ rfl rfl rfl,hS 2 _ rfl rfl rfl,hS 3 _ rfl rfl rfl,hS 4 _ rfl rfl rfl,hS 5 _ rfl rfl rfl,v6,v7,trivial,trivial,trivial⟩;have f6:=hfin 8 _ 6 rfl rfl;have f7:=hfin 9 _ 7 rfl rfl;have Vb:=fG 6 7 _ _ rfl rfl rfl rfl (by decide);simp only [puts,Act.put,dS,dU,dV] at ha;subst ha;have V6:aD .i64 w6 (blk 6) 16 (kJ (da) (cb)):=⟨_,f6⟩
      have V7:aD .i64 w6 (blk 7) 16 (lI (da) (cb)):=⟨_,f7⟩
      clear hS hv hfin fG hF v6 v7 f6 f7;replace hA:=hA.kept hB;replace hB':=hB'.kept hB;replace hC:=hC.kept hB;replace hD:=hD.kept hB;replace hE:=hE.kept hB;replace Dc:=Dc.kept hB;replace hR2:=hR2.kept hB;replace Kg:=Kg.kept hB;replace IW:=IW.kept hB;replace uV:=uV.kept hB;replace uW:=uW.kept hB;replace xX:=xX.kept hB;replace BH:=BH.kept hB;replace IC:=IC.kept hB;replace Qd:=Qd.kept hB;replace Qe:=Qe.kept hB;obtain ⟨bsu,abQ⟩:∃x,x=blk 6:=⟨_,rfl⟩
      obtain ⟨su,hsu,Hsu⟩:∃x,x=kJ da cb/\Hid (Fe x ((C - D) * (A+B)+(C+D) * (A - B))):=⟨_,rfl,Hda.out.kJ Hcb.out⟩
      rw [<-hsu,←abQ] at V6;rw [<-abQ] at Nb ⊢;have lsu:w.heap.size+9<=bsu:=qw hsz Nb;obtain ⟨bdi,abW⟩:∃x,x=blk 7:=⟨_,rfl⟩
      obtain ⟨di,hdi,Hdi⟩:∃x,x=lI da cb/\Hid (Fe x ((C - D) * (A+B) - (C+D) * (A - B))):=⟨_,rfl,Hda.out.lI Hcb.out⟩
      rw [<-hdi,←abW] at V7;rw [<-abW] at Ka ⊢;have ldi:w.heap.size+9<=bdi:=qw hsz Ka;replace hbel:=hbel.trans (hB.mono hbel.size);replace hsz:=qw hsz hB.size;clear hB hsu abQ hdi abW;have Yi:=V6;clear V6 Nb v6u;have Yj:=V7;clear V7 Ka WW;go_upto_region 6 with (fail)
      refine eD (n:=72) (fun i=> i==18 || i==19 || i==20 || i==21) (by kernel_rfl) (by kernel_rfl) (by kernel_rfl) (by kernel_rfl) rfl
       (fun ii vv _=> (match ii with | 0 | 4=> vv=.agg (arr .i64 16 (aa)) | 1=> vv=.agg (arr .i64 16 (bb)) | 2=> vv=.agg (arr .i64 16 (dn (aa) (bb))) | 3 | 6=> vv=.agg (arr .i64 16 (ee)) | 5=> vv=.agg (arr .i64 16 (Ag)) | 7=> vv=.agg (arr .i64 16 (dn (Ag) (ee))) | 8=> vv=.agg (arr .i64 16 (kJ (aa) (dn (Ag) (ee)))) | 9=> vv=.agg (arr .i64 16 (dn (ee) (kJ (aa) (dn (Ag) (ee))))) | 10 | 11=> vv=.agg (arr .i64 16 (su)) | 12=> vv=.agg (arr .i64 16 (dn (su) (su))) | 13=> vv=.agg (arr .i64 16 (fu)) | 14 | 15=> vv=.agg (arr .i64 16 (di)) | 16=> vv=.agg (arr .i64 16 (dn (di) (di))) | 17=> vv=.agg (arr .i64 16 (dn (fu) (dn (di) (di)))) | _=> True))
       (fun w w'=> Below w.heap.size w w') (fun _ _ h=> h) (fun _ _ _ _ h _=> h)
       (fun i=> match i with | 18=> (w.heap.size+5) | 19=> (w.heap.size+6) | 20=> (w.heap.size+7) | _=> (w.heap.size+8)) (fun i=> match i with | 18=> (arr .i64 16 (fun _=> 0)) | 19=> (arr .i64 16 (fun _=> 0)) | 20=> (arr .i64 16 (fun _=> 0)) | _=> (arr .i64 16 (fun _=> 0))) (fun i=> match i with | 18=> (arr .i64 16 (dn (aa) (bb))) | 19=> (arr .i64 16 (dn (ee) (kJ (aa) (dn (Ag) (ee))))) | 20=> (arr .i64 16 (dn (su) (su))) | _=> (arr .i64 16 (dn (fu) (dn (di) (di)))))
       (by intro i j _ _ hpi ko hne;simp only [oP,beq_iff_eq] at hpi ko;rcases hpi with ((rfl | rfl) | rfl) | rfl<;> rcases ko with ((rfl | rfl) | rfl) | rfl<;> first | exact absurd rfl hne | (simp only [];omega))
       (by intro i _ hpi;simp only [oP,beq_iff_eq] at hpi;rcases hpi with ((rfl | rfl) | rfl) | rfl<;> first | exact (Dc).row | exact (hR2).row | exact (Kg).row | exact (IW).row)
       ?_ ?_ ?_
      ·refine dD ?_;refine ⟨?_,?_,?_,?_,?_,?_,?_,?_,?_,?_,?_,?_,?_,?_,?_,?_,?_,?_,(aF),(aF),(aF),(aF),trivial⟩
       ·intro _ a w2 hB hF hd;exact aG <| aO (aB rfl fZ rfl dz (hF.same 16 rfl) (xX.below hB xX.lt)) rfl
       ·intro _ a w2 hB hF hd;exact aG <| aO (aB rfl fZ rfl dz (hF.same 17 rfl) (BH.below hB BH.lt)) rfl
       ·intro _ a w2 hB hF hd;refine aG <| aI _ _ _ rfl Tryz.call203 _ (args2 (hd 0 _ rfl rfl (aj rfl)) (hd 1 _ rfl rfl (aj rfl))) (by simp) ((fI _ _ _ _ qx.out Dy.out w2).mono ?_);rintro e w3 ⟨rfl,hb⟩;exact ⟨_,rfl,rfl,hb⟩
       ·intro _ a w2 hB hF hd;exact aG <| aO (aB rfl fZ rfl dz (hF.same 18 rfl) (IC.below hB IC.lt)) rfl
       ·intro _ a w2 hB hF hd;exact aG <| aO (aB rfl fZ rfl dz (hF.same 16 rfl) (xX.below hB xX.lt)) rfl
       ·intro _ a w2 hB hF hd;refine aG <| aI _ _ _ rfl Tryz.call245 _ JC (by simp) ((EH w2).mono ?_);rintro e w3 ⟨rfl,hb⟩;exact ⟨_,rfl,rfl,hb⟩
       ·intro _ a w2 hB hF hd;exact aG <| aO (aB rfl fZ rfl dz (hF.same 18 rfl) (IC.below hB IC.lt)) rfl
       ·intro _ a w2 hB hF hd;refine aG <| aI _ _ _ rfl Tryz.call203 _ (args2 (hd 5 _ rfl rfl (aj rfl)) (hd 6 _ rfl rfl (aj rfl))) (by simp) ((fI _ _ _ _ EY tV.out w2).mono ?_);rintro e w3 ⟨rfl,hb⟩;exact ⟨_,rfl,rfl,hb⟩
       ·intro _ a w2 hB hF hd;refine aG <| aI _ _ _ rfl Tryz.call218 _ (args2 (hd 4 _ rfl rfl (aj rfl)) (hd 7 _ rfl rfl (aj rfl))) (by simp) ((rT _ _ _ _ qx.out ((EY).dn tV.out) w2).mono ?_);rintro e w3 ⟨rfl,hb⟩;exact ⟨_,rfl,rfl,hb⟩
       ·intro _ a w2 hB hF hd;refine aG <| aI _ _ _ rfl Tryz.call203 _ (args2 (hd 3 _ rfl rfl (aj rfl)) (hd 8 _ rfl rfl (aj rfl))) (by simp) ((fI _ _ _ _ tV.out ((qx.out).kJ ((EY).dn tV.out)) w2).mono ?_);rintro e w3 ⟨rfl,hb⟩;exact ⟨_,rfl,rfl,hb⟩
       ·intro _ a w2 hB hF hd;exact aG <| aO (aB rfl fZ rfl dz (hF.same 21 rfl) (Yi.below hB Yi.lt)) rfl
       ·intro _ a w2 hB hF hd;exact aG <| aO (aB rfl fZ rfl dz (hF.same 21 rfl) (Yi.below hB Yi.lt)) rfl
       ·intro _ a w2 hB hF hd;refine aG <| aI _ _ _ rfl Tryz.call203 _ (args2 (hd 10 _ rfl rfl (aj rfl)) (hd 11 _ rfl rfl (aj rfl))) (by simp) ((fI _ _ _ _ Hsu.out Hsu.out w2).mono ?_);rintro e w3 ⟨rfl,hb⟩;exact ⟨_,rfl,rfl,hb⟩
       ·intro _ a w2 hB hF hd;exact aG <| aO (aB rfl fZ rfl dz (hF.same 9 rfl) (hE.below hB hE.lt)) rfl
       ·intro _ a w2 hB hF hd;exact aG <| aO (aB rfl fZ rfl dz (hF.same 22 rfl) (Yj.below hB Yj.lt)) rfl
       ·intro _ a w2 hB hF hd;exact aG <| aO (aB rfl fZ rfl dz (hF.same 22 rfl) (Yj.below hB Yj.lt)) rfl
       ·intro _ a w2 hB hF hd;refine aG <| aI _ _ _ rfl Tryz.call203 _ (args2 (hd 14 _ rfl rfl (aj rfl)) (hd 15 _ rfl rfl (aj rfl))) (by simp) ((fI _ _ _ _ Hdi.out Hdi.out w2).mono ?_);rintro e w3 ⟨rfl,hb⟩;exact ⟨_,rfl,rfl,hb⟩
       ·intro _ a w2 hB hF hd;refine aG <| aI _ _ _ rfl Tryz.call203 _ (args2 (hd 13 _ rfl rfl (aj rfl)) (hd 16 _ rfl rfl (aj rfl))) (by simp) ((fI _ _ _ _ HU.out ((Hdi.out).dn Hdi.out) w2).mono ?_);rintro e w3 ⟨rfl,hb⟩;exact ⟨_,rfl,rfl,hb⟩
      ·refine dD ?_;refine ⟨(aF),(aF),(aF),(aF),(aF),(aF),(aF),(aF),(aF),(aF),(aF),(aF),(aF),(aF),(aF),(aF),(aF),(aF),?_,?_,?_,?_,trivial⟩
       ·intro _ a w1 w2 K hB hF hS hr hK;exact bB 191 _ _ rfl .i64 ((w.heap.size+5)) 16 (fun _=> 0) (dn (aa) (bb)) dz (hF.same 10 rfl) (hS 2 _ rfl rfl) hr hK
       ·intro _ a w1 w2 K hB hF hS hr hK;exact bB 191 _ _ rfl .i64 ((w.heap.size+6)) 16 (fun _=> 0) (dn (ee) (kJ (aa) (dn (Ag) (ee)))) dz (hF.same 11 rfl) (hS 9 _ rfl rfl) hr hK
       ·intro _ a w1 w2 K hB hF hS hr hK;exact bB 191 _ _ rfl .i64 ((w.heap.size+7)) 16 (fun _=> 0) (dn (su) (su)) dz (hF.same 12 rfl) (hS 12 _ rfl rfl) hr hK
       ·intro _ a w1 w2 K hB hF hS hr hK;exact bB 191 _ _ rfl .i64 ((w.heap.size+8)) 16 (fun _=> 0) (dn (fu) (dn (di) (di))) dz (hF.same 13 rfl) (hS 17 _ rfl rfl) hr hK
      ·intro a wf w7 hB hF hS hfil;have other:∀{k:IntKind} {qb n:Nat} {f:Nat->Int},qb≠(w.heap.size+5)->qb≠(w.heap.size+6)->qb≠(w.heap.size+7)->qb≠(w.heap.size+8)->aD k wf qb n f->aD k w7 qb n f:=fun {k qb n f} e0 e1 e2 e3 hA=> hfil.arr (by intro i _ hpi;simp only [oP,beq_iff_eq] at hpi;rcases hpi with ((rfl | rfl) | rfl) | rfl<;> ((try simp only []);(try dsimp only);omega)) hA;have fP:∀{B:Nat} {w0:World},B<=(w.heap.size+5)->B<=(w.heap.size+6)->B<=(w.heap.size+7)->B<=(w.heap.size+8)->Below B w0 wf->Below B w0 w7:=fun {B w0} e0 e1 e2 e3 hA=> hfil.below (by intro i _ hpi;simp only [oP,beq_iff_eq] at hpi;rcases hpi with ((rfl | rfl) | rfl) | rfl<;> ((try simp only []);(try dsimp only);omega)) hA;have V18:aD .i64 w7 ((w.heap.size+5)) 16 (dn (aa) (bb)):=hfil.at 18 (by decide) rfl;have V19:aD .i64 w7 ((w.heap.size+6)) 16 (dn (ee) (kJ (aa) (dn (Ag) (ee)))):=hfil.at 19 (by decide) rfl;have V20:aD .i64 w7 ((w.heap.size+7)) 16 (dn (su) (su)):=hfil.at 20 (by decide) rfl;have V21:aD .i64 w7 ((w.heap.size+8)) 16 (dn (fu) (dn (di) (di))):=hfil.at 21 (by decide) rfl;have EP:=hfil.size;clear hfil;have ha:=aK rfl rfl hF [_,_,_,_,_,_,_,_,_,_,_,_,_,_,_,_,_,_,undef,undef,undef,undef] rfl ⟨hS 0 _ rfl rfl,hS 1 _ rfl rfl,hS 2 _ rfl rfl,hS 3 _ rfl rfl,hS 4 _ rfl rfl,hS 5 _ rfl rfl,hS 6 _ rfl rfl,hS 7 _ rfl rfl,hS 8 _ rfl rfl,hS 9 _ rfl rfl,hS 10 _ rfl rfl,hS 11 _ rfl rfl,hS 12 _ rfl rfl,hS 13 _ rfl rfl,hS 14 _ rfl rfl,hS 15 _ rfl rfl,hS 16 _ rfl rfl,hS 17 _ rfl rfl,trivial,trivial,trivial,trivial,trivial⟩;simp only [puts,Act.put,dS,dU,dV] at ha;subst ha;clear hS hF;have hb:=fP (by omega) (by omega) (by omega) (by omega) (hbel.trans (hB.mono hbel.size));go_wp2;exact bodyPost_ret (Eh rfl _ _ .i64 16 fZ rfl dz (w.heap.size+5) (w.heap.size+6) (w.heap.size+7) (w.heap.size+8) _ _ _ _ rfl V18 rfl V19 rfl V20 rfl V21) rfl ⟨_,_,_,_,rfl,⟨qx.out.dn Dy.out,tV.out.dn (qx.out.kJ (EY.dn tV.out)),Hsu.out.dn Hsu.out,HU.out.dn (Hdi.out.dn Hdi.out)⟩,hb⟩
end Go.Proofs.YtpcjekgfnfjbpaaGreat
namespace Go.Proofs.YtpcjekgfnfjbpaaGreat
open Go.RowKit Go.aQ Go.ChangeShapes
theorem pX (p:Bool) (f g:Nat->Int) (X Y:Int) (hf:Fe f X) (hg:Fe g Y) (w:World):
  Calls Tryz.prog 201 #[El f,El g,.bool p] w fun e w'=> e=.returned (.tuple #[El (cB p f g),El (cB p g f)])/\Below w.heap.size w w':=by
 cases p
 ·exact Qh f g X Y hf hg w
 ·exact Mh f g X Y hf hg w
end Go.Proofs.YtpcjekgfnfjbpaaGreat
namespace Go.Proofs.YtpcjekgfnfjbpaaGreat
open Go.RowKit Go.aQ
attribute [local go_sem ↓] Go.wp_at_zero Go.wp_at_succ
theorem Mk (va:Value) (A N:Int) (h0:0<=N) (h1:N<2 ^ 256) (w:World) (ha:Rd .i64 w va 16 (dg 65536 (A % Pr))):
  Calls Tryz.prog 127 #[va,.agg (arr .u8 32 (dg 256 N))] w fun e w'=>
   ∃v,e=.returned v/\Rd .i64 w' v 16 (dg 65536 (A ^ N.toNat % Pr))/\Below w.heap.size w w':=by
 have HA:=ak ha;have H0:=ak h0;have H1:=ak h1;clear ha h0 h1
 go_enter Tryz.func127,Tryz.ntmps127
 go_wp2_with fail;refine (zC 1 (by decide) (by decide) _).mono ?_;rintro e w1 ⟨v1,rfl,hv1,hb1⟩;have hB1:aD .u8 w1 w.heap.size 32 (dg 256 N):=aD.kept (bg rfl (by rfl)) hb1;have eT:Below w.heap.size w w1:=((bA _ _).alloc (aP _) _).trans (hb1.mono (by simp));have JQ:=ak hv1.rd;have HA1:=ak (HA.out.below eT);clear hv1 hb1;go_wp2
 go_loopw [0,5,6] (fun a o i wr=> ∃k:Nat,k<=32/\i=.int .i64 k/\Rd .i64 wr a 16 (dg 65536 (A ^ (2 ^ (8 * k)) % Pr))/\Rd .i64 wr o 16 (dg 65536 (qO A N (8 * k) % Pr))/\aD .u8 wr w.heap.size 32 (dg 256 N)/\Below w.heap.size w wr) (fun _ _ i _=> 32 - (intOf i).toNat)
 case atStart=> exact ⟨0,dR _,rfl,by rw [Nat.mul_zero,Nat.pow_zero,Int.pow_succ,Int.pow_zero,Int.one_mul];exact HA1.out,by rw [Nat.mul_zero,KX];exact JQ.out,hB1,eT⟩
 case round=>
  obtain ⟨k,hk,rfl,ha,ho,hB,hbel⟩:=hrel;have WQ:=ak ha;have HO:=ak ho;clear ha ho;by_cases hlt:k<32
  ·have e1:=hB.cell k hlt;obtain ⟨d0,d1⟩:=aN (by decide:(0:Int)<256) N k;have HB:=ak hB;have fC:=ak hbel;clear hB hbel;go_wp2;rw [show decide ((k:Int)<32)=true by simp;omega]
   go_loopw [0,5,7,8] (fun a o c i wr=> ∃j:Nat,j<=8/\i=.int .i64 j/\c=.int .i64 (dg 256 N k / 2 ^ j)/\Rd .i64 wr a 16 (dg 65536 (A ^ (2 ^ (8 * k+j)) % Pr))/\Rd .i64 wr o 16 (dg 65536 (qO A N (8 * k+j) % Pr))/\aD .u8 wr w.heap.size 32 (dg 256 N)/\Below w.heap.size w wr) (fun _ _ _ i _=> 8 - (intOf i).toNat)
   case atStart=> exact ⟨0,dR _,rfl,by rw [Int.pow_zero,Int.ediv_one],WQ.out,HO.out,HB.out,fC.out⟩
   case round=>
    clear WQ HO HB fC e1;obtain ⟨j,hj,rfl,rfl,ha,ho,hB,hbel⟩:=hrel;have WQ:=ak ha;have HO:=ak ho;have HB:=ak hB;have fC:=ak hbel;clear ha ho hB hbel;by_cases hlt2:j<8
    ·have hbit:=Vt N k j hlt2;have hnx:dg 256 N k / 2 ^ (j+1)=dg 256 N k / 2 ^ j / 2:=bW (by decide) _ _;have c0:0<=dg 256 N k / 2 ^ j:=Int.ediv_nonneg d0 (Int.le_of_lt (cZ (by decide) _));have c1:dg 256 N k / 2 ^ j<256:=Int.lt_of_le_of_lt (Int.ediv_le_self _ d0) d1;obtain ⟨c,hc⟩:∃c,c=dg 256 N k / 2 ^ j:=⟨_,rfl⟩
     rw [<-hc] at hbit hnx c0 c1 ⊢;have hps:=KY A N (8 * k+j);rw [<-hbit] at hps;have HPS:=ak hps;have HNX:=ak hnx;have HSQ:=ak (RO A (8 * k+j));obtain ⟨S,hS⟩:∃S,S=A ^ (2 ^ (8 * k+j)):=⟨_,rfl⟩
     obtain ⟨O,hO⟩:∃O,O=qO A N (8 * k+j):=⟨_,rfl⟩
     rw [<-hS] at WQ HSQ HPS;rw [<-hO] at HO HPS;clear hbit hnx hc hps hS hO;by_cases hodd:c % 2=1
     ·rw [if_pos hodd] at HPS;have hob:(c % 2==1)=true:=by rw [hodd];rfl
      clear hodd;go_wp2_with fail;refine (dJ O S _ _ _ HO.out WQ.out).mono ?_;rintro e w3 ⟨v3,rfl,hv3,hb3⟩;have FM:=ak hv3;have ahx:=ak (WQ.out.below hb3);have HB3:=ak (HB.out.kept hb3);have aad:=ak (fC.out.trans (hb3.mono fC.out.size));clear hv3 hb3 WQ HB fC;go_wp2_with fail;refine (dJ S S _ _ _ ahx.out ahx.out).mono ?_;rintro e w4 ⟨v4,rfl,hv4,hb4⟩;have ZM:=ak hv4;have akQ:=ak (FM.out.below hb4);have WO:=ak (HB3.out.kept hb4);have Ws:=ak (aad.out.trans (hb4.mono aad.out.size));clear hv4 hb4;go_wp2;go_roundw
      case rel=> exact ⟨j+1,by omega,by go_num,by rw [HNX.out],by rw [show 8 * k+(j+1)=8 * k+j+1 by omega,HSQ.out];exact ZM.out,by rw [show 8 * k+(j+1)=8 * k+j+1 by omega,HPS.out];exact akQ.out,WO.out,Ws.out⟩
      case measure=> simp [intOf] <;> omega
     ·rw [if_neg hodd] at HPS;have hob:(c % 2==1)=false:=by simpa using hodd
      clear hodd;go_wp2_with fail;refine (dJ S S _ _ _ WQ.out WQ.out).mono ?_;rintro e w4 ⟨v4,rfl,hv4,hb4⟩;have ZM:=ak hv4;have Bb:=ak (HO.out.below hb4);have WO:=ak (HB.out.kept hb4);have Ws:=ak (fC.out.trans (hb4.mono fC.out.size));clear hv4 hb4;go_wp2;go_roundw
      case rel=> exact ⟨j+1,by omega,by go_num,by rw [HNX.out],by rw [show 8 * k+(j+1)=8 * k+j+1 by omega,HSQ.out];exact ZM.out,by rw [show 8 * k+(j+1)=8 * k+j+1 by omega,HPS.out];exact Bb.out,WO.out,Ws.out⟩
      case measure=> simp [intOf] <;> omega
    ·obtain rfl:j=8:=by omega
     go_wp2;go_roundw
     case rel=> exact ⟨k+1,by omega,by go_num,WQ.out,HO.out,HB.out,fC.out⟩
     case measure=> simp [intOf] <;> omega
  ·obtain rfl:k=32:=by omega
   have HF:=ak (KZ (X:=A) H0.out H1.out);have fC:=ak hbel;clear hB hbel;go_wp2;go_ret;exact ⟨_,rfl,by rw [<-HF.out];exact HO.out,fC.out⟩
end Go.Proofs.YtpcjekgfnfjbpaaGreat
