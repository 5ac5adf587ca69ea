/- Part 26 of EscrowComes; conditions: in each theorem. -/
import Derived.Test.YtpcjekgfnfjbpaaGreatPkEC25
import Derived.Test.YtpcjekgfnfjbpaaGreatPkEC7
import Derived.Test.YtpcjekgfnfjbpaaGreatPkEC20
set_option linter.unusedVariables false
set_option linter.unusedSimpArgs false
set_option maxRecDepth 100000
set_option maxHeartbeats 3200000
namespace Go.bI
theorem Ve:∀x:Nat,x<256->bits .and .u8 (x:Int) 15=((x % 16:Nat):Int):=by decide+kernel
theorem Qh:∀x:Nat,x<256->bits .and .u8 (x:Int) 252=((x / 4 * 4:Nat):Int):=by decide+kernel
theorem aaq {x:Int} (h0:0<=x) (h1:x<256):bits .and .u8 x 15=x % 16:=by
 obtain⟨n,rfl⟩:=Gl h0;rw[Ve n aH];omega
theorem Vd {x:Int} (h0:0<=x) (h1:x<256):bits .and .u8 x 252=x / 4 * 4:=by
 obtain⟨n,rfl⟩:=Gl h0;rw[Qh n aH];omega
theorem yP {k:Nat} {g f:Nat->Int} (h:g k=f k) (i:Nat):upto k g f i=upto (k+1) g f i:=by
 unfold upto;by_cases e:i<k
 ·rw[if_pos e,if_pos aH]
 ·rw[if_neg e];by_cases e2:i=k
  ·subst e2;rw[if_pos aH,h]
  ·rw[if_neg aH]
def mI (f:Nat->Int):Nat->Int:=fun i=>if i % 4=3 then f i % 16 else if i % 4=0/\0<i then f i / 4 * 4 else f i
theorem Ki {f:Nat->Int} {n m:Nat} (h:n<=m):sm 256 (fun i=>if i<n then f i else 0) m=sm 256 f n:=by
 induction m with
 | zero=>(obtain rfl:n=0:=by omega);rfl
 | succ m ih=>
  by_cases e:n=m+1
  ·subst e;exact jA fun i hi=>if_pos hi
  ·rw[sm,ih aH,if_neg aH];omega
def mM (F:Nat->Int) (N j:Nat):Int:=sm 256 (fun i=>F (16 * j+i)) (min 16 (N - 16 * j))+256 ^ (min 16 (N - 16 * j))
def zG (r:Int) (F:Nat->Int) (N:Nat):Nat->Int
 | 0=>0
 | j+1=>(zG r F N j+mM F N j) * r % PP
theorem XB {f:Nat->Int} {n:Nat} (hn:n<=16) (hf:∀i,i<n->0<=f i/\f i<256):∀i,i<17->upd (laid (fun _=>0) 0 n f) n 1 i=dg 256 (sm 256 f n+256 ^ n) i:=by
 intro i hi;have e:sm 256 f n+256 ^ n=sm 256 (fun i=>if i<n+1 then (if i<n then f i else 1) else 0) 17:=by
  rw[Ki (f:=fun i=>if i<n then f i else 1) aH,sm,if_neg aH,Int.one_mul,jA (fun i hi=>if_pos hi)]
 rw[e,Af (B:=256) aM (n:=17) (fun i _=>by
  by_cases e:i<n
  ·rw[if_pos aH,if_pos e];have:=hf i e;omega
  ·rw[if_neg e];split<;> decide) i hi]
 unfold upd laid;by_cases h:i=n
 ·subst h;rw[if_pos rfl,if_pos aH,if_neg aH]
 ·rw[if_neg h];by_cases e:i<n
  ·rw[if_pos aH,if_pos aH,if_pos e];rfl
  ·rw[if_neg aH,if_neg aH]
theorem agJ {K:Int} (h:0<=K/\K<256 ^ 32):sm 256 (fun i=>dg 256 K (16+i)) 16 % PP=K / 256 ^ 16:=by
 have h1:=xq 256 (dg 256 K) 16 16;rw[qH aM,qH aM,Nb h.1 h.2] at h1;have h2:=EN K (256 ^ 16);have h3:sm 256 (fun i=>dg 256 K (16+i)) 16=K / 256 ^ 16:=by
  have:(256:Int) ^ 16 * sm 256 (fun i=>dg 256 K (16+i)) 16=256 ^ 16 * (K / 256 ^ 16):=by omega
  exact Int.eq_of_mul_eq_mul_left aM this
 rw[h3];have h4:K / 256 ^ 16<256 ^ 16:=Int.ediv_lt_of_lt_mul aM (by rw[show (256:Int) ^ 16 * 256 ^ 16=256 ^ 32 by decide];exact h.2);exact Nb (Int.ediv_nonneg h.1 aM) (Int.lt_trans h4 aM)
end Go.bI
namespace Go.Proofs.YtpcjekgfnfjbpaaGreat
open Go.RowKit Go.bI
attribute [local go_sem ↓] Go.wp_at_zero Go.wp_at_succ
theorem Tryz.size118:(Tryz.prog.info? 118).map (·.size)=some 16:=by kernel_rfl
theorem UD (f:Nat->Int) (hf:∀i,i<16->0<=f i/\f i<256) (w:World):
  Calls Tryz.prog 259 #[.agg (arr .u8 16 f)] w fun e w'=>e=.returned (.agg (arr .u8 16 (mI f)))/\Below w.heap.size w w':=by
 have HF:=ay hf;clear hf
 go_enter Tryz.func259,Tryz.ntmps259
 go_wp2
 go_loopw [4] (fun i wr=> ∃k:Nat,k<=16/\i=.int .i64 k/\aK .u8 wr w.heap.size 16 (upto k (mI f) f)/\aK .u8 wr (w.heap.size+1) 16 (fun _=>0)/\Below w.heap.size w wr) (fun i _=>16 - (intOf i).toNat)
 case atStart=>exact⟨0,jm _,rfl,by rw[dR];exact aK.alloc (cB rfl rfl) _,cB aR (by rfl),((bT _ _).alloc (bH _) _).alloc aR _⟩
 case round=>
  obtain⟨k,hk,rfl,hA,hZ,aD⟩:=hrel;by_cases hlt:k<16
  ·have e1:=hA.cell k hlt;rw[upto_at] at e1;have f1:=hA.free k;obtain⟨x0,x1⟩:=HF.out k hlt;have HC:Hid (mI f k=if k % 4=3 then f k % 16 else if k % 4=0/\0<k then f k / 4 * 4 else f k):=rfl;obtain⟨x,hx⟩:∃x,x=f k:=⟨_,rfl⟩
   rw[<-hx] at e1 x0 x1 HC;have HA:=ay hA;have HZ:=ay hZ;have HX:=ay hx;clear hA hZ hx;have hr:Int.tmod (k:Int) 4=((k % 4:Nat):Int):=by rw[Int.tmod_eq_emod_of_nonneg aH];omega
   have hr2:(k:Int) % 4=((k % 4:Nat):Int):=by omega
   rcases(by omega:k % 4=0\/k % 4=1\/k % 4=2\/k % 4=3) with h | h | h | h<;> rw[h] at hr hr2 HC
   ·by_cases hp:0<k
    ·have hand:=Vd x0 x1;rw[if_neg aM,if_pos ⟨rfl,hp⟩] at HC;go_wp2;go_roundw
     case rel=>exact⟨k+1,by omega,by go_num,by rw[<-dh HC.out.symm];exact HA.out.set k _,HZ.out.other aR _,aD.setCell (bH _) _⟩
     case measure=>simp[intOf] <;> omega
    ·obtain rfl:k=0:=by omega
     rw[if_neg aM,if_neg aH] at HC;go_wp2;go_roundw
     case rel=>exact⟨0+1,by omega,by go_num,HA.out.congr (fun i _=>yP (HC.out.trans HX.out) i),HZ.out,aD⟩
     case measure=>simp[intOf] <;> omega
   ·rw[if_neg aM,if_neg aH] at HC;go_wp2;go_roundw
    case rel=>exact⟨k+1,by omega,by go_num,HA.out.congr (fun i _=>yP (HC.out.trans HX.out) i),HZ.out,aD⟩
    case measure=>simp[intOf] <;> omega
   ·rw[if_neg aM,if_neg aH] at HC;go_wp2;go_roundw
    case rel=>exact⟨k+1,by omega,by go_num,HA.out.congr (fun i _=>yP (HC.out.trans HX.out) i),HZ.out,aD⟩
    case measure=>simp[intOf] <;> omega
   ·have hand:=aaq x0 x1;rw[if_pos rfl] at HC;go_wp2;go_roundw
    case rel=>exact⟨k+1,by omega,by go_num,by rw[<-dh HC.out.symm];exact HA.out.set k _,HZ.out.other aR _,aD.setCell (bH _) _⟩
    case measure=>simp[intOf] <;> omega
  ·obtain rfl:k=16:=by omega
   go_wp2_with (first
    | (refine aZ rfl 118 _ rfl .u8 w.heap.size 16 _ 5 Tryz.underlying118 Tryz.size118 rfl hA ?_)
    | (refine aL rfl 118 _ _ rfl .u8 (w.heap.size+1) 16 (fun _=>0) _ Tryz.size118 rfl rfl hZ ?_))
   refine bodyPost_ret (bV rfl _ _ .u8 (w.heap.size+1) 16 _ 5 rfl (hZ.setRow _ _) Tryz.underlying118 Tryz.size118) rfl ⟨?_,aB aD aH _⟩;rw[iQ (fJ _ _ (bH _))]
theorem MB (f:Nat->Int) (hf:∀i,i<32->0<=f i/\f i<256) (w:World):
  Calls Tryz.prog 233 #[.agg (arr .u8 32 f)] w fun e w'=> ∃v,e=.returned v/\Rd .u8 w' v 16 (mI f)/\Below w.heap.size w w':=by
 have HF:=ay hf;clear hf
 go_enter Tryz.func233,Tryz.ntmps233
 have hA:aK .u8 (w.alloc (.cells (arr .u8 32 f) 22)) w.heap.size 32 f:=cB rfl rfl;have hat:=lN (a:=some ⟨w.heap.size,0,none⟩) (len:=16) (cap:=32) Tryz.underlying118 aM;go_wp2_with (refine oz rfl 118 _ rfl .u8 w.heap.size 0 16 f 5 Tryz.underlying118 Tryz.size118 rfl (fun i hi=>by rw[qY];exact hA.cell i aH) ?_);refine(UD f (fun i hi=>HF.out i aH) _).mono ?_;rintro e w1 ⟨rfl,gX⟩;have aD:Below w.heap.size w w1:=((bT _ _).alloc (bH _) _).trans (gX.mono aR);have hs:=aD.size;clear hA gX;go_upto_region 2 with(refine aL rfl 118 _ _ rfl .u8 w1.heap.size 16 (fun _=>0) _ Tryz.size118 rfl rfl (cB rfl rfl) ?_)
 refine aJ (fun w2=>aK .u8 w2 w1.heap.size 16 (mI f)/\Below w.heap.size w w2)
  ⟨aK.setRow (cB (n:=16) (f:=fun _=>0) rfl rfl) _ _,aB (aD.alloc hs _) hs _⟩ ?_
 rintro w2 ⟨hA,fO⟩;clear aD;go_wp2;go_ret;exact⟨_,rfl,hA.rd aM,fO⟩
theorem KM (v:Value) (n:Nat) (f:Nat->Int) (w:World) (hv:Rd .u8 w v n f) (hf:∀i,i<n->0<=f i/\f i<256) (hn:n<=17):
  Calls Tryz.prog 232 #[v] w fun e w'=>e=.returned (.tuple #[.agg (arr .u8 17 (dg 256 (sm 256 f n % PP))),.int .i64 0])/\Below w.heap.size w w':=by
 obtain⟨a1,c1,rfl,l1,m1,z1,h1⟩:=id hv;have HV:=ay hv;have hb:=qI (B:=256) aM hf;have hX:0<=sm 256 f n/\sm 256 f n<256 ^ 17:=⟨hb.1,Int.lt_of_lt_of_le hb.2 (Cv 256 aM _ _ hn)⟩
 have hD:∀i,i<17->laid (fun _=>0) 0 n f i=dg 256 (sm 256 f n) i:=by
  intro i hi;rw[<-Ki hn,Af (B:=256) aM (n:=17) (fun i _=>by
   by_cases e:i<n
   ·rw[if_pos e];have:=hf i e;omega
   ·rw[if_neg e];decide) i hi]
  unfold laid;by_cases e:i<n
  ·rw[if_pos e,if_pos aH];rfl
  ·rw[if_neg e,if_neg aH]
 have HD:=ay hD;have HX:=ay hX;obtain⟨X,hXe⟩:∃X,X=sm 256 f n:=⟨_,rfl⟩
 rw[<-hXe] at HD HX ⊢;clear hv h1 z1 hb hX hD hf hXe
 go_enter Tryz.func232,Tryz.ntmps232
 go_upto_region 4 with(fail)
 refine aJ (fun w1=>aK .u8 w1 w.heap.size 17 (fun _=>0)/\aK .u8 w1 (w.heap.size+1) 17 (fun _=>0)/\Rd .u8 w1 (.slice a1 n c1) n f/\Below w.heap.size w w1)
  ⟨aK.alloc (cB aR (by rfl)) _,cB aR (by rfl),HV.out.below (((bT _ _).alloc (bH _) _).alloc aR _),((bT _ _).alloc (bH _) _).alloc aR _⟩ ?_
 rintro w1 ⟨hZ,hA,hR,aD⟩;go_upto_region 5 with(refine mU rfl _ _ 23 23 rfl (w.heap.size+1) 0 17 17 17 (fun _=>0) mo Tryz.size5 rfl hA _ n f hR rfl hn aH ?_)
 refine aJ (fun w2=>aK .u8 w2 w.heap.size 17 (fun _=>0)/\aK .u8 w2 (w.heap.size+1) 17 (dg 256 X)/\Below w.heap.size w w2)
  ⟨hZ.aC _ aH _,(hA.setRow _ _).congr HD.out,aB aD aH _⟩ ?_
 rintro w2 ⟨jG,jv,fO⟩;clear hZ hA hR aD;go_wp2_with (refine aZ rfl 268 _ rfl .u8 (w.heap.size+1) 17 _ 5 Tryz.underlying268 Tryz.size268 rfl jv ?_);refine(wS X _).mono ?_;rintro e w3 ⟨rfl,ji⟩;go_wp2_with fail;refine(Od X HX.out _).mono ?_;rintro e w4 ⟨rfl,jF⟩;go_wp2_with fail;refine(FC (X % PP) _).mono ?_;rintro e w5 ⟨rfl,lW⟩;have qF:=((jG.kept ji).kept jF).kept lW;have s2:=fO.size;have s3:=ji.size;have s4:=jF.size;have hbf:=((fO.trans (ji.mono s2)).trans (jF.mono aH)).trans (lW.mono aH);clear fO ji jF lW jG jv;go_wp2_with (refine aL rfl 268 _ _ rfl .u8 w.heap.size 17 (fun _=>0) _ Tryz.size268 rfl rfl qF ?_);exact bodyPost_ret (gZ rfl _ _ .u8 w.heap.size 17 _ 5 rfl (qF.setRow _ _) Tryz.underlying268 Tryz.size268) rfl ⟨rfl,aB hbf (bH _) _⟩
theorem aao {k:IntKind} {w:World} {b n m:Nat} {f:Nat->Int} (h:aK k w b n f) (hm:m<=n) (hn:n<=9223372036854775807):Rd k w (.slice (some ⟨b,0,none⟩) m n) m f:=
 ⟨_,_,rfl,hm,hn,(fun h=>by cases h),fun _=>⟨b,0,rfl,h.lt,fun i hi=>by rw[qY];exact h.cell i aH⟩⟩
theorem ML (A:Int) (w:World):
  Calls Tryz.prog 238 #[.agg (arr .u32 17 (dg 256 A))] w fun e w'=> ∃v,e=.returned v/\Own .u8 5 w.heap.size w' v 16 (dg 256 A)/\Below w.heap.size w w':=by
 go_enter Tryz.func238,Tryz.ntmps238
 go_wp2_with (refine aZ rfl 271 _ rfl .u32 w.heap.size 17 _ 117 DN Tryz.size271 rfl (cB rfl rfl) ?_);refine(FC A _).mono ?_;rintro e w1 ⟨rfl,gX⟩;have aD:Below w.heap.size w w1:=((bT _ _).alloc (bH _) _).trans (gX.mono aR);have hs:=aD.size;clear gX;go_upto_region 2 with(refine aL rfl 268 _ _ rfl .u8 w1.heap.size 17 (fun _=>0) _ Tryz.size268 rfl rfl (cB rfl rfl) ?_)
 refine aJ (fun w2=>aK .u8 w2 w1.heap.size 17 (dg 256 A)/\Below w.heap.size w w2)
  ⟨aK.setRow (cB (n:=17) (f:=fun _=>0) rfl rfl) _ _,aB (aD.alloc hs _) hs _⟩ ?_
 rintro w2 ⟨hA,fO⟩;have hR:=ay (aao (m:=16) hA aM aM);have hs2:=fO.size;clear aD hA;go_wp2_with (at_builtin;refine jE rfl _ _ 23 rfl w.heap.size 5 .u8 1 mo yL _ 0 (dg 256 A) ?_ rfl _ 16 (dg 256 A) (hR.out.below ((bT _ _).alloc (bH _) _)) rfl (fun i _=>by rw[qY]) aH aH iU ?_;rotate_right;intro v' w3 cK dL)
 ·go_ret;rw[qY] at cK;exact⟨_,rfl,cK,below_grown (fO.alloc hs2 _) dL (Own.new .u8 5 w2 #[] 0 (dg 256 A) hs2 aH rfl (fun i hi=>by omega)) iU (bH _)⟩
 ·exact Own.new _ _ _ _ _ _ hs2 aH rfl (fun i hi=>by omega)
theorem MO {a:Act} (w:World):(Instr.build 271 ((#[] :Array (Nat × Operand)).map fun(i,x)=>(i,a.eval x))).run Tryz.prog w=.ok (.agg (arr .u32 17 (fun _=>0))) w:=by
 simp only[vT,List.map_nil];rw[Go.run_build w _ _ (arr .u32 17 (fun _=>0)) aQ]
end Go.Proofs.YtpcjekgfnfjbpaaGreat
