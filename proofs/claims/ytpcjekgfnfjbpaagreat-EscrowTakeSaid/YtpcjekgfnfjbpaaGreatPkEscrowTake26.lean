/-
  Part 26 of EscrowTake. Conditions: named in each theorem.
-/
import Derived.Test.YtpcjekgfnfjbpaaGreatPkEscrowTake25
import Derived.Test.YtpcjekgfnfjbpaaGreatPkEscrowTake7
import Derived.Test.YtpcjekgfnfjbpaaGreatPkEscrowTake20
set_option linter.unusedVariables false
set_option linter.unusedSimpArgs false
set_option maxRecDepth 100000
set_option maxHeartbeats 3200000
namespace Go.aZ
theorem Qm:∀x:Nat,x<256->bits .and .u8 (x:Int) 15=((x % 16:Nat):Int):=by decide+kernel
theorem LZ:∀x:Nat,x<256->bits .and .u8 (x:Int) 252=((x / 4 * 4:Nat):Int):=by decide+kernel
theorem VO {x:Int} (h0:0<=x) (h1:x<256):bits .and .u8 x 15=x % 16:=by
 obtain ⟨n,rfl⟩:=Db h0;rw [Qm n (by omega)];omega
theorem Ql {x:Int} (h0:0<=x) (h1:x<256):bits .and .u8 x 252=x / 4 * 4:=by
 obtain ⟨n,rfl⟩:=Db h0;rw [LZ n (by omega)];omega
theorem vE {k:Nat} {g f:Nat->Int} (h:g k=f k) (i:Nat):upto k g f i=upto (k+1) g f i:=by
 unfold upto;by_cases e:i<k
 ·rw [if_pos e,if_pos (by omega)]
 ·rw [if_neg e];by_cases e2:i=k
  ·subst e2;rw [if_pos (by omega),h]
  ·rw [if_neg (by omega)]
def kG (f:Nat->Int):Nat->Int:=fun i=> if i % 4=3 then f i % 16 else if i % 4=0/\0<i then f i / 4 * 4 else f i
theorem Gc {f:Nat->Int} {n m:Nat} (h:n<=m):sm 256 (fun i=> if i<n then f i else 0) m=sm 256 f n:=by
 induction m with
 | zero=> (obtain rfl:n=0:=by omega);rfl
 | succ m ih=>
  by_cases e:n=m+1
  ·subst e;exact iA fun i hi=> if_pos hi
  ·rw [sm,ih (by omega),if_neg (by omega)];omega
def kJ (F:Nat->Int) (N j:Nat):Int:=sm 256 (fun i=> F (16 * j+i)) (min 16 (N - 16 * j))+256 ^ (min 16 (N - 16 * j))
def wF (r:Int) (F:Nat->Int) (N:Nat):Nat->Int
 | 0=> 0
 | j+1=> (wF r F N j+kJ F N j) * r % PP
theorem Sq {f:Nat->Int} {n:Nat} (hn:n<=16) (hf:∀i,i<n->0<=f i/\f i<256):∀i,i<17->upd (laid (fun _=> 0) 0 n f) n 1 i=dg 256 (sm 256 f n+256 ^ n) i:=by
 intro i hi;have e:sm 256 f n+256 ^ n=sm 256 (fun i=> if i<n+1 then (if i<n then f i else 1) else 0) 17:=by
  rw [Gc (f:=fun i=> if i<n then f i else 1) (by omega),sm,if_neg (by omega),Int.one_mul,iA (fun i hi=> if_pos hi)]
 rw [e,xB (B:=256) (by decide) (n:=17) (fun i _=> by
  by_cases e:i<n
  ·rw [if_pos (by omega),if_pos e];have:=hf i e;omega
  ·rw [if_neg e];split<;> decide) i hi]
 unfold upd laid;by_cases h:i=n
 ·subst h;rw [if_pos rfl,if_pos (by omega),if_neg (by omega)]
 ·rw [if_neg h];by_cases e:i<n
  ·rw [if_pos (by omega),if_pos (by omega),if_pos e];rfl
  ·rw [if_neg (by omega),if_neg (by omega)]
theorem abQ {K:Int} (h:0<=K/\K<256 ^ 32):sm 256 (fun i=> dg 256 K (16+i)) 16 % PP=K / 256 ^ 16:=by
 have h1:=ug 256 (dg 256 K) 16 16;rw [nX (by decide),nX (by decide),Ju h.1 h.2] at h1;have h2:=BI K (256 ^ 16);have h3:sm 256 (fun i=> dg 256 K (16+i)) 16=K / 256 ^ 16:=by
  have:(256:Int) ^ 16 * sm 256 (fun i=> dg 256 K (16+i)) 16=256 ^ 16 * (K / 256 ^ 16):=by omega
  exact Int.eq_of_mul_eq_mul_left (by decide) this
 rw [h3];have h4:K / 256 ^ 16<256 ^ 16:=Int.ediv_lt_of_lt_mul (by decide) (by rw [show (256:Int) ^ 16 * 256 ^ 16=256 ^ 32 by decide];exact h.2);exact Ju (Int.ediv_nonneg h.1 (by decide)) (Int.lt_trans h4 (by decide))
end Go.aZ
namespace Go.Proofs.YtpcjekgfnfjbpaaGreat
open Go.RowKit Go.aZ
attribute [local go_sem ↓] Go.wp_at_zero Go.wp_at_succ
theorem Tryz.size118:(Tryz.prog.info? 118).map (·.size)=some 16:=by kernel_rfl
theorem PS (f:Nat->Int) (hf:∀i,i<16->0<=f i/\f i<256) (w:World):
  Calls Tryz.prog 259 #[.agg (arr .u8 16 f)] w fun e w'=> e=.returned (.agg (arr .u8 16 (kG f)))/\Below w.heap.size w w':=by
 have HF:=ak hf;clear hf
 go_enter Tryz.func259,Tryz.ntmps259
 go_wp2
 go_loopw [4] (fun i wr=> ∃k:Nat,k<=16/\i=.int .i64 k/\aF .u8 wr w.heap.size 16 (upto k (kG f) f)/\aF .u8 wr (w.heap.size+1) 16 (fun _=> 0)/\Below w.heap.size w wr) (fun i _=> 16 - (intOf i).toNat)
 case atStart=> exact ⟨0,iY _,rfl,by rw [dB];exact aF.alloc (bM rfl rfl) _,bM (by simp) (by rfl),((bN _ _).alloc (bA _) _).alloc (by simp) _⟩
 case round=>
  obtain ⟨k,hk,rfl,hA,hZ,hbel⟩:=hrel;by_cases hlt:k<16
  ·have e1:=hA.cell k hlt;rw [upto_at] at e1;have f1:=hA.free k;obtain ⟨x0,x1⟩:=HF.out k hlt;have HC:Hid (kG f k=if k % 4=3 then f k % 16 else if k % 4=0/\0<k then f k / 4 * 4 else f k):=rfl;obtain ⟨x,hx⟩:∃x,x=f k:=⟨_,rfl⟩
   rw [<-hx] at e1 x0 x1 HC;have HA:=ak hA;have HZ:=ak hZ;have HX:=ak hx;clear hA hZ hx;have hr:Int.tmod (k:Int) 4=((k % 4:Nat):Int):=by rw [Int.tmod_eq_emod_of_nonneg (by omega)];omega
   have hr2:(k:Int) % 4=((k % 4:Nat):Int):=by omega
   rcases (by omega:k % 4=0\/k % 4=1\/k % 4=2\/k % 4=3) with h | h | h | h<;> rw [h] at hr hr2 HC
   ·by_cases hp:0<k
    ·have hand:=Ql x0 x1;rw [if_neg (by decide),if_pos ⟨rfl,hp⟩] at HC;go_wp2;go_roundw
     case rel=> exact ⟨k+1,by omega,by go_num,by rw [<-bR HC.out.symm];exact HA.out.set k _,HZ.out.other (by simp) _,hbel.setCell (bA _) _⟩
     case measure=> simp [intOf] <;> omega
    ·obtain rfl:k=0:=by omega
     rw [if_neg (by decide),if_neg (by omega)] at HC;go_wp2;go_roundw
     case rel=> exact ⟨0+1,by omega,by go_num,HA.out.congr (fun i _=> vE (HC.out.trans HX.out) i),HZ.out,hbel⟩
     case measure=> simp [intOf] <;> omega
   ·rw [if_neg (by decide),if_neg (by omega)] at HC;go_wp2;go_roundw
    case rel=> exact ⟨k+1,by omega,by go_num,HA.out.congr (fun i _=> vE (HC.out.trans HX.out) i),HZ.out,hbel⟩
    case measure=> simp [intOf] <;> omega
   ·rw [if_neg (by decide),if_neg (by omega)] at HC;go_wp2;go_roundw
    case rel=> exact ⟨k+1,by omega,by go_num,HA.out.congr (fun i _=> vE (HC.out.trans HX.out) i),HZ.out,hbel⟩
    case measure=> simp [intOf] <;> omega
   ·have hand:=VO x0 x1;rw [if_pos rfl] at HC;go_wp2;go_roundw
    case rel=> exact ⟨k+1,by omega,by go_num,by rw [<-bR HC.out.symm];exact HA.out.set k _,HZ.out.other (by simp) _,hbel.setCell (bA _) _⟩
    case measure=> simp [intOf] <;> omega
  ·obtain rfl:k=16:=by omega
   go_wp2_with (first
    | (refine aQ rfl 118 _ rfl .u8 w.heap.size 16 _ 5 Tryz.underlying118 Tryz.size118 rfl hA ?_)
    | (refine aG rfl 118 _ _ rfl .u8 (w.heap.size+1) 16 (fun _=> 0) _ Tryz.size118 rfl rfl hZ ?_))
   refine bodyPost_ret (bG rfl _ _ .u8 (w.heap.size+1) 16 _ 5 rfl (hZ.setRow _ _) Tryz.underlying118 Tryz.size118) rfl ⟨?_,ay hbel (by omega) _⟩;rw [gJ (dY _ _ (bA _))]
theorem Jb (f:Nat->Int) (hf:∀i,i<32->0<=f i/\f i<256) (w:World):
  Calls Tryz.prog 233 #[.agg (arr .u8 32 f)] w fun e w'=> ∃v,e=.returned v/\Rd .u8 w' v 16 (kG f)/\Below w.heap.size w w':=by
 have HF:=ak hf;clear hf
 go_enter Tryz.func233,Tryz.ntmps233
 have hA:aF .u8 (w.alloc (.cells (arr .u8 32 f) 22)) w.heap.size 32 f:=bM rfl rfl;have hat:=jU (a:=some ⟨w.heap.size,0,none⟩) (len:=16) (cap:=32) Tryz.underlying118 (by decide);go_wp2_with (refine lZ rfl 118 _ rfl .u8 w.heap.size 0 16 f 5 Tryz.underlying118 Tryz.size118 rfl (fun i hi=> by rw [pz];exact hA.cell i (by omega)) ?_);refine (PS f (fun i hi=> HF.out i (by omega)) _).mono ?_;rintro e w1 ⟨rfl,hb1⟩;have hbel:Below w.heap.size w w1:=((bN _ _).alloc (bA _) _).trans (hb1.mono (by simp));have hs:=hbel.size;clear hA hb1;go_upto_region 2 with (refine aG rfl 118 _ _ rfl .u8 w1.heap.size 16 (fun _=> 0) _ Tryz.size118 rfl rfl (bM rfl rfl) ?_)
 refine aD (fun w2=> aF .u8 w2 w1.heap.size 16 (kG f)/\Below w.heap.size w w2)
  ⟨aF.setRow (bM (n:=16) (f:=fun _=> 0) rfl rfl) _ _,ay (hbel.alloc hs _) hs _⟩ ?_
 rintro w2 ⟨hA,hb2⟩;clear hbel;go_wp2;go_ret;exact ⟨_,rfl,hA.rd (by decide),hb2⟩
theorem GJ (v:Value) (n:Nat) (f:Nat->Int) (w:World) (hv:Rd .u8 w v n f) (hf:∀i,i<n->0<=f i/\f i<256) (hn:n<=17):
  Calls Tryz.prog 232 #[v] w fun e w'=> e=.returned (.tuple #[.agg (arr .u8 17 (dg 256 (sm 256 f n % PP))),.int .i64 0])/\Below w.heap.size w w':=by
 obtain ⟨a1,c1,rfl,l1,m1,z1,h1⟩:=id hv;have HV:=ak hv;have hb:=nY (B:=256) (by decide) hf;have hX:0<=sm 256 f n/\sm 256 f n<256 ^ 17:=⟨hb.1,Int.lt_of_lt_of_le hb.2 (zu 256 (by decide) _ _ hn)⟩
 have hD:∀i,i<17->laid (fun _=> 0) 0 n f i=dg 256 (sm 256 f n) i:=by
  intro i hi;rw [<-Gc hn,xB (B:=256) (by decide) (n:=17) (fun i _=> by
   by_cases e:i<n
   ·rw [if_pos e];have:=hf i e;omega
   ·rw [if_neg e];decide) i hi]
  unfold laid;by_cases e:i<n
  ·rw [if_pos e,if_pos (by omega)];rfl
  ·rw [if_neg e,if_neg (by omega)]
 have HD:=ak hD;have HX:=ak hX;obtain ⟨X,hXe⟩:∃X,X=sm 256 f n:=⟨_,rfl⟩
 rw [<-hXe] at HD HX ⊢;clear hv h1 z1 hb hX hD hf hXe
 go_enter Tryz.func232,Tryz.ntmps232
 go_upto_region 4 with (fail)
 refine aD (fun w1=> aF .u8 w1 w.heap.size 17 (fun _=> 0)/\aF .u8 w1 (w.heap.size+1) 17 (fun _=> 0)/\Rd .u8 w1 (.slice a1 n c1) n f/\Below w.heap.size w w1)
  ⟨aF.alloc (bM (by simp) (by rfl)) _,bM (by simp) (by rfl),HV.out.below (((bN _ _).alloc (bA _) _).alloc (by simp) _),((bN _ _).alloc (bA _) _).alloc (by simp) _⟩ ?_
 rintro w1 ⟨hZ,hA,hR,hbel⟩;go_upto_region 5 with (refine kR rfl _ _ 23 23 rfl (w.heap.size+1) 0 17 17 17 (fun _=> 0) jI Tryz.size5 rfl hA _ n f hR rfl hn (by omega) ?_)
 refine aD (fun w2=> aF .u8 w2 w.heap.size 17 (fun _=> 0)/\aF .u8 w2 (w.heap.size+1) 17 (dg 256 X)/\Below w.heap.size w w2)
  ⟨hZ.aA _ (by omega) _,(hA.setRow _ _).congr HD.out,ay hbel (by omega) _⟩ ?_
 rintro w2 ⟨hZ2,hA2,hb2⟩;clear hZ hA hR hbel;go_wp2_with (refine aQ rfl 268 _ rfl .u8 (w.heap.size+1) 17 _ 5 Tryz.underlying268 Tryz.size268 rfl hA2 ?_);refine (tN X _).mono ?_;rintro e w3 ⟨rfl,hb3⟩;go_wp2_with fail;refine (Ko X HX.out _).mono ?_;rintro e w4 ⟨rfl,hb4⟩;go_wp2_with fail;refine (Cj (X % PP) _).mono ?_;rintro e w5 ⟨rfl,hb5⟩;have nV:=((hZ2.kept hb3).kept hb4).kept hb5;have s2:=hb2.size;have s3:=hb3.size;have s4:=hb4.size;have hbf:=((hb2.trans (hb3.mono s2)).trans (hb4.mono (by omega))).trans (hb5.mono (by omega));clear hb2 hb3 hb4 hb5 hZ2 hA2;go_wp2_with (refine aG rfl 268 _ _ rfl .u8 w.heap.size 17 (fun _=> 0) _ Tryz.size268 rfl rfl nV ?_);exact bodyPost_ret (fT rfl _ _ .u8 w.heap.size 17 _ 5 rfl (nV.setRow _ _) Tryz.underlying268 Tryz.size268) rfl ⟨rfl,ay hbf (bA _) _⟩
theorem VK {k:IntKind} {w:World} {b n m:Nat} {f:Nat->Int} (h:aF k w b n f) (hm:m<=n) (hn:n<=9223372036854775807):Rd k w (.slice (some ⟨b,0,none⟩) m n) m f:=
 ⟨_,_,rfl,hm,hn,(fun h=> by cases h),fun _=> ⟨b,0,rfl,h.lt,fun i hi=> by rw [pz];exact h.cell i (by omega)⟩⟩
theorem Ji (A:Int) (w:World):
  Calls Tryz.prog 238 #[.agg (arr .u32 17 (dg 256 A))] w fun e w'=> ∃v,e=.returned v/\Own .u8 5 w.heap.size w' v 16 (dg 256 A)/\Below w.heap.size w w':=by
 go_enter Tryz.func238,Tryz.ntmps238
 go_wp2_with (refine aQ rfl 271 _ rfl .u32 w.heap.size 17 _ 117 Au Tryz.size271 rfl (bM rfl rfl) ?_);refine (Cj A _).mono ?_;rintro e w1 ⟨rfl,hb1⟩;have hbel:Below w.heap.size w w1:=((bN _ _).alloc (bA _) _).trans (hb1.mono (by simp));have hs:=hbel.size;clear hb1;go_upto_region 2 with (refine aG rfl 268 _ _ rfl .u8 w1.heap.size 17 (fun _=> 0) _ Tryz.size268 rfl rfl (bM rfl rfl) ?_)
 refine aD (fun w2=> aF .u8 w2 w1.heap.size 17 (dg 256 A)/\Below w.heap.size w w2)
  ⟨aF.setRow (bM (n:=17) (f:=fun _=> 0) rfl rfl) _ _,ay (hbel.alloc hs _) hs _⟩ ?_
 rintro w2 ⟨hA,hb2⟩;have hR:=ak (VK (m:=16) hA (by decide) (by decide));have hs2:=hb2.size;clear hbel hA;go_wp2_with (at_builtin;refine iF rfl _ _ 23 rfl w.heap.size 5 .u8 1 jI vB _ 0 (dg 256 A) ?_ rfl _ 16 (dg 256 A) (hR.out.below ((bN _ _).alloc (bA _) _)) rfl (fun i _=> by rw [pz]) (by omega) (by omega) (by simp;omega) ?_;rotate_right;intro v' w3 hown hgrow)
 ·go_ret;rw [pz] at hown;exact ⟨_,rfl,hown,below_grown (hb2.alloc hs2 _) hgrow (Own.new .u8 5 w2 #[] 0 (dg 256 A) hs2 (by omega) rfl (fun i hi=> by omega)) (by simp;omega) (bA _)⟩
 ·exact Own.new _ _ _ _ _ _ hs2 (by omega) rfl (fun i hi=> by omega)
theorem Jk {a:Act} (w:World):(Instr.build 271 ((#[] :Array (Nat × Operand)).map fun (i,x)=> (i,a.eval x))).run Tryz.prog w=.ok (.agg (arr .u32 17 (fun _=> 0))) w:=by
 simp only [vg,List.map_nil];rw [Go.run_build w _ _ (arr .u32 17 (fun _=> 0)) (by kernel_rfl)]
end Go.Proofs.YtpcjekgfnfjbpaaGreat
