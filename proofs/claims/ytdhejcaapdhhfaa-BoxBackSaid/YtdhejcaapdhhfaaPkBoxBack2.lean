/-
  Part 2 of the texts that the proof of BoxBack rests on, one after the other. Conditions: named in each theorem.
-/
import Derived.Test.YtdhejcaapdhhfaaPkBoxBack1
import Derived.BigQuiet
import Derived.Deep.QuietTactic
import Derived.Lib.Hide
import Derived.Test.YtdhejcaapdhhfaaKit
import Derived.WalkKit
import Derived.WalkLawsBesides
import Derived.WalkSmall
import Derived.WalkSpells
set_option linter.unusedVariables false
set_option linter.unusedSimpArgs false
namespace Go.Bas
def sm (B:Int) (f:Nat→Int):Nat→Int
 | 0=> 0
 | n+1=> sm B f n+f n * B ^ n
def dg (B X:Int) (i:Nat):Int:=X / B ^ i % B
theorem pow_pos' {B:Int} (hB:0<B) (n:Nat):0<B ^ n:=Int.pow_pos hB
theorem div_succ {B:Int} (hB:0<B) (X:Int) (i:Nat):X / B ^ (i+1)=X / B ^ i / B:=by
 rw [Int.pow_succ,Int.ediv_ediv_of_nonneg (Int.le_of_lt (pow_pos' hB i))]
theorem dg_bound {B:Int} (hB:0<B) (X:Int) (i:Nat):0≤dg B X i∧dg B X i<B:=⟨Int.emod_nonneg _ (by omega),Int.emod_lt_of_pos _ hB⟩
theorem sm_congr {B:Int} {f g:Nat→Int} {n:Nat} (h:∀i,i<n→f i=g i):sm B f n=sm B g n:=by
 induction n with
 | zero=> rfl
 | succ n ih=> rw [sm,sm,ih fun i hi=> h i (by omega),h n (by omega)]
theorem sm_bound {B:Int} (hB:0<B) {f:Nat→Int} {n:Nat} (h:∀i,i<n→0≤f i∧f i<B):0≤sm B f n∧sm B f n<B ^ n:=by
 induction n with
 | zero=> simp [sm]
 | succ n ih=>
  have h1:=ih fun i hi=> h i (by omega)
  have h2:=h n (by omega)
  have hp:=pow_pos' hB n
  rw [sm,Int.pow_succ]
  constructor
  ·have:=Int.mul_nonneg h2.1 (Int.le_of_lt hp);omega
  ·have h3:f n * B ^ n≤(B - 1) * B ^ n:=Int.mul_le_mul_of_nonneg_right (by omega) (Int.le_of_lt hp)
   rw [Int.sub_mul,Int.one_mul] at h3
   rw [Int.mul_comm (B ^ n) B]
   omega
theorem split_at {B:Int} (X:Int) (n:Nat):X=X % B ^ n+X / B ^ n * B ^ n:=by
 have:=Int.emod_add_mul_ediv X (B ^ n)
 rw [Int.mul_comm] at this
 omega
theorem mod_succ {B:Int} (hB:0<B) (X:Int) (n:Nat):X % B ^ (n+1)=X % B ^ n+dg B X n * B ^ n:=by
 have h1:=split_at (B:=B) X n
 have h2:=split_at (B:=B) X (n+1)
 have h3:=Int.emod_add_mul_ediv (X / B ^ n) B
 rw [div_succ hB] at h2
 unfold dg
 generalize X / B ^ n=q at *
 have:q * B ^ n=q % B * B ^ n+q / B * B ^ (n+1):=by
  rw [Int.pow_succ]
  calc q * B ^ n=(q % B+B * (q / B)) * B ^ n:=by rw [h3]
   _=q % B * B ^ n+q / B * (B ^ n * B):=by rw [Int.add_mul];congr 1;rw [Int.mul_comm B,Int.mul_assoc,Int.mul_comm B]
 omega
theorem sm_dg {B:Int} (hB:0<B) (X:Int) (n:Nat):sm B (dg B X) n=X % B ^ n:=by
 induction n with
 | zero=> simp [sm,Int.emod_one]
 | succ n ih=> rw [sm,ih,mod_succ hB]
theorem dg_add {B:Int} (hB:0<B) (X Y:Int) (n i:Nat) (h:i<n):dg B (X+Y * B ^ n) i=dg B X i:=by
 unfold dg
 obtain ⟨d,rfl⟩:=Nat.exists_eq_add_of_le h
 have hp:=pow_pos' hB i
 rw [show B ^ (i.succ+d)=B ^ i * (B * B ^ d) by rw [←Int.pow_succ',←Int.pow_add];congr 1;omega]
 rw [show Y * (B ^ i * (B * B ^ d))=Y * B ^ d * B * B ^ i by
  rw [Int.mul_comm (B ^ i),←Int.mul_assoc,Int.mul_comm B,←Int.mul_assoc]]
 rw [Int.add_mul_ediv_right _ _ (by omega),Int.add_mul_emod_self_right]
theorem dg_sm {B:Int} (hB:0<B) {f:Nat→Int} {n:Nat} (h:∀i,i<n→0≤f i∧f i<B):∀i,i<n→dg B (sm B f n) i=f i:=by
 induction n with
 | zero=> intro i hi;omega
 | succ n ih=>
  intro i hi
  by_cases e:i=n
  ·subst e
   have hb:=sm_bound hB fun j hj=> h j (Nat.lt_succ_of_lt hj)
   have hp:=pow_pos' hB i
   rw [sm,dg,Int.add_mul_ediv_right _ _ (by omega),Int.ediv_eq_zero_of_lt hb.1 hb.2,Int.zero_add]
   exact Int.emod_eq_of_lt (h i hi).1 (h i hi).2
  ·rw [sm,dg_add hB _ _ _ _ (by omega)]
   exact ih (fun j hj=> h j (by omega)) i (by omega)
theorem dg_mod {B:Int} (hB:0<B) (X:Int) (n i:Nat) (h:i<n):dg B (X % B ^ n) i=dg B X i:=by
 conv=> rhs;rw [split_at (B:=B) X n]
 rw [dg_add hB _ _ _ _ h]
theorem eq_of_dg {B:Int} (hB:0<B) {X Y:Int} {n:Nat} (hX:0≤X∧X<B ^ n) (hY:0≤Y∧Y<B ^ n) (h:∀i,i<n→dg B X i=dg B Y i):X=Y:=by
 have h1:=sm_dg hB X n
 have h2:=sm_dg hB Y n
 rw [sm_congr h,h2,Int.emod_eq_of_lt hY.1 hY.2,Int.emod_eq_of_lt hX.1 hX.2] at h1
 exact h1.symm
theorem dg_pair {B:Int} (hB:0<B) (X:Int) (i:Nat):dg (B * B) X i=dg B X (2 * i)+dg B X (2 * i+1) * B:=by
 unfold dg
 rw [show (B * B) ^ i=B ^ (2 * i) by rw [show B * B=B ^ 2 by rw [Int.pow_succ,Int.pow_succ,Int.pow_zero,Int.one_mul],←Int.pow_mul],div_succ hB X (2 * i)]
 generalize X / B ^ (2 * i)=q
 have h1:=Int.emod_add_mul_ediv q (B * B)
 have h2:=Int.emod_add_mul_ediv q B
 have h3:=Int.emod_add_mul_ediv (q / B) B
 have h4:q / (B * B)=q / B / B:=(Int.ediv_ediv_of_nonneg (Int.le_of_lt hB)).symm
 rw [h4,Int.mul_assoc] at h1
 have h5:B * (q / B)=B * (q / B % B+B * (q / B / B)):=by rw [h3]
 rw [Int.mul_add] at h5
 rw [Int.mul_comm (q / B % B) B]
 omega
theorem pair16 (X:Int) (i:Nat):dg 65536 X i=dg 256 X (2 * i)+dg 256 X (2 * i+1) * 256:=dg_pair (B:=256) (by decide) X i
theorem byte0 (X:Int) (i:Nat):dg 65536 X i % 256=dg 256 X (2 * i):=by
 have h1:=pair16 X i
 have h2:=dg_bound (by decide:(0:Int)<256) X (2 * i)
 omega
theorem byte1 (X:Int) (i:Nat):dg 65536 X i / 256=dg 256 X (2 * i+1):=by
 have h1:=pair16 X i
 have h2:=dg_bound (by decide:(0:Int)<256) X (2 * i)
 omega
theorem dg_small {B X:Int} {i:Nat} (h:0≤X∧X<B ^ i):dg B X i=0:=by
 unfold dg;rw [Int.ediv_eq_zero_of_lt h.1 h.2];rfl
end Go.Bas
namespace Go.Bas
theorem dg_nil (B:Int) (i:Nat):dg B 0 i=0:=by simp [dg]
def bor2 (X Y:Int) (k:Nat):Int:=X / 65536 ^ k - Y / 65536 ^ k - (X - Y) / 65536 ^ k
theorem bor2_zero (X Y:Int):bor2 X Y 0=0:=by simp [bor2]
theorem bit_small (Y:Int) (r:Nat) (h:r<8):Y / 2 ^ r % 2=Y % 256 / 2 ^ r % 2:=by
 rcases (by omega:r=0∨r=1∨r=2∨r=3∨r=4∨r=5∨r=6∨r=7) with rfl | rfl | rfl | rfl | rfl | rfl | rfl | rfl<;> simp<;> omega
theorem pow_256 (m:Nat):(2:Int) ^ m=256 ^ (m / 8) * 2 ^ (m % 8):=by
 rw [show (256:Int)=2 ^ 8 from rfl,←Int.pow_mul,←Int.pow_add];congr 1;omega
theorem bit_of (X:Int) (m:Nat):X / 2 ^ m % 2=dg 256 X (m / 8) / 2 ^ (m % 8) % 2:=by
 rw [pow_256,←Int.ediv_ediv_of_nonneg (Int.le_of_lt (pow_pos' (by decide) _)),bit_small _ _ (Nat.mod_lt _ (by decide))]
 rfl
theorem half (X:Int) (m:Nat):X / 2 ^ m=2 * (X / 2 ^ (m+1))+X / 2 ^ m % 2:=by
 rw [div_succ (by decide)];omega
end Go.Bas
namespace Go.Bas
theorem upd_at (f:Nat→Int) (p:Nat) (v:Int):upd f p v p=v:=if_pos rfl
theorem upd_ne (f:Nat→Int) {p i:Nat} (v:Int) (h:i≠p):upd f p v i=f i:=if_neg h
theorem upd_upd (f:Nat→Int) (p:Nat) (u v:Int) (i:Nat):upd (upd f p u) p v i=upd f p v i:=by
 unfold upd;split<;> rfl
theorem sm_upd' (B:Int) (f:Nat→Int) (p:Nat) (v:Int):∀n,sm B (upd f p v) n=sm B f n+(if p<n then (v - f p) * B ^ p else 0)
 | 0=> by simp [sm]
 | n+1=> by
  rw [sm,sm,sm_upd' B f p v n]
  by_cases e:n=p
  ·subst e
   rw [if_neg (by omega),if_pos (by omega),show upd f n v n=v from if_pos rfl,Int.sub_mul];omega
  ·rw [show upd f p v n=f n from if_neg (by omega)]
   by_cases h:p<n
   ·rw [if_pos h,if_pos (by omega)];omega
   ·rw [if_neg h,if_neg (by omega)];omega
theorem sm_zero' (B:Int):∀n,sm B (fun _=> 0) n=0
 | 0=> rfl
 | n+1=> by rw [sm,sm_zero' B n];simp
theorem sm_lin (B:Int) (f g:Nat→Int) (a b:Int):∀n,sm B (fun i=> a * f i+b * g i) n=a * sm B f n+b * sm B g n
 | 0=> by simp [sm]
 | n+1=> by
  rw [sm,sm,sm,sm_lin B f g a b n]
  generalize B ^ n=p
  grind
theorem sm_split (B:Int) (f:Nat→Int) (m:Nat):∀n,sm B f (m+n)=sm B f m+B ^ m * sm B (fun i=> f (m+i)) n
 | 0=> by simp [sm]
 | n+1=> by
  rw [←Nat.add_assoc,sm,sm,sm_split B f m n,Int.pow_add]
  grind
end Go.Bas
namespace Go.Bas
open Go.RowKit
def Placed (w:World) (v v':Value):Prop:=v'.ownBlock=v.ownBlock∨∀b,v'.ownBlock=some b→w.heap.size≤b
theorem run_append_place {P:Program} (w:World) (base:Nat) (t ty e:TypeId) (i:TypeInfo) (z:Value) (size bytes:Nat) (ht:P.underlying t=some (.slice e)) (hi:P.info? e=some i) (hz:i.zero=some z)
  (hsize:i.size=size) (hby:i.bytes=bytes) (hzs:z.cells.size=size) (hsz:0<size)
  (v:Value) (n:Nat) (xs:List Value) (hown:w.ownsRow base e size v n xs)
  (a:Addr) (m c:Nat) (news:List Value) (hl:news.length=m * size) (hnews:∀j u,news[j]? =some u→w.cell? (a.add j)=some u) (h1:∀u ∈ news,u.oneCell'=true)
  (h63:n+m≤maxLen) (hbytes:(n+m) * bytes≤140737488355328) (v':Value) (w':World) (hrun:(Builtin.append_ #[t,t] ty #[v,.slice (some a) m c]).run P w=.ok v' w'):Placed w v v':=by
 subst hsize
 subst hby
 have hsmall:n+m≤9223372036854775807:=by simp only [maxLen] at h63;omega
 rcases hown.2 with ⟨rfl,rfl⟩ | ⟨g,cap,cur,rfl,hbg,hg,hnc,hcm,hcs,htake⟩
 ·have hx:xs= [] :=List.eq_nil_of_length_eq_zero (by simpa using hown.1)
  subst hx
  by_cases hm:m=0
  ·subst hm
   have hn:news= [] :=List.eq_nil_of_length_eq_zero (by simpa using hl)
   subst hn
   have hr:(Builtin.append_ #[t,t] ty #[.slice none 0 0,.slice (some a) 0 c]).run P w=.ok (.slice none 0 0) w:=by
    simp [Builtin.append_,run_underlying ht,sizeOf,typeInfo,hi,Builtin.lenOf,Builtin.firstCells,loadCells,loadCellsFrom]
   rw [hr] at hrun
   cases hrun
   exact .inl rfl
  ·have hr:=run_append_nil (P:=P) w t ty e i z ht hi hz a m c news hl hnews (by omega) (by omega) (by have hb:=hbytes;simp only [Nat.zero_add] at hb;omega)
   rw [hr] at hrun
   cases hrun
   refine .inr fun b hb=> ?_
   simp [Value.ownBlock] at hb
   omega
 ·by_cases hroom:n+m≤cap
  ·have hfit:n * i.size+news.length≤cur.size:=by rw [hl,hcs,←Nat.add_mul];exact Nat.mul_le_mul_right _ hroom
   have hr:=run_append_room (P:=P) w t ty e i ht hi g n cap cur hg a m c news hl hnews h1 hroom hfit
   rw [hr] at hrun
   cases hrun
   exact .inl rfl
  ·have holds:∀j u,xs[j]? =some u→w.cell? ((⟨g,0,none⟩:Addr).add j)=some u:=hown.cells (g:=g) rfl
   have hr:=run_append_grow (P:=P) w t ty e i z ht hi hz ⟨g,0,none⟩ n cap xs hown.1 holds a m c news hl hnews (by omega) (by omega) (growslice_fits (by omega) hbytes)
   rw [hr] at hrun
   cases hrun
   refine .inr fun b hb=> ?_
   simp [Value.ownBlock] at hb
   omega
end Go.Bas
namespace Go.Bas
def PP:Int:=2 ^ 130 - 5
theorem p130:(2:Int) ^ 130=256 ^ 16 * 4:=by decide
theorem modPP_of {a b c:Int} (h:a=b+PP * c):a % PP=b % PP:=by rw [h,Int.add_mul_emod_self_left]
def cu (f:Nat→Int):Nat→Int
 | 0=> 0
 | i+1=> (f i+cu f i) / 256
theorem cu_sm (f:Nat→Int):∀k,cu f k=sm 256 f k / 256 ^ k
 | 0=> by simp [cu,sm]
 | k+1=> by
  rw [cu,cu_sm f k,sm,div_succ (by decide),Int.add_mul_ediv_right _ _ (by have:=pow_pos' (by decide:(0:Int)<256) k;omega)]
  congr 1;omega
theorem cu_digit (f:Nat→Int) {n k:Nat} (h:k<n):(f k+cu f k) % 256=dg 256 (sm 256 f n) k:=by
 obtain ⟨d,rfl⟩:∃d,n=(k+1)+d:=⟨n - (k+1),by omega⟩
 rw [sm_split,Int.mul_comm (256 ^ (k+1)),dg_add (by decide) _ _ _ _ (by omega)]
 unfold dg
 rw [sm,Int.add_mul_ediv_right _ _ (by have:=pow_pos' (by decide:(0:Int)<256) k;omega),cu_sm]
 congr 1;omega
theorem cu_top (f:Nat→Int) (k:Nat):f k+cu f k=sm 256 f (k+1) / 256 ^ k:=by
 rw [sm,Int.add_mul_ediv_right _ _ (by have:=pow_pos' (by decide:(0:Int)<256) k;omega),cu_sm];omega
theorem cu_bound {f:Nat→Int} {M:Int} (n:Nat) (hf:∀i,i<n→0≤f i∧f i≤M) (hM:0≤M):∀k,k≤n→0≤cu f k∧cu f k≤M:=by
 intro k
 induction k with
 | zero=> intro _;exact ⟨Int.le_refl _,hM⟩
 | succ k ih=>
  intro hk
  have a:=ih (by omega)
  have b:=hf k (by omega)
  unfold cu;omega
def pd (V:Int):Nat→Int:=fun i=> if i<16 then dg 256 V i else V / 256 ^ 16
theorem pd_low (V:Int) {i:Nat} (h:i<16):pd V i=dg 256 V i:=if_pos h
theorem pd_top (V:Int):pd V 16=V / 256 ^ 16:=if_neg (by decide)
theorem sm_pd (V:Int):sm 256 (pd V) 17=V:=by
 rw [sm,pd_top,sm_congr (g:=dg 256 V) (fun i hi=> pd_low V hi),sm_dg (by decide)]
 have:=Int.emod_add_mul_ediv V (256 ^ 16)
 rw [Int.mul_comm] at this
 exact this
theorem pd_dg {V:Int} (h0:0≤V) (h1:V<256 ^ 17):∀i,i<17→pd V i=dg 256 V i:=by
 intro i hi
 by_cases e:i<16
 ·exact pd_low V e
 ·obtain rfl:i=16:=by omega
  rw [pd_top];unfold dg
  have h2:V / 256 ^ 16<256:=Int.ediv_lt_of_lt_mul (by decide) (by omega)
  have h3:0≤V / 256 ^ 16:=Int.ediv_nonneg h0 (by decide)
  omega
def fold5 (V:Int):Int:=V % 2 ^ 130+5 * (V / 2 ^ 130)
theorem fold5_mod (V:Int):fold5 V % PP=V % PP:=by
 unfold fold5
 have h:=Int.emod_add_mul_ediv V (2 ^ 130)
 refine modPP_of (c:= -(V / 2 ^ 130)) ?_
 have e:(2:Int) ^ 130=PP+5:=by decide
 rw [e] at h ⊢
 generalize V / (PP+5)=q at *
 generalize V % (PP+5)=r at *
 rw [Int.mul_neg]
 rw [Int.add_mul] at h
 omega
theorem fold5_bound {V:Int} (h0:0≤V) (h1:V<2 ^ 130 * 1000000000):0≤fold5 V∧fold5 V<2 ^ 130+5000000000:=by
 unfold fold5
 have h2:=Int.emod_nonneg V (show (2:Int) ^ 130≠0 by decide)
 have h3:=Int.emod_lt_of_pos V (show (0:Int)<2 ^ 130 by decide)
 have h4:V / 2 ^ 130<1000000000:=Int.ediv_lt_of_lt_mul (by decide) (by omega)
 have h5:=Int.ediv_nonneg h0 (show (0:Int)≤2 ^ 130 by decide)
 omega
theorem fold5_twice {V:Int} (h0:0≤V) (h1:V<2 ^ 130+5000000000):0≤fold5 V∧fold5 V<2 ^ 130:=by
 unfold fold5
 have hp:(10000000000:Int)<2 ^ 130:=by decide
 have h2:=Int.emod_nonneg V (show (2:Int) ^ 130≠0 by decide)
 have h3:=Int.emod_lt_of_pos V (show (0:Int)<2 ^ 130 by decide)
 have h4:=Int.emod_add_mul_ediv V (2 ^ 130)
 generalize (2:Int) ^ 130=p at *
 have h5:0≤V / p:=Int.ediv_nonneg h0 (by omega)
 have h6:V / p<2:=Int.ediv_lt_of_lt_mul (by omega) (by omega)
 rcases (by omega:V / p=0∨V / p=1) with h7 | h7<;> rw [h7] at h4 ⊢<;> omega
def carB (X b:Int) (k:Nat):Int:=(X+b) / 256 ^ k - X / 256 ^ k
theorem carB_zero (X b:Int):carB X b 0=b:=by simp [carB];omega
theorem carB_step (X b:Int) (k:Nat):(dg 256 X k+carB X b k) % 256=dg 256 (X+b) k∧(dg 256 X k+carB X b k) / 256=carB X b (k+1):=by
 unfold carB dg
 rw [div_succ (by decide) X,div_succ (by decide) (X+b)]
 omega
theorem carB_bound {X b:Int} (hb:0≤b):∀k,0≤carB X b k∧carB X b k≤b
 | 0=> by rw [carB_zero];omega
 | k+1=> by
  have h:=carB_bound (X:=X) hb k
  have h2:=(carB_step X b k).2
  have h3:=dg_bound (by decide:(0:Int)<256) X k
  omega
theorem fold_parts (V:Int):(∀i,i<16→dg 256 (V % 256 ^ 16+5 * (V / 256 ^ 16 / 4)) i=pd (fold5 V) i)∧V / 256 ^ 16 % 4+carB (V % 256 ^ 16) (5 * (V / 256 ^ 16 / 4)) 16=pd (fold5 V) 16:=by
 have e1:V / 2 ^ 130=V / 256 ^ 16 / 4:=by rw [p130,Int.ediv_ediv_of_nonneg (by decide)]
 have e2:V % 2 ^ 130=V % 256 ^ 16+V / 256 ^ 16 % 4 * 256 ^ 16:=by
  have h1:=Int.emod_add_mul_ediv V (2 ^ 130)
  have h2:=Int.emod_add_mul_ediv V (256 ^ 16)
  have h3:=Int.emod_add_mul_ediv (V / 256 ^ 16) 4
  rw [e1,p130] at h1
  rw [p130]
  generalize (256:Int) ^ 16=p at *
  generalize V / p=q at *
  have h4:p * q=p * (q % 4)+p * 4 * (q / 4):=by
   conv=> lhs;rw [←h3]
   rw [Int.mul_add,Int.mul_assoc]
  rw [Int.mul_comm (q % 4)]
  omega
 have e3:fold5 V=V % 256 ^ 16+5 * (V / 256 ^ 16 / 4)+V / 256 ^ 16 % 4 * 256 ^ 16:=by unfold fold5;rw [e1,e2];omega
 constructor
 ·intro i hi
  rw [pd_low _ hi,e3,dg_add (by decide) _ _ _ _ hi]
 ·rw [pd_top,e3,Int.add_mul_ediv_right _ _ (by decide)]
  unfold carB
  have h2:=Int.emod_nonneg V (show (256:Int) ^ 16≠0 by decide)
  have h3:=Int.emod_lt_of_pos V (show (0:Int)<256 ^ 16 by decide)
  rw [Int.ediv_eq_zero_of_lt h2 h3]
  omega
def rowP (g:Nat→Int) (j i:Nat):Int:=if j≤i then g (i - j) else 320 * g (i+17 - j)
theorem sm_shift (B:Int) (f:Nat→Int) (x:Int):∀n,sm B (fun i=> if i=0 then x else f (i - 1)) (n+1)=x+B * sm B f n
 | 0=> by simp [sm]
 | n+1=> by
  rw [sm,sm_shift B f x n,sm,if_neg (by omega),Int.pow_succ,show n+1 - 1=n by omega]
  generalize B ^ n=p
  grind
theorem rowP_succ (g:Nat→Int) (j:Nat) (hj:j≤16):∀i,i<17→rowP g (j+1) i=if i=0 then 320 * rowP g j 16 else rowP g j (i - 1):=by
 intro i hi
 unfold rowP
 by_cases e:i=0
 ·subst e
  rw [if_neg (by omega),if_pos rfl,if_pos hj,show 0+17 - (j+1)=16 - j by omega]
 ·rw [if_neg e]
  by_cases h:j+1≤i
  ·rw [if_pos h,if_pos (by omega),show i - (j+1)=i - 1 - j by omega]
  ·rw [if_neg h,if_neg (by omega),show i+17 - (j+1)=i - 1+17 - j by omega]
theorem sm_rowP (g:Nat→Int):∀j,j≤17→sm 256 (rowP g j) 17 % PP=256 ^ j * sm 256 g 17 % PP:=by
 intro j
 induction j with
 | zero=>
  intro _
  rw [Int.pow_zero,Int.one_mul,sm_congr (fun i _=> show rowP g 0 i=g i by unfold rowP;rw [if_pos (Nat.zero_le _),Nat.sub_zero])]
 | succ j ih=>
  intro hj
  have h:=ih (by omega)
  rw [sm_congr (rowP_succ g j (by omega)),sm_shift]
  have e1:sm 256 (rowP g j) 17=sm 256 (rowP g j) 16+rowP g j 16 * 256 ^ 16:=rfl
  have e2:320 * rowP g j 16+256 * sm 256 (rowP g j) 16=256 * sm 256 (rowP g j) 17+PP * (-64 * rowP g j 16):=by
   have h3:(256:Int) * 256 ^ 16=64 * PP+320:=by decide
   rw [e1,Int.mul_add]
   have h4:256 * (rowP g j 16 * 256 ^ 16)=rowP g j 16 * (64 * PP+320):=by rw [←h3];generalize (256:Int) ^ 16=p;grind
   rw [h4]
   generalize PP=p
   grind
  rw [modPP_of e2,Int.mul_emod,h,←Int.mul_emod,Int.pow_succ]
  congr 1
  generalize (256:Int) ^ j=p
  grind
def prodS (f g:Nat→Int) (i:Nat):Nat→Int
 | 0=> 0
 | n+1=> prodS f g i n+f n * rowP g n i
theorem prodS_mod (f g:Nat→Int):∀n,n≤17→sm 256 (fun i=> prodS f g i n) 17 % PP=sm 256 f n * sm 256 g 17 % PP:=by
 intro n
 induction n with
 | zero=> intro _;rw [show sm 256 f 0=0 from rfl,Int.zero_mul,show (fun i=> prodS f g i 0)=fun _=> (0:Int) from rfl,sm_zero' 256 17]
 | succ n ih=>
  intro hn
  have e1:sm 256 (fun i=> prodS f g i (n+1)) 17=1 * sm 256 (fun i=> prodS f g i n) 17+f n * sm 256 (rowP g n) 17:=by
   rw [←sm_lin]
   exact sm_congr fun i _=> by rw [prodS];omega
  rw [e1,Int.one_mul,Int.add_emod,ih (by omega),Int.mul_emod (f n),sm_rowP g n (by omega),←Int.mul_emod,←Int.add_emod,show sm 256 f (n+1)=sm 256 f n+f n * 256 ^ n from rfl]
  congr 1
  generalize (256:Int) ^ n=p
  grind
theorem prodS_bound {f g:Nat→Int} (hf:∀i,i<17→0≤f i∧f i≤600) (hg:∀i,i<17→0≤g i∧g i≤255) (i:Nat) (hi:i<17):∀n,n≤17→0≤prodS f g i n∧prodS f g i n≤n * 48960000:=by
 intro n
 induction n with
 | zero=> intro _;exact ⟨Int.le_refl _,Int.le_refl _⟩
 | succ n ih=>
  intro hn
  have h:=ih (by omega)
  have hfn:=hf n (by omega)
  have hr:0≤rowP g n i∧rowP g n i≤81600:=by
   unfold rowP
   split
   ·have:=hg (i - n) (by omega);omega
   ·have:=hg (i+17 - n) (by omega);omega
  have m0:=Int.mul_nonneg hfn.1 hr.1
  have m1:f n * rowP g n i≤600 * 81600:=Int.mul_le_mul hfn.2 hr.2 hr.1 (by decide)
  rw [prodS]
  push_cast
  omega
end Go.Bas
namespace Go.Bas
def Pr:Int:=2 ^ 255 - 19
theorem Pr_eq:(65536:Int) ^ 16=2 * Pr+38:=by decide
theorem Pr_pos:(0:Int)<Pr:=by decide
theorem Pr16:(0:Int)≤Pr∧Pr<65536 ^ 16:=by decide
def cin (f:Nat→Int):Nat→Int
 | 0=> 0
 | i+1=> (f i+cin f i) / 65536
def crr (f:Nat→Int):Nat→Int:=fun i=> if i=0 then f 0 % 65536+38 * cin f 16 else (f i+cin f i) % 65536
def crs (f:Nat→Int) (k:Nat):Nat→Int:=if k=16 then crr f else fun i=> if i<k then (f i+cin f i) % 65536 else if i=k then f k+cin f k else f i
theorem crs_zero (f:Nat→Int):∀i,i<16→f i=crs f 0 i:=by
 intro i hi
 unfold crs
 rw [if_neg (by decide),if_neg (by omega)]
 by_cases e:i=0
 ·subst e;simp [cin]
 ·rw [if_neg e]
theorem crs_at (f:Nat→Int) {k:Nat} (h:k<16):crs f k k=f k+cin f k:=by
 unfold crs;rw [if_neg (by omega),if_neg (by omega),if_pos rfl]
theorem crs_after (f:Nat→Int) {k:Nat} (h:k<15):crs f k (k+1)=f (k+1):=by
 unfold crs;rw [if_neg (by omega),if_neg (by omega),if_neg (by omega)]
theorem crs_head (f:Nat→Int):crs f 15 0=f 0 % 65536:=by
 unfold crs;rw [if_neg (by decide),if_pos (by decide)];simp [cin]
theorem crs_step (f:Nat→Int) {k:Nat} (h:k<15):∀i,i<16→upd (upd (crs f k) k ((f k+cin f k) % 65536)) (k+1) (f (k+1)+(f k+cin f k) / 65536) i=crs f (k+1) i:=by
 intro i hi
 by_cases e1:i=k+1
 ·subst e1;rw [upd_at,crs_at f (by omega)];rfl
 ·rw [upd_ne _ _ e1]
  by_cases e:i=k
  ·subst e;rw [upd_at];unfold crs;rw [if_neg (by omega),if_pos (by omega)]
  ·rw [upd_ne _ _ e];unfold crs;rw [if_neg (show ¬ k=16 by omega),if_neg (show ¬ k+1=16 by omega)]
   by_cases h1:i<k
   ·rw [if_pos h1,if_pos (by omega)]
   ·rw [if_neg h1,if_neg e,if_neg (by omega),if_neg (by omega)]
theorem crs_last (f:Nat→Int):∀i,i<16→upd (upd (crs f 15) 15 ((f 15+cin f 15) % 65536)) 0 (f 0 % 65536+38 * ((f 15+cin f 15) / 65536)) i=crs f 16 i:=by
 intro i hi
 have e:crs f 16=crr f:=if_pos rfl
 rw [e]
 unfold crr
 by_cases e1:i=0
 ·subst e1;rw [upd_at,if_pos rfl];rfl
 ·rw [upd_ne _ _ e1,if_neg e1]
  by_cases e:i=15
  ·subst e;rw [upd_at]
  ·rw [upd_ne _ _ e];unfold crs;rw [if_neg (by decide),if_pos (by omega)]
theorem crs_full (f:Nat→Int):crs f 16=crr f:=if_pos rfl
theorem cin_bound {f:Nat→Int} {lo hi cl ch:Int} (hf:∀i,i<16→lo≤f i∧f i≤hi) (h0:cl≤0) (h1:0≤ch) (h2:cl≤(lo+cl) / 65536) (h3:(hi+ch) / 65536≤ch):
  ∀i,i≤16→cl≤cin f i∧cin f i≤ch:=by
 intro i
 induction i with
 | zero=> intro _;exact ⟨h0,h1⟩
 | succ i ih=>
  intro hi'
  have a:=ih (by omega)
  have b:=hf i (by omega)
  unfold cin
  omega
theorem sm_cin (f:Nat→Int):∀n,sm 65536 (fun i=> (f i+cin f i) % 65536) n=sm 65536 f n - cin f n * 65536 ^ n
 | 0=> by simp [sm,cin]
 | n+1=> by
  rw [sm,sm,sm_cin f n,Int.pow_succ]
  have e:cin f (n+1)=(f n+cin f n) / 65536:=rfl
  rw [e]
  have h:=Int.emod_add_mul_ediv (f n+cin f n) 65536
  generalize (f n+cin f n) / 65536=q at *
  generalize (f n+cin f n) % 65536=r at *
  generalize (65536:Int) ^ n=p at *
  have h2:(r+65536 * q) * p=(f n+cin f n) * p:=by rw [h]
  grind
theorem sm_crr (f:Nat→Int):sm 65536 (crr f) 16=sm 65536 f 16 - 2 * Pr * cin f 16:=by
 have e:crr f=upd (fun i=> (f i+cin f i) % 65536) 0 (f 0 % 65536+38 * cin f 16):=by
  funext i;unfold crr upd;rfl
 rw [e,sm_upd',if_pos (by decide),sm_cin,Pr_eq]
 simp only [cin,Int.add_zero,Int.pow_zero,Int.mul_one]
 generalize Pr=p
 grind
def Near (f:Nat→Int):Prop:=(∀i,i<16→0<i→0≤f i∧f i≤65535)∧ -100≤f 0∧f 0≤65700
def Fe (f:Nat→Int) (X:Int):Prop:=Near f∧sm 65536 f 16 % Pr=X % Pr
theorem Near.bound {f:Nat→Int} (h:Near f):∀i,i<16→ -100≤f i∧f i≤65700:=by
 intro i hi
 by_cases e:i=0
 ·subst e;exact h.2
 ·have:=h.1 i hi (by omega);omega
theorem near_crr {f:Nat→Int} (c0: -2≤cin f 16) (c1:cin f 16≤3):Near (crr f):=by
 refine ⟨fun i hi h0=> ?_,?_,?_⟩
 ·unfold crr;rw [if_neg (by omega)];omega
 ·unfold crr;rw [if_pos rfl];omega
 ·unfold crr;rw [if_pos rfl];omega
theorem mod_eq_of {a b c:Int} (h:a=b+Pr * c):a % Pr=b % Pr:=by rw [h,Int.add_mul_emod_self_left]
theorem crr_mod (f:Nat→Int):sm 65536 (crr f) 16 % Pr=sm 65536 f 16 % Pr:=
 mod_eq_of (c:= -(2 * cin f 16)) (by rw [sm_crr];generalize Pr=p;grind)
theorem Fe.add {f g:Nat→Int} {X Y:Int} (hf:Fe f X) (hg:Fe g Y):Fe (crr (fun i=> f i+g i)) (X+Y):=by
 have hb:=cin_bound (f:=fun i=> f i+g i) (lo:= -200) (hi:=131400) (cl:= -2) (ch:=3) (fun i hi=> by have:=hf.1.bound i hi;have:=hg.1.bound i hi;omega) (by decide) (by decide) (by decide) (by decide) 16 (Nat.le_refl _)
 refine ⟨near_crr hb.1 hb.2,?_⟩
 rw [crr_mod]
 have e:=sm_lin 65536 f g 1 1 16
 simp only [Int.one_mul] at e
 rw [e,Int.add_emod,hf.2,hg.2,←Int.add_emod]
theorem Fe.sub {f g:Nat→Int} {X Y:Int} (hf:Fe f X) (hg:Fe g Y):Fe (crr (fun i=> f i - g i)) (X - Y):=by
 have hb:=cin_bound (f:=fun i=> f i - g i) (lo:= -65800) (hi:=65800) (cl:= -2) (ch:=2) (fun i hi=> by have:=hf.1.bound i hi;have:=hg.1.bound i hi;omega) (by decide) (by decide) (by decide) (by decide) 16 (Nat.le_refl _)
 refine ⟨near_crr hb.1 (by omega),?_⟩
 rw [crr_mod]
 have e:=sm_lin 65536 f g 1 (-1) 16
 have e2:(fun i=> f i - g i)=fun i=> 1 * f i+ -1 * g i:=by funext i;omega
 rw [e2,e,show (1:Int) * sm 65536 f 16+ -1 * sm 65536 g 16=sm 65536 f 16 - sm 65536 g 16 by omega,Int.sub_emod,hf.2,hg.2,←Int.sub_emod]
theorem sm_dg16 {X:Int} (h:0≤X∧X<65536 ^ 16):sm 65536 (dg 65536 X) 16=X:=by rw [sm_dg (by decide),Int.emod_eq_of_lt h.1 h.2]
theorem Fe.canon {f:Nat→Int} {X:Int} (h:Fe f X):∃Y:Int,0≤Y∧Y<65536 ^ 16∧Y % Pr=X % Pr∧∀i,i<16→crr f i=dg 65536 Y i:=by
 have hd:∀i,i<16→0≤crr f i∧crr f i<65536:=by
  have hc:∀i,i≤16→0<i→(cin f i=0)∨(cin f i= -1∧ -100≤f 0∧f 0<0)∨(cin f i=1∧65536≤f 0∧f 0≤65700):=by
   intro i
   induction i with
   | zero=> intro _ h;omega
   | succ i ih=>
    intro hi _
    unfold cin
    by_cases e:i=0
    ·subst e
     have:=h.1.2
     simp only [cin]
     omega
    ·have a:=ih (by omega) (by omega)
     have b:=h.1.1 i (by omega) (by omega)
     omega
  intro i hi
  unfold crr
  by_cases e:i=0
  ·subst e
   rw [if_pos rfl]
   have:=hc 16 (by decide) (by decide)
   omega
  ·rw [if_neg e];omega
 refine ⟨sm 65536 (crr f) 16,(sm_bound (by decide) hd).1,(sm_bound (by decide) hd).2,?_,fun i hi=> (dg_sm (by decide) hd i hi).symm⟩
 rw [crr_mod,h.2]
theorem cin_dg {f:Nat→Int} (h:∀i,i<16→0≤f i∧f i<65536):∀i,i≤16→cin f i=0:=by
 intro i
 induction i with
 | zero=> intro _;rfl
 | succ i ih=>
  intro hi
  unfold cin
  rw [ih (by omega)]
  have:=h i (by omega)
  omega
theorem crr_dg {f:Nat→Int} (h:∀i,i<16→0≤f i∧f i<65536):∀i,i<16→crr f i=f i:=by
 intro i hi
 unfold crr
 rw [cin_dg h i (by omega),cin_dg h 16 (by omega)]
 have:=h i hi
 split
 ·rename_i e;subst e;omega
 ·omega
theorem Fe.dg {X Y:Int} (h0:0≤Y) (h1:Y<65536 ^ 16) (h:Y % Pr=X % Pr):Fe (dg 65536 Y) X:=by
 refine ⟨⟨fun i _ _=> by have:=dg_bound (by decide:(0:Int)<65536) Y i;omega,by have:=dg_bound (by decide:(0:Int)<65536) Y 0;omega,by have:=dg_bound (by decide:(0:Int)<65536) Y 0;omega⟩,?_⟩
 rw [sm_dg16 ⟨h0,h1⟩,h]
def sub1 (Y:Int):Int:=if Pr≤Y then Y - Pr else Y
theorem sub1_twice {Y:Int} (h0:0≤Y) (h1:Y<65536 ^ 16):sub1 (sub1 Y)=Y % Pr:=by
 rw [Pr_eq] at h1
 unfold sub1
 have hp:(38:Int)<Pr:=by decide
 have key:∀q r:Int,Y=Pr * q+r→0≤r→r<Pr→Y % Pr=r:=by
  intro q r e a b
  rw [e,Int.add_comm,Int.add_mul_emod_self_left,Int.emod_eq_of_lt a b]
 generalize Pr=p at *
 split
 ·split
  ·exact (key 2 _ (by omega) (by omega) (by omega)).symm
  ·exact (key 1 _ (by omega) (by omega) (by omega)).symm
 ·exact (key 0 _ (by omega) (by omega) (by omega)).symm
theorem sub1_bound {Y:Int} (h0:0≤Y) (h1:Y<65536 ^ 16):0≤sub1 Y∧sub1 Y<65536 ^ 16:=by
 have:=Pr_pos
 unfold sub1
 split<;> omega
def FeCols (t x y:Nat→Int) (i j:Nat):Prop:=
 sm 65536 t 31=sm 65536 x i * sm 65536 y 16+x i * 65536 ^ i * sm 65536 y j∧
 ∀k,(k<i+j→ -((i+1) * 4316490000)≤t k∧t k≤(i+1) * 4316490000)∧(i+j≤k→ -(i * 4316490000)≤t k∧t k≤i * 4316490000)
theorem FeCols.zero (x y:Nat→Int):FeCols (fun _=> 0) x y 0 0:=by
 refine ⟨?_,fun k=> ⟨fun h=> by simp,fun h=> by simp⟩⟩
 rw [sm_zero',show sm 65536 x 0=0 from rfl,show sm 65536 y 0=0 from rfl];simp
theorem FeCols.row {t x y:Nat→Int} {i:Nat} (h:FeCols t x y i 16):FeCols t x y (i+1) 0:=by
 refine ⟨?_,fun k=> ⟨fun hk=> ?_,fun hk=> ?_⟩⟩
 ·rw [h.1,show sm 65536 x (i+1)=sm 65536 x i+x i * 65536 ^ i from rfl,show sm 65536 y 0=0 from rfl,Int.add_mul,Int.mul_zero,Int.add_zero]
 ·have:=(h.2 k).1 (by omega);push_cast;omega
 ·rcases Nat.lt_or_ge k (i+16) with h' | h'
  ·have:=(h.2 k).1 h';push_cast;omega
  ·have:=(h.2 k).2 h';push_cast;omega
theorem near_mul {a b:Int} (h0: -100≤a) (h1:a≤65700) (h2: -100≤b) (h3:b≤65700): -4316490000≤a * b∧a * b≤4316490000:=by
 have e:a * b=(a+100) * (b+100) - 100 * a - 100 * b - 10000:=by grind
 have m0:0≤(a+100) * (b+100):=Int.mul_nonneg (by omega) (by omega)
 by_cases ha:0≤a
 ·by_cases hb:0≤b
  ·have:=Int.mul_nonneg ha hb
   have:=Int.mul_le_mul h1 h3 hb (by decide:(0:Int)≤65700)
   omega
  ·have h4:0≤a * (-b):=Int.mul_nonneg ha (by omega)
   have h5:a * (-b)≤65700 * 100:=Int.mul_le_mul h1 (by omega) (by omega) (by decide)
   rw [Int.mul_neg] at h4 h5
   omega
 ·by_cases hb:0≤b
  ·have h4:0≤(-a) * b:=Int.mul_nonneg (by omega) hb
   have h5:(-a) * b≤100 * 65700:=Int.mul_le_mul (by omega) h3 hb (by decide)
   rw [Int.neg_mul] at h4 h5
   omega
  ·have h4:0≤(-a) * (-b):=Int.mul_nonneg (by omega) (by omega)
   have h5:(-a) * (-b)≤100 * 100:=Int.mul_le_mul (by omega) (by omega) (by omega) (by decide)
   rw [Int.neg_mul_neg] at h4 h5
   omega
theorem FeCols.bound {t x y:Nat→Int} {i j:Nat} (h:FeCols t x y i j) (hi:i≤16) (k:Nat): -73380330000≤t k∧t k≤73380330000:=by
 rcases Nat.lt_or_ge k (i+j) with h' | h'
 ·have:=(h.2 k).1 h';omega
 ·have:=(h.2 k).2 h';omega
theorem FeCols.step {t x y:Nat→Int} {i j:Nat} (h:FeCols t x y i j) (hi:i<16) (hj:j<16) (hx:Near x) (hy:Near y):FeCols (upd t (i+j) (t (i+j)+x i * y j)) x y i (j+1):=by
 have bx:=hx.bound i hi
 have by':=hy.bound j hj
 have hm:=near_mul bx.1 bx.2 by'.1 by'.2
 refine ⟨?_,fun k=> ?_⟩
 ·rw [sm_upd',if_pos (by omega),h.1,show sm 65536 y (j+1)=sm 65536 y j+y j * 65536 ^ j from rfl,show t (i+j)+x i * y j - t (i+j)=x i * y j by omega,Int.pow_add]
  generalize (65536:Int) ^ i=p
  generalize (65536:Int) ^ j=q
  grind
 ·by_cases e:k=i+j
  ·subst e
   have h2:=(h.2 (i+j)).2 (Nat.le_refl _)
   rw [upd_at]
   exact ⟨fun _=> by omega,fun hk=> by omega⟩
  ·rw [upd_ne _ _ e]
   exact ⟨fun hk=> (h.2 k).1 (by omega),fun hk=> (h.2 k).2 (by omega)⟩
theorem Fe.mul {t f g:Nat→Int} {X Y:Int} (h:FeCols t f g 16 0) (hf:Fe f X) (hg:Fe g Y):Fe (crr (crr (fun i=> if i<15 then t i+38 * t (16+i) else t i))) (X * Y):=by
 have ho:∀i,i<16→ -3000000000000≤(if i<15 then t i+38 * t (16+i) else t i)∧(if i<15 then t i+38 * t (16+i) else t i)≤3000000000000:=by
  intro i hi
  have a:=h.bound (Nat.le_refl _) i
  have b:=h.bound (Nat.le_refl _) (16+i)
  split<;> omega
 have c1:=cin_bound ho (cl:= -46000000) (ch:=46000000) (by decide) (by decide) (by decide) (by decide)
 generalize ho':(fun i=> if i<15 then t i+38 * t (16+i) else t i)=o at *
 have hco:∀i,i<16→ -1750000000≤crr o i∧crr o i≤1750000000:=by
  intro i hi
  have:=c1 16 (Nat.le_refl _)
  unfold crr
  split<;> omega
 have hnn:∀i,i<16→0<i→0≤crr o i∧crr o i≤65535:=by
  intro i hi h0
  unfold crr
  rw [if_neg (by omega)]
  omega
 have c2:∀i,1<i→i≤16→ -1≤cin (crr o) i∧cin (crr o) i≤1:=by
  intro i
  induction i with
  | zero=> intro h;omega
  | succ i ih=>
   intro h1 h2
   have e:cin (crr o) (i+1)=(crr o i+cin (crr o) i) / 65536:=rfl
   rw [e]
   have a:=hnn i (by omega) (by omega)
   by_cases e1:i=1
   ·subst e1
    have e2:cin (crr o) 1=(crr o 0+0) / 65536:=rfl
    have b:=hco 0 (by decide)
    omega
   ·have b:=ih (by omega) (by omega)
    omega
 have c3:=c2 16 (by decide) (by decide)
 refine ⟨near_crr (by omega) (by omega),?_⟩
 rw [crr_mod,crr_mod,←ho']
 have e1:sm 65536 (fun i=> if i<15 then t i+38 * t (16+i) else t i) 16=sm 65536 t 16+38 * sm 65536 (fun i=> t (16+i)) 15:=by
  have e2:sm 65536 (fun i=> if i<15 then t i+38 * t (16+i) else t i) 15=sm 65536 (fun i=> 1 * t i+38 * t (16+i)) 15:=sm_congr fun i hi=> by rw [if_pos hi];omega
  rw [sm,e2,sm_lin,show sm 65536 t 16=sm 65536 t 15+t 15 * 65536 ^ 15 from rfl,if_neg (by decide)]
  omega
 have e3:=sm_split 65536 t 16 15
 have e4:=h.1
 rw [show (16:Nat)+15=31 from rfl] at e3
 rw [e4,show sm 65536 g 0=0 from rfl,Int.mul_zero,Int.add_zero,Pr_eq] at e3
 rw [e1]
 have e5:sm 65536 t 16+38 * sm 65536 (fun i=> t (16+i)) 15=sm 65536 f 16 * sm 65536 g 16+Pr * (-2 * sm 65536 (fun i=> t (16+i)) 15):=by
  generalize Pr=p at *
  generalize sm 65536 (fun i=> t (16+i)) 15=s at *
  generalize sm 65536 t 16=u at *
  rw [e3]
  grind
 rw [mod_eq_of e5,Int.mul_emod,hf.2,hg.2,←Int.mul_emod]
theorem top_bit (X:Int):∀i,i<16→upd (dg 65536 X) 15 (dg 65536 X 15 % 32768) i=dg 65536 (X % 2 ^ 255) i:=by
 intro i hi
 have hM:(2:Int) ^ 255=65536 ^ 15 * 32768:=by decide
 rw [hM]
 have h1:=Int.emod_add_mul_ediv X (65536 ^ 15 * 32768)
 by_cases e:i=15
 ·subst e
  rw [upd_at]
  unfold dg
  have h2:(X % (65536 ^ 15 * 32768)) / 65536 ^ 15=X / 65536 ^ 15 % 32768:=by
   have hp:(0:Int)<65536 ^ 15:=by decide
   generalize (65536:Int) ^ 15=p at *
   have h3:=Int.emod_add_mul_ediv X p
   have h4:=Int.emod_add_mul_ediv (X / p) 32768
   have h5:=Int.emod_nonneg X (show p≠0 by omega)
   have h6:=Int.emod_lt_of_pos X hp
   have h7:X / (p * 32768)=X / p / 32768:=(Int.ediv_ediv_of_nonneg (by omega)).symm
   rw [h7] at h1
   have h8:X % (p * 32768)=X % p+X / p % 32768 * p:=by
    have:p * (X / p)=p * (X / p % 32768)+p * 32768 * (X / p / 32768):=by
     conv=> lhs;rw [←h4]
     rw [Int.mul_add,Int.mul_assoc]
    rw [Int.mul_comm (X / p % 32768)]
    omega
   rw [h8,Int.add_mul_ediv_right _ _ (by omega),Int.ediv_eq_zero_of_lt h5 h6,Int.zero_add]
  rw [h2]
  omega
 ·rw [upd_ne _ _ e]
  conv=> lhs;rw [←h1]
  rw [show (65536:Int) ^ 15 * 32768 * (X / (65536 ^ 15 * 32768))=32768 * (X / (65536 ^ 15 * 32768)) * 65536 ^ 15 by
   generalize X / (65536 ^ 15 * 32768)=q
   rw [Int.mul_assoc,Int.mul_comm],dg_add (by decide) _ _ _ _ (by omega)]
theorem mod255 (X:Int):0≤X % 2 ^ 255∧X % 2 ^ 255<65536 ^ 16:=by
 have h:=Int.emod_lt_of_pos X (show (0:Int)<2 ^ 255 by decide)
 exact ⟨Int.emod_nonneg _ (by decide),Int.lt_trans h (by decide)⟩
def addF (f g:Nat→Int):Nat→Int:=crr (fun i=> f i+g i)
def subF (f g:Nat→Int):Nat→Int:=crr (fun i=> f i - g i)
def rowF (f g:Nat→Int) (t:Nat→Int) (i:Nat):Nat→Nat→Int
 | 0=> t
 | j+1=> upd (rowF f g t i j) (i+j) (rowF f g t i j (i+j)+f i * g j)
def colF (f g:Nat→Int):Nat→Nat→Int
 | 0=> fun _=> 0
 | i+1=> rowF f g (colF f g i) i 16
def mulF (f g:Nat→Int):Nat→Int:=crr (crr (fun i=> if i<15 then colF f g 16 i+38 * colF f g 16 (16+i) else colF f g 16 i))
def smallN (n:Int):Int:=if 0≤n∧n<65536 then n else 0
def smallF (n:Int):Nat→Int:=if 0≤n∧n<65536 then upd (fun _=> 0) 0 n else fun _=> 0
theorem Fe.addF {f g:Nat→Int} {X Y:Int} (hf:Fe f X) (hg:Fe g Y):Fe (addF f g) (X+Y):=hf.add hg
theorem Fe.subF {f g:Nat→Int} {X Y:Int} (hf:Fe f X) (hg:Fe g Y):Fe (subF f g) (X - Y):=hf.sub hg
theorem fe_zero:Fe (fun _=> 0) 0:=⟨⟨fun _ _ _=> by simp,by decide,by decide⟩,by rw [sm_zero']⟩
theorem rowF_cols {f g:Nat→Int} (hf:Near f) (hg:Near g) {t:Nat→Int} {i:Nat} (hi:i<16) (h:FeCols t f g i 0):∀j,j≤16→FeCols (rowF f g t i j) f g i j:=by
 intro j
 induction j with
 | zero=> intro _;exact h
 | succ j ih=> intro hj;exact (ih (by omega)).step hi (by omega) hf hg
theorem colF_cols {f g:Nat→Int} (hf:Near f) (hg:Near g):∀i,i≤16→FeCols (colF f g i) f g i 0:=by
 intro i
 induction i with
 | zero=> intro _;exact FeCols.zero f g
 | succ i ih=> intro hi;exact (rowF_cols hf hg (by omega) (ih (by omega)) 16 (Nat.le_refl _)).row
theorem Fe.mulF {f g:Nat→Int} {X Y:Int} (hf:Fe f X) (hg:Fe g Y):Fe (mulF f g) (X * Y):=Fe.mul (colF_cols hf.1 hg.1 16 (Nat.le_refl _)) hf hg
theorem fe_small {n:Int} (h0:0≤n) (h1:n<65536):Fe (upd (fun _=> 0) 0 n) n:=by
 refine ⟨⟨fun i _ h=> by rw [upd_ne _ _ (by omega)];simp,by rw [upd_at];omega,by rw [upd_at];omega⟩,?_⟩
 rw [sm_upd',sm_zero']
 simp
theorem fe_smallF (n:Int):Fe (smallF n) (smallN n):=by
 unfold smallF smallN
 by_cases h:0≤n∧n<65536
 ·rw [if_pos h,if_pos h];exact fe_small h.1 h.2
 ·rw [if_neg h,if_neg h];exact fe_zero
theorem num_digits {l:Int} (h0:1≤l) (h1:l≤255):∀i,i<32→upd (upd (fun _=> 255) 0 (256 - l)) 31 127 i=dg 256 (2 ^ 255 - l) i:=by
 have hb:∀i,i<32→0≤upd (upd (fun _=> 255) 0 (256 - l)) 31 127 i∧upd (upd (fun _=> 255) 0 (256 - l)) 31 127 i<256:=by
  intro i _
  unfold upd
  split
  ·omega
  ·split
   ·omega
   ·show (0:Int)≤255∧(255:Int)<256;decide
 have hs:sm 256 (upd (upd (fun _=> 255) 0 (256 - l)) 31 127) 32=2 ^ 255 - l:=by
  rw [sm_upd',sm_upd',if_pos (by decide),if_pos (by decide),upd_ne _ _ (by decide)]
  rw [show sm 256 (fun _=> 255) 32=2 ^ 256 - 1 by decide]
  rw [show (256:Int) ^ 31=2 ^ 248 by decide]
  omega
 intro i hi
 rw [←hs,dg_sm (by decide) hb i hi]
theorem half_digit (X:Int) (i:Nat):dg 256 (X / 2) i=dg 256 X i / 2+dg 256 X (i+1) % 2 * 128:=by
 unfold dg
 rw [div_succ (by decide) X i,Int.ediv_ediv_of_nonneg (by decide),Int.mul_comm 2,←Int.ediv_ediv_of_nonneg (Int.le_of_lt (pow_pos' (by decide) _))]
 omega
def pwF (f:Nat→Int) (N:Int):Nat→Nat→Int
 | 0=> smallF 1
 | k+1=> if N / 2 ^ (255 - k) % 2=1 then mulF (mulF (pwF f N k) (pwF f N k)) f else mulF (pwF f N k) (pwF f N k)
theorem pow_even (X:Int) {a m:Nat} (h:a=2 * m):X ^ a=X ^ m * X ^ m:=by rw [h,←Int.pow_add];congr 1;omega
theorem Fe.pwF {f:Nat→Int} {X N:Int} (hf:Fe f X) (h0:0≤N) (h1:N<2 ^ 256):∀k,k≤256→Fe (pwF f N k) (X ^ (N / 2 ^ (256 - k)).toNat):=by
 intro k
 induction k with
 | zero=>
  intro _
  rw [Nat.sub_zero,Int.ediv_eq_zero_of_lt h0 h1,show (0:Int).toNat=0 from rfl,Int.pow_zero]
  have h:=fe_smallF 1
  rwa [show smallN 1=1 by decide] at h
 | succ k ih=>
  intro hk
  have h:=ih (by omega)
  have hh:=half N (255 - k)
  rw [show 255 - k+1=256 - k by omega] at hh
  have hm:0≤N / 2 ^ (256 - k):=Int.ediv_nonneg h0 (Int.le_of_lt (pow_pos' (by decide) _))
  rw [show 256 - (k+1)=255 - k by omega]
  unfold Go.Bas.pwF
  by_cases e:N / 2 ^ (255 - k) % 2=1
  ·rw [if_pos e]
   rw [e] at hh
   rw [show (N / 2 ^ (255 - k)).toNat=2 * (N / 2 ^ (256 - k)).toNat+1 by omega,Int.pow_succ,pow_even X rfl]
   exact (h.mulF h).mulF hf
  ·rw [if_neg e]
   rw [pow_even X (show (N / 2 ^ (255 - k)).toNat=2 * (N / 2 ^ (256 - k)).toNat by omega)]
   exact h.mulF h
def powF (f:Nat→Int) (N:Int):Nat→Int:=Go.Bas.pwF f N 256
theorem Fe.powF {f:Nat→Int} {X N:Int} (hf:Fe f X) (h0:0≤N) (h1:N<2 ^ 256):Fe (powF f N) (X ^ N.toNat):=by
 have h:=hf.pwF h0 h1 256 (Nat.le_refl _)
 rwa [Nat.sub_self,Int.pow_zero,Int.ediv_one] at h
end Go.Bas
namespace Go.Bas
theorem Pr_PN:Pr=(PN:Int):=by decide
theorem int_pow_mod (X:Int) (n:Nat):X ^ n % Pr=(X % Pr) ^ n % Pr:=by
 induction n with
 | zero=> rw [Int.pow_zero,Int.pow_zero]
 | succ n ih=> rw [Int.pow_succ,Int.pow_succ,Int.mul_emod,ih,Int.mul_emod ((X % Pr) ^ n),Int.emod_emod_of_dvd _ (Int.dvd_refl Pr)]
theorem int_pow_nat (x n:Nat):((x:Int) ^ n) % Pr=((x ^ n % PN:Nat):Int):=by rw [Pr_PN,Int.natCast_emod,Int.natCast_pow]
theorem rest_nat (X:Int):∃x:Nat,X % Pr=(x:Int)∧x<PN∧(X % Pr≠0→¬ PN ∣ x):=by
 have h0:0≤X % Pr:=Int.emod_nonneg _ (by decide)
 have h1:X % Pr<Pr:=Int.emod_lt_of_pos _ (by decide)
 refine ⟨(X % Pr).toNat,by omega,by rw [Pr_PN] at *;omega,fun hne hd=> ?_⟩
 have hlt:(X % Pr).toNat<PN:=by rw [Pr_PN] at *;omega
 have:=Nat.eq_zero_of_dvd_of_lt hd hlt
 omega
theorem fermat_Pr {X:Int} (h:X % Pr≠0):X ^ (PN - 1) % Pr=1:=by
 obtain ⟨x,hx,hlt,hd⟩:=rest_nat X
 rw [int_pow_mod,hx,int_pow_nat,prime_PN.fermat1 (hd h)]
 rfl
theorem mul_zero_Pr {X Y:Int} (h:X * Y % Pr=0):X % Pr=0∨Y % Pr=0:=by
 obtain ⟨x,hx,hlt,hd⟩:=rest_nat X
 obtain ⟨y,hy,hlt2,hd2⟩:=rest_nat Y
 have h1:PN ∣ x * y:=by
  rw [Int.mul_emod,hx,hy,Pr_PN,←Int.natCast_mul,←Int.natCast_emod] at h
  exact Nat.dvd_of_mod_eq_zero (by omega)
 rcases prime_PN.dvd_mul h1 with h2 | h2
 ·left
  by_cases e:X % Pr=0
  ·exact e
  ·exact absurd h2 (hd e)
 ·right
  by_cases e:Y % Pr=0
  ·exact e
  ·exact absurd h2 (hd2 e)
theorem sub_zero_Pr {A B:Int} (h:(A - B) % Pr=0):A % Pr=B % Pr:=by
 have h1:=Int.emod_add_mul_ediv (A - B) Pr
 rw [h] at h1
 exact mod_eq_of (c:=(A - B) / Pr) (by omega)
theorem zero_of_eq {A B:Int} (h:A % Pr=B % Pr):(A - B) % Pr=0:=by
 rw [Int.sub_emod,h,Int.sub_self];rfl
theorem inv_Pr {X:Int} (h:X % Pr≠0):X ^ (PN - 2) * X % Pr=1:=by
 rw [←Int.pow_succ,show (PN - 2).succ=PN - 1 by decide];exact fermat_Pr h
theorem inv_zero {X:Int} (h:X % Pr=0):X ^ (PN - 2) % Pr=0:=by
 rw [int_pow_mod,h,Int.zero_pow (by decide)];rfl
theorem two_half:(2:Int) ^ ((PN - 1) / 2) % Pr=Pr - 1:=by
 have h:=int_pow_nat 2 ((PN - 1) / 2)
 have h2:2 ^ ((PN - 1) / 2) % PN=PN - 1:=by
  have h3:=powmod_eq PN 256 2 ((PN - 1) / 2) 1 (by decide)
  rw [Nat.one_mul] at h3
  rw [←h3]
  decide+kernel
 rw [h2] at h
 rw [show ((2:Nat):Int)=2 from rfl] at h
 rw [h,Pr_PN]
 decide
def sqN (X:Int):Int:=X ^ ((PN - 1) / 2)
def rtN (X:Int):Int:=X ^ ((PN+3) / 8)
def im1:Int:=2 ^ ((PN - 1) / 4)
def isSq (X:Int):Bool:=decide (X % Pr=0) || decide (sqN X % Pr=1)
theorem pow_mul_two (X:Int) (a b:Nat) (h:b=a+a):X ^ b=X ^ a * X ^ a:=by rw [h,Int.pow_add]
theorem im1_sq:im1 * im1 % Pr=Pr - 1:=by
 have h:=two_half
 rw [pow_mul_two 2 ((PN - 1) / 4) ((PN - 1) / 2) (by decide)] at h
 exact h
theorem mul_cancel {A B C:Int} (h:A % Pr=B % Pr):A * C % Pr=B * C % Pr:=by rw [Int.mul_emod,h,←Int.mul_emod]
theorem mul_cancel' {A B C:Int} (h:A % Pr=B % Pr):C * A % Pr=C * B % Pr:=by rw [Int.mul_emod,h,←Int.mul_emod]
theorem rt_four (X:Int):rtN X * rtN X * (rtN X * rtN X)=X * X * sqN X:=by
 have e1:rtN X * rtN X=X ^ ((PN+3) / 8+(PN+3) / 8):=by unfold rtN;rw [Int.pow_add]
 have e2:X * X * sqN X=X ^ (2+(PN - 1) / 2):=by
  unfold sqN
  rw [Int.pow_add,Int.pow_succ,Int.pow_succ,Int.pow_zero,Int.one_mul]
 rw [e1,e2,←Int.pow_add]
 congr 1
theorem rt_cases {X:Int} (h:isSq X=true):rtN X * rtN X % Pr=X % Pr∨rtN X * im1 * (rtN X * im1) % Pr=X % Pr:=by
 unfold isSq at h
 rw [Bool.or_eq_true,decide_eq_true_eq,decide_eq_true_eq] at h
 rcases h with h | h
 ·left
  have h1:rtN X % Pr=0:=by unfold rtN;rw [int_pow_mod,h,Int.zero_pow (by decide)];rfl
  rw [Int.mul_emod,h1,h];rfl
 ·have h4:=rt_four X
  generalize rtN X=R at *
  have h5:(R * R * (R * R)) % Pr=(X * X) % Pr:=by
   rw [h4,Int.mul_emod,h,Int.mul_one,Int.emod_emod_of_dvd _ (Int.dvd_refl Pr)]
  have h6:((R * R - X) * (R * R+X)) % Pr=0:=by
   rw [show (R * R - X) * (R * R+X)=R * R * (R * R) - X * X by grind]
   exact zero_of_eq h5
  rcases mul_zero_Pr h6 with h7 | h7
  ·exact .inl (sub_zero_Pr h7)
  ·right
   have h8:(R * R) % Pr=(-X) % Pr:=sub_zero_Pr (by rw [show R * R - -X=R * R+X by omega];exact h7)
   have h9:im1 * im1 % Pr=(-1) % Pr:=im1_sq.trans (by decide)
   rw [show R * im1 * (R * im1)=R * R * (im1 * im1) by grind,mul_cancel h8,mul_cancel' h9,show -X * -1=X by omega]
theorem rt_none {X:Int} (h:isSq X=false) (R:Int):¬ R * R % Pr=X % Pr:=by
 intro hR
 unfold isSq at h
 rw [Bool.or_eq_false_iff,decide_eq_false_iff_not,decide_eq_false_iff_not] at h
 have hR0:R % Pr≠0:=by
  intro h0
  apply h.1
  rw [←hR,Int.mul_emod,h0];rfl
 apply h.2
 unfold sqN
 rw [int_pow_mod,←hR,←int_pow_mod]
 have e:(R * R) ^ ((PN - 1) / 2)=R ^ (PN - 1):=by
  rw [show R * R=R ^ 2 by rw [Int.pow_succ,Int.pow_succ,Int.pow_zero,Int.one_mul],←Int.pow_mul]
  congr 1
 rw [e]
 exact fermat_Pr hR0
theorem sq_isSq {X R:Int} (h:R * R % Pr=X % Pr):isSq X=true:=by
 cases hs:isSq X with
 | true=> rfl
 | false=> exact absurd h (rt_none hs R)
theorem two_roots {R X:Int} (h:R * R % Pr=X * X % Pr):R % Pr=X % Pr∨R % Pr= -X % Pr:=by
 have h6:((R - X) * (R+X)) % Pr=0:=by
  rw [show (R - X) * (R+X)=R * R - X * X by grind]
  exact zero_of_eq h
 rcases mul_zero_Pr h6 with h7 | h7
 ·exact .inl (sub_zero_Pr h7)
 ·exact .inr (sub_zero_Pr (by rw [show R - -X=R+X by omega];exact h7))
end Go.Bas
namespace Go.Bas
def dX (x z:Int):Int:=(x+z) * (x+z) * ((x - z) * (x - z))
def dZ (x z:Int):Int:=((x+z) * (x+z) - (x - z) * (x - z)) * ((x+z) * (x+z)+121665 * ((x+z) * (x+z) - (x - z) * (x - z)))
def sX (a b c d:Int):Int:=((c - d) * (a+b)+(c+d) * (a - b)) * ((c - d) * (a+b)+(c+d) * (a - b))
def sZ (u a b c d:Int):Int:=u * (((c - d) * (a+b) - (c+d) * (a - b)) * ((c - d) * (a+b) - (c+d) * (a - b)))
theorem sX_swap (a b c d:Int):sX c d a b=sX a b c d:=by unfold sX;grind
theorem sZ_swap (u a b c d:Int):sZ u c d a b=sZ u a b c d:=by unfold sZ;grind
structure Two where
 a:Int
 b:Int
 c:Int
 d:Int
def Two.turn (s:Two):Two:=⟨s.c,s.d,s.a,s.b⟩
def Two.rung (u:Int) (bit:Int) (s:Two):Two:=
 if bit=1 then ⟨sX s.a s.b s.c s.d,sZ u s.a s.b s.c s.d,dX s.c s.d,dZ s.c s.d⟩ else ⟨dX s.a s.b,dZ s.a s.b,sX s.a s.b s.c s.d,sZ u s.a s.b s.c s.d⟩
def lad (n u:Int):Nat→Two
 | 0=> ⟨1,0,u,1⟩
 | k+1=> (lad n u k).rung u (n / 2 ^ (254 - k) % 2)
def Two.flip (q:Bool) (s:Two):Two:=if q then s.turn else s
theorem Two.rung_flip (u:Int) (b:Int) (hb:b=0∨b=1) (s:Two):⟨dX (s.flip (b==1)).a (s.flip (b==1)).b,dZ (s.flip (b==1)).a (s.flip (b==1)).b,sX (s.flip (b==1)).a (s.flip (b==1)).b (s.flip (b==1)).c (s.flip (b==1)).d,sZ u (s.flip (b==1)).a (s.flip (b==1)).b (s.flip (b==1)).c (s.flip (b==1)).d⟩=((s.rung u b).flip (b==1)):=by
 rcases hb with rfl | rfl
 ·rfl
 ·show (⟨dX s.c s.d,dZ s.c s.d,sX s.c s.d s.a s.b,sZ u s.c s.d s.a s.b⟩:Two)=⟨dX s.c s.d,dZ s.c s.d,sX s.a s.b s.c s.d,sZ u s.a s.b s.c s.d⟩
  rw [sX_swap,sZ_swap]
def ladN (n u:Int):Int:=(lad n u 255).a * (lad n u 255).b ^ (PN - 2)
def clampN (s:Int):Int:=s % 2 ^ 254 / 8 * 8+2 ^ 254
end Go.Bas
namespace Go.Bas
def Cg (X Y:Int):Prop:=X % Pr=Y % Pr
theorem Cg.refl (X:Int):Cg X X:=rfl
theorem Cg.symm {X Y:Int} (h:Cg X Y):Cg Y X:=Eq.symm h
theorem Cg.trans {X Y Z:Int} (h:Cg X Y) (h':Cg Y Z):Cg X Z:=Eq.trans h h'
theorem Cg.add {X Y X' Y':Int} (h:Cg X Y) (h':Cg X' Y'):Cg (X+X') (Y+Y'):=by
 unfold Cg at *;rw [Int.add_emod,h,h',←Int.add_emod]
theorem Cg.sub {X Y X' Y':Int} (h:Cg X Y) (h':Cg X' Y'):Cg (X - X') (Y - Y'):=by
 unfold Cg at *;rw [Int.sub_emod,h,h',←Int.sub_emod]
theorem Cg.mul {X Y X' Y':Int} (h:Cg X Y) (h':Cg X' Y'):Cg (X * X') (Y * Y'):=by
 unfold Cg at *;rw [Int.mul_emod,h,h',←Int.mul_emod]
theorem Cg.pow {X Y:Int} (h:Cg X Y):∀n:Nat,Cg (X ^ n) (Y ^ n)
 | 0=> by rw [Int.pow_zero,Int.pow_zero];exact Cg.refl 1
 | n+1=> by rw [Int.pow_succ,Int.pow_succ];exact (Cg.pow h n).mul h
theorem Cg.mod (X:Int):Cg (X % Pr) X:=Int.emod_emod_of_dvd _ (Int.dvd_refl Pr)
theorem Cg.dX {x z x' z':Int} (h:Cg x x') (h':Cg z z'):Cg (dX x z) (dX x' z'):=((h.add h').mul (h.add h')).mul ((h.sub h').mul (h.sub h'))
theorem Cg.dZ {x z x' z':Int} (h:Cg x x') (h':Cg z z'):Cg (dZ x z) (dZ x' z'):=
 have e:=((h.add h').mul (h.add h')).sub ((h.sub h').mul (h.sub h'))
 e.mul (((h.add h').mul (h.add h')).add ((Cg.refl 121665).mul e))
theorem Cg.sX {a b c d a' b' c' d':Int} (ha:Cg a a') (hb:Cg b b') (hc:Cg c c') (hd:Cg d d'):Cg (sX a b c d) (sX a' b' c' d'):=
 have e:=((hc.sub hd).mul (ha.add hb)).add ((hc.add hd).mul (ha.sub hb))
 e.mul e
theorem Cg.sZ {u u' a b c d a' b' c' d':Int} (hu:Cg u u') (ha:Cg a a') (hb:Cg b b') (hc:Cg c c') (hd:Cg d d'):Cg (sZ u a b c d) (sZ u' a' b' c' d'):=
 have e:=((hc.sub hd).mul (ha.add hb)).sub ((hc.add hd).mul (ha.sub hb))
 hu.mul (e.mul e)
def Two.Cg (s t:Two):Prop:=Bas.Cg s.a t.a∧Bas.Cg s.b t.b∧Bas.Cg s.c t.c∧Bas.Cg s.d t.d
theorem Two.Cg.rung {u u':Int} {s t:Two} (hu:Bas.Cg u u') (h:s.Cg t) (b:Int):(s.rung u b).Cg (t.rung u' b):=by
 obtain ⟨ha,hb,hc,hd⟩:=h
 unfold Two.rung
 split
 ·exact ⟨ha.sX hb hc hd,hu.sZ ha hb hc hd,hc.dX hd,hc.dZ hd⟩
 ·exact ⟨ha.dX hb,ha.dZ hb,ha.sX hb hc hd,hu.sZ ha hb hc hd⟩
theorem lad_cg {n u u':Int} (hu:Cg u u'):∀k,(lad n u k).Cg (lad n u' k)
 | 0=> ⟨rfl,rfl,hu,rfl⟩
 | k+1=> (lad_cg hu k).rung hu _
def nA (x y:Nat):Nat:=(x+y) % PN
def nS (x y:Nat):Nat:=(x+(PN - y)) % PN
def nM (x y:Nat):Nat:=x * y % PN
def Stands (n:Nat) (X:Int):Prop:=n<PN∧Cg (n:Int) X
theorem PN_pos:0<PN:=by decide
theorem cast_mod (n:Nat):Cg ((n % PN:Nat):Int) (n:Int):=by rw [Int.natCast_emod,←Pr_PN];exact Cg.mod _
theorem Stands.add {m n:Nat} {X Y:Int} (h:Stands m X) (h':Stands n Y):Stands (nA m n) (X+Y):=
 ⟨Nat.mod_lt _ PN_pos,(cast_mod _).trans (by rw [Int.natCast_add];exact h.2.add h'.2)⟩
theorem Stands.mul {m n:Nat} {X Y:Int} (h:Stands m X) (h':Stands n Y):Stands (nM m n) (X * Y):=
 ⟨Nat.mod_lt _ PN_pos,(cast_mod _).trans (by rw [Int.natCast_mul];exact h.2.mul h'.2)⟩
theorem Stands.sub {m n:Nat} {X Y:Int} (h:Stands m X) (h':Stands n Y):Stands (nS m n) (X - Y):=by
 refine ⟨Nat.mod_lt _ PN_pos,(cast_mod _).trans (Cg.trans (Y:=(m:Int) - (n:Int)) ?_ (h.2.sub h'.2))⟩
 have e:((m+(PN - n):Nat):Int)=(m:Int) - (n:Int)+Pr * 1:=by rw [Pr_PN];have:=h'.1;omega
 unfold Cg
 rw [e,Int.add_mul_emod_self_left]
def nD (x z:Nat):Nat × Nat:=
 let aa:=nM (nA x z) (nA x z)
 let bb:=nM (nS x z) (nS x z)
 let e:=nS aa bb
 (nM aa bb,nM e (nA aa (nM 121665 e)))
def nSum (u a b c d:Nat):Nat × Nat:=
 let p:=nM (nS c d) (nA a b)
 let q:=nM (nA c d) (nS a b)
 let s:=nA p q
 let t:=nS p q
 (nM s s,nM u (nM t t))
def ladE (n u:Nat):Nat→Nat→Nat→Nat→Nat→Nat × Nat
 | 0,a,b,_,_=> (a,b)
 | k+1,a,b,c,d=> if n / 2 ^ k % 2=1 then ladE n u k (nSum u a b c d).1 (nSum u a b c d).2 (nD c d).1 (nD c d).2 else ladE n u k (nD a b).1 (nD a b).2 (nSum u a b c d).1 (nSum u a b c d).2
theorem Stands.nD {x z:Nat} {X Z:Int} (h:Stands x X) (h':Stands z Z):Stands (nD x z).1 (Bas.dX X Z)∧Stands (Bas.nD x z).2 (Bas.dZ X Z):=
 have hf:Stands 121665 121665:=⟨by decide,rfl⟩
 have e:=((h.add h').mul (h.add h')).sub ((h.sub h').mul (h.sub h'))
 ⟨((h.add h').mul (h.add h')).mul ((h.sub h').mul (h.sub h')),e.mul (((h.add h').mul (h.add h')).add (hf.mul e))⟩
theorem Stands.nSum {u a b c d:Nat} {U A B C D:Int} (hu:Stands u U) (ha:Stands a A) (hb:Stands b B) (hc:Stands c C) (hd:Stands d D):Stands (nSum u a b c d).1 (Bas.sX A B C D)∧Stands (Bas.nSum u a b c d).2 (Bas.sZ U A B C D):=
 have s:=((hc.sub hd).mul (ha.add hb)).add ((hc.add hd).mul (ha.sub hb))
 have t:=((hc.sub hd).mul (ha.add hb)).sub ((hc.add hd).mul (ha.sub hb))
 ⟨s.mul s,hu.mul (t.mul t)⟩
theorem ladE_stands {n u:Nat} {U:Int} (hu:Stands u U):∀(k a b c d:Nat),k≤255→Stands a (lad n U (255 - k)).a→Stands b (lad n U (255 - k)).b→Stands c (lad n U (255 - k)).c→Stands d (lad n U (255 - k)).d→
  Stands (ladE n u k a b c d).1 (lad n U 255).a∧Stands (ladE n u k a b c d).2 (lad n U 255).b
 | 0,_,_,_,_,_,ha,hb,_,_=> ⟨ha,hb⟩
 | k+1,a,b,c,d,hk,ha,hb,hc,hd=> by
  have e:lad n U (255 - k)=(lad n U (255 - (k+1))).rung U (((n / 2 ^ k % 2:Nat)):Int):=by
   rw [show 255 - k=255 - (k+1)+1 by omega]
   show (lad n U (255 - (k+1))).rung U ((n:Int) / 2 ^ (254 - (255 - (k+1))) % 2)= _
   rw [show 254 - (255 - (k+1))=k by omega]
   simp
  obtain ⟨s,hs⟩:∃s,s=lad n U (255 - (k+1)):=⟨_,rfl⟩
  rw [←hs] at e ha hb hc hd
  unfold ladE
  by_cases hb1:n / 2 ^ k % 2=1
  ·rw [if_pos hb1]
   rw [hb1] at e
   have e':lad n U (255 - k)=⟨sX s.a s.b s.c s.d,sZ U s.a s.b s.c s.d,dX s.c s.d,dZ s.c s.d⟩:=e
   have h1:=hu.nSum ha hb hc hd
   have h2:=hc.nD hd
   refine ladE_stands hu k _ _ _ _ (by omega) ?_ ?_ ?_ ?_<;> rw [e']
   ·exact h1.1
   ·exact h1.2
   ·exact h2.1
   ·exact h2.2
  ·rw [if_neg hb1]
   rw [show n / 2 ^ k % 2=0 by omega] at e
   have e':lad n U (255 - k)=⟨dX s.a s.b,dZ s.a s.b,sX s.a s.b s.c s.d,sZ U s.a s.b s.c s.d⟩:=e
   have h1:=hu.nSum ha hb hc hd
   have h2:=ha.nD hb
   refine ladE_stands hu k _ _ _ _ (by omega) ?_ ?_ ?_ ?_<;> rw [e']
   ·exact h2.1
   ·exact h2.2
   ·exact h1.1
   ·exact h1.2
theorem ladE_start (n u:Nat) (hu:u<PN):Stands (ladE n u 255 1 0 u 1).1 (lad n u 255).a∧Stands (ladE n u 255 1 0 u 1).2 (lad n u 255).b:=
 ladE_stands ⟨hu,rfl⟩ 255 1 0 u 1 (Nat.le_refl _) ⟨by decide,rfl⟩ ⟨by decide,rfl⟩ ⟨hu,rfl⟩ ⟨by decide,rfl⟩
theorem Stands.ne {n:Nat} {X:Int} (h:Stands n X) (hn:n≠0):X % Pr≠0:=by
 rw [←show (n:Int) % Pr=X % Pr from h.2,Pr_PN,←Int.natCast_emod,Nat.mod_eq_of_lt h.1]
 omega
theorem inv_cg {X:Int} (Y:Int) (h:X % Pr≠0):Cg ((Y * X) * X ^ (PN - 2)) Y:=by
 have h1:=inv_Pr h
 have e:(Y * X) * X ^ (PN - 2)=Y * (X ^ (PN - 2) * X):=by
  generalize X ^ (PN - 2)=I
  grind
 unfold Cg
 rw [e,Int.mul_emod,h1,Int.mul_one,Int.emod_emod_of_dvd _ (Int.dvd_refl Pr)]
theorem quot_ne {A B:Int} (ha:A % Pr≠0) (hb:B % Pr≠0):A * B ^ (PN - 2) % Pr≠0:=by
 intro h
 apply ha
 have h1:Cg (A * B * B ^ (PN - 2)) A:=inv_cg A hb
 have h2:A * B * B ^ (PN - 2)=B * (A * B ^ (PN - 2)):=by rw [Int.mul_comm A B,Int.mul_assoc]
 have h3:Cg (B * (A * B ^ (PN - 2))) (B * 0):=(Cg.refl B).mul (show _ % Pr=0 % Pr by rw [h];rfl)
 have h4:=(h1.symm.trans (h2▸h3))
 unfold Cg at h4
 rw [h4,Int.mul_zero];rfl
end Go.Bas
namespace Go.Bas
open Go.RowKit
theorem run_append_made {P:Program} (w:World) (t u ty e:TypeId) (k:IntKind) (bytes:Nat) (h1:P.underlying t=some (.slice e)) (hu:P.underlying u=some (.int .i64)) (hinfo:(P.info? e).map (fun i=> (i.zero,i.size,i.bytes))=some (some (.int k 0),1,bytes))
  (base:Nat) (g n c:Nat) (f:Nat→Int) (hown:Own k e base w (.slice (some ⟨g,0,none⟩) n c) n f) (m:Nat) (hc:c<n+m) (hf:∀i,i<m→f (n+i)=0)
  (b2:(n+m) * bytes≤140737488355328) (b3:n+m≤9223372036854775807) (b4:base≤w.heap.size):
  ∃v' w',(Builtin.append_ #[t,u] ty #[.slice (some ⟨g,0,none⟩) n c,.int .i64 (m:Int)]).run P w=.ok v' w'∧Own k e base w' v' (n+m) f∧w.grownBy w' none:=by
 obtain ⟨i,hi,hz0,hz1,hz2⟩:=info_parts hinfo
 have hcell:=hown.cells (g:=g) rfl
 have hlen:=hown.1
 have hnc:n≤c:=by
  rcases hown.2 with ⟨h,_⟩ | ⟨g',cap,cur,he,_,_,hn,_⟩
  ·cases h
  ·simp only [Value.slice.injEq,true_and] at he
   obtain ⟨_,rfl⟩:=he
   exact hn
 have hm0:0<m:=by omega
 have hn:¬ (n+m≤c):=by omega
 have h63':¬ (9223372036854775807<((n:Int)+(m:Int))):=by omega
 have hfit:Builtin.nextslicecap (n+m) c * i.bytes≤281474976710656:=growslice_fits (by omega) (by rw [hz2];exact b2)
 have h48':¬ (281474976710656<Builtin.nextslicecap (n+m) c * i.bytes):=by omega
 have hfo:=run_firstCells_some (P:=P) w.drew i.size n ⟨g,0,none⟩ n c (vals k n f) (by rw [hz1];simp) (by simpa using hcell)
 have hw:IntKind.i64.wrap (m:Int)=(m:Int):=wrap_i64_id (by omega) (by omega)
 have hneg:¬ ((m:Int)<0):=by omega
 have hmb:m * i.bytes≤140737488355328:=Nat.le_trans (Nat.mul_le_mul_right i.bytes (show m≤n+m by omega)) (by rw [hz2];exact b2)
 have hbig:¬ (281474976710656<(m:Int) * (i.bytes:Int)):=by
  rw [←Int.natCast_mul]
  omega
 have hge:=grownCap_ge w (n+m) c e
 have hcm:grownCap w (n+m) c e≤maxLen:=grownCap_le_maxLen w (n+m) c e (by unfold maxLen;omega)
 have hrun:(Builtin.append_ #[t,u] ty #[.slice (some ⟨g,0,none⟩) n c,.int .i64 (m:Int)]).run P w=
   .ok (.slice (some ⟨w.heap.size,0,none⟩) (n+m) (grownCap w (n+m) c e)) (w.drew.alloc (.cells ((vals k n f).toArray++Builtin.zeroCells (Value.int k 0).cells m++Builtin.zeroCells (Value.int k 0).cells (grownCap w (n+m) c e - (n+m))) e)):=by
  rw [hz1] at hfo
  have hmz:¬ m=0:=by omega
  simp [Builtin.append_,run_underlying h1,run_underlying hu,sizeOf,typeInfo,zeroValue,hi,hz0,hz1,asInt,asIntOf,hw,hneg,hbig,hn,h63',h48',Question.forced,hfo,hmz,newRow,grownCap]
 refine ⟨_,_,hrun,?_,⟨rfl,rfl,rfl,by simp,fun q hq _=> ((Below.refl w.heap.size w.drew).alloc (Nat.le_refl _) _).block q hq⟩⟩
 have hz:(Value.int k 0).cells=#[.int k 0] :=rfl
 have hvz:(Builtin.zeroCells (Value.int k 0).cells m).toList=vals k m (fun _=> 0):=by
  apply List.ext_getElem?
  intro j
  by_cases hj:j<m
  ·rw [vals_get hj];simp [Builtin.zeroCells,hz,hj,Nat.mod_one]
  ·simp [Builtin.zeroCells,hz,hj,vals]
 have hva:vals k n f++vals k m (fun _=> 0)=vals k (n+m) f:=by
  unfold vals
  rw [List.range_add]
  simp only [List.map_append,List.map_map]
  congr 1
  exact List.map_congr_left fun i hi=> by simp [hf i (List.mem_range.1 hi)]
 refine ⟨by simp,.inr ⟨w.heap.size,_,_,rfl,b4,heap_alloc_new w.drew _,hge,hcm,?_,?_⟩⟩
 ·simp only [Array.size_append,List.size_toArray,size_zeroCells,hz,vals_length]
  simp;omega
 ·rw [Array.toList_append,Array.toList_append,hvz,List.append_assoc]
  rw [←List.append_assoc]
  simp only [List.toList_toArray]
  rw [hva,List.take_append_of_le_length (by simp),List.take_of_length_le (by simp)]
theorem append_made {P:Program} {w:World} {ops:Array Oper} {rest:List Oper} {o:Oper} {a:Act} {Q:Exit→Act→World→Prop}
  (hg:o.guard=none) (s x:Operand) (t u:TypeId) (hop:o.op=.call { callee:=.builtin .append,args:=#[s,x],argTypes:=#[t,u] })
  (base:Nat) (e:TypeId) (k:IntKind) (bytes:Nat)
  (h1:P.underlying t=some (.slice e)) (hu:P.underlying u=some (.int .i64)) (hinfo:(P.info? e).map (fun i=> (i.zero,i.size,i.bytes))=some (some (.int k 0),1,bytes))
  (b n c:Nat) (f:Nat→Int) (hown:Own k e base w (.slice (some ⟨b,0,none⟩) n c) n f) (hs:a.eval s=.slice (some ⟨b,0,none⟩) n c) (m:Nat) (hx:a.eval x=.int .i64 (m:Int)) (hc:c<n+m) (hf:∀i,i<m→f (n+i)=0)
  (b2:(n+m) * bytes≤140737488355328) (b3:n+m≤9223372036854775807) (b4:base≤w.heap.size)
  (hK:∀v' w',Own k e base w' v' (n+m) f→w.grownBy w' none→wpList P ops Q rest (a.put o.dst v') w'):
  wpList P ops Q (o::rest) a w:=by
 refine wpList_plain hg fun K hK'=> ?_
 obtain ⟨v',w',hr,h2,h3⟩:=run_append_made (P:=P) w t u o.type e k bytes h1 hu hinfo base b n c f hown m hc hf b2 b3 b4
 unfold Oper.wp execOp
 simp only [hop,resolve,invoke,builtin,Sem.run_bind,Sem.run_pure,Result.andThen_ok,List.map_toArray,List.map_cons,List.map_nil,hs,hx,hr]
 exact hK' _ _ (hK v' w' h2 h3)
end Go.Bas
namespace Go.Bas
open Go.RowKit
def OwnAt (k:IntKind) (e:TypeId) (base:Nat) (w:World) (v:Value) (n:Nat) (f:Nat→Int):Prop:=
 (v=.slice none 0 0∧n=0)∨∃g o c cur,v=.slice (some ⟨g,o,none⟩) n c∧base≤g∧w.heap[g]? =some (.cells cur e (0,0))∧n≤c∧c≤9223372036854775807∧o+c≤cur.size∧(cur.toList.drop o).take n=vals k n f
variable {k : IntKind} {e : TypeId} {base : Nat} {w w' : World} {v : Value} {n : Nat} {f g : Nat → Int}
theorem OwnAt.nil (k:IntKind) (e:TypeId) (base:Nat) (w:World) (f:Nat→Int):OwnAt k e base w (.slice none 0 0) 0 f:=.inl ⟨rfl,rfl⟩
theorem OwnAt.rd (h:OwnAt k e base w v n f):Rd k w v n f:=by
 rcases h with ⟨rfl,rfl⟩ | ⟨g,o,c,cur,rfl,hb,hg,hn,hc,hs,ht⟩
 ·exact Rd.nil _ _ _
 ·refine ⟨_,_,rfl,hn,hc,(fun h=> by cases h),fun _=> ⟨g,o,rfl,(Array.getElem?_eq_some_iff.1 hg).1,fun i hi=> ?_⟩⟩
  rw [cell_of_row w g (o+i) cur e (0,0) hg]
  have:=vals_get (k:=k) (f:=f) hi
  rw [←ht,List.getElem?_take,if_pos hi,List.getElem?_drop] at this
  simpa using this
theorem OwnAt.congr (h:OwnAt k e base w v n f) (q:∀i,i<n→f i=g i):OwnAt k e base w v n g:=by
 unfold OwnAt at *
 rwa [vals_congr q] at h
theorem OwnAt.lt (h:OwnAt k e base w v n f):∀b,v.ownBlock=some b→base≤b∧b<w.heap.size:=by
 intro b hb
 rcases h with ⟨rfl,_⟩ | ⟨g,o,c,cur,rfl,hb',hg,_⟩
 ·simp [Value.ownBlock] at hb
 ·simp [Value.ownBlock] at hb
  subst hb
  exact ⟨hb',(Array.getElem?_eq_some_iff.1 hg).1⟩
theorem OwnAt.below (h:OwnAt k e base w v n f) (hb:Below w.heap.size w w'):OwnAt k e base w' v n f:=by
 rcases h with h | ⟨g,o,c,cur,rfl,hb',hgg,rest⟩
 ·exact .inl h
 ·refine .inr ⟨g,o,c,cur,rfl,hb',?_,rest⟩
  rw [hb.block g (Array.getElem?_eq_some_iff.1 hgg).1]
  exact hgg
theorem vals_drop (k:IntKind) (n lo:Nat) (f:Nat→Int):(vals k n f).drop lo=vals k (n - lo) (fun i=> f (lo+i)):=by
 apply List.ext_getElem?
 intro i
 rw [List.getElem?_drop]
 by_cases hi:lo+i<n
 ·rw [vals_get hi,vals_get (by omega)]
 ·have h1:(vals k n f)[lo+i]? =none:=by simp;omega
  have h2:(vals k (n - lo) (fun i=> f (lo+i)))[i]? =none:=by simp;omega
  rw [h1,h2]
theorem OwnAt.cut {b o c:Nat} (h:OwnAt k e base w (.slice (some ⟨b,o,none⟩) n c) n f) (lo:Nat) (hlo:lo≤n):
  OwnAt k e base w (.slice (if c=lo then some ⟨b,o,none⟩ else some ⟨b,o+lo,none⟩) (n - lo) (c - lo)) (n - lo) (fun i=> f (lo+i)):=by
 rcases h with ⟨h,_⟩ | ⟨g',o',c',cur,he,hb,hg,hn,hc,hs,ht⟩
 ·cases h
 ·simp only [Value.slice.injEq,Option.some.injEq,Addr.mk.injEq,and_true,true_and] at he
  obtain ⟨⟨rfl,rfl⟩,rfl⟩:=he
  by_cases hcl:c=lo
  ·subst hcl
   obtain rfl:n=c:=by omega
   rw [if_pos rfl,Nat.sub_self]
   exact .inr ⟨b,o,0,cur,rfl,hb,hg,Nat.le_refl _,by omega,by omega,by simp [vals]⟩
  ·rw [if_neg hcl]
   refine .inr ⟨b,o+lo,c - lo,cur,rfl,hb,hg,by omega,by omega,by omega,?_⟩
   rw [←vals_drop,←ht,List.drop_take,List.drop_drop]
theorem vals_one {x:Value} (h:x ∈ vals k n f):x.oneCell'=true:=by
 obtain ⟨_,_,rfl⟩:=List.mem_map.1 h
 rfl
theorem vals_add {m:Nat} (hf:∀i,i<m→f (n+i)=g i):vals k n f++vals k m g=vals k (n+m) f:=by
 unfold vals
 rw [List.range_add]
 simp only [List.map_append,List.map_map]
 congr 1
 exact List.map_congr_left fun i hi=> by simp [hf i (List.mem_range.1 hi)]
theorem addr_add (b o j:Nat):(⟨b,o,none⟩:Addr).add j=⟨b,o+j,none⟩:=by unfold Addr.add;split<;> simp_all
theorem OwnAt.whole (hb:base≤w.heap.size) {m c:Nat} (hmc:m≤c) (hc:c≤9223372036854775807) {cur:Array Value} (hs:cur.size=c) (ht:cur.toList.take m=vals k m f):
  OwnAt k e base (w.drew.alloc (.cells cur e)) (.slice (some ⟨w.heap.size,0,none⟩) m c) m f:=
 .inr ⟨w.heap.size,0,c,cur,rfl,hb,heap_alloc_new w.drew _,hmc,hc,by omega,by simpa using ht⟩
theorem run_append_at {P:Program} (w:World) (t ty e:TypeId) (k:IntKind) (bytes:Nat) (h1:P.underlying t=some (.slice e)) (hinfo:(P.info? e).map (fun i=> (i.zero,i.size,i.bytes))=some (some (.int k 0),1,bytes))
  (base:Nat) (v:Value) (n:Nat) (f:Nat→Int) (hown:OwnAt k e base w v n f) (u:Value) (m:Nat) (g:Nat→Int) (hrd:Rd k w u m g) (hf:∀i,i<m→f (n+i)=g i)
  (b2:(n+m) * bytes≤140737488355328) (b3:n+m≤9223372036854775807) (b4:base≤w.heap.size):
  ∃v' w',(Builtin.append_ #[t,t] ty #[v,u]).run P w=.ok v' w'∧OwnAt k e base w' v' (n+m) f∧w.grownBy w' v.ownBlock∧(0<n+m→v'≠.slice none 0 0):=by
 obtain ⟨i,hi,hz0,hz1,hz2⟩:=info_parts hinfo
 obtain ⟨ao,c,rfl,l1,l2,l3,l4⟩:=hrd
 have hvm:(vals k m g).length=m * i.size:=by rw [hz1];simp
 by_cases hm:m=0
 ·subst hm
  rcases hown with ⟨rfl,rfl⟩ | ⟨gg,o,c',cur,rfl,hb,hg,hn,hc,hs,ht⟩
  ·refine ⟨.slice none 0 0,w,?_,OwnAt.nil _ _ _ _ _,World.grownBy.refl _ _,fun h=> absurd h (by decide)⟩
   cases ao<;> simp [Builtin.append_,run_underlying h1,sizeOf,typeInfo,hi,Builtin.lenOf,Builtin.firstCells,loadCells,loadCellsFrom]
  ·refine ⟨.slice (some ⟨gg,o,none⟩) n c',w,?_,.inr ⟨gg,o,c',cur,rfl,hb,hg,hn,hc,hs,ht⟩,World.grownBy.refl _ _,fun _ h=> by cases h⟩
   cases ao<;> simp [Builtin.append_,run_underlying h1,sizeOf,typeInfo,hi,Builtin.lenOf,Builtin.firstCells,loadCells,loadCellsFrom,hn,storeCells]
 ·obtain ⟨b,of,rfl,_,hcell⟩:=l4 (by omega)
  have hnews:∀j x,(vals k m g)[j]? =some x→w.cell? ((⟨b,of,none⟩:Addr).add j)=some x:=by
   intro j x hx
   have hj:j<m:=by
    have:=(List.getElem?_eq_some_iff.1 hx).1
    simpa using this
   rw [addr_add,hcell j hj,←vals_get (k:=k) (f:=g) hj]
   exact hx
  have hnews1:∀x ∈ vals k m g,x.oneCell'=true:=fun x hx=> vals_one hx
  rcases hown with ⟨rfl,rfl⟩ | ⟨gg,o,c',cur,rfl,hb,hg,hn,hc,hs,ht⟩
  ·have hr:=run_append_nil (P:=P) w t ty e i _ h1 hi hz0 ⟨b,of,none⟩ m c (vals k m g) hvm hnews (by omega) (by omega) (by rw [hz2];simp only [Nat.zero_add] at b2;omega)
   have hge:=grownCap_ge w m 0 e
   have hcm:grownCap w m 0 e≤maxLen:=grownCap_le_maxLen w m 0 e (by unfold maxLen;omega)
   unfold maxLen at hcm
   rw [Nat.zero_add]
   refine ⟨_,_,hr,?_,⟨rfl,rfl,rfl,by simp,fun q hq _=> ((Below.refl w.heap.size w.drew).alloc (Nat.le_refl _) _).block q hq⟩,fun _ h=> by cases h⟩
   refine OwnAt.whole b4 hge (by omega) ?_ ?_
   ·have hz:(Value.int k 0).cells=#[.int k 0] :=rfl
    simp only [Array.size_append,List.size_toArray,size_zeroCells,hz,vals_length]
    simp;omega
   ·rw [Array.toList_append]
    have:vals k m f=vals k m g:=vals_congr fun i hi=> by have:=hf i hi;rwa [Nat.zero_add] at this
    rw [this]
    simp [List.take_append_of_le_length]
  ·by_cases hroom:n+m≤c'
   ·have hfm:=run_firstCells_some (P:=P) w i.size m ⟨b,of,none⟩ m c (vals k m g) hvm hnews
    have hst:=run_storeCells_at P gg (o+n) e (vals k m g) 0 cur w hg (by simp;omega) hnews1
    refine ⟨.slice (some ⟨gg,o,none⟩) (n+m) c',w.setRow gg (cur.toList.take (o+n)++vals k m g++cur.toList.drop (o+n+(vals k m g).length)).toArray,?_,?_,?_,fun _ h=> by cases h⟩
    ·simp only [Nat.add_zero] at hst
     simp [Builtin.append_,run_underlying h1,sizeOf,typeInfo,hi,Builtin.lenOf,hroom,hfm,hz1,addr_add]
     simp [hz1] at hfm
     simp [hfm,hst]
    ·refine .inr ⟨gg,o,c',_,rfl,hb,setRow_heap w gg cur _ e _ hg,hroom,hc,?_,?_⟩
     ·simp only [List.size_toArray,List.length_append,List.length_take,List.length_drop,Array.length_toList,vals_length]
      omega
     ·rw [←vals_add hf,←ht,List.append_assoc,List.drop_append_of_le_length (by simp;omega),List.drop_take]
      rw [show o+n - o=n by omega,←List.append_assoc]
      rw [List.take_append_of_le_length (by simp;omega),List.take_of_length_le (by simp;omega)]
    ·exact ⟨rfl,rfl,rfl,by simp,fun k _ hk=> setRow_other w gg k _ (fun e=> hk (by simp [Value.ownBlock,e]))⟩
   ·have holds:∀j x,(vals k n f)[j]? =some x→w.cell? ((⟨gg,o,none⟩:Addr).add j)=some x:=by
     intro j x hx
     have hj:j<n:=by
      have:=(List.getElem?_eq_some_iff.1 hx).1
      simpa using this
     rw [addr_add,cell_of_row w gg (o+j) cur e (0,0) hg]
     rw [←ht,List.getElem?_take,if_pos hj,List.getElem?_drop] at hx
     simpa using hx
    have hr:=run_append_grow (P:=P) w t ty e i _ h1 hi hz0 ⟨gg,o,none⟩ n c' (vals k n f) (by rw [hz1];simp) holds ⟨b,of,none⟩ m c (vals k m g) hvm hnews (by omega) (by omega) (growslice_fits (by omega) (by rw [hz2];exact b2))
    have hge:=grownCap_ge w (n+m) c' e
    have hcm:grownCap w (n+m) c' e≤maxLen:=grownCap_le_maxLen w (n+m) c' e (by unfold maxLen;omega)
    unfold maxLen at hcm
    refine ⟨_,_,hr,?_,⟨rfl,rfl,rfl,by simp,fun q hq _=> ((Below.refl w.heap.size w.drew).alloc (Nat.le_refl _) _).block q hq⟩,fun _ h=> by cases h⟩
    refine OwnAt.whole b4 hge (by omega) ?_ ?_
    ·have hz:(Value.int k 0).cells=#[.int k 0] :=rfl
     simp only [Array.size_append,List.size_toArray,size_zeroCells,hz,vals_length]
     simp;omega
    ·rw [Array.toList_append,Array.toList_append,←vals_add hf]
     rw [List.take_append_of_le_length (by simp),List.take_of_length_le (by simp)]
theorem wp_append_at {P:Program} {w:World} {o:Oper} {a:Act} {K:Act→World→Prop} {Q:Exit→Act→World→Prop}
  (s x:Operand) (t:TypeId) (hop:o.op=.call { callee:=.builtin .append,args:=#[s,x],argTypes:=#[t,t] })
  (base:Nat) (e:TypeId) (k:IntKind) (bytes:Nat)
  (h1:P.underlying t=some (.slice e)) (hinfo:(P.info? e).map (fun i=> (i.zero,i.size,i.bytes))=some (some (.int k 0),1,bytes))
  (v:Value) (n:Nat) (f:Nat→Int) (hown:OwnAt k e base w v n f) (hs:a.eval s=v)
  (u:Value) (m:Nat) (g:Nat→Int) (hrd:Rd k w u m g) (hx:a.eval x=u) (hf:∀i,i<m→f (n+i)=g i)
  (b2:(n+m) * bytes≤140737488355328) (b3:n+m≤9223372036854775807) (b4:base≤w.heap.size)
  (hK:∀v' w',OwnAt k e base w' v' (n+m) f→w.grownBy w' v.ownBlock→(0<n+m→v'≠.slice none 0 0)→K (a.put o.dst v') w'):
  o.wp P a w K Q:=by
 obtain ⟨v',w',hr,h2,h3,h4⟩:=run_append_at (P:=P) w t o.type e k bytes h1 hinfo base v n f hown u m g hrd hf b2 b3 b4
 unfold Oper.wp execOp
 simp only [hop,resolve,invoke,builtin,Sem.run_bind,Sem.run_pure,Result.andThen_ok,List.map_toArray,List.map_cons,List.map_nil,hs,hx,hr]
 exact hK v' w' h2 h3 h4
theorem append_at {P:Program} {w:World} {ops:Array Oper} {rest:List Oper} {o:Oper} {a:Act} {Q:Exit→Act→World→Prop}
  (hg:o.guard=none) (s x:Operand) (t:TypeId) (hop:o.op=.call { callee:=.builtin .append,args:=#[s,x],argTypes:=#[t,t] })
  (base:Nat) (e:TypeId) (k:IntKind) (bytes:Nat)
  (h1:P.underlying t=some (.slice e)) (hinfo:(P.info? e).map (fun i=> (i.zero,i.size,i.bytes))=some (some (.int k 0),1,bytes))
  (v:Value) (n:Nat) (f:Nat→Int) (hown:OwnAt k e base w v n f) (hs:a.eval s=v)
  (u:Value) (m:Nat) (g:Nat→Int) (hrd:Rd k w u m g) (hx:a.eval x=u) (hf:∀i,i<m→f (n+i)=g i)
  (b2:(n+m) * bytes≤140737488355328) (b3:n+m≤9223372036854775807) (b4:base≤w.heap.size)
  (hK:∀v' w',OwnAt k e base w' v' (n+m) f→w.grownBy w' v.ownBlock→(0<n+m→v'≠.slice none 0 0)→wpList P ops Q rest (a.put o.dst v') w'):
  wpList P ops Q (o::rest) a w:=
 wpList_plain hg fun _ hK'=> wp_append_at s x t hop base e k bytes h1 hinfo v n f hown hs u m g hrd hx hf b2 b3 b4 fun v' w' q1 q2 q3=> hK' _ _ (hK v' w' q1 q2 q3)
end Go.Bas
namespace Go.Bas
theorem nat_cg {m n:Nat} (h:m % PN=n % PN):Cg (m:Int) (n:Int):=by
 unfold Cg
 rw [Pr_PN,←Int.natCast_emod,←Int.natCast_emod,h]
theorem inv_lit {B I:Nat} {X:Int} (h:B * I % PN=1) (hB:Cg (B:Int) X):Cg (X ^ (PN - 2)) (I:Int):=by
 have h1:Cg ((B:Int) * (I:Int)) 1:=by rw [←Int.natCast_mul];exact nat_cg (n:=1) (by rw [h];decide)
 have hX:X % Pr≠0:=by
  intro h0
  have e:Cg ((B:Int) * (I:Int)) (0 * (I:Int)):=(hB.trans (show X % Pr=0 % Pr by rw [h0];rfl)).mul (Cg.refl _)
  have:=h1.symm.trans e
  unfold Cg at this
  rw [Int.zero_mul] at this
  exact absurd this (by decide)
 have h2:=inv_cg (I:Int) hX
 have h3:Cg ((I:Int) * X * X ^ (PN - 2)) (1 * X ^ (PN - 2)):=by
  refine Cg.mul ?_ (Cg.refl _)
  rw [Int.mul_comm]
  exact (hB.symm.mul (Cg.refl _)).trans h1
 rw [Int.one_mul] at h3
 exact h3.symm.trans h2
theorem ladN_lit {n u a b i r:Nat} (hu:u<PN) (h:ladE n u 255 1 0 u 1=(a,b)) (hi:b * i % PN=1) (hr:a * i % PN=r):ladN (n:Int) (u:Int) % Pr=(r:Int):=by
 have hs:=ladE_start n u hu
 rw [h] at hs
 have h1:=inv_lit hi hs.2.2
 have h2:Cg (ladN n u) ((a * i:Nat):Int):=by rw [Int.natCast_mul];exact hs.1.2.symm.mul h1
 rw [h2,Pr_PN,←Int.natCast_emod,hr]
def box2:Nat:=52573937849532372069814888178136277301931757964231753054399601207743438775599
theorem lad_two:ladE (2 ^ 254) 9 255 1 0 9 1=(53699084970092229620102095424564848774812783684786248634290088506478568078703,20097946894889007705884408490665082385984383478950821997587487100163618290637):=by decide+kernel
theorem lad_one:(ladE (2 ^ 254) box2 255 1 0 box2 1).1≠0∧(ladE (2 ^ 254) box2 255 1 0 box2 1).2≠0:=by decide+kernel
theorem clamp_two:clampN 2=((2 ^ 254:Nat):Int):=by decide+kernel
theorem clamp_one:clampN 1=((2 ^ 254:Nat):Int):=by decide+kernel
theorem mul_two:ladN (clampN 2) (9 % 2 ^ 255) % Pr=(box2:Int):=by
 rw [clamp_two,show (9:Int) % 2 ^ 255=((9:Nat):Int) by decide]
 exact ladN_lit (i:=4690349756041861591026396950088132225180594110443955054213429870794107548986) (by decide) lad_two (by decide+kernel) (by decide+kernel)
theorem mul_one_two:ladN (clampN 1) ((box2:Int) % 2 ^ 255) % Pr≠0:=by
 have h:=ladE_start (2 ^ 254) box2 (by decide)
 rw [clamp_one,show (box2:Int) % 2 ^ 255=(box2:Int) by decide]
 exact quot_ne (h.1.ne lad_one.1) (h.2.ne lad_one.2)
end Go.Bas
namespace Go.Bas
instance pn_ne:NeZero PN:=⟨by decide⟩
abbrev Fp:Type:=Fin PN
def toF (X:Int):Fp:=⟨(X % Pr).toNat,by have h:=Int.emod_lt_of_pos X Pr_pos;have h0:=Int.emod_nonneg X (show Pr≠0 by decide);rw [Pr_PN] at *;omega⟩
theorem toF_val (X:Int):(((toF X).val:Nat):Int)=X % Pr:=by
 show (((X % Pr).toNat:Nat):Int)=X % Pr
 exact Int.toNat_of_nonneg (Int.emod_nonneg X (by decide))
theorem toF_ext {x y:Fp} (h:((x.val:Nat):Int)=((y.val:Nat):Int)):x=y:=Fin.ext (by omega)
theorem toF_eq {X Y:Int}:toF X=toF Y ↔ Cg X Y:=by
 constructor
 ·intro h;unfold Cg;rw [←toF_val,←toF_val,h]
 ·intro h;exact toF_ext (by rw [toF_val,toF_val];exact h)
theorem toF_of (x:Fp):toF ((x.val:Nat):Int)=x:=toF_ext (by rw [toF_val,Pr_PN,←Int.natCast_emod,Nat.mod_eq_of_lt x.isLt])
theorem toF_add (X Y:Int):toF (X+Y)=toF X+toF Y:=by
 refine toF_ext ?_
 rw [toF_val,Fin.val_add,Int.natCast_emod,Int.natCast_add,toF_val,toF_val,←Pr_PN,←Int.add_emod]
theorem toF_mul (X Y:Int):toF (X * Y)=toF X * toF Y:=by
 refine toF_ext ?_
 rw [toF_val,Fin.val_mul,Int.natCast_emod,Int.natCast_mul,toF_val,toF_val,←Pr_PN,←Int.mul_emod]
theorem toF_zero:toF 0=0:=toF_ext (by rw [toF_val];rfl)
theorem toF_one:toF 1=1:=toF_ext (by rw [toF_val];decide)
theorem toF_sub (X Y:Int):toF (X - Y)=toF X - toF Y:=by
 have h:toF (X - Y)+toF Y=toF X:=by rw [←toF_add];congr 1;omega
 grind
theorem toF_neg (X:Int):toF (-X)= -toF X:=by
 have h:toF (-X)+toF X=0:=by rw [←toF_add,←toF_zero];congr 1;omega
 grind
theorem toF_nz {X:Int}:toF X≠0 ↔ X % Pr≠0:=by
 rw [←toF_zero,Ne,toF_eq];exact Iff.rfl
theorem fp_one_ne:(1:Fp)≠0:=by rw [←toF_one];exact toF_nz.2 (by decide)
theorem fp_two_ne:(2:Fp)≠0:=by
 have:(2:Fp)=toF 2:=by rw [show (2:Int)=1+1 from rfl,toF_add,toF_one];rfl
 rw [this];exact toF_nz.2 (by decide)
theorem fp_inv {x:Fp} (h:x≠0):∃y:Fp,x * y=1:=by
 obtain ⟨X,rfl⟩:∃X,x=toF X:=⟨_,(toF_of x).symm⟩
 refine ⟨toF (X ^ (PN - 2)),?_⟩
 have h1:=inv_cg 1 (toF_nz.1 h)
 rw [Int.one_mul] at h1
 rw [←toF_mul,←toF_one]
 exact toF_eq.2 h1
theorem fp_mul_zero {x y:Fp} (h:x * y=0):x=0∨y=0:=by
 by_cases hx:x=0
 ·exact .inl hx
 ·obtain ⟨z,hz⟩:=fp_inv hx
  right
  grind
theorem fp_mul_ne {x y:Fp} (hx:x≠0) (hy:y≠0):x * y≠0:=fun h=> (fp_mul_zero h).elim hx hy
theorem fp_cancel {x y z:Fp} (hz:z≠0) (h:x * z=y * z):x=y:=by
 obtain ⟨w,hw⟩:=fp_inv hz
 grind
noncomputable def inv (x:Fp):Fp:=open Classical in if h:∃y:Fp,x * y=1 then Classical.choose h else 0
theorem inv_mul {x:Fp} (h:x≠0):x * inv x=1:=by
 unfold inv
 rw [dif_pos (fp_inv h)]
 exact Classical.choose_spec (fp_inv h)
theorem inv_none:inv 0=0:=by
 unfold inv
 rw [dif_neg]
 rintro ⟨y,hy⟩
 exact fp_one_ne (by grind)
theorem inv_uniq {x y:Fp} (h:x * y=1):y=inv x:=by
 have hx:x≠0:=by intro e;subst e;exact fp_one_ne (by grind)
 have:=inv_mul hx
 grind
theorem toF_inv (X:Int):toF (X ^ (PN - 2))=inv (toF X):=by
 by_cases h:X % Pr=0
 ·have h1:toF X=0:=by rw [←toF_zero];exact toF_eq.2 h
  rw [h1,inv_none,←toF_zero]
  exact toF_eq.2 (show X ^ (PN - 2) % Pr=0 % Pr by rw [inv_zero h];rfl)
 ·refine inv_uniq ?_
  have h1:=inv_cg 1 h
  rw [Int.one_mul] at h1
  rw [←toF_mul,←toF_one]
  exact toF_eq.2 h1
end Go.Bas
namespace Go.Bas
def iE:Fp:=toF im1
theorem iE_sq:iE * iE= -1:=by
 unfold iE
 rw [←toF_mul,←toF_one,←toF_neg]
 exact toF_eq.2 (show im1 * im1 % Pr= -1 % Pr by rw [im1_sq];decide)
structure NS where
 d:Fp
 no:∀r:Fp,r * r≠d
structure Ed (E:NS) where
 x:Fp
 y:Fp
 on:y ^ 2 - x ^ 2=1+E.d * x ^ 2 * y ^ 2
section
variable {E : NS}
theorem Ed.ext {p q:Ed E} (h1:p.x=q.x) (h2:p.y=q.y):p=q:=by cases p;cases q;simp_all
theorem den_ne {x1 y1 x2 y2 d i e:Fp} (hd:∀r:Fp,r * r≠d) (hi:i * i= -1) (h1:y1 ^ 2 - x1 ^ 2=1+d * x1 ^ 2 * y1 ^ 2) (h2:y2 ^ 2 - x2 ^ 2=1+d * x2 ^ 2 * y2 ^ 2) (he:e * e=1):d * (x1 * x2 * (y1 * y2))≠e:=by
 intro hm
 have he0:e≠0:=by intro h;exact fp_one_ne (by grind)
 have hx1:x1≠0:=by intro h;exact he0 (by grind)
 have hy1:y1≠0:=by intro h;exact he0 (by grind)
 have hy2:y2≠0:=by intro h;exact he0 (by grind)
 have key:∀s t:Fp,t * t=d * (s * s)→s≠0→False:=by
  intro s t h hs
  obtain ⟨w,hw⟩:=fp_inv hs
  exact hd (t * w) (by grind)
 have a1:(i * x1+e * y1) * (i * x1+e * y1)=d * ((x1 * y1 * (i * x2+y2)) * (x1 * y1 * (i * x2+y2))):=by grind
 have a2:(i * x1 - e * y1) * (i * x1 - e * y1)=d * ((x1 * y1 * (i * x2 - y2)) * (x1 * y1 * (i * x2 - y2))):=by grind
 by_cases hs:i * x2+y2=0
 ·refine key _ _ a2 (fp_mul_ne (fp_mul_ne hx1 hy1) ?_)
  intro ht
  have h2y:2 * y2=0:=by grind
  rcases fp_mul_zero h2y with h | h
  ·exact fp_two_ne h
  ·exact hy2 h
 ·exact key _ _ a1 (fp_mul_ne (fp_mul_ne hx1 hy1) hs)
theorem Ed.plus_ne (p q:Ed E):1+E.d * (p.x * q.x * (p.y * q.y))≠0:=by
 intro h
 exact den_ne E.no iE_sq p.on q.on (e:= -1) (by grind) (by grind)
theorem Ed.minus_ne (p q:Ed E):1 - E.d * (p.x * q.x * (p.y * q.y))≠0:=by
 intro h
 exact den_ne E.no iE_sq p.on q.on (e:=1) (by grind) (by grind)
theorem ed_closed {x1 y1 x2 y2 d:Fp} (h1:y1 ^ 2 - x1 ^ 2=1+d * x1 ^ 2 * y1 ^ 2) (h2:y2 ^ 2 - x2 ^ 2=1+d * x2 ^ 2 * y2 ^ 2):
  ((y1 * y2+x1 * x2) * (1+d * (x1 * x2 * (y1 * y2)))) ^ 2 - ((x1 * y2+x2 * y1) * (1 - d * (x1 * x2 * (y1 * y2)))) ^ 2=((1+d * (x1 * x2 * (y1 * y2))) * (1 - d * (x1 * x2 * (y1 * y2)))) ^ 2+d * ((x1 * y2+x2 * y1) * (y1 * y2+x1 * x2)) ^ 2:=by
 grind
theorem ed_frac {A B C D u v d:Fp} (hv:B * v=1) (hu:D * u=1) (h:(C * B) ^ 2 - (A * D) ^ 2=(B * D) ^ 2+d * (A * C) ^ 2):(C * u) ^ 2 - (A * v) ^ 2=1+d * (A * v) ^ 2 * (C * u) ^ 2:=by
 have h':((C * B) ^ 2 - (A * D) ^ 2) * (u * v) ^ 2=((B * D) ^ 2+d * (A * C) ^ 2) * (u * v) ^ 2:=by rw [h]
 grind
noncomputable def Ed.add (p q:Ed E):Ed E where
 x:=(p.x * q.y+q.x * p.y) * inv (1+E.d * (p.x * q.x * (p.y * q.y)))
 y:=(p.y * q.y+p.x * q.x) * inv (1 - E.d * (p.x * q.x * (p.y * q.y)))
 on:=ed_frac (inv_mul (p.plus_ne q)) (inv_mul (p.minus_ne q)) (ed_closed p.on q.on)
theorem Ed.add_x (p q:Ed E):(p.add q).x * (1+E.d * (p.x * q.x * (p.y * q.y)))=p.x * q.y+q.x * p.y:=by
 have h:=inv_mul (p.plus_ne q)
 show (p.x * q.y+q.x * p.y) * inv (1+E.d * (p.x * q.x * (p.y * q.y))) * (1+E.d * (p.x * q.x * (p.y * q.y)))= _
 grind
theorem Ed.add_y (p q:Ed E):(p.add q).y * (1 - E.d * (p.x * q.x * (p.y * q.y)))=p.y * q.y+p.x * q.x:=by
 have h:=inv_mul (p.minus_ne q)
 show (p.y * q.y+p.x * q.x) * inv (1 - E.d * (p.x * q.x * (p.y * q.y))) * (1 - E.d * (p.x * q.x * (p.y * q.y)))= _
 grind
theorem Ed.add_comm (p q:Ed E):p.add q=q.add p:=by
 apply Ed.ext
 ·refine fp_cancel (p.plus_ne q) ?_
  rw [Ed.add_x]
  have h:=q.add_x p
  rw [show q.x * p.x * (q.y * p.y)=p.x * q.x * (p.y * q.y) by grind] at h
  rw [h];grind
 ·refine fp_cancel (p.minus_ne q) ?_
  rw [Ed.add_y]
  have h:=q.add_y p
  rw [show q.x * p.x * (q.y * p.y)=p.x * q.x * (p.y * q.y) by grind] at h
  rw [h];grind
def Ed.zero:Ed E:=⟨0,1,by grind⟩
theorem Ed.add_zero (p:Ed E):p.add .zero=p:=by
 have h1:(p.add .zero).x * (1+E.d * (p.x * 0 * (p.y * 1)))=p.x * 1+0 * p.y:=p.add_x .zero
 have h2:(p.add .zero).y * (1 - E.d * (p.x * 0 * (p.y * 1)))=p.y * 1+p.x * 0:=p.add_y .zero
 apply Ed.ext
 ·generalize (p.add .zero).x=s at *
  grind
 ·generalize (p.add .zero).y=s at *
  grind
theorem Ed.zero_add (p:Ed E):(Ed.zero:Ed E).add p=p:=by rw [Ed.add_comm,Ed.add_zero]
def Ed.neg (p:Ed E):Ed E:=⟨-p.x,p.y,by have:=p.on;grind⟩
theorem Ed.add_neg (p:Ed E):p.add p.neg=.zero:=by
 have h1:=p.add_x p.neg
 have h2:=p.add_y p.neg
 have ho:=p.on
 have n1:=p.plus_ne p.neg
 have n2:=p.minus_ne p.neg
 simp only [Ed.neg] at h1 h2 n1 n2
 apply Ed.ext
 ·refine fp_cancel n1 ?_
  have e1:(p.add p.neg).x * (1+E.d * (p.x * -p.x * (p.y * p.y)))=0:=by rw [show (p.add p.neg).x=(p.add ⟨-p.x,p.y,p.neg.on⟩).x from rfl,h1];grind
  rw [e1];show (0:Fp)=0 * _;grind
 ·refine fp_cancel n2 ?_
  have e2:(p.add p.neg).y * (1 - E.d * (p.x * -p.x * (p.y * p.y)))=p.y * p.y+p.x * -p.x:=by rw [show (p.add p.neg).y=(p.add ⟨-p.x,p.y,p.neg.on⟩).y from rfl,h2]
  rw [e2];show _=(1:Fp) * _;grind
theorem assoc_poly_x {x1 y1 x2 y2 x3 y3 d:Fp} (h1:y1 ^ 2 - x1 ^ 2=1+d * x1 ^ 2 * y1 ^ 2) (h2:y2 ^ 2 - x2 ^ 2=1+d * x2 ^ 2 * y2 ^ 2) (h3:y3 ^ 2 - x3 ^ 2=1+d * x3 ^ 2 * y3 ^ 2):
  ((x1*y2+x2*y1)*(1-d*(x1*x2*(y1*y2)))*y3+(1+d*(x1*x2*(y1*y2)))*(y1*y2+x1*x2)*x3) * ((1+d*(x2*x3*(y2*y3)))*(1-d*(x2*x3*(y2*y3)))+d*((x2*y3+x3*y2)*(y2*y3+x2*x3)*(x1*y1)))
  =((x2*y3+x3*y2)*(1-d*(x2*x3*(y2*y3)))*y1+(1+d*(x2*x3*(y2*y3)))*(y2*y3+x2*x3)*x1) * ((1+d*(x1*x2*(y1*y2)))*(1-d*(x1*x2*(y1*y2)))+d*((x1*y2+x2*y1)*(y1*y2+x1*x2)*(x3*y3))):=by
 grind
theorem assoc_poly_y {x1 y1 x2 y2 x3 y3 d:Fp} (h1:y1 ^ 2 - x1 ^ 2=1+d * x1 ^ 2 * y1 ^ 2) (h2:y2 ^ 2 - x2 ^ 2=1+d * x2 ^ 2 * y2 ^ 2) (h3:y3 ^ 2 - x3 ^ 2=1+d * x3 ^ 2 * y3 ^ 2):
  ((1+d*(x1*x2*(y1*y2)))*(y1*y2+x1*x2)*y3+(x1*y2+x2*y1)*(1-d*(x1*x2*(y1*y2)))*x3) * ((1+d*(x2*x3*(y2*y3)))*(1-d*(x2*x3*(y2*y3))) - d*((x2*y3+x3*y2)*(y2*y3+x2*x3)*(x1*y1)))
  =((1+d*(x2*x3*(y2*y3)))*(y2*y3+x2*x3)*y1+(x2*y3+x3*y2)*(1-d*(x2*x3*(y2*y3)))*x1) * ((1+d*(x1*x2*(y1*y2)))*(1-d*(x1*x2*(y1*y2))) - d*((x1*y2+x2*y1)*(y1*y2+x1*x2)*(x3*y3))):=by
 grind
theorem frac_x {a b A B C D x3 y3 d s:Fp} (ha:a * B=A) (hb:b * D=C) (hs:s * (1+d * (a * x3 * (b * y3)))=a * y3+x3 * b):s * (B * D+d * (A * C * (x3 * y3)))=A * D * y3+B * C * x3:=by
 subst ha;subst hb
 have:s * (B * D+d * (a * B * (b * D) * (x3 * y3)))=s * (1+d * (a * x3 * (b * y3))) * (B * D):=by grind
 rw [this,hs];grind
theorem frac_y {a b A B C D x3 y3 d s:Fp} (ha:a * B=A) (hb:b * D=C) (hs:s * (1 - d * (a * x3 * (b * y3)))=b * y3+a * x3):s * (B * D - d * (A * C * (x3 * y3)))=B * C * y3+A * D * x3:=by
 subst ha;subst hb
 have:s * (B * D - d * (a * B * (b * D) * (x3 * y3)))=s * (1 - d * (a * x3 * (b * y3))) * (B * D):=by grind
 rw [this,hs];grind
theorem frac_ne_x {a b A B C D x3 y3 d:Fp} (ha:a * B=A) (hb:b * D=C) (hB:B≠0) (hD:D≠0) (h:1+d * (a * x3 * (b * y3))≠0):B * D+d * (A * C * (x3 * y3))≠0:=by
 subst ha;subst hb
 have:B * D+d * (a * B * (b * D) * (x3 * y3))=B * D * (1+d * (a * x3 * (b * y3))):=by grind
 rw [this];exact fp_mul_ne (fp_mul_ne hB hD) h
theorem frac_ne_y {a b A B C D x3 y3 d:Fp} (ha:a * B=A) (hb:b * D=C) (hB:B≠0) (hD:D≠0) (h:1 - d * (a * x3 * (b * y3))≠0):B * D - d * (A * C * (x3 * y3))≠0:=by
 subst ha;subst hb
 have:B * D - d * (a * B * (b * D) * (x3 * y3))=B * D * (1 - d * (a * x3 * (b * y3))):=by grind
 rw [this];exact fp_mul_ne (fp_mul_ne hB hD) h
theorem cross_eq {s t n1 d1 n2 d2:Fp} (hd1:d1≠0) (hd2:d2≠0) (h1:s * d1=n1) (h2:t * d2=n2) (h:n1 * d2=n2 * d1):s=t:=by
 refine fp_cancel (fp_mul_ne hd1 hd2) ?_
 grind
theorem Ed.add_assoc (p q r:Ed E):(p.add q).add r=p.add (q.add r):=by
 rw [Ed.add_comm p (q.add r)]
 apply Ed.ext
 ·exact cross_eq (frac_ne_x (p.add_x q) (p.add_y q) (p.plus_ne q) (p.minus_ne q) ((p.add q).plus_ne r)) (frac_ne_x (q.add_x r) (q.add_y r) (q.plus_ne r) (q.minus_ne r) ((q.add r).plus_ne p))
   (frac_x (p.add_x q) (p.add_y q) ((p.add q).add_x r)) (frac_x (q.add_x r) (q.add_y r) ((q.add r).add_x p)) (assoc_poly_x p.on q.on r.on)
 ·exact cross_eq (frac_ne_y (p.add_x q) (p.add_y q) (p.plus_ne q) (p.minus_ne q) ((p.add q).minus_ne r)) (frac_ne_y (q.add_x r) (q.add_y r) (q.plus_ne r) (q.minus_ne r) ((q.add r).minus_ne p))
   (frac_y (p.add_x q) (p.add_y q) ((p.add q).add_y r)) (frac_y (q.add_x r) (q.add_y r) ((q.add r).add_y p)) (assoc_poly_y p.on q.on r.on)
noncomputable def Ed.mul (p:Ed E):Nat→Ed E
 | 0=> .zero
 | n+1=> (p.mul n).add p
theorem Ed.mul_one (p:Ed E):p.mul 1=p:=p.zero_add
theorem Ed.mul_add (p:Ed E) (m:Nat):∀n,p.mul (m+n)=(p.mul m).add (p.mul n)
 | 0=> (Ed.add_zero _).symm
 | n+1=> by rw [←Nat.add_assoc,Ed.mul,Ed.mul_add p m n,Ed.add_assoc];rfl
theorem Ed.mul_mul (p:Ed E) (m:Nat):∀n,p.mul (m * n)=(p.mul m).mul n
 | 0=> rfl
 | n+1=> by rw [Nat.mul_succ,Ed.mul_add,Ed.mul_mul p m n];rfl
end
noncomputable def dE:Fp:= -(toF 121665 * inv (toF 121666))
theorem quot_mul {a b c:Fp} (h:b * c=1): -(a * c) * b= -a:=by grind
theorem dE_eq:dE * toF 121666= - toF 121665:=quot_mul (inv_mul (toF_nz.2 (by decide)))
theorem sq_121:powmod PN 256 (PN - 121665 * 121666) ((PN - 1) / 2) 1 % PN≠1:=by decide+kernel
theorem nat_121:Cg (-(121665 * 121666)) ((PN - 121665 * 121666:Nat):Int):=by
 have h:((PN - 121665 * 121666:Nat):Int)=(PN:Int) - 121665 * 121666:=by
  have:121665 * 121666≤PN:=by decide
  omega
 unfold Cg
 rw [h,←Pr_PN]
 exact mod_eq_of (c:= -1) (by omega)
theorem no_sq_121 (R:Int):¬ Cg (R * R) (-(121665 * 121666)):=by
 intro h
 have h1:=sq_isSq (R:=R) (X:= -(121665 * 121666)) h
 unfold isSq at h1
 simp only [Bool.or_eq_true,decide_eq_true_eq] at h1
 rcases h1 with h1 | h1
 ·exact absurd h1 (by decide+kernel)
 ·have h2:sqN (-(121665 * 121666)) % Pr=(((PN - 121665 * 121666:Nat):Int) ^ ((PN - 1) / 2)) % Pr:=nat_121.pow _
  rw [h2,int_pow_nat] at h1
  have h3:=powmod_eq PN 256 (PN - 121665 * 121666) ((PN - 1) / 2) 1 (by decide+kernel)
  rw [Nat.one_mul] at h3
  have h4:=sq_121
  rw [h3] at h4
  omega
theorem dE_sq (r:Fp):r * r≠dE:=by
 intro h
 obtain ⟨R,rfl⟩:∃R,r=toF R:=⟨_,(toF_of r).symm⟩
 have h0:=dE_eq
 have key:∀a b r d:Fp,d * b= -a→r * r=d→(r * b) * (r * b)= -(a * b):=by intro a b r d h h';grind
 have h1:=key _ _ _ _ h0 h
 rw [←toF_mul,←toF_mul,←toF_mul,←toF_neg] at h1
 exact no_sq_121 (R * 121666) (toF_eq.1 h1)
noncomputable def C7:NS:=⟨dE,dE_sq⟩
end Go.Bas
namespace Go.Bas
def Rel (s y X Z:Fp):Prop:=∃l:Fp,l≠0∧X=l * (1+y)∧Z=s * l * (1 - y)
structure Kind where
 E:NS
 s:Fp
 f:Fp
 hs:s * s=1
 h1:s=1→E.d * (1+f)= -f
 h2:s= -1→E.d * f= -(1+f)
 hk:s=1∨s= -1
 hf0:f≠0
 hf1:1+f≠0
section
variable {K : Kind}
theorem ed_one_dy (p:Ed K.E):1+K.E.d * p.y ^ 2≠0:=by
 intro h
 have ho:=p.on
 have hy:p.y ^ 2=1:=by grind
 have hd:K.E.d= -1:=by grind
 exact K.E.no iE (by rw [iE_sq,hd])
theorem ed_x2 (p:Ed K.E):p.x ^ 2 * (1+K.E.d * p.y ^ 2)=p.y ^ 2 - 1:=by
 have ho:=p.on
 grind
theorem dbl_y {x y d y':Fp} (ho:y ^ 2 - x ^ 2=1+d * x ^ 2 * y ^ 2) (h:y' * (1 - d * (x * x * (y * y)))=y * y+x * x):
  y' * (1+2 * d * y ^ 2 - d * y ^ 4)=d * y ^ 4+2 * y ^ 2 - 1:=by
 have hx:x ^ 2 * (1+d * y ^ 2)=y ^ 2 - 1:=by grind
 have e1:(1 - d * (x * x * (y * y))) * (1+d * y ^ 2)=1+2 * d * y ^ 2 - d * y ^ 4:=by grind
 have e2:(y * y+x * x) * (1+d * y ^ 2)=d * y ^ 4+2 * y ^ 2 - 1:=by grind
 rw [←e1,←e2,←h]
 grind
theorem dbl_den (p:Ed K.E):1+2 * K.E.d * p.y ^ 2 - K.E.d * p.y ^ 4≠0:=by
 have h1:=p.minus_ne p
 have h2:=ed_one_dy p
 have hx:=ed_x2 p
 have e1:(1 - K.E.d * (p.x * p.x * (p.y * p.y))) * (1+K.E.d * p.y ^ 2)=1+2 * K.E.d * p.y ^ 2 - K.E.d * p.y ^ 4:=by grind
 rw [←e1]
 exact fp_mul_ne h1 h2
end
def fdX (x z:Fp):Fp:=(x+z) * (x+z) * ((x - z) * (x - z))
def fdZ (f x z:Fp):Fp:=((x+z) * (x+z) - (x - z) * (x - z)) * ((x+z) * (x+z)+f * ((x+z) * (x+z) - (x - z) * (x - z)))
def fsX (a b c d:Fp):Fp:=((c - d) * (a+b)+(c+d) * (a - b)) * ((c - d) * (a+b)+(c+d) * (a - b))
def fsZ (u a b c d:Fp):Fp:=u * (((c - d) * (a+b) - (c+d) * (a - b)) * ((c - d) * (a+b) - (c+d) * (a - b)))
theorem rel_dbl1 {l y d f y' den:Fp} (hf:d * (1+f)= -f) (hy:y' * den=d * y ^ 4+2 * y ^ 2 - 1) (hden:den=1+2 * d * y ^ 2 - d * y ^ 4):
  fdX (l * (1+y)) (1 * l * (1 - y))=(8 * l ^ 4 * den * (1+f)) * (1+y')∧fdZ f (l * (1+y)) (1 * l * (1 - y))=1 * (8 * l ^ 4 * den * (1+f)) * (1 - y'):=by
 unfold fdX fdZ
 constructor<;> grind
theorem rel_dbl2 {l y d f y' den:Fp} (hf:d * f= -(1+f)) (hy:y' * den=d * y ^ 4+2 * y ^ 2 - 1) (hden:den=1+2 * d * y ^ 2 - d * y ^ 4):
  fdX (l * (1+y)) (-1 * l * (1 - y))=(-(8 * l ^ 4 * den * f)) * (1+y')∧fdZ f (l * (1+y)) (-1 * l * (1 - y))= -1 * (-(8 * l ^ 4 * den * f)) * (1 - y'):=by
 unfold fdX fdZ
 constructor<;> grind
theorem neg_y {b d x1 y1 x2 y2:Fp} (h:b * (1 - d * (x2 * -x1 * (y2 * y1)))=y2 * y1+x2 * -x1):b * (1+d * (x1 * x2 * (y1 * y2)))=y1 * y2 - x1 * x2:=by grind
theorem unit_y {b d x1 x2:Fp} (o1:(0:Fp) ^ 2 - x1 ^ 2=1+d * x1 ^ 2 * 0 ^ 2) (o2:(0:Fp) ^ 2 - x2 ^ 2=1+d * x2 ^ 2 * 0 ^ 2) (e0:b * (1+d * (x1 * x2 * (0 * 0)))=0 * 0 - x1 * x2):(1 - b) * (1+b)=0:=by grind
theorem both_zero {a b:Fp} (h:a+b=0) (h':a - b=0):a=0∧b=0:=by
 have h2:2 * a=0:=by grind
 have:=(fp_mul_zero h2).resolve_left fp_two_ne
 grind
theorem neg_ne {a:Fp} (h:a≠0): -a≠0:=by intro e;exact h (by grind)
theorem base_rel {s u y:Fp} (h:s * u * (1 - y)=1+y):s * u * (1 - y)=1 * (1+y):=by grind
theorem num_base {s y i:Fp} (hs:s * s=1) (hi:(1 - y) * i=1):s * (s * (1+y) * i) * (1 - y)=1+y:=by grind
theorem num_quot {s l y i j:Fp} (hs:s * s=1) (hi:s * l * (1 - y) * i=1) (hj:(1 - y) * j=1):l * (1+y) * i=s * (1+y) * j:=by
 have h1:s * l * i=j:=by grind
 grind
theorem zero_fac {s y i:Fp} (hs:s * s=1) (hi:(1 - y) * i=1) (h:s * (1+y) * i=0):(1+y) * (1 - y)=0:=by
 have:s * (s * (1+y) * i * (1 - y)) * (1 - y)=0:=by rw [h];grind
 grind
theorem x_zero {d x y:Fp} (h:(1+y) * (1 - y)=0) (hx:x ^ 2 * (1+d * y ^ 2)=y ^ 2 - 1) (hne:1+d * y ^ 2≠0):x=0:=by
 have h2:x ^ 2 * (1+d * y ^ 2)=0:=by grind
 rcases fp_mul_zero h2 with h3 | h3
 ·rcases fp_mul_zero (show x * x=0 by grind) with h | h<;> exact h
 ·exact absurd h3 hne
theorem dbl_zero {d y a b:Fp} (h:(1+y) * (1 - y)=0) (h1:a * (1+d * (0 * 0 * (y * y)))=0 * y+0 * y) (h2:b * (1 - d * (0 * 0 * (y * y)))=y * y+0 * 0):a=0∧b=1:=by
 constructor<;> grind
theorem diff_poly {x1 y1 x2 y2 d:Fp} (h1:y1 ^ 2 - x1 ^ 2=1+d * x1 ^ 2 * y1 ^ 2) (h2:y2 ^ 2 - x2 ^ 2=1+d * x2 ^ 2 * y2 ^ 2):
  ((1 - d * (x1 * x2 * (y1 * y2)))+(y1 * y2+x1 * x2)) * ((1+d * (x1 * x2 * (y1 * y2)))+(y1 * y2 - x1 * x2)) * (y1 - y2) ^ 2=((1 - d * (x1 * x2 * (y1 * y2))) - (y1 * y2+x1 * x2)) * ((1+d * (x1 * x2 * (y1 * y2))) - (y1 * y2 - x1 * x2)) * (y1+y2) ^ 2:=by
 grind
theorem diff_frac {A B C D a b g h:Fp} (ha:a * A=C) (hb:b * B=D) (hA:A≠0) (hB:B≠0) (hp:(A+C) * (B+D) * g=(A - C) * (B - D) * h):(1+a) * (1+b) * g=(1 - a) * (1 - b) * h:=by
 refine fp_cancel (fp_mul_ne hA hB) ?_
 subst ha;subst hb
 have e1:(1+a) * (1+b) * g * (A * B)=(A+a * A) * (B+b * B) * g:=by grind
 have e2:(1 - a) * (1 - b) * h * (A * B)=(A - a * A) * (B - b * B) * h:=by grind
 rw [e1,e2,hp]
theorem rel_of {s y X Z:Fp} (hs:s * s=1) (hne:X≠0∨Z≠0) (h:s * X * (1 - y)=Z * (1+y)):Rel s y X Z:=by
 have hs0:s≠0:=by intro e;exact fp_one_ne (by grind)
 by_cases hy:1+y=0
 ·have hX:X=0:=by
   have h2:s * X * 2=0:=by grind
   rcases fp_mul_zero h2 with h3 | h3
   ·rcases fp_mul_zero h3 with h4 | h4
    ·exact absurd h4 hs0
    ·exact h4
   ·exact absurd h3 fp_two_ne
  have hZ:Z≠0:=hne.resolve_left (fun e=> e hX)
  obtain ⟨w,hw⟩:=fp_inv fp_two_ne
  have hw0:w≠0:=by intro e;exact fp_one_ne (by grind)
  exact ⟨s * w * Z,fp_mul_ne (fp_mul_ne hs0 hw0) hZ,by grind,by grind⟩
 ·obtain ⟨w,hw⟩:=fp_inv hy
  have hw0:w≠0:=by intro e;exact fp_one_ne (by grind)
  have hX:X≠0:=by
   intro e
   have h2:Z * (1+y)=0:=by grind
   rcases fp_mul_zero h2 with h3 | h3
   ·exact hne.elim (fun h=> h e) (fun h=> h h3)
   ·exact hy h3
  exact ⟨X * w,fp_mul_ne hX hw0,by grind,by grind⟩
theorem rel_sum {l m s u y1 y2 y0 yp:Fp} (hs:s=1∨s= -1) (hu:s * u * (1 - y0)=1+y0) (hl:l≠0) (hm:m≠0) (hy:(1+yp) * (1+y0) * (y1 - y2) ^ 2=(1 - yp) * (1 - y0) * (y1+y2) ^ 2) (h1:1 - y0≠0):
  fsX (l * (1+y1)) (s * l * (1 - y1)) (m * (1+y2)) (s * m * (1 - y2))=16 * (l * m) ^ 2 * (y1+y2) ^ 2∧fsZ u (l * (1+y1)) (s * l * (1 - y1)) (m * (1+y2)) (s * m * (1 - y2))=u * (16 * (l * m) ^ 2 * (y1 - y2) ^ 2)∧
   s * (16 * (l * m) ^ 2 * (y1+y2) ^ 2) * (1 - yp)=u * (16 * (l * m) ^ 2 * (y1 - y2) ^ 2) * (1+yp):=by
 unfold fsX fsZ
 have key:s * (y1+y2) ^ 2 * (1 - yp)=u * (y1 - y2) ^ 2 * (1+yp):=by
  refine fp_cancel h1 ?_
  rcases hs with rfl | rfl
  ·grind
  ·grind
 refine ⟨?_,?_,?_⟩
 ·rcases hs with rfl | rfl<;> grind
 ·rcases hs with rfl | rfl<;> grind
 ·grind
end Go.Bas
namespace Go.Bas
section
variable {K : Kind}
theorem two_pow_ne (n:Nat):(2:Fp) ^ n≠0:=by
 induction n with
 | zero=> intro h;exact fp_one_ne (by grind)
 | succ n ih=> intro h;exact fp_mul_ne ih fp_two_ne (by grind)
theorem pow_ne {x:Fp} (hx:x≠0):∀n:Nat,x ^ n≠0
 | 0=> by intro h;exact fp_one_ne (by grind)
 | n+1=> by intro h;exact fp_mul_ne (pow_ne hx n) hx (by grind)
theorem eight_ne:(8:Fp)≠0:=by have h:=two_pow_ne 3;intro e;exact h (by grind)
theorem sixteen_ne:(16:Fp)≠0:=by have h:=two_pow_ne 4;intro e;exact h (by grind)
theorem rel_dbl (p:Ed K.E) {X Z:Fp} (h:Rel K.s p.y X Z):Rel K.s (p.add p).y (fdX X Z) (fdZ K.f X Z):=by
 obtain ⟨l,hl,rfl,rfl⟩:=h
 have hden:=dbl_den p
 have hy:=dbl_y p.on (p.add_y p)
 have hl4:=pow_ne hl 4
 rcases K.hk with hs | hs
 ·obtain ⟨e1,e2⟩:=rel_dbl1 (l:=l) (K.h1 hs) hy rfl
  rw [hs]
  exact ⟨_,fp_mul_ne (fp_mul_ne (fp_mul_ne eight_ne hl4) hden) K.hf1,e1,e2⟩
 ·obtain ⟨e1,e2⟩:=rel_dbl2 (l:=l) (K.h2 hs) hy rfl
  rw [hs]
  exact ⟨_,neg_ne (fp_mul_ne (fp_mul_ne (fp_mul_ne eight_ne hl4) hden) K.hf0),e1,e2⟩
structure IsBase (K:Kind) (p:Ed K.E) (u:Fp):Prop where
 hu:K.s * u * (1 - p.y)=1+p.y
 hm:1 - p.y≠0
 hp:1+p.y≠0
theorem IsBase.u_ne {p:Ed K.E} {u:Fp} (h:IsBase K p u):u≠0:=by
 intro e
 have:=h.hu
 exact h.hp (by grind)
theorem rel_add (p q b:Ed K.E) {u a z c d:Fp} (hb:IsBase K b u) (hq:q=p.add b) (h1:Rel K.s p.y a z) (h2:Rel K.s q.y c d):Rel K.s (p.add q).y (fsX a z c d) (fsZ u a z c d):=by
 obtain ⟨l,hl,rfl,rfl⟩:=h1
 obtain ⟨m,hm,rfl,rfl⟩:=h2
 have hd:q.add p.neg=b:=by rw [hq,Ed.add_comm p b,Ed.add_assoc,Ed.add_neg,Ed.add_zero]
 have ey:=p.add_y q
 have e0:b.y * (1+K.E.d * (p.x * q.x * (p.y * q.y)))=p.y * q.y - p.x * q.x:=by
  have h:=q.add_y p.neg
  rw [hd] at h
  exact neg_y h
 have hfrac:=diff_frac ey e0 (p.minus_ne q) (p.plus_ne q) (diff_poly p.on q.on)
 obtain ⟨r1,r2,r3⟩:=rel_sum (l:=l) (m:=m) (y1:=p.y) (y2:=q.y) (yp:=(p.add q).y) K.hk hb.hu hl hm hfrac hb.hm
 rw [r1,r2]
 refine rel_of K.hs ?_ r3
 by_cases hs:p.y+q.y=0
 ·right
  refine fp_mul_ne hb.u_ne (fp_mul_ne (fp_mul_ne sixteen_ne (pow_ne (fp_mul_ne hl hm) 2)) (pow_ne ?_ 2))
  intro ht
  obtain ⟨hy1,hy2⟩:=both_zero hs ht
  have o1:=p.on
  have o2:=q.on
  rw [hy1] at o1 e0
  rw [hy2] at o2 e0
  exact fp_mul_ne hb.hm hb.hp (unit_y o1 o2 e0)
 ·left
  exact fp_mul_ne (fp_mul_ne sixteen_ne (pow_ne (fp_mul_ne hl hm) 2)) (pow_ne hs 2)
end
theorem toF_dX (x z:Int):toF (dX x z)=fdX (toF x) (toF z):=by
 unfold dX fdX;simp only [toF_mul,toF_add,toF_sub]
theorem toF_dZ (x z:Int):toF (dZ x z)=fdZ (toF 121665) (toF x) (toF z):=by
 unfold dZ fdZ;simp only [toF_mul,toF_add,toF_sub]
theorem toF_sX (a b c d:Int):toF (sX a b c d)=fsX (toF a) (toF b) (toF c) (toF d):=by
 unfold sX fsX;simp only [toF_mul,toF_add,toF_sub]
theorem toF_sZ (u a b c d:Int):toF (sZ u a b c d)=fsZ (toF u) (toF a) (toF b) (toF c) (toF d):=by
 unfold sZ fsZ;simp only [toF_mul,toF_add,toF_sub]
section
variable {K : Kind}
theorem rel_zero {f:Fp} (hK:K.f=f):Rel K.s (Ed.zero:Ed K.E).y 1 0:=by
 obtain ⟨w,hw⟩:=fp_inv fp_two_ne
 have hw0:w≠0:=by intro e;exact fp_one_ne (by grind)
 refine ⟨w,hw0,?_,?_⟩
 ·show (1:Fp)=w * (1+1);grind
 ·show (0:Fp)=K.s * w * (1 - 1);grind
theorem rel_base {p:Ed K.E} {u:Fp} (h:IsBase K p u):Rel K.s p.y u 1:=rel_of K.hs (.inr fp_one_ne) (base_rel h.hu)
theorem lad_rel (hf:K.f=toF 121665) (p:Ed K.E) (n:Nat) (hn:n<2 ^ 255) {u:Int} (hb:IsBase K p (toF u)):∀k,k≤255→
  Rel K.s (p.mul (n / 2 ^ (255 - k))).y (toF (lad n u k).a) (toF (lad n u k).b)∧Rel K.s (p.mul (n / 2 ^ (255 - k)+1)).y (toF (lad n u k).c) (toF (lad n u k).d)
 | 0,_=> by
  rw [show n / 2 ^ (255 - 0)=0 by rw [Nat.sub_zero];exact Nat.div_eq_of_lt hn]
  refine ⟨?_,?_⟩
  ·show Rel K.s (Ed.zero:Ed K.E).y (toF 1) (toF 0)
   rw [toF_one,toF_zero];exact rel_zero rfl
  ·rw [Nat.zero_add,Ed.mul_one]
   show Rel K.s p.y (toF u) (toF 1)
   rw [toF_one];exact rel_base hb
 | k+1,hk=> by
  obtain ⟨h1,h2⟩:=lad_rel hf p n hn hb k (by omega)
  have hbit:(n:Int) / 2 ^ (254 - k) % 2=((n / 2 ^ (254 - k) % 2:Nat):Int):=by simp
  have hst:lad n u (k+1)=(lad n u k).rung u ((n / 2 ^ (254 - k) % 2:Nat):Int):=by rw [←hbit];rfl
  have hN:n / 2 ^ (255 - k)=n / 2 ^ (254 - k) / 2:=by
   rw [show 255 - k=254 - k+1 by omega,Nat.pow_succ,Nat.div_div_eq_div_mul]
  rw [show 255 - (k+1)=254 - k by omega,hst]
  obtain ⟨N,hNN⟩:∃N,N=n / 2 ^ (254 - k):=⟨_,rfl⟩
  rw [←hNN] at hN ⊢
  rw [hN] at h1 h2
  obtain ⟨s,hs⟩:∃s,s=lad n u k:=⟨_,rfl⟩
  rw [←hs] at h1 h2 ⊢
  obtain ⟨M,hM⟩:∃M,M=N / 2:=⟨_,rfl⟩
  rw [←hM] at h1 h2
  have hq:p.mul (M+1)=(p.mul M).add p:=rfl
  have hsum:p.mul (M+(M+1))=(p.mul M).add (p.mul (M+1)):=p.mul_add _ _
  have r1:=rel_add _ _ _ hb hq h1 h2
  rw [←hsum,←toF_sX,←toF_sZ] at r1
  rcases (by omega:N % 2=0∨N % 2=1) with hb0 | hb0
  ·rw [hb0]
   have r2:=rel_dbl _ h1
   rw [←p.mul_add,hf,←toF_dX,←toF_dZ] at r2
   refine ⟨?_,?_⟩
   ·rw [show N=M+M by omega];exact r2
   ·rw [show N+1=M+(M+1) by omega];exact r1
  ·rw [hb0]
   have r2:=rel_dbl _ h2
   rw [←p.mul_add,hf,←toF_dX,←toF_dZ] at r2
   refine ⟨?_,?_⟩
   ·rw [show N=M+(M+1) by omega];exact r1
   ·rw [show N+1=M+1+(M+1) by omega];exact r2
noncomputable def Kind.num (K:Kind) (y:Fp):Fp:=K.s * (1+y) * inv (1 - y)
theorem ladN_num (hf:K.f=toF 121665) (p:Ed K.E) (n:Nat) (hn:n<2 ^ 255) {u:Int} (hb:IsBase K p (toF u)):toF (ladN n u)=K.num (p.mul n).y:=by
 obtain ⟨h1,_⟩:=lad_rel hf p n hn hb 255 (Nat.le_refl _)
 rw [Nat.sub_self,Nat.pow_zero,Nat.div_one] at h1
 unfold ladN Kind.num
 rw [toF_mul,toF_inv]
 obtain ⟨l,hl,e1,e2⟩:=h1
 rw [e1,e2]
 generalize (p.mul n).y=y
 have hs:=K.hs
 have hs0:K.s≠0:=by intro e;exact fp_one_ne (by grind)
 by_cases hy:1 - y=0
 ·rw [hy,show K.s * l * (0:Fp)=0 by grind,inv_none];grind
 ·exact num_quot hs (inv_mul (fp_mul_ne (fp_mul_ne hs0 hl) hy)) (inv_mul hy)
theorem base_mul {p:Ed K.E} (y1:1 - p.y≠0) (y2:1+p.y≠0):IsBase K p (K.num p.y):=by
 exact ⟨num_base K.hs (inv_mul y1),y1,y2⟩
theorem num_zero {p:Ed K.E} (h:K.num p.y=0):p.add p=.zero:=by
 have hy:(1+p.y) * (1 - p.y)=0:=by
  by_cases h1:1 - p.y=0
  ·rw [h1];generalize 1+p.y=z;grind
  ·exact zero_fac K.hs (inv_mul h1) h
 have hx0:=x_zero hy (ed_x2 p) (ed_one_dy p)
 have a1:=p.add_x p
 have a2:=p.add_y p
 rw [hx0] at a1 a2
 obtain ⟨r1,r2⟩:=dbl_zero hy a1 a2
 exact Ed.ext r1 r2
theorem mul_zero_pt:∀n:Nat,(Ed.zero:Ed K.E).mul n=.zero
 | 0=> rfl
 | n+1=> by rw [Ed.mul,mul_zero_pt n,Ed.add_zero]
theorem num_O:K.num (Ed.zero:Ed K.E).y=0:=by
 unfold Kind.num
 show K.s * (1+1) * inv (1 - 1)=0
 have e:∀a:Fp,a - a=0:=by intro a;grind
 rw [e 1,inv_none]
 generalize K.s * (1+1)=z
 grind
end
theorem lad_nought {n:Int} (hn:n / 2 ^ 254 % 2=1):∀k,(lad n 0 (k+1)).a=0∧(lad n 0 (k+1)).b=0∧(lad n 0 (k+1)).d=0
 | 0=> by
  have e:lad n 0 1=(⟨1,0,0,1⟩:Two).rung 0 (n / 2 ^ 254 % 2):=rfl
  rw [e,hn]
  unfold Two.rung
  rw [if_pos rfl]
  exact ⟨rfl,rfl,rfl⟩
 | k+1=> by
  obtain ⟨h1,h2,h3⟩:=lad_nought hn k
  have e:lad n 0 (k+1+1)=(lad n 0 (k+1)).rung 0 (n / 2 ^ (254 - (k+1)) % 2):=rfl
  rw [e]
  generalize lad n 0 (k+1)=s at *
  obtain ⟨a,b,c,d⟩:=s
  simp only at h1 h2 h3
  subst h1;subst h2;subst h3
  unfold Two.rung
  split
  ·exact ⟨by unfold sX;simp,by unfold sZ;simp,by unfold dZ;simp⟩
  ·exact ⟨by unfold dX;simp,by unfold dZ;simp,by unfold sZ;simp⟩
theorem ladN_nought {n:Int} (hn:n / 2 ^ 254 % 2=1) {u:Int} (hu:u % Pr=0):ladN n u % Pr=0:=by
 have h:=lad_cg (n:=n) (u:=u) (u':=0) (show u % Pr=0 % Pr by rw [hu];rfl) 255
 have h0:=(lad_nought hn 254).1
 have h1:Cg (ladN n u) (0 * (lad n u 255).b ^ (PN - 2)):=by
  unfold ladN
  have ha:Cg (lad n u 255).a 0:=h0▸h.1
  exact ha.mul (Cg.refl _)
 rw [Int.zero_mul] at h1
 rw [h1];rfl
theorem num_ne {K:Kind} {y:Fp} (h:K.num y≠0):1 - y≠0∧1+y≠0:=by
 constructor
 ·intro e
  apply h
  unfold Kind.num
  rw [e,inv_none];generalize K.s * (1+y)=z;grind
 ·intro e
  apply h
  unfold Kind.num
  rw [e];generalize inv (1 - y)=z;generalize K.s=s;grind
theorem mul_two_zero {E:NS} {p:Ed E} (h:p.add p=.zero) (t:Nat):p.mul (2 * t)=.zero:=by
 rw [Ed.mul_mul,show p.mul 2=p.add p by show (p.mul 1).add p= _;rw [Ed.mul_one],h]
 have key:∀n:Nat,(Ed.zero:Ed E).mul n=.zero:=by
  intro n
  induction n with
  | zero=> rfl
  | succ n ih=> rw [Ed.mul,ih,Ed.add_zero]
 exact key t
theorem lad_lad {K:Kind} (hf:K.f=toF 121665) (p:Ed K.E) {u:Int} (hb:IsBase K p (toF u)) (m n:Nat) (hm:m<2 ^ 255) (hn:n<2 ^ 255) (h2:m % 2=0) (ht:(m:Int) / 2 ^ 254 % 2=1):
  toF (ladN m (ladN n u % Pr))=K.num (p.mul (n * m)).y:=by
 have h1:=ladN_num hf p n hn hb
 have e1:toF (ladN n u % Pr)=K.num (p.mul n).y:=by rw [←h1];exact toF_eq.2 (Cg.mod _)
 rw [Ed.mul_mul]
 by_cases h0:K.num (p.mul n).y=0
 ·have hz:=num_zero h0
  rw [show m=2 * (m / 2) by omega,mul_two_zero hz,num_O,←toF_zero]
  rw [h0,←toF_zero] at e1
  refine toF_eq.2 ?_
  have:(2 * (m / 2))=m:=by omega
  rw [this]
  exact ladN_nought ht (show ladN n u % Pr % Pr=0 from toF_eq.1 e1)
 ·obtain ⟨y1,y2⟩:=num_ne h0
  have hb':IsBase K (p.mul n) (toF (ladN n u % Pr)):=by rw [e1];exact base_mul y1 y2
  exact ladN_num hf (p.mul n) m hm hb'
end Go.Bas
namespace Go.Bas
def fE:Fp:=toF 121665
theorem fE_one:toF 121666=1+fE:=by
 unfold fE
 rw [←toF_one,←toF_add];rfl
theorem fE_ne:fE≠0:=toF_nz.2 (by decide)
theorem fE_ne1:1+fE≠0:=by rw [←fE_one];exact toF_nz.2 (by decide)
theorem dE_f:dE * (1+fE)= -fE:=by have h:=dE_eq;rwa [fE_one] at h
theorem flip_no {d f r:Fp} (h:d * f= -(1+f)) (hr:r * r=d):(r * f) * (r * f)= -(f * (1+f)):=by grind
noncomputable def d2:Fp:= -((1+fE) * inv fE)
theorem d2_f:d2 * fE= -(1+fE):=quot_mul (inv_mul fE_ne)
theorem d2_sq (r:Fp):r * r≠d2:=by
 intro h
 have h1:=flip_no d2_f h
 obtain ⟨R,rfl⟩:∃R,r=toF R:=⟨_,(toF_of r).symm⟩
 rw [←fE_one] at h1
 unfold fE at h1
 rw [←toF_mul,←toF_mul,←toF_mul,←toF_neg] at h1
 exact no_sq_121 (R * 121665) (toF_eq.1 h1)
theorem dbl_of_neg {a:Fp} (h:a= -a):2 * a=0:=by grind
theorem one_neg:(1:Fp)≠ -1:=fun h=> fp_mul_ne fp_two_ne fp_one_ne (dbl_of_neg h)
noncomputable def K1:Kind:=⟨C7,1,fE,by grind,fun _=> dE_f,fun h=> absurd h one_neg,.inl rfl,fE_ne,fE_ne1⟩
noncomputable def K2:Kind:=⟨⟨d2,d2_sq⟩,-1,fE,by grind,fun h=> absurd h.symm one_neg,fun _=> d2_f,.inr rfl,fE_ne,fE_ne1⟩
theorem k1_on {d f U w v t r:Fp} (hd:d * (1+f)= -f) (hf:1+f≠0) (hw:w * w=U * (U * U+(4 * f+2) * U+1)) (hv:w * v=1) (ht:(U+1) * t=1) (hr:r * r= -(4 * f+4)):
  ((U - 1) * t) ^ 2 - (r * U * v) ^ 2=1+d * (r * U * v) ^ 2 * ((U - 1) * t) ^ 2:=by
 refine fp_cancel hf ?_
 have hv2:U * (U * U+(4 * f+2) * U+1) * (v * v)=1:=by grind
 have hx:(r * U * v) ^ 2= -(4 * f+4) * U ^ 2 * (v * v):=by grind
 rw [hx]
 generalize v * v=q at *
 have e:(1+d * (-(4 * f+4) * U ^ 2 * q) * ((U - 1) * t) ^ 2) * (1+f)=(1+f)+f * (4 * f+4) * U ^ 2 * q * ((U - 1) * t) ^ 2:=by grind
 rw [e]
 grind
theorem k2_on {d f U w v t m:Fp} (hd:d * f= -(1+f)) (hf:f≠0) (hm:m=U * (U * U+(4 * f+2) * U+1)) (hw:w * w= -(4 * f) * m) (hv:m * v=1) (ht:(U - 1) * t=1):
  ((U+1) * t) ^ 2 - (U * w * v) ^ 2=1+d * (U * w * v) ^ 2 * ((U+1) * t) ^ 2:=by
 refine fp_cancel hf ?_
 have hx:(U * w * v) ^ 2= -(4 * f) * U ^ 2 * v:=by grind
 rw [hx]
 have e:(1+d * (-(4 * f) * U ^ 2 * v) * ((U+1) * t) ^ 2) * f=f+(1+f) * (4 * f) * U ^ 2 * v * ((U+1) * t) ^ 2:=by grind
 rw [e]
 subst hm
 grind
theorem sqN_mul (X Y:Int):sqN (X * Y)=sqN X * sqN Y:=by unfold sqN;exact Int.mul_pow ..
theorem sqN_one {X:Int} (h:X % Pr≠0):sqN X % Pr=1 % Pr∨sqN X % Pr= -1 % Pr:=by
 have e:sqN X * sqN X=X ^ (PN - 1):=by
  unfold sqN
  rw [←Int.pow_add];congr 1
 exact two_roots (by rw [e,fermat_Pr h];decide)
theorem root_of {X:Int} (h:sqN X % Pr=1):∃R:Int,Cg (R * R) X:=by
 have h1:isSq X=true:=by unfold isSq;rw [Bool.or_eq_true];exact .inr (decide_eq_true h)
 rcases rt_cases h1 with h2 | h2
 ·exact ⟨_,h2⟩
 ·exact ⟨_,h2⟩
theorem sqN_nat {n:Nat} {e:Nat} (h:powmod PN 256 n ((PN - 1) / 2) 1 % PN=e):sqN (n:Int) % Pr=(e:Int):=by
 have h3:=powmod_eq PN 256 n ((PN - 1) / 2) 1 (by decide+kernel)
 rw [Nat.one_mul] at h3
 unfold sqN
 rw [int_pow_nat,←h3,h]
theorem sq_neg4f:powmod PN 256 (PN - 486660) ((PN - 1) / 2) 1 % PN=PN - 1:=by decide+kernel
theorem sq_disc:powmod PN 256 (486660 * 486664) ((PN - 1) / 2) 1 % PN=PN - 1:=by decide+kernel
theorem sq_4f:powmod PN 256 486660 ((PN - 1) / 2) 1 % PN=PN - 1:=by decide+kernel
theorem not_sq {n:Nat} (h:powmod PN 256 n ((PN - 1) / 2) 1 % PN=PN - 1) (hn:n % PN≠0) (R:Int):¬ Cg (R * R) (n:Int):=by
 intro hR
 have h1:=sq_isSq (R:=R) (X:=n) hR
 unfold isSq at h1
 rw [sqN_nat h] at h1
 simp only [Bool.or_eq_true,decide_eq_true_eq] at h1
 rcases h1 with h1 | h1
 ·rw [Pr_PN,←Int.natCast_emod] at h1;omega
 ·have:PN - 1=1:=by omega
  exact absurd this (by decide)
theorem neg4f_nat:((PN - 486660:Nat):Int)=Pr - 486660:=by
 rw [Pr_PN]
 have:486660≤PN:=by decide
 omega
def mont (u:Int):Int:=u * (u * u+486662 * u+1)
theorem mont_ne {u:Int} (h:u % Pr≠0):mont u % Pr≠0:=by
 intro h0
 unfold mont at h0
 rcases mul_zero_Pr h0 with h1 | h1
 ·exact h h1
 ·have h2:Cg ((2 * u+486662) * (2 * u+486662)) (((486660 * 486664:Nat)):Int):=by
   have e:(2 * u+486662) * (2 * u+486662)=4 * (u * u+486662 * u+1)+((486660 * 486664:Nat):Int):=by
    rw [show ((486660 * 486664:Nat):Int)=486660 * 486664 by rfl];grind
   rw [e]
   have h3:Cg (4 * (u * u+486662 * u+1)) (4 * 0):=(Cg.refl 4).mul (show _ % Pr=0 % Pr by rw [h1];rfl)
   have h4:=h3.add (Cg.refl ((486660 * 486664:Nat):Int))
   rwa [Int.mul_zero,Int.zero_add] at h4
  exact not_sq sq_disc (by decide) _ h2
def r1:Int:=6853475219497561581579357271197624642482790079785650197046958215289687604742
theorem r1_sq:Cg (r1 * r1) (-486664):=by unfold Cg r1;decide+kernel
theorem toF_f4:toF (-486664)= -(4 * fE+4):=by
 have e:(-486664:Int)= -((1+1+1+1) * 121665+(1+1+1+1)):=by decide
 rw [e,toF_neg,toF_add,toF_mul,toF_add,toF_add,toF_add,toF_one]
 show -((1+1+1+1) * fE+(1+1+1+1))= -(4 * fE+4)
 grind
theorem toF_mont (u:Int):toF (mont u)=toF u * (toF u * toF u+(4 * fE+2) * toF u+1):=by
 unfold mont
 have e:(486662:Int)=(1+1+1+1) * 121665+(1+1):=by decide
 rw [e]
 simp only [toF_mul,toF_add,toF_one]
 show toF u * (toF u * toF u+((1+1+1+1) * fE+(1+1)) * toF u+1)= _
 generalize toF u=U
 generalize fE=f
 grind
theorem toF_n4f:toF (-486660)= -(4 * fE):=by
 have e:(-486660:Int)= -((1+1+1+1) * 121665):=by decide
 rw [e,toF_neg,toF_mul,toF_add,toF_add,toF_add,toF_one]
 show -((1+1+1+1) * fE)= -(4 * fE)
 generalize fE=f
 grind
theorem base_1 {U t:Fp} (ht:(U+1) * t=1) (hU:U≠0):1 * U * (1 - (U - 1) * t)=1+(U - 1) * t∧1 - (U - 1) * t≠0∧1+(U - 1) * t≠0:=by
 have ht0:t≠0:=by intro e;exact fp_one_ne (by grind)
 refine ⟨by grind,?_,?_⟩
 ·intro e
  exact fp_mul_ne fp_two_ne ht0 (by grind)
 ·intro e
  exact fp_mul_ne fp_two_ne (fp_mul_ne hU ht0) (by grind)
theorem base_2 {U t:Fp} (ht:(U - 1) * t=1) (hU:U≠0): -1 * U * (1 - (U+1) * t)=1+(U+1) * t∧1 - (U+1) * t≠0∧1+(U+1) * t≠0:=by
 have ht0:t≠0:=by intro e;exact fp_one_ne (by grind)
 refine ⟨by grind,?_,?_⟩
 ·intro e
  exact fp_mul_ne fp_two_ne ht0 (by grind)
 ·intro e
  exact fp_mul_ne fp_two_ne (fp_mul_ne hU ht0) (by grind)
theorem fp_zz:(0:Fp) * 0=0:=by grind
theorem Cg.mont {u v:Int} (h:Cg u v):Cg (mont u) (mont v):=h.mul (((h.mul h).add ((Cg.refl 486662).mul h)).add (Cg.refl 1))
def r2:Int:=48802004052532134862652268456126542835229456083994414501085850622543968879637
theorem r2_sq:Cg (r2 * r2) 486664:=by unfold Cg r2;decide+kernel
theorem exists_base {u:Int} (h:u % Pr≠0):∃(K:Kind) (p:Ed K.E),K.f=toF 121665∧IsBase K p (toF u):=by
 have hU:toF u≠0:=toF_nz.2 h
 have hm:=mont_ne h
 have hM:=toF_mont u
 rcases sqN_one hm with hs | hs
 ·obtain ⟨W,hW⟩:=root_of (X:=mont u) (by rw [hs];decide)
  have hw:toF W * toF W=toF u * (toF u * toF u+(4 * fE+2) * toF u+1):=by rw [←toF_mul,←hM];exact toF_eq.2 hW
  have hw0:toF W≠0:=by
   intro e
   rw [e,fp_zz,←hM] at hw
   exact toF_nz.2 hm hw.symm
  have hu1:toF u+1≠0:=by
   rw [←toF_one,←toF_add]
   refine toF_nz.2 fun e=> ?_
   have e1:Cg u (-1):=by
    have:=(show Cg (u+1) 0 from e).sub (Cg.refl 1)
    rwa [show u+1 - 1=u by omega] at this
   have e2:=hW.trans e1.mont
   exact not_sq (n:=486660) sq_4f (by decide) W e2
  obtain ⟨t,ht⟩:=fp_inv hu1
  obtain ⟨v,hv⟩:=fp_inv hw0
  have hr:toF r1 * toF r1= -(4 * fE+4):=by rw [←toF_mul,←toF_f4];exact toF_eq.2 r1_sq
  obtain ⟨b1,b2,b3⟩:=base_1 ht hU
  exact ⟨K1,⟨toF r1 * toF u * v,(toF u - 1) * t,k1_on dE_f fE_ne1 hw hv ht hr⟩,rfl,b1,b2,b3⟩
 ·have h4:sqN (-486660) % Pr= -1 % Pr:=by
   have e:sqN (-486660) % Pr=sqN ((PN - 486660:Nat):Int) % Pr:=by
    refine Cg.pow ?_ _
    rw [neg4f_nat]
    exact mod_eq_of (c:= -1) (by omega)
   rw [e,sqN_nat sq_neg4f]
   decide+kernel
  obtain ⟨W,hW⟩:=root_of (X:= -486660 * mont u) (by
   rw [sqN_mul,Int.mul_emod,h4,hs];decide+kernel)
  have hw:toF W * toF W= -(4 * fE) * toF (mont u):=by rw [←toF_mul,←toF_n4f,←toF_mul];exact toF_eq.2 hW
  have hm0:toF (mont u)≠0:=toF_nz.2 hm
  have hu1:toF u - 1≠0:=by
   rw [←toF_one,←toF_sub]
   refine toF_nz.2 fun e=> ?_
   have e1:Cg u 1:=by
    have:=(show Cg (u - 1) 0 from e).add (Cg.refl 1)
    rwa [show u - 1+1=u by omega] at this
   have e2:Cg (r2 * r2) (mont u):=r2_sq.trans (show Cg 486664 (mont u) from (e1.mont).symm)
   have e3:=sq_isSq e2
   unfold isSq at e3
   simp only [Bool.or_eq_true,decide_eq_true_eq] at e3
   rcases e3 with e3 | e3
   ·exact hm e3
   ·rw [e3] at hs;exact absurd hs (by decide+kernel)
  obtain ⟨t,ht⟩:=fp_inv hu1
  obtain ⟨v,hv⟩:=fp_inv hm0
  obtain ⟨b1,b2,b3⟩:=base_2 ht hU
  exact ⟨K2,⟨toF u * toF W * v,(toF u+1) * t,k2_on d2_f fE_ne hM hw hv ht⟩,rfl,b1,b2,b3⟩
theorem meets (m n:Nat) (hm:m<2 ^ 255) (hn:n<2 ^ 255) (hm2:m % 2=0) (hn2:n % 2=0) (hmt:(m:Int) / 2 ^ 254 % 2=1) (hnt:(n:Int) / 2 ^ 254 % 2=1) (u:Int):
  ladN m (ladN n u % Pr) % Pr=ladN n (ladN m u % Pr) % Pr:=by
 by_cases hu:u % Pr=0
 ·have h1:=ladN_nought hnt hu
  have h2:=ladN_nought hmt hu
  rw [ladN_nought hmt (by rw [h1];rfl),ladN_nought hnt (by rw [h2];rfl)]
 ·obtain ⟨K,p,hf,hb⟩:=exists_base hu
  have h1:=lad_lad hf p hb m n hm hn hm2 hmt
  have h2:=lad_lad hf p hb n m hn hm hn2 hnt
  rw [Nat.mul_comm m n,←h1] at h2
  exact (toF_eq.1 h2).symm
theorem clamp_nat (S:Int):∃m:Nat,clampN S=(m:Int)∧m<2 ^ 255∧m % 2=0∧(m:Int) / 2 ^ 254 % 2=1:=by
 have h0:0≤clampN S∧clampN S<2 ^ 255∧clampN S % 2=0∧clampN S / 2 ^ 254 % 2=1:=by unfold clampN;omega
 obtain ⟨h0,h1,h2,h3⟩:=h0
 obtain ⟨m,hm⟩:=Int.eq_ofNat_of_zero_le h0
 refine ⟨m,hm,?_,?_,by rw [←hm];exact h3⟩
 ·rw [hm] at h1;omega
 ·rw [hm] at h2;omega
theorem ladN_mod255 (n u:Int):ladN n (u % Pr % 2 ^ 255) % Pr=ladN n (u % Pr) % Pr:=by
 have h:u % Pr % 2 ^ 255=u % Pr:=by
  have h0:=Int.emod_nonneg u (show Pr≠0 by decide)
  have h1:=Int.emod_lt_of_pos u Pr_pos
  have h2:Pr<2 ^ 255:=by decide
  exact Int.emod_eq_of_lt h0 (by omega)
 rw [h]
theorem clamp_meets (S T u:Int):ladN (clampN S) (ladN (clampN T) u % Pr % 2 ^ 255) % Pr=ladN (clampN T) (ladN (clampN S) u % Pr % 2 ^ 255) % Pr:=by
 rw [ladN_mod255,ladN_mod255]
 obtain ⟨m,e1,a1,a2,a3⟩:=clamp_nat S
 obtain ⟨n,e2,b1,b2,b3⟩:=clamp_nat T
 rw [e1,e2]
 exact meets m n a1 b1 a2 b2 a3 b3 u
end Go.Bas
