/-
  Part 3 of the texts that the proof of RegressReach rests on, one after the other. Conditions: named in each theorem.
-/
import Derived.BigQuiet
import Derived.Deep.QuietTactic
import Derived.Lib.Hide
import Derived.Test.YtpcjekgfnfjbpaaKit
import Derived.WalkKit
import Derived.WalkLawsBesides
import Derived.WalkSmall
import Derived.WalkSpells
set_option linter.unusedVariables false
set_option linter.unusedSimpArgs false
namespace Go.Bas
def sm (B:Int) (f:Nat→Int):Nat→Int
 | 0=> 0
 | n+1=> sm B f n+f n * B ^ n
def dg (B X:Int) (i:Nat):Int:=X / B ^ i % B
theorem pow_pos' {B:Int} (hB:0<B) (n:Nat):0<B ^ n:=Int.pow_pos hB
theorem div_succ {B:Int} (hB:0<B) (X:Int) (i:Nat):X / B ^ (i+1)=X / B ^ i / B:=by
 rw [Int.pow_succ,Int.ediv_ediv_of_nonneg (Int.le_of_lt (pow_pos' hB i))]
theorem dg_bound {B:Int} (hB:0<B) (X:Int) (i:Nat):0≤dg B X i∧dg B X i<B:=⟨Int.emod_nonneg _ (by omega),Int.emod_lt_of_pos _ hB⟩
theorem sm_congr {B:Int} {f g:Nat→Int} {n:Nat} (h:∀i,i<n→f i=g i):sm B f n=sm B g n:=by
 induction n with
 | zero=> rfl
 | succ n ih=> rw [sm,sm,ih fun i hi=> h i (by omega),h n (by omega)]
theorem sm_bound {B:Int} (hB:0<B) {f:Nat→Int} {n:Nat} (h:∀i,i<n→0≤f i∧f i<B):0≤sm B f n∧sm B f n<B ^ n:=by
 induction n with
 | zero=> simp [sm]
 | succ n ih=>
  have h1:=ih fun i hi=> h i (by omega)
  have h2:=h n (by omega)
  have hp:=pow_pos' hB n
  rw [sm,Int.pow_succ]
  constructor
  ·have:=Int.mul_nonneg h2.1 (Int.le_of_lt hp);omega
  ·have h3:f n * B ^ n≤(B - 1) * B ^ n:=Int.mul_le_mul_of_nonneg_right (by omega) (Int.le_of_lt hp)
   rw [Int.sub_mul,Int.one_mul] at h3
   rw [Int.mul_comm (B ^ n) B]
   omega
theorem split_at {B:Int} (X:Int) (n:Nat):X=X % B ^ n+X / B ^ n * B ^ n:=by
 have:=Int.emod_add_mul_ediv X (B ^ n)
 rw [Int.mul_comm] at this
 omega
theorem mod_succ {B:Int} (hB:0<B) (X:Int) (n:Nat):X % B ^ (n+1)=X % B ^ n+dg B X n * B ^ n:=by
 have h1:=split_at (B:=B) X n
 have h2:=split_at (B:=B) X (n+1)
 have h3:=Int.emod_add_mul_ediv (X / B ^ n) B
 rw [div_succ hB] at h2
 unfold dg
 generalize X / B ^ n=q at *
 have:q * B ^ n=q % B * B ^ n+q / B * B ^ (n+1):=by
  rw [Int.pow_succ]
  calc q * B ^ n=(q % B+B * (q / B)) * B ^ n:=by rw [h3]
   _=q % B * B ^ n+q / B * (B ^ n * B):=by rw [Int.add_mul];congr 1;rw [Int.mul_comm B,Int.mul_assoc,Int.mul_comm B]
 omega
theorem sm_dg {B:Int} (hB:0<B) (X:Int) (n:Nat):sm B (dg B X) n=X % B ^ n:=by
 induction n with
 | zero=> simp [sm,Int.emod_one]
 | succ n ih=> rw [sm,ih,mod_succ hB]
theorem dg_add {B:Int} (hB:0<B) (X Y:Int) (n i:Nat) (h:i<n):dg B (X+Y * B ^ n) i=dg B X i:=by
 unfold dg
 obtain ⟨d,rfl⟩:=Nat.exists_eq_add_of_le h
 have hp:=pow_pos' hB i
 rw [show B ^ (i.succ+d)=B ^ i * (B * B ^ d) by rw [←Int.pow_succ',←Int.pow_add];congr 1;omega]
 rw [show Y * (B ^ i * (B * B ^ d))=Y * B ^ d * B * B ^ i by
  rw [Int.mul_comm (B ^ i),←Int.mul_assoc,Int.mul_comm B,←Int.mul_assoc]]
 rw [Int.add_mul_ediv_right _ _ (by omega),Int.add_mul_emod_self_right]
theorem dg_sm {B:Int} (hB:0<B) {f:Nat→Int} {n:Nat} (h:∀i,i<n→0≤f i∧f i<B):∀i,i<n→dg B (sm B f n) i=f i:=by
 induction n with
 | zero=> intro i hi;omega
 | succ n ih=>
  intro i hi
  by_cases e:i=n
  ·subst e
   have hb:=sm_bound hB fun j hj=> h j (Nat.lt_succ_of_lt hj)
   have hp:=pow_pos' hB i
   rw [sm,dg,Int.add_mul_ediv_right _ _ (by omega),Int.ediv_eq_zero_of_lt hb.1 hb.2,Int.zero_add]
   exact Int.emod_eq_of_lt (h i hi).1 (h i hi).2
  ·rw [sm,dg_add hB _ _ _ _ (by omega)]
   exact ih (fun j hj=> h j (by omega)) i (by omega)
theorem dg_mod {B:Int} (hB:0<B) (X:Int) (n i:Nat) (h:i<n):dg B (X % B ^ n) i=dg B X i:=by
 conv=> rhs;rw [split_at (B:=B) X n]
 rw [dg_add hB _ _ _ _ h]
theorem dg_small {B X:Int} {i:Nat} (h:0≤X∧X<B ^ i):dg B X i=0:=by
 unfold dg;rw [Int.ediv_eq_zero_of_lt h.1 h.2];rfl
end Go.Bas
namespace Go.Bas
theorem dg_nil (B:Int) (i:Nat):dg B 0 i=0:=by simp [dg]
end Go.Bas
namespace Go.Bas
theorem upd_at (f:Nat→Int) (p:Nat) (v:Int):upd f p v p=v:=if_pos rfl
theorem upd_ne (f:Nat→Int) {p i:Nat} (v:Int) (h:i≠p):upd f p v i=f i:=if_neg h
theorem upd_upd (f:Nat→Int) (p:Nat) (u v:Int) (i:Nat):upd (upd f p u) p v i=upd f p v i:=by
 unfold upd;split<;> rfl
theorem sm_zero' (B:Int):∀n,sm B (fun _=> 0) n=0
 | 0=> rfl
 | n+1=> by rw [sm,sm_zero' B n];simp
theorem sm_lin (B:Int) (f g:Nat→Int) (a b:Int):∀n,sm B (fun i=> a * f i+b * g i) n=a * sm B f n+b * sm B g n
 | 0=> by simp [sm]
 | n+1=> by
  rw [sm,sm,sm,sm_lin B f g a b n]
  generalize B ^ n=p
  grind
theorem sm_split (B:Int) (f:Nat→Int) (m:Nat):∀n,sm B f (m+n)=sm B f m+B ^ m * sm B (fun i=> f (m+i)) n
 | 0=> by simp [sm]
 | n+1=> by
  rw [←Nat.add_assoc,sm,sm,sm_split B f m n,Int.pow_add]
  grind
end Go.Bas
namespace Go.Bas
open Go.RowKit
def Placed (w:World) (v v':Value):Prop:=v'.ownBlock=v.ownBlock∨∀b,v'.ownBlock=some b→w.heap.size≤b
theorem run_append_place {P:Program} (w:World) (base:Nat) (t ty e:TypeId) (i:TypeInfo) (z:Value) (size bytes:Nat) (ht:P.underlying t=some (.slice e)) (hi:P.info? e=some i) (hz:i.zero=some z)
  (hsize:i.size=size) (hby:i.bytes=bytes) (hzs:z.cells.size=size) (hsz:0<size)
  (v:Value) (n:Nat) (xs:List Value) (hown:w.ownsRow base e size v n xs)
  (a:Addr) (m c:Nat) (news:List Value) (hl:news.length=m * size) (hnews:∀j u,news[j]? =some u→w.cell? (a.add j)=some u) (h1:∀u ∈ news,u.oneCell'=true)
  (h63:n+m≤maxLen) (hbytes:(n+m) * bytes≤140737488355328) (v':Value) (w':World) (hrun:(Builtin.append_ #[t,t] ty #[v,.slice (some a) m c]).run P w=.ok v' w'):Placed w v v':=by
 subst hsize
 subst hby
 have hsmall:n+m≤9223372036854775807:=by simp only [maxLen] at h63;omega
 rcases hown.2 with ⟨rfl,rfl⟩ | ⟨g,cap,cur,rfl,hbg,hg,hnc,hcm,hcs,htake⟩
 ·have hx:xs= [] :=List.eq_nil_of_length_eq_zero (by simpa using hown.1)
  subst hx
  by_cases hm:m=0
  ·subst hm
   have hn:news= [] :=List.eq_nil_of_length_eq_zero (by simpa using hl)
   subst hn
   have hr:(Builtin.append_ #[t,t] ty #[.slice none 0 0,.slice (some a) 0 c]).run P w=.ok (.slice none 0 0) w:=by
    simp [Builtin.append_,run_underlying ht,sizeOf,typeInfo,hi,Builtin.lenOf,Builtin.firstCells,loadCells,loadCellsFrom]
   rw [hr] at hrun
   cases hrun
   exact .inl rfl
  ·have hr:=run_append_nil (P:=P) w t ty e i z ht hi hz a m c news hl hnews (by omega) (by omega) (by have hb:=hbytes;simp only [Nat.zero_add] at hb;omega)
   rw [hr] at hrun
   cases hrun
   refine .inr fun b hb=> ?_
   simp [Value.ownBlock] at hb
   omega
 ·by_cases hroom:n+m≤cap
  ·have hfit:n * i.size+news.length≤cur.size:=by rw [hl,hcs,←Nat.add_mul];exact Nat.mul_le_mul_right _ hroom
   have hr:=run_append_room (P:=P) w t ty e i ht hi g n cap cur hg a m c news hl hnews h1 hroom hfit
   rw [hr] at hrun
   cases hrun
   exact .inl rfl
  ·have holds:∀j u,xs[j]? =some u→w.cell? ((⟨g,0,none⟩:Addr).add j)=some u:=hown.cells (g:=g) rfl
   have hr:=run_append_grow (P:=P) w t ty e i z ht hi hz ⟨g,0,none⟩ n cap xs hown.1 holds a m c news hl hnews (by omega) (by omega) (growslice_fits (by omega) hbytes)
   rw [hr] at hrun
   cases hrun
   refine .inr fun b hb=> ?_
   simp [Value.ownBlock] at hb
   omega
end Go.Bas
namespace Go.Bas
def PP:Int:=2 ^ 130 - 5
theorem p130:(2:Int) ^ 130=256 ^ 16 * 4:=by decide
theorem modPP_of {a b c:Int} (h:a=b+PP * c):a % PP=b % PP:=by rw [h,Int.add_mul_emod_self_left]
def cu (f:Nat→Int):Nat→Int
 | 0=> 0
 | i+1=> (f i+cu f i) / 256
theorem cu_sm (f:Nat→Int):∀k,cu f k=sm 256 f k / 256 ^ k
 | 0=> by simp [cu,sm]
 | k+1=> by
  rw [cu,cu_sm f k,sm,div_succ (by decide),Int.add_mul_ediv_right _ _ (by have:=pow_pos' (by decide:(0:Int)<256) k;omega)]
  congr 1;omega
theorem cu_digit (f:Nat→Int) {n k:Nat} (h:k<n):(f k+cu f k) % 256=dg 256 (sm 256 f n) k:=by
 obtain ⟨d,rfl⟩:∃d,n=(k+1)+d:=⟨n - (k+1),by omega⟩
 rw [sm_split,Int.mul_comm (256 ^ (k+1)),dg_add (by decide) _ _ _ _ (by omega)]
 unfold dg
 rw [sm,Int.add_mul_ediv_right _ _ (by have:=pow_pos' (by decide:(0:Int)<256) k;omega),cu_sm]
 congr 1;omega
theorem cu_top (f:Nat→Int) (k:Nat):f k+cu f k=sm 256 f (k+1) / 256 ^ k:=by
 rw [sm,Int.add_mul_ediv_right _ _ (by have:=pow_pos' (by decide:(0:Int)<256) k;omega),cu_sm];omega
theorem cu_bound {f:Nat→Int} {M:Int} (n:Nat) (hf:∀i,i<n→0≤f i∧f i≤M) (hM:0≤M):∀k,k≤n→0≤cu f k∧cu f k≤M:=by
 intro k
 induction k with
 | zero=> intro _;exact ⟨Int.le_refl _,hM⟩
 | succ k ih=>
  intro hk
  have a:=ih (by omega)
  have b:=hf k (by omega)
  unfold cu;omega
def pd (V:Int):Nat→Int:=fun i=> if i<16 then dg 256 V i else V / 256 ^ 16
theorem pd_low (V:Int) {i:Nat} (h:i<16):pd V i=dg 256 V i:=if_pos h
theorem pd_top (V:Int):pd V 16=V / 256 ^ 16:=if_neg (by decide)
theorem sm_pd (V:Int):sm 256 (pd V) 17=V:=by
 rw [sm,pd_top,sm_congr (g:=dg 256 V) (fun i hi=> pd_low V hi),sm_dg (by decide)]
 have:=Int.emod_add_mul_ediv V (256 ^ 16)
 rw [Int.mul_comm] at this
 exact this
theorem pd_dg {V:Int} (h0:0≤V) (h1:V<256 ^ 17):∀i,i<17→pd V i=dg 256 V i:=by
 intro i hi
 by_cases e:i<16
 ·exact pd_low V e
 ·obtain rfl:i=16:=by omega
  rw [pd_top];unfold dg
  have h2:V / 256 ^ 16<256:=Int.ediv_lt_of_lt_mul (by decide) (by omega)
  have h3:0≤V / 256 ^ 16:=Int.ediv_nonneg h0 (by decide)
  omega
def fold5 (V:Int):Int:=V % 2 ^ 130+5 * (V / 2 ^ 130)
theorem fold5_mod (V:Int):fold5 V % PP=V % PP:=by
 unfold fold5
 have h:=Int.emod_add_mul_ediv V (2 ^ 130)
 refine modPP_of (c:= -(V / 2 ^ 130)) ?_
 have e:(2:Int) ^ 130=PP+5:=by decide
 rw [e] at h ⊢
 generalize V / (PP+5)=q at *
 generalize V % (PP+5)=r at *
 rw [Int.mul_neg]
 rw [Int.add_mul] at h
 omega
theorem fold5_bound {V:Int} (h0:0≤V) (h1:V<2 ^ 130 * 1000000000):0≤fold5 V∧fold5 V<2 ^ 130+5000000000:=by
 unfold fold5
 have h2:=Int.emod_nonneg V (show (2:Int) ^ 130≠0 by decide)
 have h3:=Int.emod_lt_of_pos V (show (0:Int)<2 ^ 130 by decide)
 have h4:V / 2 ^ 130<1000000000:=Int.ediv_lt_of_lt_mul (by decide) (by omega)
 have h5:=Int.ediv_nonneg h0 (show (0:Int)≤2 ^ 130 by decide)
 omega
theorem fold5_twice {V:Int} (h0:0≤V) (h1:V<2 ^ 130+5000000000):0≤fold5 V∧fold5 V<2 ^ 130:=by
 unfold fold5
 have hp:(10000000000:Int)<2 ^ 130:=by decide
 have h2:=Int.emod_nonneg V (show (2:Int) ^ 130≠0 by decide)
 have h3:=Int.emod_lt_of_pos V (show (0:Int)<2 ^ 130 by decide)
 have h4:=Int.emod_add_mul_ediv V (2 ^ 130)
 generalize (2:Int) ^ 130=p at *
 have h5:0≤V / p:=Int.ediv_nonneg h0 (by omega)
 have h6:V / p<2:=Int.ediv_lt_of_lt_mul (by omega) (by omega)
 rcases (by omega:V / p=0∨V / p=1) with h7 | h7<;> rw [h7] at h4 ⊢<;> omega
def carB (X b:Int) (k:Nat):Int:=(X+b) / 256 ^ k - X / 256 ^ k
theorem carB_zero (X b:Int):carB X b 0=b:=by simp [carB];omega
theorem carB_step (X b:Int) (k:Nat):(dg 256 X k+carB X b k) % 256=dg 256 (X+b) k∧(dg 256 X k+carB X b k) / 256=carB X b (k+1):=by
 unfold carB dg
 rw [div_succ (by decide) X,div_succ (by decide) (X+b)]
 omega
theorem carB_bound {X b:Int} (hb:0≤b):∀k,0≤carB X b k∧carB X b k≤b
 | 0=> by rw [carB_zero];omega
 | k+1=> by
  have h:=carB_bound (X:=X) hb k
  have h2:=(carB_step X b k).2
  have h3:=dg_bound (by decide:(0:Int)<256) X k
  omega
theorem fold_parts (V:Int):(∀i,i<16→dg 256 (V % 256 ^ 16+5 * (V / 256 ^ 16 / 4)) i=pd (fold5 V) i)∧V / 256 ^ 16 % 4+carB (V % 256 ^ 16) (5 * (V / 256 ^ 16 / 4)) 16=pd (fold5 V) 16:=by
 have e1:V / 2 ^ 130=V / 256 ^ 16 / 4:=by rw [p130,Int.ediv_ediv_of_nonneg (by decide)]
 have e2:V % 2 ^ 130=V % 256 ^ 16+V / 256 ^ 16 % 4 * 256 ^ 16:=by
  have h1:=Int.emod_add_mul_ediv V (2 ^ 130)
  have h2:=Int.emod_add_mul_ediv V (256 ^ 16)
  have h3:=Int.emod_add_mul_ediv (V / 256 ^ 16) 4
  rw [e1,p130] at h1
  rw [p130]
  generalize (256:Int) ^ 16=p at *
  generalize V / p=q at *
  have h4:p * q=p * (q % 4)+p * 4 * (q / 4):=by
   conv=> lhs;rw [←h3]
   rw [Int.mul_add,Int.mul_assoc]
  rw [Int.mul_comm (q % 4)]
  omega
 have e3:fold5 V=V % 256 ^ 16+5 * (V / 256 ^ 16 / 4)+V / 256 ^ 16 % 4 * 256 ^ 16:=by unfold fold5;rw [e1,e2];omega
 constructor
 ·intro i hi
  rw [pd_low _ hi,e3,dg_add (by decide) _ _ _ _ hi]
 ·rw [pd_top,e3,Int.add_mul_ediv_right _ _ (by decide)]
  unfold carB
  have h2:=Int.emod_nonneg V (show (256:Int) ^ 16≠0 by decide)
  have h3:=Int.emod_lt_of_pos V (show (0:Int)<256 ^ 16 by decide)
  rw [Int.ediv_eq_zero_of_lt h2 h3]
  omega
def rowP (g:Nat→Int) (j i:Nat):Int:=if j≤i then g (i - j) else 320 * g (i+17 - j)
theorem sm_shift (B:Int) (f:Nat→Int) (x:Int):∀n,sm B (fun i=> if i=0 then x else f (i - 1)) (n+1)=x+B * sm B f n
 | 0=> by simp [sm]
 | n+1=> by
  rw [sm,sm_shift B f x n,sm,if_neg (by omega),Int.pow_succ,show n+1 - 1=n by omega]
  generalize B ^ n=p
  grind
theorem rowP_succ (g:Nat→Int) (j:Nat) (hj:j≤16):∀i,i<17→rowP g (j+1) i=if i=0 then 320 * rowP g j 16 else rowP g j (i - 1):=by
 intro i hi
 unfold rowP
 by_cases e:i=0
 ·subst e
  rw [if_neg (by omega),if_pos rfl,if_pos hj,show 0+17 - (j+1)=16 - j by omega]
 ·rw [if_neg e]
  by_cases h:j+1≤i
  ·rw [if_pos h,if_pos (by omega),show i - (j+1)=i - 1 - j by omega]
  ·rw [if_neg h,if_neg (by omega),show i+17 - (j+1)=i - 1+17 - j by omega]
theorem sm_rowP (g:Nat→Int):∀j,j≤17→sm 256 (rowP g j) 17 % PP=256 ^ j * sm 256 g 17 % PP:=by
 intro j
 induction j with
 | zero=>
  intro _
  rw [Int.pow_zero,Int.one_mul,sm_congr (fun i _=> show rowP g 0 i=g i by unfold rowP;rw [if_pos (Nat.zero_le _),Nat.sub_zero])]
 | succ j ih=>
  intro hj
  have h:=ih (by omega)
  rw [sm_congr (rowP_succ g j (by omega)),sm_shift]
  have e1:sm 256 (rowP g j) 17=sm 256 (rowP g j) 16+rowP g j 16 * 256 ^ 16:=rfl
  have e2:320 * rowP g j 16+256 * sm 256 (rowP g j) 16=256 * sm 256 (rowP g j) 17+PP * (-64 * rowP g j 16):=by
   have h3:(256:Int) * 256 ^ 16=64 * PP+320:=by decide
   rw [e1,Int.mul_add]
   have h4:256 * (rowP g j 16 * 256 ^ 16)=rowP g j 16 * (64 * PP+320):=by rw [←h3];generalize (256:Int) ^ 16=p;grind
   rw [h4]
   generalize PP=p
   grind
  rw [modPP_of e2,Int.mul_emod,h,←Int.mul_emod,Int.pow_succ]
  congr 1
  generalize (256:Int) ^ j=p
  grind
def prodS (f g:Nat→Int) (i:Nat):Nat→Int
 | 0=> 0
 | n+1=> prodS f g i n+f n * rowP g n i
theorem prodS_mod (f g:Nat→Int):∀n,n≤17→sm 256 (fun i=> prodS f g i n) 17 % PP=sm 256 f n * sm 256 g 17 % PP:=by
 intro n
 induction n with
 | zero=> intro _;rw [show sm 256 f 0=0 from rfl,Int.zero_mul,show (fun i=> prodS f g i 0)=fun _=> (0:Int) from rfl,sm_zero' 256 17]
 | succ n ih=>
  intro hn
  have e1:sm 256 (fun i=> prodS f g i (n+1)) 17=1 * sm 256 (fun i=> prodS f g i n) 17+f n * sm 256 (rowP g n) 17:=by
   rw [←sm_lin]
   exact sm_congr fun i _=> by rw [prodS];omega
  rw [e1,Int.one_mul,Int.add_emod,ih (by omega),Int.mul_emod (f n),sm_rowP g n (by omega),←Int.mul_emod,←Int.add_emod,show sm 256 f (n+1)=sm 256 f n+f n * 256 ^ n from rfl]
  congr 1
  generalize (256:Int) ^ n=p
  grind
theorem prodS_bound {f g:Nat→Int} (hf:∀i,i<17→0≤f i∧f i≤600) (hg:∀i,i<17→0≤g i∧g i≤255) (i:Nat) (hi:i<17):∀n,n≤17→0≤prodS f g i n∧prodS f g i n≤n * 48960000:=by
 intro n
 induction n with
 | zero=> intro _;exact ⟨Int.le_refl _,Int.le_refl _⟩
 | succ n ih=>
  intro hn
  have h:=ih (by omega)
  have hfn:=hf n (by omega)
  have hr:0≤rowP g n i∧rowP g n i≤81600:=by
   unfold rowP
   split
   ·have:=hg (i - n) (by omega);omega
   ·have:=hg (i+17 - n) (by omega);omega
  have m0:=Int.mul_nonneg hfn.1 hr.1
  have m1:f n * rowP g n i≤600 * 81600:=Int.mul_le_mul hfn.2 hr.2 hr.1 (by decide)
  rw [prodS]
  push_cast
  omega
end Go.Bas
namespace Go.Bas
open Go.RowKit
def OwnAt (k:IntKind) (e:TypeId) (base:Nat) (w:World) (v:Value) (n:Nat) (f:Nat→Int):Prop:=
 (v=.slice none 0 0∧n=0)∨∃g o c cur,v=.slice (some ⟨g,o,none⟩) n c∧base≤g∧w.heap[g]? =some (.cells cur e (0,0))∧n≤c∧c≤9223372036854775807∧o+c≤cur.size∧(cur.toList.drop o).take n=vals k n f
variable {k : IntKind} {e : TypeId} {base : Nat} {w w' : World} {v : Value} {n : Nat} {f g : Nat → Int}
theorem OwnAt.nil (k:IntKind) (e:TypeId) (base:Nat) (w:World) (f:Nat→Int):OwnAt k e base w (.slice none 0 0) 0 f:=.inl ⟨rfl,rfl⟩
theorem OwnAt.rd (h:OwnAt k e base w v n f):Rd k w v n f:=by
 rcases h with ⟨rfl,rfl⟩ | ⟨g,o,c,cur,rfl,hb,hg,hn,hc,hs,ht⟩
 ·exact Rd.nil _ _ _
 ·refine ⟨_,_,rfl,hn,hc,(fun h=> by cases h),fun _=> ⟨g,o,rfl,(Array.getElem?_eq_some_iff.1 hg).1,fun i hi=> ?_⟩⟩
  rw [cell_of_row w g (o+i) cur e (0,0) hg]
  have:=vals_get (k:=k) (f:=f) hi
  rw [←ht,List.getElem?_take,if_pos hi,List.getElem?_drop] at this
  simpa using this
theorem OwnAt.congr (h:OwnAt k e base w v n f) (q:∀i,i<n→f i=g i):OwnAt k e base w v n g:=by
 unfold OwnAt at *
 rwa [vals_congr q] at h
theorem OwnAt.lt (h:OwnAt k e base w v n f):∀b,v.ownBlock=some b→base≤b∧b<w.heap.size:=by
 intro b hb
 rcases h with ⟨rfl,_⟩ | ⟨g,o,c,cur,rfl,hb',hg,_⟩
 ·simp [Value.ownBlock] at hb
 ·simp [Value.ownBlock] at hb
  subst hb
  exact ⟨hb',(Array.getElem?_eq_some_iff.1 hg).1⟩
theorem OwnAt.below (h:OwnAt k e base w v n f) (hb:Below w.heap.size w w'):OwnAt k e base w' v n f:=by
 rcases h with h | ⟨g,o,c,cur,rfl,hb',hgg,rest⟩
 ·exact .inl h
 ·refine .inr ⟨g,o,c,cur,rfl,hb',?_,rest⟩
  rw [hb.block g (Array.getElem?_eq_some_iff.1 hgg).1]
  exact hgg
theorem vals_drop (k:IntKind) (n lo:Nat) (f:Nat→Int):(vals k n f).drop lo=vals k (n - lo) (fun i=> f (lo+i)):=by
 apply List.ext_getElem?
 intro i
 rw [List.getElem?_drop]
 by_cases hi:lo+i<n
 ·rw [vals_get hi,vals_get (by omega)]
 ·have h1:(vals k n f)[lo+i]? =none:=by simp;omega
  have h2:(vals k (n - lo) (fun i=> f (lo+i)))[i]? =none:=by simp;omega
  rw [h1,h2]
theorem OwnAt.cut {b o c:Nat} (h:OwnAt k e base w (.slice (some ⟨b,o,none⟩) n c) n f) (lo:Nat) (hlo:lo≤n):
  OwnAt k e base w (.slice (if c=lo then some ⟨b,o,none⟩ else some ⟨b,o+lo,none⟩) (n - lo) (c - lo)) (n - lo) (fun i=> f (lo+i)):=by
 rcases h with ⟨h,_⟩ | ⟨g',o',c',cur,he,hb,hg,hn,hc,hs,ht⟩
 ·cases h
 ·simp only [Value.slice.injEq,Option.some.injEq,Addr.mk.injEq,and_true,true_and] at he
  obtain ⟨⟨rfl,rfl⟩,rfl⟩:=he
  by_cases hcl:c=lo
  ·subst hcl
   obtain rfl:n=c:=by omega
   rw [if_pos rfl,Nat.sub_self]
   exact .inr ⟨b,o,0,cur,rfl,hb,hg,Nat.le_refl _,by omega,by omega,by simp [vals]⟩
  ·rw [if_neg hcl]
   refine .inr ⟨b,o+lo,c - lo,cur,rfl,hb,hg,by omega,by omega,by omega,?_⟩
   rw [←vals_drop,←ht,List.drop_take,List.drop_drop]
theorem vals_one {x:Value} (h:x ∈ vals k n f):x.oneCell'=true:=by
 obtain ⟨_,_,rfl⟩:=List.mem_map.1 h
 rfl
theorem vals_add {m:Nat} (hf:∀i,i<m→f (n+i)=g i):vals k n f++vals k m g=vals k (n+m) f:=by
 unfold vals
 rw [List.range_add]
 simp only [List.map_append,List.map_map]
 congr 1
 exact List.map_congr_left fun i hi=> by simp [hf i (List.mem_range.1 hi)]
theorem addr_add (b o j:Nat):(⟨b,o,none⟩:Addr).add j=⟨b,o+j,none⟩:=by unfold Addr.add;split<;> simp_all
theorem OwnAt.whole (hb:base≤w.heap.size) {m c:Nat} (hmc:m≤c) (hc:c≤9223372036854775807) {cur:Array Value} (hs:cur.size=c) (ht:cur.toList.take m=vals k m f):
  OwnAt k e base (w.drew.alloc (.cells cur e)) (.slice (some ⟨w.heap.size,0,none⟩) m c) m f:=
 .inr ⟨w.heap.size,0,c,cur,rfl,hb,heap_alloc_new w.drew _,hmc,hc,by omega,by simpa using ht⟩
theorem run_append_at {P:Program} (w:World) (t ty e:TypeId) (k:IntKind) (bytes:Nat) (h1:P.underlying t=some (.slice e)) (hinfo:(P.info? e).map (fun i=> (i.zero,i.size,i.bytes))=some (some (.int k 0),1,bytes))
  (base:Nat) (v:Value) (n:Nat) (f:Nat→Int) (hown:OwnAt k e base w v n f) (u:Value) (m:Nat) (g:Nat→Int) (hrd:Rd k w u m g) (hf:∀i,i<m→f (n+i)=g i)
  (b2:(n+m) * bytes≤140737488355328) (b3:n+m≤9223372036854775807) (b4:base≤w.heap.size):
  ∃v' w',(Builtin.append_ #[t,t] ty #[v,u]).run P w=.ok v' w'∧OwnAt k e base w' v' (n+m) f∧w.grownBy w' v.ownBlock∧(0<n+m→v'≠.slice none 0 0):=by
 obtain ⟨i,hi,hz0,hz1,hz2⟩:=info_parts hinfo
 obtain ⟨ao,c,rfl,l1,l2,l3,l4⟩:=hrd
 have hvm:(vals k m g).length=m * i.size:=by rw [hz1];simp
 by_cases hm:m=0
 ·subst hm
  rcases hown with ⟨rfl,rfl⟩ | ⟨gg,o,c',cur,rfl,hb,hg,hn,hc,hs,ht⟩
  ·refine ⟨.slice none 0 0,w,?_,OwnAt.nil _ _ _ _ _,World.grownBy.refl _ _,fun h=> absurd h (by decide)⟩
   cases ao<;> simp [Builtin.append_,run_underlying h1,sizeOf,typeInfo,hi,Builtin.lenOf,Builtin.firstCells,loadCells,loadCellsFrom]
  ·refine ⟨.slice (some ⟨gg,o,none⟩) n c',w,?_,.inr ⟨gg,o,c',cur,rfl,hb,hg,hn,hc,hs,ht⟩,World.grownBy.refl _ _,fun _ h=> by cases h⟩
   cases ao<;> simp [Builtin.append_,run_underlying h1,sizeOf,typeInfo,hi,Builtin.lenOf,Builtin.firstCells,loadCells,loadCellsFrom,hn,storeCells]
 ·obtain ⟨b,of,rfl,_,hcell⟩:=l4 (by omega)
  have hnews:∀j x,(vals k m g)[j]? =some x→w.cell? ((⟨b,of,none⟩:Addr).add j)=some x:=by
   intro j x hx
   have hj:j<m:=by
    have:=(List.getElem?_eq_some_iff.1 hx).1
    simpa using this
   rw [addr_add,hcell j hj,←vals_get (k:=k) (f:=g) hj]
   exact hx
  have hnews1:∀x ∈ vals k m g,x.oneCell'=true:=fun x hx=> vals_one hx
  rcases hown with ⟨rfl,rfl⟩ | ⟨gg,o,c',cur,rfl,hb,hg,hn,hc,hs,ht⟩
  ·have hr:=run_append_nil (P:=P) w t ty e i _ h1 hi hz0 ⟨b,of,none⟩ m c (vals k m g) hvm hnews (by omega) (by omega) (by rw [hz2];simp only [Nat.zero_add] at b2;omega)
   have hge:=grownCap_ge w m 0 e
   have hcm:grownCap w m 0 e≤maxLen:=grownCap_le_maxLen w m 0 e (by unfold maxLen;omega)
   unfold maxLen at hcm
   rw [Nat.zero_add]
   refine ⟨_,_,hr,?_,⟨rfl,rfl,rfl,by simp,fun q hq _=> ((Below.refl w.heap.size w.drew).alloc (Nat.le_refl _) _).block q hq⟩,fun _ h=> by cases h⟩
   refine OwnAt.whole b4 hge (by omega) ?_ ?_
   ·have hz:(Value.int k 0).cells=#[.int k 0] :=rfl
    simp only [Array.size_append,List.size_toArray,size_zeroCells,hz,vals_length]
    simp;omega
   ·rw [Array.toList_append]
    have:vals k m f=vals k m g:=vals_congr fun i hi=> by have:=hf i hi;rwa [Nat.zero_add] at this
    rw [this]
    simp [List.take_append_of_le_length]
  ·by_cases hroom:n+m≤c'
   ·have hfm:=run_firstCells_some (P:=P) w i.size m ⟨b,of,none⟩ m c (vals k m g) hvm hnews
    have hst:=run_storeCells_at P gg (o+n) e (vals k m g) 0 cur w hg (by simp;omega) hnews1
    refine ⟨.slice (some ⟨gg,o,none⟩) (n+m) c',w.setRow gg (cur.toList.take (o+n)++vals k m g++cur.toList.drop (o+n+(vals k m g).length)).toArray,?_,?_,?_,fun _ h=> by cases h⟩
    ·simp only [Nat.add_zero] at hst
     simp [Builtin.append_,run_underlying h1,sizeOf,typeInfo,hi,Builtin.lenOf,hroom,hfm,hz1,addr_add]
     simp [hz1] at hfm
     simp [hfm,hst]
    ·refine .inr ⟨gg,o,c',_,rfl,hb,setRow_heap w gg cur _ e _ hg,hroom,hc,?_,?_⟩
     ·simp only [List.size_toArray,List.length_append,List.length_take,List.length_drop,Array.length_toList,vals_length]
      omega
     ·rw [←vals_add hf,←ht,List.append_assoc,List.drop_append_of_le_length (by simp;omega),List.drop_take]
      rw [show o+n - o=n by omega,←List.append_assoc]
      rw [List.take_append_of_le_length (by simp;omega),List.take_of_length_le (by simp;omega)]
    ·exact ⟨rfl,rfl,rfl,by simp,fun k _ hk=> setRow_other w gg k _ (fun e=> hk (by simp [Value.ownBlock,e]))⟩
   ·have holds:∀j x,(vals k n f)[j]? =some x→w.cell? ((⟨gg,o,none⟩:Addr).add j)=some x:=by
     intro j x hx
     have hj:j<n:=by
      have:=(List.getElem?_eq_some_iff.1 hx).1
      simpa using this
     rw [addr_add,cell_of_row w gg (o+j) cur e (0,0) hg]
     rw [←ht,List.getElem?_take,if_pos hj,List.getElem?_drop] at hx
     simpa using hx
    have hr:=run_append_grow (P:=P) w t ty e i _ h1 hi hz0 ⟨gg,o,none⟩ n c' (vals k n f) (by rw [hz1];simp) holds ⟨b,of,none⟩ m c (vals k m g) hvm hnews (by omega) (by omega) (growslice_fits (by omega) (by rw [hz2];exact b2))
    have hge:=grownCap_ge w (n+m) c' e
    have hcm:grownCap w (n+m) c' e≤maxLen:=grownCap_le_maxLen w (n+m) c' e (by unfold maxLen;omega)
    unfold maxLen at hcm
    refine ⟨_,_,hr,?_,⟨rfl,rfl,rfl,by simp,fun q hq _=> ((Below.refl w.heap.size w.drew).alloc (Nat.le_refl _) _).block q hq⟩,fun _ h=> by cases h⟩
    refine OwnAt.whole b4 hge (by omega) ?_ ?_
    ·have hz:(Value.int k 0).cells=#[.int k 0] :=rfl
     simp only [Array.size_append,List.size_toArray,size_zeroCells,hz,vals_length]
     simp;omega
    ·rw [Array.toList_append,Array.toList_append,←vals_add hf]
     rw [List.take_append_of_le_length (by simp),List.take_of_length_le (by simp)]
theorem wp_append_at {P:Program} {w:World} {o:Oper} {a:Act} {K:Act→World→Prop} {Q:Exit→Act→World→Prop}
  (s x:Operand) (t:TypeId) (hop:o.op=.call { callee:=.builtin .append,args:=#[s,x],argTypes:=#[t,t] })
  (base:Nat) (e:TypeId) (k:IntKind) (bytes:Nat)
  (h1:P.underlying t=some (.slice e)) (hinfo:(P.info? e).map (fun i=> (i.zero,i.size,i.bytes))=some (some (.int k 0),1,bytes))
  (v:Value) (n:Nat) (f:Nat→Int) (hown:OwnAt k e base w v n f) (hs:a.eval s=v)
  (u:Value) (m:Nat) (g:Nat→Int) (hrd:Rd k w u m g) (hx:a.eval x=u) (hf:∀i,i<m→f (n+i)=g i)
  (b2:(n+m) * bytes≤140737488355328) (b3:n+m≤9223372036854775807) (b4:base≤w.heap.size)
  (hK:∀v' w',OwnAt k e base w' v' (n+m) f→w.grownBy w' v.ownBlock→(0<n+m→v'≠.slice none 0 0)→K (a.put o.dst v') w'):
  o.wp P a w K Q:=by
 obtain ⟨v',w',hr,h2,h3,h4⟩:=run_append_at (P:=P) w t o.type e k bytes h1 hinfo base v n f hown u m g hrd hf b2 b3 b4
 unfold Oper.wp execOp
 simp only [hop,resolve,invoke,builtin,Sem.run_bind,Sem.run_pure,Result.andThen_ok,List.map_toArray,List.map_cons,List.map_nil,hs,hx,hr]
 exact hK v' w' h2 h3 h4
theorem append_at {P:Program} {w:World} {ops:Array Oper} {rest:List Oper} {o:Oper} {a:Act} {Q:Exit→Act→World→Prop}
  (hg:o.guard=none) (s x:Operand) (t:TypeId) (hop:o.op=.call { callee:=.builtin .append,args:=#[s,x],argTypes:=#[t,t] })
  (base:Nat) (e:TypeId) (k:IntKind) (bytes:Nat)
  (h1:P.underlying t=some (.slice e)) (hinfo:(P.info? e).map (fun i=> (i.zero,i.size,i.bytes))=some (some (.int k 0),1,bytes))
  (v:Value) (n:Nat) (f:Nat→Int) (hown:OwnAt k e base w v n f) (hs:a.eval s=v)
  (u:Value) (m:Nat) (g:Nat→Int) (hrd:Rd k w u m g) (hx:a.eval x=u) (hf:∀i,i<m→f (n+i)=g i)
  (b2:(n+m) * bytes≤140737488355328) (b3:n+m≤9223372036854775807) (b4:base≤w.heap.size)
  (hK:∀v' w',OwnAt k e base w' v' (n+m) f→w.grownBy w' v.ownBlock→(0<n+m→v'≠.slice none 0 0)→wpList P ops Q rest (a.put o.dst v') w'):
  wpList P ops Q (o::rest) a w:=
 wpList_plain hg fun _ hK'=> wp_append_at s x t hop base e k bytes h1 hinfo v n f hown hs u m g hrd hx hf b2 b3 b4 fun v' w' q1 q2 q3=> hK' _ _ (hK v' w' q1 q2 q3)
end Go.Bas
namespace Go.Bas
open Go.RowKit
theorem run_append_made {P:Program} (w:World) (t u ty e:TypeId) (k:IntKind) (bytes:Nat) (h1:P.underlying t=some (.slice e)) (hu:P.underlying u=some (.int .i64)) (hinfo:(P.info? e).map (fun i=> (i.zero,i.size,i.bytes))=some (some (.int k 0),1,bytes))
  (base:Nat) (g n c:Nat) (f:Nat→Int) (hown:Own k e base w (.slice (some ⟨g,0,none⟩) n c) n f) (m:Nat) (hc:c<n+m) (hf:∀i,i<m→f (n+i)=0)
  (b2:(n+m) * bytes≤140737488355328) (b3:n+m≤9223372036854775807) (b4:base≤w.heap.size):
  ∃v' w',(Builtin.append_ #[t,u] ty #[.slice (some ⟨g,0,none⟩) n c,.int .i64 (m:Int)]).run P w=.ok v' w'∧Own k e base w' v' (n+m) f∧w.grownBy w' none:=by
 obtain ⟨i,hi,hz0,hz1,hz2⟩:=info_parts hinfo
 have hcell:=hown.cells (g:=g) rfl
 have hlen:=hown.1
 have hnc:n≤c:=by
  rcases hown.2 with ⟨h,_⟩ | ⟨g',cap,cur,he,_,_,hn,_⟩
  ·cases h
  ·simp only [Value.slice.injEq,true_and] at he
   obtain ⟨_,rfl⟩:=he
   exact hn
 have hm0:0<m:=by omega
 have hn:¬ (n+m≤c):=by omega
 have h63':¬ (9223372036854775807<((n:Int)+(m:Int))):=by omega
 have hfit:Builtin.nextslicecap (n+m) c * i.bytes≤281474976710656:=growslice_fits (by omega) (by rw [hz2];exact b2)
 have h48':¬ (281474976710656<Builtin.nextslicecap (n+m) c * i.bytes):=by omega
 have hfo:=run_firstCells_some (P:=P) w.drew i.size n ⟨g,0,none⟩ n c (vals k n f) (by rw [hz1];simp) (by simpa using hcell)
 have hw:IntKind.i64.wrap (m:Int)=(m:Int):=wrap_i64_id (by omega) (by omega)
 have hneg:¬ ((m:Int)<0):=by omega
 have hmb:m * i.bytes≤140737488355328:=Nat.le_trans (Nat.mul_le_mul_right i.bytes (show m≤n+m by omega)) (by rw [hz2];exact b2)
 have hbig:¬ (281474976710656<(m:Int) * (i.bytes:Int)):=by
  rw [←Int.natCast_mul]
  omega
 have hge:=grownCap_ge w (n+m) c e
 have hcm:grownCap w (n+m) c e≤maxLen:=grownCap_le_maxLen w (n+m) c e (by unfold maxLen;omega)
 have hrun:(Builtin.append_ #[t,u] ty #[.slice (some ⟨g,0,none⟩) n c,.int .i64 (m:Int)]).run P w=
   .ok (.slice (some ⟨w.heap.size,0,none⟩) (n+m) (grownCap w (n+m) c e)) (w.drew.alloc (.cells ((vals k n f).toArray++Builtin.zeroCells (Value.int k 0).cells m++Builtin.zeroCells (Value.int k 0).cells (grownCap w (n+m) c e - (n+m))) e)):=by
  rw [hz1] at hfo
  have hmz:¬ m=0:=by omega
  simp [Builtin.append_,run_underlying h1,run_underlying hu,sizeOf,typeInfo,zeroValue,hi,hz0,hz1,asInt,asIntOf,hw,hneg,hbig,hn,h63',h48',Question.forced,hfo,hmz,newRow,grownCap]
 refine ⟨_,_,hrun,?_,⟨rfl,rfl,rfl,by simp,fun q hq _=> ((Below.refl w.heap.size w.drew).alloc (Nat.le_refl _) _).block q hq⟩⟩
 have hz:(Value.int k 0).cells=#[.int k 0] :=rfl
 have hvz:(Builtin.zeroCells (Value.int k 0).cells m).toList=vals k m (fun _=> 0):=by
  apply List.ext_getElem?
  intro j
  by_cases hj:j<m
  ·rw [vals_get hj];simp [Builtin.zeroCells,hz,hj,Nat.mod_one]
  ·simp [Builtin.zeroCells,hz,hj,vals]
 have hva:vals k n f++vals k m (fun _=> 0)=vals k (n+m) f:=by
  unfold vals
  rw [List.range_add]
  simp only [List.map_append,List.map_map]
  congr 1
  exact List.map_congr_left fun i hi=> by simp [hf i (List.mem_range.1 hi)]
 refine ⟨by simp,.inr ⟨w.heap.size,_,_,rfl,b4,heap_alloc_new w.drew _,hge,hcm,?_,?_⟩⟩
 ·simp only [Array.size_append,List.size_toArray,size_zeroCells,hz,vals_length]
  simp;omega
 ·rw [Array.toList_append,Array.toList_append,hvz,List.append_assoc]
  rw [←List.append_assoc]
  simp only [List.toList_toArray]
  rw [hva,List.take_append_of_le_length (by simp),List.take_of_length_le (by simp)]
theorem append_made {P:Program} {w:World} {ops:Array Oper} {rest:List Oper} {o:Oper} {a:Act} {Q:Exit→Act→World→Prop}
  (hg:o.guard=none) (s x:Operand) (t u:TypeId) (hop:o.op=.call { callee:=.builtin .append,args:=#[s,x],argTypes:=#[t,u] })
  (base:Nat) (e:TypeId) (k:IntKind) (bytes:Nat)
  (h1:P.underlying t=some (.slice e)) (hu:P.underlying u=some (.int .i64)) (hinfo:(P.info? e).map (fun i=> (i.zero,i.size,i.bytes))=some (some (.int k 0),1,bytes))
  (b n c:Nat) (f:Nat→Int) (hown:Own k e base w (.slice (some ⟨b,0,none⟩) n c) n f) (hs:a.eval s=.slice (some ⟨b,0,none⟩) n c) (m:Nat) (hx:a.eval x=.int .i64 (m:Int)) (hc:c<n+m) (hf:∀i,i<m→f (n+i)=0)
  (b2:(n+m) * bytes≤140737488355328) (b3:n+m≤9223372036854775807) (b4:base≤w.heap.size)
  (hK:∀v' w',Own k e base w' v' (n+m) f→w.grownBy w' none→wpList P ops Q rest (a.put o.dst v') w'):
  wpList P ops Q (o::rest) a w:=by
 refine wpList_plain hg fun K hK'=> ?_
 obtain ⟨v',w',hr,h2,h3⟩:=run_append_made (P:=P) w t u o.type e k bytes h1 hu hinfo base b n c f hown m hc hf b2 b3 b4
 unfold Oper.wp execOp
 simp only [hop,resolve,invoke,builtin,Sem.run_bind,Sem.run_pure,Result.andThen_ok,List.map_toArray,List.map_cons,List.map_nil,hs,hx,hr]
 exact hK' _ _ (hK v' w' h2 h3)
end Go.Bas
