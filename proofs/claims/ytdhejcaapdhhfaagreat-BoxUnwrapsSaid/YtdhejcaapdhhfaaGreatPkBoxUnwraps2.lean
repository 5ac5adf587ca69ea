/-
  Part 2 of the texts that the proof of BoxUnwraps rests on, one after the other. Conditions: named in each theorem.
-/
import Derived.Test.YtdhejcaapdhhfaaGreatPkBoxUnwraps1
import Derived.BigQuiet
import Derived.Deep.QuietTactic
import Derived.Lib.Hide
import Derived.Test.YtdhejcaapdhhfaaGreatKit
import Derived.WalkKit
import Derived.WalkLawsBesides
import Derived.WalkSmall
import Derived.WalkSpells
set_option linter.unusedVariables false
set_option linter.unusedSimpArgs false
namespace Go.Bas
def sm (B:Int) (f:Nat→Int):Nat→Int
 | 0=> 0
 | n+1=> sm B f n+f n * B ^ n
def dg (B X:Int) (i:Nat):Int:=X / B ^ i % B
theorem pow_pos' {B:Int} (hB:0<B) (n:Nat):0<B ^ n:=Int.pow_pos hB
theorem dg_zero (B X:Int):dg B X 0=X % B:=by simp [dg]
theorem div_succ {B:Int} (hB:0<B) (X:Int) (i:Nat):X / B ^ (i+1)=X / B ^ i / B:=by
 rw [Int.pow_succ,Int.ediv_ediv_of_nonneg (Int.le_of_lt (pow_pos' hB i))]
theorem dg_bound {B:Int} (hB:0<B) (X:Int) (i:Nat):0≤dg B X i∧dg B X i<B:=⟨Int.emod_nonneg _ (by omega),Int.emod_lt_of_pos _ hB⟩
theorem sm_congr {B:Int} {f g:Nat→Int} {n:Nat} (h:∀i,i<n→f i=g i):sm B f n=sm B g n:=by
 induction n with
 | zero=> rfl
 | succ n ih=> rw [sm,sm,ih fun i hi=> h i (by omega),h n (by omega)]
theorem sm_bound {B:Int} (hB:0<B) {f:Nat→Int} {n:Nat} (h:∀i,i<n→0≤f i∧f i<B):0≤sm B f n∧sm B f n<B ^ n:=by
 induction n with
 | zero=> simp [sm]
 | succ n ih=>
  have h1:=ih fun i hi=> h i (by omega)
  have h2:=h n (by omega)
  have hp:=pow_pos' hB n
  rw [sm,Int.pow_succ]
  constructor
  ·have:=Int.mul_nonneg h2.1 (Int.le_of_lt hp);omega
  ·have h3:f n * B ^ n≤(B - 1) * B ^ n:=Int.mul_le_mul_of_nonneg_right (by omega) (Int.le_of_lt hp)
   rw [Int.sub_mul,Int.one_mul] at h3
   rw [Int.mul_comm (B ^ n) B]
   omega
theorem split_at {B:Int} (X:Int) (n:Nat):X=X % B ^ n+X / B ^ n * B ^ n:=by
 have:=Int.emod_add_mul_ediv X (B ^ n)
 rw [Int.mul_comm] at this
 omega
theorem mod_succ {B:Int} (hB:0<B) (X:Int) (n:Nat):X % B ^ (n+1)=X % B ^ n+dg B X n * B ^ n:=by
 have h1:=split_at (B:=B) X n
 have h2:=split_at (B:=B) X (n+1)
 have h3:=Int.emod_add_mul_ediv (X / B ^ n) B
 rw [div_succ hB] at h2
 unfold dg
 generalize X / B ^ n=q at *
 have:q * B ^ n=q % B * B ^ n+q / B * B ^ (n+1):=by
  rw [Int.pow_succ]
  calc q * B ^ n=(q % B+B * (q / B)) * B ^ n:=by rw [h3]
   _=q % B * B ^ n+q / B * (B ^ n * B):=by rw [Int.add_mul];congr 1;rw [Int.mul_comm B,Int.mul_assoc,Int.mul_comm B]
 omega
theorem sm_dg {B:Int} (hB:0<B) (X:Int) (n:Nat):sm B (dg B X) n=X % B ^ n:=by
 induction n with
 | zero=> simp [sm,Int.emod_one]
 | succ n ih=> rw [sm,ih,mod_succ hB]
theorem dg_add {B:Int} (hB:0<B) (X Y:Int) (n i:Nat) (h:i<n):dg B (X+Y * B ^ n) i=dg B X i:=by
 unfold dg
 obtain ⟨d,rfl⟩:=Nat.exists_eq_add_of_le h
 have hp:=pow_pos' hB i
 rw [show B ^ (i.succ+d)=B ^ i * (B * B ^ d) by rw [←Int.pow_succ',←Int.pow_add];congr 1;omega]
 rw [show Y * (B ^ i * (B * B ^ d))=Y * B ^ d * B * B ^ i by
  rw [Int.mul_comm (B ^ i),←Int.mul_assoc,Int.mul_comm B,←Int.mul_assoc]]
 rw [Int.add_mul_ediv_right _ _ (by omega),Int.add_mul_emod_self_right]
theorem dg_sm {B:Int} (hB:0<B) {f:Nat→Int} {n:Nat} (h:∀i,i<n→0≤f i∧f i<B):∀i,i<n→dg B (sm B f n) i=f i:=by
 induction n with
 | zero=> intro i hi;omega
 | succ n ih=>
  intro i hi
  by_cases e:i=n
  ·subst e
   have hb:=sm_bound hB fun j hj=> h j (Nat.lt_succ_of_lt hj)
   have hp:=pow_pos' hB i
   rw [sm,dg,Int.add_mul_ediv_right _ _ (by omega),Int.ediv_eq_zero_of_lt hb.1 hb.2,Int.zero_add]
   exact Int.emod_eq_of_lt (h i hi).1 (h i hi).2
  ·rw [sm,dg_add hB _ _ _ _ (by omega)]
   exact ih (fun j hj=> h j (by omega)) i (by omega)
theorem dg_mod {B:Int} (hB:0<B) (X:Int) (n i:Nat) (h:i<n):dg B (X % B ^ n) i=dg B X i:=by
 conv=> rhs;rw [split_at (B:=B) X n]
 rw [dg_add hB _ _ _ _ h]
theorem eq_of_dg {B:Int} (hB:0<B) {X Y:Int} {n:Nat} (hX:0≤X∧X<B ^ n) (hY:0≤Y∧Y<B ^ n) (h:∀i,i<n→dg B X i=dg B Y i):X=Y:=by
 have h1:=sm_dg hB X n
 have h2:=sm_dg hB Y n
 rw [sm_congr h,h2,Int.emod_eq_of_lt hY.1 hY.2,Int.emod_eq_of_lt hX.1 hX.2] at h1
 exact h1.symm
theorem dg_pair {B:Int} (hB:0<B) (X:Int) (i:Nat):dg (B * B) X i=dg B X (2 * i)+dg B X (2 * i+1) * B:=by
 unfold dg
 rw [show (B * B) ^ i=B ^ (2 * i) by rw [show B * B=B ^ 2 by rw [Int.pow_succ,Int.pow_succ,Int.pow_zero,Int.one_mul],←Int.pow_mul],div_succ hB X (2 * i)]
 generalize X / B ^ (2 * i)=q
 have h1:=Int.emod_add_mul_ediv q (B * B)
 have h2:=Int.emod_add_mul_ediv q B
 have h3:=Int.emod_add_mul_ediv (q / B) B
 have h4:q / (B * B)=q / B / B:=(Int.ediv_ediv_of_nonneg (Int.le_of_lt hB)).symm
 rw [h4,Int.mul_assoc] at h1
 have h5:B * (q / B)=B * (q / B % B+B * (q / B / B)):=by rw [h3]
 rw [Int.mul_add] at h5
 rw [Int.mul_comm (q / B % B) B]
 omega
theorem pair16 (X:Int) (i:Nat):dg 65536 X i=dg 256 X (2 * i)+dg 256 X (2 * i+1) * 256:=dg_pair (B:=256) (by decide) X i
theorem byte0 (X:Int) (i:Nat):dg 65536 X i % 256=dg 256 X (2 * i):=by
 have h1:=pair16 X i
 have h2:=dg_bound (by decide:(0:Int)<256) X (2 * i)
 omega
theorem byte1 (X:Int) (i:Nat):dg 65536 X i / 256=dg 256 X (2 * i+1):=by
 have h1:=pair16 X i
 have h2:=dg_bound (by decide:(0:Int)<256) X (2 * i)
 omega
theorem dg_small {B X:Int} {i:Nat} (h:0≤X∧X<B ^ i):dg B X i=0:=by
 unfold dg;rw [Int.ediv_eq_zero_of_lt h.1 h.2];rfl
end Go.Bas
namespace Go.Bas
theorem dg_nil (B:Int) (i:Nat):dg B 0 i=0:=by simp [dg]
def car2 (X b:Int) (k:Nat):Int:=(2 * X+b) / 65536 ^ k - 2 * (X / 65536 ^ k)
theorem car2_zero (X b:Int):car2 X b 0=b:=by simp [car2];omega
theorem car2_step (X b:Int) (k:Nat):(dg 65536 X k * 2+car2 X b k) % 65536=dg 65536 (2 * X+b) k∧(dg 65536 X k * 2+car2 X b k) / 65536=car2 X b (k+1):=by
 unfold car2 dg
 rw [div_succ (by decide) X,div_succ (by decide) (2 * X+b)]
 omega
theorem car2_step' (X b:Int) (k:Nat):(2 * dg 65536 X k+car2 X b k) % 65536=dg 65536 (2 * X+b) k∧(2 * dg 65536 X k+car2 X b k) / 65536=car2 X b (k+1):=by
 rw [Int.mul_comm 2 (dg 65536 X k)];exact car2_step X b k
def bor2 (X Y:Int) (k:Nat):Int:=X / 65536 ^ k - Y / 65536 ^ k - (X - Y) / 65536 ^ k
theorem bor2_zero (X Y:Int):bor2 X Y 0=0:=by simp [bor2]
def carS (X Y:Int) (k:Nat):Int:=(X+Y) / 65536 ^ k - X / 65536 ^ k - Y / 65536 ^ k
theorem carS_zero (X Y:Int):carS X Y 0=0:=by simp [carS];omega
theorem carS_step (X Y:Int) (k:Nat):(dg 65536 X k+dg 65536 Y k+carS X Y k) % 65536=dg 65536 (X+Y) k∧(dg 65536 X k+dg 65536 Y k+carS X Y k) / 65536=carS X Y (k+1):=by
 unfold carS dg
 rw [div_succ (by decide) X,div_succ (by decide) Y,div_succ (by decide) (X+Y)]
 omega
theorem bit_small (Y:Int) (r:Nat) (h:r<8):Y / 2 ^ r % 2=Y % 256 / 2 ^ r % 2:=by
 rcases (by omega:r=0∨r=1∨r=2∨r=3∨r=4∨r=5∨r=6∨r=7) with rfl | rfl | rfl | rfl | rfl | rfl | rfl | rfl<;> simp<;> omega
theorem pow_256 (m:Nat):(2:Int) ^ m=256 ^ (m / 8) * 2 ^ (m % 8):=by
 rw [show (256:Int)=2 ^ 8 from rfl,←Int.pow_mul,←Int.pow_add];congr 1;omega
theorem bit_of (X:Int) (m:Nat):X / 2 ^ m % 2=dg 256 X (m / 8) / 2 ^ (m % 8) % 2:=by
 rw [pow_256,←Int.ediv_ediv_of_nonneg (Int.le_of_lt (pow_pos' (by decide) _)),bit_small _ _ (Nat.mod_lt _ (by decide))]
 rfl
theorem half (X:Int) (m:Nat):X / 2 ^ m=2 * (X / 2 ^ (m+1))+X / 2 ^ m % 2:=by
 rw [div_succ (by decide)];omega
end Go.Bas
namespace Go.Bas
theorem upd_at (f:Nat→Int) (p:Nat) (v:Int):upd f p v p=v:=if_pos rfl
theorem upd_ne (f:Nat→Int) {p i:Nat} (v:Int) (h:i≠p):upd f p v i=f i:=if_neg h
theorem upd_upd (f:Nat→Int) (p:Nat) (u v:Int) (i:Nat):upd (upd f p u) p v i=upd f p v i:=by
 unfold upd;split<;> rfl
theorem sm_upd' (B:Int) (f:Nat→Int) (p:Nat) (v:Int):∀n,sm B (upd f p v) n=sm B f n+(if p<n then (v - f p) * B ^ p else 0)
 | 0=> by simp [sm]
 | n+1=> by
  rw [sm,sm,sm_upd' B f p v n]
  by_cases e:n=p
  ·subst e
   rw [if_neg (by omega),if_pos (by omega),show upd f n v n=v from if_pos rfl,Int.sub_mul];omega
  ·rw [show upd f p v n=f n from if_neg (by omega)]
   by_cases h:p<n
   ·rw [if_pos h,if_pos (by omega)];omega
   ·rw [if_neg h,if_neg (by omega)];omega
theorem sm_zero' (B:Int):∀n,sm B (fun _=> 0) n=0
 | 0=> rfl
 | n+1=> by rw [sm,sm_zero' B n];simp
theorem sm_lin (B:Int) (f g:Nat→Int) (a b:Int):∀n,sm B (fun i=> a * f i+b * g i) n=a * sm B f n+b * sm B g n
 | 0=> by simp [sm]
 | n+1=> by
  rw [sm,sm,sm,sm_lin B f g a b n]
  generalize B ^ n=p
  grind
theorem sm_split (B:Int) (f:Nat→Int) (m:Nat):∀n,sm B f (m+n)=sm B f m+B ^ m * sm B (fun i=> f (m+i)) n
 | 0=> by simp [sm]
 | n+1=> by
  rw [←Nat.add_assoc,sm,sm,sm_split B f m n,Int.pow_add]
  grind
def MulInv (la lb:Nat) (A B:Int) (g:Nat→Int) (i k:Nat) (c:Int):Prop:=
 (∀j,0≤g j∧g j<65536)∧(∀j,i+lb≤j→g j=0)∧0≤c∧c<65536∧
 sm 65536 g (la+lb)+c * 65536 ^ (i+k)=(A % 65536 ^ i) * B+dg 65536 A i * (B % 65536 ^ k) * 65536 ^ i
theorem MulInv.zero (la lb:Nat) (A B:Int):MulInv la lb A B (fun _=> 0) 0 0 0:=
 ⟨fun _=> by simp,fun _ _=> rfl,by decide,by decide,by rw [sm_zero'];simp [Int.emod_one]⟩
theorem mul_le' {a b:Int} (h0:0≤a) (h1:a≤65535) (h2:0≤b) (h3:b≤65535):0≤a * b∧a * b≤4294836225:=by
 refine ⟨Int.mul_nonneg h0 h2,?_⟩
 have:=Int.mul_le_mul h1 h3 h2 (by decide:(0:Int)≤65535)
 omega
theorem MulInv.bound {la lb:Nat} {A B:Int} {g:Nat→Int} {i k:Nat} {c:Int} (h:MulInv la lb A B g i k c):
  0≤dg 65536 A i * dg 65536 B k∧dg 65536 A i * dg 65536 B k≤4294836225∧0≤g (i+k)+dg 65536 A i * dg 65536 B k∧g (i+k)+dg 65536 A i * dg 65536 B k<4294967296∧0≤g (i+k)+dg 65536 A i * dg 65536 B k+c∧g (i+k)+dg 65536 A i * dg 65536 B k+c<4294967296:=by
 have h1:=dg_bound (by decide:(0:Int)<65536) A i
 have h2:=dg_bound (by decide:(0:Int)<65536) B k
 have h3:=mul_le' h1.1 (by omega) h2.1 (by omega)
 have h4:=h.1 (i+k)
 have h5:=h.2.2.1
 have h6:=h.2.2.2.1
 omega
theorem MulInv.step {la lb:Nat} {A B:Int} {g:Nat→Int} {i k:Nat} {c:Int} (h:MulInv la lb A B g i k c) (hi:i<la) (hk:k<lb):
  MulInv la lb A B (upd g (i+k) ((g (i+k)+dg 65536 A i * dg 65536 B k+c) % 65536)) i (k+1) ((g (i+k)+dg 65536 A i * dg 65536 B k+c) / 65536):=by
 obtain ⟨b1,b2,b3,b4,b5,b6⟩:=h.bound
 obtain ⟨h1,h2,h3,h4,h5⟩:=h
 refine ⟨fun j=> ?_,fun j hj=> ?_,by omega,by omega,?_⟩
 ·by_cases e:j=i+k
  ·subst e;rw [upd_at];omega
  ·rw [upd_ne _ _ e];exact h1 j
 ·rw [upd_ne _ _ (by omega)];exact h2 j hj
 ·rw [sm_upd',if_pos (by omega),mod_succ (by decide) B k,show i+(k+1)=(i+k)+1 by omega,Int.pow_succ,Int.pow_add] at *
  generalize hn:g (i+k)+dg 65536 A i * dg 65536 B k+c=n at *
  generalize hxy:dg 65536 A i * dg 65536 B k=xy at *
  have e1:=Int.emod_add_mul_ediv n 65536
  generalize n % 65536=r at *
  generalize n / 65536=q at *
  generalize sm 65536 g (la+lb)=S at *
  generalize (65536:Int) ^ i=p at *
  generalize (65536:Int) ^ k=s at *
  have e2:dg 65536 A i * (B % s+dg 65536 B k * s) * p=dg 65536 A i * (B % s) * p+xy * (p * s):=by
   rw [←hxy];grind
  rw [e2]
  have e3:(r - g (i+k)) * (p * s)+q * (p * s * 65536)=(xy+c) * (p * s):=by
   have:r - g (i+k)+q * 65536=xy+c:=by omega
   rw [←this];grind
  rw [Int.add_mul] at e3
  omega
theorem MulInv.row {la lb:Nat} {A B:Int} {g:Nat→Int} {i:Nat} {c:Int} (h:MulInv la lb A B g i lb c) (hi:i<la) (hB:0≤B∧B<65536 ^ lb):
  g (i+lb)=0∧MulInv la lb A B (upd g (i+lb) (g (i+lb)+c)) (i+1) 0 0:=by
 obtain ⟨h1,h2,h3,h4,h5⟩:=h
 have h0:=h2 (i+lb) (Nat.le_refl _)
 refine ⟨h0,fun j=> ?_,fun j hj=> ?_,by decide,by decide,?_⟩
 ·by_cases e:j=i+lb
  ·subst e;rw [upd_at,h0];omega
  ·rw [upd_ne _ _ e];exact h1 j
 ·rw [upd_ne _ _ (by omega)];exact h2 j (by omega)
 ·rw [sm_upd',if_pos (by omega),mod_succ (by decide) A i,h0]
  rw [Int.emod_eq_of_lt hB.1 hB.2] at h5
  have e1:(A % 65536 ^ i+dg 65536 A i * 65536 ^ i) * B=(A % 65536 ^ i) * B+dg 65536 A i * B * 65536 ^ i:=by
   generalize (65536:Int) ^ i=p
   grind
  rw [e1]
  simp [Int.emod_one]
  exact h5
theorem MulInv.done {la lb:Nat} {A B:Int} {g:Nat→Int} (h:MulInv la lb A B g la 0 0) (hA:0≤A∧A<65536 ^ la):∀i,i<la+lb→g i=dg 65536 (A * B) i:=by
 obtain ⟨h1,h2,h3,h4,h5⟩:=h
 have h6:sm 65536 g (la+lb)=A * B:=by
  rw [Int.emod_eq_of_lt hA.1 hA.2] at h5
  simp [Int.emod_one] at h5
  exact h5
 intro i hi
 rw [←h6,dg_sm (by decide) (fun j _=> h1 j) i hi]
theorem mul_bound {la lb:Nat} {A B:Int} (hA:0≤A∧A<65536 ^ la) (hB:0≤B∧B<65536 ^ lb):0≤A * B∧A * B<65536 ^ (la+lb):=by
 refine ⟨Int.mul_nonneg hA.1 hB.1,?_⟩
 rw [Int.pow_add]
 have h1:A * B≤A * 65536 ^ lb:=Int.mul_le_mul_of_nonneg_left (by omega) hA.1
 have h2:A * 65536 ^ lb<65536 ^ la * 65536 ^ lb:=Int.mul_lt_mul_of_pos_right hA.2 (pow_pos' (by decide) _)
 omega
end Go.Bas
namespace Go.Bas
open Go.RowKit
def Apart (u v:Value):Prop:=u.ownBlock=none∨u.ownBlock≠v.ownBlock
def Placed (w:World) (v v':Value):Prop:=v'.ownBlock=v.ownBlock∨∀b,v'.ownBlock=some b→w.heap.size≤b
theorem Apart.nil (v:Value):Apart (.slice none 0 0) v:=.inl rfl
theorem Apart.symm {u v:Value} (h:Apart u v):Apart v u:=by
 rcases h with h | h
 ·cases hv:v.ownBlock with
  | none=> exact .inl hv
  | some b=> exact .inr (by rw [h,hv];simp)
 ·exact .inr fun e=> h e.symm
theorem Own.kept {k:IntKind} {e:TypeId} {base:Nat} {w w':World} {u v:Value} {n:Nat} {f:Nat→Int} (h:Own k e base w u n f) (hg:w.grownBy w' v.ownBlock) (ha:Apart u v):Own k e base w' u n f:=by
 refine World.ownsRow.kept h hg ?_
 rcases ha with h | h
 ·exact .inl h
 ·exact .inr h
theorem Own.apart {k:IntKind} {e:TypeId} {base:Nat} {w:World} {u v v':Value} {n:Nat} {f:Nat→Int} (h:Own k e base w u n f) (ha:Apart u v) (hp:Placed w v v'):Apart u v':=by
 cases hu:u.ownBlock with
 | none=> exact .inl hu
 | some b=>
  refine .inr ?_
  have hlt:=(World.ownsRow.lt h b hu).2
  rcases hp with hp | hp
  ·rw [hp,hu]
   rcases ha with ha | ha
   ·rw [hu] at ha;cases ha
   ·rw [hu] at ha;exact ha
  ·intro e2
   rw [hu] at e2
   have:=hp b e2.symm
   omega
theorem run_append_place {P:Program} (w:World) (base:Nat) (t ty e:TypeId) (i:TypeInfo) (z:Value) (size bytes:Nat) (ht:P.underlying t=some (.slice e)) (hi:P.info? e=some i) (hz:i.zero=some z)
  (hsize:i.size=size) (hby:i.bytes=bytes) (hzs:z.cells.size=size) (hsz:0<size)
  (v:Value) (n:Nat) (xs:List Value) (hown:w.ownsRow base e size v n xs)
  (a:Addr) (m c:Nat) (news:List Value) (hl:news.length=m * size) (hnews:∀j u,news[j]? =some u→w.cell? (a.add j)=some u) (h1:∀u ∈ news,u.oneCell'=true)
  (h63:n+m≤maxLen) (hbytes:(n+m) * bytes≤140737488355328) (v':Value) (w':World) (hrun:(Builtin.append_ #[t,t] ty #[v,.slice (some a) m c]).run P w=.ok v' w'):Placed w v v':=by
 subst hsize
 subst hby
 have hsmall:n+m≤9223372036854775807:=by simp only [maxLen] at h63;omega
 rcases hown.2 with ⟨rfl,rfl⟩ | ⟨g,cap,cur,rfl,hbg,hg,hnc,hcm,hcs,htake⟩
 ·have hx:xs= [] :=List.eq_nil_of_length_eq_zero (by simpa using hown.1)
  subst hx
  by_cases hm:m=0
  ·subst hm
   have hn:news= [] :=List.eq_nil_of_length_eq_zero (by simpa using hl)
   subst hn
   have hr:(Builtin.append_ #[t,t] ty #[.slice none 0 0,.slice (some a) 0 c]).run P w=.ok (.slice none 0 0) w:=by
    simp [Builtin.append_,run_underlying ht,sizeOf,typeInfo,hi,Builtin.lenOf,Builtin.firstCells,loadCells,loadCellsFrom]
   rw [hr] at hrun
   cases hrun
   exact .inl rfl
  ·have hr:=run_append_nil (P:=P) w t ty e i z ht hi hz a m c news hl hnews (by omega) (by omega) (by have hb:=hbytes;simp only [Nat.zero_add] at hb;omega)
   rw [hr] at hrun
   cases hrun
   refine .inr fun b hb=> ?_
   simp [Value.ownBlock] at hb
   omega
 ·by_cases hroom:n+m≤cap
  ·have hfit:n * i.size+news.length≤cur.size:=by rw [hl,hcs,←Nat.add_mul];exact Nat.mul_le_mul_right _ hroom
   have hr:=run_append_room (P:=P) w t ty e i ht hi g n cap cur hg a m c news hl hnews h1 hroom hfit
   rw [hr] at hrun
   cases hrun
   exact .inl rfl
  ·have holds:∀j u,xs[j]? =some u→w.cell? ((⟨g,0,none⟩:Addr).add j)=some u:=hown.cells (g:=g) rfl
   have hr:=run_append_grow (P:=P) w t ty e i z ht hi hz ⟨g,0,none⟩ n cap xs hown.1 holds a m c news hl hnews (by omega) (by omega) (growslice_fits (by omega) hbytes)
   rw [hr] at hrun
   cases hrun
   refine .inr fun b hb=> ?_
   simp [Value.ownBlock] at hb
   omega
theorem append_new2 {P:Program} {w:World} {ops:Array Oper} {rest:List Oper} {o:Oper} {a:Act} {Q:Exit→Act→World→Prop}
  (hg:o.guard=none) (s x:Operand) (t:TypeId) (hop:o.op=.call { callee:=.builtin .append,args:=#[s,x],argTypes:=#[t,t] })
  (base:Nat) (e:TypeId) (k:IntKind) (bytes:Nat)
  (h1:P.underlying t=some (.slice e)) (hinfo:(P.info? e).map (fun i=> (i.zero,i.size,i.bytes))=some (some (.int k 0),1,bytes))
  (v:Value) (n:Nat) (f:Nat→Int) (w0:World) (cs:Array Value) (hw:w=w0.alloc (.cells cs e)) (hown:Own k e base w0 v n f) (hs:a.eval s=v)
  (m:Nat) (hx:a.eval x=.slice (some ⟨w0.heap.size,0,none⟩) m m) (hm:cs.size=m) (hc:∀i,i<m→cs[i]? =some (.int k (f (n+i))))
  (b2:(n+m) * bytes≤140737488355328) (b3:n+m≤9223372036854775807) (b4:base≤w0.heap.size)
  (hK:∀v' w',Own k e base w' v' (n+m) f→w.grownBy w' v.ownBlock→Placed w v v'→wpList P ops Q rest (a.put o.dst v') w'):
  wpList P ops Q (o::rest) a w:=by
 subst hw
 obtain ⟨i,hi,hz0,hz1,hz2⟩:=info_parts hinfo
 have hnews:cs.toList=(List.range m).map fun i=> Value.int k (f (n+i)):=by
  apply List.ext_getElem?
  intro i
  by_cases h:i<m
  ·rw [Array.getElem?_toList,hc i h];simp [h]
  ·rw [Array.getElem?_toList];simp [h,hm]
 have hv:vals k n f++cs.toList=vals k (n+m) f:=by
  rw [hnews]
  unfold vals
  rw [List.range_add]
  simp
 have hown':=World.ownsRow.alloc hown (.cells cs e)
 have hl:cs.toList.length=m * 1:=by simp [hm]
 have hn:∀j u,cs.toList[j]? =some u→(w0.alloc (.cells cs e)).cell? ((⟨w0.heap.size,0,none⟩:Addr).add j)=some u:=by
  intro j u hu
  have hadd:(⟨w0.heap.size,0,none⟩:Addr).add j=⟨w0.heap.size,j,none⟩:=by unfold Addr.add;split<;> simp_all
  rw [hadd,cell_of_row (w0.alloc (.cells cs e)) w0.heap.size j cs e (0,0) (heap_alloc_new w0 _)]
  simpa using hu
 have h1':∀u ∈ cs.toList,u.oneCell'=true:=by
  intro u hu
  rw [hnews] at hu
  obtain ⟨_,_,rfl⟩:=List.mem_map.1 hu
  rfl
 obtain ⟨v',w',hr,q1,q2,q3⟩:=run_append_own (P:=P) _ base t o.type e i (.int k 0) 1 bytes h1 hi hz0 hz1 hz2 rfl (by decide) v n (vals k n f) hown' ⟨w0.heap.size,0,none⟩ m m cs.toList hl hn h1' (by unfold maxLen;omega) b2 (by simp;omega)
 have hpl:=run_append_place (P:=P) _ base t o.type e i (.int k 0) 1 bytes h1 hi hz0 hz1 hz2 rfl (by decide) v n (vals k n f) hown' ⟨w0.heap.size,0,none⟩ m m cs.toList hl hn h1' (by unfold maxLen;omega) b2 v' w' hr
 refine wpList_plain hg fun _ hK'=> ?_
 unfold Oper.wp execOp
 simp only [hop,resolve,invoke,builtin,Sem.run_bind,Sem.run_pure,Result.andThen_ok,List.map_toArray,List.map_cons,List.map_nil,hs,hx,hr]
 exact hK' _ _ (hK v' w' (by unfold Own;rw [←hv];exact q1) q2 hpl)
theorem wp_append_rd2 {P:Program} {w:World} {o:Oper} {a:Act} {K:Act→World→Prop} {Q:Exit→Act→World→Prop}
  (s x:Operand) (t:TypeId) (hop:o.op=.call { callee:=.builtin .append,args:=#[s,x],argTypes:=#[t,t] })
  (base:Nat) (e:TypeId) (k:IntKind) (bytes:Nat)
  (h1:P.underlying t=some (.slice e)) (hinfo:(P.info? e).map (fun i=> (i.zero,i.size,i.bytes))=some (some (.int k 0),1,bytes))
  (v:Value) (n:Nat) (f:Nat→Int) (hown:Own k e base w v n f) (hs:a.eval s=v)
  (u:Value) (m:Nat) (g:Nat→Int) (hrd:Rd k w u m g) (hx:a.eval x=u) (hf:∀i,i<m→f (n+i)=g i)
  (b2:(n+m) * bytes≤140737488355328) (b3:n+m≤9223372036854775807) (b4:base≤w.heap.size)
  (hK:∀v' w',Own k e base w' v' (n+m) f→w.grownBy w' v.ownBlock→Placed w v v'→K (a.put o.dst v') w'):
  o.wp P a w K Q:=by
 obtain ⟨i,hi,hz0,hz1,hz2⟩:=info_parts hinfo
 have hv:vals k n f++vals k m g=vals k (n+m) f:=by
  unfold vals
  rw [List.range_add]
  simp only [List.map_append,List.map_map]
  congr 1
  exact List.map_congr_left fun i hi=> by simp [hf i (List.mem_range.1 hi)]
 obtain ⟨ao,c,rfl,l1,l2,l3,l4⟩:=hrd
 cases ao with
 | none=>
  have hm:m=0:=by have:=l3 rfl;omega
  subst hm
  have hr:=run_append_owned_none (P:=P) w base t o.type e i 1 h1 hi v n _ hown
  have hc0:=l3 rfl
  subst hc0
  unfold Oper.wp execOp
  simp only [hop,resolve,invoke,builtin,Sem.run_bind,Sem.run_pure,Result.andThen_ok,List.map_toArray,List.map_cons,List.map_nil,hs,hx,hr]
  exact hK v w (by simpa using hown) (World.grownBy.refl _ _) (.inl rfl)
 | some ad=>
  have hn:∀j u,(vals k m g)[j]? =some u→w.cell? (ad.add j)=some u:=by
   intro j u hu
   have hj:j<m:=by
    have:=(List.getElem?_eq_some_iff.1 hu).1
    simpa using this
   obtain ⟨b,of,hb,_,hcell⟩:=l4 (by omega)
   obtain rfl:=Option.some.inj hb
   have hadd:(⟨b,of,none⟩:Addr).add j=⟨b,of+j,none⟩:=by unfold Addr.add;split<;> simp_all
   rw [hadd,hcell j hj,←vals_get (k:=k) (f:=g) hj]
   exact hu
  have h1':∀u ∈ vals k m g,u.oneCell'=true:=by
   intro u hu
   obtain ⟨_,_,rfl⟩:=List.mem_map.1 hu
   rfl
  obtain ⟨v',w',hr,q1,q2,q3⟩:=run_append_own (P:=P) w base t o.type e i (.int k 0) 1 bytes h1 hi hz0 hz1 hz2 rfl (by decide) v n (vals k n f) hown ad m c (vals k m g) (by simp) hn h1' (by unfold maxLen;omega) b2 b4
  have hpl:=run_append_place (P:=P) w base t o.type e i (.int k 0) 1 bytes h1 hi hz0 hz1 hz2 rfl (by decide) v n (vals k n f) hown ad m c (vals k m g) (by simp) hn h1' (by unfold maxLen;omega) b2 v' w' hr
  unfold Oper.wp execOp
  simp only [hop,resolve,invoke,builtin,Sem.run_bind,Sem.run_pure,Result.andThen_ok,List.map_toArray,List.map_cons,List.map_nil,hs,hx,hr]
  exact hK v' w' (by unfold Own;rw [←hv];exact q1) q2 hpl
end Go.Bas
namespace Go.Bas
def PP:Int:=2 ^ 130 - 5
theorem PP_pos:(0:Int)<PP:=by decide
theorem p130:(2:Int) ^ 130=256 ^ 16 * 4:=by decide
theorem modPP_of {a b c:Int} (h:a=b+PP * c):a % PP=b % PP:=by rw [h,Int.add_mul_emod_self_left]
def cu (f:Nat→Int):Nat→Int
 | 0=> 0
 | i+1=> (f i+cu f i) / 256
theorem cu_sm (f:Nat→Int):∀k,cu f k=sm 256 f k / 256 ^ k
 | 0=> by simp [cu,sm]
 | k+1=> by
  rw [cu,cu_sm f k,sm,div_succ (by decide),Int.add_mul_ediv_right _ _ (by have:=pow_pos' (by decide:(0:Int)<256) k;omega)]
  congr 1;omega
theorem cu_digit (f:Nat→Int) {n k:Nat} (h:k<n):(f k+cu f k) % 256=dg 256 (sm 256 f n) k:=by
 obtain ⟨d,rfl⟩:∃d,n=(k+1)+d:=⟨n - (k+1),by omega⟩
 rw [sm_split,Int.mul_comm (256 ^ (k+1)),dg_add (by decide) _ _ _ _ (by omega)]
 unfold dg
 rw [sm,Int.add_mul_ediv_right _ _ (by have:=pow_pos' (by decide:(0:Int)<256) k;omega),cu_sm]
 congr 1;omega
theorem cu_top (f:Nat→Int) (k:Nat):f k+cu f k=sm 256 f (k+1) / 256 ^ k:=by
 rw [sm,Int.add_mul_ediv_right _ _ (by have:=pow_pos' (by decide:(0:Int)<256) k;omega),cu_sm];omega
theorem cu_bound {f:Nat→Int} {M:Int} (n:Nat) (hf:∀i,i<n→0≤f i∧f i≤M) (hM:0≤M):∀k,k≤n→0≤cu f k∧cu f k≤M:=by
 intro k
 induction k with
 | zero=> intro _;exact ⟨Int.le_refl _,hM⟩
 | succ k ih=>
  intro hk
  have a:=ih (by omega)
  have b:=hf k (by omega)
  unfold cu;omega
def pd (V:Int):Nat→Int:=fun i=> if i<16 then dg 256 V i else V / 256 ^ 16
theorem pd_low (V:Int) {i:Nat} (h:i<16):pd V i=dg 256 V i:=if_pos h
theorem pd_top (V:Int):pd V 16=V / 256 ^ 16:=if_neg (by decide)
theorem sm_pd (V:Int):sm 256 (pd V) 17=V:=by
 rw [sm,pd_top,sm_congr (g:=dg 256 V) (fun i hi=> pd_low V hi),sm_dg (by decide)]
 have:=Int.emod_add_mul_ediv V (256 ^ 16)
 rw [Int.mul_comm] at this
 exact this
theorem pd_dg {V:Int} (h0:0≤V) (h1:V<256 ^ 17):∀i,i<17→pd V i=dg 256 V i:=by
 intro i hi
 by_cases e:i<16
 ·exact pd_low V e
 ·obtain rfl:i=16:=by omega
  rw [pd_top];unfold dg
  have h2:V / 256 ^ 16<256:=Int.ediv_lt_of_lt_mul (by decide) (by omega)
  have h3:0≤V / 256 ^ 16:=Int.ediv_nonneg h0 (by decide)
  omega
def fold5 (V:Int):Int:=V % 2 ^ 130+5 * (V / 2 ^ 130)
theorem fold5_mod (V:Int):fold5 V % PP=V % PP:=by
 unfold fold5
 have h:=Int.emod_add_mul_ediv V (2 ^ 130)
 refine modPP_of (c:= -(V / 2 ^ 130)) ?_
 have e:(2:Int) ^ 130=PP+5:=by decide
 rw [e] at h ⊢
 generalize V / (PP+5)=q at *
 generalize V % (PP+5)=r at *
 rw [Int.mul_neg]
 rw [Int.add_mul] at h
 omega
theorem fold5_bound {V:Int} (h0:0≤V) (h1:V<2 ^ 130 * 1000000000):0≤fold5 V∧fold5 V<2 ^ 130+5000000000:=by
 unfold fold5
 have h2:=Int.emod_nonneg V (show (2:Int) ^ 130≠0 by decide)
 have h3:=Int.emod_lt_of_pos V (show (0:Int)<2 ^ 130 by decide)
 have h4:V / 2 ^ 130<1000000000:=Int.ediv_lt_of_lt_mul (by decide) (by omega)
 have h5:=Int.ediv_nonneg h0 (show (0:Int)≤2 ^ 130 by decide)
 omega
theorem fold5_twice {V:Int} (h0:0≤V) (h1:V<2 ^ 130+5000000000):0≤fold5 V∧fold5 V<2 ^ 130:=by
 unfold fold5
 have hp:(10000000000:Int)<2 ^ 130:=by decide
 have h2:=Int.emod_nonneg V (show (2:Int) ^ 130≠0 by decide)
 have h3:=Int.emod_lt_of_pos V (show (0:Int)<2 ^ 130 by decide)
 have h4:=Int.emod_add_mul_ediv V (2 ^ 130)
 generalize (2:Int) ^ 130=p at *
 have h5:0≤V / p:=Int.ediv_nonneg h0 (by omega)
 have h6:V / p<2:=Int.ediv_lt_of_lt_mul (by omega) (by omega)
 rcases (by omega:V / p=0∨V / p=1) with h7 | h7<;> rw [h7] at h4 ⊢<;> omega
def carB (X b:Int) (k:Nat):Int:=(X+b) / 256 ^ k - X / 256 ^ k
theorem carB_zero (X b:Int):carB X b 0=b:=by simp [carB];omega
theorem carB_step (X b:Int) (k:Nat):(dg 256 X k+carB X b k) % 256=dg 256 (X+b) k∧(dg 256 X k+carB X b k) / 256=carB X b (k+1):=by
 unfold carB dg
 rw [div_succ (by decide) X,div_succ (by decide) (X+b)]
 omega
theorem carB_bound {X b:Int} (hb:0≤b):∀k,0≤carB X b k∧carB X b k≤b
 | 0=> by rw [carB_zero];omega
 | k+1=> by
  have h:=carB_bound (X:=X) hb k
  have h2:=(carB_step X b k).2
  have h3:=dg_bound (by decide:(0:Int)<256) X k
  omega
theorem fold_parts (V:Int):(∀i,i<16→dg 256 (V % 256 ^ 16+5 * (V / 256 ^ 16 / 4)) i=pd (fold5 V) i)∧V / 256 ^ 16 % 4+carB (V % 256 ^ 16) (5 * (V / 256 ^ 16 / 4)) 16=pd (fold5 V) 16:=by
 have e1:V / 2 ^ 130=V / 256 ^ 16 / 4:=by rw [p130,Int.ediv_ediv_of_nonneg (by decide)]
 have e2:V % 2 ^ 130=V % 256 ^ 16+V / 256 ^ 16 % 4 * 256 ^ 16:=by
  have h1:=Int.emod_add_mul_ediv V (2 ^ 130)
  have h2:=Int.emod_add_mul_ediv V (256 ^ 16)
  have h3:=Int.emod_add_mul_ediv (V / 256 ^ 16) 4
  rw [e1,p130] at h1
  rw [p130]
  generalize (256:Int) ^ 16=p at *
  generalize V / p=q at *
  have h4:p * q=p * (q % 4)+p * 4 * (q / 4):=by
   conv=> lhs;rw [←h3]
   rw [Int.mul_add,Int.mul_assoc]
  rw [Int.mul_comm (q % 4)]
  omega
 have e3:fold5 V=V % 256 ^ 16+5 * (V / 256 ^ 16 / 4)+V / 256 ^ 16 % 4 * 256 ^ 16:=by unfold fold5;rw [e1,e2];omega
 constructor
 ·intro i hi
  rw [pd_low _ hi,e3,dg_add (by decide) _ _ _ _ hi]
 ·rw [pd_top,e3,Int.add_mul_ediv_right _ _ (by decide)]
  unfold carB
  have h2:=Int.emod_nonneg V (show (256:Int) ^ 16≠0 by decide)
  have h3:=Int.emod_lt_of_pos V (show (0:Int)<256 ^ 16 by decide)
  rw [Int.ediv_eq_zero_of_lt h2 h3]
  omega
def rowP (g:Nat→Int) (j i:Nat):Int:=if j≤i then g (i - j) else 320 * g (i+17 - j)
theorem sm_shift (B:Int) (f:Nat→Int) (x:Int):∀n,sm B (fun i=> if i=0 then x else f (i - 1)) (n+1)=x+B * sm B f n
 | 0=> by simp [sm]
 | n+1=> by
  rw [sm,sm_shift B f x n,sm,if_neg (by omega),Int.pow_succ,show n+1 - 1=n by omega]
  generalize B ^ n=p
  grind
theorem rowP_succ (g:Nat→Int) (j:Nat) (hj:j≤16):∀i,i<17→rowP g (j+1) i=if i=0 then 320 * rowP g j 16 else rowP g j (i - 1):=by
 intro i hi
 unfold rowP
 by_cases e:i=0
 ·subst e
  rw [if_neg (by omega),if_pos rfl,if_pos hj,show 0+17 - (j+1)=16 - j by omega]
 ·rw [if_neg e]
  by_cases h:j+1≤i
  ·rw [if_pos h,if_pos (by omega),show i - (j+1)=i - 1 - j by omega]
  ·rw [if_neg h,if_neg (by omega),show i+17 - (j+1)=i - 1+17 - j by omega]
theorem sm_rowP (g:Nat→Int):∀j,j≤17→sm 256 (rowP g j) 17 % PP=256 ^ j * sm 256 g 17 % PP:=by
 intro j
 induction j with
 | zero=>
  intro _
  rw [Int.pow_zero,Int.one_mul,sm_congr (fun i _=> show rowP g 0 i=g i by unfold rowP;rw [if_pos (Nat.zero_le _),Nat.sub_zero])]
 | succ j ih=>
  intro hj
  have h:=ih (by omega)
  rw [sm_congr (rowP_succ g j (by omega)),sm_shift]
  have e1:sm 256 (rowP g j) 17=sm 256 (rowP g j) 16+rowP g j 16 * 256 ^ 16:=rfl
  have e2:320 * rowP g j 16+256 * sm 256 (rowP g j) 16=256 * sm 256 (rowP g j) 17+PP * (-64 * rowP g j 16):=by
   have h3:(256:Int) * 256 ^ 16=64 * PP+320:=by decide
   rw [e1,Int.mul_add]
   have h4:256 * (rowP g j 16 * 256 ^ 16)=rowP g j 16 * (64 * PP+320):=by rw [←h3];generalize (256:Int) ^ 16=p;grind
   rw [h4]
   generalize PP=p
   grind
  rw [modPP_of e2,Int.mul_emod,h,←Int.mul_emod,Int.pow_succ]
  congr 1
  generalize (256:Int) ^ j=p
  grind
def prodS (f g:Nat→Int) (i:Nat):Nat→Int
 | 0=> 0
 | n+1=> prodS f g i n+f n * rowP g n i
theorem prodS_mod (f g:Nat→Int):∀n,n≤17→sm 256 (fun i=> prodS f g i n) 17 % PP=sm 256 f n * sm 256 g 17 % PP:=by
 intro n
 induction n with
 | zero=> intro _;rw [show sm 256 f 0=0 from rfl,Int.zero_mul,show (fun i=> prodS f g i 0)=fun _=> (0:Int) from rfl,sm_zero' 256 17]
 | succ n ih=>
  intro hn
  have e1:sm 256 (fun i=> prodS f g i (n+1)) 17=1 * sm 256 (fun i=> prodS f g i n) 17+f n * sm 256 (rowP g n) 17:=by
   rw [←sm_lin]
   exact sm_congr fun i _=> by rw [prodS];omega
  rw [e1,Int.one_mul,Int.add_emod,ih (by omega),Int.mul_emod (f n),sm_rowP g n (by omega),←Int.mul_emod,←Int.add_emod,show sm 256 f (n+1)=sm 256 f n+f n * 256 ^ n from rfl]
  congr 1
  generalize (256:Int) ^ n=p
  grind
theorem prodS_bound {f g:Nat→Int} (hf:∀i,i<17→0≤f i∧f i≤600) (hg:∀i,i<17→0≤g i∧g i≤255) (i:Nat) (hi:i<17):∀n,n≤17→0≤prodS f g i n∧prodS f g i n≤n * 48960000:=by
 intro n
 induction n with
 | zero=> intro _;exact ⟨Int.le_refl _,Int.le_refl _⟩
 | succ n ih=>
  intro hn
  have h:=ih (by omega)
  have hfn:=hf n (by omega)
  have hr:0≤rowP g n i∧rowP g n i≤81600:=by
   unfold rowP
   split
   ·have:=hg (i - n) (by omega);omega
   ·have:=hg (i+17 - n) (by omega);omega
  have m0:=Int.mul_nonneg hfn.1 hr.1
  have m1:f n * rowP g n i≤600 * 81600:=Int.mul_le_mul hfn.2 hr.2 hr.1 (by decide)
  rw [prodS]
  push_cast
  omega
end Go.Bas
namespace Go.Bas
def Pr:Int:=2 ^ 255 - 19
theorem Pr_eq:(65536:Int) ^ 16=2 * Pr+38:=by decide
theorem Pr_pos:(0:Int)<Pr:=by decide
theorem Pr16:(0:Int)≤Pr∧Pr<65536 ^ 16:=by decide
def cin (f:Nat→Int):Nat→Int
 | 0=> 0
 | i+1=> (f i+cin f i) / 65536
def crr (f:Nat→Int):Nat→Int:=fun i=> if i=0 then f 0 % 65536+38 * cin f 16 else (f i+cin f i) % 65536
def crs (f:Nat→Int) (k:Nat):Nat→Int:=if k=16 then crr f else fun i=> if i<k then (f i+cin f i) % 65536 else if i=k then f k+cin f k else f i
theorem crs_zero (f:Nat→Int):∀i,i<16→f i=crs f 0 i:=by
 intro i hi
 unfold crs
 rw [if_neg (by decide),if_neg (by omega)]
 by_cases e:i=0
 ·subst e;simp [cin]
 ·rw [if_neg e]
theorem crs_at (f:Nat→Int) {k:Nat} (h:k<16):crs f k k=f k+cin f k:=by
 unfold crs;rw [if_neg (by omega),if_neg (by omega),if_pos rfl]
theorem crs_after (f:Nat→Int) {k:Nat} (h:k<15):crs f k (k+1)=f (k+1):=by
 unfold crs;rw [if_neg (by omega),if_neg (by omega),if_neg (by omega)]
theorem crs_head (f:Nat→Int):crs f 15 0=f 0 % 65536:=by
 unfold crs;rw [if_neg (by decide),if_pos (by decide)];simp [cin]
theorem crs_step (f:Nat→Int) {k:Nat} (h:k<15):∀i,i<16→upd (upd (crs f k) k ((f k+cin f k) % 65536)) (k+1) (f (k+1)+(f k+cin f k) / 65536) i=crs f (k+1) i:=by
 intro i hi
 by_cases e1:i=k+1
 ·subst e1;rw [upd_at,crs_at f (by omega)];rfl
 ·rw [upd_ne _ _ e1]
  by_cases e:i=k
  ·subst e;rw [upd_at];unfold crs;rw [if_neg (by omega),if_pos (by omega)]
  ·rw [upd_ne _ _ e];unfold crs;rw [if_neg (show ¬ k=16 by omega),if_neg (show ¬ k+1=16 by omega)]
   by_cases h1:i<k
   ·rw [if_pos h1,if_pos (by omega)]
   ·rw [if_neg h1,if_neg e,if_neg (by omega),if_neg (by omega)]
theorem crs_last (f:Nat→Int):∀i,i<16→upd (upd (crs f 15) 15 ((f 15+cin f 15) % 65536)) 0 (f 0 % 65536+38 * ((f 15+cin f 15) / 65536)) i=crs f 16 i:=by
 intro i hi
 have e:crs f 16=crr f:=if_pos rfl
 rw [e]
 unfold crr
 by_cases e1:i=0
 ·subst e1;rw [upd_at,if_pos rfl];rfl
 ·rw [upd_ne _ _ e1,if_neg e1]
  by_cases e:i=15
  ·subst e;rw [upd_at]
  ·rw [upd_ne _ _ e];unfold crs;rw [if_neg (by decide),if_pos (by omega)]
theorem crs_full (f:Nat→Int):crs f 16=crr f:=if_pos rfl
theorem cin_bound {f:Nat→Int} {lo hi cl ch:Int} (hf:∀i,i<16→lo≤f i∧f i≤hi) (h0:cl≤0) (h1:0≤ch) (h2:cl≤(lo+cl) / 65536) (h3:(hi+ch) / 65536≤ch):
  ∀i,i≤16→cl≤cin f i∧cin f i≤ch:=by
 intro i
 induction i with
 | zero=> intro _;exact ⟨h0,h1⟩
 | succ i ih=>
  intro hi'
  have a:=ih (by omega)
  have b:=hf i (by omega)
  unfold cin
  omega
theorem sm_cin (f:Nat→Int):∀n,sm 65536 (fun i=> (f i+cin f i) % 65536) n=sm 65536 f n - cin f n * 65536 ^ n
 | 0=> by simp [sm,cin]
 | n+1=> by
  rw [sm,sm,sm_cin f n,Int.pow_succ]
  have e:cin f (n+1)=(f n+cin f n) / 65536:=rfl
  rw [e]
  have h:=Int.emod_add_mul_ediv (f n+cin f n) 65536
  generalize (f n+cin f n) / 65536=q at *
  generalize (f n+cin f n) % 65536=r at *
  generalize (65536:Int) ^ n=p at *
  have h2:(r+65536 * q) * p=(f n+cin f n) * p:=by rw [h]
  grind
theorem sm_crr (f:Nat→Int):sm 65536 (crr f) 16=sm 65536 f 16 - 2 * Pr * cin f 16:=by
 have e:crr f=upd (fun i=> (f i+cin f i) % 65536) 0 (f 0 % 65536+38 * cin f 16):=by
  funext i;unfold crr upd;rfl
 rw [e,sm_upd',if_pos (by decide),sm_cin,Pr_eq]
 simp only [cin,Int.add_zero,Int.pow_zero,Int.mul_one]
 generalize Pr=p
 grind
def Near (f:Nat→Int):Prop:=(∀i,i<16→0<i→0≤f i∧f i≤65535)∧ -100≤f 0∧f 0≤65700
def Fe (f:Nat→Int) (X:Int):Prop:=Near f∧sm 65536 f 16 % Pr=X % Pr
theorem Near.bound {f:Nat→Int} (h:Near f):∀i,i<16→ -100≤f i∧f i≤65700:=by
 intro i hi
 by_cases e:i=0
 ·subst e;exact h.2
 ·have:=h.1 i hi (by omega);omega
theorem near_crr {f:Nat→Int} (c0: -2≤cin f 16) (c1:cin f 16≤3):Near (crr f):=by
 refine ⟨fun i hi h0=> ?_,?_,?_⟩
 ·unfold crr;rw [if_neg (by omega)];omega
 ·unfold crr;rw [if_pos rfl];omega
 ·unfold crr;rw [if_pos rfl];omega
theorem mod_eq_of {a b c:Int} (h:a=b+Pr * c):a % Pr=b % Pr:=by rw [h,Int.add_mul_emod_self_left]
theorem crr_mod (f:Nat→Int):sm 65536 (crr f) 16 % Pr=sm 65536 f 16 % Pr:=
 mod_eq_of (c:= -(2 * cin f 16)) (by rw [sm_crr];generalize Pr=p;grind)
theorem Fe.add {f g:Nat→Int} {X Y:Int} (hf:Fe f X) (hg:Fe g Y):Fe (crr (fun i=> f i+g i)) (X+Y):=by
 have hb:=cin_bound (f:=fun i=> f i+g i) (lo:= -200) (hi:=131400) (cl:= -2) (ch:=3) (fun i hi=> by have:=hf.1.bound i hi;have:=hg.1.bound i hi;omega) (by decide) (by decide) (by decide) (by decide) 16 (Nat.le_refl _)
 refine ⟨near_crr hb.1 hb.2,?_⟩
 rw [crr_mod]
 have e:=sm_lin 65536 f g 1 1 16
 simp only [Int.one_mul] at e
 rw [e,Int.add_emod,hf.2,hg.2,←Int.add_emod]
theorem Fe.sub {f g:Nat→Int} {X Y:Int} (hf:Fe f X) (hg:Fe g Y):Fe (crr (fun i=> f i - g i)) (X - Y):=by
 have hb:=cin_bound (f:=fun i=> f i - g i) (lo:= -65800) (hi:=65800) (cl:= -2) (ch:=2) (fun i hi=> by have:=hf.1.bound i hi;have:=hg.1.bound i hi;omega) (by decide) (by decide) (by decide) (by decide) 16 (Nat.le_refl _)
 refine ⟨near_crr hb.1 (by omega),?_⟩
 rw [crr_mod]
 have e:=sm_lin 65536 f g 1 (-1) 16
 have e2:(fun i=> f i - g i)=fun i=> 1 * f i+ -1 * g i:=by funext i;omega
 rw [e2,e,show (1:Int) * sm 65536 f 16+ -1 * sm 65536 g 16=sm 65536 f 16 - sm 65536 g 16 by omega,Int.sub_emod,hf.2,hg.2,←Int.sub_emod]
theorem sm_dg16 {X:Int} (h:0≤X∧X<65536 ^ 16):sm 65536 (dg 65536 X) 16=X:=by rw [sm_dg (by decide),Int.emod_eq_of_lt h.1 h.2]
theorem Fe.canon {f:Nat→Int} {X:Int} (h:Fe f X):∃Y:Int,0≤Y∧Y<65536 ^ 16∧Y % Pr=X % Pr∧∀i,i<16→crr f i=dg 65536 Y i:=by
 have hd:∀i,i<16→0≤crr f i∧crr f i<65536:=by
  have hc:∀i,i≤16→0<i→(cin f i=0)∨(cin f i= -1∧ -100≤f 0∧f 0<0)∨(cin f i=1∧65536≤f 0∧f 0≤65700):=by
   intro i
   induction i with
   | zero=> intro _ h;omega
   | succ i ih=>
    intro hi _
    unfold cin
    by_cases e:i=0
    ·subst e
     have:=h.1.2
     simp only [cin]
     omega
    ·have a:=ih (by omega) (by omega)
     have b:=h.1.1 i (by omega) (by omega)
     omega
  intro i hi
  unfold crr
  by_cases e:i=0
  ·subst e
   rw [if_pos rfl]
   have:=hc 16 (by decide) (by decide)
   omega
  ·rw [if_neg e];omega
 refine ⟨sm 65536 (crr f) 16,(sm_bound (by decide) hd).1,(sm_bound (by decide) hd).2,?_,fun i hi=> (dg_sm (by decide) hd i hi).symm⟩
 rw [crr_mod,h.2]
theorem cin_dg {f:Nat→Int} (h:∀i,i<16→0≤f i∧f i<65536):∀i,i≤16→cin f i=0:=by
 intro i
 induction i with
 | zero=> intro _;rfl
 | succ i ih=>
  intro hi
  unfold cin
  rw [ih (by omega)]
  have:=h i (by omega)
  omega
theorem crr_dg {f:Nat→Int} (h:∀i,i<16→0≤f i∧f i<65536):∀i,i<16→crr f i=f i:=by
 intro i hi
 unfold crr
 rw [cin_dg h i (by omega),cin_dg h 16 (by omega)]
 have:=h i hi
 split
 ·rename_i e;subst e;omega
 ·omega
theorem Fe.dg {X Y:Int} (h0:0≤Y) (h1:Y<65536 ^ 16) (h:Y % Pr=X % Pr):Fe (dg 65536 Y) X:=by
 refine ⟨⟨fun i _ _=> by have:=dg_bound (by decide:(0:Int)<65536) Y i;omega,by have:=dg_bound (by decide:(0:Int)<65536) Y 0;omega,by have:=dg_bound (by decide:(0:Int)<65536) Y 0;omega⟩,?_⟩
 rw [sm_dg16 ⟨h0,h1⟩,h]
def sub1 (Y:Int):Int:=if Pr≤Y then Y - Pr else Y
theorem sub1_twice {Y:Int} (h0:0≤Y) (h1:Y<65536 ^ 16):sub1 (sub1 Y)=Y % Pr:=by
 rw [Pr_eq] at h1
 unfold sub1
 have hp:(38:Int)<Pr:=by decide
 have key:∀q r:Int,Y=Pr * q+r→0≤r→r<Pr→Y % Pr=r:=by
  intro q r e a b
  rw [e,Int.add_comm,Int.add_mul_emod_self_left,Int.emod_eq_of_lt a b]
 generalize Pr=p at *
 split
 ·split
  ·exact (key 2 _ (by omega) (by omega) (by omega)).symm
  ·exact (key 1 _ (by omega) (by omega) (by omega)).symm
 ·exact (key 0 _ (by omega) (by omega) (by omega)).symm
theorem sub1_bound {Y:Int} (h0:0≤Y) (h1:Y<65536 ^ 16):0≤sub1 Y∧sub1 Y<65536 ^ 16:=by
 have:=Pr_pos
 unfold sub1
 split<;> omega
def FeCols (t x y:Nat→Int) (i j:Nat):Prop:=
 sm 65536 t 31=sm 65536 x i * sm 65536 y 16+x i * 65536 ^ i * sm 65536 y j∧
 ∀k,(k<i+j→ -((i+1) * 4316490000)≤t k∧t k≤(i+1) * 4316490000)∧(i+j≤k→ -(i * 4316490000)≤t k∧t k≤i * 4316490000)
theorem FeCols.zero (x y:Nat→Int):FeCols (fun _=> 0) x y 0 0:=by
 refine ⟨?_,fun k=> ⟨fun h=> by simp,fun h=> by simp⟩⟩
 rw [sm_zero',show sm 65536 x 0=0 from rfl,show sm 65536 y 0=0 from rfl];simp
theorem FeCols.row {t x y:Nat→Int} {i:Nat} (h:FeCols t x y i 16):FeCols t x y (i+1) 0:=by
 refine ⟨?_,fun k=> ⟨fun hk=> ?_,fun hk=> ?_⟩⟩
 ·rw [h.1,show sm 65536 x (i+1)=sm 65536 x i+x i * 65536 ^ i from rfl,show sm 65536 y 0=0 from rfl,Int.add_mul,Int.mul_zero,Int.add_zero]
 ·have:=(h.2 k).1 (by omega);push_cast;omega
 ·rcases Nat.lt_or_ge k (i+16) with h' | h'
  ·have:=(h.2 k).1 h';push_cast;omega
  ·have:=(h.2 k).2 h';push_cast;omega
theorem near_mul {a b:Int} (h0: -100≤a) (h1:a≤65700) (h2: -100≤b) (h3:b≤65700): -4316490000≤a * b∧a * b≤4316490000:=by
 have e:a * b=(a+100) * (b+100) - 100 * a - 100 * b - 10000:=by grind
 have m0:0≤(a+100) * (b+100):=Int.mul_nonneg (by omega) (by omega)
 by_cases ha:0≤a
 ·by_cases hb:0≤b
  ·have:=Int.mul_nonneg ha hb
   have:=Int.mul_le_mul h1 h3 hb (by decide:(0:Int)≤65700)
   omega
  ·have h4:0≤a * (-b):=Int.mul_nonneg ha (by omega)
   have h5:a * (-b)≤65700 * 100:=Int.mul_le_mul h1 (by omega) (by omega) (by decide)
   rw [Int.mul_neg] at h4 h5
   omega
 ·by_cases hb:0≤b
  ·have h4:0≤(-a) * b:=Int.mul_nonneg (by omega) hb
   have h5:(-a) * b≤100 * 65700:=Int.mul_le_mul (by omega) h3 hb (by decide)
   rw [Int.neg_mul] at h4 h5
   omega
  ·have h4:0≤(-a) * (-b):=Int.mul_nonneg (by omega) (by omega)
   have h5:(-a) * (-b)≤100 * 100:=Int.mul_le_mul (by omega) (by omega) (by omega) (by decide)
   rw [Int.neg_mul_neg] at h4 h5
   omega
theorem FeCols.bound {t x y:Nat→Int} {i j:Nat} (h:FeCols t x y i j) (hi:i≤16) (k:Nat): -73380330000≤t k∧t k≤73380330000:=by
 rcases Nat.lt_or_ge k (i+j) with h' | h'
 ·have:=(h.2 k).1 h';omega
 ·have:=(h.2 k).2 h';omega
theorem FeCols.step {t x y:Nat→Int} {i j:Nat} (h:FeCols t x y i j) (hi:i<16) (hj:j<16) (hx:Near x) (hy:Near y):FeCols (upd t (i+j) (t (i+j)+x i * y j)) x y i (j+1):=by
 have bx:=hx.bound i hi
 have by':=hy.bound j hj
 have hm:=near_mul bx.1 bx.2 by'.1 by'.2
 refine ⟨?_,fun k=> ?_⟩
 ·rw [sm_upd',if_pos (by omega),h.1,show sm 65536 y (j+1)=sm 65536 y j+y j * 65536 ^ j from rfl,show t (i+j)+x i * y j - t (i+j)=x i * y j by omega,Int.pow_add]
  generalize (65536:Int) ^ i=p
  generalize (65536:Int) ^ j=q
  grind
 ·by_cases e:k=i+j
  ·subst e
   have h2:=(h.2 (i+j)).2 (Nat.le_refl _)
   rw [upd_at]
   exact ⟨fun _=> by omega,fun hk=> by omega⟩
  ·rw [upd_ne _ _ e]
   exact ⟨fun hk=> (h.2 k).1 (by omega),fun hk=> (h.2 k).2 (by omega)⟩
theorem Fe.mul {t f g:Nat→Int} {X Y:Int} (h:FeCols t f g 16 0) (hf:Fe f X) (hg:Fe g Y):Fe (crr (crr (fun i=> if i<15 then t i+38 * t (16+i) else t i))) (X * Y):=by
 have ho:∀i,i<16→ -3000000000000≤(if i<15 then t i+38 * t (16+i) else t i)∧(if i<15 then t i+38 * t (16+i) else t i)≤3000000000000:=by
  intro i hi
  have a:=h.bound (Nat.le_refl _) i
  have b:=h.bound (Nat.le_refl _) (16+i)
  split<;> omega
 have c1:=cin_bound ho (cl:= -46000000) (ch:=46000000) (by decide) (by decide) (by decide) (by decide)
 generalize ho':(fun i=> if i<15 then t i+38 * t (16+i) else t i)=o at *
 have hco:∀i,i<16→ -1750000000≤crr o i∧crr o i≤1750000000:=by
  intro i hi
  have:=c1 16 (Nat.le_refl _)
  unfold crr
  split<;> omega
 have hnn:∀i,i<16→0<i→0≤crr o i∧crr o i≤65535:=by
  intro i hi h0
  unfold crr
  rw [if_neg (by omega)]
  omega
 have c2:∀i,1<i→i≤16→ -1≤cin (crr o) i∧cin (crr o) i≤1:=by
  intro i
  induction i with
  | zero=> intro h;omega
  | succ i ih=>
   intro h1 h2
   have e:cin (crr o) (i+1)=(crr o i+cin (crr o) i) / 65536:=rfl
   rw [e]
   have a:=hnn i (by omega) (by omega)
   by_cases e1:i=1
   ·subst e1
    have e2:cin (crr o) 1=(crr o 0+0) / 65536:=rfl
    have b:=hco 0 (by decide)
    omega
   ·have b:=ih (by omega) (by omega)
    omega
 have c3:=c2 16 (by decide) (by decide)
 refine ⟨near_crr (by omega) (by omega),?_⟩
 rw [crr_mod,crr_mod,←ho']
 have e1:sm 65536 (fun i=> if i<15 then t i+38 * t (16+i) else t i) 16=sm 65536 t 16+38 * sm 65536 (fun i=> t (16+i)) 15:=by
  have e2:sm 65536 (fun i=> if i<15 then t i+38 * t (16+i) else t i) 15=sm 65536 (fun i=> 1 * t i+38 * t (16+i)) 15:=sm_congr fun i hi=> by rw [if_pos hi];omega
  rw [sm,e2,sm_lin,show sm 65536 t 16=sm 65536 t 15+t 15 * 65536 ^ 15 from rfl,if_neg (by decide)]
  omega
 have e3:=sm_split 65536 t 16 15
 have e4:=h.1
 rw [show (16:Nat)+15=31 from rfl] at e3
 rw [e4,show sm 65536 g 0=0 from rfl,Int.mul_zero,Int.add_zero,Pr_eq] at e3
 rw [e1]
 have e5:sm 65536 t 16+38 * sm 65536 (fun i=> t (16+i)) 15=sm 65536 f 16 * sm 65536 g 16+Pr * (-2 * sm 65536 (fun i=> t (16+i)) 15):=by
  generalize Pr=p at *
  generalize sm 65536 (fun i=> t (16+i)) 15=s at *
  generalize sm 65536 t 16=u at *
  rw [e3]
  grind
 rw [mod_eq_of e5,Int.mul_emod,hf.2,hg.2,←Int.mul_emod]
theorem top_bit (X:Int):∀i,i<16→upd (dg 65536 X) 15 (dg 65536 X 15 % 32768) i=dg 65536 (X % 2 ^ 255) i:=by
 intro i hi
 have hM:(2:Int) ^ 255=65536 ^ 15 * 32768:=by decide
 rw [hM]
 have h1:=Int.emod_add_mul_ediv X (65536 ^ 15 * 32768)
 by_cases e:i=15
 ·subst e
  rw [upd_at]
  unfold dg
  have h2:(X % (65536 ^ 15 * 32768)) / 65536 ^ 15=X / 65536 ^ 15 % 32768:=by
   have hp:(0:Int)<65536 ^ 15:=by decide
   generalize (65536:Int) ^ 15=p at *
   have h3:=Int.emod_add_mul_ediv X p
   have h4:=Int.emod_add_mul_ediv (X / p) 32768
   have h5:=Int.emod_nonneg X (show p≠0 by omega)
   have h6:=Int.emod_lt_of_pos X hp
   have h7:X / (p * 32768)=X / p / 32768:=(Int.ediv_ediv_of_nonneg (by omega)).symm
   rw [h7] at h1
   have h8:X % (p * 32768)=X % p+X / p % 32768 * p:=by
    have:p * (X / p)=p * (X / p % 32768)+p * 32768 * (X / p / 32768):=by
     conv=> lhs;rw [←h4]
     rw [Int.mul_add,Int.mul_assoc]
    rw [Int.mul_comm (X / p % 32768)]
    omega
   rw [h8,Int.add_mul_ediv_right _ _ (by omega),Int.ediv_eq_zero_of_lt h5 h6,Int.zero_add]
  rw [h2]
  omega
 ·rw [upd_ne _ _ e]
  conv=> lhs;rw [←h1]
  rw [show (65536:Int) ^ 15 * 32768 * (X / (65536 ^ 15 * 32768))=32768 * (X / (65536 ^ 15 * 32768)) * 65536 ^ 15 by
   generalize X / (65536 ^ 15 * 32768)=q
   rw [Int.mul_assoc,Int.mul_comm],dg_add (by decide) _ _ _ _ (by omega)]
theorem mod255 (X:Int):0≤X % 2 ^ 255∧X % 2 ^ 255<65536 ^ 16:=by
 have h:=Int.emod_lt_of_pos X (show (0:Int)<2 ^ 255 by decide)
 exact ⟨Int.emod_nonneg _ (by decide),Int.lt_trans h (by decide)⟩
theorem p255:(2:Int) ^ 255=65536 ^ 15 * 32768:=by decide
theorem hi_digit (X:Int) (j:Nat):dg 65536 X (15+j) / 32768+dg 65536 X (16+j) % 32768 * 2=dg 65536 (X / 2 ^ 255) j:=by
 have e:X / 2 ^ 255 / 65536 ^ j=X / 65536 ^ (15+j) / 32768:=by
  rw [p255,Int.ediv_ediv_of_nonneg (by decide),Int.ediv_ediv_of_nonneg (Int.le_of_lt (pow_pos' (by decide) _)),Int.pow_add]
  congr 1
  rw [Int.mul_assoc,Int.mul_comm 32768,←Int.mul_assoc]
 unfold dg
 rw [e,show 16+j=(15+j)+1 by omega,div_succ (by decide)]
 omega
theorem lo_digit (X:Int) {i:Nat} (h:i<15):dg 65536 X i=dg 65536 (X % 2 ^ 255) i:=by
 have:=top_bit X i (by omega)
 rwa [upd_ne _ _ (by omega)] at this
theorem lo_digit15 (X:Int):dg 65536 X 15 % 32768=dg 65536 (X % 2 ^ 255) 15:=by
 have:=top_bit X 15 (by omega)
 rwa [upd_at] at this
theorem hi_zero {H:Int} {i:Nat}:H % 65536 ^ (i+1)=0 ↔ H % 65536 ^ i=0∧dg 65536 H i=0:=by
 rw [mod_succ (by decide)]
 have hp:=pow_pos' (by decide:(0:Int)<65536) i
 have h1:=Int.emod_nonneg H (show (65536:Int) ^ i≠0 by omega)
 have h2:=dg_bound (by decide:(0:Int)<65536) H i
 constructor
 ·intro h
  have h3:0≤dg 65536 H i * 65536 ^ i:=Int.mul_nonneg h2.1 (by omega)
  refine ⟨by omega,?_⟩
  have h4:dg 65536 H i * 65536 ^ i=0:=by omega
  rcases Int.mul_eq_zero.1 h4 with h | h
  ·exact h
  ·omega
 ·rintro ⟨h3,h4⟩
  rw [h3,h4];simp
theorem hi_bound {X:Int} {n:Nat} (hX:0≤X∧X<65536 ^ n) (hn:17≤n):0≤X / 2 ^ 255∧X / 2 ^ 255<65536 ^ (n - 15):=by
 refine ⟨Int.ediv_nonneg hX.1 (by decide),Int.ediv_lt_of_lt_mul (by decide) ?_⟩
 have h1:(65536:Int) ^ n=65536 ^ (n - 15) * 65536 ^ 15:=by rw [←Int.pow_add];congr 1;omega
 have h2:(65536:Int) ^ (n - 15) * 65536 ^ 15≤65536 ^ (n - 15) * 2 ^ 255:=Int.mul_le_mul_of_nonneg_left (by decide) (Int.le_of_lt (pow_pos' (by decide) _))
 omega
def fold19 (X:Int):Int:=X % 2 ^ 255+19 * (X / 2 ^ 255)
theorem fold19_mod (X:Int):fold19 X % Pr=X % Pr:=by
 unfold fold19
 have h:=Int.emod_add_mul_ediv X (2 ^ 255)
 refine mod_eq_of (c:= -(X / 2 ^ 255)) ?_
 have e:(2:Int) ^ 255=Pr+19:=by decide
 rw [e] at h ⊢
 generalize X / (Pr+19)=q at *
 generalize X % (Pr+19)=r at *
 rw [Int.mul_neg]
 rw [Int.add_mul] at h
 omega
theorem fold19_less {X:Int} (h0:0≤X) (h1:X / 2 ^ 255≠0):0≤fold19 X∧fold19 X<X:=by
 unfold fold19
 have h:=Int.emod_add_mul_ediv X (2 ^ 255)
 have h2:=Int.ediv_nonneg h0 (show (0:Int)≤2 ^ 255 by decide)
 have h3:=Int.emod_nonneg X (show (2:Int) ^ 255≠0 by decide)
 omega
def car19 (L H:Int) (k:Nat):Int:=(L+19 * H) / 65536 ^ k - L / 65536 ^ k - 19 * (H / 65536 ^ k)
theorem car19_zero (L H:Int):car19 L H 0=0:=by simp [car19];omega
theorem car19_step (L H:Int) (k:Nat):(dg 65536 L k+car19 L H k+19 * dg 65536 H k) % 65536=dg 65536 (L+19 * H) k∧(dg 65536 L k+car19 L H k+19 * dg 65536 H k) / 65536=car19 L H (k+1):=by
 unfold car19 dg
 rw [div_succ (by decide) L,div_succ (by decide) H,div_succ (by decide) (L+19 * H)]
 omega
theorem car19_bound (L H:Int) (k:Nat):0≤car19 L H k∧car19 L H k≤19:=by
 unfold car19
 have hp:=pow_pos' (by decide:(0:Int)<65536) k
 generalize (65536:Int) ^ k=p at *
 have a:=Int.emod_add_mul_ediv L p
 have b:=Int.emod_add_mul_ediv H p
 have c:=Int.emod_add_mul_ediv (L+19 * H) p
 have a1:=Int.emod_nonneg L (show p≠0 by omega)
 have a2:=Int.emod_lt_of_pos L hp
 have b1:=Int.emod_nonneg H (show p≠0 by omega)
 have b2:=Int.emod_lt_of_pos H hp
 have c1:=Int.emod_nonneg (L+19 * H) (show p≠0 by omega)
 have c2:=Int.emod_lt_of_pos (L+19 * H) hp
 have e:p * ((L+19 * H) / p - L / p - 19 * (H / p))=L % p+19 * (H % p) - (L+19 * H) % p:=by
  rw [Int.mul_sub,Int.mul_sub,show p * (19 * (H / p))=19 * (p * (H / p)) by rw [←Int.mul_assoc,Int.mul_comm p,Int.mul_assoc]]
  omega
 generalize (L+19 * H) / p - L / p - 19 * (H / p)=t at *
 have u:p * t<p * 20:=by omega
 have l:p * (-1)<p * t:=by omega
 have:=Int.lt_of_mul_lt_mul_left u (by omega)
 have:=Int.lt_of_mul_lt_mul_left l (by omega)
 omega
theorem car19_top {L H:Int} {l:Nat} (hL:0≤L∧L<65536 ^ l) (hH:0≤H∧H<65536 ^ l):car19 L H l=(L+19 * H) / 65536 ^ l∧car19 L H l=dg 65536 (L+19 * H) l∧L+19 * H<65536 ^ (l+1):=by
 have hb:=car19_bound L H l
 have e:car19 L H l=(L+19 * H) / 65536 ^ l:=by
  unfold car19
  rw [Int.ediv_eq_zero_of_lt hL.1 hL.2,Int.ediv_eq_zero_of_lt hH.1 hH.2];omega
 refine ⟨e,?_,?_⟩
 ·unfold dg;rw [←e];omega
 ·rw [Int.pow_succ];omega
theorem low_modP {X:Int} (h:X / 2 ^ 255=0) (h0:0≤X):X % 2 ^ 255=X∧sub1 X=X % Pr:=by
 have h1:=Int.emod_add_mul_ediv X (2 ^ 255)
 rw [h] at h1
 have h2:=Int.emod_lt_of_pos X (show (0:Int)<2 ^ 255 by decide)
 have h3:X % 2 ^ 255=X:=by omega
 refine ⟨h3,?_⟩
 rw [h3] at h2
 have hp:(38:Int)<Pr:=by decide
 have he:(2:Int) ^ 255=Pr+19:=by decide
 rw [he] at h2
 unfold sub1
 split
 ·rw [show X=X - Pr+Pr * 1 by omega,Int.add_mul_emod_self_left,Int.emod_eq_of_lt (by omega) (by omega)];omega
 ·rw [Int.emod_eq_of_lt h0 (by omega)]
def addF (f g:Nat→Int):Nat→Int:=crr (fun i=> f i+g i)
def subF (f g:Nat→Int):Nat→Int:=crr (fun i=> f i - g i)
def rowF (f g:Nat→Int) (t:Nat→Int) (i:Nat):Nat→Nat→Int
 | 0=> t
 | j+1=> upd (rowF f g t i j) (i+j) (rowF f g t i j (i+j)+f i * g j)
def colF (f g:Nat→Int):Nat→Nat→Int
 | 0=> fun _=> 0
 | i+1=> rowF f g (colF f g i) i 16
def mulF (f g:Nat→Int):Nat→Int:=crr (crr (fun i=> if i<15 then colF f g 16 i+38 * colF f g 16 (16+i) else colF f g 16 i))
def smallN (n:Int):Int:=if 0≤n∧n<65536 then n else 0
def smallF (n:Int):Nat→Int:=if 0≤n∧n<65536 then upd (fun _=> 0) 0 n else fun _=> 0
theorem Fe.addF {f g:Nat→Int} {X Y:Int} (hf:Fe f X) (hg:Fe g Y):Fe (addF f g) (X+Y):=hf.add hg
theorem Fe.subF {f g:Nat→Int} {X Y:Int} (hf:Fe f X) (hg:Fe g Y):Fe (subF f g) (X - Y):=hf.sub hg
theorem fe_zero:Fe (fun _=> 0) 0:=⟨⟨fun _ _ _=> by simp,by decide,by decide⟩,by rw [sm_zero']⟩
theorem rowF_cols {f g:Nat→Int} (hf:Near f) (hg:Near g) {t:Nat→Int} {i:Nat} (hi:i<16) (h:FeCols t f g i 0):∀j,j≤16→FeCols (rowF f g t i j) f g i j:=by
 intro j
 induction j with
 | zero=> intro _;exact h
 | succ j ih=> intro hj;exact (ih (by omega)).step hi (by omega) hf hg
theorem colF_cols {f g:Nat→Int} (hf:Near f) (hg:Near g):∀i,i≤16→FeCols (colF f g i) f g i 0:=by
 intro i
 induction i with
 | zero=> intro _;exact FeCols.zero f g
 | succ i ih=> intro hi;exact (rowF_cols hf hg (by omega) (ih (by omega)) 16 (Nat.le_refl _)).row
theorem Fe.mulF {f g:Nat→Int} {X Y:Int} (hf:Fe f X) (hg:Fe g Y):Fe (mulF f g) (X * Y):=Fe.mul (colF_cols hf.1 hg.1 16 (Nat.le_refl _)) hf hg
theorem fe_small {n:Int} (h0:0≤n) (h1:n<65536):Fe (upd (fun _=> 0) 0 n) n:=by
 refine ⟨⟨fun i _ h=> by rw [upd_ne _ _ (by omega)];simp,by rw [upd_at];omega,by rw [upd_at];omega⟩,?_⟩
 rw [sm_upd',sm_zero']
 simp
theorem fe_smallF (n:Int):Fe (smallF n) (smallN n):=by
 unfold smallF smallN
 by_cases h:0≤n∧n<65536
 ·rw [if_pos h,if_pos h];exact fe_small h.1 h.2
 ·rw [if_neg h,if_neg h];exact fe_zero
theorem num_digits {l:Int} (h0:1≤l) (h1:l≤255):∀i,i<32→upd (upd (fun _=> 255) 0 (256 - l)) 31 127 i=dg 256 (2 ^ 255 - l) i:=by
 have hb:∀i,i<32→0≤upd (upd (fun _=> 255) 0 (256 - l)) 31 127 i∧upd (upd (fun _=> 255) 0 (256 - l)) 31 127 i<256:=by
  intro i _
  unfold upd
  split
  ·omega
  ·split
   ·omega
   ·show (0:Int)≤255∧(255:Int)<256;decide
 have hs:sm 256 (upd (upd (fun _=> 255) 0 (256 - l)) 31 127) 32=2 ^ 255 - l:=by
  rw [sm_upd',sm_upd',if_pos (by decide),if_pos (by decide),upd_ne _ _ (by decide)]
  rw [show sm 256 (fun _=> 255) 32=2 ^ 256 - 1 by decide]
  rw [show (256:Int) ^ 31=2 ^ 248 by decide]
  omega
 intro i hi
 rw [←hs,dg_sm (by decide) hb i hi]
theorem half_digit (X:Int) (i:Nat):dg 256 (X / 2) i=dg 256 X i / 2+dg 256 X (i+1) % 2 * 128:=by
 unfold dg
 rw [div_succ (by decide) X i,Int.ediv_ediv_of_nonneg (by decide),Int.mul_comm 2,←Int.ediv_ediv_of_nonneg (Int.le_of_lt (pow_pos' (by decide) _))]
 omega
def pwOut (X N:Int) (i:Nat):Int:=X ^ (N % 2 ^ i).toNat
theorem pwOut_zero (X N:Int):pwOut X N 0=1:=by unfold pwOut;rw [Int.pow_zero,Int.emod_one,show (0:Int).toNat=0 from rfl,Int.pow_zero]
theorem mod2_succ (N:Int) (i:Nat):N % 2 ^ (i+1)=N % 2 ^ i+N / 2 ^ i % 2 * 2 ^ i:=mod_succ (B:=2) (by decide) N i
theorem pwOut_step (X N:Int) (i:Nat):pwOut X N (i+1)=if N / 2 ^ i % 2=1 then pwOut X N i * X ^ (2 ^ i) else pwOut X N i:=by
 unfold pwOut
 have hp:=pow_pos' (by decide:(0:Int)<2) i
 have h0:=Int.emod_nonneg N (show (2:Int) ^ i≠0 by omega)
 rw [mod2_succ]
 by_cases e:N / 2 ^ i % 2=1
 ·rw [if_pos e,e,Int.one_mul,←Int.pow_add]
  congr 1
  have:((2:Int) ^ i)=((2 ^ i:Nat):Int):=by simp
  omega
 ·rw [if_neg e,show N / 2 ^ i % 2=0 by omega,Int.zero_mul,Int.add_zero]
theorem sqr_step (X:Int) (i:Nat):X ^ (2 ^ (i+1))=X ^ (2 ^ i) * X ^ (2 ^ i):=by rw [←Int.pow_add];congr 1;rw [Nat.pow_succ];omega
theorem pwOut_full {X N:Int} (h0:0≤N) (h1:N<2 ^ 256):pwOut X N 256=X ^ N.toNat:=by unfold pwOut;rw [Int.emod_eq_of_lt h0 h1]
theorem byte_bit (N:Int) (i k:Nat) (hk:k<8):dg 256 N i / 2 ^ k % 2=N / 2 ^ (8 * i+k) % 2:=by
 rw [bit_of N (8 * i+k),show (8 * i+k) / 8=i by omega,show (8 * i+k) % 8=k by omega]
def pwF (f:Nat→Int) (N:Int):Nat→Nat→Int
 | 0=> smallF 1
 | k+1=> if N / 2 ^ (255 - k) % 2=1 then mulF (mulF (pwF f N k) (pwF f N k)) f else mulF (pwF f N k) (pwF f N k)
theorem pow_even (X:Int) {a m:Nat} (h:a=2 * m):X ^ a=X ^ m * X ^ m:=by rw [h,←Int.pow_add];congr 1;omega
theorem Fe.pwF {f:Nat→Int} {X N:Int} (hf:Fe f X) (h0:0≤N) (h1:N<2 ^ 256):∀k,k≤256→Fe (pwF f N k) (X ^ (N / 2 ^ (256 - k)).toNat):=by
 intro k
 induction k with
 | zero=>
  intro _
  rw [Nat.sub_zero,Int.ediv_eq_zero_of_lt h0 h1,show (0:Int).toNat=0 from rfl,Int.pow_zero]
  have h:=fe_smallF 1
  rwa [show smallN 1=1 by decide] at h
 | succ k ih=>
  intro hk
  have h:=ih (by omega)
  have hh:=half N (255 - k)
  rw [show 255 - k+1=256 - k by omega] at hh
  have hm:0≤N / 2 ^ (256 - k):=Int.ediv_nonneg h0 (Int.le_of_lt (pow_pos' (by decide) _))
  rw [show 256 - (k+1)=255 - k by omega]
  unfold Go.Bas.pwF
  by_cases e:N / 2 ^ (255 - k) % 2=1
  ·rw [if_pos e]
   rw [e] at hh
   rw [show (N / 2 ^ (255 - k)).toNat=2 * (N / 2 ^ (256 - k)).toNat+1 by omega,Int.pow_succ,pow_even X rfl]
   exact (h.mulF h).mulF hf
  ·rw [if_neg e]
   rw [pow_even X (show (N / 2 ^ (255 - k)).toNat=2 * (N / 2 ^ (256 - k)).toNat by omega)]
   exact h.mulF h
def powF (f:Nat→Int) (N:Int):Nat→Int:=Go.Bas.pwF f N 256
theorem Fe.powF {f:Nat→Int} {X N:Int} (hf:Fe f X) (h0:0≤N) (h1:N<2 ^ 256):Fe (powF f N) (X ^ N.toNat):=by
 have h:=hf.pwF h0 h1 256 (Nat.le_refl _)
 rwa [Nat.sub_self,Int.pow_zero,Int.ediv_one] at h
end Go.Bas
namespace Go.Bas
theorem Pr_PN:Pr=(PN:Int):=by decide
theorem int_pow_mod (X:Int) (n:Nat):X ^ n % Pr=(X % Pr) ^ n % Pr:=by
 induction n with
 | zero=> rw [Int.pow_zero,Int.pow_zero]
 | succ n ih=> rw [Int.pow_succ,Int.pow_succ,Int.mul_emod,ih,Int.mul_emod ((X % Pr) ^ n),Int.emod_emod_of_dvd _ (Int.dvd_refl Pr)]
theorem int_pow_nat (x n:Nat):((x:Int) ^ n) % Pr=((x ^ n % PN:Nat):Int):=by rw [Pr_PN,Int.natCast_emod,Int.natCast_pow]
theorem rest_nat (X:Int):∃x:Nat,X % Pr=(x:Int)∧x<PN∧(X % Pr≠0→¬ PN ∣ x):=by
 have h0:0≤X % Pr:=Int.emod_nonneg _ (by decide)
 have h1:X % Pr<Pr:=Int.emod_lt_of_pos _ (by decide)
 refine ⟨(X % Pr).toNat,by omega,by rw [Pr_PN] at *;omega,fun hne hd=> ?_⟩
 have hlt:(X % Pr).toNat<PN:=by rw [Pr_PN] at *;omega
 have:=Nat.eq_zero_of_dvd_of_lt hd hlt
 omega
theorem fermat_Pr {X:Int} (h:X % Pr≠0):X ^ (PN - 1) % Pr=1:=by
 obtain ⟨x,hx,hlt,hd⟩:=rest_nat X
 rw [int_pow_mod,hx,int_pow_nat,prime_PN.fermat1 (hd h)]
 rfl
theorem inv_Pr {X:Int} (h:X % Pr≠0):X ^ (PN - 2) * X % Pr=1:=by
 rw [←Int.pow_succ,show (PN - 2).succ=PN - 1 by decide];exact fermat_Pr h
end Go.Bas
namespace Go.Bas
def dX (x z:Int):Int:=(x+z) * (x+z) * ((x - z) * (x - z))
def dZ (x z:Int):Int:=((x+z) * (x+z) - (x - z) * (x - z)) * ((x+z) * (x+z)+121665 * ((x+z) * (x+z) - (x - z) * (x - z)))
def sX (a b c d:Int):Int:=((c - d) * (a+b)+(c+d) * (a - b)) * ((c - d) * (a+b)+(c+d) * (a - b))
def sZ (u a b c d:Int):Int:=u * (((c - d) * (a+b) - (c+d) * (a - b)) * ((c - d) * (a+b) - (c+d) * (a - b)))
theorem sX_swap (a b c d:Int):sX c d a b=sX a b c d:=by unfold sX;grind
theorem sZ_swap (u a b c d:Int):sZ u c d a b=sZ u a b c d:=by unfold sZ;grind
structure Two where
 a:Int
 b:Int
 c:Int
 d:Int
def Two.turn (s:Two):Two:=⟨s.c,s.d,s.a,s.b⟩
def Two.rung (u:Int) (bit:Int) (s:Two):Two:=
 if bit=1 then ⟨sX s.a s.b s.c s.d,sZ u s.a s.b s.c s.d,dX s.c s.d,dZ s.c s.d⟩ else ⟨dX s.a s.b,dZ s.a s.b,sX s.a s.b s.c s.d,sZ u s.a s.b s.c s.d⟩
def lad (n u:Int):Nat→Two
 | 0=> ⟨1,0,u,1⟩
 | k+1=> (lad n u k).rung u (n / 2 ^ (254 - k) % 2)
def Two.flip (q:Bool) (s:Two):Two:=if q then s.turn else s
theorem Two.rung_flip (u:Int) (b:Int) (hb:b=0∨b=1) (s:Two):⟨dX (s.flip (b==1)).a (s.flip (b==1)).b,dZ (s.flip (b==1)).a (s.flip (b==1)).b,sX (s.flip (b==1)).a (s.flip (b==1)).b (s.flip (b==1)).c (s.flip (b==1)).d,sZ u (s.flip (b==1)).a (s.flip (b==1)).b (s.flip (b==1)).c (s.flip (b==1)).d⟩=((s.rung u b).flip (b==1)):=by
 rcases hb with rfl | rfl
 ·rfl
 ·show (⟨dX s.c s.d,dZ s.c s.d,sX s.c s.d s.a s.b,sZ u s.c s.d s.a s.b⟩:Two)=⟨dX s.c s.d,dZ s.c s.d,sX s.a s.b s.c s.d,sZ u s.a s.b s.c s.d⟩
  rw [sX_swap,sZ_swap]
def ladN (n u:Int):Int:=(lad n u 255).a * (lad n u 255).b ^ (PN - 2)
def clampN (s:Int):Int:=s % 2 ^ 254 / 8 * 8+2 ^ 254
end Go.Bas
namespace Go.Bas
def Cg (X Y:Int):Prop:=X % Pr=Y % Pr
theorem Cg.refl (X:Int):Cg X X:=rfl
theorem Cg.symm {X Y:Int} (h:Cg X Y):Cg Y X:=Eq.symm h
theorem Cg.trans {X Y Z:Int} (h:Cg X Y) (h':Cg Y Z):Cg X Z:=Eq.trans h h'
theorem Cg.add {X Y X' Y':Int} (h:Cg X Y) (h':Cg X' Y'):Cg (X+X') (Y+Y'):=by
 unfold Cg at *;rw [Int.add_emod,h,h',←Int.add_emod]
theorem Cg.sub {X Y X' Y':Int} (h:Cg X Y) (h':Cg X' Y'):Cg (X - X') (Y - Y'):=by
 unfold Cg at *;rw [Int.sub_emod,h,h',←Int.sub_emod]
theorem Cg.mul {X Y X' Y':Int} (h:Cg X Y) (h':Cg X' Y'):Cg (X * X') (Y * Y'):=by
 unfold Cg at *;rw [Int.mul_emod,h,h',←Int.mul_emod]
theorem Cg.mod (X:Int):Cg (X % Pr) X:=Int.emod_emod_of_dvd _ (Int.dvd_refl Pr)
def nA (x y:Nat):Nat:=(x+y) % PN
def nS (x y:Nat):Nat:=(x+(PN - y)) % PN
def nM (x y:Nat):Nat:=x * y % PN
def Stands (n:Nat) (X:Int):Prop:=n<PN∧Cg (n:Int) X
theorem PN_pos:0<PN:=by decide
theorem cast_mod (n:Nat):Cg ((n % PN:Nat):Int) (n:Int):=by rw [Int.natCast_emod,←Pr_PN];exact Cg.mod _
theorem Stands.add {m n:Nat} {X Y:Int} (h:Stands m X) (h':Stands n Y):Stands (nA m n) (X+Y):=
 ⟨Nat.mod_lt _ PN_pos,(cast_mod _).trans (by rw [Int.natCast_add];exact h.2.add h'.2)⟩
theorem Stands.mul {m n:Nat} {X Y:Int} (h:Stands m X) (h':Stands n Y):Stands (nM m n) (X * Y):=
 ⟨Nat.mod_lt _ PN_pos,(cast_mod _).trans (by rw [Int.natCast_mul];exact h.2.mul h'.2)⟩
theorem Stands.sub {m n:Nat} {X Y:Int} (h:Stands m X) (h':Stands n Y):Stands (nS m n) (X - Y):=by
 refine ⟨Nat.mod_lt _ PN_pos,(cast_mod _).trans (Cg.trans (Y:=(m:Int) - (n:Int)) ?_ (h.2.sub h'.2))⟩
 have e:((m+(PN - n):Nat):Int)=(m:Int) - (n:Int)+Pr * 1:=by rw [Pr_PN];have:=h'.1;omega
 unfold Cg
 rw [e,Int.add_mul_emod_self_left]
def nD (x z:Nat):Nat × Nat:=
 let aa:=nM (nA x z) (nA x z)
 let bb:=nM (nS x z) (nS x z)
 let e:=nS aa bb
 (nM aa bb,nM e (nA aa (nM 121665 e)))
def nSum (u a b c d:Nat):Nat × Nat:=
 let p:=nM (nS c d) (nA a b)
 let q:=nM (nA c d) (nS a b)
 let s:=nA p q
 let t:=nS p q
 (nM s s,nM u (nM t t))
def ladE (n u:Nat):Nat→Nat→Nat→Nat→Nat→Nat × Nat
 | 0,a,b,_,_=> (a,b)
 | k+1,a,b,c,d=> if n / 2 ^ k % 2=1 then ladE n u k (nSum u a b c d).1 (nSum u a b c d).2 (nD c d).1 (nD c d).2 else ladE n u k (nD a b).1 (nD a b).2 (nSum u a b c d).1 (nSum u a b c d).2
theorem Stands.nD {x z:Nat} {X Z:Int} (h:Stands x X) (h':Stands z Z):Stands (nD x z).1 (Bas.dX X Z)∧Stands (Bas.nD x z).2 (Bas.dZ X Z):=
 have hf:Stands 121665 121665:=⟨by decide,rfl⟩
 have e:=((h.add h').mul (h.add h')).sub ((h.sub h').mul (h.sub h'))
 ⟨((h.add h').mul (h.add h')).mul ((h.sub h').mul (h.sub h')),e.mul (((h.add h').mul (h.add h')).add (hf.mul e))⟩
theorem Stands.nSum {u a b c d:Nat} {U A B C D:Int} (hu:Stands u U) (ha:Stands a A) (hb:Stands b B) (hc:Stands c C) (hd:Stands d D):Stands (nSum u a b c d).1 (Bas.sX A B C D)∧Stands (Bas.nSum u a b c d).2 (Bas.sZ U A B C D):=
 have s:=((hc.sub hd).mul (ha.add hb)).add ((hc.add hd).mul (ha.sub hb))
 have t:=((hc.sub hd).mul (ha.add hb)).sub ((hc.add hd).mul (ha.sub hb))
 ⟨s.mul s,hu.mul (t.mul t)⟩
theorem ladE_stands {n u:Nat} {U:Int} (hu:Stands u U):∀(k a b c d:Nat),k≤255→Stands a (lad n U (255 - k)).a→Stands b (lad n U (255 - k)).b→Stands c (lad n U (255 - k)).c→Stands d (lad n U (255 - k)).d→
  Stands (ladE n u k a b c d).1 (lad n U 255).a∧Stands (ladE n u k a b c d).2 (lad n U 255).b
 | 0,_,_,_,_,_,ha,hb,_,_=> ⟨ha,hb⟩
 | k+1,a,b,c,d,hk,ha,hb,hc,hd=> by
  have e:lad n U (255 - k)=(lad n U (255 - (k+1))).rung U (((n / 2 ^ k % 2:Nat)):Int):=by
   rw [show 255 - k=255 - (k+1)+1 by omega]
   show (lad n U (255 - (k+1))).rung U ((n:Int) / 2 ^ (254 - (255 - (k+1))) % 2)= _
   rw [show 254 - (255 - (k+1))=k by omega]
   simp
  obtain ⟨s,hs⟩:∃s,s=lad n U (255 - (k+1)):=⟨_,rfl⟩
  rw [←hs] at e ha hb hc hd
  unfold ladE
  by_cases hb1:n / 2 ^ k % 2=1
  ·rw [if_pos hb1]
   rw [hb1] at e
   have e':lad n U (255 - k)=⟨sX s.a s.b s.c s.d,sZ U s.a s.b s.c s.d,dX s.c s.d,dZ s.c s.d⟩:=e
   have h1:=hu.nSum ha hb hc hd
   have h2:=hc.nD hd
   refine ladE_stands hu k _ _ _ _ (by omega) ?_ ?_ ?_ ?_<;> rw [e']
   ·exact h1.1
   ·exact h1.2
   ·exact h2.1
   ·exact h2.2
  ·rw [if_neg hb1]
   rw [show n / 2 ^ k % 2=0 by omega] at e
   have e':lad n U (255 - k)=⟨dX s.a s.b,dZ s.a s.b,sX s.a s.b s.c s.d,sZ U s.a s.b s.c s.d⟩:=e
   have h1:=hu.nSum ha hb hc hd
   have h2:=ha.nD hb
   refine ladE_stands hu k _ _ _ _ (by omega) ?_ ?_ ?_ ?_<;> rw [e']
   ·exact h2.1
   ·exact h2.2
   ·exact h1.1
   ·exact h1.2
theorem ladE_start (n u:Nat) (hu:u<PN):Stands (ladE n u 255 1 0 u 1).1 (lad n u 255).a∧Stands (ladE n u 255 1 0 u 1).2 (lad n u 255).b:=
 ladE_stands ⟨hu,rfl⟩ 255 1 0 u 1 (Nat.le_refl _) ⟨by decide,rfl⟩ ⟨by decide,rfl⟩ ⟨hu,rfl⟩ ⟨by decide,rfl⟩
theorem Stands.ne {n:Nat} {X:Int} (h:Stands n X) (hn:n≠0):X % Pr≠0:=by
 rw [←show (n:Int) % Pr=X % Pr from h.2,Pr_PN,←Int.natCast_emod,Nat.mod_eq_of_lt h.1]
 omega
theorem inv_cg {X:Int} (Y:Int) (h:X % Pr≠0):Cg ((Y * X) * X ^ (PN - 2)) Y:=by
 have h1:=inv_Pr h
 have e:(Y * X) * X ^ (PN - 2)=Y * (X ^ (PN - 2) * X):=by
  generalize X ^ (PN - 2)=I
  grind
 unfold Cg
 rw [e,Int.mul_emod,h1,Int.mul_one,Int.emod_emod_of_dvd _ (Int.dvd_refl Pr)]
theorem quot_ne {A B:Int} (ha:A % Pr≠0) (hb:B % Pr≠0):A * B ^ (PN - 2) % Pr≠0:=by
 intro h
 apply ha
 have h1:Cg (A * B * B ^ (PN - 2)) A:=inv_cg A hb
 have h2:A * B * B ^ (PN - 2)=B * (A * B ^ (PN - 2)):=by rw [Int.mul_comm A B,Int.mul_assoc]
 have h3:Cg (B * (A * B ^ (PN - 2))) (B * 0):=(Cg.refl B).mul (show _ % Pr=0 % Pr by rw [h];rfl)
 have h4:=(h1.symm.trans (h2▸h3))
 unfold Cg at h4
 rw [h4,Int.mul_zero];rfl
end Go.Bas
namespace Go.Bas
open Go.RowKit
def lenS:Value→Nat
 | .slice _ n _=> n
 | _=> 0
theorem run_append_made {P:Program} (w:World) (t u ty e:TypeId) (k:IntKind) (bytes:Nat) (h1:P.underlying t=some (.slice e)) (hu:P.underlying u=some (.int .i64)) (hinfo:(P.info? e).map (fun i=> (i.zero,i.size,i.bytes))=some (some (.int k 0),1,bytes))
  (base:Nat) (g n c:Nat) (f:Nat→Int) (hown:Own k e base w (.slice (some ⟨g,0,none⟩) n c) n f) (m:Nat) (hc:c<n+m) (hf:∀i,i<m→f (n+i)=0)
  (b2:(n+m) * bytes≤140737488355328) (b3:n+m≤9223372036854775807) (b4:base≤w.heap.size):
  ∃v' w',(Builtin.append_ #[t,u] ty #[.slice (some ⟨g,0,none⟩) n c,.int .i64 (m:Int)]).run P w=.ok v' w'∧Own k e base w' v' (n+m) f∧w.grownBy w' none:=by
 obtain ⟨i,hi,hz0,hz1,hz2⟩:=info_parts hinfo
 have hcell:=hown.cells (g:=g) rfl
 have hlen:=hown.1
 have hnc:n≤c:=by
  rcases hown.2 with ⟨h,_⟩ | ⟨g',cap,cur,he,_,_,hn,_⟩
  ·cases h
  ·simp only [Value.slice.injEq,true_and] at he
   obtain ⟨_,rfl⟩:=he
   exact hn
 have hm0:0<m:=by omega
 have hn:¬ (n+m≤c):=by omega
 have h63':¬ (9223372036854775807<((n:Int)+(m:Int))):=by omega
 have hfit:Builtin.nextslicecap (n+m) c * i.bytes≤281474976710656:=growslice_fits (by omega) (by rw [hz2];exact b2)
 have h48':¬ (281474976710656<Builtin.nextslicecap (n+m) c * i.bytes):=by omega
 have hfo:=run_firstCells_some (P:=P) w.drew i.size n ⟨g,0,none⟩ n c (vals k n f) (by rw [hz1];simp) (by simpa using hcell)
 have hw:IntKind.i64.wrap (m:Int)=(m:Int):=wrap_i64_id (by omega) (by omega)
 have hneg:¬ ((m:Int)<0):=by omega
 have hmb:m * i.bytes≤140737488355328:=Nat.le_trans (Nat.mul_le_mul_right i.bytes (show m≤n+m by omega)) (by rw [hz2];exact b2)
 have hbig:¬ (281474976710656<(m:Int) * (i.bytes:Int)):=by
  rw [←Int.natCast_mul]
  omega
 have hge:=grownCap_ge w (n+m) c e
 have hcm:grownCap w (n+m) c e≤maxLen:=grownCap_le_maxLen w (n+m) c e (by unfold maxLen;omega)
 have hrun:(Builtin.append_ #[t,u] ty #[.slice (some ⟨g,0,none⟩) n c,.int .i64 (m:Int)]).run P w=
   .ok (.slice (some ⟨w.heap.size,0,none⟩) (n+m) (grownCap w (n+m) c e)) (w.drew.alloc (.cells ((vals k n f).toArray++Builtin.zeroCells (Value.int k 0).cells m++Builtin.zeroCells (Value.int k 0).cells (grownCap w (n+m) c e - (n+m))) e)):=by
  rw [hz1] at hfo
  have hmz:¬ m=0:=by omega
  simp [Builtin.append_,run_underlying h1,run_underlying hu,sizeOf,typeInfo,zeroValue,hi,hz0,hz1,asInt,asIntOf,hw,hneg,hbig,hn,h63',h48',Question.forced,hfo,hmz,newRow,grownCap]
 refine ⟨_,_,hrun,?_,⟨rfl,rfl,rfl,by simp,fun q hq _=> ((Below.refl w.heap.size w.drew).alloc (Nat.le_refl _) _).block q hq⟩⟩
 have hz:(Value.int k 0).cells=#[.int k 0] :=rfl
 have hvz:(Builtin.zeroCells (Value.int k 0).cells m).toList=vals k m (fun _=> 0):=by
  apply List.ext_getElem?
  intro j
  by_cases hj:j<m
  ·rw [vals_get hj];simp [Builtin.zeroCells,hz,hj,Nat.mod_one]
  ·simp [Builtin.zeroCells,hz,hj,vals]
 have hva:vals k n f++vals k m (fun _=> 0)=vals k (n+m) f:=by
  unfold vals
  rw [List.range_add]
  simp only [List.map_append,List.map_map]
  congr 1
  exact List.map_congr_left fun i hi=> by simp [hf i (List.mem_range.1 hi)]
 refine ⟨by simp,.inr ⟨w.heap.size,_,_,rfl,b4,heap_alloc_new w.drew _,hge,hcm,?_,?_⟩⟩
 ·simp only [Array.size_append,List.size_toArray,size_zeroCells,hz,vals_length]
  simp;omega
 ·rw [Array.toList_append,Array.toList_append,hvz,List.append_assoc]
  rw [←List.append_assoc]
  simp only [List.toList_toArray]
  rw [hva,List.take_append_of_le_length (by simp),List.take_of_length_le (by simp)]
theorem append_made {P:Program} {w:World} {ops:Array Oper} {rest:List Oper} {o:Oper} {a:Act} {Q:Exit→Act→World→Prop}
  (hg:o.guard=none) (s x:Operand) (t u:TypeId) (hop:o.op=.call { callee:=.builtin .append,args:=#[s,x],argTypes:=#[t,u] })
  (base:Nat) (e:TypeId) (k:IntKind) (bytes:Nat)
  (h1:P.underlying t=some (.slice e)) (hu:P.underlying u=some (.int .i64)) (hinfo:(P.info? e).map (fun i=> (i.zero,i.size,i.bytes))=some (some (.int k 0),1,bytes))
  (b n c:Nat) (f:Nat→Int) (hown:Own k e base w (.slice (some ⟨b,0,none⟩) n c) n f) (hs:a.eval s=.slice (some ⟨b,0,none⟩) n c) (m:Nat) (hx:a.eval x=.int .i64 (m:Int)) (hc:c<n+m) (hf:∀i,i<m→f (n+i)=0)
  (b2:(n+m) * bytes≤140737488355328) (b3:n+m≤9223372036854775807) (b4:base≤w.heap.size)
  (hK:∀v' w',Own k e base w' v' (n+m) f→w.grownBy w' none→wpList P ops Q rest (a.put o.dst v') w'):
  wpList P ops Q (o::rest) a w:=by
 refine wpList_plain hg fun K hK'=> ?_
 obtain ⟨v',w',hr,h2,h3⟩:=run_append_made (P:=P) w t u o.type e k bytes h1 hu hinfo base b n c f hown m hc hf b2 b3 b4
 unfold Oper.wp execOp
 simp only [hop,resolve,invoke,builtin,Sem.run_bind,Sem.run_pure,Result.andThen_ok,List.map_toArray,List.map_cons,List.map_nil,hs,hx,hr]
 exact hK' _ _ (hK v' w' h2 h3)
end Go.Bas
namespace Go.Bas
open Go.RowKit
def OwnAt (k:IntKind) (e:TypeId) (base:Nat) (w:World) (v:Value) (n:Nat) (f:Nat→Int):Prop:=
 (v=.slice none 0 0∧n=0)∨∃g o c cur,v=.slice (some ⟨g,o,none⟩) n c∧base≤g∧w.heap[g]? =some (.cells cur e (0,0))∧n≤c∧c≤9223372036854775807∧o+c≤cur.size∧(cur.toList.drop o).take n=vals k n f
variable {k : IntKind} {e : TypeId} {base : Nat} {w w' : World} {v : Value} {n : Nat} {f g : Nat → Int}
theorem OwnAt.nil (k:IntKind) (e:TypeId) (base:Nat) (w:World) (f:Nat→Int):OwnAt k e base w (.slice none 0 0) 0 f:=.inl ⟨rfl,rfl⟩
theorem OwnAt.rd (h:OwnAt k e base w v n f):Rd k w v n f:=by
 rcases h with ⟨rfl,rfl⟩ | ⟨g,o,c,cur,rfl,hb,hg,hn,hc,hs,ht⟩
 ·exact Rd.nil _ _ _
 ·refine ⟨_,_,rfl,hn,hc,(fun h=> by cases h),fun _=> ⟨g,o,rfl,(Array.getElem?_eq_some_iff.1 hg).1,fun i hi=> ?_⟩⟩
  rw [cell_of_row w g (o+i) cur e (0,0) hg]
  have:=vals_get (k:=k) (f:=f) hi
  rw [←ht,List.getElem?_take,if_pos hi,List.getElem?_drop] at this
  simpa using this
theorem OwnAt.congr (h:OwnAt k e base w v n f) (q:∀i,i<n→f i=g i):OwnAt k e base w v n g:=by
 unfold OwnAt at *
 rwa [vals_congr q] at h
theorem OwnAt.lt (h:OwnAt k e base w v n f):∀b,v.ownBlock=some b→base≤b∧b<w.heap.size:=by
 intro b hb
 rcases h with ⟨rfl,_⟩ | ⟨g,o,c,cur,rfl,hb',hg,_⟩
 ·simp [Value.ownBlock] at hb
 ·simp [Value.ownBlock] at hb
  subst hb
  exact ⟨hb',(Array.getElem?_eq_some_iff.1 hg).1⟩
theorem OwnAt.below (h:OwnAt k e base w v n f) (hb:Below w.heap.size w w'):OwnAt k e base w' v n f:=by
 rcases h with h | ⟨g,o,c,cur,rfl,hb',hgg,rest⟩
 ·exact .inl h
 ·refine .inr ⟨g,o,c,cur,rfl,hb',?_,rest⟩
  rw [hb.block g (Array.getElem?_eq_some_iff.1 hgg).1]
  exact hgg
theorem vals_drop (k:IntKind) (n lo:Nat) (f:Nat→Int):(vals k n f).drop lo=vals k (n - lo) (fun i=> f (lo+i)):=by
 apply List.ext_getElem?
 intro i
 rw [List.getElem?_drop]
 by_cases hi:lo+i<n
 ·rw [vals_get hi,vals_get (by omega)]
 ·have h1:(vals k n f)[lo+i]? =none:=by simp;omega
  have h2:(vals k (n - lo) (fun i=> f (lo+i)))[i]? =none:=by simp;omega
  rw [h1,h2]
theorem OwnAt.cut {b o c:Nat} (h:OwnAt k e base w (.slice (some ⟨b,o,none⟩) n c) n f) (lo:Nat) (hlo:lo≤n):
  OwnAt k e base w (.slice (if c=lo then some ⟨b,o,none⟩ else some ⟨b,o+lo,none⟩) (n - lo) (c - lo)) (n - lo) (fun i=> f (lo+i)):=by
 rcases h with ⟨h,_⟩ | ⟨g',o',c',cur,he,hb,hg,hn,hc,hs,ht⟩
 ·cases h
 ·simp only [Value.slice.injEq,Option.some.injEq,Addr.mk.injEq,and_true,true_and] at he
  obtain ⟨⟨rfl,rfl⟩,rfl⟩:=he
  by_cases hcl:c=lo
  ·subst hcl
   obtain rfl:n=c:=by omega
   rw [if_pos rfl,Nat.sub_self]
   exact .inr ⟨b,o,0,cur,rfl,hb,hg,Nat.le_refl _,by omega,by omega,by simp [vals]⟩
  ·rw [if_neg hcl]
   refine .inr ⟨b,o+lo,c - lo,cur,rfl,hb,hg,by omega,by omega,by omega,?_⟩
   rw [←vals_drop,←ht,List.drop_take,List.drop_drop]
theorem vals_one {x:Value} (h:x ∈ vals k n f):x.oneCell'=true:=by
 obtain ⟨_,_,rfl⟩:=List.mem_map.1 h
 rfl
theorem vals_add {m:Nat} (hf:∀i,i<m→f (n+i)=g i):vals k n f++vals k m g=vals k (n+m) f:=by
 unfold vals
 rw [List.range_add]
 simp only [List.map_append,List.map_map]
 congr 1
 exact List.map_congr_left fun i hi=> by simp [hf i (List.mem_range.1 hi)]
theorem addr_add (b o j:Nat):(⟨b,o,none⟩:Addr).add j=⟨b,o+j,none⟩:=by unfold Addr.add;split<;> simp_all
theorem OwnAt.whole (hb:base≤w.heap.size) {m c:Nat} (hmc:m≤c) (hc:c≤9223372036854775807) {cur:Array Value} (hs:cur.size=c) (ht:cur.toList.take m=vals k m f):
  OwnAt k e base (w.drew.alloc (.cells cur e)) (.slice (some ⟨w.heap.size,0,none⟩) m c) m f:=
 .inr ⟨w.heap.size,0,c,cur,rfl,hb,heap_alloc_new w.drew _,hmc,hc,by omega,by simpa using ht⟩
theorem run_append_at {P:Program} (w:World) (t ty e:TypeId) (k:IntKind) (bytes:Nat) (h1:P.underlying t=some (.slice e)) (hinfo:(P.info? e).map (fun i=> (i.zero,i.size,i.bytes))=some (some (.int k 0),1,bytes))
  (base:Nat) (v:Value) (n:Nat) (f:Nat→Int) (hown:OwnAt k e base w v n f) (u:Value) (m:Nat) (g:Nat→Int) (hrd:Rd k w u m g) (hf:∀i,i<m→f (n+i)=g i)
  (b2:(n+m) * bytes≤140737488355328) (b3:n+m≤9223372036854775807) (b4:base≤w.heap.size):
  ∃v' w',(Builtin.append_ #[t,t] ty #[v,u]).run P w=.ok v' w'∧OwnAt k e base w' v' (n+m) f∧w.grownBy w' v.ownBlock∧(0<n+m→v'≠.slice none 0 0):=by
 obtain ⟨i,hi,hz0,hz1,hz2⟩:=info_parts hinfo
 obtain ⟨ao,c,rfl,l1,l2,l3,l4⟩:=hrd
 have hvm:(vals k m g).length=m * i.size:=by rw [hz1];simp
 by_cases hm:m=0
 ·subst hm
  rcases hown with ⟨rfl,rfl⟩ | ⟨gg,o,c',cur,rfl,hb,hg,hn,hc,hs,ht⟩
  ·refine ⟨.slice none 0 0,w,?_,OwnAt.nil _ _ _ _ _,World.grownBy.refl _ _,fun h=> absurd h (by decide)⟩
   cases ao<;> simp [Builtin.append_,run_underlying h1,sizeOf,typeInfo,hi,Builtin.lenOf,Builtin.firstCells,loadCells,loadCellsFrom]
  ·refine ⟨.slice (some ⟨gg,o,none⟩) n c',w,?_,.inr ⟨gg,o,c',cur,rfl,hb,hg,hn,hc,hs,ht⟩,World.grownBy.refl _ _,fun _ h=> by cases h⟩
   cases ao<;> simp [Builtin.append_,run_underlying h1,sizeOf,typeInfo,hi,Builtin.lenOf,Builtin.firstCells,loadCells,loadCellsFrom,hn,storeCells]
 ·obtain ⟨b,of,rfl,_,hcell⟩:=l4 (by omega)
  have hnews:∀j x,(vals k m g)[j]? =some x→w.cell? ((⟨b,of,none⟩:Addr).add j)=some x:=by
   intro j x hx
   have hj:j<m:=by
    have:=(List.getElem?_eq_some_iff.1 hx).1
    simpa using this
   rw [addr_add,hcell j hj,←vals_get (k:=k) (f:=g) hj]
   exact hx
  have hnews1:∀x ∈ vals k m g,x.oneCell'=true:=fun x hx=> vals_one hx
  rcases hown with ⟨rfl,rfl⟩ | ⟨gg,o,c',cur,rfl,hb,hg,hn,hc,hs,ht⟩
  ·have hr:=run_append_nil (P:=P) w t ty e i _ h1 hi hz0 ⟨b,of,none⟩ m c (vals k m g) hvm hnews (by omega) (by omega) (by rw [hz2];simp only [Nat.zero_add] at b2;omega)
   have hge:=grownCap_ge w m 0 e
   have hcm:grownCap w m 0 e≤maxLen:=grownCap_le_maxLen w m 0 e (by unfold maxLen;omega)
   unfold maxLen at hcm
   rw [Nat.zero_add]
   refine ⟨_,_,hr,?_,⟨rfl,rfl,rfl,by simp,fun q hq _=> ((Below.refl w.heap.size w.drew).alloc (Nat.le_refl _) _).block q hq⟩,fun _ h=> by cases h⟩
   refine OwnAt.whole b4 hge (by omega) ?_ ?_
   ·have hz:(Value.int k 0).cells=#[.int k 0] :=rfl
    simp only [Array.size_append,List.size_toArray,size_zeroCells,hz,vals_length]
    simp;omega
   ·rw [Array.toList_append]
    have:vals k m f=vals k m g:=vals_congr fun i hi=> by have:=hf i hi;rwa [Nat.zero_add] at this
    rw [this]
    simp [List.take_append_of_le_length]
  ·by_cases hroom:n+m≤c'
   ·have hfm:=run_firstCells_some (P:=P) w i.size m ⟨b,of,none⟩ m c (vals k m g) hvm hnews
    have hst:=run_storeCells_at P gg (o+n) e (vals k m g) 0 cur w hg (by simp;omega) hnews1
    refine ⟨.slice (some ⟨gg,o,none⟩) (n+m) c',w.setRow gg (cur.toList.take (o+n)++vals k m g++cur.toList.drop (o+n+(vals k m g).length)).toArray,?_,?_,?_,fun _ h=> by cases h⟩
    ·simp only [Nat.add_zero] at hst
     simp [Builtin.append_,run_underlying h1,sizeOf,typeInfo,hi,Builtin.lenOf,hroom,hfm,hz1,addr_add]
     simp [hz1] at hfm
     simp [hfm,hst]
    ·refine .inr ⟨gg,o,c',_,rfl,hb,setRow_heap w gg cur _ e _ hg,hroom,hc,?_,?_⟩
     ·simp only [List.size_toArray,List.length_append,List.length_take,List.length_drop,Array.length_toList,vals_length]
      omega
     ·rw [←vals_add hf,←ht,List.append_assoc,List.drop_append_of_le_length (by simp;omega),List.drop_take]
      rw [show o+n - o=n by omega,←List.append_assoc]
      rw [List.take_append_of_le_length (by simp;omega),List.take_of_length_le (by simp;omega)]
    ·exact ⟨rfl,rfl,rfl,by simp,fun k _ hk=> setRow_other w gg k _ (fun e=> hk (by simp [Value.ownBlock,e]))⟩
   ·have holds:∀j x,(vals k n f)[j]? =some x→w.cell? ((⟨gg,o,none⟩:Addr).add j)=some x:=by
     intro j x hx
     have hj:j<n:=by
      have:=(List.getElem?_eq_some_iff.1 hx).1
      simpa using this
     rw [addr_add,cell_of_row w gg (o+j) cur e (0,0) hg]
     rw [←ht,List.getElem?_take,if_pos hj,List.getElem?_drop] at hx
     simpa using hx
    have hr:=run_append_grow (P:=P) w t ty e i _ h1 hi hz0 ⟨gg,o,none⟩ n c' (vals k n f) (by rw [hz1];simp) holds ⟨b,of,none⟩ m c (vals k m g) hvm hnews (by omega) (by omega) (growslice_fits (by omega) (by rw [hz2];exact b2))
    have hge:=grownCap_ge w (n+m) c' e
    have hcm:grownCap w (n+m) c' e≤maxLen:=grownCap_le_maxLen w (n+m) c' e (by unfold maxLen;omega)
    unfold maxLen at hcm
    refine ⟨_,_,hr,?_,⟨rfl,rfl,rfl,by simp,fun q hq _=> ((Below.refl w.heap.size w.drew).alloc (Nat.le_refl _) _).block q hq⟩,fun _ h=> by cases h⟩
    refine OwnAt.whole b4 hge (by omega) ?_ ?_
    ·have hz:(Value.int k 0).cells=#[.int k 0] :=rfl
     simp only [Array.size_append,List.size_toArray,size_zeroCells,hz,vals_length]
     simp;omega
    ·rw [Array.toList_append,Array.toList_append,←vals_add hf]
     rw [List.take_append_of_le_length (by simp),List.take_of_length_le (by simp)]
theorem wp_append_at {P:Program} {w:World} {o:Oper} {a:Act} {K:Act→World→Prop} {Q:Exit→Act→World→Prop}
  (s x:Operand) (t:TypeId) (hop:o.op=.call { callee:=.builtin .append,args:=#[s,x],argTypes:=#[t,t] })
  (base:Nat) (e:TypeId) (k:IntKind) (bytes:Nat)
  (h1:P.underlying t=some (.slice e)) (hinfo:(P.info? e).map (fun i=> (i.zero,i.size,i.bytes))=some (some (.int k 0),1,bytes))
  (v:Value) (n:Nat) (f:Nat→Int) (hown:OwnAt k e base w v n f) (hs:a.eval s=v)
  (u:Value) (m:Nat) (g:Nat→Int) (hrd:Rd k w u m g) (hx:a.eval x=u) (hf:∀i,i<m→f (n+i)=g i)
  (b2:(n+m) * bytes≤140737488355328) (b3:n+m≤9223372036854775807) (b4:base≤w.heap.size)
  (hK:∀v' w',OwnAt k e base w' v' (n+m) f→w.grownBy w' v.ownBlock→(0<n+m→v'≠.slice none 0 0)→K (a.put o.dst v') w'):
  o.wp P a w K Q:=by
 obtain ⟨v',w',hr,h2,h3,h4⟩:=run_append_at (P:=P) w t o.type e k bytes h1 hinfo base v n f hown u m g hrd hf b2 b3 b4
 unfold Oper.wp execOp
 simp only [hop,resolve,invoke,builtin,Sem.run_bind,Sem.run_pure,Result.andThen_ok,List.map_toArray,List.map_cons,List.map_nil,hs,hx,hr]
 exact hK v' w' h2 h3 h4
theorem append_at {P:Program} {w:World} {ops:Array Oper} {rest:List Oper} {o:Oper} {a:Act} {Q:Exit→Act→World→Prop}
  (hg:o.guard=none) (s x:Operand) (t:TypeId) (hop:o.op=.call { callee:=.builtin .append,args:=#[s,x],argTypes:=#[t,t] })
  (base:Nat) (e:TypeId) (k:IntKind) (bytes:Nat)
  (h1:P.underlying t=some (.slice e)) (hinfo:(P.info? e).map (fun i=> (i.zero,i.size,i.bytes))=some (some (.int k 0),1,bytes))
  (v:Value) (n:Nat) (f:Nat→Int) (hown:OwnAt k e base w v n f) (hs:a.eval s=v)
  (u:Value) (m:Nat) (g:Nat→Int) (hrd:Rd k w u m g) (hx:a.eval x=u) (hf:∀i,i<m→f (n+i)=g i)
  (b2:(n+m) * bytes≤140737488355328) (b3:n+m≤9223372036854775807) (b4:base≤w.heap.size)
  (hK:∀v' w',OwnAt k e base w' v' (n+m) f→w.grownBy w' v.ownBlock→(0<n+m→v'≠.slice none 0 0)→wpList P ops Q rest (a.put o.dst v') w'):
  wpList P ops Q (o::rest) a w:=
 wpList_plain hg fun _ hK'=> wp_append_at s x t hop base e k bytes h1 hinfo v n f hown hs u m g hrd hx hf b2 b3 b4 fun v' w' q1 q2 q3=> hK' _ _ (hK v' w' q1 q2 q3)
end Go.Bas
namespace Go.Bas
theorem nat_cg {m n:Nat} (h:m % PN=n % PN):Cg (m:Int) (n:Int):=by
 unfold Cg
 rw [Pr_PN,←Int.natCast_emod,←Int.natCast_emod,h]
theorem inv_lit {B I:Nat} {X:Int} (h:B * I % PN=1) (hB:Cg (B:Int) X):Cg (X ^ (PN - 2)) (I:Int):=by
 have h1:Cg ((B:Int) * (I:Int)) 1:=by rw [←Int.natCast_mul];exact nat_cg (n:=1) (by rw [h];decide)
 have hX:X % Pr≠0:=by
  intro h0
  have e:Cg ((B:Int) * (I:Int)) (0 * (I:Int)):=(hB.trans (show X % Pr=0 % Pr by rw [h0];rfl)).mul (Cg.refl _)
  have:=h1.symm.trans e
  unfold Cg at this
  rw [Int.zero_mul] at this
  exact absurd this (by decide)
 have h2:=inv_cg (I:Int) hX
 have h3:Cg ((I:Int) * X * X ^ (PN - 2)) (1 * X ^ (PN - 2)):=by
  refine Cg.mul ?_ (Cg.refl _)
  rw [Int.mul_comm]
  exact (hB.symm.mul (Cg.refl _)).trans h1
 rw [Int.one_mul] at h3
 exact h3.symm.trans h2
theorem ladN_lit {n u a b i r:Nat} (hu:u<PN) (h:ladE n u 255 1 0 u 1=(a,b)) (hi:b * i % PN=1) (hr:a * i % PN=r):ladN (n:Int) (u:Int) % Pr=(r:Int):=by
 have hs:=ladE_start n u hu
 rw [h] at hs
 have h1:=inv_lit hi hs.2.2
 have h2:Cg (ladN n u) ((a * i:Nat):Int):=by rw [Int.natCast_mul];exact hs.1.2.symm.mul h1
 rw [h2,Pr_PN,←Int.natCast_emod,hr]
def box2:Nat:=52573937849532372069814888178136277301931757964231753054399601207743438775599
theorem lad_two:ladE (2 ^ 254) 9 255 1 0 9 1=(53699084970092229620102095424564848774812783684786248634290088506478568078703,20097946894889007705884408490665082385984383478950821997587487100163618290637):=by decide+kernel
theorem lad_one:(ladE (2 ^ 254) box2 255 1 0 box2 1).1≠0∧(ladE (2 ^ 254) box2 255 1 0 box2 1).2≠0:=by decide+kernel
theorem clamp_two:clampN 2=((2 ^ 254:Nat):Int):=by decide+kernel
theorem clamp_one:clampN 1=((2 ^ 254:Nat):Int):=by decide+kernel
theorem mul_two:ladN (clampN 2) (9 % 2 ^ 255) % Pr=(box2:Int):=by
 rw [clamp_two,show (9:Int) % 2 ^ 255=((9:Nat):Int) by decide]
 exact ladN_lit (i:=4690349756041861591026396950088132225180594110443955054213429870794107548986) (by decide) lad_two (by decide+kernel) (by decide+kernel)
theorem mul_one_two:ladN (clampN 1) ((box2:Int) % 2 ^ 255) % Pr≠0:=by
 have h:=ladE_start (2 ^ 254) box2 (by decide)
 rw [clamp_one,show (box2:Int) % 2 ^ 255=(box2:Int) by decide]
 exact quot_ne (h.1.ne lad_one.1) (h.2.ne lad_one.2)
end Go.Bas
