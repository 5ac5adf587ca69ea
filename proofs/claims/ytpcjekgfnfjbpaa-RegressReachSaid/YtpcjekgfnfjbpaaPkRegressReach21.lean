/-
  Part 21 of the texts that the proof of RegressReach rests on, one after the other. Conditions: named in each theorem.
-/
import Derived.Test.YtpcjekgfnfjbpaaPkRegressReach3
import Derived.BigQuiet
import Derived.Deep.QuietTactic
import Derived.Laws.BitsAllLaws
import Derived.Lib.Hide
import Derived.Test.YtpcjekgfnfjbpaaKit
import Derived.WalkKit
import Derived.WalkLawsBesides
import Derived.WalkSmall
import Derived.WalkSpells
set_option linter.unusedVariables false
set_option linter.unusedSimpArgs false
namespace Go.Bas
def M64:Int:=18446744073709551616
def rr (x:Int) (k:Nat):Int:=x * 2 ^ (64 - k) % M64+x / 2 ^ k
theorem rr_bound {x:Int} (h0:0≤x) (h1:x<M64) {k:Nat} (hk:k≤64):0≤rr x k∧rr x k<M64:=by
 unfold rr
 have e:M64=2 ^ (64 - k) * 2 ^ k:=by rw [←Int.pow_add,show 64 - k+k=64 by omega];rfl
 have hp:(0:Int)<2 ^ (64 - k):=Int.pow_pos (by decide)
 have hq:(0:Int)<2 ^ k:=Int.pow_pos (by decide)
 rw [e] at h1 ⊢
 generalize (2:Int) ^ (64 - k)=p at *
 generalize (2:Int) ^ k=q at *
 rw [Int.mul_comm x p,Int.mul_emod_mul_of_pos _ _ hp]
 have h2:=Int.emod_nonneg x (show q≠0 by omega)
 have h3:=Int.emod_lt_of_pos x hq
 have h4:=Int.ediv_nonneg h0 (Int.le_of_lt hq)
 have h5:x / q<p:=Int.ediv_lt_of_lt_mul hq h1
 have h6:p * (x % q)≤p * (q - 1):=Int.mul_le_mul_of_nonneg_left (by omega) (Int.le_of_lt hp)
 have h7:=Int.mul_nonneg (Int.le_of_lt hp) h2
 rw [Int.mul_sub,Int.mul_one] at h6
 omega
theorem rr_mod {x:Int} {k:Nat} (hk:k≤64):x * 2 ^ (64 - k) % M64=x % 2 ^ k * 2 ^ (64 - k):=by
 have e:M64=2 ^ (64 - k) * 2 ^ k:=by rw [←Int.pow_add,show 64 - k+k=64 by omega];rfl
 rw [e,Int.mul_comm x,Int.mul_emod_mul_of_pos _ _ (Int.pow_pos (by decide)),Int.mul_comm]
theorem rr_or {x:Int} (h0:0≤x) (h1:x<M64) {k:Nat} (hk:k≤64):bits .or .u64 (x * 2 ^ (64 - k) % M64) (x / 2 ^ k)=rr x k:=by
 have hb:=rr_bound h0 h1 hk
 have e:M64=2 ^ (64 - k) * 2 ^ k:=by rw [←Int.pow_add,show 64 - k+k=64 by omega];rfl
 have hq:(0:Int)<2 ^ k:=Int.pow_pos (by decide)
 have h5:x / 2 ^ k<2 ^ (64 - k):=Int.ediv_lt_of_lt_mul hq (by rw [←e];exact h1)
 have h4:=Int.ediv_nonneg h0 (Int.le_of_lt hq)
 have h2:=Int.emod_nonneg x (show (2:Int) ^ k≠0 by omega)
 unfold rr at hb ⊢
 have h8:=Int.emod_nonneg (x * 2 ^ (64 - k)) (show M64≠0 by decide)
 have h9:=Int.emod_lt_of_pos (x * 2 ^ (64 - k)) (show 0<M64 by decide)
 have h10:x / 2 ^ k<M64:=by omega
 unfold M64 at h9 h10 h8
 show bits .or .u64 (x * 2 ^ (64 - k) % 18446744073709551616) _= _
 rw [u64_or _ _ h8 h9 h4 h10]
 have e2:=rr_mod (x:=x) hk
 unfold M64 at e2 ⊢
 rw [e2]
 generalize x % 2 ^ k=u at *
 generalize x / 2 ^ k=v at *
 obtain ⟨A,rfl⟩:=Int.eq_ofNat_of_zero_le h2
 obtain ⟨B,rfl⟩:=Int.eq_ofNat_of_zero_le h4
 have ep:(2:Int) ^ (64 - k)=((2 ^ (64 - k):Nat):Int):=by simp
 rw [ep] at h5 ⊢
 have h5':B<2 ^ (64 - k):=by exact_mod_cast h5
 rw [←Int.natCast_mul]
 simp only [Int.toNat_natCast]
 have:A * 2 ^ (64 - k) ||| B=A * 2 ^ (64 - k)+B:=by rw [Nat.mul_comm,←Nat.two_pow_add_eq_or_of_lt h5']
 rw [this,Int.natCast_add]
def x64 (a b:Int):Int:=bits .xor .u64 a b
def a64 (a b:Int):Int:=bits .and .u64 a b
def o64 (a b:Int):Int:=bits .or .u64 a b
theorem mod64_bound (a:Int):0≤a % M64∧a % M64<M64:=⟨Int.emod_nonneg _ (by decide),Int.emod_lt_of_pos _ (by decide)⟩
def s0F (x:Int):Int:=x64 (x64 (rr x 1) (rr x 8)) (x / 2 ^ 7)
def s1F (y:Int):Int:=x64 (x64 (rr y 19) (rr y 61)) (y / 2 ^ 6)
def schW (u x v y:Int):Int:=(((u+s0F x) % M64+v) % M64+s1F y) % M64
def schF (m:Nat→Int):Nat→Nat→Int
 | 0=> m
 | k+1=> upd (schF m k) (16+k) (schW (schF m k k) (schF m k (k+1)) (schF m k (k+9)) (schF m k (k+14)))
theorem schF_bound {m:Nat→Int} (h:∀i,i<80→0≤m i∧m i<M64):∀k i,i<80→0≤schF m k i∧schF m k i<M64:=by
 intro k
 induction k with
 | zero=> exact h
 | succ k ih=>
  intro i hi
  rw [schF,upd]
  split
  ·exact mod64_bound _
  ·exact ih i hi
def S1F (e:Int):Int:=x64 (x64 (rr e 14) (rr e 18)) (rr e 41)
def S0F (a:Int):Int:=x64 (x64 (rr a 28) (rr a 34)) (rr a 39)
def chF (e f g:Int):Int:=o64 (a64 e f) (a64 (M64 - 1 - e) g)
def majF (a b c:Int):Int:=o64 (o64 (a64 a b) (a64 a c)) (a64 b c)
def oneF (h e f g k w:Int):Int:=((((h+S1F e) % M64+chF e f g) % M64+k) % M64+w) % M64
def twoF (a b c:Int):Int:=(S0F a+majF a b c) % M64
def rdF (v:Nat→Int) (k w:Int):Nat→Int:=fun i=>
 if i=0 then (oneF (v 7) (v 4) (v 5) (v 6) k w+twoF (v 0) (v 1) (v 2)) % M64
 else if i=4 then (v 3+oneF (v 7) (v 4) (v 5) (v 6) k w) % M64 else v (i - 1)
def rds64 (K W s:Nat→Int):Nat→Nat→Int
 | 0=> s
 | t+1=> rdF (rds64 K W s t) (K t) (W t)
theorem rdF_bound {v:Nat→Int} (h:∀i,i<8→0≤v i∧v i<M64) (k w:Int):∀i,i<8→0≤rdF v k w i∧rdF v k w i<M64:=by
 intro i hi
 unfold rdF
 split
 ·exact mod64_bound _
 ·split
  ·exact mod64_bound _
  ·exact h _ (by omega)
theorem rds64_bound {K W s:Nat→Int} (h:∀i,i<8→0≤s i∧s i<M64):∀t i,i<8→0≤rds64 K W s t i∧rds64 K W s t i<M64:=by
 intro t
 induction t with
 | zero=> exact h
 | succ t ih=> exact rdF_bound ih _ _
def kindsL:List Int:= [4794697086780616226,8158064640168781261,13096744586834688815,16840607885511220156,4131703408338449720,6480981068601479193,10538285296894168987,12329834152419229976,15566598209576043074,1334009975649890238,2608012711638119052,6128411473006802146,8268148722764581231,9286055187155687089,11230858885718282805,13951009754708518548,16472876342353939154,17275323862435702243,1135362057144423861,2597628984639134821,3308224258029322869,5365058923640841347,6679025012923562964,8573033837759648693,10970295158949994411,12119686244451234320,12683024718118986047,13788192230050041572,14330467153632333762,15395433587784984357,489312712824947311,1452737877330783856,2861767655752347644,3322285676063803686,5560940570517711597,5996557281743188959,7280758554555802590,8532644243296465576,9350256976987008742,10552545826968843579,11727347734174303076,12113106623233404929,14000437183269869457,14369950271660146224,15101387698204529176,15463397548674623760,17586052441742319658,1182934255886127544,1847814050463011016,2177327727835720531,2830643537854262169,3796741975233480872,4115178125766777443,5681478168544905931,6601373596472566643,7507060721942968483,8399075790359081724,8693463985226723168,9568029438360202098,10144078919501101548,10430055236837252648,11840083180663258601,13761210420658862357,14299343276471374635,14566680578165727644,15097957966210449927,16922976911328602910,17689382322260857208,500013540394364858,748580250866718886,1242879168328830382,1977374033974150939,2944078676154940804,3659926193048069267,4368137639120453308,4836135668995329356,5532061633213252278,6448918945643986474,6902733635092675308,7801388544844847127]
def kK (t:Nat):Int:=kindsL.getD t 0
def beginL:List Int:= [7640891576956012808,13503953896175478587,4354685564936845355,11912009170470909681,5840696475078001361,11170449401992604703,2270897969802886507,6620516959819538809]
def kB (i:Nat):Int:=beginL.getD i 0
theorem kB_bound:∀i,i<8→0≤kB i∧kB i<M64:=by decide
def m16 (f:Nat→Int) (i:Nat):Int:=if i<16 then big (fun j=> f (8 * i+j)) 8 else 0
theorem m16_bound {f:Nat→Int} (h:∀i,i<128→0≤f i∧f i<256):∀i,i<80→0≤m16 f i∧m16 f i<M64:=by
 intro i _
 unfold m16
 split
 ·have:=big_bound (f:=fun j=> f (8 * i+j)) (n:=8) (fun j hj=> h _ (by omega)) 8 (Nat.le_refl _)
  exact this
 ·decide
def cmpF (s f:Nat→Int) (i:Nat):Int:=(s i+rds64 kK (schF (m16 f) 64) s 80 i) % M64
theorem cmpF_bound (s f:Nat→Int) (i:Nat):0≤cmpF s f i∧cmpF s f i<M64:=mod64_bound _
def hashF (F:Nat→Int):Nat→Nat→Int
 | 0=> kB
 | j+1=> cmpF (hashF F j) (fun i=> F (128 * j+i))
theorem hashF_bound (F:Nat→Int):∀j i,i<8→0≤hashF F j i∧hashF F j i<M64
 | 0=> kB_bound
 | _+1=> fun i _=> cmpF_bound _ _ i
def padZ (n:Nat):Nat:=(239 - n % 128) % 128
def padN (n:Nat):Nat:=padZ n+17
def padF (n:Nat) (i:Nat):Int:=if i=0 then 128 else if i<padZ n+9 then 0 else 8 * (n:Int) / 2 ^ (8 * (7 - (i - (padZ n+9)))) % 256
def msgF (n:Nat) (f:Nat→Int) (i:Nat):Int:=if i<n then f i else padF n (i - n)
def msgN (n:Nat):Nat:=n+padN n
theorem padF_bound (n i:Nat):0≤padF n i∧padF n i<256:=by
 unfold padF
 split
 ·decide
 ·split
  ·decide
  ·omega
theorem msgF_bound {n:Nat} {f:Nat→Int} (h:∀i,i<n→0≤f i∧f i<256) (i:Nat):0≤msgF n f i∧msgF n f i<256:=by
 unfold msgF
 split
 ·exact h i (by assumption)
 ·exact padF_bound _ _
theorem msgF_lo {n:Nat} {f:Nat→Int} {i:Nat} (h:i<n):msgF n f i=f i:=if_pos h
theorem msgF_hi {n:Nat} {f:Nat→Int} (i:Nat):msgF n f (n+i)=padF n i:=by
 unfold msgF
 rw [if_neg (by omega),Nat.add_sub_cancel_left]
theorem msgF_congr {n:Nat} {f g:Nat→Int} (h:∀i,i<n→f i=g i):msgF n f=msgF n g:=by
 funext i
 unfold msgF
 split
 ·exact h i (by assumption)
 ·rfl
def sumB (n:Nat) (f:Nat→Int) (i:Nat):Int:=hashF (msgF n f) (msgN n / 128) (i / 8) / 2 ^ (8 * (7 - i % 8)) % 256
theorem sumB_bound (n:Nat) (f:Nat→Int) (i:Nat):0≤sumB n f i∧sumB n f i<256:=by unfold sumB;omega
theorem sumB_congr {n:Nat} {f g:Nat→Int} (h:∀i,i<n→f i=g i):sumB n f=sumB n g:=by
 unfold sumB
 rw [msgF_congr h]
end Go.Bas
namespace Go.Bas
open Go.RowKit
def rot (x:Int) (k:Nat):Int:=x * 2 ^ k % 4294967296+x / 2 ^ (32 - k)
theorem rot_bound {x:Int} (h0:0≤x) (h1:x<4294967296) {k:Nat} (hk:k≤32):0≤rot x k∧rot x k<4294967296:=by
 unfold rot
 have e:(4294967296:Int)=2 ^ k * 2 ^ (32 - k):=by rw [←Int.pow_add,show k+(32 - k)=32 by omega];rfl
 have hp:(0:Int)<2 ^ k:=Int.pow_pos (by decide)
 have hq:(0:Int)<2 ^ (32 - k):=Int.pow_pos (by decide)
 rw [e] at h1 ⊢
 generalize (2:Int) ^ k=p at *
 generalize (2:Int) ^ (32 - k)=q at *
 rw [Int.mul_comm x p,Int.mul_emod_mul_of_pos _ _ hp]
 have h2:=Int.emod_nonneg x (show q≠0 by omega)
 have h3:=Int.emod_lt_of_pos x hq
 have h4:=Int.ediv_nonneg h0 (Int.le_of_lt hq)
 have h5:x / q<p:=Int.ediv_lt_of_lt_mul hq h1
 have h6:p * (x % q)≤p * (q - 1):=Int.mul_le_mul_of_nonneg_left (by omega) (Int.le_of_lt hp)
 have h7:=Int.mul_nonneg (Int.le_of_lt hp) h2
 rw [Int.mul_sub,Int.mul_one] at h6
 omega
theorem rot_or {x:Int} (h0:0≤x) (h1:x<4294967296) {k:Nat} (hk:k≤32):bits .or .u32 (x * 2 ^ k % 4294967296) (x / 2 ^ (32 - k))=rot x k:=by
 have hb:=rot_bound h0 h1 hk
 unfold rot at hb ⊢
 have e:(4294967296:Int)=2 ^ k * 2 ^ (32 - k):=by rw [←Int.pow_add,show k+(32 - k)=32 by omega];rfl
 have hp:(0:Int)<2 ^ k:=Int.pow_pos (by decide)
 have hq:(0:Int)<2 ^ (32 - k):=Int.pow_pos (by decide)
 have h5:x / 2 ^ (32 - k)<2 ^ k:=Int.ediv_lt_of_lt_mul hq (by rw [←e];exact h1)
 have h4:=Int.ediv_nonneg h0 (Int.le_of_lt hq)
 have e2:x * 2 ^ k % 4294967296=(x % 2 ^ (32 - k)) * 2 ^ k:=by rw [e,Int.mul_comm x,Int.mul_emod_mul_of_pos _ _ hp,Int.mul_comm]
 have h2:=Int.emod_nonneg x (show (2:Int) ^ (32 - k)≠0 by omega)
 have h8:=Int.emod_nonneg (x * 2 ^ k) (show (4294967296:Int)≠0 by decide)
 have h9:=Int.emod_lt_of_pos (x * 2 ^ k) (show (0:Int)<4294967296 by decide)
 rw [u32_or _ _ h8 h9 h4 (by omega)]
 rw [e2] at h8 ⊢
 generalize x % 2 ^ (32 - k)=u at *
 generalize x / 2 ^ (32 - k)=v at *
 obtain ⟨A,rfl⟩:=Int.eq_ofNat_of_zero_le h2
 obtain ⟨B,rfl⟩:=Int.eq_ofNat_of_zero_le h4
 have ep:(2:Int) ^ k=((2 ^ k:Nat):Int):=by simp
 rw [ep] at h5 ⊢
 have h5':B<2 ^ k:=by exact_mod_cast h5
 rw [←Int.natCast_mul]
 simp only [Int.toNat_natCast]
 have:A * 2 ^ k ||| B=A * 2 ^ k+B:=by rw [Nat.mul_comm,←Nat.two_pow_add_eq_or_of_lt h5']
 rw [this,Int.natCast_add]
def xr (a b:Int):Int:=bits .xor .u32 a b
theorem xr_bound (a b:Int):0≤xr a b∧xr a b<4294967296:=by
 unfold xr
 show 0≤IntKind.u32.wrap _∧IntKind.u32.wrap _<4294967296
 rw [IntKind.wrap_u32']
 omega
def qD1 (a b d:Int):Int:=rot (xr d ((a+b) % 4294967296)) 16
def qC1 (a b c d:Int):Int:=(c+qD1 a b d) % 4294967296
def qB1 (a b c d:Int):Int:=rot (xr b (qC1 a b c d)) 12
def qA (a b c d:Int):Int:=((a+b) % 4294967296+qB1 a b c d) % 4294967296
def qD (a b c d:Int):Int:=rot (xr (qD1 a b d) (qA a b c d)) 8
def qC (a b c d:Int):Int:=(qC1 a b c d+qD a b c d) % 4294967296
def qB (a b c d:Int):Int:=rot (xr (qB1 a b c d) (qC a b c d)) 7
theorem q_bound (a b c d:Int):(0≤qA a b c d∧qA a b c d<4294967296)∧(0≤qB a b c d∧qB a b c d<4294967296)∧(0≤qC a b c d∧qC a b c d<4294967296)∧(0≤qD a b c d∧qD a b c d<4294967296):=by
 refine ⟨?_,?_,?_,?_⟩
 ·unfold qA;omega
 ·exact rot_bound (xr_bound _ _).1 (xr_bound _ _).2 (by decide)
 ·unfold qC;omega
 ·exact rot_bound (xr_bound _ _).1 (xr_bound _ _).2 (by decide)
def qrF (S:Nat→Int) (a b c d:Nat):Nat→Int:=fun i=>
 if i=a then qA (S a) (S b) (S c) (S d) else if i=b then qB (S a) (S b) (S c) (S d) else if i=c then qC (S a) (S b) (S c) (S d) else if i=d then qD (S a) (S b) (S c) (S d) else S i
theorem qrF_bound {S:Nat→Int} {n:Nat} (h:∀i,i<n→0≤S i∧S i<4294967296) (a b c d:Nat):∀i,i<n→0≤qrF S a b c d i∧qrF S a b c d i<4294967296:=by
 intro i hi
 obtain ⟨h1,h2,h3,h4⟩:=q_bound (S a) (S b) (S c) (S d)
 unfold qrF
 split
 ·exact h1
 ·split
  ·exact h2
  ·split
   ·exact h3
   ·split
    ·exact h4
    ·exact h i hi
def qstep (S:Nat→Int) (j:Nat):Nat→Int:=qrF S (j % 4) (4+(j % 4+j / 4) % 4) (8+(j % 4+2 * (j / 4)) % 4) (12+(j % 4+3 * (j / 4)) % 4)
def drK (S:Nat→Int):Nat→Nat→Int
 | 0=> S
 | j+1=> qstep (drK S j) j
def rds (S:Nat→Int):Nat→Nat→Int
 | 0=> S
 | r+1=> drK (rds S r) 8
theorem drK_bound {S:Nat→Int} (h:∀i,i<16→0≤S i∧S i<4294967296):∀j i,i<16→0≤drK S j i∧drK S j i<4294967296
 | 0=> h
 | j+1=> qrF_bound (drK_bound h j) _ _ _ _
theorem rds_bound {S:Nat→Int} (h:∀i,i<16→0≤S i∧S i<4294967296):∀r i,i<16→0≤rds S r i∧rds S r i<4294967296
 | 0=> h
 | r+1=> drK_bound (rds_bound h r) 8
def wd (f:Nat→Int) (j:Nat):Int:=f (4 * j)+256 * f (4 * j+1)+65536 * f (4 * j+2)+16777216 * f (4 * j+3)
def ini (key nonce:Nat→Int) (count:Int):Nat→Int:=fun i=>
 if i=0 then 1634760805 else if i=1 then 857760878 else if i=2 then 2036477234 else if i=3 then 1797285236 else if i<12 then wd key (i - 4) else if i=12 then count else wd nonce (i - 13)
theorem wd_bound {f:Nat→Int} {n:Nat} (h:∀i,i<4 * n→0≤f i∧f i<256) (j:Nat) (hj:j<n):0≤wd f j∧wd f j<4294967296:=by
 have h0:=h (4 * j) (by omega)
 have h1:=h (4 * j+1) (by omega)
 have h2:=h (4 * j+2) (by omega)
 have h3:=h (4 * j+3) (by omega)
 unfold wd;omega
theorem ini_bound {key nonce:Nat→Int} {count:Int} (hk:∀i,i<32→0≤key i∧key i<256) (hn:∀i,i<12→0≤nonce i∧nonce i<256) (hc:0≤count∧count<4294967296):
  ∀i,i<16→0≤ini key nonce count i∧ini key nonce count i<4294967296:=by
 intro i hi
 unfold ini
 split
 ·decide
 ·split
  ·decide
  ·split
   ·decide
   ·split
    ·decide
    ·split
     ·exact wd_bound (n:=8) (fun i h=> hk i (by omega)) (i - 4) (by omega)
     ·split
      ·exact hc
      ·exact wd_bound (n:=3) (fun i h=> hn i (by omega)) (i - 13) (by omega)
def blk32 (key nonce:Nat→Int) (count:Int):Nat→Int:=fun i=> (rds (ini key nonce count) 10 i+ini key nonce count i) % 4294967296
def blkB (key nonce:Nat→Int) (count:Int):Nat→Int:=fun i=> blk32 key nonce count (i / 4) / 256 ^ (i % 4) % 256
theorem blkB_bound (key nonce:Nat→Int) (count:Int) (i:Nat):0≤blkB key nonce count i∧blkB key nonce count i<256:=by unfold blkB;omega
end Go.Bas
