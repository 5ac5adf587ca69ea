/- Part 27 of EscrowComes; conditions: in each theorem. -/
import Derived.Test.YtpcjekgfnfjbpaaGreatPkEC2
import Derived.Laws.BitsAllLaws
set_option linter.unusedVariables false
set_option linter.unusedSimpArgs false
namespace Go.bI
open Go.RowKit
def Nk (x:Int) (k:Nat):Int:=x * 2 ^ k % 4294967296+x / 2 ^ (32 - k)
theorem uJ {x:Int} (h0:0<=x) (h1:x<4294967296) {k:Nat} (hk:k<=32):0<=Nk x k/\Nk x k<4294967296:=by
 unfold Nk;have e:(4294967296:Int)=2 ^ k * 2 ^ (32 - k):=by rw[<-Int.pow_add,show k+(32 - k)=32 by omega];rfl
 have hp:(0:Int)<2 ^ k:=Int.pow_pos aM;have hq:(0:Int)<2 ^ (32 - k):=Int.pow_pos aM;rw[e] at h1 ⊢
 generalize (2:Int) ^ k=p at *
 generalize (2:Int) ^ (32 - k)=q at *
 rw[Int.mul_comm x p,Int.mul_emod_mul_of_pos _ _ hp];have h2:=Bu x (show q≠0 by omega);have h3:=Gj x hq;have h4:=Int.ediv_nonneg h0 (EM hq);have h5:x / q<p:=Int.ediv_lt_of_lt_mul hq h1;have h6:p * (x % q)<=p * (q - 1):=Int.mul_le_mul_of_nonneg_left aH (EM hp);have h7:=Int.mul_nonneg (EM hp) h2;rw[Int.mul_sub,Int.mul_one] at h6;omega
theorem GZ {x:Int} (h0:0<=x) (h1:x<4294967296) {k:Nat} (hk:k<=32):bits .or .u32 (x * 2 ^ k % 4294967296) (x / 2 ^ (32 - k))=Nk x k:=by
 have hb:=uJ h0 h1 hk;unfold Nk at hb ⊢;have e:(4294967296:Int)=2 ^ k * 2 ^ (32 - k):=by rw[<-Int.pow_add,show k+(32 - k)=32 by omega];rfl
 have hp:(0:Int)<2 ^ k:=Int.pow_pos aM;have hq:(0:Int)<2 ^ (32 - k):=Int.pow_pos aM;have h5:x / 2 ^ (32 - k)<2 ^ k:=Int.ediv_lt_of_lt_mul hq (by rw[<-e];exact h1);have h4:=Int.ediv_nonneg h0 (EM hq);have e2:x * 2 ^ k % 4294967296=(x % 2 ^ (32 - k)) * 2 ^ k:=by rw[e,Int.mul_comm x,Int.mul_emod_mul_of_pos _ _ hp,Int.mul_comm]
 have h2:=Bu x (show (2:Int) ^ (32 - k)≠0 by omega);have h8:=Bu (x * 2 ^ k) (show (4294967296:Int)≠0 by decide);have h9:=Gj (x * 2 ^ k) (show (0:Int)<4294967296 by decide);rw[u32_or _ _ h8 h9 h4 aH];rw[e2] at h8 ⊢
 generalize x % 2 ^ (32 - k)=u at *
 generalize x / 2 ^ (32 - k)=v at *
 obtain⟨A,rfl⟩:=Gl h2;obtain⟨B,rfl⟩:=Gl h4;have ep:(2:Int) ^ k=((2 ^ k:Nat):Int):=by simp
 rw[ep] at h5 ⊢;have h5':B<2 ^ k:=by exact_mod_cast h5
 rw[<-Int.natCast_mul];simp only[MZ];have:A * 2 ^ k ||| B=A * 2 ^ k+B:=by rw[Nat.mul_comm,←Nat.two_pow_add_eq_or_of_lt h5']
 rw[this,Int.natCast_add]
def xr (a b:Int):Int:=bits .xor .u32 a b
theorem oG (a b:Int):0<=xr a b/\xr a b<4294967296:=by
 unfold xr;show 0<=IntKind.u32.wrap _/\IntKind.u32.wrap _<4294967296;rw[IntKind.wrap_u32'];omega
def qD1 (a b d:Int):Int:=Nk (xr d ((a+b) % 4294967296)) 16
def qC1 (a b c d:Int):Int:=(c+qD1 a b d) % 4294967296
def qB1 (a b c d:Int):Int:=Nk (xr b (qC1 a b c d)) 12
def qA (a b c d:Int):Int:=((a+b) % 4294967296+qB1 a b c d) % 4294967296
def qD (a b c d:Int):Int:=Nk (xr (qD1 a b d) (qA a b c d)) 8
def qC (a b c d:Int):Int:=(qC1 a b c d+qD a b c d) % 4294967296
def qB (a b c d:Int):Int:=Nk (xr (qB1 a b c d) (qC a b c d)) 7
theorem abM (a b c d:Int):(0<=qA a b c d/\qA a b c d<4294967296)/\(0<=qB a b c d/\qB a b c d<4294967296)/\(0<=qC a b c d/\qC a b c d<4294967296)/\(0<=qD a b c d/\qD a b c d<4294967296):=by
 refine⟨?_,?_,?_,?_⟩
 ·unfold qA;omega
 ·exact uJ (oG _ _).1 (oG _ _).2 aM
 ·unfold qC;omega
 ·exact uJ (oG _ _).1 (oG _ _).2 aM
def qrF (S:Nat->Int) (a b c d:Nat):Nat->Int:=fun i=>
 if i=a then qA (S a) (S b) (S c) (S d) else if i=b then qB (S a) (S b) (S c) (S d) else if i=c then qC (S a) (S b) (S c) (S d) else if i=d then qD (S a) (S b) (S c) (S d) else S i
theorem Te {S:Nat->Int} {n:Nat} (h:∀i,i<n->0<=S i/\S i<4294967296) (a b c d:Nat):∀i,i<n->0<=qrF S a b c d i/\qrF S a b c d i<4294967296:=by
 intro i hi;obtain⟨h1,h2,h3,h4⟩:=abM (S a) (S b) (S c) (S d);unfold qrF
 split
 ·exact h1
 ·split
  ·exact h2
  ·split
   ·exact h3
   ·split
    ·exact h4
    ·exact h i hi
def ajL (S:Nat->Int) (j:Nat):Nat->Int:=qrF S (j % 4) (4+(j % 4+j / 4) % 4) (8+(j % 4+2 * (j / 4)) % 4) (12+(j % 4+3 * (j / 4)) % 4)
def Ux (S:Nat->Int):Nat->Nat->Int
 | 0=>S
 | j+1=>ajL (Ux S j) j
def Nl (S:Nat->Int):Nat->Nat->Int
 | 0=>S
 | r+1=>Ux (Nl S r) 8
theorem zA {S:Nat->Int} (h:∀i,i<16->0<=S i/\S i<4294967296):∀j i,i<16->0<=Ux S j i/\Ux S j i<4294967296
 | 0=>h
 | j+1=>Te (zA h j) _ _ _ _
theorem yU {S:Nat->Int} (h:∀i,i<16->0<=S i/\S i<4294967296):∀r i,i<16->0<=Nl S r i/\Nl S r i<4294967296
 | 0=>h
 | r+1=>zA (yU h r) 8
def wd (f:Nat->Int) (j:Nat):Int:=f (4 * j)+256 * f (4 * j+1)+65536 * f (4 * j+2)+16777216 * f (4 * j+3)
def ini (key nonce:Nat->Int) (count:Int):Nat->Int:=fun i=>
 if i=0 then 1634760805 else if i=1 then 857760878 else if i=2 then 2036477234 else if i=3 then 1797285236 else if i<12 then wd key (i - 4) else if i=12 then count else wd nonce (i - 13)
theorem JB {f:Nat->Int} {n:Nat} (h:∀i,i<4 * n->0<=f i/\f i<256) (j:Nat) (hj:j<n):0<=wd f j/\wd f j<4294967296:=by
 have h0:=h (4 * j) aH;have h1:=h (4 * j+1) aH;have h2:=h (4 * j+2) aH;have h3:=h (4 * j+3) aH;unfold wd;omega
theorem TW {key nonce:Nat->Int} {count:Int} (hk:∀i,i<32->0<=key i/\key i<256) (hn:∀i,i<12->0<=nonce i/\nonce i<256) (hc:0<=count/\count<4294967296):
  ∀i,i<16->0<=ini key nonce count i/\ini key nonce count i<4294967296:=by
 intro i hi;unfold ini
 split
 ·decide
 ·split
  ·decide
  ·split
   ·decide
   ·split
    ·decide
    ·split
     ·exact JB (n:=8) (fun i h=>hk i aH) (i - 4) aH
     ·split
      ·exact hc
      ·exact JB (n:=3) (fun i h=>hn i aH) (i - 13) aH
def Gf (key nonce:Nat->Int) (count:Int):Nat->Int:=fun i=>(Nl (ini key nonce count) 10 i+ini key nonce count i) % 4294967296
def uh (key nonce:Nat->Int) (count:Int):Nat->Int:=fun i=>Gf key nonce count (i / 4) / 256 ^ (i % 4) % 256
theorem Du (key nonce:Nat->Int) (count:Int) (i:Nat):0<=uh key nonce count i/\uh key nonce count i<256:=by unfold uh;omega
end Go.bI
namespace Go.bI
def jX:Int:=18446744073709551616
def rr (x:Int) (k:Nat):Int:=x * 2 ^ (64 - k) % jX+x / 2 ^ k
theorem Xb {x:Int} (h0:0<=x) (h1:x<jX) {k:Nat} (hk:k<=64):0<=rr x k/\rr x k<jX:=by
 unfold rr;have e:jX=2 ^ (64 - k) * 2 ^ k:=by rw[<-Int.pow_add,show 64 - k+k=64 by omega];rfl
 have hp:(0:Int)<2 ^ (64 - k):=Int.pow_pos aM;have hq:(0:Int)<2 ^ k:=Int.pow_pos aM;rw[e] at h1 ⊢
 generalize (2:Int) ^ (64 - k)=p at *
 generalize (2:Int) ^ k=q at *
 rw[Int.mul_comm x p,Int.mul_emod_mul_of_pos _ _ hp];have h2:=Bu x (show q≠0 by omega);have h3:=Gj x hq;have h4:=Int.ediv_nonneg h0 (EM hq);have h5:x / q<p:=Int.ediv_lt_of_lt_mul hq h1;have h6:p * (x % q)<=p * (q - 1):=Int.mul_le_mul_of_nonneg_left aH (EM hp);have h7:=Int.mul_nonneg (EM hp) h2;rw[Int.mul_sub,Int.mul_one] at h6;omega
theorem afG {x:Int} {k:Nat} (hk:k<=64):x * 2 ^ (64 - k) % jX=x % 2 ^ k * 2 ^ (64 - k):=by
 have e:jX=2 ^ (64 - k) * 2 ^ k:=by rw[<-Int.pow_add,show 64 - k+k=64 by omega];rfl
 rw[e,Int.mul_comm x,Int.mul_emod_mul_of_pos _ _ (Int.pow_pos aM),Int.mul_comm]
theorem ajI {x:Int} (h0:0<=x) (h1:x<jX) {k:Nat} (hk:k<=64):bits .or .u64 (x * 2 ^ (64 - k) % jX) (x / 2 ^ k)=rr x k:=by
 have hb:=Xb h0 h1 hk;have e:jX=2 ^ (64 - k) * 2 ^ k:=by rw[<-Int.pow_add,show 64 - k+k=64 by omega];rfl
 have hq:(0:Int)<2 ^ k:=Int.pow_pos aM;have h5:x / 2 ^ k<2 ^ (64 - k):=Int.ediv_lt_of_lt_mul hq (by rw[<-e];exact h1);have h4:=Int.ediv_nonneg h0 (EM hq);have h2:=Bu x (show (2:Int) ^ k≠0 by omega);unfold rr at hb ⊢;have h8:=Bu (x * 2 ^ (64 - k)) (show jX≠0 by decide);have h9:=Gj (x * 2 ^ (64 - k)) (show 0<jX by decide);have h10:x / 2 ^ k<jX:=by omega
 unfold jX at h9 h10 h8;show bits .or .u64 (x * 2 ^ (64 - k) % 18446744073709551616) _= _;rw[u64_or _ _ h8 h9 h4 h10];have e2:=afG (x:=x) hk;unfold jX at e2 ⊢;rw[e2]
 generalize x % 2 ^ k=u at *
 generalize x / 2 ^ k=v at *
 obtain⟨A,rfl⟩:=Gl h2;obtain⟨B,rfl⟩:=Gl h4;have ep:(2:Int) ^ (64 - k)=((2 ^ (64 - k):Nat):Int):=by simp
 rw[ep] at h5 ⊢;have h5':B<2 ^ (64 - k):=by exact_mod_cast h5
 rw[<-Int.natCast_mul];simp only[MZ];have:A * 2 ^ (64 - k) ||| B=A * 2 ^ (64 - k)+B:=by rw[Nat.mul_comm,←Nat.two_pow_add_eq_or_of_lt h5']
 rw[this,Int.natCast_add]
def x64 (a b:Int):Int:=bits .xor .u64 a b
def a64 (a b:Int):Int:=bits .and .u64 a b
def o64 (a b:Int):Int:=bits .or .u64 a b
theorem pO (a:Int):0<=a % jX/\a % jX<jX:=⟨Bu _ aM,Gj _ aM⟩
def s0F (x:Int):Int:=x64 (x64 (rr x 1) (rr x 8)) (x / 2 ^ 7)
def s1F (y:Int):Int:=x64 (x64 (rr y 19) (rr y 61)) (y / 2 ^ 6)
def afD (u x v y:Int):Int:=(((u+s0F x) % jX+v) % jX+s1F y) % jX
def vZ (m:Nat->Int):Nat->Nat->Int
 | 0=>m
 | k+1=>upd (vZ m k) (16+k) (afD (vZ m k k) (vZ m k (k+1)) (vZ m k (k+9)) (vZ m k (k+14)))
theorem Oa {m:Nat->Int} (h:∀i,i<80->0<=m i/\m i<jX):∀k i,i<80->0<=vZ m k i/\vZ m k i<jX:=by
 intro k
 induction k with
 | zero=>exact h
 | succ k ih=>
  intro i hi;rw[vZ,upd]
  split
  ·exact pO _
  ·exact ih i hi
def S1F (e:Int):Int:=x64 (x64 (rr e 14) (rr e 18)) (rr e 41)
def S0F (a:Int):Int:=x64 (x64 (rr a 28) (rr a 34)) (rr a 39)
def chF (e f g:Int):Int:=o64 (a64 e f) (a64 (jX - 1 - e) g)
def ake (a b c:Int):Int:=o64 (o64 (a64 a b) (a64 a c)) (a64 b c)
def acg (h e f g k w:Int):Int:=((((h+S1F e) % jX+chF e f g) % jX+k) % jX+w) % jX
def afj (a b c:Int):Int:=(S0F a+ake a b c) % jX
def VI (v:Nat->Int) (k w:Int):Nat->Int:=fun i=>
 if i=0 then (acg (v 7) (v 4) (v 5) (v 6) k w+afj (v 0) (v 1) (v 2)) % jX
 else if i=4 then (v 3+acg (v 7) (v 4) (v 5) (v 6) k w) % jX else v (i - 1)
def zU (K W s:Nat->Int):Nat->Nat->Int
 | 0=>s
 | t+1=>VI (zU K W s t) (K t) (W t)
theorem Tc {v:Nat->Int} (h:∀i,i<8->0<=v i/\v i<jX) (k w:Int):∀i,i<8->0<=VI v k w i/\VI v k w i<jX:=by
 intro i hi;unfold VI
 split
 ·exact pO _
 ·split
  ·exact pO _
  ·exact h _ aH
theorem Kv {K W s:Nat->Int} (h:∀i,i<8->0<=s i/\s i<jX):∀t i,i<8->0<=zU K W s t i/\zU K W s t i<jX:=by
 intro t
 induction t with
 | zero=>exact h
 | succ t ih=>exact Tc ih _ _
def agi:List Int:= [4794697086780616226,8158064640168781261,13096744586834688815,16840607885511220156,4131703408338449720,6480981068601479193,10538285296894168987,12329834152419229976,15566598209576043074,1334009975649890238,2608012711638119052,6128411473006802146,8268148722764581231,9286055187155687089,11230858885718282805,13951009754708518548,16472876342353939154,17275323862435702243,1135362057144423861,2597628984639134821,3308224258029322869,5365058923640841347,6679025012923562964,8573033837759648693,10970295158949994411,12119686244451234320,12683024718118986047,13788192230050041572,14330467153632333762,15395433587784984357,489312712824947311,1452737877330783856,2861767655752347644,3322285676063803686,5560940570517711597,5996557281743188959,7280758554555802590,8532644243296465576,9350256976987008742,10552545826968843579,11727347734174303076,12113106623233404929,14000437183269869457,14369950271660146224,15101387698204529176,15463397548674623760,17586052441742319658,1182934255886127544,1847814050463011016,2177327727835720531,2830643537854262169,3796741975233480872,4115178125766777443,5681478168544905931,6601373596472566643,7507060721942968483,8399075790359081724,8693463985226723168,9568029438360202098,10144078919501101548,10430055236837252648,11840083180663258601,13761210420658862357,14299343276471374635,14566680578165727644,15097957966210449927,16922976911328602910,17689382322260857208,500013540394364858,748580250866718886,1242879168328830382,1977374033974150939,2944078676154940804,3659926193048069267,4368137639120453308,4836135668995329356,5532061633213252278,6448918945643986474,6902733635092675308,7801388544844847127]
def kK (t:Nat):Int:=agi.getD t 0
def ahP:List Int:= [7640891576956012808,13503953896175478587,4354685564936845355,11912009170470909681,5840696475078001361,11170449401992604703,2270897969802886507,6620516959819538809]
def kB (i:Nat):Int:=ahP.getD i 0
theorem Yr:∀i,i<8->0<=kB i/\kB i<jX:=by decide
def m16 (f:Nat->Int) (i:Nat):Int:=if i<16 then big (fun j=>f (8 * i+j)) 8 else 0
theorem TQ {f:Nat->Int} (h:∀i,i<128->0<=f i/\f i<256):∀i,i<80->0<=m16 f i/\m16 f i<jX:=by
 intro i _;unfold m16
 split
 ·have:=qW (f:=fun j=>f (8 * i+j)) (n:=8) (fun j hj=>h _ aH) 8 (bH _);exact this
 ·decide
def tZ (s f:Nat->Int) (i:Nat):Int:=(s i+zU kK (vZ (m16 f) 64) s 80 i) % jX
theorem PW (s f:Nat->Int) (i:Nat):0<=tZ s f i/\tZ s f i<jX:=pO _
def iI (F:Nat->Int):Nat->Nat->Int
 | 0=>kB
 | j+1=>tZ (iI F j) (fun i=>F (128 * j+i))
theorem Aa (F:Nat->Int):∀j i,i<8->0<=iI F j i/\iI F j i<jX
 | 0=>Yr
 | _+1=>fun i _=>PW _ _ i
def KP (n:Nat):Nat:=(239 - n % 128) % 128
def Tq (n:Nat):Nat:=KP n+17
def xI (n:Nat) (i:Nat):Int:=if i=0 then 128 else if i<KP n+9 then 0 else 8 * (n:Int) / 2 ^ (8 * (7 - (i - (KP n+9)))) % 256
def Ll (n:Nat) (f:Nat->Int) (i:Nat):Int:=if i<n then f i else xI n (i - n)
def afY (n:Nat):Nat:=n+Tq n
theorem Ou (n i:Nat):0<=xI n i/\xI n i<256:=by
 unfold xI
 split
 ·decide
 ·split
  ·decide
  ·omega
theorem OI {n:Nat} {f:Nat->Int} (h:∀i,i<n->0<=f i/\f i<256) (i:Nat):0<=Ll n f i/\Ll n f i<256:=by
 unfold Ll
 split
 ·exact h i (by assumption)
 ·exact Ou _ _
theorem acy {n:Nat} {f:Nat->Int} {i:Nat} (h:i<n):Ll n f i=f i:=if_pos h
theorem acz {n:Nat} {f:Nat->Int} (i:Nat):Ll n f (n+i)=xI n i:=by
 unfold Ll;rw[if_neg aH,Vi]
def rC (n:Nat) (f:Nat->Int) (i:Nat):Int:=iI (Ll n f) (afY n / 128) (i / 8) / 2 ^ (8 * (7 - i % 8)) % 256
theorem rA (n:Nat) (f:Nat->Int) (i:Nat):0<=rC n f i/\rC n f i<256:=by unfold rC;omega
end Go.bI
namespace Go.bI
open Go.RowKit
theorem FP (X:BitVec 64):IntKind.i64.wrap (X.toNat:Int)=X.toInt:=by
 rw[IntKind.wrap_i64,BitVec.toInt_eq_toNat_bmod,Int.bmod_def];have:=X.isLt;omega
theorem yB (a b:Int):bits .and .i64 a b=(BitVec.ofInt 64 a &&& BitVec.ofInt 64 b).toInt:=FP _
theorem nZ (a b:Int):bits .xor .i64 a b=(BitVec.ofInt 64 a ^^^ BitVec.ofInt 64 b).toInt:=FP _
theorem qj {a:Int} (h0: -9223372036854775808<=a) (h1:a<9223372036854775808):(BitVec.ofInt 64 a).toInt=a:=by
 rw[BitVec.toInt_ofInt,Int.bmod_def];omega
theorem Iu (a:Int):bits .and .i64 0 a=0:=by
 rw[yB,show BitVec.ofInt 64 0=0#64 from rfl,BitVec.zero_and];rfl
theorem Iw {a:Int} (h0: -9223372036854775808<=a) (h1:a<9223372036854775808):bits .and .i64 (-1) a=a:=by
 rw[yB,show BitVec.ofInt 64 (-1)=BitVec.allOnes 64 by decide,BitVec.allOnes_and,qj h0 h1]
theorem Iq {a:Int} (h0: -9223372036854775808<=a) (h1:a<9223372036854775808):bits .xor .i64 a 0=a:=by
 rw[nZ,show BitVec.ofInt 64 0=0#64 from rfl,BitVec.xor_zero,qj h0 h1]
theorem Ir (a:Int) {b:Int} (h0: -9223372036854775808<=b) (h1:b<9223372036854775808):bits .xor .i64 a (bits .xor .i64 a b)=b:=by
 rw[nZ,nZ,BitVec.ofInt_toInt,←BitVec.xor_assoc,BitVec.xor_self,BitVec.zero_xor,qj h0 h1]
theorem EG (a b:Int): -9223372036854775808<=bits .xor .i64 a b/\bits .xor .i64 a b<9223372036854775808:=by
 rw[nZ]
 generalize BitVec.ofInt 64 a ^^^ BitVec.ofInt 64 b=X
 have h1:=BitVec.le_toInt X;have h2:=BitVec.toInt_lt (x:=X);exact⟨h1,h2⟩
theorem CP (n:Int) (m:Nat) (hm:m<=62):bits .and .i64 n (2 ^ m - 1)=n % 2 ^ m:=by
 have hp:(2:Nat) ^ m<=2 ^ 62:=Nat.pow_le_pow_right aM hm;have hpos:0<(2:Nat) ^ m:=Nat.pow_pos aM;have e:(2:Int) ^ m=((2 ^ m:Nat):Int):=by simp
 have hc:(BitVec.ofInt 64 ((2:Int) ^ m - 1)).toNat=2 ^ m - 1:=by
  rw[e,BitVec.toNat_ofInt];have:(2:Nat) ^ 62=4611686018427387904:=by decide
  omega
 have key:(BitVec.ofInt 64 n &&& BitVec.ofInt 64 ((2:Int) ^ m - 1)).toNat=(n % ((2 ^ 64:Nat):Int)).toNat % 2 ^ m:=by
  rw[BitVec.toNat_and,BitVec.toNat_ofInt,hc,Nat.and_two_pow_sub_one_eq_mod]
 show IntKind.i64.wrap ((BitVec.ofInt 64 n &&& BitVec.ofInt 64 ((2:Int) ^ m - 1)).toNat:Nat)=n % 2 ^ m;rw[key,IntKind.wrap_i64,e];have h64:(2:Nat) ^ 64=2 ^ m * 2 ^ (64 - m):=by rw[<-Nat.pow_add];congr 1;omega
 have hr:0<=n % ((2 ^ 64:Nat):Int):=Bu _ aM;have h3:(((n % ((2 ^ 64:Nat):Int)).toNat % 2 ^ m:Nat):Int)=n % ((2 ^ m:Nat):Int):=by
  rw[Int.natCast_emod,Int.toNat_of_nonneg hr,h64,Int.natCast_mul];exact Int.emod_emod_of_dvd _ (Int.dvd_mul_right _ _)
 rw[h3];have h4:0<=n % ((2 ^ m:Nat):Int):=Bu _ aH;have h5:n % ((2 ^ m:Nat):Int)<((2 ^ m:Nat):Int):=Gj _ aH;have:(2:Nat) ^ 62=4611686018427387904:=by decide
 omega
theorem Yw (n:Int):bits .and .i64 n 1=n % 2:=CP n 1 aM
theorem Ua (n:Int):bits .and .i64 n 32767=n % 32768:=CP n 15 aM
theorem TY (n:Int):bits .and .i64 n 65535=n % 65536:=CP n 16 aM
theorem FE (a:Nat) (ha:a<9223372036854775808):(BitVec.ofInt 64 (a:Int)).toNat=a:=by
 rw[BitVec.ofInt_natCast,BitVec.toNat_ofNat];exact Nat.mod_eq_of_lt aH
theorem agl {a b:Int} (h1:0<=a) (h2:a<9223372036854775808) (h3:0<=b) (h4:b<9223372036854775808):bits .or .i64 a b=((a.toNat ||| b.toNat:Nat):Int):=by
 obtain⟨A,rfl⟩:=Gl h1;obtain⟨B,rfl⟩:=Gl h3;have hx:A ||| B<2 ^ 63:=Nat.or_lt_two_pow aH aH;show IntKind.i64.wrap ((BitVec.ofInt 64 (A:Int) ||| BitVec.ofInt 64 (B:Int)).toNat:Int)= _;rw[BitVec.toNat_or,FE A aH,FE B aH,IntKind.wrap_i64];simp only[MZ];omega
theorem abZ {a b:Int} (h0:0<=a) (h1:a<256) (h2:0<=b) (h3:b<256):bits .or .i64 a (b * 256)=a+b * 256:=by
 rw[agl h0 aH aH aH,Nat.or_comm,nat_join 8 _ _ aH aH];omega
theorem ofInt_u8 (a:Nat) (ha:a<256):(BitVec.ofInt 8 (a:Int)).toNat=a:=by
 rw[BitVec.ofInt_natCast,BitVec.toNat_ofNat];exact Nat.mod_eq_of_lt aH
theorem u8_or128 {a b:Int} (h0:0<=a) (h1:a<128) (h2:0<=b) (h3:b<=1):bits .or .u8 a (b * 128)=a+b * 128:=by
 obtain⟨A,rfl⟩:=Gl h0;obtain⟨B,rfl⟩:=Gl h2;show IntKind.u8.wrap ((BitVec.ofInt 8 (A:Int) ||| BitVec.ofInt 8 ((B:Int) * 128)).toNat:Int)= _;rw[show ((B:Int) * 128)=((B * 128:Nat):Int) by omega,BitVec.toNat_or,ofInt_u8 A aH,ofInt_u8 (B * 128) aH,Nat.or_comm,nat_join 7 _ _ aH aH,IntKind.wrap_u8];omega
theorem yE {x:Int} (h0:0<=x) (h1:x<256):bits .and .u8 x 1=x % 2:=by
 obtain⟨A,rfl⟩:=Gl h0;show IntKind.u8.wrap ((BitVec.ofInt 8 (A:Int) &&& BitVec.ofInt 8 1).toNat:Int)= _;rw[BitVec.toNat_and,BitVec.ofInt_natCast,BitVec.toNat_ofNat,Nat.mod_eq_of_lt aH,show (BitVec.ofInt 8 1).toNat=1 from rfl,nat_mask1,IntKind.wrap_u8];omega
theorem Dr {x:Int} (r:Nat) (h:r<8):Int.fdiv x (2 ^ (min (Int.toNat ((r:Nat):Int)) IntKind.u8.bits))=x / 2 ^ r:=by
 rw[MZ,show IntKind.u8.bits=8 from rfl,Nat.min_eq_left aH,Int.fdiv_eq_ediv_of_nonneg _ (EM (iH aM _))]
end Go.bI
