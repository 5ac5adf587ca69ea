/- Part 22 of SuiteBytes; conditions: in each theorem. -/
import Derived.Test.YtpcjekgfnfjbpaaGreatPkSuiteBytes2
import Derived.Laws.BitsAllLaws
set_option linter.unusedVariables false
set_option linter.unusedSimpArgs false
namespace Go.bC
def eF:Int:=18446744073709551616
def rr (x:Int) (k:Nat):Int:=x * 2 ^ (64 - k) % eF+x / 2 ^ k
theorem JB {x:Int} (h0:0<=x) (h1:x<eF) {k:Nat} (hk:k<=64):0<=rr x k/\rr x k<eF:=by
 unfold rr;have e:eF=2 ^ (64 - k) * 2 ^ k:=by rw[<-Int.pow_add,show 64 - k+k=64 by omega];rfl
 have hp:(0:Int)<2 ^ (64 - k):=Int.pow_pos aN;have hq:(0:Int)<2 ^ k:=Int.pow_pos aN;rw[e] at h1 ⊢
 generalize (2:Int) ^ (64 - k)=p at *
 generalize (2:Int) ^ k=q at *
 rw[Int.mul_comm x p,Int.mul_emod_mul_of_pos _ _ hp];have h2:=zN x (show q≠0 by omega);have h3:=FC x hq;have h4:=Int.ediv_nonneg h0 (vF hq);have h5:x / q<p:=Int.ediv_lt_of_lt_mul hq h1;have h6:p * (x % q)<=p * (q - 1):=Int.mul_le_mul_of_nonneg_left aH (vF hp);have h7:=Int.mul_nonneg (vF hp) h2;rw[Int.mul_sub,Int.mul_one] at h6;omega
theorem Tq {x:Int} {k:Nat} (hk:k<=64):x * 2 ^ (64 - k) % eF=x % 2 ^ k * 2 ^ (64 - k):=by
 have e:eF=2 ^ (64 - k) * 2 ^ k:=by rw[<-Int.pow_add,show 64 - k+k=64 by omega];rfl
 rw[e,Int.mul_comm x,Int.mul_emod_mul_of_pos _ _ (Int.pow_pos aN),Int.mul_comm]
theorem aeV {x:Int} (h0:0<=x) (h1:x<eF) {k:Nat} (hk:k<=64):bits .or .u64 (x * 2 ^ (64 - k) % eF) (x / 2 ^ k)=rr x k:=by
 have hb:=JB h0 h1 hk;have e:eF=2 ^ (64 - k) * 2 ^ k:=by rw[<-Int.pow_add,show 64 - k+k=64 by omega];rfl
 have hq:(0:Int)<2 ^ k:=Int.pow_pos aN;have h5:x / 2 ^ k<2 ^ (64 - k):=Int.ediv_lt_of_lt_mul hq (by rw[<-e];exact h1);have h4:=Int.ediv_nonneg h0 (vF hq);have h2:=zN x (show (2:Int) ^ k≠0 by omega);unfold rr at hb ⊢;have h8:=zN (x * 2 ^ (64 - k)) (show eF≠0 by decide);have h9:=FC (x * 2 ^ (64 - k)) (show 0<eF by decide);have h10:x / 2 ^ k<eF:=by omega
 unfold eF at h9 h10 h8;show bits .or .u64 (x * 2 ^ (64 - k) % 18446744073709551616) _= _;rw[u64_or _ _ h8 h9 h4 h10];have e2:=Tq (x:=x) hk;unfold eF at e2 ⊢;rw[e2]
 generalize x % 2 ^ k=u at *
 generalize x / 2 ^ k=v at *
 obtain⟨A,rfl⟩:=IL h2;obtain⟨B,rfl⟩:=IL h4;have ep:(2:Int) ^ (64 - k)=((2 ^ (64 - k):Nat):Int):=by simp
 rw[ep] at h5 ⊢;have h5':B<2 ^ (64 - k):=by exact_mod_cast h5
 rw[<-Int.natCast_mul];simp only[Ct];have:A * 2 ^ (64 - k) ||| B=A * 2 ^ (64 - k)+B:=by rw[Nat.mul_comm,←Nat.two_pow_add_eq_or_of_lt h5']
 rw[this,Int.natCast_add]
def x64 (a b:Int):Int:=bits .xor .u64 a b
def a64 (a b:Int):Int:=bits .and .u64 a b
def o64 (a b:Int):Int:=bits .or .u64 a b
theorem Pq (a b:Int):0<=x64 a b/\x64 a b<eF:=by
 unfold x64 eF;show 0<=IntKind.u64.wrap _/\IntKind.u64.wrap _<18446744073709551616;rw[IntKind.wrap_u64];omega
theorem jl (a b:Int):0<=a64 a b/\a64 a b<eF:=by
 unfold a64 eF;show 0<=IntKind.u64.wrap _/\IntKind.u64.wrap _<18446744073709551616;rw[IntKind.wrap_u64];omega
theorem Qu (a b:Int):0<=o64 a b/\o64 a b<eF:=by
 unfold o64 eF;show 0<=IntKind.u64.wrap _/\IntKind.u64.wrap _<18446744073709551616;rw[IntKind.wrap_u64];omega
theorem oN (a:Int):0<=a % eF/\a % eF<eF:=⟨zN _ aN,FC _ aN⟩
def s0F (x:Int):Int:=x64 (x64 (rr x 1) (rr x 8)) (x / 2 ^ 7)
def s1F (y:Int):Int:=x64 (x64 (rr y 19) (rr y 61)) (y / 2 ^ 6)
def Dn (u x v y:Int):Int:=(((u+s0F x) % eF+v) % eF+s1F y) % eF
def ko (m:Nat->Int):Nat->Nat->Int
 | 0=>m
 | k+1=>upd (ko m k) (16+k) (Dn (ko m k k) (ko m k (k+1)) (ko m k (k+9)) (ko m k (k+14)))
theorem sJ (m:Nat->Int) (k j i:Nat) (h:i<16+k):ko m (k+j) i=ko m k i:=by
 induction j with
 | zero=>rfl
 | succ j ih=>rw[<-Nat.add_assoc,ko,upd,if_neg aH,ih]
theorem AP {m:Nat->Int} (h:∀i,i<80->0<=m i/\m i<eF):∀k i,i<80->0<=ko m k i/\ko m k i<eF:=by
 intro k
 induction k with
 | zero=>exact h
 | succ k ih=>
  intro i hi;rw[ko,upd]
  split
  ·exact oN _
  ·exact ih i hi
def Zy (e:Int):Int:=x64 (x64 (rr e 14) (rr e 18)) (rr e 41)
def S0F (a:Int):Int:=x64 (x64 (rr a 28) (rr a 34)) (rr a 39)
def Zo (e f g:Int):Int:=o64 (a64 e f) (a64 (eF - 1 - e) g)
def Uq (a b c:Int):Int:=o64 (o64 (a64 a b) (a64 a c)) (a64 b c)
def Qs (h e f g k w:Int):Int:=((((h+Zy e) % eF+Zo e f g) % eF+k) % eF+w) % eF
def SE (a b c:Int):Int:=(S0F a+Uq a b c) % eF
def Qj (v:Nat->Int) (k w:Int):Nat->Int:=fun i=>
 if i=0 then (Qs (v 7) (v 4) (v 5) (v 6) k w+SE (v 0) (v 1) (v 2)) % eF
 else if i=4 then (v 3+Qs (v 7) (v 4) (v 5) (v 6) k w) % eF else v (i - 1)
def iM (K W s:Nat->Int):Nat->Nat->Int
 | 0=>s
 | t+1=>Qj (iM K W s t) (K t) (W t)
theorem Qi {v:Nat->Int} (h:∀i,i<8->0<=v i/\v i<eF) (k w:Int):∀i,i<8->0<=Qj v k w i/\Qj v k w i<eF:=by
 intro i hi;unfold Qj
 split
 ·exact oN _
 ·split
  ·exact oN _
  ·exact h _ aH
theorem yX {K W s:Nat->Int} (h:∀i,i<8->0<=s i/\s i<eF):∀t i,i<8->0<=iM K W s t i/\iM K W s t i<eF:=by
 intro t
 induction t with
 | zero=>exact h
 | succ t ih=>exact Qi ih _ _
theorem abS (e f g M:Nat) (hM:e<=M) (afA:M=2 ^ 64 - 1):((e &&& f) ||| ((M - e) &&& g))=((e &&& f) ^^^ ((M - e) &&& g)):=by
 apply Nat.eq_of_testBit_eq
 intro i;subst afA;rw[Nat.testBit_or,Nat.testBit_xor,Nat.testBit_and,Nat.testBit_and];rw[show 2 ^ 64 - 1 - e=2 ^ 64 - (e+1) by omega,Nat.testBit_two_pow_sub_succ aH];cases e.testBit i<;> cases f.testBit i<;> cases g.testBit i<;> cases decide (i<64)<;> rfl
theorem Yw (a b c:Nat):(((a &&& b) ||| (a &&& c)) ||| (b &&& c))=(((a &&& b) ^^^ (a &&& c)) ^^^ (b &&& c)):=by
 apply Nat.eq_of_testBit_eq
 intro i;simp only[Nat.testBit_or,Nat.testBit_xor,Nat.testBit_and];cases a.testBit i<;> cases b.testBit i<;> cases c.testBit i<;> rfl
theorem xH {a b:Int} (ha:0<=a/\a<eF) (hb:0<=b/\b<eF):a64 a b=((a.toNat &&& b.toNat:Nat):Int):=u64_and a b ha.1 ha.2 hb.1 hb.2
theorem GH {a b:Int} (ha:0<=a/\a<eF) (hb:0<=b/\b<eF):o64 a b=((a.toNat ||| b.toNat:Nat):Int):=u64_or a b ha.1 ha.2 hb.1 hb.2
theorem FM {a b:Int} (ha:0<=a/\a<eF) (hb:0<=b/\b<eF):x64 a b=((a.toNat ^^^ b.toNat:Nat):Int):=u64_xor a b ha.1 ha.2 hb.1 hb.2
theorem adB {e f g:Int} (he:0<=e/\e<eF) (hf:0<=f/\f<eF) (hg:0<=g/\g<eF):x64 (a64 e f) (a64 (eF - 1 - e) g)=Zo e f g:=by
 have hn:0<=eF - 1 - e/\eF - 1 - e<eF:=by omega
 unfold Zo;rw[GH (jl _ _) (jl _ _),FM (jl _ _) (jl _ _),xH he hf,xH hn hg,Ct,Ct];have hM:eF=18446744073709551616:=rfl;have:=abS e.toNat f.toNat g.toNat (18446744073709551615) aH aN;rw[show (eF - 1 - e).toNat=18446744073709551615 - e.toNat by omega,this]
theorem YH {a b c:Int} (ha:0<=a/\a<eF) (hb:0<=b/\b<eF) (hc:0<=c/\c<eF):x64 (x64 (a64 a b) (a64 a c)) (a64 b c)=Uq a b c:=by
 unfold Uq;rw[GH (Qu _ _) (jl _ _),GH (jl _ _) (jl _ _),FM (Pq _ _) (jl _ _),FM (jl _ _) (jl _ _),xH ha hb,xH ha hc,xH hb hc];simp only[Ct];rw[Yw]
def acd:List Int:= [4794697086780616226,8158064640168781261,13096744586834688815,16840607885511220156,4131703408338449720,6480981068601479193,10538285296894168987,12329834152419229976,15566598209576043074,1334009975649890238,2608012711638119052,6128411473006802146,8268148722764581231,9286055187155687089,11230858885718282805,13951009754708518548,16472876342353939154,17275323862435702243,1135362057144423861,2597628984639134821,3308224258029322869,5365058923640841347,6679025012923562964,8573033837759648693,10970295158949994411,12119686244451234320,12683024718118986047,13788192230050041572,14330467153632333762,15395433587784984357,489312712824947311,1452737877330783856,2861767655752347644,3322285676063803686,5560940570517711597,5996557281743188959,7280758554555802590,8532644243296465576,9350256976987008742,10552545826968843579,11727347734174303076,12113106623233404929,14000437183269869457,14369950271660146224,15101387698204529176,15463397548674623760,17586052441742319658,1182934255886127544,1847814050463011016,2177327727835720531,2830643537854262169,3796741975233480872,4115178125766777443,5681478168544905931,6601373596472566643,7507060721942968483,8399075790359081724,8693463985226723168,9568029438360202098,10144078919501101548,10430055236837252648,11840083180663258601,13761210420658862357,14299343276471374635,14566680578165727644,15097957966210449927,16922976911328602910,17689382322260857208,500013540394364858,748580250866718886,1242879168328830382,1977374033974150939,2944078676154940804,3659926193048069267,4368137639120453308,4836135668995329356,5532061633213252278,6448918945643986474,6902733635092675308,7801388544844847127]
def kK (t:Nat):Int:=acd.getD t 0
def adC:List Int:= [7640891576956012808,13503953896175478587,4354685564936845355,11912009170470909681,5840696475078001361,11170449401992604703,2270897969802886507,6620516959819538809]
def kB (i:Nat):Int:=adC.getD i 0
theorem UF:∀i,i<8->0<=kB i/\kB i<eF:=by decide
def m16 (f:Nat->Int) (i:Nat):Int:=if i<16 then big (fun j=>f (8 * i+j)) 8 else 0
theorem EO {f:Nat->Int} (h:∀i,i<128->0<=f i/\f i<256):∀i,i<80->0<=m16 f i/\m16 f i<eF:=by
 intro i _;unfold m16
 split
 ·have:=nQ (f:=fun j=>f (8 * i+j)) (n:=8) (fun j hj=>h _ aH) 8 (bB _);exact this
 ·decide
def tK (s f:Nat->Int) (i:Nat):Int:=(s i+iM kK (ko (m16 f) 64) s 80 i) % eF
theorem Nl (s f:Nat->Int) (i:Nat):0<=tK s f i/\tK s f i<eF:=oN _
def fZ (F:Nat->Int):Nat->Nat->Int
 | 0=>kB
 | j+1=>tK (fZ F j) (fun i=>F (128 * j+i))
theorem oO (F:Nat->Int):∀j i,i<8->0<=fZ F j i/\fZ F j i<eF
 | 0=>UF
 | _+1=>fun i _=>Nl _ _ i
def zG (n:Nat):Nat:=(239 - n % 128) % 128
def yu (n:Nat):Nat:=zG n+17
def qN (n:Nat) (i:Nat):Int:=if i=0 then 128 else if i<zG n+9 then 0 else 8 * (n:Int) / 2 ^ (8 * (7 - (i - (zG n+9)))) % 256
def zI (n:Nat) (f:Nat->Int) (i:Nat):Int:=if i<n then f i else qN n (i - n)
def ME (n:Nat):Nat:=n+yu n
theorem Uh (n:Nat):ME n % 128=0:=by unfold ME yu zG;omega
theorem Mr (n i:Nat):0<=qN n i/\qN n i<256:=by
 unfold qN
 split
 ·decide
 ·split
  ·decide
  ·omega
theorem Bv {n:Nat} {f:Nat->Int} (h:∀i,i<n->0<=f i/\f i<256) (i:Nat):0<=zI n f i/\zI n f i<256:=by
 unfold zI
 split
 ·exact h i (by assumption)
 ·exact Mr _ _
theorem OA {n:Nat} {f:Nat->Int} {i:Nat} (h:i<n):zI n f i=f i:=if_pos h
theorem OB {n:Nat} {f:Nat->Int} (i:Nat):zI n f (n+i)=qN n i:=by
 unfold zI;rw[if_neg aH,WQ]
theorem MF {n:Nat} {f g:Nat->Int} (h:∀i,i<n->f i=g i):zI n f=zI n g:=by
 funext i
 unfold zI
 split
 ·exact h i (by assumption)
 ·rfl
def gJ (n:Nat) (f:Nat->Int) (i:Nat):Int:=fZ (zI n f) (ME n / 128) (i / 8) / 2 ^ (8 * (7 - i % 8)) % 256
theorem fM (n:Nat) (f:Nat->Int) (i:Nat):0<=gJ n f i/\gJ n f i<256:=by unfold gJ;omega
theorem Ap {n:Nat} {f g:Nat->Int} (h:∀i,i<n->f i=g i):gJ n f=gJ n g:=by
 unfold gJ;rw[MF h]
end Go.bC
namespace Go.bC
open Go.RowKit
theorem ET (X:BitVec 64):IntKind.i64.wrap (X.toNat:Int)=X.toInt:=by
 rw[IntKind.wrap_i64,BitVec.toInt_eq_toNat_bmod,Int.bmod_def];have:=X.isLt;omega
theorem xE (a b:Int):bits .and .i64 a b=(BitVec.ofInt 64 a &&& BitVec.ofInt 64 b).toInt:=ET _
theorem nH (a b:Int):bits .xor .i64 a b=(BitVec.ofInt 64 a ^^^ BitVec.ofInt 64 b).toInt:=ET _
theorem oZ {a:Int} (h0: -9223372036854775808<=a) (h1:a<9223372036854775808):(BitVec.ofInt 64 a).toInt=a:=by
 rw[BitVec.toInt_ofInt,Int.bmod_def];omega
theorem GV (a:Int):bits .and .i64 0 a=0:=by
 rw[xE,show BitVec.ofInt 64 0=0#64 from rfl,BitVec.zero_and];rfl
theorem GX {a:Int} (h0: -9223372036854775808<=a) (h1:a<9223372036854775808):bits .and .i64 (-1) a=a:=by
 rw[xE,show BitVec.ofInt 64 (-1)=BitVec.allOnes 64 by decide,BitVec.allOnes_and,oZ h0 h1]
theorem GR {a:Int} (h0: -9223372036854775808<=a) (h1:a<9223372036854775808):bits .xor .i64 a 0=a:=by
 rw[nH,show BitVec.ofInt 64 0=0#64 from rfl,BitVec.xor_zero,oZ h0 h1]
theorem GU (a:Int) {b:Int} (h0: -9223372036854775808<=b) (h1:b<9223372036854775808):bits .xor .i64 a (bits .xor .i64 a b)=b:=by
 rw[nH,nH,BitVec.ofInt_toInt,←BitVec.xor_assoc,BitVec.xor_self,BitVec.zero_xor,oZ h0 h1]
theorem DJ (a b:Int): -9223372036854775808<=bits .xor .i64 a b/\bits .xor .i64 a b<9223372036854775808:=by
 rw[nH]
 generalize BitVec.ofInt 64 a ^^^ BitVec.ofInt 64 b=X
 have h1:=BitVec.le_toInt X;have h2:=BitVec.toInt_lt (x:=X);exact⟨h1,h2⟩
theorem BF (n:Int) (m:Nat) (hm:m<=62):bits .and .i64 n (2 ^ m - 1)=n % 2 ^ m:=by
 have hp:(2:Nat) ^ m<=2 ^ 62:=Nat.pow_le_pow_right aN hm;have hpos:0<(2:Nat) ^ m:=Nat.pow_pos aN;have e:(2:Int) ^ m=((2 ^ m:Nat):Int):=by simp
 have hc:(BitVec.ofInt 64 ((2:Int) ^ m - 1)).toNat=2 ^ m - 1:=by
  rw[e,BitVec.toNat_ofInt];have:(2:Nat) ^ 62=4611686018427387904:=by decide
  omega
 have key:(BitVec.ofInt 64 n &&& BitVec.ofInt 64 ((2:Int) ^ m - 1)).toNat=(n % ((2 ^ 64:Nat):Int)).toNat % 2 ^ m:=by
  rw[BitVec.toNat_and,BitVec.toNat_ofInt,hc,Nat.and_two_pow_sub_one_eq_mod]
 show IntKind.i64.wrap ((BitVec.ofInt 64 n &&& BitVec.ofInt 64 ((2:Int) ^ m - 1)).toNat:Nat)=n % 2 ^ m;rw[key,IntKind.wrap_i64,e];have h64:(2:Nat) ^ 64=2 ^ m * 2 ^ (64 - m):=by rw[<-Nat.pow_add];congr 1;omega
 have hr:0<=n % ((2 ^ 64:Nat):Int):=zN _ aN;have h3:(((n % ((2 ^ 64:Nat):Int)).toNat % 2 ^ m:Nat):Int)=n % ((2 ^ m:Nat):Int):=by
  rw[Int.natCast_emod,Int.toNat_of_nonneg hr,h64,Int.natCast_mul];exact Int.emod_emod_of_dvd _ (Int.dvd_mul_right _ _)
 rw[h3];have h4:0<=n % ((2 ^ m:Nat):Int):=zN _ aH;have h5:n % ((2 ^ m:Nat):Int)<((2 ^ m:Nat):Int):=FC _ aH;have:(2:Nat) ^ 62=4611686018427387904:=by decide
 omega
theorem UM (n:Int):bits .and .i64 n 1=n % 2:=BF n 1 aN
theorem QJ (n:Int):bits .and .i64 n 32767=n % 32768:=BF n 15 aN
theorem QI (n:Int):bits .and .i64 n 65535=n % 65536:=BF n 16 aN
theorem EI (a:Nat) (ha:a<9223372036854775808):(BitVec.ofInt 64 (a:Int)).toNat=a:=by
 rw[BitVec.ofInt_natCast,BitVec.toNat_ofNat];exact Nat.mod_eq_of_lt aH
theorem aci {a b:Int} (h1:0<=a) (h2:a<9223372036854775808) (h3:0<=b) (h4:b<9223372036854775808):bits .or .i64 a b=((a.toNat ||| b.toNat:Nat):Int):=by
 obtain⟨A,rfl⟩:=IL h1;obtain⟨B,rfl⟩:=IL h3;have hx:A ||| B<2 ^ 63:=Nat.or_lt_two_pow aH aH;show IntKind.i64.wrap ((BitVec.ofInt 64 (A:Int) ||| BitVec.ofInt 64 (B:Int)).toNat:Int)= _;rw[BitVec.toNat_or,EI A aH,EI B aH,IntKind.wrap_i64];simp only[Ct];omega
theorem Yp {a b:Int} (h0:0<=a) (h1:a<256) (h2:0<=b) (h3:b<256):bits .or .i64 a (b * 256)=a+b * 256:=by
 rw[aci h0 aH aH aH,Nat.or_comm,nat_join 8 _ _ aH aH];omega
theorem ofInt_u8 (a:Nat) (ha:a<256):(BitVec.ofInt 8 (a:Int)).toNat=a:=by
 rw[BitVec.ofInt_natCast,BitVec.toNat_ofNat];exact Nat.mod_eq_of_lt aH
theorem u8_or128 {a b:Int} (h0:0<=a) (h1:a<128) (h2:0<=b) (h3:b<=1):bits .or .u8 a (b * 128)=a+b * 128:=by
 obtain⟨A,rfl⟩:=IL h0;obtain⟨B,rfl⟩:=IL h2;show IntKind.u8.wrap ((BitVec.ofInt 8 (A:Int) ||| BitVec.ofInt 8 ((B:Int) * 128)).toNat:Int)= _;rw[show ((B:Int) * 128)=((B * 128:Nat):Int) by omega,BitVec.toNat_or,ofInt_u8 A aH,ofInt_u8 (B * 128) aH,Nat.or_comm,nat_join 7 _ _ aH aH,IntKind.wrap_u8];omega
theorem tN {x:Int} (h0:0<=x) (h1:x<256):bits .and .u8 x 1=x % 2:=by
 obtain⟨A,rfl⟩:=IL h0;show IntKind.u8.wrap ((BitVec.ofInt 8 (A:Int) &&& BitVec.ofInt 8 1).toNat:Int)= _;rw[BitVec.toNat_and,BitVec.ofInt_natCast,BitVec.toNat_ofNat,Nat.mod_eq_of_lt aH,show (BitVec.ofInt 8 1).toNat=1 from rfl,nat_mask1,IntKind.wrap_u8];omega
theorem xD {x:Int} (r:Nat) (h:r<8):Int.fdiv x (2 ^ (min (Int.toNat ((r:Nat):Int)) IntKind.u8.bits))=x / 2 ^ r:=by
 rw[Ct,show IntKind.u8.bits=8 from rfl,Nat.min_eq_left aH,Int.fdiv_eq_ediv_of_nonneg _ (vF (eG aN _))]
end Go.bC
