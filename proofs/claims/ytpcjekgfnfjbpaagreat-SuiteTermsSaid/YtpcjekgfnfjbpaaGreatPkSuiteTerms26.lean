/-
  Part 26 of the texts that the proof of SuiteTerms rests on, one after the other. Conditions: named in each theorem.
-/
import Derived.Test.YtpcjekgfnfjbpaaGreatPkSuiteTerms1
import Derived.Laws.BitsAllLaws
set_option linter.unusedVariables false
set_option linter.unusedSimpArgs false
namespace Go.aG
def bG:Int:=18446744073709551616
def rr (x:Int) (k:Nat):Int:=x * 2 ^ (64 - k) % bG+x / 2 ^ k
theorem wI {x:Int} (h0:0≤x) (h1:x<bG) {k:Nat} (hk:k≤64):0≤rr x k∧rr x k<bG:=by
 unfold rr
 have e:bG=2 ^ (64 - k) * 2 ^ k:=by rw [←Int.pow_add,show 64 - k+k=64 by omega];rfl
 have hp:(0:Int)<2 ^ (64 - k):=Int.pow_pos (by decide)
 have hq:(0:Int)<2 ^ k:=Int.pow_pos (by decide)
 rw [e] at h1 ⊢
 generalize (2:Int) ^ (64 - k)=p at *
 generalize (2:Int) ^ k=q at *
 rw [Int.mul_comm x p,Int.mul_emod_mul_of_pos _ _ hp]
 have h2:=Int.emod_nonneg x (show q≠0 by omega)
 have h3:=Int.emod_lt_of_pos x hq
 have h4:=Int.ediv_nonneg h0 (Int.le_of_lt hq)
 have h5:x / q<p:=Int.ediv_lt_of_lt_mul hq h1
 have h6:p * (x % q)≤p * (q - 1):=Int.mul_le_mul_of_nonneg_left (by omega) (Int.le_of_lt hp)
 have h7:=Int.mul_nonneg (Int.le_of_lt hp) h2
 rw [Int.mul_sub,Int.mul_one] at h6
 omega
theorem Aw {x:Int} {k:Nat} (hk:k≤64):x * 2 ^ (64 - k) % bG=x % 2 ^ k * 2 ^ (64 - k):=by
 have e:bG=2 ^ (64 - k) * 2 ^ k:=by rw [←Int.pow_add,show 64 - k+k=64 by omega];rfl
 rw [e,Int.mul_comm x,Int.mul_emod_mul_of_pos _ _ (Int.pow_pos (by decide)),Int.mul_comm]
theorem CB {x:Int} (h0:0≤x) (h1:x<bG) {k:Nat} (hk:k≤64):bits .or .u64 (x * 2 ^ (64 - k) % bG) (x / 2 ^ k)=rr x k:=by
 have hb:=wI h0 h1 hk
 have e:bG=2 ^ (64 - k) * 2 ^ k:=by rw [←Int.pow_add,show 64 - k+k=64 by omega];rfl
 have hq:(0:Int)<2 ^ k:=Int.pow_pos (by decide)
 have h5:x / 2 ^ k<2 ^ (64 - k):=Int.ediv_lt_of_lt_mul hq (by rw [←e];exact h1)
 have h4:=Int.ediv_nonneg h0 (Int.le_of_lt hq)
 have h2:=Int.emod_nonneg x (show (2:Int) ^ k≠0 by omega)
 unfold rr at hb ⊢
 have h8:=Int.emod_nonneg (x * 2 ^ (64 - k)) (show bG≠0 by decide)
 have h9:=Int.emod_lt_of_pos (x * 2 ^ (64 - k)) (show 0<bG by decide)
 have h10:x / 2 ^ k<bG:=by omega
 unfold bG at h9 h10 h8
 show bits .or .u64 (x * 2 ^ (64 - k) % 18446744073709551616) _= _
 rw [u64_or _ _ h8 h9 h4 h10]
 have e2:=Aw (x:=x) hk
 unfold bG at e2 ⊢
 rw [e2]
 generalize x % 2 ^ k=u at *
 generalize x / 2 ^ k=v at *
 obtain ⟨A,rfl⟩:=Int.eq_ofNat_of_zero_le h2
 obtain ⟨B,rfl⟩:=Int.eq_ofNat_of_zero_le h4
 have ep:(2:Int) ^ (64 - k)=((2 ^ (64 - k):Nat):Int):=by simp
 rw [ep] at h5 ⊢
 have h5':B<2 ^ (64 - k):=by exact_mod_cast h5
 rw [←Int.natCast_mul]
 simp only [Int.toNat_natCast]
 have:A * 2 ^ (64 - k) ||| B=A * 2 ^ (64 - k)+B:=by rw [Nat.mul_comm,←Nat.two_pow_add_eq_or_of_lt h5']
 rw [this,Int.natCast_add]
def x64 (a b:Int):Int:=bits .xor .u64 a b
def a64 (a b:Int):Int:=bits .and .u64 a b
def EF (a b:Int):Int:=bits .or .u64 a b
theorem eP (a:Int):0≤a % bG∧a % bG<bG:=⟨Int.emod_nonneg _ (by decide),Int.emod_lt_of_pos _ (by decide)⟩
def ED (x:Int):Int:=x64 (x64 (rr x 1) (rr x 8)) (x / 2 ^ 7)
def Hq (y:Int):Int:=x64 (x64 (rr y 19) (rr y 61)) (y / 2 ^ 6)
def Av (u x v y:Int):Int:=(((u+ED x) % bG+v) % bG+Hq y) % bG
def iQ (m:Nat→Int):Nat→Nat→Int
 | 0=> m
 | k+1=> upd (iQ m k) (16+k) (Av (iQ m k k) (iQ m k (k+1)) (iQ m k (k+9)) (iQ m k (k+14)))
theorem rX {m:Nat→Int} (h:∀i,i<80→0≤m i∧m i<bG):∀k i,i<80→0≤iQ m k i∧iQ m k i<bG:=by
 intro k
 induction k with
 | zero=> exact h
 | succ k ih=>
  intro i hi
  rw [iQ,upd]
  split
  ·exact eP _
  ·exact ih i hi
def DW (e:Int):Int:=x64 (x64 (rr e 14) (rr e 18)) (rr e 41)
def Jb (a:Int):Int:=x64 (x64 (rr a 28) (rr a 34)) (rr a 39)
def EP (e f g:Int):Int:=EF (a64 e f) (a64 (bG - 1 - e) g)
def CO (a b c:Int):Int:=EF (EF (a64 a b) (a64 a c)) (a64 b c)
def zf (h e f g k w:Int):Int:=((((h+DW e) % bG+EP e f g) % bG+k) % bG+w) % bG
def Ap (a b c:Int):Int:=(Jb a+CO a b c) % bG
def vT (v:Nat→Int) (k w:Int):Nat→Int:=fun i=>
 if i=0 then (zf (v 7) (v 4) (v 5) (v 6) k w+Ap (v 0) (v 1) (v 2)) % bG
 else if i=4 then (v 3+zf (v 7) (v 4) (v 5) (v 6) k w) % bG else v (i - 1)
def ku (K W s:Nat→Int):Nat→Nat→Int
 | 0=> s
 | t+1=> vT (ku K W s t) (K t) (W t)
theorem uX {v:Nat→Int} (h:∀i,i<8→0≤v i∧v i<bG) (k w:Int):∀i,i<8→0≤vT v k w i∧vT v k w i<bG:=by
 intro i hi
 unfold vT
 split
 ·exact eP _
 ·split
  ·exact eP _
  ·exact h _ (by omega)
theorem qA {K W s:Nat→Int} (h:∀i,i<8→0≤s i∧s i<bG):∀t i,i<8→0≤ku K W s t i∧ku K W s t i<bG:=by
 intro t
 induction t with
 | zero=> exact h
 | succ t ih=> exact uX ih _ _
def AZ:List Int:= [4794697086780616226,8158064640168781261,13096744586834688815,16840607885511220156,4131703408338449720,6480981068601479193,10538285296894168987,12329834152419229976,15566598209576043074,1334009975649890238,2608012711638119052,6128411473006802146,8268148722764581231,9286055187155687089,11230858885718282805,13951009754708518548,16472876342353939154,17275323862435702243,1135362057144423861,2597628984639134821,3308224258029322869,5365058923640841347,6679025012923562964,8573033837759648693,10970295158949994411,12119686244451234320,12683024718118986047,13788192230050041572,14330467153632333762,15395433587784984357,489312712824947311,1452737877330783856,2861767655752347644,3322285676063803686,5560940570517711597,5996557281743188959,7280758554555802590,8532644243296465576,9350256976987008742,10552545826968843579,11727347734174303076,12113106623233404929,14000437183269869457,14369950271660146224,15101387698204529176,15463397548674623760,17586052441742319658,1182934255886127544,1847814050463011016,2177327727835720531,2830643537854262169,3796741975233480872,4115178125766777443,5681478168544905931,6601373596472566643,7507060721942968483,8399075790359081724,8693463985226723168,9568029438360202098,10144078919501101548,10430055236837252648,11840083180663258601,13761210420658862357,14299343276471374635,14566680578165727644,15097957966210449927,16922976911328602910,17689382322260857208,500013540394364858,748580250866718886,1242879168328830382,1977374033974150939,2944078676154940804,3659926193048069267,4368137639120453308,4836135668995329356,5532061633213252278,6448918945643986474,6902733635092675308,7801388544844847127]
def kK (t:Nat):Int:=AZ.getD t 0
def BJ:List Int:= [7640891576956012808,13503953896175478587,4354685564936845355,11912009170470909681,5840696475078001361,11170449401992604703,2270897969802886507,6620516959819538809]
def kB (i:Nat):Int:=BJ.getD i 0
theorem xE:∀i,i<8→0≤kB i∧kB i<bG:=by decide
def m16 (f:Nat→Int) (i:Nat):Int:=if i<16 then big (fun j=> f (8 * i+j)) 8 else 0
theorem vE {f:Nat→Int} (h:∀i,i<128→0≤f i∧f i<256):∀i,i<80→0≤m16 f i∧m16 f i<bG:=by
 intro i _
 unfold m16
 split
 ·have:=fJ (f:=fun j=> f (8 * i+j)) (n:=8) (fun j hj=> h _ (by omega)) 8 (Nat.le_refl _)
  exact this
 ·decide
def gY (s f:Nat→Int) (i:Nat):Int:=(s i+ku kK (iQ (m16 f) 64) s 80 i) % bG
theorem sQ (s f:Nat→Int) (i:Nat):0≤gY s f i∧gY s f i<bG:=eP _
def aW (F:Nat→Int):Nat→Nat→Int
 | 0=> kB
 | j+1=> gY (aW F j) (fun i=> F (128 * j+i))
theorem kG (F:Nat→Int):∀j i,i<8→0≤aW F j i∧aW F j i<bG
 | 0=> xE
 | _+1=> fun i _=> sQ _ _ i
def qD (n:Nat):Nat:=(239 - n % 128) % 128
def uZ (n:Nat):Nat:=qD n+17
def jv (n:Nat) (i:Nat):Int:=if i=0 then 128 else if i<qD n+9 then 0 else 8 * (n:Int) / 2 ^ (8 * (7 - (i - (qD n+9)))) % 256
def qI (n:Nat) (f:Nat→Int) (i:Nat):Int:=if i<n then f i else jv n (i - n)
def AQ (n:Nat):Nat:=n+uZ n
theorem sH (n i:Nat):0≤jv n i∧jv n i<256:=by
 unfold jv
 split
 ·decide
 ·split
  ·decide
  ·omega
theorem sK {n:Nat} {f:Nat→Int} (h:∀i,i<n→0≤f i∧f i<256) (i:Nat):0≤qI n f i∧qI n f i<256:=by
 unfold qI
 split
 ·exact h i (by assumption)
 ·exact sH _ _
theorem zl {n:Nat} {f:Nat→Int} {i:Nat} (h:i<n):qI n f i=f i:=if_pos h
theorem zm {n:Nat} {f:Nat→Int} (i:Nat):qI n f (n+i)=jv n i:=by
 unfold qI
 rw [if_neg (by omega),Nat.add_sub_cancel_left]
def gG (n:Nat) (f:Nat→Int) (i:Nat):Int:=aW (qI n f) (AQ n / 128) (i / 8) / 2 ^ (8 * (7 - i % 8)) % 256
theorem iL (n:Nat) (f:Nat→Int) (i:Nat):0≤gG n f i∧gG n f i<256:=by unfold gG;omega
end Go.aG
