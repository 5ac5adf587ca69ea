/-
  Part 27 of the texts that the proof of SuiteOpens rests on, one after the other. Conditions: named in each theorem.
-/
import Derived.Test.YtpcjekgfnfjbpaaGreatPkSuiteOpens1
import Derived.Laws.BitsAllLaws
set_option linter.unusedVariables false
set_option linter.unusedSimpArgs false
namespace Go.aG
def bU:Int:=18446744073709551616
def rr (x:Int) (k:Nat):Int:=x * 2 ^ (64 - k) % bU+x / 2 ^ k
theorem wQ {x:Int} (h0:0≤x) (h1:x<bU) {k:Nat} (hk:k≤64):0≤rr x k∧rr x k<bU:=by
 unfold rr
 have e:bU=2 ^ (64 - k) * 2 ^ k:=by rw [←Int.pow_add,show 64 - k+k=64 by omega];rfl
 have hp:(0:Int)<2 ^ (64 - k):=Int.pow_pos (by decide)
 have hq:(0:Int)<2 ^ k:=Int.pow_pos (by decide)
 rw [e] at h1 ⊢
 generalize (2:Int) ^ (64 - k)=p at *
 generalize (2:Int) ^ k=q at *
 rw [Int.mul_comm x p,Int.mul_emod_mul_of_pos _ _ hp]
 have h2:=Int.emod_nonneg x (show q≠0 by omega)
 have h3:=Int.emod_lt_of_pos x hq
 have h4:=Int.ediv_nonneg h0 (Int.le_of_lt hq)
 have h5:x / q<p:=Int.ediv_lt_of_lt_mul hq h1
 have h6:p * (x % q)≤p * (q - 1):=Int.mul_le_mul_of_nonneg_left (by omega) (Int.le_of_lt hp)
 have h7:=Int.mul_nonneg (Int.le_of_lt hp) h2
 rw [Int.mul_sub,Int.mul_one] at h6
 omega
theorem Bn {x:Int} {k:Nat} (hk:k≤64):x * 2 ^ (64 - k) % bU=x % 2 ^ k * 2 ^ (64 - k):=by
 have e:bU=2 ^ (64 - k) * 2 ^ k:=by rw [←Int.pow_add,show 64 - k+k=64 by omega];rfl
 rw [e,Int.mul_comm x,Int.mul_emod_mul_of_pos _ _ (Int.pow_pos (by decide)),Int.mul_comm]
theorem Dw {x:Int} (h0:0≤x) (h1:x<bU) {k:Nat} (hk:k≤64):bits .or .u64 (x * 2 ^ (64 - k) % bU) (x / 2 ^ k)=rr x k:=by
 have hb:=wQ h0 h1 hk
 have e:bU=2 ^ (64 - k) * 2 ^ k:=by rw [←Int.pow_add,show 64 - k+k=64 by omega];rfl
 have hq:(0:Int)<2 ^ k:=Int.pow_pos (by decide)
 have h5:x / 2 ^ k<2 ^ (64 - k):=Int.ediv_lt_of_lt_mul hq (by rw [←e];exact h1)
 have h4:=Int.ediv_nonneg h0 (Int.le_of_lt hq)
 have h2:=Int.emod_nonneg x (show (2:Int) ^ k≠0 by omega)
 unfold rr at hb ⊢
 have h8:=Int.emod_nonneg (x * 2 ^ (64 - k)) (show bU≠0 by decide)
 have h9:=Int.emod_lt_of_pos (x * 2 ^ (64 - k)) (show 0<bU by decide)
 have h10:x / 2 ^ k<bU:=by omega
 unfold bU at h9 h10 h8
 show bits .or .u64 (x * 2 ^ (64 - k) % 18446744073709551616) _= _
 rw [u64_or _ _ h8 h9 h4 h10]
 have e2:=Bn (x:=x) hk
 unfold bU at e2 ⊢
 rw [e2]
 generalize x % 2 ^ k=u at *
 generalize x / 2 ^ k=v at *
 obtain ⟨A,rfl⟩:=Int.eq_ofNat_of_zero_le h2
 obtain ⟨B,rfl⟩:=Int.eq_ofNat_of_zero_le h4
 have ep:(2:Int) ^ (64 - k)=((2 ^ (64 - k):Nat):Int):=by simp
 rw [ep] at h5 ⊢
 have h5':B<2 ^ (64 - k):=by exact_mod_cast h5
 rw [←Int.natCast_mul]
 simp only [Int.toNat_natCast]
 have:A * 2 ^ (64 - k) ||| B=A * 2 ^ (64 - k)+B:=by rw [Nat.mul_comm,←Nat.two_pow_add_eq_or_of_lt h5']
 rw [this,Int.natCast_add]
def x64 (a b:Int):Int:=bits .xor .u64 a b
def a64 (a b:Int):Int:=bits .and .u64 a b
def FB (a b:Int):Int:=bits .or .u64 a b
theorem eY (a:Int):0≤a % bU∧a % bU<bU:=⟨Int.emod_nonneg _ (by decide),Int.emod_lt_of_pos _ (by decide)⟩
def Fz (x:Int):Int:=x64 (x64 (rr x 1) (rr x 8)) (x / 2 ^ 7)
def Jm (y:Int):Int:=x64 (x64 (rr y 19) (rr y 61)) (y / 2 ^ 6)
def Bl (u x v y:Int):Int:=(((u+Fz x) % bU+v) % bU+Jm y) % bU
def iW (m:Nat→Int):Nat→Nat→Int
 | 0=> m
 | k+1=> upd (iW m k) (16+k) (Bl (iW m k k) (iW m k (k+1)) (iW m k (k+9)) (iW m k (k+14)))
theorem sJ {m:Nat→Int} (h:∀i,i<80→0≤m i∧m i<bU):∀k i,i<80→0≤iW m k i∧iW m k i<bU:=by
 intro k
 induction k with
 | zero=> exact h
 | succ k ih=>
  intro i hi
  rw [iW,upd]
  split
  ·exact eY _
  ·exact ih i hi
def EJ (e:Int):Int:=x64 (x64 (rr e 14) (rr e 18)) (rr e 41)
def Kl (a:Int):Int:=x64 (x64 (rr a 28) (rr a 34)) (rr a 39)
def FL (e f g:Int):Int:=FB (a64 e f) (a64 (bU - 1 - e) g)
def DF (a b c:Int):Int:=FB (FB (a64 a b) (a64 a c)) (a64 b c)
def zD (h e f g k w:Int):Int:=((((h+EJ e) % bU+FL e f g) % bU+k) % bU+w) % bU
def Bf (a b c:Int):Int:=(Kl a+DF a b c) % bU
def wm (v:Nat→Int) (k w:Int):Nat→Int:=fun i=>
 if i=0 then (zD (v 7) (v 4) (v 5) (v 6) k w+Bf (v 0) (v 1) (v 2)) % bU
 else if i=4 then (v 3+zD (v 7) (v 4) (v 5) (v 6) k w) % bU else v (i - 1)
def kJ (K W s:Nat→Int):Nat→Nat→Int
 | 0=> s
 | t+1=> wm (kJ K W s t) (K t) (W t)
theorem vH {v:Nat→Int} (h:∀i,i<8→0≤v i∧v i<bU) (k w:Int):∀i,i<8→0≤wm v k w i∧wm v k w i<bU:=by
 intro i hi
 unfold wm
 split
 ·exact eY _
 ·split
  ·exact eY _
  ·exact h _ (by omega)
theorem qN {K W s:Nat→Int} (h:∀i,i<8→0≤s i∧s i<bU):∀t i,i<8→0≤kJ K W s t i∧kJ K W s t i<bU:=by
 intro t
 induction t with
 | zero=> exact h
 | succ t ih=> exact vH ih _ _
def BK:List Int:= [4794697086780616226,8158064640168781261,13096744586834688815,16840607885511220156,4131703408338449720,6480981068601479193,10538285296894168987,12329834152419229976,15566598209576043074,1334009975649890238,2608012711638119052,6128411473006802146,8268148722764581231,9286055187155687089,11230858885718282805,13951009754708518548,16472876342353939154,17275323862435702243,1135362057144423861,2597628984639134821,3308224258029322869,5365058923640841347,6679025012923562964,8573033837759648693,10970295158949994411,12119686244451234320,12683024718118986047,13788192230050041572,14330467153632333762,15395433587784984357,489312712824947311,1452737877330783856,2861767655752347644,3322285676063803686,5560940570517711597,5996557281743188959,7280758554555802590,8532644243296465576,9350256976987008742,10552545826968843579,11727347734174303076,12113106623233404929,14000437183269869457,14369950271660146224,15101387698204529176,15463397548674623760,17586052441742319658,1182934255886127544,1847814050463011016,2177327727835720531,2830643537854262169,3796741975233480872,4115178125766777443,5681478168544905931,6601373596472566643,7507060721942968483,8399075790359081724,8693463985226723168,9568029438360202098,10144078919501101548,10430055236837252648,11840083180663258601,13761210420658862357,14299343276471374635,14566680578165727644,15097957966210449927,16922976911328602910,17689382322260857208,500013540394364858,748580250866718886,1242879168328830382,1977374033974150939,2944078676154940804,3659926193048069267,4368137639120453308,4836135668995329356,5532061633213252278,6448918945643986474,6902733635092675308,7801388544844847127]
def kK (t:Nat):Int:=BK.getD t 0
def Cy:List Int:= [7640891576956012808,13503953896175478587,4354685564936845355,11912009170470909681,5840696475078001361,11170449401992604703,2270897969802886507,6620516959819538809]
def kB (i:Nat):Int:=Cy.getD i 0
theorem xP:∀i,i<8→0≤kB i∧kB i<bU:=by decide
def m16 (f:Nat→Int) (i:Nat):Int:=if i<16 then big (fun j=> f (8 * i+j)) 8 else 0
theorem vO {f:Nat→Int} (h:∀i,i<128→0≤f i∧f i<256):∀i,i<80→0≤m16 f i∧m16 f i<bU:=by
 intro i _
 unfold m16
 split
 ·have:=fK (f:=fun j=> f (8 * i+j)) (n:=8) (fun j hj=> h _ (by omega)) 8 (Nat.le_refl _)
  exact this
 ·decide
def iA (s f:Nat→Int) (i:Nat):Int:=(s i+kJ kK (iW (m16 f) 64) s 80 i) % bU
theorem tH (s f:Nat→Int) (i:Nat):0≤iA s f i∧iA s f i<bU:=eY _
def aX (F:Nat→Int):Nat→Nat→Int
 | 0=> kB
 | j+1=> iA (aX F j) (fun i=> F (128 * j+i))
theorem kR (F:Nat→Int):∀j i,i<8→0≤aX F j i∧aX F j i<bU
 | 0=> xP
 | _+1=> fun i _=> tH _ _ i
def qQ (n:Nat):Nat:=(239 - n % 128) % 128
def vJ (n:Nat):Nat:=qQ n+17
def jA (n:Nat) (i:Nat):Int:=if i=0 then 128 else if i<qQ n+9 then 0 else 8 * (n:Int) / 2 ^ (8 * (7 - (i - (qQ n+9)))) % 256
def qV (n:Nat) (f:Nat→Int) (i:Nat):Int:=if i<n then f i else jA n (i - n)
def Bw (n:Nat):Nat:=n+vJ n
theorem sU (n i:Nat):0≤jA n i∧jA n i<256:=by
 unfold jA
 split
 ·decide
 ·split
  ·decide
  ·omega
theorem sZ {n:Nat} {f:Nat→Int} (h:∀i,i<n→0≤f i∧f i<256) (i:Nat):0≤qV n f i∧qV n f i<256:=by
 unfold qV
 split
 ·exact h i (by assumption)
 ·exact sU _ _
theorem zJ {n:Nat} {f:Nat→Int} {i:Nat} (h:i<n):qV n f i=f i:=if_pos h
theorem zK {n:Nat} {f:Nat→Int} (i:Nat):qV n f (n+i)=jA n i:=by
 unfold qV
 rw [if_neg (by omega),Nat.add_sub_cancel_left]
def gJ (n:Nat) (f:Nat→Int) (i:Nat):Int:=aX (qV n f) (Bw n / 128) (i / 8) / 2 ^ (8 * (7 - i % 8)) % 256
theorem iO (n:Nat) (f:Nat→Int) (i:Nat):0≤gJ n f i∧gJ n f i<256:=by unfold gJ;omega
end Go.aG
