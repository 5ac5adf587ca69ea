/-
  Part 1 of the texts that the proof of BoxUnwraps rests on, one after the other. Conditions: named in each theorem.
-/

set_option linter.unusedVariables false
set_option linter.unusedSimpArgs false
namespace Go.Bas
def IsPrime (n:Nat):Prop:=2≤n∧∀d,d ∣ n→d=1∨d=n
theorem IsPrime.coprime {p a:Nat} (hp:IsPrime p) (h:¬ p ∣ a):Nat.Coprime p a:=by
 rcases hp.2 (Nat.gcd p a) (Nat.gcd_dvd_left p a) with h1 | h1
 ·exact h1
 ·exact absurd (by rw [←h1];exact Nat.gcd_dvd_right p a) h
theorem IsPrime.dvd_mul {p a b:Nat} (hp:IsPrime p) (h:p ∣ a * b):p ∣ a∨p ∣ b:=by
 by_cases ha:p ∣ a
 ·exact .inl ha
 ·exact .inr ((hp.coprime ha).dvd_of_dvd_mul_left h)
theorem IsPrime.not_dvd_one {p:Nat} (hp:IsPrime p):¬ p ∣ 1:=fun h=> by have:=Nat.le_of_dvd (by decide) h;have:=hp.1;omega
def ch:Nat→Nat→Nat
 | _,0=> 1
 | 0,_+1=> 0
 | n+1,k+1=> ch n k+ch n (k+1)
theorem ch_zero (n:Nat):ch n 0=1:=by cases n<;> rfl
theorem ch_succ (n k:Nat):ch (n+1) (k+1)=ch n k+ch n (k+1):=rfl
theorem ch_over:∀n k,n<k→ch n k=0
 | 0,k+1,_=> rfl
 | n+1,k+1,h=> by rw [ch_succ,ch_over n k (by omega),ch_over n (k+1) (by omega)]
theorem ch_self:∀n,ch n n=1
 | 0=> rfl
 | n+1=> by rw [ch_succ,ch_self n,ch_over n (n+1) (by omega)]
theorem absorb:∀n k,(k+1) * ch (n+1) (k+1)=(n+1) * ch n k:=by
 intro n
 induction n with
 | zero=>
  intro k
  cases k with
  | zero=> rfl
  | succ k=> rw [ch_succ,ch_over 0 (k+1) (by omega),ch_over 0 (k+1+1) (by omega)];simp
 | succ n ih=>
  intro k
  rw [ch_succ (n+1) k,Nat.mul_add,ih k]
  cases k with
  | zero=> rw [ch_zero,ch_zero];omega
  | succ j=>
   have h1:=ih j
   have h2:=ch_succ n j
   have h3:(n+1+1) * ch (n+1) (j+1)=(n+1) * (ch n j+ch n (j+1))+ch (n+1) (j+1):=by rw [←h2,Nat.succ_mul]
   rw [h3,Nat.mul_add]
   have h4:(j+1+1) * ch (n+1) (j+1)=(j+1) * ch (n+1) (j+1)+ch (n+1) (j+1):=Nat.succ_mul _ _
   omega
theorem IsPrime.dvd_ch {p k:Nat} (hp:IsPrime p) (h0:0<k) (h1:k<p):p ∣ ch p k:=by
 obtain ⟨j,rfl⟩:∃j,k=j+1:=⟨k - 1,by omega⟩
 obtain ⟨n,rfl⟩:∃n,p=n+1:=⟨p - 1,by omega⟩
 have h:=absorb n j
 have hd:n+1 ∣ (j+1) * ch (n+1) (j+1):=⟨_,h⟩
 rcases hp.dvd_mul hd with h2 | h2
 ·have:=Nat.le_of_dvd (by omega) h2;omega
 ·exact h2
def sumN (f:Nat→Nat):Nat→Nat
 | 0=> 0
 | n+1=> sumN f n+f n
theorem sumN_congr {f g:Nat→Nat} {n:Nat} (h:∀k,k<n→f k=g k):sumN f n=sumN g n:=by
 induction n with
 | zero=> rfl
 | succ n ih=> rw [sumN,sumN,ih fun k hk=> h k (by omega),h n (by omega)]
theorem sumN_add (f g:Nat→Nat):∀n,sumN (fun k=> f k+g k) n=sumN f n+sumN g n
 | 0=> rfl
 | n+1=> by rw [sumN,sumN,sumN,sumN_add f g n];omega
theorem sumN_mul (a:Nat) (f:Nat→Nat):∀n,sumN (fun k=> a * f k) n=a * sumN f n
 | 0=> rfl
 | n+1=> by rw [sumN,sumN,sumN_mul a f n,Nat.mul_add]
theorem sumN_head (f:Nat→Nat):∀n,sumN f (n+1)=f 0+sumN (fun k=> f (k+1)) n
 | 0=> by simp [sumN]
 | n+1=> by rw [sumN,sumN_head f n,sumN];omega
theorem sumN_dvd {p:Nat} {f:Nat→Nat}:∀n,(∀k,k<n→p ∣ f k)→p ∣ sumN f n
 | 0,_=> ⟨0,rfl⟩
 | n+1,h=> Nat.dvd_add (sumN_dvd n fun k hk=> h k (by omega)) (h n (by omega))
theorem binom (a:Nat):∀n,(a+1) ^ n=sumN (fun k=> ch n k * a ^ k) (n+1)
 | 0=> rfl
 | n+1=> by
  rw [Nat.pow_succ,binom a n,Nat.mul_add,Nat.mul_one]
  have e1:sumN (fun k=> ch (n+1) k * a ^ k) (n+1+1)=1+sumN (fun k=> ch n k * a ^ k * a+ch n (k+1) * a ^ (k+1)) (n+1):=by
   rw [sumN_head]
   congr 1
   exact sumN_congr fun k _=> by rw [ch_succ,Nat.add_mul,Nat.pow_succ,Nat.mul_assoc]
  rw [e1,sumN_add]
  have e2:sumN (fun k=> ch n k * a ^ k * a) (n+1)=sumN (fun k=> ch n k * a ^ k) (n+1) * a:=by
   rw [Nat.mul_comm,←sumN_mul]
   exact sumN_congr fun k _=> by rw [Nat.mul_comm]
  have e3:sumN (fun k=> ch n k * a ^ k) (n+1)=1+sumN (fun k=> ch n (k+1) * a ^ (k+1)) (n+1):=by
   have h1:=sumN_head (fun k=> ch n k * a ^ k) n
   have h2:sumN (fun k=> ch n (k+1) * a ^ (k+1)) (n+1)=sumN (fun k=> ch n (k+1) * a ^ (k+1)) n:=by
    rw [sumN,ch_over n (n+1) (by omega)];simp
   rw [h2,h1,ch_zero];simp
  rw [e2]
  omega
theorem IsPrime.fermat {p:Nat} (hp:IsPrime p):∀a:Nat,a ^ p % p=a % p
 | 0=> by rw [Nat.zero_pow (by have:=hp.1;omega)]
 | a+1=> by
  have ih:=hp.fermat a
  have h0:=hp.1
  have e:(a+1) ^ p=1+sumN (fun k=> ch p (k+1) * a ^ (k+1)) (p - 1)+a ^ p:=by
   rw [binom]
   obtain ⟨n,rfl⟩:∃n,p=n+1:=⟨p - 1,by omega⟩
   rw [sumN_head,sumN,ch_zero,ch_self]
   simp
   omega
  have hd:p ∣ sumN (fun k=> ch p (k+1) * a ^ (k+1)) (p - 1):=sumN_dvd _ fun k hk=> Nat.dvd_trans (hp.dvd_ch (by omega) (by omega)) (Nat.dvd_mul_right _ _)
  obtain ⟨c,hc⟩:=hd
  rw [e,hc,show 1+p * c+a ^ p=(1+a ^ p)+p * c by omega,Nat.add_mul_mod_self_left,Nat.add_mod,ih,←Nat.add_mod,Nat.add_comm]
theorem IsPrime.fermat1 {p:Nat} (hp:IsPrime p) {a:Nat} (ha:¬ p ∣ a):a ^ (p - 1) % p=1:=by
 have h:=hp.fermat a
 have h0:=hp.1
 have h1:a ^ p=a * a ^ (p - 1):=by
  obtain ⟨n,rfl⟩:∃n,p=n+1:=⟨p - 1,by omega⟩
  rw [Nat.pow_succ,Nat.mul_comm];rfl
 have hpos:0<a ^ (p - 1):=Nat.pow_pos (by rcases Nat.eq_zero_or_pos a with h2 | h2;(subst h2;exact absurd ⟨0,rfl⟩ ha);exact h2)
 have h2:p ∣ a * (a ^ (p - 1) - 1):=by
  rw [Nat.mul_sub,Nat.mul_one,←h1]
  exact Nat.dvd_of_mod_eq_zero (Nat.sub_mod_eq_zero_of_mod_eq h)
 rcases hp.dvd_mul h2 with h3 | h3
 ·exact absurd h3 ha
 ·obtain ⟨c,hc⟩:=h3
  have:a ^ (p - 1)=1+p * c:=by omega
  rw [this,Nat.add_mul_mod_self_left]
  exact Nat.mod_eq_of_lt (by omega)
theorem least_factor (n:Nat) (h:2≤n):∃r,IsPrime r∧r ∣ n∧(r=n∨r * r≤n):=by
 have key:∀k:Nat,(∃d,2≤d∧d ∣ n∧d≤k)→∃r,2≤r∧r ∣ n∧∀d,2≤d→d ∣ n→r≤d:=by
  intro k
  induction k with
  | zero=> rintro ⟨d,h1,_,h3⟩;omega
  | succ k ih=>
   rintro ⟨d,h1,h2,h3⟩
   by_cases hk:∃d,2≤d∧d ∣ n∧d≤k
   ·exact ih hk
   ·refine ⟨d,h1,h2,fun e he1 he2=> ?_⟩
    rcases Nat.lt_or_ge k e with h4 | h4
    ·omega
    ·exact absurd ⟨e,he1,he2,h4⟩ hk
 obtain ⟨r,h1,h2,h3⟩:=key n ⟨n,h,Nat.dvd_refl n,Nat.le_refl n⟩
 refine ⟨r,⟨h1,fun d hd=> ?_⟩,h2,?_⟩
 ·have hd0:d≠0:=by rintro rfl;have:=Nat.eq_zero_of_zero_dvd hd;omega
  by_cases e:d=1
  ·exact .inl e
  ·have h4:=h3 d (by omega) (Nat.dvd_trans hd h2)
   have h5:=Nat.le_of_dvd (by omega) hd
   exact .inr (by omega)
 ·obtain ⟨e,he⟩:=h2
  by_cases e1:e=1
  ·subst e1;left;omega
  ·right
   have e0:e≠0:=by rintro rfl;omega
   have h4:=h3 e (by omega) ⟨r,by rw [he,Nat.mul_comm]⟩
   rw [he]
   exact Nat.mul_le_mul_left r h4
theorem pow_gcd {r b:Nat} (hr:2≤r) (m n:Nat) (h1:b ^ m % r=1) (h2:b ^ n % r=1):b ^ Nat.gcd m n % r=1:=by
 induction m,n using Nat.gcd.induction with
 | H0 n=> rwa [Nat.gcd_zero_left]
 | H1 m n hm ih=>
  rw [Nat.gcd_rec]
  refine ih ?_ h1
  have e:b ^ n=(b ^ m) ^ (n / m) * b ^ (n % m):=by rw [←Nat.pow_mul,←Nat.pow_add,Nat.div_add_mod]
  have h3:(b ^ m) ^ (n / m) % r=1:=by rw [Nat.pow_mod,h1,Nat.one_pow];exact Nat.mod_eq_of_lt (by omega)
  rw [e,Nat.mul_mod,h3,Nat.one_mul,Nat.mod_mod] at h2
  exact h2
theorem pock_dvd {n f a:Nat} (hf:IsPrime f) (h1:a ^ (n - 1) % n=1) (hd:f ∣ n - 1) (hg:Nat.gcd (a ^ ((n - 1) / f) % n+(n - 1)) n=1) {r:Nat} (hr:IsPrime r) (hrn:r ∣ n) (hn:2≤n):f ∣ r - 1:=by
 have r2:=hr.1
 obtain ⟨c,hc⟩:=hrn
 have m1:a ^ (n - 1) % r=1:=by
  rw [←Nat.mod_mod_of_dvd _ ⟨c,hc⟩,h1];exact Nat.mod_eq_of_lt (by omega)
 obtain ⟨g,hgf⟩:=hd
 have e1:(n - 1) / f=g:=by rw [hgf];exact Nat.mul_div_cancel_left _ (by have:=hf.1;omega)
 rw [e1] at hg
 have hbf:(a ^ g) ^ f % r=1:=by rw [←Nat.pow_mul,Nat.mul_comm,←hgf];exact m1
 have hra:¬ r ∣ a ^ g:=by
  intro h
  have h2:r ∣ (a ^ g) ^ f:=Nat.dvd_trans h (by have:=Nat.pow_dvd_pow (a ^ g) (show 1≤f by have:=hf.1;omega);rwa [Nat.pow_one] at this)
  have:=Nat.mod_eq_zero_of_dvd h2
  omega
 have hbr:(a ^ g) ^ (r - 1) % r=1:=hr.fermat1 hra
 by_cases hfr:f ∣ r - 1
 ·exact hfr
 ·exfalso
  have h2:=pow_gcd r2 f (r - 1) hbf hbr
  rw [hf.coprime hfr,Nat.pow_one] at h2
  have h3:r ∣ a ^ g % n+(n - 1):=by
   have h4:(a ^ g % n) % r=1:=by rw [Nat.mod_mod_of_dvd _ ⟨c,hc⟩];exact h2
   have h5:=Nat.div_add_mod (a ^ g % n) r
   rw [h4] at h5
   have h6:a ^ g % n+(n - 1)=r * (a ^ g % n / r)+n:=by omega
   rw [h6]
   exact Nat.dvd_add (Nat.dvd_mul_right _ _) ⟨c,hc⟩
  have h4:r ∣ Nat.gcd (a ^ g % n+(n - 1)) n:=Nat.dvd_gcd h3 ⟨c,hc⟩
  rw [hg] at h4
  exact hr.not_dvd_one h4
theorem pock {n F:Nat} (hn:2≤n) (hF:n<(F+1) * (F+1)) (hdvd:∀r,IsPrime r→r ∣ n→F ∣ r - 1):IsPrime n:=by
 obtain ⟨r,hr,hrn,h⟩:=least_factor n hn
 rcases h with h | h
 ·rw [←h];exact hr
 ·exfalso
  have h1:=hdvd r hr hrn
  have h2:=Nat.le_of_dvd (by have:=hr.1;omega) h1
  have h4:=hr.1
  have h3:(F+1) * (F+1)≤r * r:=Nat.mul_le_mul (by omega) (by omega)
  omega
def powmod (n:Nat):Nat→Nat→Nat→Nat→Nat
 | 0,_,_,acc=> acc
 | k+1,b,e,acc=> powmod n k (b * b % n) (e / 2) (if e % 2=1 then acc * b % n else acc)
theorem powmod_eq (n:Nat):∀k b e acc,e<2 ^ k→powmod n k b e acc % n=acc * b ^ e % n
 | 0,b,e,acc,h=> by
  have:e=0:=by simpa using h
  subst this;simp [powmod]
 | k+1,b,e,acc,h=> by
  rw [powmod,powmod_eq n k _ _ _ (by rw [Nat.pow_succ] at h;omega)]
  have e1:b ^ e=(b * b) ^ (e / 2) * b ^ (e % 2):=by rw [←Nat.pow_two,←Nat.pow_mul,←Nat.pow_add,Nat.div_add_mod]
  have e2:(b * b % n) ^ (e / 2) % n=(b * b) ^ (e / 2) % n:=(Nat.pow_mod _ _ _).symm
  rw [e1]
  split
  ·rename_i h1
   rw [h1,Nat.pow_one,Nat.mul_mod,e2,Nat.mod_mod,←Nat.mul_mod,Nat.mul_assoc,Nat.mul_comm b]
  ·have h1:e % 2=0:=by omega
   rw [h1,Nat.pow_zero,Nat.mul_one,Nat.mul_mod,e2,←Nat.mul_mod]
def noFactor (n:Nat):Nat→Nat→Bool
 | 0,_=> true
 | k+1,d=> n % d !=0 && noFactor n k (d+1)
theorem noFactor_spec {n:Nat}:∀k d,noFactor n k d=true→∀e,d≤e→e<d+k→¬ e ∣ n
 | 0,d,_,e,h1,h2=> by omega
 | k+1,d,h,e,h1,h2=> by
  unfold noFactor at h
  rw [Bool.and_eq_true] at h
  by_cases he:e=d
  ·subst he
   intro hd
   have:=Nat.mod_eq_zero_of_dvd hd
   simp [this] at h
  ·exact noFactor_spec k (d+1) h.2 e (by omega) (by omega)
theorem prime_of_trial {n:Nat} (k:Nat) (hn:2≤n) (hk:n<(k+2) * (k+2)) (h:noFactor n k 2=true):IsPrime n:=by
 obtain ⟨r,hr,hrn,h1⟩:=least_factor n hn
 rcases h1 with h1 | h1
 ·rw [←h1];exact hr
 ·exfalso
  have hlt:r<k+2:=by
   rcases Nat.lt_or_ge r (k+2) with h2 | h2
   ·exact h2
   ·have:=Nat.mul_le_mul h2 h2;omega
  exact noFactor_spec k 2 h r hr.1 (by omega) hrn
theorem pock_test {n f:Nat} (a k:Nat) (hn:2≤n) (hf:IsPrime f) (hk:n - 1<2 ^ k) (h1:powmod n k a (n - 1) 1 % n=1) (hd:f ∣ n - 1) (hg:Nat.gcd (powmod n k a ((n - 1) / f) 1 % n+(n - 1)) n=1):∀r,IsPrime r→r ∣ n→f ∣ r - 1:=by
 intro r hr hrn
 rw [powmod_eq n k a _ 1 hk,Nat.one_mul] at h1
 rw [powmod_eq n k a _ 1 (Nat.lt_of_le_of_lt (Nat.div_le_self _ _) hk),Nat.one_mul] at hg
 exact pock_dvd hf h1 hd hg hr hrn hn
theorem dvd_both {f g m:Nat} (hf:IsPrime f) (hfg:¬ f ∣ g) (h1:f ∣ m) (h2:g ∣ m):f * g ∣ m:=(hf.coprime hfg).mul_dvd_of_dvd_of_dvd h1 h2
theorem prime_127:IsPrime 127:=prime_of_trial 11 (by decide) (by decide) (by decide+kernel)
theorem prime_75707:IsPrime 75707:=prime_of_trial 275 (by decide) (by decide) (by decide+kernel)
theorem prime_1923133:IsPrime 1923133:=prime_of_trial 1386 (by decide) (by decide) (by decide+kernel)
theorem prime_8574133:IsPrime 8574133:=prime_of_trial 2928 (by decide) (by decide) (by decide+kernel)
theorem prime_f3:IsPrime 1919519569386763:=pock (F:=8574133 * 127) (by decide) (by decide) fun r hr hrn=>
 dvd_both prime_8574133 (by decide) (pock_test 2 64 (by decide) prime_8574133 (by decide) (by decide+kernel) (by decide) (by decide+kernel) r hr hrn) (pock_test 2 64 (by decide) prime_127 (by decide) (by decide+kernel) (by decide) (by decide+kernel) r hr hrn)
theorem prime_f1:IsPrime 75445702479781427272750846543864801:=pock (F:=1919519569386763 * 75707) (by decide) (by decide) fun r hr hrn=>
 dvd_both prime_f3 (by decide) (pock_test 2 128 (by decide) prime_f3 (by decide) (by decide+kernel) (by decide) (by decide+kernel) r hr hrn) (pock_test 2 128 (by decide) prime_75707 (by decide) (by decide+kernel) (by decide) (by decide+kernel) r hr hrn)
theorem prime_q1:IsPrime 74058212732561358302231226437062788676166966415465897661863160754340907:=pock (F:=75445702479781427272750846543864801 * 1923133) (by decide) (by decide) fun r hr hrn=>
 dvd_both prime_f1 (by decide) (pock_test 2 256 (by decide) prime_f1 (by decide) (by decide+kernel) (by decide) (by decide+kernel) r hr hrn) (pock_test 2 256 (by decide) prime_1923133 (by decide) (by decide+kernel) (by decide) (by decide+kernel) r hr hrn)
def PN:Nat:=57896044618658097711785492504343953926634992332820282019728792003956564819949
theorem prime_PN:IsPrime PN:=pock (F:=74058212732561358302231226437062788676166966415465897661863160754340907) (by decide) (by decide) fun r hr hrn=>
 pock_test 2 256 (by decide) prime_q1 (by decide) (by decide+kernel) (by decide) (by decide+kernel) r hr hrn
end Go.Bas
