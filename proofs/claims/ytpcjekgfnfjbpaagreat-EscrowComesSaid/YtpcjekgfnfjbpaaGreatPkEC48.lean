/- Part 48 of EscrowComes; conditions: in each theorem. -/
import Derived.Test.YtpcjekgfnfjbpaaGreatPkEC47
import Derived.Test.YtpcjekgfnfjbpaaGreatPkEC6
set_option linter.unusedVariables false
set_option linter.unusedSimpArgs false
namespace Go.bI
theorem amS:Bp≠.zero:=by
 intro h;have h1:=arM;rw[h] at h1;have h2:edY (.zero:Ed C7)=1:=by unfold edY Ed.zero;decide+kernel
 rw[h2] at h1;exact absurd h1 (by unfold BY;decide)
theorem KW:tu=7237005577332262213973186563042994240857116359379907606001950938285454250989:=by decide
theorem aaM:(1:Fp) - Bp.y≠0:=by
 have e:(1:Fp) - Bp.y=toF (1 - BY):=by rw[lu,dP];rfl
 rw[e];exact jM.2 (by decide+kernel)
theorem aaL:(1:Fp)+Bp.y≠0:=by
 have e:(1:Fp)+Bp.y=toF (1+BY):=by rw[gq,dP];rfl
 rw[e];exact jM.2 (by decide+kernel)
theorem XR:Cg (1 * 9 * (1 - BY)) (1+BY):=by unfold Cg;decide+kernel
theorem adT:oW K1 Bp (toF 9):=by
 refine⟨?_,aaM,aaL⟩;have h:=gY.2 XR;simp only[dK,lu,gq,dP] at h;exact h
theorem abY {p:Ed C7} {k L:Nat} (hf:k ^ (L - 1) % L=1) (hb:p.mul L=.zero) (hL:2<=L) (h:p.mul k=.zero):p=.zero:=by
 obtain⟨m,rfl⟩:∃m,L=m+2:=⟨L - 2,by omega⟩
 rw[show m+2 - 1=m+1 by omega,Nat.pow_succ,Nat.mul_comm] at hf;obtain⟨E,hE⟩:∃E,E=k * k ^ m:=⟨_,rfl⟩
 rw[<-hE] at hf;have h1:p.mul E=.zero:=by rw[hE,Ed.uL,h];exact tK (K:=K1) _
 have e2:E=(m+2) * (E / (m+2))+1:=by
  have:=Nat.div_add_mod E (m+2);rw[hf] at this;exact this.symm
 have h2:(Ed.zero:Ed C7).mul (E / (m+2))=.zero:=tK (K:=K1) _;rw[e2,Ed.mul_add,Ed.uL,hb,Ed.mul_one,h2,Ed.zero_add] at h1;exact h1
theorem VE {k:Nat} (hk:¬ tu ∣ k):Bp.mul k≠.zero:=by
 intro h;have hp:dx tu:=by rw[KW];exact QW
 have hf:=hp.IC hk;have hb:=Qg;have h2:=hp.1
 generalize tu=L at hf hb h2
 exact amS (abY hf hb h2 h)
theorem ZP (S:Int):∃m:Nat,fq S=(m:Int)/\m<2 ^ 255/\m % 8=0/\2 ^ 254<=m/\(m:Int) / 2 ^ 254 % 2=1:=by
 obtain⟨m,hm,h1,_,h3⟩:=zD S;have e:fq S=8 * (S % 2 ^ 254 / 8+2 ^ 251):=by unfold fq;omega
 have h2:(m:Int)=8 * (S % 2 ^ 254 / 8+2 ^ 251):=by rw[<-hm,e]
 refine⟨m,hm,h1,?_,?_,h3⟩
 ·omega
 ·have h4:0<=S % 2 ^ 254 / 8:=by omega
  omega
theorem Dl {m:Nat} (h1:m<2 ^ 255) (h2:m % 8=0) (h3:2 ^ 254<=m):¬ tu ∣ m:=by
 rintro⟨c,hc⟩;have hc8:c<8:=by
  rcases Nat.lt_or_ge c 8 with h | h
  ·exact h
  ·exfalso
   have h4:=Nat.mul_le_mul_left tu h;rw[<-hc] at h4;have h5:2 ^ 255<=tu * 8:=by decide
   exact Nat.lt_irrefl _ (qZ h1 (iw h5 h4))
 subst hc;have key:∀c:Fin 8,tu * c.val % 8=0->¬ 2 ^ 254<=tu * c.val:=by decide
 exact key ⟨c,hc8⟩ h2 h3
theorem NW {m n:Nat} (m1:m<2 ^ 255) (m2:m % 8=0) (m3:2 ^ 254<=m) (m4:(m:Int) / 2 ^ 254 % 2=1) (n1:n<2 ^ 255) (n2:n % 8=0) (n3:2 ^ 254<=n):toF (jI m (jI n 9 % Pr))≠0:=by
 have h:=Il (K:=K1) rfl Bp adT m n m1 n1 (by clear m1 m3 m4 n1 n2 n3;omega) m4;intro h9;rw[h9] at h;have hz:=Lf h.symm;have hz2:Bp.mul (n * m * 2)=.zero:=by
  rw[Ed.uL];show ((Ed.mul (Bp.mul (n * m)) 1).add (Bp.mul (n * m)))= _;rw[Ed.mul_one];exact hz
 have hp:dx tu:=by rw[KW];exact QW
 have hn2:¬ tu ∣ 2:=by decide
 refine VE ?_ hz2;intro hd;rcases hp.dvd_mul hd with h1 | h1
 ·rcases hp.dvd_mul h1 with h2 | h2
  ·exact Dl n1 n2 n3 h2
  ·exact Dl m1 m2 m3 h2
 ·exact hn2 h1
theorem SK (S T:Int):jI (fq S) (jI (fq T) (9 % 2 ^ 255) % Pr % 2 ^ 255) % Pr≠0:=by
 obtain⟨m,em,m1,m2,m3,m4⟩:=ZP S;obtain⟨n,en,n1,n2,n3,n4⟩:=ZP T;have e9:(9:Int) % 2 ^ 255=9:=by decide
 rw[tN,e9,em,en];exact jM.1 (NW m1 m2 m3 m4 n1 n2 n3)
end Go.bI
