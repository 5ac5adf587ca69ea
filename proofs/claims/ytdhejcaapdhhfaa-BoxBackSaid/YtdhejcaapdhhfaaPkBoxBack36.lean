/-
  Part 36 of the texts that the proof of BoxBack rests on, one after the other. Conditions: named in each theorem.
-/
import Derived.Test.YtdhejcaapdhhfaaPkBoxBack5
import Derived.Test.YtdhejcaapdhhfaaPkBoxBack4
import Derived.Test.YtdhejcaapdhhfaaPkBoxBack17
import Derived.Test.YtdhejcaapdhhfaaPkBoxBack2
import Derived.Test.YtdhejcaapdhhfaaPkBoxBack1
import Derived.Test.YtdhejcaapdhhfaaPkBoxBack13
import Derived.Test.YtdhejcaapdhhfaaPkBoxBack12
import Derived.Test.YtdhejcaapdhhfaaPkBoxBack6
import Derived.Test.YtdhejcaapdhhfaaPkBoxBack3
import Derived.Test.YtdhejcaapdhhfaaPkBoxBack7
import Derived.Test.YtdhejcaapdhhfaaPkBoxBack8
import Derived.Test.YtdhejcaapdhhfaaPkBoxBack18
import Derived.Test.YtdhejcaapdhhfaaPkBoxBack15
import Derived.Test.YtdhejcaapdhhfaaPkBoxBack9
import Derived.Test.YtdhejcaapdhhfaaPkBoxBack35
import Derived.BigFrame
import Derived.BigQuiet
import Derived.ChangeKeysEq
import Derived.ChangeOld
import Derived.Deep.Cut
import Derived.Deep.DrawnRows
import Derived.Deep.LoopGhost
import Derived.Deep.MidRow
import Derived.Deep.QuietTactic
import Derived.Deep.RegionHeld3
import Derived.Deep.RegionLaw
import Derived.Deep.WholeRow
import Derived.Laws.BitsAllLaws
import Derived.Laws.BytesArg
import Derived.Laws.CopyOwn
import Derived.Laws.IdiomCopy
import Derived.Laws.Strings
import Derived.Laws.StructEq
import Derived.Lib.BufferRead
import Derived.Lib.Hide
import Derived.Maps.AppendAt
import Derived.Maps.Range
import Derived.OpenShut
import Derived.Orders
import Derived.OrdersIn
import Derived.OwnWalkIn
import Derived.ProofKit
import Derived.RangeFuncCalls
import Derived.ShutString
import Derived.Test.YtdhejcaapdhhfaaArr
import Derived.Test.YtdhejcaapdhhfaaFlow
import Derived.Test.YtdhejcaapdhhfaaKit
import Derived.Test.YtdhejcaapdhhfaaOpen
import Derived.Test.YtdhejcaapdhhfaaRows
import Derived.WalkKit
import Derived.WalkLawsBesides
import Derived.WalkSmall
import Derived.WalkSpells
set_option linter.unusedVariables false
set_option linter.unusedSimpArgs false
namespace Go.Bas
open Go.RowKit
def BX:Int:=15112221349535400772501151409588531511454012693041857206046113283949847762202
def BY:Int:=46316835694926478169428394003475163141307993866256225615783033603165251855960
theorem base_num:Cg (121666 * (BY * BY - BX * BX - 1)) (-121665 * (BX * BX * (BY * BY))):=by unfold Cg BX BY;decide+kernel
theorem on_cancel {x y d a b:Fp} (hd:d * b= -a) (hb:b≠0) (h:b * (y * y - x * x - 1)= -a * (x * x * (y * y))):y ^ 2 - x ^ 2=1+d * x ^ 2 * y ^ 2:=by
 refine fp_cancel hb ?_
 grind
noncomputable def Bp:Ed C7:=⟨toF BX,toF BY,on_cancel dE_eq (toF_nz.2 (by decide)) (by
 have h:=toF_eq.2 base_num
 simp only [toF_mul,toF_sub,toF_neg,toF_one] at h
 exact h)⟩
end Go.Bas
namespace Go.Proofs.Ytdhejcaapdhhfaa
open Go.RowKit Go.Bas Go.ChangeShapes
attribute [local go_sem ↓] Go.wp_at_zero Go.wp_at_succ
end Go.Proofs.Ytdhejcaapdhhfaa
namespace Go.Bas
def RRep (X Y Z:Int) (p:Ed C7):Prop:=toF Z≠0∧toF X=p.x * toF Z∧toF Y=p.y * toF Z
theorem ra_rep_f {x1 y1 z1 x2 y2 z2 d sx sy A B C D:Fp} (hB:B=1+d * (x1 * x2 * (y1 * y2))) (hD:D=1 - d * (x1 * x2 * (y1 * y2))) (hA:A=x1 * y2+x2 * y1) (hC:C=y1 * y2+x1 * x2) (hsx:sx * B=A) (hsy:sy * D=C):
  let w:=z1 * z2
  let L:=w * w - d * ((x1 * z1 * (x2 * z2)) * (y1 * z1 * (y2 * z2)))
  let M:=w * w+d * ((x1 * z1 * (x2 * z2)) * (y1 * z1 * (y2 * z2)))
  let K:=(x1 * z1+y1 * z1) * (x2 * z2+y2 * z2) - x1 * z1 * (x2 * z2) - y1 * z1 * (y2 * z2)
  w * (L * K)=sx * (L * M)∧w * (M * (y1 * z1 * (y2 * z2)+x1 * z1 * (x2 * z2)))=sy * (L * M)∧L=w * w * D∧M=w * w * B:=by
 intro w L M K
 have hL:L=w * w * D:=by show _= _;rw [hD];grind
 have hM:M=w * w * B:=by show _= _;rw [hB];grind
 have hK:K=w * A:=by show _= _;rw [hA];grind
 have hE:y1 * z1 * (y2 * z2)+x1 * z1 * (x2 * z2)=w * C:=by rw [hC];grind
 rw [hL,hM,hK,hE]
 clear hL hM hK hE hB hD hA hC L M K
 generalize w=v
 subst hsx;subst hsy
 exact ⟨by grind,by grind,rfl,rfl⟩
theorem RRep.add {X Y Z U V R D:Int} {p q:Ed C7} (hp:RRep X Y Z p) (hq:RRep U V R q) (hD:toF D=dE):RRep (raX X Y Z U V R D) (raY X Y Z U V R D) (raZ X Y Z U V R D) (p.add q):=by
 obtain ⟨h0,h1,h2⟩:=hp
 obtain ⟨k0,k1,k2⟩:=hq
 obtain ⟨r1,r2,r3,r4⟩:=ra_rep_f (z1:=toF Z) (z2:=toF R) (d:=dE) rfl rfl rfl rfl (p.add_x q) (p.add_y q)
 unfold RRep raX raY raZ raL raM raC
 simp only [toF_mul,toF_add,toF_sub,h1,h2,k1,k2,hD]
 refine ⟨?_,r1,r2⟩
 rw [r3,r4]
 have hw:=fp_mul_ne h0 k0
 exact fp_mul_ne (fp_mul_ne (fp_mul_ne hw hw) (p.minus_ne q)) (fp_mul_ne (fp_mul_ne hw hw) (p.plus_ne q))
theorem RRep.zero:RRep 0 1 1 .zero:=by
 refine ⟨?_,?_,?_⟩
 ·rw [toF_one];exact fp_one_ne
 ·rw [toF_zero,toF_one];show (0:Fp)=0 * 1;grind
 ·rw [toF_one];show (1:Fp)=1 * 1;grind
end Go.Bas
namespace Go.Proofs.Ytdhejcaapdhhfaa
open Go.Bas
end Go.Proofs.Ytdhejcaapdhhfaa
namespace Go.Bas
def dNum:Nat:=37095705934669439343138083508754565189542113879843219016388785533085940283555
theorem toF_dNum:toF (dNum:Int)=dE:=by
 have h:Cg ((dNum:Int) * 121666) (-121665):=by unfold Cg;decide+kernel
 have h2:=toF_eq.2 h
 rw [toF_mul,toF_neg] at h2
 exact fp_cancel (toF_nz.2 (by decide)) (h2.trans dE_eq.symm)
def nR (x y z u v r:Nat):Nat × Nat × Nat:=
 let w:=nM z r
 let c:=nM x u
 let e:=nM y v
 let ww:=nM w w
 let f:=nM dNum (nM c e)
 let l:=nS ww f
 let m:=nA ww f
 let k:=nS (nS (nM (nA x y) (nA u v)) c) e
 (nM w (nM l k),nM w (nM m (nA e c)),nM l m)
def SRep (x y z:Nat) (p:Ed C7):Prop:=∃X Y Z,Stands x X∧Stands y Y∧Stands z Z∧RRep X Y Z p
theorem SRep.add {x y z u v r:Nat} {p q:Ed C7} (hp:SRep x y z p) (hq:SRep u v r q):SRep (nR x y z u v r).1 (nR x y z u v r).2.1 (nR x y z u v r).2.2 (p.add q):=by
 obtain ⟨X,Y,Z,hx,hy,hz,h1⟩:=hp
 obtain ⟨U,V,R,hu,hv,hr,h2⟩:=hq
 have hd:Stands dNum dNum:=⟨by decide,rfl⟩
 have w:=hz.mul hr
 have c:=hx.mul hu
 have e:=hy.mul hv
 have f:=hd.mul (c.mul e)
 have l:=(w.mul w).sub f
 have m:=(w.mul w).add f
 have k:=(((hx.add hy).mul (hu.add hv)).sub c).sub e
 exact ⟨_,_,_,w.mul (l.mul k),w.mul (m.mul (e.add c)),l.mul m,h1.add h2 toF_dNum⟩
def bX:Nat:=15112221349535400772501151409588531511454012693041857206046113283949847762202
def bY:Nat:=46316835694926478169428394003475163141307993866256225615783033603165251855960
theorem SRep.base:SRep bX bY 1 Bp:=by
 refine ⟨BX,BY,1,⟨by decide,rfl⟩,⟨by decide,rfl⟩,⟨by decide,rfl⟩,?_,?_,?_⟩
 ·rw [toF_one];exact fp_one_ne
 ·rw [toF_one];show toF BX=toF BX * 1;generalize toF BX=x;grind
 ·rw [toF_one];show toF BY=toF BY * 1;generalize toF BY=x;grind
def ordE (n:Nat):Nat→Nat→Nat→Nat→Nat × Nat × Nat
 | 0,x,y,z=> (x,y,z)
 | k+1,x,y,z=> if n / 2 ^ k % 2=1 then ordE n k (nR (nR x y z x y z).1 (nR x y z x y z).2.1 (nR x y z x y z).2.2 bX bY 1).1 (nR (nR x y z x y z).1 (nR x y z x y z).2.1 (nR x y z x y z).2.2 bX bY 1).2.1 (nR (nR x y z x y z).1 (nR x y z x y z).2.1 (nR x y z x y z).2.2 bX bY 1).2.2 else ordE n k (nR x y z x y z).1 (nR x y z x y z).2.1 (nR x y z x y z).2.2
theorem SRep.ord {n:Nat}:∀(k x y z:Nat),SRep x y z (Bp.mul (n / 2 ^ k))→SRep (ordE n k x y z).1 (ordE n k x y z).2.1 (ordE n k x y z).2.2 (Bp.mul n)
 | 0,_,_,_,h=> by rw [Nat.pow_zero,Nat.div_one] at h;exact h
 | k+1,x,y,z,h=> by
  unfold ordE
  have h2:=h.add h
  rw [←Ed.mul_add] at h2
  have hq:n / 2 ^ (k+1)=n / 2 ^ k / 2:=by rw [Nat.pow_succ,Nat.div_div_eq_div_mul]
  by_cases hb:n / 2 ^ k % 2=1
  ·rw [if_pos hb]
   have h3:=h2.add SRep.base
   rw [show (Bp.mul (n / 2 ^ (k+1)+n / 2 ^ (k+1))).add Bp=Bp.mul (n / 2 ^ k) by
    rw [←show Bp.mul (n / 2 ^ (k+1)+n / 2 ^ (k+1)+1)=(Bp.mul (n / 2 ^ (k+1)+n / 2 ^ (k+1))).add Bp from by rw [Ed.mul_add,Ed.mul_one],show n / 2 ^ (k+1)+n / 2 ^ (k+1)+1=n / 2 ^ k by omega]] at h3
   exact SRep.ord k _ _ _ h3
  ·rw [if_neg hb]
   rw [show n / 2 ^ (k+1)+n / 2 ^ (k+1)=n / 2 ^ k by omega] at h2
   exact SRep.ord k _ _ _ h2
def ordN:Nat:=2 ^ 252+27742317777372353535851937790883648493
theorem ord_reckoned:(ordE ordN 253 0 1 1).1=0∧(ordE ordN 253 0 1 1).2.1=(ordE ordN 253 0 1 1).2.2:=by decide+kernel
theorem SRep.zero:SRep 0 1 1 .zero:=⟨0,1,1,⟨by decide,rfl⟩,⟨by decide,rfl⟩,⟨by decide,rfl⟩,RRep.zero⟩
theorem base_order:Bp.mul ordN=.zero:=by
 have h:=SRep.ord (n:=ordN) 253 0 1 1 (by rw [show ordN / 2 ^ 253=0 by decide];exact SRep.zero)
 obtain ⟨X,Y,Z,hx,hy,hz,h0,h1,h2⟩:=h
 rw [ord_reckoned.1] at hx
 rw [ord_reckoned.2] at hy
 have ex:toF X=0:=by rw [←toF_zero];exact toF_eq.2 hx.2.symm
 have ey:toF Y=toF Z:=toF_eq.2 (hy.2.symm.trans hz.2)
 rw [ex] at h1
 rw [ey] at h2
 refine Ed.ext ?_ ?_
 ·refine fp_cancel h0 ?_
  rw [←h1];show (0:Fp)=0 * toF Z;generalize toF Z=t;grind
 ·refine fp_cancel h0 ?_
  rw [←h2];show toF Z=1 * toF Z;generalize toF Z=t;grind
end Go.Bas
namespace Go.Bas
theorem ordN_lit:ordN=7237005577332262213973186563042994240857116359379907606001950938285454250989:=by decide
theorem Bp_y_ne1:(1:Fp) - Bp.y≠0:=by
 have e:(1:Fp) - Bp.y=toF (1 - BY):=by rw [toF_sub,toF_one];rfl
 rw [e]
 exact toF_nz.2 (by decide+kernel)
theorem Bp_y_ne2:(1:Fp)+Bp.y≠0:=by
 have e:(1:Fp)+Bp.y=toF (1+BY):=by rw [toF_add,toF_one];rfl
 rw [e]
 exact toF_nz.2 (by decide+kernel)
theorem nine_num:Cg (1 * 9 * (1 - BY)) (1+BY):=by unfold Cg;decide+kernel
theorem Bp_base:IsBase K1 Bp (toF 9):=by
 refine ⟨?_,Bp_y_ne1,Bp_y_ne2⟩
 have h:=toF_eq.2 nine_num
 simp only [toF_mul,toF_sub,toF_add,toF_one] at h
 exact h
theorem fp_self (a:Fp):a - a=0:=by grind
theorem Bp_ne:Bp≠.zero:=by
 intro e
 have h:Bp.y=(1:Fp):=by rw [e];rfl
 exact Bp_y_ne1 (by rw [h];exact fp_self 1)
theorem ord_arg {p:Ed C7} {k L:Nat} (hf:k ^ (L - 1) % L=1) (hb:p.mul L=.zero) (hL:2≤L) (h:p.mul k=.zero):p=.zero:=by
 obtain ⟨m,rfl⟩:∃m,L=m+2:=⟨L - 2,by omega⟩
 rw [show m+2 - 1=m+1 by omega,Nat.pow_succ,Nat.mul_comm] at hf
 obtain ⟨E,hE⟩:∃E,E=k * k ^ m:=⟨_,rfl⟩
 rw [←hE] at hf
 have h1:p.mul E=.zero:=by rw [hE,Ed.mul_mul,h];exact mul_zero_pt (K:=K1) _
 have e2:E=(m+2) * (E / (m+2))+1:=by
  have:=Nat.div_add_mod E (m+2)
  rw [hf] at this
  exact this.symm
 have h2:(Ed.zero:Ed C7).mul (E / (m+2))=.zero:=mul_zero_pt (K:=K1) _
 rw [e2,Ed.mul_add,Ed.mul_mul,hb,Ed.mul_one,h2,Ed.zero_add] at h1
 exact h1
theorem Bp_mul_ne {k:Nat} (hk:¬ ordN ∣ k):Bp.mul k≠.zero:=by
 intro h
 have hp:IsPrime ordN:=by rw [ordN_lit];exact prime_L
 have hf:=hp.fermat1 hk
 have hb:=base_order
 have h2:=hp.1
 generalize ordN=L at hf hb h2
 exact Bp_ne (ord_arg hf hb h2 h)
theorem clamp8 (S:Int):∃m:Nat,clampN S=(m:Int)∧m<2 ^ 255∧m % 8=0∧2 ^ 254≤m∧(m:Int) / 2 ^ 254 % 2=1:=by
 obtain ⟨m,hm,h1,_,h3⟩:=clamp_nat S
 have e:clampN S=8 * (S % 2 ^ 254 / 8+2 ^ 251):=by unfold clampN;omega
 have h2:(m:Int)=8 * (S % 2 ^ 254 / 8+2 ^ 251):=by rw [←hm,e]
 refine ⟨m,hm,h1,?_,?_,h3⟩
 ·omega
 ·have h4:0≤S % 2 ^ 254 / 8:=by omega
  omega
theorem clamp_ndvd {m:Nat} (h1:m<2 ^ 255) (h2:m % 8=0) (h3:2 ^ 254≤m):¬ ordN ∣ m:=by
 rintro ⟨c,hc⟩
 have hc8:c<8:=by
  rcases Nat.lt_or_ge c 8 with h | h
  ·exact h
  ·exfalso
   have h4:=Nat.mul_le_mul_left ordN h
   rw [←hc] at h4
   have h5:2 ^ 255≤ordN * 8:=by decide
   exact Nat.lt_irrefl _ (Nat.lt_of_lt_of_le h1 (Nat.le_trans h5 h4))
 subst hc
 have key:∀c:Fin 8,ordN * c.val % 8=0→¬ 2 ^ 254≤ordN * c.val:=by decide
 exact key ⟨c,hc8⟩ h2 h3
theorem shared_nat {m n:Nat} (m1:m<2 ^ 255) (m2:m % 8=0) (m3:2 ^ 254≤m) (m4:(m:Int) / 2 ^ 254 % 2=1) (n1:n<2 ^ 255) (n2:n % 8=0) (n3:2 ^ 254≤n):toF (ladN m (ladN n 9 % Pr))≠0:=by
 have h:=lad_lad (K:=K1) rfl Bp Bp_base m n m1 n1 (by clear m1 m3 m4 n1 n2 n3;omega) m4
 intro h9
 rw [h9] at h
 have hz:=num_zero h.symm
 have hz2:Bp.mul (n * m * 2)=.zero:=by
  rw [Ed.mul_mul]
  show ((Ed.mul (Bp.mul (n * m)) 1).add (Bp.mul (n * m)))= _
  rw [Ed.mul_one];exact hz
 have hp:IsPrime ordN:=by rw [ordN_lit];exact prime_L
 have hn2:¬ ordN ∣ 2:=by decide
 refine Bp_mul_ne ?_ hz2
 intro hd
 rcases hp.dvd_mul hd with h1 | h1
 ·rcases hp.dvd_mul h1 with h2 | h2
  ·exact clamp_ndvd n1 n2 n3 h2
  ·exact clamp_ndvd m1 m2 m3 h2
 ·exact hn2 h1
theorem shared_ne (S T:Int):ladN (clampN S) (ladN (clampN T) (9 % 2 ^ 255) % Pr % 2 ^ 255) % Pr≠0:=by
 obtain ⟨m,em,m1,m2,m3,m4⟩:=clamp8 S
 obtain ⟨n,en,n1,n2,n3,n4⟩:=clamp8 T
 have e9:(9:Int) % 2 ^ 255=9:=by decide
 rw [ladN_mod255,e9,em,en]
 exact toF_nz.1 (shared_nat m1 m2 m3 m4 n1 n2 n3)
end Go.Bas
