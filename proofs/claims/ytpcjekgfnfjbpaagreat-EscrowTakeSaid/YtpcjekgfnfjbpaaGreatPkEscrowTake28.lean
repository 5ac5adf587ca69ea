/-
  Part 28 of EscrowTake. Conditions: named in each theorem.
-/
import Derived.Test.YtpcjekgfnfjbpaaGreatPkEscrowTake26
import Derived.Test.YtpcjekgfnfjbpaaGreatPkEscrowTake6
import Derived.Test.YtpcjekgfnfjbpaaGreatPkEscrowTake27
set_option linter.unusedVariables false
set_option linter.unusedSimpArgs false
namespace Go.aZ
def flat (lens:Nat->Nat) (g:Nat->Nat->Int):Nat->Nat->Int
 | 0,_=> 0
 | m+1,i=> if dA lens m<=i then g m (i - dA lens m) else flat lens g m i
theorem Yo {lens:Nat->Nat} {g:Nat->Nat->Int} {m j i:Nat} (hj:j<m) (hi:i<lens j):flat lens g m (dA lens j+i)=g j i:=by
 induction m with
 | zero=> omega
 | succ m ih=>
  unfold flat;by_cases e:j=m
  ·subst e;rw [if_pos (by omega),Qq]
  ·have h1:dA lens (j+1)<=dA lens m:=om lens (by omega);rw [dA] at h1;rw [if_neg (by omega),ih (by omega)]
theorem Ur {lens:Nat->Nat} {g:Nat->Nat->Int} {p:Int->Prop} {m:Nat} (h:∀j,j<m->∀i,i<lens j->p (g j i)):∀i,i<dA lens m->p (flat lens g m i):=by
 induction m with
 | zero=> intro i hi;simp [dA] at hi
 | succ m ih=>
  intro i hi;rw [dA] at hi;unfold flat;by_cases e:dA lens m<=i
  ·rw [if_pos e];exact h m (by omega) _ (by omega)
  ·rw [if_neg e];exact ih (fun j hj=> h j (by omega)) i (by omega)
theorem Ls {lens:Nat->Nat} {g g':Nat->Nat->Int} {m:Nat} (h:∀j,j<m->∀i,i<lens j->g j i=g' j i):∀i,i<dA lens m->flat lens g m i=flat lens g' m i:=by
 induction m with
 | zero=> intro i hi;simp [dA] at hi
 | succ m ih=>
  intro i hi;rw [dA] at hi;unfold flat;by_cases e:dA lens m<=i
  ·rw [if_pos e,if_pos e];exact h m (by omega) _ (by omega)
  ·rw [if_neg e,if_neg e];exact ih (fun j hj=> h j (by omega)) i (by omega)
theorem ET {F G:Nat->Int} {N:Nat} (h:∀i,i<N->F i=G i) (j:Nat):kJ F N j=kJ G N j:=by
 unfold kJ;rw [iA fun i hi=> h _ (by omega)]
theorem Mc {F G:Nat->Int} {N:Nat} (h:∀i,i<N->F i=G i) (r:Int) (j:Nat):wF r F N j=wF r G N j:=by
 induction j with
 | zero=> rfl
 | succ j ih=> rw [wF,wF,ih,ET h]
def gp (n:Nat):Nat:=(16 - n % 16) % 16
def oq (nb nh:Nat):Nat->Nat:=fun j=> if j=0 then nb else if j=1 then gp nb else if j=2 then nh else if j=3 then gp nh else 8
def Bv (n:Nat) (i:Nat):Int:=(n:Int) / 2 ^ (8 * i) % 256
def wI (nb:Nat) (fb:Nat->Int) (nh:Nat) (fh:Nat->Int):Nat->Nat->Int:=fun j=> if j=0 then fb else if j=2 then fh else if j=4 then Bv nb else if j=5 then Bv nh else fun _=> 0
theorem zF (n i:Nat):0<=Bv n i/\Bv n i<256:=by unfold Bv;omega
def OW (nb:Nat) (fb:Nat->Int) (nh:Nat) (fh:Nat->Int):Nat->Int:=flat (oq nb nh) (wI nb fb nh fh) 6
def OV (nb nh:Nat):Nat:=dA (oq nb nh) 6
theorem XQ (nb nh:Nat):OV nb nh=nb+gp nb+nh+gp nh+16:=by
 simp [OV,dA,oq]
theorem Ug (n:Nat):gp n<16:=Nat.mod_lt _ (by decide)
theorem FM {nb nh:Nat} {fb fh:Nat->Int} (hb:∀i,i<nb->0<=fb i/\fb i<256) (hh:∀i,i<nh->0<=fh i/\fh i<256):∀j,j<6->∀i,i<oq nb nh j->0<=wI nb fb nh fh j i/\wI nb fb nh fh j i<256:=by
 intro j hj i hi;rcases (by omega:j=0\/j=1\/j=2\/j=3\/j=4\/j=5) with rfl | rfl | rfl | rfl | rfl | rfl
 ·exact hb i (by simpa [oq] using hi)
 ·simp [wI]
 ·exact hh i (by simpa [oq] using hi)
 ·simp [wI]
 ·exact zF _ _
 ·exact zF _ _
theorem KQ {nb nh:Nat} {fb fh:Nat->Int} (hb:∀i,i<nb->0<=fb i/\fb i<256) (hh:∀i,i<nh->0<=fh i/\fh i<256):∀i,i<OV nb nh->0<=OW nb fb nh fh i/\OW nb fb nh fh i<256:=
 Ur (p:=fun x=> 0<=x/\x<256) (FM hb hh)
theorem KP {nb nh:Nat} {fb fb' fh fh':Nat->Int} (hb:∀i,i<nb->fb i=fb' i) (hh:∀i,i<nh->fh i=fh' i):∀i,i<OV nb nh->OW nb fb nh fh i=OW nb fb' nh fh' i:=by
 refine Ls fun j hj i hi=> ?_;rcases (by omega:j=0\/j=1\/j=2\/j=3\/j=4\/j=5) with rfl | rfl | rfl | rfl | rfl | rfl
 ·exact hb i (by simpa [oq] using hi)
 ·rfl
 ·exact hh i (by simpa [oq] using hi)
 ·rfl
 ·rfl
 ·rfl
end Go.aZ
