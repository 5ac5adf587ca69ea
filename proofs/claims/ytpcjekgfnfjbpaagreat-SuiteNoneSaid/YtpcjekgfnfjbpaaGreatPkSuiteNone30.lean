/-
  Part 30 of SuiteNone. Conditions: named in each theorem.
-/
import Derived.Test.YtpcjekgfnfjbpaaGreatPkSuiteNone29
import Derived.Test.YtpcjekgfnfjbpaaGreatPkSuiteNone6
import Derived.Test.YtpcjekgfnfjbpaaGreatPkSuiteNone20
set_option linter.unusedVariables false
set_option linter.unusedSimpArgs false
namespace Go.bI
def flat (lens:Nat->Nat) (g:Nat->Nat->Int):Nat->Nat->Int
 | 0,_=> 0
 | m+1,i=> if dw lens m<=i then g m (i - dw lens m) else flat lens g m i
theorem Zv {lens:Nat->Nat} {g:Nat->Nat->Int} {m j i:Nat} (hj:j<m) (hi:i<lens j):flat lens g m (dw lens j+i)=g j i:=by
 induction m with
 | zero=> omega
 | succ m ih=>
  unfold flat;by_cases e:j=m
  ·subst e;rw [if_pos (by omega),RJ]
  ·have h1:dw lens (j+1)<=dw lens m:=oF lens (by omega);rw [dw] at h1;rw [if_neg (by omega),ih (by omega)]
theorem VW {lens:Nat->Nat} {g:Nat->Nat->Int} {p:Int->Prop} {m:Nat} (h:∀j,j<m->∀i,i<lens j->p (g j i)):∀i,i<dw lens m->p (flat lens g m i):=by
 induction m with
 | zero=> intro i hi;simp [dw] at hi
 | succ m ih=>
  intro i hi;rw [dw] at hi;unfold flat;by_cases e:dw lens m<=i
  ·rw [if_pos e];exact h m (by omega) _ (by omega)
  ·rw [if_neg e];exact ih (fun j hj=> h j (by omega)) i (by omega)
theorem Nf {lens:Nat->Nat} {g g':Nat->Nat->Int} {m:Nat} (h:∀j,j<m->∀i,i<lens j->g j i=g' j i):∀i,i<dw lens m->flat lens g m i=flat lens g' m i:=by
 induction m with
 | zero=> intro i hi;simp [dw] at hi
 | succ m ih=>
  intro i hi;rw [dw] at hi;unfold flat;by_cases e:dw lens m<=i
  ·rw [if_pos e,if_pos e];exact h m (by omega) _ (by omega)
  ·rw [if_neg e,if_neg e];exact ih (fun j hj=> h j (by omega)) i (by omega)
theorem GN {F G:Nat->Int} {N:Nat} (h:∀i,i<N->F i=G i) (j:Nat):kX F N j=kX G N j:=by
 unfold kX;rw [gB fun i hi=> h _ (by omega)]
theorem NI {F G:Nat->Int} {N:Nat} (h:∀i,i<N->F i=G i) (r:Int) (j:Nat):xM r F N j=xM r G N j:=by
 induction j with
 | zero=> rfl
 | succ j ih=> rw [xM,xM,ih,GN h]
def gp (n:Nat):Nat:=(16 - n % 16) % 16
def oH (nb nh:Nat):Nat->Nat:=fun j=> if j=0 then nb else if j=1 then gp nb else if j=2 then nh else if j=3 then gp nh else 8
def CU (n:Nat) (i:Nat):Int:=(n:Int) / 2 ^ (8 * i) % 256
def xR (nb:Nat) (fb:Nat->Int) (nh:Nat) (fh:Nat->Int):Nat->Nat->Int:=fun j=> if j=0 then fb else if j=2 then fh else if j=4 then CU nb else if j=5 then CU nh else fun _=> 0
theorem Ay (n i:Nat):0<=CU n i/\CU n i<256:=by unfold CU;omega
def Qy (nb:Nat) (fb:Nat->Int) (nh:Nat) (fh:Nat->Int):Nat->Int:=flat (oH nb nh) (xR nb fb nh fh) 6
def Qx (nb nh:Nat):Nat:=dw (oH nb nh) 6
theorem YU (nb nh:Nat):Qx nb nh=nb+gp nb+nh+gp nh+16:=by
 simp [Qx,dw,oH]
theorem VK (n:Nat):gp n<16:=Nat.mod_lt _ (by decide)
theorem Ih {nb nh:Nat} {fb fh:Nat->Int} (hb:∀i,i<nb->0<=fb i/\fb i<256) (hh:∀i,i<nh->0<=fh i/\fh i<256):∀j,j<6->∀i,i<oH nb nh j->0<=xR nb fb nh fh j i/\xR nb fb nh fh j i<256:=by
 intro j hj i hi;rcases (by omega:j=0\/j=1\/j=2\/j=3\/j=4\/j=5) with rfl | rfl | rfl | rfl | rfl | rfl
 ·exact hb i (by simpa [oH] using hi)
 ·simp [xR]
 ·exact hh i (by simpa [oH] using hi)
 ·simp [xR]
 ·exact Ay _ _
 ·exact Ay _ _
theorem ML {nb nh:Nat} {fb fh:Nat->Int} (hb:∀i,i<nb->0<=fb i/\fb i<256) (hh:∀i,i<nh->0<=fh i/\fh i<256):∀i,i<Qx nb nh->0<=Qy nb fb nh fh i/\Qy nb fb nh fh i<256:=
 VW (p:=fun x=> 0<=x/\x<256) (Ih hb hh)
theorem MK {nb nh:Nat} {fb fb' fh fh':Nat->Int} (hb:∀i,i<nb->fb i=fb' i) (hh:∀i,i<nh->fh i=fh' i):∀i,i<Qx nb nh->Qy nb fb nh fh i=Qy nb fb' nh fh' i:=by
 refine Nf fun j hj i hi=> ?_;rcases (by omega:j=0\/j=1\/j=2\/j=3\/j=4\/j=5) with rfl | rfl | rfl | rfl | rfl | rfl
 ·exact hb i (by simpa [oH] using hi)
 ·rfl
 ·exact hh i (by simpa [oH] using hi)
 ·rfl
 ·rfl
 ·rfl
end Go.bI
