/-
  Part 40 of SuiteHides. Conditions: named in each theorem.
-/
import Derived.Test.YtpcjekgfnfjbpaaGreatPkSuiteHides39
import Derived.Test.YtpcjekgfnfjbpaaGreatPkSuiteHides6
import Derived.Test.YtpcjekgfnfjbpaaGreatPkSuiteHides19
set_option linter.unusedVariables false
set_option linter.unusedSimpArgs false
namespace Go.aQ
def flat (lens:Nat->Nat) (g:Nat->Nat->Int):Nat->Nat->Int
 | 0,_=> 0
 | m+1,i=> if bV lens m<=i then g m (i - bV lens m) else flat lens g m i
theorem pW {lens:Nat->Nat} {g:Nat->Nat->Int} {m j i:Nat} (hj:j<m) (hi:i<lens j):flat lens g m (bV lens j+i)=g j i:=by
 induction m with
 | zero=> omega
 | succ m ih=>
  unfold flat;by_cases e:j=m
  ·subst e;rw [if_pos (by omega),WB]
  ·have h1:bV lens (j+1)<=bV lens m:=oJ lens (by omega);rw [bV] at h1;rw [if_neg (by omega),ih (by omega)]
theorem UE {lens:Nat->Nat} {g:Nat->Nat->Int} {p:Int->Prop} {m:Nat} (h:∀j,j<m->∀i,i<lens j->p (g j i)):∀i,i<bV lens m->p (flat lens g m i):=by
 induction m with
 | zero=> intro i hi;simp [bV] at hi
 | succ m ih=>
  intro i hi;rw [bV] at hi;unfold flat;by_cases e:bV lens m<=i
  ·rw [if_pos e];exact h m (by omega) _ (by omega)
  ·rw [if_neg e];exact ih (fun j hj=> h j (by omega)) i (by omega)
theorem Mg {lens:Nat->Nat} {g g':Nat->Nat->Int} {m:Nat} (h:∀j,j<m->∀i,i<lens j->g j i=g' j i):∀i,i<bV lens m->flat lens g m i=flat lens g' m i:=by
 induction m with
 | zero=> intro i hi;simp [bV] at hi
 | succ m ih=>
  intro i hi;rw [bV] at hi;unfold flat;by_cases e:bV lens m<=i
  ·rw [if_pos e,if_pos e];exact h m (by omega) _ (by omega)
  ·rw [if_neg e,if_neg e];exact ih (fun j hj=> h j (by omega)) i (by omega)
theorem Fv {F G:Nat->Int} {N:Nat} (h:∀i,i<N->F i=G i) (j:Nat):gL F N j=gL G N j:=by
 unfold gL;rw [gW fun i hi=> h _ (by omega)]
theorem MN {F G:Nat->Int} {N:Nat} (h:∀i,i<N->F i=G i) (r:Int) (j:Nat):lQ r F N j=lQ r G N j:=by
 induction j with
 | zero=> rfl
 | succ j ih=> rw [lQ,lQ,ih,Fv h]
def gp (n:Nat):Nat:=(16 - n % 16) % 16
def fV (nb nh:Nat):Nat->Nat:=fun j=> if j=0 then nb else if j=1 then gp nb else if j=2 then nh else if j=3 then gp nh else 8
def sD (n:Nat) (i:Nat):Int:=(n:Int) / 2 ^ (8 * i) % 256
def jI (nb:Nat) (fb:Nat->Int) (nh:Nat) (fh:Nat->Int):Nat->Nat->Int:=fun j=> if j=0 then fb else if j=2 then fh else if j=4 then sD nb else if j=5 then sD nh else fun _=> 0
theorem zO (n i:Nat):0<=sD n i/\sD n i<256:=by unfold sD;omega
def pR (nb:Nat) (fb:Nat->Int) (nh:Nat) (fh:Nat->Int):Nat->Int:=flat (fV nb nh) (jI nb fb nh fh) 6
def Lr (nb nh:Nat):Nat:=bV (fV nb nh) 6
theorem NC (nb nh:Nat):Lr nb nh=nb+gp nb+nh+gp nh+16:=by
 simp [Lr,bV,fV]
theorem Uw (n:Nat):gp n<16:=Nat.mod_lt _ (by decide)
theorem Gf {nb nh:Nat} {fb fh:Nat->Int} (hb:∀i,i<nb->0<=fb i/\fb i<256) (hh:∀i,i<nh->0<=fh i/\fh i<256):∀j,j<6->∀i,i<fV nb nh j->0<=jI nb fb nh fh j i/\jI nb fb nh fh j i<256:=by
 intro j hj i hi;rcases (by omega:j=0\/j=1\/j=2\/j=3\/j=4\/j=5) with rfl | rfl | rfl | rfl | rfl | rfl
 ·exact hb i (by simpa [fV] using hi)
 ·simp [jI]
 ·exact hh i (by simpa [fV] using hi)
 ·simp [jI]
 ·exact zO _ _
 ·exact zO _ _
theorem zT {nb nh:Nat} {fb fh:Nat->Int} (hb:∀i,i<nb->0<=fb i/\fb i<256) (hh:∀i,i<nh->0<=fh i/\fh i<256):∀i,i<Lr nb nh->0<=pR nb fb nh fh i/\pR nb fb nh fh i<256:=
 UE (p:=fun x=> 0<=x/\x<256) (Gf hb hh)
theorem Lv {nb nh:Nat} {fb fb' fh fh':Nat->Int} (hb:∀i,i<nb->fb i=fb' i) (hh:∀i,i<nh->fh i=fh' i):∀i,i<Lr nb nh->pR nb fb nh fh i=pR nb fb' nh fh' i:=by
 refine Mg fun j hj i hi=> ?_;rcases (by omega:j=0\/j=1\/j=2\/j=3\/j=4\/j=5) with rfl | rfl | rfl | rfl | rfl | rfl
 ·exact hb i (by simpa [fV] using hi)
 ·rfl
 ·exact hh i (by simpa [fV] using hi)
 ·rfl
 ·rfl
 ·rfl
theorem Ir {nb nh:Nat} {fb fh:Nat->Int} {i:Nat} (h:i<nb):pR nb fb nh fh (0+i)=fb i:=by
 have:=pW (g:=jI nb fb nh fh) (lens:=fV nb nh) (m:=6) (j:=0) (i:=i) (by decide) (by simpa [fV] using h)
 simpa [bV,jI,pR] using this
theorem PU {nb nh:Nat} {fb fh:Nat->Int} {i:Nat} (h:i<gp nb):pR nb fb nh fh (nb+i)=0:=by
 have:=pW (g:=jI nb fb nh fh) (lens:=fV nb nh) (m:=6) (j:=1) (i:=i) (by decide) (by simpa [fV] using h)
 simpa [bV,jI,pR,fV] using this
theorem Iq {nb nh:Nat} {fb fh:Nat->Int} {i:Nat} (h:i<nh):pR nb fb nh fh (nb+gp nb+i)=fh i:=by
 have:=pW (g:=jI nb fb nh fh) (lens:=fV nb nh) (m:=6) (j:=2) (i:=i) (by decide) (by simpa [fV] using h)
 simpa [bV,jI,pR,fV] using this
theorem PO {nb nh:Nat} {fb fh:Nat->Int} {i:Nat} (h:i<gp nh):pR nb fb nh fh (nb+gp nb+nh+i)=0:=by
 have:=pW (g:=jI nb fb nh fh) (lens:=fV nb nh) (m:=6) (j:=3) (i:=i) (by decide) (by simpa [fV] using h)
 simpa [bV,jI,pR,fV] using this
theorem Lu {nb nh:Nat} {fb fh:Nat->Int} {i:Nat} (h:i<8):pR nb fb nh fh (nb+gp nb+nh+gp nh+i)=sD nb i:=by
 have:=pW (g:=jI nb fb nh fh) (lens:=fV nb nh) (m:=6) (j:=4) (i:=i) (by decide) (by simpa [fV] using h)
 simpa [bV,jI,pR,fV] using this
theorem Ls {nb nh:Nat} {fb fh:Nat->Int} {i:Nat} (h:i<8):pR nb fb nh fh (nb+gp nb+nh+gp nh+8+i)=sD nh i:=by
 have:=pW (g:=jI nb fb nh fh) (lens:=fV nb nh) (m:=6) (j:=5) (i:=i) (by decide) (by simpa [fV] using h)
 simpa [bV,jI,pR,fV] using this
end Go.aQ
