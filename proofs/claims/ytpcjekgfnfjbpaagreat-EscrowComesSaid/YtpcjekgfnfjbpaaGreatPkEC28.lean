/- Part 28 of EscrowComes; conditions: in each theorem. -/
import Derived.Test.YtpcjekgfnfjbpaaGreatPkEC26
import Derived.Test.YtpcjekgfnfjbpaaGreatPkEC6
import Derived.Test.YtpcjekgfnfjbpaaGreatPkEC27
set_option linter.unusedVariables false
set_option linter.unusedSimpArgs false
namespace Go.bI
def flat (lens:Nat->Nat) (g:Nat->Nat->Int):Nat->Nat->Int
 | 0,_=>0
 | m+1,i=>if dQ lens m<=i then g m (i - dQ lens m) else flat lens g m i
theorem ada {lens:Nat->Nat} {g:Nat->Nat->Int} {m j i:Nat} (hj:j<m) (hi:i<lens j):flat lens g m (dQ lens j+i)=g j i:=by
 induction m with
 | zero=>omega
 | succ m ih=>
  unfold flat;by_cases e:j=m
  ·subst e;rw[if_pos aH,Vi]
  ·have h1:dQ lens (j+1)<=dQ lens m:=qN lens aH;rw[dQ] at h1;rw[if_neg aH,ih aH]
theorem Zd {lens:Nat->Nat} {g:Nat->Nat->Int} {p:Int->Prop} {m:Nat} (h:∀j,j<m->∀i,i<lens j->p (g j i)):∀i,i<dQ lens m->p (flat lens g m i):=by
 induction m with
 | zero=>intro i hi;simp[dQ] at hi
 | succ m ih=>
  intro i hi;rw[dQ] at hi;unfold flat;by_cases e:dQ lens m<=i
  ·rw[if_pos e];exact h m aH _ aH
  ·rw[if_neg e];exact ih (fun j hj=>h j aH) i aH
theorem Pq {lens:Nat->Nat} {g g':Nat->Nat->Int} {m:Nat} (h:∀j,j<m->∀i,i<lens j->g j i=g' j i):∀i,i<dQ lens m->flat lens g m i=flat lens g' m i:=by
 induction m with
 | zero=>intro i hi;simp[dQ] at hi
 | succ m ih=>
  intro i hi;rw[dQ] at hi;unfold flat;by_cases e:dQ lens m<=i
  ·rw[if_pos e,if_pos e];exact h m aH _ aH
  ·rw[if_neg e,if_neg e];exact ih (fun j hj=>h j aH) i aH
theorem Jc {F G:Nat->Int} {N:Nat} (h:∀i,i<N->F i=G i) (j:Nat):mM F N j=mM G N j:=by
 unfold mM;rw[jA fun i hi=>h _ aH]
theorem Ql {F G:Nat->Int} {N:Nat} (h:∀i,i<N->F i=G i) (r:Int) (j:Nat):zG r F N j=zG r G N j:=by
 induction j with
 | zero=>rfl
 | succ j ih=>rw[zG,zG,ih,Jc h]
def gp (n:Nat):Nat:=(16 - n % 16) % 16
def qO (nb nh:Nat):Nat->Nat:=fun j=>if j=0 then nb else if j=1 then gp nb else if j=2 then nh else if j=3 then gp nh else 8
def ED (n:Nat) (i:Nat):Int:=(n:Int) / 2 ^ (8 * i) % 256
def zK (nb:Nat) (fb:Nat->Int) (nh:Nat) (fh:Nat->Int):Nat->Nat->Int:=fun j=>if j=0 then fb else if j=2 then fh else if j=4 then ED nb else if j=5 then ED nh else fun _=>0
theorem CF (n i:Nat):0<=ED n i/\ED n i<256:=by unfold ED;omega
def TP (nb:Nat) (fb:Nat->Int) (nh:Nat) (fh:Nat->Int):Nat->Int:=flat (qO nb nh) (zK nb fb nh fh) 6
def TM (nb nh:Nat):Nat:=dQ (qO nb nh) 6
theorem acF (nb nh:Nat):TM nb nh=nb+gp nb+nh+gp nh+16:=by
 simp[TM,dQ,qO]
theorem YS (n:Nat):gp n<16:=Nat.mod_lt _ aM
theorem JN {nb nh:Nat} {fb fh:Nat->Int} (hb:∀i,i<nb->0<=fb i/\fb i<256) (hh:∀i,i<nh->0<=fh i/\fh i<256):∀j,j<6->∀i,i<qO nb nh j->0<=zK nb fb nh fh j i/\zK nb fb nh fh j i<256:=by
 intro j hj i hi;rcases(by omega:j=0\/j=1\/j=2\/j=3\/j=4\/j=5) with rfl | rfl | rfl | rfl | rfl | rfl
 ·exact hb i (by simpa [qO] using hi)
 ·simp[zK]
 ·exact hh i (by simpa [qO] using hi)
 ·simp[zK]
 ·exact CF _ _
 ·exact CF _ _
theorem OM {nb nh:Nat} {fb fh:Nat->Int} (hb:∀i,i<nb->0<=fb i/\fb i<256) (hh:∀i,i<nh->0<=fh i/\fh i<256):∀i,i<TM nb nh->0<=TP nb fb nh fh i/\TP nb fb nh fh i<256:=
 Zd (p:=fun x=>0<=x/\x<256) (JN hb hh)
theorem OL {nb nh:Nat} {fb fb' fh fh':Nat->Int} (hb:∀i,i<nb->fb i=fb' i) (hh:∀i,i<nh->fh i=fh' i):∀i,i<TM nb nh->TP nb fb nh fh i=TP nb fb' nh fh' i:=by
 refine Pq fun j hj i hi=>?_;rcases(by omega:j=0\/j=1\/j=2\/j=3\/j=4\/j=5) with rfl | rfl | rfl | rfl | rfl | rfl
 ·exact hb i (by simpa [qO] using hi)
 ·rfl
 ·exact hh i (by simpa [qO] using hi)
 ·rfl
 ·rfl
 ·rfl
end Go.bI
