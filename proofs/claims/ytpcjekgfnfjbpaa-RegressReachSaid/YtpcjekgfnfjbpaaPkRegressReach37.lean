/-
  Part 37 of the texts that the proof of RegressReach rests on, one after the other. Conditions: named in each theorem.
-/
import Derived.Test.YtpcjekgfnfjbpaaPkRegressReach36
import Derived.Test.YtpcjekgfnfjbpaaPkRegressReach35
import Derived.Test.YtpcjekgfnfjbpaaPkRegressReach34
import Derived.Test.YtpcjekgfnfjbpaaPkRegressReach2
import Derived.Test.YtpcjekgfnfjbpaaPkRegressReach3
import Derived.Test.YtpcjekgfnfjbpaaPkRegressReach8
import Derived.Test.YtpcjekgfnfjbpaaPkRegressReach9
import Derived.Test.YtpcjekgfnfjbpaaPkRegressReach26
import Derived.Test.YtpcjekgfnfjbpaaPkRegressReach15
import Derived.Test.YtpcjekgfnfjbpaaPkRegressReach21
import Derived.BigFrame
import Derived.BigQuiet
import Derived.ChangeKeysEq
import Derived.Deep.Cut
import Derived.Deep.DrawnRows
import Derived.Deep.MidRow
import Derived.Deep.QuietTactic
import Derived.Deep.RegionHeld3
import Derived.Deep.RegionLaw
import Derived.Deep.WholeRow
import Derived.Great.BuildSlice
import Derived.Laws.BitsAllLaws
import Derived.Laws.CopyOwn
import Derived.Laws.StructEq
import Derived.Lib.Hide
import Derived.Maps.AppendAt
import Derived.Maps.Range
import Derived.Orders
import Derived.Test.YtpcjekgfnfjbpaaArr
import Derived.Test.YtpcjekgfnfjbpaaFlow
import Derived.Test.YtpcjekgfnfjbpaaKit
import Derived.Test.YtpcjekgfnfjbpaaRows
import Derived.Test.YtpcjekgfnfjbpaaTxt
import Derived.WalkKit
import Derived.WalkLawsBesides
import Derived.WalkSmall
import Derived.WalkSpells
set_option linter.unusedVariables false
set_option linter.unusedSimpArgs false
namespace Go.Bas
def flat (lens:Nat→Nat) (g:Nat→Nat→Int):Nat→Nat→Int
 | 0,_=> 0
 | m+1,i=> if offs lens m≤i then g m (i - offs lens m) else flat lens g m i
theorem flat_at {lens:Nat→Nat} {g:Nat→Nat→Int} {m j i:Nat} (hj:j<m) (hi:i<lens j):flat lens g m (offs lens j+i)=g j i:=by
 induction m with
 | zero=> omega
 | succ m ih=>
  unfold flat
  by_cases e:j=m
  ·subst e;rw [if_pos (by omega),Nat.add_sub_cancel_left]
  ·have h1:offs lens (j+1)≤offs lens m:=offs_mono lens (by omega)
   rw [offs] at h1
   rw [if_neg (by omega),ih (by omega)]
theorem flat_ind {lens:Nat→Nat} {g:Nat→Nat→Int} {p:Int→Prop} {m:Nat} (h:∀j,j<m→∀i,i<lens j→p (g j i)):∀i,i<offs lens m→p (flat lens g m i):=by
 induction m with
 | zero=> intro i hi;simp [offs] at hi
 | succ m ih=>
  intro i hi
  rw [offs] at hi
  unfold flat
  by_cases e:offs lens m≤i
  ·rw [if_pos e];exact h m (by omega) _ (by omega)
  ·rw [if_neg e];exact ih (fun j hj=> h j (by omega)) i (by omega)
theorem flat_congr {lens:Nat→Nat} {g g':Nat→Nat→Int} {m:Nat} (h:∀j,j<m→∀i,i<lens j→g j i=g' j i):∀i,i<offs lens m→flat lens g m i=flat lens g' m i:=by
 induction m with
 | zero=> intro i hi;simp [offs] at hi
 | succ m ih=>
  intro i hi
  rw [offs] at hi
  unfold flat
  by_cases e:offs lens m≤i
  ·rw [if_pos e,if_pos e];exact h m (by omega) _ (by omega)
  ·rw [if_neg e,if_neg e];exact ih (fun j hj=> h j (by omega)) i (by omega)
theorem blockN_congr {F G:Nat→Int} {N:Nat} (h:∀i,i<N→F i=G i) (j:Nat):blockN F N j=blockN G N j:=by
 unfold blockN
 rw [sm_congr fun i hi=> h _ (by omega)]
theorem accN_congr {F G:Nat→Int} {N:Nat} (h:∀i,i<N→F i=G i) (r:Int) (j:Nat):accN r F N j=accN r G N j:=by
 induction j with
 | zero=> rfl
 | succ j ih=> rw [accN,accN,ih,blockN_congr h]
def gp (n:Nat):Nat:=(16 - n % 16) % 16
def lens6 (nb nh:Nat):Nat→Nat:=fun j=> if j=0 then nb else if j=1 then gp nb else if j=2 then nh else if j=3 then gp nh else 8
def num8 (n:Nat) (i:Nat):Int:=(n:Int) / 2 ^ (8 * i) % 256
def text6 (nb:Nat) (fb:Nat→Int) (nh:Nat) (fh:Nat→Int):Nat→Nat→Int:=fun j=> if j=0 then fb else if j=2 then fh else if j=4 then num8 nb else if j=5 then num8 nh else fun _=> 0
theorem num8_bound (n i:Nat):0≤num8 n i∧num8 n i<256:=by unfold num8;omega
def macF (nb:Nat) (fb:Nat→Int) (nh:Nat) (fh:Nat→Int):Nat→Int:=flat (lens6 nb nh) (text6 nb fb nh fh) 6
def macN (nb nh:Nat):Nat:=offs (lens6 nb nh) 6
theorem macN_eq (nb nh:Nat):macN nb nh=nb+gp nb+nh+gp nh+16:=by
 simp [macN,offs,lens6]
theorem gp_lt (n:Nat):gp n<16:=Nat.mod_lt _ (by decide)
theorem text6_bound {nb nh:Nat} {fb fh:Nat→Int} (hb:∀i,i<nb→0≤fb i∧fb i<256) (hh:∀i,i<nh→0≤fh i∧fh i<256):∀j,j<6→∀i,i<lens6 nb nh j→0≤text6 nb fb nh fh j i∧text6 nb fb nh fh j i<256:=by
 intro j hj i hi
 rcases (by omega:j=0∨j=1∨j=2∨j=3∨j=4∨j=5) with rfl | rfl | rfl | rfl | rfl | rfl
 ·exact hb i (by simpa [lens6] using hi)
 ·simp [text6]
 ·exact hh i (by simpa [lens6] using hi)
 ·simp [text6]
 ·exact num8_bound _ _
 ·exact num8_bound _ _
theorem macF_bound {nb nh:Nat} {fb fh:Nat→Int} (hb:∀i,i<nb→0≤fb i∧fb i<256) (hh:∀i,i<nh→0≤fh i∧fh i<256):∀i,i<macN nb nh→0≤macF nb fb nh fh i∧macF nb fb nh fh i<256:=
 flat_ind (p:=fun x=> 0≤x∧x<256) (text6_bound hb hh)
theorem macF_congr {nb nh:Nat} {fb fb' fh fh':Nat→Int} (hb:∀i,i<nb→fb i=fb' i) (hh:∀i,i<nh→fh i=fh' i):∀i,i<macN nb nh→macF nb fb nh fh i=macF nb fb' nh fh' i:=by
 refine flat_congr fun j hj i hi=> ?_
 rcases (by omega:j=0∨j=1∨j=2∨j=3∨j=4∨j=5) with rfl | rfl | rfl | rfl | rfl | rfl
 ·exact hb i (by simpa [lens6] using hi)
 ·rfl
 ·exact hh i (by simpa [lens6] using hi)
 ·rfl
 ·rfl
 ·rfl
end Go.Bas
