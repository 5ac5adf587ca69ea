/- Part 47 of SuiteBytes; conditions: in each theorem. -/
import Derived.Test.YtpcjekgfnfjbpaaGreatPkSuiteBytes17
import Derived.Test.YtpcjekgfnfjbpaaGreatPkSuiteBytes6
import Derived.Test.YtpcjekgfnfjbpaaGreatPkSuiteBytes35
import Derived.Test.YtpcjekgfnfjbpaaGreatPkSuiteBytes24
import Derived.Test.YtpcjekgfnfjbpaaGreatPkSuiteBytes26
import Derived.Deep.Cut
import Derived.Laws.BitsAllLaws
import Derived.LoopIn
import Derived.LoopNIn
import Derived.RangeFuncBound
import Derived.RangeFuncBox
import Derived.RangeFuncFrom
import Derived.RangeFuncLeaves
import Derived.RangeFuncNested
import Derived.Shelf.Abstract
import Derived.Shelf.RegionOpen
import Derived.StillTailTactics
import Derived.TacticsInMore
set_option linter.unusedVariables false
set_option linter.unusedSimpArgs false
set_option maxHeartbeats 400000
namespace Go.bC
open Go.RowKit
theorem FL (a b:Nat):a ^^^ b=0 ↔ a=b:=by
 constructor
 ·intro h;have h2:(a ^^^ b) ^^^ b=0 ^^^ b:=by rw[h]
  rw[Nat.xor_assoc,Nat.xor_self,Nat.xor_zero,Nat.zero_xor] at h2;exact h2
 ·rintro rfl;exact Nat.xor_self _
theorem abM {x a b:Int} (x0:0<=x/\x<256) (a0:0<=a/\a<256) (b0:0<=b/\b<256):(0<=bits .or .u8 x (bits .xor .u8 a b)/\bits .or .u8 x (bits .xor .u8 a b)<256)/\(bits .or .u8 x (bits .xor .u8 a b)=0 ↔ x=0/\a=b):=by
 have h1:(a.toNat ^^^ b.toNat)<256:=Nat.xor_lt_two_pow (n:=8) aH aH;have h2:(x.toNat ||| (a.toNat ^^^ b.toNat))<256:=Nat.or_lt_two_pow (n:=8) aH h1;rw[u8_xor a b a0.1 a0.2 b0.1 b0.2,u8_or x _ x0.1 x0.2 aH aH,Ct];refine⟨by omega,?_⟩;have h3:(x.toNat ||| (a.toNat ^^^ b.toNat))=0 ↔ x.toNat=0/\a.toNat=b.toNat:=by
  rw[Nat.or_eq_zero_iff,FL]
 omega
def yU (n:Nat) (f:Nat->Int) (m:Nat) (g:Nat->Int):Bool:=decide (n=m) && lX n f g
end Go.bC
namespace Go.Proofs.YtpcjekgfnfjbpaaGreat
open Go.RowKit Go.bC
attribute [local go_sem ↓] Go.wp_at_zero Go.wp_at_succ
theorem NI (va vb:Value) (n m:Nat) (f g:Nat->Int) (w:World) (ha:Rd .u8 w va n f) (hb:Rd .u8 w vb m g) (h:n≠m):
  Calls Tryz.prog 105 #[va,vb] w fun e w'=>e=.returned (.bool false)/\Below w.heap.size w w':=by
 obtain⟨a1,c1,rfl,l1,m1,z1,h1⟩:=ha;obtain⟨a2,c2,rfl,l2,m2,z2,h2⟩:=hb;clear h1 h2 z1 z2
 go_enter Tryz.func105,Tryz.ntmps105
 go_wp2;go_ret;exact⟨rfl,bT _ _⟩
theorem Tx {a b:Bool} (h:a=b):Ending.returned (.bool a)=.returned (.bool b):=by rw[h]
theorem NJ (va vb:Value) (n:Nat) (f g:Nat->Int) (w:World) (ha:Rd .u8 w va n f) (hb:Rd .u8 w vb n g) (hf:∀i,i<n->0<=f i/\f i<256) (hg:∀i,i<n->0<=g i/\g i<256):
  Calls Tryz.prog 105 #[va,vb] w fun e w'=>e=.returned (.bool (lX n f g))/\Below w.heap.size w w':=by
 obtain⟨a1,c1,rfl,l1,m1,z1,h1⟩:=ha;obtain⟨a2,c2,rfl,l2,m2,z2,h2⟩:=hb;have H1:=ak h1;have H2:=ak h2;have HF:=ak hf;have HG:=ak hg;clear h1 h2 z1 z2 hf hg
 go_enter Tryz.func105,Tryz.ntmps105
 go_wp2
 go_loopw [5,14] (fun d i wr=> ∃(k:Nat) (x:Int),k<=n/\i=.int .i64 k/\d=.int .u8 x/\(0<=x/\x<256)/\(x=0 ↔ ∀j,j<k->f j=g j)/\Below w.heap.size w wr) (fun _ i _=>n - (intOf i).toNat)
 case atStart=>exact⟨0,0,gX _,rfl,rfl,by decide,by simp,bT _ _⟩
 case round=>
  obtain⟨k,x,hk,rfl,rfl,hx,hiff,hnx⟩:=hrel;have HX:=ak hiff;clear hiff;by_cases hlt:k<n
  ·obtain⟨b1,o1,rfl,s1,e1⟩:=H1.out aH;obtain⟨b2,o2,rfl,s2,e2⟩:=H2.out aH;replace e1:=(hnx.cell s1).trans (e1 k hlt);replace e2:=(hnx.cell s2).trans (e2 k hlt);have HO:=ak (abM hx (HF.out k hlt) (HG.out k hlt));go_wp2
   go_quiet (fail)
   go_wp2;go_roundw
   case rel=>
    refine⟨k+1,_,by omega,by go_num,rfl,HO.out.1,?_,below_drewN hnx _⟩;rw[HO.out.2,HX.out]
    constructor
    ·rintro⟨q1,q2⟩ j hj;by_cases e:j=k
     ·rw[e];exact q2
     ·exact q1 j aH
    ·exact fun q=>⟨fun j hj=>q j aH,q k aH⟩
   case measure=>simp[intOf] <;> omega
  ·obtain rfl:k=n:=by omega
   by_cases hx0:x=0
   ·subst hx0;have HS:Hid (true=lX k f g):=by unfold Hid;exact(Ey (HX.out.1 rfl)).symm
    go_wp2;go_ret;exact⟨Tx HS.out,hnx⟩
   ·have hxb:(x==0)=false:=by simpa using hx0
    have HS:Hid (false=lX k f g):=by unfold Hid;exact(pU (fun q=>hx0 (HX.out.2 q))).symm
    clear hx0;go_wp2;go_ret;exact⟨Tx HS.out,hnx⟩
theorem abD (va vb:Value) (n m:Nat) (f g:Nat->Int) (w:World) (ha:Rd .u8 w va n f) (hb:Rd .u8 w vb m g):
  Calls Tryz.prog 19 #[va,vb] w fun e w'=>e=.returned (.bool (yU n f m g))/\Below w.heap.size w w':=by
 unfold yU;by_cases h:n=m
 ·subst h;rw[decide_eq_true rfl,Bool.true_and];by_cases hq:∀i,i<n->f i=g i
  ·rw[Ey hq];exact jC va vb n f g w ha hb hq
  ·rw[pU hq];obtain⟨j,hj⟩:=Classical.not_forall.1 hq;obtain⟨h1,h2⟩:=Classical.not_imp.1 hj;exact XU va vb n f g w ha hb j h1 h2
 ·rw[decide_eq_false h,Bool.false_and];exact Tn va vb n m f g w ha hb h
theorem WO (va vb:Value) (n m:Nat) (f g:Nat->Int) (w:World) (ha:Rd .u8 w va n f) (hb:Rd .u8 w vb m g) (hf:∀i,i<n->0<=f i/\f i<256) (hg:∀i,i<m->0<=g i/\g i<256):
  Calls Tryz.prog 105 #[va,vb] w fun e w'=>e=.returned (.bool (yU n f m g))/\Below w.heap.size w w':=by
 unfold yU;by_cases h:n=m
 ·subst h;rw[decide_eq_true rfl,Bool.true_and];exact NJ va vb n f g w ha hb hf hg
 ·rw[decide_eq_false h,Bool.false_and];exact NI va vb n m f g w ha hb h
end Go.Proofs.YtpcjekgfnfjbpaaGreat
