/-
  Part 19 of the texts that the proof of BoxUnwraps rests on, one after the other. Conditions: named in each theorem.
-/
import Derived.Test.YtdhejcaapdhhfaaGreatPkBoxUnwraps14
import Derived.Test.YtdhejcaapdhhfaaGreatPkBoxUnwraps12
import Derived.Test.YtdhejcaapdhhfaaGreatPkBoxUnwraps3
import Derived.Test.YtdhejcaapdhhfaaGreatPkBoxUnwraps10
import Derived.Test.YtdhejcaapdhhfaaGreatPkBoxUnwraps4
import Derived.Test.YtdhejcaapdhhfaaGreatPkBoxUnwraps7
import Derived.Test.YtdhejcaapdhhfaaGreatPkBoxUnwraps2
import Derived.Test.YtdhejcaapdhhfaaGreatPkBoxUnwraps13
import Derived.Test.YtdhejcaapdhhfaaGreatPkBoxUnwraps5
import Derived.BigFrame
import Derived.BigQuiet
import Derived.ChangeKeysEq
import Derived.Deep.Cut
import Derived.Deep.DrawnRows
import Derived.Deep.QuietTactic
import Derived.Deep.RegionHeld3
import Derived.Deep.RegionLaw
import Derived.Deep.WholeRow
import Derived.Laws.BitsAllLaws
import Derived.Laws.CopyOwn
import Derived.Laws.StructEq
import Derived.Lib.Hide
import Derived.Maps.AppendAt
import Derived.Maps.Range
import Derived.Orders
import Derived.RangeFuncBox
import Derived.Test.YtdhejcaapdhhfaaGreatArr
import Derived.Test.YtdhejcaapdhhfaaGreatFlow
import Derived.Test.YtdhejcaapdhhfaaGreatKit
import Derived.Test.YtdhejcaapdhhfaaGreatRows
import Derived.WalkKit
import Derived.WalkLawsBesides
import Derived.WalkSmall
import Derived.WalkSpells
set_option linter.unusedVariables false
set_option linter.unusedSimpArgs false
set_option maxRecDepth 100000
set_option maxHeartbeats 3200000
namespace Go.Bas
open Go.RowKit
theorem scale_at {i:Nat} (h:i<8):(72057594037927936:Int) / 256 ^ i=2 ^ (8 * (7 - i)):=by
 have key:∀i:Fin 8,(72057594037927936:Int) / 256 ^ i.val=2 ^ (8 * (7 - i.val)):=by decide
 exact key ⟨i,h⟩
theorem scale_next (i:Nat):(72057594037927936:Int) / 256 ^ i / 256=72057594037927936 / 256 ^ (i+1):=by
 rw [Int.ediv_ediv_of_nonneg (Int.le_of_lt (Int.pow_pos (by decide))),Int.pow_succ]
theorem Own.newEq {k:IntKind} {e:TypeId} {base:Nat} {w:World} {cs:Array Value} {n:Nat} {f:Nat→Int} (hb:base≤w.heap.size) (hn:n≤9223372036854775807) (h:cs=arr k n f):Own k e base (w.alloc (.cells cs e)) (.slice (some ⟨w.heap.size,0,none⟩) n n) n f:=by
 subst h
 exact Own.new k e w _ n f hb hn (by simp) fun i hi=> arr_get hi
end Go.Bas
namespace Go.Proofs.YtdhejcaapdhhfaaGreat
open Go.RowKit Go.Bas
attribute [local go_sem ↓] Go.wp_at_zero Go.wp_at_succ
theorem told_any (w:World):Calls Tryz.prog 120 #[] w fun e w'=> ∃v,e=.returned v∧Go.Bas.Own .u64 96 w.heap.size w' v 80 kK∧Below w.heap.size w w':=by
 go_enter Tryz.func120,Tryz.ntmps120
 go_wp2
 go_ret
 exact ⟨_,rfl,Go.Bas.Own.newEq (Nat.le_refl _) (by decide) (by kernel_rfl),(Below.refl _ _).alloc (Nat.le_refl _) _⟩
theorem rBegin_any (w:World):Calls Tryz.prog 122 #[] w fun e w'=> ∃v,e=.returned v∧Go.Bas.Own .u64 96 w.heap.size w' v 8 kB∧Below w.heap.size w w':=by
 go_enter Tryz.func122,Tryz.ntmps122
 go_wp2
 go_ret
 exact ⟨_,rfl,Go.Bas.Own.newEq (Nat.le_refl _) (by decide) (by kernel_rfl),(Below.refl _ _).alloc (Nat.le_refl _) _⟩
theorem rPad_any (n:Nat) (hn:n≤1099511627776) (w:World):
  Calls Tryz.prog 121 #[.int .i64 n] w fun e w'=> ∃v,e=.returned v∧Go.Bas.Own .u8 5 w.heap.size w' v (padN n) (padF n)∧Below w.heap.size w w':=by
 obtain ⟨Z,hZ⟩:∃Z,Z=padZ n:=⟨_,rfl⟩
 have hzl:Z<128:=by rw [hZ];exact Nat.mod_lt _ (by decide)
 have HZ:Hid ((n+Z+1) % 128=112∧∀m,1≤m→m<Z+1→(n+m) % 128≠112):=by
  rw [hZ];unfold Hid padZ;exact ⟨by omega,fun m h1 h2=> by omega⟩
 have HN:Hid (padN n=Z+9+8):=by rw [hZ];exact rfl
 have HM:Hid (∀i,0<i→i<Z+9→padF n i=0):=by rw [hZ];exact fun i h0 h=> padF_mid h0 h
 have HE:Hid (∀i,i<8→padF n (Z+9+i)=by64 (fun _=> 8 * (n:Int)) i):=by rw [hZ];exact fun i h=> padF_end h
 obtain ⟨F,hF⟩:∃F,F=padF n:=⟨_,rfl⟩
 have HF0:Hid (F 0=128):=by rw [hF];exact rfl
 rw [←hF] at HM HE ⊢
 clear hZ hF
 go_enter Tryz.func121,Tryz.ntmps121
 go_wp2
 go_loopw [3] (fun v wr=> ∃m:Nat,1≤m∧m≤Z+1∧Go.Bas.Own .u8 5 w.heap.size wr v m F∧Below w.heap.size w wr) (fun v _=> Z+1 - lenS v)
 case atStart=> exact ⟨1,Nat.le_refl _,by omega,Go.Bas.Own.new .u8 _ w _ 1 F (Nat.le_refl _) (by decide) rfl (fun i hi=> one0 hi (by rw [show i=0 by omega,HF0.out])),(Below.refl _ _).alloc (Nat.le_refl _) _⟩
 case round=>
  obtain ⟨m,hm1,hm2,ho,hbel⟩:=hrel
  have hsl:=hbel.size
  obtain ⟨la,lc,rfl,c1,c2,_,_⟩:=ho.rd
  have ht0:Int.tmod ((n:Int)+(m:Int)) 128=((n:Int)+(m:Int)) % 128:=Int.tmod_eq_emod_of_nonneg (by omega)
  have HO:=Lib.hid ho
  clear ho
  by_cases hlt:m<Z+1
  ·have hmod:(((n:Int)+(m:Int)) % 128 !=112)=true:=by
    have:=HZ.out.2 m hm1 hlt
    simp;omega
   go_wp2_with (at_builtin;refine append_new2 rfl _ _ 23 rfl w.heap.size 5 .u8 1 Tryz.underlying23 Tryz.info5 _ m F _ _ rfl HO.out rfl 1 rfl rfl ?_ (by omega) (by omega) (by omega) ?_;rotate_right;intro v' w6 hown hgrow hpl)
   ·go_roundw
    case rel=> exact ⟨m+1,by omega,by omega,hown,below_grown (hbel.alloc hsl _) hgrow HO.out (by simp;omega) (Nat.le_refl _)⟩
    case measure=> obtain ⟨g',c',rfl⟩:=ownsRow_succ hown;show Z+1 - (m+1)<Z+1 - m;omega
   ·intro i hi
    exact one0 hi (by rw [show m+i=m by omega,HM.out m (by omega) (by omega)])
  ·obtain rfl:m=Z+1:=by omega
   have hmod:(((n:Int)+((Z+1:Nat):Int)) % 128 !=112)=false:=by
    have:=HZ.out.1
    simp;omega
   have hmod':(((n:Int)+((Z:Int)+1)) % 128 !=112)=false:=by
    have:=HZ.out.1
    simp;omega
   have ht0':Int.tmod ((n:Int)+((Z:Int)+1)) 128=((n:Int)+((Z:Int)+1)) % 128:=Int.tmod_eq_emod_of_nonneg (by omega)
   go_wp2
   go_loopw [3,4] (fun v i wr=> ∃k:Nat,k≤8∧i=.int .i64 k∧Go.Bas.Own .u8 5 w.heap.size wr v (Z+1+k) F∧Below w.heap.size w wr) (fun _ i _=> 8 - (intOf i).toNat)
   case atStart=> exact ⟨0,Nat.zero_le _,rfl,HO.out,hbel⟩
   case round=>
    clear HO hbel hsl
    obtain ⟨k,hk,rfl,ho,hbel⟩:=hrel
    have hsl:=hbel.size
    have HO:=Lib.hid ho
    clear ho
    by_cases hlt:k<8
    ·go_wp2_with (at_builtin;refine append_new2 rfl _ _ 23 rfl w.heap.size 5 .u8 1 Tryz.underlying23 Tryz.info5 _ (Z+1+k) F _ _ rfl HO.out rfl 1 rfl rfl ?_ (by omega) (by omega) (by omega) ?_;rotate_right;intro v' w6 hown hgrow hpl)
     ·go_roundw
      case rel=> exact ⟨k+1,by omega,by go_num,hown,below_grown (hbel.alloc hsl _) hgrow HO.out (by simp;omega) (Nat.le_refl _)⟩
      case measure=> simp [intOf] <;> omega
     ·intro i hi
      exact one0 hi (by rw [show Z+1+k+i=Z+1+k by omega,HM.out _ (by omega) (by omega)])
    ·obtain rfl:k=8:=by omega
     go_wp2
     obtain ⟨M,hM⟩:∃M,M=(n:Int) * 8:=⟨_,rfl⟩
     rw [←hM]
     have m0:0≤M∧M≤8796093022208:=by omega
     have HMM:=Lib.hid hM
     obtain ⟨m0,m1⟩:=m0
     have HO2:Hid (Go.Bas.Own .u8 5 w.heap.size wr u3 (Z+9+0) F):=by unfold Hid;rw [show Z+9+0=Z+1+8 by omega];exact HO.out
     clear hM HO
     go_loopw [3,5,7] (fun v s i wr=> ∃(k:Nat) (p:Int),k≤8∧i=.int .i64 k∧s=.int .u64 p∧Hid (p=72057594037927936 / 256 ^ k)∧0≤p∧p≤72057594037927936∧Go.Bas.Own .u8 5 w.heap.size wr v (Z+9+k) F∧Below w.heap.size w wr) (fun _ _ i _=> 8 - (intOf i).toNat)
     case atStart=> exact ⟨0,_,Nat.zero_le _,rfl,rfl,by unfold Hid;rfl,by decide,by decide,HO2.out,hbel⟩
     case round=>
      clear HO2 hbel hsl
      obtain ⟨k,p,hk,rfl,rfl,hp,p0,p1,ho,hbel⟩:=hrel
      have hsl:=hbel.size
      have HO:=Lib.hid ho
      clear ho
      by_cases hlt:k<8
      ·have hp2:Hid (p=2 ^ (8 * (7 - k))):=by unfold Hid;rw [hp.out,scale_at hlt]
       have pp:0<p:=by rw [hp2.out];exact Int.pow_pos (by decide)
       obtain ⟨q,hq⟩:∃q,q=M / p:=⟨_,rfl⟩
       have hqt:M.tdiv p=q:=by rw [Int.tdiv_eq_ediv_of_nonneg m0,hq]
       have hqd:M / p=q:=hq.symm
       have q0:0≤q:=by rw [hq];exact Int.ediv_nonneg m0 p0
       have q1:q≤M:=by rw [hq];exact Int.ediv_le_self _ m0
       have hpt:p.tdiv 256=p / 256:=Int.tdiv_eq_ediv_of_nonneg p0
       have HFK:Hid (q % 256=F (Z+9+k)):=by
        unfold Hid
        rw [HE.out k hlt,hq,hp2.out,HMM.out]
        unfold by64
        rw [Nat.mod_eq_of_lt hlt,Int.mul_comm]
       have HPN:Hid (p / 256=72057594037927936 / 256 ^ (k+1)):=by unfold Hid;rw [hp.out,scale_next]
       clear hq
       go_wp2_with (at_builtin;refine append_new2 rfl _ _ 23 rfl w.heap.size 5 .u8 1 Tryz.underlying23 Tryz.info5 _ (Z+9+k) F _ _ rfl HO.out rfl 1 rfl rfl ?_ (by omega) (by omega) (by omega) ?_;rotate_right;intro v' w6 hown hgrow hpl)
       ·go_roundw
        case rel=>
         (repeat apply Exists.intro)
         refine ⟨?_,rfl⟩
         exact ⟨k+1,_,by omega,by go_num,rfl,HPN,by omega,by omega,hown,below_grown (hbel.alloc hsl _) hgrow HO.out (by simp;omega) (Nat.le_refl _)⟩
        case measure=> simp [intOf] <;> omega
       ·intro i hi
        exact one0 hi (by rw [show Z+9+k+i=Z+9+k by omega];exact HFK.out)
      ·obtain rfl:k=8:=by omega
       go_wp2
       go_ret
       exact ⟨_,rfl,by rw [HN.out];exact HO.out,hbel⟩
end Go.Proofs.YtdhejcaapdhhfaaGreat
