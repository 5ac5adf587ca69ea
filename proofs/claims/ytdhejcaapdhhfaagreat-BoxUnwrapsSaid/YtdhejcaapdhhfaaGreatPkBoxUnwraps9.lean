/-
  Part 9 of the texts that the proof of BoxUnwraps rests on, one after the other. Conditions: named in each theorem.
-/
import Derived.Test.YtdhejcaapdhhfaaGreatPkBoxUnwraps8
import Derived.Test.YtdhejcaapdhhfaaGreatPkBoxUnwraps3
import Derived.Test.YtdhejcaapdhhfaaGreatPkBoxUnwraps2
import Derived.Test.YtdhejcaapdhhfaaGreatPkBoxUnwraps5
import Derived.Test.YtdhejcaapdhhfaaGreatPkBoxUnwraps4
import Derived.BigFrame
import Derived.BigQuiet
import Derived.ChangeKeysEq
import Derived.Deep.Cut
import Derived.Deep.DrawnRows
import Derived.Deep.LoopGhost
import Derived.Deep.QuietTactic
import Derived.Deep.RegionHeld3
import Derived.Deep.RegionLaw
import Derived.Deep.WholeRow
import Derived.Laws.CopyOwn
import Derived.Laws.StructEq
import Derived.Lib.Hide
import Derived.Maps.AppendAt
import Derived.Maps.Range
import Derived.Orders
import Derived.Test.YtdhejcaapdhhfaaGreatArr
import Derived.Test.YtdhejcaapdhhfaaGreatFlow
import Derived.Test.YtdhejcaapdhhfaaGreatKit
import Derived.Test.YtdhejcaapdhhfaaGreatRows
import Derived.WalkKit
import Derived.WalkLawsBesides
import Derived.WalkSmall
import Derived.WalkSpells
set_option linter.unusedVariables false
set_option linter.unusedSimpArgs false
set_option maxRecDepth 100000
set_option maxHeartbeats 6400000
namespace Go.Proofs.YtdhejcaapdhhfaaGreat
open Go.RowKit Go.Bas
attribute [local go_sem ↓] Go.wp_at_zero Go.wp_at_succ
theorem p_digits:∀i,i<16→upd (upd (fun _=> 65535) 0 65517) 15 32767 i=dg 65536 Pr i:=by
 have key:∀i:Fin 16,upd (upd (fun _=> 65535) 0 65517) 15 32767 i.val=dg 65536 Pr i.val:=by decide
 exact fun i h=> key ⟨i,h⟩
theorem rP_any (w:World):
  Calls Tryz.prog 99 #[] w fun e w'=>
   ∃v,e=.returned v∧Own .i64 3 w.heap.size w' v 16 (dg 65536 Pr)∧Below w.heap.size w w':=by
 go_enter Tryz.func99,Tryz.ntmps99
 go_wp2
 go_loopw [1,2] (fun v i wr=> ∃j:Nat,j≤16∧i=.int .i64 j∧Own .i64 3 w.heap.size wr v j (fun _=> 65535)∧Below w.heap.size w wr) (fun _ i _=> 16 - (intOf i).toNat)
 case atStart=> exact ⟨0,Nat.zero_le _,rfl,Own.nil _ _ _ _ _,Below.refl _ _⟩
 case round=>
  obtain ⟨j,hj,rfl,ho,hbel⟩:=hrel
  have HO:=Lib.hid ho
  have hsz:=hbel.size
  clear ho
  by_cases hlt:j<16
  ·go_wp2_with (at_builtin;refine append_new rfl _ _ 64 rfl w.heap.size 3 .i64 8 Tryz.underlying64 Tryz.info3 _ j (fun _=> 65535) _ _ rfl HO.out rfl 1 rfl rfl ?_ (by omega) (by omega) hsz ?_;rotate_right;intro v' w1 hown hgrow)
   ·go_roundw
    case rel=> exact ⟨j+1,by omega,by go_num,hown,below_grown (hbel.alloc hsz _) hgrow HO.out (by simp;omega) (Nat.le_refl _)⟩
    case measure=> simp [intOf] <;> omega
   ·intro i hi;exact one0 hi rfl
  ·obtain rfl:j=16:=by omega
   obtain ⟨g,c,rfl,hg0,hgl,hc16,hcc,hcell,hfree⟩:=HO.out.form (by decide)
   have e0:=hcell 0 (by decide)
   have e15:=hcell 15 (by decide)
   have f0:=hfree 0
   have f15:=hfree 15
   clear hcell hfree
   go_wp2
   go_ret
   exact ⟨_,rfl,((HO.out.store 0 _).store 15 _).congr p_digits,(hbel.setCell hg0 _).setCell hg0 _⟩
theorem small_digits {n:Int} (h0:0≤n) (h1:n<65536):∀i,i<16→upd (fun _=> 0) 0 n i=dg 65536 n i:=by
 intro i _
 by_cases e:i=0
 ·subst e;rw [upd_at,dg_zero];omega
 ·rw [upd_ne _ _ e,dg_small ⟨h0,Int.lt_of_lt_of_le h1 (pow_mono 65536 (by decide) 1 i (by omega))⟩]
theorem rSmall_any (n:Int) (h0:0≤n) (h1:n<65536) (w:World):
  Calls Tryz.prog 80 #[.int .i64 n] w fun e w'=>
   ∃v,e=.returned v∧Own .i64 3 w.heap.size w' v 16 (dg 65536 n)∧Below w.heap.size w w':=by
 go_enter Tryz.func80,Tryz.ntmps80
 go_upto_region 2 with (refine make_ints rfl _ _ 64 rfl w.heap.size 3 .i64 8 Tryz.underlying64 Tryz.info3 .i64 .i64 16 rfl rfl (by decide) (by decide) (Nat.le_refl _) ?_;intro w1 hown hgrow)
 have hb1:Below w.heap.size w w1:=below_grown0 (Below.refl _ _) hgrow (Nat.le_refl _)
 have hcell:=(hown.form (by decide))
 obtain ⟨g,c,he,hg0,hgl,hc16,hcc,hcell,hfree⟩:=hcell
 simp only [Value.slice.injEq,Option.some.injEq,Addr.mk.injEq] at he
 obtain ⟨⟨rfl,q1⟩,q2⟩:=he
 have e0:=hcell 0 (by decide)
 have f0:=hfree 0
 have HO:=Lib.hid hown
 clear hcell hfree q1 q2 hgrow hown
 go_wp2
 go_ret
 exact ⟨_,rfl,(HO.out.store 0 n).congr (small_digits h0 h1),hb1.setCell (Nat.le_refl _) _⟩
theorem fMod_any (v:Value) (X:Int) (n:Nat) (hn:n≤1000) (hX:0≤X∧X<65536 ^ n) (w:World) (hv:Rd .i64 w v n (dg 65536 X)):
  Calls Tryz.prog 126 #[v] w fun e w'=>
   ∃v,e=.returned v∧Own .i64 3 w.heap.size w' v 16 (dg 65536 (X % Pr))∧Below w.heap.size w w':=by
 have HV:=Lib.hid hv
 have HX:=Lib.hid hX
 clear hv hX
 go_enter Tryz.func126,Tryz.ntmps126
 go_wp2_with (at_builtin;refine append_rd rfl _ _ 64 rfl w.heap.size 3 .i64 8 Tryz.underlying64 Tryz.info3 _ 0 (dg 65536 X) (Own.nil _ _ _ _ _) rfl _ n (dg 65536 X) HV.out rfl (fun i _=> by rw [Nat.zero_add]) (by omega) (by omega) (Nat.le_refl _) ?_;intro v1 w1 hown hgrow)
 have hb1:Below w.heap.size w w1:=below_grown0 (Below.refl _ _) hgrow (Nat.le_refl _)
 rw [Nat.zero_add] at hown
 clear hgrow
 go_loopg [3] X.toNat (fun gh x wr=> ∃(m:Nat) (Y:Int),m≤1000∧0≤Y∧Y<65536 ^ m∧Y % Pr=X % Pr∧gh=Y.toNat∧Own .i64 3 w.heap.size wr x m (dg 65536 Y)∧Below w.heap.size w wr)
 case atStart=> exact ⟨n,X,hn,HX.out.1,HX.out.2,rfl,rfl,hown,hb1⟩
 case round=>
  obtain ⟨m,Y,hm,y0,y1,hY,hgh,ho,hbel⟩:=hrel
  have hsz0:=hbel.size
  have HY:=Lib.hid hY
  have HYB:=Lib.hid (show 0≤Y∧Y<65536 ^ m from ⟨y0,y1⟩)
  have HG:=Lib.hid hgh
  clear hY y0 y1 hgh hown hb1
  have HO:=Lib.hid ho
  clear ho
  go_wp2
  go_loopg [3] (17 - m) (fun g2 x wr=> ∃m:Nat,m≤1000∧g2=17 - m∧0≤Y∧Y<65536 ^ m∧Own .i64 3 w.heap.size wr x m (dg 65536 Y)∧Below w.heap.size w wr)
  case atStart=> exact ⟨m,hm,rfl,HYB.out.1,HYB.out.2,HO.out,hbel⟩
  case round=>
   clear HO HYB hbel hsz0 hm
   clear m
   obtain ⟨m,hm,hg2,y0,y1,ho,hbel⟩:=hrel
   have HYB:=Lib.hid (show 0≤Y∧Y<65536 ^ m from ⟨y0,y1⟩)
   have HG2:=Lib.hid hg2
   have HO:=Lib.hid ho
   have hsz:=hbel.size
   clear y0 y1 hg2 ho
   by_cases hlt:m<17
   ·obtain ⟨ax,cx,rfl,lx,mx,zx,hx⟩:=HO.out.rd
    clear zx hx
    go_wp2_with (at_builtin;refine append_new rfl _ _ 64 rfl w.heap.size 3 .i64 8 Tryz.underlying64 Tryz.info3 _ m (dg 65536 Y) _ _ rfl HO.out rfl 1 rfl rfl ?_ (by omega) (by omega) hsz ?_;rotate_right;intro v' w1 hown hgrow)
    ·go_roundg (17 - (m+1))
     case rel=> exact ⟨m+1,by omega,rfl,HYB.out.1,Int.lt_of_lt_of_le HYB.out.2 (pow_mono 65536 (by decide) _ _ (by omega)),hown,below_grown (hbel.alloc hsz _) hgrow HO.out (by simp;omega) (Nat.le_refl _)⟩
     case measure=> have:=HG2.out;omega
    ·intro i hi
     exact one0 hi (by rw [show m+i=m by omega,dg_small HYB.out])
   ·obtain ⟨ax,cx,rfl,lx,mx,zx,hx⟩:=HO.out.rd
    obtain ⟨bx,ox,rfl,lbx,hcx⟩:=hx (by omega)
    have HCX:=Lib.hid hcx
    clear zx hx hcx
    have hm17:17≤m:=by omega
    obtain ⟨wa,rfl⟩:∃wa:World,wa=wr:=⟨_,rfl⟩
    obtain ⟨H,hH⟩:∃H,H=Y / 2 ^ 255:=⟨_,rfl⟩
    have HHB:=Lib.hid (hi_bound HYB.out hm17)
    rw [←hH] at HHB
    have HHE:=Lib.hid hH
    clear hH HO
    go_wp2
    go_loopw [4,5] (fun h i wr=> ∃j:Nat,15+j≤m∧i=.int .i64 (15+j:Nat)∧Own .i64 3 wa.heap.size wr h j (dg 65536 H)∧Below wa.heap.size wa wr) (fun _ i _=> m - (intOf i).toNat)
    case atStart=> exact ⟨0,by omega,rfl,Own.nil _ _ _ _ _,Below.refl _ _⟩
    case round=>
     obtain ⟨j,hj,rfl,ho,hb⟩:=hrel
     have HO:=Lib.hid ho
     have hsz2:=hb.size
     clear ho
     by_cases hlt2:15+j<m
     ·have c1:=(hb.cell (p:=⟨bx,ox+(15+j),none⟩) lbx).trans (HCX.out (15+j) hlt2)
      obtain ⟨x0,x1⟩:=dg_bound (by decide:(0:Int)<65536) Y (15+j)
      obtain ⟨y0,y1⟩:=dg_bound (by decide:(0:Int)<65536) Y (16+j)
      have hd:=hi_digit Y j
      rw [←HHE.out] at hd
      have HD:=Lib.hid hd
      clear hd
      by_cases hlt3:16+j<m
      ·have c2:wr.cell? ⟨bx,ox+(15+j+1),none⟩=some (.int .i64 (dg 65536 Y (16+j))):=by
        rw [show 16+j=15+j+1 by omega]
        exact (hb.cell (p:=⟨bx,ox+(15+j+1),none⟩) lbx).trans (HCX.out (15+j+1) (by omega))
       go_wp2_with (at_builtin;refine append_new rfl _ _ 64 rfl wa.heap.size 3 .i64 8 Tryz.underlying64 Tryz.info3 _ j (dg 65536 H) _ _ rfl HO.out rfl 1 rfl rfl ?_ (by omega) (by omega) hsz2 ?_;rotate_right;intro v' w1 hown hgrow)
       ·go_roundw
        case rel=> exact ⟨j+1,by omega,by go_num,hown,below_grown (hb.alloc hsz2 _) hgrow HO.out (by simp;omega) (Nat.le_refl _)⟩
        case measure=> simp [intOf] <;> omega
       ·intro i hi
        exact one0 hi (by rw [show j+i=j by omega];exact HD.out)
      ·have hz:Hid (dg 65536 Y (16+j)=0):=dg_small ⟨HYB.out.1,Int.lt_of_lt_of_le HYB.out.2 (pow_mono 65536 (by decide) _ _ (by omega))⟩
       go_wp2_with (at_builtin;refine append_new rfl _ _ 64 rfl wa.heap.size 3 .i64 8 Tryz.underlying64 Tryz.info3 _ j (dg 65536 H) _ _ rfl HO.out rfl 1 rfl rfl ?_ (by omega) (by omega) hsz2 ?_;rotate_right;intro v' w1 hown hgrow)
       ·go_roundw
        case rel=> exact ⟨j+1,by omega,by go_num,hown,below_grown (hb.alloc hsz2 _) hgrow HO.out (by simp;omega) (Nat.le_refl _)⟩
        case measure=> simp [intOf] <;> omega
       ·intro i hi
        exact one0 hi (by rw [show j+i=j by omega];have:=HD.out;have:=hz.out;omega)
     ·obtain rfl:m=15+j:=by omega
      obtain ⟨ah,ch,rfl,lh,mh,zh,hh⟩:=HO.out.rd
      obtain ⟨bh,oh,rfl,lbh,hch⟩:=hh (by omega)
      have HCH:=Lib.hid hch
      clear zh hh hch
      obtain ⟨wb,rfl⟩:∃wb:World,wb=wr:=⟨_,rfl⟩
      have HBA:=Lib.hid hb
      clear hb
      have hHj:0≤H∧H<65536 ^ j:=by have:=HHB.out;rwa [show 15+j - 15=j by omega] at this
      have HHJ:=Lib.hid hHj
      clear hHj
      go_wp2
      go_loop [7,8] (fun zf i=> ∃(k:Nat) (b:Bool),k≤j∧i=.int .i64 k∧zf=.bool b∧(b=true ↔ H % 65536 ^ k=0)) (fun _ i=> j - (intOf i).toNat)
      case atStart=> exact ⟨0,true,Nat.zero_le _,rfl,rfl,by simp [Int.emod_one]⟩
      case round=>
       obtain ⟨k,b,hk,rfl,rfl,hb⟩:=hrel
       have HBZ:=Lib.hid hb
       clear hb
       by_cases hlt4:k<j
       ·have c1:=HCH.out k hlt4
        obtain ⟨x0,x1⟩:=dg_bound (by decide:(0:Int)<65536) H k
        obtain ⟨d,hd⟩:∃d,d=dg 65536 H k:=⟨_,rfl⟩
        rw [←hd] at c1 x0 x1
        have HD:=Lib.hid hd
        clear hd
        by_cases hp:0<d
        ·go_wp2
         go_round
         case rel=> exact ⟨k+1,false,by omega,by go_num,rfl,by rw [hi_zero,←HD.out];simp;omega⟩
         case measure=> simp [intOf] <;> omega
        ·go_wp2
         go_round
         case rel=> exact ⟨k+1,b,by omega,by go_num,rfl,by rw [hi_zero,←HD.out,HBZ.out];simp;omega⟩
         case measure=> simp [intOf] <;> omega
       ·obtain rfl:k=j:=by omega
        obtain ⟨L,hL⟩:∃L,L=Y % 2 ^ 255:=⟨_,rfl⟩
        have HLE:=Lib.hid hL
        have hLb:=mod255 Y
        rw [←hL] at hLb
        have HLB:=Lib.hid hLb
        clear hL hLb
        go_wp2
        go_loopw [9,10] (fun h i wr=> ∃i':Nat,i'≤15∧i=.int .i64 i'∧Own .i64 3 wb.heap.size wr h i' (dg 65536 L)∧Below wb.heap.size wb wr) (fun _ i _=> 15 - (intOf i).toNat)
        case atStart=> exact ⟨0,Nat.zero_le _,rfl,Own.nil _ _ _ _ _,Below.refl _ _⟩
        case round=>
         obtain ⟨i,hi,rfl,ho,hb⟩:=hrel
         have HO:=Lib.hid ho
         have hsz3:=hb.size
         clear ho
         have hba:=HBA.out.size
         by_cases hlt5:i<15
         ·have c1:=(hb.cell (p:=⟨bx,ox+i,none⟩) (by show bx<_;omega)).trans ((HBA.out.cell (p:=⟨bx,ox+i,none⟩) lbx).trans (HCX.out i (by omega)))
          have HD:=Lib.hid (lo_digit Y hlt5)
          rw [←HLE.out] at HD
          go_wp2_with (at_builtin;refine append_new rfl _ _ 64 rfl wb.heap.size 3 .i64 8 Tryz.underlying64 Tryz.info3 _ i (dg 65536 L) _ _ rfl HO.out rfl 1 rfl rfl ?_ (by omega) (by omega) hsz3 ?_;rotate_right;intro v' w1 hown hgrow)
          ·go_roundw
           case rel=> exact ⟨i+1,by omega,by go_num,hown,below_grown (hb.alloc hsz3 _) hgrow HO.out (by simp;omega) (Nat.le_refl _)⟩
           case measure=> simp [intOf] <;> omega
          ·intro i2 hi2
           exact one0 hi2 (by rw [show i+i2=i by omega];exact HD.out)
         ·obtain rfl:i=15:=by omega
          have c1:=(hb.cell (p:=⟨bx,ox+15,none⟩) (by show bx<_;omega)).trans ((HBA.out.cell (p:=⟨bx,ox+15,none⟩) lbx).trans (HCX.out 15 (by omega)))
          obtain ⟨x0,x1⟩:=dg_bound (by decide:(0:Int)<65536) Y 15
          have HD:=Lib.hid (lo_digit15 Y)
          rw [←HLE.out] at HD
          have HB3:=Lib.hid hb
          clear hb
          go_upto_region 25 with (at_builtin;refine append_new rfl _ _ 64 rfl wb.heap.size 3 .i64 8 Tryz.underlying64 Tryz.info3 _ 15 (dg 65536 L) _ _ rfl HO.out rfl 1 rfl rfl ?_ (by omega) (by omega) hsz3 ?_;rotate_right;intro v' w1 hown hgrow)
          ·have hb5:=below_grown (HB3.out.alloc hsz3 _) hgrow HO.out (by simp;omega) (Nat.le_refl _)
           have HO5:=Lib.hid hown
           have HB5:=Lib.hid hb5
           have hsz5:=hb5.size
           clear hown hgrow hb5 HO HB3 c1
           obtain ⟨w5,rfl⟩:∃w5:World,w5=w1:=⟨_,rfl⟩
           have HBWB:=Lib.hid (hbel.trans (HBA.out.mono hsz))
           have hbw:Below w.heap.size w w5:=(hbel.trans (HBA.out.mono hsz)).trans (HB5.out.mono (Nat.le_trans hsz hba))
           have HBW:=Lib.hid hbw
           have hszw:=hbw.size
           clear hbw hbel
           cases b with
           | true=>
            have hH0:H=0:=by
             have h1:=HBZ.out.1 rfl
             rwa [Int.emod_eq_of_lt HHJ.out.1 HHJ.out.2] at h1
            have hl:=low_modP (X:=Y) (by rw [←HHE.out];exact hH0) HYB.out.1
            rw [←HLE.out] at hl
            have HL:=Lib.hid hl
            clear hl hH0
            go_wp2_with fail
            refine (rP_any _).mono ?_
            rintro e w6 ⟨p,rfl,hp,hb6⟩
            have HP:=Lib.hid hp.rd
            clear hp
            have hcon:=rAtLeast_any v' p L Pr 16 16 (Nat.le_refl _) w6 (HO5.out.rd.below hb6) HP.out HLB.out Pr16
            by_cases hge:Pr≤L
            ·rw [decide_eq_true hge] at hcon
             have hs:L - Pr=X % Pr:=by have h:=HL.out.2;rw [HY.out,←HL.out.1] at h;unfold sub1 at h;rwa [if_pos hge] at h
             have HS:=Lib.hid hs
             have HCON:=Lib.hid hcon
             have HB6:=Lib.hid hb6
             clear hs hcon hge hb6
             go_wp2_with fail
             refine HCON.out.mono ?_
             rintro e w7 ⟨rfl,hb7⟩
             have HB7:=Lib.hid hb7
             clear hb7
             go_wp2_with fail
             refine (rP_any _).mono ?_
             rintro e w8 ⟨p2,rfl,hp2,hb8⟩
             have HP2:=Lib.hid hp2.rd
             have HB8:=Lib.hid hb8
             clear hp2 hb8
             go_wp2_with fail
             refine (rLess_any v' p2 L Pr 16 16 (Nat.le_refl _) (by decide) w8 (((HO5.out.rd.below HB6.out).below HB7.out).below HB8.out) HP2.out).mono ?_
             rintro e w9 ⟨v9,rfl,ho9,hb9⟩
             have h6:=HB6.out.size
             have h7:=HB7.out.size
             have h8:=HB8.out.size
             have HO9:=Lib.hid (ho9.mono (base':=w.heap.size) (by omega))
             have HB9:=Lib.hid ((((HBW.out.trans (HB6.out.mono (by omega))).trans (HB7.out.mono (by omega))).trans (HB8.out.mono (by omega))).trans (hb9.mono (by omega)))
             clear ho9 hb9 h6 h7 h8
             go_wp2
             go_ret
             exact ⟨_,rfl,by rw [←HS.out];exact HO9.out,HB9.out⟩
            ·rw [decide_eq_false hge] at hcon
             have hs:L=X % Pr:=by have h:=HL.out.2;rw [HY.out,←HL.out.1] at h;unfold sub1 at h;rwa [if_neg hge] at h
             have HS:=Lib.hid hs
             have HCON:=Lib.hid hcon
             have HB6:=Lib.hid hb6
             clear hs hcon hge hb6
             go_wp2_with fail
             refine HCON.out.mono ?_
             rintro e w7 ⟨rfl,hb7⟩
             have HB7:=Lib.hid hb7
             clear hb7
             go_wp2
             go_ret
             have h6:=HB6.out.size
             exact ⟨_,rfl,by rw [←HS.out];exact ((HO5.out.below HB6.out).below HB7.out).mono (by omega),(HBW.out.trans (HB6.out.mono (by omega))).trans (HB7.out.mono (by omega))⟩
           | false=>
            have hH0:H≠0:=by
             intro h
             have h1:=HBZ.out.2 (by rw [h];simp)
             cases h1
            have HH0:=Lib.hid hH0
            clear hH0
            go_wp2
            go_loopg [9] (k+1 - 16) (fun g3 x wr=> ∃l:Nat,16≤l∧(l=16∨l≤k+1)∧g3=k+1 - l∧Own .i64 3 wb.heap.size wr x l (dg 65536 L)∧Below wb.heap.size wb wr)
            case atStart=> exact ⟨16,Nat.le_refl _,.inl rfl,rfl,HO5.out,HB5.out⟩
            case round=>
             clear HBW hszw HO5 HB5 hsz5
             obtain ⟨l,hl16,hlk,hg3,ho,hb⟩:=hrel
             have HG3:=Lib.hid hg3
             have HO:=Lib.hid ho
             have HLK:=Lib.hid hlk
             have hl1:l≤1000:=by omega
             have hsz5:=hb.size
             clear hg3 ho hlk
             obtain ⟨al,cl,rfl,ll,ml,zl,hhl⟩:=HO.out.rd
             obtain ⟨bl,ol,rfl,lbl,hcl⟩:=hhl (by omega)
             clear zl hhl hcl
             by_cases hlt6:l<k+1
             ·go_wp2_with (at_builtin;refine append_new rfl _ _ 64 rfl wb.heap.size 3 .i64 8 Tryz.underlying64 Tryz.info3 _ l (dg 65536 L) _ _ rfl HO.out rfl 1 rfl rfl ?_ (by omega) (by omega) hsz5 ?_;rotate_right;intro v' w1 hown hgrow)
              ·go_roundg (k+1 - (l+1))
               case rel=> exact ⟨l+1,by omega,by omega,rfl,hown,below_grown (hb.alloc hsz5 _) hgrow HO.out (by simp;omega) (Nat.le_refl _)⟩
               case measure=> have:=HG3.out;omega
              ·intro i2 hi2
               exact one0 hi2 (by rw [show l+i2=l by omega,dg_small ⟨HLB.out.1,Int.lt_of_lt_of_le HLB.out.2 (pow_mono 65536 (by decide) _ _ hl16)⟩])
             ·have hL2:0≤L∧L<65536 ^ l:=⟨HLB.out.1,Int.lt_of_lt_of_le HLB.out.2 (pow_mono 65536 (by decide) _ _ hl16)⟩
              have hH2:0≤H∧H<65536 ^ l:=⟨HHJ.out.1,Int.lt_of_lt_of_le HHJ.out.2 (pow_mono 65536 (by decide) _ _ (by omega))⟩
              have HL2:=Lib.hid hL2
              have HH2:=Lib.hid hH2
              clear hL2 hH2
              obtain ⟨gl,cl',he,hgl0,hgll,_,_,_,_⟩:=HO.out.form (by omega)
              simp only [Value.slice.injEq,Option.some.injEq,Addr.mk.injEq] at he
              obtain ⟨⟨rfl,ho0,q1⟩,q2⟩:=he
              subst ho0
              clear q1 q2 hgll
              have HB5:=Lib.hid hb
              clear hb
              go_wp2
              go_loopw [11,12] (fun c i wr=> ∃(i':Nat) (z:Int),i'≤l∧z=car19 L H i'∧0≤z∧z≤19∧c=.int .i64 z∧i=.int .i64 i'∧Own .i64 3 wb.heap.size wr (.slice (some ⟨bl,0,none⟩) l cl) l (upto i' (dg 65536 (L+19 * H)) (dg 65536 L))∧Below wb.heap.size wb wr) (fun _ i _=> l - (intOf i).toNat)
              case atStart=> exact ⟨0,0,Nat.zero_le _,(car19_zero _ _).symm,by decide,by decide,rfl,rfl,by rw [upto_zero];exact HO.out,HB5.out⟩
              case round=>
               clear HO HB5 hsz5 lbl
               obtain ⟨i,z,hi,hz,z0,z1,rfl,rfl,ho,hb⟩:=hrel
               have HZ:=Lib.hid hz
               have HO:=Lib.hid ho
               have hsz5:=hb.size
               clear hz ho
               by_cases hlt7:i<l
               ·obtain ⟨g',c',he,_,_,_,_,hcell,hfree⟩:=HO.out.form (by omega)
                simp only [Value.slice.injEq,Option.some.injEq,Addr.mk.injEq] at he
                obtain ⟨⟨rfl,q1⟩,q2⟩:=he
                have c1:=hcell i hlt7
                have f1:=hfree i
                rw [upto_at] at c1
                obtain ⟨x0,x1⟩:=dg_bound (by decide:(0:Int)<65536) L i
                obtain ⟨y0,y1⟩:=dg_bound (by decide:(0:Int)<65536) H i
                have hst:=car19_step L H i
                rw [←HZ.out] at hst
                have hbn:=car19_bound L H (i+1)
                rw [←hst.2] at hbn
                have HST:=Lib.hid hst
                have HBN:=Lib.hid hbn
                clear q1 q2 hcell hfree hst hbn
                by_cases hlt8:i<k
                ·have c2:=(hb.cell (p:=⟨bh,oh+i,none⟩) lbh).trans (HCH.out i hlt8)
                 go_wp2
                 go_roundw
                 case rel=> exact ⟨i+1,_,by omega,HST.out.2,HBN.out.1,HBN.out.2,rfl,by go_num,by rw [←upto_step HST.out.1];exact HO.out.store i _,hb.setCell hgl0 _⟩
                 case measure=> simp [intOf] <;> omega
                ·have hz:dg 65536 H i=0:=dg_small ⟨HHJ.out.1,Int.lt_of_lt_of_le HHJ.out.2 (pow_mono 65536 (by decide) _ _ (by omega))⟩
                 rw [hz,Int.mul_zero,Int.add_zero] at HST HBN
                 clear hz
                 go_wp2
                 go_roundw
                 case rel=> exact ⟨i+1,_,by omega,HST.out.2,HBN.out.1,HBN.out.2,rfl,by go_num,by rw [←upto_step HST.out.1];exact HO.out.store i _,hb.setCell hgl0 _⟩
                 case measure=> simp [intOf] <;> omega
               ·obtain rfl:i=l:=by omega
                have hc19:=car19_top HL2.out HH2.out
                rw [←HZ.out] at hc19
                have HC19:=Lib.hid hc19
                have hlow:=HO.out.congr (upto_full _ _ (Nat.le_refl _))
                have HLOW:=Lib.hid hlow
                have hT:L+19 * H=fold19 Y:=by unfold fold19;rw [←HLE.out,←HHE.out]
                have HT:=Lib.hid hT
                have hf1:=fold19_less (X:=Y) HYB.out.1 (by rw [←HHE.out];exact HH0.out)
                rw [←hT] at hf1
                have HF1:=Lib.hid hf1
                have HBF:=Lib.hid (HBWB.out.trans (hb.mono (Nat.le_trans hsz hba)))
                have hszF:=HBF.out.size
                have hbase:w.heap.size≤wb.heap.size:=Nat.le_trans hsz hba
                clear hc19 hlow hT hf1 HO hb
                by_cases hz0:0<z
                ·go_wp2_with (at_builtin;refine append_new rfl _ _ 64 rfl wb.heap.size 3 .i64 8 Tryz.underlying64 Tryz.info3 _ i (dg 65536 (L+19 * H)) _ _ rfl HLOW.out rfl 1 rfl rfl ?_ (by omega) (by omega) hsz5 ?_;rotate_right;intro v' w1 hown hgrow)
                 ·go_roundg ((L+19 * H).toNat)
                  case rel=> exact ⟨i+1,L+19 * H,by have:=HLK.out;omega,HF1.out.1,HC19.out.2.2,by rw [HT.out,fold19_mod];exact HY.out,rfl,hown.mono hbase,below_grown (HBF.out.alloc hszF _) hgrow HLOW.out (by simp;omega) hbase⟩
                  case measure=> have:=HG.out;have:=HF1.out;omega
                 ·intro i2 hi2
                  exact one0 hi2 (by rw [show i+i2=i by omega];exact HC19.out.2.1)
                ·have hz00:Hid (z=0):=by unfold Hid;omega
                 go_wp2
                 go_roundg ((L+19 * H).toNat)
                 case rel=>
                  refine ⟨i,L+19 * H,by omega,HF1.out.1,?_,by rw [HT.out,fold19_mod];exact HY.out,rfl,HLOW.out.mono hbase,HBF.out⟩
                  have h1:=HC19.out.1
                  rw [hz00.out] at h1
                  have h2:=Int.emod_add_mul_ediv (L+19 * H) (65536 ^ i)
                  rw [←h1] at h2
                  have h3:=Int.emod_lt_of_pos (L+19 * H) (pow_pos' (by decide:(0:Int)<65536) i)
                  omega
                 case measure=> have:=HG.out;have:=HF1.out;omega
          ·intro i2 hi2
           exact one0 hi2 (by rw [show 15+i2=15 by omega];exact HD.out)
end Go.Proofs.YtdhejcaapdhhfaaGreat
namespace Go.Proofs.YtdhejcaapdhhfaaGreat
open Go.RowKit Go.Bas
attribute [local go_sem ↓] Go.wp_at_zero Go.wp_at_succ
theorem fOf_any (X:Int) (w:World):
  Calls Tryz.prog 94 #[.agg (arr .u8 32 (dg 256 X))] w fun e w'=>
   ∃v,e=.returned v∧Own .i64 3 w.heap.size w' v 16 (dg 65536 (X % 2 ^ 255 % Pr))∧Below w.heap.size w w':=by
 go_enter Tryz.func94,Tryz.ntmps94
 go_wp2_with (refine load_arr rfl 22 _ rfl .u8 w.heap.size 32 _ 5 Tryz.underlying22 Tryz.size22 rfl (Arr.new .u8 w 22 32 (dg 256 X)) ?_)
 refine (rDigits_any X _).mono ?_
 rintro e w1 ⟨x,rfl,hx,hb1⟩
 have hs1:w.heap.size+1≤w1.heap.size:=by have:=hb1.size;simpa using this
 have hb2:Below w.heap.size w w1:=((Below.refl _ _).alloc (Nat.le_refl _) _).trans (hb1.mono (by simp))
 obtain ⟨g,c,rfl,hg0,hgl,hc,hcc,hcell,hfree⟩:=hx.form (by decide)
 have e15:=hcell 15 (by decide)
 have f15:=hfree 15
 obtain ⟨x0,x1⟩:=dg_bound (by decide:(0:Int)<65536) X 15
 have HX:=Lib.hid hx
 have hg1:w.heap.size≤g:=by simp at hg0;omega
 clear hx hb1 hcell hfree hg0
 go_wp2_with fail
 refine (fMod_any _ (X % 2 ^ 255) 16 (by decide) (mod255 X) _ ((HX.out.store 15 _).rd.congr (fun i hi=> ?_))).mono ?_
 ·exact top_bit X i hi
 rintro e w2 ⟨v,rfl,hv,hb3⟩
 have hb4:=hb2.setCell (p:=⟨g,15,none⟩) hg1 (.int .i64 (dg 65536 X 15 % 32768))
 have HV:=Lib.hid (hv.mono (base':=w.heap.size) (by simp [size_setCell];omega))
 have HB:=Lib.hid (hb4.trans (hb3.mono (by simp [size_setCell];omega)))
 clear hv hb3 hb4 hb2
 go_wp2
 go_ret
 exact ⟨_,rfl,HV.out,HB.out⟩
theorem carS_top16 {A B:Int} (hA:0≤A∧A<65536 ^ 16) (hB:0≤B∧B<65536 ^ 16):carS A B 16=dg 65536 (A+B) 16∧0≤A+B∧A+B<65536 ^ 17:=by
 have h2:(65536:Int) ^ 17=65536 * 65536 ^ 16:=by decide
 refine ⟨?_,by omega,by omega⟩
 unfold carS dg
 rw [Int.ediv_eq_zero_of_lt hA.1 hA.2,Int.ediv_eq_zero_of_lt hB.1 hB.2]
 have h3:(A+B) / 65536 ^ 16<65536:=Int.ediv_lt_of_lt_mul (by decide) (by omega)
 have h4:0≤(A+B) / 65536 ^ 16:=Int.ediv_nonneg (by omega) (by decide)
 omega
theorem fAdd_any (va vb:Value) (A B:Int) (hA:0≤A∧A<65536 ^ 16) (hB:0≤B∧B<65536 ^ 16) (w:World) (ha:Rd .i64 w va 16 (dg 65536 A)) (hb:Rd .i64 w vb 16 (dg 65536 B)):
  Calls Tryz.prog 95 #[va,vb] w fun e w'=>
   ∃v,e=.returned v∧Own .i64 3 w.heap.size w' v 16 (dg 65536 ((A+B) % Pr))∧Below w.heap.size w w':=by
 have HT:=Lib.hid (carS_top16 hA hB)
 obtain ⟨xa,xc,rfl,xl,xm,xz,xh⟩:=ha
 obtain ⟨ya,yc,rfl,yl,ym,yz,yh⟩:=hb
 obtain ⟨xb,xo,rfl,xs,xe⟩:=xh (by decide)
 obtain ⟨yb,yo,rfl,ys,ye⟩:=yh (by decide)
 have XE:=Lib.hid xe
 have YE:=Lib.hid ye
 clear xz yz xe ye xh yh hA hB
 go_enter Tryz.func95,Tryz.ntmps95
 go_wp2
 go_loopw [5,6,7] (fun v c i wr=> ∃(k:Nat) (z:Int),k≤16∧z=carS A B k∧0≤z∧z≤1∧c=.int .i64 z∧i=.int .i64 k∧Own .i64 3 w.heap.size wr v k (dg 65536 (A+B))∧Below w.heap.size w wr) (fun _ _ i _=> 16 - (intOf i).toNat)
 case atStart=> exact ⟨0,0,Nat.zero_le _,(carS_zero _ _).symm,by decide,by decide,rfl,rfl,Own.nil _ _ _ _ _,Below.refl _ _⟩
 case round=>
  obtain ⟨k,z,hk,hz,z0,z1,rfl,rfl,ho,hbel⟩:=hrel
  have HZ:=Lib.hid hz
  have HO:=Lib.hid ho
  clear hz ho
  have hsz:=hbel.size
  by_cases hlt:k<16
  ·have c1:=(hbel.cell (p:=⟨xb,xo+k,none⟩) xs).trans (XE.out k hlt)
   have c2:=(hbel.cell (p:=⟨yb,yo+k,none⟩) ys).trans (YE.out k hlt)
   obtain ⟨x0,x1⟩:=dg_bound (by decide:(0:Int)<65536) A k
   obtain ⟨y0,y1⟩:=dg_bound (by decide:(0:Int)<65536) B k
   have u1:=wrap_i64_id (x:=dg 65536 A k+dg 65536 B k) (by omega) (by omega)
   have u2:=wrap_i64_id (x:=dg 65536 A k+dg 65536 B k+z) (by omega) (by omega)
   have hst:=carS_step A B k
   rw [←HZ.out] at hst
   have HST:=Lib.hid hst
   clear hst
   go_wp2
   go_quiet (fail)
   clear u1 u2
   go_wp2_with (at_builtin;refine append_new rfl _ _ 64 rfl w.heap.size 3 .i64 8 Tryz.underlying64 Tryz.info3 _ k (dg 65536 (A+B)) _ _ rfl (HO.out.drewN _) rfl 1 rfl rfl ?_ (by omega) (by omega) hsz ?_;rotate_right;intro v' w1 hown hgrow)
   ·go_roundw
    case rel=> exact ⟨k+1,_,by omega,HST.out.2,by omega,by omega,rfl,by go_num,hown,below_grown ((below_drewN hbel _).alloc hsz _) hgrow HO.out (by simp;omega) (Nat.le_refl _)⟩
    case measure=> simp [intOf] <;> omega
   ·intro i hi
    exact one0 hi (by rw [show k+i=k by omega];exact HST.out.1)
  ·obtain rfl:k=16:=by omega
   have hz16:z=dg 65536 (A+B) 16:=HZ.out.trans HT.out.1
   have HZ16:=Lib.hid hz16
   clear hz16
   have HBel:=Lib.hid hbel
   clear hbel
   go_wp2_with (at_builtin;refine append_new rfl _ _ 64 rfl w.heap.size 3 .i64 8 Tryz.underlying64 Tryz.info3 _ 16 (dg 65536 (A+B)) _ _ rfl HO.out rfl 1 rfl rfl ?_ (by omega) (by omega) hsz ?_;rotate_right;intro v' w5 hown hgrow)
   ·have hb5:=below_grown (HBel.out.alloc hsz _) hgrow HO.out (by simp;omega) (Nat.le_refl _)
    have HR:=Lib.hid hown.rd
    clear hown hgrow
    refine (fMod_any _ (A+B) 17 (by omega) HT.out.2 _ HR.out).mono ?_
    rintro e w6 ⟨v6,rfl,hv6,hb6⟩
    have hs5:=hb5.size
    have HV6:=Lib.hid (hv6.mono hs5)
    have HB6:=Lib.hid (hb5.trans (hb6.mono hs5))
    clear hv6 hb5 hb6
    go_wp2
    go_ret
    exact ⟨_,rfl,HV6.out,HB6.out⟩
   ·intro i hi
    exact one0 hi (by rw [show 16+i=16 by omega];exact HZ16.out)
theorem fSub_any (va vb:Value) (A B:Int) (hA:0≤A∧A<Pr) (hB:0≤B∧B<Pr) (w:World) (ha:Rd .i64 w va 16 (dg 65536 A)) (hb:Rd .i64 w vb 16 (dg 65536 B)):
  Calls Tryz.prog 96 #[va,vb] w fun e w'=>
   ∃v,e=.returned v∧Own .i64 3 w.heap.size w' v 16 (dg 65536 ((A - B) % Pr))∧Below w.heap.size w w':=by
 have A16:0≤A∧A<65536 ^ 16:=⟨hA.1,Int.lt_trans hA.2 Pr16.2⟩
 have B16:0≤B∧B<65536 ^ 16:=⟨hB.1,Int.lt_trans hB.2 Pr16.2⟩
 have H1:=Lib.hid ha
 have H2:=Lib.hid hb
 have HA:=Lib.hid hA
 have HB:=Lib.hid hB
 have hcon:=rAtLeast_any va vb A B 16 16 (Nat.le_refl _) w ha hb A16 B16
 clear ha hb hA hB A16 B16
 by_cases hge:B≤A
 ·rw [decide_eq_true hge] at hcon
  have hs:Hid ((A - B) % Pr=A - B):=Int.emod_eq_of_lt (by omega) (by have:=HA.out;have:=HB.out;omega)
  have HCON:=Lib.hid hcon
  clear hcon hge
  go_enter Tryz.func96,Tryz.ntmps96
  go_wp2_with fail
  refine HCON.out.mono ?_
  rintro e w1 ⟨rfl,hb1⟩
  have HB1:=Lib.hid hb1
  clear hb1
  go_wp2_with fail
  refine (rLess_any va vb A B 16 16 (Nat.le_refl _) (by decide) w1 (H1.out.below HB1.out) (H2.out.below HB1.out)).mono ?_
  rintro e w2 ⟨v,rfl,hv,hb2⟩
  have HV:=Lib.hid (hv.mono HB1.out.size)
  have HB2:=Lib.hid (HB1.out.trans (hb2.mono HB1.out.size))
  clear hv hb2
  go_wp2
  go_ret
  exact ⟨_,rfl,by rw [hs.out];exact HV.out,HB2.out⟩
 ·rw [decide_eq_false hge] at hcon
  have hs:Hid ((A - B) % Pr=Pr - (B - A)):=by
   show (A - B) % Pr=Pr - (B - A)
   have:=HA.out;have:=HB.out
   rw [show A - B=Pr - (B - A)+Pr * (-1) by omega,Int.add_mul_emod_self_left,Int.emod_eq_of_lt (by omega) (by omega)]
  have HCON:=Lib.hid hcon
  clear hcon hge
  go_enter Tryz.func96,Tryz.ntmps96
  go_wp2_with fail
  refine HCON.out.mono ?_
  rintro e w1 ⟨rfl,hb1⟩
  have HB1:=Lib.hid hb1
  clear hb1
  go_wp2_with fail
  refine (rP_any _).mono ?_
  rintro e w2 ⟨p,rfl,hp,hb2⟩
  have HP:=Lib.hid hp.rd
  have HB2:=Lib.hid hb2
  clear hp hb2
  go_wp2_with fail
  refine (rLess_any vb va B A 16 16 (Nat.le_refl _) (by decide) w2 ((H2.out.below HB1.out).below HB2.out) ((H1.out.below HB1.out).below HB2.out)).mono ?_
  rintro e w3 ⟨d,rfl,hd,hb3⟩
  have HD:=Lib.hid hd.rd
  have HB3:=Lib.hid hb3
  clear hd hb3
  go_wp2_with fail
  refine (rLess_any p d Pr (B - A) 16 16 (Nat.le_refl _) (by decide) w3 (HP.out.below HB3.out) HD.out).mono ?_
  rintro e w4 ⟨v,rfl,hv,hb4⟩
  have s1:=HB1.out.size
  have s2:=HB2.out.size
  have s3:=HB3.out.size
  have HV:=Lib.hid (hv.mono (base':=w.heap.size) (by omega))
  have HB4:=Lib.hid (((HB1.out.trans (HB2.out.mono (by omega))).trans (HB3.out.mono (by omega))).trans (hb4.mono (by omega)))
  clear hv hb4 s1 s2 s3
  go_wp2
  go_ret
  exact ⟨_,rfl,by rw [hs.out];exact HV.out,HB4.out⟩
theorem fMul_any (va vb:Value) (A B:Int) (hA:0≤A∧A<65536 ^ 16) (hB:0≤B∧B<65536 ^ 16) (w:World) (ha:Rd .i64 w va 16 (dg 65536 A)) (hb:Rd .i64 w vb 16 (dg 65536 B)):
  Calls Tryz.prog 76 #[va,vb] w fun e w'=>
   ∃v,e=.returned v∧Own .i64 3 w.heap.size w' v 16 (dg 65536 (A * B % Pr))∧Below w.heap.size w w':=by
 have HA:=Lib.hid hA
 have HB:=Lib.hid hB
 obtain ⟨xa,xc,rfl,xl,xm,xz,xh⟩:=ha
 obtain ⟨ya,yc,rfl,yl,ym,yz,yh⟩:=hb
 obtain ⟨xb,xo,rfl,xs,xe⟩:=xh (by decide)
 obtain ⟨yb,yo,rfl,ys,ye⟩:=yh (by decide)
 have XE:=Lib.hid xe
 have YE:=Lib.hid ye
 clear xz yz xe ye xh yh hA hB
 go_enter Tryz.func76,Tryz.ntmps76
 go_wp2_with (refine make_ints rfl _ _ 64 rfl w.heap.size 3 .i64 8 Tryz.underlying64 Tryz.info3 .i64 .i64 32 rfl rfl (by decide) (by decide) (Nat.le_refl _) ?_;intro w4 hown hgrow)
 have hb4:Below w.heap.size w w4:=below_grown0 (Below.refl _ _) hgrow (Nat.le_refl _)
 clear hgrow
 go_loopw [6] (fun i wr=> ∃(k:Nat) (t:Nat→Int),k≤16∧i=.int .i64 k∧MulInv 16 16 A B t k 0 0∧Own .i64 3 w.heap.size wr (.slice (some ⟨w.heap.size,0,none⟩) 32 32) 32 t∧Below w.heap.size w wr) (fun i _=> 16 - (intOf i).toNat)
 case atStart=> exact ⟨0,_,Nat.zero_le _,rfl,MulInv.zero _ _ _ _,hown,hb4⟩
 case round=>
  obtain ⟨i,t,hi,rfl,hM,ho,hbel⟩:=hrel
  have HM:=Lib.hid hM
  have HO:=Lib.hid ho
  clear hM ho
  by_cases hlt:i<16
  ·have HBel:=Lib.hid hbel
   clear hbel
   go_wp2
   go_loopw [7,8] (fun c j wr=> ∃(k:Nat) (z:Int) (t:Nat→Int),k≤16∧0≤z∧z<65536∧c=.int .i64 z∧j=.int .i64 k∧MulInv 16 16 A B t i k z∧Own .i64 3 w.heap.size wr (.slice (some ⟨w.heap.size,0,none⟩) 32 32) 32 t∧Below w.heap.size w wr) (fun _ j _=> 16 - (intOf j).toNat)
   case atStart=> exact ⟨0,0,t,Nat.zero_le _,by decide,by decide,rfl,rfl,HM.out,HO.out,HBel.out⟩
   case round=>
    clear HM HO HBel
    obtain ⟨k,z,t,hk,z0,z1,rfl,rfl,hM,ho,hbel⟩:=hrel
    have HM:=Lib.hid hM
    have HO:=Lib.hid ho
    clear hM ho
    obtain ⟨g',cc',he,_,_,_,_,hcell,hfree⟩:=HO.out.form (by decide)
    simp only [Value.slice.injEq,Option.some.injEq,Addr.mk.injEq] at he
    obtain ⟨⟨rfl,q1⟩,q2⟩:=he
    clear q1 q2
    by_cases hkt:k<16
    ·have e1:=hcell (i+k) (by omega)
     have f1:=hfree (i+k)
     have c1:=(hbel.cell (p:=⟨xb,xo+i,none⟩) xs).trans (XE.out i hlt)
     have c2:=(hbel.cell (p:=⟨yb,yo+k,none⟩) ys).trans (YE.out k hkt)
     obtain ⟨m0,m1,m2,m3,m4,m5⟩:=HM.out.bound
     have HST:=Lib.hid (HM.out.step hlt hkt)
     have HST2:=Lib.hid (HST.out.2.2)
     have t0:=(HM.out.1 (i+k)).1
     have t1:=(HM.out.1 (i+k)).2
     obtain ⟨x0,x1⟩:=dg_bound (by decide:(0:Int)<65536) A i
     obtain ⟨y0,y1⟩:=dg_bound (by decide:(0:Int)<65536) B k
     clear hcell hfree
     have i0:(0:Int)≤(i:Int)+k:=by omega
     have i1:(i:Int)+k<32:=by omega
     have i2:((i:Int)+k).toNat=i+k:=by omega
     have u0:=wrap_i64_id (x:=(i:Int)+k) (by omega) (by omega)
     have u1:=wrap_i64_id (x:=dg 65536 A i * dg 65536 B k) (by omega) (by omega)
     have u2:=wrap_i64_id (x:=t (i+k)+dg 65536 A i * dg 65536 B k) (by omega) (by omega)
     have u3:=wrap_i64_id (x:=t (i+k)+dg 65536 A i * dg 65536 B k+z) (by omega) (by omega)
     go_wp2
     go_quiet (fail)
     clear u1 u2 u3 u0
     go_wp2
     go_roundw
     case rel=> exact ⟨k+1,_,_,by omega,HST2.out.1,HST2.out.2.1,rfl,by go_num,HST.out,(HO.out.drewN _).store (i+k) _,(below_drewN hbel _).setCell (Nat.le_refl _) _⟩
     case measure=> simp [intOf] <;> omega
    ·obtain rfl:k=16:=by omega
     obtain ⟨r0,r1⟩:=HM.out.row hlt HB.out
     have R0:=Lib.hid r0
     have R1:=Lib.hid r1
     have e1:=hcell (i+16) (by omega)
     have f1:=hfree (i+16)
     rw [R0.out] at e1
     clear hcell hfree r0 r1
     go_wp2
     go_roundw
     case rel=> exact ⟨i+1,_,by omega,by go_num,R1.out,by rw [R0.out];have:=HO.out.store (i+16) z;rwa [show (0:Int)+z=z by omega],hbel.setCell (Nat.le_refl _) _⟩
     case measure=> simp [intOf] <;> omega
  ·obtain rfl:i=16:=by omega
   have HR:=Lib.hid (HO.out.congr (HM.out.done HA.out)).rd
   have HBel:=Lib.hid hbel
   have hs:=hbel.size
   clear hbel
   go_wp2_with fail
   refine (fMod_any _ (A * B) 32 (by omega) (mul_bound HA.out HB.out) _ HR.out).mono ?_
   rintro e w6 ⟨v6,rfl,hv6,hb6⟩
   have HV6:=Lib.hid (hv6.mono hs)
   have HB6:=Lib.hid (HBel.out.trans (hb6.mono hs))
   clear hv6 hb6
   go_wp2
   go_ret
   exact ⟨_,rfl,HV6.out,HB6.out⟩
end Go.Proofs.YtdhejcaapdhhfaaGreat
