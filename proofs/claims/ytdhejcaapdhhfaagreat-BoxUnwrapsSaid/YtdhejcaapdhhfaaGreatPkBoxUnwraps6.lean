/-
  Part 6 of the texts that the proof of BoxUnwraps rests on, one after the other. Conditions: named in each theorem.
-/
import Derived.Test.YtdhejcaapdhhfaaGreatPkBoxUnwraps3
import Derived.Test.YtdhejcaapdhhfaaGreatPkBoxUnwraps2
import Derived.Test.YtdhejcaapdhhfaaGreatPkBoxUnwraps4
import Derived.Test.YtdhejcaapdhhfaaGreatPkBoxUnwraps5
import Derived.BigFrame
import Derived.BigQuiet
import Derived.ChangeKeysEq
import Derived.Deep.DrawnRows
import Derived.Deep.QuietTactic
import Derived.Deep.RegionHeld3
import Derived.Deep.RegionLaw
import Derived.Deep.WholeRow
import Derived.Laws.CopyOwn
import Derived.Laws.StructEq
import Derived.Lib.Hide
import Derived.Maps.AppendAt
import Derived.Maps.Range
import Derived.Orders
import Derived.Test.YtdhejcaapdhhfaaGreatArr
import Derived.Test.YtdhejcaapdhhfaaGreatFlow
import Derived.Test.YtdhejcaapdhhfaaGreatKit
import Derived.Test.YtdhejcaapdhhfaaGreatRows
import Derived.WalkKit
import Derived.WalkLawsBesides
import Derived.WalkSmall
import Derived.WalkSpells
set_option linter.unusedVariables false
set_option linter.unusedSimpArgs false
set_option maxRecDepth 100000
set_option maxHeartbeats 3200000
namespace Go.Proofs.YtdhejcaapdhhfaaGreat
open Go.RowKit Go.Bas
attribute [local go_sem ↓] Go.wp_at_zero Go.wp_at_succ
theorem crr_bound {f:Nat→Int} (hf:∀i,i<16→ -4000000000000000≤f i∧f i≤4000000000000000):∀i,i≤16→ -70000000000≤cin f i∧cin f i≤70000000000:=
 cin_bound hf (by decide) (by decide) (by decide) (by decide)
theorem carry_any (f:Nat→Int) (b:Nat) (w:World) (hA:Arr .i64 w b 16 f) (hf:∀i,i<16→ -4000000000000000≤f i∧f i≤4000000000000000):
  Calls Tryz.prog 110 #[.pointer (some ⟨b,0,none⟩)] w fun e w'=> (∃v,e=.returned v)∧Arr .i64 w' b 16 (crr f)∧w.grownBy w' (some b):=by
 have HC:=Lib.hid (crr_bound hf)
 have HF:=Lib.hid hf
 have HA:=Lib.hid (hA.congr (crs_zero f))
 clear hA hf
 go_enter Tryz.func110,Tryz.ntmps110
 go_wp2
 go_loopw [4] (fun i wr=> ∃k:Nat,k≤16∧i=.int .i64 k∧Arr .i64 wr b 16 (crs f k)∧w.grownBy wr (some b)) (fun i _=> 16 - (intOf i).toNat)
 case atStart=> exact ⟨0,Nat.zero_le _,rfl,HA.out,Gr.refl _ _⟩
 case round=>
  obtain ⟨k,hk,rfl,ho,hg⟩:=hrel
  by_cases hlt:k<16
  ·have e1:=ho.cell k hlt
   have f1:=ho.free k
   rw [crs_at f hlt] at e1
   have c1:=HC.out k hk
   have c2:=HF.out k hlt
   obtain ⟨v,hv⟩:∃v,v=f k+cin f k:=⟨_,rfl⟩
   rw [←hv] at e1
   have v0: -4100000000000000≤v:=by omega
   have v1:v≤4100000000000000:=by omega
   have HV:=Lib.hid hv
   have HO:=Lib.hid ho
   have HG:=Lib.hid hg
   have hq1:v+65536 - (v+65536) / 65536 * 65536=v % 65536:=by omega
   have hq2:(v+65536) / 65536 - 1=v / 65536:=by omega
   have HQ1:=Lib.hid hq1
   have HQ2:=Lib.hid hq2
   obtain ⟨q,hq⟩:∃q,q=(v+65536) / 65536:=⟨_,rfl⟩
   have q0: -70000000000≤q:=by omega
   have q1:q≤70000000000:=by omega
   rw [←hq] at HQ1 HQ2
   have HQ:=Lib.hid hq
   clear ho hv hg c1 c2 hq1 hq2 hq
   go_wp2
   go_region
   all_goals
    go_wp2
    rw [←HQ.out]
    refine wp_world (fun w1=> Arr .i64 w1 b 16 (upd (crs f k) k (v+65536))∧w.grownBy w1 (some b)) ⟨(HO.out.set k _).drew,Gr.drew (Gr.set HG.out k _)⟩ ?_
    rintro w1 ⟨ho1,hg1⟩
    have e1':=ho1.cell k hlt
    have f1':=ho1.free k
    rw [upd_at] at e1'
    have HO1:=Lib.hid ho1
    have HG1:=Lib.hid hg1
    clear ho1 hg1 e1 f1 HO HG
    by_cases hk15:k<15
    ·go_region
     all_goals
      go_wp2
      refine wp_world (fun w2=> Arr .i64 w2 b 16 (upd (crs f k) k (v % 65536))∧w.grownBy w2 (some b)) ⟨?_,Gr.drew (Gr.set HG1.out k _)⟩ ?_
      ·have h2:=(HO1.out.set k (v+65536 - q * 65536)).drew
       rw [HQ1.out] at h2 ⊢
       exact h2.congr fun i _=> upd_upd _ _ _ _ i
      rintro w2 ⟨ho2,hg2⟩
      have e2:=ho2.cell (k+1) (by omega)
      have f2:=ho2.free (k+1)
      rw [upd_ne _ _ (by omega),crs_after f hk15] at e2
      have c2:=HF.out (k+1) (by omega)
      obtain ⟨u,hu⟩:∃u,u=f (k+1):=⟨_,rfl⟩
      rw [←hu] at e2 c2
      obtain ⟨c3,c4⟩:=c2
      have HU:=Lib.hid hu
      have HO2:=Lib.hid ho2
      have HG2:=Lib.hid hg2
      clear ho2 hg2 HO1 HG1 e1' f1' hu
      go_region
      all_goals
       go_wp2
       go_roundw
       case rel=> exact ⟨k+1,by omega,by go_num,by have h3:=(HO2.out.set (k+1) (u+(q - 1))).drew;rw [HQ2.out,HU.out,HV.out] at h3;rw [HQ2.out,HU.out,HV.out];exact h3.congr (crs_step f hk15),Gr.drew (Gr.set HG2.out (k+1) _)⟩
       case measure=> simp [intOf] <;> omega
    ·obtain rfl:k=15:=by omega
     go_region
     all_goals
      go_wp2
      refine wp_world (fun w2=> Arr .i64 w2 b 16 (upd (crs f 15) 15 (v % 65536))∧w.grownBy w2 (some b)) ⟨?_,Gr.drew (Gr.set HG1.out 15 _)⟩ ?_
      ·have h2:=(HO1.out.set 15 (v+65536 - q * 65536)).drew
       rw [HQ1.out] at h2 ⊢
       exact h2.congr fun i _=> upd_upd _ _ _ _ i
      rintro w2 ⟨ho2,hg2⟩
      have e2:=ho2.cell 0 (by omega)
      have f2:=ho2.free 0
      rw [upd_ne _ _ (by omega),crs_head f] at e2
      obtain ⟨u,hu⟩:∃u,u=f 0 % 65536:=⟨_,rfl⟩
      have c3:0≤u:=by omega
      have c4:u≤65535:=by omega
      rw [←hu] at e2
      have HU:=Lib.hid hu
      have HO2:=Lib.hid ho2
      have HG2:=Lib.hid hg2
      clear ho2 hg2 HO1 HG1 e1' f1' hu
      go_region
      all_goals
       go_wp2
       go_roundw
       case rel=> exact ⟨16,by omega,by go_num,by have h3:=(HO2.out.set 0 (u+38 * (q - 1))).drew;rw [HQ2.out,HU.out,HV.out] at h3;rw [HQ2.out,HU.out,HV.out];exact h3.congr (crs_last f),Gr.drew (Gr.set HG2.out 0 _)⟩
       case measure=> simp [intOf] <;> omega
  ·obtain rfl:k=16:=by omega
   go_wp2
   go_end0
   exact ⟨⟨_,rfl⟩,by rw [←crs_full];exact ho,hg⟩
abbrev El (f:Nat→Int):Value:=.agg (arr .i64 16 f)
theorem feAdd_any (f g:Nat→Int) (X Y:Int) (hf:Fe f X) (hg:Fe g Y) (w:World):
  Calls Tryz.prog 59 #[El f,El g] w fun e w'=> e=.returned (El (addF f g))∧Below w.heap.size w w':=by
 have HF:=Lib.hid hf
 have HG:=Lib.hid hg
 clear hf hg
 unfold El
 go_enter Tryz.func59,Tryz.ntmps59
 go_wp2
 go_loopw [6] (fun i wr=> ∃k:Nat,k≤16∧i=.int .i64 k∧Arr .i64 wr w.heap.size 16 (upto k (fun i=> f i+g i) f)∧Arr .i64 wr (w.heap.size+1) 16 g∧Arr .i64 wr (w.heap.size+2) 16 (fun _=> 0)∧Below w.heap.size w wr) (fun i _=> 16 - (intOf i).toNat)
 case atStart=> exact ⟨0,Nat.zero_le _,rfl,by rw [upto_zero];exact Arr.alloc (Arr.alloc (Arr.newAt (by first | omega | (simp<;> omega)) (by rfl)) _) _,Arr.alloc (Arr.newAt (by first | omega | (simp<;> omega)) (by rfl)) _,Arr.newAt (by first | omega | (simp<;> omega)) (by rfl),(((Below.refl _ _).alloc (Nat.le_refl _) _).alloc (by simp) _).alloc (by simp;omega) _⟩
 case round=>
  obtain ⟨k,hk,rfl,hA,hB,hZ,hbel⟩:=hrel
  by_cases hlt:k<16
  ·have e1:=hA.cell k hlt
   have e2:=hB.cell k hlt
   have f1:=hA.free k
   rw [upto_at] at e1
   obtain ⟨x0,x1⟩:=HF.out.1.bound k hlt
   obtain ⟨y0,y1⟩:=HG.out.1.bound k hlt
   have HA:=Lib.hid hA
   have HB:=Lib.hid hB
   have HZ:=Lib.hid hZ
   have HBel:=Lib.hid hbel
   clear hA hB hZ hbel
   go_wp2
   go_region
   all_goals
    go_wp2
    go_roundw
    case rel=> exact ⟨k+1,by omega,by go_num,by rw [←upto_step rfl];exact (HA.out.set k _).drew,(HB.out.other (by first | omega | (simp<;> omega)) _).drew,(HZ.out.other (by first | omega | (simp<;> omega)) _).drew,(HBel.out.setCell (Nat.le_refl _) _).drew⟩
    case measure=> simp [intOf] <;> omega
  ·obtain rfl:k=16:=by omega
   have hA2:=hA.congr (upto_full _ _ (Nat.le_refl _))
   have hl:=hZ.lt
   go_wp2_with fail
   refine (carry_any _ w.heap.size _ hA2 (fun i hi=> by have:=HF.out.1.bound i hi;have:=HG.out.1.bound i hi;omega)).mono ?_
   rintro e w1 ⟨⟨v,rfl⟩,hC,hg⟩
   have hZ1:=hZ.grown hg (by simp)
   have hb1:=hbel.trans (Gr.below hg (Nat.le_refl _) (by omega))
   have hs1:=hZ1.lt
   clear hA hB hZ hbel hA2 hg
   go_wp2_with (first
    | (refine load_str rfl 53 _ rfl .i64 w.heap.size 16 _ Tryz.underlying53 rfl Tryz.size53 rfl hC ?_)
    | (refine store_arr rfl 53 _ _ rfl .i64 (w.heap.size+2) 16 (fun _=> 0) _ Tryz.size53 rfl rfl hZ1 ?_))
   exact bodyPost_ret (results_str rfl _ _ .i64 (w.heap.size+2) 16 _ rfl (hZ1.setRow _ _) Tryz.underlying53 rfl Tryz.size53) rfl ⟨rfl,below_setRow' hb1 (by omega) _⟩
theorem feSub_any (f g:Nat→Int) (X Y:Int) (hf:Fe f X) (hg:Fe g Y) (w:World):
  Calls Tryz.prog 113 #[El f,El g] w fun e w'=> e=.returned (El (subF f g))∧Below w.heap.size w w':=by
 have HF:=Lib.hid hf
 have HG:=Lib.hid hg
 clear hf hg
 unfold El
 go_enter Tryz.func113,Tryz.ntmps113
 go_wp2
 go_loopw [6] (fun i wr=> ∃k:Nat,k≤16∧i=.int .i64 k∧Arr .i64 wr w.heap.size 16 (upto k (fun i=> f i - g i) f)∧Arr .i64 wr (w.heap.size+1) 16 g∧Arr .i64 wr (w.heap.size+2) 16 (fun _=> 0)∧Below w.heap.size w wr) (fun i _=> 16 - (intOf i).toNat)
 case atStart=> exact ⟨0,Nat.zero_le _,rfl,by rw [upto_zero];exact Arr.alloc (Arr.alloc (Arr.newAt (by first | omega | (simp<;> omega)) (by rfl)) _) _,Arr.alloc (Arr.newAt (by first | omega | (simp<;> omega)) (by rfl)) _,Arr.newAt (by first | omega | (simp<;> omega)) (by rfl),(((Below.refl _ _).alloc (Nat.le_refl _) _).alloc (by simp) _).alloc (by simp;omega) _⟩
 case round=>
  obtain ⟨k,hk,rfl,hA,hB,hZ,hbel⟩:=hrel
  by_cases hlt:k<16
  ·have e1:=hA.cell k hlt
   have e2:=hB.cell k hlt
   have f1:=hA.free k
   rw [upto_at] at e1
   obtain ⟨x0,x1⟩:=HF.out.1.bound k hlt
   obtain ⟨y0,y1⟩:=HG.out.1.bound k hlt
   have HA:=Lib.hid hA
   have HB:=Lib.hid hB
   have HZ:=Lib.hid hZ
   have HBel:=Lib.hid hbel
   clear hA hB hZ hbel
   go_wp2
   go_region
   all_goals
    go_wp2
    go_roundw
    case rel=> exact ⟨k+1,by omega,by go_num,by rw [←upto_step rfl];exact (HA.out.set k _).drew,(HB.out.other (by first | omega | (simp<;> omega)) _).drew,(HZ.out.other (by first | omega | (simp<;> omega)) _).drew,(HBel.out.setCell (Nat.le_refl _) _).drew⟩
    case measure=> simp [intOf] <;> omega
  ·obtain rfl:k=16:=by omega
   have hA2:=hA.congr (upto_full _ _ (Nat.le_refl _))
   have hl:=hZ.lt
   go_wp2_with fail
   refine (carry_any _ w.heap.size _ hA2 (fun i hi=> by have:=HF.out.1.bound i hi;have:=HG.out.1.bound i hi;omega)).mono ?_
   rintro e w1 ⟨⟨v,rfl⟩,hC,hg⟩
   have hZ1:=hZ.grown hg (by simp)
   have hb1:=hbel.trans (Gr.below hg (Nat.le_refl _) (by omega))
   have hs1:=hZ1.lt
   clear hA hB hZ hbel hA2 hg
   go_wp2_with (first
    | (refine load_str rfl 53 _ rfl .i64 w.heap.size 16 _ Tryz.underlying53 rfl Tryz.size53 rfl hC ?_)
    | (refine store_arr rfl 53 _ _ rfl .i64 (w.heap.size+2) 16 (fun _=> 0) _ Tryz.size53 rfl rfl hZ1 ?_))
   exact bodyPost_ret (results_str rfl _ _ .i64 (w.heap.size+2) 16 _ rfl (hZ1.setRow _ _) Tryz.underlying53 rfl Tryz.size53) rfl ⟨rfl,below_setRow' hb1 (by omega) _⟩
end Go.Proofs.YtdhejcaapdhhfaaGreat
