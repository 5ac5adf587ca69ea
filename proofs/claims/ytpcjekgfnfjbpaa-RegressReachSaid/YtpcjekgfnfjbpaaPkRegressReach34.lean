/-
  Part 34 of the texts that the proof of RegressReach rests on, one after the other. Conditions: named in each theorem.
-/
import Derived.Test.YtpcjekgfnfjbpaaPkRegressReach2
import Derived.Test.YtpcjekgfnfjbpaaPkRegressReach3
import Derived.Test.YtpcjekgfnfjbpaaPkRegressReach8
import Derived.BigQuiet
import Derived.Deep.DrawnRows
import Derived.Deep.QuietTactic
import Derived.Deep.RegionHeld3
import Derived.Deep.WholeRow
import Derived.Laws.CopyOwn
import Derived.Lib.Hide
import Derived.Maps.AppendAt
import Derived.Maps.Range
import Derived.Test.YtpcjekgfnfjbpaaArr
import Derived.Test.YtpcjekgfnfjbpaaKit
import Derived.Test.YtpcjekgfnfjbpaaRows
import Derived.WalkKit
import Derived.WalkLawsBesides
import Derived.WalkSmall
import Derived.WalkSpells
set_option linter.unusedVariables false
set_option linter.unusedSimpArgs false
set_option maxRecDepth 100000
set_option maxHeartbeats 1600000
namespace Go.Bas
theorem and8_u32 {x:Int} (h0:0≤x) (h1:x<4294967296):bits .and .u32 x 255=x % 256:=by
 rw [u32_and _ _ h0 h1 (by decide) (by decide),show (255:Int).toNat=2 ^ 8 - 1 from rfl,Nat.and_two_pow_sub_one_eq_mod];omega
theorem and2_u32 {x:Int} (h0:0≤x) (h1:x<4294967296):bits .and .u32 x 3=x % 4:=by
 rw [u32_and _ _ h0 h1 (by decide) (by decide),show (3:Int).toNat=2 ^ 2 - 1 from rfl,Nat.and_two_pow_sub_one_eq_mod];omega
theorem cu_sum (A B:Int) {k:Nat} (h:k<17):(dg 256 A k+dg 256 B k+cu (fun i=> dg 256 A i+dg 256 B i) k) % 256=dg 256 (A+B) k:=by
 have e:=cu_digit (fun i=> dg 256 A i+dg 256 B i) h
 have s:sm 256 (fun i=> dg 256 A i+dg 256 B i) 17=A % 256 ^ 17+B % 256 ^ 17:=by
  have:=sm_lin 256 (dg 256 A) (dg 256 B) 1 1 17
  simp only [Int.one_mul] at this
  rw [this,sm_dg (by decide),sm_dg (by decide)]
 rw [s] at e
 rw [e,←dg_add (by decide) _ (A / 256 ^ 17+B / 256 ^ 17) 17 k h]
 congr 1
 have h1:=Int.emod_add_mul_ediv A (256 ^ 17)
 have h2:=Int.emod_add_mul_ediv B (256 ^ 17)
 generalize (256:Int) ^ 17=p at *
 rw [Int.add_mul,Int.mul_comm _ p,Int.mul_comm _ p]
 omega
theorem cu_two (A B:Int):∀k,k≤17→0≤cu (fun i=> dg 256 A i+dg 256 B i) k∧cu (fun i=> dg 256 A i+dg 256 B i) k≤510:=
 cu_bound 17 (fun i _=> by have:=dg_bound (by decide:(0:Int)<256) A i;have:=dg_bound (by decide:(0:Int)<256) B i;omega) (by decide)
theorem carry_low (f:Nat→Int) {V:Int} (hV:V=sm 256 f 17) {i:Nat} (hi:i<16):(f i+cu f i) % 256=dg 256 (V % 256 ^ 16) i:=by
 rw [cu_digit f (show i<17 by omega),dg_mod (by decide) _ _ _ hi,hV]
end Go.Bas
namespace Go.Proofs.Ytpcjekgfnfjbpaa
open Go.RowKit Go.Bas
attribute [local go_sem ↓] Go.wp_at_zero Go.wp_at_succ
theorem Try.size129:(Try.prog.info? 129).map (·.size)=some 17:=by kernel_rfl
theorem Try.size134:(Try.prog.info? 134).map (·.size)=some 17:=by kernel_rfl
theorem wide_any (X:Int) (w:World):
  Calls Try.prog 81 #[.agg (arr .u8 17 (dg 256 X))] w fun e w'=> e=.returned (.agg (arr .u32 17 (dg 256 X)))∧Below w.heap.size w w':=by
 go_enter Try.func81,Try.ntmps81
 go_wp2_with (refine load_arr rfl 129 _ rfl .u8 w.heap.size 17 (dg 256 X) 5 Try.underlying129 Try.size129 rfl (Arr.alloc (Arr.alloc (Arr.newAt rfl rfl) _) _) ?_)
 go_loopw [7] (fun i wr=> ∃k:Nat,k≤17∧i=.int .i64 k∧Arr .u32 wr (w.heap.size+1) 17 (fun _=> 0)∧Arr .u32 wr (w.heap.size+2) 17 (upto k (dg 256 X) (fun _=> 0))∧Below w.heap.size w wr) (fun i _=> 17 - (intOf i).toNat)
 case atStart=> exact ⟨0,Nat.zero_le _,rfl,Arr.alloc (Arr.newAt (by first | omega | (simp<;> omega)) (by rfl)) _,by rw [upto_zero];exact Arr.newAt (by first | omega | (simp<;> omega)) (by rfl),(((Below.refl _ _).alloc (Nat.le_refl _) _).alloc (by simp) _).alloc (by simp;omega) _⟩
 case round=>
  obtain ⟨k,hk,rfl,hZ,hR,hbel⟩:=hrel
  by_cases hlt:k<17
  ·have e3:=hR.cell k (by omega)
   have f3:=hR.free k
   obtain ⟨b0,b1⟩:=dg_bound (by decide:(0:Int)<256) X k
   have hix:=run_index_arr (f:=dg 256 X) Try.underlying129 Try.underlying5 Try.size5 k hlt
   have HZ:=Lib.hid hZ
   have HR:=Lib.hid hR
   clear hZ hR
   go_wp2
   go_roundw
   case rel=> exact ⟨k+1,by omega,by go_num,(HZ.out.other (by first | omega | (simp<;> omega)) _),by rw [←upto_step rfl];exact (HR.out.set k _),(hbel.setCell (by first | omega | (simp<;> omega)) _)⟩
   case measure=> simp [intOf] <;> omega
  ·obtain rfl:k=17:=by omega
   go_wp2_with (first
    | (refine load_arr rfl 134 _ rfl .u32 (w.heap.size+2) 17 _ 99 Try.underlying134 Try.size134 rfl hR ?_)
    | (refine store_arr rfl 134 _ _ rfl .u32 (w.heap.size+1) 17 (fun _=> 0) _ Try.size134 rfl rfl hZ ?_))
   refine bodyPost_ret (results_arr rfl _ _ .u32 (w.heap.size+1) 17 _ 99 rfl (hZ.setRow _ _) Try.underlying134 Try.size134) rfl ⟨?_,below_setRow' hbel (by omega) _⟩
   rw [arr_congr (upto_full _ _ (Nat.le_refl _))]
theorem plain_any (X:Int) (w:World):
  Calls Try.prog 91 #[.agg (arr .u32 17 (dg 256 X))] w fun e w'=> e=.returned (.agg (arr .u8 17 (dg 256 X)))∧Below w.heap.size w w':=by
 go_enter Try.func91,Try.ntmps91
 go_wp2_with (refine load_arr rfl 134 _ rfl .u32 w.heap.size 17 (dg 256 X) 99 Try.underlying134 Try.size134 rfl (Arr.alloc (Arr.alloc (Arr.newAt rfl rfl) _) _) ?_)
 go_loopw [7] (fun i wr=> ∃k:Nat,k≤17∧i=.int .i64 k∧Arr .u8 wr (w.heap.size+1) 17 (fun _=> 0)∧Arr .u8 wr (w.heap.size+2) 17 (upto k (dg 256 X) (fun _=> 0))∧Below w.heap.size w wr) (fun i _=> 17 - (intOf i).toNat)
 case atStart=> exact ⟨0,Nat.zero_le _,rfl,Arr.alloc (Arr.newAt (by first | omega | (simp<;> omega)) (by rfl)) _,by rw [upto_zero];exact Arr.newAt (by first | omega | (simp<;> omega)) (by rfl),(((Below.refl _ _).alloc (Nat.le_refl _) _).alloc (by simp) _).alloc (by simp;omega) _⟩
 case round=>
  obtain ⟨k,hk,rfl,hZ,hR,hbel⟩:=hrel
  by_cases hlt:k<17
  ·have e3:=hR.cell k (by omega)
   have f3:=hR.free k
   obtain ⟨b0,b1⟩:=dg_bound (by decide:(0:Int)<256) X k
   have hix:=run_index_arr (f:=dg 256 X) Try.underlying134 Try.underlying99 Try.size99 k hlt
   have HZ:=Lib.hid hZ
   have HR:=Lib.hid hR
   clear hZ hR
   go_wp2
   go_roundw
   case rel=> exact ⟨k+1,by omega,by go_num,(HZ.out.other (by first | omega | (simp<;> omega)) _),by rw [←upto_step rfl];exact (HR.out.set k _),(hbel.setCell (by first | omega | (simp<;> omega)) _)⟩
   case measure=> simp [intOf] <;> omega
  ·obtain rfl:k=17:=by omega
   go_wp2_with (first
    | (refine load_arr rfl 129 _ rfl .u8 (w.heap.size+2) 17 _ 5 Try.underlying129 Try.size129 rfl hR ?_)
    | (refine store_arr rfl 129 _ _ rfl .u8 (w.heap.size+1) 17 (fun _=> 0) _ Try.size129 rfl rfl hZ ?_))
   refine bodyPost_ret (results_arr rfl _ _ .u8 (w.heap.size+1) 17 _ 5 rfl (hZ.setRow _ _) Try.underlying129 Try.size129) rfl ⟨?_,below_setRow' hbel (by omega) _⟩
   rw [arr_congr (upto_full _ _ (Nat.le_refl _))]
theorem sumP_any (A B:Int) (w:World):
  Calls Try.prog 84 #[.agg (arr .u32 17 (dg 256 A)),.agg (arr .u32 17 (dg 256 B))] w fun e w'=> e=.returned (.agg (arr .u32 17 (dg 256 (A+B))))∧Below w.heap.size w w':=by
 go_enter Try.func84,Try.ntmps84
 go_wp2
 go_loopw [5,7] (fun x i wr=> ∃(k:Nat) (c:Int),k≤17∧c=cu (fun i=> dg 256 A i+dg 256 B i) k∧x=.int .u32 c∧i=.int .i64 k∧Arr .u32 wr w.heap.size 17 (upto k (dg 256 (A+B)) (dg 256 A))∧Arr .u32 wr (w.heap.size+1) 17 (dg 256 B)∧Arr .u32 wr (w.heap.size+2) 17 (fun _=> 0)∧Below w.heap.size w wr) (fun _ i _=> 17 - (intOf i).toNat)
 case atStart=> exact ⟨0,0,Nat.zero_le _,rfl,rfl,rfl,by rw [upto_zero];exact Arr.alloc (Arr.alloc (Arr.newAt (by first | omega | (simp<;> omega)) rfl) _) _,Arr.alloc (Arr.newAt (by first | omega | (simp<;> omega)) rfl) _,Arr.newAt (by first | omega | (simp<;> omega)) rfl,(((Below.refl _ _).alloc (Nat.le_refl _) _).alloc (by simp) _).alloc (by simp;omega) _⟩
 case round=>
  obtain ⟨k,c,hk,hc,rfl,rfl,hA,hY,hZ,hbel⟩:=hrel
  by_cases hlt:k<17
  ·have e1:=hA.cell k hlt
   rw [upto_at] at e1
   have e2:=hY.cell k hlt
   have f1:=hA.free k
   have HA:=Lib.hid hA
   have HYA:=Lib.hid hY
   have HZ:=Lib.hid hZ
   have hcb:=cu_two A B k hk
   rw [←hc] at hcb
   obtain ⟨c0,c1⟩:=hcb
   obtain ⟨b0,b1⟩:=dg_bound (by decide:(0:Int)<256) A k
   obtain ⟨b2,b3⟩:=dg_bound (by decide:(0:Int)<256) B k
   have S1:=Lib.hid (cu_sum A B hlt)
   have S2:=Lib.hid (show cu (fun i=> dg 256 A i+dg 256 B i) (k+1)=(dg 256 A k+dg 256 B k+cu (fun i=> dg 256 A i+dg 256 B i) k) / 256 from rfl)
   rw [←hc] at S1 S2
   obtain ⟨x,hx⟩:∃x,x=dg 256 A k:=⟨_,rfl⟩
   obtain ⟨y,hy⟩:∃y,y=dg 256 B k:=⟨_,rfl⟩
   rw [←hx] at e1 b0 b1 S1 S2
   rw [←hy] at e2 b2 b3 S1 S2
   have HX:=Lib.hid hx
   have hand:=and8_u32 (x:=c+(x+y)) (by omega) (by omega)
   clear hA hY hZ hc hx hy
   go_wp2
   go_quiet (fail)
   go_wp2
   go_roundw
   case rel=> exact ⟨k+1,_,by omega,by rw [S2.out];omega,rfl,by go_num,by rw [←upto_step (show (c+(x+y)) % 256= _ by rw [←S1.out];omega)];exact (HA.out.drewN _).set k _,(HYA.out.drewN _).other (by simp) _,(HZ.out.drewN _).other (by simp) _,(below_drewN hbel _).setCell (Nat.le_refl _) _⟩
   case measure=> simp [intOf] <;> omega
  ·obtain rfl:k=17:=by omega
   clear hc
   go_wp2_with (first
    | (refine load_arr rfl 134 _ rfl .u32 w.heap.size 17 _ 99 Try.underlying134 Try.size134 rfl hA ?_)
    | (refine store_arr rfl 134 _ _ rfl .u32 (w.heap.size+2) 17 (fun _=> 0) _ Try.size134 rfl rfl hZ ?_))
   refine bodyPost_ret (results_arr rfl _ _ .u32 (w.heap.size+2) 17 _ 99 rfl (hZ.setRow _ _) Try.underlying134 Try.size134) rfl ⟨?_,below_setRow' hbel (by omega) _⟩
   rw [arr_congr (upto_full _ _ (Nat.le_refl _))]
theorem carryP_any (f:Nat→Int) (w:World) (hf:∀i,i<17→0≤f i∧f i≤832320000):
  Calls Try.prog 93 #[.agg (arr .u32 17 f)] w fun e w'=> e=.returned (.agg (arr .u32 17 (pd (fold5 (sm 256 f 17)))))∧Below w.heap.size w w':=by
 have HF:=Lib.hid hf
 have HC:=Lib.hid (cu_bound 17 hf (by decide))
 obtain ⟨V,hV⟩:∃V,V=sm 256 f 17:=⟨_,rfl⟩
 rw [←hV]
 have HV:=Lib.hid hV
 clear hf hV
 go_enter Try.func93,Try.ntmps93
 go_wp2
 go_loopw [3,6] (fun x i wr=> ∃(k:Nat) (c:Int),k≤16∧c=cu f k∧x=.int .u32 c∧i=.int .i64 k∧Arr .u32 wr w.heap.size 17 (upto k (fun i=> (f i+cu f i) % 256) f)∧Arr .u32 wr (w.heap.size+1) 17 (fun _=> 0)∧Below w.heap.size w wr) (fun _ i _=> 16 - (intOf i).toNat)
 case atStart=> exact ⟨0,0,Nat.zero_le _,rfl,rfl,rfl,by rw [upto_zero];exact Arr.alloc (Arr.newAt (by first | omega | (simp<;> omega)) rfl) _,Arr.newAt (by first | omega | (simp<;> omega)) rfl,((Below.refl _ _).alloc (Nat.le_refl _) _).alloc (by simp) _⟩
 case round=>
  obtain ⟨k,c,hk,hc,rfl,rfl,hA,hZ,hbel⟩:=hrel
  have hcb:=HC.out k (by omega)
  rw [←hc] at hcb
  obtain ⟨c0,c1⟩:=hcb
  have e1:=hA.cell k (by omega)
  rw [upto_at] at e1
  have f1:=hA.free k
  have HA:=Lib.hid hA
  have HZ:=Lib.hid hZ
  obtain ⟨b0,b1⟩:=HF.out k (by omega)
  obtain ⟨x,hx⟩:∃x,x=f k:=⟨_,rfl⟩
  rw [←hx] at e1 b0 b1
  have HX:=Lib.hid hx
  have HCK:=Lib.hid hc
  by_cases hlt:k<16
  ·have hand:=and8_u32 (x:=c+x) (by omega) (by omega)
   clear hA hZ hc hx
   go_wp2
   go_roundw
   case rel=> exact ⟨k+1,_,by omega,by rw [show cu f (k+1)=(f k+cu f k) / 256 from rfl,←HX.out,←HCK.out];omega,rfl,by go_num,by rw [←upto_step (show (c+x) % 256=(f k+cu f k) % 256 by rw [←HX.out,←HCK.out];omega)];exact HA.out.set k _,HZ.out.other (by simp) _,hbel.setCell (Nat.le_refl _) _⟩
   case measure=> simp [intOf] <;> omega
  ·obtain rfl:k=16:=by omega
   clear hA hZ hc hx
   have hV:V=sm 256 f 17:=HV.out
   have ht:c+x=V / 256 ^ 16:=by rw [HX.out,HCK.out,hV,←cu_top];omega
   obtain ⟨t,htt⟩:∃t,t=c+x:=⟨_,rfl⟩
   have hand:=and2_u32 (x:=c+x) (by omega) (by omega)
   have HP:=Lib.hid (fold_parts V)
   rw [←ht] at HP
   have HL:=Lib.hid (fun i hi=> carry_low f hV (i:=i) hi)
   obtain ⟨L,hL⟩:∃L,L=V % 256 ^ 16:=⟨_,rfl⟩
   rw [←hL] at HP HL
   obtain ⟨b,hb⟩:∃b,b=5 * ((c+x) / 4):=⟨_,rfl⟩
   rw [←hb] at HP
   have hb0:0≤b:=by omega
   have hb1:b≤2080800000:=by omega
   have HB:=Lib.hid hb
   clear hV ht htt hL hb
   go_wp2
   go_loopw [3,31] (fun x2 i wr2=> ∃(j:Nat) (d:Int),j≤16∧d=carB L b j∧x2=.int .u32 d∧i=.int .i64 j∧Arr .u32 wr2 w.heap.size 17 (upto j (dg 256 (L+b)) (upd (dg 256 L) 16 ((c+x) % 4)))∧Arr .u32 wr2 (w.heap.size+1) 17 (fun _=> 0)∧Below w.heap.size w wr2) (fun _ i _=> 16 - (intOf i).toNat)
   case atStart=>
    refine ⟨0,b,Nat.zero_le _,(carB_zero L b).symm,by rw [HB.out],rfl,?_,HZ.out.other (by simp) _,hbel.setCell (Nat.le_refl _) _⟩
    rw [upto_zero]
    refine (HA.out.set 16 _).congr fun i hi=> ?_
    unfold upd
    split
    ·rfl
    ·rw [upto,if_pos (by omega)];exact HL.out i (by omega)
   case round=>
    obtain ⟨j,d,hj,hd,rfl,rfl,hA2,hZ2,hbel2⟩:=hrel
    obtain ⟨d0,d1⟩:=carB_bound (X:=L) hb0 j
    rw [←hd] at d0 d1
    have HD:=Lib.hid hd
    have q1:=hA2.cell j (by omega)
    rw [upto_at] at q1
    have q2:=hA2.free j
    have HA2:=Lib.hid hA2
    have HZ2:=Lib.hid hZ2
    by_cases hjt:j<16
    ·rw [upd_ne _ _ (by omega)] at q1
     obtain ⟨y0,y1⟩:=dg_bound (by decide:(0:Int)<256) L j
     have S:=Lib.hid (carB_step L b j)
     rw [←hd] at S
     obtain ⟨y,hy⟩:∃y,y=dg 256 L j:=⟨_,rfl⟩
     rw [←hy] at q1 y0 y1 S
     have hand2:=and8_u32 (x:=d+y) (by omega) (by omega)
     clear hA2 hZ2 hd hy e1 f1 hand
     go_wp2
     go_roundw
     case rel=> exact ⟨j+1,_,by omega,by rw [←S.out.2];omega,rfl,by go_num,by rw [←upto_step (show (d+y) % 256= _ by rw [←S.out.1];omega)];exact HA2.out.set j _,HZ2.out.other (by simp) _,hbel2.setCell (Nat.le_refl _) _⟩
     case measure=> simp [intOf] <;> omega
    ·obtain rfl:j=16:=by omega
     rw [upd_at] at q1
     have hfin:Arr .u32 (wr.setCell ⟨w.heap.size,16,none⟩ (.int .u32 ((c+x) % 4+d))) w.heap.size 17 (pd (fold5 V)):=by
      refine (HA2.out.set 16 _).congr fun i hi=> ?_
      by_cases hi16:i=16
      ·subst hi16;rw [upd_at,←HP.out.2,HD.out]
      ·rw [upd_ne _ _ hi16,upto,if_pos (by omega)];exact HP.out.1 i (by omega)
     have hZ3:Arr .u32 (wr.setCell ⟨w.heap.size,16,none⟩ (.int .u32 ((c+x) % 4+d))) (w.heap.size+1) 17 (fun _=> 0):=HZ2.out.other (by simp) _
     have hb3:=hbel2.setCell (p:=⟨w.heap.size,16,none⟩) (Nat.le_refl _) (.int .u32 ((c+x) % 4+d))
     clear hA2 hZ2 hd e1 f1 hand
     go_wp2_with (first
      | (refine load_arr rfl 134 _ rfl .u32 w.heap.size 17 _ 99 Try.underlying134 Try.size134 rfl hfin ?_)
      | (refine store_arr rfl 134 _ _ rfl .u32 (w.heap.size+1) 17 (fun _=> 0) _ Try.size134 rfl rfl hZ3 ?_))
     exact bodyPost_ret (results_arr rfl _ _ .u32 (w.heap.size+1) 17 _ 99 rfl (hZ3.setRow _ _) Try.underlying134 Try.size134) rfl ⟨rfl,below_setRow' hb3 (by omega) _⟩
end Go.Proofs.Ytpcjekgfnfjbpaa
