/-
  Part 30 of the texts that the proof of BoxUnwraps rests on, one after the other. Conditions: named in each theorem.
-/
import Derived.Test.YtdhejcaapdhhfaaGreatPkBoxUnwraps29
import Derived.Test.YtdhejcaapdhhfaaGreatPkBoxUnwraps3
import Derived.Test.YtdhejcaapdhhfaaGreatPkBoxUnwraps2
import Derived.Test.YtdhejcaapdhhfaaGreatPkBoxUnwraps4
import Derived.Test.YtdhejcaapdhhfaaGreatPkBoxUnwraps10
import Derived.Test.YtdhejcaapdhhfaaGreatPkBoxUnwraps8
import Derived.BigQuiet
import Derived.ChangeKeysEq
import Derived.Deep.Cut
import Derived.Deep.DrawnRows
import Derived.Deep.QuietTactic
import Derived.Deep.RegionHeld3
import Derived.Deep.WholeRow
import Derived.Laws.CopyOwn
import Derived.Laws.StructEq
import Derived.Lib.Hide
import Derived.Maps.AppendAt
import Derived.Maps.Range
import Derived.Orders
import Derived.Test.YtdhejcaapdhhfaaGreatArr
import Derived.Test.YtdhejcaapdhhfaaGreatFlow
import Derived.Test.YtdhejcaapdhhfaaGreatKit
import Derived.Test.YtdhejcaapdhhfaaGreatRows
import Derived.WalkKit
import Derived.WalkLawsBesides
import Derived.WalkSmall
import Derived.WalkSpells
set_option linter.unusedVariables false
set_option linter.unusedSimpArgs false
set_option maxRecDepth 100000
set_option maxHeartbeats 25600000
namespace Go.Bas
theorem sm_top {f:Nat→Int} (hf:∀i,i<17→0≤f i∧f i≤832320000):0≤sm 256 f 17∧sm 256 f 17<2 ^ 130 * 1000000000:=by
 have h1:=cu_top f 16
 have h2:=cu_bound 17 hf (by decide) 16 (by decide)
 have h3:=hf 16 (by decide)
 rw [p130]
 have h4:=Int.emod_add_mul_ediv (sm 256 f 17) (256 ^ 16)
 have h5:=Int.emod_nonneg (sm 256 f 17) (show (256:Int) ^ 16≠0 by decide)
 have h6:=Int.emod_lt_of_pos (sm 256 f 17) (show (0:Int)<256 ^ 16 by decide)
 rw [←h1] at h4
 have h7:(256:Int) ^ 16=340282366920938463463374607431768211456:=by decide
 rw [h7] at *
 omega
theorem pd_small {U:Int} (h0:0≤U) (h1:U<2 ^ 130+5000000000):∀i,i<17→0≤pd U i∧pd U i≤300:=by
 intro i hi
 by_cases e:i<16
 ·rw [pd_low _ e];have:=dg_bound (by decide:(0:Int)<256) U i;omega
 ·obtain rfl:i=16:=by omega
  rw [pd_top]
  have h2:U / 256 ^ 16<5:=Int.ediv_lt_of_lt_mul (by decide) (Int.lt_trans h1 (by decide))
  have h3:=Int.ediv_nonneg h0 (show (0:Int)≤256 ^ 16 by decide)
  omega
def LL:Int:=256 ^ 17 - PP
theorem less_yes {W:Int} (h0:PP≤W) (h1:W<2 ^ 130):(∀i,i<17→dg 256 (W+LL) i=dg 256 (W % PP) i)∧dg 256 (W+LL) 16=0:=by
 have e:W % PP=W - PP:=by
  have:W % PP=(W - PP) % PP:=by rw [Int.sub_emod,Int.emod_self,Int.sub_zero,Int.emod_emod]
  rw [this]
  exact Int.emod_eq_of_lt (by omega) (by (have:(2:Int) ^ 130<PP+PP:=by decide);omega)
 have k:∀i,i<17→dg 256 (W+LL) i=dg 256 (W % PP) i:=by
  intro i hi
  rw [e,←dg_add (by decide) (W - PP) 1 17 i hi]
  congr 1
  unfold LL;omega
 refine ⟨k,?_⟩
 rw [k 16 (by decide),e]
 refine dg_small ⟨by omega,?_⟩
 have:(2:Int) ^ 130=PP+5:=by decide
 have:(5:Int)<256 ^ 16:=by decide
 omega
theorem less_no {W:Int} (h0:0≤W) (h1:W<PP):252≤dg 256 (W+LL) 16∧dg 256 (W+LL) 16<256:=by
 refine ⟨?_,(dg_bound (by decide) _ _).2⟩
 unfold dg LL
 have e:(256:Int) ^ 17 - PP=252 * 256 ^ 16+5:=by decide
 have e2:PP=4 * 256 ^ 16 - 5:=by decide
 rw [e]
 rw [e2] at h1
 have h7:(256:Int) ^ 16=340282366920938463463374607431768211456:=by decide
 rw [h7] at *
 omega
theorem and128_yes:bits .and .u32 0 128=0:=by decide
theorem and128_no {x:Int} (h0:252≤x) (h1:x<256):bits .and .u32 x 128=128:=by
 obtain rfl | rfl | rfl | rfl:x=252∨x=253∨x=254∨x=255:=by omega
 all_goals decide
theorem prodS_first (f g:Nat→Int) (i:Nat):prodS f g i 0=0:=rfl
theorem prodS_low (f g:Nat→Int) {i j:Nat} (h:j≤i):prodS f g i (j+1)=prodS f g i j+f j * g (i - j):=by rw [prodS,rowP,if_pos h]
theorem prodS_high (f g:Nat→Int) {i j:Nat} (h:¬ j≤i):prodS f g i (j+1)=prodS f g i j+320 * f j * g (i+17 - j):=by rw [prodS,rowP,if_neg h];grind
end Go.Bas
namespace Go.Proofs.YtdhejcaapdhhfaaGreat
open Go.RowKit Go.Bas
attribute [local go_sem ↓] Go.wp_at_zero Go.wp_at_succ
def prodK (f g:Nat→Int) (k:Nat):Nat→Int:=fun m=> if m<k then prodS f g m 17 else 0
theorem prodK_start (f g:Nat→Int) (k i:Nat):prodK f g k i=upd (prodK f g k) k (prodS f g k 0) i:=by
 unfold upd;split
 ·next h=> subst h;rw [prodK,if_neg (by omega),prodS_first]
 ·rfl
theorem prodK_end (f g:Nat→Int) (k i:Nat):upd (prodK f g k) k (prodS f g k 17) i=prodK f g (k+1) i:=by
 unfold upd prodK;split
 ·next h=> subst h;rw [if_pos (by omega)]
 ·by_cases e:i<k
  ·rw [if_pos e,if_pos (by omega)]
  ·rw [if_neg e,if_neg (by omega)]
theorem product_any (f g:Nat→Int) (w:World) (hf:∀i,i<17→0≤f i∧f i≤600) (hg:∀i,i<17→0≤g i∧g i≤255):
  Calls Tryz.prog 161 #[.agg (arr .u32 17 f),.agg (arr .u32 17 g)] w fun e w'=> e=.returned (.agg (arr .u32 17 (pd (fold5 (sm 256 (fun i=> prodS f g i 17) 17)))))∧Below w.heap.size w w':=by
 have HF:=Lib.hid hf
 have HG:=Lib.hid hg
 have HP:=Lib.hid (fun i hi=> prodS_bound hf hg i hi)
 clear hf hg
 go_enter Tryz.func161,Tryz.ntmps161
 go_wp2
 go_loopw [9] (fun i wr=> ∃k:Nat,k≤17∧i=.int .i64 k∧Arr .u32 wr w.heap.size 17 f∧Arr .u32 wr (w.heap.size+1) 17 g∧Arr .u32 wr (w.heap.size+2) 17 (fun _=> 0)∧Arr .u32 wr (w.heap.size+3) 17 (prodK f g k)∧Below w.heap.size w wr) (fun i _=> 17 - (intOf i).toNat)
 case atStart=>
  refine ⟨0,Nat.zero_le _,rfl,?_,?_,?_,?_,?_⟩
  ·exact Arr.alloc (Arr.alloc (Arr.alloc (Arr.newAt rfl rfl) _) _) _
  ·exact Arr.alloc (Arr.alloc (Arr.newAt (by simp) rfl) _) _
  ·exact Arr.alloc (Arr.newAt (by simp) (by rfl)) _
  ·exact Arr.congr (f:=fun _=> 0) (Arr.newAt (by simp) rfl) (fun i _=> by unfold prodK;rw [if_neg (by omega)])
  ·exact ((((Below.refl _ _).alloc (Nat.le_refl _) _).alloc (by simp) _).alloc (by simp;omega) _).alloc (by simp;omega) _
 case round=>
  obtain ⟨k,hk,rfl,hA,hG,hZ,hR,hbel⟩:=hrel
  by_cases hlt:k<17
  ·go_wp2_with (refine load_arr rfl 185 _ rfl .u32 w.heap.size 17 f 120 Tryz.underlying185 Tryz.size185 rfl hA ?_)
   have HA1:=Lib.hid hA
   have HG1:=Lib.hid hG
   have HZ1:=Lib.hid hZ
   have HR1:=Lib.hid (hR.congr fun i _=> prodK_start f g k i)
   have HB1:=Lib.hid hbel
   clear hA hG hZ hR hbel
   go_loopw [13] (fun i wr=> ∃j:Nat,j≤17∧i=.int .i64 j∧Arr .u32 wr w.heap.size 17 f∧Arr .u32 wr (w.heap.size+1) 17 g∧Arr .u32 wr (w.heap.size+2) 17 (fun _=> 0)∧Arr .u32 wr (w.heap.size+3) 17 (upd (prodK f g k) k (prodS f g k j))∧Below w.heap.size w wr) (fun i _=> 17 - (intOf i).toNat)
   case atStart=> exact ⟨0,Nat.zero_le _,rfl,HA1.out,HG1.out,HZ1.out,HR1.out,HB1.out⟩
   case round=>
    obtain ⟨j,hj,rfl,hA,hG,hZ,hR,hbel⟩:=hrel
    by_cases hjt:j<17
    ·have hix:=run_index_arr (f:=f) Tryz.underlying185 Tryz.underlying120 Tryz.size120 j hjt
     have e1:=hR.cell k hlt
     rw [upd_at] at e1
     have f1:=hR.free k
     obtain ⟨o0,o1⟩:=HP.out k hlt j hj
     obtain ⟨p0,p1⟩:=HP.out k hlt (j+1) (by omega)
     obtain ⟨x0,x1⟩:=HF.out j hjt
     by_cases hjk:j≤k
     ·have S:=Lib.hid (prodS_low f g hjk)
      obtain ⟨d,hd⟩:∃d:Nat,(k:Int) - (j:Int)=d:=⟨k - j,by omega⟩
      have hdk:d=k - j:=by omega
      have hd17:d<17:=by omega
      have e2:=hG.cell d hd17
      obtain ⟨y0,y1⟩:=HG.out d hd17
      rw [←hdk] at S
      obtain ⟨o,ho⟩:∃o,o=prodS f g k j:=⟨_,rfl⟩
      obtain ⟨x,hx⟩:∃x,x=f j:=⟨_,rfl⟩
      obtain ⟨y,hy⟩:∃y,y=g d:=⟨_,rfl⟩
      rw [←hx] at x0 x1 hix S
      rw [←hy] at y0 y1 e2 S
      rw [←ho] at o0 o1 e1 S
      have m0:=Int.mul_nonneg x0 y0
      have m1:x * y≤600 * 255:=Int.mul_le_mul x1 y1 y0 (by decide)
      obtain ⟨z,hz⟩:∃z,x * y=z:=⟨_,rfl⟩
      rw [hz] at m0 m1 S
      have HA2:=Lib.hid hA
      have HG2:=Lib.hid hG
      have HZ2:=Lib.hid hZ
      have HR2:=Lib.hid hR
      clear hA hG hZ hR ho hx hy hdk p0 p1
      go_wp2
      go_region
      all_goals
       go_wp2
       go_roundw
       case rel=> exact ⟨j+1,by omega,by go_num,(HA2.out.other (by first | omega | (simp<;> omega)) _).drew,(HG2.out.other (by first | omega | (simp<;> omega)) _).drew,(HZ2.out.other (by first | omega | (simp<;> omega)) _).drew,((HR2.out.set k (o+z)).drew).congr (fun i _=> by rw [upd_upd,S.out]),(hbel.setCell (by first | omega | (simp<;> omega)) _).drew⟩
       case measure=> simp [intOf] <;> omega
     ·have S:=Lib.hid (prodS_high f g hjk)
      obtain ⟨d,hd⟩:∃d:Nat,(k:Int)+17 - (j:Int)=d:=⟨k+17 - j,by omega⟩
      have hdk:d=k+17 - j:=by omega
      have hd17:d<17:=by omega
      have e2:=hG.cell d hd17
      obtain ⟨y0,y1⟩:=HG.out d hd17
      rw [←hdk] at S
      obtain ⟨o,ho⟩:∃o,o=prodS f g k j:=⟨_,rfl⟩
      obtain ⟨x,hx⟩:∃x,x=f j:=⟨_,rfl⟩
      obtain ⟨y,hy⟩:∃y,y=g d:=⟨_,rfl⟩
      rw [←hx] at x0 x1 hix S
      rw [←hy] at y0 y1 e2 S
      rw [←ho] at o0 o1 e1 S
      have m0:=Int.mul_nonneg (show 0≤320 * x by omega) y0
      have m1:320 * x * y≤192000 * 255:=Int.mul_le_mul (by omega) y1 y0 (by decide)
      obtain ⟨z,hz⟩:∃z,320 * x * y=z:=⟨_,rfl⟩
      rw [hz] at m0 m1 S
      have HA2:=Lib.hid hA
      have HG2:=Lib.hid hG
      have HZ2:=Lib.hid hZ
      have HR2:=Lib.hid hR
      clear hA hG hZ hR ho hx hy hdk p0 p1
      go_wp2
      go_region
      all_goals
       go_wp2
       go_roundw
       case rel=> exact ⟨j+1,by omega,by go_num,(HA2.out.other (by first | omega | (simp<;> omega)) _).drew,(HG2.out.other (by first | omega | (simp<;> omega)) _).drew,(HZ2.out.other (by first | omega | (simp<;> omega)) _).drew,((HR2.out.set k (o+z)).drew).congr (fun i _=> by rw [upd_upd,S.out]),(hbel.setCell (by first | omega | (simp<;> omega)) _).drew⟩
       case measure=> simp [intOf] <;> omega
    ·obtain rfl:j=17:=by omega
     go_wp2_with fail
     go_roundw
     case rel=> exact ⟨k+1,by omega,by go_num,hA,hG,hZ,hR.congr fun i _=> prodK_end f g k i,hbel⟩
     case measure=> simp [intOf] <;> omega
  ·obtain rfl:k=17:=by omega
   have hR2:=hR.congr (g:=fun i=> prodS f g i 17) fun i hi=> if_pos hi
   clear hR
   go_wp2_with (refine load_arr rfl 185 _ rfl .u32 (w.heap.size+3) 17 _ 120 Tryz.underlying185 Tryz.size185 rfl hR2 ?_)
   refine (carryP_any (fun i=> prodS f g i 17) _ (fun i hi=> by have:=HP.out i hi 17 (Nat.le_refl _);omega)).mono ?_
   rintro e w1 ⟨rfl,hb1⟩
   have hZ1:=hZ.kept hb1
   have hb2:=hbel.trans (hb1.mono hbel.size)
   clear hR2 hA hG hZ hb1 hbel
   go_wp2_with (refine store_arr rfl 185 _ _ rfl .u32 (w.heap.size+2) 17 (fun _=> 0) _ Tryz.size185 rfl rfl hZ1 ?_)
   exact bodyPost_ret (results_arr rfl _ _ .u32 (w.heap.size+2) 17 _ 120 rfl (hZ1.setRow _ _) Tryz.underlying185 Tryz.size185) rfl ⟨rfl,below_setRow' hb2 (by omega) _⟩
theorem build_less {a:Act} (w:World):(Instr.build 185 ((#[(0,Operand.const (.int .u32 5)),(16,Operand.const (.int .u32 252))] :Array (Nat × Operand)).map fun (i,x)=> (i,a.eval x))).run Tryz.prog w=.ok (.agg (arr .u32 17 (dg 256 LL))) w:=by
 simp only [List.map_toArray,List.map_nil,List.map_cons,Act.eval]
 rw [Go.run_build w _ _ #[.int .u32 5,.int .u32 0,.int .u32 0,.int .u32 0,.int .u32 0,.int .u32 0,.int .u32 0,.int .u32 0,.int .u32 0,.int .u32 0,.int .u32 0,.int .u32 0,.int .u32 0,.int .u32 0,.int .u32 0,.int .u32 0,.int .u32 252] (by kernel_rfl)]
 have e:(#[.int .u32 5,.int .u32 0,.int .u32 0,.int .u32 0,.int .u32 0,.int .u32 0,.int .u32 0,.int .u32 0,.int .u32 0,.int .u32 0,.int .u32 0,.int .u32 0,.int .u32 0,.int .u32 0,.int .u32 0,.int .u32 0,.int .u32 252] :Array Value)=arr .u32 17 (dg 256 LL):=by kernel_rfl
 rw [e]
theorem reduced_any (f:Nat→Int) (w:World) (hf:∀i,i<17→0≤f i∧f i≤832320000):
  Calls Tryz.prog 162 #[.agg (arr .u32 17 f)] w fun e w'=> e=.returned (.agg (arr .u32 17 (dg 256 (sm 256 f 17 % PP))))∧Below w.heap.size w w':=by
 have hV:=sm_top hf
 have HF:=Lib.hid hf
 clear hf
 obtain ⟨V,hVe⟩:∃V,V=sm 256 f 17:=⟨_,rfl⟩
 rw [←hVe] at hV ⊢
 have hU:=fold5_bound hV.1 hV.2
 have hW:=fold5_twice hU.1 hU.2
 have hWV:fold5 (fold5 V) % PP=V % PP:=by rw [fold5_mod,fold5_mod]
 have HU:=Lib.hid (pd_small hU.1 hU.2)
 have HC1:Hid (∀w:World,Calls Tryz.prog 180 #[.agg (arr .u32 17 f)] w fun e w'=> e=.returned (.agg (arr .u32 17 (pd (fold5 V))))∧Below w.heap.size w w'):=by
  intro w;rw [hVe];exact carryP_any f w HF.out
 have HC2:Hid (∀w:World,Calls Tryz.prog 180 #[.agg (arr .u32 17 (pd (fold5 V)))] w fun e w'=> e=.returned (.agg (arr .u32 17 (dg 256 (fold5 (fold5 V)))))∧Below w.heap.size w w'):=by
  intro w
  have h:=carryP_any (pd (fold5 V)) w (fun i hi=> by have:=HU.out i hi;omega)
  rw [sm_pd,arr_congr (pd_dg hW.1 (Int.lt_trans hW.2 (by decide)))] at h
  exact h
 obtain ⟨W,hWe⟩:∃W,W=fold5 (fold5 V):=⟨_,rfl⟩
 rw [←hWe] at hW hWV HC2
 rw [←hWV]
 clear hWe hWV hU hVe hV HU
 have HWB:=Lib.hid hW
 clear hW
 go_enter Tryz.func162,Tryz.ntmps162
 go_wp2_with (refine load_arr rfl 185 _ rfl .u32 w.heap.size 17 f 120 Tryz.underlying185 Tryz.size185 rfl (Arr.alloc (Arr.newAt rfl rfl) _) ?_)
 refine (HC1.out _).mono ?_
 rintro e w1 ⟨rfl,hb1⟩
 go_wp2_with fail
 refine (HC2.out _).mono ?_
 rintro e w2 ⟨rfl,hb2⟩
 have hA:Arr .u32 w2 w.heap.size 17 f:=Arr.kept (Arr.kept (Arr.alloc (Arr.newAt rfl rfl) _) hb1) hb2
 have hZ:Arr .u32 w2 (w.heap.size+1) 17 (fun _=> 0):=Arr.kept (Arr.kept (Arr.newAt (by first | omega | (simp<;> omega)) rfl) hb1) hb2
 have hbel:Below w.heap.size w w2:=((((Below.refl _ _).alloc (Nat.le_refl _) _).alloc (by simp) _).trans (hb1.mono (by simp;omega))).trans (hb2.mono (by have:=hb1.size;simp at this;omega))
 clear hb1 hb2
 go_upto_region 2 with (refine store_arr rfl 185 _ _ rfl .u32 w.heap.size 17 f _ Tryz.size185 rfl rfl hA ?_)
 refine wp_world (fun w3=> Arr .u32 w3 w.heap.size 17 (dg 256 W)∧Arr .u32 w3 (w.heap.size+1) 17 (fun _=> 0)∧Below w.heap.size w w3)
  ⟨hA.setRow _ _,hZ.setRowOther _ (by omega) _,below_setRow' hbel (Nat.le_refl _) _⟩ ?_
 rintro w3 ⟨hA3,hZ3,hb3⟩
 clear hA hZ hbel
 go_wp2_with (first
  | (refine load_arr rfl 185 _ rfl .u32 w.heap.size 17 _ 120 Tryz.underlying185 Tryz.size185 rfl hA3 ?_)
  | (refine step_val rfl (run_built rfl (build_less _)) ?_))
 refine (sumP_any W LL _).mono ?_
 rintro e w4 ⟨rfl,hb4⟩
 have hA4:=hA3.kept hb4
 have hZ4:=hZ3.kept hb4
 have hbel4:=hb3.trans (hb4.mono hb3.size)
 have la:=hA4.lt
 have lz:=hZ4.lt
 have hs4:=hbel4.size
 clear hA3 hZ3 hb3 hb4
 go_upto_region 3 with (refine store_arr rfl 185 _ _ rfl .u32 w4.heap.size 17 (fun _=> 0) _ Tryz.size185 rfl rfl (Arr.newAt rfl rfl) ?_)
 refine wp_world (fun w5=> Arr .u32 w5 w4.heap.size 17 (dg 256 (W+LL))∧Arr .u32 w5 w.heap.size 17 (dg 256 W)∧Arr .u32 w5 (w.heap.size+1) 17 (fun _=> 0)∧Below w.heap.size w w5)
  ⟨Arr.setRow (Arr.newAt (n:=17) (f:=fun _=> 0) rfl rfl) _ _,Arr.setRowOther (Arr.alloc hA4 _) _ (by omega) _,Arr.setRowOther (Arr.alloc hZ4 _) _ (by omega) _,below_setRow' (hbel4.alloc hs4 _) hs4 _⟩ ?_
 rintro w5 ⟨hT,hA5,hZ5,hb5⟩
 clear hA4 hZ4 hbel4
 have e1:=hT.cell 16 (by decide)
 by_cases hlt:W<PP
 ·obtain ⟨d0,d1⟩:=less_no HWB.out.1 hlt
  have hand:=and128_no d0 d1
  obtain ⟨d,hd⟩:∃d,d=dg 256 (W+LL) 16:=⟨_,rfl⟩
  rw [←hd] at e1 hand d0 d1
  have HE:=Lib.hid (Int.emod_eq_of_lt HWB.out.1 hlt)
  clear hd hlt hT
  go_wp2_with (first
   | (refine load_arr rfl 185 _ rfl .u32 w.heap.size 17 _ 120 Tryz.underlying185 Tryz.size185 rfl hA5 ?_)
   | (refine store_arr rfl 185 _ _ rfl .u32 (w.heap.size+1) 17 (fun _=> 0) _ Tryz.size185 rfl rfl hZ5 ?_))
  exact bodyPost_ret (results_arr rfl _ _ .u32 (w.heap.size+1) 17 _ 120 rfl (hZ5.setRow _ _) Tryz.underlying185 Tryz.size185) rfl ⟨by rw [HE.out],below_setRow' hb5 (by omega) _⟩
 ·have hy:=less_yes (Int.not_lt.1 hlt) HWB.out.2
  have HY:=Lib.hid hy.1
  rw [hy.2] at e1
  have hand:=and128_yes
  clear hy hlt hA5
  go_wp2_with (first
   | (refine load_arr rfl 185 _ rfl .u32 w4.heap.size 17 _ 120 Tryz.underlying185 Tryz.size185 rfl hT ?_)
   | (refine store_arr rfl 185 _ _ rfl .u32 (w.heap.size+1) 17 (fun _=> 0) _ Tryz.size185 rfl rfl hZ5 ?_))
  refine bodyPost_ret (results_arr rfl _ _ .u32 (w.heap.size+1) 17 _ 120 rfl (hZ5.setRow _ _) Tryz.underlying185 Tryz.size185) rfl ⟨?_,below_setRow' hb5 (by omega) _⟩
  rw [arr_congr HY.out]
end Go.Proofs.YtdhejcaapdhhfaaGreat
namespace Go.Bas
theorem one_part (A:Int) (hA:0≤A∧A<256 ^ 17):sm 256 (dg 256 A) 17=A:=by rw [sm_dg (by decide),Int.emod_eq_of_lt hA.1 hA.2]
theorem modPP (A:Int):0≤A % PP∧A % PP<256 ^ 17:=⟨Int.emod_nonneg A (by decide),Int.lt_trans (Int.emod_lt_of_pos A (by decide)) (by decide)⟩
theorem prod_mod (f g:Nat→Int):sm 256 (pd (fold5 (sm 256 (fun i=> prodS f g i 17) 17))) 17 % PP=sm 256 f 17 * sm 256 g 17 % PP:=by rw [sm_pd,fold5_mod,prodS_mod f g 17 (Nat.le_refl _)]
theorem prod_small {f g:Nat→Int} (hf:∀i,i<17→0≤f i∧f i≤600) (hg:∀i,i<17→0≤g i∧g i≤255):∀i,i<17→0≤pd (fold5 (sm 256 (fun i=> prodS f g i 17) 17)) i∧pd (fold5 (sm 256 (fun i=> prodS f g i 17) 17)) i≤300:=by
 have h:=sm_top (f:=fun i=> prodS f g i 17) (fun i hi=> by have:=prodS_bound hf hg i hi 17 (Nat.le_refl _);omega)
 have h2:=fold5_bound h.1 h.2
 exact pd_small h2.1 h2.2
theorem dg_le (A:Int) (i:Nat):0≤dg 256 A i∧dg 256 A i≤255:=by have:=dg_bound (by decide:(0:Int)<256) A i;omega
end Go.Bas
namespace Go.Proofs.YtdhejcaapdhhfaaGreat
open Go.RowKit Go.Bas
attribute [local go_sem ↓] Go.wp_at_zero Go.wp_at_succ
theorem reduced_dg (A:Int) (hA:0≤A∧A<256 ^ 17) (w:World):
  Calls Tryz.prog 162 #[.agg (arr .u32 17 (dg 256 A))] w fun e w'=> e=.returned (.agg (arr .u32 17 (dg 256 (A % PP))))∧Below w.heap.size w w':=by
 have h:=reduced_any (dg 256 A) w (fun i _=> by have:=dg_le A i;omega)
 rw [one_part A hA] at h
 exact h
end Go.Proofs.YtdhejcaapdhhfaaGreat
namespace Go.Bas
def onceP (X:Int):Int:=if PP≤X then X - PP else X
theorem onceP_half (X:Int) (m:Nat):onceP (2 * (X / 2 ^ (m+1) % PP)+X / 2 ^ m % 2)=X / 2 ^ m % PP:=by
 have h:=half X m
 generalize X / 2 ^ (m+1)=Y at h
 generalize X / 2 ^ m=Z at h
 unfold onceP PP
 split<;> omega
theorem onceP_bound (Y b:Int) (hb:0≤b∧b≤1):0≤2 * (Y % PP)+b∧2 * (Y % PP)+b<65536 ^ 10:=by
 have h1:=Int.emod_nonneg Y (by decide:PP≠0)
 have h2:=Int.emod_lt_of_pos Y (by decide:0<PP)
 have h3:(2:Int) * PP<65536 ^ 10:=by decide
 omega
theorem PP10:0≤PP∧PP<65536 ^ 10:=by decide
theorem low_bitP (Y:Int) (b:Nat) (h:b<16):Y % 65536 / 2 ^ b % 2=Y / 2 ^ b % 2:=by
 have hp:(0:Int)<2 ^ b:=Int.pow_pos (by decide)
 have e:(65536:Int)=2 ^ b * (2 ^ (15 - b) * 2):=by
  rw [←Int.pow_succ,←Int.pow_add,show b+(15 - b+1)=16 by omega];rfl
 have h1:=Int.emod_add_mul_ediv Y 65536
 rw [e] at h1 ⊢
 generalize hr:Y % (2 ^ b * (2 ^ (15 - b) * 2))=r at h1 ⊢
 generalize Y / (2 ^ b * (2 ^ (15 - b) * 2))=q at h1
 rw [←h1,Int.mul_assoc,Int.mul_comm (2 ^ b),Int.add_mul_ediv_right _ _ (by omega),Int.mul_comm (2 ^ (15 - b)),Int.mul_assoc,Int.add_mul_emod_self_left]
theorem mod_halfP (X:Int) (m b:Nat) (h:b<16):onceP (2 * (X / 65536 ^ m / 2 ^ (b+1) % PP)+dg 65536 X m / ((2 ^ b:Nat):Int) % 2)=X / 65536 ^ m / 2 ^ b % PP:=by
 have h1:=onceP_half (X / 65536 ^ m) b
 rw [←low_bitP (X / 65536 ^ m) b h] at h1
 rw [←h1]
 unfold dg
 rw [show (((2:Nat) ^ b:Nat):Int)=(2:Int) ^ b by simp]
theorem pow_even256 (j:Nat):(256:Int) ^ (2 * j)=65536 ^ j:=by rw [Int.pow_mul];rfl
theorem half_boundP {X:Int} {n:Nat} (hX:0≤X∧X<256 ^ n):0≤X∧X<65536 ^ ((n+1) / 2):=by
 refine ⟨hX.1,Int.lt_of_lt_of_le hX.2 ?_⟩
 rw [←pow_even256]
 exact pow_mono 256 (by decide) _ _ (by omega)
theorem dg_highP {X:Int} {n j:Nat} (hX:0≤X∧X<256 ^ n) (h:n≤j):dg 256 X j=0:=
 dg_small ⟨hX.1,Int.lt_of_lt_of_le hX.2 (pow_mono 256 (by decide) n j h)⟩
end Go.Bas
namespace Go.Proofs.YtdhejcaapdhhfaaGreat
open Go.RowKit Go.Bas
attribute [local go_sem ↓] Go.wp_at_zero Go.wp_at_succ
theorem PP_cells (i:Nat) (h:i<10):(#[.int .i64 65531,.int .i64 65535,.int .i64 65535,.int .i64 65535,.int .i64 65535,.int .i64 65535,.int .i64 65535,.int .i64 65535,.int .i64 3,.int .i64 0] :Array Value)[i]? =some (.int .i64 (dg 65536 PP i)):=by
 rcases (by omega:i=0∨i=1∨i=2∨i=3∨i=4∨i=5∨i=6∨i=7∨i=8∨i=9) with rfl | rfl | rfl | rfl | rfl | rfl | rfl | rfl | rfl | rfl<;> (refine congrArg some (congrArg (Value.int .i64) ?_);decide)
theorem rPp_any (w:World):
  Calls Tryz.prog 182 #[] w fun e w'=> ∃v,e=.returned v∧Rd .i64 w' v 10 (dg 65536 PP)∧Below w.heap.size w w':=by
 go_enter Tryz.func182,Tryz.ntmps182
 go_wp2
 go_ret
 exact ⟨_,rfl,(Own.new .i64 3 w _ 10 (dg 65536 PP) (Nat.le_refl _) (by decide) rfl PP_cells).rd,(Below.refl _ _).alloc (Nat.le_refl _) _⟩
theorem rModP_any (v:Value) (X:Int) (n:Nat) (hn:n≤1000) (hX:0≤X∧X<65536 ^ n) (w:World) (hv:Rd .i64 w v n (dg 65536 X)):
  Calls Tryz.prog 169 #[v] w fun e w'=>
   ∃v,e=.returned v∧Rd .i64 w' v 10 (dg 65536 (X % PP))∧Below w.heap.size w w':=by
 have HV:=Lib.hid hv
 obtain ⟨a1,c1,rfl,l1,m1,z1,h1⟩:=hv
 have H1:=Lib.hid h1
 have HX:=Lib.hid hX
 clear z1 h1 hX
 go_enter Tryz.func169,Tryz.ntmps169
 go_wp2_with (refine make_ints rfl _ _ 64 rfl w.heap.size 3 .i64 8 Tryz.underlying64 Tryz.info3 .i64 .i64 10 rfl rfl (by decide) (by decide) (Nat.le_refl _) ?_;intro w3 hown3 hgrow3)
 have hb3:Below w.heap.size w w3:=below_grown0 (Below.refl _ _) hgrow3 (Nat.le_refl _)
 clear hgrow3
 go_loopw [3,4] (fun r i wr=> ∃k:Nat,k≤n∧i=.int .i64 ((k:Int) - 1)∧Own .i64 3 w.heap.size wr r 10 (dg 65536 (X / 65536 ^ k % PP))∧Below w.heap.size w wr) (fun _ i _=> (intOf i+1).toNat)
 case atStart=> exact ⟨n,Nat.le_refl _,rfl,hown3.congr (fun i _=> by rw [Int.ediv_eq_zero_of_lt HX.out.1 HX.out.2];simp [dg]),hb3⟩
 case round=>
  obtain ⟨k,hk,rfl,ho,hbel⟩:=hrel
  obtain _ | m:=k
  ·have HR:=Lib.hid ho.rd
   clear ho
   go_wp2
   go_ret
   exact ⟨_,rfl,by have:=HR.out;rwa [Int.pow_zero,Int.ediv_one] at this,hbel⟩
  ·have HO:=Lib.hid ho
   have HB:=Lib.hid hbel
   clear ho hbel
   go_wp2
   go_loopw [3,5] (fun r x wr=> ∃b:Nat,b≤16∧x=.int .i64 ((2 ^ b / 2:Nat):Int)∧Own .i64 3 w.heap.size wr r 10 (dg 65536 (X / 65536 ^ m / 2 ^ b % PP))∧Below w.heap.size w wr) (fun _ x _=> (intOf x).toNat)
   case atStart=> exact ⟨16,Nat.le_refl _,rfl,by rw [show (2:Int) ^ 16=65536 from rfl,←div_succ (by decide)];exact HO.out,HB.out⟩
   case round=>
    obtain ⟨b,hb,rfl,ho,hbel⟩:=hrel
    have HO2:=Lib.hid ho
    clear ho
    obtain _ | b':=b
    ·go_wp2
     go_roundw
     case rel=> exact ⟨m,by omega,by go_num,by have:=HO2.out;rwa [Int.pow_zero,Int.ediv_one] at this,hbel⟩
     case measure=> simp [intOf] <;> omega
    ·have hd2:(2 ^ (b'+1) / 2:Nat)=2 ^ b':=by rw [Nat.pow_succ];omega
     rw [hd2]
     obtain ⟨D,hD⟩:∃D:Nat,D=2 ^ b':=⟨_,rfl⟩
     have hD0:0<D:=by rw [hD];exact Nat.pow_pos (by decide)
     have hD1:D≤32768:=by rw [hD];exact Nat.pow_le_pow_right (by decide) (by omega:b'≤15)
     rw [←hD]
     have HDD:=Lib.hid hD
     clear hD hd2
     obtain ⟨b1,o1,rfl,s1,e1⟩:=H1.out (by omega)
     have c1:=(hbel.cell (p:=⟨b1,o1+m,none⟩) s1).trans (e1 m (by omega))
     have hkm:((m+1:Nat):Int) - 1=(m:Int):=by omega
     rw [hkm]
     clear e1
     obtain ⟨x0,x1⟩:=dg_bound (by decide:(0:Int)<65536) X m
     obtain ⟨q,hq⟩:∃q,q=(dg 65536 X m).tdiv (D:Int):=⟨_,rfl⟩
     have hqe:q=dg 65536 X m / D:=by rw [hq,Int.tdiv_eq_ediv_of_nonneg x0]
     have q0:0≤q:=by rw [hqe];exact Int.ediv_nonneg x0 (by omega)
     have q1:q<65536:=by rw [hqe];exact Int.lt_of_le_of_lt (Int.ediv_le_self _ x0) x1
     have hq':=hq.symm
     have HQE:=Lib.hid hqe
     clear hq hqe
     obtain ⟨g,cc,rfl,hg0,hgl,hc17,hcc,hcell,hfree⟩:=HO2.out.form (by decide)
     clear hcell hfree
     obtain ⟨R,hR⟩:∃R,R=X / 65536 ^ m / 2 ^ (b'+1) % PP:=⟨_,rfl⟩
     rw [←hR] at HO2
     have HRR:=Lib.hid hR
     have HBB:=Lib.hid hbel
     clear hR hbel
     obtain ⟨c,hc⟩:∃c,c=q % 2:=⟨_,rfl⟩
     have c0:0≤c∧c≤1:=by omega
     have hc':=hc.symm
     have HCE:=Lib.hid hc
     clear hc
     go_wp2
     go_loopw [6,7] (fun x i wr=> ∃(k:Nat) (z:Int),k≤10∧z=car2 R c k∧0≤z∧z≤1∧x=.int .i64 z∧i=.int .i64 k∧Own .i64 3 w.heap.size wr (.slice (some ⟨g,0,none⟩) 10 cc) 10 (upto k (dg 65536 (2 * R+c)) (dg 65536 R))∧Below w.heap.size w wr) (fun _ i _=> 10 - (intOf i).toNat)
     case atStart=> exact ⟨0,c,Nat.zero_le _,(car2_zero _ _).symm,c0.1,c0.2,by rw [hc'],rfl,by rw [upto_zero];exact HO2.out,HBB.out⟩
     case round=>
      obtain ⟨k,z,hk,hz,z0,z1,rfl,rfl,ho,hbel⟩:=hrel
      have HZ:=Lib.hid hz
      clear hz
      by_cases hkt:k<10
      ·obtain ⟨g',cc',he,_,_,_,_,hcell,hfree⟩:=ho.form (by decide)
       simp only [Value.slice.injEq,Option.some.injEq,Addr.mk.injEq] at he
       obtain ⟨⟨rfl,_⟩,_⟩:=he
       have e1:=hcell k hkt
       have f1:=hfree k
       rw [upto_at] at e1
       obtain ⟨x0,x1⟩:=dg_bound (by decide:(0:Int)<65536) R k
       have hst:=car2_step' R c k
       rw [←HZ.out] at hst
       have HST:=Lib.hid hst
       have HO3:=Lib.hid ho
       clear ho hst hcell hfree
       go_wp2
       go_roundw
       case rel=> exact ⟨k+1,_,by omega,HST.out.2,by omega,by omega,rfl,by go_num,by rw [←upto_step HST.out.1];exact HO3.out.store k _,hbel.setCell hg0 _⟩
       case measure=> simp [intOf] <;> omega
      ·obtain rfl:k=10:=by omega
       have ho3:=ho.congr (upto_full _ _ (Nat.le_refl _))
       have HO3:=Lib.hid ho3
       clear ho ho3
       have hbnd:0≤2 * R+c∧2 * R+c<65536 ^ 10:=by rw [HRR.out];exact onceP_bound _ _ c0
       have HBND:=Lib.hid hbnd
       have hfin:onceP (2 * R+c)=X / 65536 ^ m / 2 ^ b' % PP:=by rw [HRR.out,HCE.out,HQE.out,HDD.out];exact mod_halfP X m b' (by omega)
       have HFIN:=Lib.hid hfin
       have hsz:=hbel.size
       clear hbnd hfin
       go_wp2_with fail
       refine (rPp_any wr).mono ?_
       rintro e w4 ⟨v',rfl,hq,hb4⟩
       have hbel4:=hbel.trans (hb4.mono hsz)
       have HQ:=Lib.hid hq
       have HO4:=Lib.hid (HO3.out.below hb4)
       have hsz4:=hbel4.size
       clear hq hb4 hbel HO3
       have hcon:=rAtLeast_any _ v' (2 * R+c) PP 10 10 (Nat.le_refl _) w4 HO4.out.rd HQ.out HBND.out PP10
       by_cases hge:PP≤2 * R+c
       ·rw [decide_eq_true hge] at hcon
        have hon:onceP (2 * R+c)=2 * R+c - PP:=by unfold onceP;rw [if_pos hge]
        rw [HFIN.out] at hon
        have HON:=Lib.hid hon
        have HCON:=Lib.hid hcon
        clear hon hge hcon
        go_wp2_with fail
        refine (HCON.out).mono ?_
        rintro e w5 ⟨rfl,hb5⟩
        have hbel5:=hbel4.trans (hb5.mono hsz4)
        have HO5:=Lib.hid (HO4.out.below hb5)
        have hsz5:=hbel5.size
        clear hb5 hbel4 HO4 HQ
        go_wp2_with fail
        refine (rPp_any w5).mono ?_
        rintro e w6 ⟨v6,rfl,hq6,hb6⟩
        have HQ6:=Lib.hid hq6
        have hbel6:=hbel5.trans (hb6.mono hsz5)
        have HO6:=Lib.hid (HO5.out.below hb6)
        have hsz6:=hbel6.size
        clear hq6 hb6 hbel5 HO5
        go_wp2_with fail
        refine (rLess_any _ v6 (2 * R+c) PP 10 10 (Nat.le_refl _) (by decide) w6 HO6.out.rd HQ6.out).mono ?_
        rintro e w7 ⟨v7,rfl,ho7,hb7⟩
        have HO7:=Lib.hid ho7
        clear ho7
        go_wp2
        go_roundw
        case rel=> exact ⟨b',by omega,by rw [←HDD.out];rfl,by rw [HON.out];exact HO7.out.mono hsz6,hbel6.trans (hb7.mono hsz6)⟩
        case measure=> simp [intOf] <;> omega
       ·rw [decide_eq_false hge] at hcon
        have hon:onceP (2 * R+c)=2 * R+c:=by unfold onceP;rw [if_neg hge]
        rw [HFIN.out] at hon
        have HON:=Lib.hid hon
        have HCON:=Lib.hid hcon
        clear hon hge hcon
        go_wp2_with fail
        refine (HCON.out).mono ?_
        rintro e w5 ⟨rfl,hb5⟩
        go_wp2
        go_roundw
        case rel=> exact ⟨b',by omega,by rw [←HDD.out];rfl,by rw [HON.out];exact HO4.out.below hb5,hbel4.trans (hb5.mono hsz4)⟩
        case measure=> simp [intOf] <;> omega
theorem rDigitsP_any (v:Value) (X:Int) (n:Nat) (hn:n≤1000) (hX:0≤X∧X<256 ^ n) (w:World) (hv:Rd .u8 w v n (dg 256 X)):
  Calls Tryz.prog 170 #[v] w fun e w'=>
   ∃v,e=.returned v∧Own .i64 3 w.heap.size w' v ((n+1) / 2) (dg 65536 X)∧Below w.heap.size w w':=by
 obtain ⟨a1,c1,rfl,l1,m1,z1,h1⟩:=hv
 have H1:=Lib.hid h1
 have HX:=Lib.hid hX
 clear z1 h1 hX
 go_enter Tryz.func170,Tryz.ntmps170
 go_wp2
 go_loopw [3,4] (fun v i wr=> ∃j:Nat,j≤(n+1) / 2∧i=.int .i64 (2 * j:Nat)∧Own .i64 3 w.heap.size wr v j (dg 65536 X)∧Below w.heap.size w wr) (fun _ i _=> n+1 - (intOf i).toNat)
 case atStart=> exact ⟨0,Nat.zero_le _,rfl,Own.nil _ _ _ _ _,Below.refl _ _⟩
 case round=>
  obtain ⟨j,hj,rfl,ho,hbel⟩:=hrel
  have HO:=Lib.hid ho
  have hsz:=hbel.size
  clear ho
  by_cases hlt:2 * j<n
  ·obtain ⟨b,off,rfl,s1,hcell⟩:=H1.out (by omega)
   have e0:=(hbel.cell (p:=⟨b,off+2 * j,none⟩) s1).trans (hcell (2 * j) hlt)
   obtain ⟨p0,p0'⟩:=dg_bound (by decide:(0:Int)<256) X (2 * j)
   obtain ⟨p1,p1'⟩:=dg_bound (by decide:(0:Int)<256) X (2 * j+1)
   have hp:=pair16 X j
   have HP:Hid (dg 256 X (2 * j)+256 * dg 256 X (2 * j+1)=dg 65536 X j):=by unfold Hid;omega
   clear hp
   by_cases hlt2:2 * j+1<n
   ·have e1:=(hbel.cell (p:=⟨b,off+(2 * j+1),none⟩) s1).trans (hcell (2 * j+1) hlt2)
    clear hcell
    go_wp2_with (at_builtin;refine append_new rfl _ _ 64 rfl w.heap.size 3 .i64 8 Tryz.underlying64 Tryz.info3 _ j (dg 65536 X) _ _ rfl HO.out rfl 1 rfl rfl ?_ (by omega) (by omega) (by omega) ?_;rotate_right;intro v' w1 hown hgrow)
    ·go_roundw
     case rel=> exact ⟨j+1,by omega,by go_num,hown,below_grown (hbel.alloc hsz _) hgrow HO.out (by simp;omega) (by omega)⟩
     case measure=> simp [intOf] <;> omega
    ·intro i hi
     exact one0 hi (by rw [show j+i=j by omega];exact HP.out)
   ·have hz:Hid (dg 256 X (2 * j+1)=0):=dg_highP HX.out (by omega)
    clear hcell
    go_wp2_with (at_builtin;refine append_new rfl _ _ 64 rfl w.heap.size 3 .i64 8 Tryz.underlying64 Tryz.info3 _ j (dg 65536 X) _ _ rfl HO.out rfl 1 rfl rfl ?_ (by omega) (by omega) (by omega) ?_;rotate_right;intro v' w1 hown hgrow)
    ·go_roundw
     case rel=> exact ⟨j+1,by omega,by go_num,hown,below_grown (hbel.alloc hsz _) hgrow HO.out (by simp;omega) (by omega)⟩
     case measure=> simp [intOf] <;> omega
    ·intro i hi
     exact one0 hi (by rw [show j+i=j by omega];have:=HP.out;have:=hz.out;omega)
  ·obtain rfl:j=(n+1) / 2:=by omega
   go_wp2
   go_ret
   exact ⟨_,rfl,HO.out,hbel⟩
end Go.Proofs.YtdhejcaapdhhfaaGreat
namespace Go.Proofs.YtdhejcaapdhhfaaGreat
open Go.RowKit Go.Bas
attribute [local go_sem ↓] Go.wp_at_zero Go.wp_at_succ
theorem rAddP_any (va vb:Value) (A B:Int) (w:World) (ha:Rd .i64 w va 10 (dg 65536 A)) (hb:Rd .i64 w vb 10 (dg 65536 B)) (hS:0≤A+B∧A+B<65536 ^ 10):
  Calls Tryz.prog 173 #[va,vb] w fun e w'=>
   ∃v,e=.returned v∧Rd .i64 w' v 10 (dg 65536 ((A+B) % PP))∧Below w.heap.size w w':=by
 obtain ⟨xa,xc,rfl,xl,xm,xz,xh⟩:=ha
 obtain ⟨ya,yc,rfl,yl,ym,yz,yh⟩:=hb
 obtain ⟨xb,xo,rfl,xs,xe⟩:=xh (by decide)
 obtain ⟨yb,yo,rfl,ys,ye⟩:=yh (by decide)
 have XE:=Lib.hid xe
 have YE:=Lib.hid ye
 have HT:=Lib.hid hS
 clear xz yz xe ye xh yh hS
 go_enter Tryz.func173,Tryz.ntmps173
 go_wp2
 go_loopw [5,6,7] (fun v c i wr=> ∃(k:Nat) (z:Int),k≤10∧z=carS A B k∧0≤z∧z≤1∧c=.int .i64 z∧i=.int .i64 k∧Own .i64 3 w.heap.size wr v k (dg 65536 (A+B))∧Below w.heap.size w wr) (fun _ _ i _=> 10 - (intOf i).toNat)
 case atStart=> exact ⟨0,0,Nat.zero_le _,(carS_zero _ _).symm,by decide,by decide,rfl,rfl,Own.nil _ _ _ _ _,Below.refl _ _⟩
 case round=>
  obtain ⟨k,z,hk,hz,z0,z1,rfl,rfl,ho,hbel⟩:=hrel
  have HZ:=Lib.hid hz
  have HO:=Lib.hid ho
  clear hz ho
  have hsz:=hbel.size
  by_cases hlt:k<10
  ·have c1:=(hbel.cell (p:=⟨xb,xo+k,none⟩) xs).trans (XE.out k hlt)
   have c2:=(hbel.cell (p:=⟨yb,yo+k,none⟩) ys).trans (YE.out k hlt)
   obtain ⟨x0,x1⟩:=dg_bound (by decide:(0:Int)<65536) A k
   obtain ⟨y0,y1⟩:=dg_bound (by decide:(0:Int)<65536) B k
   have u1:=wrap_i64_id (x:=dg 65536 A k+dg 65536 B k) (by omega) (by omega)
   have u2:=wrap_i64_id (x:=dg 65536 A k+dg 65536 B k+z) (by omega) (by omega)
   have hst:=carS_step A B k
   rw [←HZ.out] at hst
   have HST:=Lib.hid hst
   clear hst
   go_wp2
   go_quiet (fail)
   clear u1 u2
   go_wp2_with (at_builtin;refine append_new rfl _ _ 64 rfl w.heap.size 3 .i64 8 Tryz.underlying64 Tryz.info3 _ k (dg 65536 (A+B)) _ _ rfl (HO.out.drewN _) rfl 1 rfl rfl ?_ (by omega) (by omega) hsz ?_;rotate_right;intro v' w1 hown hgrow)
   ·go_roundw
    case rel=> exact ⟨k+1,_,by omega,HST.out.2,by omega,by omega,rfl,by go_num,hown,below_grown ((below_drewN hbel _).alloc hsz _) hgrow HO.out (by simp;omega) (Nat.le_refl _)⟩
    case measure=> simp [intOf] <;> omega
   ·intro i hi
    exact one0 hi (by rw [show k+i=k by omega];exact HST.out.1)
  ·obtain rfl:k=10:=by omega
   go_wp2_with fail
   refine (rModP_any _ (A+B) 10 (by omega) HT.out _ HO.out.rd).mono ?_
   rintro e w6 ⟨v6,rfl,hv6,hb6⟩
   have HV6:=Lib.hid hv6
   clear hv6
   go_wp2
   go_ret
   exact ⟨_,rfl,HV6.out,hbel.trans (hb6.mono hsz)⟩
theorem rMulP_any (va vb:Value) (A B:Int) (w:World) (ha:Rd .i64 w va 10 (dg 65536 A)) (hb:Rd .i64 w vb 10 (dg 65536 B)) (hA:0≤A∧A<65536 ^ 10) (hB:0≤B∧B<65536 ^ 10):
  Calls Tryz.prog 172 #[va,vb] w fun e w'=>
   ∃v,e=.returned v∧Rd .i64 w' v 10 (dg 65536 (A * B % PP))∧Below w.heap.size w w':=by
 obtain ⟨xa,xc,rfl,xl,xm,xz,xh⟩:=ha
 obtain ⟨ya,yc,rfl,yl,ym,yz,yh⟩:=hb
 obtain ⟨xb,xo,rfl,xs,xe⟩:=xh (by decide)
 obtain ⟨yb,yo,rfl,ys,ye⟩:=yh (by decide)
 have XE:=Lib.hid xe
 have YE:=Lib.hid ye
 have HA:=Lib.hid hA
 have HB:=Lib.hid hB
 clear xz yz xe ye xh yh hA hB
 go_enter Tryz.func172,Tryz.ntmps172
 go_wp2_with (refine make_ints rfl _ _ 64 rfl w.heap.size 3 .i64 8 Tryz.underlying64 Tryz.info3 .i64 .i64 20 rfl rfl (by decide) (by decide) (Nat.le_refl _) ?_;intro w4 hown hgrow)
 have hb4:Below w.heap.size w w4:=below_grown0 (Below.refl _ _) hgrow (Nat.le_refl _)
 clear hgrow
 go_loopw [6] (fun i wr=> ∃(k:Nat) (t:Nat→Int),k≤10∧i=.int .i64 k∧MulInv 10 10 A B t k 0 0∧Own .i64 3 w.heap.size wr (.slice (some ⟨w.heap.size,0,none⟩) 20 20) 20 t∧Below w.heap.size w wr) (fun i _=> 10 - (intOf i).toNat)
 case atStart=> exact ⟨0,_,Nat.zero_le _,rfl,MulInv.zero _ _ _ _,hown,hb4⟩
 case round=>
  obtain ⟨i,t,hi,rfl,hM,ho,hbel⟩:=hrel
  have HM:=Lib.hid hM
  have HO:=Lib.hid ho
  clear hM ho
  by_cases hlt:i<10
  ·have HBel:=Lib.hid hbel
   clear hbel
   go_wp2
   go_loopw [7,8] (fun c j wr=> ∃(k:Nat) (z:Int) (t:Nat→Int),k≤10∧0≤z∧z<65536∧c=.int .i64 z∧j=.int .i64 k∧MulInv 10 10 A B t i k z∧Own .i64 3 w.heap.size wr (.slice (some ⟨w.heap.size,0,none⟩) 20 20) 20 t∧Below w.heap.size w wr) (fun _ j _=> 10 - (intOf j).toNat)
   case atStart=> exact ⟨0,0,t,Nat.zero_le _,by decide,by decide,rfl,rfl,HM.out,HO.out,HBel.out⟩
   case round=>
    clear HM HO HBel
    obtain ⟨k,z,t,hk,z0,z1,rfl,rfl,hM,ho,hbel⟩:=hrel
    have HM:=Lib.hid hM
    have HO:=Lib.hid ho
    clear hM ho
    obtain ⟨g',cc',he,_,_,_,_,hcell,hfree⟩:=HO.out.form (by decide)
    simp only [Value.slice.injEq,Option.some.injEq,Addr.mk.injEq] at he
    obtain ⟨⟨rfl,q1⟩,q2⟩:=he
    clear q1 q2
    by_cases hkt:k<10
    ·have e1:=hcell (i+k) (by omega)
     have f1:=hfree (i+k)
     have c1:=(hbel.cell (p:=⟨xb,xo+i,none⟩) xs).trans (XE.out i hlt)
     have c2:=(hbel.cell (p:=⟨yb,yo+k,none⟩) ys).trans (YE.out k hkt)
     obtain ⟨m0,m1,m2,m3,m4,m5⟩:=HM.out.bound
     have HST:=Lib.hid (HM.out.step hlt hkt)
     have HST2:=Lib.hid (HST.out.2.2)
     have t0:=(HM.out.1 (i+k)).1
     have t1:=(HM.out.1 (i+k)).2
     obtain ⟨x0,x1⟩:=dg_bound (by decide:(0:Int)<65536) A i
     obtain ⟨y0,y1⟩:=dg_bound (by decide:(0:Int)<65536) B k
     clear hcell hfree
     have i0:(0:Int)≤(i:Int)+k:=by omega
     have i1:(i:Int)+k<20:=by omega
     have i2:((i:Int)+k).toNat=i+k:=by omega
     have u0:=wrap_i64_id (x:=(i:Int)+k) (by omega) (by omega)
     have u1:=wrap_i64_id (x:=dg 65536 A i * dg 65536 B k) (by omega) (by omega)
     have u2:=wrap_i64_id (x:=t (i+k)+dg 65536 A i * dg 65536 B k) (by omega) (by omega)
     have u3:=wrap_i64_id (x:=t (i+k)+dg 65536 A i * dg 65536 B k+z) (by omega) (by omega)
     go_wp2
     go_quiet (fail)
     clear u1 u2 u3 u0
     go_wp2
     go_roundw
     case rel=> exact ⟨k+1,_,_,by omega,HST2.out.1,HST2.out.2.1,rfl,by go_num,HST.out,(HO.out.drewN _).store (i+k) _,(below_drewN hbel _).setCell (Nat.le_refl _) _⟩
     case measure=> simp [intOf] <;> omega
    ·obtain rfl:k=10:=by omega
     obtain ⟨r0,r1⟩:=HM.out.row hlt HB.out
     have R0:=Lib.hid r0
     have R1:=Lib.hid r1
     have e1:=hcell (i+10) (by omega)
     have f1:=hfree (i+10)
     rw [R0.out] at e1
     clear hcell hfree r0 r1
     go_wp2
     go_roundw
     case rel=> exact ⟨i+1,_,by omega,by go_num,R1.out,by rw [R0.out];have:=HO.out.store (i+10) z;rwa [show (0:Int)+z=z by omega],hbel.setCell (Nat.le_refl _) _⟩
     case measure=> simp [intOf] <;> omega
  ·obtain rfl:i=10:=by omega
   have hr:=(HO.out.congr (HM.out.done HA.out)).rd
   have HR:=Lib.hid hr
   have hs:=hbel.size
   clear hr
   go_wp2_with fail
   refine (rModP_any _ (A * B) 20 (by omega) (mul_bound HA.out HB.out) _ HR.out).mono ?_
   rintro e w6 ⟨v6,rfl,hv6,hb6⟩
   have HV6:=Lib.hid hv6
   clear hv6
   go_wp2
   go_ret
   exact ⟨_,rfl,HV6.out,hbel.trans (hb6.mono hs)⟩
end Go.Proofs.YtdhejcaapdhhfaaGreat
