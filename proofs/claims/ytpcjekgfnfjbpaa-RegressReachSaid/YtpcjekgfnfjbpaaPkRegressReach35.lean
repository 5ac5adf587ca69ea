/-
  Part 35 of the texts that the proof of RegressReach rests on, one after the other. Conditions: named in each theorem.
-/
import Derived.Test.YtpcjekgfnfjbpaaPkRegressReach34
import Derived.Test.YtpcjekgfnfjbpaaPkRegressReach2
import Derived.Test.YtpcjekgfnfjbpaaPkRegressReach3
import Derived.Test.YtpcjekgfnfjbpaaPkRegressReach8
import Derived.Test.YtpcjekgfnfjbpaaPkRegressReach9
import Derived.BigQuiet
import Derived.ChangeKeysEq
import Derived.Deep.Cut
import Derived.Deep.DrawnRows
import Derived.Deep.QuietTactic
import Derived.Deep.RegionHeld3
import Derived.Deep.WholeRow
import Derived.Laws.CopyOwn
import Derived.Laws.StructEq
import Derived.Lib.Hide
import Derived.Maps.AppendAt
import Derived.Maps.Range
import Derived.Orders
import Derived.Test.YtpcjekgfnfjbpaaArr
import Derived.Test.YtpcjekgfnfjbpaaFlow
import Derived.Test.YtpcjekgfnfjbpaaKit
import Derived.Test.YtpcjekgfnfjbpaaRows
import Derived.WalkKit
import Derived.WalkLawsBesides
import Derived.WalkSmall
import Derived.WalkSpells
set_option linter.unusedVariables false
set_option linter.unusedSimpArgs false
set_option maxRecDepth 100000
set_option maxHeartbeats 3200000
namespace Go.Bas
theorem sm_top {f:Nat→Int} (hf:∀i,i<17→0≤f i∧f i≤832320000):0≤sm 256 f 17∧sm 256 f 17<2 ^ 130 * 1000000000:=by
 have h1:=cu_top f 16
 have h2:=cu_bound 17 hf (by decide) 16 (by decide)
 have h3:=hf 16 (by decide)
 rw [p130]
 have h4:=Int.emod_add_mul_ediv (sm 256 f 17) (256 ^ 16)
 have h5:=Int.emod_nonneg (sm 256 f 17) (show (256:Int) ^ 16≠0 by decide)
 have h6:=Int.emod_lt_of_pos (sm 256 f 17) (show (0:Int)<256 ^ 16 by decide)
 rw [←h1] at h4
 have h7:(256:Int) ^ 16=340282366920938463463374607431768211456:=by decide
 rw [h7] at *
 omega
theorem pd_small {U:Int} (h0:0≤U) (h1:U<2 ^ 130+5000000000):∀i,i<17→0≤pd U i∧pd U i≤300:=by
 intro i hi
 by_cases e:i<16
 ·rw [pd_low _ e];have:=dg_bound (by decide:(0:Int)<256) U i;omega
 ·obtain rfl:i=16:=by omega
  rw [pd_top]
  have h2:U / 256 ^ 16<5:=Int.ediv_lt_of_lt_mul (by decide) (Int.lt_trans h1 (by decide))
  have h3:=Int.ediv_nonneg h0 (show (0:Int)≤256 ^ 16 by decide)
  omega
def LL:Int:=256 ^ 17 - PP
theorem less_yes {W:Int} (h0:PP≤W) (h1:W<2 ^ 130):(∀i,i<17→dg 256 (W+LL) i=dg 256 (W % PP) i)∧dg 256 (W+LL) 16=0:=by
 have e:W % PP=W - PP:=by
  have:W % PP=(W - PP) % PP:=by rw [Int.sub_emod,Int.emod_self,Int.sub_zero,Int.emod_emod]
  rw [this]
  exact Int.emod_eq_of_lt (by omega) (by (have:(2:Int) ^ 130<PP+PP:=by decide);omega)
 have k:∀i,i<17→dg 256 (W+LL) i=dg 256 (W % PP) i:=by
  intro i hi
  rw [e,←dg_add (by decide) (W - PP) 1 17 i hi]
  congr 1
  unfold LL;omega
 refine ⟨k,?_⟩
 rw [k 16 (by decide),e]
 refine dg_small ⟨by omega,?_⟩
 have:(2:Int) ^ 130=PP+5:=by decide
 have:(5:Int)<256 ^ 16:=by decide
 omega
theorem less_no {W:Int} (h0:0≤W) (h1:W<PP):252≤dg 256 (W+LL) 16∧dg 256 (W+LL) 16<256:=by
 refine ⟨?_,(dg_bound (by decide) _ _).2⟩
 unfold dg LL
 have e:(256:Int) ^ 17 - PP=252 * 256 ^ 16+5:=by decide
 have e2:PP=4 * 256 ^ 16 - 5:=by decide
 rw [e]
 rw [e2] at h1
 have h7:(256:Int) ^ 16=340282366920938463463374607431768211456:=by decide
 rw [h7] at *
 omega
theorem and128_yes:bits .and .u32 0 128=0:=by decide
theorem and128_no {x:Int} (h0:252≤x) (h1:x<256):bits .and .u32 x 128=128:=by
 obtain rfl | rfl | rfl | rfl:x=252∨x=253∨x=254∨x=255:=by omega
 all_goals decide
theorem prodS_first (f g:Nat→Int) (i:Nat):prodS f g i 0=0:=rfl
theorem prodS_low (f g:Nat→Int) {i j:Nat} (h:j≤i):prodS f g i (j+1)=prodS f g i j+f j * g (i - j):=by rw [prodS,rowP,if_pos h]
theorem prodS_high (f g:Nat→Int) {i j:Nat} (h:¬ j≤i):prodS f g i (j+1)=prodS f g i j+320 * f j * g (i+17 - j):=by rw [prodS,rowP,if_neg h];grind
end Go.Bas
namespace Go.Proofs.Ytpcjekgfnfjbpaa
open Go.RowKit Go.Bas
attribute [local go_sem ↓] Go.wp_at_zero Go.wp_at_succ
def prodK (f g:Nat→Int) (k:Nat):Nat→Int:=fun m=> if m<k then prodS f g m 17 else 0
theorem prodK_start (f g:Nat→Int) (k i:Nat):prodK f g k i=upd (prodK f g k) k (prodS f g k 0) i:=by
 unfold upd;split
 ·next h=> subst h;rw [prodK,if_neg (by omega),prodS_first]
 ·rfl
theorem prodK_end (f g:Nat→Int) (k i:Nat):upd (prodK f g k) k (prodS f g k 17) i=prodK f g (k+1) i:=by
 unfold upd prodK;split
 ·next h=> subst h;rw [if_pos (by omega)]
 ·by_cases e:i<k
  ·rw [if_pos e,if_pos (by omega)]
  ·rw [if_neg e,if_neg (by omega)]
theorem product_any (f g:Nat→Int) (w:World) (hf:∀i,i<17→0≤f i∧f i≤600) (hg:∀i,i<17→0≤g i∧g i≤255):
  Calls Try.prog 82 #[.agg (arr .u32 17 f),.agg (arr .u32 17 g)] w fun e w'=> e=.returned (.agg (arr .u32 17 (pd (fold5 (sm 256 (fun i=> prodS f g i 17) 17)))))∧Below w.heap.size w w':=by
 have HF:=Lib.hid hf
 have HG:=Lib.hid hg
 have HP:=Lib.hid (fun i hi=> prodS_bound hf hg i hi)
 clear hf hg
 go_enter Try.func82,Try.ntmps82
 go_wp2
 go_loopw [9] (fun i wr=> ∃k:Nat,k≤17∧i=.int .i64 k∧Arr .u32 wr w.heap.size 17 f∧Arr .u32 wr (w.heap.size+1) 17 g∧Arr .u32 wr (w.heap.size+2) 17 (fun _=> 0)∧Arr .u32 wr (w.heap.size+3) 17 (prodK f g k)∧Below w.heap.size w wr) (fun i _=> 17 - (intOf i).toNat)
 case atStart=>
  refine ⟨0,Nat.zero_le _,rfl,?_,?_,?_,?_,?_⟩
  ·exact Arr.alloc (Arr.alloc (Arr.alloc (Arr.newAt rfl rfl) _) _) _
  ·exact Arr.alloc (Arr.alloc (Arr.newAt (by simp) rfl) _) _
  ·exact Arr.alloc (Arr.newAt (by simp) (by rfl)) _
  ·exact Arr.congr (f:=fun _=> 0) (Arr.newAt (by simp) rfl) (fun i _=> by unfold prodK;rw [if_neg (by omega)])
  ·exact ((((Below.refl _ _).alloc (Nat.le_refl _) _).alloc (by simp) _).alloc (by simp;omega) _).alloc (by simp;omega) _
 case round=>
  obtain ⟨k,hk,rfl,hA,hG,hZ,hR,hbel⟩:=hrel
  by_cases hlt:k<17
  ·go_wp2_with (refine load_arr rfl 134 _ rfl .u32 w.heap.size 17 f 99 Try.underlying134 Try.size134 rfl hA ?_)
   have HA1:=Lib.hid hA
   have HG1:=Lib.hid hG
   have HZ1:=Lib.hid hZ
   have HR1:=Lib.hid (hR.congr fun i _=> prodK_start f g k i)
   have HB1:=Lib.hid hbel
   clear hA hG hZ hR hbel
   go_loopw [13] (fun i wr=> ∃j:Nat,j≤17∧i=.int .i64 j∧Arr .u32 wr w.heap.size 17 f∧Arr .u32 wr (w.heap.size+1) 17 g∧Arr .u32 wr (w.heap.size+2) 17 (fun _=> 0)∧Arr .u32 wr (w.heap.size+3) 17 (upd (prodK f g k) k (prodS f g k j))∧Below w.heap.size w wr) (fun i _=> 17 - (intOf i).toNat)
   case atStart=> exact ⟨0,Nat.zero_le _,rfl,HA1.out,HG1.out,HZ1.out,HR1.out,HB1.out⟩
   case round=>
    obtain ⟨j,hj,rfl,hA,hG,hZ,hR,hbel⟩:=hrel
    by_cases hjt:j<17
    ·have hix:=run_index_arr (f:=f) Try.underlying134 Try.underlying99 Try.size99 j hjt
     have e1:=hR.cell k hlt
     rw [upd_at] at e1
     have f1:=hR.free k
     obtain ⟨o0,o1⟩:=HP.out k hlt j hj
     obtain ⟨p0,p1⟩:=HP.out k hlt (j+1) (by omega)
     obtain ⟨x0,x1⟩:=HF.out j hjt
     by_cases hjk:j≤k
     ·have S:=Lib.hid (prodS_low f g hjk)
      obtain ⟨d,hd⟩:∃d:Nat,(k:Int) - (j:Int)=d:=⟨k - j,by omega⟩
      have hdk:d=k - j:=by omega
      have hd17:d<17:=by omega
      have e2:=hG.cell d hd17
      obtain ⟨y0,y1⟩:=HG.out d hd17
      rw [←hdk] at S
      obtain ⟨o,ho⟩:∃o,o=prodS f g k j:=⟨_,rfl⟩
      obtain ⟨x,hx⟩:∃x,x=f j:=⟨_,rfl⟩
      obtain ⟨y,hy⟩:∃y,y=g d:=⟨_,rfl⟩
      rw [←hx] at x0 x1 hix S
      rw [←hy] at y0 y1 e2 S
      rw [←ho] at o0 o1 e1 S
      have m0:=Int.mul_nonneg x0 y0
      have m1:x * y≤600 * 255:=Int.mul_le_mul x1 y1 y0 (by decide)
      obtain ⟨z,hz⟩:∃z,x * y=z:=⟨_,rfl⟩
      rw [hz] at m0 m1 S
      have HA2:=Lib.hid hA
      have HG2:=Lib.hid hG
      have HZ2:=Lib.hid hZ
      have HR2:=Lib.hid hR
      clear hA hG hZ hR ho hx hy hdk p0 p1
      go_wp2
      go_region
      all_goals
       go_wp2
       go_roundw
       case rel=> exact ⟨j+1,by omega,by go_num,(HA2.out.other (by first | omega | (simp<;> omega)) _).drew,(HG2.out.other (by first | omega | (simp<;> omega)) _).drew,(HZ2.out.other (by first | omega | (simp<;> omega)) _).drew,((HR2.out.set k (o+z)).drew).congr (fun i _=> by rw [upd_upd,S.out]),(hbel.setCell (by first | omega | (simp<;> omega)) _).drew⟩
       case measure=> simp [intOf] <;> omega
     ·have S:=Lib.hid (prodS_high f g hjk)
      obtain ⟨d,hd⟩:∃d:Nat,(k:Int)+17 - (j:Int)=d:=⟨k+17 - j,by omega⟩
      have hdk:d=k+17 - j:=by omega
      have hd17:d<17:=by omega
      have e2:=hG.cell d hd17
      obtain ⟨y0,y1⟩:=HG.out d hd17
      rw [←hdk] at S
      obtain ⟨o,ho⟩:∃o,o=prodS f g k j:=⟨_,rfl⟩
      obtain ⟨x,hx⟩:∃x,x=f j:=⟨_,rfl⟩
      obtain ⟨y,hy⟩:∃y,y=g d:=⟨_,rfl⟩
      rw [←hx] at x0 x1 hix S
      rw [←hy] at y0 y1 e2 S
      rw [←ho] at o0 o1 e1 S
      have m0:=Int.mul_nonneg (show 0≤320 * x by omega) y0
      have m1:320 * x * y≤192000 * 255:=Int.mul_le_mul (by omega) y1 y0 (by decide)
      obtain ⟨z,hz⟩:∃z,320 * x * y=z:=⟨_,rfl⟩
      rw [hz] at m0 m1 S
      have HA2:=Lib.hid hA
      have HG2:=Lib.hid hG
      have HZ2:=Lib.hid hZ
      have HR2:=Lib.hid hR
      clear hA hG hZ hR ho hx hy hdk p0 p1
      go_wp2
      go_region
      all_goals
       go_wp2
       go_roundw
       case rel=> exact ⟨j+1,by omega,by go_num,(HA2.out.other (by first | omega | (simp<;> omega)) _).drew,(HG2.out.other (by first | omega | (simp<;> omega)) _).drew,(HZ2.out.other (by first | omega | (simp<;> omega)) _).drew,((HR2.out.set k (o+z)).drew).congr (fun i _=> by rw [upd_upd,S.out]),(hbel.setCell (by first | omega | (simp<;> omega)) _).drew⟩
       case measure=> simp [intOf] <;> omega
    ·obtain rfl:j=17:=by omega
     go_wp2_with fail
     go_roundw
     case rel=> exact ⟨k+1,by omega,by go_num,hA,hG,hZ,hR.congr fun i _=> prodK_end f g k i,hbel⟩
     case measure=> simp [intOf] <;> omega
  ·obtain rfl:k=17:=by omega
   have hR2:=hR.congr (g:=fun i=> prodS f g i 17) fun i hi=> if_pos hi
   clear hR
   go_wp2_with (refine load_arr rfl 134 _ rfl .u32 (w.heap.size+3) 17 _ 99 Try.underlying134 Try.size134 rfl hR2 ?_)
   refine (carryP_any (fun i=> prodS f g i 17) _ (fun i hi=> by have:=HP.out i hi 17 (Nat.le_refl _);omega)).mono ?_
   rintro e w1 ⟨rfl,hb1⟩
   have hZ1:=hZ.kept hb1
   have hb2:=hbel.trans (hb1.mono hbel.size)
   clear hR2 hA hG hZ hb1 hbel
   go_wp2_with (refine store_arr rfl 134 _ _ rfl .u32 (w.heap.size+2) 17 (fun _=> 0) _ Try.size134 rfl rfl hZ1 ?_)
   exact bodyPost_ret (results_arr rfl _ _ .u32 (w.heap.size+2) 17 _ 99 rfl (hZ1.setRow _ _) Try.underlying134 Try.size134) rfl ⟨rfl,below_setRow' hb2 (by omega) _⟩
theorem build_less {a:Act} (w:World):(Instr.build 134 ((#[(0,Operand.const (.int .u32 5)),(16,Operand.const (.int .u32 252))] :Array (Nat × Operand)).map fun (i,x)=> (i,a.eval x))).run Try.prog w=.ok (.agg (arr .u32 17 (dg 256 LL))) w:=by
 simp only [List.map_toArray,List.map_nil,List.map_cons,Act.eval]
 rw [Go.run_build w _ _ #[.int .u32 5,.int .u32 0,.int .u32 0,.int .u32 0,.int .u32 0,.int .u32 0,.int .u32 0,.int .u32 0,.int .u32 0,.int .u32 0,.int .u32 0,.int .u32 0,.int .u32 0,.int .u32 0,.int .u32 0,.int .u32 0,.int .u32 252] (by kernel_rfl)]
 have e:(#[.int .u32 5,.int .u32 0,.int .u32 0,.int .u32 0,.int .u32 0,.int .u32 0,.int .u32 0,.int .u32 0,.int .u32 0,.int .u32 0,.int .u32 0,.int .u32 0,.int .u32 0,.int .u32 0,.int .u32 0,.int .u32 0,.int .u32 252] :Array Value)=arr .u32 17 (dg 256 LL):=by kernel_rfl
 rw [e]
theorem reduced_any (f:Nat→Int) (w:World) (hf:∀i,i<17→0≤f i∧f i≤832320000):
  Calls Try.prog 83 #[.agg (arr .u32 17 f)] w fun e w'=> e=.returned (.agg (arr .u32 17 (dg 256 (sm 256 f 17 % PP))))∧Below w.heap.size w w':=by
 have hV:=sm_top hf
 have HF:=Lib.hid hf
 clear hf
 obtain ⟨V,hVe⟩:∃V,V=sm 256 f 17:=⟨_,rfl⟩
 rw [←hVe] at hV ⊢
 have hU:=fold5_bound hV.1 hV.2
 have hW:=fold5_twice hU.1 hU.2
 have hWV:fold5 (fold5 V) % PP=V % PP:=by rw [fold5_mod,fold5_mod]
 have HU:=Lib.hid (pd_small hU.1 hU.2)
 have HC1:Hid (∀w:World,Calls Try.prog 93 #[.agg (arr .u32 17 f)] w fun e w'=> e=.returned (.agg (arr .u32 17 (pd (fold5 V))))∧Below w.heap.size w w'):=by
  intro w;rw [hVe];exact carryP_any f w HF.out
 have HC2:Hid (∀w:World,Calls Try.prog 93 #[.agg (arr .u32 17 (pd (fold5 V)))] w fun e w'=> e=.returned (.agg (arr .u32 17 (dg 256 (fold5 (fold5 V)))))∧Below w.heap.size w w'):=by
  intro w
  have h:=carryP_any (pd (fold5 V)) w (fun i hi=> by have:=HU.out i hi;omega)
  rw [sm_pd,arr_congr (pd_dg hW.1 (Int.lt_trans hW.2 (by decide)))] at h
  exact h
 obtain ⟨W,hWe⟩:∃W,W=fold5 (fold5 V):=⟨_,rfl⟩
 rw [←hWe] at hW hWV HC2
 rw [←hWV]
 clear hWe hWV hU hVe hV HU
 have HWB:=Lib.hid hW
 clear hW
 go_enter Try.func83,Try.ntmps83
 go_wp2_with (refine load_arr rfl 134 _ rfl .u32 w.heap.size 17 f 99 Try.underlying134 Try.size134 rfl (Arr.alloc (Arr.newAt rfl rfl) _) ?_)
 refine (HC1.out _).mono ?_
 rintro e w1 ⟨rfl,hb1⟩
 go_wp2_with fail
 refine (HC2.out _).mono ?_
 rintro e w2 ⟨rfl,hb2⟩
 have hA:Arr .u32 w2 w.heap.size 17 f:=Arr.kept (Arr.kept (Arr.alloc (Arr.newAt rfl rfl) _) hb1) hb2
 have hZ:Arr .u32 w2 (w.heap.size+1) 17 (fun _=> 0):=Arr.kept (Arr.kept (Arr.newAt (by first | omega | (simp<;> omega)) rfl) hb1) hb2
 have hbel:Below w.heap.size w w2:=((((Below.refl _ _).alloc (Nat.le_refl _) _).alloc (by simp) _).trans (hb1.mono (by simp;omega))).trans (hb2.mono (by have:=hb1.size;simp at this;omega))
 clear hb1 hb2
 go_upto_region 2 with (refine store_arr rfl 134 _ _ rfl .u32 w.heap.size 17 f _ Try.size134 rfl rfl hA ?_)
 refine wp_world (fun w3=> Arr .u32 w3 w.heap.size 17 (dg 256 W)∧Arr .u32 w3 (w.heap.size+1) 17 (fun _=> 0)∧Below w.heap.size w w3)
  ⟨hA.setRow _ _,hZ.setRowOther _ (by omega) _,below_setRow' hbel (Nat.le_refl _) _⟩ ?_
 rintro w3 ⟨hA3,hZ3,hb3⟩
 clear hA hZ hbel
 go_wp2_with (first
  | (refine load_arr rfl 134 _ rfl .u32 w.heap.size 17 _ 99 Try.underlying134 Try.size134 rfl hA3 ?_)
  | (refine step_val rfl (run_built rfl (build_less _)) ?_))
 refine (sumP_any W LL _).mono ?_
 rintro e w4 ⟨rfl,hb4⟩
 have hA4:=hA3.kept hb4
 have hZ4:=hZ3.kept hb4
 have hbel4:=hb3.trans (hb4.mono hb3.size)
 have la:=hA4.lt
 have lz:=hZ4.lt
 have hs4:=hbel4.size
 clear hA3 hZ3 hb3 hb4
 go_upto_region 3 with (refine store_arr rfl 134 _ _ rfl .u32 w4.heap.size 17 (fun _=> 0) _ Try.size134 rfl rfl (Arr.newAt rfl rfl) ?_)
 refine wp_world (fun w5=> Arr .u32 w5 w4.heap.size 17 (dg 256 (W+LL))∧Arr .u32 w5 w.heap.size 17 (dg 256 W)∧Arr .u32 w5 (w.heap.size+1) 17 (fun _=> 0)∧Below w.heap.size w w5)
  ⟨Arr.setRow (Arr.newAt (n:=17) (f:=fun _=> 0) rfl rfl) _ _,Arr.setRowOther (Arr.alloc hA4 _) _ (by omega) _,Arr.setRowOther (Arr.alloc hZ4 _) _ (by omega) _,below_setRow' (hbel4.alloc hs4 _) hs4 _⟩ ?_
 rintro w5 ⟨hT,hA5,hZ5,hb5⟩
 clear hA4 hZ4 hbel4
 have e1:=hT.cell 16 (by decide)
 by_cases hlt:W<PP
 ·obtain ⟨d0,d1⟩:=less_no HWB.out.1 hlt
  have hand:=and128_no d0 d1
  obtain ⟨d,hd⟩:∃d,d=dg 256 (W+LL) 16:=⟨_,rfl⟩
  rw [←hd] at e1 hand d0 d1
  have HE:=Lib.hid (Int.emod_eq_of_lt HWB.out.1 hlt)
  clear hd hlt hT
  go_wp2_with (first
   | (refine load_arr rfl 134 _ rfl .u32 w.heap.size 17 _ 99 Try.underlying134 Try.size134 rfl hA5 ?_)
   | (refine store_arr rfl 134 _ _ rfl .u32 (w.heap.size+1) 17 (fun _=> 0) _ Try.size134 rfl rfl hZ5 ?_))
  exact bodyPost_ret (results_arr rfl _ _ .u32 (w.heap.size+1) 17 _ 99 rfl (hZ5.setRow _ _) Try.underlying134 Try.size134) rfl ⟨by rw [HE.out],below_setRow' hb5 (by omega) _⟩
 ·have hy:=less_yes (Int.not_lt.1 hlt) HWB.out.2
  have HY:=Lib.hid hy.1
  rw [hy.2] at e1
  have hand:=and128_yes
  clear hy hlt hA5
  go_wp2_with (first
   | (refine load_arr rfl 134 _ rfl .u32 w4.heap.size 17 _ 99 Try.underlying134 Try.size134 rfl hT ?_)
   | (refine store_arr rfl 134 _ _ rfl .u32 (w.heap.size+1) 17 (fun _=> 0) _ Try.size134 rfl rfl hZ5 ?_))
  refine bodyPost_ret (results_arr rfl _ _ .u32 (w.heap.size+1) 17 _ 99 rfl (hZ5.setRow _ _) Try.underlying134 Try.size134) rfl ⟨?_,below_setRow' hb5 (by omega) _⟩
  rw [arr_congr HY.out]
end Go.Proofs.Ytpcjekgfnfjbpaa
namespace Go.Bas
theorem one_part (A:Int) (hA:0≤A∧A<256 ^ 17):sm 256 (dg 256 A) 17=A:=by rw [sm_dg (by decide),Int.emod_eq_of_lt hA.1 hA.2]
theorem modPP (A:Int):0≤A % PP∧A % PP<256 ^ 17:=⟨Int.emod_nonneg A (by decide),Int.lt_trans (Int.emod_lt_of_pos A (by decide)) (by decide)⟩
theorem prod_mod (f g:Nat→Int):sm 256 (pd (fold5 (sm 256 (fun i=> prodS f g i 17) 17))) 17 % PP=sm 256 f 17 * sm 256 g 17 % PP:=by rw [sm_pd,fold5_mod,prodS_mod f g 17 (Nat.le_refl _)]
theorem prod_small {f g:Nat→Int} (hf:∀i,i<17→0≤f i∧f i≤600) (hg:∀i,i<17→0≤g i∧g i≤255):∀i,i<17→0≤pd (fold5 (sm 256 (fun i=> prodS f g i 17) 17)) i∧pd (fold5 (sm 256 (fun i=> prodS f g i 17) 17)) i≤300:=by
 have h:=sm_top (f:=fun i=> prodS f g i 17) (fun i hi=> by have:=prodS_bound hf hg i hi 17 (Nat.le_refl _);omega)
 have h2:=fold5_bound h.1 h.2
 exact pd_small h2.1 h2.2
theorem dg_le (A:Int) (i:Nat):0≤dg 256 A i∧dg 256 A i≤255:=by have:=dg_bound (by decide:(0:Int)<256) A i;omega
end Go.Bas
namespace Go.Proofs.Ytpcjekgfnfjbpaa
open Go.RowKit Go.Bas
attribute [local go_sem ↓] Go.wp_at_zero Go.wp_at_succ
theorem reduced_dg (A:Int) (hA:0≤A∧A<256 ^ 17) (w:World):
  Calls Try.prog 83 #[.agg (arr .u32 17 (dg 256 A))] w fun e w'=> e=.returned (.agg (arr .u32 17 (dg 256 (A % PP))))∧Below w.heap.size w w':=by
 have h:=reduced_any (dg 256 A) w (fun i _=> by have:=dg_le A i;omega)
 rw [one_part A hA] at h
 exact h
end Go.Proofs.Ytpcjekgfnfjbpaa
