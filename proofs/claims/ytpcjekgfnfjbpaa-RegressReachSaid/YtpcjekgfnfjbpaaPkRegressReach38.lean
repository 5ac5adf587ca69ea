/-
  Part 38 of the texts that the proof of RegressReach rests on, one after the other. Conditions: named in each theorem.
-/
import Derived.Test.YtpcjekgfnfjbpaaPkRegressReach36
import Derived.Test.YtpcjekgfnfjbpaaPkRegressReach35
import Derived.Test.YtpcjekgfnfjbpaaPkRegressReach34
import Derived.Test.YtpcjekgfnfjbpaaPkRegressReach2
import Derived.Test.YtpcjekgfnfjbpaaPkRegressReach3
import Derived.Test.YtpcjekgfnfjbpaaPkRegressReach8
import Derived.Test.YtpcjekgfnfjbpaaPkRegressReach9
import Derived.Test.YtpcjekgfnfjbpaaPkRegressReach26
import Derived.Test.YtpcjekgfnfjbpaaPkRegressReach15
import Derived.BigFrame
import Derived.BigQuiet
import Derived.ChangeKeysEq
import Derived.Deep.Cut
import Derived.Deep.DrawnRows
import Derived.Deep.MidRow
import Derived.Deep.QuietTactic
import Derived.Deep.RegionHeld3
import Derived.Deep.RegionLaw
import Derived.Deep.WholeRow
import Derived.Great.BuildSlice
import Derived.Laws.CopyOwn
import Derived.Laws.StructEq
import Derived.Lib.Hide
import Derived.Maps.AppendAt
import Derived.Maps.Range
import Derived.Orders
import Derived.Test.YtpcjekgfnfjbpaaArr
import Derived.Test.YtpcjekgfnfjbpaaFlow
import Derived.Test.YtpcjekgfnfjbpaaKit
import Derived.Test.YtpcjekgfnfjbpaaRows
import Derived.Test.YtpcjekgfnfjbpaaTxt
import Derived.WalkKit
import Derived.WalkLawsBesides
import Derived.WalkSmall
import Derived.WalkSpells
set_option linter.unusedVariables false
set_option linter.unusedSimpArgs false
set_option maxRecDepth 100000
set_option maxHeartbeats 12800000
namespace Go.Bas
theorem acc_step {R:Int} {F:Nat→Int} {N j:Nat} {f:Nat→Int} {b:Int} (h:sm 256 f 17 % PP=accN R F N j) (hb:b=blockN F N j) (hb0:0≤b∧b<256 ^ 17) (hR:0≤R∧R<256 ^ 17):
  sm 256 (pd (fold5 (sm 256 (fun i=> prodS (fun i=> f i+dg 256 b i) (dg 256 R) i 17) 17))) 17 % PP=accN R F N (j+1):=by
 have e:sm 256 (fun i=> f i+dg 256 b i) 17=sm 256 f 17+b:=by
  have:=sm_lin 256 f (dg 256 b) 1 1 17
  simp only [Int.one_mul] at this
  rw [this,sm_dg (by decide),Int.emod_eq_of_lt hb0.1 hb0.2]
 rw [prod_mod,e,one_part R hR,accN,←h,hb,Int.mul_emod,←Int.emod_add_emod,←Int.mul_emod]
theorem block_bound {F:Nat→Int} {N:Nat} (hF:∀i,i<N→0≤F i∧F i<256) (j:Nat) (h:16 * j<N):0≤blockN F N j∧blockN F N j<256 ^ 17:=by
 unfold blockN
 have hm:min 16 (N - 16 * j)≤16:=by omega
 have h1:=sm_bound (B:=256) (by decide) (f:=fun i=> F (16 * j+i)) (n:=min 16 (N - 16 * j)) (fun i hi=> hF _ (by omega))
 have h2:(256:Int) ^ min 16 (N - 16 * j)≤256 ^ 16:=pow_mono 256 (by decide) _ _ hm
 have h3:(256:Int) ^ 17=256 * 256 ^ 16:=by decide
 have h4:(0:Int)<256 ^ 16:=by decide
 generalize (256:Int) ^ min 16 (N - 16 * j)=p at *
 generalize (256:Int) ^ 16=q at *
 omega
def tagN (K:Int) (F:Nat→Int) (N:Nat):Int:=accN (sm 256 (clampF (dg 256 K)) 16 % PP) F N ((N+15) / 16)+K / 256 ^ 16
theorem blk_rest {N j n0 L:Nat} (hL:L=N - 16 * j) (hn:n0=min 16 L) (h:16 * j<N):L - n0=N - 16 * (j+1):=by omega
theorem blk_lt {N j i n0 L:Nat} (hL:L=N - 16 * j) (hn:n0≤L) (h:i<n0):16 * j+i<N:=by omega
end Go.Bas
namespace Go.Proofs.Ytpcjekgfnfjbpaa
open Go.RowKit Go.Bas
attribute [local go_sem ↓] Go.wp_at_zero Go.wp_at_succ
def lenV:Value→Nat
 | .slice _ n _=> n
 | _=> 0
theorem tag_any (K:Int) (hK:0≤K∧K<256 ^ 32) (v:Value) (m:Nat) (lens:Nat→Nat) (g:Nat→Nat→Int) (F:Nat→Int) (N:Nat) (w:World) (hv:Txt w v m lens g) (hg:∀j,j<m→∀i,i<lens j→F (offs lens j+i)=g j i)
  (hN:offs lens m=N) (hN2:N≤1000000) (hF:∀i,i<N→0≤F i∧F i<256):
  Calls Try.prog 66 #[.agg (arr .u8 32 (dg 256 K)),v] w fun e w'=> e=.returned (.agg (arr .u8 16 (dg 256 (tagN K F N))))∧Below w.heap.size w w':=by
 have HT:=Lib.hid hv
 obtain ⟨ta,tc,rfl,t1,t2,t3⟩:=hv
 have HT3:=Lib.hid t3
 have HG:=Lib.hid hg
 have HN:=Lib.hid hN
 have HF:=Lib.hid hF
 have HO:∀j,j≤m→offs lens j≤N:=fun j hj=> by rw [←hN];exact offs_mono lens hj
 have HOF:=Lib.hid HO
 clear t3 hg hN hF HO
 obtain ⟨R,hR⟩:∃R,R=sm 256 (clampF (dg 256 K)) 16 % PP:=⟨_,rfl⟩
 have cb:∀i,i<16→0≤clampF (dg 256 K) i∧clampF (dg 256 K) i<256:=fun i _=> by
  have:=dg_bound (by decide:(0:Int)<256) K i
  unfold clampF
  split
  ·omega
  ·split<;> omega
 have HO1:Hid (∀(v:Value) (w:World),Rd .u8 w v 16 (clampF (dg 256 K))→Calls Try.prog 79 #[v] w fun e w'=> e=.returned (.tuple #[.agg (arr .u8 17 (dg 256 R)),.int .i64 0])∧Below w.heap.size w w'):=by
  intro v w hv;rw [hR];exact poOf_any v 16 _ w hv cb (by decide)
 have HO2:Hid (∀(v:Value) (w:World),Rd .u8 w v 16 (fun i=> dg 256 K (16+i))→Calls Try.prog 79 #[v] w fun e w'=> e=.returned (.tuple #[.agg (arr .u8 17 (dg 256 (K / 256 ^ 16))),.int .i64 0])∧Below w.heap.size w w'):=by
  intro v w hv;rw [←high16 hK];exact poOf_any v 16 _ w hv (fun i _=> dg_bound (by decide) _ _) (by decide)
 have HC:Hid (∀w:World,Calls Try.prog 80 #[.agg (arr .u8 32 (dg 256 K))] w fun e w'=> ∃v,e=.returned v∧Rd .u8 w' v 16 (clampF (dg 256 K))∧Below w.heap.size w w'):=fun w=> clamped_any _ (fun i _=> dg_bound (by decide) _ _) w
 obtain ⟨S,hS⟩:∃S,S=K / 256 ^ 16:=⟨_,rfl⟩
 have HTN:Hid (tagN K F N=accN R F N ((N+15) / 16)+S):=by rw [hR,hS];rfl
 rw [←hS] at HO2
 obtain ⟨cf,hcf⟩:∃cf,cf=clampF (dg 256 K):=⟨_,rfl⟩
 have HRB:Hid (0≤R∧R<256 ^ 17):=by rw [hR];exact modPP _
 rw [←hcf] at HO1 HC
 clear hR cb hS hcf hK
 obtain ⟨TN,hTN⟩:∃TN,TN=tagN K F N:=⟨_,rfl⟩
 rw [←hTN] at HTN ⊢
 clear hTN
 go_enter Try.func66,Try.ntmps66
 go_upto_region 2 with (fail)
 refine wp_world (fun w1=> Arr .u8 w1 w.heap.size 32 (dg 256 K)∧Arr .u8 w1 (w.heap.size+1) 16 (fun _=> 0)∧Below w.heap.size w w1∧w1.heap.size=w.heap.size+2)
  ⟨Arr.alloc (Arr.newAt rfl rfl) _,Arr.newAt (by simp) (by rfl),((Below.refl _ _).alloc (Nat.le_refl _) _).alloc (by simp) _,by simp⟩ ?_
 rintro w1 ⟨hA,hZ,hbel,hsz⟩
 have HSZ:=Lib.hid hsz
 clear hsz
 go_wp2
 go_loopw [5,21] (fun v i wr=> ∃j:Nat,j≤m∧i=.int .i64 j∧Own .u8 5 (w.heap.size+2) wr v (offs lens j) F∧Arr .u8 wr w.heap.size 32 (dg 256 K)∧Arr .u8 wr (w.heap.size+1) 16 (fun _=> 0)∧Below w.heap.size w wr∧w.heap.size+2≤wr.heap.size) (fun _ i _=> m - (intOf i).toNat)
 case atStart=> exact ⟨0,Nat.zero_le _,rfl,Own.nil _ _ _ _ _,hA,hZ,hbel,by have:=HSZ.out;omega⟩
 case round=>
  clear hA hZ hbel
  obtain ⟨j,hj,rfl,ho,hA,hZ,hbel,hs2⟩:=hrel
  have HO:=Lib.hid ho
  clear ho
  by_cases hlt:j<m
  ·obtain ⟨tb,to,rfl,tlt,tcell⟩:=HT3.out (by omega)
   obtain ⟨u,hu,hru⟩:=tcell j hlt
   have e1:=(hbel.cell (p:=⟨tb,to+j,none⟩) tlt).trans hu
   obtain ⟨ua,uc,rfl,u1,u2,u3,u4⟩:=id hru
   have HRU:=Lib.hid (hru.below hbel)
   have HNB:Hid (offs lens j+lens j≤N):=HOF.out (j+1) (by omega)
   have hne0:=HO.out.far (show w.heap.size<w.heap.size+2 by omega)
   have hne1:=HO.out.far (show w.heap.size+1<w.heap.size+2 by omega)
   clear tcell hu hru u3 u4
   go_wp2_with (at_builtin;refine append_rd rfl _ _ 28 rfl (w.heap.size+2) 5 .u8 1 Try.underlying28 Try.info5 _ (offs lens j) F HO.out rfl _ (lens j) (g j) HRU.out rfl (HG.out j hlt) (by have:=HNB.out;omega) (by have:=HNB.out;omega) hs2 ?_;intro v' w3 hown hgrow)
   go_roundw
   case rel=> exact ⟨j+1,by omega,by go_num,hown,hA.grown hgrow hne0,hZ.grown hgrow hne1,below_grown hbel hgrow HO.out hbel.size (by omega),by have:=hgrow.size;omega⟩
   case measure=> simp [intOf] <;> omega
  ·obtain rfl:j=m:=by omega
   have hall:=HO.out.rd
   rw [HN.out] at hall
   have HALL:=Lib.hid hall
   clear HO hall
   obtain ⟨W0,hW0⟩:∃W0,W0=wr:=⟨_,rfl⟩
   subst hW0
   have hbelW:=hbel
   have hZW:=hZ
   have HBW:=Lib.hid hbelW
   have HZW:=Lib.hid hZW
   replace hbel:=Below.refl W0.heap.size W0
   clear hbelW hZW
   have s0:=hbel.size
   have l0:=hZ.lt
   go_wp2_with (refine load_arr rfl 22 _ rfl .u8 w.heap.size 32 _ 5 Try.underlying22 Try.size22 rfl (Arr.alloc hA _) ?_)
   refine (HC.out _).mono ?_
   rintro e w2 ⟨v,rfl,hv,hb2⟩
   have hA2:=(Arr.alloc hA _).kept hb2
   have hZ2:=(Arr.alloc hZ _).kept hb2
   have hbel2:=(hbel.alloc s0 _).trans (hb2.mono (by simp))
   have hE:=(Own.new .u8 5 W0 #[] 0 cf (Nat.le_refl _) (by omega) rfl (fun i hi=> by omega)).below hb2
   have s2:W0.heap.size≤w2.heap.size:=by have:=hb2.size;simp at this;omega
   have HV:=Lib.hid hv
   clear hA hZ hbel hb2 hv
   go_wp2_with (at_builtin;refine append_rd rfl _ _ 28 rfl W0.heap.size 5 .u8 1 Try.underlying28 Try.info5 _ 0 cf hE rfl _ 16 cf HV.out rfl (fun i _=> by rw [Nat.zero_add]) (by omega) (by omega) s2 ?_;intro v3 w3 hown hgrow)
   refine (HO1.out _ _ (by rw [Nat.zero_add] at hown;exact hown.rd)).mono ?_
   rintro e w4 ⟨rfl,hb4⟩
   have hA4:=(hA2.grown hgrow (hE.far (by omega))).kept hb4
   have hZ4:=(hZ2.grown hgrow (hE.far (by omega))).kept hb4
   have hbel3:=below_grown hbel2 hgrow hE (by omega) s0
   have hbel4:=hbel3.trans (hb4.mono hbel3.size)
   have s4:=hbel4.size
   have l4:=hZ4.lt
   have k4:=hA4.lt
   clear hA2 hZ2 hbel2 hE hown hgrow hb4 hbel3 HV
   go_upto_region 8 with (refine store_arr rfl 129 _ _ rfl .u8 w4.heap.size 17 (fun _=> 0) _ Try.size129 rfl rfl (Arr.newAt rfl rfl) ?_)
   refine wp_world (fun w5=> Arr .u8 w5 w4.heap.size 17 (dg 256 R)∧Arr .u8 w5 w.heap.size 32 (dg 256 K)∧Arr .u8 w5 (w.heap.size+1) 16 (fun _=> 0)∧Below W0.heap.size W0 w5)
    ⟨Arr.setRow (Arr.newAt (n:=17) (f:=fun _=> 0) rfl rfl) _ _,Arr.setRowOther (Arr.alloc hA4 _) _ (by omega) _,Arr.setRowOther (Arr.alloc hZ4 _) _ (by omega) _,below_setRow' (hbel4.alloc s4 _) s4 _⟩ ?_
   rintro w5 ⟨hR5,hA5,hZ5,hbel5⟩
   clear hA4 hZ4 hbel4
   have hRd:Rd .u8 w5 (.slice (some ⟨w.heap.size,16,none⟩) 16 16) 16 (fun i=> dg 256 K (16+i)):=⟨_,_,rfl,by decide,by decide,(fun h=> by cases h),fun _=> ⟨_,16,rfl,hA5.lt,fun i hi=> hA5.cell (16+i) (by omega)⟩⟩
   have HRd:=Lib.hid hRd
   clear hRd hA5
   go_wp2_with fail
   refine (HO2.out _ _ HRd.out).mono ?_
   rintro e w6 ⟨rfl,hb6⟩
   have hR6:=hR5.kept hb6
   have hZ6:=hZ5.kept hb6
   have hbel6:=hbel5.trans (hb6.mono hbel5.size)
   have s6:=hbel6.size
   have l6:=hZ6.lt
   have r6:=hR6.lt
   clear hR5 hZ5 hbel5 hb6 HRd
   go_upto_region 9 with (refine store_arr rfl 129 _ _ rfl .u8 w6.heap.size 17 (fun _=> 0) _ Try.size129 rfl rfl (Arr.newAt rfl rfl) ?_)
   refine wp_world (fun w7=> Arr .u8 w7 w6.heap.size 17 (dg 256 S)∧Arr .u8 w7 w4.heap.size 17 (dg 256 R)∧Arr .u8 w7 (w.heap.size+1) 16 (fun _=> 0)∧Below W0.heap.size W0 w7)
    ⟨Arr.setRow (Arr.newAt (n:=17) (f:=fun _=> 0) rfl rfl) _ _,Arr.setRowOther (Arr.alloc hR6 _) _ (by omega) _,Arr.setRowOther (Arr.alloc hZ6 _) _ (by omega) _,below_setRow' (hbel6.alloc s6 _) s6 _⟩ ?_
   rintro w7 ⟨hS7,hR7,hZ7,hbel7⟩
   clear hR6 hZ6 hbel6
   go_wp2_with (first
    | (refine load_arr rfl 129 _ rfl .u8 w4.heap.size 17 _ 5 Try.underlying129 Try.size129 rfl hR7 ?_)
    | (refine step_val rfl (run_built rfl (build_parts _)) ?_))
   refine (wide_any R _).mono ?_
   rintro e w8 ⟨rfl,hb8⟩
   have hS8:=hS7.kept hb8
   have hZ8:=hZ7.kept hb8
   have hbel8:=hbel7.trans (hb8.mono hbel7.size)
   have s8:=hbel8.size
   have l8:=hZ8.lt
   have r8:=hS8.lt
   clear hS7 hR7 hZ7 hbel7 hb8
   obtain ⟨p,hp⟩:∃p,p=w6.heap.size:=⟨_,rfl⟩
   rw [←hp] at hS8 r8 ⊢
   clear hp s6 l6 r6
   go_wp2_with (first
    | (refine store_arr rfl 134 _ _ rfl .u32 w8.heap.size 17 (fun _=> 0) _ Try.size134 rfl rfl (Arr.alloc (Arr.newAt (by simp) (by rfl)) _) ?_)
    | (refine store_arr rfl 134 _ _ rfl .u32 (w8.heap.size+1) 17 (fun _=> 0) _ Try.size134 rfl rfl (Arr.setRowOther (Arr.newAt (by simp) (by rfl)) _ (by omega) _) ?_))
   refine wp_world (fun wq=> Arr .u32 wq w8.heap.size 17 (dg 256 0)∧Arr .u32 wq (w8.heap.size+1) 17 (dg 256 R)∧Arr .u8 wq p 17 (dg 256 S)∧Arr .u8 wq (w.heap.size+1) 16 (fun _=> 0)∧Below W0.heap.size W0 wq) ⟨?_,?_,?_,?_,?_⟩ ?_
   ·refine Arr.setRowOther (Arr.congr (f:=fun _=> 0) (Arr.setRow (Arr.alloc (Arr.newAt (f:=fun _=> 0) (n:=17) (by simp) (by rfl)) _) _ _) fun i _=> by simp [dg]) _ (by omega) _
   ·exact Arr.setRow (Arr.setRowOther (Arr.newAt (n:=17) (f:=fun _=> 0) (by simp) (by rfl)) _ (by omega) _) _ _
   ·exact Arr.setRowOther (Arr.setRowOther (Arr.alloc (Arr.alloc hS8 _) _) _ (by omega) _) _ (by omega) _
   ·exact Arr.setRowOther (Arr.setRowOther (Arr.alloc (Arr.alloc hZ8 _) _) _ (by omega) _) _ (by omega) _
   ·exact below_setRow' (below_setRow' ((hbel8.alloc s8 _).alloc (by simp;omega) _) s8 _) (by omega) _
   rintro wb ⟨hT8,hY8,hSb,hZb,hbelb⟩
   clear hS8 hZ8 hbel8
   obtain ⟨A,hAe⟩:∃A,A=w8.heap.size:=⟨_,rfl⟩
   rw [←hAe] at hT8 hY8 r8 l8 s8 ⊢
   clear hAe hZb
   simp only [Act.put]
   go_loopw [5] (fun v wq=> ∃(j:Nat) (f:Nat→Int),j≤(N+15) / 16∧Rd .u8 W0 v (N - 16 * j) (fun i=> F (16 * j+i))∧(∀i,i<17→0≤f i∧f i≤300)∧sm 256 f 17 % PP=accN R F N j∧Arr .u32 wq A 17 f∧Arr .u32 wq (A+1) 17 (dg 256 R)∧Arr .u8 wq p 17 (dg 256 S)∧Below W0.heap.size W0 wq) (fun v _=> lenV v)
   case atStart=> exact ⟨0,dg 256 0,Nat.zero_le _,by rw [Nat.mul_zero,Nat.sub_zero];exact HALL.out.congr (fun i _=> by rw [Nat.zero_add]),fun i _=> by rw [dg_nil];decide,by rw [sm_dg (by decide)];rfl,hT8,hY8,hSb,hbelb⟩
   case round=>
    clear hT8 hY8 hSb hbelb HALL
    obtain ⟨j,f,hj,hrd,hfb,hacc,hX,hY,hP,hbel⟩:=hrel
    have HFB:=Lib.hid hfb
    have HACC:=Lib.hid hacc
    have HP:=Lib.hid hP
    clear hfb hacc hP
    by_cases hlt:16 * j<N
    ·obtain ⟨L,hL⟩:∃L,L=N - 16 * j:=⟨_,rfl⟩
     rw [←hL] at hrd
     have hL0:0<L:=by omega
     obtain ⟨la,lc,rfl,d1,d2,d3,d4⟩:=id hrd
     obtain ⟨n0,hn0⟩:∃n0,n0=min 16 L:=⟨_,rfl⟩
     have hn1:n0≤16∧n0≤L:=by omega
     have hn2:0<n0:=by omega
     have HN16:Hid (n0<L→n0=16):=by unfold Hid;omega
     have hmin:(if 16<(L:Int) then (16:Int) else (L:Int))=(n0:Int):=by split<;> omega
     obtain ⟨g1,g2⟩:=Rd.head Try.underlying28 Try.info5 la L lc n0 hn1.2 d1
     obtain ⟨la',k1,k2,k3⟩:=Rd.cut Try.underlying28 Try.info5 la L lc n0 L hn1.2 (Nat.le_refl _) d1
     have HRH:=Lib.hid (g2 _ _ hrd)
     have HRC:=Lib.hid (k3 _ _ hrd).2
     have HB1:Hid (sm 256 (fun i=> F (16 * j+i)) n0+256 ^ n0=blockN F N j):=by unfold Hid blockN;rw [←hL,←hn0]
     have HB2:Hid (0≤blockN F N j∧blockN F N j<256 ^ 17):=block_bound HF.out j hlt
     have HBY:Hid (∀i,i<n0→0≤F (16 * j+i)∧F (16 * j+i)<256):=fun i hi=> HF.out (16 * j+i) (blk_lt hL hn1.2 hi)
     have HLL:Hid (L - n0=N - 16 * (j+1)):=blk_rest hL hn0 hlt
     have hs:=hbel.size
     have hXl:=hX.lt
     have hYl:=hY.lt
     clear d3 d4 g2 k1 k3 hrd hL hn0
     have K2:=Lib.hid k2
     have G1:=Lib.hid g1
     clear k2 g1
     obtain ⟨b,hb⟩:∃b,b=blockN F N j:=⟨_,rfl⟩
     rw [←hb] at HB1 HB2
     have HBE:=Lib.hid hb
     clear hb
     go_upto_region 13 with (fail)
     refine wp_world (fun w2=> Arr .u8 w2 wr.heap.size 17 (fun _=> 0)∧Arr .u32 w2 A 17 f∧Arr .u32 w2 (A+1) 17 (dg 256 R)∧Arr .u8 w2 p 17 (dg 256 S)∧Below W0.heap.size W0 w2)
      ⟨Arr.newAt rfl rfl,Arr.alloc hX _,Arr.alloc hY _,Arr.alloc HP.out _,hbel.alloc hs _⟩ ?_
     rintro w2 ⟨hQ2,hX2,hY2,hP2,hbel2⟩
     obtain ⟨B,hBe⟩:∃B,B=wr.heap.size:=⟨_,rfl⟩
     rw [←hBe] at hQ2 hXl hYl hs ⊢
     clear hX hY HP hbel hBe
     refine region_last' (n:=87) 4 rfl (by decide) (by kernel_rfl) (by kernel_rfl) (by kernel_rfl) (by kernel_rfl) rfl
      (fun ii vv _=> (match ii with | 0=> vv=.slice (some ⟨B,0,none⟩) 17 17 | 1=> vv=.slice la L lc | 2=> vv=.int .i64 ((n0:Int)) | 3=> vv=.slice la n0 lc | _=> True))
      (fun w w'=> Below w.heap.size w w') (fun _ _ h=> h) (fun _ _ _ _ h _=> h) rfl ?_ ?_
     ·refine Each.all ?_
      refine ⟨?_,?_,?_,?_,(fun h=> absurd rfl h),trivial⟩
      ·intro _ a w2 hB hF hd
       rw [if_pos (wanted_none rfl)]
       exact flow_val (fun h=> by cases h) (run_slice_arr rfl (hF.same 15 rfl) Try.underlying129 (by kernel_rfl)) rfl
      ·intro _ a w2 hB hF hd
       rw [if_pos (wanted_none rfl)]
       exact flow_move _ (.inl rfl) (by simp) (hF.same 5 rfl)
      ·intro _ a w2 hB hF hd
       rw [if_pos (wanted_none rfl)]
       exact flow_move _ (.inl rfl) (by simp) (hF.same 14 rfl)
      ·intro _ a w2 hB hF hd
       rw [if_pos (wanted_none rfl)]
       exact flow_val (fun h=> by cases h) (run_slice_part rfl (hd 1 _ rfl (waits_spec rfl)) (by simp only [Option.map_some,Option.map_none,show a.eval (Operand.tmp 53)=.int .i64 ((n0:Int)) from (hd 2 _ rfl (waits_spec rfl))];exact G1.out _)) rfl
     ·intro a w3 hB hF hS
      obtain ⟨x55,hx55⟩:∃x,x=a.tmps.getD 55 undef:=⟨_,rfl⟩
      have ha:=puts_each rfl rfl hF [_,_,_,_,x55] rfl ⟨hS 0 _ rfl (by decide),hS 1 _ rfl (by decide),hS 2 _ rfl (by decide),hS 3 _ rfl (by decide),hx55.symm,trivial⟩
      simp only [puts,Act.put,List.setIfInBounds_toArray,List.set_cons_succ,List.set_cons_zero] at ha
      subst ha
      clear hx55
      clear hS hF
      have hX3:=hX2.kept hB
      have hY3:=hY2.kept hB
      have hP3:=hP2.kept hB
      have hQ3:=hQ2.kept hB
      have hbel3:=hbel2.trans (hB.mono hbel2.size)
      have HR3:=Lib.hid (HRH.out.below hbel3)
      clear hX2 hY2 hP2 hQ2 hbel2 hB HRH
      refine wp_copy_arr _ _ 28 28 rfl B 0 17 17 17 (fun _=> 0) Try.underlying28 Try.size5 rfl hQ3 _ n0 (fun i=> F (16 * j+i)) HR3.out rfl (by omega) (by omega) ?_
      go_upto_region 14 with (fail)
      refine wp_world (fun w4=> Arr .u8 w4 B 17 (laid (fun _=> 0) 0 n0 (fun i=> F (16 * j+i)))∧Arr .u32 w4 A 17 f∧Arr .u32 w4 (A+1) 17 (dg 256 R)∧Arr .u8 w4 p 17 (dg 256 S)∧Below W0.heap.size W0 w4)
       ⟨hQ3.setRow _ _,hX3.setRowOther _ (by omega) _,hY3.setRowOther _ (by omega) _,hP3.setRowOther _ (by omega) _,below_setRow' hbel3 hs _⟩ ?_
      rintro w4 ⟨hQ4,hX4,hY4,hP4,hbel4⟩
      clear hX3 hY3 hP3 hQ3 hbel3 HR3
      have e1:=hQ4.cell n0 (by omega)
      have f1:=hQ4.free n0
      have k2:=K2.out
      go_upto_region 15 with (fail)
      refine wp_world (fun w5=> Arr .u8 w5 B 17 (dg 256 b)∧Arr .u32 w5 A 17 f∧Arr .u32 w5 (A+1) 17 (dg 256 R)∧Arr .u8 w5 p 17 (dg 256 S)∧Below W0.heap.size W0 w5)
       ⟨(hQ4.set n0 1).congr (fun i hi=> by rw [piece_dg (f:=fun i=> F (16 * j+i)) hn1.1 HBY.out i hi,HB1.out]),hX4.other (by simp;omega) _,hY4.other (by simp;omega) _,hP4.other (by simp;omega) _,hbel4.setCell hs _⟩ ?_
      rintro w5 ⟨hQ5,hX5,hY5,hP5,hbel5⟩
      clear hQ4 hX4 hY4 hP4 hbel4 e1 f1
      go_wp2_with (refine load_arr rfl 129 _ rfl .u8 B 17 _ 5 Try.underlying129 Try.size129 rfl hQ5 ?_)
      refine (wide_any b _).mono ?_
      rintro e w6 ⟨rfl,hb6⟩
      have hX6:=hX5.kept hb6
      have hY6:=hY5.kept hb6
      have hP6:=hP5.kept hb6
      have hbel6:=hbel5.trans (hb6.mono hbel5.size)
      have s6:=hbel6.size
      have x6:=hX6.lt
      have y6:=hY6.lt
      have p6:=hP6.lt
      clear hQ5 hX5 hY5 hP5 hbel5 hb6 k2 K2 G1
      go_upto_region 17 with (refine store_arr rfl 134 _ _ rfl .u32 w6.heap.size 17 (fun _=> 0) _ Try.size134 rfl rfl (Arr.newAt (by simp) (by rfl)) ?_)
      refine wp_world (fun w7=> Arr .u32 w7 w6.heap.size 17 (dg 256 b)∧Arr .u32 w7 A 17 f∧Arr .u32 w7 (A+1) 17 (dg 256 R)∧Arr .u8 w7 p 17 (dg 256 S)∧Below W0.heap.size W0 w7)
       ⟨Arr.setRow (Arr.newAt (n:=17) (f:=fun _=> 0) rfl rfl) _ _,Arr.setRowOther (Arr.alloc hX6 _) _ (by omega) _,Arr.setRowOther (Arr.alloc hY6 _) _ (by omega) _,Arr.setRowOther (Arr.alloc hP6 _) _ (by omega) _,below_setRow' (hbel6.alloc s6 _) s6 _⟩ ?_
      rintro w7 ⟨hM7,hX7,hY7,hP7,hbel7⟩
      obtain ⟨M,hMe⟩:∃M,M=w6.heap.size:=⟨_,rfl⟩
      rw [←hMe] at hM7 x6 y6 p6 s6 ⊢
      clear hX6 hY6 hP6 hbel6 hMe
      simp only [Act.put]
      go_wp2
      go_loopw [63] (fun i wq=> ∃k:Nat,k≤17∧i=.int .i64 k∧Arr .u32 wq A 17 (upto k (fun i=> f i+dg 256 b i) f)∧Arr .u32 wq M 17 (dg 256 b)∧Arr .u32 wq (A+1) 17 (dg 256 R)∧Arr .u8 wq p 17 (dg 256 S)∧Below W0.heap.size W0 wq) (fun i _=> 17 - (intOf i).toNat)
      case atStart=> exact ⟨0,Nat.zero_le _,rfl,by rw [upto_zero];exact hX7,hM7,hY7,hP7,hbel7⟩
      case round=>
       clear hM7 hX7 hY7 hP7 hbel7
       obtain ⟨k,hk,rfl,hX,hM,hY,hP,hbel⟩:=hrel
       have HM:=Lib.hid hM
       have HY:=Lib.hid hY
       have HPP:=Lib.hid hP
       by_cases hkt:k<17
       ·have e1:=hX.cell k hkt
        rw [upto_at] at e1
        have e2:=hM.cell k hkt
        have f1:=hX.free k
        obtain ⟨b0,b1⟩:=dg_le b k
        obtain ⟨b2,b3⟩:=HFB.out k hkt
        have HX:=Lib.hid hX
        clear hX hY hP hM
        go_wp2
        go_region
        all_goals
         go_wp2
         go_roundw
         case rel=> exact ⟨k+1,by omega,by go_num,by rw [←upto_step rfl];exact (HX.out.set k _).drew,(HM.out.other (by simp;omega) _).drew,(HY.out.other (by simp) _).drew,(HPP.out.other (by simp;omega) _).drew,(hbel.setCell (by simp;omega) _).drew⟩
         case measure=> simp [intOf] <;> omega
       ·obtain rfl:k=17:=by omega
        have hX2:=hX.congr (upto_full _ _ (Nat.le_refl _))
        clear hX hY hP hM
        have bf:∀i,i<17→0≤f i+dg 256 b i∧f i+dg 256 b i≤600:=fun i hi=> by have:=dg_le b i;have:=HFB.out i hi;omega
        obtain ⟨q,hq⟩:∃q,q=pd (fold5 (sm 256 (fun i=> prodS (fun i=> f i+dg 256 b i) (dg 256 R) i 17) 17)):=⟨_,rfl⟩
        have HQC:Hid (∀w:World,Calls Try.prog 82 #[.agg (arr .u32 17 (fun i=> f i+dg 256 b i)),.agg (arr .u32 17 (dg 256 R))] w fun e w'=> e=.returned (.agg (arr .u32 17 q))∧Below w.heap.size w w'):=by
         intro w;rw [hq];exact product_any _ _ w bf (fun i _=> dg_le R i)
        have HQS:Hid (∀i,i<17→0≤q i∧q i≤300):=by rw [hq];exact prod_small bf (fun i _=> dg_le R i)
        have HQA:Hid (sm 256 q 17 % PP=accN R F N (j+1)):=by rw [hq];exact acc_step HACC.out HBE.out HB2.out HRB.out
        have sw:=hbel.size
        clear bf hq
        go_wp2_with (first
         | (refine load_arr rfl 134 _ rfl .u32 A 17 _ 99 Try.underlying134 Try.size134 rfl hX2 ?_)
         | (refine load_arr rfl 134 _ rfl .u32 (A+1) 17 _ 99 Try.underlying134 Try.size134 rfl HY.out ?_))
        refine (HQC.out _).mono ?_
        rintro e w8 ⟨rfl,hb8⟩
        have hX8:=hX2.kept hb8
        have hY8:=HY.out.kept hb8
        have hP8:=HPP.out.kept hb8
        have hbel8:=hbel.trans (hb8.mono sw)
        clear hX2 HY HM HPP hbel hb8
        go_wp2_with (refine store_arr rfl 134 _ _ rfl .u32 A 17 _ _ Try.size134 rfl rfl hX8 ?_)
        go_roundw
        case rel=>
         (repeat apply Exists.intro)
         refine ⟨?_,rfl⟩
         exact ⟨j+1,q,by omega,by rw [←HLL.out];exact HRC.out.congr (fun i hi=> by have:=HN16.out (by omega);rw [show 16 * (j+1)+i=16 * j+(n0+i) by omega]),HQS.out,HQA.out,hX8.setRow _ _,hY8.setRowOther _ (by omega) _,hP8.setRowOther _ (by omega) _,below_setRow' hbel8 (by omega) _⟩
        case measure=> show L - n0<L;omega
    ·obtain ⟨L,hL⟩:∃L,L=N - 16 * j:=⟨_,rfl⟩
     rw [←hL] at hrd
     obtain rfl:L=0:=by omega
     obtain rfl:j=(N+15) / 16:=by omega
     obtain ⟨la,lc,rfl,d1,d2,d3,d4⟩:=id hrd
     clear hrd d3 d4 hL
     obtain ⟨AC,hAC⟩:∃AC,AC=accN R F N ((N+15) / 16):=⟨_,rfl⟩
     rw [←hAC] at HTN HACC
     have HRC:Hid (∀w,Calls Try.prog 83 #[.agg (arr .u32 17 f)] w fun e w'=> e=.returned (.agg (arr .u32 17 (dg 256 AC)))∧Below w.heap.size w w'):=by
      intro w
      have h:=reduced_any f w (fun i hi=> by have:=HFB.out i hi;omega)
      rwa [HACC.out] at h
     have s0:=hbel.size
     clear hAC hY
     go_upto_region 23 with (fail)
     refine region_vars (n:=87) (by kernel_rfl) (by kernel_rfl) (by kernel_rfl) rfl
      (isAl [(6,5)]) (putOf [(6,5)]) (fun _=> arr .u32 17 (fun _=> 0)) (fun _=> (arr .u32 17 (dg 256 (AC+S)))) (fun _=> 134) (fun _=> 18)
      (fun ii vv _=> (match ii with | 0=> vv=.agg (arr .u32 17 (f)) | 1=> vv=.agg (arr .u32 17 (dg 256 AC)) | 2=> vv=.agg (arr .u8 17 (dg 256 S)) | 3=> vv=.agg (arr .u32 17 (dg 256 S)) | 4=> vv=.agg (arr .u32 17 (dg 256 (AC+S))) | _=> True)) (fun _ _=> True) (fun _ _ _=> trivial) (fun _ _ _ _ _ _ _=> trivial) (fun _ _ _ _ h _=> h)
      (vs_al rfl) (vs_inj rfl) ?_ ?_ ?_ ?_
     ·refine Each.all ?_
      refine ⟨?_,?_,?_,?_,?_,(fun h=> by cases h),(fun _ h=> by cases h),trivial⟩
      ·intro _ _ a w2 hB hF hd
       rw [if_pos (wanted_none rfl)]
       exact flow_val (fun h=> by cases h) (run_load_str rfl Try.underlying134 rfl Try.size134 (hF.same 12 rfl) (hX.below hB hX.lt)) rfl
      ·intro _ _ a w2 hB hF hd
       rw [if_pos (wanted_none rfl)]
       refine flow_call _ _ _ rfl Try.call83 _ (args1 (hd 0 _ rfl rfl rfl (waits_spec rfl))) (by simp) ((HRC.out w2).mono ?_)
       rintro e w3 ⟨rfl,hb⟩;exact ⟨_,rfl,rfl,hb⟩
      ·intro _ _ a w2 hB hF hd
       rw [if_pos (wanted_none rfl)]
       exact flow_val (fun h=> by cases h) (run_load_str rfl Try.underlying129 rfl Try.size129 (hF.same 10 rfl) (HP.out.below hB HP.out.lt)) rfl
      ·intro _ _ a w2 hB hF hd
       rw [if_pos (wanted_none rfl)]
       refine flow_call _ _ _ rfl Try.call81 _ (args1 (hd 2 _ rfl rfl rfl (waits_spec rfl))) (by simp) ((wide_any S w2).mono ?_)
       rintro e w3 ⟨rfl,hb⟩;exact ⟨_,rfl,rfl,hb⟩
      ·intro _ _ a w2 hB hF hd
       rw [if_pos (wanted_none rfl)]
       refine flow_call _ _ _ rfl Try.call84 _ (args2 (hd 1 _ rfl rfl rfl (waits_spec rfl)) (hd 3 _ rfl rfl rfl (waits_spec rfl))) (by simp) ((sumP_any AC S w2).mono ?_)
       rintro e w3 ⟨rfl,hb⟩;exact ⟨_,rfl,rfl,hb⟩
     ·refine Each.all ?_
      refine ⟨(fun h=> by cases h),(fun h=> by cases h),(fun h=> by cases h),(fun h=> by cases h),(fun h=> by cases h),?_,(fun h=> by cases h),trivial⟩
      ·exact fun _=> ⟨rfl,rfl,fun a w2 K h=> flow_alloc rfl rfl Try.zeroValue134 (by simp) h⟩
     ·refine Each.all ?_
      refine ⟨(fun _ h=> by cases h),(fun _ h=> by cases h),(fun _ h=> by cases h),(fun _ h=> by cases h),(fun _ h=> by cases h),(fun _ h=> by cases h),?_,trivial⟩
      ·intro p hp
       obtain rfl:5=p:=Option.some.inj hp
       exact ⟨rfl,rfl,⟨_,rfl⟩,waits_spec rfl,fun a w2 b K hB hF hd hx hb h=> flow_put rfl rfl Try.size134 hx (hd 4 _ rfl rfl rfl (waits_spec rfl)) hb h⟩
     ·intro a w9 blk hB hF hS hv hfin hdis
      obtain ⟨v5,v5l,v5u⟩:=hv 5 _ rfl rfl
      have ha:=puts_each rfl rfl hF [_,_,_,_,_,_,undef] rfl ⟨hS 0 _ rfl rfl rfl,hS 1 _ rfl rfl rfl,hS 2 _ rfl rfl rfl,hS 3 _ rfl rfl rfl,hS 4 _ rfl rfl rfl,v5,trivial,trivial⟩
      have f5:=hfin 6 _ 5 rfl rfl
      simp only [puts,Act.put,List.setIfInBounds_toArray,List.set_cons_succ,List.set_cons_zero] at ha
      subst ha
      have V5:Arr .u32 w9 (blk 5) 17 (dg 256 (AC+S)):=⟨_,f5⟩
      clear hS hv hfin hdis hF v5 f5
      have hbel9:=hbel.trans (hB.mono hbel.size)
      have s9:=hbel9.size
      have hZ9:=(HZW.out.kept hbel9)
      have hW9:=HBW.out.trans (hbel9.mono HBW.out.size)
      clear hX HP hbel hB
      obtain ⟨q,hq⟩:∃q,q=blk 5:=⟨_,rfl⟩
      rw [←hq] at V5 ⊢
      clear hq
      go_wp2_with (refine load_arr rfl 134 _ rfl .u32 q 17 _ 99 Try.underlying134 Try.size134 rfl V5 ?_)
      refine (bytes16_any (AC+S) _).mono ?_
      rintro e wa ⟨v,rfl,hv,hba⟩
      have hZa:=hZ9.kept hba
      have hbela:=hW9.trans (hba.mono hW9.size)
      obtain ⟨g,c,rfl,q1,q2,q3,q4,hcells,q5⟩:=hv.form (by decide)
      have HCL:=Lib.hid hcells
      have hat:=arrayAt_part (a:=some ⟨g,0,none⟩) (len:=16) (cap:=c) Try.underlying96 (by decide)
      clear hv hcells q5 hZ9 hbel9 V5 hba hW9
      go_wp2_with (first
       | (refine load_part rfl 96 _ rfl .u8 g 0 16 (dg 256 (AC+S)) 5 Try.underlying96 Try.size96 rfl (fun i hi=> by rw [Nat.zero_add];exact HCL.out i hi) ?_)
       | (refine store_arr rfl 96 _ _ rfl .u8 (w.heap.size+1) 16 (fun _=> 0) _ Try.size96 rfl rfl hZa ?_))
      exact bodyPost_ret (results_arr rfl _ _ .u8 (w.heap.size+1) 16 _ 5 rfl (hZa.setRow _ _) Try.underlying96 Try.size96) rfl ⟨by rw [HTN.out],below_setRow' hbela (by omega) _⟩
end Go.Proofs.Ytpcjekgfnfjbpaa
