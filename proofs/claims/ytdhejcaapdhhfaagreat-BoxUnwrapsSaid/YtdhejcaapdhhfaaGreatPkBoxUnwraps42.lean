/-
  Part 42 of the texts that the proof of BoxUnwraps rests on, one after the other. Conditions: named in each theorem.
-/
import Derived.Test.YtdhejcaapdhhfaaGreatPkBoxUnwraps15
import Derived.Test.YtdhejcaapdhhfaaGreatPkBoxUnwraps2
import Derived.Test.YtdhejcaapdhhfaaGreatPkBoxUnwraps1
import Derived.Test.YtdhejcaapdhhfaaGreatPkBoxUnwraps14
import Derived.Test.YtdhejcaapdhhfaaGreatPkBoxUnwraps6
import Derived.Test.YtdhejcaapdhhfaaGreatPkBoxUnwraps3
import Derived.Test.YtdhejcaapdhhfaaGreatPkBoxUnwraps4
import Derived.Test.YtdhejcaapdhhfaaGreatPkBoxUnwraps5
import Derived.Test.YtdhejcaapdhhfaaGreatPkBoxUnwraps7
import Derived.Test.YtdhejcaapdhhfaaGreatPkBoxUnwraps9
import Derived.Test.YtdhejcaapdhhfaaGreatPkBoxUnwraps8
import Derived.Test.YtdhejcaapdhhfaaGreatPkBoxUnwraps10
import Derived.Test.YtdhejcaapdhhfaaGreatPkBoxUnwraps11
import Derived.BigFrame
import Derived.BigQuiet
import Derived.ChangeKeysEq
import Derived.Deep.Cut
import Derived.Deep.DrawnRows
import Derived.Deep.LoopGhost
import Derived.Deep.QuietTactic
import Derived.Deep.RegionHeld3
import Derived.Deep.RegionLaw
import Derived.Deep.WholeRow
import Derived.Laws.BitsAllLaws
import Derived.Laws.BytesArg
import Derived.Laws.CopyOwn
import Derived.Laws.Strings
import Derived.Laws.StructEq
import Derived.Lib.BufferRead
import Derived.Lib.Hide
import Derived.Maps.AppendAt
import Derived.Maps.Range
import Derived.OpenShut
import Derived.Orders
import Derived.Test.YtdhejcaapdhhfaaGreatArr
import Derived.Test.YtdhejcaapdhhfaaGreatFlow
import Derived.Test.YtdhejcaapdhhfaaGreatKit
import Derived.Test.YtdhejcaapdhhfaaGreatRows
import Derived.WalkKit
import Derived.WalkLawsBesides
import Derived.WalkSmall
import Derived.WalkSpells
set_option linter.unusedVariables false
set_option linter.unusedSimpArgs false
set_option maxRecDepth 100000
set_option maxHeartbeats 16000000
namespace Go.Proofs.YtdhejcaapdhhfaaGreat
open Go.RowKit Go.Bas Go.ChangeShapes
attribute [local go_sem ↓] Go.wp_at_zero Go.wp_at_succ
theorem by_digits:∀i,i<16→upd (upd (fun _=> 0) 0 56129) 1 1 i=dg 65536 (121665 % Pr) i:=by
 have key:∀i:Fin 16,upd (upd (fun _=> 0) 0 56129) 1 1 i.val=dg 65536 (121665 % Pr) i.val:=by decide+kernel
 exact fun i h=> key ⟨i,h⟩
theorem small_rd (n:Int) (h:n % Pr=n) (h0:0≤n) (h1:n<65536) (w:World):Calls Tryz.prog 80 #[.int .i64 n] w fun e w'=> ∃v,e=.returned v∧Rd .i64 w' v 16 (dg 65536 (n % Pr))∧Below w.heap.size w w':=by
 rw [h];exact rSmall_rd n h0 h1 w
theorem less_p2 (va vb:Value) (w:World) (ha:Rd .i64 w va 16 (dg 65536 Pr)) (hb:Rd .i64 w vb 16 (dg 65536 2)):
  Calls Tryz.prog 98 #[va,vb] w fun e w'=> ∃v,e=.returned v∧Rd .i64 w' v 16 (dg 65536 (Pr - 2))∧Below w.heap.size w w':=(rLess_any va vb Pr 2 16 16 (by decide) (by decide) w ha hb).mono fun _ _ h=> rd_of h
theorem rP_rd (w:World):Calls Tryz.prog 99 #[] w fun e w'=> ∃v,e=.returned v∧Rd .i64 w' v 16 (dg 65536 Pr)∧Below w.heap.size w w':=(rP_any w).mono fun _ _ h=> rd_of h
theorem inv_rd (va:Value) (A:Int) (w:World) (ha:Rd .i64 w va 16 (dg 65536 (A % Pr))):
  Calls Tryz.prog 97 #[va,.agg (arr .u8 32 (dg 256 (Pr - 2)))] w fun e w'=> ∃v,e=.returned v∧Rd .i64 w' v 16 (dg 65536 (A ^ (PN - 2) % Pr))∧Below w.heap.size w w':=by
 have h:=fPower_any va A (Pr - 2) (by decide) (by decide) w ha
 rwa [show (Pr - 2).toNat=PN - 2 by decide] at h
theorem rdMul_any (S U0:Int) (w:World):
  Calls Tryz.prog 43 #[.agg (arr .u8 32 (dg 256 S)),.agg (arr .u8 32 (dg 256 U0))] w fun e w'=> e=.returned (.agg (arr .u8 32 (dg 256 (ladN (clampN S) (U0 % 2 ^ 255) % Pr))))∧Below w.heap.size w w':=by
 have HCL:=Lib.hid (fun w=> rdClamp_any S w)
 have HOF:=Lib.hid (fun w=> fOf_rd U0 w)
 obtain ⟨U,hU⟩:∃U,U=U0 % 2 ^ 255:=⟨_,rfl⟩
 rw [←hU] at HOF ⊢
 obtain ⟨N,hN⟩:∃N,N=clampN S:=⟨_,rfl⟩
 rw [←hN] at HCL ⊢
 clear hU hN
 have HLN:Hid (ladN N U=(lad N U 255).a * (lad N U 255).b ^ (PN - 2)):=rfl
 obtain ⟨LN,hLN⟩:∃x,x=ladN N U:=⟨_,rfl⟩
 rw [←hLN] at HLN ⊢
 clear hLN
 go_enter Tryz.func43,Tryz.ntmps43
 go_upto_region 1 with (fail)
 refine wp_world (fun w1=> Arr .u8 w1 w.heap.size 32 (dg 256 S)∧Arr .u8 w1 (w.heap.size+1) 32 (dg 256 U0)∧Arr .u8 w1 (w.heap.size+2) 32 (fun _=> 0)∧Below w.heap.size w w1)
  ⟨.alloc (.alloc (Arr.newAt rfl rfl) _) _,.alloc (Arr.newAt (by first | omega | (simp<;> omega)) rfl) _,Arr.newAt (by first | omega | (simp<;> omega)) (by rfl),(((Below.refl _ _).alloc (Nat.le_refl _) _).alloc (by first | omega | (simp<;> omega)) _).alloc (by first | omega | (simp<;> omega)) _⟩ ?_
 rintro w1 ⟨hA,hP,hZ,hbel⟩
 go_wp2_with (refine load_arr rfl 22 _ rfl .u8 w.heap.size 32 (dg 256 S) 5 Tryz.underlying22 Tryz.size22 rfl hA ?_)
 refine (HCL.out _).mono ?_
 rintro e w2 ⟨rfl,hb2⟩
 have hP2:=hP.kept hb2
 have hZ2:=hZ.kept hb2
 have hbel2:=hbel.trans (hb2.mono hbel.size)
 have hl2:=hZ2.lt
 clear hA hP hZ hbel hb2
 go_upto_region 2 with (refine store_arr rfl 22 _ _ rfl .u8 w2.heap.size 32 (fun _=> 0) (dg 256 N) Tryz.size22 rfl rfl (Arr.newAt rfl (by rfl)) ?_)
 refine wp_world (fun w3=> Arr .u8 w3 w2.heap.size 32 (dg 256 N)∧Arr .u8 w3 (w.heap.size+1) 32 (dg 256 U0)∧Arr .u8 w3 (w.heap.size+2) 32 (fun _=> 0)∧Below w.heap.size w w3)
  ⟨(Arr.newAt rfl (by rfl):Arr .u8 _ _ 32 (fun _=> 0)).setRow _ _,Arr.setRowOther (Arr.alloc hP2 _) _ (by omega) _,Arr.setRowOther (Arr.alloc hZ2 _) _ (by omega) _,below_setRow' (hbel2.alloc hbel2.size _) hbel2.size _⟩ ?_
 rintro w3 ⟨hN,hP3,hZ3,hbel3⟩
 obtain ⟨bn,hbn⟩:∃bn,bn=w2.heap.size:=⟨_,rfl⟩
 rw [←hbn] at hN hl2 ⊢
 clear hbn hP2 hZ2 hbel2
 try simp only [Act.put,List.setIfInBounds_toArray,List.set_cons_succ,List.set_cons_zero]
 go_wp2_with (refine load_arr rfl 22 _ rfl .u8 (w.heap.size+1) 32 (dg 256 U0) 5 Tryz.underlying22 Tryz.size22 rfl hP3 ?_)
 refine (HOF.out _).mono ?_
 rintro e w4 ⟨vu,rfl,hvu,hb4⟩
 have hN4:=hN.kept hb4
 have hZ4:=hZ3.kept hb4
 have hbel4:=hbel3.trans (hb4.mono hbel3.size)
 have HVU:=Lib.hid hvu
 clear hN hP3 hZ3 hbel3 hb4 hvu
 go_upto_region 4 with (refine make_ints rfl _ _ 64 rfl w4.heap.size 3 .i64 8 Tryz.underlying64 Tryz.info3 .i64 .i64 16 rfl rfl (by decide) (by decide) (Nat.le_refl _) ?_;intro w5 hown hgrow)
 have hb45:Below w4.heap.size w4 w5:=below_grown0 (Below.refl _ _) hgrow (Nat.le_refl _)
 obtain ⟨g,c,he,hg0,hgl,hc16,hcc,hcell,hfree⟩:=hown.form (by decide)
 simp only [Value.slice.injEq,Option.some.injEq,Addr.mk.injEq] at he
 obtain ⟨⟨rfl,q1⟩,q2⟩:=he
 have e0:=hcell 0 (by decide)
 have f0:=hfree 0
 have e1:=hcell 1 (by decide)
 have f1:=hfree 1
 have HO:=Lib.hid hown
 have HB45:=Lib.hid hb45
 clear hcell hfree q1 q2 hgrow hown hb45
 go_upto_region 6 with (fail)
 refine wp_world (fun w6=> Rd .i64 w6 (.slice (some ⟨w4.heap.size,0,none⟩) 16 16) 16 (dg 65536 (121665 % Pr))∧Below w4.heap.size w4 w6) ⟨(((HO.out.store 0 _).store 1 _).congr by_digits).rd,(HB45.out.setCell (Nat.le_refl _) _).setCell (Nat.le_refl _) _⟩ ?_
 rintro w6 ⟨hby,hb6⟩
 obtain ⟨vb,hvb⟩:∃v,v=Value.slice (some ⟨w4.heap.size,0,none⟩) 16 16:=⟨_,rfl⟩
 have HN6:=Lib.hid (hN4.kept hb6)
 have HZ6:=Lib.hid (hZ4.kept hb6)
 have HVU6:=Lib.hid (HVU.out.below hb6)
 have hbel6:=hbel4.trans (hb6.mono hbel4.size)
 rw [←hvb] at hby ⊢
 have HBY6:=Lib.hid hby
 clear hvb hby hb6 hN4 hZ4 HVU hbel4 e0 f0 e1 f1 HO HB45 hc16 hcc hgl hg0
 go_wp2_with fail
 refine (small_rd 1 (by decide) (by decide) (by decide) _).mono ?_
 rintro e wa ⟨v1,rfl,hv,hb⟩
 have HX2:=Lib.hid hv
 replace HN6:=Lib.hid (HN6.out.kept hb)
 replace HZ6:=Lib.hid (HZ6.out.kept hb)
 replace HVU6:=Lib.hid (HVU6.out.below hb)
 replace HBY6:=Lib.hid (HBY6.out.below hb)
 replace hbel6:=hbel6.trans (hb.mono hbel6.size)
 clear hv hb
 go_wp2_with fail
 refine (small_rd 0 (by decide) (by decide) (by decide) _).mono ?_
 rintro e wb ⟨v2,rfl,hv,hb⟩
 have HZ2x:=Lib.hid hv
 replace HN6:=Lib.hid (HN6.out.kept hb)
 replace HZ6:=Lib.hid (HZ6.out.kept hb)
 replace HVU6:=Lib.hid (HVU6.out.below hb)
 replace HBY6:=Lib.hid (HBY6.out.below hb)
 replace HX2:=Lib.hid (HX2.out.below hb)
 replace hbel6:=hbel6.trans (hb.mono hbel6.size)
 clear hv hb
 go_wp2_with fail
 refine (small_rd 1 (by decide) (by decide) (by decide) _).mono ?_
 rintro e wc ⟨v3,rfl,hv,hb⟩
 have HZ3x:=Lib.hid hv
 replace HN6:=Lib.hid (HN6.out.kept hb)
 replace HZ6:=Lib.hid (HZ6.out.kept hb)
 replace HVU6:=Lib.hid (HVU6.out.below hb)
 replace HBY6:=Lib.hid (HBY6.out.below hb)
 replace HX2:=Lib.hid (HX2.out.below hb)
 replace HZ2x:=Lib.hid (HZ2x.out.below hb)
 replace hbel6:=hbel6.trans (hb.mono hbel6.size)
 clear hv hb
 go_wp2
 go_loopw [8,9,10,11,12] (fun x2 z2 x3 z3 i wr=> ∃k:Nat,k≤255∧i=.int .i64 (254 - (k:Int))∧(Rd .i64 wr x2 16 (dg 65536 ((lad N U k).a % Pr))∧Rd .i64 wr z2 16 (dg 65536 ((lad N U k).b % Pr))∧Rd .i64 wr x3 16 (dg 65536 ((lad N U k).c % Pr))∧Rd .i64 wr z3 16 (dg 65536 ((lad N U k).d % Pr)))∧(Rd .i64 wr vu 16 (dg 65536 (U % Pr))∧Rd .i64 wr vb 16 (dg 65536 (121665 % Pr))∧Arr .u8 wr bn 32 (dg 256 N)∧Arr .u8 wr (w.heap.size+2) 32 (fun _=> 0))∧Below w.heap.size w wr) (fun _ _ _ _ i _=> (intOf i+1).toNat)
 case atStart=> exact ⟨0,Nat.zero_le _,rfl,⟨HX2.out,HZ2x.out,HVU6.out,HZ3x.out⟩,⟨HVU6.out,HBY6.out,HN6.out,HZ6.out⟩,hbel6⟩
 case round=>
  clear HX2 HZ2x HZ3x HVU6 HBY6 HN6 HZ6 hbel6
  obtain ⟨k,hk,rfl,⟨hx2,hz2,hx3,hz3⟩,⟨hu,hby,hN,hZ⟩,hbel⟩:=hrel
  rename_i wr
  have Hx2:=Lib.hid hx2
  clear hx2
  have Hz2:=Lib.hid hz2
  clear hz2
  have Hx3:=Lib.hid hx3
  clear hx3
  have Hz3:=Lib.hid hz3
  clear hz3
  have Hu:=Lib.hid hu
  clear hu
  have Hby:=Lib.hid hby
  clear hby
  have HN:=Lib.hid hN
  clear hN
  have HZ:=Lib.hid hZ
  clear hZ
  obtain rfl | hlt:=(by omega:k=255∨k<255)
  ·have ei:(254:Int) - ((255:Nat):Int)= -1:=by decide
   rw [ei]
   clear ei
   go_wp2_with fail
   refine (rP_rd _).mono ?_
   rintro e wa ⟨vp,rfl,hv,hb⟩
   have Hp:=Lib.hid hv
   replace Hx2:=Lib.hid (Hx2.out.below hb)
   replace Hz2:=Lib.hid (Hz2.out.below hb)
   replace HZ:=Lib.hid (HZ.out.kept hb)
   replace hbel:=hbel.trans (hb.mono hbel.size)
   clear hv hb
   go_wp2_with fail
   refine (rSmall_rd 2 (by decide) (by decide) _).mono ?_
   rintro e wb ⟨v2,rfl,hv,hb⟩
   have H2:=Lib.hid hv
   replace Hx2:=Lib.hid (Hx2.out.below hb)
   replace Hz2:=Lib.hid (Hz2.out.below hb)
   replace HZ:=Lib.hid (HZ.out.kept hb)
   replace Hp:=Lib.hid (Hp.out.below hb)
   replace hbel:=hbel.trans (hb.mono hbel.size)
   clear hv hb
   go_wp2_with fail
   refine (less_p2 _ _ _ Hp.out H2.out).mono ?_
   rintro e wc ⟨vl,rfl,hv,hb⟩
   have Hl:=Lib.hid hv
   replace Hx2:=Lib.hid (Hx2.out.below hb)
   replace Hz2:=Lib.hid (Hz2.out.below hb)
   replace HZ:=Lib.hid (HZ.out.kept hb)
   replace hbel:=hbel.trans (hb.mono hbel.size)
   clear hv hb
   go_wp2_with fail
   refine (rBytes_any _ (Pr - 2) 16 (by decide) _ Hl.out).mono ?_
   rintro e wd ⟨rfl,hb⟩
   replace Hx2:=Lib.hid (Hx2.out.below hb)
   replace Hz2:=Lib.hid (Hz2.out.below hb)
   replace HZ:=Lib.hid (HZ.out.kept hb)
   replace hbel:=hbel.trans (hb.mono hbel.size)
   clear hb
   go_wp2_with fail
   refine (inv_rd _ _ _ Hz2.out).mono ?_
   rintro e we ⟨vi,rfl,hv,hb⟩
   have Hi:=Lib.hid hv
   replace Hx2:=Lib.hid (Hx2.out.below hb)
   replace HZ:=Lib.hid (HZ.out.kept hb)
   replace hbel:=hbel.trans (hb.mono hbel.size)
   clear hv hb
   go_wp2_with fail
   refine (fMul_rd _ _ _ _ _ Hx2.out Hi.out).mono ?_
   rintro e wf ⟨vr,rfl,hv,hb⟩
   have Hr:=Lib.hid hv
   replace HZ:=Lib.hid (HZ.out.kept hb)
   replace hbel:=hbel.trans (hb.mono hbel.size)
   clear hv hb
   rw [←HLN.out] at Hr
   go_wp2_with fail
   refine (rBytes_any _ (LN % Pr) 16 (by decide) _ Hr.out).mono ?_
   rintro e wg ⟨rfl,hb⟩
   replace HZ:=Lib.hid (HZ.out.kept hb)
   replace hbel:=hbel.trans (hb.mono hbel.size)
   clear hb
   have hZ2:=HZ.out
   go_wp2_with (refine store_arr rfl 22 _ _ rfl .u8 (w.heap.size+2) 32 (fun _=> 0) (dg 256 (LN % Pr)) Tryz.size22 rfl rfl hZ2 ?_)
   exact bodyPost_ret (results_arr rfl _ _ .u8 (w.heap.size+2) 32 _ 5 rfl (hZ2.setRow _ _) Tryz.underlying22 Tryz.size22) rfl ⟨rfl,below_setRow' hbel (by omega) _⟩
  ·obtain ⟨m,hm⟩:∃m,m=254 - k:=⟨_,rfl⟩
   have ei:(254:Int) - (k:Int)=(m:Int):=by omega
   have HKM:Hid ((m:Int)=254 - (k:Int)):=ei.symm
   have HM:=Lib.hid hm
   have HKL:=Lib.hid hlt
   have hm254:m≤254:=by omega
   rw [ei]
   have hm9:m % 8<8:=Nat.mod_lt _ (by decide)
   have hq:IntKind.i64.wrap (Int.tdiv (m:Int) 8)=((m / 8:Nat):Int):=by rw [Int.tdiv_eq_ediv_of_nonneg (by omega),wrap_i64_id] <;> omega
   obtain ⟨d0,d1⟩:=dg_bound (by decide:(0:Int)<256) N (m / 8)
   have hpl:((m / 8:Nat):Int).toNat=m / 8:=Int.toNat_natCast _
   have hm8:m / 8<32:=by omega
   have hN:=HN.out
   have hce:=hN.cell (m / 8) hm8
   have hBl:=hN.lt
   have hbit:=bit_of N m
   obtain ⟨D,hD⟩:∃D,D=dg 256 N (m / 8):=⟨_,rfl⟩
   rw [←hD] at d0 d1 hce hbit
   go_upto_region 13 with (fail)
   refine region_flow (n:=142) (by kernel_rfl) (by kernel_rfl) (by kernel_rfl) rfl
    (fun ii vv _=> (match ii with | 0=> vv=.int .i64 ((m:Int)) | 1=> vv=.int .i64 ((m / 8:Nat)) | 2=> vv=.pointer (some ⟨bn,(m / 8),none⟩) | 3=> vv=.int .u8 (D) | 4 | 5=> vv=.int .i64 (D) | _=> True))
    (fun w w'=> Below w.heap.size w w') (fun _ _ h=> h) (fun _ _ _ _ h _=> h) ?_ ?_
   ·refine Each.all ?_
    refine ⟨?_,?_,?_,?_,?_,?_,trivial⟩
    ·intro a w2 hB hF hd
     rw [if_pos (wanted_none rfl)]
     exact flow_move _ (.inl rfl) (by simp) (hF.same 12 rfl)
    ·intro a w2 hB hF hd
     rw [if_pos (wanted_none rfl)]
     exact flow_val (fun h=> by cases h) (Go.Bas.run_quo rfl (hd 0 _ rfl (waits_spec rfl)) rfl (by decide)) (congrArg (Value.int .i64) (hq))
    ·intro a w2 hB hF hd
     rw [if_pos (wanted_none rfl)]
     exact flow_val (fun h=> by cases h) (run_index_addr rfl (hF.same 5 rfl) (hd 1 _ rfl (waits_spec rfl)) Tryz.underlying22 (by kernel_rfl) (by omega) (by omega)) (congrArg (fun z=> Value.pointer (some ⟨bn,z,none⟩)) hpl)
    ·intro a w2 hB hF hd
     rw [if_pos (wanted_none rfl)]
     exact flow_val (fun h=> by cases h) (run_load_cell rfl (hd 2 _ rfl (waits_spec rfl)) Tryz.underlying5 ((hB.cell (p:=⟨bn,m / 8,none⟩) hBl).trans hce)) rfl
    ·intro a w2 hB hF hd
     rw [if_pos (wanted_none rfl)]
     exact flow_val (fun h=> by cases h) (run_conv rfl (hd 3 _ rfl (waits_spec rfl)) Tryz.underlying5 Tryz.underlying3) (congrArg (Value.int .i64) (wrap_i64_id (by omega) (by omega)))
    ·intro a w2 hB hF hd
     rw [if_pos (wanted_none rfl)]
     exact flow_move _ (.inr rfl) (by simp) (hd 4 _ rfl (waits_spec rfl))
   ·intro a w7 hB hF hS
    have ha:=puts_each rfl rfl hF [_,_,_,_,_,_] rfl ⟨hS 0 _ rfl,hS 1 _ rfl,hS 2 _ rfl,hS 3 _ rfl,hS 4 _ rfl,hS 5 _ rfl,trivial⟩
    simp only [puts,Act.put,List.setIfInBounds_toArray,List.set_cons_succ,List.set_cons_zero] at ha
    subst ha
    clear hS hF
    replace Hx2:=Lib.hid (Hx2.out.below hB)
    replace Hz2:=Lib.hid (Hz2.out.below hB)
    replace Hx3:=Lib.hid (Hx3.out.below hB)
    replace Hz3:=Lib.hid (Hz3.out.below hB)
    replace Hu:=Lib.hid (Hu.out.below hB)
    replace Hby:=Lib.hid (Hby.out.below hB)
    replace HN:=Lib.hid (HN.out.kept hB)
    replace HZ:=Lib.hid (HZ.out.kept hB)
    replace hbel:=hbel.trans (hB.mono hbel.size)
    have HBIT:=Lib.hid hbit
    clear hB hq hce hpl hm hm8 hBl hD hN hbit ei hlt hk
    go_wp2
    go_loop [13,14] (fun b j=> ∃t:Nat,t≤m % 8∧j=.int .i64 (t:Int)∧b=.int .i64 (D / 2 ^ t)) (fun _ j=> m % 8 - (intOf j).toNat)
    case atStart=> exact ⟨0,Nat.zero_le _,rfl,by rw [Int.pow_zero,Int.ediv_one]⟩
    case round=>
     obtain ⟨t,ht,rfl,rfl⟩:=hrel
     have c0:0≤D / 2 ^ t:=Int.ediv_nonneg d0 (Int.le_of_lt (pow_pos' (by decide) _))
     have c1:D / 2 ^ t<256:=Int.lt_of_le_of_lt (Int.ediv_le_self _ d0) d1
     by_cases hlt2:t<m % 8
     ·have hnx:D / 2 ^ (t+1)=D / 2 ^ t / 2:=div_succ (by decide) _ _
      obtain ⟨c,hc⟩:∃c,c=D / 2 ^ t:=⟨_,rfl⟩
      rw [←hc] at hnx c0 c1 ⊢
      have HNX:=Lib.hid hnx
      clear hnx hc
      go_wp2
      go_round
      case rel=> exact ⟨t+1,by omega,by go_num,by rw [HNX.out]⟩
      case measure=> simp [intOf] <;> omega
     ·obtain rfl:t=m % 8:=by omega
      obtain ⟨c,hc⟩:∃c,c=D / 2 ^ (m % 8):=⟨_,rfl⟩
      rw [←hc] at HBIT c0 c1 ⊢
      have HST:Hid (lad N U (k+1)=(lad N U k).rung U (c % 2)):=by rw [←HBIT.out,HM.out];rfl
      obtain ⟨s,hs⟩:∃s,s=lad N U k:=⟨_,rfl⟩
      rw [←hs] at HST Hx2 Hz2 Hx3 Hz3
      clear hs hc hlt2 ht HBIT HM
      by_cases hodd:c % 2=1
      ·have hob:(c % 2==1)=true:=by rw [hodd];rfl
       unfold Two.rung at HST
       rw [if_pos hodd] at HST
       clear hodd
       go_wp2_with fail
       refine (fAdd_rd _ _ _ _ _ Hx3.out Hz3.out).mono ?_
       rintro e wa ⟨va,rfl,hv,hb⟩
       have Ha:=Lib.hid hv
       replace Hx2:=Lib.hid (Hx2.out.below hb)
       replace Hz2:=Lib.hid (Hz2.out.below hb)
       replace Hx3:=Lib.hid (Hx3.out.below hb)
       replace Hz3:=Lib.hid (Hz3.out.below hb)
       replace Hu:=Lib.hid (Hu.out.below hb)
       replace Hby:=Lib.hid (Hby.out.below hb)
       replace HN:=Lib.hid (HN.out.kept hb)
       replace HZ:=Lib.hid (HZ.out.kept hb)
       replace hbel:=hbel.trans (hb.mono hbel.size)
       clear hv hb
       go_wp2_with fail
       refine (fSub_rd _ _ _ _ _ Hx3.out Hz3.out).mono ?_
       rintro e wb ⟨vb,rfl,hv,hb⟩
       have Hb:=Lib.hid hv
       replace Hx2:=Lib.hid (Hx2.out.below hb)
       replace Hz2:=Lib.hid (Hz2.out.below hb)
       replace Hx3:=Lib.hid (Hx3.out.below hb)
       replace Hz3:=Lib.hid (Hz3.out.below hb)
       replace Hu:=Lib.hid (Hu.out.below hb)
       replace Hby:=Lib.hid (Hby.out.below hb)
       replace HN:=Lib.hid (HN.out.kept hb)
       replace HZ:=Lib.hid (HZ.out.kept hb)
       replace Ha:=Lib.hid (Ha.out.below hb)
       replace hbel:=hbel.trans (hb.mono hbel.size)
       clear hv hb
       go_wp2_with fail
       refine (fMul_rd _ _ _ _ _ Ha.out Ha.out).mono ?_
       rintro e waa ⟨vaa,rfl,hv,hb⟩
       have Haa:=Lib.hid hv
       replace Hx2:=Lib.hid (Hx2.out.below hb)
       replace Hz2:=Lib.hid (Hz2.out.below hb)
       replace Hx3:=Lib.hid (Hx3.out.below hb)
       replace Hz3:=Lib.hid (Hz3.out.below hb)
       replace Hu:=Lib.hid (Hu.out.below hb)
       replace Hby:=Lib.hid (Hby.out.below hb)
       replace HN:=Lib.hid (HN.out.kept hb)
       replace HZ:=Lib.hid (HZ.out.kept hb)
       replace Ha:=Lib.hid (Ha.out.below hb)
       replace Hb:=Lib.hid (Hb.out.below hb)
       replace hbel:=hbel.trans (hb.mono hbel.size)
       clear hv hb
       clear Ha
       go_wp2_with fail
       refine (fMul_rd _ _ _ _ _ Hb.out Hb.out).mono ?_
       rintro e wbb ⟨vbb,rfl,hv,hb⟩
       have Hbb:=Lib.hid hv
       replace Hx2:=Lib.hid (Hx2.out.below hb)
       replace Hz2:=Lib.hid (Hz2.out.below hb)
       replace Hx3:=Lib.hid (Hx3.out.below hb)
       replace Hz3:=Lib.hid (Hz3.out.below hb)
       replace Hu:=Lib.hid (Hu.out.below hb)
       replace Hby:=Lib.hid (Hby.out.below hb)
       replace HN:=Lib.hid (HN.out.kept hb)
       replace HZ:=Lib.hid (HZ.out.kept hb)
       replace Hb:=Lib.hid (Hb.out.below hb)
       replace Haa:=Lib.hid (Haa.out.below hb)
       replace hbel:=hbel.trans (hb.mono hbel.size)
       clear hv hb
       clear Hb
       go_wp2_with fail
       refine (fSub_rd _ _ _ _ _ Haa.out Hbb.out).mono ?_
       rintro e wee ⟨vee,rfl,hv,hb⟩
       have Hee:=Lib.hid hv
       replace Hx2:=Lib.hid (Hx2.out.below hb)
       replace Hz2:=Lib.hid (Hz2.out.below hb)
       replace Hx3:=Lib.hid (Hx3.out.below hb)
       replace Hz3:=Lib.hid (Hz3.out.below hb)
       replace Hu:=Lib.hid (Hu.out.below hb)
       replace Hby:=Lib.hid (Hby.out.below hb)
       replace HN:=Lib.hid (HN.out.kept hb)
       replace HZ:=Lib.hid (HZ.out.kept hb)
       replace Haa:=Lib.hid (Haa.out.below hb)
       replace Hbb:=Lib.hid (Hbb.out.below hb)
       replace hbel:=hbel.trans (hb.mono hbel.size)
       clear hv hb
       go_wp2_with fail
       refine (fMul_rd _ _ _ _ _ Haa.out Hbb.out).mono ?_
       rintro e wtx ⟨vtx,rfl,hv,hb⟩
       have Htx:=Lib.hid hv
       replace Hx2:=Lib.hid (Hx2.out.below hb)
       replace Hz2:=Lib.hid (Hz2.out.below hb)
       replace Hx3:=Lib.hid (Hx3.out.below hb)
       replace Hz3:=Lib.hid (Hz3.out.below hb)
       replace Hu:=Lib.hid (Hu.out.below hb)
       replace Hby:=Lib.hid (Hby.out.below hb)
       replace HN:=Lib.hid (HN.out.kept hb)
       replace HZ:=Lib.hid (HZ.out.kept hb)
       replace Haa:=Lib.hid (Haa.out.below hb)
       replace Hbb:=Lib.hid (Hbb.out.below hb)
       replace Hee:=Lib.hid (Hee.out.below hb)
       replace hbel:=hbel.trans (hb.mono hbel.size)
       clear hv hb
       clear Hbb
       go_wp2_with fail
       refine (fMul_rd _ _ _ _ _ Hby.out Hee.out).mono ?_
       rintro e wbe ⟨vbe,rfl,hv,hb⟩
       have Hbe:=Lib.hid hv
       replace Hx2:=Lib.hid (Hx2.out.below hb)
       replace Hz2:=Lib.hid (Hz2.out.below hb)
       replace Hx3:=Lib.hid (Hx3.out.below hb)
       replace Hz3:=Lib.hid (Hz3.out.below hb)
       replace Hu:=Lib.hid (Hu.out.below hb)
       replace Hby:=Lib.hid (Hby.out.below hb)
       replace HN:=Lib.hid (HN.out.kept hb)
       replace HZ:=Lib.hid (HZ.out.kept hb)
       replace Haa:=Lib.hid (Haa.out.below hb)
       replace Hee:=Lib.hid (Hee.out.below hb)
       replace Htx:=Lib.hid (Htx.out.below hb)
       replace hbel:=hbel.trans (hb.mono hbel.size)
       clear hv hb
       go_wp2_with fail
       refine (fAdd_rd _ _ _ _ _ Haa.out Hbe.out).mono ?_
       rintro e wab ⟨vab,rfl,hv,hb⟩
       have Hab:=Lib.hid hv
       replace Hx2:=Lib.hid (Hx2.out.below hb)
       replace Hz2:=Lib.hid (Hz2.out.below hb)
       replace Hx3:=Lib.hid (Hx3.out.below hb)
       replace Hz3:=Lib.hid (Hz3.out.below hb)
       replace Hu:=Lib.hid (Hu.out.below hb)
       replace Hby:=Lib.hid (Hby.out.below hb)
       replace HN:=Lib.hid (HN.out.kept hb)
       replace HZ:=Lib.hid (HZ.out.kept hb)
       replace Haa:=Lib.hid (Haa.out.below hb)
       replace Hee:=Lib.hid (Hee.out.below hb)
       replace Htx:=Lib.hid (Htx.out.below hb)
       replace Hbe:=Lib.hid (Hbe.out.below hb)
       replace hbel:=hbel.trans (hb.mono hbel.size)
       clear hv hb
       clear Haa Hbe
       go_wp2_with fail
       refine (fMul_rd _ _ _ _ _ Hee.out Hab.out).mono ?_
       rintro e wtz ⟨vtz,rfl,hv,hb⟩
       have Htz:=Lib.hid hv
       replace Hx2:=Lib.hid (Hx2.out.below hb)
       replace Hz2:=Lib.hid (Hz2.out.below hb)
       replace Hx3:=Lib.hid (Hx3.out.below hb)
       replace Hz3:=Lib.hid (Hz3.out.below hb)
       replace Hu:=Lib.hid (Hu.out.below hb)
       replace Hby:=Lib.hid (Hby.out.below hb)
       replace HN:=Lib.hid (HN.out.kept hb)
       replace HZ:=Lib.hid (HZ.out.kept hb)
       replace Hee:=Lib.hid (Hee.out.below hb)
       replace Htx:=Lib.hid (Htx.out.below hb)
       replace Hab:=Lib.hid (Hab.out.below hb)
       replace hbel:=hbel.trans (hb.mono hbel.size)
       clear hv hb
       clear Hee Hab
       go_wp2_with fail
       refine (fSub_rd _ _ _ _ _ Hx3.out Hz3.out).mono ?_
       rintro e wp1 ⟨vp1,rfl,hv,hb⟩
       have Hp1:=Lib.hid hv
       replace Hx2:=Lib.hid (Hx2.out.below hb)
       replace Hz2:=Lib.hid (Hz2.out.below hb)
       replace Hx3:=Lib.hid (Hx3.out.below hb)
       replace Hz3:=Lib.hid (Hz3.out.below hb)
       replace Hu:=Lib.hid (Hu.out.below hb)
       replace Hby:=Lib.hid (Hby.out.below hb)
       replace HN:=Lib.hid (HN.out.kept hb)
       replace HZ:=Lib.hid (HZ.out.kept hb)
       replace Htx:=Lib.hid (Htx.out.below hb)
       replace Htz:=Lib.hid (Htz.out.below hb)
       replace hbel:=hbel.trans (hb.mono hbel.size)
       clear hv hb
       go_wp2_with fail
       refine (fAdd_rd _ _ _ _ _ Hx2.out Hz2.out).mono ?_
       rintro e wp2 ⟨vp2,rfl,hv,hb⟩
       have Hp2:=Lib.hid hv
       replace Hx2:=Lib.hid (Hx2.out.below hb)
       replace Hz2:=Lib.hid (Hz2.out.below hb)
       replace Hx3:=Lib.hid (Hx3.out.below hb)
       replace Hz3:=Lib.hid (Hz3.out.below hb)
       replace Hu:=Lib.hid (Hu.out.below hb)
       replace Hby:=Lib.hid (Hby.out.below hb)
       replace HN:=Lib.hid (HN.out.kept hb)
       replace HZ:=Lib.hid (HZ.out.kept hb)
       replace Htx:=Lib.hid (Htx.out.below hb)
       replace Htz:=Lib.hid (Htz.out.below hb)
       replace Hp1:=Lib.hid (Hp1.out.below hb)
       replace hbel:=hbel.trans (hb.mono hbel.size)
       clear hv hb
       go_wp2_with fail
       refine (fMul_rd _ _ _ _ _ Hp1.out Hp2.out).mono ?_
       rintro e wp ⟨vp,rfl,hv,hb⟩
       have Hp:=Lib.hid hv
       replace Hx2:=Lib.hid (Hx2.out.below hb)
       replace Hz2:=Lib.hid (Hz2.out.below hb)
       replace Hx3:=Lib.hid (Hx3.out.below hb)
       replace Hz3:=Lib.hid (Hz3.out.below hb)
       replace Hu:=Lib.hid (Hu.out.below hb)
       replace Hby:=Lib.hid (Hby.out.below hb)
       replace HN:=Lib.hid (HN.out.kept hb)
       replace HZ:=Lib.hid (HZ.out.kept hb)
       replace Htx:=Lib.hid (Htx.out.below hb)
       replace Htz:=Lib.hid (Htz.out.below hb)
       replace Hp1:=Lib.hid (Hp1.out.below hb)
       replace Hp2:=Lib.hid (Hp2.out.below hb)
       replace hbel:=hbel.trans (hb.mono hbel.size)
       clear hv hb
       clear Hp1 Hp2
       go_wp2_with fail
       refine (fAdd_rd _ _ _ _ _ Hx3.out Hz3.out).mono ?_
       rintro e wq1 ⟨vq1,rfl,hv,hb⟩
       have Hq1:=Lib.hid hv
       replace Hx2:=Lib.hid (Hx2.out.below hb)
       replace Hz2:=Lib.hid (Hz2.out.below hb)
       replace Hx3:=Lib.hid (Hx3.out.below hb)
       replace Hz3:=Lib.hid (Hz3.out.below hb)
       replace Hu:=Lib.hid (Hu.out.below hb)
       replace Hby:=Lib.hid (Hby.out.below hb)
       replace HN:=Lib.hid (HN.out.kept hb)
       replace HZ:=Lib.hid (HZ.out.kept hb)
       replace Htx:=Lib.hid (Htx.out.below hb)
       replace Htz:=Lib.hid (Htz.out.below hb)
       replace Hp:=Lib.hid (Hp.out.below hb)
       replace hbel:=hbel.trans (hb.mono hbel.size)
       clear hv hb
       clear Hx3 Hz3
       go_wp2_with fail
       refine (fSub_rd _ _ _ _ _ Hx2.out Hz2.out).mono ?_
       rintro e wq2 ⟨vq2,rfl,hv,hb⟩
       have Hq2:=Lib.hid hv
       replace Hx2:=Lib.hid (Hx2.out.below hb)
       replace Hz2:=Lib.hid (Hz2.out.below hb)
       replace Hu:=Lib.hid (Hu.out.below hb)
       replace Hby:=Lib.hid (Hby.out.below hb)
       replace HN:=Lib.hid (HN.out.kept hb)
       replace HZ:=Lib.hid (HZ.out.kept hb)
       replace Htx:=Lib.hid (Htx.out.below hb)
       replace Htz:=Lib.hid (Htz.out.below hb)
       replace Hp:=Lib.hid (Hp.out.below hb)
       replace Hq1:=Lib.hid (Hq1.out.below hb)
       replace hbel:=hbel.trans (hb.mono hbel.size)
       clear hv hb
       clear Hx2 Hz2
       go_wp2_with fail
       refine (fMul_rd _ _ _ _ _ Hq1.out Hq2.out).mono ?_
       rintro e wq ⟨vq,rfl,hv,hb⟩
       have Hq:=Lib.hid hv
       replace Hu:=Lib.hid (Hu.out.below hb)
       replace Hby:=Lib.hid (Hby.out.below hb)
       replace HN:=Lib.hid (HN.out.kept hb)
       replace HZ:=Lib.hid (HZ.out.kept hb)
       replace Htx:=Lib.hid (Htx.out.below hb)
       replace Htz:=Lib.hid (Htz.out.below hb)
       replace Hp:=Lib.hid (Hp.out.below hb)
       replace Hq1:=Lib.hid (Hq1.out.below hb)
       replace Hq2:=Lib.hid (Hq2.out.below hb)
       replace hbel:=hbel.trans (hb.mono hbel.size)
       clear hv hb
       clear Hq1 Hq2
       go_wp2_with fail
       refine (fAdd_rd _ _ _ _ _ Hp.out Hq.out).mono ?_
       rintro e wss ⟨vss,rfl,hv,hb⟩
       have Hss:=Lib.hid hv
       replace Hu:=Lib.hid (Hu.out.below hb)
       replace Hby:=Lib.hid (Hby.out.below hb)
       replace HN:=Lib.hid (HN.out.kept hb)
       replace HZ:=Lib.hid (HZ.out.kept hb)
       replace Htx:=Lib.hid (Htx.out.below hb)
       replace Htz:=Lib.hid (Htz.out.below hb)
       replace Hp:=Lib.hid (Hp.out.below hb)
       replace Hq:=Lib.hid (Hq.out.below hb)
       replace hbel:=hbel.trans (hb.mono hbel.size)
       clear hv hb
       go_wp2_with fail
       refine (fSub_rd _ _ _ _ _ Hp.out Hq.out).mono ?_
       rintro e wdd ⟨vdd,rfl,hv,hb⟩
       have Hdd:=Lib.hid hv
       replace Hu:=Lib.hid (Hu.out.below hb)
       replace Hby:=Lib.hid (Hby.out.below hb)
       replace HN:=Lib.hid (HN.out.kept hb)
       replace HZ:=Lib.hid (HZ.out.kept hb)
       replace Htx:=Lib.hid (Htx.out.below hb)
       replace Htz:=Lib.hid (Htz.out.below hb)
       replace Hp:=Lib.hid (Hp.out.below hb)
       replace Hq:=Lib.hid (Hq.out.below hb)
       replace Hss:=Lib.hid (Hss.out.below hb)
       replace hbel:=hbel.trans (hb.mono hbel.size)
       clear hv hb
       clear Hp Hq
       go_wp2_with fail
       refine (fMul_rd _ _ _ _ _ Hss.out Hss.out).mono ?_
       rintro e wsx ⟨vsx,rfl,hv,hb⟩
       have Hsx:=Lib.hid hv
       replace Hu:=Lib.hid (Hu.out.below hb)
       replace Hby:=Lib.hid (Hby.out.below hb)
       replace HN:=Lib.hid (HN.out.kept hb)
       replace HZ:=Lib.hid (HZ.out.kept hb)
       replace Htx:=Lib.hid (Htx.out.below hb)
       replace Htz:=Lib.hid (Htz.out.below hb)
       replace Hss:=Lib.hid (Hss.out.below hb)
       replace Hdd:=Lib.hid (Hdd.out.below hb)
       replace hbel:=hbel.trans (hb.mono hbel.size)
       clear hv hb
       clear Hss
       go_wp2_with fail
       refine (fMul_rd _ _ _ _ _ Hdd.out Hdd.out).mono ?_
       rintro e wd2 ⟨vd2,rfl,hv,hb⟩
       have Hd2:=Lib.hid hv
       replace Hu:=Lib.hid (Hu.out.below hb)
       replace Hby:=Lib.hid (Hby.out.below hb)
       replace HN:=Lib.hid (HN.out.kept hb)
       replace HZ:=Lib.hid (HZ.out.kept hb)
       replace Htx:=Lib.hid (Htx.out.below hb)
       replace Htz:=Lib.hid (Htz.out.below hb)
       replace Hdd:=Lib.hid (Hdd.out.below hb)
       replace Hsx:=Lib.hid (Hsx.out.below hb)
       replace hbel:=hbel.trans (hb.mono hbel.size)
       clear hv hb
       clear Hdd
       go_wp2_with fail
       refine (fMul_rd _ _ _ _ _ Hu.out Hd2.out).mono ?_
       rintro e wsz ⟨vsz,rfl,hv,hb⟩
       have Hsz:=Lib.hid hv
       replace Hu:=Lib.hid (Hu.out.below hb)
       replace Hby:=Lib.hid (Hby.out.below hb)
       replace HN:=Lib.hid (HN.out.kept hb)
       replace HZ:=Lib.hid (HZ.out.kept hb)
       replace Htx:=Lib.hid (Htx.out.below hb)
       replace Htz:=Lib.hid (Htz.out.below hb)
       replace Hsx:=Lib.hid (Hsx.out.below hb)
       replace Hd2:=Lib.hid (Hd2.out.below hb)
       replace hbel:=hbel.trans (hb.mono hbel.size)
       clear hv hb
       clear Hd2
       go_wp2
       go_roundw
       case rel=> exact ⟨k+1,by have:=HKL.out;omega,congrArg (Value.int .i64) (by have:=HKM.out;omega),⟨by rw [HST.out];exact Hsx.out,by rw [HST.out];exact Hsz.out,by rw [HST.out];exact Htx.out,by rw [HST.out];exact Htz.out⟩,⟨Hu.out,Hby.out,HN.out,HZ.out⟩,hbel⟩
       case measure=> simp [intOf] <;> (have:=HKM.out;omega)
      ·have hob:(c % 2==1)=false:=by simpa using hodd
       unfold Two.rung at HST
       rw [if_neg hodd] at HST
       clear hodd
       go_wp2_with fail
       refine (fAdd_rd _ _ _ _ _ Hx2.out Hz2.out).mono ?_
       rintro e wa ⟨va,rfl,hv,hb⟩
       have Ha:=Lib.hid hv
       replace Hx2:=Lib.hid (Hx2.out.below hb)
       replace Hz2:=Lib.hid (Hz2.out.below hb)
       replace Hx3:=Lib.hid (Hx3.out.below hb)
       replace Hz3:=Lib.hid (Hz3.out.below hb)
       replace Hu:=Lib.hid (Hu.out.below hb)
       replace Hby:=Lib.hid (Hby.out.below hb)
       replace HN:=Lib.hid (HN.out.kept hb)
       replace HZ:=Lib.hid (HZ.out.kept hb)
       replace hbel:=hbel.trans (hb.mono hbel.size)
       clear hv hb
       go_wp2_with fail
       refine (fSub_rd _ _ _ _ _ Hx2.out Hz2.out).mono ?_
       rintro e wb ⟨vb,rfl,hv,hb⟩
       have Hb:=Lib.hid hv
       replace Hx2:=Lib.hid (Hx2.out.below hb)
       replace Hz2:=Lib.hid (Hz2.out.below hb)
       replace Hx3:=Lib.hid (Hx3.out.below hb)
       replace Hz3:=Lib.hid (Hz3.out.below hb)
       replace Hu:=Lib.hid (Hu.out.below hb)
       replace Hby:=Lib.hid (Hby.out.below hb)
       replace HN:=Lib.hid (HN.out.kept hb)
       replace HZ:=Lib.hid (HZ.out.kept hb)
       replace Ha:=Lib.hid (Ha.out.below hb)
       replace hbel:=hbel.trans (hb.mono hbel.size)
       clear hv hb
       go_wp2_with fail
       refine (fMul_rd _ _ _ _ _ Ha.out Ha.out).mono ?_
       rintro e waa ⟨vaa,rfl,hv,hb⟩
       have Haa:=Lib.hid hv
       replace Hx2:=Lib.hid (Hx2.out.below hb)
       replace Hz2:=Lib.hid (Hz2.out.below hb)
       replace Hx3:=Lib.hid (Hx3.out.below hb)
       replace Hz3:=Lib.hid (Hz3.out.below hb)
       replace Hu:=Lib.hid (Hu.out.below hb)
       replace Hby:=Lib.hid (Hby.out.below hb)
       replace HN:=Lib.hid (HN.out.kept hb)
       replace HZ:=Lib.hid (HZ.out.kept hb)
       replace Ha:=Lib.hid (Ha.out.below hb)
       replace Hb:=Lib.hid (Hb.out.below hb)
       replace hbel:=hbel.trans (hb.mono hbel.size)
       clear hv hb
       clear Ha
       go_wp2_with fail
       refine (fMul_rd _ _ _ _ _ Hb.out Hb.out).mono ?_
       rintro e wbb ⟨vbb,rfl,hv,hb⟩
       have Hbb:=Lib.hid hv
       replace Hx2:=Lib.hid (Hx2.out.below hb)
       replace Hz2:=Lib.hid (Hz2.out.below hb)
       replace Hx3:=Lib.hid (Hx3.out.below hb)
       replace Hz3:=Lib.hid (Hz3.out.below hb)
       replace Hu:=Lib.hid (Hu.out.below hb)
       replace Hby:=Lib.hid (Hby.out.below hb)
       replace HN:=Lib.hid (HN.out.kept hb)
       replace HZ:=Lib.hid (HZ.out.kept hb)
       replace Hb:=Lib.hid (Hb.out.below hb)
       replace Haa:=Lib.hid (Haa.out.below hb)
       replace hbel:=hbel.trans (hb.mono hbel.size)
       clear hv hb
       clear Hb
       go_wp2_with fail
       refine (fSub_rd _ _ _ _ _ Haa.out Hbb.out).mono ?_
       rintro e wee ⟨vee,rfl,hv,hb⟩
       have Hee:=Lib.hid hv
       replace Hx2:=Lib.hid (Hx2.out.below hb)
       replace Hz2:=Lib.hid (Hz2.out.below hb)
       replace Hx3:=Lib.hid (Hx3.out.below hb)
       replace Hz3:=Lib.hid (Hz3.out.below hb)
       replace Hu:=Lib.hid (Hu.out.below hb)
       replace Hby:=Lib.hid (Hby.out.below hb)
       replace HN:=Lib.hid (HN.out.kept hb)
       replace HZ:=Lib.hid (HZ.out.kept hb)
       replace Haa:=Lib.hid (Haa.out.below hb)
       replace Hbb:=Lib.hid (Hbb.out.below hb)
       replace hbel:=hbel.trans (hb.mono hbel.size)
       clear hv hb
       go_wp2_with fail
       refine (fMul_rd _ _ _ _ _ Haa.out Hbb.out).mono ?_
       rintro e wtx ⟨vtx,rfl,hv,hb⟩
       have Htx:=Lib.hid hv
       replace Hx2:=Lib.hid (Hx2.out.below hb)
       replace Hz2:=Lib.hid (Hz2.out.below hb)
       replace Hx3:=Lib.hid (Hx3.out.below hb)
       replace Hz3:=Lib.hid (Hz3.out.below hb)
       replace Hu:=Lib.hid (Hu.out.below hb)
       replace Hby:=Lib.hid (Hby.out.below hb)
       replace HN:=Lib.hid (HN.out.kept hb)
       replace HZ:=Lib.hid (HZ.out.kept hb)
       replace Haa:=Lib.hid (Haa.out.below hb)
       replace Hbb:=Lib.hid (Hbb.out.below hb)
       replace Hee:=Lib.hid (Hee.out.below hb)
       replace hbel:=hbel.trans (hb.mono hbel.size)
       clear hv hb
       clear Hbb
       go_wp2_with fail
       refine (fMul_rd _ _ _ _ _ Hby.out Hee.out).mono ?_
       rintro e wbe ⟨vbe,rfl,hv,hb⟩
       have Hbe:=Lib.hid hv
       replace Hx2:=Lib.hid (Hx2.out.below hb)
       replace Hz2:=Lib.hid (Hz2.out.below hb)
       replace Hx3:=Lib.hid (Hx3.out.below hb)
       replace Hz3:=Lib.hid (Hz3.out.below hb)
       replace Hu:=Lib.hid (Hu.out.below hb)
       replace Hby:=Lib.hid (Hby.out.below hb)
       replace HN:=Lib.hid (HN.out.kept hb)
       replace HZ:=Lib.hid (HZ.out.kept hb)
       replace Haa:=Lib.hid (Haa.out.below hb)
       replace Hee:=Lib.hid (Hee.out.below hb)
       replace Htx:=Lib.hid (Htx.out.below hb)
       replace hbel:=hbel.trans (hb.mono hbel.size)
       clear hv hb
       go_wp2_with fail
       refine (fAdd_rd _ _ _ _ _ Haa.out Hbe.out).mono ?_
       rintro e wab ⟨vab,rfl,hv,hb⟩
       have Hab:=Lib.hid hv
       replace Hx2:=Lib.hid (Hx2.out.below hb)
       replace Hz2:=Lib.hid (Hz2.out.below hb)
       replace Hx3:=Lib.hid (Hx3.out.below hb)
       replace Hz3:=Lib.hid (Hz3.out.below hb)
       replace Hu:=Lib.hid (Hu.out.below hb)
       replace Hby:=Lib.hid (Hby.out.below hb)
       replace HN:=Lib.hid (HN.out.kept hb)
       replace HZ:=Lib.hid (HZ.out.kept hb)
       replace Haa:=Lib.hid (Haa.out.below hb)
       replace Hee:=Lib.hid (Hee.out.below hb)
       replace Htx:=Lib.hid (Htx.out.below hb)
       replace Hbe:=Lib.hid (Hbe.out.below hb)
       replace hbel:=hbel.trans (hb.mono hbel.size)
       clear hv hb
       clear Haa Hbe
       go_wp2_with fail
       refine (fMul_rd _ _ _ _ _ Hee.out Hab.out).mono ?_
       rintro e wtz ⟨vtz,rfl,hv,hb⟩
       have Htz:=Lib.hid hv
       replace Hx2:=Lib.hid (Hx2.out.below hb)
       replace Hz2:=Lib.hid (Hz2.out.below hb)
       replace Hx3:=Lib.hid (Hx3.out.below hb)
       replace Hz3:=Lib.hid (Hz3.out.below hb)
       replace Hu:=Lib.hid (Hu.out.below hb)
       replace Hby:=Lib.hid (Hby.out.below hb)
       replace HN:=Lib.hid (HN.out.kept hb)
       replace HZ:=Lib.hid (HZ.out.kept hb)
       replace Hee:=Lib.hid (Hee.out.below hb)
       replace Htx:=Lib.hid (Htx.out.below hb)
       replace Hab:=Lib.hid (Hab.out.below hb)
       replace hbel:=hbel.trans (hb.mono hbel.size)
       clear hv hb
       clear Hee Hab
       go_wp2_with fail
       refine (fSub_rd _ _ _ _ _ Hx3.out Hz3.out).mono ?_
       rintro e wp1 ⟨vp1,rfl,hv,hb⟩
       have Hp1:=Lib.hid hv
       replace Hx2:=Lib.hid (Hx2.out.below hb)
       replace Hz2:=Lib.hid (Hz2.out.below hb)
       replace Hx3:=Lib.hid (Hx3.out.below hb)
       replace Hz3:=Lib.hid (Hz3.out.below hb)
       replace Hu:=Lib.hid (Hu.out.below hb)
       replace Hby:=Lib.hid (Hby.out.below hb)
       replace HN:=Lib.hid (HN.out.kept hb)
       replace HZ:=Lib.hid (HZ.out.kept hb)
       replace Htx:=Lib.hid (Htx.out.below hb)
       replace Htz:=Lib.hid (Htz.out.below hb)
       replace hbel:=hbel.trans (hb.mono hbel.size)
       clear hv hb
       go_wp2_with fail
       refine (fAdd_rd _ _ _ _ _ Hx2.out Hz2.out).mono ?_
       rintro e wp2 ⟨vp2,rfl,hv,hb⟩
       have Hp2:=Lib.hid hv
       replace Hx2:=Lib.hid (Hx2.out.below hb)
       replace Hz2:=Lib.hid (Hz2.out.below hb)
       replace Hx3:=Lib.hid (Hx3.out.below hb)
       replace Hz3:=Lib.hid (Hz3.out.below hb)
       replace Hu:=Lib.hid (Hu.out.below hb)
       replace Hby:=Lib.hid (Hby.out.below hb)
       replace HN:=Lib.hid (HN.out.kept hb)
       replace HZ:=Lib.hid (HZ.out.kept hb)
       replace Htx:=Lib.hid (Htx.out.below hb)
       replace Htz:=Lib.hid (Htz.out.below hb)
       replace Hp1:=Lib.hid (Hp1.out.below hb)
       replace hbel:=hbel.trans (hb.mono hbel.size)
       clear hv hb
       go_wp2_with fail
       refine (fMul_rd _ _ _ _ _ Hp1.out Hp2.out).mono ?_
       rintro e wp ⟨vp,rfl,hv,hb⟩
       have Hp:=Lib.hid hv
       replace Hx2:=Lib.hid (Hx2.out.below hb)
       replace Hz2:=Lib.hid (Hz2.out.below hb)
       replace Hx3:=Lib.hid (Hx3.out.below hb)
       replace Hz3:=Lib.hid (Hz3.out.below hb)
       replace Hu:=Lib.hid (Hu.out.below hb)
       replace Hby:=Lib.hid (Hby.out.below hb)
       replace HN:=Lib.hid (HN.out.kept hb)
       replace HZ:=Lib.hid (HZ.out.kept hb)
       replace Htx:=Lib.hid (Htx.out.below hb)
       replace Htz:=Lib.hid (Htz.out.below hb)
       replace Hp1:=Lib.hid (Hp1.out.below hb)
       replace Hp2:=Lib.hid (Hp2.out.below hb)
       replace hbel:=hbel.trans (hb.mono hbel.size)
       clear hv hb
       clear Hp1 Hp2
       go_wp2_with fail
       refine (fAdd_rd _ _ _ _ _ Hx3.out Hz3.out).mono ?_
       rintro e wq1 ⟨vq1,rfl,hv,hb⟩
       have Hq1:=Lib.hid hv
       replace Hx2:=Lib.hid (Hx2.out.below hb)
       replace Hz2:=Lib.hid (Hz2.out.below hb)
       replace Hx3:=Lib.hid (Hx3.out.below hb)
       replace Hz3:=Lib.hid (Hz3.out.below hb)
       replace Hu:=Lib.hid (Hu.out.below hb)
       replace Hby:=Lib.hid (Hby.out.below hb)
       replace HN:=Lib.hid (HN.out.kept hb)
       replace HZ:=Lib.hid (HZ.out.kept hb)
       replace Htx:=Lib.hid (Htx.out.below hb)
       replace Htz:=Lib.hid (Htz.out.below hb)
       replace Hp:=Lib.hid (Hp.out.below hb)
       replace hbel:=hbel.trans (hb.mono hbel.size)
       clear hv hb
       clear Hx3 Hz3
       go_wp2_with fail
       refine (fSub_rd _ _ _ _ _ Hx2.out Hz2.out).mono ?_
       rintro e wq2 ⟨vq2,rfl,hv,hb⟩
       have Hq2:=Lib.hid hv
       replace Hx2:=Lib.hid (Hx2.out.below hb)
       replace Hz2:=Lib.hid (Hz2.out.below hb)
       replace Hu:=Lib.hid (Hu.out.below hb)
       replace Hby:=Lib.hid (Hby.out.below hb)
       replace HN:=Lib.hid (HN.out.kept hb)
       replace HZ:=Lib.hid (HZ.out.kept hb)
       replace Htx:=Lib.hid (Htx.out.below hb)
       replace Htz:=Lib.hid (Htz.out.below hb)
       replace Hp:=Lib.hid (Hp.out.below hb)
       replace Hq1:=Lib.hid (Hq1.out.below hb)
       replace hbel:=hbel.trans (hb.mono hbel.size)
       clear hv hb
       clear Hx2 Hz2
       go_wp2_with fail
       refine (fMul_rd _ _ _ _ _ Hq1.out Hq2.out).mono ?_
       rintro e wq ⟨vq,rfl,hv,hb⟩
       have Hq:=Lib.hid hv
       replace Hu:=Lib.hid (Hu.out.below hb)
       replace Hby:=Lib.hid (Hby.out.below hb)
       replace HN:=Lib.hid (HN.out.kept hb)
       replace HZ:=Lib.hid (HZ.out.kept hb)
       replace Htx:=Lib.hid (Htx.out.below hb)
       replace Htz:=Lib.hid (Htz.out.below hb)
       replace Hp:=Lib.hid (Hp.out.below hb)
       replace Hq1:=Lib.hid (Hq1.out.below hb)
       replace Hq2:=Lib.hid (Hq2.out.below hb)
       replace hbel:=hbel.trans (hb.mono hbel.size)
       clear hv hb
       clear Hq1 Hq2
       go_wp2_with fail
       refine (fAdd_rd _ _ _ _ _ Hp.out Hq.out).mono ?_
       rintro e wss ⟨vss,rfl,hv,hb⟩
       have Hss:=Lib.hid hv
       replace Hu:=Lib.hid (Hu.out.below hb)
       replace Hby:=Lib.hid (Hby.out.below hb)
       replace HN:=Lib.hid (HN.out.kept hb)
       replace HZ:=Lib.hid (HZ.out.kept hb)
       replace Htx:=Lib.hid (Htx.out.below hb)
       replace Htz:=Lib.hid (Htz.out.below hb)
       replace Hp:=Lib.hid (Hp.out.below hb)
       replace Hq:=Lib.hid (Hq.out.below hb)
       replace hbel:=hbel.trans (hb.mono hbel.size)
       clear hv hb
       go_wp2_with fail
       refine (fSub_rd _ _ _ _ _ Hp.out Hq.out).mono ?_
       rintro e wdd ⟨vdd,rfl,hv,hb⟩
       have Hdd:=Lib.hid hv
       replace Hu:=Lib.hid (Hu.out.below hb)
       replace Hby:=Lib.hid (Hby.out.below hb)
       replace HN:=Lib.hid (HN.out.kept hb)
       replace HZ:=Lib.hid (HZ.out.kept hb)
       replace Htx:=Lib.hid (Htx.out.below hb)
       replace Htz:=Lib.hid (Htz.out.below hb)
       replace Hp:=Lib.hid (Hp.out.below hb)
       replace Hq:=Lib.hid (Hq.out.below hb)
       replace Hss:=Lib.hid (Hss.out.below hb)
       replace hbel:=hbel.trans (hb.mono hbel.size)
       clear hv hb
       clear Hp Hq
       go_wp2_with fail
       refine (fMul_rd _ _ _ _ _ Hss.out Hss.out).mono ?_
       rintro e wsx ⟨vsx,rfl,hv,hb⟩
       have Hsx:=Lib.hid hv
       replace Hu:=Lib.hid (Hu.out.below hb)
       replace Hby:=Lib.hid (Hby.out.below hb)
       replace HN:=Lib.hid (HN.out.kept hb)
       replace HZ:=Lib.hid (HZ.out.kept hb)
       replace Htx:=Lib.hid (Htx.out.below hb)
       replace Htz:=Lib.hid (Htz.out.below hb)
       replace Hss:=Lib.hid (Hss.out.below hb)
       replace Hdd:=Lib.hid (Hdd.out.below hb)
       replace hbel:=hbel.trans (hb.mono hbel.size)
       clear hv hb
       clear Hss
       go_wp2_with fail
       refine (fMul_rd _ _ _ _ _ Hdd.out Hdd.out).mono ?_
       rintro e wd2 ⟨vd2,rfl,hv,hb⟩
       have Hd2:=Lib.hid hv
       replace Hu:=Lib.hid (Hu.out.below hb)
       replace Hby:=Lib.hid (Hby.out.below hb)
       replace HN:=Lib.hid (HN.out.kept hb)
       replace HZ:=Lib.hid (HZ.out.kept hb)
       replace Htx:=Lib.hid (Htx.out.below hb)
       replace Htz:=Lib.hid (Htz.out.below hb)
       replace Hdd:=Lib.hid (Hdd.out.below hb)
       replace Hsx:=Lib.hid (Hsx.out.below hb)
       replace hbel:=hbel.trans (hb.mono hbel.size)
       clear hv hb
       clear Hdd
       go_wp2_with fail
       refine (fMul_rd _ _ _ _ _ Hu.out Hd2.out).mono ?_
       rintro e wsz ⟨vsz,rfl,hv,hb⟩
       have Hsz:=Lib.hid hv
       replace Hu:=Lib.hid (Hu.out.below hb)
       replace Hby:=Lib.hid (Hby.out.below hb)
       replace HN:=Lib.hid (HN.out.kept hb)
       replace HZ:=Lib.hid (HZ.out.kept hb)
       replace Htx:=Lib.hid (Htx.out.below hb)
       replace Htz:=Lib.hid (Htz.out.below hb)
       replace Hsx:=Lib.hid (Hsx.out.below hb)
       replace Hd2:=Lib.hid (Hd2.out.below hb)
       replace hbel:=hbel.trans (hb.mono hbel.size)
       clear hv hb
       clear Hd2
       go_wp2
       go_roundw
       case rel=> exact ⟨k+1,by have:=HKL.out;omega,congrArg (Value.int .i64) (by have:=HKM.out;omega),⟨by rw [HST.out];exact Htx.out,by rw [HST.out];exact Htz.out,by rw [HST.out];exact Hsx.out,by rw [HST.out];exact Hsz.out⟩,⟨Hu.out,Hby.out,HN.out,HZ.out⟩,hbel⟩
       case measure=> simp [intOf] <;> (have:=HKM.out;omega)
end Go.Proofs.YtdhejcaapdhhfaaGreat
