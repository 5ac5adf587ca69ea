/-
  Part 16 of the texts that the proof of BoxUnwraps rests on, one after the other. Conditions: named in each theorem.
-/
import Derived.Test.YtdhejcaapdhhfaaGreatPkBoxUnwraps15
import Derived.Test.YtdhejcaapdhhfaaGreatPkBoxUnwraps2
import Derived.Test.YtdhejcaapdhhfaaGreatPkBoxUnwraps1
import Derived.Test.YtdhejcaapdhhfaaGreatPkBoxUnwraps14
import Derived.Test.YtdhejcaapdhhfaaGreatPkBoxUnwraps6
import Derived.Test.YtdhejcaapdhhfaaGreatPkBoxUnwraps3
import Derived.Test.YtdhejcaapdhhfaaGreatPkBoxUnwraps4
import Derived.Test.YtdhejcaapdhhfaaGreatPkBoxUnwraps5
import Derived.Test.YtdhejcaapdhhfaaGreatPkBoxUnwraps7
import Derived.Test.YtdhejcaapdhhfaaGreatPkBoxUnwraps9
import Derived.Test.YtdhejcaapdhhfaaGreatPkBoxUnwraps8
import Derived.Test.YtdhejcaapdhhfaaGreatPkBoxUnwraps10
import Derived.Test.YtdhejcaapdhhfaaGreatPkBoxUnwraps11
import Derived.BigFrame
import Derived.BigQuiet
import Derived.ChangeKeysEq
import Derived.Deep.Cut
import Derived.Deep.DrawnRows
import Derived.Deep.LoopGhost
import Derived.Deep.QuietTactic
import Derived.Deep.RegionHeld3
import Derived.Deep.RegionLaw
import Derived.Deep.WholeRow
import Derived.Laws.BitsAllLaws
import Derived.Laws.BytesArg
import Derived.Laws.CopyOwn
import Derived.Laws.Strings
import Derived.Laws.StructEq
import Derived.Lib.BufferRead
import Derived.Lib.Hide
import Derived.Maps.AppendAt
import Derived.Maps.Range
import Derived.OpenShut
import Derived.Orders
import Derived.Test.YtdhejcaapdhhfaaGreatArr
import Derived.Test.YtdhejcaapdhhfaaGreatFlow
import Derived.Test.YtdhejcaapdhhfaaGreatKit
import Derived.Test.YtdhejcaapdhhfaaGreatRows
import Derived.WalkKit
import Derived.WalkLawsBesides
import Derived.WalkMore
import Derived.WalkSmall
import Derived.WalkSpells
set_option linter.unusedVariables false
set_option linter.unusedSimpArgs false
set_option maxRecDepth 100000
set_option maxHeartbeats 6400000
namespace Go.Bas
open Go.RowKit
theorem Two.flip_a (p:Bool) (s:Two):(s.flip p).a=if p then s.c else s.a:=by cases p<;> rfl
theorem Two.flip_b (p:Bool) (s:Two):(s.flip p).b=if p then s.d else s.b:=by cases p<;> rfl
theorem Two.flip_c (p:Bool) (s:Two):(s.flip p).c=if p then s.a else s.c:=by cases p<;> rfl
theorem Two.flip_d (p:Bool) (s:Two):(s.flip p).d=if p then s.b else s.d:=by cases p<;> rfl
theorem Two.flip_flip (p q:Bool) (s:Two):(s.flip q).flip (p !=q)=s.flip p:=by cases p<;> cases q<;> rfl
def Fe4 (f g h e:Nat→Int) (s:Two):Prop:=Fe f s.a∧Fe g s.b∧Fe h s.c∧Fe e s.d
theorem Fe4.flip {f g h e:Nat→Int} {s:Two} (p:Bool) (H:Fe4 f g h e s):Fe4 (pick2 p f h) (pick2 p g e) (pick2 p h f) (pick2 p e g) (s.flip p):=
 ⟨by rw [Two.flip_a];exact fe_pick H.1 H.2.2.1,by rw [Two.flip_b];exact fe_pick H.2.1 H.2.2.2,by rw [Two.flip_c];exact fe_pick H.2.2.1 H.1,by rw [Two.flip_d];exact fe_pick H.2.2.2 H.2.1⟩
end Go.Bas
namespace Go.Proofs.YtdhejcaapdhhfaaGreat
open Go.RowKit Go.Bas Go.ChangeShapes
attribute [local go_sem ↓] Go.wp_at_zero Go.wp_at_succ
theorem ldMul_any (S U:Int) (w:World):
  Calls Tryz.prog 86 #[.agg (arr .u8 32 (dg 256 S)),.agg (arr .u8 32 (dg 256 U))] w fun e w'=> e=.returned (.agg (arr .u8 32 (dg 256 (ladN (clampN S) (U % 2 ^ 255) % Pr))))∧Below w.heap.size w w':=by
 have HCL:=Lib.hid (fun w=> ldClamp_any S w)
 have HOF:=Lib.hid (fun w=> feOf_any U w)
 have HFU:=Lib.hid (feOf_fe U)
 have HS1:Hid (∀w,Calls Tryz.prog 52 #[.int .i64 1] w fun e w'=> e=.returned (.agg (arr .i64 16 (smallF 1)))∧Below w.heap.size w w'):=fun w=> feSmall_any 1 w
 have HS0:Hid (∀w,Calls Tryz.prog 52 #[.int .i64 0] w fun e w'=> e=.returned (.agg (arr .i64 16 (smallF 0)))∧Below w.heap.size w w'):=fun w=> feSmall_any 0 w
 have HF1:Hid (Fe (smallF 1) 1):=by have h:=fe_smallF 1;rwa [show smallN 1=1 by decide] at h
 have HF0:Hid (Fe (smallF 0) 0):=by have h:=fe_smallF 0;rwa [show smallN 0=0 by decide] at h
 obtain ⟨UN,hUN⟩:∃UN,UN=U % 2 ^ 255:=⟨_,rfl⟩
 rw [←hUN] at HFU HOF ⊢
 obtain ⟨N,hN⟩:∃N,N=clampN S:=⟨_,rfl⟩
 rw [←hN] at HCL ⊢
 unfold El at HOF
 obtain ⟨fu,hfu⟩:∃fu,fu=dg 65536 UN:=⟨_,rfl⟩
 rw [←hfu] at HFU HOF
 clear hUN hfu hN
 obtain ⟨g1,hg1⟩:∃g1,g1=smallF 1:=⟨_,rfl⟩
 obtain ⟨g0,hg0⟩:∃g0,g0=smallF 0:=⟨_,rfl⟩
 rw [←hg1] at HS1 HF1
 rw [←hg0] at HS0 HF0
 clear hg1 hg0
 go_enter Tryz.func86,Tryz.ntmps86
 go_upto_region 1 with (fail)
 refine wp_world (fun w1=> Arr .u8 w1 w.heap.size 32 (dg 256 S)∧Arr .u8 w1 (w.heap.size+1) 32 (dg 256 U)∧Arr .u8 w1 (w.heap.size+2) 32 (fun _=> 0)∧Below w.heap.size w w1)
  ⟨.alloc (.alloc (Arr.newAt rfl rfl) _) _,.alloc (Arr.newAt (by first | omega | (simp<;> omega)) rfl) _,Arr.newAt (by first | omega | (simp<;> omega)) (by rfl),(((Below.refl _ _).alloc (Nat.le_refl _) _).alloc (by first | omega | (simp<;> omega)) _).alloc (by first | omega | (simp<;> omega)) _⟩ ?_
 rintro w1 ⟨hA,hP,hZ,hbel⟩
 refine wp_scope_straight ?_
 go_wp2_with (refine load_arr rfl 22 _ rfl .u8 w.heap.size 32 (dg 256 S) 5 Tryz.underlying22 Tryz.size22 rfl hA ?_)
 refine (HCL.out _).mono ?_
 rintro e w2 ⟨rfl,hb2⟩
 have hP2:=hP.kept hb2
 have hZ2:=hZ.kept hb2
 have hbel2:=hbel.trans (hb2.mono hbel.size)
 have hl2:=hZ2.lt
 clear hA hP hZ hbel hb2
 go_upto_region 2 with (refine store_arr rfl 22 _ _ rfl .u8 w2.heap.size 32 (fun _=> 0) (dg 256 N) Tryz.size22 rfl rfl (Arr.newAt rfl (by rfl)) ?_)
 refine wp_world (fun w3=> Arr .u8 w3 w2.heap.size 32 (dg 256 N)∧Arr .u8 w3 (w.heap.size+1) 32 (dg 256 U)∧Arr .u8 w3 (w.heap.size+2) 32 (fun _=> 0)∧Below w.heap.size w w3)
  ⟨(Arr.newAt rfl (by rfl):Arr .u8 _ _ 32 (fun _=> 0)).setRow _ _,Arr.setRowOther (Arr.alloc hP2 _) _ (by omega) _,Arr.setRowOther (Arr.alloc hZ2 _) _ (by omega) _,below_setRow' (hbel2.alloc hbel2.size _) hbel2.size _⟩ ?_
 rintro w3 ⟨hN,hP3,hZ3,hbel3⟩
 obtain ⟨bn,hbn⟩:∃bn,bn=w2.heap.size:=⟨_,rfl⟩
 rw [←hbn] at hN hl2 ⊢
 clear hbn hP2 hZ2 hbel2
 try simp only [Act.put,List.setIfInBounds_toArray,List.set_cons_succ,List.set_cons_zero]
 go_wp2_with (refine load_arr rfl 22 _ rfl .u8 (w.heap.size+1) 32 (dg 256 U) 5 Tryz.underlying22 Tryz.size22 rfl hP3 ?_)
 refine (HOF.out _).mono ?_
 rintro e w4 ⟨rfl,hb4⟩
 have hN4:=hN.kept hb4
 have hZ4:=hZ3.kept hb4
 have hbel4:=hbel3.trans (hb4.mono hbel3.size)
 have hl4:=hN4.lt
 clear hN hP3 hZ3 hbel3 hb4
 go_upto_region 3 with (refine store_arr rfl 53 _ _ rfl .i64 w4.heap.size 16 (fun _=> 0) fu Tryz.size53 rfl rfl (Arr.newAt rfl (by rfl)) ?_)
 refine wp_world (fun w5=> Arr .i64 w5 w4.heap.size 16 fu∧Arr .u8 w5 bn 32 (dg 256 N)∧Arr .u8 w5 (w.heap.size+2) 32 (fun _=> 0)∧Below w.heap.size w w5)
  ⟨(Arr.newAt rfl (by rfl):Arr .i64 _ _ 16 (fun _=> 0)).setRow _ _,Arr.setRowOther (Arr.alloc hN4 _) _ (by omega) _,Arr.setRowOther (Arr.alloc hZ4 _) _ (by omega) _,below_setRow' (hbel4.alloc hbel4.size _) hbel4.size _⟩ ?_
 rintro w5 ⟨hV,hN5,hZ5,hbel5⟩
 obtain ⟨bu,hbu⟩:∃bu,bu=w4.heap.size:=⟨_,rfl⟩
 rw [←hbu] at hV hl4 ⊢
 clear hbu hN4 hZ4 hbel4
 try simp only [Act.put,List.setIfInBounds_toArray,List.set_cons_succ,List.set_cons_zero]
 have hlu:=hV.lt
 refine region_vars (n:=77) (by kernel_rfl) (by kernel_rfl) (by kernel_rfl) rfl
  (isAl [(8,4),(9,5),(10,6),(11,7)]) (putOf [(8,4),(9,5),(10,6),(11,7)]) (fun _=> arr .i64 16 (fun _=> 0)) (fun i=> match i with | 4=> (arr .i64 16 (g1)) | 5=> (arr .i64 16 (g0)) | 6=> (arr .i64 16 (fu)) | 7=> (arr .i64 16 (g1)) | _=> #[]) (fun _=> 53) (fun i=> match i with | 4=> 7 | 5=> 8 | 6=> 9 | 7=> 10 | _=> 0)
  (fun ii vv _=> (match ii with | 0 | 3=> vv=.agg (arr .i64 16 (g1)) | 1=> vv=.agg (arr .i64 16 (g0)) | 2=> vv=.agg (arr .i64 16 (fu)) | _=> True)) (fun _ _=> True) (fun _ _ _=> trivial) (fun _ _ _ _ _ _ _=> trivial) (fun _ _ _ _ h _=> h)
  (vs_al rfl) (vs_inj rfl) ?_ ?_ ?_ ?_
 ·refine Each.all ?_
  refine ⟨?_,?_,?_,?_,(fun h=> by cases h),(fun h=> by cases h),(fun h=> by cases h),(fun h=> by cases h),(fun _ h=> by cases h),(fun _ h=> by cases h),(fun _ h=> by cases h),(fun _ h=> by cases h),trivial⟩
  ·intro _ _ a w2 hB hF hd
   rw [if_pos (wanted_none rfl)]
   refine flow_call _ _ _ rfl Tryz.call52 _ (args1 rfl) (by simp) ((HS1.out w2).mono ?_)
   rintro e w3 ⟨rfl,hb⟩;exact ⟨_,rfl,rfl,hb⟩
  ·intro _ _ a w2 hB hF hd
   rw [if_pos (wanted_none rfl)]
   refine flow_call _ _ _ rfl Tryz.call52 _ (args1 rfl) (by simp) ((HS0.out w2).mono ?_)
   rintro e w3 ⟨rfl,hb⟩;exact ⟨_,rfl,rfl,hb⟩
  ·intro _ _ a w2 hB hF hd
   rw [if_pos (wanted_none rfl)]
   exact flow_val (fun h=> by cases h) (run_load_str rfl Tryz.underlying53 rfl Tryz.size53 (hF.same 6 rfl) (hV.below hB hV.lt)) rfl
  ·intro _ _ a w2 hB hF hd
   rw [if_pos (wanted_none rfl)]
   refine flow_call _ _ _ rfl Tryz.call52 _ (args1 rfl) (by simp) ((HS1.out w2).mono ?_)
   rintro e w3 ⟨rfl,hb⟩;exact ⟨_,rfl,rfl,hb⟩
 ·refine Each.all ?_
  refine ⟨(fun h=> by cases h),(fun h=> by cases h),(fun h=> by cases h),(fun h=> by cases h),?_,?_,?_,?_,(fun h=> by cases h),(fun h=> by cases h),(fun h=> by cases h),(fun h=> by cases h),trivial⟩
  ·exact fun _=> ⟨rfl,rfl,fun a w2 K h=> flow_alloc rfl rfl Tryz.zeroValue53 (by simp) h⟩
  ·exact fun _=> ⟨rfl,rfl,fun a w2 K h=> flow_alloc rfl rfl Tryz.zeroValue53 (by simp) h⟩
  ·exact fun _=> ⟨rfl,rfl,fun a w2 K h=> flow_alloc rfl rfl Tryz.zeroValue53 (by simp) h⟩
  ·exact fun _=> ⟨rfl,rfl,fun a w2 K h=> flow_alloc rfl rfl Tryz.zeroValue53 (by simp) h⟩
 ·refine Each.all ?_
  refine ⟨(fun _ h=> by cases h),(fun _ h=> by cases h),(fun _ h=> by cases h),(fun _ h=> by cases h),(fun _ h=> by cases h),(fun _ h=> by cases h),(fun _ h=> by cases h),(fun _ h=> by cases h),?_,?_,?_,?_,trivial⟩
  ·intro p hp
   obtain rfl:4=p:=Option.some.inj hp
   exact ⟨rfl,rfl,⟨_,rfl⟩,waits_spec rfl,fun a w2 b K hB hF hd hx hb h=> flow_put rfl rfl Tryz.size53 hx (hd 0 _ rfl rfl rfl (waits_spec rfl)) hb h⟩
  ·intro p hp
   obtain rfl:5=p:=Option.some.inj hp
   exact ⟨rfl,rfl,⟨_,rfl⟩,waits_spec rfl,fun a w2 b K hB hF hd hx hb h=> flow_put rfl rfl Tryz.size53 hx (hd 1 _ rfl rfl rfl (waits_spec rfl)) hb h⟩
  ·intro p hp
   obtain rfl:6=p:=Option.some.inj hp
   exact ⟨rfl,rfl,⟨_,rfl⟩,waits_spec rfl,fun a w2 b K hB hF hd hx hb h=> flow_put rfl rfl Tryz.size53 hx (hd 2 _ rfl rfl rfl (waits_spec rfl)) hb h⟩
  ·intro p hp
   obtain rfl:7=p:=Option.some.inj hp
   exact ⟨rfl,rfl,⟨_,rfl⟩,waits_spec rfl,fun a w2 b K hB hF hd hx hb h=> flow_put rfl rfl Tryz.size53 hx (hd 3 _ rfl rfl rfl (waits_spec rfl)) hb h⟩
 ·intro a w6 blk hB hF hS hv hfin hdis
  obtain ⟨v4,v4l,v4u⟩:=hv 4 _ rfl rfl
  obtain ⟨v5,v5l,v5u⟩:=hv 5 _ rfl rfl
  obtain ⟨v6,v6l,v6u⟩:=hv 6 _ rfl rfl
  obtain ⟨v7,v7l,v7u⟩:=hv 7 _ rfl rfl
  have ha:=puts_each rfl rfl hF [_,_,_,_,_,_,_,_,undef,undef,undef,undef] rfl ⟨hS 0 _ rfl rfl rfl,hS 1 _ rfl rfl rfl,hS 2 _ rfl rfl rfl,hS 3 _ rfl rfl rfl,v4,v5,v6,v7,trivial,trivial,trivial,trivial,trivial⟩
  have f4:=hfin 8 _ 4 rfl rfl
  have f5:=hfin 9 _ 5 rfl rfl
  have f6:=hfin 10 _ 6 rfl rfl
  have f7:=hfin 11 _ 7 rfl rfl
  have d4_5:=hdis 4 5 _ _ rfl rfl rfl rfl (by decide)
  have d4_6:=hdis 4 6 _ _ rfl rfl rfl rfl (by decide)
  have d4_7:=hdis 4 7 _ _ rfl rfl rfl rfl (by decide)
  have d5_6:=hdis 5 6 _ _ rfl rfl rfl rfl (by decide)
  have d5_7:=hdis 5 7 _ _ rfl rfl rfl rfl (by decide)
  have d6_7:=hdis 6 7 _ _ rfl rfl rfl rfl (by decide)
  simp only [puts,Act.put,List.setIfInBounds_toArray,List.set_cons_succ,List.set_cons_zero] at ha
  subst ha
  have V4:Arr .i64 w6 (blk 4) 16 (g1):=⟨_,f4⟩
  have V5:Arr .i64 w6 (blk 5) 16 (g0):=⟨_,f5⟩
  have V6:Arr .i64 w6 (blk 6) 16 (fu):=⟨_,f6⟩
  have V7:Arr .i64 w6 (blk 7) 16 (g1):=⟨_,f7⟩
  clear hS hv hfin hdis hF v4 v5 v6 v7 f4 f5 f6 f7
  have hV6:=hV.kept hB
  have hN6:=hN5.kept hB
  have hZ6:=hZ5.kept hB
  have hbel6:=hbel5.trans (hB.mono hbel5.size)
  clear hV hN5 hZ5 hbel5 hB
  obtain ⟨x7,e7⟩:∃x,x=blk 4:=⟨_,rfl⟩
  obtain ⟨x8,e8⟩:∃x,x=blk 5:=⟨_,rfl⟩
  obtain ⟨x9,e9⟩:∃x,x=blk 6:=⟨_,rfl⟩
  obtain ⟨x10,e10⟩:∃x,x=blk 7:=⟨_,rfl⟩
  rw [←e7] at V4 d4_5 d4_6 d4_7 v4l ⊢
  rw [←e8] at V5 d4_5 d5_6 d5_7 v5l ⊢
  rw [←e9] at V6 d4_6 d5_6 d6_7 v6l ⊢
  rw [←e10] at V7 d4_7 d5_7 d6_7 v7l ⊢
  clear e7 e8 e9 e10
  have l7:bu<x7:=by omega
  have l8:bu<x8:=by omega
  have l9:bu<x9:=by omega
  have l10:bu<x10:=by omega
  clear v4l v5l v6l v7l v4u v5u v6u v7u hlu
  have HR0:Hid (Fe4 g1 g0 fu g1 ((lad N UN 0).flip false)):=⟨HF1.out,HF0.out,HFU.out,HF1.out⟩
  go_wp2
  refine wp_label ?_
  go_wp2
  go_loopw [11,12] (fun sw i wr=> ∃(k:Nat) (q:Bool) (f7 f8 f9 f10:Nat→Int),k≤255∧i=.int .i64 (254 - (k:Int))∧sw=.bool q∧Hid (Fe4 f7 f8 f9 f10 ((lad N UN k).flip q))∧(Arr .i64 wr x7 16 f7∧Arr .i64 wr x8 16 f8∧Arr .i64 wr x9 16 f9∧Arr .i64 wr x10 16 f10)∧(Arr .i64 wr bu 16 fu∧Arr .u8 wr bn 32 (dg 256 N)∧Arr .u8 wr (w.heap.size+2) 32 (fun _=> 0))∧Below w.heap.size w wr) (fun _ i _=> (intOf i+1).toNat)
  case atStart=> exact ⟨0,false,_,_,_,_,Nat.zero_le _,rfl,rfl,HR0,⟨V4,V5,V6,V7⟩,⟨hV6,hN6,hZ6⟩,hbel6⟩
  case round=>
   clear V4 V5 V6 V7 hV6 hN6 hZ6 hbel6 HR0
   obtain ⟨k,q,f7,f8,f9,f10,hk,rfl,rfl,hR,⟨hA7,hA8,hA9,hA10⟩,⟨hV,hN,hZ⟩,hbel⟩:=hrel
   rename_i wr
   obtain rfl | hlt:=(by omega:k=255∨k<255)
   ·have ei:(254:Int) - ((255:Nat):Int)= -1:=by decide
    rw [ei]
    clear ei
    go_upto_region 7 with (fail)
    refine region_flow (n:=77) (by kernel_rfl) (by kernel_rfl) (by kernel_rfl) rfl
     (fun ii vv _=> (match ii with | 0=> vv=.int .i64 (-1) | 1 | 2 | 15 | 16=> vv=.bool false | 3 | 4 | 5 | 6 | 7 | 8 | 9 | 10 | 11 | 12 | 13 | 14=> vv=undef | _=> True))
     (fun w w'=> Below w.heap.size w w') (fun _ _ h=> h) (fun _ _ _ _ h _=> h) ?_ ?_
    ·refine Each.all ?_
     refine ⟨?_,?_,?_,?_,?_,?_,?_,?_,?_,?_,?_,?_,?_,?_,?_,?_,?_,trivial⟩
     ·intro a w2 hB hF hd
      rw [if_pos (wanted_none rfl)]
      exact flow_move _ (.inl rfl) (by simp) (hF.same 12 rfl)
     ·intro a w2 hB hF hd
      rw [if_pos (wanted_none rfl)]
      exact flow_val (fun h=> by cases h) (Go.Bas.run_geq rfl (hd 0 _ rfl (waits_spec rfl)) rfl) (congrArg Value.bool (by decide))
     ·intro a w2 hB hF hd
      rw [if_pos (wanted_none rfl)]
      exact flow_move _ (.inl rfl) (by simp) (hd 1 _ rfl (waits_spec rfl))
     ·intro a w2 hB hF hd
      rw [if_neg (by rw [wanted_some rfl rfl (hd 2 _ rfl (waits_spec rfl))];decide)]
      exact rfl
     ·intro a w2 hB hF hd
      rw [if_neg (by rw [wanted_some rfl rfl (hd 2 _ rfl (waits_spec rfl))];decide)]
      exact rfl
     ·intro a w2 hB hF hd
      rw [if_neg (by rw [wanted_some rfl rfl (hd 2 _ rfl (waits_spec rfl))];decide)]
      exact rfl
     ·intro a w2 hB hF hd
      rw [if_neg (by rw [wanted_some rfl rfl (hd 2 _ rfl (waits_spec rfl))];decide)]
      exact rfl
     ·intro a w2 hB hF hd
      rw [if_neg (by rw [wanted_some rfl rfl (hd 2 _ rfl (waits_spec rfl))];decide)]
      exact rfl
     ·intro a w2 hB hF hd
      rw [if_neg (by rw [wanted_some rfl rfl (hd 2 _ rfl (waits_spec rfl))];decide)]
      exact rfl
     ·intro a w2 hB hF hd
      rw [if_neg (by rw [wanted_some rfl rfl (hd 2 _ rfl (waits_spec rfl))];decide)]
      exact rfl
     ·intro a w2 hB hF hd
      rw [if_neg (by rw [wanted_some rfl rfl (hd 2 _ rfl (waits_spec rfl))];decide)]
      exact rfl
     ·intro a w2 hB hF hd
      rw [if_neg (by rw [wanted_some rfl rfl (hd 2 _ rfl (waits_spec rfl))];decide)]
      exact rfl
     ·intro a w2 hB hF hd
      rw [if_neg (by rw [wanted_some rfl rfl (hd 2 _ rfl (waits_spec rfl))];decide)]
      exact rfl
     ·intro a w2 hB hF hd
      rw [if_neg (by rw [wanted_some rfl rfl (hd 2 _ rfl (waits_spec rfl))];decide)]
      exact rfl
     ·intro a w2 hB hF hd
      rw [if_neg (by rw [wanted_some rfl rfl (hd 2 _ rfl (waits_spec rfl))];decide)]
      exact rfl
     ·intro a w2 hB hF hd
      rw [if_pos (wanted_none rfl)]
      exact flow_val (fun h=> by cases h) (run_pick rfl (hd 2 _ rfl (waits_spec rfl))) (rfl)
     ·intro a w2 hB hF hd
      rw [if_pos (wanted_none rfl)]
      exact flow_move _ (.inr rfl) (by simp) (hd 15 _ rfl (waits_spec rfl))
    ·intro a w7 hB hF hS
     have ha:=puts_each rfl rfl hF [_,_,_,_,_,_,_,_,_,_,_,_,_,_,_,_,_] rfl ⟨hS 0 _ rfl,hS 1 _ rfl,hS 2 _ rfl,hS 3 _ rfl,hS 4 _ rfl,hS 5 _ rfl,hS 6 _ rfl,hS 7 _ rfl,hS 8 _ rfl,hS 9 _ rfl,hS 10 _ rfl,hS 11 _ rfl,hS 12 _ rfl,hS 13 _ rfl,hS 14 _ rfl,hS 15 _ rfl,hS 16 _ rfl,trivial⟩
     simp only [puts,Act.put,List.setIfInBounds_toArray,List.set_cons_succ,List.set_cons_zero] at ha
     subst ha
     clear hS hF
     replace hA7:=hA7.kept hB
     replace hA8:=hA8.kept hB
     replace hA9:=hA9.kept hB
     replace hA10:=hA10.kept hB
     replace hV:=hV.kept hB
     replace hN:=hN.kept hB
     replace hZ:=hZ.kept hB
     replace hbel:=hbel.trans (hB.mono hbel.size)
     clear hB
     obtain ⟨bb,hbb⟩:∃bb:Bool,bb=false:=⟨_,rfl⟩
     obtain ⟨pq,hpq⟩:∃pq,pq=(bb !=q):=⟨_,rfl⟩
     have HPQ:=Lib.hid hpq
     clear hpq
     have HBB:=Lib.hid hbb
     clear hbb
     go_upto_region 8 with (fail)
     have HSW8:Hid (∀p w,p=(bb !=q)→Calls Tryz.prog 115 #[.agg (arr .i64 16 f7),.agg (arr .i64 16 f9),.bool p] w fun e w'=> e=.returned (.tuple #[.agg (arr .i64 16 (pick2 pq f7 f9)),.agg (arr .i64 16 (pick2 pq f9 f7))])∧Below w.heap.size w w'):=by
      rintro p w rfl;rw [HPQ.out];exact feSwap_any _ f7 f9 _ _ hR.out.1 hR.out.2.2.1 w
     go_wp2_with (first | (refine load_str rfl 53 _ rfl .i64 x7 16 f7 Tryz.underlying53 rfl Tryz.size53 rfl hA7 ?_) | (refine load_str rfl 53 _ rfl .i64 x9 16 f9 Tryz.underlying53 rfl Tryz.size53 rfl hA9 ?_))
     refine (HSW8.out _ _ (by first | rfl | (rw [HBB.out];cases q<;> rfl) | (cases q<;> cases bb<;> rfl))).mono ?_
     rintro e wq0 ⟨rfl,hbq⟩
     replace hA7:=hA7.kept hbq
     replace hA9:=hA9.kept hbq
     replace hA8:=hA8.kept hbq
     replace hA10:=hA10.kept hbq
     replace hV:=hV.kept hbq
     replace hN:=hN.kept hbq
     replace hZ:=hZ.kept hbq
     replace hbel:=hbel.trans (hbq.mono hbel.size)
     have s2:=hA9.setRowOther x7 (by omega) (arr .i64 16 (pick2 pq f7 f9))
     clear HSW8 hbq
     go_upto_region 9 with (first | (refine store_arr rfl 53 _ _ rfl .i64 x7 16 f7 (pick2 pq f7 f9) Tryz.size53 rfl rfl hA7 ?_) | (refine store_arr rfl 53 _ _ rfl .i64 x9 16 f9 (pick2 pq f9 f7) Tryz.size53 rfl rfl s2 ?_))
     refine wp_world (fun wq=> Arr .i64 wq x7 16 (pick2 pq f7 f9)∧Arr .i64 wq x9 16 (pick2 pq f9 f7)∧Arr .i64 wq x8 16 f8∧Arr .i64 wq x10 16 f10∧Arr .i64 wq bu 16 fu∧Arr .u8 wq bn 32 (dg 256 N)∧Arr .u8 wq (w.heap.size+2) 32 (fun _=> 0)∧Below w.heap.size w wq)
      ⟨(hA7.setRow _ _).setRowOther _ (by omega) _,s2.setRow _ _,(hA8.setRowOther _ (by omega) _).setRowOther _ (by omega) _,(hA10.setRowOther _ (by omega) _).setRowOther _ (by omega) _,(hV.setRowOther _ (by omega) _).setRowOther _ (by omega) _,(hN.setRowOther _ (by omega) _).setRowOther _ (by omega) _,(hZ.setRowOther _ (by omega) _).setRowOther _ (by omega) _,below_setRow' (below_setRow' hbel (by omega) _) (by omega) _⟩ ?_
     clear s2 hA7 hA9 hA8 hA10 hV hN hZ hbel
     rintro wq ⟨hA7,hA9,hA8,hA10,hV,hN,hZ,hbel⟩
     try simp only [Act.put,List.setIfInBounds_toArray,List.set_cons_succ,List.set_cons_zero]
     have HSW9:Hid (∀p w,p=(bb !=q)→Calls Tryz.prog 115 #[.agg (arr .i64 16 f8),.agg (arr .i64 16 f10),.bool p] w fun e w'=> e=.returned (.tuple #[.agg (arr .i64 16 (pick2 pq f8 f10)),.agg (arr .i64 16 (pick2 pq f10 f8))])∧Below w.heap.size w w'):=by
      rintro p w rfl;rw [HPQ.out];exact feSwap_any _ f8 f10 _ _ hR.out.2.1 hR.out.2.2.2 w
     go_wp2_with (first | (refine load_str rfl 53 _ rfl .i64 x8 16 f8 Tryz.underlying53 rfl Tryz.size53 rfl hA8 ?_) | (refine load_str rfl 53 _ rfl .i64 x10 16 f10 Tryz.underlying53 rfl Tryz.size53 rfl hA10 ?_))
     refine (HSW9.out _ _ (by first | rfl | (rw [HBB.out];cases q<;> rfl) | (cases q<;> cases bb<;> rfl))).mono ?_
     rintro e wp0 ⟨rfl,hbq⟩
     replace hA8:=hA8.kept hbq
     replace hA10:=hA10.kept hbq
     replace hA7:=hA7.kept hbq
     replace hA9:=hA9.kept hbq
     replace hV:=hV.kept hbq
     replace hN:=hN.kept hbq
     replace hZ:=hZ.kept hbq
     replace hbel:=hbel.trans (hbq.mono hbel.size)
     have s2:=hA10.setRowOther x8 (by omega) (arr .i64 16 (pick2 pq f8 f10))
     clear HSW9 hbq
     go_upto_region 10 with (first | (refine store_arr rfl 53 _ _ rfl .i64 x8 16 f8 (pick2 pq f8 f10) Tryz.size53 rfl rfl hA8 ?_) | (refine store_arr rfl 53 _ _ rfl .i64 x10 16 f10 (pick2 pq f10 f8) Tryz.size53 rfl rfl s2 ?_))
     refine wp_world (fun wp=> Arr .i64 wp x8 16 (pick2 pq f8 f10)∧Arr .i64 wp x10 16 (pick2 pq f10 f8)∧Arr .i64 wp x7 16 (pick2 pq f7 f9)∧Arr .i64 wp x9 16 (pick2 pq f9 f7)∧Arr .i64 wp bu 16 fu∧Arr .u8 wp bn 32 (dg 256 N)∧Arr .u8 wp (w.heap.size+2) 32 (fun _=> 0)∧Below w.heap.size w wp)
      ⟨(hA8.setRow _ _).setRowOther _ (by omega) _,s2.setRow _ _,(hA7.setRowOther _ (by omega) _).setRowOther _ (by omega) _,(hA9.setRowOther _ (by omega) _).setRowOther _ (by omega) _,(hV.setRowOther _ (by omega) _).setRowOther _ (by omega) _,(hN.setRowOther _ (by omega) _).setRowOther _ (by omega) _,(hZ.setRowOther _ (by omega) _).setRowOther _ (by omega) _,below_setRow' (below_setRow' hbel (by omega) _) (by omega) _⟩ ?_
     clear s2 hA8 hA10 hA7 hA9 hV hN hZ hbel
     rintro wp ⟨hA8,hA10,hA7,hA9,hV,hN,hZ,hbel⟩
     try simp only [Act.put,List.setIfInBounds_toArray,List.set_cons_succ,List.set_cons_zero]
     replace hR:Hid (Fe4 (pick2 pq f7 f9) (pick2 pq f8 f10) (pick2 pq f9 f7) (pick2 pq f10 f8) ((lad N UN 255).flip bb)):=by have h:=hR.out.flip pq;rwa [show ((lad N UN 255).flip q).flip pq=(lad N UN 255).flip bb by rw [HPQ.out,Two.flip_flip]] at h
     obtain ⟨g7,hg7⟩:∃g,g=pick2 pq f7 f9:=⟨_,rfl⟩
     obtain ⟨g8,hg8⟩:∃g,g=pick2 pq f8 f10:=⟨_,rfl⟩
     obtain ⟨g9,hg9⟩:∃g,g=pick2 pq f9 f7:=⟨_,rfl⟩
     obtain ⟨g10,hg10⟩:∃g,g=pick2 pq f10 f8:=⟨_,rfl⟩
     rw [←hg7] at hA7 hR
     rw [←hg8] at hA8 hR
     rw [←hg9] at hA9 hR
     rw [←hg10] at hA10 hR
     clear hg7 hg8 hg9 hg10
     have HBY:Hid (∀w,Calls Tryz.prog 63 #[El (mulF g7 (invF g8))] w fun e w'=> e=.returned (.agg (arr .u8 32 (dg 256 (ladN N UN % Pr))))∧Below w.heap.size w w'):=fun w=> by
      have hr:=hR.out;rw [HBB.out] at hr;exact feBytes_any _ (ladN N UN) (hr.1.mulF (fe_inv hr.2.1)) w
     go_upto_region 13 with (fail)
     refine region_lasts (n:=77) (fun i=> i==5) (by kernel_rfl) (by kernel_rfl) (by kernel_rfl) (by kernel_rfl) rfl
      (fun ii vv _=> (match ii with | 0=> vv=.agg (arr .i64 16 (g7)) | 1=> vv=.agg (arr .i64 16 (g8)) | 2=> vv=.agg (arr .i64 16 (invF g8)) | 3=> vv=.agg (arr .i64 16 (mulF g7 (invF g8))) | 4=> vv=.agg (arr .u8 32 (dg 256 (ladN N UN % Pr))) | _=> True))
      (fun w w'=> Below w.heap.size w w') (fun _ _ h=> h) (fun _ _ _ _ h _=> h)
      (fun _=> (w.heap.size+2)) (fun _=> (arr .u8 32 (fun _=> 0))) (fun _=> (arr .u8 32 (dg 256 (ladN N UN % Pr))))
      (by intro i j _ _ hpi hpj hne;simp only [beq_iff_eq] at hpi hpj;omega)
      (by intro i _ hpi;exact (hZ).row)
      ?_ ?_ ?_
     ·refine Each.all ?_
      refine ⟨?_,?_,?_,?_,?_,(fun h=> absurd h (by decide)),trivial⟩
      ·intro _ a w2 hB hF hd
       rw [if_pos (wanted_none rfl)]
       exact flow_val (fun h=> by cases h) (run_load_str rfl Tryz.underlying53 rfl Tryz.size53 (hF.same 7 rfl) (hA7.below hB hA7.lt)) rfl
      ·intro _ a w2 hB hF hd
       rw [if_pos (wanted_none rfl)]
       exact flow_val (fun h=> by cases h) (run_load_str rfl Tryz.underlying53 rfl Tryz.size53 (hF.same 8 rfl) (hA8.below hB hA8.lt)) rfl
      ·intro _ a w2 hB hF hd
       rw [if_pos (wanted_none rfl)]
       refine flow_call _ _ _ rfl Tryz.call54 _ (args1 (hd 1 _ rfl rfl (waits_spec rfl))) (by simp) ((feInverse_any g8 _ hR.out.2.1 w2).mono ?_)
       rintro e w3 ⟨rfl,hb⟩;exact ⟨_,rfl,rfl,hb⟩
      ·intro _ a w2 hB hF hd
       rw [if_pos (wanted_none rfl)]
       refine flow_call _ _ _ rfl Tryz.call53 _ (args2 (hd 0 _ rfl rfl (waits_spec rfl)) (hd 2 _ rfl rfl (waits_spec rfl))) (by simp) ((feMul_any _ _ _ _ hR.out.1 (fe_inv hR.out.2.1) w2).mono ?_)
       rintro e w3 ⟨rfl,hb⟩;exact ⟨_,rfl,rfl,hb⟩
      ·intro _ a w2 hB hF hd
       rw [if_pos (wanted_none rfl)]
       refine flow_call _ _ _ rfl Tryz.call63 _ (args1 (hd 3 _ rfl rfl (waits_spec rfl))) (by simp) ((HBY.out w2).mono ?_)
       rintro e w3 ⟨rfl,hb⟩;exact ⟨_,rfl,rfl,hb⟩
     ·refine Each.all ?_
      refine ⟨(fun h=> absurd h (by decide)),(fun h=> absurd h (by decide)),(fun h=> absurd h (by decide)),(fun h=> absurd h (by decide)),(fun h=> absurd h (by decide)),?_,trivial⟩
      ·intro _ a w1 w2 K hB hF hS hr hK
       exact wp_store_arr 22 _ _ rfl .u8 ((w.heap.size+2)) 32 (fun _=> 0) (dg 256 (ladN N UN % Pr)) Tryz.size22 (hF.same 4 rfl) (hS 4 _ rfl rfl) hr hK
     ·intro a wf w9 hB hF hS hfil
      have other:∀{k:IntKind} {qb n:Nat} {f:Nat→Int},qb≠(w.heap.size+2)→Arr k wf qb n f→Arr k w9 qb n f:=fun {k qb n f} e0 hA=> hfil.arr (by intro i _ hpi;simp only [Bool.or_eq_true,beq_iff_eq] at hpi;subst hpi<;> ((try simp only []);(try dsimp only);omega)) hA
      have belowT:∀{B:Nat} {w0:World},B≤(w.heap.size+2)→Below B w0 wf→Below B w0 w9:=fun {B w0} e0 hA=> hfil.below (by intro i _ hpi;simp only [Bool.or_eq_true,beq_iff_eq] at hpi;subst hpi<;> ((try simp only []);(try dsimp only);omega)) hA
      have V5:Arr .u8 w9 ((w.heap.size+2)) 32 (dg 256 (ladN N UN % Pr)):=hfil.at 5 (by decide) rfl
      have hszf:=hfil.size
      clear hfil
      have ha:=puts_each rfl rfl hF [_,_,_,_,_,undef] rfl ⟨hS 0 _ rfl rfl,hS 1 _ rfl rfl,hS 2 _ rfl rfl,hS 3 _ rfl rfl,hS 4 _ rfl rfl,trivial,trivial⟩
      simp only [puts,Act.put,List.setIfInBounds_toArray,List.set_cons_succ,List.set_cons_zero] at ha
      subst ha
      clear hS hF
      have hb:=belowT (by omega) (hbel.trans (hB.mono hbel.size))
      go_wp2
      rw [Exit.noGoto_ret]
      exact bodyPost_ret (results_arr rfl _ _ .u8 (w.heap.size+2) 32 _ 5 rfl V5 Tryz.underlying22 Tryz.size22) rfl ⟨rfl,hb⟩
   ·obtain ⟨m,hm⟩:∃m,m=254 - k:=⟨_,rfl⟩
    have ei:(254:Int) - (k:Int)=(m:Int):=by omega
    have HKM:Hid ((m:Int)=254 - (k:Int)):=ei.symm
    have HKL:=Lib.hid hlt
    have hm254:m≤254:=by omega
    rw [ei]
    have hm9:m % 8<8:=Nat.mod_lt _ (by decide)
    have hq:IntKind.i64.wrap (Int.tdiv (m:Int) 8)=((m / 8:Nat):Int):=by rw [Int.tdiv_eq_ediv_of_nonneg (by omega),wrap_i64_id] <;> omega
    have hr:Int.tmod (m:Int) 8=((m % 8:Nat):Int):=by rw [Int.tmod_eq_emod_of_nonneg (by omega)];omega
    have hc:IntKind.u64.wrap ((m % 8:Nat):Int)=((m % 8:Nat):Int):=wrap_u64_id (by omega) (by omega)
    obtain ⟨d0,d1⟩:=dg_bound (by decide:(0:Int)<256) N (m / 8)
    have hsh:=byte_shr (x:=dg 256 N (m / 8)) (m % 8) hm9
    have hand:bits .and .u8 (dg 256 N (m / 8) / 2 ^ (m % 8)) 1=N / 2 ^ m % 2:=by
     rw [and1_u8x (Int.ediv_nonneg d0 (Int.le_of_lt (pow_pos' (by decide) _))) (Int.lt_of_le_of_lt (Int.ediv_le_self _ d0) d1),bit_of N m]
    have hpl:((m / 8:Nat):Int).toNat=m / 8:=Int.toNat_natCast _
    have hm8:m / 8<32:=by omega
    have hce:=hN.cell (m / 8) hm8
    have hBl:=hN.lt
    obtain ⟨bb,hbb⟩:∃bb,bb=(N / 2 ^ m % 2==1):=⟨_,rfl⟩
    obtain ⟨pq,hpq⟩:∃pq,pq=(bb !=q):=⟨_,rfl⟩
    have HPQ:=Lib.hid hpq
    clear hpq
    go_upto_region 7 with (fail)
    refine region_flow (n:=77) (by kernel_rfl) (by kernel_rfl) (by kernel_rfl) rfl
     (fun ii vv _=> (match ii with | 0 | 3 | 4 | 8 | 9=> vv=.int .i64 ((m:Int)) | 1 | 2=> vv=.bool true | 5=> vv=.int .i64 ((m / 8:Nat)) | 6=> vv=.pointer (some ⟨bn,(m / 8),none⟩) | 7=> vv=.int .u8 (dg 256 N (m / 8)) | 10=> vv=.int .i64 ((m % 8:Nat)) | 11=> vv=.int .u64 ((m % 8:Nat)) | 12=> vv=.int .u8 (dg 256 N (m / 8) / 2 ^ (m % 8)) | 13=> vv=.int .u8 (N / 2 ^ m % 2) | 14 | 15 | 16=> vv=.bool bb | _=> True))
     (fun w w'=> Below w.heap.size w w') (fun _ _ h=> h) (fun _ _ _ _ h _=> h) ?_ ?_
    ·refine Each.all ?_
     refine ⟨?_,?_,?_,?_,?_,?_,?_,?_,?_,?_,?_,?_,?_,?_,?_,?_,?_,trivial⟩
     ·intro a w2 hB hF hd
      rw [if_pos (wanted_none rfl)]
      exact flow_move _ (.inl rfl) (by simp) (hF.same 12 rfl)
     ·intro a w2 hB hF hd
      rw [if_pos (wanted_none rfl)]
      exact flow_val (fun h=> by cases h) (Go.Bas.run_geq rfl (hd 0 _ rfl (waits_spec rfl)) rfl) (congrArg Value.bool (decide_eq_true (by omega)))
     ·intro a w2 hB hF hd
      rw [if_pos (wanted_none rfl)]
      exact flow_move _ (.inl rfl) (by simp) (hd 1 _ rfl (waits_spec rfl))
     ·intro a w2 hB hF hd
      refine flow_wanted (wanted_yes rfl rfl (hd 2 _ rfl (waits_spec rfl)) rfl) ?_
      exact flow_move _ (.inl rfl) (by simp) (hF.same 12 rfl)
     ·intro a w2 hB hF hd
      refine flow_wanted (wanted_yes rfl rfl (hd 2 _ rfl (waits_spec rfl)) rfl) ?_
      exact flow_val (fun h=> by cases h) (run_max0 rfl (hd 3 _ rfl (waits_spec rfl)) rfl (by omega)) rfl
     ·intro a w2 hB hF hd
      refine flow_wanted (wanted_yes rfl rfl (hd 2 _ rfl (waits_spec rfl)) rfl) ?_
      exact flow_val (fun h=> by cases h) (Go.Bas.run_quo rfl (hd 4 _ rfl (waits_spec rfl)) rfl (by decide)) (congrArg (Value.int .i64) (hq))
     ·intro a w2 hB hF hd
      refine flow_wanted (wanted_yes rfl rfl (hd 2 _ rfl (waits_spec rfl)) rfl) ?_
      exact flow_val (fun h=> by cases h) (run_index_addr rfl (hF.same 5 rfl) (hd 5 _ rfl (waits_spec rfl)) Tryz.underlying22 (by kernel_rfl) (by omega) (by omega)) (congrArg (fun z=> Value.pointer (some ⟨bn,z,none⟩)) hpl)
     ·intro a w2 hB hF hd
      refine flow_wanted (wanted_yes rfl rfl (hd 2 _ rfl (waits_spec rfl)) rfl) ?_
      exact flow_val (fun h=> by cases h) (run_load_cell rfl (hd 6 _ rfl (waits_spec rfl)) Tryz.underlying5 ((hB.cell (p:=⟨bn,m / 8,none⟩) hBl).trans hce)) rfl
     ·intro a w2 hB hF hd
      refine flow_wanted (wanted_yes rfl rfl (hd 2 _ rfl (waits_spec rfl)) rfl) ?_
      exact flow_move _ (.inl rfl) (by simp) (hF.same 12 rfl)
     ·intro a w2 hB hF hd
      refine flow_wanted (wanted_yes rfl rfl (hd 2 _ rfl (waits_spec rfl)) rfl) ?_
      exact flow_val (fun h=> by cases h) (run_max0 rfl (hd 8 _ rfl (waits_spec rfl)) rfl (by omega)) rfl
     ·intro a w2 hB hF hd
      refine flow_wanted (wanted_yes rfl rfl (hd 2 _ rfl (waits_spec rfl)) rfl) ?_
      exact flow_val (fun h=> by cases h) (Go.Bas.run_rem rfl (hd 9 _ rfl (waits_spec rfl)) rfl (by decide)) (congrArg (Value.int .i64) (hr))
     ·intro a w2 hB hF hd
      refine flow_wanted (wanted_yes rfl rfl (hd 2 _ rfl (waits_spec rfl)) rfl) ?_
      exact flow_val (fun h=> by cases h) (run_conv rfl (hd 10 _ rfl (waits_spec rfl)) Tryz.underlying3 Tryz.underlying92) (congrArg (Value.int .u64) (hc))
     ·intro a w2 hB hF hd
      refine flow_wanted (wanted_yes rfl rfl (hd 2 _ rfl (waits_spec rfl)) rfl) ?_
      exact flow_val (fun h=> by cases h) (Go.Bas.run_shr rfl (hd 7 _ rfl (waits_spec rfl)) (hd 11 _ rfl (waits_spec rfl)) (by omega)) (congrArg (Value.int .u8) (hsh))
     ·intro a w2 hB hF hd
      refine flow_wanted (wanted_yes rfl rfl (hd 2 _ rfl (waits_spec rfl)) rfl) ?_
      exact flow_val (fun h=> by cases h) (Go.Bas.run_and rfl (hd 12 _ rfl (waits_spec rfl)) rfl) (congrArg (Value.int .u8) (hand))
     ·intro a w2 hB hF hd
      refine flow_wanted (wanted_yes rfl rfl (hd 2 _ rfl (waits_spec rfl)) rfl) ?_
      refine flow_val (fun h=> by cases h) (Go.Bas.run_eql_int rfl (hd 13 _ rfl (waits_spec rfl)) rfl) ?_
      exact congrArg Value.bool hbb.symm
     ·intro a w2 hB hF hd
      rw [if_pos (wanted_none rfl)]
      exact flow_val (fun h=> by cases h) (run_pick rfl (hd 2 _ rfl (waits_spec rfl))) ((hd 14 _ rfl (waits_spec rfl)))
     ·intro a w2 hB hF hd
      rw [if_pos (wanted_none rfl)]
      exact flow_move _ (.inr rfl) (by simp) (hd 15 _ rfl (waits_spec rfl))
    ·intro a w7 hB hF hS
     have ha:=puts_each rfl rfl hF [_,_,_,_,_,_,_,_,_,_,_,_,_,_,_,_,_] rfl ⟨hS 0 _ rfl,hS 1 _ rfl,hS 2 _ rfl,hS 3 _ rfl,hS 4 _ rfl,hS 5 _ rfl,hS 6 _ rfl,hS 7 _ rfl,hS 8 _ rfl,hS 9 _ rfl,hS 10 _ rfl,hS 11 _ rfl,hS 12 _ rfl,hS 13 _ rfl,hS 14 _ rfl,hS 15 _ rfl,hS 16 _ rfl,trivial⟩
     simp only [puts,Act.put,List.setIfInBounds_toArray,List.set_cons_succ,List.set_cons_zero] at ha
     subst ha
     clear hS hF
     replace hA7:=hA7.kept hB
     replace hA8:=hA8.kept hB
     replace hA9:=hA9.kept hB
     replace hA10:=hA10.kept hB
     replace hV:=hV.kept hB
     replace hN:=hN.kept hB
     replace hZ:=hZ.kept hB
     replace hbel:=hbel.trans (hB.mono hbel.size)
     have HBB:=Lib.hid hbb
     have HM:=Lib.hid hm
     clear hB hq hr hc hsh hand hce hpl hbb hm hm8 hm9 hBl d0 d1
     go_upto_region 8 with (fail)
     have HSW8:Hid (∀p w,p=(bb !=q)→Calls Tryz.prog 115 #[.agg (arr .i64 16 f7),.agg (arr .i64 16 f9),.bool p] w fun e w'=> e=.returned (.tuple #[.agg (arr .i64 16 (pick2 pq f7 f9)),.agg (arr .i64 16 (pick2 pq f9 f7))])∧Below w.heap.size w w'):=by
      rintro p w rfl;rw [HPQ.out];exact feSwap_any _ f7 f9 _ _ hR.out.1 hR.out.2.2.1 w
     go_wp2_with (first | (refine load_str rfl 53 _ rfl .i64 x7 16 f7 Tryz.underlying53 rfl Tryz.size53 rfl hA7 ?_) | (refine load_str rfl 53 _ rfl .i64 x9 16 f9 Tryz.underlying53 rfl Tryz.size53 rfl hA9 ?_))
     refine (HSW8.out _ _ (by first | rfl | (rw [HBB.out];cases q<;> rfl) | (cases q<;> cases bb<;> rfl))).mono ?_
     rintro e wq0 ⟨rfl,hbq⟩
     replace hA7:=hA7.kept hbq
     replace hA9:=hA9.kept hbq
     replace hA8:=hA8.kept hbq
     replace hA10:=hA10.kept hbq
     replace hV:=hV.kept hbq
     replace hN:=hN.kept hbq
     replace hZ:=hZ.kept hbq
     replace hbel:=hbel.trans (hbq.mono hbel.size)
     have s2:=hA9.setRowOther x7 (by omega) (arr .i64 16 (pick2 pq f7 f9))
     clear HSW8 hbq
     go_upto_region 9 with (first | (refine store_arr rfl 53 _ _ rfl .i64 x7 16 f7 (pick2 pq f7 f9) Tryz.size53 rfl rfl hA7 ?_) | (refine store_arr rfl 53 _ _ rfl .i64 x9 16 f9 (pick2 pq f9 f7) Tryz.size53 rfl rfl s2 ?_))
     refine wp_world (fun wq=> Arr .i64 wq x7 16 (pick2 pq f7 f9)∧Arr .i64 wq x9 16 (pick2 pq f9 f7)∧Arr .i64 wq x8 16 f8∧Arr .i64 wq x10 16 f10∧Arr .i64 wq bu 16 fu∧Arr .u8 wq bn 32 (dg 256 N)∧Arr .u8 wq (w.heap.size+2) 32 (fun _=> 0)∧Below w.heap.size w wq)
      ⟨(hA7.setRow _ _).setRowOther _ (by omega) _,s2.setRow _ _,(hA8.setRowOther _ (by omega) _).setRowOther _ (by omega) _,(hA10.setRowOther _ (by omega) _).setRowOther _ (by omega) _,(hV.setRowOther _ (by omega) _).setRowOther _ (by omega) _,(hN.setRowOther _ (by omega) _).setRowOther _ (by omega) _,(hZ.setRowOther _ (by omega) _).setRowOther _ (by omega) _,below_setRow' (below_setRow' hbel (by omega) _) (by omega) _⟩ ?_
     clear s2 hA7 hA9 hA8 hA10 hV hN hZ hbel
     rintro wq ⟨hA7,hA9,hA8,hA10,hV,hN,hZ,hbel⟩
     try simp only [Act.put,List.setIfInBounds_toArray,List.set_cons_succ,List.set_cons_zero]
     have HSW9:Hid (∀p w,p=(bb !=q)→Calls Tryz.prog 115 #[.agg (arr .i64 16 f8),.agg (arr .i64 16 f10),.bool p] w fun e w'=> e=.returned (.tuple #[.agg (arr .i64 16 (pick2 pq f8 f10)),.agg (arr .i64 16 (pick2 pq f10 f8))])∧Below w.heap.size w w'):=by
      rintro p w rfl;rw [HPQ.out];exact feSwap_any _ f8 f10 _ _ hR.out.2.1 hR.out.2.2.2 w
     go_wp2_with (first | (refine load_str rfl 53 _ rfl .i64 x8 16 f8 Tryz.underlying53 rfl Tryz.size53 rfl hA8 ?_) | (refine load_str rfl 53 _ rfl .i64 x10 16 f10 Tryz.underlying53 rfl Tryz.size53 rfl hA10 ?_))
     refine (HSW9.out _ _ (by first | rfl | (rw [HBB.out];cases q<;> rfl) | (cases q<;> cases bb<;> rfl))).mono ?_
     rintro e wp0 ⟨rfl,hbq⟩
     replace hA8:=hA8.kept hbq
     replace hA10:=hA10.kept hbq
     replace hA7:=hA7.kept hbq
     replace hA9:=hA9.kept hbq
     replace hV:=hV.kept hbq
     replace hN:=hN.kept hbq
     replace hZ:=hZ.kept hbq
     replace hbel:=hbel.trans (hbq.mono hbel.size)
     have s2:=hA10.setRowOther x8 (by omega) (arr .i64 16 (pick2 pq f8 f10))
     clear HSW9 hbq
     go_upto_region 10 with (first | (refine store_arr rfl 53 _ _ rfl .i64 x8 16 f8 (pick2 pq f8 f10) Tryz.size53 rfl rfl hA8 ?_) | (refine store_arr rfl 53 _ _ rfl .i64 x10 16 f10 (pick2 pq f10 f8) Tryz.size53 rfl rfl s2 ?_))
     refine wp_world (fun wp=> Arr .i64 wp x8 16 (pick2 pq f8 f10)∧Arr .i64 wp x10 16 (pick2 pq f10 f8)∧Arr .i64 wp x7 16 (pick2 pq f7 f9)∧Arr .i64 wp x9 16 (pick2 pq f9 f7)∧Arr .i64 wp bu 16 fu∧Arr .u8 wp bn 32 (dg 256 N)∧Arr .u8 wp (w.heap.size+2) 32 (fun _=> 0)∧Below w.heap.size w wp)
      ⟨(hA8.setRow _ _).setRowOther _ (by omega) _,s2.setRow _ _,(hA7.setRowOther _ (by omega) _).setRowOther _ (by omega) _,(hA9.setRowOther _ (by omega) _).setRowOther _ (by omega) _,(hV.setRowOther _ (by omega) _).setRowOther _ (by omega) _,(hN.setRowOther _ (by omega) _).setRowOther _ (by omega) _,(hZ.setRowOther _ (by omega) _).setRowOther _ (by omega) _,below_setRow' (below_setRow' hbel (by omega) _) (by omega) _⟩ ?_
     clear s2 hA8 hA10 hA7 hA9 hV hN hZ hbel
     rintro wp ⟨hA8,hA10,hA7,hA9,hV,hN,hZ,hbel⟩
     try simp only [Act.put,List.setIfInBounds_toArray,List.set_cons_succ,List.set_cons_zero]
     replace hR:Hid (Fe4 (pick2 pq f7 f9) (pick2 pq f8 f10) (pick2 pq f9 f7) (pick2 pq f10 f8) ((lad N UN k).flip bb)):=by have h:=hR.out.flip pq;rwa [show ((lad N UN k).flip q).flip pq=(lad N UN k).flip bb by rw [HPQ.out,Two.flip_flip]] at h
     obtain ⟨g7,hg7⟩:∃g,g=pick2 pq f7 f9:=⟨_,rfl⟩
     obtain ⟨g8,hg8⟩:∃g,g=pick2 pq f8 f10:=⟨_,rfl⟩
     obtain ⟨g9,hg9⟩:∃g,g=pick2 pq f9 f7:=⟨_,rfl⟩
     obtain ⟨g10,hg10⟩:∃g,g=pick2 pq f10 f8:=⟨_,rfl⟩
     rw [←hg7] at hA7 hR
     rw [←hg8] at hA8 hR
     rw [←hg9] at hA9 hR
     rw [←hg10] at hA10 hR
     clear hg7 hg8 hg9 hg10
     have HRU:=Lib.hid (fun w=> ldRung_any g7 g8 g9 g10 fu _ _ _ _ _ hR.out.1 hR.out.2.1 hR.out.2.2.1 hR.out.2.2.2 HFU.out w)
     unfold El at HRU
     go_wp2_with (first | (refine load_str rfl 53 _ rfl .i64 x7 16 g7 Tryz.underlying53 rfl Tryz.size53 rfl hA7 ?_) | (refine load_str rfl 53 _ rfl .i64 x8 16 g8 Tryz.underlying53 rfl Tryz.size53 rfl hA8 ?_) | (refine load_str rfl 53 _ rfl .i64 x9 16 g9 Tryz.underlying53 rfl Tryz.size53 rfl hA9 ?_) | (refine load_str rfl 53 _ rfl .i64 x10 16 g10 Tryz.underlying53 rfl Tryz.size53 rfl hA10 ?_) | (refine load_str rfl 53 _ rfl .i64 bu 16 fu Tryz.underlying53 rfl Tryz.size53 rfl hV ?_))
     refine (HRU.out _).mono ?_
     rintro e wc ⟨a,b,c,d,rfl,hF4,hbc⟩
     replace hA7:=hA7.kept hbc
     replace hA8:=hA8.kept hbc
     replace hA9:=hA9.kept hbc
     replace hA10:=hA10.kept hbc
     replace hV:=hV.kept hbc
     replace hN:=hN.kept hbc
     replace hZ:=hZ.kept hbc
     replace hbel:=hbel.trans (hbc.mono hbel.size)
     clear HRU hbc
     have s8:=hA8.setRowOther x7 (by omega) (arr .i64 16 a)
     have s9:=(hA9.setRowOther x7 (by omega) (arr .i64 16 a)).setRowOther x8 (by omega) (arr .i64 16 b)
     have s10:=((hA10.setRowOther x7 (by omega) (arr .i64 16 a)).setRowOther x8 (by omega) (arr .i64 16 b)).setRowOther x9 (by omega) (arr .i64 16 c)
     have e7:=(((hA7.setRow 16 a).setRowOther x8 (by omega) (arr .i64 16 b)).setRowOther x9 (by omega) (arr .i64 16 c)).setRowOther x10 (by omega) (arr .i64 16 d)
     have e8:=((s8.setRow 16 b).setRowOther x9 (by omega) (arr .i64 16 c)).setRowOther x10 (by omega) (arr .i64 16 d)
     have e9:=(s9.setRow 16 c).setRowOther x10 (by omega) (arr .i64 16 d)
     have e10:=s10.setRow 16 d
     have hVe:=(((hV.setRowOther x7 (by omega) (arr .i64 16 a)).setRowOther x8 (by omega) (arr .i64 16 b)).setRowOther x9 (by omega) (arr .i64 16 c)).setRowOther x10 (by omega) (arr .i64 16 d)
     have hNe:=(((hN.setRowOther x7 (by omega) (arr .i64 16 a)).setRowOther x8 (by omega) (arr .i64 16 b)).setRowOther x9 (by omega) (arr .i64 16 c)).setRowOther x10 (by omega) (arr .i64 16 d)
     have hZe:=(((hZ.setRowOther x7 (by omega) (arr .i64 16 a)).setRowOther x8 (by omega) (arr .i64 16 b)).setRowOther x9 (by omega) (arr .i64 16 c)).setRowOther x10 (by omega) (arr .i64 16 d)
     have hbe:=below_setRow' (below_setRow' (below_setRow' (below_setRow' hbel (by omega:w.heap.size≤x7) (arr .i64 16 a)) (by omega:w.heap.size≤x8) (arr .i64 16 b)) (by omega:w.heap.size≤x9) (arr .i64 16 c)) (by omega:w.heap.size≤x10) (arr .i64 16 d)
     have HA7:=Lib.hid hA7
     have S8:=Lib.hid s8
     have S9:=Lib.hid s9
     have S10:=Lib.hid s10
     have hst:lad N UN (k+1)=(lad N UN k).rung UN (N / 2 ^ m % 2):=by rw [HM.out];rfl
     have hfl:=Two.rung_flip UN (N / 2 ^ m % 2) (by omega) (lad N UN k)
     rw [←hst,←HBB.out] at hfl
     have HFL:Hid (Fe4 a b c d ((lad N UN (k+1)).flip bb)):=by rw [←hfl];exact hF4
     clear hA7 hA8 hA9 hA10 hV hN hZ hbel s8 s9 s10 hst hfl hF4 hR ei
     go_wp2_with (first | (refine store_arr rfl 53 _ _ rfl .i64 x7 16 g7 a Tryz.size53 rfl rfl HA7.out ?_) | (refine store_arr rfl 53 _ _ rfl .i64 x8 16 g8 b Tryz.size53 rfl rfl S8.out ?_) | (refine store_arr rfl 53 _ _ rfl .i64 x9 16 g9 c Tryz.size53 rfl rfl S9.out ?_) | (refine store_arr rfl 53 _ _ rfl .i64 x10 16 g10 d Tryz.size53 rfl rfl S10.out ?_))
     go_roundw
     case rel=> exact ⟨k+1,bb,a,b,c,d,by have:=HKL.out;omega,congrArg (Value.int .i64) (by have:=HKM.out;omega),rfl,HFL,⟨e7,e8,e9,e10⟩,⟨hVe,hNe,hZe⟩,hbe⟩
     case measure=> simp [intOf] <;> (have:=HKM.out;omega)
end Go.Proofs.YtdhejcaapdhhfaaGreat
namespace Go.Bas
open Go.RowKit
def ldErr (X:Int):Int:=if X=0 then 21 else 0
end Go.Bas
namespace Go.Proofs.YtdhejcaapdhhfaaGreat
open Go.RowKit Go.Bas Go.ChangeShapes
attribute [local go_sem ↓] Go.wp_at_zero Go.wp_at_succ
abbrev mulN (S U:Int):Int:=ladN (clampN S) (U % 2 ^ 255) % Pr
theorem build_z32 {a:Act} (w:World):(Instr.build 22 ((#[] :Array (Nat × Operand)).map fun (i,x)=> (i,a.eval x))).run Tryz.prog w=.ok (.agg (arr .u8 32 (dg 256 0))) w:=build_nil (a:=a) w
theorem ldPublic_any (S:Int) (w:World):
  Calls Tryz.prog 38 #[.agg (arr .u8 32 (dg 256 S))] w fun e w'=> e=.returned (.agg (arr .u8 32 (dg 256 (mulN S 9))))∧Below w.heap.size w w':=by
 have HM:=Lib.hid (fun w=> ldMul_any S 9 w)
 unfold mulN
 obtain ⟨X,hX⟩:∃X,X=ladN (clampN S) (9 % 2 ^ 255) % Pr:=⟨_,rfl⟩
 rw [←hX] at HM ⊢
 clear hX
 go_enter Tryz.func38,Tryz.ntmps38
 go_upto_region 1 with (fail)
 refine wp_world (fun w1=> Arr .u8 w1 w.heap.size 32 (dg 256 S)∧Arr .u8 w1 (w.heap.size+1) 32 (fun _=> 0)∧Below w.heap.size w w1) ⟨.alloc (Arr.newAt rfl rfl) _,Arr.newAt (by first | omega | (simp<;> omega)) (by rfl),((Below.refl _ _).alloc (Nat.le_refl _) _).alloc (by first | omega | (simp<;> omega)) _⟩ ?_
 rintro w1 ⟨hA,hZ,hbel⟩
 refine region_lasts (n:=6) (fun i=> i==3) (by kernel_rfl) (by kernel_rfl) (by kernel_rfl) (by kernel_rfl) rfl
  (fun ii vv _=> (match ii with | 0=> vv=.agg (arr .u8 32 (dg 256 S)) | 1=> vv=.agg (arr .u8 32 (dg 256 9)) | 2=> vv=.agg (arr .u8 32 (dg 256 X)) | _=> True))
  (fun w w'=> Below w.heap.size w w') (fun _ _ h=> h) (fun _ _ _ _ h _=> h)
  (fun _=> (w.heap.size+1)) (fun _=> (arr .u8 32 (fun _=> 0))) (fun _=> (arr .u8 32 (dg 256 X)))
  (by intro i j _ _ hpi hpj hne;simp only [beq_iff_eq] at hpi hpj;omega)
  (by intro i _ hpi;exact (hZ).row)
  ?_ ?_ ?_
 ·refine Each.all ?_
  refine ⟨?_,?_,?_,(fun h=> absurd h (by decide)),trivial⟩
  ·intro _ a w2 hB hF hd
   rw [if_pos (wanted_none rfl)]
   exact flow_val (fun h=> by cases h) (run_load_str rfl Tryz.underlying22 rfl Tryz.size22 (hF.same 1 rfl) (hA.below hB hA.lt)) rfl
  ·intro _ a w2 hB hF hd
   rw [if_pos (wanted_none rfl)]
   refine flow_call _ _ _ rfl Tryz.call87 _ args0 (by simp) ((ldBase_any w2).mono ?_)
   rintro e w3 ⟨rfl,hb⟩;exact ⟨_,rfl,rfl,hb⟩
  ·intro _ a w2 hB hF hd
   rw [if_pos (wanted_none rfl)]
   refine flow_call _ _ _ rfl Tryz.call86 _ (args2 (hd 0 _ rfl rfl (waits_spec rfl)) (hd 1 _ rfl rfl (waits_spec rfl))) (by simp) ((HM.out w2).mono ?_)
   rintro e w3 ⟨rfl,hb⟩;exact ⟨_,rfl,rfl,hb⟩
 ·refine Each.all ?_
  refine ⟨(fun h=> absurd h (by decide)),(fun h=> absurd h (by decide)),(fun h=> absurd h (by decide)),?_,trivial⟩
  ·intro _ a w1 w2 K hB hF hS hr hK
   exact wp_store_arr 22 _ _ rfl .u8 ((w.heap.size+1)) 32 (fun _=> 0) (dg 256 X) Tryz.size22 (hF.same 2 rfl) (hS 2 _ rfl rfl) hr hK
 ·intro a wf w3 hB hF hS hfil
  have other:∀{k:IntKind} {qb n:Nat} {f:Nat→Int},qb≠(w.heap.size+1)→Arr k wf qb n f→Arr k w3 qb n f:=fun {k qb n f} e0 hA=> hfil.arr (by intro i _ hpi;simp only [Bool.or_eq_true,beq_iff_eq] at hpi;subst hpi<;> ((try simp only []);(try dsimp only);omega)) hA
  have belowT:∀{B:Nat} {w0:World},B≤(w.heap.size+1)→Below B w0 wf→Below B w0 w3:=fun {B w0} e0 hA=> hfil.below (by intro i _ hpi;simp only [Bool.or_eq_true,beq_iff_eq] at hpi;subst hpi<;> ((try simp only []);(try dsimp only);omega)) hA
  have V3:Arr .u8 w3 ((w.heap.size+1)) 32 (dg 256 X):=hfil.at 3 (by decide) rfl
  have hszf:=hfil.size
  clear hfil
  have ha:=puts_each rfl rfl hF [_,_,_,undef] rfl ⟨hS 0 _ rfl rfl,hS 1 _ rfl rfl,hS 2 _ rfl rfl,trivial,trivial⟩
  simp only [puts,Act.put,List.setIfInBounds_toArray,List.set_cons_succ,List.set_cons_zero] at ha
  subst ha
  clear hS hF
  have hb:=belowT (by omega) (hbel.trans (hB.mono hbel.size))
  go_wp2
  exact bodyPost_ret (results_arr rfl _ _ .u8 (w.heap.size+1) 32 _ 5 rfl V3 Tryz.underlying22 Tryz.size22) rfl ⟨rfl,hb⟩
theorem mulN_zero (S U:Int):sameB 32 (dg 256 (mulN S U)) (dg 256 0)=decide (mulN S U=0):=by
 have h:=sameB_modP (ladN (clampN S) (U % 2 ^ 255)) 0
 rw [show (0:Int) % Pr=0 by decide] at h
 rw [h];unfold eqP mulN
 rw [show (0:Int) % Pr=0 by decide]
theorem ldShared_any (S U:Int) (w:World):
  Calls Tryz.prog 88 #[.agg (arr .u8 32 (dg 256 S)),.agg (arr .u8 32 (dg 256 U))] w fun e w'=> e=.returned (.tuple #[.agg (arr .u8 32 (dg 256 (mulN S U))),.int .i64 (ldErr (mulN S U))])∧Below w.heap.size w w':=by
 have HM:Hid (∀w,Calls Tryz.prog 86 #[.agg (arr .u8 32 (dg 256 S)),.agg (arr .u8 32 (dg 256 U))] w fun e w'=> e=.returned (.agg (arr .u8 32 (dg 256 (mulN S U))))∧Below w.heap.size w w'):=fun w=> ldMul_any S U w
 have HZ:=Lib.hid (mulN_zero S U)
 have HE:Hid (ldErr (mulN S U)=if mulN S U=0 then 21 else 0):=rfl
 have HB:=Lib.hid (fun (a:Act) w=> build_z32 (a:=a) w)
 obtain ⟨X,hX⟩:∃X,X=mulN S U:=⟨_,rfl⟩
 rw [←hX] at HM HZ HE ⊢
 obtain ⟨er,her⟩:∃er,er=ldErr X:=⟨_,rfl⟩
 rw [←her] at HE ⊢
 clear hX her
 go_enter Tryz.func88,Tryz.ntmps88
 go_upto_region 1 with (fail)
 refine wp_world (fun w1=> Arr .u8 w1 w.heap.size 32 (dg 256 S)∧Arr .u8 w1 (w.heap.size+1) 32 (dg 256 U)∧Arr .u8 w1 (w.heap.size+2) 32 (fun _=> 0)∧Below w.heap.size w w1) ⟨.alloc (.alloc (Arr.newAt rfl rfl) _) _,.alloc (Arr.newAt (by first | omega | (simp<;> omega)) rfl) _,Arr.newAt (by first | omega | (simp<;> omega)) (by rfl),(((Below.refl _ _).alloc (Nat.le_refl _) _).alloc (by first | omega | (simp<;> omega)) _).alloc (by first | omega | (simp<;> omega)) _⟩ ?_
 rintro w1 ⟨hA,hP,hZ,hbel⟩
 go_wp2_with (first
  | (refine load_arr rfl 22 _ rfl .u8 w.heap.size 32 (dg 256 S) 5 Tryz.underlying22 Tryz.size22 rfl hA ?_)
  | (refine load_arr rfl 22 _ rfl .u8 (w.heap.size+1) 32 (dg 256 U) 5 Tryz.underlying22 Tryz.size22 rfl hP ?_))
 refine (HM.out _).mono ?_
 rintro e w2 ⟨rfl,hb2⟩
 have hZ2:=hZ.kept hb2
 have hbel2:=hbel.trans (hb2.mono hbel.size)
 have hl2:=hZ2.lt
 clear hA hP hZ hbel hb2
 go_upto_region 2 with (refine store_arr rfl 22 _ _ rfl .u8 w2.heap.size 32 (fun _=> 0) (dg 256 X) Tryz.size22 rfl rfl (Arr.newAt rfl (by rfl)) ?_)
 refine wp_world (fun w3=> Arr .u8 w3 w2.heap.size 32 (dg 256 X)∧Arr .u8 w3 (w.heap.size+2) 32 (fun _=> 0)∧Below w.heap.size w w3)
  ⟨(Arr.newAt rfl (by rfl):Arr .u8 _ _ 32 (fun _=> 0)).setRow _ _,Arr.setRowOther (Arr.alloc hZ2 _) _ (by omega) _,below_setRow' (hbel2.alloc hbel2.size _) hbel2.size _⟩ ?_
 rintro w3 ⟨hX,hZ3,hbel3⟩
 obtain ⟨bx,hbx⟩:∃bx,bx=w2.heap.size:=⟨_,rfl⟩
 rw [←hbx] at hX hl2 ⊢
 clear hbx hZ2 hbel2
 try simp only [Act.put,List.setIfInBounds_toArray,List.set_cons_succ,List.set_cons_zero]
 by_cases h0:X=0
 case pos=>
  have h1:er=21:=by rw [HE.out,if_pos h0]
  have HQ:Hid (sameB 32 (dg 256 X) (dg 256 0)=true):=by rw [HZ.out];exact decide_eq_true h0
  have H1:=Lib.hid h1
  clear h0 h1 HE HZ
  refine region_flow (n:=15) (by kernel_rfl) (by kernel_rfl) (by kernel_rfl) rfl
   (fun ii vv _=> (match ii with | 0=> vv=.agg (arr .u8 32 (dg 256 X)) | 1=> vv=.agg (arr .u8 32 (dg 256 0)) | 2=> vv=.bool true | _=> True))
   (fun w w'=> Below w.heap.size w w') (fun _ _ h=> h) (fun _ _ _ _ h _=> h) ?_ ?_
  ·refine Each.all ?_
   refine ⟨?_,?_,?_,trivial⟩
   ·intro a w2 hB hF hd
    rw [if_pos (wanted_none rfl)]
    exact flow_val (fun h=> by cases h) (run_load_str rfl Tryz.underlying22 rfl Tryz.size22 (hF.same 6 rfl) (hX.below hB hX.lt)) rfl
   ·intro a w2 hB hF hd
    rw [if_pos (wanted_none rfl)]
    exact flow_val (fun h=> by cases h) (run_built rfl (HB.out _ _)) rfl
   ·intro a w2 hB hF hd
    rw [if_pos (wanted_none rfl)]
    exact flow_val (fun h=> by cases h) (run_eql_arr true rfl (hd 0 _ rfl (waits_spec rfl)) (hd 1 _ rfl (waits_spec rfl)) Tryz.underlying22 (by kernel_rfl) (by kernel_rfl) (by kernel_rfl) (by kernel_rfl) (by kernel_rfl) HQ.out) rfl
  ·intro a w4 hB hF hS
   have ha:=puts_each rfl rfl hF [_,_,_] rfl ⟨hS 0 _ rfl,hS 1 _ rfl,hS 2 _ rfl,trivial⟩
   simp only [puts,Act.put,List.setIfInBounds_toArray,List.set_cons_succ,List.set_cons_zero] at ha
   subst ha
   clear hS hF
   have hX4:=hX.kept hB
   have hZ4:=hZ3.kept hB
   have hb4:=hbel3.trans (hB.mono hbel3.size)
   clear hX hZ3 hbel3 hB HQ
   go_wp2_with (first
    | (refine load_arr rfl 22 _ rfl .u8 bx 32 (dg 256 X) 5 Tryz.underlying22 Tryz.size22 rfl hX4 ?_)
    | (refine store_arr rfl 22 _ _ rfl .u8 (w.heap.size+2) 32 (fun _=> 0) (dg 256 X) Tryz.size22 rfl rfl hZ4 ?_))
   exact bodyPost_ret (results_arr2 rfl _ _ .u8 (w.heap.size+2) 32 _ 5 rfl (hZ4.setRow 32 (dg 256 X)) Tryz.underlying22 Tryz.size22) rfl ⟨by rw [H1.out];rfl,below_setRow' hb4 (by omega) _⟩
 case neg=>
  have h1:er=0:=by rw [HE.out,if_neg h0]
  have HQ:Hid (sameB 32 (dg 256 X) (dg 256 0)=false):=by rw [HZ.out];exact decide_eq_false h0
  have H1:=Lib.hid h1
  clear h0 h1 HE HZ
  refine region_flow (n:=15) (by kernel_rfl) (by kernel_rfl) (by kernel_rfl) rfl
   (fun ii vv _=> (match ii with | 0=> vv=.agg (arr .u8 32 (dg 256 X)) | 1=> vv=.agg (arr .u8 32 (dg 256 0)) | 2=> vv=.bool false | _=> True))
   (fun w w'=> Below w.heap.size w w') (fun _ _ h=> h) (fun _ _ _ _ h _=> h) ?_ ?_
  ·refine Each.all ?_
   refine ⟨?_,?_,?_,trivial⟩
   ·intro a w2 hB hF hd
    rw [if_pos (wanted_none rfl)]
    exact flow_val (fun h=> by cases h) (run_load_str rfl Tryz.underlying22 rfl Tryz.size22 (hF.same 6 rfl) (hX.below hB hX.lt)) rfl
   ·intro a w2 hB hF hd
    rw [if_pos (wanted_none rfl)]
    exact flow_val (fun h=> by cases h) (run_built rfl (HB.out _ _)) rfl
   ·intro a w2 hB hF hd
    rw [if_pos (wanted_none rfl)]
    exact flow_val (fun h=> by cases h) (run_eql_arr false rfl (hd 0 _ rfl (waits_spec rfl)) (hd 1 _ rfl (waits_spec rfl)) Tryz.underlying22 (by kernel_rfl) (by kernel_rfl) (by kernel_rfl) (by kernel_rfl) (by kernel_rfl) HQ.out) rfl
  ·intro a w4 hB hF hS
   have ha:=puts_each rfl rfl hF [_,_,_] rfl ⟨hS 0 _ rfl,hS 1 _ rfl,hS 2 _ rfl,trivial⟩
   simp only [puts,Act.put,List.setIfInBounds_toArray,List.set_cons_succ,List.set_cons_zero] at ha
   subst ha
   clear hS hF
   have hX4:=hX.kept hB
   have hZ4:=hZ3.kept hB
   have hb4:=hbel3.trans (hB.mono hbel3.size)
   clear hX hZ3 hbel3 hB HQ
   go_wp2_with (first
    | (refine load_arr rfl 22 _ rfl .u8 bx 32 (dg 256 X) 5 Tryz.underlying22 Tryz.size22 rfl hX4 ?_)
    | (refine store_arr rfl 22 _ _ rfl .u8 (w.heap.size+2) 32 (fun _=> 0) (dg 256 X) Tryz.size22 rfl rfl hZ4 ?_))
   exact bodyPost_ret (results_arr2 rfl _ _ .u8 (w.heap.size+2) 32 _ 5 rfl (hZ4.setRow 32 (dg 256 X)) Tryz.underlying22 Tryz.size22) rfl ⟨by rw [H1.out];rfl,below_setRow' hb4 (by omega) _⟩
end Go.Proofs.YtdhejcaapdhhfaaGreat
