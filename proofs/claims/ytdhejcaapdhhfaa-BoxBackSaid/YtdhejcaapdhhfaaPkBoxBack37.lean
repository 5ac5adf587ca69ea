/-
  Part 37 of the texts that the proof of BoxBack rests on, one after the other. Conditions: named in each theorem.
-/
import Derived.Test.YtdhejcaapdhhfaaPkBoxBack14
import Derived.Test.YtdhejcaapdhhfaaPkBoxBack13
import Derived.Test.YtdhejcaapdhhfaaPkBoxBack2
import Derived.Test.YtdhejcaapdhhfaaPkBoxBack1
import Derived.Test.YtdhejcaapdhhfaaPkBoxBack12
import Derived.Test.YtdhejcaapdhhfaaPkBoxBack6
import Derived.Test.YtdhejcaapdhhfaaPkBoxBack3
import Derived.Test.YtdhejcaapdhhfaaPkBoxBack4
import Derived.Test.YtdhejcaapdhhfaaPkBoxBack5
import Derived.Test.YtdhejcaapdhhfaaPkBoxBack7
import Derived.Test.YtdhejcaapdhhfaaPkBoxBack8
import Derived.Test.YtdhejcaapdhhfaaPkBoxBack9
import Derived.Test.YtdhejcaapdhhfaaPkBoxBack24
import Derived.Test.YtdhejcaapdhhfaaPkBoxBack19
import Derived.Test.YtdhejcaapdhhfaaPkBoxBack16
import Derived.Test.YtdhejcaapdhhfaaPkBoxBack10
import Derived.Test.YtdhejcaapdhhfaaPkBoxBack11
import Derived.Test.YtdhejcaapdhhfaaPkBoxBack15
import Derived.Test.YtdhejcaapdhhfaaPkBoxBack18
import Derived.Test.YtdhejcaapdhhfaaPkBoxBack17
import Derived.Test.YtdhejcaapdhhfaaPkBoxBack21
import Derived.Test.YtdhejcaapdhhfaaPkBoxBack20
import Derived.Test.YtdhejcaapdhhfaaPkBoxBack22
import Derived.Test.YtdhejcaapdhhfaaPkBoxBack23
import Derived.Test.YtdhejcaapdhhfaaPkBoxBack34
import Derived.Test.YtdhejcaapdhhfaaPkBoxBack28
import Derived.Test.YtdhejcaapdhhfaaPkBoxBack27
import Derived.Test.YtdhejcaapdhhfaaPkBoxBack26
import Derived.Test.YtdhejcaapdhhfaaPkBoxBack25
import Derived.Test.YtdhejcaapdhhfaaPkBoxBack29
import Derived.Test.YtdhejcaapdhhfaaPkBoxBack30
import Derived.Test.YtdhejcaapdhhfaaPkBoxBack33
import Derived.Test.YtdhejcaapdhhfaaPkBoxBack32
import Derived.Test.YtdhejcaapdhhfaaPkBoxBack31
import Derived.Test.YtdhejcaapdhhfaaPkBoxBack36
import Derived.Test.YtdhejcaapdhhfaaPkBoxBack35
import Derived.BigFrame
import Derived.BigQuiet
import Derived.ChangeKeysEq
import Derived.ChangeOld
import Derived.Deep.Cut
import Derived.Deep.DrawnRows
import Derived.Deep.LoopGhost
import Derived.Deep.MidRow
import Derived.Deep.QuietTactic
import Derived.Deep.RegionHeld3
import Derived.Deep.RegionLaw
import Derived.Deep.WholeRow
import Derived.Great.BuildSlice
import Derived.Laws.BitsAllLaws
import Derived.Laws.BytesArg
import Derived.Laws.CopyOwn
import Derived.Laws.IdiomCopy
import Derived.Laws.IdiomStrings
import Derived.Laws.Strings
import Derived.Laws.StructEq
import Derived.Lib.BufferRead
import Derived.Lib.Hide
import Derived.LoopIn
import Derived.LoopNIn
import Derived.Maps.AppendAt
import Derived.Maps.Range
import Derived.OpenShut
import Derived.Orders
import Derived.OrdersIn
import Derived.OwnWalkIn
import Derived.ProofKit
import Derived.RangeFuncBound
import Derived.RangeFuncBox
import Derived.RangeFuncCalls
import Derived.RangeFuncFrom
import Derived.RangeFuncLeaves
import Derived.RangeFuncNested
import Derived.Shelf.Abstract
import Derived.Shelf.RegionOpen
import Derived.ShutString
import Derived.StillTailTactics
import Derived.TacticsInMore
import Derived.Test.YtdhejcaapdhhfaaArr
import Derived.Test.YtdhejcaapdhhfaaFlow
import Derived.Test.YtdhejcaapdhhfaaKit
import Derived.Test.YtdhejcaapdhhfaaOpen
import Derived.Test.YtdhejcaapdhhfaaRows
import Derived.Test.YtdhejcaapdhhfaaTxt
import Derived.WalkKit
import Derived.WalkLawsBesides
import Derived.WalkMore
import Derived.WalkSmall
import Derived.WalkSpells
set_option linter.unusedVariables false
set_option linter.unusedSimpArgs false
set_option maxRecDepth 100000
set_option maxHeartbeats 6400000
namespace Go.Bas
open Go.RowKit
def LitB (w:World) (v:Value) (T:TypeId) (n:Nat) (cs:Array Value):Prop:=∃b,v=.slice (some ⟨b,0,none⟩) n n∧w.heap[b]? =some (.cells cs T (0,0))
theorem LitB.below {w w':World} {v:Value} {T:TypeId} {n:Nat} {cs:Array Value} (h:LitB w v T n cs) (hb:Below w.heap.size w w'):LitB w' v T n cs:=by
 obtain ⟨b,e,h⟩:=h
 exact ⟨b,e,by rw [hb.block b (Array.getElem?_eq_some_iff.1 h).1];exact h⟩
theorem LitB.txt2 {w:World} {v v1 v2:Value} {T:TypeId} {n m:Nat} {f g:Nat→Int} (h:LitB w v T 2 [v1,v2].toArray) (h1:Rd .u8 w v1 n f) (h2:Rd .u8 w v2 m g):
  Txt w v 2 (catL 1 (fun _=> n) (fun _=> m)) (catG 1 (fun _=> f) (fun _=> g)):=by
 obtain ⟨b,rfl,h⟩:=h
 refine ⟨_,_,rfl,Nat.le_refl _,by decide,fun _=> ⟨b,0,rfl,(Array.getElem?_eq_some_iff.1 h).1,fun j hj=> ?_⟩⟩
 rw [Nat.zero_add,cell_of_row _ _ _ _ T (0,0) h]
 rcases (by omega:j=0∨j=1) with rfl | rfl
 ·exact ⟨v1,rfl,h1⟩
 ·exact ⟨v2,rfl,h2⟩
theorem wp_append_full {P:Program} {w:World} {o:Oper} {a:Act} {K:Act→World→Prop} {Q:Exit→Act→World→Prop}
  (s x:Operand) (t:TypeId) (hop:o.op=.call { callee:=.builtin .append,args:=#[s,x],argTypes:=#[t,t] })
  (e:TypeId) (k:IntKind) (bytes:Nat) (h1:P.underlying t=some (.slice e)) (hinfo:(P.info? e).map (fun i=> (i.zero,i.size,i.bytes))=some (some (.int k 0),1,bytes))
  (gg oo n:Nat) (f:Nat→Int) (hold:∀i,i<n→w.cell? ⟨gg,oo+i,none⟩=some (.int k (f i))) (hs:a.eval s=.slice (some ⟨gg,oo,none⟩) n n)
  (u:Value) (m:Nat) (g:Nat→Int) (hrd:Rd k w u m g) (hx:a.eval x=u) (hm:0<m) (hf:∀i,i<m→f (n+i)=g i)
  (b2:(n+m) * bytes≤140737488355328) (b3:n+m≤9223372036854775807)
  (hK:∀v' w',Rd k w' v' (n+m) f→Below w.heap.size w w'→K (a.put o.dst v') w'):
  o.wp P a w K Q:=by
 obtain ⟨i,hi,hz0,hz1,hz2⟩:=info_parts hinfo
 obtain ⟨ao,c,rfl,l1,l2,l3,l4⟩:=hrd
 obtain ⟨b,of,rfl,_,hcell⟩:=l4 hm
 have hvm:(vals k m g).length=m * i.size:=by rw [hz1];simp
 have hnews:∀j x,(vals k m g)[j]? =some x→w.cell? ((⟨b,of,none⟩:Addr).add j)=some x:=by
  intro j x hx
  have hj:j<m:=by
   have:=(List.getElem?_eq_some_iff.1 hx).1
   simpa using this
  rw [addr_add,hcell j hj,←vals_get (k:=k) (f:=g) hj]
  exact hx
 have holds:∀j x,(vals k n f)[j]? =some x→w.cell? ((⟨gg,oo,none⟩:Addr).add j)=some x:=by
  intro j x hx
  have hj:j<n:=by
   have:=(List.getElem?_eq_some_iff.1 hx).1
   simpa using this
  rw [addr_add,hold j hj,←vals_get (k:=k) (f:=f) hj]
  exact hx
 have hr:=run_append_grow (P:=P) w t o.type e i _ h1 hi hz0 ⟨gg,oo,none⟩ n n (vals k n f) (by rw [hz1];simp) holds ⟨b,of,none⟩ m c (vals k m g) hvm hnews (by omega) (by omega) (growslice_fits (by omega) (by rw [hz2];exact b2))
 have hge:=grownCap_ge w (n+m) n e
 have hcm:grownCap w (n+m) n e≤maxLen:=grownCap_le_maxLen w (n+m) n e (by unfold maxLen;omega)
 unfold maxLen at hcm
 unfold Oper.wp execOp
 simp only [hop,resolve,invoke,builtin,Sem.run_bind,Sem.run_pure,Result.andThen_ok,List.map_toArray,List.map_cons,List.map_nil,hs,hx,hr]
 refine hK _ _ ?_ (((Below.refl w.heap.size w).drew).alloc (by simp) _)
 refine (OwnAt.rd (OwnAt.whole (k:=k) (e:=e) (base:=0) (m:=n+m) (c:=grownCap w (n+m) n e) (f:=f) (Nat.zero_le _) hge (by omega) ?_ ?_))
 ·have hz:(Value.int k 0).cells=#[.int k 0] :=rfl
  simp only [Array.size_append,List.size_toArray,size_zeroCells,hz,vals_length]
  simp;omega
 ·rw [Array.toList_append,Array.toList_append,←vals_add hf]
  rw [List.take_append_of_le_length (by simp),List.take_of_length_le (by simp)]
end Go.Bas
namespace Go.Proofs.Ytdhejcaapdhhfaa
open Go.RowKit Go.Bas Go.ChangeShapes
attribute [local go_sem ↓] Go.wp_at_zero Go.wp_at_succ
def boxS:ByteArray:=⟨#[98,111,120]⟩
def boxL:Nat→Nat:=catL 1 (fun _=> 32) (fun _=> 32)
def boxG (F P:Int):Nat→Nat→Int:=catG 1 (fun _=> dg 256 F) (fun _=> dg 256 P)
def boxK (X F P:Int):Nat→Int:=tagB 32 (dg 256 X) (infN boxS.size boxL 2) (infF boxS.size (strB boxS) boxL (boxG F P) 2)
theorem boxK_b (X F P:Int):∀i,i<32→0≤boxK X F P i∧boxK X F P i<256:=fun i _=> tagB_bound _ _ _ _ i
theorem boxL_le:∀j,j<2→boxL j≤4000:=by intro j hj;rcases (by omega:j=0∨j=1) with rfl | rfl<;> decide
theorem boxG_b (F P:Int):∀j,j<2→∀i,i<boxL j→0≤boxG F P j i∧boxG F P j i<256:=by
 intro j hj i _
 rcases (by omega:j=0∨j=1) with rfl | rfl
 ·exact dg_bound (by decide) _ _
 ·exact dg_bound (by decide) _ _
theorem bxDerive (X F P:Int) (v t:Value) (w:World) (hv:Rd .u8 w v 32 (dg 256 X)) (ht:Txt w t 2 boxL (boxG F P)):
  Calls Try.prog 106 #[v,.string boxS,t] w fun e w'=> e=.returned (.tuple #[.agg (arr .u8 32 (boxK X F P)),.int .i64 0])∧Below w.heap.size w w':=
 dKey_any v 32 (dg 256 X) boxS t 2 boxL (boxG F P) w hv (by decide) (by decide) (fun i _=> dg_bound (by decide) _ _) (by decide) ht (by decide) boxL_le (boxG_b F P)
theorem build_b32 {a:Act} (w:World):(Instr.build 22 ((#[] :Array (Nat × Operand)).map fun (i,x)=> (i,a.eval x))).run Try.prog w=.ok (.agg (arr .u8 32 (fun _=> 0))) w:=Go.run_build w _ _ _ (by kernel_rfl)
theorem build_b12 {a:Act} (w:World):(Instr.build 95 ((#[] :Array (Nat × Operand)).map fun (i,x)=> (i,a.eval x))).run Try.prog w=.ok (.agg (arr .u8 12 (fun _=> 0))) w:=Go.run_build w _ _ _ (by kernel_rfl)
def bxKey (X F P:Int):Nat→Int:=if X=0 then fun _=> 0 else boxK X F P
theorem bxKey_any (S O F P:Int) (w:World):Calls Try.prog 80 #[.agg (arr .u8 32 (dg 256 S)),.agg (arr .u8 32 (dg 256 O)),.agg (arr .u8 32 (dg 256 F)),.agg (arr .u8 32 (dg 256 P))] w fun e w'=>
  e=.returned (.tuple #[.agg (arr .u8 32 (bxKey (mulN S O) F P)),.int .i64 (ldErr (mulN S O))])∧Below w.heap.size w w':=by
 have HSH:=Lib.hid (fun w=> ldShared_any S O w)
 have HP0:=Lib.hid (fun (a:Act) w=> build_b32 (a:=a) w)
 have HDR:=Lib.hid (fun w v t=> bxDerive (mulN S O) F P v t w)
 have HE:Hid (ldErr (mulN S O)=if mulN S O=0 then 21 else 0):=rfl
 have HK:Hid (bxKey (mulN S O) F P=if mulN S O=0 then (fun _=> 0) else boxK (mulN S O) F P):=rfl
 obtain ⟨X,hX⟩:∃X,X=mulN S O:=⟨_,rfl⟩
 rw [←hX] at HSH HDR HE HK ⊢
 obtain ⟨er,her⟩:∃er,er=ldErr X:=⟨_,rfl⟩
 rw [←her] at HSH HE ⊢
 obtain ⟨KK,hKK⟩:∃K,K=boxK X F P:=⟨_,rfl⟩
 rw [←hKK] at HDR HK
 obtain ⟨KR,hKR⟩:∃K,K=bxKey X F P:=⟨_,rfl⟩
 rw [←hKR] at HK ⊢
 clear hX her hKK hKR
 go_enter Try.func80,Try.ntmps80
 go_upto_region 1 with (fail)
 refine wp_world (fun w1=> Arr .u8 w1 w.heap.size 32 (dg 256 S)∧Arr .u8 w1 (w.heap.size+1) 32 (dg 256 O)∧Arr .u8 w1 (w.heap.size+2) 32 (dg 256 F)∧Arr .u8 w1 (w.heap.size+3) 32 (dg 256 P)∧Arr .u8 w1 (w.heap.size+4) 32 (fun _=> 0)∧Below w.heap.size w w1)
  ⟨.alloc (.alloc (.alloc (.alloc (Arr.newAt rfl rfl) _) _) _) _,.alloc (.alloc (.alloc (Arr.newAt (by first | omega | (simp<;> omega)) rfl) _) _) _,.alloc (.alloc (Arr.newAt (by first | omega | (simp<;> omega)) rfl) _) _,.alloc (Arr.newAt (by first | omega | (simp<;> omega)) rfl) _,Arr.newAt (by first | omega | (simp<;> omega)) (by rfl),(((((Below.refl _ _).alloc (Nat.le_refl _) _).alloc (by first | omega | (simp<;> omega)) _).alloc (by first | omega | (simp<;> omega)) _).alloc (by first | omega | (simp<;> omega)) _).alloc (by first | omega | (simp<;> omega)) _⟩ ?_
 rintro w1 ⟨h4,h5,h6,h7,h8,hbel⟩
 go_wp2_with (first | (refine load_arr rfl 22 _ rfl .u8 w.heap.size 32 (dg 256 S) 5 Try.underlying22 Try.size22 rfl h4 ?_) | (refine load_arr rfl 22 _ rfl .u8 (w.heap.size+1) 32 (dg 256 O) 5 Try.underlying22 Try.size22 rfl h5 ?_))
 refine (HSH.out _).mono ?_
 rintro e w2 ⟨rfl,hb⟩
 replace h6:=h6.kept hb
 replace h7:=h7.kept hb
 replace h8:=h8.kept hb
 replace hbel:=hbel.trans (hb.mono hbel.size)
 have hl8:=h8.lt
 clear hb h4 h5
 go_upto_region 2 with (refine store_arr rfl 22 _ _ rfl .u8 w2.heap.size 32 (fun _=> 0) (dg 256 X) Try.size22 rfl rfl (Arr.newAt rfl (by rfl)) ?_)
 refine wp_world (fun w3=> Arr .u8 w3 w2.heap.size 32 (dg 256 X)∧Below w2.heap.size w2 w3) ⟨(Arr.newAt rfl (by rfl):Arr .u8 _ _ 32 (fun _=> 0)).setRow _ _,below_setRow' ((Below.refl _ _).alloc (Nat.le_refl _) _) (Nat.le_refl _) _⟩ ?_
 rintro w3 ⟨h10,hb⟩
 replace h6:=h6.kept hb
 replace h7:=h7.kept hb
 replace h8:=h8.kept hb
 replace hbel:=hbel.trans (hb.mono hbel.size)
 obtain ⟨x10,e10⟩:∃x,x=w2.heap.size:=⟨_,rfl⟩
 rw [←e10] at h10 hl8 ⊢
 clear e10 hb
 try simp only [Act.put,List.setIfInBounds_toArray,List.set_cons_succ,List.set_cons_zero]
 by_cases hX:X=0
 case pos=>
  obtain rfl:er=21:=by rw [HE.out,if_pos hX]
  obtain rfl:KR=fun _=> 0:=by rw [HK.out,if_pos hX]
  clear hX
  go_wp2_with (first | (refine step_val rfl (run_built rfl (HP0.out _ _)) ?_) | (refine store_arr rfl 22 _ _ rfl .u8 (w.heap.size+4) 32 (fun _=> 0) (fun _=> 0) Try.size22 rfl rfl h8 ?_))
  exact bodyPost_ret (results_arr2 rfl _ _ .u8 (w.heap.size+4) 32 _ 5 rfl (h8.setRow 32 (fun _=> 0)) Try.underlying22 Try.size22) rfl ⟨rfl,below_setRow' hbel (by omega) _⟩
 case neg=>
  obtain rfl:er=0:=by rw [HE.out,if_neg hX]
  obtain rfl:KR=KK:=by rw [HK.out,if_neg hX]
  clear hX HK HE
  go_upto_region 4 with (fail)
  refine region_tail (n:=29) 7 (by decide) (by kernel_rfl) (by kernel_rfl) (by kernel_rfl) (by kernel_rfl) rfl
   (fun ii vv ww=> (match ii with | 0=> vv=.slice (some ⟨x10,0,none⟩) 32 32 | 1=> vv=.slice (some ⟨(w.heap.size+2),0,none⟩) 32 32 | 2=> vv=.slice (some ⟨(w.heap.size+3),0,none⟩) 32 32 | 4=> vv=.tuple #[.agg (arr .u8 32 (KR)),.int .i64 (0)] | 5=> vv=.agg (arr .u8 32 (KR)) | 6=> vv=.int .i64 (0) | _=> True)∧(ii=3→LitB ww vv 56 2 [.slice (some ⟨w.heap.size+2,0,none⟩) 32 32,.slice (some ⟨w.heap.size+3,0,none⟩) 32 32].toArray))
   (fun i v w w' h hE=> ⟨h.1,fun e=> LitB.below (h.2 e) hE⟩) ?_ ?_
  ·refine Each.all ?_
   refine ⟨?_,?_,?_,?_,?_,?_,?_,(fun h=> absurd h (by decide)),(fun h=> absurd h (by decide)),trivial⟩
   ·intro _ a w2 hB hF hd
    rw [if_pos (wanted_none rfl)]
    exact flow_val (fun h=> by cases h) (run_slice_arr rfl (hF.same 10 rfl) Try.underlying22 (by kernel_rfl)) ⟨rfl,fun h=> absurd h (by decide)⟩
   ·intro _ a w2 hB hF hd
    rw [if_pos (wanted_none rfl)]
    exact flow_val (fun h=> by cases h) (run_slice_arr rfl (hF.same 6 rfl) Try.underlying22 (by kernel_rfl)) ⟨rfl,fun h=> absurd h (by decide)⟩
   ·intro _ a w2 hB hF hd
    rw [if_pos (wanted_none rfl)]
    exact flow_val (fun h=> by cases h) (run_slice_arr rfl (hF.same 7 rfl) Try.underlying22 (by kernel_rfl)) ⟨rfl,fun h=> absurd h (by decide)⟩
   ·intro _ a w2 hB hF hd
    rw [if_pos (wanted_none rfl)]
    exact flow_lits 108 56 2 _ [.slice (some ⟨(w.heap.size+2),0,none⟩) 32 32,.slice (some ⟨(w.heap.size+3),0,none⟩) 32 32] rfl Try.underlying108 (by kernel_rfl) (by kernel_rfl) rfl (by decide) (by decide) (by intro v hv;simp only [List.mem_cons,List.not_mem_nil,or_false] at hv;rcases hv with rfl | rfl<;> rfl) (by simp only [List.map_toArray,List.map_cons,List.map_nil,show a.eval (Operand.tmp 23)=.slice (some ⟨(w.heap.size+2),0,none⟩) 32 32 from ((hd 1 _ rfl (waits_spec rfl)).1),show a.eval (Operand.tmp 24)=.slice (some ⟨(w.heap.size+3),0,none⟩) 32 32 from ((hd 2 _ rfl (waits_spec rfl)).1)];rfl) (by simp) ⟨trivial,fun _=> ((⟨_,rfl,heap_alloc_new _ _⟩))⟩
   ·intro _ a w2 hB hF hd
    rw [if_pos (wanted_none rfl)]
    refine flow_call _ _ _ rfl Try.call106 _ (args3 ((hd 0 _ rfl (waits_spec rfl)).1) rfl rfl) (by simp) ((HDR.out w2 _ _ ((h10.kept hB).rd (by decide)) (((hd 3 _ rfl (waits_spec rfl)).2 rfl).txt2 ((h6.kept hB).rd (by decide)) ((h7.kept hB).rd (by decide)))).mono ?_)
    rintro e w3 ⟨rfl,hb⟩;exact ⟨_,rfl,⟨rfl,fun h=> absurd h (by decide)⟩,hb⟩
   ·intro _ a w2 hB hF hd
    rw [if_pos (wanted_none rfl)]
    exact flow_val (fun h=> by cases h) (run_extract rfl ((hd 4 _ rfl (waits_spec rfl)).1) rfl) ⟨rfl,fun h=> absurd h (by decide)⟩
   ·intro _ a w2 hB hF hd
    rw [if_pos (wanted_none rfl)]
    exact flow_val (fun h=> by cases h) (run_extract rfl ((hd 4 _ rfl (waits_spec rfl)).1) rfl) ⟨rfl,fun h=> absurd h (by decide)⟩
  ·intro a w4 hB hF hS
   obtain ⟨x25,hx25⟩:∃x,x=a.tmps.getD 25 undef:=⟨_,rfl⟩
   have ha:=puts_each rfl rfl hF [_,_,_,x25,_,_,_] rfl ⟨(hS 0 _ rfl (by decide)).1,(hS 1 _ rfl (by decide)).1,(hS 2 _ rfl (by decide)).1,hx25.symm,(hS 4 _ rfl (by decide)).1,(hS 5 _ rfl (by decide)).1,(hS 6 _ rfl (by decide)).1,trivial⟩
   simp only [puts,List.take_succ_cons,List.take_zero,Act.put,List.setIfInBounds_toArray,List.set_cons_succ,List.set_cons_zero] at ha
   subst ha
   change tl _ _ _ (_::_:: []) _ _
   clear hx25
   clear hS hF
   replace h8:=h8.kept hB
   replace hbel:=hbel.trans (hB.mono hbel.size)
   refine tl_step rfl (wp_store_arr 22 _ _ rfl .u8 (w.heap.size+4) 32 (fun _=> 0) KR Try.size22 rfl rfl h8 ?_)
   refine tl_move rfl _ (.inr rfl) (tl_nil ?_)
   have h8':=h8.setRow 32 KR
   have hb':=below_setRow' hbel (show w.heap.size≤w.heap.size+4 by omega) (arr .u8 32 KR)
   clear h8 hbel hB
   simp only [Act.put,Act.eval,List.setIfInBounds_toArray,List.set_cons_succ,List.set_cons_zero]
   go_wp2
   exact bodyPost_ret (results_arr2 rfl _ _ .u8 (w.heap.size+4) 32 _ 5 rfl h8' Try.underlying22 Try.size22) rfl ⟨rfl,hb'⟩
theorem append_full {P:Program} {w:World} {ops:Array Oper} {rest:List Oper} {o:Oper} {a:Act} {Q:Exit→Act→World→Prop} (hg:o.guard=none)
  (s x:Operand) (t:TypeId) (hop:o.op=.call { callee:=.builtin .append,args:=#[s,x],argTypes:=#[t,t] })
  (e:TypeId) (k:IntKind) (bytes:Nat) (h1:P.underlying t=some (.slice e)) (hinfo:(P.info? e).map (fun i=> (i.zero,i.size,i.bytes))=some (some (.int k 0),1,bytes))
  (gg oo n:Nat) (f:Nat→Int) (hold:∀i,i<n→w.cell? ⟨gg,oo+i,none⟩=some (.int k (f i))) (hs:a.eval s=.slice (some ⟨gg,oo,none⟩) n n)
  (u:Value) (m:Nat) (g:Nat→Int) (hrd:Rd k w u m g) (hx:a.eval x=u) (hm:0<m) (hf:∀i,i<m→f (n+i)=g i)
  (b2:(n+m) * bytes≤140737488355328) (b3:n+m≤9223372036854775807)
  (hK:∀v' w',Rd k w' v' (n+m) f→Below w.heap.size w w'→wpList P ops Q rest (a.put o.dst v') w'):wpList P ops Q (o::rest) a w:=
 wpList_plain hg fun _ hK'=> wp_append_full s x t hop e k bytes h1 hinfo gg oo n f hold hs u m g hrd hx hm hf b2 b3 fun v' w' q1 q2=> hK' _ _ (hK v' w' q1 q2)
def nn0:Nat→Int:=fun _=> 0
def wrapF (S P:Int) (n:Nat) (f:Nat→Int):Nat→Int:=catF 32 (dg 256 (mulN S 9)) (sealF (boxK (mulN S P) (mulN S 9) P) nn0 0 nn0 n f)
def WrR (S P:Int) (n:Nat) (f:Nat→Int) (w:World) (u:Value) (er:Int):Prop:=(mulN S P=0→u=.slice none 0 0∧er=21)∧(mulN S P≠0→er=0∧Rd .u8 w u (32+(n+16)) (wrapF S P n f))
theorem bxWrap_any (S P:Int) (v:Value) (n:Nat) (f:Nat→Int) (w:World) (hv:Rd .u8 w v n f) (hn:n≤300):
  Calls Try.prog 46 #[.agg (arr .u8 32 (dg 256 S)),.agg (arr .u8 32 (dg 256 P)),v] w fun e w'=> ∃u er,e=.returned (.tuple #[u,.int .i64 er])∧WrR S P n f w' u er∧Below w.heap.size w w':=by
 have HPU:=Lib.hid (fun w=> ldPublic_any S w)
 have HKY:=Lib.hid (fun w=> bxKey_any S P (mulN S 9) P w)
 have HSE:Hid (∀w u,Rd .u8 w u n f→Calls Try.prog 81 #[.agg (arr .u8 32 (boxK (mulN S P) (mulN S 9) P)),.agg (arr .u8 12 (fun _=> 0)),.slice none 0 0,u] w fun e w'=> ∃v,e=.returned (.tuple #[v,.int .i64 0])∧Go.Bas.Own .u8 5 w.heap.size w' v (n+16) (sealF (boxK (mulN S P) (mulN S 9) P) nn0 0 nn0 n f)∧Below w.heap.size w w'):=fun w u h=>
  aSeal_any _ nn0 (boxK_b _ _ _) (fun i _=> by unfold nn0;decide) _ u 0 n nn0 f w (Rd.nil _ _ _) h (fun i hi=> absurd hi (by omega)) (by decide) (by omega)
 have HB0:=Lib.hid (fun (a:Act) w=> build_b12 (a:=a) w)
 have HWF:Hid (wrapF S P n f=catF 32 (dg 256 (mulN S 9)) (sealF (boxK (mulN S P) (mulN S 9) P) nn0 0 nn0 n f)):=rfl
 have HT0:=Lib.hid hv
 have HNN:=Lib.hid hn
 have HRP:Hid (∀w u er,((mulN S P=0→u=.slice none 0 0∧er=21)∧(mulN S P≠0→er=0∧Rd .u8 w u (32+(n+16)) (wrapF S P n f)))→WrR S P n f w u er):=fun w u er h=> h
 obtain ⟨ta,tc,ev,_⟩:=id hv
 subst ev
 by_cases hX:mulN S P=0
 case pos=>
  have hk1:bxKey (mulN S P) (mulN S 9) P=fun _=> 0:=by unfold bxKey;rw [if_pos hX]
  have hk2:ldErr (mulN S P)=21:=by unfold ldErr;rw [if_pos hX]
  rw [hk1,hk2] at HKY
  have HR:=Lib.hid (fun w=> HRP.out w (.slice none 0 0) 21 ⟨fun _=> ⟨rfl,rfl⟩,fun h=> absurd hX h⟩)
  obtain ⟨FI,hFI⟩:∃x,x=mulN S 9:=⟨_,rfl⟩
  rw [←hFI] at HPU HKY
  clear hX hk1 hk2 HSE hFI hv hn HWF HRP
  go_enter Try.func46,Try.ntmps46
  go_upto_region 1 with (fail)
  refine wp_world (fun w1=> Arr .u8 w1 w.heap.size 32 (dg 256 S)∧Arr .u8 w1 (w.heap.size+1) 32 (dg 256 P)∧Below w.heap.size w w1) ⟨.alloc (Arr.newAt rfl rfl) _,Arr.newAt (by first | omega | (simp<;> omega)) rfl,((Below.refl _ _).alloc (Nat.le_refl _) _).alloc (by first | omega | (simp<;> omega)) _⟩ ?_
  rintro w1 ⟨h3,h4,hbel⟩
  go_wp2_with (refine load_arr rfl 22 _ rfl .u8 w.heap.size 32 (dg 256 S) 5 Try.underlying22 Try.size22 rfl h3 ?_)
  refine (HPU.out _).mono ?_
  rintro e w2 ⟨rfl,hb⟩
  replace h3:=h3.kept hb
  replace h4:=h4.kept hb
  replace hbel:=hbel.trans (hb.mono hbel.size)
  have hl4:=h4.lt
  clear hb
  go_upto_region 2 with (refine store_arr rfl 22 _ _ rfl .u8 w2.heap.size 32 (fun _=> 0) (dg 256 FI) Try.size22 rfl rfl (Arr.newAt rfl (by rfl)) ?_)
  refine wp_world (fun w3=> Arr .u8 w3 w2.heap.size 32 (dg 256 FI)∧Below w2.heap.size w2 w3) ⟨(Arr.newAt rfl (by rfl):Arr .u8 _ _ 32 (fun _=> 0)).setRow _ _,below_setRow' ((Below.refl _ _).alloc (Nat.le_refl _) _) (Nat.le_refl _) _⟩ ?_
  rintro w3 ⟨h8,hb⟩
  replace h3:=h3.kept hb
  replace h4:=h4.kept hb
  replace hbel:=hbel.trans (hb.mono hbel.size)
  obtain ⟨x8,e8⟩:∃x,x=w2.heap.size:=⟨_,rfl⟩
  rw [←e8] at h8 hl4 ⊢
  clear e8 hb
  try simp only [Act.put,List.setIfInBounds_toArray,List.set_cons_succ,List.set_cons_zero]
  go_wp2_with (first
   | (refine load_arr rfl 22 _ rfl .u8 w.heap.size 32 (dg 256 S) 5 Try.underlying22 Try.size22 rfl h3 ?_)
   | (refine load_arr rfl 22 _ rfl .u8 (w.heap.size+1) 32 (dg 256 P) 5 Try.underlying22 Try.size22 rfl h4 ?_)
   | (refine load_arr rfl 22 _ rfl .u8 x8 32 (dg 256 FI) 5 Try.underlying22 Try.size22 rfl h8 ?_))
  refine (HKY.out _).mono ?_
  rintro e w4 ⟨rfl,hb⟩
  replace hbel:=hbel.trans (hb.mono hbel.size)
  clear hb h3 h4 h8
  go_upto_region 3 with (refine store_arr rfl 22 _ _ rfl .u8 w4.heap.size 32 (fun _=> 0) (fun _=> 0) Try.size22 rfl rfl (Arr.newAt rfl (by rfl)) ?_)
  refine wp_world (fun w5=> Below w.heap.size w w5) (below_setRow' (hbel.alloc hbel.size _) hbel.size _) ?_
  clear hbel
  rintro w5 hbel
  try simp only [Act.put,List.setIfInBounds_toArray,List.set_cons_succ,List.set_cons_zero]
  go_wp2
  go_ret2
  exact ⟨_,_,rfl,HR.out _,hbel⟩
 case neg=>
  have hk1:bxKey (mulN S P) (mulN S 9) P=boxK (mulN S P) (mulN S 9) P:=by unfold bxKey;rw [if_neg hX]
  have hk2:ldErr (mulN S P)=0:=by unfold ldErr;rw [if_neg hX]
  rw [hk1,hk2] at HKY
  have HR:=Lib.hid (fun w u h=> HRP.out w u 0 ⟨fun h=> absurd h hX,fun _=> ⟨rfl,h⟩⟩)
  obtain ⟨K,hK⟩:∃x,x=boxK (mulN S P) (mulN S 9) P:=⟨_,rfl⟩
  rw [←hK] at HKY HSE HWF
  obtain ⟨FI,hFI⟩:∃x,x=mulN S 9:=⟨_,rfl⟩
  rw [←hFI] at HPU HKY HWF
  obtain ⟨SF,hSF⟩:∃x,x=sealF K nn0 0 nn0 n f:=⟨_,rfl⟩
  rw [←hSF] at HSE HWF
  obtain ⟨WF,hWF⟩:∃x,x=wrapF S P n f:=⟨_,rfl⟩
  rw [←hWF] at HR HWF
  clear hX hk1 hk2 hFI hK hSF hWF hv HRP
  have h28:¬ (1048528:Int)<(n:Int):=by omega
  clear hn
  go_enter Try.func46,Try.ntmps46
  go_upto_region 1 with (fail)
  refine wp_world (fun w1=> Arr .u8 w1 w.heap.size 32 (dg 256 S)∧Arr .u8 w1 (w.heap.size+1) 32 (dg 256 P)∧Below w.heap.size w w1) ⟨.alloc (Arr.newAt rfl rfl) _,Arr.newAt (by first | omega | (simp<;> omega)) rfl,((Below.refl _ _).alloc (Nat.le_refl _) _).alloc (by first | omega | (simp<;> omega)) _⟩ ?_
  rintro w1 ⟨h3,h4,hbel⟩
  go_wp2_with (refine load_arr rfl 22 _ rfl .u8 w.heap.size 32 (dg 256 S) 5 Try.underlying22 Try.size22 rfl h3 ?_)
  refine (HPU.out _).mono ?_
  rintro e w2 ⟨rfl,hb⟩
  replace h3:=h3.kept hb
  replace h4:=h4.kept hb
  replace hbel:=hbel.trans (hb.mono hbel.size)
  have hl4:=h4.lt
  clear hb
  go_upto_region 2 with (refine store_arr rfl 22 _ _ rfl .u8 w2.heap.size 32 (fun _=> 0) (dg 256 FI) Try.size22 rfl rfl (Arr.newAt rfl (by rfl)) ?_)
  refine wp_world (fun w3=> Arr .u8 w3 w2.heap.size 32 (dg 256 FI)∧Below w2.heap.size w2 w3) ⟨(Arr.newAt rfl (by rfl):Arr .u8 _ _ 32 (fun _=> 0)).setRow _ _,below_setRow' ((Below.refl _ _).alloc (Nat.le_refl _) _) (Nat.le_refl _) _⟩ ?_
  rintro w3 ⟨h8,hb⟩
  replace h3:=h3.kept hb
  replace h4:=h4.kept hb
  replace hbel:=hbel.trans (hb.mono hbel.size)
  obtain ⟨x8,e8⟩:∃x,x=w2.heap.size:=⟨_,rfl⟩
  rw [←e8] at h8 hl4 ⊢
  clear e8 hb
  try simp only [Act.put,List.setIfInBounds_toArray,List.set_cons_succ,List.set_cons_zero]
  go_wp2_with (first
   | (refine load_arr rfl 22 _ rfl .u8 w.heap.size 32 (dg 256 S) 5 Try.underlying22 Try.size22 rfl h3 ?_)
   | (refine load_arr rfl 22 _ rfl .u8 (w.heap.size+1) 32 (dg 256 P) 5 Try.underlying22 Try.size22 rfl h4 ?_)
   | (refine load_arr rfl 22 _ rfl .u8 x8 32 (dg 256 FI) 5 Try.underlying22 Try.size22 rfl h8 ?_))
  refine (HKY.out _).mono ?_
  rintro e w4 ⟨rfl,hb⟩
  replace h8:=h8.kept hb
  replace hbel:=hbel.trans (hb.mono hbel.size)
  have hl8:=h8.lt
  clear hb h3 h4
  go_upto_region 3 with (refine store_arr rfl 22 _ _ rfl .u8 w4.heap.size 32 (fun _=> 0) K Try.size22 rfl rfl (Arr.newAt rfl (by rfl)) ?_)
  refine wp_world (fun w5=> Arr .u8 w5 w4.heap.size 32 K∧Below w4.heap.size w4 w5) ⟨(Arr.newAt rfl (by rfl):Arr .u8 _ _ 32 (fun _=> 0)).setRow _ _,below_setRow' ((Below.refl _ _).alloc (Nat.le_refl _) _) (Nat.le_refl _) _⟩ ?_
  rintro w5 ⟨h9,hb⟩
  replace h8:=h8.kept hb
  replace hbel:=hbel.trans (hb.mono hbel.size)
  obtain ⟨x9,e9⟩:∃x,x=w4.heap.size:=⟨_,rfl⟩
  rw [←e9] at h9 hl8 ⊢
  clear e9 hb
  try simp only [Act.put,List.setIfInBounds_toArray,List.set_cons_succ,List.set_cons_zero]
  go_wp2_with (first
   | (refine load_arr rfl 22 _ rfl .u8 x9 32 K 5 Try.underlying22 Try.size22 rfl h9 ?_)
   | (refine step_val rfl (run_built rfl (HB0.out _ _)) ?_))
  refine (HSE.out _ _ (HT0.out.below hbel)).mono ?_
  rintro e w6 ⟨u,rfl,hu,hb⟩
  have HU:=Lib.hid hu.rd
  replace h8:=h8.kept hb
  replace hbel:=hbel.trans (hb.mono hbel.size)
  have hlo:∀i,i<32→WF i=dg 256 FI i:=fun i hi=> by rw [HWF.out];unfold catF;rw [if_pos hi]
  have hhi:∀i,i<n+16→WF (32+i)=SF i:=fun i _=> by rw [HWF.out];unfold catF;rw [if_neg (by omega),show 32+i - 32=i by omega]
  have HC8:Hid (∀i,i<32→w6.cell? ⟨x8,0+i,none⟩=some (.int .u8 (WF i))):=fun i hi=> by rw [hlo i hi,Nat.zero_add];exact h8.cell i hi
  have HHI:=Lib.hid hhi
  have hnn:=HNN.out
  clear hb hu h9 hl8 hlo hhi
  go_wp2_with (at_builtin;refine append_full rfl _ _ 56 rfl 5 .u8 1 Try.underlying56 Try.info5 x8 0 32 WF HC8.out rfl u (n+16) SF HU.out rfl (by omega) HHI.out (by omega) (by omega) ?_;intro v' w7 hr hb7)
  have HRR:=Lib.hid (HR.out _ _ hr)
  have hb8:=hbel.trans (hb7.mono hbel.size)
  clear hr hb7 h8 hbel
  go_wp2
  go_ret2
  exact ⟨_,_,rfl,HRR.out,hb8⟩
def unwF (f2:Nat→Int):Int:=sm 256 f2 32
def unwX (T:Int) (f2:Nat→Int):Int:=mulN T (unwF f2)
def unwK (T:Int) (f2:Nat→Int):Nat→Int:=boxK (unwX T f2) (unwF f2) (mulN T 9)
def unwOk (T:Int) (n:Nat) (f2:Nat→Int):Bool:=opensB (unwK T f2) nn0 0 nn0 n (fun i=> f2 (32+i))
def unwH (T:Int) (f2:Nat→Int):Nat→Int:=hidB (unwK T f2) nn0 1 (fun i=> f2 (32+i))
def UnR (T:Int) (n:Nat) (f2:Nat→Int) (w:World) (u:Value) (er:Int):Prop:=(unwX T f2=0→u=.slice none 0 0∧er=21)∧(unwX T f2≠0→(unwOk T n f2=false→u=.slice none 0 0∧er=20)∧(unwOk T n f2=true→er=0∧Rd .u8 w u n (unwH T f2)))
theorem bxUnwrap_short (T:Int) (v:Value) (n:Nat) (f:Nat→Int) (w:World) (hv:Rd .u8 w v n f) (hn:n<48):
  Calls Try.prog 48 #[.agg (arr .u8 32 (dg 256 T)),v] w fun e w'=> e=.returned (.tuple #[.slice none 0 0,.int .i64 10])∧Below w.heap.size w w':=by
 obtain ⟨ta,tc,ev,_⟩:=id hv
 subst ev
 have h48:(n:Int)<48:=by omega
 clear hv hn
 go_enter Try.func48,Try.ntmps48
 go_wp2
 go_ret2
 exact ⟨rfl,(Below.refl _ _).alloc (Nat.le_refl _) _⟩
theorem bxUnwrap_any (T:Int) (v:Value) (n N:Nat) (hN:N=n+48) (f:Nat→Int) (w:World) (hv:Rd .u8 w v N f) (hn:n≤400) (hf:∀i,i<N→0≤f i∧f i<256):
  Calls Try.prog 48 #[.agg (arr .u8 32 (dg 256 T)),v] w fun e w'=> ∃u er,e=.returned (.tuple #[u,.int .i64 er])∧UnR T n f w' u er∧Below w.heap.size w w':=by
 have HPU:=Lib.hid (fun w=> ldPublic_any T w)
 have HKY:Hid (∀w,Calls Try.prog 80 #[.agg (arr .u8 32 (dg 256 T)),.agg (arr .u8 32 (dg 256 (unwF f))),.agg (arr .u8 32 (dg 256 (unwF f))),.agg (arr .u8 32 (dg 256 (mulN T 9)))] w fun e w'=> e=.returned (.tuple #[.agg (arr .u8 32 (bxKey (unwX T f) (unwF f) (mulN T 9))),.int .i64 (ldErr (unwX T f))])∧Below w.heap.size w w'):=fun w=> bxKey_any T (unwF f) (unwF f) (mulN T 9) w
 have HOP:Hid (∀w u,Rd .u8 w u (n+16) (fun i=> f (32+i))→Calls Try.prog 84 #[.agg (arr .u8 32 (unwK T f)),.agg (arr .u8 12 (fun _=> 0)),.slice none 0 0,u] w fun e w'=> ∃v,e=.returned v∧OpR (unwOk T n f) w' v n (unwH T f)∧Below w.heap.size w w'):=fun w u h=>
  aOpen_any _ nn0 (boxK_b _ _ _) (fun i _=> by unfold nn0;decide) _ u 0 n nn0 _ w (Rd.nil _ _ _) h (fun i hi=> absurd hi (by omega)) (fun i hi=> hf (32+i) (by omega)) (by decide) (by omega)
 have HB0:=Lib.hid (fun (a:Act) w=> build_b12 (a:=a) w)
 have HFQ:Hid (arr .u8 32 f=arr .u8 32 (dg 256 (unwF f))):=arr_congr fun i hi=> (dg_sm (by decide) (fun i hi=> hf i (by omega)) i hi).symm
 have HRP:Hid (∀w u er,((unwX T f=0→u=.slice none 0 0∧er=21)∧(unwX T f≠0→(unwOk T n f=false→u=.slice none 0 0∧er=20)∧(unwOk T n f=true→er=0∧Rd .u8 w u n (unwH T f))))→UnR T n f w u er):=fun w u er h=> h
 have HV0:=Lib.hid hv
 obtain ⟨ta,tc,ev,hc1,hc2,_,_⟩:=id hv
 subst ev
 have G1:=Lib.hid (Rd.head (P:=Try.prog) Try.underlying56 Try.info5 ta N tc 32 (by omega) hc1)
 obtain ⟨a2,g1,g2,g3⟩:=Rd.cut (P:=Try.prog) Try.underlying56 Try.info5 ta N tc 32 N (by omega) (Nat.le_refl _) hc1
 have G2:=Lib.hid g2
 have HRS:Hid (∀w,Rd .u8 w (.slice ta N tc) N f→Rd .u8 w (.slice a2 (N - 32) (tc - 32)) (n+16) (fun i=> f (32+i))):=fun w h=> by have h2:=(g3 w f h).2;rwa [show N - 32=n+16 by omega] at h2 ⊢
 obtain ⟨b1,o1,q1,l1,c1⟩:=(G1.out.2 _ _ hv).formAt (by decide)
 subst q1
 have HC1:=Lib.hid c1
 have h48:¬ (N:Int)<48:=by omega
 have hbig:¬ (1048576:Int)<(N:Int):=by omega
 have HKE:Hid (bxKey (unwX T f) (unwF f) (mulN T 9)=if unwX T f=0 then (fun _=> 0) else unwK T f):=rfl
 have HKE2:Hid (ldErr (unwX T f)=if unwX T f=0 then 21 else 0):=rfl
 obtain ⟨KR,hKR⟩:∃x,x=bxKey (unwX T f) (unwF f) (mulN T 9):=⟨_,rfl⟩
 obtain ⟨er,her⟩:∃x,x=ldErr (unwX T f):=⟨_,rfl⟩
 rw [←hKR] at HKY HKE
 rw [←her] at HKY HKE2
 obtain ⟨ok,hok⟩:∃x,x=unwOk T n f:=⟨_,rfl⟩
 rw [←hok] at HOP HRP
 obtain ⟨H,hH⟩:∃x,x=unwH T f:=⟨_,rfl⟩
 rw [←hH] at HOP HRP
 obtain ⟨K,hK⟩:∃x,x=unwK T f:=⟨_,rfl⟩
 rw [←hK] at HOP HKE
 obtain ⟨X,hX⟩:∃x,x=unwX T f:=⟨_,rfl⟩
 rw [←hX] at HKE HKE2 HRP
 obtain ⟨FI,hFI⟩:∃x,x=unwF f:=⟨_,rfl⟩
 rw [←hFI] at HKY HFQ
 obtain ⟨PT,hPT⟩:∃x,x=mulN T 9:=⟨_,rfl⟩
 rw [←hPT] at HPU HKY
 clear hN hKR her hok hH hK hX hFI hPT g1 g2 g3 c1 hv hf hc1 hc2 hn
 go_enter Try.func48,Try.ntmps48
 go_upto_region 1 with (fail)
 refine wp_world (fun w1=> Arr .u8 w1 w.heap.size 32 (dg 256 T)∧Below w.heap.size w w1) ⟨Arr.newAt rfl rfl,(Below.refl _ _).alloc (Nat.le_refl _) _⟩ ?_
 rintro w1 ⟨h2,hbel⟩
 have l1':b1<w1.heap.size:=Nat.lt_of_lt_of_le l1 hbel.size
 have HC1':Hid (∀i,i<32→w1.cell? ⟨b1,o1+i,none⟩=some (.int .u8 (f i))):=fun i hi=> (hbel.cell (p:=⟨b1,o1+i,none⟩) l1).trans (HC1.out i hi)
 clear HC1 l1
 go_upto_region 5 with (fail)
 refine region_vars (n:=40) (by kernel_rfl) (by kernel_rfl) (by kernel_rfl) rfl
  (isAl [(5,4)]) (putOf [(5,4)]) (fun _=> arr .u8 32 (fun _=> 0)) (fun _=> (arr .u8 32 (dg 256 FI))) (fun _=> 22) (fun _=> 6)
  (fun ii vv _=> (match ii with | 0=> vv=.slice (some ⟨b1,o1,none⟩) N tc | 1=> vv=.slice (some ⟨b1,o1,none⟩) 32 tc | 2=> vv=.pointer (some ⟨b1,o1,none⟩) | 3=> vv=.agg (arr .u8 32 (dg 256 FI)) | _=> True)) (fun _ _=> True) (fun _ _ _=> trivial) (fun _ _ _ _ _ _ _=> trivial) (fun _ _ _ _ h _=> h)
  (vs_al rfl) (vs_inj rfl) ?_ ?_ ?_ ?_
 ·refine Each.all ?_
  refine ⟨?_,?_,?_,?_,(fun h=> by cases h),(fun _ h=> by cases h),trivial⟩
  ·intro _ _ a w2 hB hF hd
   rw [if_pos (wanted_none rfl)]
   exact flow_move _ (.inl rfl) (by simp) (hF.same 1 rfl)
  ·intro _ _ a w2 hB hF hd
   rw [if_pos (wanted_none rfl)]
   exact flow_val (fun h=> by cases h) (run_slice_part rfl (hd 0 _ rfl rfl rfl (waits_spec rfl)) (by simp only [Option.map_some,Option.map_none];exact G1.out.1 _)) rfl
  ·intro _ _ a w2 hB hF hd
   rw [if_pos (wanted_none rfl)]
   exact flow_val (fun h=> by cases h) (run_to_array rfl (hd 1 _ rfl rfl rfl (waits_spec rfl)) Try.underlying22 (by decide)) rfl
  ·intro _ _ a w2 hB hF hd
   rw [if_pos (wanted_none rfl)]
   exact flow_val (fun h=> by cases h) (run_load_part rfl (hd 2 _ rfl rfl rfl (waits_spec rfl)) Try.underlying22 Try.size22 (fun i hi=> (hB.cell (p:=⟨b1,o1+i,none⟩) l1').trans (HC1'.out i hi))) (congrArg Value.agg HFQ.out)
 ·refine Each.all ?_
  refine ⟨(fun h=> by cases h),(fun h=> by cases h),(fun h=> by cases h),(fun h=> by cases h),?_,(fun h=> by cases h),trivial⟩
  ·exact fun _=> ⟨rfl,rfl,fun a w2 K h=> flow_alloc rfl rfl Try.zeroValue22 (by simp) h⟩
 ·refine Each.all ?_
  refine ⟨(fun _ h=> by cases h),(fun _ h=> by cases h),(fun _ h=> by cases h),(fun _ h=> by cases h),(fun _ h=> by cases h),?_,trivial⟩
  ·intro p hp
   obtain rfl:4=p:=Option.some.inj hp
   exact ⟨rfl,rfl,⟨_,rfl⟩,waits_spec rfl,fun a w2 b K hB hF hd hx hb h=> flow_put rfl rfl Try.size22 hx (hd 3 _ rfl rfl rfl (waits_spec rfl)) hb h⟩
 ·intro a w2 blk hB hF hS hv hfin hdis
  obtain ⟨v4,v4l,v4u⟩:=hv 4 _ rfl rfl
  have ha:=puts_each rfl rfl hF [_,_,_,_,_,undef] rfl ⟨hS 0 _ rfl rfl rfl,hS 1 _ rfl rfl rfl,hS 2 _ rfl rfl rfl,hS 3 _ rfl rfl rfl,v4,trivial,trivial⟩
  have f4:=hfin 5 _ 4 rfl rfl
  simp only [puts,Act.put,List.setIfInBounds_toArray,List.set_cons_succ,List.set_cons_zero] at ha
  subst ha
  have V4:Arr .u8 w2 (blk 4) 32 (dg 256 FI):=⟨_,f4⟩
  clear hS hv hfin hdis hF v4 f4
  replace h2:=h2.kept hB
  replace hbel:=hbel.trans (hB.mono hbel.size)
  obtain ⟨x6,e6⟩:∃x,x=blk 4:=⟨_,rfl⟩
  rw [←e6] at V4 ⊢
  have h6:=V4
  clear e6 hB V4 v4l v4u l1' HC1'
  go_upto_region 6 with (fail)
  refine region_vars (n:=40) (by kernel_rfl) (by kernel_rfl) (by kernel_rfl) rfl
   (isAl [(10,9)]) (putOf [(10,9)]) (fun _=> arr .u8 32 (fun _=> 0)) (fun _=> (arr .u8 32 (KR))) (fun _=> 22) (fun _=> 7)
   (fun ii vv _=> (match ii with | 0 | 3=> vv=.agg (arr .u8 32 (dg 256 T)) | 1 | 2=> vv=.agg (arr .u8 32 (dg 256 FI)) | 4=> vv=.agg (arr .u8 32 (dg 256 PT)) | 5 | 6=> vv=.tuple #[.agg (arr .u8 32 (KR)),.int .i64 (er)] | 7=> vv=.agg (arr .u8 32 (KR)) | 8 | 11=> vv=.int .i64 (er) | _=> True)) (fun _ _=> True) (fun _ _ _=> trivial) (fun _ _ _ _ _ _ _=> trivial) (fun _ _ _ _ h _=> h)
   (vs_al rfl) (vs_inj rfl) ?_ ?_ ?_ ?_
  ·refine Each.all ?_
   refine ⟨?_,?_,?_,?_,?_,?_,?_,?_,?_,(fun h=> by cases h),(fun _ h=> by cases h),?_,trivial⟩
   ·intro _ _ a w2 hB hF hd
    rw [if_pos (wanted_none rfl)]
    exact flow_val (fun h=> by cases h) (run_load_str rfl Try.underlying22 rfl Try.size22 (hF.same 2 rfl) (h2.below hB h2.lt)) rfl
   ·intro _ _ a w2 hB hF hd
    rw [if_pos (wanted_none rfl)]
    exact flow_val (fun h=> by cases h) (run_load_str rfl Try.underlying22 rfl Try.size22 (hF.same 6 rfl) (h6.below hB h6.lt)) rfl
   ·intro _ _ a w2 hB hF hd
    rw [if_pos (wanted_none rfl)]
    exact flow_val (fun h=> by cases h) (run_load_str rfl Try.underlying22 rfl Try.size22 (hF.same 6 rfl) (h6.below hB h6.lt)) rfl
   ·intro _ _ a w2 hB hF hd
    rw [if_pos (wanted_none rfl)]
    exact flow_val (fun h=> by cases h) (run_load_str rfl Try.underlying22 rfl Try.size22 (hF.same 2 rfl) (h2.below hB h2.lt)) rfl
   ·intro _ _ a w2 hB hF hd
    rw [if_pos (wanted_none rfl)]
    refine flow_call _ _ _ rfl Try.call47 _ (args1 (hd 3 _ rfl rfl rfl (waits_spec rfl))) (by simp) ((HPU.out w2).mono ?_)
    rintro e w3 ⟨rfl,hb⟩;exact ⟨_,rfl,rfl,hb⟩
   ·intro _ _ a w2 hB hF hd
    rw [if_pos (wanted_none rfl)]
    refine flow_call _ _ _ rfl Try.call80 _ (args4 (hd 0 _ rfl rfl rfl (waits_spec rfl)) (hd 1 _ rfl rfl rfl (waits_spec rfl)) (hd 2 _ rfl rfl rfl (waits_spec rfl)) (hd 4 _ rfl rfl rfl (waits_spec rfl))) (by simp) ((HKY.out w2).mono ?_)
    rintro e w3 ⟨rfl,hb⟩;exact ⟨_,rfl,rfl,hb⟩
   ·intro _ _ a w2 hB hF hd
    rw [if_pos (wanted_none rfl)]
    exact flow_move _ (.inl rfl) (by simp) (hd 5 _ rfl rfl rfl (waits_spec rfl))
   ·intro _ _ a w2 hB hF hd
    rw [if_pos (wanted_none rfl)]
    exact flow_val (fun h=> by cases h) (run_extract rfl (hd 6 _ rfl rfl rfl (waits_spec rfl)) rfl) rfl
   ·intro _ _ a w2 hB hF hd
    rw [if_pos (wanted_none rfl)]
    exact flow_val (fun h=> by cases h) (run_extract rfl (hd 6 _ rfl rfl rfl (waits_spec rfl)) rfl) rfl
   ·intro _ _ a w2 hB hF hd
    rw [if_pos (wanted_none rfl)]
    exact flow_move _ (.inr rfl) (by simp) (hd 8 _ rfl rfl rfl (waits_spec rfl))
  ·refine Each.all ?_
   refine ⟨(fun h=> by cases h),(fun h=> by cases h),(fun h=> by cases h),(fun h=> by cases h),(fun h=> by cases h),(fun h=> by cases h),(fun h=> by cases h),(fun h=> by cases h),(fun h=> by cases h),?_,(fun h=> by cases h),(fun h=> by cases h),trivial⟩
   ·exact fun _=> ⟨rfl,rfl,fun a w2 K h=> flow_alloc rfl rfl Try.zeroValue22 (by simp) h⟩
  ·refine Each.all ?_
   refine ⟨(fun _ h=> by cases h),(fun _ h=> by cases h),(fun _ h=> by cases h),(fun _ h=> by cases h),(fun _ h=> by cases h),(fun _ h=> by cases h),(fun _ h=> by cases h),(fun _ h=> by cases h),(fun _ h=> by cases h),(fun _ h=> by cases h),?_,(fun _ h=> by cases h),trivial⟩
   ·intro p hp
    obtain rfl:9=p:=Option.some.inj hp
    exact ⟨rfl,rfl,⟨_,rfl⟩,waits_spec rfl,fun a w2 b K hB hF hd hx hb h=> flow_put rfl rfl Try.size22 hx (hd 7 _ rfl rfl rfl (waits_spec rfl)) hb h⟩
  ·intro a w3 blk hB hF hS hv hfin hdis
   obtain ⟨v9,v9l,v9u⟩:=hv 9 _ rfl rfl
   have ha:=puts_each rfl rfl hF [_,_,_,_,_,_,_,_,_,_,undef,_] rfl ⟨hS 0 _ rfl rfl rfl,hS 1 _ rfl rfl rfl,hS 2 _ rfl rfl rfl,hS 3 _ rfl rfl rfl,hS 4 _ rfl rfl rfl,hS 5 _ rfl rfl rfl,hS 6 _ rfl rfl rfl,hS 7 _ rfl rfl rfl,hS 8 _ rfl rfl rfl,v9,trivial,hS 11 _ rfl rfl rfl,trivial⟩
   have f9:=hfin 10 _ 9 rfl rfl
   simp only [puts,Act.put,List.setIfInBounds_toArray,List.set_cons_succ,List.set_cons_zero] at ha
   subst ha
   have V9:Arr .u8 w3 (blk 9) 32 (KR):=⟨_,f9⟩
   clear hS hv hfin hdis hF v9 f9
   replace hbel:=hbel.trans (hB.mono hbel.size)
   obtain ⟨x7,e7⟩:∃x,x=blk 9:=⟨_,rfl⟩
   rw [←e7] at V9 ⊢
   have h7:=V9
   clear e7 hB V9 v9l v9u h2 h6
   by_cases hX:X=0
   case pos=>
    obtain rfl:er=21:=by rw [HKE2.out,if_pos hX]
    have HR:=Lib.hid (HRP.out w3 (.slice none 0 0) 21 ⟨fun _=> ⟨rfl,rfl⟩,fun h=> absurd hX h⟩)
    clear hX HKE HKE2 HRP
    go_wp2
    go_ret2
    exact ⟨_,_,rfl,HR.out,hbel⟩
   case neg=>
    obtain rfl:er=0:=by rw [HKE2.out,if_neg hX]
    obtain rfl:KR=K:=by rw [HKE.out,if_neg hX]
    have HR1:Hid (ok=false→∀w,UnR T n f w (.slice none 0 0) 20):=fun ho w=> HRP.out w _ _ ⟨fun h=> absurd h hX,fun _=> ⟨fun _=> ⟨rfl,rfl⟩,fun h=> (by rw [ho] at h;cases h)⟩⟩
    have HR2:Hid (ok=true→∀w u,Rd .u8 w u n H→UnR T n f w u 0):=fun ho w u hu=> HRP.out w _ _ ⟨fun h=> absurd h hX,fun _=> ⟨fun h=> (by rw [ho] at h;cases h),fun _=> ⟨rfl,hu⟩⟩⟩
    clear hX HKE HKE2 HRP
    go_upto_region 9 with (fail)
    cases ok
    case false=>
     have HO2:Hid (∀w u,Rd .u8 w u (n+16) (fun i=> f (32+i))→Calls Try.prog 84 #[.agg (arr .u8 32 KR),.agg (arr .u8 12 (fun _=> 0)),.slice none 0 0,u] w fun e w'=> e=.returned (.tuple #[.slice none 0 0,.int .i64 20])∧Below w.heap.size w w'):=fun w u h=> by
      refine (HOP.out w u h).mono ?_
      rintro e w' ⟨v,rfl,ho,hb⟩
      rw [ho.2 rfl]
      exact ⟨rfl,hb⟩
     refine region_flow (n:=40) (by kernel_rfl) (by kernel_rfl) (by kernel_rfl) rfl
      (fun ii vv _=> (match ii with | 0=> vv=.agg (arr .u8 32 (KR)) | 1=> vv=.agg (arr .u8 12 (fun _=> 0)) | 2=> vv=.slice (some ⟨b1,o1,none⟩) N tc | 3=> vv=.slice a2 (N - 32) (tc - 32) | 4=> vv=.tuple #[.slice none 0 0,.int .i64 (20)] | 5 | 7=> vv=.slice none 0 0 | 6 | 8=> vv=.int .i64 (20) | _=> True))
      (fun w w'=> Below w.heap.size w w') (fun _ _ h=> h) (fun _ _ _ _ h _=> h) ?_ ?_
     ·refine Each.all ?_
      refine ⟨?_,?_,?_,?_,?_,?_,?_,?_,?_,trivial⟩
      ·intro a w2 hB hF hd
       rw [if_pos (wanted_none rfl)]
       exact flow_val (fun h=> by cases h) (run_load_str rfl Try.underlying22 rfl Try.size22 (hF.same 7 rfl) (h7.below hB h7.lt)) rfl
      ·intro a w2 hB hF hd
       rw [if_pos (wanted_none rfl)]
       exact flow_val (fun h=> by cases h) (run_built rfl (HB0.out _ _)) rfl
      ·intro a w2 hB hF hd
       rw [if_pos (wanted_none rfl)]
       exact flow_move _ (.inl rfl) (by simp) (hF.same 1 rfl)
      ·intro a w2 hB hF hd
       rw [if_pos (wanted_none rfl)]
       exact flow_val (fun h=> by cases h) (run_slice_part rfl (hd 2 _ rfl (waits_spec rfl)) (by simp only [Option.map_some,Option.map_none];exact G2.out _)) rfl
      ·intro a w2 hB hF hd
       rw [if_pos (wanted_none rfl)]
       refine flow_call _ _ _ rfl Try.call84 _ (args4 (hd 0 _ rfl (waits_spec rfl)) (hd 1 _ rfl (waits_spec rfl)) rfl (hd 3 _ rfl (waits_spec rfl))) (by simp) ((HO2.out w2 _ (HRS.out _ ((HV0.out.below hbel).below hB))).mono ?_)
       rintro e w3 ⟨rfl,hb⟩;exact ⟨_,rfl,rfl,hb⟩
      ·intro a w2 hB hF hd
       rw [if_pos (wanted_none rfl)]
       exact flow_val (fun h=> by cases h) (run_extract rfl (hd 4 _ rfl (waits_spec rfl)) rfl) rfl
      ·intro a w2 hB hF hd
       rw [if_pos (wanted_none rfl)]
       exact flow_val (fun h=> by cases h) (run_extract rfl (hd 4 _ rfl (waits_spec rfl)) rfl) rfl
      ·intro a w2 hB hF hd
       rw [if_pos (wanted_none rfl)]
       exact flow_move _ (.inr rfl) (by simp) (hd 5 _ rfl (waits_spec rfl))
      ·intro a w2 hB hF hd
       rw [if_pos (wanted_none rfl)]
       exact flow_move _ (.inr rfl) (by simp) (hd 6 _ rfl (waits_spec rfl))
     ·intro a w4 hB hF hS
      have ha:=puts_each rfl rfl hF [_,_,_,_,_,_,_,_,_] rfl ⟨hS 0 _ rfl,hS 1 _ rfl,hS 2 _ rfl,hS 3 _ rfl,hS 4 _ rfl,hS 5 _ rfl,hS 6 _ rfl,hS 7 _ rfl,hS 8 _ rfl,trivial⟩
      simp only [puts,Act.put,List.setIfInBounds_toArray,List.set_cons_succ,List.set_cons_zero] at ha
      subst ha
      clear hS hF
      have hb4:=hbel.trans (hB.mono hbel.size)
      go_wp2
      go_ret2
      exact ⟨_,_,rfl,HR1.out (by trivial) _,hb4⟩
    case true=>
     have HO2:Hid (∀w u,Rd .u8 w u (n+16) (fun i=> f (32+i))→Calls Try.prog 84 #[.agg (arr .u8 32 KR),.agg (arr .u8 12 (fun _=> 0)),.slice none 0 0,u] w fun e w'=> ∃v,e=.returned v∧TupR w' v n H∧Below w.heap.size w w'):=fun w u h=> by
      refine (HOP.out w u h).mono ?_
      rintro e w' ⟨v,rfl,ho,hb⟩
      exact ⟨v,rfl,ho.1 rfl,hb⟩
     refine region_flow (n:=40) (by kernel_rfl) (by kernel_rfl) (by kernel_rfl) rfl
      (fun ii vv ww=> (match ii with | 0=> vv=.agg (arr .u8 32 (KR)) | 1=> vv=.agg (arr .u8 12 (fun _=> 0)) | 2=> vv=.slice (some ⟨b1,o1,none⟩) N tc | 3=> vv=.slice a2 (N - 32) (tc - 32) | 6 | 8=> vv=.int .i64 (0) | _=> True)∧(ii=4→TupR ww vv n (H))∧(ii=5→Rd .u8 ww vv n (H))∧(ii=7→Rd .u8 ww vv n (H)))
      (fun w w'=> Below w.heap.size w w') (fun _ _ h=> h) (fun i v w w' h hE=> ⟨h.1,fun e=> TupR.below (h.2.1 e) hE,fun e=> Rd.below (h.2.2.1 e) hE,fun e=> Rd.below (h.2.2.2 e) hE⟩) ?_ ?_
     ·refine Each.all ?_
      refine ⟨?_,?_,?_,?_,?_,?_,?_,?_,?_,trivial⟩
      ·intro a w2 hB hF hd
       rw [if_pos (wanted_none rfl)]
       exact flow_val (fun h=> by cases h) (run_load_str rfl Try.underlying22 rfl Try.size22 (hF.same 7 rfl) (h7.below hB h7.lt)) ⟨rfl,fun h=> absurd h (by decide),fun h=> absurd h (by decide),fun h=> absurd h (by decide)⟩
      ·intro a w2 hB hF hd
       rw [if_pos (wanted_none rfl)]
       exact flow_val (fun h=> by cases h) (run_built rfl (HB0.out _ _)) ⟨rfl,fun h=> absurd h (by decide),fun h=> absurd h (by decide),fun h=> absurd h (by decide)⟩
      ·intro a w2 hB hF hd
       rw [if_pos (wanted_none rfl)]
       exact flow_move _ (.inl rfl) (by simp) ⟨(hF.same 1 rfl),fun h=> absurd h (by decide),fun h=> absurd h (by decide),fun h=> absurd h (by decide)⟩
      ·intro a w2 hB hF hd
       rw [if_pos (wanted_none rfl)]
       exact flow_val (fun h=> by cases h) (run_slice_part rfl ((hd 2 _ rfl (waits_spec rfl)).1) (by simp only [Option.map_some,Option.map_none];exact G2.out _)) ⟨rfl,fun h=> absurd h (by decide),fun h=> absurd h (by decide),fun h=> absurd h (by decide)⟩
      ·intro a w2 hB hF hd
       rw [if_pos (wanted_none rfl)]
       refine flow_call _ _ _ rfl Try.call84 _ (args4 ((hd 0 _ rfl (waits_spec rfl)).1) ((hd 1 _ rfl (waits_spec rfl)).1) rfl ((hd 3 _ rfl (waits_spec rfl)).1)) (by simp) ((HO2.out w2 _ (HRS.out _ ((HV0.out.below hbel).below hB))).mono ?_)
       rintro e w3 ⟨u,rfl,hr,hb⟩;exact ⟨u,rfl,⟨trivial,fun _=> hr,fun h=> absurd h (by decide),fun h=> absurd h (by decide)⟩,hb⟩
      ·intro a w2 hB hF hd
       rw [if_pos (wanted_none rfl)]
       obtain ⟨u_,eu_,hu_⟩:=((hd 4 _ rfl (waits_spec rfl)).2.1 rfl)
       exact flow_val (fun h=> by cases h) (run_extract rfl eu_ rfl) ⟨trivial,fun h=> absurd h (by decide),fun _=> (hu_),fun h=> absurd h (by decide)⟩
      ·intro a w2 hB hF hd
       rw [if_pos (wanted_none rfl)]
       obtain ⟨u_,eu_,hu_⟩:=((hd 4 _ rfl (waits_spec rfl)).2.1 rfl)
       exact flow_val (fun h=> by cases h) (run_extract rfl eu_ rfl) ⟨rfl,fun h=> absurd h (by decide),fun h=> absurd h (by decide),fun h=> absurd h (by decide)⟩
      ·intro a w2 hB hF hd
       rw [if_pos (wanted_none rfl)]
       exact flow_move _ (.inr rfl) (by simp) ⟨trivial,fun h=> absurd h (by decide),fun h=> absurd h (by decide),fun _=> ((hd 5 _ rfl (waits_spec rfl)).2.2.1 rfl)⟩
      ·intro a w2 hB hF hd
       rw [if_pos (wanted_none rfl)]
       exact flow_move _ (.inr rfl) (by simp) ⟨((hd 6 _ rfl (waits_spec rfl)).1),fun h=> absurd h (by decide),fun h=> absurd h (by decide),fun h=> absurd h (by decide)⟩
     ·intro a w4 hB hF hS
      obtain ⟨x37,hx37⟩:∃x,x=a.tmps.getD 37 undef:=⟨_,rfl⟩
      have P37:TupR w4 x37 n (H):=by rw [hx37];exact (hS 4 _ rfl).2.1 rfl
      obtain ⟨x38,hx38⟩:∃x,x=a.tmps.getD 38 undef:=⟨_,rfl⟩
      have P38:Rd .u8 w4 x38 n (H):=by rw [hx38];exact (hS 5 _ rfl).2.2.1 rfl
      obtain ⟨x4,hx4⟩:∃x,x=a.tmps.getD 4 undef:=⟨_,rfl⟩
      have P4:Rd .u8 w4 x4 n (H):=by rw [hx4];exact (hS 7 _ rfl).2.2.2 rfl
      have ha:=puts_each rfl rfl hF [_,_,_,_,x37,x38,_,x4,_] rfl ⟨(hS 0 _ rfl).1,(hS 1 _ rfl).1,(hS 2 _ rfl).1,(hS 3 _ rfl).1,hx37.symm,hx38.symm,(hS 6 _ rfl).1,hx4.symm,(hS 8 _ rfl).1,trivial⟩
      simp only [puts,Act.put,List.setIfInBounds_toArray,List.set_cons_succ,List.set_cons_zero] at ha
      subst ha
      clear hx37 hx38 hx4
      clear hS hF
      have hb4:=hbel.trans (hB.mono hbel.size)
      have HR:=Lib.hid (HR2.out (by trivial) _ _ P4)
      clear P4 P37 P38
      go_wp2
      go_ret2
      exact ⟨_,_,rfl,HR.out,hb4⟩
theorem bxSize_any (n:Int) (h0: -9223372036854775808≤n) (h1:n≤9223372036854775807) (w:World):Calls Try.prog 79 #[.int .i64 n] w fun e w'=> e=.returned (.int .i64 (if 0≤n∧n≤1048528 then n+48 else 0))∧Below w.heap.size w w':=by
 by_cases hc:0≤n∧n≤1048528
 ·rw [if_pos hc]
  have q1:¬ n<0:=by omega
  have q2:¬ 1048528<n:=by omega
  have q3:IntKind.i64.wrap (n+48)=n+48:=wrap_i64_id (by omega) (by omega)
  clear hc h0 h1
  go_enter Try.func79,Try.ntmps79
  go_wp2
  go_ret
  exact ⟨rfl,Below.refl _ _⟩
 ·rw [if_neg hc]
  by_cases q1:n<0
  ·clear hc h0 h1
   go_enter Try.func79,Try.ntmps79
   go_wp2
   go_ret
   exact ⟨rfl,Below.refl _ _⟩
  ·have q2:1048528<n:=by omega
   clear hc h0 h1
   go_enter Try.func79,Try.ntmps79
   go_wp2
   go_ret
   exact ⟨rfl,Below.refl _ _⟩
end Go.Proofs.Ytdhejcaapdhhfaa
namespace Go.Bas
open Go.RowKit
theorem flow_make {P:Program} {w:World} {o:Oper} {a:Act} {S:Value→World→Prop} {Q:Exit→Act→World→Prop} (l c:Operand) (t:TypeId) (hop:o.op=Op.makeSlice t l c) (e:TypeId) (k:IntKind) (bytes:Nat)
  (h1:P.underlying t=some (.slice e)) (hinfo:(P.info? e).map (fun i=> (i.zero,i.size,i.bytes))=some (some (.int k 0),1,bytes))
  (kl kc:IntKind) (n:Nat) (hl:a.eval l=.int kl (n:Int)) (hc:a.eval c=.int kc (n:Int)) (b2:bytes * n≤281474976710656) (b3:n≤9223372036854775807) (hd:o.dst≠none)
  (hS:∀w',Rd k w' (.slice (some ⟨w.heap.size,0,none⟩) n n) n (fun _=> 0)→S (.slice (some ⟨w.heap.size,0,none⟩) n n) w'):
  o.wp P a w (fun a' w'=> ∃v,a'=a.put o.dst v∧(o.dst=none→v=undef)∧S v w'∧Below w.heap.size w w') Q:=by
 obtain ⟨i,hi,hz0,hz1,hz2⟩:=info_parts hinfo
 obtain ⟨w',hrun,r1,r2⟩:=run_make_full (P:=P) w 0 t e i (.int k 0) 1 h1 hi hz0 hz1 kl kc n (by rw [hz2];exact b2) (by unfold maxLen;omega) (Nat.zero_le _)
 unfold Oper.wp
 simp only [execOp,hop,hl,hc,hrun,Sem.run_bind,Result.andThen_ok,Sem.run_pure]
 refine ⟨_,rfl,fun h=> absurd h hd,hS w' ?_,below_grown0 (Below.refl _ _) r2 (Nat.le_refl _)⟩
 have ho:Own k e 0 w' (.slice (some ⟨w.heap.size,0,none⟩) n n) n (fun _=> 0):=by
  unfold Own
  simpa [toList_madeCells_one,Value.cells,vals_const] using r1
 exact ho.rd
end Go.Bas
namespace Go.Proofs.Ytdhejcaapdhhfaa
open Go.RowKit Go.Bas Go.ChangeShapes
attribute [local go_sem ↓] Go.wp_at_zero Go.wp_at_succ
end Go.Proofs.Ytdhejcaapdhhfaa
namespace Go.Proofs.Ytdhejcaapdhhfaa
open Go.RowKit Go.Bas Go.ChangeShapes
attribute [local go_sem ↓] Go.wp_at_zero Go.wp_at_succ
theorem build_one32 {a:Act} (w:World):(Instr.build 22 ((#[(0,Operand.const (.int .u8 1))] :Array (Nat × Operand)).map fun (i,x)=> (i,a.eval x))).run Try.prog w=.ok (.agg (arr .u8 32 (dg 256 1))) w:=by
 simp only [List.map_toArray,List.map_cons,List.map_nil,Act.eval]
 rw [Go.run_build w _ _ (arr .u8 32 (dg 256 1)) (by kernel_rfl)]
theorem build_two32 {a:Act} (w:World):(Instr.build 22 ((#[(0,Operand.const (.int .u8 2))] :Array (Nat × Operand)).map fun (i,x)=> (i,a.eval x))).run Try.prog w=.ok (.agg (arr .u8 32 (dg 256 2))) w:=by
 simp only [List.map_toArray,List.map_cons,List.map_nil,Act.eval]
 rw [Go.run_build w _ _ (arr .u8 32 (dg 256 2)) (by kernel_rfl)]
theorem bxAwake_any (w:World):Calls Try.prog 45 #[] w fun e w'=> e=.returned (.bool true)∧Below w.heap.size w w':=by
 have HPU:Hid (∀w,Calls Try.prog 47 #[.agg (arr .u8 32 (dg 256 2))] w fun e w'=> e=.returned (.agg (arr .u8 32 (dg 256 (box2:Int))))∧Below w.heap.size w w'):=fun w=> by rw [←mul_two];exact ldPublic_any 2 w
 have HWR:Hid (∀w v,Rd .u8 w v 5 (fun _=> 0)→Calls Try.prog 46 #[.agg (arr .u8 32 (dg 256 1)),.agg (arr .u8 32 (dg 256 (box2:Int))),v] w fun e w'=> ∃v,e=.returned v∧TupR w' v 53 (wrapF 1 (box2:Int) 5 (fun _=> 0))∧Below w.heap.size w w'):=fun w v hv=> by
  refine (bxWrap_any 1 (box2:Int) v 5 _ w hv (by decide)).mono ?_
  rintro e w' ⟨u,er,rfl,hr,hb⟩
  obtain ⟨rfl,hu⟩:=hr.2 mul_one_two
  exact ⟨_,rfl,⟨u,rfl,hu⟩,hb⟩
 have HSZ:Hid (∀w,Calls Try.prog 79 #[.int .i64 5] w fun e w'=> e=.returned (.int .i64 53)∧Below w.heap.size w w'):=fun w=> bxSize_any 5 (by decide) (by decide) w
 have HB1:=Lib.hid (fun (a:Act) w=> build_one32 (a:=a) w)
 have HB2:=Lib.hid (fun (a:Act) w=> build_two32 (a:=a) w)
 obtain ⟨B2,hB2⟩:∃x,x=(box2:Int):=⟨_,rfl⟩
 rw [←hB2] at HPU HWR
 obtain ⟨WF,hWF⟩:∃x,x=wrapF 1 B2 5 (fun _=> 0):=⟨_,rfl⟩
 rw [←hWF] at HWR
 clear hB2 hWF
 go_enter Try.func45,Try.ntmps45
 go_upto_region 1 with (fail)
 refine region_flow (n:=22) (by kernel_rfl) (by kernel_rfl) (by kernel_rfl) rfl
  (fun ii vv ww=> (match ii with | 0=> vv=.agg (arr .u8 32 (dg 256 1)) | 1=> vv=.agg (arr .u8 32 (dg 256 2)) | 2=> vv=.agg (arr .u8 32 (dg 256 B2)) | 7 | 9=> vv=.int .i64 (0) | _=> True)∧(ii=3→Rd .u8 ww vv 5 (fun _=> 0))∧(ii=4→TupR ww vv 53 (WF))∧(ii=5→TupR ww vv 53 (WF))∧(ii=6→Rd .u8 ww vv 53 (WF))∧(ii=8→Rd .u8 ww vv 53 (WF)))
  (fun w w'=> Below w.heap.size w w') (fun _ _ h=> h) (fun i v w w' h hE=> ⟨h.1,fun e=> Rd.below (h.2.1 e) hE,fun e=> TupR.below (h.2.2.1 e) hE,fun e=> TupR.below (h.2.2.2.1 e) hE,fun e=> Rd.below (h.2.2.2.2.1 e) hE,fun e=> Rd.below (h.2.2.2.2.2 e) hE⟩) ?_ ?_
 ·refine Each.all ?_
  refine ⟨?_,?_,?_,?_,?_,?_,?_,?_,?_,?_,trivial⟩
  ·intro a w2 hB hF hd
   rw [if_pos (wanted_none rfl)]
   exact flow_val (fun h=> by cases h) (run_built rfl (HB1.out _ _)) ⟨rfl,fun h=> absurd h (by decide),fun h=> absurd h (by decide),fun h=> absurd h (by decide),fun h=> absurd h (by decide),fun h=> absurd h (by decide)⟩
  ·intro a w2 hB hF hd
   rw [if_pos (wanted_none rfl)]
   exact flow_val (fun h=> by cases h) (run_built rfl (HB2.out _ _)) ⟨rfl,fun h=> absurd h (by decide),fun h=> absurd h (by decide),fun h=> absurd h (by decide),fun h=> absurd h (by decide),fun h=> absurd h (by decide)⟩
  ·intro a w2 hB hF hd
   rw [if_pos (wanted_none rfl)]
   refine flow_call _ _ _ rfl Try.call47 _ (args1 ((hd 1 _ rfl (waits_spec rfl)).1)) (by simp) ((HPU.out w2).mono ?_)
   rintro e w3 ⟨rfl,hb⟩;exact ⟨_,rfl,⟨rfl,fun h=> absurd h (by decide),fun h=> absurd h (by decide),fun h=> absurd h (by decide),fun h=> absurd h (by decide),fun h=> absurd h (by decide)⟩,hb⟩
  ·intro a w2 hB hF hd
   rw [if_pos (wanted_none rfl)]
   refine flow_make _ _ 56 rfl 5 .u8 1 Try.underlying56 Try.info5 .i64 .i64 5 rfl rfl (by decide) (by decide) (by simp) ?_
   intro w_ h_
   exact ⟨trivial,fun _=> (h_),fun h=> absurd h (by decide),fun h=> absurd h (by decide),fun h=> absurd h (by decide),fun h=> absurd h (by decide)⟩
  ·intro a w2 hB hF hd
   rw [if_pos (wanted_none rfl)]
   refine flow_call _ _ _ rfl Try.call46 _ (args3 ((hd 0 _ rfl (waits_spec rfl)).1) ((hd 2 _ rfl (waits_spec rfl)).1) rfl) (by simp) ((HWR.out w2 _ ((hd 3 _ rfl (waits_spec rfl)).2.1 rfl)).mono ?_)
   rintro e w3 ⟨u,rfl,hr,hb⟩;exact ⟨u,rfl,⟨trivial,fun h=> absurd h (by decide),fun _=> hr,fun h=> absurd h (by decide),fun h=> absurd h (by decide),fun h=> absurd h (by decide)⟩,hb⟩
  ·intro a w2 hB hF hd
   rw [if_pos (wanted_none rfl)]
   exact flow_move _ (.inl rfl) (by simp) ⟨trivial,fun h=> absurd h (by decide),fun h=> absurd h (by decide),fun _=> ((hd 4 _ rfl (waits_spec rfl)).2.2.1 rfl),fun h=> absurd h (by decide),fun h=> absurd h (by decide)⟩
  ·intro a w2 hB hF hd
   rw [if_pos (wanted_none rfl)]
   obtain ⟨u_,eu_,hu_⟩:=((hd 5 _ rfl (waits_spec rfl)).2.2.2.1 rfl)
   exact flow_val (fun h=> by cases h) (run_extract rfl eu_ rfl) ⟨trivial,fun h=> absurd h (by decide),fun h=> absurd h (by decide),fun h=> absurd h (by decide),fun _=> (hu_),fun h=> absurd h (by decide)⟩
  ·intro a w2 hB hF hd
   rw [if_pos (wanted_none rfl)]
   obtain ⟨u_,eu_,hu_⟩:=((hd 5 _ rfl (waits_spec rfl)).2.2.2.1 rfl)
   exact flow_val (fun h=> by cases h) (run_extract rfl eu_ rfl) ⟨rfl,fun h=> absurd h (by decide),fun h=> absurd h (by decide),fun h=> absurd h (by decide),fun h=> absurd h (by decide),fun h=> absurd h (by decide)⟩
  ·intro a w2 hB hF hd
   rw [if_pos (wanted_none rfl)]
   exact flow_move _ (.inr rfl) (by simp) ⟨trivial,fun h=> absurd h (by decide),fun h=> absurd h (by decide),fun h=> absurd h (by decide),fun h=> absurd h (by decide),fun _=> ((hd 6 _ rfl (waits_spec rfl)).2.2.2.2.1 rfl)⟩
  ·intro a w2 hB hF hd
   rw [if_pos (wanted_none rfl)]
   exact flow_move _ (.inr rfl) (by simp) ⟨((hd 7 _ rfl (waits_spec rfl)).1),fun h=> absurd h (by decide),fun h=> absurd h (by decide),fun h=> absurd h (by decide),fun h=> absurd h (by decide),fun h=> absurd h (by decide)⟩
 ·intro a w2 hB hF hS
  obtain ⟨x7,hx7⟩:∃x,x=a.tmps.getD 7 undef:=⟨_,rfl⟩
  have P7:Rd .u8 w2 x7 5 (fun _=> 0):=by rw [hx7];exact (hS 3 _ rfl).2.1 rfl
  obtain ⟨x8,hx8⟩:∃x,x=a.tmps.getD 8 undef:=⟨_,rfl⟩
  have P8:TupR w2 x8 53 (WF):=by rw [hx8];exact (hS 4 _ rfl).2.2.1 rfl
  obtain ⟨x3,hx3⟩:∃x,x=a.tmps.getD 3 undef:=⟨_,rfl⟩
  have P3:TupR w2 x3 53 (WF):=by rw [hx3];exact (hS 5 _ rfl).2.2.2.1 rfl
  obtain ⟨x9,hx9⟩:∃x,x=a.tmps.getD 9 undef:=⟨_,rfl⟩
  have P9:Rd .u8 w2 x9 53 (WF):=by rw [hx9];exact (hS 6 _ rfl).2.2.2.2.1 rfl
  obtain ⟨x1,hx1⟩:∃x,x=a.tmps.getD 1 undef:=⟨_,rfl⟩
  have P1:Rd .u8 w2 x1 53 (WF):=by rw [hx1];exact (hS 8 _ rfl).2.2.2.2.2 rfl
  have ha:=puts_each rfl rfl hF [_,_,_,x7,x8,x3,x9,_,x1,_] rfl ⟨(hS 0 _ rfl).1,(hS 1 _ rfl).1,(hS 2 _ rfl).1,hx7.symm,hx8.symm,hx3.symm,hx9.symm,(hS 7 _ rfl).1,hx1.symm,(hS 9 _ rfl).1,trivial⟩
  simp only [puts,Act.put,List.setIfInBounds_toArray,List.set_cons_succ,List.set_cons_zero] at ha
  subst ha
  clear hx7 hx8 hx3 hx9 hx1
  clear hS hF
  obtain ⟨ta,tc,ev,_⟩:=id P1
  subst ev
  clear P1 P9 P8 P3 P7
  go_wp2_with fail
  refine (HSZ.out _).mono ?_
  rintro e w3 ⟨rfl,hb⟩
  replace hB:=hB.trans (hb.mono hB.size)
  clear hb
  go_wp2
  go_ret
  exact ⟨rfl,hB⟩
end Go.Proofs.Ytdhejcaapdhhfaa
namespace Go.Proofs.Ytdhejcaapdhhfaa
open Go.RowKit Go.Bas Go.ChangeShapes
attribute [local go_sem ↓] Go.wp_at_zero Go.wp_at_succ
theorem mulN_lt (S U:Int):0≤mulN S U∧mulN S U<256 ^ 32:=by
 have h0:=Int.emod_nonneg (ladN (clampN S) (U % 2 ^ 255)) (show Pr≠0 by decide)
 have h1:=Int.emod_lt_of_pos (ladN (clampN S) (U % 2 ^ 255)) Pr_pos
 have h2:Pr≤256 ^ 32:=by decide
 exact ⟨h0,Int.lt_of_lt_of_le h1 h2⟩
theorem unwF_wrap (S P:Int) (n:Nat) (f:Nat→Int):unwF (wrapF S P n f)=mulN S 9:=by
 have h:sm 256 (wrapF S P n f) 32=sm 256 (dg 256 (mulN S 9)) 32:=sm_congr fun i hi=> catF_lo hi
 unfold unwF
 rw [h,sm_dg (by decide),Int.emod_eq_of_lt (mulN_lt S 9).1 (mulN_lt S 9).2]
theorem wrapF_b (S P:Int) (n:Nat) (f:Nat→Int) (i:Nat):0≤wrapF S P n f i∧wrapF S P n f i<256:=by
 unfold wrapF catF
 split
 ·exact dg_bound (by decide) _ _
 ·exact sealF_bound _ _ _ _ _ _ _
theorem wrap_hi (S P:Int) (n:Nat) (f:Nat→Int):(fun i=> wrapF S P n f (32+i))=sealF (boxK (mulN S P) (mulN S 9) P) nn0 0 nn0 n f:=funext fun _=> catF_hi
theorem meets9 (S T:Int):mulN T (mulN S 9)=mulN S (mulN T 9):=clamp_meets T S (9 % 2 ^ 255)
theorem unwX_wrap (S T:Int) (n:Nat) (f:Nat→Int):unwX T (wrapF S (mulN T 9) n f)=mulN S (mulN T 9):=by
 unfold unwX
 rw [unwF_wrap,meets9]
theorem unwK_wrap (S T:Int) (n:Nat) (f:Nat→Int):unwK T (wrapF S (mulN T 9) n f)=boxK (mulN S (mulN T 9)) (mulN S 9) (mulN T 9):=by
 unfold unwK
 rw [unwX_wrap,unwF_wrap]
theorem unw_back {S T:Int} {n:Nat} {f:Nat→Int} (hf:∀i,i<n→0≤f i∧f i<256) {w:World} {u:Value} {er:Int} (h:UnR T n (wrapF S (mulN T 9) n f) w u er):er=0∧Rd .u8 w u n f:=by
 have hx:unwX T (wrapF S (mulN T 9) n f)≠0:=by rw [unwX_wrap];exact shared_ne S T
 have hok:unwOk T n (wrapF S (mulN T 9) n f)=true:=by
  unfold unwOk
  rw [wrap_hi,unwK_wrap]
  exact opens_seal
 obtain ⟨h1,h2⟩:=(h.2 hx).2 hok
 refine ⟨h1,h2.congr fun i hi=> ?_⟩
 unfold unwH
 rw [wrap_hi,unwK_wrap]
 exact open_seal hf i hi
theorem boxBack_num (S T:Int) (v:Value) (n:Nat) (f:Nat→Int) (hf:∀i,i<n→0≤f i∧f i<256) (w:World) (hv:Rd .u8 w v n f):
  Calls Try.prog 8 #[.agg (arr .u8 32 (dg 256 S)),.agg (arr .u8 32 (dg 256 T)),v] w fun e w'=> e=.returned (.bool true)∧Below w.heap.size w w':=by
 have HAW:=Lib.hid (fun w=> bxAwake_any w)
 have HT0:=Lib.hid hv
 have HF:=Lib.hid hf
 have HPU:=Lib.hid (fun w=> ldPublic_any T w)
 have HWR:Hid (n≤300→∀w v,Rd .u8 w v n f→Calls Try.prog 46 #[.agg (arr .u8 32 (dg 256 S)),.agg (arr .u8 32 (dg 256 (mulN T 9))),v] w fun e w'=> ∃v,e=.returned v∧TupR w' v (32+(n+16)) (wrapF S (mulN T 9) n f)∧Below w.heap.size w w'):=fun hn w v hv=> by
  refine (bxWrap_any S (mulN T 9) v n f w hv hn).mono ?_
  rintro e w' ⟨u,er,rfl,hr,hb⟩
  obtain ⟨rfl,hu⟩:=hr.2 (shared_ne S T)
  exact ⟨_,rfl,⟨u,rfl,hu⟩,hb⟩
 have HUN:Hid (n≤300→∀w v,Rd .u8 w v (32+(n+16)) (wrapF S (mulN T 9) n f)→Calls Try.prog 48 #[.agg (arr .u8 32 (dg 256 T)),v] w fun e w'=> ∃u,e=.returned (.tuple #[u,.int .i64 0])∧Rd .u8 w' u n f∧Below w.heap.size w w'):=fun hn w v hv=> by
  refine (bxUnwrap_any T v n (32+(n+16)) (by omega) _ w hv (by omega) (fun i _=> wrapF_b _ _ _ _ i)).mono ?_
  rintro e w' ⟨u,er,rfl,hr,hb⟩
  obtain ⟨rfl,hu⟩:=unw_back hf hr
  exact ⟨u,rfl,hu,hb⟩
 obtain ⟨PT,hPT⟩:∃x,x=mulN T 9:=⟨_,rfl⟩
 rw [←hPT] at HPU HWR HUN
 obtain ⟨WF,hWF⟩:∃x,x=wrapF S PT n f:=⟨_,rfl⟩
 rw [←hWF] at HWR HUN
 obtain ⟨M,hM⟩:∃x,x=32+(n+16):=⟨_,rfl⟩
 rw [←hM] at HWR HUN
 obtain ⟨ta,tc,ev,_⟩:=id hv
 subst ev
 clear hv hPT hWF hM hf
 go_enter Try.func8,Try.ntmps8
 go_upto_region 1 with (fail)
 refine wp_world (fun w1=> Arr .u8 w1 w.heap.size 32 (dg 256 S)∧Arr .u8 w1 (w.heap.size+1) 32 (dg 256 T)∧Below w.heap.size w w1) ⟨.alloc (Arr.newAt rfl rfl) _,Arr.newAt (by first | omega | (simp<;> omega)) rfl,((Below.refl _ _).alloc (Nat.le_refl _) _).alloc (by first | omega | (simp<;> omega)) _⟩ ?_
 rintro w1 ⟨h3,h4,hbel⟩
 go_wp2_with fail
 refine (HAW.out _).mono ?_
 rintro e w2 ⟨rfl,hb⟩
 replace h3:=h3.kept hb
 replace h4:=h4.kept hb
 replace hbel:=hbel.trans (hb.mono hbel.size)
 clear hb HAW
 by_cases h300:300<n
 case pos=>
  have hgt:(300:Int)<(n:Int):=by omega
  clear h300
  go_wp2
  go_ret
  exact ⟨rfl,hbel⟩
 case neg=>
  have hgt:¬ (300:Int)<(n:Int):=by omega
  have HW2:=Lib.hid (HWR.out (Nat.le_of_not_lt h300))
  have HU2:=Lib.hid (HUN.out (Nat.le_of_not_lt h300))
  clear h300 HWR HUN
  go_upto_region 5 with (fail)
  refine region_flow (n:=52) (by kernel_rfl) (by kernel_rfl) (by kernel_rfl) rfl
   (fun ii vv ww=> (match ii with | 0=> vv=.agg (arr .u8 32 (dg 256 S)) | 1=> vv=.agg (arr .u8 32 (dg 256 T)) | 2=> vv=.agg (arr .u8 32 (dg 256 PT)) | 3=> vv=(.slice ta n tc) | 7 | 9=> vv=.int .i64 (0) | _=> True)∧(ii=4→TupR ww vv M (WF))∧(ii=5→TupR ww vv M (WF))∧(ii=6→Rd .u8 ww vv M (WF))∧(ii=8→Rd .u8 ww vv M (WF)))
   (fun w w'=> Below w.heap.size w w') (fun _ _ h=> h) (fun i v w w' h hE=> ⟨h.1,fun e=> TupR.below (h.2.1 e) hE,fun e=> TupR.below (h.2.2.1 e) hE,fun e=> Rd.below (h.2.2.2.1 e) hE,fun e=> Rd.below (h.2.2.2.2 e) hE⟩) ?_ ?_
  ·refine Each.all ?_
   refine ⟨?_,?_,?_,?_,?_,?_,?_,?_,?_,?_,trivial⟩
   ·intro a w2 hB hF hd
    rw [if_pos (wanted_none rfl)]
    exact flow_val (fun h=> by cases h) (run_load_str rfl Try.underlying22 rfl Try.size22 (hF.same 3 rfl) (h3.below hB h3.lt)) ⟨rfl,fun h=> absurd h (by decide),fun h=> absurd h (by decide),fun h=> absurd h (by decide),fun h=> absurd h (by decide)⟩
   ·intro a w2 hB hF hd
    rw [if_pos (wanted_none rfl)]
    exact flow_val (fun h=> by cases h) (run_load_str rfl Try.underlying22 rfl Try.size22 (hF.same 4 rfl) (h4.below hB h4.lt)) ⟨rfl,fun h=> absurd h (by decide),fun h=> absurd h (by decide),fun h=> absurd h (by decide),fun h=> absurd h (by decide)⟩
   ·intro a w2 hB hF hd
    rw [if_pos (wanted_none rfl)]
    refine flow_call _ _ _ rfl Try.call47 _ (args1 ((hd 1 _ rfl (waits_spec rfl)).1)) (by simp) ((HPU.out w2).mono ?_)
    rintro e w3 ⟨rfl,hb⟩;exact ⟨_,rfl,⟨rfl,fun h=> absurd h (by decide),fun h=> absurd h (by decide),fun h=> absurd h (by decide),fun h=> absurd h (by decide)⟩,hb⟩
   ·intro a w2 hB hF hd
    rw [if_pos (wanted_none rfl)]
    exact flow_move _ (.inl rfl) (by simp) ⟨(hF.same 2 rfl),fun h=> absurd h (by decide),fun h=> absurd h (by decide),fun h=> absurd h (by decide),fun h=> absurd h (by decide)⟩
   ·intro a w2 hB hF hd
    rw [if_pos (wanted_none rfl)]
    refine flow_call _ _ _ rfl Try.call46 _ (args3 ((hd 0 _ rfl (waits_spec rfl)).1) ((hd 2 _ rfl (waits_spec rfl)).1) ((hd 3 _ rfl (waits_spec rfl)).1)) (by simp) ((HW2.out w2 _ ((HT0.out.below hbel).below hB)).mono ?_)
    rintro e w3 ⟨u,rfl,hr,hb⟩;exact ⟨u,rfl,⟨trivial,fun _=> hr,fun h=> absurd h (by decide),fun h=> absurd h (by decide),fun h=> absurd h (by decide)⟩,hb⟩
   ·intro a w2 hB hF hd
    rw [if_pos (wanted_none rfl)]
    exact flow_move _ (.inl rfl) (by simp) ⟨trivial,fun h=> absurd h (by decide),fun _=> ((hd 4 _ rfl (waits_spec rfl)).2.1 rfl),fun h=> absurd h (by decide),fun h=> absurd h (by decide)⟩
   ·intro a w2 hB hF hd
    rw [if_pos (wanted_none rfl)]
    obtain ⟨u_,eu_,hu_⟩:=((hd 5 _ rfl (waits_spec rfl)).2.2.1 rfl)
    exact flow_val (fun h=> by cases h) (run_extract rfl eu_ rfl) ⟨trivial,fun h=> absurd h (by decide),fun h=> absurd h (by decide),fun _=> (hu_),fun h=> absurd h (by decide)⟩
   ·intro a w2 hB hF hd
    rw [if_pos (wanted_none rfl)]
    obtain ⟨u_,eu_,hu_⟩:=((hd 5 _ rfl (waits_spec rfl)).2.2.1 rfl)
    exact flow_val (fun h=> by cases h) (run_extract rfl eu_ rfl) ⟨rfl,fun h=> absurd h (by decide),fun h=> absurd h (by decide),fun h=> absurd h (by decide),fun h=> absurd h (by decide)⟩
   ·intro a w2 hB hF hd
    rw [if_pos (wanted_none rfl)]
    exact flow_move _ (.inr rfl) (by simp) ⟨trivial,fun h=> absurd h (by decide),fun h=> absurd h (by decide),fun h=> absurd h (by decide),fun _=> ((hd 6 _ rfl (waits_spec rfl)).2.2.2.1 rfl)⟩
   ·intro a w2 hB hF hd
    rw [if_pos (wanted_none rfl)]
    exact flow_move _ (.inr rfl) (by simp) ⟨((hd 7 _ rfl (waits_spec rfl)).1),fun h=> absurd h (by decide),fun h=> absurd h (by decide),fun h=> absurd h (by decide),fun h=> absurd h (by decide)⟩
  ·intro a w3 hB hF hS
   obtain ⟨x23,hx23⟩:∃x,x=a.tmps.getD 23 undef:=⟨_,rfl⟩
   have P23:TupR w3 x23 M (WF):=by rw [hx23];exact (hS 4 _ rfl).2.1 rfl
   obtain ⟨x18,hx18⟩:∃x,x=a.tmps.getD 18 undef:=⟨_,rfl⟩
   have P18:TupR w3 x18 M (WF):=by rw [hx18];exact (hS 5 _ rfl).2.2.1 rfl
   obtain ⟨x24,hx24⟩:∃x,x=a.tmps.getD 24 undef:=⟨_,rfl⟩
   have P24:Rd .u8 w3 x24 M (WF):=by rw [hx24];exact (hS 6 _ rfl).2.2.2.1 rfl
   obtain ⟨x7,hx7⟩:∃x,x=a.tmps.getD 7 undef:=⟨_,rfl⟩
   have P7:Rd .u8 w3 x7 M (WF):=by rw [hx7];exact (hS 8 _ rfl).2.2.2.2 rfl
   have ha:=puts_each rfl rfl hF [_,_,_,_,x23,x18,x24,_,x7,_] rfl ⟨(hS 0 _ rfl).1,(hS 1 _ rfl).1,(hS 2 _ rfl).1,(hS 3 _ rfl).1,hx23.symm,hx18.symm,hx24.symm,(hS 7 _ rfl).1,hx7.symm,(hS 9 _ rfl).1,trivial⟩
   simp only [puts,Act.put,List.setIfInBounds_toArray,List.set_cons_succ,List.set_cons_zero] at ha
   subst ha
   clear hx23 hx18 hx24 hx7
   clear hS hF
   replace h4:=h4.kept hB
   replace hbel:=hbel.trans (hB.mono hbel.size)
   have HX:=Lib.hid P7
   clear P7 P18 P24 P23 hB h3
   go_wp2_with (refine load_arr rfl 22 _ rfl .u8 (w.heap.size+1) 32 (dg 256 T) 5 Try.underlying22 Try.size22 rfl h4 ?_)
   refine (HU2.out _ _ HX.out).mono ?_
   rintro e w4 ⟨u,rfl,hu,hb⟩
   have HU:=Lib.hid hu
   replace h4:=h4.kept hb
   replace hbel:=hbel.trans (hb.mono hbel.size)
   clear hb hu HX HU2
   go_wp2_with (refine load_arr rfl 22 _ rfl .u8 (w.heap.size+1) 32 (dg 256 T) 5 Try.underlying22 Try.size22 rfl h4 ?_)
   refine (bxUnwrap_short T _ 0 (fun _=> 0) _ (Rd.nil _ _ _) (by decide)).mono ?_
   rintro e w5 ⟨rfl,hb⟩
   have HU1:=Lib.hid (HU.out.below hb)
   replace hbel:=hbel.trans (hb.mono hbel.size)
   clear hb h4 HU
   go_wp2_with fail
   refine (same_yes _ _ n f f _ HU1.out (HT0.out.below hbel) (fun _ _=> rfl)).mono ?_
   rintro e w6 ⟨rfl,hb⟩
   replace hbel:=hbel.trans (hb.mono hbel.size)
   clear hb HU1
   go_wp2
   go_ret
   exact ⟨rfl,hbel⟩
theorem boxBack_law (w:World) (fs:Nat→Int) (hs:∀i,i<32→(Lit.int .u8 (fs i)).wf=true) (fp:Nat→Int) (hp:∀i,i<32→(Lit.int .u8 (fp i)).wf=true) (v:Value) (n:Nat) (f:Nat→Int) (hv:Rd .u8 w v n f) (hf:∀i,i<n→(Lit.int .u8 (f i)).wf=true):
  Calls Try.prog 8 #[.agg (arr .u8 32 fs),.agg (arr .u8 32 fp),v] w fun e w'=> e=.returned (.bool true)∧Below w.heap.size w w':=by
 obtain ⟨S,eS,s0,s1⟩:=num32 fs hs
 obtain ⟨P,eP,p0,p1⟩:=num32 fp hp
 rw [eS,eP]
 exact boxBack_num S P v n f (fun i hi=> by have:=bounds_u8 (hf i hi);omega) w hv
end Go.Proofs.Ytdhejcaapdhhfaa
