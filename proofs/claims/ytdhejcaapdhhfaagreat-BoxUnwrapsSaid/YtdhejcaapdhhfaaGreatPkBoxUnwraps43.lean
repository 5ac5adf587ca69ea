/-
  Part 43 of the texts that the proof of BoxUnwraps rests on, one after the other. Conditions: named in each theorem.
-/
import Derived.Test.YtdhejcaapdhhfaaGreatPkBoxUnwraps16
import Derived.Test.YtdhejcaapdhhfaaGreatPkBoxUnwraps15
import Derived.Test.YtdhejcaapdhhfaaGreatPkBoxUnwraps2
import Derived.Test.YtdhejcaapdhhfaaGreatPkBoxUnwraps1
import Derived.Test.YtdhejcaapdhhfaaGreatPkBoxUnwraps14
import Derived.Test.YtdhejcaapdhhfaaGreatPkBoxUnwraps6
import Derived.Test.YtdhejcaapdhhfaaGreatPkBoxUnwraps3
import Derived.Test.YtdhejcaapdhhfaaGreatPkBoxUnwraps4
import Derived.Test.YtdhejcaapdhhfaaGreatPkBoxUnwraps5
import Derived.Test.YtdhejcaapdhhfaaGreatPkBoxUnwraps7
import Derived.Test.YtdhejcaapdhhfaaGreatPkBoxUnwraps9
import Derived.Test.YtdhejcaapdhhfaaGreatPkBoxUnwraps8
import Derived.Test.YtdhejcaapdhhfaaGreatPkBoxUnwraps10
import Derived.Test.YtdhejcaapdhhfaaGreatPkBoxUnwraps11
import Derived.Test.YtdhejcaapdhhfaaGreatPkBoxUnwraps28
import Derived.Test.YtdhejcaapdhhfaaGreatPkBoxUnwraps23
import Derived.Test.YtdhejcaapdhhfaaGreatPkBoxUnwraps18
import Derived.Test.YtdhejcaapdhhfaaGreatPkBoxUnwraps12
import Derived.Test.YtdhejcaapdhhfaaGreatPkBoxUnwraps13
import Derived.Test.YtdhejcaapdhhfaaGreatPkBoxUnwraps17
import Derived.Test.YtdhejcaapdhhfaaGreatPkBoxUnwraps20
import Derived.Test.YtdhejcaapdhhfaaGreatPkBoxUnwraps19
import Derived.Test.YtdhejcaapdhhfaaGreatPkBoxUnwraps22
import Derived.Test.YtdhejcaapdhhfaaGreatPkBoxUnwraps21
import Derived.Test.YtdhejcaapdhhfaaGreatPkBoxUnwraps25
import Derived.Test.YtdhejcaapdhhfaaGreatPkBoxUnwraps24
import Derived.Test.YtdhejcaapdhhfaaGreatPkBoxUnwraps26
import Derived.Test.YtdhejcaapdhhfaaGreatPkBoxUnwraps27
import Derived.Test.YtdhejcaapdhhfaaGreatPkBoxUnwraps41
import Derived.Test.YtdhejcaapdhhfaaGreatPkBoxUnwraps32
import Derived.Test.YtdhejcaapdhhfaaGreatPkBoxUnwraps31
import Derived.Test.YtdhejcaapdhhfaaGreatPkBoxUnwraps30
import Derived.Test.YtdhejcaapdhhfaaGreatPkBoxUnwraps29
import Derived.Test.YtdhejcaapdhhfaaGreatPkBoxUnwraps33
import Derived.Test.YtdhejcaapdhhfaaGreatPkBoxUnwraps40
import Derived.Test.YtdhejcaapdhhfaaGreatPkBoxUnwraps36
import Derived.Test.YtdhejcaapdhhfaaGreatPkBoxUnwraps35
import Derived.Test.YtdhejcaapdhhfaaGreatPkBoxUnwraps34
import Derived.Test.YtdhejcaapdhhfaaGreatPkBoxUnwraps39
import Derived.Test.YtdhejcaapdhhfaaGreatPkBoxUnwraps38
import Derived.Test.YtdhejcaapdhhfaaGreatPkBoxUnwraps37
import Derived.Test.YtdhejcaapdhhfaaGreatPkBoxUnwraps42
import Derived.BigFrame
import Derived.BigQuiet
import Derived.ChangeKeysEq
import Derived.ChangeOld
import Derived.Deep.Cut
import Derived.Deep.DrawnRows
import Derived.Deep.LoopGhost
import Derived.Deep.MidRow
import Derived.Deep.QuietTactic
import Derived.Deep.RegionHeld3
import Derived.Deep.RegionLaw
import Derived.Deep.WholeRow
import Derived.Great.BuildSlice
import Derived.Laws.BitsAllLaws
import Derived.Laws.BytesArg
import Derived.Laws.CopyOwn
import Derived.Laws.IdiomCopy
import Derived.Laws.IdiomStrings
import Derived.Laws.Strings
import Derived.Laws.StructEq
import Derived.Lib.BufferRead
import Derived.Lib.Hide
import Derived.LoopIn
import Derived.LoopNIn
import Derived.Maps.AppendAt
import Derived.Maps.Range
import Derived.OpenShut
import Derived.Orders
import Derived.OrdersIn
import Derived.OwnWalkIn
import Derived.ProofKit
import Derived.RangeFuncBound
import Derived.RangeFuncBox
import Derived.RangeFuncCalls
import Derived.RangeFuncFrom
import Derived.RangeFuncLeaves
import Derived.RangeFuncNested
import Derived.Shelf.Abstract
import Derived.Shelf.RegionOpen
import Derived.ShutString
import Derived.StillTailTactics
import Derived.TacticsInMore
import Derived.Test.YtdhejcaapdhhfaaGreatArr
import Derived.Test.YtdhejcaapdhhfaaGreatFlow
import Derived.Test.YtdhejcaapdhhfaaGreatKit
import Derived.Test.YtdhejcaapdhhfaaGreatOpen
import Derived.Test.YtdhejcaapdhhfaaGreatRows
import Derived.Test.YtdhejcaapdhhfaaGreatTxt
import Derived.WalkKit
import Derived.WalkLawsBesides
import Derived.WalkMore
import Derived.WalkSmall
import Derived.WalkSpells
set_option linter.unusedVariables false
set_option linter.unusedSimpArgs false
set_option maxRecDepth 100000
set_option maxHeartbeats 6400000
namespace Go.Bas
open Go.RowKit
def LitB (w:World) (v:Value) (T:TypeId) (n:Nat) (cs:Array Value):Prop:=∃b,v=.slice (some ⟨b,0,none⟩) n n∧w.heap[b]? =some (.cells cs T (0,0))
theorem LitB.below {w w':World} {v:Value} {T:TypeId} {n:Nat} {cs:Array Value} (h:LitB w v T n cs) (hb:Below w.heap.size w w'):LitB w' v T n cs:=by
 obtain ⟨b,e,h⟩:=h
 exact ⟨b,e,by rw [hb.block b (Array.getElem?_eq_some_iff.1 h).1];exact h⟩
theorem LitB.txt2 {w:World} {v v1 v2:Value} {T:TypeId} {n m:Nat} {f g:Nat→Int} (h:LitB w v T 2 [v1,v2].toArray) (h1:Rd .u8 w v1 n f) (h2:Rd .u8 w v2 m g):
  Txt w v 2 (catL 1 (fun _=> n) (fun _=> m)) (catG 1 (fun _=> f) (fun _=> g)):=by
 obtain ⟨b,rfl,h⟩:=h
 refine ⟨_,_,rfl,Nat.le_refl _,by decide,fun _=> ⟨b,0,rfl,(Array.getElem?_eq_some_iff.1 h).1,fun j hj=> ?_⟩⟩
 rw [Nat.zero_add,cell_of_row _ _ _ _ T (0,0) h]
 rcases (by omega:j=0∨j=1) with rfl | rfl
 ·exact ⟨v1,rfl,h1⟩
 ·exact ⟨v2,rfl,h2⟩
theorem wp_append_full {P:Program} {w:World} {o:Oper} {a:Act} {K:Act→World→Prop} {Q:Exit→Act→World→Prop}
  (s x:Operand) (t:TypeId) (hop:o.op=.call { callee:=.builtin .append,args:=#[s,x],argTypes:=#[t,t] })
  (e:TypeId) (k:IntKind) (bytes:Nat) (h1:P.underlying t=some (.slice e)) (hinfo:(P.info? e).map (fun i=> (i.zero,i.size,i.bytes))=some (some (.int k 0),1,bytes))
  (gg oo n:Nat) (f:Nat→Int) (hold:∀i,i<n→w.cell? ⟨gg,oo+i,none⟩=some (.int k (f i))) (hs:a.eval s=.slice (some ⟨gg,oo,none⟩) n n)
  (u:Value) (m:Nat) (g:Nat→Int) (hrd:Rd k w u m g) (hx:a.eval x=u) (hm:0<m) (hf:∀i,i<m→f (n+i)=g i)
  (b2:(n+m) * bytes≤140737488355328) (b3:n+m≤9223372036854775807)
  (hK:∀v' w',Rd k w' v' (n+m) f→Below w.heap.size w w'→K (a.put o.dst v') w'):
  o.wp P a w K Q:=by
 obtain ⟨i,hi,hz0,hz1,hz2⟩:=info_parts hinfo
 obtain ⟨ao,c,rfl,l1,l2,l3,l4⟩:=hrd
 obtain ⟨b,of,rfl,_,hcell⟩:=l4 hm
 have hvm:(vals k m g).length=m * i.size:=by rw [hz1];simp
 have hnews:∀j x,(vals k m g)[j]? =some x→w.cell? ((⟨b,of,none⟩:Addr).add j)=some x:=by
  intro j x hx
  have hj:j<m:=by
   have:=(List.getElem?_eq_some_iff.1 hx).1
   simpa using this
  rw [addr_add,hcell j hj,←vals_get (k:=k) (f:=g) hj]
  exact hx
 have holds:∀j x,(vals k n f)[j]? =some x→w.cell? ((⟨gg,oo,none⟩:Addr).add j)=some x:=by
  intro j x hx
  have hj:j<n:=by
   have:=(List.getElem?_eq_some_iff.1 hx).1
   simpa using this
  rw [addr_add,hold j hj,←vals_get (k:=k) (f:=f) hj]
  exact hx
 have hr:=run_append_grow (P:=P) w t o.type e i _ h1 hi hz0 ⟨gg,oo,none⟩ n n (vals k n f) (by rw [hz1];simp) holds ⟨b,of,none⟩ m c (vals k m g) hvm hnews (by omega) (by omega) (growslice_fits (by omega) (by rw [hz2];exact b2))
 have hge:=grownCap_ge w (n+m) n e
 have hcm:grownCap w (n+m) n e≤maxLen:=grownCap_le_maxLen w (n+m) n e (by unfold maxLen;omega)
 unfold maxLen at hcm
 unfold Oper.wp execOp
 simp only [hop,resolve,invoke,builtin,Sem.run_bind,Sem.run_pure,Result.andThen_ok,List.map_toArray,List.map_cons,List.map_nil,hs,hx,hr]
 refine hK _ _ ?_ (((Below.refl w.heap.size w).drew).alloc (by simp) _)
 refine (OwnAt.rd (OwnAt.whole (k:=k) (e:=e) (base:=0) (m:=n+m) (c:=grownCap w (n+m) n e) (f:=f) (Nat.zero_le _) hge (by omega) ?_ ?_))
 ·have hz:(Value.int k 0).cells=#[.int k 0] :=rfl
  simp only [Array.size_append,List.size_toArray,size_zeroCells,hz,vals_length]
  simp;omega
 ·rw [Array.toList_append,Array.toList_append,←vals_add hf]
  rw [List.take_append_of_le_length (by simp),List.take_of_length_le (by simp)]
end Go.Bas
namespace Go.Proofs.YtdhejcaapdhhfaaGreat
open Go.RowKit Go.Bas Go.ChangeShapes
attribute [local go_sem ↓] Go.wp_at_zero Go.wp_at_succ
def boxS:ByteArray:=⟨#[98,111,120]⟩
def boxL:Nat→Nat:=catL 1 (fun _=> 32) (fun _=> 32)
def boxG (F P:Int):Nat→Nat→Int:=catG 1 (fun _=> dg 256 F) (fun _=> dg 256 P)
def boxK (X F P:Int):Nat→Int:=tagB 32 (dg 256 X) (infN boxS.size boxL 2) (infF boxS.size (strB boxS) boxL (boxG F P) 2)
theorem boxK_b (X F P:Int):∀i,i<32→0≤boxK X F P i∧boxK X F P i<256:=fun i _=> tagB_bound _ _ _ _ i
theorem boxL_le:∀j,j<2→boxL j≤4000:=by intro j hj;rcases (by omega:j=0∨j=1) with rfl | rfl<;> decide
theorem boxG_b (F P:Int):∀j,j<2→∀i,i<boxL j→0≤boxG F P j i∧boxG F P j i<256:=by
 intro j hj i _
 rcases (by omega:j=0∨j=1) with rfl | rfl
 ·exact dg_bound (by decide) _ _
 ·exact dg_bound (by decide) _ _
theorem bxDerive (X F P:Int) (v t:Value) (w:World) (hv:Rd .u8 w v 32 (dg 256 X)) (ht:Txt w t 2 boxL (boxG F P)):
  Calls Tryz.prog 89 #[v,.string boxS,t] w fun e w'=> e=.returned (.tuple #[.agg (arr .u8 32 (boxK X F P)),.int .i64 0])∧Below w.heap.size w w':=
 dKey_any v 32 (dg 256 X) boxS t 2 boxL (boxG F P) w hv (by decide) (by decide) (fun i _=> dg_bound (by decide) _ _) (by decide) ht (by decide) boxL_le (boxG_b F P)
theorem build_b32 {a:Act} (w:World):(Instr.build 22 ((#[] :Array (Nat × Operand)).map fun (i,x)=> (i,a.eval x))).run Tryz.prog w=.ok (.agg (arr .u8 32 (fun _=> 0))) w:=Go.run_build w _ _ _ (by kernel_rfl)
theorem build_b12 {a:Act} (w:World):(Instr.build 74 ((#[] :Array (Nat × Operand)).map fun (i,x)=> (i,a.eval x))).run Tryz.prog w=.ok (.agg (arr .u8 12 (fun _=> 0))) w:=Go.run_build w _ _ _ (by kernel_rfl)
def bxKey (X F P:Int):Nat→Int:=if X=0 then fun _=> 0 else boxK X F P
theorem bxKey_any (S O F P:Int) (w:World):Calls Tryz.prog 39 #[.agg (arr .u8 32 (dg 256 S)),.agg (arr .u8 32 (dg 256 O)),.agg (arr .u8 32 (dg 256 F)),.agg (arr .u8 32 (dg 256 P))] w fun e w'=>
  e=.returned (.tuple #[.agg (arr .u8 32 (bxKey (mulN S O) F P)),.int .i64 (ldErr (mulN S O))])∧Below w.heap.size w w':=by
 have HSH:=Lib.hid (fun w=> ldShared_any S O w)
 have HP0:=Lib.hid (fun (a:Act) w=> build_b32 (a:=a) w)
 have HDR:=Lib.hid (fun w v t=> bxDerive (mulN S O) F P v t w)
 have HE:Hid (ldErr (mulN S O)=if mulN S O=0 then 21 else 0):=rfl
 have HK:Hid (bxKey (mulN S O) F P=if mulN S O=0 then (fun _=> 0) else boxK (mulN S O) F P):=rfl
 obtain ⟨X,hX⟩:∃X,X=mulN S O:=⟨_,rfl⟩
 rw [←hX] at HSH HDR HE HK ⊢
 obtain ⟨er,her⟩:∃er,er=ldErr X:=⟨_,rfl⟩
 rw [←her] at HSH HE ⊢
 obtain ⟨KK,hKK⟩:∃K,K=boxK X F P:=⟨_,rfl⟩
 rw [←hKK] at HDR HK
 obtain ⟨KR,hKR⟩:∃K,K=bxKey X F P:=⟨_,rfl⟩
 rw [←hKR] at HK ⊢
 clear hX her hKK hKR
 go_enter Tryz.func39,Tryz.ntmps39
 go_upto_region 1 with (fail)
 refine wp_world (fun w1=> Arr .u8 w1 w.heap.size 32 (dg 256 S)∧Arr .u8 w1 (w.heap.size+1) 32 (dg 256 O)∧Arr .u8 w1 (w.heap.size+2) 32 (dg 256 F)∧Arr .u8 w1 (w.heap.size+3) 32 (dg 256 P)∧Arr .u8 w1 (w.heap.size+4) 32 (fun _=> 0)∧Below w.heap.size w w1)
  ⟨.alloc (.alloc (.alloc (.alloc (Arr.newAt rfl rfl) _) _) _) _,.alloc (.alloc (.alloc (Arr.newAt (by first | omega | (simp<;> omega)) rfl) _) _) _,.alloc (.alloc (Arr.newAt (by first | omega | (simp<;> omega)) rfl) _) _,.alloc (Arr.newAt (by first | omega | (simp<;> omega)) rfl) _,Arr.newAt (by first | omega | (simp<;> omega)) (by rfl),(((((Below.refl _ _).alloc (Nat.le_refl _) _).alloc (by first | omega | (simp<;> omega)) _).alloc (by first | omega | (simp<;> omega)) _).alloc (by first | omega | (simp<;> omega)) _).alloc (by first | omega | (simp<;> omega)) _⟩ ?_
 rintro w1 ⟨h4,h5,h6,h7,h8,hbel⟩
 go_wp2_with (first | (refine load_arr rfl 22 _ rfl .u8 w.heap.size 32 (dg 256 S) 5 Tryz.underlying22 Tryz.size22 rfl h4 ?_) | (refine load_arr rfl 22 _ rfl .u8 (w.heap.size+1) 32 (dg 256 O) 5 Tryz.underlying22 Tryz.size22 rfl h5 ?_))
 refine (HSH.out _).mono ?_
 rintro e w2 ⟨rfl,hb⟩
 replace h6:=h6.kept hb
 replace h7:=h7.kept hb
 replace h8:=h8.kept hb
 replace hbel:=hbel.trans (hb.mono hbel.size)
 have hl8:=h8.lt
 clear hb h4 h5
 go_upto_region 2 with (refine store_arr rfl 22 _ _ rfl .u8 w2.heap.size 32 (fun _=> 0) (dg 256 X) Tryz.size22 rfl rfl (Arr.newAt rfl (by rfl)) ?_)
 refine wp_world (fun w3=> Arr .u8 w3 w2.heap.size 32 (dg 256 X)∧Below w2.heap.size w2 w3) ⟨(Arr.newAt rfl (by rfl):Arr .u8 _ _ 32 (fun _=> 0)).setRow _ _,below_setRow' ((Below.refl _ _).alloc (Nat.le_refl _) _) (Nat.le_refl _) _⟩ ?_
 rintro w3 ⟨h10,hb⟩
 replace h6:=h6.kept hb
 replace h7:=h7.kept hb
 replace h8:=h8.kept hb
 replace hbel:=hbel.trans (hb.mono hbel.size)
 obtain ⟨x10,e10⟩:∃x,x=w2.heap.size:=⟨_,rfl⟩
 rw [←e10] at h10 hl8 ⊢
 clear e10 hb
 try simp only [Act.put,List.setIfInBounds_toArray,List.set_cons_succ,List.set_cons_zero]
 by_cases hX:X=0
 case pos=>
  obtain rfl:er=21:=by rw [HE.out,if_pos hX]
  obtain rfl:KR=fun _=> 0:=by rw [HK.out,if_pos hX]
  clear hX
  go_wp2_with (first | (refine step_val rfl (run_built rfl (HP0.out _ _)) ?_) | (refine store_arr rfl 22 _ _ rfl .u8 (w.heap.size+4) 32 (fun _=> 0) (fun _=> 0) Tryz.size22 rfl rfl h8 ?_))
  exact bodyPost_ret (results_arr2 rfl _ _ .u8 (w.heap.size+4) 32 _ 5 rfl (h8.setRow 32 (fun _=> 0)) Tryz.underlying22 Tryz.size22) rfl ⟨rfl,below_setRow' hbel (by omega) _⟩
 case neg=>
  obtain rfl:er=0:=by rw [HE.out,if_neg hX]
  obtain rfl:KR=KK:=by rw [HK.out,if_neg hX]
  clear hX HK HE
  go_upto_region 4 with (fail)
  refine region_tail (n:=29) 7 (by decide) (by kernel_rfl) (by kernel_rfl) (by kernel_rfl) (by kernel_rfl) rfl
   (fun ii vv ww=> (match ii with | 0=> vv=.slice (some ⟨x10,0,none⟩) 32 32 | 1=> vv=.slice (some ⟨(w.heap.size+2),0,none⟩) 32 32 | 2=> vv=.slice (some ⟨(w.heap.size+3),0,none⟩) 32 32 | 4=> vv=.tuple #[.agg (arr .u8 32 (KR)),.int .i64 (0)] | 5=> vv=.agg (arr .u8 32 (KR)) | 6=> vv=.int .i64 (0) | _=> True)∧(ii=3→LitB ww vv 23 2 [.slice (some ⟨w.heap.size+2,0,none⟩) 32 32,.slice (some ⟨w.heap.size+3,0,none⟩) 32 32].toArray))
   (fun i v w w' h hE=> ⟨h.1,fun e=> LitB.below (h.2 e) hE⟩) ?_ ?_
  ·refine Each.all ?_
   refine ⟨?_,?_,?_,?_,?_,?_,?_,(fun h=> absurd h (by decide)),(fun h=> absurd h (by decide)),trivial⟩
   ·intro _ a w2 hB hF hd
    rw [if_pos (wanted_none rfl)]
    exact flow_val (fun h=> by cases h) (run_slice_arr rfl (hF.same 10 rfl) Tryz.underlying22 (by kernel_rfl)) ⟨rfl,fun h=> absurd h (by decide)⟩
   ·intro _ a w2 hB hF hd
    rw [if_pos (wanted_none rfl)]
    exact flow_val (fun h=> by cases h) (run_slice_arr rfl (hF.same 6 rfl) Tryz.underlying22 (by kernel_rfl)) ⟨rfl,fun h=> absurd h (by decide)⟩
   ·intro _ a w2 hB hF hd
    rw [if_pos (wanted_none rfl)]
    exact flow_val (fun h=> by cases h) (run_slice_arr rfl (hF.same 7 rfl) Tryz.underlying22 (by kernel_rfl)) ⟨rfl,fun h=> absurd h (by decide)⟩
   ·intro _ a w2 hB hF hd
    rw [if_pos (wanted_none rfl)]
    exact flow_lits 83 23 2 _ [.slice (some ⟨(w.heap.size+2),0,none⟩) 32 32,.slice (some ⟨(w.heap.size+3),0,none⟩) 32 32] rfl Tryz.underlying83 (by kernel_rfl) (by kernel_rfl) rfl (by decide) (by decide) (by intro v hv;simp only [List.mem_cons,List.not_mem_nil,or_false] at hv;rcases hv with rfl | rfl<;> rfl) (by simp only [List.map_toArray,List.map_cons,List.map_nil,show a.eval (Operand.tmp 23)=.slice (some ⟨(w.heap.size+2),0,none⟩) 32 32 from ((hd 1 _ rfl (waits_spec rfl)).1),show a.eval (Operand.tmp 24)=.slice (some ⟨(w.heap.size+3),0,none⟩) 32 32 from ((hd 2 _ rfl (waits_spec rfl)).1)];rfl) (by simp) ⟨trivial,fun _=> ((⟨_,rfl,heap_alloc_new _ _⟩))⟩
   ·intro _ a w2 hB hF hd
    rw [if_pos (wanted_none rfl)]
    refine flow_call _ _ _ rfl Tryz.call89 _ (args3 ((hd 0 _ rfl (waits_spec rfl)).1) rfl rfl) (by simp) ((HDR.out w2 _ _ ((h10.kept hB).rd (by decide)) (((hd 3 _ rfl (waits_spec rfl)).2 rfl).txt2 ((h6.kept hB).rd (by decide)) ((h7.kept hB).rd (by decide)))).mono ?_)
    rintro e w3 ⟨rfl,hb⟩;exact ⟨_,rfl,⟨rfl,fun h=> absurd h (by decide)⟩,hb⟩
   ·intro _ a w2 hB hF hd
    rw [if_pos (wanted_none rfl)]
    exact flow_val (fun h=> by cases h) (run_extract rfl ((hd 4 _ rfl (waits_spec rfl)).1) rfl) ⟨rfl,fun h=> absurd h (by decide)⟩
   ·intro _ a w2 hB hF hd
    rw [if_pos (wanted_none rfl)]
    exact flow_val (fun h=> by cases h) (run_extract rfl ((hd 4 _ rfl (waits_spec rfl)).1) rfl) ⟨rfl,fun h=> absurd h (by decide)⟩
  ·intro a w4 hB hF hS
   obtain ⟨x25,hx25⟩:∃x,x=a.tmps.getD 25 undef:=⟨_,rfl⟩
   have ha:=puts_each rfl rfl hF [_,_,_,x25,_,_,_] rfl ⟨(hS 0 _ rfl (by decide)).1,(hS 1 _ rfl (by decide)).1,(hS 2 _ rfl (by decide)).1,hx25.symm,(hS 4 _ rfl (by decide)).1,(hS 5 _ rfl (by decide)).1,(hS 6 _ rfl (by decide)).1,trivial⟩
   simp only [puts,List.take_succ_cons,List.take_zero,Act.put,List.setIfInBounds_toArray,List.set_cons_succ,List.set_cons_zero] at ha
   subst ha
   change tl _ _ _ (_::_:: []) _ _
   clear hx25
   clear hS hF
   replace h8:=h8.kept hB
   replace hbel:=hbel.trans (hB.mono hbel.size)
   refine tl_step rfl (wp_store_arr 22 _ _ rfl .u8 (w.heap.size+4) 32 (fun _=> 0) KR Tryz.size22 rfl rfl h8 ?_)
   refine tl_move rfl _ (.inr rfl) (tl_nil ?_)
   have h8':=h8.setRow 32 KR
   have hb':=below_setRow' hbel (show w.heap.size≤w.heap.size+4 by omega) (arr .u8 32 KR)
   clear h8 hbel hB
   simp only [Act.put,Act.eval,List.setIfInBounds_toArray,List.set_cons_succ,List.set_cons_zero]
   go_wp2
   exact bodyPost_ret (results_arr2 rfl _ _ .u8 (w.heap.size+4) 32 _ 5 rfl h8' Tryz.underlying22 Tryz.size22) rfl ⟨rfl,hb'⟩
theorem append_full {P:Program} {w:World} {ops:Array Oper} {rest:List Oper} {o:Oper} {a:Act} {Q:Exit→Act→World→Prop} (hg:o.guard=none)
  (s x:Operand) (t:TypeId) (hop:o.op=.call { callee:=.builtin .append,args:=#[s,x],argTypes:=#[t,t] })
  (e:TypeId) (k:IntKind) (bytes:Nat) (h1:P.underlying t=some (.slice e)) (hinfo:(P.info? e).map (fun i=> (i.zero,i.size,i.bytes))=some (some (.int k 0),1,bytes))
  (gg oo n:Nat) (f:Nat→Int) (hold:∀i,i<n→w.cell? ⟨gg,oo+i,none⟩=some (.int k (f i))) (hs:a.eval s=.slice (some ⟨gg,oo,none⟩) n n)
  (u:Value) (m:Nat) (g:Nat→Int) (hrd:Rd k w u m g) (hx:a.eval x=u) (hm:0<m) (hf:∀i,i<m→f (n+i)=g i)
  (b2:(n+m) * bytes≤140737488355328) (b3:n+m≤9223372036854775807)
  (hK:∀v' w',Rd k w' v' (n+m) f→Below w.heap.size w w'→wpList P ops Q rest (a.put o.dst v') w'):wpList P ops Q (o::rest) a w:=
 wpList_plain hg fun _ hK'=> wp_append_full s x t hop e k bytes h1 hinfo gg oo n f hold hs u m g hrd hx hm hf b2 b3 fun v' w' q1 q2=> hK' _ _ (hK v' w' q1 q2)
def nn0:Nat→Int:=fun _=> 0
def wrapF (S P:Int) (n:Nat) (f:Nat→Int):Nat→Int:=catF 32 (dg 256 (mulN S 9)) (sealF (boxK (mulN S P) (mulN S 9) P) nn0 0 nn0 n f)
def WrR (S P:Int) (n:Nat) (f:Nat→Int) (w:World) (u:Value) (er:Int):Prop:=(mulN S P=0→u=.slice none 0 0∧er=21)∧(mulN S P≠0→er=0∧Rd .u8 w u (32+(n+16)) (wrapF S P n f))
theorem bxWrap_any (S P:Int) (v:Value) (n:Nat) (f:Nat→Int) (w:World) (hv:Rd .u8 w v n f) (hn:n≤300):
  Calls Tryz.prog 16 #[.agg (arr .u8 32 (dg 256 S)),.agg (arr .u8 32 (dg 256 P)),v] w fun e w'=> ∃u er,e=.returned (.tuple #[u,.int .i64 er])∧WrR S P n f w' u er∧Below w.heap.size w w':=by
 have HPU:=Lib.hid (fun w=> ldPublic_any S w)
 have HKY:=Lib.hid (fun w=> bxKey_any S P (mulN S 9) P w)
 have HSE:Hid (∀w u,Rd .u8 w u n f→Calls Tryz.prog 40 #[.agg (arr .u8 32 (boxK (mulN S P) (mulN S 9) P)),.agg (arr .u8 12 (fun _=> 0)),.slice none 0 0,u] w fun e w'=> ∃v,e=.returned (.tuple #[v,.int .i64 0])∧Go.Bas.Own .u8 5 w.heap.size w' v (n+16) (sealF (boxK (mulN S P) (mulN S 9) P) nn0 0 nn0 n f)∧Below w.heap.size w w'):=fun w u h=>
  aSeal_any _ nn0 (boxK_b _ _ _) (fun i _=> by unfold nn0;decide) _ u 0 n nn0 f w (Rd.nil _ _ _) h (fun i hi=> absurd hi (by omega)) (by decide) (by omega)
 have HB0:=Lib.hid (fun (a:Act) w=> build_b12 (a:=a) w)
 have HWF:Hid (wrapF S P n f=catF 32 (dg 256 (mulN S 9)) (sealF (boxK (mulN S P) (mulN S 9) P) nn0 0 nn0 n f)):=rfl
 have HT0:=Lib.hid hv
 have HNN:=Lib.hid hn
 have HRP:Hid (∀w u er,((mulN S P=0→u=.slice none 0 0∧er=21)∧(mulN S P≠0→er=0∧Rd .u8 w u (32+(n+16)) (wrapF S P n f)))→WrR S P n f w u er):=fun w u er h=> h
 obtain ⟨ta,tc,ev,_⟩:=id hv
 subst ev
 by_cases hX:mulN S P=0
 case pos=>
  have hk1:bxKey (mulN S P) (mulN S 9) P=fun _=> 0:=by unfold bxKey;rw [if_pos hX]
  have hk2:ldErr (mulN S P)=21:=by unfold ldErr;rw [if_pos hX]
  rw [hk1,hk2] at HKY
  have HR:=Lib.hid (fun w=> HRP.out w (.slice none 0 0) 21 ⟨fun _=> ⟨rfl,rfl⟩,fun h=> absurd hX h⟩)
  obtain ⟨FI,hFI⟩:∃x,x=mulN S 9:=⟨_,rfl⟩
  rw [←hFI] at HPU HKY
  clear hX hk1 hk2 HSE hFI hv hn HWF HRP
  go_enter Tryz.func16,Tryz.ntmps16
  go_upto_region 1 with (fail)
  refine wp_world (fun w1=> Arr .u8 w1 w.heap.size 32 (dg 256 S)∧Arr .u8 w1 (w.heap.size+1) 32 (dg 256 P)∧Below w.heap.size w w1) ⟨.alloc (Arr.newAt rfl rfl) _,Arr.newAt (by first | omega | (simp<;> omega)) rfl,((Below.refl _ _).alloc (Nat.le_refl _) _).alloc (by first | omega | (simp<;> omega)) _⟩ ?_
  rintro w1 ⟨h3,h4,hbel⟩
  go_wp2_with (refine load_arr rfl 22 _ rfl .u8 w.heap.size 32 (dg 256 S) 5 Tryz.underlying22 Tryz.size22 rfl h3 ?_)
  refine (HPU.out _).mono ?_
  rintro e w2 ⟨rfl,hb⟩
  replace h3:=h3.kept hb
  replace h4:=h4.kept hb
  replace hbel:=hbel.trans (hb.mono hbel.size)
  have hl4:=h4.lt
  clear hb
  go_upto_region 2 with (refine store_arr rfl 22 _ _ rfl .u8 w2.heap.size 32 (fun _=> 0) (dg 256 FI) Tryz.size22 rfl rfl (Arr.newAt rfl (by rfl)) ?_)
  refine wp_world (fun w3=> Arr .u8 w3 w2.heap.size 32 (dg 256 FI)∧Below w2.heap.size w2 w3) ⟨(Arr.newAt rfl (by rfl):Arr .u8 _ _ 32 (fun _=> 0)).setRow _ _,below_setRow' ((Below.refl _ _).alloc (Nat.le_refl _) _) (Nat.le_refl _) _⟩ ?_
  rintro w3 ⟨h8,hb⟩
  replace h3:=h3.kept hb
  replace h4:=h4.kept hb
  replace hbel:=hbel.trans (hb.mono hbel.size)
  obtain ⟨x8,e8⟩:∃x,x=w2.heap.size:=⟨_,rfl⟩
  rw [←e8] at h8 hl4 ⊢
  clear e8 hb
  try simp only [Act.put,List.setIfInBounds_toArray,List.set_cons_succ,List.set_cons_zero]
  go_wp2_with (first
   | (refine load_arr rfl 22 _ rfl .u8 w.heap.size 32 (dg 256 S) 5 Tryz.underlying22 Tryz.size22 rfl h3 ?_)
   | (refine load_arr rfl 22 _ rfl .u8 (w.heap.size+1) 32 (dg 256 P) 5 Tryz.underlying22 Tryz.size22 rfl h4 ?_)
   | (refine load_arr rfl 22 _ rfl .u8 x8 32 (dg 256 FI) 5 Tryz.underlying22 Tryz.size22 rfl h8 ?_))
  refine (HKY.out _).mono ?_
  rintro e w4 ⟨rfl,hb⟩
  replace hbel:=hbel.trans (hb.mono hbel.size)
  clear hb h3 h4 h8
  go_upto_region 3 with (refine store_arr rfl 22 _ _ rfl .u8 w4.heap.size 32 (fun _=> 0) (fun _=> 0) Tryz.size22 rfl rfl (Arr.newAt rfl (by rfl)) ?_)
  refine wp_world (fun w5=> Below w.heap.size w w5) (below_setRow' (hbel.alloc hbel.size _) hbel.size _) ?_
  clear hbel
  rintro w5 hbel
  try simp only [Act.put,List.setIfInBounds_toArray,List.set_cons_succ,List.set_cons_zero]
  go_wp2
  go_ret2
  exact ⟨_,_,rfl,HR.out _,hbel⟩
 case neg=>
  have hk1:bxKey (mulN S P) (mulN S 9) P=boxK (mulN S P) (mulN S 9) P:=by unfold bxKey;rw [if_neg hX]
  have hk2:ldErr (mulN S P)=0:=by unfold ldErr;rw [if_neg hX]
  rw [hk1,hk2] at HKY
  have HR:=Lib.hid (fun w u h=> HRP.out w u 0 ⟨fun h=> absurd h hX,fun _=> ⟨rfl,h⟩⟩)
  obtain ⟨K,hK⟩:∃x,x=boxK (mulN S P) (mulN S 9) P:=⟨_,rfl⟩
  rw [←hK] at HKY HSE HWF
  obtain ⟨FI,hFI⟩:∃x,x=mulN S 9:=⟨_,rfl⟩
  rw [←hFI] at HPU HKY HWF
  obtain ⟨SF,hSF⟩:∃x,x=sealF K nn0 0 nn0 n f:=⟨_,rfl⟩
  rw [←hSF] at HSE HWF
  obtain ⟨WF,hWF⟩:∃x,x=wrapF S P n f:=⟨_,rfl⟩
  rw [←hWF] at HR HWF
  clear hX hk1 hk2 hFI hK hSF hWF hv HRP
  have h28:¬ (1048528:Int)<(n:Int):=by omega
  clear hn
  go_enter Tryz.func16,Tryz.ntmps16
  go_upto_region 1 with (fail)
  refine wp_world (fun w1=> Arr .u8 w1 w.heap.size 32 (dg 256 S)∧Arr .u8 w1 (w.heap.size+1) 32 (dg 256 P)∧Below w.heap.size w w1) ⟨.alloc (Arr.newAt rfl rfl) _,Arr.newAt (by first | omega | (simp<;> omega)) rfl,((Below.refl _ _).alloc (Nat.le_refl _) _).alloc (by first | omega | (simp<;> omega)) _⟩ ?_
  rintro w1 ⟨h3,h4,hbel⟩
  go_wp2_with (refine load_arr rfl 22 _ rfl .u8 w.heap.size 32 (dg 256 S) 5 Tryz.underlying22 Tryz.size22 rfl h3 ?_)
  refine (HPU.out _).mono ?_
  rintro e w2 ⟨rfl,hb⟩
  replace h3:=h3.kept hb
  replace h4:=h4.kept hb
  replace hbel:=hbel.trans (hb.mono hbel.size)
  have hl4:=h4.lt
  clear hb
  go_upto_region 2 with (refine store_arr rfl 22 _ _ rfl .u8 w2.heap.size 32 (fun _=> 0) (dg 256 FI) Tryz.size22 rfl rfl (Arr.newAt rfl (by rfl)) ?_)
  refine wp_world (fun w3=> Arr .u8 w3 w2.heap.size 32 (dg 256 FI)∧Below w2.heap.size w2 w3) ⟨(Arr.newAt rfl (by rfl):Arr .u8 _ _ 32 (fun _=> 0)).setRow _ _,below_setRow' ((Below.refl _ _).alloc (Nat.le_refl _) _) (Nat.le_refl _) _⟩ ?_
  rintro w3 ⟨h8,hb⟩
  replace h3:=h3.kept hb
  replace h4:=h4.kept hb
  replace hbel:=hbel.trans (hb.mono hbel.size)
  obtain ⟨x8,e8⟩:∃x,x=w2.heap.size:=⟨_,rfl⟩
  rw [←e8] at h8 hl4 ⊢
  clear e8 hb
  try simp only [Act.put,List.setIfInBounds_toArray,List.set_cons_succ,List.set_cons_zero]
  go_wp2_with (first
   | (refine load_arr rfl 22 _ rfl .u8 w.heap.size 32 (dg 256 S) 5 Tryz.underlying22 Tryz.size22 rfl h3 ?_)
   | (refine load_arr rfl 22 _ rfl .u8 (w.heap.size+1) 32 (dg 256 P) 5 Tryz.underlying22 Tryz.size22 rfl h4 ?_)
   | (refine load_arr rfl 22 _ rfl .u8 x8 32 (dg 256 FI) 5 Tryz.underlying22 Tryz.size22 rfl h8 ?_))
  refine (HKY.out _).mono ?_
  rintro e w4 ⟨rfl,hb⟩
  replace h8:=h8.kept hb
  replace hbel:=hbel.trans (hb.mono hbel.size)
  have hl8:=h8.lt
  clear hb h3 h4
  go_upto_region 3 with (refine store_arr rfl 22 _ _ rfl .u8 w4.heap.size 32 (fun _=> 0) K Tryz.size22 rfl rfl (Arr.newAt rfl (by rfl)) ?_)
  refine wp_world (fun w5=> Arr .u8 w5 w4.heap.size 32 K∧Below w4.heap.size w4 w5) ⟨(Arr.newAt rfl (by rfl):Arr .u8 _ _ 32 (fun _=> 0)).setRow _ _,below_setRow' ((Below.refl _ _).alloc (Nat.le_refl _) _) (Nat.le_refl _) _⟩ ?_
  rintro w5 ⟨h9,hb⟩
  replace h8:=h8.kept hb
  replace hbel:=hbel.trans (hb.mono hbel.size)
  obtain ⟨x9,e9⟩:∃x,x=w4.heap.size:=⟨_,rfl⟩
  rw [←e9] at h9 hl8 ⊢
  clear e9 hb
  try simp only [Act.put,List.setIfInBounds_toArray,List.set_cons_succ,List.set_cons_zero]
  go_wp2_with (first
   | (refine load_arr rfl 22 _ rfl .u8 x9 32 K 5 Tryz.underlying22 Tryz.size22 rfl h9 ?_)
   | (refine step_val rfl (run_built rfl (HB0.out _ _)) ?_))
  refine (HSE.out _ _ (HT0.out.below hbel)).mono ?_
  rintro e w6 ⟨u,rfl,hu,hb⟩
  have HU:=Lib.hid hu.rd
  replace h8:=h8.kept hb
  replace hbel:=hbel.trans (hb.mono hbel.size)
  have hlo:∀i,i<32→WF i=dg 256 FI i:=fun i hi=> by rw [HWF.out];unfold catF;rw [if_pos hi]
  have hhi:∀i,i<n+16→WF (32+i)=SF i:=fun i _=> by rw [HWF.out];unfold catF;rw [if_neg (by omega),show 32+i - 32=i by omega]
  have HC8:Hid (∀i,i<32→w6.cell? ⟨x8,0+i,none⟩=some (.int .u8 (WF i))):=fun i hi=> by rw [hlo i hi,Nat.zero_add];exact h8.cell i hi
  have HHI:=Lib.hid hhi
  have hnn:=HNN.out
  clear hb hu h9 hl8 hlo hhi
  go_wp2_with (at_builtin;refine append_full rfl _ _ 23 rfl 5 .u8 1 Tryz.underlying23 Tryz.info5 x8 0 32 WF HC8.out rfl u (n+16) SF HU.out rfl (by omega) HHI.out (by omega) (by omega) ?_;intro v' w7 hr hb7)
  have HRR:=Lib.hid (HR.out _ _ hr)
  have hb8:=hbel.trans (hb7.mono hbel.size)
  clear hr hb7 h8 hbel
  go_wp2
  go_ret2
  exact ⟨_,_,rfl,HRR.out,hb8⟩
def unwF (f2:Nat→Int):Int:=sm 256 f2 32
def unwX (T:Int) (f2:Nat→Int):Int:=mulN T (unwF f2)
def unwK (T:Int) (f2:Nat→Int):Nat→Int:=boxK (unwX T f2) (unwF f2) (mulN T 9)
def unwOk (T:Int) (n:Nat) (f2:Nat→Int):Bool:=opensB (unwK T f2) nn0 0 nn0 n (fun i=> f2 (32+i))
def unwH (T:Int) (f2:Nat→Int):Nat→Int:=hidB (unwK T f2) nn0 1 (fun i=> f2 (32+i))
def UnR (T:Int) (n:Nat) (f2:Nat→Int) (w:World) (u:Value) (er:Int):Prop:=(unwX T f2=0→u=.slice none 0 0∧er=21)∧(unwX T f2≠0→(unwOk T n f2=false→u=.slice none 0 0∧er=20)∧(unwOk T n f2=true→er=0∧Rd .u8 w u n (unwH T f2)))
theorem bxUnwrap_short (T:Int) (v:Value) (n:Nat) (f:Nat→Int) (w:World) (hv:Rd .u8 w v n f) (hn:n<48):
  Calls Tryz.prog 19 #[.agg (arr .u8 32 (dg 256 T)),v] w fun e w'=> e=.returned (.tuple #[.slice none 0 0,.int .i64 10])∧Below w.heap.size w w':=by
 obtain ⟨ta,tc,ev,_⟩:=id hv
 subst ev
 have h48:(n:Int)<48:=by omega
 clear hv hn
 go_enter Tryz.func19,Tryz.ntmps19
 go_wp2
 go_ret2
 exact ⟨rfl,(Below.refl _ _).alloc (Nat.le_refl _) _⟩
theorem bxUnwrap_any (T:Int) (v:Value) (n N:Nat) (hN:N=n+48) (f:Nat→Int) (w:World) (hv:Rd .u8 w v N f) (hn:n≤400) (hf:∀i,i<N→0≤f i∧f i<256):
  Calls Tryz.prog 19 #[.agg (arr .u8 32 (dg 256 T)),v] w fun e w'=> ∃u er,e=.returned (.tuple #[u,.int .i64 er])∧UnR T n f w' u er∧Below w.heap.size w w':=by
 have HPU:=Lib.hid (fun w=> ldPublic_any T w)
 have HKY:Hid (∀w,Calls Tryz.prog 39 #[.agg (arr .u8 32 (dg 256 T)),.agg (arr .u8 32 (dg 256 (unwF f))),.agg (arr .u8 32 (dg 256 (unwF f))),.agg (arr .u8 32 (dg 256 (mulN T 9)))] w fun e w'=> e=.returned (.tuple #[.agg (arr .u8 32 (bxKey (unwX T f) (unwF f) (mulN T 9))),.int .i64 (ldErr (unwX T f))])∧Below w.heap.size w w'):=fun w=> bxKey_any T (unwF f) (unwF f) (mulN T 9) w
 have HOP:Hid (∀w u,Rd .u8 w u (n+16) (fun i=> f (32+i))→Calls Tryz.prog 45 #[.agg (arr .u8 32 (unwK T f)),.agg (arr .u8 12 (fun _=> 0)),.slice none 0 0,u] w fun e w'=> ∃v,e=.returned v∧OpR (unwOk T n f) w' v n (unwH T f)∧Below w.heap.size w w'):=fun w u h=>
  aOpen_any _ nn0 (boxK_b _ _ _) (fun i _=> by unfold nn0;decide) _ u 0 n nn0 _ w (Rd.nil _ _ _) h (fun i hi=> absurd hi (by omega)) (fun i hi=> hf (32+i) (by omega)) (by decide) (by omega)
 have HB0:=Lib.hid (fun (a:Act) w=> build_b12 (a:=a) w)
 have HFQ:Hid (arr .u8 32 f=arr .u8 32 (dg 256 (unwF f))):=arr_congr fun i hi=> (dg_sm (by decide) (fun i hi=> hf i (by omega)) i hi).symm
 have HRP:Hid (∀w u er,((unwX T f=0→u=.slice none 0 0∧er=21)∧(unwX T f≠0→(unwOk T n f=false→u=.slice none 0 0∧er=20)∧(unwOk T n f=true→er=0∧Rd .u8 w u n (unwH T f))))→UnR T n f w u er):=fun w u er h=> h
 have HV0:=Lib.hid hv
 obtain ⟨ta,tc,ev,hc1,hc2,_,_⟩:=id hv
 subst ev
 have G1:=Lib.hid (Rd.head (P:=Tryz.prog) Tryz.underlying23 Tryz.info5 ta N tc 32 (by omega) hc1)
 obtain ⟨a2,g1,g2,g3⟩:=Rd.cut (P:=Tryz.prog) Tryz.underlying23 Tryz.info5 ta N tc 32 N (by omega) (Nat.le_refl _) hc1
 have G2:=Lib.hid g2
 have HRS:Hid (∀w,Rd .u8 w (.slice ta N tc) N f→Rd .u8 w (.slice a2 (N - 32) (tc - 32)) (n+16) (fun i=> f (32+i))):=fun w h=> by have h2:=(g3 w f h).2;rwa [show N - 32=n+16 by omega] at h2 ⊢
 obtain ⟨b1,o1,q1,l1,c1⟩:=(G1.out.2 _ _ hv).formAt (by decide)
 subst q1
 have HC1:=Lib.hid c1
 have h48:¬ (N:Int)<48:=by omega
 have hbig:¬ (1048576:Int)<(N:Int):=by omega
 have HKE:Hid (bxKey (unwX T f) (unwF f) (mulN T 9)=if unwX T f=0 then (fun _=> 0) else unwK T f):=rfl
 have HKE2:Hid (ldErr (unwX T f)=if unwX T f=0 then 21 else 0):=rfl
 obtain ⟨KR,hKR⟩:∃x,x=bxKey (unwX T f) (unwF f) (mulN T 9):=⟨_,rfl⟩
 obtain ⟨er,her⟩:∃x,x=ldErr (unwX T f):=⟨_,rfl⟩
 rw [←hKR] at HKY HKE
 rw [←her] at HKY HKE2
 obtain ⟨ok,hok⟩:∃x,x=unwOk T n f:=⟨_,rfl⟩
 rw [←hok] at HOP HRP
 obtain ⟨H,hH⟩:∃x,x=unwH T f:=⟨_,rfl⟩
 rw [←hH] at HOP HRP
 obtain ⟨K,hK⟩:∃x,x=unwK T f:=⟨_,rfl⟩
 rw [←hK] at HOP HKE
 obtain ⟨X,hX⟩:∃x,x=unwX T f:=⟨_,rfl⟩
 rw [←hX] at HKE HKE2 HRP
 obtain ⟨FI,hFI⟩:∃x,x=unwF f:=⟨_,rfl⟩
 rw [←hFI] at HKY HFQ
 obtain ⟨PT,hPT⟩:∃x,x=mulN T 9:=⟨_,rfl⟩
 rw [←hPT] at HPU HKY
 clear hN hKR her hok hH hK hX hFI hPT g1 g2 g3 c1 hv hf hc1 hc2 hn
 go_enter Tryz.func19,Tryz.ntmps19
 go_upto_region 1 with (fail)
 refine wp_world (fun w1=> Arr .u8 w1 w.heap.size 32 (dg 256 T)∧Below w.heap.size w w1) ⟨Arr.newAt rfl rfl,(Below.refl _ _).alloc (Nat.le_refl _) _⟩ ?_
 rintro w1 ⟨h2,hbel⟩
 have l1':b1<w1.heap.size:=Nat.lt_of_lt_of_le l1 hbel.size
 have HC1':Hid (∀i,i<32→w1.cell? ⟨b1,o1+i,none⟩=some (.int .u8 (f i))):=fun i hi=> (hbel.cell (p:=⟨b1,o1+i,none⟩) l1).trans (HC1.out i hi)
 clear HC1 l1
 go_upto_region 5 with (fail)
 refine region_vars (n:=40) (by kernel_rfl) (by kernel_rfl) (by kernel_rfl) rfl
  (isAl [(5,4)]) (putOf [(5,4)]) (fun _=> arr .u8 32 (fun _=> 0)) (fun _=> (arr .u8 32 (dg 256 FI))) (fun _=> 22) (fun _=> 6)
  (fun ii vv _=> (match ii with | 0=> vv=.slice (some ⟨b1,o1,none⟩) N tc | 1=> vv=.slice (some ⟨b1,o1,none⟩) 32 tc | 2=> vv=.pointer (some ⟨b1,o1,none⟩) | 3=> vv=.agg (arr .u8 32 (dg 256 FI)) | _=> True)) (fun _ _=> True) (fun _ _ _=> trivial) (fun _ _ _ _ _ _ _=> trivial) (fun _ _ _ _ h _=> h)
  (vs_al rfl) (vs_inj rfl) ?_ ?_ ?_ ?_
 ·refine Each.all ?_
  refine ⟨?_,?_,?_,?_,(fun h=> by cases h),(fun _ h=> by cases h),trivial⟩
  ·intro _ _ a w2 hB hF hd
   rw [if_pos (wanted_none rfl)]
   exact flow_move _ (.inl rfl) (by simp) (hF.same 1 rfl)
  ·intro _ _ a w2 hB hF hd
   rw [if_pos (wanted_none rfl)]
   exact flow_val (fun h=> by cases h) (run_slice_part rfl (hd 0 _ rfl rfl rfl (waits_spec rfl)) (by simp only [Option.map_some,Option.map_none];exact G1.out.1 _)) rfl
  ·intro _ _ a w2 hB hF hd
   rw [if_pos (wanted_none rfl)]
   exact flow_val (fun h=> by cases h) (run_to_array rfl (hd 1 _ rfl rfl rfl (waits_spec rfl)) Tryz.underlying22 (by decide)) rfl
  ·intro _ _ a w2 hB hF hd
   rw [if_pos (wanted_none rfl)]
   exact flow_val (fun h=> by cases h) (run_load_part rfl (hd 2 _ rfl rfl rfl (waits_spec rfl)) Tryz.underlying22 Tryz.size22 (fun i hi=> (hB.cell (p:=⟨b1,o1+i,none⟩) l1').trans (HC1'.out i hi))) (congrArg Value.agg HFQ.out)
 ·refine Each.all ?_
  refine ⟨(fun h=> by cases h),(fun h=> by cases h),(fun h=> by cases h),(fun h=> by cases h),?_,(fun h=> by cases h),trivial⟩
  ·exact fun _=> ⟨rfl,rfl,fun a w2 K h=> flow_alloc rfl rfl Tryz.zeroValue22 (by simp) h⟩
 ·refine Each.all ?_
  refine ⟨(fun _ h=> by cases h),(fun _ h=> by cases h),(fun _ h=> by cases h),(fun _ h=> by cases h),(fun _ h=> by cases h),?_,trivial⟩
  ·intro p hp
   obtain rfl:4=p:=Option.some.inj hp
   exact ⟨rfl,rfl,⟨_,rfl⟩,waits_spec rfl,fun a w2 b K hB hF hd hx hb h=> flow_put rfl rfl Tryz.size22 hx (hd 3 _ rfl rfl rfl (waits_spec rfl)) hb h⟩
 ·intro a w2 blk hB hF hS hv hfin hdis
  obtain ⟨v4,v4l,v4u⟩:=hv 4 _ rfl rfl
  have ha:=puts_each rfl rfl hF [_,_,_,_,_,undef] rfl ⟨hS 0 _ rfl rfl rfl,hS 1 _ rfl rfl rfl,hS 2 _ rfl rfl rfl,hS 3 _ rfl rfl rfl,v4,trivial,trivial⟩
  have f4:=hfin 5 _ 4 rfl rfl
  simp only [puts,Act.put,List.setIfInBounds_toArray,List.set_cons_succ,List.set_cons_zero] at ha
  subst ha
  have V4:Arr .u8 w2 (blk 4) 32 (dg 256 FI):=⟨_,f4⟩
  clear hS hv hfin hdis hF v4 f4
  replace h2:=h2.kept hB
  replace hbel:=hbel.trans (hB.mono hbel.size)
  obtain ⟨x6,e6⟩:∃x,x=blk 4:=⟨_,rfl⟩
  rw [←e6] at V4 ⊢
  have h6:=V4
  clear e6 hB V4 v4l v4u l1' HC1'
  go_upto_region 6 with (fail)
  refine region_vars (n:=40) (by kernel_rfl) (by kernel_rfl) (by kernel_rfl) rfl
   (isAl [(10,9)]) (putOf [(10,9)]) (fun _=> arr .u8 32 (fun _=> 0)) (fun _=> (arr .u8 32 (KR))) (fun _=> 22) (fun _=> 7)
   (fun ii vv _=> (match ii with | 0 | 3=> vv=.agg (arr .u8 32 (dg 256 T)) | 1 | 2=> vv=.agg (arr .u8 32 (dg 256 FI)) | 4=> vv=.agg (arr .u8 32 (dg 256 PT)) | 5 | 6=> vv=.tuple #[.agg (arr .u8 32 (KR)),.int .i64 (er)] | 7=> vv=.agg (arr .u8 32 (KR)) | 8 | 11=> vv=.int .i64 (er) | _=> True)) (fun _ _=> True) (fun _ _ _=> trivial) (fun _ _ _ _ _ _ _=> trivial) (fun _ _ _ _ h _=> h)
   (vs_al rfl) (vs_inj rfl) ?_ ?_ ?_ ?_
  ·refine Each.all ?_
   refine ⟨?_,?_,?_,?_,?_,?_,?_,?_,?_,(fun h=> by cases h),(fun _ h=> by cases h),?_,trivial⟩
   ·intro _ _ a w2 hB hF hd
    rw [if_pos (wanted_none rfl)]
    exact flow_val (fun h=> by cases h) (run_load_str rfl Tryz.underlying22 rfl Tryz.size22 (hF.same 2 rfl) (h2.below hB h2.lt)) rfl
   ·intro _ _ a w2 hB hF hd
    rw [if_pos (wanted_none rfl)]
    exact flow_val (fun h=> by cases h) (run_load_str rfl Tryz.underlying22 rfl Tryz.size22 (hF.same 6 rfl) (h6.below hB h6.lt)) rfl
   ·intro _ _ a w2 hB hF hd
    rw [if_pos (wanted_none rfl)]
    exact flow_val (fun h=> by cases h) (run_load_str rfl Tryz.underlying22 rfl Tryz.size22 (hF.same 6 rfl) (h6.below hB h6.lt)) rfl
   ·intro _ _ a w2 hB hF hd
    rw [if_pos (wanted_none rfl)]
    exact flow_val (fun h=> by cases h) (run_load_str rfl Tryz.underlying22 rfl Tryz.size22 (hF.same 2 rfl) (h2.below hB h2.lt)) rfl
   ·intro _ _ a w2 hB hF hd
    rw [if_pos (wanted_none rfl)]
    refine flow_call _ _ _ rfl Tryz.call38 _ (args1 (hd 3 _ rfl rfl rfl (waits_spec rfl))) (by simp) ((HPU.out w2).mono ?_)
    rintro e w3 ⟨rfl,hb⟩;exact ⟨_,rfl,rfl,hb⟩
   ·intro _ _ a w2 hB hF hd
    rw [if_pos (wanted_none rfl)]
    refine flow_call _ _ _ rfl Tryz.call39 _ (args4 (hd 0 _ rfl rfl rfl (waits_spec rfl)) (hd 1 _ rfl rfl rfl (waits_spec rfl)) (hd 2 _ rfl rfl rfl (waits_spec rfl)) (hd 4 _ rfl rfl rfl (waits_spec rfl))) (by simp) ((HKY.out w2).mono ?_)
    rintro e w3 ⟨rfl,hb⟩;exact ⟨_,rfl,rfl,hb⟩
   ·intro _ _ a w2 hB hF hd
    rw [if_pos (wanted_none rfl)]
    exact flow_move _ (.inl rfl) (by simp) (hd 5 _ rfl rfl rfl (waits_spec rfl))
   ·intro _ _ a w2 hB hF hd
    rw [if_pos (wanted_none rfl)]
    exact flow_val (fun h=> by cases h) (run_extract rfl (hd 6 _ rfl rfl rfl (waits_spec rfl)) rfl) rfl
   ·intro _ _ a w2 hB hF hd
    rw [if_pos (wanted_none rfl)]
    exact flow_val (fun h=> by cases h) (run_extract rfl (hd 6 _ rfl rfl rfl (waits_spec rfl)) rfl) rfl
   ·intro _ _ a w2 hB hF hd
    rw [if_pos (wanted_none rfl)]
    exact flow_move _ (.inr rfl) (by simp) (hd 8 _ rfl rfl rfl (waits_spec rfl))
  ·refine Each.all ?_
   refine ⟨(fun h=> by cases h),(fun h=> by cases h),(fun h=> by cases h),(fun h=> by cases h),(fun h=> by cases h),(fun h=> by cases h),(fun h=> by cases h),(fun h=> by cases h),(fun h=> by cases h),?_,(fun h=> by cases h),(fun h=> by cases h),trivial⟩
   ·exact fun _=> ⟨rfl,rfl,fun a w2 K h=> flow_alloc rfl rfl Tryz.zeroValue22 (by simp) h⟩
  ·refine Each.all ?_
   refine ⟨(fun _ h=> by cases h),(fun _ h=> by cases h),(fun _ h=> by cases h),(fun _ h=> by cases h),(fun _ h=> by cases h),(fun _ h=> by cases h),(fun _ h=> by cases h),(fun _ h=> by cases h),(fun _ h=> by cases h),(fun _ h=> by cases h),?_,(fun _ h=> by cases h),trivial⟩
   ·intro p hp
    obtain rfl:9=p:=Option.some.inj hp
    exact ⟨rfl,rfl,⟨_,rfl⟩,waits_spec rfl,fun a w2 b K hB hF hd hx hb h=> flow_put rfl rfl Tryz.size22 hx (hd 7 _ rfl rfl rfl (waits_spec rfl)) hb h⟩
  ·intro a w3 blk hB hF hS hv hfin hdis
   obtain ⟨v9,v9l,v9u⟩:=hv 9 _ rfl rfl
   have ha:=puts_each rfl rfl hF [_,_,_,_,_,_,_,_,_,_,undef,_] rfl ⟨hS 0 _ rfl rfl rfl,hS 1 _ rfl rfl rfl,hS 2 _ rfl rfl rfl,hS 3 _ rfl rfl rfl,hS 4 _ rfl rfl rfl,hS 5 _ rfl rfl rfl,hS 6 _ rfl rfl rfl,hS 7 _ rfl rfl rfl,hS 8 _ rfl rfl rfl,v9,trivial,hS 11 _ rfl rfl rfl,trivial⟩
   have f9:=hfin 10 _ 9 rfl rfl
   simp only [puts,Act.put,List.setIfInBounds_toArray,List.set_cons_succ,List.set_cons_zero] at ha
   subst ha
   have V9:Arr .u8 w3 (blk 9) 32 (KR):=⟨_,f9⟩
   clear hS hv hfin hdis hF v9 f9
   replace hbel:=hbel.trans (hB.mono hbel.size)
   obtain ⟨x7,e7⟩:∃x,x=blk 9:=⟨_,rfl⟩
   rw [←e7] at V9 ⊢
   have h7:=V9
   clear e7 hB V9 v9l v9u h2 h6
   by_cases hX:X=0
   case pos=>
    obtain rfl:er=21:=by rw [HKE2.out,if_pos hX]
    have HR:=Lib.hid (HRP.out w3 (.slice none 0 0) 21 ⟨fun _=> ⟨rfl,rfl⟩,fun h=> absurd hX h⟩)
    clear hX HKE HKE2 HRP
    go_wp2
    go_ret2
    exact ⟨_,_,rfl,HR.out,hbel⟩
   case neg=>
    obtain rfl:er=0:=by rw [HKE2.out,if_neg hX]
    obtain rfl:KR=K:=by rw [HKE.out,if_neg hX]
    have HR1:Hid (ok=false→∀w,UnR T n f w (.slice none 0 0) 20):=fun ho w=> HRP.out w _ _ ⟨fun h=> absurd h hX,fun _=> ⟨fun _=> ⟨rfl,rfl⟩,fun h=> (by rw [ho] at h;cases h)⟩⟩
    have HR2:Hid (ok=true→∀w u,Rd .u8 w u n H→UnR T n f w u 0):=fun ho w u hu=> HRP.out w _ _ ⟨fun h=> absurd h hX,fun _=> ⟨fun h=> (by rw [ho] at h;cases h),fun _=> ⟨rfl,hu⟩⟩⟩
    clear hX HKE HKE2 HRP
    go_upto_region 9 with (fail)
    cases ok
    case false=>
     have HO2:Hid (∀w u,Rd .u8 w u (n+16) (fun i=> f (32+i))→Calls Tryz.prog 45 #[.agg (arr .u8 32 KR),.agg (arr .u8 12 (fun _=> 0)),.slice none 0 0,u] w fun e w'=> e=.returned (.tuple #[.slice none 0 0,.int .i64 20])∧Below w.heap.size w w'):=fun w u h=> by
      refine (HOP.out w u h).mono ?_
      rintro e w' ⟨v,rfl,ho,hb⟩
      rw [ho.2 rfl]
      exact ⟨rfl,hb⟩
     refine region_flow (n:=40) (by kernel_rfl) (by kernel_rfl) (by kernel_rfl) rfl
      (fun ii vv _=> (match ii with | 0=> vv=.agg (arr .u8 32 (KR)) | 1=> vv=.agg (arr .u8 12 (fun _=> 0)) | 2=> vv=.slice (some ⟨b1,o1,none⟩) N tc | 3=> vv=.slice a2 (N - 32) (tc - 32) | 4=> vv=.tuple #[.slice none 0 0,.int .i64 (20)] | 5 | 7=> vv=.slice none 0 0 | 6 | 8=> vv=.int .i64 (20) | _=> True))
      (fun w w'=> Below w.heap.size w w') (fun _ _ h=> h) (fun _ _ _ _ h _=> h) ?_ ?_
     ·refine Each.all ?_
      refine ⟨?_,?_,?_,?_,?_,?_,?_,?_,?_,trivial⟩
      ·intro a w2 hB hF hd
       rw [if_pos (wanted_none rfl)]
       exact flow_val (fun h=> by cases h) (run_load_str rfl Tryz.underlying22 rfl Tryz.size22 (hF.same 7 rfl) (h7.below hB h7.lt)) rfl
      ·intro a w2 hB hF hd
       rw [if_pos (wanted_none rfl)]
       exact flow_val (fun h=> by cases h) (run_built rfl (HB0.out _ _)) rfl
      ·intro a w2 hB hF hd
       rw [if_pos (wanted_none rfl)]
       exact flow_move _ (.inl rfl) (by simp) (hF.same 1 rfl)
      ·intro a w2 hB hF hd
       rw [if_pos (wanted_none rfl)]
       exact flow_val (fun h=> by cases h) (run_slice_part rfl (hd 2 _ rfl (waits_spec rfl)) (by simp only [Option.map_some,Option.map_none];exact G2.out _)) rfl
      ·intro a w2 hB hF hd
       rw [if_pos (wanted_none rfl)]
       refine flow_call _ _ _ rfl Tryz.call45 _ (args4 (hd 0 _ rfl (waits_spec rfl)) (hd 1 _ rfl (waits_spec rfl)) rfl (hd 3 _ rfl (waits_spec rfl))) (by simp) ((HO2.out w2 _ (HRS.out _ ((HV0.out.below hbel).below hB))).mono ?_)
       rintro e w3 ⟨rfl,hb⟩;exact ⟨_,rfl,rfl,hb⟩
      ·intro a w2 hB hF hd
       rw [if_pos (wanted_none rfl)]
       exact flow_val (fun h=> by cases h) (run_extract rfl (hd 4 _ rfl (waits_spec rfl)) rfl) rfl
      ·intro a w2 hB hF hd
       rw [if_pos (wanted_none rfl)]
       exact flow_val (fun h=> by cases h) (run_extract rfl (hd 4 _ rfl (waits_spec rfl)) rfl) rfl
      ·intro a w2 hB hF hd
       rw [if_pos (wanted_none rfl)]
       exact flow_move _ (.inr rfl) (by simp) (hd 5 _ rfl (waits_spec rfl))
      ·intro a w2 hB hF hd
       rw [if_pos (wanted_none rfl)]
       exact flow_move _ (.inr rfl) (by simp) (hd 6 _ rfl (waits_spec rfl))
     ·intro a w4 hB hF hS
      have ha:=puts_each rfl rfl hF [_,_,_,_,_,_,_,_,_] rfl ⟨hS 0 _ rfl,hS 1 _ rfl,hS 2 _ rfl,hS 3 _ rfl,hS 4 _ rfl,hS 5 _ rfl,hS 6 _ rfl,hS 7 _ rfl,hS 8 _ rfl,trivial⟩
      simp only [puts,Act.put,List.setIfInBounds_toArray,List.set_cons_succ,List.set_cons_zero] at ha
      subst ha
      clear hS hF
      have hb4:=hbel.trans (hB.mono hbel.size)
      go_wp2
      go_ret2
      exact ⟨_,_,rfl,HR1.out (by trivial) _,hb4⟩
    case true=>
     have HO2:Hid (∀w u,Rd .u8 w u (n+16) (fun i=> f (32+i))→Calls Tryz.prog 45 #[.agg (arr .u8 32 KR),.agg (arr .u8 12 (fun _=> 0)),.slice none 0 0,u] w fun e w'=> ∃v,e=.returned v∧TupR w' v n H∧Below w.heap.size w w'):=fun w u h=> by
      refine (HOP.out w u h).mono ?_
      rintro e w' ⟨v,rfl,ho,hb⟩
      exact ⟨v,rfl,ho.1 rfl,hb⟩
     refine region_flow (n:=40) (by kernel_rfl) (by kernel_rfl) (by kernel_rfl) rfl
      (fun ii vv ww=> (match ii with | 0=> vv=.agg (arr .u8 32 (KR)) | 1=> vv=.agg (arr .u8 12 (fun _=> 0)) | 2=> vv=.slice (some ⟨b1,o1,none⟩) N tc | 3=> vv=.slice a2 (N - 32) (tc - 32) | 6 | 8=> vv=.int .i64 (0) | _=> True)∧(ii=4→TupR ww vv n (H))∧(ii=5→Rd .u8 ww vv n (H))∧(ii=7→Rd .u8 ww vv n (H)))
      (fun w w'=> Below w.heap.size w w') (fun _ _ h=> h) (fun i v w w' h hE=> ⟨h.1,fun e=> TupR.below (h.2.1 e) hE,fun e=> Rd.below (h.2.2.1 e) hE,fun e=> Rd.below (h.2.2.2 e) hE⟩) ?_ ?_
     ·refine Each.all ?_
      refine ⟨?_,?_,?_,?_,?_,?_,?_,?_,?_,trivial⟩
      ·intro a w2 hB hF hd
       rw [if_pos (wanted_none rfl)]
       exact flow_val (fun h=> by cases h) (run_load_str rfl Tryz.underlying22 rfl Tryz.size22 (hF.same 7 rfl) (h7.below hB h7.lt)) ⟨rfl,fun h=> absurd h (by decide),fun h=> absurd h (by decide),fun h=> absurd h (by decide)⟩
      ·intro a w2 hB hF hd
       rw [if_pos (wanted_none rfl)]
       exact flow_val (fun h=> by cases h) (run_built rfl (HB0.out _ _)) ⟨rfl,fun h=> absurd h (by decide),fun h=> absurd h (by decide),fun h=> absurd h (by decide)⟩
      ·intro a w2 hB hF hd
       rw [if_pos (wanted_none rfl)]
       exact flow_move _ (.inl rfl) (by simp) ⟨(hF.same 1 rfl),fun h=> absurd h (by decide),fun h=> absurd h (by decide),fun h=> absurd h (by decide)⟩
      ·intro a w2 hB hF hd
       rw [if_pos (wanted_none rfl)]
       exact flow_val (fun h=> by cases h) (run_slice_part rfl ((hd 2 _ rfl (waits_spec rfl)).1) (by simp only [Option.map_some,Option.map_none];exact G2.out _)) ⟨rfl,fun h=> absurd h (by decide),fun h=> absurd h (by decide),fun h=> absurd h (by decide)⟩
      ·intro a w2 hB hF hd
       rw [if_pos (wanted_none rfl)]
       refine flow_call _ _ _ rfl Tryz.call45 _ (args4 ((hd 0 _ rfl (waits_spec rfl)).1) ((hd 1 _ rfl (waits_spec rfl)).1) rfl ((hd 3 _ rfl (waits_spec rfl)).1)) (by simp) ((HO2.out w2 _ (HRS.out _ ((HV0.out.below hbel).below hB))).mono ?_)
       rintro e w3 ⟨u,rfl,hr,hb⟩;exact ⟨u,rfl,⟨trivial,fun _=> hr,fun h=> absurd h (by decide),fun h=> absurd h (by decide)⟩,hb⟩
      ·intro a w2 hB hF hd
       rw [if_pos (wanted_none rfl)]
       obtain ⟨u_,eu_,hu_⟩:=((hd 4 _ rfl (waits_spec rfl)).2.1 rfl)
       exact flow_val (fun h=> by cases h) (run_extract rfl eu_ rfl) ⟨trivial,fun h=> absurd h (by decide),fun _=> (hu_),fun h=> absurd h (by decide)⟩
      ·intro a w2 hB hF hd
       rw [if_pos (wanted_none rfl)]
       obtain ⟨u_,eu_,hu_⟩:=((hd 4 _ rfl (waits_spec rfl)).2.1 rfl)
       exact flow_val (fun h=> by cases h) (run_extract rfl eu_ rfl) ⟨rfl,fun h=> absurd h (by decide),fun h=> absurd h (by decide),fun h=> absurd h (by decide)⟩
      ·intro a w2 hB hF hd
       rw [if_pos (wanted_none rfl)]
       exact flow_move _ (.inr rfl) (by simp) ⟨trivial,fun h=> absurd h (by decide),fun h=> absurd h (by decide),fun _=> ((hd 5 _ rfl (waits_spec rfl)).2.2.1 rfl)⟩
      ·intro a w2 hB hF hd
       rw [if_pos (wanted_none rfl)]
       exact flow_move _ (.inr rfl) (by simp) ⟨((hd 6 _ rfl (waits_spec rfl)).1),fun h=> absurd h (by decide),fun h=> absurd h (by decide),fun h=> absurd h (by decide)⟩
     ·intro a w4 hB hF hS
      obtain ⟨x37,hx37⟩:∃x,x=a.tmps.getD 37 undef:=⟨_,rfl⟩
      have P37:TupR w4 x37 n (H):=by rw [hx37];exact (hS 4 _ rfl).2.1 rfl
      obtain ⟨x38,hx38⟩:∃x,x=a.tmps.getD 38 undef:=⟨_,rfl⟩
      have P38:Rd .u8 w4 x38 n (H):=by rw [hx38];exact (hS 5 _ rfl).2.2.1 rfl
      obtain ⟨x4,hx4⟩:∃x,x=a.tmps.getD 4 undef:=⟨_,rfl⟩
      have P4:Rd .u8 w4 x4 n (H):=by rw [hx4];exact (hS 7 _ rfl).2.2.2 rfl
      have ha:=puts_each rfl rfl hF [_,_,_,_,x37,x38,_,x4,_] rfl ⟨(hS 0 _ rfl).1,(hS 1 _ rfl).1,(hS 2 _ rfl).1,(hS 3 _ rfl).1,hx37.symm,hx38.symm,(hS 6 _ rfl).1,hx4.symm,(hS 8 _ rfl).1,trivial⟩
      simp only [puts,Act.put,List.setIfInBounds_toArray,List.set_cons_succ,List.set_cons_zero] at ha
      subst ha
      clear hx37 hx38 hx4
      clear hS hF
      have hb4:=hbel.trans (hB.mono hbel.size)
      have HR:=Lib.hid (HR2.out (by trivial) _ _ P4)
      clear P4 P37 P38
      go_wp2
      go_ret2
      exact ⟨_,_,rfl,HR.out,hb4⟩
theorem bxSize_any (n:Int) (h0: -9223372036854775808≤n) (h1:n≤9223372036854775807) (w:World):Calls Tryz.prog 18 #[.int .i64 n] w fun e w'=> e=.returned (.int .i64 (if 0≤n∧n≤1048528 then n+48 else 0))∧Below w.heap.size w w':=by
 by_cases hc:0≤n∧n≤1048528
 ·rw [if_pos hc]
  have q1:¬ n<0:=by omega
  have q2:¬ 1048528<n:=by omega
  have q3:IntKind.i64.wrap (n+48)=n+48:=wrap_i64_id (by omega) (by omega)
  clear hc h0 h1
  go_enter Tryz.func18,Tryz.ntmps18
  go_wp2
  go_ret
  exact ⟨rfl,Below.refl _ _⟩
 ·rw [if_neg hc]
  by_cases q1:n<0
  ·clear hc h0 h1
   go_enter Tryz.func18,Tryz.ntmps18
   go_wp2
   go_ret
   exact ⟨rfl,Below.refl _ _⟩
  ·have q2:1048528<n:=by omega
   clear hc h0 h1
   go_enter Tryz.func18,Tryz.ntmps18
   go_wp2
   go_ret
   exact ⟨rfl,Below.refl _ _⟩
end Go.Proofs.YtdhejcaapdhhfaaGreat
namespace Go.Bas
open Go.RowKit
def Two2 (w:World) (e:TypeId) (N:Nat) (v:Value) (T:TypeId) (f g:Nat→Int):Prop:=∃b u1 u2,v=.slice (some ⟨b,0,none⟩) 2 2∧w.heap[b]? =some (.cells [u1,u2].toArray T (0,0))∧Own .u8 e N w u1 32 f∧Own .u8 e N w u2 32 g
theorem Two2.keepT {Ts:List TypeId} {w w':World} {e:TypeId} {N:Nat} {v:Value} {T:TypeId} {f g:Nat→Int} (hT:Ts.contains T=false) (he:Ts.contains e=false) (h:Two2 w e N v T f g) (hk:KeepT Ts w w'):Two2 w' e N v T f g:=by
 obtain ⟨b,u1,u2,e1,h1,h2,h3⟩:=h
 exact ⟨b,u1,u2,e1,hk b _ T hT h1,h2.keepT he hk,h3.keepT he hk⟩
theorem Two2.txt {w:World} {e:TypeId} {N:Nat} {v:Value} {T:TypeId} {f g:Nat→Int} (h:Two2 w e N v T f g):Txt w v 2 (catL 1 (fun _=> 32) (fun _=> 32)) (catG 1 (fun _=> f) (fun _=> g)):=by
 obtain ⟨b,u1,u2,rfl,h,h1,h2⟩:=h
 exact LitB.txt2 ⟨b,rfl,h⟩ h1.rd h2.rd
theorem flow_make {P:Program} {w:World} {o:Oper} {a:Act} {S:Value→World→Prop} {Q:Exit→Act→World→Prop} (l c:Operand) (t:TypeId) (hop:o.op=Op.makeSlice t l c) (e:TypeId) (k:IntKind) (bytes:Nat)
  (h1:P.underlying t=some (.slice e)) (hinfo:(P.info? e).map (fun i=> (i.zero,i.size,i.bytes))=some (some (.int k 0),1,bytes))
  (kl kc:IntKind) (n:Nat) (hl:a.eval l=.int kl (n:Int)) (hc:a.eval c=.int kc (n:Int)) (b2:bytes * n≤281474976710656) (b3:n≤9223372036854775807) (hd:o.dst≠none)
  (hS:∀w',Rd k w' (.slice (some ⟨w.heap.size,0,none⟩) n n) n (fun _=> 0)→S (.slice (some ⟨w.heap.size,0,none⟩) n n) w'):
  o.wp P a w (fun a' w'=> ∃v,a'=a.put o.dst v∧(o.dst=none→v=undef)∧S v w'∧Below w.heap.size w w') Q:=by
 obtain ⟨i,hi,hz0,hz1,hz2⟩:=info_parts hinfo
 obtain ⟨w',hrun,r1,r2⟩:=run_make_full (P:=P) w 0 t e i (.int k 0) 1 h1 hi hz0 hz1 kl kc n (by rw [hz2];exact b2) (by unfold maxLen;omega) (Nat.zero_le _)
 unfold Oper.wp
 simp only [execOp,hop,hl,hc,hrun,Sem.run_bind,Result.andThen_ok,Sem.run_pure]
 refine ⟨_,rfl,fun h=> absurd h hd,hS w' ?_,below_grown0 (Below.refl _ _) r2 (Nat.le_refl _)⟩
 have ho:Own k e 0 w' (.slice (some ⟨w.heap.size,0,none⟩) n n) n (fun _=> 0):=by
  unfold Own
  simpa [toList_madeCells_one,Value.cells,vals_const] using r1
 exact ho.rd
theorem nine_dg:∀i,i<32→upd (fun _=> 0) 0 9 i=dg 256 9 i:=by
 have key:∀i:Fin 32,upd (fun _=> 0) 0 9 i.val=dg 256 9 i.val:=by decide+kernel
 exact fun i h=> key ⟨i,h⟩
end Go.Bas
namespace Go.Proofs.YtdhejcaapdhhfaaGreat
open Go.RowKit Go.Bas Go.ChangeShapes
attribute [local go_sem ↓] Go.wp_at_zero Go.wp_at_succ
theorem rxBase_any (w:World):Calls Tryz.prog 92 #[] w fun e w'=> e=.returned (.agg (arr .u8 32 (dg 256 9)))∧Below w.heap.size w w':=by
 go_enter Tryz.func92,Tryz.ntmps92
 go_upto_region 2 with (fail)
 refine wp_world (fun w1=> Arr .u8 w1 w.heap.size 32 (fun _=> 0)∧Arr .u8 w1 (w.heap.size+1) 32 (fun _=> 0)∧Below w.heap.size w w1) ⟨.alloc (Arr.newAt rfl (by rfl)) _,Arr.newAt (by first | omega | (simp<;> omega)) (by rfl),((Below.refl _ _).alloc (Nat.le_refl _) _).alloc (by first | omega | (simp<;> omega)) _⟩ ?_
 rintro w1 ⟨h0,h1,hbel⟩
 have e0:=h1.cell 0 (by decide)
 have f0:=h1.free 0
 go_upto_region 3 with (fail)
 refine wp_world (fun w2=> Arr .u8 w2 w.heap.size 32 (fun _=> 0)∧Arr .u8 w2 (w.heap.size+1) 32 (dg 256 9)∧Below w.heap.size w w2) ⟨Arr.other (p:=⟨w.heap.size+1,0,none⟩) h0 (show w.heap.size≠w.heap.size+1 by omega) _,(h1.set 0 9).congr nine_dg,hbel.setCell (p:=⟨w.heap.size+1,0,none⟩) (show w.heap.size≤w.heap.size+1 by omega) _⟩ ?_
 clear h0 h1 hbel e0 f0
 rintro w2 ⟨h0,h1,hbel⟩
 try simp only [Act.put,List.setIfInBounds_toArray,List.set_cons_succ,List.set_cons_zero]
 go_wp2_with (first
  | (refine load_arr rfl 22 _ rfl .u8 (w.heap.size+1) 32 (dg 256 9) 5 Tryz.underlying22 Tryz.size22 rfl h1 ?_)
  | (refine store_arr rfl 22 _ _ rfl .u8 w.heap.size 32 (fun _=> 0) (dg 256 9) Tryz.size22 rfl rfl h0 ?_))
 exact bodyPost_ret (results_arr rfl _ _ .u8 w.heap.size 32 _ 5 rfl (h0.setRow _ _) Tryz.underlying22 Tryz.size22) rfl ⟨rfl,below_setRow' hbel (Nat.le_refl _) _⟩
theorem rxPublic_any (S:Int) (w:World):Calls Tryz.prog 41 #[.agg (arr .u8 32 (dg 256 S))] w fun e w'=> e=.returned (.agg (arr .u8 32 (dg 256 (mulN S 9))))∧Below w.heap.size w w':=by
 have HML:=Lib.hid (fun w=> rdMul_any S 9 w)
 have HBA:=Lib.hid (fun w=> rxBase_any w)
 obtain ⟨M,hM⟩:∃x,x=mulN S 9:=⟨_,rfl⟩
 rw [show ladN (clampN S) (9 % 2 ^ 255) % Pr=M from hM.symm] at HML
 rw [←hM]
 clear hM
 obtain ⟨D9,hD⟩:∃x,x=dg 256 9:=⟨_,rfl⟩
 rw [←hD] at HML HBA
 clear hD
 go_enter Tryz.func41,Tryz.ntmps41
 go_upto_region 1 with (fail)
 refine wp_world (fun w1=> Arr .u8 w1 w.heap.size 32 (dg 256 S)∧Arr .u8 w1 (w.heap.size+1) 32 (fun _=> 0)∧Below w.heap.size w w1) ⟨.alloc (Arr.newAt rfl rfl) _,Arr.newAt (by first | omega | (simp<;> omega)) (by rfl),((Below.refl _ _).alloc (Nat.le_refl _) _).alloc (by first | omega | (simp<;> omega)) _⟩ ?_
 rintro w1 ⟨h1,h2,hbel⟩
 refine region_last' (n:=6) 3 rfl (by decide) (by kernel_rfl) (by kernel_rfl) (by kernel_rfl) (by kernel_rfl) rfl
  (fun ii vv _=> (match ii with | 0=> vv=.agg (arr .u8 32 (dg 256 S)) | 1=> vv=.agg (arr .u8 32 (D9)) | 2=> vv=.agg (arr .u8 32 (dg 256 M)) | _=> True))
  (fun w w'=> Below w.heap.size w w') (fun _ _ h=> h) (fun _ _ _ _ h _=> h) rfl ?_ ?_
 ·refine Each.all ?_
  refine ⟨?_,?_,?_,(fun h=> absurd rfl h),trivial⟩
  ·intro _ a w2 hB hF hd
   rw [if_pos (wanted_none rfl)]
   exact flow_val (fun h=> by cases h) (run_load_str rfl Tryz.underlying22 rfl Tryz.size22 (hF.same 1 rfl) (h1.below hB h1.lt)) rfl
  ·intro _ a w2 hB hF hd
   rw [if_pos (wanted_none rfl)]
   refine flow_call _ _ _ rfl Tryz.call92 _ args0 (by simp) ((HBA.out w2).mono ?_)
   rintro e w3 ⟨rfl,hb⟩;exact ⟨_,rfl,rfl,hb⟩
  ·intro _ a w2 hB hF hd
   rw [if_pos (wanted_none rfl)]
   refine flow_call _ _ _ rfl Tryz.call43 _ (args2 (hd 0 _ rfl (waits_spec rfl)) (hd 1 _ rfl (waits_spec rfl))) (by simp) ((HML.out w2).mono ?_)
   rintro e w3 ⟨rfl,hb⟩;exact ⟨_,rfl,rfl,hb⟩
 ·intro a w2 hB hF hS
  have ha:=puts_each rfl rfl hF [_,_,_,undef] rfl ⟨hS 0 _ rfl (by decide),hS 1 _ rfl (by decide),hS 2 _ rfl (by decide),trivial,trivial⟩
  simp only [puts,Act.put,List.setIfInBounds_toArray,List.set_cons_succ,List.set_cons_zero] at ha
  subst ha
  clear hS hF
  replace h2:=h2.kept hB
  replace hbel:=hbel.trans (hB.mono hbel.size)
  clear hB h1
  refine wp_store_arr 22 _ _ rfl .u8 (w.heap.size+1) 32 (fun _=> 0) (dg 256 M) Tryz.size22 rfl rfl h2 ?_
  go_wp2
  exact bodyPost_ret (results_arr rfl _ _ .u8 (w.heap.size+1) 32 _ 5 rfl (h2.setRow 32 (dg 256 M)) Tryz.underlying22 Tryz.size22) rfl ⟨rfl,below_setRow' hbel (by omega) _⟩
theorem mulN_same (S U:Int):sameB 32 (dg 256 (mulN S U)) (fun _=> 0)=decide (mulN S U=0):=by
 have h:=mulN_zero S U
 have e:∀i,i<32→dg 256 0 i=(fun _=> 0:Nat→Int) i:=fun i _=> by show (0:Int) / 256 ^ i % 256=0;rw [Int.zero_ediv];rfl
 rw [←h]
 unfold sameB
 exact decide_eq_decide.2 ⟨fun h i hi=> (h i hi).trans (e i hi).symm,fun h i hi=> (h i hi).trans (e i hi)⟩
theorem rBytes32_b (f:Nat→Int) (hf:∀i,i<32→0≤f i∧f i<256) (N:Nat) (w:World) (hN:N≤w.heap.size):
  Calls Tryz.prog 35 #[.agg (arr .u8 32 f)] w fun e w'=> ∃v,e=.returned v∧Go.Bas.Own .u8 5 N w' v 32 f∧Below w.heap.size w w':=by
 refine (rBytes32_any f hf w).mono ?_
 rintro e w' ⟨v,rfl,h,hb⟩
 exact ⟨v,rfl,Go.Bas.Own.mono h (by omega),hb⟩
theorem rxKey_any (S O F P:Int) (w:World):Calls Tryz.prog 42 #[.agg (arr .u8 32 (dg 256 (mulN S O))),.agg (arr .u8 32 (dg 256 F)),.agg (arr .u8 32 (dg 256 P))] w fun e w'=>
  e=.returned (.tuple #[.agg (arr .u8 32 (bxKey (mulN S O) F P)),.bool (!decide (mulN S O=0))])∧Below w.heap.size w w':=by
 have HDR:Hid (∀w v t,Rd .u8 w v 32 (dg 256 (mulN S O))→Txt w t 2 boxL (boxG F P)→Calls Tryz.prog 93 #[v,.string boxS,t] w fun e w'=> e=.returned (.tuple #[.agg (arr .u8 32 (boxK (mulN S O) F P)),.int .i64 0])∧Below w.heap.size w w'):=fun w v t hv ht=>
  rdKey_any v 32 (dg 256 (mulN S O)) boxS t 2 boxL (boxG F P) w hv (by decide) (by decide) (fun i _=> dg_bound (by decide) _ _) (by decide) ht (by decide) boxL_le (boxG_b F P)
 have HSM:=Lib.hid (mulN_same S O)
 have HK:Hid (bxKey (mulN S O) F P=if mulN S O=0 then (fun _=> 0) else boxK (mulN S O) F P):=rfl
 obtain ⟨X,hX⟩:∃X,X=mulN S O:=⟨_,rfl⟩
 rw [←hX] at HDR HSM HK ⊢
 obtain ⟨ok,hok⟩:∃b,b= !decide (X=0):=⟨_,rfl⟩
 rw [←hok]
 obtain ⟨KK,hKK⟩:∃K,K=boxK X F P:=⟨_,rfl⟩
 rw [←hKK] at HDR HK
 obtain ⟨KR,hKR⟩:∃K,K=bxKey X F P:=⟨_,rfl⟩
 rw [←hKR] at HK ⊢
 clear hX hKK hKR
 go_enter Tryz.func42,Tryz.ntmps42
 go_upto_region 2 with (fail)
 refine wp_world (fun w1=> Arr .u8 w1 w.heap.size 32 (dg 256 X)∧Arr .u8 w1 (w.heap.size+1) 32 (dg 256 F)∧Arr .u8 w1 (w.heap.size+2) 32 (dg 256 P)∧Arr .u8 w1 (w.heap.size+3) 32 (fun _=> 0)∧Arr .u8 w1 (w.heap.size+4) 32 (fun _=> 0)∧Below w.heap.size w w1)
  ⟨.alloc (.alloc (.alloc (.alloc (Arr.newAt rfl rfl) _) _) _) _,.alloc (.alloc (.alloc (Arr.newAt (by first | omega | (simp<;> omega)) rfl) _) _) _,.alloc (.alloc (Arr.newAt (by first | omega | (simp<;> omega)) rfl) _) _,.alloc (Arr.newAt (by first | omega | (simp<;> omega)) (by rfl)) _,Arr.newAt (by first | omega | (simp<;> omega)) (by rfl),(((((Below.refl _ _).alloc (Nat.le_refl _) _).alloc (by first | omega | (simp<;> omega)) _).alloc (by first | omega | (simp<;> omega)) _).alloc (by first | omega | (simp<;> omega)) _).alloc (by first | omega | (simp<;> omega)) _⟩ ?_
 rintro w1 ⟨h3,h4,h5,h6,h8,hbel⟩
 by_cases hX:X=0
 case pos=>
  obtain rfl:KR=fun _=> 0:=by rw [HK.out,if_pos hX]
  have HQ:Hid (sameB 32 (dg 256 X) (fun _=> 0)=true):=by rw [HSM.out];exact decide_eq_true hX
  obtain rfl:ok=false:=by rw [hok,decide_eq_true hX];rfl
  clear hX HK HSM hok
  refine region_flow (n:=27) (by kernel_rfl) (by kernel_rfl) (by kernel_rfl) rfl
   (fun ii vv _=> (match ii with | 0=> vv=.agg (arr .u8 32 (dg 256 X)) | 1=> vv=.agg (arr .u8 32 (fun _=> 0)) | 2=> vv=.bool true | _=> True))
   (fun w w'=> Below w.heap.size w w') (fun _ _ h=> h) (fun _ _ _ _ h _=> h) ?_ ?_
  ·refine Each.all ?_
   refine ⟨?_,?_,?_,trivial⟩
   ·intro a w2 hB hF hd
    rw [if_pos (wanted_none rfl)]
    exact flow_val (fun h=> by cases h) (run_load_str rfl Tryz.underlying22 rfl Tryz.size22 (hF.same 3 rfl) (h3.below hB h3.lt)) rfl
   ·intro a w2 hB hF hd
    rw [if_pos (wanted_none rfl)]
    exact flow_val (fun h=> by cases h) (run_load_str rfl Tryz.underlying22 rfl Tryz.size22 (hF.same 8 rfl) (h8.below hB h8.lt)) rfl
   ·intro a w2 hB hF hd
    rw [if_pos (wanted_none rfl)]
    exact flow_val (fun h=> by cases h) (run_eql_arr true rfl (hd 0 _ rfl (waits_spec rfl)) (hd 1 _ rfl (waits_spec rfl)) Tryz.underlying22 (by kernel_rfl) (by kernel_rfl) (by kernel_rfl) (by kernel_rfl) (by kernel_rfl) HQ.out) rfl
  ·intro a w2 hB hF hS
   have ha:=puts_each rfl rfl hF [_,_,_] rfl ⟨hS 0 _ rfl,hS 1 _ rfl,hS 2 _ rfl,trivial⟩
   simp only [puts,Act.put,List.setIfInBounds_toArray,List.set_cons_succ,List.set_cons_zero] at ha
   subst ha
   clear hS hF
   replace h6:=h6.kept hB
   replace h8:=h8.kept hB
   replace hbel:=hbel.trans (hB.mono hbel.size)
   clear hB
   go_wp2_with (first
    | (refine load_arr rfl 22 _ rfl .u8 (w.heap.size+4) 32 (fun _=> 0) 5 Tryz.underlying22 Tryz.size22 rfl h8 ?_)
    | (refine store_arr rfl 22 _ _ rfl .u8 (w.heap.size+3) 32 (fun _=> 0) (fun _=> 0) Tryz.size22 rfl rfl h6 ?_))
   exact bodyPost_ret (results_arr2 rfl _ _ .u8 (w.heap.size+3) 32 _ 5 rfl (h6.setRow 32 (fun _=> 0)) Tryz.underlying22 Tryz.size22) rfl ⟨rfl,below_setRow' hbel (by omega) _⟩
 case neg=>
  obtain rfl:KR=KK:=by rw [HK.out,if_neg hX]
  have HQ:Hid (sameB 32 (dg 256 X) (fun _=> 0)=false):=by rw [HSM.out];exact decide_eq_false hX
  obtain rfl:ok=true:=by rw [hok,decide_eq_false hX];rfl
  clear hX HK HSM hok
  refine region_flow (n:=27) (by kernel_rfl) (by kernel_rfl) (by kernel_rfl) rfl
   (fun ii vv _=> (match ii with | 0=> vv=.agg (arr .u8 32 (dg 256 X)) | 1=> vv=.agg (arr .u8 32 (fun _=> 0)) | 2=> vv=.bool false | _=> True))
   (fun w w'=> Below w.heap.size w w') (fun _ _ h=> h) (fun _ _ _ _ h _=> h) ?_ ?_
  ·refine Each.all ?_
   refine ⟨?_,?_,?_,trivial⟩
   ·intro a w2 hB hF hd
    rw [if_pos (wanted_none rfl)]
    exact flow_val (fun h=> by cases h) (run_load_str rfl Tryz.underlying22 rfl Tryz.size22 (hF.same 3 rfl) (h3.below hB h3.lt)) rfl
   ·intro a w2 hB hF hd
    rw [if_pos (wanted_none rfl)]
    exact flow_val (fun h=> by cases h) (run_load_str rfl Tryz.underlying22 rfl Tryz.size22 (hF.same 8 rfl) (h8.below hB h8.lt)) rfl
   ·intro a w2 hB hF hd
    rw [if_pos (wanted_none rfl)]
    exact flow_val (fun h=> by cases h) (run_eql_arr false rfl (hd 0 _ rfl (waits_spec rfl)) (hd 1 _ rfl (waits_spec rfl)) Tryz.underlying22 (by kernel_rfl) (by kernel_rfl) (by kernel_rfl) (by kernel_rfl) (by kernel_rfl) HQ.out) rfl
  ·intro a w2 hB hF hS
   have ha:=puts_each rfl rfl hF [_,_,_] rfl ⟨hS 0 _ rfl,hS 1 _ rfl,hS 2 _ rfl,trivial⟩
   simp only [puts,Act.put,List.setIfInBounds_toArray,List.set_cons_succ,List.set_cons_zero] at ha
   subst ha
   clear hS hF
   replace h3:=h3.kept hB
   replace h4:=h4.kept hB
   replace h5:=h5.kept hB
   replace h6:=h6.kept hB
   replace hbel:=hbel.trans (hB.mono hbel.size)
   have hl6:=h6.lt
   clear hB h8
   obtain ⟨wq,hwq⟩:∃x,x=w2:=⟨_,rfl⟩
   rw [←hwq] at h3 h4 h5 h6 hbel hl6 ⊢
   clear hwq
   go_upto_region 4 with (fail)
   refine region_vars (n:=27) (by kernel_rfl) (by kernel_rfl) (by kernel_rfl) rfl
    (isAl [(12,11)]) (putOf [(12,11)]) (fun _=> arr .u8 32 (fun _=> 0)) (fun _=> (arr .u8 32 (KR))) (fun _=> 22) (fun _=> 9)
    (fun ii vv ww=> (match ii with | 0=> vv=.agg (arr .u8 32 (dg 256 X)) | 2=> vv=.agg (arr .u8 32 (dg 256 F)) | 4=> vv=.agg (arr .u8 32 (dg 256 P)) | 7 | 8=> vv=.tuple #[.agg (arr .u8 32 (KR)),.int .i64 (0)] | 9=> vv=.agg (arr .u8 32 (KR)) | 10 | 13=> vv=.int .i64 (0) | _=> True)∧(ii=1→Go.Bas.Own .u8 5 wq.heap.size ww vv 32 (dg 256 X))∧(ii=3→Go.Bas.Own .u8 5 wq.heap.size ww vv 32 (dg 256 F))∧(ii=5→Go.Bas.Own .u8 5 wq.heap.size ww vv 32 (dg 256 P))∧(ii=6→Two2 ww 5 wq.heap.size vv 23 (dg 256 F) (dg 256 P))) (KeepT [22]) (fun _ _ h=> KeepT.below h) (fun w b cs p _ _ hz=> KeepT.row hz rfl) (fun i v w w' h hE=> ⟨h.1,fun e=> Go.Bas.Own.keepT rfl (h.2.1 e) hE,fun e=> Go.Bas.Own.keepT rfl (h.2.2.1 e) hE,fun e=> Go.Bas.Own.keepT rfl (h.2.2.2.1 e) hE,fun e=> Two2.keepT rfl rfl (h.2.2.2.2 e) hE⟩)
    (vs_al rfl) (vs_inj rfl) ?_ ?_ ?_ ?_
   ·refine Each.all ?_
    refine ⟨?_,?_,?_,?_,?_,?_,?_,?_,?_,?_,?_,(fun h=> by cases h),(fun _ h=> by cases h),?_,trivial⟩
    ·intro _ _ a w2 hB hF hd
     rw [if_pos (wanted_none rfl)]
     exact flow_val (fun h=> by cases h) (run_load_str rfl Tryz.underlying22 rfl Tryz.size22 (hF.same 3 rfl) (h3.below hB h3.lt)) ⟨rfl,fun h=> absurd h (by decide),fun h=> absurd h (by decide),fun h=> absurd h (by decide),fun h=> absurd h (by decide)⟩
    ·intro _ _ a w2 hB hF hd
     rw [if_pos (wanted_none rfl)]
     refine flow_call _ _ _ rfl Tryz.call35 _ (args1 ((hd 0 _ rfl rfl rfl (waits_spec rfl)).1)) (by simp) ((rBytes32_b (dg 256 X) (fun i _=> dg_bound (by decide) _ _) wq.heap.size w2 hB.size).mono ?_)
     rintro e w3 ⟨u,rfl,hr,hb⟩;exact ⟨u,rfl,⟨trivial,fun _=> hr,fun h=> absurd h (by decide),fun h=> absurd h (by decide),fun h=> absurd h (by decide)⟩,hb⟩
    ·intro _ _ a w2 hB hF hd
     rw [if_pos (wanted_none rfl)]
     exact flow_val (fun h=> by cases h) (run_load_str rfl Tryz.underlying22 rfl Tryz.size22 (hF.same 4 rfl) (h4.below hB h4.lt)) ⟨rfl,fun h=> absurd h (by decide),fun h=> absurd h (by decide),fun h=> absurd h (by decide),fun h=> absurd h (by decide)⟩
    ·intro _ _ a w2 hB hF hd
     rw [if_pos (wanted_none rfl)]
     refine flow_call _ _ _ rfl Tryz.call35 _ (args1 ((hd 2 _ rfl rfl rfl (waits_spec rfl)).1)) (by simp) ((rBytes32_b (dg 256 F) (fun i _=> dg_bound (by decide) _ _) wq.heap.size w2 hB.size).mono ?_)
     rintro e w3 ⟨u,rfl,hr,hb⟩;exact ⟨u,rfl,⟨trivial,fun h=> absurd h (by decide),fun _=> hr,fun h=> absurd h (by decide),fun h=> absurd h (by decide)⟩,hb⟩
    ·intro _ _ a w2 hB hF hd
     rw [if_pos (wanted_none rfl)]
     exact flow_val (fun h=> by cases h) (run_load_str rfl Tryz.underlying22 rfl Tryz.size22 (hF.same 5 rfl) (h5.below hB h5.lt)) ⟨rfl,fun h=> absurd h (by decide),fun h=> absurd h (by decide),fun h=> absurd h (by decide),fun h=> absurd h (by decide)⟩
    ·intro _ _ a w2 hB hF hd
     rw [if_pos (wanted_none rfl)]
     refine flow_call _ _ _ rfl Tryz.call35 _ (args1 ((hd 4 _ rfl rfl rfl (waits_spec rfl)).1)) (by simp) ((rBytes32_b (dg 256 P) (fun i _=> dg_bound (by decide) _ _) wq.heap.size w2 hB.size).mono ?_)
     rintro e w3 ⟨u,rfl,hr,hb⟩;exact ⟨u,rfl,⟨trivial,fun h=> absurd h (by decide),fun h=> absurd h (by decide),fun _=> hr,fun h=> absurd h (by decide)⟩,hb⟩
    ·intro _ _ a w2 hB hF hd
     rw [if_pos (wanted_none rfl)]
     have p19:=((hd 3 _ rfl rfl rfl (waits_spec rfl)).2.2.1 rfl)
     have p21:=((hd 5 _ rfl rfl rfl (waits_spec rfl)).2.2.2.1 rfl)
     exact flow_lits 83 23 2 _ [a.eval (Operand.tmp 19),a.eval (Operand.tmp 21)] rfl Tryz.underlying83 (by kernel_rfl) (by kernel_rfl) rfl (by decide) (by decide) (by intro v hv;simp only [List.mem_cons,List.not_mem_nil,or_false] at hv;rcases hv with rfl | rfl;exact p19.rd.cells1;exact p21.rd.cells1) (by simp only [List.map_toArray,List.map_cons,List.map_nil];rfl) (by simp) ⟨trivial,fun h=> absurd h (by decide),fun h=> absurd h (by decide),fun h=> absurd h (by decide),fun _=> (⟨_,_,_,rfl,heap_alloc_new _ _,Go.Bas.Own.alloc p19 _,Go.Bas.Own.alloc p21 _⟩)⟩
    ·intro _ _ a w2 hB hF hd
     rw [if_pos (wanted_none rfl)]
     refine flow_call _ _ _ rfl Tryz.call93 _ (args3 rfl rfl rfl) (by simp) ((HDR.out w2 _ _ (((hd 1 _ rfl rfl rfl (waits_spec rfl)).2.1 rfl)).rd (((hd 6 _ rfl rfl rfl (waits_spec rfl)).2.2.2.2 rfl)).txt).mono ?_)
     rintro e w3 ⟨rfl,hb⟩;exact ⟨_,rfl,⟨rfl,fun h=> absurd h (by decide),fun h=> absurd h (by decide),fun h=> absurd h (by decide),fun h=> absurd h (by decide)⟩,hb⟩
    ·intro _ _ a w2 hB hF hd
     rw [if_pos (wanted_none rfl)]
     exact flow_move _ (.inl rfl) (by simp) ⟨((hd 7 _ rfl rfl rfl (waits_spec rfl)).1),fun h=> absurd h (by decide),fun h=> absurd h (by decide),fun h=> absurd h (by decide),fun h=> absurd h (by decide)⟩
    ·intro _ _ a w2 hB hF hd
     rw [if_pos (wanted_none rfl)]
     exact flow_val (fun h=> by cases h) (run_extract rfl ((hd 8 _ rfl rfl rfl (waits_spec rfl)).1) rfl) ⟨rfl,fun h=> absurd h (by decide),fun h=> absurd h (by decide),fun h=> absurd h (by decide),fun h=> absurd h (by decide)⟩
    ·intro _ _ a w2 hB hF hd
     rw [if_pos (wanted_none rfl)]
     exact flow_val (fun h=> by cases h) (run_extract rfl ((hd 8 _ rfl rfl rfl (waits_spec rfl)).1) rfl) ⟨rfl,fun h=> absurd h (by decide),fun h=> absurd h (by decide),fun h=> absurd h (by decide),fun h=> absurd h (by decide)⟩
    ·intro _ _ a w2 hB hF hd
     rw [if_pos (wanted_none rfl)]
     exact flow_move _ (.inr rfl) (by simp) ⟨((hd 10 _ rfl rfl rfl (waits_spec rfl)).1),fun h=> absurd h (by decide),fun h=> absurd h (by decide),fun h=> absurd h (by decide),fun h=> absurd h (by decide)⟩
   ·refine Each.all ?_
    refine ⟨(fun h=> by cases h),(fun h=> by cases h),(fun h=> by cases h),(fun h=> by cases h),(fun h=> by cases h),(fun h=> by cases h),(fun h=> by cases h),(fun h=> by cases h),(fun h=> by cases h),(fun h=> by cases h),(fun h=> by cases h),?_,(fun h=> by cases h),(fun h=> by cases h),trivial⟩
    ·exact fun _=> ⟨rfl,rfl,fun a w2 K h=> flow_alloc rfl rfl Tryz.zeroValue22 (by simp) h⟩
   ·refine Each.all ?_
    refine ⟨(fun _ h=> by cases h),(fun _ h=> by cases h),(fun _ h=> by cases h),(fun _ h=> by cases h),(fun _ h=> by cases h),(fun _ h=> by cases h),(fun _ h=> by cases h),(fun _ h=> by cases h),(fun _ h=> by cases h),(fun _ h=> by cases h),(fun _ h=> by cases h),(fun _ h=> by cases h),?_,(fun _ h=> by cases h),trivial⟩
    ·intro p hp
     obtain rfl:11=p:=Option.some.inj hp
     exact ⟨rfl,rfl,⟨_,rfl⟩,waits_spec rfl,fun a w2 b K hB hF hd hx hb h=> flow_put rfl rfl Tryz.size22 hx ((hd 9 _ rfl rfl rfl (waits_spec rfl)).1) hb h⟩
   ·intro a w3 blk hB hF hS hv hfin hdis
    obtain ⟨v11,v11l,v11u⟩:=hv 11 _ rfl rfl
    obtain ⟨x17,hx17⟩:∃x,x=a.tmps.getD 17 undef:=⟨_,rfl⟩
    obtain ⟨x19,hx19⟩:∃x,x=a.tmps.getD 19 undef:=⟨_,rfl⟩
    obtain ⟨x21,hx21⟩:∃x,x=a.tmps.getD 21 undef:=⟨_,rfl⟩
    obtain ⟨x22,hx22⟩:∃x,x=a.tmps.getD 22 undef:=⟨_,rfl⟩
    have ha:=puts_each rfl rfl hF [_,x17,_,x19,_,x21,x22,_,_,_,_,_,undef,_] rfl ⟨(hS 0 _ rfl rfl rfl).1,hx17.symm,(hS 2 _ rfl rfl rfl).1,hx19.symm,(hS 4 _ rfl rfl rfl).1,hx21.symm,hx22.symm,(hS 7 _ rfl rfl rfl).1,(hS 8 _ rfl rfl rfl).1,(hS 9 _ rfl rfl rfl).1,(hS 10 _ rfl rfl rfl).1,v11,trivial,(hS 13 _ rfl rfl rfl).1,trivial⟩
    have f11:=hfin 12 _ 11 rfl rfl
    simp only [puts,Act.put,List.setIfInBounds_toArray,List.set_cons_succ,List.set_cons_zero] at ha
    subst ha
    clear hx17 hx19 hx21 hx22
    have V11:Arr .u8 w3 (blk 11) 32 (KR):=⟨_,f11⟩
    clear hS hv hfin hdis hF v11 f11
    replace h6:=h6.kept hB
    replace hbel:=hbel.trans (hB.mono hbel.size)
    obtain ⟨x9,e9⟩:∃x,x=blk 11:=⟨_,rfl⟩
    rw [←e9] at V11 ⊢
    have h9:=V11
    clear e9 hB V11 v11l v11u
    go_wp2_with (first
     | (refine load_arr rfl 22 _ rfl .u8 x9 32 KR 5 Tryz.underlying22 Tryz.size22 rfl h9 ?_)
     | (refine store_arr rfl 22 _ _ rfl .u8 (w.heap.size+3) 32 (fun _=> 0) KR Tryz.size22 rfl rfl h6 ?_))
    exact bodyPost_ret (results_arr2 rfl _ _ .u8 (w.heap.size+3) 32 _ 5 rfl (h6.setRow 32 KR) Tryz.underlying22 Tryz.size22) rfl ⟨rfl,below_setRow' hbel (by omega) _⟩
end Go.Proofs.YtdhejcaapdhhfaaGreat
namespace Go.Proofs.YtdhejcaapdhhfaaGreat
open Go.RowKit Go.Bas Go.ChangeShapes
attribute [local go_sem ↓] Go.wp_at_zero Go.wp_at_succ
theorem build_one32 {a:Act} (w:World):(Instr.build 22 ((#[(0,Operand.const (.int .u8 1))] :Array (Nat × Operand)).map fun (i,x)=> (i,a.eval x))).run Tryz.prog w=.ok (.agg (arr .u8 32 (dg 256 1))) w:=by
 simp only [List.map_toArray,List.map_cons,List.map_nil,Act.eval]
 rw [Go.run_build w _ _ (arr .u8 32 (dg 256 1)) (by kernel_rfl)]
theorem build_two32 {a:Act} (w:World):(Instr.build 22 ((#[(0,Operand.const (.int .u8 2))] :Array (Nat × Operand)).map fun (i,x)=> (i,a.eval x))).run Tryz.prog w=.ok (.agg (arr .u8 32 (dg 256 2))) w:=by
 simp only [List.map_toArray,List.map_cons,List.map_nil,Act.eval]
 rw [Go.run_build w _ _ (arr .u8 32 (dg 256 2)) (by kernel_rfl)]
theorem rxUnwrap_short (T:Int) (v:Value) (n:Nat) (f:Nat→Int) (w:World) (hv:Rd .u8 w v n f) (hn:n<48):
  Calls Tryz.prog 20 #[.agg (arr .u8 32 (dg 256 T)),v] w fun e w'=> e=.returned (.tuple #[.slice none 0 0,.int .i64 10])∧Below w.heap.size w w':=by
 obtain ⟨ta,tc,ev,_⟩:=id hv
 subst ev
 have h48:(n:Int)<48:=by omega
 clear hv hn
 go_enter Tryz.func20,Tryz.ntmps20
 go_wp2
 go_ret2
 exact ⟨rfl,(Below.refl _ _).alloc (Nat.le_refl _) _⟩
theorem rxUnwrap_any (T:Int) (v:Value) (n N:Nat) (hN:N=n+48) (f:Nat→Int) (w:World) (hv:Rd .u8 w v N f) (hn:n≤400) (hf:∀i,i<N→0≤f i∧f i<256):
  Calls Tryz.prog 20 #[.agg (arr .u8 32 (dg 256 T)),v] w fun e w'=> ∃u er,e=.returned (.tuple #[u,.int .i64 er])∧UnR T n f w' u er∧Below w.heap.size w w':=by
 have HPU:=Lib.hid (fun w=> rxPublic_any T w)
 have HML:Hid (∀w,Calls Tryz.prog 43 #[.agg (arr .u8 32 (dg 256 T)),.agg (arr .u8 32 (dg 256 (unwF f)))] w fun e w'=> e=.returned (.agg (arr .u8 32 (dg 256 (unwX T f))))∧Below w.heap.size w w'):=fun w=> rdMul_any T (unwF f) w
 have HKY:Hid (∀w,Calls Tryz.prog 42 #[.agg (arr .u8 32 (dg 256 (unwX T f))),.agg (arr .u8 32 (dg 256 (unwF f))),.agg (arr .u8 32 (dg 256 (mulN T 9)))] w fun e w'=> e=.returned (.tuple #[.agg (arr .u8 32 (bxKey (unwX T f) (unwF f) (mulN T 9))),.bool (!decide (unwX T f=0))])∧Below w.heap.size w w'):=fun w=> rxKey_any T (unwF f) (unwF f) (mulN T 9) w
 have HOP:Hid (∀w u,Rd .u8 w u (n+16) (fun i=> f (32+i))→Calls Tryz.prog 46 #[.agg (arr .u8 32 (unwK T f)),.agg (arr .u8 12 (fun _=> 0)),.slice none 0 0,u] w fun e w'=> ∃v,e=.returned v∧OpR (unwOk T n f) w' v n (unwH T f)∧Below w.heap.size w w'):=fun w u h=>
  rAOpen_any _ nn0 (boxK_b _ _ _) (fun i _=> by unfold nn0;decide) _ u 0 n nn0 _ w (Rd.nil _ _ _) h (fun i hi=> absurd hi (by omega)) (fun i hi=> hf (32+i) (by omega)) (by decide) (by omega)
 have HFQ:Hid (∀i,i<32→f i=dg 256 (unwF f) i):=fun i hi=> (dg_sm (by decide) (fun i hi=> hf i (by omega)) i hi).symm
 have HFB:Hid (∀i,i<32→0≤f i∧f i<256):=fun i hi=> hf i (by omega)
 have HRP:Hid (∀w u er,((unwX T f=0→u=.slice none 0 0∧er=21)∧(unwX T f≠0→(unwOk T n f=false→u=.slice none 0 0∧er=20)∧(unwOk T n f=true→er=0∧Rd .u8 w u n (unwH T f))))→UnR T n f w u er):=fun w u er h=> h
 have HV0:=Lib.hid hv
 obtain ⟨ta,tc,ev,hc1,hc2,_,_⟩:=id hv
 subst ev
 obtain ⟨a2,g1,g2,g3⟩:=Rd.cut (P:=Tryz.prog) Tryz.underlying23 Tryz.info5 ta N tc 32 N (by omega) (Nat.le_refl _) hc1
 have G2:=Lib.hid g2
 have HRS:Hid (∀w,Rd .u8 w (.slice ta N tc) N f→Rd .u8 w (.slice a2 (N - 32) (tc - 32)) (n+16) (fun i=> f (32+i))):=fun w h=> by have h2:=(g3 w f h).2;rwa [show N - 32=n+16 by omega] at h2 ⊢
 obtain ⟨b1,o1,q1,l1,c1⟩:=hv.formAt (by omega)
 subst q1
 have HC1:=Lib.hid c1
 have h48:¬ (N:Int)<48:=by omega
 have h48':48≤N:=by omega
 have HKE:Hid (bxKey (unwX T f) (unwF f) (mulN T 9)=if unwX T f=0 then (fun _=> 0) else unwK T f):=rfl
 obtain ⟨KR,hKR⟩:∃x,x=bxKey (unwX T f) (unwF f) (mulN T 9):=⟨_,rfl⟩
 rw [←hKR] at HKY HKE
 obtain ⟨ok,hok⟩:∃x,x=unwOk T n f:=⟨_,rfl⟩
 rw [←hok] at HOP HRP
 obtain ⟨H,hH⟩:∃x,x=unwH T f:=⟨_,rfl⟩
 rw [←hH] at HOP HRP
 obtain ⟨K,hK⟩:∃x,x=unwK T f:=⟨_,rfl⟩
 rw [←hK] at HOP HKE
 obtain ⟨nz,hnz⟩:∃b,b= !decide (unwX T f=0):=⟨_,rfl⟩
 rw [←hnz] at HKY
 obtain ⟨X,hX⟩:∃x,x=unwX T f:=⟨_,rfl⟩
 rw [←hX] at HKE HRP HML HKY hnz
 obtain ⟨FI,hFI⟩:∃x,x=unwF f:=⟨_,rfl⟩
 rw [←hFI] at HKY HFQ HML
 obtain ⟨PT,hPT⟩:∃x,x=mulN T 9:=⟨_,rfl⟩
 rw [←hPT] at HPU HKY
 have HNZ:=Lib.hid hnz
 clear hN hKR hok hH hK hX hFI hPT hnz g1 g2 g3 c1 hv hf hc1 hc2 hn
 go_enter Tryz.func20,Tryz.ntmps20
 go_upto_region 4 with (fail)
 refine wp_world (fun w1=> Arr .u8 w1 w.heap.size 32 (dg 256 T)∧Arr .u8 w1 (w.heap.size+1) 32 (fun _=> 0)∧Below w.heap.size w w1) ⟨.alloc (Arr.newAt rfl rfl) _,Arr.newAt (by first | omega | (simp<;> omega)) (by rfl),((Below.refl _ _).alloc (Nat.le_refl _) _).alloc (by first | omega | (simp<;> omega)) _⟩ ?_
 rintro w1 ⟨h2,h6,hbel⟩
 go_wp2
 go_loopw [7] (fun i wr=> ∃k:Nat,k≤32∧i=.int .i64 (k:Int)∧Arr .u8 wr (w.heap.size+1) 32 (upto k f (fun _=> 0))∧Arr .u8 wr w.heap.size 32 (dg 256 T)∧Below w.heap.size w wr) (fun i _=> 32 - (intOf i).toNat)
 case atStart=> exact ⟨0,Nat.zero_le _,rfl,by rw [upto_zero];exact h6,h2,hbel⟩
 case round=>
  clear h2 h6 hbel
  obtain ⟨k,hk,rfl,h6,h2,hbel⟩:=hrel
  by_cases hlt:k<32
  ·have e3:=h6.cell k hlt
   have f3:=h6.free k
   have e1:=(hbel.cell (p:=⟨b1,o1+k,none⟩) l1).trans (HC1.out k (by omega))
   obtain ⟨x0,x1⟩:=HFB.out k hlt
   obtain ⟨x,hx⟩:∃x,x=f k:=⟨_,rfl⟩
   rw [←hx] at x0 x1 e1
   rw [upto_at] at e3
   have HX:=Lib.hid hx
   have j2:(k:Int)<(N:Int):=by omega
   clear hx
   go_wp2
   go_roundw
   case rel=> exact ⟨k+1,by omega,by go_num,by rw [←upto_step HX.out];exact h6.set k x,Arr.other (p:=⟨w.heap.size+1,k,none⟩) h2 (show w.heap.size≠w.heap.size+1 by omega) _,hbel.setCell (p:=⟨w.heap.size+1,k,none⟩) (show w.heap.size≤w.heap.size+1 by omega) _⟩
   case measure=> simp [intOf] <;> omega
  ·obtain rfl:k=32:=by omega
   replace h6:=(h6.congr (upto_full f (fun _=> 0) (Nat.le_refl _))).congr HFQ.out
   obtain ⟨wq,hwq⟩:∃x,x=wr:=⟨_,rfl⟩
   rw [←hwq] at h6 h2 hbel ⊢
   clear hwq
   go_upto_region 8 with (fail)
   refine region_vars (n:=43) (by kernel_rfl) (by kernel_rfl) (by kernel_rfl) rfl
    (isAl [(11,10)]) (putOf [(11,10)]) (fun _=> arr .u8 32 (fun _=> 0)) (fun _=> (arr .u8 32 (KR))) (fun _=> 22) (fun _=> 8)
    (fun ii vv _=> (match ii with | 0 | 4=> vv=.agg (arr .u8 32 (dg 256 T)) | 1 | 3=> vv=.agg (arr .u8 32 (dg 256 FI)) | 2=> vv=.agg (arr .u8 32 (dg 256 X)) | 5=> vv=.agg (arr .u8 32 (dg 256 PT)) | 6 | 7=> vv=.tuple #[.agg (arr .u8 32 (KR)),.bool nz] | 8=> vv=.agg (arr .u8 32 (KR)) | 9 | 12=> vv=.bool nz | _=> True)) (fun _ _=> True) (fun _ _ _=> trivial) (fun _ _ _ _ _ _ _=> trivial) (fun _ _ _ _ h _=> h)
    (vs_al rfl) (vs_inj rfl) ?_ ?_ ?_ ?_
   ·refine Each.all ?_
    refine ⟨?_,?_,?_,?_,?_,?_,?_,?_,?_,?_,(fun h=> by cases h),(fun _ h=> by cases h),?_,trivial⟩
    ·intro _ _ a w2 hB hF hd
     rw [if_pos (wanted_none rfl)]
     exact flow_val (fun h=> by cases h) (run_load_str rfl Tryz.underlying22 rfl Tryz.size22 (hF.same 2 rfl) (h2.below hB h2.lt)) rfl
    ·intro _ _ a w2 hB hF hd
     rw [if_pos (wanted_none rfl)]
     exact flow_val (fun h=> by cases h) (run_load_str rfl Tryz.underlying22 rfl Tryz.size22 (hF.same 6 rfl) (h6.below hB h6.lt)) rfl
    ·intro _ _ a w2 hB hF hd
     rw [if_pos (wanted_none rfl)]
     refine flow_call _ _ _ rfl Tryz.call43 _ (args2 (hd 0 _ rfl rfl rfl (waits_spec rfl)) (hd 1 _ rfl rfl rfl (waits_spec rfl))) (by simp) ((HML.out w2).mono ?_)
     rintro e w3 ⟨rfl,hb⟩;exact ⟨_,rfl,rfl,hb⟩
    ·intro _ _ a w2 hB hF hd
     rw [if_pos (wanted_none rfl)]
     exact flow_val (fun h=> by cases h) (run_load_str rfl Tryz.underlying22 rfl Tryz.size22 (hF.same 6 rfl) (h6.below hB h6.lt)) rfl
    ·intro _ _ a w2 hB hF hd
     rw [if_pos (wanted_none rfl)]
     exact flow_val (fun h=> by cases h) (run_load_str rfl Tryz.underlying22 rfl Tryz.size22 (hF.same 2 rfl) (h2.below hB h2.lt)) rfl
    ·intro _ _ a w2 hB hF hd
     rw [if_pos (wanted_none rfl)]
     refine flow_call _ _ _ rfl Tryz.call41 _ (args1 (hd 4 _ rfl rfl rfl (waits_spec rfl))) (by simp) ((HPU.out w2).mono ?_)
     rintro e w3 ⟨rfl,hb⟩;exact ⟨_,rfl,rfl,hb⟩
    ·intro _ _ a w2 hB hF hd
     rw [if_pos (wanted_none rfl)]
     refine flow_call _ _ _ rfl Tryz.call42 _ (args3 (hd 2 _ rfl rfl rfl (waits_spec rfl)) (hd 3 _ rfl rfl rfl (waits_spec rfl)) (hd 5 _ rfl rfl rfl (waits_spec rfl))) (by simp) ((HKY.out w2).mono ?_)
     rintro e w3 ⟨rfl,hb⟩;exact ⟨_,rfl,rfl,hb⟩
    ·intro _ _ a w2 hB hF hd
     rw [if_pos (wanted_none rfl)]
     exact flow_move _ (.inl rfl) (by simp) (hd 6 _ rfl rfl rfl (waits_spec rfl))
    ·intro _ _ a w2 hB hF hd
     rw [if_pos (wanted_none rfl)]
     exact flow_val (fun h=> by cases h) (run_extract rfl (hd 7 _ rfl rfl rfl (waits_spec rfl)) rfl) rfl
    ·intro _ _ a w2 hB hF hd
     rw [if_pos (wanted_none rfl)]
     exact flow_val (fun h=> by cases h) (run_extract rfl (hd 7 _ rfl rfl rfl (waits_spec rfl)) rfl) rfl
    ·intro _ _ a w2 hB hF hd
     rw [if_pos (wanted_none rfl)]
     exact flow_move _ (.inr rfl) (by simp) (hd 9 _ rfl rfl rfl (waits_spec rfl))
   ·refine Each.all ?_
    refine ⟨(fun h=> by cases h),(fun h=> by cases h),(fun h=> by cases h),(fun h=> by cases h),(fun h=> by cases h),(fun h=> by cases h),(fun h=> by cases h),(fun h=> by cases h),(fun h=> by cases h),(fun h=> by cases h),?_,(fun h=> by cases h),(fun h=> by cases h),trivial⟩
    ·exact fun _=> ⟨rfl,rfl,fun a w2 K h=> flow_alloc rfl rfl Tryz.zeroValue22 (by simp) h⟩
   ·refine Each.all ?_
    refine ⟨(fun _ h=> by cases h),(fun _ h=> by cases h),(fun _ h=> by cases h),(fun _ h=> by cases h),(fun _ h=> by cases h),(fun _ h=> by cases h),(fun _ h=> by cases h),(fun _ h=> by cases h),(fun _ h=> by cases h),(fun _ h=> by cases h),(fun _ h=> by cases h),?_,(fun _ h=> by cases h),trivial⟩
    ·intro p hp
     obtain rfl:10=p:=Option.some.inj hp
     exact ⟨rfl,rfl,⟨_,rfl⟩,waits_spec rfl,fun a w2 b K hB hF hd hx hb h=> flow_put rfl rfl Tryz.size22 hx (hd 8 _ rfl rfl rfl (waits_spec rfl)) hb h⟩
   ·intro a w3 blk hB hF hS hv hfin hdis
    obtain ⟨v10,v10l,v10u⟩:=hv 10 _ rfl rfl
    have ha:=puts_each rfl rfl hF [_,_,_,_,_,_,_,_,_,_,_,undef,_] rfl ⟨hS 0 _ rfl rfl rfl,hS 1 _ rfl rfl rfl,hS 2 _ rfl rfl rfl,hS 3 _ rfl rfl rfl,hS 4 _ rfl rfl rfl,hS 5 _ rfl rfl rfl,hS 6 _ rfl rfl rfl,hS 7 _ rfl rfl rfl,hS 8 _ rfl rfl rfl,hS 9 _ rfl rfl rfl,v10,trivial,hS 12 _ rfl rfl rfl,trivial⟩
    have f10:=hfin 11 _ 10 rfl rfl
    simp only [puts,Act.put,List.setIfInBounds_toArray,List.set_cons_succ,List.set_cons_zero] at ha
    subst ha
    have V10:Arr .u8 w3 (blk 10) 32 (KR):=⟨_,f10⟩
    clear hS hv hfin hdis hF v10 f10
    replace hbel:=hbel.trans (hB.mono hbel.size)
    obtain ⟨x8,e8⟩:∃x,x=blk 10:=⟨_,rfl⟩
    rw [←e8] at V10 ⊢
    have h8:=V10
    clear e8 hB V10 v10l v10u h2 h6
    by_cases hX:X=0
    case pos=>
     obtain rfl:nz=false:=by rw [HNZ.out,decide_eq_true hX];rfl
     have HR:=Lib.hid (HRP.out w3 (.slice none 0 0) 21 ⟨fun _=> ⟨rfl,rfl⟩,fun h=> absurd hX h⟩)
     clear hX HKE HNZ HRP
     go_wp2
     go_ret2
     exact ⟨_,_,rfl,HR.out,hbel⟩
    case neg=>
     obtain rfl:nz=true:=by rw [HNZ.out,decide_eq_false hX];rfl
     obtain rfl:KR=K:=by rw [HKE.out,if_neg hX]
     have HR1:Hid (ok=false→∀w,UnR T n f w (.slice none 0 0) 20):=fun ho w=> HRP.out w _ _ ⟨fun h=> absurd h hX,fun _=> ⟨fun _=> ⟨rfl,rfl⟩,fun h=> (by rw [ho] at h;cases h)⟩⟩
     have HR2:Hid (ok=true→∀w u,Rd .u8 w u n H→UnR T n f w u 0):=fun ho w u hu=> HRP.out w _ _ ⟨fun h=> absurd h hX,fun _=> ⟨fun h=> (by rw [ho] at h;cases h),fun _=> ⟨rfl,hu⟩⟩⟩
     clear hX HKE HNZ HRP
     have hl8:=h8.lt
     go_upto_region 12 with (fail)
     refine wp_world (fun w5=> Arr .u8 w5 w3.heap.size 12 (fun _=> 0)∧Below w3.heap.size w3 w5) ⟨Arr.newAt rfl (by rfl),(Below.refl _ _).alloc (Nat.le_refl _) _⟩ ?_
     rintro wG ⟨h10,hb⟩
     replace h8:=h8.kept hb
     replace hbel:=hbel.trans (hb.mono hbel.size)
     obtain ⟨x10,e10⟩:∃x,x=w3.heap.size:=⟨_,rfl⟩
     rw [←e10] at h10 hl8 ⊢
     clear e10 hb
     try simp only [Act.put,List.setIfInBounds_toArray,List.set_cons_succ,List.set_cons_zero]
     cases ok
     case false=>
      have HO2:Hid (∀w u,Rd .u8 w u (n+16) (fun i=> f (32+i))→Calls Tryz.prog 46 #[.agg (arr .u8 32 KR),.agg (arr .u8 12 (fun _=> 0)),.slice none 0 0,u] w fun e w'=> e=.returned (.tuple #[.slice none 0 0,.int .i64 20])∧Below w.heap.size w w'):=fun w u h=> by
       refine (HOP.out w u h).mono ?_
       rintro e w' ⟨v,rfl,ho,hb⟩
       rw [ho.2 rfl]
       exact ⟨rfl,hb⟩
      refine region_flow (n:=43) (by kernel_rfl) (by kernel_rfl) (by kernel_rfl) rfl
       (fun ii vv _=> (match ii with | 0=> vv=.agg (arr .u8 32 (KR)) | 1=> vv=.agg (arr .u8 12 (fun _=> 0)) | 2=> vv=.slice (some ⟨b1,o1,none⟩) N tc | 3=> vv=.slice a2 (N - 32) (tc - 32) | 4=> vv=.tuple #[.slice none 0 0,.int .i64 (20)] | 5 | 7=> vv=.slice none 0 0 | 6 | 8=> vv=.int .i64 (20) | _=> True))
       (fun w w'=> Below w.heap.size w w') (fun _ _ h=> h) (fun _ _ _ _ h _=> h) ?_ ?_
      ·refine Each.all ?_
       refine ⟨?_,?_,?_,?_,?_,?_,?_,?_,?_,trivial⟩
       ·intro a w2 hB hF hd
        rw [if_pos (wanted_none rfl)]
        exact flow_val (fun h=> by cases h) (run_load_str rfl Tryz.underlying22 rfl Tryz.size22 (hF.same 8 rfl) (h8.below hB h8.lt)) rfl
       ·intro a w2 hB hF hd
        rw [if_pos (wanted_none rfl)]
        exact flow_val (fun h=> by cases h) (run_load_str rfl Tryz.underlying74 rfl Tryz.size74 (hF.same 10 rfl) (h10.below hB h10.lt)) rfl
       ·intro a w2 hB hF hd
        rw [if_pos (wanted_none rfl)]
        exact flow_move _ (.inl rfl) (by simp) (hF.same 1 rfl)
       ·intro a w2 hB hF hd
        rw [if_pos (wanted_none rfl)]
        exact flow_val (fun h=> by cases h) (run_slice_part rfl (hd 2 _ rfl (waits_spec rfl)) (by simp only [Option.map_some,Option.map_none];exact G2.out _)) rfl
       ·intro a w2 hB hF hd
        rw [if_pos (wanted_none rfl)]
        refine flow_call _ _ _ rfl Tryz.call46 _ (args4 (hd 0 _ rfl (waits_spec rfl)) (hd 1 _ rfl (waits_spec rfl)) rfl (hd 3 _ rfl (waits_spec rfl))) (by simp) ((HO2.out w2 _ (HRS.out _ ((HV0.out.below hbel).below hB))).mono ?_)
        rintro e w3 ⟨rfl,hb⟩;exact ⟨_,rfl,rfl,hb⟩
       ·intro a w2 hB hF hd
        rw [if_pos (wanted_none rfl)]
        exact flow_val (fun h=> by cases h) (run_extract rfl (hd 4 _ rfl (waits_spec rfl)) rfl) rfl
       ·intro a w2 hB hF hd
        rw [if_pos (wanted_none rfl)]
        exact flow_val (fun h=> by cases h) (run_extract rfl (hd 4 _ rfl (waits_spec rfl)) rfl) rfl
       ·intro a w2 hB hF hd
        rw [if_pos (wanted_none rfl)]
        exact flow_move _ (.inr rfl) (by simp) (hd 5 _ rfl (waits_spec rfl))
       ·intro a w2 hB hF hd
        rw [if_pos (wanted_none rfl)]
        exact flow_move _ (.inr rfl) (by simp) (hd 6 _ rfl (waits_spec rfl))
      ·intro a w4 hB hF hS
       have ha:=puts_each rfl rfl hF [_,_,_,_,_,_,_,_,_] rfl ⟨hS 0 _ rfl,hS 1 _ rfl,hS 2 _ rfl,hS 3 _ rfl,hS 4 _ rfl,hS 5 _ rfl,hS 6 _ rfl,hS 7 _ rfl,hS 8 _ rfl,trivial⟩
       simp only [puts,Act.put,List.setIfInBounds_toArray,List.set_cons_succ,List.set_cons_zero] at ha
       subst ha
       clear hS hF
       have hb4:=hbel.trans (hB.mono hbel.size)
       go_wp2
       go_ret2
       exact ⟨_,_,rfl,HR1.out (by trivial) _,hb4⟩
     case true=>
      have HO2:Hid (∀w u,Rd .u8 w u (n+16) (fun i=> f (32+i))→Calls Tryz.prog 46 #[.agg (arr .u8 32 KR),.agg (arr .u8 12 (fun _=> 0)),.slice none 0 0,u] w fun e w'=> ∃v,e=.returned v∧TupR w' v n H∧Below w.heap.size w w'):=fun w u h=> by
       refine (HOP.out w u h).mono ?_
       rintro e w' ⟨v,rfl,ho,hb⟩
       exact ⟨v,rfl,ho.1 rfl,hb⟩
      refine region_flow (n:=43) (by kernel_rfl) (by kernel_rfl) (by kernel_rfl) rfl
       (fun ii vv ww=> (match ii with | 0=> vv=.agg (arr .u8 32 (KR)) | 1=> vv=.agg (arr .u8 12 (fun _=> 0)) | 2=> vv=.slice (some ⟨b1,o1,none⟩) N tc | 3=> vv=.slice a2 (N - 32) (tc - 32) | 6 | 8=> vv=.int .i64 (0) | _=> True)∧(ii=4→TupR ww vv n (H))∧(ii=5→Rd .u8 ww vv n (H))∧(ii=7→Rd .u8 ww vv n (H)))
       (fun w w'=> Below w.heap.size w w') (fun _ _ h=> h) (fun i v w w' h hE=> ⟨h.1,fun e=> TupR.below (h.2.1 e) hE,fun e=> Rd.below (h.2.2.1 e) hE,fun e=> Rd.below (h.2.2.2 e) hE⟩) ?_ ?_
      ·refine Each.all ?_
       refine ⟨?_,?_,?_,?_,?_,?_,?_,?_,?_,trivial⟩
       ·intro a w2 hB hF hd
        rw [if_pos (wanted_none rfl)]
        exact flow_val (fun h=> by cases h) (run_load_str rfl Tryz.underlying22 rfl Tryz.size22 (hF.same 8 rfl) (h8.below hB h8.lt)) ⟨rfl,fun h=> absurd h (by decide),fun h=> absurd h (by decide),fun h=> absurd h (by decide)⟩
       ·intro a w2 hB hF hd
        rw [if_pos (wanted_none rfl)]
        exact flow_val (fun h=> by cases h) (run_load_str rfl Tryz.underlying74 rfl Tryz.size74 (hF.same 10 rfl) (h10.below hB h10.lt)) ⟨rfl,fun h=> absurd h (by decide),fun h=> absurd h (by decide),fun h=> absurd h (by decide)⟩
       ·intro a w2 hB hF hd
        rw [if_pos (wanted_none rfl)]
        exact flow_move _ (.inl rfl) (by simp) ⟨(hF.same 1 rfl),fun h=> absurd h (by decide),fun h=> absurd h (by decide),fun h=> absurd h (by decide)⟩
       ·intro a w2 hB hF hd
        rw [if_pos (wanted_none rfl)]
        exact flow_val (fun h=> by cases h) (run_slice_part rfl ((hd 2 _ rfl (waits_spec rfl)).1) (by simp only [Option.map_some,Option.map_none];exact G2.out _)) ⟨rfl,fun h=> absurd h (by decide),fun h=> absurd h (by decide),fun h=> absurd h (by decide)⟩
       ·intro a w2 hB hF hd
        rw [if_pos (wanted_none rfl)]
        refine flow_call _ _ _ rfl Tryz.call46 _ (args4 ((hd 0 _ rfl (waits_spec rfl)).1) ((hd 1 _ rfl (waits_spec rfl)).1) rfl ((hd 3 _ rfl (waits_spec rfl)).1)) (by simp) ((HO2.out w2 _ (HRS.out _ ((HV0.out.below hbel).below hB))).mono ?_)
        rintro e w3 ⟨u,rfl,hr,hb⟩;exact ⟨u,rfl,⟨trivial,fun _=> hr,fun h=> absurd h (by decide),fun h=> absurd h (by decide)⟩,hb⟩
       ·intro a w2 hB hF hd
        rw [if_pos (wanted_none rfl)]
        obtain ⟨u_,eu_,hu_⟩:=((hd 4 _ rfl (waits_spec rfl)).2.1 rfl)
        exact flow_val (fun h=> by cases h) (run_extract rfl eu_ rfl) ⟨trivial,fun h=> absurd h (by decide),fun _=> (hu_),fun h=> absurd h (by decide)⟩
       ·intro a w2 hB hF hd
        rw [if_pos (wanted_none rfl)]
        obtain ⟨u_,eu_,hu_⟩:=((hd 4 _ rfl (waits_spec rfl)).2.1 rfl)
        exact flow_val (fun h=> by cases h) (run_extract rfl eu_ rfl) ⟨rfl,fun h=> absurd h (by decide),fun h=> absurd h (by decide),fun h=> absurd h (by decide)⟩
       ·intro a w2 hB hF hd
        rw [if_pos (wanted_none rfl)]
        exact flow_move _ (.inr rfl) (by simp) ⟨trivial,fun h=> absurd h (by decide),fun h=> absurd h (by decide),fun _=> ((hd 5 _ rfl (waits_spec rfl)).2.2.1 rfl)⟩
       ·intro a w2 hB hF hd
        rw [if_pos (wanted_none rfl)]
        exact flow_move _ (.inr rfl) (by simp) ⟨((hd 6 _ rfl (waits_spec rfl)).1),fun h=> absurd h (by decide),fun h=> absurd h (by decide),fun h=> absurd h (by decide)⟩
      ·intro a w4 hB hF hS
       obtain ⟨x40,hx40⟩:∃x,x=a.tmps.getD 40 undef:=⟨_,rfl⟩
       have P40:TupR w4 x40 n (H):=by rw [hx40];exact (hS 4 _ rfl).2.1 rfl
       obtain ⟨x41,hx41⟩:∃x,x=a.tmps.getD 41 undef:=⟨_,rfl⟩
       have P41:Rd .u8 w4 x41 n (H):=by rw [hx41];exact (hS 5 _ rfl).2.2.1 rfl
       obtain ⟨x4,hx4⟩:∃x,x=a.tmps.getD 4 undef:=⟨_,rfl⟩
       have P4:Rd .u8 w4 x4 n (H):=by rw [hx4];exact (hS 7 _ rfl).2.2.2 rfl
       have ha:=puts_each rfl rfl hF [_,_,_,_,x40,x41,_,x4,_] rfl ⟨(hS 0 _ rfl).1,(hS 1 _ rfl).1,(hS 2 _ rfl).1,(hS 3 _ rfl).1,hx40.symm,hx41.symm,(hS 6 _ rfl).1,hx4.symm,(hS 8 _ rfl).1,trivial⟩
       simp only [puts,Act.put,List.setIfInBounds_toArray,List.set_cons_succ,List.set_cons_zero] at ha
       subst ha
       clear hx40 hx41 hx4
       clear hS hF
       have hb4:=hbel.trans (hB.mono hbel.size)
       have HR:=Lib.hid (HR2.out (by trivial) _ _ P4)
       clear P4 P40 P41
       go_wp2
       go_ret2
       exact ⟨_,_,rfl,HR.out,hb4⟩
theorem bxAwake_any (w:World):Calls Tryz.prog 15 #[] w fun e w'=> e=.returned (.bool true)∧Below w.heap.size w w':=by
 have HPU:Hid (∀w,Calls Tryz.prog 38 #[.agg (arr .u8 32 (dg 256 2))] w fun e w'=> e=.returned (.agg (arr .u8 32 (dg 256 (box2:Int))))∧Below w.heap.size w w'):=fun w=> by rw [←mul_two];exact ldPublic_any 2 w
 have HWR:Hid (∀w v,Rd .u8 w v 5 (fun _=> 0)→Calls Tryz.prog 16 #[.agg (arr .u8 32 (dg 256 1)),.agg (arr .u8 32 (dg 256 (box2:Int))),v] w fun e w'=> ∃v,e=.returned v∧TupR w' v 53 (wrapF 1 (box2:Int) 5 (fun _=> 0))∧Below w.heap.size w w'):=fun w v hv=> by
  refine (bxWrap_any 1 (box2:Int) v 5 _ w hv (by decide)).mono ?_
  rintro e w' ⟨u,er,rfl,hr,hb⟩
  obtain ⟨rfl,hu⟩:=hr.2 mul_one_two
  exact ⟨_,rfl,⟨u,rfl,hu⟩,hb⟩
 have HSZ:Hid (∀w,Calls Tryz.prog 18 #[.int .i64 5] w fun e w'=> e=.returned (.int .i64 53)∧Below w.heap.size w w'):=fun w=> bxSize_any 5 (by decide) (by decide) w
 have HB1:=Lib.hid (fun (a:Act) w=> build_one32 (a:=a) w)
 have HB2:=Lib.hid (fun (a:Act) w=> build_two32 (a:=a) w)
 obtain ⟨B2,hB2⟩:∃x,x=(box2:Int):=⟨_,rfl⟩
 rw [←hB2] at HPU HWR
 obtain ⟨WF,hWF⟩:∃x,x=wrapF 1 B2 5 (fun _=> 0):=⟨_,rfl⟩
 rw [←hWF] at HWR
 clear hB2 hWF
 go_enter Tryz.func15,Tryz.ntmps15
 go_upto_region 1 with (fail)
 refine region_flow (n:=22) (by kernel_rfl) (by kernel_rfl) (by kernel_rfl) rfl
  (fun ii vv ww=> (match ii with | 0=> vv=.agg (arr .u8 32 (dg 256 1)) | 1=> vv=.agg (arr .u8 32 (dg 256 2)) | 2=> vv=.agg (arr .u8 32 (dg 256 B2)) | 7 | 9=> vv=.int .i64 (0) | _=> True)∧(ii=3→Rd .u8 ww vv 5 (fun _=> 0))∧(ii=4→TupR ww vv 53 (WF))∧(ii=5→TupR ww vv 53 (WF))∧(ii=6→Rd .u8 ww vv 53 (WF))∧(ii=8→Rd .u8 ww vv 53 (WF)))
  (fun w w'=> Below w.heap.size w w') (fun _ _ h=> h) (fun i v w w' h hE=> ⟨h.1,fun e=> Rd.below (h.2.1 e) hE,fun e=> TupR.below (h.2.2.1 e) hE,fun e=> TupR.below (h.2.2.2.1 e) hE,fun e=> Rd.below (h.2.2.2.2.1 e) hE,fun e=> Rd.below (h.2.2.2.2.2 e) hE⟩) ?_ ?_
 ·refine Each.all ?_
  refine ⟨?_,?_,?_,?_,?_,?_,?_,?_,?_,?_,trivial⟩
  ·intro a w2 hB hF hd
   rw [if_pos (wanted_none rfl)]
   exact flow_val (fun h=> by cases h) (run_built rfl (HB1.out _ _)) ⟨rfl,fun h=> absurd h (by decide),fun h=> absurd h (by decide),fun h=> absurd h (by decide),fun h=> absurd h (by decide),fun h=> absurd h (by decide)⟩
  ·intro a w2 hB hF hd
   rw [if_pos (wanted_none rfl)]
   exact flow_val (fun h=> by cases h) (run_built rfl (HB2.out _ _)) ⟨rfl,fun h=> absurd h (by decide),fun h=> absurd h (by decide),fun h=> absurd h (by decide),fun h=> absurd h (by decide),fun h=> absurd h (by decide)⟩
  ·intro a w2 hB hF hd
   rw [if_pos (wanted_none rfl)]
   refine flow_call _ _ _ rfl Tryz.call38 _ (args1 ((hd 1 _ rfl (waits_spec rfl)).1)) (by simp) ((HPU.out w2).mono ?_)
   rintro e w3 ⟨rfl,hb⟩;exact ⟨_,rfl,⟨rfl,fun h=> absurd h (by decide),fun h=> absurd h (by decide),fun h=> absurd h (by decide),fun h=> absurd h (by decide),fun h=> absurd h (by decide)⟩,hb⟩
  ·intro a w2 hB hF hd
   rw [if_pos (wanted_none rfl)]
   refine flow_make _ _ 23 rfl 5 .u8 1 Tryz.underlying23 Tryz.info5 .i64 .i64 5 rfl rfl (by decide) (by decide) (by simp) ?_
   intro w_ h_
   exact ⟨trivial,fun _=> (h_),fun h=> absurd h (by decide),fun h=> absurd h (by decide),fun h=> absurd h (by decide),fun h=> absurd h (by decide)⟩
  ·intro a w2 hB hF hd
   rw [if_pos (wanted_none rfl)]
   refine flow_call _ _ _ rfl Tryz.call16 _ (args3 ((hd 0 _ rfl (waits_spec rfl)).1) ((hd 2 _ rfl (waits_spec rfl)).1) rfl) (by simp) ((HWR.out w2 _ ((hd 3 _ rfl (waits_spec rfl)).2.1 rfl)).mono ?_)
   rintro e w3 ⟨u,rfl,hr,hb⟩;exact ⟨u,rfl,⟨trivial,fun h=> absurd h (by decide),fun _=> hr,fun h=> absurd h (by decide),fun h=> absurd h (by decide),fun h=> absurd h (by decide)⟩,hb⟩
  ·intro a w2 hB hF hd
   rw [if_pos (wanted_none rfl)]
   exact flow_move _ (.inl rfl) (by simp) ⟨trivial,fun h=> absurd h (by decide),fun h=> absurd h (by decide),fun _=> ((hd 4 _ rfl (waits_spec rfl)).2.2.1 rfl),fun h=> absurd h (by decide),fun h=> absurd h (by decide)⟩
  ·intro a w2 hB hF hd
   rw [if_pos (wanted_none rfl)]
   obtain ⟨u_,eu_,hu_⟩:=((hd 5 _ rfl (waits_spec rfl)).2.2.2.1 rfl)
   exact flow_val (fun h=> by cases h) (run_extract rfl eu_ rfl) ⟨trivial,fun h=> absurd h (by decide),fun h=> absurd h (by decide),fun h=> absurd h (by decide),fun _=> (hu_),fun h=> absurd h (by decide)⟩
  ·intro a w2 hB hF hd
   rw [if_pos (wanted_none rfl)]
   obtain ⟨u_,eu_,hu_⟩:=((hd 5 _ rfl (waits_spec rfl)).2.2.2.1 rfl)
   exact flow_val (fun h=> by cases h) (run_extract rfl eu_ rfl) ⟨rfl,fun h=> absurd h (by decide),fun h=> absurd h (by decide),fun h=> absurd h (by decide),fun h=> absurd h (by decide),fun h=> absurd h (by decide)⟩
  ·intro a w2 hB hF hd
   rw [if_pos (wanted_none rfl)]
   exact flow_move _ (.inr rfl) (by simp) ⟨trivial,fun h=> absurd h (by decide),fun h=> absurd h (by decide),fun h=> absurd h (by decide),fun h=> absurd h (by decide),fun _=> ((hd 6 _ rfl (waits_spec rfl)).2.2.2.2.1 rfl)⟩
  ·intro a w2 hB hF hd
   rw [if_pos (wanted_none rfl)]
   exact flow_move _ (.inr rfl) (by simp) ⟨((hd 7 _ rfl (waits_spec rfl)).1),fun h=> absurd h (by decide),fun h=> absurd h (by decide),fun h=> absurd h (by decide),fun h=> absurd h (by decide),fun h=> absurd h (by decide)⟩
 ·intro a w2 hB hF hS
  obtain ⟨x7,hx7⟩:∃x,x=a.tmps.getD 7 undef:=⟨_,rfl⟩
  have P7:Rd .u8 w2 x7 5 (fun _=> 0):=by rw [hx7];exact (hS 3 _ rfl).2.1 rfl
  obtain ⟨x8,hx8⟩:∃x,x=a.tmps.getD 8 undef:=⟨_,rfl⟩
  have P8:TupR w2 x8 53 (WF):=by rw [hx8];exact (hS 4 _ rfl).2.2.1 rfl
  obtain ⟨x3,hx3⟩:∃x,x=a.tmps.getD 3 undef:=⟨_,rfl⟩
  have P3:TupR w2 x3 53 (WF):=by rw [hx3];exact (hS 5 _ rfl).2.2.2.1 rfl
  obtain ⟨x9,hx9⟩:∃x,x=a.tmps.getD 9 undef:=⟨_,rfl⟩
  have P9:Rd .u8 w2 x9 53 (WF):=by rw [hx9];exact (hS 6 _ rfl).2.2.2.2.1 rfl
  obtain ⟨x1,hx1⟩:∃x,x=a.tmps.getD 1 undef:=⟨_,rfl⟩
  have P1:Rd .u8 w2 x1 53 (WF):=by rw [hx1];exact (hS 8 _ rfl).2.2.2.2.2 rfl
  have ha:=puts_each rfl rfl hF [_,_,_,x7,x8,x3,x9,_,x1,_] rfl ⟨(hS 0 _ rfl).1,(hS 1 _ rfl).1,(hS 2 _ rfl).1,hx7.symm,hx8.symm,hx3.symm,hx9.symm,(hS 7 _ rfl).1,hx1.symm,(hS 9 _ rfl).1,trivial⟩
  simp only [puts,Act.put,List.setIfInBounds_toArray,List.set_cons_succ,List.set_cons_zero] at ha
  subst ha
  clear hx7 hx8 hx3 hx9 hx1
  clear hS hF
  obtain ⟨ta,tc,ev,_⟩:=id P1
  subst ev
  clear P1 P9 P8 P3 P7
  go_wp2_with fail
  refine (HSZ.out _).mono ?_
  rintro e w3 ⟨rfl,hb⟩
  replace hB:=hB.trans (hb.mono hB.size)
  clear hb
  go_wp2
  go_ret
  exact ⟨rfl,hB⟩
end Go.Proofs.YtdhejcaapdhhfaaGreat
namespace Go.Proofs.YtdhejcaapdhhfaaGreat
open Go.RowKit Go.Bas Go.ChangeShapes
attribute [local go_sem ↓] Go.wp_at_zero Go.wp_at_succ
theorem UnR.pair {T:Int} {n:Nat} {f:Nat→Int} {w1 w2:World} {u1 u2:Value} {e1 e2:Int} (h1:UnR T n f w1 u1 e1) (h2:UnR T n f w2 u2 e2):e1=e2∧∃m g,Rd .u8 w1 u1 m g∧Rd .u8 w2 u2 m g:=by
 by_cases hX:unwX T f=0
 ·obtain ⟨rfl,rfl⟩:=h1.1 hX
  obtain ⟨rfl,rfl⟩:=h2.1 hX
  exact ⟨rfl,0,fun _=> 0,Rd.nil _ _ _,Rd.nil _ _ _⟩
 ·cases hok:unwOk T n f with
  | false=>
   obtain ⟨rfl,rfl⟩:=(h1.2 hX).1 hok
   obtain ⟨rfl,rfl⟩:=(h2.2 hX).1 hok
   exact ⟨rfl,0,fun _=> 0,Rd.nil _ _ _,Rd.nil _ _ _⟩
  | true=>
   obtain ⟨rfl,k1⟩:=(h1.2 hX).2 hok
   obtain ⟨rfl,k2⟩:=(h2.2 hX).2 hok
   exact ⟨rfl,_,_,k1,k2⟩
def UnA (T:Int) (N:Nat) (f:Nat→Int) (w:World) (u:Value) (er:Int):Prop:=(N<48→u=.slice none 0 0∧er=10)∧∀n,N=n+48→UnR T n f w u er
theorem UnA.pair {T:Int} {N:Nat} {f:Nat→Int} {w1 w2:World} {u1 u2:Value} {e1 e2:Int} (h1:UnA T N f w1 u1 e1) (h2:UnA T N f w2 u2 e2):e1=e2∧∃m g,Rd .u8 w1 u1 m g∧Rd .u8 w2 u2 m g:=by
 by_cases h:N<48
 ·obtain ⟨rfl,rfl⟩:=h1.1 h
  obtain ⟨rfl,rfl⟩:=h2.1 h
  exact ⟨rfl,0,fun _=> 0,Rd.nil _ _ _,Rd.nil _ _ _⟩
 ·exact (h1.2 (N - 48) (by omega)).pair (h2.2 (N - 48) (by omega))
theorem bxUnwrap_all (T:Int) (v:Value) (N:Nat) (f:Nat→Int) (w:World) (hv:Rd .u8 w v N f) (hn:N≤400) (hf:∀i,i<N→0≤f i∧f i<256):
  Calls Tryz.prog 19 #[.agg (arr .u8 32 (dg 256 T)),v] w fun e w'=> ∃u er,e=.returned (.tuple #[u,.int .i64 er])∧UnA T N f w' u er∧Below w.heap.size w w':=by
 by_cases h:N<48
 ·refine (bxUnwrap_short T v N f w hv h).mono ?_
  rintro e w' ⟨rfl,hb⟩
  exact ⟨_,_,rfl,⟨fun _=> ⟨rfl,rfl⟩,fun n hn=> by omega⟩,hb⟩
 ·refine (bxUnwrap_any T v (N - 48) N (by omega) f w hv (by omega) hf).mono ?_
  rintro e w' ⟨u,er,rfl,hr,hb⟩
  exact ⟨u,er,rfl,⟨fun h2=> absurd h2 h,fun n hn=> by rwa [show N - 48=n by omega] at hr⟩,hb⟩
theorem rxUnwrap_all (T:Int) (v:Value) (N:Nat) (f:Nat→Int) (w:World) (hv:Rd .u8 w v N f) (hn:N≤400) (hf:∀i,i<N→0≤f i∧f i<256):
  Calls Tryz.prog 20 #[.agg (arr .u8 32 (dg 256 T)),v] w fun e w'=> ∃u er,e=.returned (.tuple #[u,.int .i64 er])∧UnA T N f w' u er∧Below w.heap.size w w':=by
 by_cases h:N<48
 ·refine (rxUnwrap_short T v N f w hv h).mono ?_
  rintro e w' ⟨rfl,hb⟩
  exact ⟨_,_,rfl,⟨fun _=> ⟨rfl,rfl⟩,fun n hn=> by omega⟩,hb⟩
 ·refine (rxUnwrap_any T v (N - 48) N (by omega) f w hv (by omega) hf).mono ?_
  rintro e w' ⟨u,er,rfl,hr,hb⟩
  exact ⟨u,er,rfl,⟨fun h2=> absurd h2 h,fun n hn=> by rwa [show N - 48=n by omega] at hr⟩,hb⟩
theorem boxUnwraps_num (T:Int) (v:Value) (n:Nat) (f:Nat→Int) (k:Int) (k0: -9223372036854775808≤k) (k1:k≤9223372036854775807) (w:World) (hv:Rd .u8 w v n f) (hf:∀i,i<n→0≤f i∧f i<256):
  Calls Tryz.prog 5 #[.agg (arr .u8 32 (dg 256 T)),v,.int .i64 k] w fun e w'=> e=.returned (.bool true)∧Below w.heap.size w w':=by
 have HAW:=Lib.hid (fun w=> bxAwake_any w)
 have HT0:=Lib.hid hv
 have HSZ:=Lib.hid (fun w=> bxSize_any k k0 k1 w)
 have HK0:=Lib.hid k0
 have HK1:=Lib.hid k1
 have HF:=Lib.hid hf
 obtain ⟨ta,tc,ev,_⟩:=id hv
 subst ev
 clear hv k0 k1 hf
 go_enter Tryz.func5,Tryz.ntmps5
 go_upto_region 1 with (fail)
 refine wp_world (fun w1=> Arr .u8 w1 w.heap.size 32 (dg 256 T)∧Below w.heap.size w w1) ⟨Arr.newAt rfl rfl,(Below.refl _ _).alloc (Nat.le_refl _) _⟩ ?_
 rintro w1 ⟨h3,hbel⟩
 go_wp2_with fail
 refine (HAW.out _).mono ?_
 rintro e w2 ⟨rfl,hb⟩
 replace h3:=h3.kept hb
 replace hbel:=hbel.trans (hb.mono hbel.size)
 clear hb HAW
 by_cases h400:400<n
 case pos=>
  have hgt:(400:Int)<(n:Int):=by omega
  clear h400
  go_wp2
  go_ret
  exact ⟨rfl,hbel⟩
 case neg=>
  have hgt:¬ (400:Int)<(n:Int):=by omega
  have HNN:Hid (n≤400):=Nat.le_of_not_lt h400
  clear h400
  go_wp2_with (refine load_arr rfl 22 _ rfl .u8 w.heap.size 32 (dg 256 T) 5 Tryz.underlying22 Tryz.size22 rfl h3 ?_)
  refine (bxUnwrap_all T _ n f _ (HT0.out.below hbel) HNN.out HF.out).mono ?_
  rintro e w3 ⟨u1,er,rfl,hr,hb⟩
  replace h3:=h3.kept hb
  replace hbel:=hbel.trans (hb.mono hbel.size)
  have HR:=Lib.hid hr
  clear hb hr
  go_wp2_with (refine load_arr rfl 22 _ rfl .u8 w.heap.size 32 (dg 256 T) 5 Tryz.underlying22 Tryz.size22 rfl h3 ?_)
  refine (rxUnwrap_all T _ n f _ (HT0.out.below hbel) HNN.out HF.out).mono ?_
  rintro e w4 ⟨u2,er2,rfl,hr,hb⟩
  obtain ⟨rfl,m,g,q1,q2⟩:=HR.out.pair hr
  replace hbel:=hbel.trans (hb.mono hbel.size)
  have HQ1:=Lib.hid (q1.below hb)
  have HQ2:=Lib.hid q2
  clear hb hr q1 q2 h3 HR HT0
  by_cases ha:0≤k
  case neg=>
   have HSQ:Hid (∀w,Calls Tryz.prog 18 #[.int .i64 k] w fun e w'=> e=.returned (.int .i64 0)∧Below w.heap.size w w'):=fun w=> by have h:=HSZ.out w;rwa [if_neg (by omega)] at h
   clear HSZ
   go_wp2_with fail
   refine (same_yes _ _ m g g _ HQ1.out HQ2.out (fun _ _=> rfl)).mono ?_
   rintro e w5 ⟨rfl,hb⟩
   replace hbel:=hbel.trans (hb.mono hbel.size)
   clear hb
   go_wp2_with fail
   refine (HSQ.out _).mono ?_
   rintro e w6 ⟨rfl,hb⟩
   replace hbel:=hbel.trans (hb.mono hbel.size)
   clear hb
   go_wp2
   go_ret
   exact ⟨rfl,hbel⟩
  case pos=>
   by_cases hc:k≤1048528
   case neg=>
    have HSQ:Hid (∀w,Calls Tryz.prog 18 #[.int .i64 k] w fun e w'=> e=.returned (.int .i64 0)∧Below w.heap.size w w'):=fun w=> by have h:=HSZ.out w;rwa [if_neg (by omega)] at h
    clear HSZ
    go_wp2_with fail
    refine (same_yes _ _ m g g _ HQ1.out HQ2.out (fun _ _=> rfl)).mono ?_
    rintro e w5 ⟨rfl,hb⟩
    replace hbel:=hbel.trans (hb.mono hbel.size)
    clear hb
    go_wp2_with fail
    refine (HSQ.out _).mono ?_
    rintro e w6 ⟨rfl,hb⟩
    replace hbel:=hbel.trans (hb.mono hbel.size)
    clear hb
    go_wp2
    go_ret
    exact ⟨rfl,hbel⟩
   case pos=>
    have HSQ:Hid (∀w,Calls Tryz.prog 18 #[.int .i64 k] w fun e w'=> e=.returned (.int .i64 (k+48))∧Below w.heap.size w w'):=fun w=> by have h:=HSZ.out w;rwa [if_pos ⟨ha,hc⟩] at h
    have hw:IntKind.i64.wrap (k+48)=k+48:=by rw [wrap_i64_id] <;> omega
    clear HSZ
    go_wp2_with fail
    refine (same_yes _ _ m g g _ HQ1.out HQ2.out (fun _ _=> rfl)).mono ?_
    rintro e w5 ⟨rfl,hb⟩
    replace hbel:=hbel.trans (hb.mono hbel.size)
    clear hb
    go_wp2_with fail
    refine (HSQ.out _).mono ?_
    rintro e w6 ⟨rfl,hb⟩
    replace hbel:=hbel.trans (hb.mono hbel.size)
    clear hb
    go_wp2
    go_ret
    exact ⟨rfl,hbel⟩
theorem boxUnwraps_law (w:World) (fs:Nat→Int) (hs:∀i,i<32→(Lit.int .u8 (fs i)).wf=true) (v:Value) (n:Nat) (f:Nat→Int) (hv:Rd .u8 w v n f) (hf:∀i,i<n→(Lit.int .u8 (f i)).wf=true) (k:Int) (hk:(Lit.int .i64 k).wf=true):
  Calls Tryz.prog 5 #[.agg (arr .u8 32 fs),v,.int .i64 k] w fun e w'=> e=.returned (.bool true)∧Below w.heap.size w w':=by
 obtain ⟨S,eS,s0,s1⟩:=num32 fs hs
 rw [eS]
 obtain ⟨k0,k1⟩:=bounds_i64 hk
 exact boxUnwraps_num S v n f k k0 (by omega) w hv (fun i hi=> by have:=bounds_u8 (hf i hi);omega)
end Go.Proofs.YtdhejcaapdhhfaaGreat
