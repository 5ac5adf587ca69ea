/-
  Part 20 of the texts that the proof of RegressReach rests on, one after the other. Conditions: named in each theorem.
-/
import Derived.Test.YtpcjekgfnfjbpaaPkRegressReach17
import Derived.Test.YtpcjekgfnfjbpaaPkRegressReach16
import Derived.Test.YtpcjekgfnfjbpaaPkRegressReach14
import Derived.Test.YtpcjekgfnfjbpaaPkRegressReach1
import Derived.Test.YtpcjekgfnfjbpaaPkRegressReach2
import Derived.Test.YtpcjekgfnfjbpaaPkRegressReach12
import Derived.Test.YtpcjekgfnfjbpaaPkRegressReach5
import Derived.Test.YtpcjekgfnfjbpaaPkRegressReach4
import Derived.Test.YtpcjekgfnfjbpaaPkRegressReach3
import Derived.Test.YtpcjekgfnfjbpaaPkRegressReach6
import Derived.Test.YtpcjekgfnfjbpaaPkRegressReach7
import Derived.Test.YtpcjekgfnfjbpaaPkRegressReach11
import Derived.Test.YtpcjekgfnfjbpaaPkRegressReach10
import Derived.Test.YtpcjekgfnfjbpaaPkRegressReach9
import Derived.Test.YtpcjekgfnfjbpaaPkRegressReach8
import Derived.Test.YtpcjekgfnfjbpaaPkRegressReach13
import Derived.Test.YtpcjekgfnfjbpaaPkRegressReach15
import Derived.Test.YtpcjekgfnfjbpaaPkRegressReach18
import Derived.Test.YtpcjekgfnfjbpaaPkRegressReach19
import Derived.BigFrame
import Derived.BigQuiet
import Derived.ChangeKeysEq
import Derived.ChangeMaps5
import Derived.ChangeOld
import Derived.Deep.Cut
import Derived.Deep.DrawnRows
import Derived.Deep.MidRow
import Derived.Deep.QuietTactic
import Derived.Deep.RegionHeld3
import Derived.Deep.RegionLaw
import Derived.Deep.Slices
import Derived.Deep.Strs
import Derived.Deep.Upon
import Derived.Deep.WholeRow
import Derived.DeepKeys4
import Derived.Great.BuildSlice
import Derived.Great.Walk
import Derived.Laws.BytesArg
import Derived.Laws.CopyOwn
import Derived.Laws.IdiomCopy
import Derived.Laws.Strings
import Derived.Laws.StructEq
import Derived.Lib.BufferRead
import Derived.Lib.Hide
import Derived.LoopIn
import Derived.LoopNIn
import Derived.MapViews
import Derived.Maps.AppendAt
import Derived.Maps.OwnSet
import Derived.Maps.Range
import Derived.Maps.Views
import Derived.OpenShut
import Derived.Orders
import Derived.OrdersIn
import Derived.OwnWalkIn
import Derived.ProofKit
import Derived.RangeFuncBound
import Derived.RangeFuncBox
import Derived.RangeFuncCalls
import Derived.RangeFuncFrom
import Derived.RangeFuncLeaves
import Derived.RangeFuncNested
import Derived.Shelf.Abstract
import Derived.Shelf.RegionOpen
import Derived.ShutString
import Derived.StillTactics
import Derived.StillTailTactics
import Derived.TacticsInMore
import Derived.Test.YtpcjekgfnfjbpaaArr
import Derived.Test.YtpcjekgfnfjbpaaFlow
import Derived.Test.YtpcjekgfnfjbpaaKit
import Derived.Test.YtpcjekgfnfjbpaaOpen
import Derived.Test.YtpcjekgfnfjbpaaOpenT
import Derived.Test.YtpcjekgfnfjbpaaRows
import Derived.Test.YtpcjekgfnfjbpaaTxt
import Derived.WalkKit
import Derived.WalkLawsBesides
import Derived.WalkSmall
import Derived.WalkSpells
set_option linter.unusedVariables false
set_option linter.unusedSimpArgs false
set_option maxRecDepth 100000
set_option maxHeartbeats 3200000
namespace Go.Bas
open Go.RowKit
def lof (n:Nat) (f:Nat→Int):List Int:=(List.range n).map f
@[simp] theorem lof_length (n:Nat) (f:Nat→Int):(lof n f).length=n:=by simp [lof]
theorem bf_lof {n i:Nat} {f:Nat→Int} (h:i<n):bf (lof n f) i=f i:=by
 unfold bf lof
 rw [List.getD_eq_getElem?_getD,List.getElem?_map,List.getElem?_range h]
 rfl
theorem okB_lof {n:Nat} {f:Nat→Int} (h:∀i,i<n→0≤f i∧f i<256):okB (lof n f):=by
 intro x hx
 obtain ⟨i,hi,rfl⟩:=List.mem_map.1 hx
 exact h i (List.mem_range.1 hi)
theorem lof_bf (l:List Int):lof l.length (bf l)=l:=by
 apply List.ext_getElem?
 intro i
 by_cases h:i<l.length
 ·unfold lof bf
  rw [List.getElem?_map,List.getElem?_range h,List.getElem?_eq_getElem h]
  simp [List.getD_eq_getElem?_getD,List.getElem?_eq_getElem h]
 ·rw [List.getElem?_eq_none (by simpa using h),List.getElem?_eq_none (by omega)]
theorem lof_congr {n:Nat} {f g:Nat→Int} (h:∀i,i<n→f i=g i):lof n f=lof n g:=List.map_congr_left fun i hi=> h i (List.mem_range.1 hi)
theorem Rd.lof {k:IntKind} {w:World} {v:Value} {n:Nat} {f:Nat→Int} (h:Rd k w v n f):Rd k w v (Go.Bas.lof n f).length (bf (Go.Bas.lof n f)):=by
 rw [lof_length]
 exact h.congr fun i hi=> (bf_lof hi).symm
def put8 (n:Int) (i:Nat):Int:=n / 2 ^ (8 * (8 - 1 - i)) % 256
theorem put8_b (n:Int) (i:Nat):0≤put8 n i∧put8 n i<256:=by unfold put8;omega
theorem big_put8 {n:Int} (h0:0≤n) (h1:n<2 ^ 64):big (put8 n) 8=n:=by
 have:=big_of_bytes (n:=n) (s:=8) (by omega) 8 (Nat.le_refl _)
 rw [show (8:Nat) * (8 - 8)=0 from rfl,Int.pow_zero,Int.ediv_one] at this
 exact this
def valT (n:Int):List Int:=lof 9 (catF 1 (fun _=> 247) (put8 n))
theorem valT_length (n:Int):(valT n).length=9:=lof_length _ _
theorem valT_0 (n:Int):bf (valT n) 0=247:=bf_lof (by decide)
theorem valT_1 (n:Int) (i:Nat) (h:i<8):bf (valT n) (1+i)=put8 n i:=(bf_lof (by omega)).trans catF_hi
def tl9 (l:List Int) (i:Nat):Int:=bf l (1+i)
def numV (S:TS) (l:List Int):Option Nat:=if l.length=9∧bf l 0=247∧getErr (tl9 l) 8=0∧getNum (tl9 l) 8<S.l.length then some (getNum (tl9 l) 8).toNat else none
theorem big_congr8 {f g:Nat→Int}:∀k:Nat,(∀i,i<k→f i=g i)→big f k=big g k
 | 0,_=> rfl
 | k+1,h=> by rw [big,big,big_congr8 k fun i hi=> h i (by omega),h k (by omega)]
theorem valT_num {n:Int} (h0:0≤n) (h1:n≤4611686018427387904):getErr (tl9 (valT n)) 8=0∧getNum (tl9 (valT n)) 8=n:=by
 have e:big (tl9 (valT n)) 8=n:=(big_congr8 8 fun i hi=> valT_1 n i hi).trans (big_put8 h0 (by omega))
 unfold getErr getNum
 rw [e,if_neg (by decide),if_neg (by decide),if_neg (by omega),if_neg (by omega)]
 exact ⟨rfl,rfl⟩
theorem numV_valT {S:TS} {n:Nat} (h:n<S.l.length) (hl:S.l.length≤4611686018427387904):numV S (valT n)=some n:=by
 obtain ⟨h1,h2⟩:=valT_num (n:=(n:Int)) (by omega) (by omega)
 unfold numV
 rw [if_pos ⟨valT_length _,valT_0 _,h1,by rw [h2];omega⟩,h2,Int.toNat_natCast]
theorem big_nonneg {f:Nat→Int}:∀k,(∀i,i<k→0≤f i)→0≤big f k
 | 0,_=> Int.le_refl _
 | k+1,h=> by have:=big_nonneg k fun i hi=> h i (by omega);have:=h k (by omega);rw [big];omega
theorem getNum_nonneg {f:Nat→Int} {k:Nat} (h:∀i,i<k→0≤f i):0≤getNum f k:=by
 unfold getNum
 split
 ·exact Int.le_refl _
 ·exact big_nonneg k h
theorem numV_lt {S:TS} {l:List Int} {n:Nat} (hb:okB l) (h:numV S l=some n):n<S.l.length:=by
 unfold numV at h
 split at h
 ·rename_i h'
  have h0:0≤getNum (tl9 l) 8:=getNum_nonneg fun i hi=> (hb.at _ (by omega)).1
  obtain rfl:=Option.some.inj h
  have:=h'.2.2.2
  omega
 ·cases h
def TS.few (S:TS):Prop:=∀s,nxt S.l s≤S.l.length
theorem TS.few.nil:TS.few ⟨[], []⟩:=fun s=> Int.le_refl _
theorem TS.few.add {S:TS} (h:S.few) {t:Tm} (ht:t.1=1→t.2.2≤S.l.length):(S.add t).few:=fun s=> by
 have:=h s
 rw [add_len]
 show nxt (S.l++ [t]) s≤_
 rw [nxt_snoc]
 split
 ·rename_i h'
  have:=ht h'.1
  unfold topT
  omega
 ·omega
theorem TS.few.put {S:TS} (h:S.few) {t:Tm} (ht:t.1≠1):(S.put t).few:=by
 unfold TS.put
 split
 ·exact h.add fun e=> absurd e ht
 ·exact h
theorem TS.few.draw {S:TS} (h:S.few) (s:Int):(S.draw s).few:=by
 unfold TS.draw
 split
 ·exact h.add fun _=> h s
 ·exact h
abbrev TA:Type:=List Int × Int × TS
def oneT (k:Int) (S:TS) (l:List Int):TA:=match numV S l with
 | some n=> (valT (putA S (k,n,0)).1,0,S.put (k,n,0))
 | none=> ([],11,S)
def kdT (S:TS) (n:Nat):Int:=(tmAt S.l n).1
def twoT (k:Int) (S:TS) (a b:List Int):TA:=match numV S a,numV S b with
 | some n,some m=> if k=4∧kdT S n≠2 then ([],11,S) else (valT (putA S (k,n,m)).1,0,S.put (k,n,m))
 | _,_=> ([],11,S)
def drawT (S:TS) (s:Int):TA:=if isSort s=true then (valT S.l.length,0,S.draw s) else ([],2,S)
end Go.Bas
namespace Go.Proofs.Ytpcjekgfnfjbpaa
open Go.RowKit Go.Bas
def unlockT (S:TS) (a b:List Int):List Int × Int:=match numV S a,numV S b with
 | some n,some m=> if kdT S m=5∧(tmAt S.l m).2.1=n then (valT (tmAt S.l m).2.2,0) else ([],20)
 | _,_=> ([],11)
end Go.Proofs.Ytpcjekgfnfjbpaa
namespace Go.Proofs.Ytpcjekgfnfjbpaa
open Go.RowKit Go.Bas Go.ChangeShapes Go.Maps
attribute [local go_sem ↓] Go.wp_at_zero Go.wp_at_succ
theorem tNew_any (w:World):Calls Try.prog 29 #[] w fun e w'=> ∃p F,e=.returned (.pointer (some ⟨p,0,none⟩))∧StA w.heap.size w' p F ⟨[], []⟩∧Below w.heap.size w w':=by
 have HM:=Lib.hid (Mpv.made Try.prog 78 3 w (fun i=> lv tmV [] i 0) (fun i=> match ([] :List Tm)[i]? with | some x=> natV (plc [] x) | none=> undef))
 have HM2:=Lib.hid (Mpv.made Try.prog 9 3 (w.alloc (.map #[] 0)) (fun i=> lv txV [] i 0) (fun i=> match ([] :List (List Int))[i]? with | some x=> natV (txN ⟨[], []⟩ x) | none=> undef))
 have hmk:∀w,(Instr.makeMap 71 none).run Try.prog w=.ok (.map (some w.heap.size)) (w.alloc (.map #[] 0)):=fun w=> rfl
 have hmk2:∀w,(Instr.makeMap 72 none).run Try.prog w=.ok (.map (some w.heap.size)) (w.alloc (.map #[] 0)):=fun w=> rfl
 go_enter Try.func29,Try.ntmps29
 go_wp2
 go_ret
 obtain ⟨W2,hW2⟩:∃W2,(w.alloc (.map #[] 0)).alloc (.map #[] 0)=W2:=⟨_,rfl⟩
 have b1:Below w.heap.size w W2:=by rw [←hW2];exact ((Below.refl _ _).alloc (Nat.le_refl _) _).alloc (by simp) _
 have hs:W2.heap.size=w.heap.size+1+1:=by rw [←hW2];simp
 have m1:=(HM.out.alloc (.map #[] 0))
 have m2:=HM2.out
 rw [hW2] at m1 m2
 rw [World.size_alloc] at m2
 rw [hW2,←hs]
 obtain ⟨O,hO⟩:∃O,O=Obj.cells #[.slice none 0 0,.map (some w.heap.size),.map (some (w.heap.size+1)),.slice none 0 0,.int .i64 0,.int .i64 0,.int .i64 0,.int .i64 0,.int .i64 0] 75:=⟨_,rfl⟩
 have hb:=heap_alloc_new W2 (.cells #[.slice none 0 0,.map (some w.heap.size),.map (some (w.heap.size+1)),.slice none 0 0,.int .i64 0,.int .i64 0,.int .i64 0,.int .i64 0,.int .i64 0] 75)
 have hc:=fun i=> cell_of_row _ _ i _ _ (0,0) hb
 refine ⟨W2.heap.size,_,rfl,⟨w.heap.size,w.heap.size+1,.slice none 0 0,.slice none 0 0,fun _=> .slice none 0 0,⟨⟨⟨_,hb,rfl⟩,hc 0,hc 1,hc 2,hc 3,fun k hk=> ?_,OwM.nil _ _ _ _,m1.alloc _,m2.alloc _,OwM.nil _ _ _ _,fun j b hj=> (by simp at hj),by omega,by omega,Nat.le_refl _,by omega,fun b hb=> (by cases hb),fun b hb=> (by cases hb)⟩,List.nodup_nil,List.nodup_nil,fun j hj=> absurd hj (Nat.not_lt_zero _),fun t ht=> (by cases ht),fun b hb=> (by cases hb)⟩,TS.Ok.empty,fun b=> Iff.rfl⟩,b1.alloc b1.size _⟩
 rcases (by omega:k=0∨k=1∨k=2∨k=3∨k=4) with rfl | rfl | rfl | rfl | rfl<;> exact hc _
theorem sLen_any {B:Nat} {w:World} {p:Nat} {F:Nat→Prop} {S:TS} (h:StA B w p F S):Calls Try.prog 63 #[.pointer (some ⟨p,0,none⟩)] w fun e w'=> e=.returned (natV S.l.length)∧w'=w:=by
 obtain ⟨mb,mt,vl,vb,tv,h1,_,_⟩:=h
 exact tLen_any h1
end Go.Proofs.Ytpcjekgfnfjbpaa
namespace Go.Bas
open Go.RowKit
structure Byt (F:Nat→Prop) (w:World) (v:Value) (l:List Int):Prop where
 ok:okB l
 rd:Rd .u8 w v l.length (bf l)
 off:0<l.length→∀b,v.ownBlock=some b→¬ F b
section
variable {F F' G : Nat → Prop} {w w' : World} {v : Value} {l : List Int}
theorem Rd.blockLt {k:IntKind} {n:Nat} {f:Nat→Int} (h:Rd k w v n f) (hn:0<n) {b:Nat} (hb:v.ownBlock=some b):b<w.heap.size:=by
 obtain ⟨a,c,rfl,_,_,_,h4⟩:=h
 obtain ⟨g,o,rfl,hlt,_⟩:=h4 hn
 obtain rfl:g=b:=by simpa [Value.ownBlock] using hb
 exact hlt
theorem Byt.below (h:Byt F w v l) (hb:Below w.heap.size w w'):Byt F w' v l:=⟨h.ok,h.rd.below hb,h.off⟩
structure ChS (p:Nat) (F:Nat→Prop) (w w':World):Prop where
 chg:Chg (fun b=> b=p∨F b) w w'
 u8:∀b,b<w.heap.size→¬ F b→∀i x,w.cell? ⟨b,i,none⟩=some (.int .u8 x)→w'.cell? ⟨b,i,none⟩=some (.int .u8 x)
theorem ChS.of_below {p:Nat} (h:Below w.heap.size w w') (F:Nat→Prop):ChS p F w w':=⟨.of_below h _,fun b hb _ i x hx=> (h.cell (p:=⟨b,i,none⟩) hb).trans hx⟩
theorem ChS.trans {p:Nat} {w'':World} (h:ChS p F w w') (h':ChS p F' w' w'') (hF:∀b,F' b→F b∨w.heap.size≤b):ChS p F w w'':=
 ⟨h.chg.trans h'.chg fun b hb h1=> h1.imp id fun h2=> (hF b h2).elim id fun h3=> by omega,fun b hb hn i x hx=> h'.u8 b (Nat.lt_of_lt_of_le hb h.chg.size) (fun h2=> (hF b h2).elim hn fun h3=> by omega) i x (h.u8 b hb hn i x hx)⟩
theorem ChS.of_chg {p:Nat} (h:Chg F w w'):ChS p F w w':=⟨h.mono fun b _ hb=> .inr hb,fun b hb hn i x hx=> (h.cell (p:=⟨b,i,none⟩) hb hn).trans hx⟩
theorem Rd.chS {p n:Nat} {f:Nat→Int} (h:Rd .u8 w v n f) (hc:ChS p F w w') (hne:0<n→∀b,v.ownBlock=some b→¬ F b):Rd .u8 w' v n f:=by
 obtain ⟨a,c,rfl,h1,h2,h3,h4⟩:=h
 refine ⟨a,c,rfl,h1,h2,h3,fun hn=> ?_⟩
 obtain ⟨b,o,rfl,hlt,hcell⟩:=h4 hn
 have:=hc.chg.size
 exact ⟨b,o,rfl,by omega,fun i hi=> hc.u8 b hlt (hne hn b rfl) _ _ (hcell i hi)⟩
theorem Byt.chS {p:Nat} (h:Byt F w v l) (hc:ChS p F w w') (hF:∀b,F' b→F b∨w.heap.size≤b):Byt F' w' v l:=by
 refine ⟨h.ok,h.rd.chS hc h.off,fun hn b hb hf=> ?_⟩
 rcases hF b hf with h1 | h1
 ·exact h.off hn b hb h1
 ·have:=h.rd.blockLt hn hb;omega
theorem Byt.nil (F:Nat→Prop) (w:World):Byt F w (.slice none 0 0) [] :=⟨(fun _ h=> by cases h),Rd.nil _ _ _,fun h=> absurd h (by decide)⟩
theorem Byt.own {e:TypeId} {N n:Nat} {f:Nat→Int} (h:Own .u8 e N w v n f) (hf:∀i,i<n→0≤f i∧f i<256) (hF:∀b,F b→b<N):Byt F w v (lof n f):=
 ⟨okB_lof hf,h.rd.lof,fun _ b hb hFb=> by have:=h.block b hb;have:=hF b hFb;omega⟩
end
end Go.Bas
namespace Go.Proofs.Ytpcjekgfnfjbpaa
open Go.RowKit Go.Bas Go.ChangeShapes Go.Maps
attribute [local go_sem ↓] Go.wp_at_zero Go.wp_at_succ
structure SuRow (w:World) (p:Nat) (kd:Int) (sd:Nat→Int) (n:Int) (s:Value):Prop where
 row:RowB w p 53 35
 ck:w.cell? ⟨p,0,none⟩=some (.int .i64 kd)
 cs:∀i,i<32→w.cell? ⟨p,1+i,none⟩=some (.int .u8 (sd i))
 cn:w.cell? ⟨p,33,none⟩=some (.int .i64 n)
 cp:w.cell? ⟨p,34,none⟩=some s
section
variable {B : Nat} {w w' : World} {p q : Nat} {F G G' : Nat → Prop} {S S' : TS} {kd n : Int} {sd : Nat → Int} {s : Value}
theorem SuRow.keep (h:SuRow w p kd sd n s) (hc:Chg F w w') (hF:¬ F p):SuRow w' p kd sd n s:=
 have hl:=h.row.lt
 ⟨h.row.heap (hc.block p hl hF),(hc.cell (p:=⟨p,0,none⟩) hl hF).trans h.ck,fun i hi=> (hc.cell (p:=⟨p,1+i,none⟩) hl hF).trans (h.cs i hi),(hc.cell (p:=⟨p,33,none⟩) hl hF).trans h.cn,(hc.cell (p:=⟨p,34,none⟩) hl hF).trans h.cp⟩
theorem SuRow.below (h:SuRow w p kd sd n s) (hb:Below w.heap.size w w'):SuRow w' p kd sd n s:=h.keep (.of_below hb fun _=> False) id
theorem SuRow.rd (h:SuRow w p kd sd n s):Rd .u8 w (.slice (some ⟨p,1,none⟩) 32 32) 32 sd:=⟨_,_,rfl,Nat.le_refl _,by decide,(fun h=> by cases h),fun _=> ⟨p,1,rfl,h.row.lt,h.cs⟩⟩
structure SuQ (B:Nat) (w:World) (p q:Nat) (G:Nat→Prop) (S:TS):Prop where
 r:SuRow w p 2 (fun _=> 0) 0 (.pointer (some ⟨q,0,none⟩))
 st:StA B w q G S
 few:S.few
 hp:B≤p
 np:¬ G p
def SuT (B:Nat) (w:World) (p:Nat) (F:Nat→Prop) (S:TS):Prop:=∃q G,SuQ B w p q G S∧∀b,F b ↔ b=p∨G b
theorem SuQ.below (h:SuQ B w p q G S) (hb:Below w.heap.size w w'):SuQ B w' p q G S:=⟨h.r.below hb,h.st.below hb,h.few,h.hp,h.np⟩
theorem SuQ.hB (h:SuQ B w p q G S):B≤w.heap.size:=Nat.le_trans h.hp (Nat.le_of_lt h.r.row.lt)
theorem SuQ.lt (h:SuQ B w p q G S) {b:Nat} (hb:b=p∨G b):b<w.heap.size:=by
 rcases hb with rfl | hb
 ·exact h.r.row.lt
 ·exact h.st.lt hb
theorem SuQ.put (h:SuQ B w p q G S) (h1:StA B w' q G' S') (hc:Chg G w w') (hf:∀b,G' b→G b∨w.heap.size≤b) (hw:S'.few):SuQ B w' p q G' S':=
 ⟨h.r.keep hc h.np,h1,hw,h.hp,fun hb=> (hf p hb).elim h.np fun h'=> by have:=h.r.row.lt;omega⟩
theorem SuT.below (h:SuT B w p F S) (hb:Below w.heap.size w w'):SuT B w' p F S:=by obtain ⟨q,G,h,hF⟩:=h;exact ⟨q,G,h.below hb,hF⟩
theorem SuT.hi (h:SuT B w p F S) {b:Nat} (hb:F b):B≤b:=by
 obtain ⟨q,G,h,hF⟩:=h
 rcases (hF b).1 hb with rfl | hb
 ·exact h.hp
 ·exact h.st.hi hb
theorem SuT.lt (h:SuT B w p F S) {b:Nat} (hb:F b):b<w.heap.size:=by
 obtain ⟨q,G,h,hF⟩:=h
 exact h.lt ((hF b).1 hb)
theorem SuT.ok (h:SuT B w p F S):S.Ok:=by obtain ⟨q,G,h,hF⟩:=h;exact h.st.ok
theorem SuT.keep {H:Nat→Prop} (h:SuT B w p F S) (hc:Chg H w w') (hF:∀b,F b→¬ H b):SuT B w' p F S:=by
 obtain ⟨q,G,h,hG⟩:=h
 exact ⟨q,G,⟨h.r.keep hc (hF p ((hG p).2 (.inl rfl))),h.st.keep hc fun b hb=> hF b ((hG b).2 (.inr hb)),h.few,h.hp,h.np⟩,hG⟩
def SuTR (B:Nat) (w:World) (p:Nat) (F:Nat→Prop) (v:Value) (r:TA) (w':World):Prop:=∃F',SuT B w' p F' r.2.2∧Byt F' w' v r.1∧Chg F w w'∧∀b,F' b→F b∨w.heap.size≤b
def numA (S:TS) (l:List Int):Int × Bool:=match numV S l with | some n=> ((n:Int),true) | none=> (0,false)
def ofA (S:TS) (l:List Int):Int × Tm × Int:=match numV S l with | some n=> ((n:Int),tmAt S.l n,0) | none=> (0,(0,0,0),11)
theorem suWhich_any (h:SuRow w p kd sd n s):Calls Try.prog 21 #[.pointer (some ⟨p,0,none⟩)] w fun e w'=> e=.returned (.int .i64 kd)∧w'=w:=by
 have ck:=h.ck
 clear h
 go_enter Try.func21,Try.ntmps21
 go_wp2
 go_ret
 exact ⟨rfl,rfl⟩
theorem suValue_ok (n:Int) (h0:0≤n) (h1:n≤4611686018427387904) (w:World):Calls Try.prog 22 #[.int .i64 n,.int .i64 0] w fun e w'=> ∃v,e=.returned (.tuple #[v,.int .i64 0])∧Go.Bas.Own .u8 5 w.heap.size w' v 9 (catF 1 (fun _=> 247) (put8 n))∧Below w.heap.size w w':=by
 have HP:=Lib.hid (fun w=> put_ok n 8 w (by decide) (by decide) h0 h1 (fun h=> absurd h (by decide)))
 clear h0 h1
 go_enter Try.func22,Try.ntmps22
 go_wp2_with fail
 refine (HP.out _).mono ?_
 rintro e w1 ⟨u,rfl,hu,b1⟩
 have HU:=Lib.hid (hu.rd)
 have B1:=Lib.hid b1
 obtain ⟨au,cu,rfl,_⟩:=hu.rd
 clear hu b1
 go_wp2_with (at_builtin;refine append_rd rfl _ _ 28 rfl w.heap.size 5 .u8 1 Try.underlying28 Try.info5 _ 1 (catF 1 (fun _=> 247) (put8 n)) (Go.Bas.Own.new .u8 _ w1 _ 1 _ B1.out.size (by decide) rfl (fun i hi=> one0 hi (by obtain rfl:i=0:=(by omega);rfl))) rfl _ 8 (put8 n) (HU.out.below ((Below.refl _ _).alloc (Nat.le_refl _) _)) rfl (fun i _=> catF_hi) (by decide) (by decide) (by have:=B1.out.size;rw [World.size_alloc];omega) ?_;intro v5 w5 hown hgr)
 have HO:=Lib.hid hown
 have B5:Hid (Below w.heap.size w w5):=Lib.hid (below_grown (B1.out.alloc B1.out.size _) hgr (Go.Bas.Own.new .u8 5 (base:=w.heap.size) w1 #[.int .u8 247] 1 (fun _=> 247) B1.out.size (by decide) rfl (fun i hi=> one0 hi rfl)) (by have:=B1.out.size;rw [World.size_alloc];omega) (Nat.le_refl _))
 go_ret2
 exact ⟨_,rfl,HO.out,B5.out⟩
end
end Go.Proofs.Ytpcjekgfnfjbpaa
namespace Go.Proofs.Ytpcjekgfnfjbpaa
open Go.RowKit Go.Bas Go.ChangeShapes Go.Maps
attribute [local go_sem ↓] Go.wp_at_zero Go.wp_at_succ
section
variable {B : Nat} {w w' : World} {p q : Nat} {F G G' : Nat → Prop} {S S' : TS} {kd n : Int} {sd : Nat → Int} {s : Value} {v : Value} {l : List Int}
theorem suNumber_any (h:SuT B w p F S) (hb:Byt F w v l) (hl:S.l.length≤1000):Calls Try.prog 50 #[.pointer (some ⟨p,0,none⟩),v] w fun e w'=> e=.returned (.tuple #[.int .i64 (numA S l).1,.bool (numA S l).2])∧Below w.heap.size w w':=by
 obtain ⟨q,G,hq,hF⟩:=h
 have HW:=Lib.hid (suWhich_any hq.r)
 have HB:=Lib.hid hb.rd
 have HL:=Lib.hid hl
 obtain ⟨N,hN⟩:∃x,x=numA S l:=⟨_,rfl⟩
 rw [←hN]
 have HN:=Lib.hid hN
 by_cases h9:l.length=9
 ·rw [h9] at HB
  obtain ⟨av,cv,rfl,hc1,hc2,_,hc⟩:=HB.out
  obtain ⟨b,o,rfl,hblt,hcell⟩:=hc (by decide)
  have c0:=hcell 0 (by decide)
  rw [Nat.add_zero] at c0
  by_cases h0:bf l 0=247
  ·rw [h0] at c0
   obtain ⟨a',_,hr,hrd⟩:=Rd.cut (P:=Try.prog) Try.underlying28 Try.info5 (some ⟨b,o,none⟩) 9 cv 1 9 (by decide) (Nat.le_refl _) hc1
   have HT:Hid (Rd .u8 w (.slice a' 8 (cv - 1)) 8 (tl9 l)):=Lib.hid ((hrd w _ HB.out).2)
   have hr:∀w,(Instr.sliceAt 28 (.slice (some ⟨b,o,none⟩) 9 cv) (some (.int .i64 1)) none none).run Try.prog w=.ok (.slice a' 8 (cv - 1)) w:=hr
   obtain ⟨C,hC⟩:∃C,C=cv - 1:=⟨_,rfl⟩
   rw [←hC] at HT hr
   have HRUN:=Lib.hid hr
   have HOKB:Hid (∀i,i<8→0≤tl9 l i∧tl9 l i<256):=Lib.hid fun i hi=> hb.ok.at _ (by omega)
   obtain ⟨E,hE⟩:∃x,x=getErr (tl9 l) 8:=⟨_,rfl⟩
   obtain ⟨X,hX⟩:∃x,x=getNum (tl9 l) 8:=⟨_,rfl⟩
   have HG:=Lib.hid (fun w1 h=> get_any (.slice a' 8 C) 8 (tl9 l) w1 h HOKB.out)
   rw [←hE,←hX] at HG
   have HST:=Lib.hid hq.st
   have cp:=hq.r.cp
   have HR:=Lib.hid hq.r
   have hne:((247:Int) !=247)=false:=rfl
   have hE0:N=if E=0∧X<S.l.length then (X,true) else (0,false):=by
    rw [hN]
    unfold numA numV
    by_cases hc:E=0∧X<S.l.length
    ·have h0':0≤getNum (tl9 l) 8:=getNum_nonneg fun i hi=> (HOKB.out i hi).1
     rw [if_pos ⟨h9,h0,hE▸hc.1,hX▸hc.2⟩,if_pos hc]
     simp only [hX]
     rw [Int.toNat_of_nonneg h0']
    ·rw [if_neg (fun h=> hc ⟨hE.trans h.2.2.1,by rw [hX];exact h.2.2.2⟩),if_neg hc]
   have HE0:=Lib.hid hE0
   have hr:=HRUN.out
   clear hE0 hE hX hC hrd hc hcell hN hF hq hb hl h0
   go_enter Try.func50,Try.ntmps50
   go_wp2_with fail
   refine HW.out.mono ?_
   rintro e w1 ⟨rfl,rfl⟩
   go_wp2_with fail
   refine (HG.out _ HT.out).mono ?_
   rintro e w2 ⟨rfl,b2⟩
   have HST2:=Lib.hid (HST.out.below b2)
   have cp:=(HR.out.below b2).cp
   have B2:=Lib.hid b2
   clear b2
   by_cases e0:E=0
   ·subst e0
    have hz:((0:Int) !=0)=false:=rfl
    go_wp2_with fail
    refine (sLen_any HST2.out).mono ?_
    rintro e w3 ⟨rfl,rfl⟩
    by_cases hx:X<S.l.length
    ·have hg:decide ((S.l.length:Int)≤X)=false:=decide_eq_false (by omega)
     have HE:Hid (N=(X,true)):=Lib.hid (by rw [HE0.out,if_pos ⟨by trivial,hx⟩])
     clear hx
     go_wp2
     go_ret2
     rw [HE.out]
     exact ⟨rfl,B2.out⟩
    ·have hg:decide ((S.l.length:Int)≤X)=true:=decide_eq_true (by omega)
     have HE:Hid (N=(0,false)):=Lib.hid (by rw [HE0.out,if_neg (fun h=> hx h.2)])
     clear hx
     go_wp2
     go_ret2
     rw [HE.out]
     exact ⟨rfl,B2.out⟩
   ·have hz:(E !=0)=true:=by simpa using e0
    have HE:Hid (N=(0,false)):=Lib.hid (by rw [HE0.out,if_neg (fun h=> e0 h.1)])
    clear e0
    go_wp2
    go_ret2
    rw [HE.out]
    exact ⟨rfl,B2.out⟩
  ·have HE:Hid (N=(0,false)):=Lib.hid (by rw [HN.out];unfold numA numV;rw [if_neg (fun h=> h0 h.2.1)])
   have hne:((bf l 0) !=247)=true:=by simpa using h0
   clear hc hcell hN hF hq hb hl h0
   go_enter Try.func50,Try.ntmps50
   go_wp2_with fail
   refine HW.out.mono ?_
   rintro e w1 ⟨rfl,rfl⟩
   go_wp2
   go_ret2
   rw [HE.out]
   exact ⟨rfl,Below.refl _ _⟩
 ·have HE:Hid (N=(0,false)):=Lib.hid (by rw [HN.out];unfold numA numV;rw [if_neg (fun h=> h9 h.1)])
  obtain ⟨av,cv,rfl,hc1,hc2,_,hc⟩:=HB.out
  have h9':((l.length:Int) !=9)=true:=by simp;omega
  clear hc hN hF hq hb hl h9
  go_enter Try.func50,Try.ntmps50
  go_wp2_with fail
  refine HW.out.mono ?_
  rintro e w1 ⟨rfl,rfl⟩
  go_wp2
  go_ret2
  rw [HE.out]
  exact ⟨rfl,Below.refl _ _⟩
theorem wp_asg {P:Program} {o:Oper} {a:Act} {w:World} {K:Act→World→Prop} {Q:Exit→Act→World→Prop} (x:Operand) (d:Nat) (hop:o.op=.assign x) (hd:o.dst=some d) (h:K (a.put (some d) (a.eval x)) w):o.wp P a w K Q:=by
 rw [←hd] at h
 unfold Oper.wp execOp
 simp only [hop]
 exact h
theorem results_tct {P:Program} {fn:Func} {p q r:Tmp} {T:TypeId} (h:fn.results=#[.tmp p,.cell q T,.tmp r]) (tmps:Array Value) (w:World) (k:IntKind) (b n:Nat) (f:Nat→Int) {d:TypeDesc}
  (hp:tmps.getD q undef=.pointer (some ⟨b,0,none⟩)) (ha:Arr k w b n f) (hu:P.underlying T=some d) (hd:aggB d=true) (hi:(P.info? T).map (·.size)=some n):
  (results fn tmps).run P w=.ok (.tuple #[tmps.getD p undef,.agg (arr k n f),tmps.getD r undef]) w:=by
 obtain ⟨t,ht⟩:=ha
 have hp':tmps[q]?.getD undef=.pointer (some ⟨b,0,none⟩):=by simpa using hp
 simp [results,h,hp',asAddr,run_loadVar_row w b t T (arr k n f) (0,0) _ ht hu (by cases d<;> first | rfl | cases hd) (by rw [hi,arr_size])]
theorem tmAt_get {l:List Tm} {n:Nat} (h:n<l.length):l[n]? =some (tmAt l n):=by
 unfold tmAt
 rw [List.getD_eq_getElem?_getD,List.getElem?_eq_getElem h]
 rfl
theorem getA_num {S:TS} {l:List Int} {n:Nat} (hb:okB l) (h:numV S l=some n):getA S (n:Int)=(tmAt S.l n,true):=getA_yes (tmAt_get (numV_lt hb h))
theorem Try.size78:(Try.prog.info? 78).map (·.size)=some 3:=Try.sizeTm
theorem suOf_any (h:SuT B w p F S) (hb:Byt F w v l) (hl:S.l.length≤1000):Calls Try.prog 40 #[.pointer (some ⟨p,0,none⟩),v] w fun e w'=> e=.returned (.tuple #[.int .i64 (ofA S l).1,tmV (ofA S l).2.1,.int .i64 (ofA S l).2.2])∧Below w.heap.size w w':=by
 have HNU:=Lib.hid (fun w1 (b1:Below w.heap.size w w1)=> suNumber_any (h.below b1) (hb.below b1) hl)
 have HOK:=Lib.hid hb.ok
 obtain ⟨q,G,hq,hF⟩:=h
 have HQ:=Lib.hid hq
 obtain ⟨N,hN⟩:∃x,x=ofA S l:=⟨_,rfl⟩
 rw [←hN]
 have HN:=Lib.hid hN
 obtain ⟨av,cv,rfl,_⟩:=hb.rd
 clear hN hq hF hb hl
 go_enter Try.func40,Try.ntmps40
 go_upto_region 1 with (fail)
 refine wp_world (fun w1=> Arr .i64 w1 w.heap.size 3 (fun _=> 0)∧Below w.heap.size w w1) ⟨Arr.newAt rfl (by rfl),(Below.refl _ _).alloc (Nat.le_refl _) _⟩ ?_
 rintro w1 ⟨hA1,b1⟩
 go_wp2_with fail
 refine (HNU.out w1 b1).mono ?_
 rintro e w2 ⟨rfl,b2⟩
 replace hA1:=hA1.kept b2
 replace b1:=b1.trans (b2.mono b1.size)
 clear b2
 cases hm:numV S l with
 | none=>
  have HE:Hid (N=(0,(0,0,0),11)):=Lib.hid (by rw [HN.out];unfold ofA;rw [hm])
  rw [show numA S l=(0,false) from by unfold numA;rw [hm]]
  clear hm
  have HA:=Lib.hid hA1
  have B1:=Lib.hid b1
  clear hA1 b1
  go_wp2_with (refine store_arr rfl 78 _ _ rfl .i64 w.heap.size 3 (fun _=> 0) (tf (0,0,0)) Try.sizeTm rfl rfl HA.out ?_)
  rw [HE.out]
  exact bodyPost_ret (results_tct rfl _ _ .i64 w.heap.size 3 _ rfl (HA.out.setRow _ _) Try.underlying78 rfl Try.sizeTm) rfl ⟨rfl,below_setRow' B1.out (Nat.le_refl _) _⟩
 | some n=>
  have HE:Hid (N=((n:Int),tmAt S.l n,0)):=Lib.hid (by rw [HN.out];unfold ofA;rw [hm])
  have HG:=Lib.hid (getA_num HOK.out hm)
  rw [show numA S l=((n:Int),true) from by unfold numA;rw [hm]]
  clear hm
  have HA:=Lib.hid hA1
  have B1:=Lib.hid b1
  have HST:=Lib.hid (HQ.out.st.below b1)
  have cp:=(HQ.out.r.below b1).cp
  clear hA1 b1
  go_wp2_with fail
  refine (tGet_any HST.out n).mono ?_
  rw [HG.out]
  rintro e w3 ⟨rfl,b3⟩
  have HA:=Lib.hid (HA.out.kept b3)
  have B3:=Lib.hid (B1.out.trans (b3.mono B1.out.size))
  clear b3 cp
  obtain ⟨t,ht⟩:∃t,t=tmAt S.l n:=⟨_,rfl⟩
  rw [←ht] at HE ⊢
  clear ht
  have HLT:Hid (w.heap.size<w3.heap.size):=Lib.hid HA.out.lt
  go_upto_region 5 with (refine store_arr rfl 78 _ _ rfl .i64 w3.heap.size 3 (fun _=> 0) (tf t) Try.sizeTm rfl rfl (Arr.newAt rfl (by rfl)) ?_)
  refine wp_world (fun w4=> Arr .i64 w4 w.heap.size 3 (fun _=> 0)∧Arr .i64 w4 w3.heap.size 3 (tf t)∧Below w.heap.size w w4) ⟨(HA.out.alloc _).setRowOther _ (Nat.ne_of_lt HLT.out) _,(show Arr .i64 (w3.alloc (.cells #[.int .i64 0,.int .i64 0,.int .i64 0] 78)) w3.heap.size 3 (fun _=> 0) from Arr.newAt rfl (by rfl)).setRow 3 (tf t),below_setRow' (B3.out.alloc B3.out.size _) B3.out.size _⟩ ?_
  rintro w4 ⟨h4,h5,hbel⟩
  have hlt:=HLT.out
  obtain ⟨N3,hN3⟩:∃x,x=w3.heap.size:=⟨_,rfl⟩
  rw [←hN3] at hlt h5 ⊢
  clear hN3
  refine region_lastE' (n:=31) 4 rfl (by decide) (by kernel_rfl) (by kernel_rfl) (by kernel_rfl) (by kernel_rfl) rfl
   (fun ii vv ww=> (match ii with | 0 | 2=> vv=.int .i64 ((n:Int)) | 1=> vv=.agg (arr .i64 3 (tf t)) | _=> True)∧(ii=3→Arr .i64 ww (w.heap.size) 3 (tf t))) 3
   (fun b ww=> (Arr .i64 ww (N3) 3 (tf t)∧Below w.heap.size w ww)∧(b=false→Arr .i64 ww ((w.heap.size)) 3 (fun _=> 0))) ⟨⟨h5.drew,hbel.drew⟩,fun _=> h4.drew⟩
   (fun i ww w'=> match i with | 3=> ((Arr .i64 ww (N3) 3 (tf t)∧Below w.heap.size w ww)→(Arr .i64 w' (N3) 3 (tf t)∧Below w.heap.size w w')) | _=> Below ww.heap.size ww w') ?_ ?_ ?_ ?_ rfl ?_ ?_
  ·intro i ww;(try dsimp only);split
   ·exact id
   ·exact Below.refl _ _
  ·intro i b ww w' hi hR hE
   have hE':Below ww.heap.size ww w':=by (try dsimp only at hE);split at hE;(· exact absurd rfl hi);exact hE
   obtain ⟨⟨q0,qb⟩,qrow⟩:=hR
   exact ⟨⟨q0.kept hE',qb.trans (hE'.mono qb.size)⟩,fun hb=> (qrow hb).kept hE'⟩
  ·intro ww w' hR hE
   exact ⟨hE hR.1,fun h=> by cases h⟩
  ·intro i j b v ww w' hij hjb hR hS hE
   refine ⟨hS.1,fun e=> ?_⟩
   subst e
   have hE':Below ww.heap.size ww w':=by (try dsimp only at hE);split at hE;(· exact absurd rfl hij);exact hE
   exact (hS.2 rfl).kept hE'
  ·refine Each.all ?_
   refine ⟨?_,?_,?_,?_,(fun h=> absurd rfl h),trivial⟩
   ·intro _ b a w2 hcb hB0 hF hd
    obtain ⟨⟨h5,hbel⟩,qrow⟩:=hB0
    have hB:=Below.refl w2.heap.size w2
    rw [if_pos (wanted_none rfl)]
    exact flow_move _ (.inl rfl) (by simp) ⟨(hF.same 7 rfl),fun h=> absurd h (by decide)⟩
   ·intro _ b a w2 hcb hB0 hF hd
    obtain ⟨⟨h5,hbel⟩,qrow⟩:=hB0
    have hB:=Below.refl w2.heap.size w2
    rw [if_pos (wanted_none rfl)]
    exact flow_val (fun h=> by cases h) (run_load_str rfl Try.underlying78 rfl Try.size78 (hF.same 9 rfl) (h5.below hB h5.lt)) ⟨rfl,fun h=> absurd h (by decide)⟩
   ·intro _ b a w2 hcb hB0 hF hd
    obtain ⟨⟨h5,hbel⟩,qrow⟩:=hB0
    have hB:=Below.refl w2.heap.size w2
    rw [if_pos (wanted_none rfl)]
    exact flow_move _ (.inr rfl) (by simp) ⟨((hd 0 _ rfl (waits_spec rfl)).1),fun h=> absurd h (by decide)⟩
   ·intro _ b a w2 hcb hB0 hF hd
    obtain ⟨⟨h5,hbel⟩,qrow⟩:=hB0
    have hB:=Below.refl w2.heap.size w2
    rw [if_pos (wanted_none rfl)]
    refine wp_store_arr 78 _ _ rfl .i64 ((w.heap.size)) 3 (fun _=> 0) (tf t) Try.size78 (hF.same 5 rfl) ((hd 1 _ rfl (waits_spec rfl)).1) (qrow (hcb rfl)) ?_
    exact ⟨_,rfl,fun _=> rfl,⟨trivial,fun _=> (qrow (hcb rfl)).setRow _ _⟩,fun ⟨p0,p1⟩=> ⟨p0.setRowOther _ (by omega) _,below_setRow' p1 (by omega) _⟩⟩
  ·intro b a w5 hB0 hF hS
   have V3:=(hS 3 _ rfl (by decide)).2 rfl
   obtain ⟨⟨h5,hbel⟩,_⟩:=hB0
   obtain ⟨xl,hxl⟩:∃x,x=a.tmps.getD 6 undef:=⟨_,rfl⟩
   have ha:=puts_each rfl rfl hF [_,_,_,undef,xl] rfl ⟨(hS 0 _ rfl (by decide)).1,(hS 1 _ rfl (by decide)).1,(hS 2 _ rfl (by decide)).1,trivial,hxl.symm,trivial⟩
   simp only [puts,Act.put,List.setIfInBounds_toArray,List.set_cons_succ,List.set_cons_zero] at ha
   subst ha
   clear hS hF hxl
   refine wp_asg (.const (.int .i64 (0))) 6 rfl rfl ?_
   simp only [Act.put,List.setIfInBounds_toArray,List.set_cons_succ,List.set_cons_zero]
   have hb:=hbel
   go_wp2
   rw [HE.out]
   exact bodyPost_ret (results_tct rfl _ _ .i64 w.heap.size 3 _ rfl V3 Try.underlying78 rfl Try.sizeTm) rfl ⟨rfl,hb⟩
end
end Go.Proofs.Ytpcjekgfnfjbpaa
namespace Go.Proofs.Ytpcjekgfnfjbpaa
open Go.RowKit Go.Bas Go.ChangeShapes Go.Maps
attribute [local go_sem ↓] Go.wp_at_zero Go.wp_at_succ
section
variable {B : Nat} {w w' w1 w2 w3 : World} {p q : Nat} {F G G' : Nat → Prop} {S S' : TS} {kd n : Int} {sd : Nat → Int} {s : Value} {v u : Value} {l : List Int}
theorem suNone (h:SuQ B w p q G S) (hF:∀b,F b ↔ b=p∨G b) (hb:Below w.heap.size w w') (er:Int):SuTR B w p F (.slice none 0 0) ([],er,S) w':=
 ⟨F,⟨q,G,h.below hb,hF⟩,Byt.nil _ _,.of_below hb _,fun b hb=> .inl hb⟩
theorem suDone (h:SuQ B w p q G S) (hF:∀b,F b ↔ b=p∨G b) (hb:Below w.heap.size w w1) (h1:StA B w2 q G' S') (hc:Chg G w1 w2) (hf:∀b,G' b→G b∨w1.heap.size≤b) (hw:S'.few)
  {e:TypeId} (ho:Go.Bas.Own .u8 e w2.heap.size w3 u 9 (catF 1 (fun _=> 247) (put8 n))) (hb3:Below w2.heap.size w2 w3) (er:Int):SuTR B w p F u (valT n,er,S') w3:=by
 have hQ:=(h.below hb).put h1 hc hf hw
 refine ⟨fun b=> b=p∨G' b,⟨q,G',hQ.below hb3,fun _=> Iff.rfl⟩,Byt.own ho (catF_bound (n:=1) (m:=8) (fun _ _=> by decide) fun i _=> put8_b n i) fun b hb=> hQ.lt hb,?_,fun b hb'=> ?_⟩
 ·exact ((Chg.of_below hb F).trans (hc.mono (G:=F) fun b _ hg=> (hF b).2 (.inr hg)) fun _ _ h=> h).trans (Chg.of_below hb3 F) fun _ _ h=> h
 ·rcases hb' with rfl | hb'
  ·exact .inl ((hF b).2 (.inl rfl))
  ·exact (hf b hb').imp (fun h=> (hF b).2 (.inr h)) fun h'=> Nat.le_trans hb.size h'
theorem hasT0 {S:TS} {n:Nat} (h:n<S.l.length):hasT S.l (n:Int) 0=true:=hasT_iff.2 ⟨n,rfl,_,List.getElem?_eq_getElem h,.inl rfl⟩
theorem mayOne {S:TS} {k:Int} (hk:k=2∨k=3∨k=6∨k=7) {n:Nat} (h:n<S.l.length):mayT S (k,(n:Int),0)=true:=by
 rcases hk with rfl | rfl | rfl | rfl
 ·rw [mayT_2,hasT0 h];rfl
 ·rw [mayT_3,hasT0 h];rfl
 ·rw [mayT_6,hasT0 h];rfl
 ·rw [mayT_7,hasT0 h];rfl
theorem putA_ok {S:TS} {t:Tm} (h:mayT S t=true):(putA S t).2=0∧0≤(putA S t).1∧(putA S t).1≤S.l.length:=by
 unfold putA
 rw [if_pos h]
 refine ⟨rfl,?_⟩
 split
 ·rename_i hin
  have:=plc_lt hin
  simp only
  omega
 ·simp only
  omega
theorem okTm_of {k n m:Int} (hk:0≤k∧k≤10) (hn:0≤n∧n≤1000000) (hm:0≤m∧m≤1000000):okTm (k,n,m):=⟨⟨by simp only;omega,by simp only;omega⟩,⟨by simp only;omega,by simp only;omega⟩,⟨by simp only;omega,by simp only;omega⟩⟩
theorem suOne_any (h:SuT B w p F S) (k:Int) (hk:k=2∨k=3∨k=6∨k=7) (hb:Byt F w v l) (hl:S.l.length≤900):Calls Try.prog 28 #[.pointer (some ⟨p,0,none⟩),.int .i64 k,v] w fun e w'=> ∃u,e=.returned (.tuple #[u,.int .i64 (oneT k S l).2.1])∧SuTR B w p F u (oneT k S l) w':=by
 have HO:=Lib.hid (suOf_any h hb (by omega))
 have HOK:=Lib.hid hb.ok
 obtain ⟨q,G,hq,hF⟩:=h
 have HQ:=Lib.hid hq
 have HF:=Lib.hid hF
 have HK:=Lib.hid hk
 have HL:=Lib.hid hl
 obtain ⟨R,hR⟩:∃x,x=oneT k S l:=⟨_,rfl⟩
 rw [←hR]
 have HR:=Lib.hid hR
 obtain ⟨av,cv,rfl,_⟩:=hb.rd
 clear hR hq hF hb hl hk
 go_enter Try.func28,Try.ntmps28
 go_wp2_with fail
 refine HO.out.mono ?_
 rintro e w1 ⟨rfl,b1⟩
 have B1:=Lib.hid b1
 clear b1
 obtain ⟨A,hA⟩:∃x,x=ofA S l:=⟨_,rfl⟩
 rw [←hA]
 have HA:=Lib.hid hA
 clear hA
 go_upto_region 2 with (fail)
 refine wp_world (fun w2=> Below w.heap.size w w2) (B1.out.alloc B1.out.size _) ?_
 rintro w2 b2
 have B2:=Lib.hid b2
 clear b2
 cases hm:numV S l with
 | none=>
  have HE:Hid (R=([],11,S)):=Lib.hid (by rw [HR.out];unfold oneT;rw [hm])
  obtain rfl:A=(0,(0,0,0),11):=by rw [HA.out];unfold ofA;rw [hm]
  clear hm HA
  go_wp2
  go_ret2
  rw [HE.out]
  exact ⟨_,rfl,suNone HQ.out HF.out B2.out 11⟩
 | some m=>
  have HN:=Lib.hid (numV_lt HOK.out hm)
  have HE:Hid (R=(valT (putA S (k,m,0)).1,0,S.put (k,m,0))):=Lib.hid (by rw [HR.out];unfold oneT;rw [hm])
  obtain ⟨t,ht⟩:∃t,t=tmAt S.l m:=⟨_,rfl⟩
  obtain rfl:A=((m:Int),t,0):=by rw [HA.out,ht];unfold ofA;rw [hm]
  clear hm HA ht
  have HP:=Lib.hid (putA_ok (mayOne HK.out HN.out))
  have HOT:Hid (okTm (k,(m:Int),0)):=Lib.hid (okTm_of (by have:=HK.out;omega) (by have:=HN.out;have:=HL.out;omega) (by omega))
  have cp:=(HQ.out.r.below B2.out).cp
  go_wp2_with fail
  refine (tPut_any (HQ.out.st.below B2.out) (HQ.out.below B2.out).hB _ HOT.out (by have:=HL.out;omega)).mono ?_
  rintro e w3 ⟨rfl,G3,h3,c3,f3⟩
  rw [HP.out.1]
  obtain ⟨X,hX⟩:∃X,X=(putA S (k,(m:Int),0)).1:=⟨_,rfl⟩
  rw [←hX] at HP HE ⊢
  have HX:=Lib.hid HP.out.2
  have H3:=Lib.hid h3
  have C3:=Lib.hid c3
  have F3:=Lib.hid f3
  have HW:Hid ((S.put (k,(m:Int),0)).few):=Lib.hid (HQ.out.few.put (by have:=HK.out;simp only;omega))
  clear hX h3 c3 f3 cp HP
  go_wp2_with fail
  refine (suValue_ok X HX.out.1 (by have:=HX.out.2;have:=HL.out;omega) w3).mono ?_
  rintro e w4 ⟨u,rfl,hu,b4⟩
  have HD:=Lib.hid (suDone HQ.out HF.out B2.out H3.out C3.out F3.out HW.out hu b4 0)
  clear hu b4
  go_wp2
  go_ret2
  rw [HE.out]
  exact ⟨_,rfl,HD.out⟩
theorem hasTk {S:TS} {n:Nat} {k:Int} (h:n<S.l.length) (hk:kdT S n=k):hasT S.l (n:Int) k=true:=hasT_iff.2 ⟨n,rfl,_,tmAt_get h,.inr hk⟩
theorem mayTwo {S:TS} {k:Int} {n m:Nat} (hk:(k=4∧kdT S n=2)∨k=5) (h:n<S.l.length) (h':m<S.l.length):mayT S (k,(n:Int),(m:Int))=true:=by
 rcases hk with ⟨rfl,h2⟩ | rfl
 ·rw [mayT_4,hasTk h h2,hasT0 h'];rfl
 ·rw [mayT_5,hasT0 h,hasT0 h'];rfl
theorem suTwo_any {v':Value} {l':List Int} (h:SuT B w p F S) (k:Int) (hk:k=4∨k=5) (hb:Byt F w v l) (hb':Byt F w v' l') (hl:S.l.length≤900):Calls Try.prog 54 #[.pointer (some ⟨p,0,none⟩),.int .i64 k,v,v'] w fun e w'=> ∃u,e=.returned (.tuple #[u,.int .i64 (twoT k S l l').2.1])∧SuTR B w p F u (twoT k S l l') w':=by
 have HO:=Lib.hid (suOf_any h hb (by omega))
 have HO':=Lib.hid (fun w1 (b1:Below w.heap.size w w1)=> suOf_any (h.below b1) (hb'.below b1) (by omega))
 have HOK:=Lib.hid hb.ok
 have HOK':=Lib.hid hb'.ok
 obtain ⟨q,G,hq,hF⟩:=h
 have HQ:=Lib.hid hq
 have HF:=Lib.hid hF
 have HK:=Lib.hid hk
 have HL:=Lib.hid hl
 obtain ⟨R,hR⟩:∃x,x=twoT k S l l':=⟨_,rfl⟩
 rw [←hR]
 have HR:=Lib.hid hR
 obtain ⟨av,cv,rfl,_⟩:=hb.rd
 obtain ⟨av',cv',rfl,_⟩:=hb'.rd
 clear hR hq hF hb hb' hl hk
 go_enter Try.func54,Try.ntmps54
 go_wp2_with fail
 refine HO.out.mono ?_
 rintro e w1 ⟨rfl,b1⟩
 have B1:=Lib.hid b1
 clear b1
 obtain ⟨A,hA⟩:∃x,x=ofA S l:=⟨_,rfl⟩
 rw [←hA]
 have HA:=Lib.hid hA
 clear hA
 go_upto_region 2 with (fail)
 refine wp_world (fun w2=> w2.cell? ⟨w1.heap.size,0,none⟩=some (.int .i64 A.2.1.1)∧Below w.heap.size w w2) ⟨cell_of_row _ _ 0 _ _ (0,0) (heap_alloc_new w1 _),B1.out.alloc B1.out.size _⟩ ?_
 rintro w2 ⟨c0,b2⟩
 have B2:=Lib.hid b2
 clear b2
 cases hm:numV S l with
 | none=>
  have HE:Hid (R=([],11,S)):=Lib.hid (by rw [HR.out];unfold twoT;rw [hm])
  obtain rfl:A=(0,(0,0,0),11):=by rw [HA.out];unfold ofA;rw [hm]
  clear hm HA
  go_wp2
  go_ret2
  rw [HE.out]
  exact ⟨_,rfl,suNone HQ.out HF.out B2.out 11⟩
 | some n=>
  have HN:=Lib.hid (numV_lt HOK.out hm)
  have HM:=Lib.hid hm
  obtain ⟨t,ht⟩:∃t,t=tmAt S.l n:=⟨_,rfl⟩
  obtain rfl:A=((n:Int),t,0):=by rw [HA.out,ht];unfold ofA;rw [hm]
  have HT:=Lib.hid ht
  have HKD:Hid (kdT S n=t.1):=Lib.hid (by rw [ht];rfl)
  clear hm HA ht
  by_cases hbad:k=4∧t.1≠2
  ·obtain ⟨rfl,h2⟩:=hbad
   have HE:Hid (R=([],11,S)):=Lib.hid (by
    rw [HR.out];unfold twoT;rw [HM.out]
    cases numV S l' with
    | none=> rfl
    | some m=> exact if_pos ⟨rfl,by rw [HKD.out];exact h2⟩)
   have h2':(t.1 !=2)=true:=by simpa using h2
   clear h2
   go_wp2
   go_ret2
   rw [HE.out]
   exact ⟨_,rfl,suNone HQ.out HF.out B2.out 11⟩
  ·have hc:(k=4∧(t.1 !=2)=false)∨(k=5∧((5:Int)==4)=false):=by
    rcases HK.out with rfl | rfl
    ·exact .inl ⟨rfl,by by_cases e:t.1=2;(· simpa using e);exact absurd ⟨rfl,e⟩ hbad⟩
    ·exact .inr ⟨rfl,rfl⟩
   have HKK:Hid ((k=4∧kdT S n=2)∨k=5):=Lib.hid (hc.imp (fun h=> ⟨h.1,by rw [HKD.out];simpa using h.2⟩) fun h=> h.1)
   have HMAY:Hid (∀m:Nat,m<S.l.length→mayT S (k,(n:Int),(m:Int))=true):=Lib.hid fun m hm=> mayTwo HKK.out HN.out hm
   have HRES:Hid (∀m:Nat,numV S l'=some m→R=(valT (putA S (k,n,m)).1,0,S.put (k,n,m))):=Lib.hid fun m hm=> by
    rw [HR.out];unfold twoT;rw [HM.out,hm]
    exact if_neg (by rw [HKD.out];exact hbad)
   have HOT:Hid (∀m:Nat,m<S.l.length→okTm (k,(n:Int),(m:Int))):=Lib.hid fun m hm=> okTm_of (by have:=HK.out;omega) (by have:=HN.out;have:=HL.out;omega) (by have:=HL.out;omega)
   have HK1:Hid (k≠1):=Lib.hid (by have:=HK.out;omega)
   have HNO:Hid (numV S l'=none→R=([],11,S)):=Lib.hid fun hm=> by rw [HR.out];unfold twoT;rw [HM.out,hm]
   clear hbad HKK HK HR HKD
   rcases hc with ⟨rfl,h2⟩ | ⟨rfl,h2⟩
   all_goals
    go_wp2_with fail
    refine (HO'.out w2 B2.out).mono ?_
    rintro e w3 ⟨rfl,b3⟩
    have B3:=Lib.hid (B2.out.trans (b3.mono B2.out.size))
    clear b3 c0 h2
    obtain ⟨A,hA⟩:∃x,x=ofA S l':=⟨_,rfl⟩
    rw [←hA]
    have HA:=Lib.hid hA
    clear hA
    go_upto_region 5 with (fail)
    refine wp_world (fun w4=> Below w.heap.size w w4) (B3.out.alloc B3.out.size _) ?_
    rintro w4 b4
    have B4:=Lib.hid b4
    clear b4
    cases hm:numV S l' with
    | none=>
     have HE:Hid (R=([],11,S)):=Lib.hid (HNO.out hm)
     obtain rfl:A=(0,(0,0,0),11):=by rw [HA.out];unfold ofA;rw [hm]
     clear hm HA
     go_wp2
     go_ret2
     rw [HE.out]
     exact ⟨_,rfl,suNone HQ.out HF.out B4.out 11⟩
    | some m=>
     have HE:=Lib.hid (HRES.out m hm)
     have HN':=Lib.hid (numV_lt HOK'.out hm)
     have HOT:=Lib.hid (HOT.out m HN'.out)
     have HP:=Lib.hid (putA_ok (HMAY.out m HN'.out))
     obtain ⟨t',ht'⟩:∃t,t=tmAt S.l m:=⟨_,rfl⟩
     obtain rfl:A=((m:Int),t',0):=by rw [HA.out,ht'];unfold ofA;rw [hm]
     clear hm HA ht'
     have cp:=(HQ.out.r.below B4.out).cp
     go_wp2_with fail
     refine (tPut_any (HQ.out.st.below B4.out) (HQ.out.below B4.out).hB _ HOT.out (by have:=HL.out;omega)).mono ?_
     rintro e w5 ⟨rfl,G3,h3,c3,f3⟩
     rw [HP.out.1]
     have HW:=Lib.hid (HQ.out.few.put (t:=(_,(n:Int),(m:Int))) HK1.out)
     have HX:=Lib.hid HP.out.2
     have H3:=Lib.hid h3
     have C3:=Lib.hid c3
     have F3:=Lib.hid f3
     clear HP h3 c3 f3 cp
     generalize putA S (_,(n:Int),(m:Int))=PA at HX HE ⊢
     obtain ⟨X,er⟩:=PA
     simp only at HX HE ⊢
     go_wp2_with fail
     refine (suValue_ok X HX.out.1 (by have:=HX.out.2;have:=HL.out;omega) w5).mono ?_
     rintro e w6 ⟨u,rfl,hu,b4⟩
     have HD:=Lib.hid (suDone HQ.out HF.out B4.out H3.out C3.out F3.out HW.out hu b4 0)
     clear hu b4
     go_wp2
     go_ret2
     rw [HE.out]
     exact ⟨_,rfl,HD.out⟩
end
end Go.Proofs.Ytpcjekgfnfjbpaa
namespace Go.Proofs.Ytpcjekgfnfjbpaa
open Go.RowKit Go.Bas Go.ChangeShapes Go.Maps
attribute [local go_sem ↓] Go.wp_at_zero Go.wp_at_succ
section
variable {B : Nat} {w w' w1 w2 w3 : World} {p q : Nat} {F G G' : Nat → Prop} {S S' : TS} {kd n : Int} {sd : Nat → Int} {s : Value} {v u v' : Value} {l l' : List Int}
theorem suDraw_tm (h:SuT B w p F S) (s:Int) (hl:S.l.length≤900):Calls Try.prog 8 #[.pointer (some ⟨p,0,none⟩),.int .i64 s] w fun e w'=> ∃u,e=.returned (.tuple #[u,.int .i64 (drawT S s).2.1])∧SuTR B w p F u (drawT S s) w':=by
 obtain ⟨q,G,hq,hF⟩:=h
 have HQ:=Lib.hid hq
 have HF:=Lib.hid hF
 have HL:=Lib.hid hl
 have HW:=Lib.hid (suWhich_any hq.r)
 obtain ⟨R,hR⟩:∃x,x=drawT S s:=⟨_,rfl⟩
 rw [←hR]
 have HR:=Lib.hid hR
 have ck:=hq.r.ck
 have cp:=hq.r.cp
 clear hR hq hF hl
 by_cases hs:1≤s∧s≤4
 ·have HS:Hid (isSort s=true):=Lib.hid (by unfold isSort;rw [decide_eq_true hs.1,decide_eq_true hs.2];rfl)
  have HN:Hid (nxt S.l s≤topT):=Lib.hid (by have:=HQ.out.few s;have:=HL.out;unfold topT;omega)
  have HE:Hid (R=(valT S.l.length,0,S.draw s)):=Lib.hid (by rw [HR.out];unfold drawT;rw [if_pos HS.out])
  have HA:Hid (drawA S s=((S.l.length:Int),0)):=Lib.hid (by unfold drawA;rw [if_pos HS.out,if_pos HN.out])
  have h1:decide (s<1)=false:=decide_eq_false (by omega)
  have h2:decide (4<s)=false:=decide_eq_false (by omega)
  clear hs
  go_enter Try.func8,Try.ntmps8
  go_wp2_with fail
  refine HW.out.mono ?_
  rintro e w1 ⟨rfl,rfl⟩
  go_wp2_with fail
  refine (tDraw_any HQ.out.st HQ.out.hB s (by have:=HL.out;omega)).mono ?_
  rw [HA.out]
  rintro e w2 ⟨rfl,G3,h3,c3,f3⟩
  have H3:=Lib.hid h3
  have C3:=Lib.hid c3
  have F3:=Lib.hid f3
  clear h3 c3 f3 ck cp
  go_wp2_with fail
  refine (suValue_ok (S.l.length:Int) (by omega) (by have:=HL.out;omega) w2).mono ?_
  rintro e w4 ⟨u,rfl,hu,b4⟩
  have HD:=Lib.hid (suDone HQ.out HF.out (Below.refl _ _) H3.out C3.out F3.out (HQ.out.few.draw s) hu b4 0)
  clear hu b4
  go_wp2
  go_ret2
  rw [HE.out]
  exact ⟨_,rfl,HD.out⟩
 ·have HE:Hid (R=([],2,S)):=Lib.hid (by
   rw [HR.out];unfold drawT;rw [if_neg]
   intro h
   simp only [isSort,Bool.and_eq_true,decide_eq_true_eq] at h
   exact hs h)
  by_cases h1:s<1
  ·have h1':decide (s<1)=true:=decide_eq_true h1
   clear hs h1 cp
   go_enter Try.func8,Try.ntmps8
   go_wp2_with fail
   refine HW.out.mono ?_
   rintro e w1 ⟨rfl,rfl⟩
   go_wp2
   go_ret2
   rw [HE.out]
   exact ⟨_,rfl,suNone HQ.out HF.out (Below.refl _ _) 2⟩
  ·have h1':decide (s<1)=false:=decide_eq_false h1
   have h2':decide (4<s)=true:=decide_eq_true (by omega)
   clear hs h1 cp
   go_enter Try.func8,Try.ntmps8
   go_wp2_with fail
   refine HW.out.mono ?_
   rintro e w1 ⟨rfl,rfl⟩
   go_wp2
   go_ret2
   rw [HE.out]
   exact ⟨_,rfl,suNone HQ.out HF.out (Below.refl _ _) 2⟩
theorem suNext_tm (h:SuT B w p F S) (hb:Byt F w v l) (hl:S.l.length≤900):Calls Try.prog 11 #[.pointer (some ⟨p,0,none⟩),v] w fun e w'=> ∃u,e=.returned (.tuple #[u,.int .i64 (oneT 6 S l).2.1])∧SuTR B w p F u (oneT 6 S l) w':=by
 have HC:=Lib.hid (suOne_any h 6 (by decide) hb hl)
 have HW:Hid (Calls Try.prog 21 #[.pointer (some ⟨p,0,none⟩)] w fun e w'=> e=.returned (.int .i64 2)∧w'=w):=Lib.hid (by obtain ⟨q,G,hq,_⟩:=h;exact suWhich_any hq.r)
 obtain ⟨R,hR⟩:∃x,x=oneT 6 S l:=⟨_,rfl⟩
 rw [←hR] at HC ⊢
 obtain ⟨av,cv,rfl,_⟩:=hb.rd
 clear hR h hb hl
 go_enter Try.func11,Try.ntmps11
 go_wp2_with fail
 refine HW.out.mono ?_
 rintro e w1 ⟨rfl,rfl⟩
 go_wp2_with fail
 refine HC.out.mono ?_
 rintro e w2 ⟨u,rfl,hR⟩
 have HR:=Lib.hid hR
 clear hR
 go_wp2
 go_ret2
 exact ⟨u,rfl,HR.out⟩
theorem suLock_tm (h:SuT B w p F S) (hb:Byt F w v l) (hb':Byt F w v' l') (hl:S.l.length≤900):Calls Try.prog 42 #[.pointer (some ⟨p,0,none⟩),v,v'] w fun e w'=> ∃u,e=.returned (.tuple #[u,.int .i64 (twoT 5 S l l').2.1])∧SuTR B w p F u (twoT 5 S l l') w':=by
 have HC:=Lib.hid (suTwo_any h 5 (by decide) hb hb' hl)
 have HW:Hid (Calls Try.prog 21 #[.pointer (some ⟨p,0,none⟩)] w fun e w'=> e=.returned (.int .i64 2)∧w'=w):=Lib.hid (by obtain ⟨q,G,hq,_⟩:=h;exact suWhich_any hq.r)
 obtain ⟨R,hR⟩:∃x,x=twoT 5 S l l':=⟨_,rfl⟩
 rw [←hR] at HC ⊢
 obtain ⟨av,cv,rfl,_⟩:=hb.rd
 obtain ⟨av',cv',rfl,_⟩:=hb'.rd
 clear hR h hb hb' hl
 go_enter Try.func42,Try.ntmps42
 go_wp2_with fail
 refine HW.out.mono ?_
 rintro e w1 ⟨rfl,rfl⟩
 go_wp2_with fail
 refine HC.out.mono ?_
 rintro e w2 ⟨u,rfl,hR⟩
 have HR:=Lib.hid hR
 clear hR
 go_wp2
 go_ret2
 exact ⟨u,rfl,HR.out⟩
end
end Go.Proofs.Ytpcjekgfnfjbpaa
namespace Go.Proofs.Ytpcjekgfnfjbpaa
open Go.RowKit Go.Bas Go.ChangeShapes Go.Maps
attribute [local go_sem ↓] Go.wp_at_zero Go.wp_at_succ
section
variable {B : Nat} {w w' w1 w2 w3 : World} {p q : Nat} {F G G' : Nat → Prop} {S S' : TS} {kd n : Int} {sd : Nat → Int} {s : Value} {v u v' : Value} {l l' : List Int}
theorem SuT.which (h:SuT B w p F S):Calls Try.prog 21 #[.pointer (some ⟨p,0,none⟩)] w fun e w'=> e=.returned (.int .i64 2)∧w'=w:=by obtain ⟨q,G,hq,_⟩:=h;exact suWhich_any hq.r
theorem okB_num (h:S.Ok) {m:Nat} (hm:m<S.l.length) (hk:kdT S m=4∨kdT S m=5∨kdT S m=8):∃b:Nat,(tmAt S.l m).2.2=b∧b<m:=by
 have:=h.ok m _ (tmAt_get hm)
 unfold kdT at hk
 rcases this with h | h | ⟨_,_,b,h1,h2⟩ | ⟨_,_,b,h1,h2⟩ | ⟨_,_,b,h1,h2,_⟩ | h | h
 ·omega
 ·omega
 ·exact ⟨b,h1,h2⟩
 ·exact ⟨b,h1,h2⟩
 ·exact ⟨b,h1,h2⟩
 ·omega
 ·omega
theorem ofA_none (h:numV S l=none):ofA S l=(0,(0,0,0),11):=by unfold ofA;rw [h]
theorem ofA_some {n:Nat} (h:numV S l=some n):ofA S l=((n:Int),tmAt S.l n,0):=by unfold ofA;rw [h]
theorem suUnlock_tm (h:SuT B w p F S) (hb:Byt F w v l) (hb':Byt F w v' l') (hl:S.l.length≤1000):Calls Try.prog 31 #[.pointer (some ⟨p,0,none⟩),v,v'] w fun e w'=> ∃u,e=.returned (.tuple #[u,.int .i64 (unlockT S l l').2])∧Byt F w' u (unlockT S l l').1∧Below w.heap.size w w':=by
 have HW:=Lib.hid h.which
 have HO:=Lib.hid (suOf_any h hb (by omega))
 have HO':=Lib.hid (fun w1 (b1:Below w.heap.size w w1)=> suOf_any (h.below b1) (hb'.below b1) (by omega))
 have HOK:=Lib.hid hb.ok
 have HOK':=Lib.hid hb'.ok
 have HSO:=Lib.hid h.ok
 have HLT:Hid (∀b,F b→b<w.heap.size):=Lib.hid fun b hb=> h.lt hb
 have HL:=Lib.hid hl
 obtain ⟨R,hR⟩:∃x,x=unlockT S l l':=⟨_,rfl⟩
 rw [←hR]
 have HR:=Lib.hid hR
 obtain ⟨av,cv,rfl,_⟩:=hb.rd
 obtain ⟨av',cv',rfl,_⟩:=hb'.rd
 clear hR h hb hb' hl
 go_enter Try.func31,Try.ntmps31
 go_wp2_with fail
 refine HW.out.mono ?_
 rintro e w0 ⟨rfl,rfl⟩
 go_wp2_with fail
 refine HO.out.mono ?_
 rintro e w1 ⟨rfl,b1⟩
 have B1:=Lib.hid b1
 clear b1
 obtain ⟨A,hA⟩:∃x,x=ofA S l:=⟨_,rfl⟩
 rw [←hA]
 have HA:=Lib.hid hA
 clear hA
 go_upto_region 11 with (fail)
 refine wp_world (fun w2=> Below w0.heap.size w0 w2) (B1.out.alloc B1.out.size _) ?_
 rintro w2 b2
 have B2:=Lib.hid b2
 clear b2
 go_wp2_with fail
 refine (HO'.out w2 B2.out).mono ?_
 rintro e w3 ⟨rfl,b3⟩
 have B3:=Lib.hid (B2.out.trans (b3.mono B2.out.size))
 clear b3
 obtain ⟨C,hC⟩:∃x,x=ofA S l':=⟨_,rfl⟩
 rw [←hC]
 have HC:=Lib.hid hC
 clear hC
 go_upto_region 12 with (fail)
 refine wp_world (fun w4=> w4.cell? ⟨w3.heap.size,0,none⟩=some (.int .i64 C.2.1.1)∧w4.cell? ⟨w3.heap.size,1,none⟩=some (.int .i64 C.2.1.2.1)∧w4.cell? ⟨w3.heap.size,2,none⟩=some (.int .i64 C.2.1.2.2)∧Below w0.heap.size w0 w4) ⟨cell_of_row _ _ 0 _ _ (0,0) (heap_alloc_new w3 _),cell_of_row _ _ 1 _ _ (0,0) (heap_alloc_new w3 _),cell_of_row _ _ 2 _ _ (0,0) (heap_alloc_new w3 _),B3.out.alloc B3.out.size _⟩ ?_
 rintro w4 ⟨c0,c1,c2,b4⟩
 have B4:=Lib.hid b4
 clear b4
 cases hm:numV S l with
 | none=>
  have HE:Hid (R=([],11)):=Lib.hid (by rw [HR.out];unfold unlockT;rw [hm])
  obtain rfl:A=(0,(0,0,0),11):=HA.out.trans (ofA_none hm)
  clear hm HA c0 c1 c2
  go_wp2
  go_ret2
  rw [HE.out]
  exact ⟨_,rfl,Byt.nil _ _,B4.out⟩
 | some n=>
  have HM:=Lib.hid hm
  have HN:=Lib.hid (numV_lt HOK.out hm)
  obtain ⟨t,ht⟩:∃t,t=tmAt S.l n:=⟨_,rfl⟩
  obtain rfl:A=((n:Int),t,0):=HA.out.trans (ht▸ofA_some hm)
  clear hm HA ht
  cases hm:numV S l' with
  | none=>
   have HE:Hid (R=([],11)):=Lib.hid (by rw [HR.out];unfold unlockT;rw [HM.out,hm])
   obtain rfl:C=(0,(0,0,0),11):=HC.out.trans (ofA_none hm)
   clear hm HC c0 c1 c2
   go_wp2
   go_ret2
   rw [HE.out]
   exact ⟨_,rfl,Byt.nil _ _,B4.out⟩
  | some m=>
   have HN':=Lib.hid (numV_lt HOK'.out hm)
   have HE0:Hid (R=if kdT S m=5∧(tmAt S.l m).2.1=n then (valT (tmAt S.l m).2.2,0) else ([],20)):=Lib.hid (by rw [HR.out];unfold unlockT;rw [HM.out,hm])
   have HB:=Lib.hid (fun hk=> okB_num HSO.out HN'.out hk)
   obtain rfl:C=((m:Int),tmAt S.l m,0):=HC.out.trans (ofA_some hm)
   have hkd:kdT S m=(tmAt S.l m).1:=rfl
   rw [hkd] at HE0 HB
   obtain ⟨u,hu⟩:∃t,t=tmAt S.l m:=⟨_,rfl⟩
   rw [←hu] at HE0 HB c0 c1 c2 ⊢
   clear hm HC hkd hu
   by_cases hk:u.1=5
   ·have hk':(u.1 !=5)=false:=by simpa using hk
    by_cases hn:u.2.1=n
    ·have hn':(u.2.1 !=(n:Int))=false:=by simpa using hn
     obtain ⟨b,hb1,hb2⟩:=HB.out (.inr (.inl hk))
     have HBL:=Lib.hid hb2
     have HE:Hid (R=(valT (b:Int),0)):=Lib.hid (by rw [HE0.out,if_pos ⟨hk,hn⟩,hb1])
     rw [hb1] at c2
     clear hk hn hb1 hb2
     go_wp2_with fail
     refine (suValue_ok (b:Int) (by omega) (by have:=HBL.out;have:=HN'.out;have:=HL.out;omega) w4).mono ?_
     rintro e w6 ⟨x,rfl,hx,b6⟩
     have HX:=Lib.hid (Byt.own hx (catF_bound (n:=1) (m:=8) (fun _ _=> by decide) fun i _=> put8_b _ i) fun b hb=> Nat.lt_of_lt_of_le (HLT.out b hb) B4.out.size)
     have B6:=Lib.hid (B4.out.trans (b6.mono B4.out.size))
     clear hx b6
     go_wp2
     go_ret2
     rw [HE.out]
     exact ⟨_,rfl,HX.out,B6.out⟩
    ·have hn':(u.2.1 !=(n:Int))=true:=by simpa using hn
     have HE:Hid (R=([],20)):=Lib.hid (by rw [HE0.out,if_neg (fun h=> hn h.2)])
     clear hk hn
     go_wp2
     go_ret2
     rw [HE.out]
     exact ⟨_,rfl,Byt.nil _ _,B4.out⟩
   ·have hk':(u.1 !=5)=true:=by simpa using hk
    have HE:Hid (R=([],20)):=Lib.hid (by rw [HE0.out,if_neg (fun h=> hk h.1)])
    clear hk
    go_wp2
    go_ret2
    rw [HE.out]
    exact ⟨_,rfl,Byt.nil _ _,B4.out⟩
end
end Go.Proofs.Ytpcjekgfnfjbpaa
