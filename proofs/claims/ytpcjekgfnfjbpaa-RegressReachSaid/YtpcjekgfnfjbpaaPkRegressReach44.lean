/-
  Part 44 of the texts that the proof of RegressReach rests on, one after the other. Conditions: named in each theorem.
-/
import Derived.Test.YtpcjekgfnfjbpaaPkRegressReach20
import Derived.Test.YtpcjekgfnfjbpaaPkRegressReach17
import Derived.Test.YtpcjekgfnfjbpaaPkRegressReach16
import Derived.Test.YtpcjekgfnfjbpaaPkRegressReach14
import Derived.Test.YtpcjekgfnfjbpaaPkRegressReach1
import Derived.Test.YtpcjekgfnfjbpaaPkRegressReach2
import Derived.Test.YtpcjekgfnfjbpaaPkRegressReach12
import Derived.Test.YtpcjekgfnfjbpaaPkRegressReach5
import Derived.Test.YtpcjekgfnfjbpaaPkRegressReach4
import Derived.Test.YtpcjekgfnfjbpaaPkRegressReach3
import Derived.Test.YtpcjekgfnfjbpaaPkRegressReach6
import Derived.Test.YtpcjekgfnfjbpaaPkRegressReach7
import Derived.Test.YtpcjekgfnfjbpaaPkRegressReach11
import Derived.Test.YtpcjekgfnfjbpaaPkRegressReach10
import Derived.Test.YtpcjekgfnfjbpaaPkRegressReach9
import Derived.Test.YtpcjekgfnfjbpaaPkRegressReach8
import Derived.Test.YtpcjekgfnfjbpaaPkRegressReach13
import Derived.Test.YtpcjekgfnfjbpaaPkRegressReach15
import Derived.Test.YtpcjekgfnfjbpaaPkRegressReach18
import Derived.Test.YtpcjekgfnfjbpaaPkRegressReach19
import Derived.Test.YtpcjekgfnfjbpaaPkRegressReach33
import Derived.Test.YtpcjekgfnfjbpaaPkRegressReach28
import Derived.Test.YtpcjekgfnfjbpaaPkRegressReach25
import Derived.Test.YtpcjekgfnfjbpaaPkRegressReach24
import Derived.Test.YtpcjekgfnfjbpaaPkRegressReach22
import Derived.Test.YtpcjekgfnfjbpaaPkRegressReach21
import Derived.Test.YtpcjekgfnfjbpaaPkRegressReach23
import Derived.Test.YtpcjekgfnfjbpaaPkRegressReach27
import Derived.Test.YtpcjekgfnfjbpaaPkRegressReach26
import Derived.Test.YtpcjekgfnfjbpaaPkRegressReach29
import Derived.Test.YtpcjekgfnfjbpaaPkRegressReach30
import Derived.Test.YtpcjekgfnfjbpaaPkRegressReach31
import Derived.Test.YtpcjekgfnfjbpaaPkRegressReach32
import Derived.Test.YtpcjekgfnfjbpaaPkRegressReach43
import Derived.Test.YtpcjekgfnfjbpaaPkRegressReach37
import Derived.Test.YtpcjekgfnfjbpaaPkRegressReach36
import Derived.Test.YtpcjekgfnfjbpaaPkRegressReach35
import Derived.Test.YtpcjekgfnfjbpaaPkRegressReach34
import Derived.Test.YtpcjekgfnfjbpaaPkRegressReach38
import Derived.Test.YtpcjekgfnfjbpaaPkRegressReach39
import Derived.Test.YtpcjekgfnfjbpaaPkRegressReach42
import Derived.Test.YtpcjekgfnfjbpaaPkRegressReach41
import Derived.Test.YtpcjekgfnfjbpaaPkRegressReach40
import Derived.BigFrame
import Derived.BigQuiet
import Derived.ChangeKeysEq
import Derived.ChangeMaps5
import Derived.ChangeOld
import Derived.Deep.Cut
import Derived.Deep.DrawnRows
import Derived.Deep.LoopGhost
import Derived.Deep.MidRow
import Derived.Deep.QuietTactic
import Derived.Deep.RegionHeld3
import Derived.Deep.RegionLaw
import Derived.Deep.Slices
import Derived.Deep.Strs
import Derived.Deep.Upon
import Derived.Deep.WholeRow
import Derived.DeepKeys4
import Derived.Great.BuildSlice
import Derived.Great.Walk
import Derived.Laws.BitsAllLaws
import Derived.Laws.BytesArg
import Derived.Laws.CopyOwn
import Derived.Laws.IdiomCopy
import Derived.Laws.IdiomStrings
import Derived.Laws.Strings
import Derived.Laws.StructEq
import Derived.Lib.BufferRead
import Derived.Lib.Hide
import Derived.LoopIn
import Derived.LoopNIn
import Derived.MapViews
import Derived.Maps.AppendAt
import Derived.Maps.OwnSet
import Derived.Maps.Range
import Derived.Maps.Views
import Derived.OpenShut
import Derived.Orders
import Derived.OrdersIn
import Derived.OwnWalkIn
import Derived.ProofKit
import Derived.RangeFuncBound
import Derived.RangeFuncBox
import Derived.RangeFuncCalls
import Derived.RangeFuncFrom
import Derived.RangeFuncLeaves
import Derived.RangeFuncNested
import Derived.Shelf.Abstract
import Derived.Shelf.RegionOpen
import Derived.ShutString
import Derived.StillTactics
import Derived.StillTailTactics
import Derived.TacticsInMore
import Derived.Test.YtpcjekgfnfjbpaaArr
import Derived.Test.YtpcjekgfnfjbpaaFlow
import Derived.Test.YtpcjekgfnfjbpaaKit
import Derived.Test.YtpcjekgfnfjbpaaOpen
import Derived.Test.YtpcjekgfnfjbpaaOpenT
import Derived.Test.YtpcjekgfnfjbpaaRows
import Derived.Test.YtpcjekgfnfjbpaaTxt
import Derived.WalkKit
import Derived.WalkLawsBesides
import Derived.WalkSmall
import Derived.WalkSpells
set_option linter.unusedVariables false
set_option linter.unusedSimpArgs false
set_option maxRecDepth 100000
set_option maxHeartbeats 12800000
namespace Go.Proofs.Ytpcjekgfnfjbpaa
open Go.RowKit Go.Bas Go.ChangeShapes Go.Maps
attribute [local go_sem ↓] Go.wp_at_zero Go.wp_at_succ
theorem _root_.Go.Bas.Chg.setRow (F:Nat→Prop) (w:World) (g:Nat) (cs:Array Value) (hF:F g):Chg F w (w.setRow g cs):=
 have h:=below_setRow' (Below.refl 0 w) (Nat.zero_le g) cs
 ⟨h.os,h.tape,h.output,h.size,fun b _ hn=> setRow_other w g b cs fun e=> hn (e▸hF)⟩
def drawS:ByteArray:=⟨#[100,114,97,119]⟩
def drawB (sd:Nat→Int) (n:Nat):Nat→Int:=tagB 32 sd (infN drawS.size (fun _=> 8) 1) (infF drawS.size (strB drawS) (fun _=> 8) (fun _=> put8 n) 1)
theorem drawB_b (sd:Nat→Int) (n i:Nat):0≤drawB sd n i∧drawB sd n i<256:=tagB_bound _ _ _ _ i
theorem dKeyDraw (v:Value) (sd:Nat→Int) (n:Nat) (hf:∀i,i<32→0≤sd i∧sd i<256) (vc:Value) (w:World) (h:Rd .u8 w v 32 sd) (hc:Txt w vc 1 (fun _=> 8) (fun _=> put8 n)):
  Calls Try.prog 38 #[v,.string drawS,vc] w fun e w'=> e=.returned (.tuple #[.agg (arr .u8 32 (drawB sd n)),.int .i64 0])∧Below w.heap.size w w':=
 dKey_any v 32 sd drawS vc 1 (fun _=> 8) (fun _=> put8 n) w h (by decide) (by decide) hf (by decide) hc (by decide) (fun j hj=> by decide) (fun j hj i hi=> put8_b _ _)
section
variable {B : Nat} {w w' w1 w2 w3 : World} {p q : Nat} {F G G' : Nat → Prop} {sd : Nat → Int} {n : Nat} {v u : Value} {l : List Int}
structure SuB (B:Nat) (w:World) (p:Nat) (sd:Nat→Int) (n:Nat):Prop where
 r:SuRow w p 1 sd n (.pointer none)
 sdb:∀i,i<32→0≤sd i∧sd i<256
 hp:B≤p
theorem SuB.below (h:SuB B w p sd n) (hb:Below w.heap.size w w'):SuB B w' p sd n:=⟨h.r.below hb,h.sdb,h.hp⟩
theorem SuB.lt (h:SuB B w p sd n):p<w.heap.size:=h.r.row.lt
theorem SuB.keep {H:Nat→Prop} (h:SuB B w p sd n) (hc:Chg H w w') (hF:¬ H p):SuB B w' p sd n:=⟨h.r.keep hc hF,h.sdb,h.hp⟩
theorem SuRow.next {kd m m':Int} {s:Value} (h:SuRow w p kd sd m s):SuRow (w.setCell ⟨p,33,none⟩ (.int .i64 m')) p kd sd m' s:=by
 refine ⟨h.row.setCell _ rfl _,?_,fun i hi=> ?_,?_,?_⟩
 ·rw [World.cell?_setCell_other _ _ _ _ (by intro e;cases e)];exact h.ck
 ·rw [World.cell?_setCell_other _ _ _ _ (by intro e;have:=congrArg Addr.off e;simp only at this;omega)];exact h.cs i hi
 ·exact World.cell?_setCell_same _ _ _ h.cn
 ·rw [World.cell?_setCell_other _ _ _ _ (by intro e;cases e)];exact h.cp
theorem SuB.next (h:SuB B w p sd n) {m:Nat}:SuB B (w.setCell ⟨p,33,none⟩ (.int .i64 (m:Int))) p sd m:=⟨h.r.next,h.sdb,h.hp⟩
theorem SuB.nextC (h:SuB B w p sd n) (m:Int):ChS p (fun _=> False) w (w.setCell ⟨p,33,none⟩ (.int .i64 m)):=
 ⟨.set _ _ _ _ (.inl rfl),fun b hb _ i x hx=> by
  rw [World.cell?_setCell_other _ _ _ _ (by intro e;cases e;rw [h.r.cn] at hx;cases hx)];exact hx⟩
theorem suKey_yes {f:Nat→Int} (h:Rd .u8 w v 32 f):Calls Try.prog 39 #[v] w fun e w'=> e=.returned (.tuple #[.agg (arr .u8 32 f),.int .i64 0])∧Below w.heap.size w w':=by
 obtain ⟨a,c,rfl,h1,h2,_,h4⟩:=h
 obtain ⟨b,o,rfl,hlt,hc⟩:=h4 (by decide)
 have HC:=Lib.hid hc
 have HLT:=Lib.hid hlt
 clear h4 hc hlt
 go_enter Try.func39,Try.ntmps39
 go_upto_region 1 with (fail)
 refine wp_world (fun w1=> Arr .u8 w1 w.heap.size 32 (fun _=> 0)∧Below w.heap.size w w1) ⟨Arr.newAt rfl (by rfl),(Below.refl _ _).alloc (Nat.le_refl _) _⟩ ?_
 rintro w1 ⟨hZ,hbel⟩
 have HC1:Hid (∀i,i<32→w1.cell? ⟨b,o+i,none⟩=some (.int .u8 (f i))):=Lib.hid fun i hi=> (hbel.cell (p:=⟨b,o+i,none⟩) HLT.out).trans (HC.out i hi)
 have HZ:=Lib.hid hZ
 have HB:=Lib.hid hbel
 have ha:∀w,(Instr.arrayAt 22 (.slice (some ⟨b,o,none⟩) 32 c)).run Try.prog w=.ok (.pointer (some ⟨b,o,none⟩)) w:=fun w=> arrayAt_part (P:=Try.prog) (T:=22) (a:=some ⟨b,o,none⟩) (len:=32) (cap:=c) (n:=32) Try.underlying22 (by decide) w
 clear hZ hbel
 go_wp2_with (first
  | (refine load_part rfl 22 _ rfl .u8 b o 32 f 5 Try.underlying22 Try.size22 rfl (fun i hi=> HC1.out i hi) ?_)
  | (refine store_arr rfl 22 _ _ rfl .u8 w.heap.size 32 (fun _=> 0) f Try.size22 rfl rfl HZ.out ?_))
 exact bodyPost_ret (results_arr2 rfl _ _ .u8 w.heap.size 32 _ 5 rfl (HZ.out.setRow _ _) Try.underlying22 Try.size22) rfl ⟨rfl,below_setRow' HB.out (Nat.le_refl _) _⟩
theorem suKey_no {m:Nat} {f:Nat→Int} (h:Rd .u8 w v m f) (hm:m≠32):Calls Try.prog 39 #[v] w fun e w'=> e=.returned (.tuple #[.agg (arr .u8 32 (fun _=> 0)),.int .i64 11])∧Below w.heap.size w w':=by
 obtain ⟨a,c,rfl,h1,h2,_,h4⟩:=h
 have hm':((m:Int) !=32)=true:=by simp;omega
 clear h4 hm
 go_enter Try.func39,Try.ntmps39
 go_upto_region 1 with (fail)
 refine wp_world (fun w1=> Arr .u8 w1 w.heap.size 32 (fun _=> 0)∧Below w.heap.size w w1) ⟨Arr.newAt rfl (by rfl),(Below.refl _ _).alloc (Nat.le_refl _) _⟩ ?_
 rintro w1 ⟨hZ,hbel⟩
 have HZ:=Lib.hid hZ
 have HB:=Lib.hid hbel
 clear hZ hbel
 go_wp2_with (refine store_arr rfl 22 _ _ rfl .u8 w.heap.size 32 (fun _=> 0) (fun _=> 0) Try.size22 rfl (by rfl) HZ.out ?_)
 exact bodyPost_ret (results_arr2 rfl _ _ .u8 w.heap.size 32 _ 5 rfl (HZ.out.setRow _ _) Try.underlying22 Try.size22) rfl ⟨rfl,below_setRow' HB.out (Nat.le_refl _) _⟩
theorem suDrawB_any (h:SuB B w p sd n) (hn:n≤100000):Calls Try.prog 24 #[.pointer (some ⟨p,0,none⟩)] w fun e w'=> e=.returned (.agg (arr .u8 32 (drawB sd n)))∧SuB B w' p sd (n+1)∧ChS p (fun _=> False) w w':=by
 have H:=Lib.hid h
 have HN:=Lib.hid hn
 have cn:=h.r.cn
 have HPN:Hid (p<w.heap.size):=Lib.hid h.r.row.lt
 clear h hn
 go_enter Try.func24,Try.ntmps24
 clear cn
 go_upto_region 1 with (fail)
 refine wp_world (fun w1=> Arr .u8 w1 w.heap.size 32 (fun _=> 0)∧Below w.heap.size w w1) ⟨Arr.newAt rfl (by rfl),(Below.refl _ _).alloc (Nat.le_refl _) _⟩ ?_
 rintro w1 ⟨hZ,hbel⟩
 have H1:=Lib.hid (H.out.below hbel)
 have cn:=H1.out.r.cn
 have HZ:=Lib.hid hZ
 have HB:=Lib.hid hbel
 clear hZ hbel
 go_wp2_with fail
 refine (put_ok (n:Int) 8 w1 (by decide) (by decide) (by omega) (by have:=HN.out;omega) (fun h=> absurd h (by decide))).mono ?_
 rintro e w2 ⟨u,rfl,hu,b2⟩
 have HU:=Lib.hid hu.rd
 obtain ⟨au,cu,rfl,_⟩:=hu.rd
 have H2:=Lib.hid (H1.out.below b2)
 have HZ2:=Lib.hid (HZ.out.kept b2)
 have HB2:=Lib.hid (HB.out.trans (b2.mono HB.out.size))
 clear hu b2 cn
 go_wp2_with fail
 have BA:=(Below.refl w2.heap.size w2).alloc (Nat.le_refl _) (.cells [Value.slice au 8 cu].toArray 28)
 refine (dKeyDraw _ sd n H2.out.sdb _ _ (H2.out.r.below BA).rd (new1 HU.out (Below.refl _ _))).mono ?_
 rintro e w3 ⟨rfl,b3⟩
 have B3:=Lib.hid (BA.trans (b3.mono (by rw [World.size_alloc];omega)))
 have H3:=Lib.hid (H2.out.below B3.out)
 have HZ3:=Lib.hid (HZ2.out.kept B3.out)
 have HB3:=Lib.hid (HB2.out.trans (B3.out.mono HB2.out.size))
 clear b3 BA
 obtain ⟨D,hD⟩:∃D,D=drawB sd n:=⟨_,rfl⟩
 rw [←hD]
 have HDD:=Lib.hid hD
 clear hD
 go_upto_region 3 with (refine store_arr rfl 22 _ _ rfl .u8 w3.heap.size 32 (fun _=> 0) D Try.size22 rfl rfl (Arr.newAt rfl (by rfl)) ?_)
 refine wp_world (fun w4=> Arr .u8 w4 w.heap.size 32 (fun _=> 0)∧Arr .u8 w4 w3.heap.size 32 D∧Below w3.heap.size w3 w4) ⟨(HZ3.out.alloc _).setRowOther _ (Nat.ne_of_lt HZ3.out.lt) _,(show Arr .u8 (w3.alloc (.cells (arr .u8 32 (fun _=> 0)) 22)) w3.heap.size 32 (fun _=> 0) from Arr.newAt rfl rfl).setRow 32 D,below_setRow' ((Below.refl _ _).alloc (Nat.le_refl _) _) (Nat.le_refl _) _⟩ ?_
 rintro w4 ⟨h4,h5,hbel⟩
 have H4:=Lib.hid (H3.out.below hbel)
 have HB4:=Lib.hid (HB3.out.trans (hbel.mono HB3.out.size))
 have HZ4:=Lib.hid h4
 have HD4:=Lib.hid h5
 have HPL:Hid (p<w.heap.size∧w.heap.size<w3.heap.size):=Lib.hid ⟨HPN.out,HZ3.out.lt⟩
 clear h4 h5 hbel
 have cn:=H4.out.r.cn
 have fr:=H4.out.r.row.free 33
 have hnb:(n:Int)<1000000:=by have:=HN.out;omega
 go_upto_region 4 with (fail)
 have CS:=H4.out.nextC ((n:Int)+1)
 refine wp_world (fun w5=> SuB B w5 p sd (n+1)∧Arr .u8 w5 w.heap.size 32 (fun _=> 0)∧Arr .u8 w5 w3.heap.size 32 D∧ChS p (fun _=> False) w w5) ⟨H4.out.next (m:=n+1),HZ4.out.chg CS.chg (fun e=> e.elim (fun e=> by have:=HPL.out;omega) id),HD4.out.chg CS.chg (fun e=> e.elim (fun e=> by have:=HPL.out;omega) id),(ChS.of_below HB4.out _).trans CS fun _ h=> h.elim⟩ ?_
 rintro w5 ⟨h5,hz5,hd5,c5⟩
 have H5:=Lib.hid h5
 have HZ5:=Lib.hid hz5
 have HD5:=Lib.hid hd5
 have C5:=Lib.hid c5
 clear h5 hz5 hd5 c5 CS cn fr hnb
 go_wp2_with (first
  | (refine load_arr rfl 22 _ rfl .u8 w3.heap.size 32 D 5 Try.underlying22 Try.size22 rfl HD5.out ?_)
  | (refine store_arr rfl 22 _ _ rfl .u8 w.heap.size 32 (fun _=> 0) D Try.size22 rfl rfl HZ5.out ?_))
 obtain rfl:=HDD.out
 have CR:=Chg.setRow (fun b=> b=w.heap.size) w5 w.heap.size (arr .u8 32 (drawB sd n)) rfl
 exact bodyPost_ret (results_arr rfl _ _ .u8 w.heap.size 32 _ 5 rfl (HZ5.out.setRow _ _) Try.underlying22 Try.size22) rfl ⟨rfl,H5.out.keep CR fun e=> by have:=HPL.out;omega,C5.out.trans (ChS.of_chg CR) fun b e=> .inr (by omega)⟩
end
end Go.Proofs.Ytpcjekgfnfjbpaa
namespace Go.Proofs.Ytpcjekgfnfjbpaa
open Go.RowKit Go.Bas Go.ChangeShapes Go.Maps
attribute [local go_sem ↓] Go.wp_at_zero Go.wp_at_succ
inductive Su where
 | by (sd:Nat→Int) (n:Nat)
 | tm (S:TS)
def Su.size:Su→Nat
 | .by _ n=> n
 | .tm S=> S.l.length
abbrev UA:Type:=List Int × Int × Su
def SuM (B:Nat) (w:World) (p:Nat) (F:Nat→Prop):Su→Prop
 | .by sd n=> SuB B w p sd n∧∀b,¬ F b
 | .tm S=> SuT B w p F S
section
variable {B : Nat} {w w' w1 w2 w3 : World} {p q : Nat} {F F' G G' : Nat → Prop} {sd : Nat → Int} {n : Nat} {v u v' : Value} {l l' : List Int} {X X' : Su} {S : TS}
theorem SuM.below (h:SuM B w p F X) (hb:Below w.heap.size w w'):SuM B w' p F X:=by
 cases X with
 | «by» sd n=> exact ⟨h.1.below hb,h.2⟩
 | tm S=> exact SuT.below h hb
theorem SuT.pLt (h:SuT B w p F S):p<w.heap.size∧B≤p:=by obtain ⟨q,G,h,_⟩:=h;exact ⟨h.r.row.lt,h.hp⟩
theorem SuM.pLt (h:SuM B w p F X):p<w.heap.size∧B≤p:=by
 cases X with
 | «by» sd n=> exact ⟨h.1.lt,h.1.hp⟩
 | tm S=> exact SuT.pLt h
theorem SuM.lt (h:SuM B w p F X) {b:Nat} (hb:b=p∨F b):b<w.heap.size:=by
 rcases hb with rfl | hb
 ·exact h.pLt.1
 ·cases X with
  | «by» sd n=> exact absurd hb (h.2 b)
  | tm S=> exact SuT.lt h hb
theorem SuM.hi (h:SuM B w p F X) {b:Nat} (hb:b=p∨F b):B≤b:=by
 rcases hb with rfl | hb
 ·exact h.pLt.2
 ·cases X with
  | «by» sd n=> exact absurd hb (h.2 b)
  | tm S=> exact SuT.hi h hb
theorem SuM.keep {H:Nat→Prop} (h:SuM B w p F X) (hc:Chg H w w') (hp:¬ H p) (hF:∀b,F b→¬ H b):SuM B w' p F X:=by
 cases X with
 | «by» sd n=> exact ⟨h.1.keep hc hp,h.2⟩
 | tm S=> exact SuT.keep h hc hF
def SuR (B:Nat) (w:World) (p:Nat) (F:Nat→Prop) (v:Value) (r:UA) (w':World):Prop:=∃F',SuM B w' p F' r.2.2∧Byt F' w' v r.1∧ChS p F w w'∧∀b,F' b→F b∨w.heap.size≤b
theorem SuTR.su {r:TA} (h:SuTR B w p F v r w'):SuR B w p F v (r.1,r.2.1,.tm r.2.2) w':=by
 obtain ⟨F',h1,h2,h3,h4⟩:=h
 exact ⟨F',h1,h2,ChS.of_chg h3,h4⟩
theorem Byt.any {f:Nat→Int} {m:Nat} (h:Rd .u8 w v m f) (hf:∀i,i<m→0≤f i∧f i<256) (hF:∀b,¬ F b):Byt F w v (lof m f):=⟨okB_lof hf,h.lof,fun _ b _=> hF b⟩
def oneB (g:(Nat→Int)→Nat→Int) (sd:Nat→Int) (n:Nat) (l:List Int):UA:=if l.length=32 then (lof 32 (g (bf l)),0,.by sd n) else ([],11,.by sd n)
def Su.draw:Su→Int→UA
 | .by sd n,s=> if isSort s=true then (lof 32 (drawB sd n),0,.by sd (n+1)) else ([],2,.by sd n)
 | .tm S,s=> ((drawT S s).1,(drawT S s).2.1,.tm (drawT S s).2.2)
def Su.next:Su→List Int→UA
 | .by sd n,l=> oneB nextB sd n l
 | .tm S,l=> ((oneT 6 S l).1,(oneT 6 S l).2.1,.tm (oneT 6 S l).2.2)
theorem suNoneB (h:SuM B w p F (.by sd n)) (hb:Below w.heap.size w w') (er:Int):SuR B w p F (.slice none 0 0) ([],er,.by sd n) w':=
 ⟨F,⟨h.1.below hb,h.2⟩,Byt.nil _ _,.of_below hb _,fun b hb=> .inl hb⟩
theorem suDoneB {m k:Nat} {f:Nat→Int} (h:SuM B w p F (.by sd n)) (hs:SuB B w1 p sd k) (hc:ChS p (fun _=> False) w w1) (hr:Rd .u8 w1 v m f) (hf:∀i,i<m→0≤f i∧f i<256) (er:Int):SuR B w p F v (lof m f,er,.by sd k) w1:=
 ⟨F,⟨hs,h.2⟩,Byt.any hr hf h.2,⟨hc.chg.mono fun b _ hb=> hb.imp id fun h=> h.elim,fun b hb _=> hc.u8 b hb id⟩,fun b hb=> .inl hb⟩
theorem suDraw_by (h:SuM B w p F (.by sd n)) (s:Int) (hn:n≤900):Calls Try.prog 8 #[.pointer (some ⟨p,0,none⟩),.int .i64 s] w fun e w'=> ∃u,e=.returned (.tuple #[u,.int .i64 (Su.draw (.by sd n) s).2.1])∧SuR B w p F u (Su.draw (.by sd n) s) w':=by
 have HQ:=Lib.hid h
 have HL:=Lib.hid hn
 have HW:=Lib.hid (suWhich_any h.1.r)
 obtain ⟨R,hR⟩:∃x,x=Su.draw (.by sd n) s:=⟨_,rfl⟩
 rw [←hR]
 have HR:=Lib.hid hR
 have ck:=h.1.r.ck
 clear hR h hn
 by_cases hs:1≤s∧s≤4
 ·have HS:Hid (isSort s=true):=Lib.hid (by unfold isSort;rw [decide_eq_true hs.1,decide_eq_true hs.2];rfl)
  have HE:Hid (R=(lof 32 (drawB sd n),0,.by sd (n+1))):=Lib.hid (by rw [HR.out];exact if_pos HS.out)
  have h1:decide (s<1)=false:=decide_eq_false (by omega)
  have h2:decide (4<s)=false:=decide_eq_false (by omega)
  clear hs
  go_enter Try.func8,Try.ntmps8
  go_wp2_with fail
  refine HW.out.mono ?_
  rintro e w1 ⟨rfl,rfl⟩
  go_wp2_with fail
  refine (suDrawB_any HQ.out.1 (by have:=HL.out;omega)).mono ?_
  rintro e w2 ⟨rfl,h2,c2⟩
  have H2:=Lib.hid h2
  have C2:=Lib.hid c2
  clear h2 c2 ck
  obtain ⟨D,hD⟩:∃D,D=drawB sd n:=⟨_,rfl⟩
  rw [←hD] at HE ⊢
  have HDB:Hid (∀i,i<32→0≤D i∧D i<256):=Lib.hid fun i _=> hD▸drawB_b sd n i
  clear hD
  go_upto_region 8 with (refine store_arr rfl 22 _ _ rfl .u8 w2.heap.size 32 (fun _=> 0) D Try.size22 rfl rfl (Arr.newAt rfl (by rfl)) ?_)
  refine wp_world (fun w4=> Arr .u8 w4 w2.heap.size 32 D∧Below w2.heap.size w2 w4) ⟨(show Arr .u8 (w2.alloc (.cells (arr .u8 32 (fun _=> 0)) 22)) w2.heap.size 32 (fun _=> 0) from Arr.newAt rfl rfl).setRow 32 D,below_setRow' ((Below.refl _ _).alloc (Nat.le_refl _) _) (Nat.le_refl _) _⟩ ?_
  rintro w4 ⟨h4,b4⟩
  have HD:=Lib.hid (suDoneB HQ.out (H2.out.below b4) (C2.out.trans (ChS.of_below b4 (fun _=> False)) fun _ h=> .inl h) (h4.rd (by decide)) HDB.out 0)
  clear h4 b4
  go_wp2
  go_ret2
  rw [HE.out]
  exact ⟨_,rfl,HD.out⟩
 ·have HE:Hid (R=([],2,.by sd n)):=Lib.hid (by
   rw [HR.out]
   refine if_neg fun h=> ?_
   simp only [isSort,Bool.and_eq_true,decide_eq_true_eq] at h
   exact hs h)
  by_cases h1:s<1
  ·have h1':decide (s<1)=true:=decide_eq_true h1
   clear hs h1
   go_enter Try.func8,Try.ntmps8
   go_wp2_with fail
   refine HW.out.mono ?_
   rintro e w1 ⟨rfl,rfl⟩
   go_wp2
   go_ret2
   rw [HE.out]
   exact ⟨_,rfl,suNoneB HQ.out (Below.refl _ _) 2⟩
  ·have h1':decide (s<1)=false:=decide_eq_false h1
   have h2':decide (4<s)=true:=decide_eq_true (by omega)
   clear hs h1
   go_enter Try.func8,Try.ntmps8
   go_wp2_with fail
   refine HW.out.mono ?_
   rintro e w1 ⟨rfl,rfl⟩
   go_wp2
   go_ret2
   rw [HE.out]
   exact ⟨_,rfl,suNoneB HQ.out (Below.refl _ _) 2⟩
end
end Go.Proofs.Ytpcjekgfnfjbpaa
namespace Go.Proofs.Ytpcjekgfnfjbpaa
open Go.RowKit Go.Bas Go.ChangeShapes Go.Maps
attribute [local go_sem ↓] Go.wp_at_zero Go.wp_at_succ
section
variable {B : Nat} {w w' w1 w2 w3 : World} {p q : Nat} {F F' G G' : Nat → Prop} {sd : Nat → Int} {n : Nat} {v u v' : Value} {l l' : List Int} {X X' : Su} {S : TS}
theorem suSome_Next (hl:l.length=32) (ho:okB l) (h:Rd .u8 w v l.length (bf l)):Calls Try.prog 26 #[v,.func (.func 27) #[] #[]] w fun e w'=> ∃u,e=.returned (.tuple #[u,.int .i64 0])∧Rd .u8 w' u 32 (nextB (bf l))∧Below w.heap.size w w':=by
 rw [hl] at h
 have HK:=Lib.hid (suKey_yes h)
 have HC:=Lib.hid (fun w=> dNext_any (bf l) (fun i hi=> ho.at i (by omega)) w)
 obtain ⟨a,c,rfl,h1,h2,_,h4⟩:=h
 obtain ⟨D,hD⟩:∃D,D=nextB (bf l):=⟨_,rfl⟩
 rw [←hD] at HC ⊢
 clear hD h4 hl ho
 go_enter Try.func26,Try.ntmps26
 go_wp2_with fail
 refine HK.out.mono ?_
 rintro e w1 ⟨rfl,b1⟩
 have B1:=Lib.hid b1
 clear b1
 obtain ⟨f,hf⟩:∃f,f=bf l:=⟨_,rfl⟩
 rw [←hf] at HC ⊢
 clear hf
 go_upto_region 2 with (refine store_arr rfl 22 _ _ rfl .u8 w1.heap.size 32 (fun _=> 0) f Try.size22 rfl rfl (Arr.newAt rfl (by rfl)) ?_)
 refine wp_world (fun w2=> Arr .u8 w2 w1.heap.size 32 f∧Below w.heap.size w w2) ⟨(show Arr .u8 (w1.alloc (.cells (arr .u8 32 (fun _=> 0)) 22)) w1.heap.size 32 (fun _=> 0) from Arr.newAt rfl rfl).setRow 32 f,below_setRow' (B1.out.alloc B1.out.size _) B1.out.size _⟩ ?_
 rintro w2 ⟨h2,b2⟩
 have H2:=Lib.hid h2
 have B2:=Lib.hid b2
 clear h2 b2
 go_wp2_with (refine load_arr rfl 22 _ rfl .u8 w1.heap.size 32 f 5 Try.underlying22 Try.size22 rfl H2.out ?_)
 refine (HC.out _).mono ?_
 rintro e w3 ⟨rfl,b3⟩
 have B3:=Lib.hid (B2.out.trans (b3.mono B2.out.size))
 clear b3
 go_upto_region 5 with (refine store_arr rfl 22 _ _ rfl .u8 w3.heap.size 32 (fun _=> 0) D Try.size22 rfl rfl (Arr.newAt rfl (by rfl)) ?_)
 refine wp_world (fun w4=> Arr .u8 w4 w3.heap.size 32 D∧Below w.heap.size w w4) ⟨(show Arr .u8 (w3.alloc (.cells (arr .u8 32 (fun _=> 0)) 22)) w3.heap.size 32 (fun _=> 0) from Arr.newAt rfl rfl).setRow 32 D,below_setRow' (B3.out.alloc B3.out.size _) B3.out.size _⟩ ?_
 rintro w4 ⟨h4,b4⟩
 have HR:=Lib.hid (h4.rd (by decide))
 have B4:=Lib.hid b4
 clear h4 b4
 go_wp2
 go_ret2
 exact ⟨_,rfl,HR.out,B4.out⟩
theorem suSomeNo_Next (hl:l.length≠32) (h:Rd .u8 w v l.length (bf l)):Calls Try.prog 26 #[v,.func (.func 27) #[] #[]] w fun e w'=> e=.returned (.tuple #[.slice none 0 0,.int .i64 11])∧Below w.heap.size w w':=by
 have HK:=Lib.hid (suKey_no h hl)
 obtain ⟨a,c,rfl,h1,h2,_,h4⟩:=h
 clear h4 hl
 go_enter Try.func26,Try.ntmps26
 go_wp2_with fail
 refine HK.out.mono ?_
 rintro e w1 ⟨rfl,b1⟩
 have B1:=Lib.hid b1
 clear b1
 go_upto_region 2 with (refine store_arr rfl 22 _ _ rfl .u8 w1.heap.size 32 (fun _=> 0) (fun _=> 0) Try.size22 rfl rfl (Arr.newAt rfl (by rfl)) ?_)
 refine wp_world (fun w2=> Below w.heap.size w w2) (below_setRow' (B1.out.alloc B1.out.size _) B1.out.size _) ?_
 rintro w2 b2
 have B2:=Lib.hid b2
 clear b2
 go_wp2
 go_ret2
 exact ⟨rfl,B2.out⟩
theorem suNext_by (h:SuM B w p F (.by sd n)) (hb:Byt F w v l):Calls Try.prog 11 #[.pointer (some ⟨p,0,none⟩),v] w fun e w'=> ∃u,e=.returned (.tuple #[u,.int .i64 (oneB nextB sd n l).2.1])∧SuR B w p F u (oneB nextB sd n l) w':=by
 have HQ:=Lib.hid h
 have HW:=Lib.hid (suWhich_any h.1.r)
 obtain ⟨R,hR⟩:∃x,x=oneB nextB sd n l:=⟨_,rfl⟩
 rw [←hR]
 have HR:=Lib.hid hR
 by_cases hl:l.length=32
 ·have HC:=Lib.hid (suSome_Next hl hb.ok hb.rd)
  have HE:Hid (R=(lof 32 (nextB (bf l)),0,.by sd n)):=Lib.hid (by rw [HR.out];exact if_pos hl)
  obtain ⟨av,cv,rfl,_⟩:=hb.rd
  clear hR h hb hl
  go_enter Try.func11,Try.ntmps11
  go_wp2_with fail
  refine HW.out.mono ?_
  rintro e w1 ⟨rfl,rfl⟩
  go_wp2_with fail
  refine HC.out.mono ?_
  rintro e w2 ⟨u,rfl,hr,b2⟩
  have HD:=Lib.hid (suDoneB HQ.out (HQ.out.1.below b2) (ChS.of_below b2 _) hr (fun i _=> nextB_bound (bf l) i) 0)
  clear hr b2
  go_wp2
  go_ret2
  rw [HE.out]
  exact ⟨u,rfl,HD.out⟩
 ·have HC:=Lib.hid (suSomeNo_Next hl hb.rd)
  have HE:Hid (R=([],11,.by sd n)):=Lib.hid (by rw [HR.out];exact if_neg hl)
  obtain ⟨av,cv,rfl,_⟩:=hb.rd
  clear hR h hb hl
  go_enter Try.func11,Try.ntmps11
  go_wp2_with fail
  refine HW.out.mono ?_
  rintro e w1 ⟨rfl,rfl⟩
  go_wp2_with fail
  refine HC.out.mono ?_
  rintro e w2 ⟨rfl,b2⟩
  have HD:=Lib.hid (suNoneB HQ.out b2 11)
  clear b2
  go_wp2
  go_ret2
  rw [HE.out]
  exact ⟨_,rfl,HD.out⟩
end
end Go.Proofs.Ytpcjekgfnfjbpaa
namespace Go.Proofs.Ytpcjekgfnfjbpaa
open Go.RowKit Go.Bas Go.ChangeShapes Go.Maps
attribute [local go_sem ↓] Go.wp_at_zero Go.wp_at_succ
def nmF (m:Nat) (f:Nat→Int):Nat→Int:=bf (lof m f)
theorem nmF_at {m i:Nat} {f:Nat→Int} (h:i<m):nmF m f i=f i:=bf_lof h
theorem nmF_congr {m:Nat} {f g:Nat→Int} (h:∀i,i<m→f i=g i):nmF m f=nmF m g:=by unfold nmF;rw [lof_congr h]
theorem arr_nmF (k:IntKind) (m:Nat) (f:Nat→Int):arr k m f=arr k m (nmF m f):=arr_congr fun i hi=> (nmF_at hi).symm
def lockB (sd:Nat→Int) (n:Nat) (a b:List Int):UA:=if a.length=32 then (lof (12+(b.length+16)) (catF 12 (drawB sd n) (sealF (bf a) (nmF 12 (drawB sd n)) 0 (fun _=> 0) b.length (bf b))),0,.by sd (n+1)) else ([],11,.by sd n)
def unlockB (a c:List Int):List Int × Int:=
 if a.length=32 then
  if c.length<28 then ([],10)
  else if opensB (bf a) (nmF 12 (bf c)) 0 (fun _=> 0) (c.length - 28) (fun i=> bf c (12+i))=true then (lof (c.length - 28) (hidB (bf a) (nmF 12 (bf c)) 1 (fun i=> bf c (12+i))),0) else ([],20)
 else ([],11)
theorem tupB_below {F:Nat→Prop} {w w':World} {v:Value} {r:List Int × Int} (h:∃u,v=.tuple #[u,.int .i64 r.2] ∧Byt F w u r.1) (hb:Below w.heap.size w w'):∃u,v=.tuple #[u,.int .i64 r.2] ∧Byt F w' u r.1:=by
 obtain ⟨u,e,h⟩:=h;exact ⟨u,e,h.below hb⟩
section
variable {B : Nat} {w w' w1 w2 w3 : World} {p q : Nat} {F F' G G' : Nat → Prop} {sd : Nat → Int} {n : Nat} {v u v' : Value} {l l' : List Int} {X X' : Su} {S : TS}
theorem suUnlock_by (h:SuM B w p F (.by sd n)) (hb:Byt F w v l) (hb':Byt F w v' l') (hl':l'.length≤1000):Calls Try.prog 31 #[.pointer (some ⟨p,0,none⟩),v,v'] w fun e w'=> ∃u,e=.returned (.tuple #[u,.int .i64 (unlockB l l').2])∧Byt F w' u (unlockB l l').1∧Below w.heap.size w w':=by
 have HQ:=Lib.hid h
 have HW:=Lib.hid (suWhich_any h.1.r)
 have HNF:=Lib.hid h.2
 obtain ⟨R,hR⟩:∃x,x=unlockB l l':=⟨_,rfl⟩
 rw [←hR]
 have HR:=Lib.hid hR
 by_cases hl:l.length=32
 ·have hr1:=hb.rd
  rw [hl] at hr1
  have HK:=Lib.hid (suKey_yes hr1)
  have HOK:=Lib.hid hb.ok
  have HOK':=Lib.hid hb'.ok
  have HV:=Lib.hid hb'.rd
  obtain ⟨N,hN⟩:∃N,N=l'.length:=⟨_,rfl⟩
  rw [←hN] at HV hl'
  obtain ⟨av,cv,rfl,_⟩:=hb.rd
  obtain ⟨av',cv',rfl,hc1,hc2,_,_⟩:=id HV.out
  by_cases h12:N<12
  ·have HE:Hid (R=([],10)):=Lib.hid (by rw [HR.out];unfold unlockB;rw [if_pos hl,if_pos (by omega)])
   have h12':(N:Int)<12:=by omega
   clear hR h hb hb' hl hN h12 hr1
   go_enter Try.func31,Try.ntmps31
   go_wp2_with fail
   refine HW.out.mono ?_
   rintro e w1 ⟨rfl,rfl⟩
   go_wp2_with fail
   refine HK.out.mono ?_
   rintro e w2 ⟨rfl,b2⟩
   have B2:=Lib.hid b2
   clear b2
   go_upto_region 4 with (refine store_arr rfl 22 _ _ rfl .u8 w2.heap.size 32 (fun _=> 0) (bf l) Try.size22 rfl rfl (Arr.newAt rfl (by rfl)) ?_)
   refine wp_world (fun w3=> Below w1.heap.size w1 w3) (below_setRow' (B2.out.alloc B2.out.size _) B2.out.size _) ?_
   rintro w3 b3
   have B3:=Lib.hid b3
   clear b3
   go_wp2
   go_ret2
   rw [HE.out]
   exact ⟨_,rfl,Byt.nil _ _,B3.out⟩
  ·have h12':¬ (N:Int)<12:=by omega
   obtain ⟨K,hK⟩:∃K,K=bf l:=⟨_,rfl⟩
   obtain ⟨C,hC⟩:∃C,C=bf l':=⟨_,rfl⟩
   have HKB:Hid (∀i,i<32→0≤K i∧K i<256):=Lib.hid fun i hi=> hK▸HOK.out.at i (by omega)
   have HCB:Hid (∀i,i<N→0≤C i∧C i<256):=Lib.hid fun i hi=> hC▸HOK'.out.at i (by omega)
   have HR0:Hid (R=if N<28 then ([],10) else if opensB K (nmF 12 C) 0 (fun _=> 0) (N - 28) (fun i=> C (12+i))=true then (lof (N - 28) (hidB K (nmF 12 C) 1 (fun i=> C (12+i))),0) else ([],20)):=Lib.hid (by rw [HR.out,hK,hC,hN];unfold unlockB;rw [if_pos hl])
   rw [←hK] at HK
   rw [←hC] at HV
   have G1:=Lib.hid (Rd.head (P:=Try.prog) Try.underlying28 Try.info5 av' N cv' 12 (by omega) hc1)
   obtain ⟨a2,g1,g2,g3⟩:=Rd.cut (P:=Try.prog) Try.underlying28 Try.info5 av' N cv' 12 N (by omega) (Nat.le_refl _) hc1
   have G2:=Lib.hid g2
   have HRS:Hid (∀w,Rd .u8 w (.slice av' N cv') N C→Rd .u8 w (.slice a2 (N - 12) (cv' - 12)) (N - 12) (fun i=> C (12+i))):=Lib.hid fun w h=> (g3 w C h).2
   obtain ⟨b1,o1,q1,l1,c1⟩:=(G1.out.2 _ _ HV.out).formAt (by decide)
   subst q1
   have HC1:=Lib.hid c1
   have HOP:Hid (∀w u,Rd .u8 w u (N - 12) (fun i=> C (12+i))→Calls Try.prog 43 #[.agg (arr .u8 32 K),.agg (arr .u8 12 C),.slice none 0 0,u] w fun e w'=> ∃x,e=.returned x∧(∃u,x=.tuple #[u,.int .i64 R.2] ∧Byt F w' u R.1)∧Below w.heap.size w w'):=Lib.hid fun w u hu=> by
    rw [arr_nmF .u8 12 C]
    by_cases h28:N<28
    ·refine (aOpen_short K (nmF 12 C) (.slice none 0 0) u 0 (N - 12) (fun _=> 0) _ w (Rd.nil _ _ _) hu (by decide) (by omega)).mono ?_
     rintro e w' ⟨rfl,b⟩
     rw [HR0.out,if_pos h28]
     exact ⟨_,rfl,⟨_,rfl,Byt.nil _ _⟩,b⟩
    ·rw [show N - 12=(N - 28)+16 by omega] at hu
     refine (aOpen_any K (nmF 12 C) HKB.out (fun i hi=> by rw [nmF_at hi];exact HCB.out i (by omega)) (.slice none 0 0) u 0 (N - 28) (fun _=> 0) _ w (Rd.nil _ _ _) hu (fun i hi=> by omega) (fun i hi=> HCB.out _ (by omega)) (by decide) (by omega)).mono ?_
     rintro e w' ⟨x,rfl,ho,b⟩
     rw [HR0.out,if_neg h28]
     cases hok:opensB K (nmF 12 C) 0 (fun _=> 0) (N - 28) (fun i=> C (12+i)) with
     | false=>
      rw [hok] at ho
      rw [if_neg (by decide)]
      exact ⟨_,rfl,⟨_,ho.2 rfl,Byt.nil _ _⟩,b⟩
     | true=>
      rw [hok] at ho
      obtain ⟨u',e',hr⟩:=ho.1 rfl
      rw [if_pos rfl]
      exact ⟨_,rfl,⟨u',e',Byt.any hr (fun i _=> hidB_bound _ _ _ _ i) HNF.out⟩,b⟩
   clear hR h hb hb' hl hN h12 hr1 HR HR0 hK hC g1 g2 g3 c1 HKB HCB HOK HOK' hl'
   go_enter Try.func31,Try.ntmps31
   go_wp2_with fail
   refine HW.out.mono ?_
   rintro e w1 ⟨rfl,rfl⟩
   go_wp2_with fail
   refine HK.out.mono ?_
   rintro e w2 ⟨rfl,b2⟩
   have B2:=Lib.hid b2
   clear b2
   go_upto_region 4 with (refine store_arr rfl 22 _ _ rfl .u8 w2.heap.size 32 (fun _=> 0) K Try.size22 rfl rfl (Arr.newAt rfl (by rfl)) ?_)
   refine wp_world (fun w3=> Arr .u8 w3 w2.heap.size 32 K∧Below w1.heap.size w1 w3) ⟨(show Arr .u8 (w2.alloc (.cells (arr .u8 32 (fun _=> 0)) 22)) w2.heap.size 32 (fun _=> 0) from Arr.newAt rfl rfl).setRow 32 K,below_setRow' (B2.out.alloc B2.out.size _) B2.out.size _⟩ ?_
   rintro w3 ⟨h8,hbel⟩
   have l1':b1<w3.heap.size:=Nat.lt_of_lt_of_le l1 hbel.size
   have HC1':Hid (∀i,i<12→w3.cell? ⟨b1,o1+i,none⟩=some (.int .u8 (C i))):=fun i hi=> (hbel.cell (p:=⟨b1,o1+i,none⟩) l1).trans (HC1.out i hi)
   have HV3:=Lib.hid (HV.out.below hbel)
   clear HC1 l1
   go_upto_region 8 with (fail)
   refine region_flow (n:=81) (by kernel_rfl) (by kernel_rfl) (by kernel_rfl) rfl
    (fun ii vv ww=> (match ii with | 0=> vv=.agg (arr .u8 32 (K)) | 1 | 5=> vv=.slice (some ⟨b1,o1,none⟩) N cv' | 2=> vv=.slice (some ⟨b1,o1,none⟩) 12 cv' | 3=> vv=.pointer (some ⟨b1,o1,none⟩) | 4=> vv=.agg (arr .u8 12 (C)) | 6=> vv=.slice a2 (N - 12) (cv' - 12) | 9 | 11=> vv=.int .i64 (R.2) | _=> True)∧(ii=7→∃u,vv=.tuple #[u,.int .i64 R.2] ∧Byt F ww u R.1)∧(ii=8→Byt F ww vv R.1)∧(ii=10→Byt F ww vv R.1))
    (fun w w'=> Below w.heap.size w w') (fun _ _ h=> h) (fun i v w w' h hE=> ⟨h.1,fun e=> tupB_below (h.2.1 e) hE,fun e=> Byt.below (h.2.2.1 e) hE,fun e=> Byt.below (h.2.2.2 e) hE⟩) ?_ ?_
   ·refine Each.all ?_
    refine ⟨?_,?_,?_,?_,?_,?_,?_,?_,?_,?_,?_,?_,trivial⟩
    ·intro a w2 hB hF hd
     rw [if_pos (wanted_none rfl)]
     exact flow_val (fun h=> by cases h) (run_load_str rfl Try.underlying22 rfl Try.size22 (hF.same 8 rfl) (h8.below hB h8.lt)) ⟨rfl,fun h=> absurd h (by decide),fun h=> absurd h (by decide),fun h=> absurd h (by decide)⟩
    ·intro a w2 hB hF hd
     rw [if_pos (wanted_none rfl)]
     exact flow_move _ (.inl rfl) (by simp) ⟨(hF.same 2 rfl),fun h=> absurd h (by decide),fun h=> absurd h (by decide),fun h=> absurd h (by decide)⟩
    ·intro a w2 hB hF hd
     rw [if_pos (wanted_none rfl)]
     exact flow_val (fun h=> by cases h) (run_slice_part rfl ((hd 1 _ rfl (waits_spec rfl)).1) (by simp only [Option.map_some,Option.map_none];exact G1.out.1 _)) ⟨rfl,fun h=> absurd h (by decide),fun h=> absurd h (by decide),fun h=> absurd h (by decide)⟩
    ·intro a w2 hB hF hd
     rw [if_pos (wanted_none rfl)]
     exact flow_val (fun h=> by cases h) (run_to_array rfl ((hd 2 _ rfl (waits_spec rfl)).1) Try.underlying85 (by decide)) ⟨rfl,fun h=> absurd h (by decide),fun h=> absurd h (by decide),fun h=> absurd h (by decide)⟩
    ·intro a w2 hB hF hd
     rw [if_pos (wanted_none rfl)]
     exact flow_val (fun h=> by cases h) (run_load_part rfl ((hd 3 _ rfl (waits_spec rfl)).1) Try.underlying85 Try.size85 (fun i hi=> (hB.cell (p:=⟨b1,o1+i,none⟩) l1').trans (HC1'.out i hi))) ⟨rfl,fun h=> absurd h (by decide),fun h=> absurd h (by decide),fun h=> absurd h (by decide)⟩
    ·intro a w2 hB hF hd
     rw [if_pos (wanted_none rfl)]
     exact flow_move _ (.inl rfl) (by simp) ⟨(hF.same 2 rfl),fun h=> absurd h (by decide),fun h=> absurd h (by decide),fun h=> absurd h (by decide)⟩
    ·intro a w2 hB hF hd
     rw [if_pos (wanted_none rfl)]
     exact flow_val (fun h=> by cases h) (run_slice_part rfl ((hd 5 _ rfl (waits_spec rfl)).1) (by simp only [Option.map_some,Option.map_none];exact G2.out _)) ⟨rfl,fun h=> absurd h (by decide),fun h=> absurd h (by decide),fun h=> absurd h (by decide)⟩
    ·intro a w2 hB hF hd
     rw [if_pos (wanted_none rfl)]
     refine flow_call _ _ _ rfl Try.call43 _ (args4 ((hd 0 _ rfl (waits_spec rfl)).1) ((hd 4 _ rfl (waits_spec rfl)).1) rfl ((hd 6 _ rfl (waits_spec rfl)).1)) (by simp) ((HOP.out w2 _ (HRS.out _ (HV3.out.below hB))).mono ?_)
     rintro e w3 ⟨u,rfl,hr,hb⟩;exact ⟨u,rfl,⟨trivial,fun _=> hr,fun h=> absurd h (by decide),fun h=> absurd h (by decide)⟩,hb⟩
    ·intro a w2 hB hF hd
     rw [if_pos (wanted_none rfl)]
     obtain ⟨u_,eu_,hu_⟩:=((hd 7 _ rfl (waits_spec rfl)).2.1 rfl)
     exact flow_val (fun h=> by cases h) (run_extract rfl eu_ rfl) ⟨trivial,fun h=> absurd h (by decide),fun _=> (hu_),fun h=> absurd h (by decide)⟩
    ·intro a w2 hB hF hd
     rw [if_pos (wanted_none rfl)]
     obtain ⟨u_,eu_,hu_⟩:=((hd 7 _ rfl (waits_spec rfl)).2.1 rfl)
     exact flow_val (fun h=> by cases h) (run_extract rfl eu_ rfl) ⟨rfl,fun h=> absurd h (by decide),fun h=> absurd h (by decide),fun h=> absurd h (by decide)⟩
    ·intro a w2 hB hF hd
     rw [if_pos (wanted_none rfl)]
     exact flow_move _ (.inr rfl) (by simp) ⟨trivial,fun h=> absurd h (by decide),fun h=> absurd h (by decide),fun _=> ((hd 8 _ rfl (waits_spec rfl)).2.2.1 rfl)⟩
    ·intro a w2 hB hF hd
     rw [if_pos (wanted_none rfl)]
     exact flow_move _ (.inr rfl) (by simp) ⟨((hd 9 _ rfl (waits_spec rfl)).1),fun h=> absurd h (by decide),fun h=> absurd h (by decide),fun h=> absurd h (by decide)⟩
   ·intro a w4 hB hF hS
    obtain ⟨x40,hx40⟩:∃x,x=a.tmps.getD 40 undef:=⟨_,rfl⟩
    have P40:∃u,x40=.tuple #[u,.int .i64 R.2] ∧Byt F w4 u R.1:=by rw [hx40];exact (hS 7 _ rfl).2.1 rfl
    obtain ⟨x41,hx41⟩:∃x,x=a.tmps.getD 41 undef:=⟨_,rfl⟩
    have P41:Byt F w4 x41 R.1:=by rw [hx41];exact (hS 8 _ rfl).2.2.1 rfl
    obtain ⟨x6,hx6⟩:∃x,x=a.tmps.getD 6 undef:=⟨_,rfl⟩
    have P6:Byt F w4 x6 R.1:=by rw [hx6];exact (hS 10 _ rfl).2.2.2 rfl
    have ha:=puts_each rfl rfl hF [_,_,_,_,_,_,_,x40,x41,_,x6,_] rfl ⟨(hS 0 _ rfl).1,(hS 1 _ rfl).1,(hS 2 _ rfl).1,(hS 3 _ rfl).1,(hS 4 _ rfl).1,(hS 5 _ rfl).1,(hS 6 _ rfl).1,hx40.symm,hx41.symm,(hS 9 _ rfl).1,hx6.symm,(hS 11 _ rfl).1,trivial⟩
    simp only [puts,Act.put,List.setIfInBounds_toArray,List.set_cons_succ,List.set_cons_zero] at ha
    subst ha
    clear hx40 hx41 hx6
    clear hS hF
    have hb4:=Lib.hid (hbel.trans (hB.mono hbel.size))
    have HP:=Lib.hid P6
    clear P6 P40 P41 h8 hbel hB l1' HC1'
    go_wp2
    go_ret2
    exact ⟨_,rfl,HP.out,hb4.out⟩
 ·have HK:=Lib.hid (suKey_no hb.rd hl)
  have HE:Hid (R=([],11)):=Lib.hid (by rw [HR.out];exact if_neg hl)
  obtain ⟨av,cv,rfl,_⟩:=hb.rd
  obtain ⟨av',cv',rfl,_⟩:=hb'.rd
  clear hR h hb hb' hl
  go_enter Try.func31,Try.ntmps31
  go_wp2_with fail
  refine HW.out.mono ?_
  rintro e w1 ⟨rfl,rfl⟩
  go_wp2_with fail
  refine HK.out.mono ?_
  rintro e w2 ⟨rfl,b2⟩
  have B2:=Lib.hid b2
  clear b2
  go_upto_region 4 with (refine store_arr rfl 22 _ _ rfl .u8 w2.heap.size 32 (fun _=> 0) (fun _=> 0) Try.size22 rfl rfl (Arr.newAt rfl (by rfl)) ?_)
  refine wp_world (fun w3=> Below w1.heap.size w1 w3) (below_setRow' (B2.out.alloc B2.out.size _) B2.out.size _) ?_
  rintro w3 b3
  have B3:=Lib.hid b3
  clear b3
  go_wp2
  go_ret2
  rw [HE.out]
  exact ⟨_,rfl,Byt.nil _ _,B3.out⟩
theorem suLock_by (h:SuM B w p F (.by sd n)) (hb:Byt F w v l) (hb':Byt F w v' l') (hn:n≤900) (hl':l'.length≤1000):Calls Try.prog 42 #[.pointer (some ⟨p,0,none⟩),v,v'] w fun e w'=> ∃u,e=.returned (.tuple #[u,.int .i64 (lockB sd n l l').2.1])∧SuR B w p F u (lockB sd n l l') w':=by
 have HQ:=Lib.hid h
 have HW:=Lib.hid (suWhich_any h.1.r)
 obtain ⟨R,hR⟩:∃x,x=lockB sd n l l':=⟨_,rfl⟩
 rw [←hR]
 have HR:=Lib.hid hR
 by_cases hl:l.length=32
 ·have hr1:=hb.rd
  rw [hl] at hr1
  have HK:=Lib.hid (suKey_yes hr1)
  obtain ⟨D,hD⟩:∃D,D=drawB sd n:=⟨_,rfl⟩
  obtain ⟨K,hK⟩:∃K,K=bf l:=⟨_,rfl⟩
  obtain ⟨N,hN⟩:∃N,N=l'.length:=⟨_,rfl⟩
  obtain ⟨SF,hSF⟩:∃SF,SF=sealF K (nmF 12 D) 0 (fun _=> 0) N (bf l'):=⟨_,rfl⟩
  have HE:Hid (R=(lof (12+(N+16)) (catF 12 D SF),0,.by sd (n+1))):=Lib.hid (by rw [HR.out,hSF,hK,hD,hN];exact if_pos hl)
  have HKB:Hid (∀i,i<32→0≤K i∧K i<256):=Lib.hid fun i hi=> hK▸hb.ok.at i (by omega)
  have HDB:Hid (∀i,i<32→0≤D i∧D i<256):=Lib.hid fun i hi=> hD▸drawB_b sd n i
  have HSB:Hid (∀i,0≤SF i∧SF i<256):=Lib.hid fun i=> hSF▸sealF_bound _ _ _ _ _ _ i
  have HV:=Lib.hid hb'.rd
  have HDR:=Lib.hid (fun w h=> suDrawB_any (w:=w) (B:=B) (p:=p) (sd:=sd) (n:=n) h (by omega))
  have HSL:Hid (∀w x,Rd .u8 w x N (bf l')→Calls Try.prog 53 #[.agg (arr .u8 32 K),.agg (arr .u8 12 D),.slice none 0 0,x] w fun e w'=> ∃u,e=.returned u∧TupR w' u (N+16) SF∧Below w.heap.size w w'):=Lib.hid fun w x hx=> by
   rw [arr_nmF .u8 12 D]
   refine (aSeal_any K (nmF 12 D) HKB.out (fun i hi=> by rw [nmF_at hi];exact HDB.out i (by omega)) (.slice none 0 0) x 0 N (fun _=> 0) _ w (Rd.nil _ _ _) hx (fun i hi=> by omega) (by decide) (by omega)).mono ?_
   rintro e w' ⟨u,rfl,ho,b⟩
   rw [←hSF] at ho
   exact ⟨_,rfl,⟨u,rfl,ho.rd⟩,b⟩
  rw [←hK] at HK
  rw [←hD] at HDR
  rw [←hN] at HV hl'
  have HNL:=Lib.hid hl'
  obtain ⟨av,cv,rfl,_⟩:=hb.rd
  obtain ⟨av',cv',rfl,_⟩:=HV.out
  clear hR h hb hb' hl hr1 hK hD hN hSF HR hl' hn
  go_enter Try.func42,Try.ntmps42
  go_wp2_with fail
  refine HW.out.mono ?_
  rintro e w1 ⟨rfl,rfl⟩
  go_wp2_with fail
  refine HK.out.mono ?_
  rintro e w2 ⟨rfl,b2⟩
  have B2:=Lib.hid b2
  clear b2
  go_upto_region 4 with (refine store_arr rfl 22 _ _ rfl .u8 w2.heap.size 32 (fun _=> 0) K Try.size22 rfl rfl (Arr.newAt rfl (by rfl)) ?_)
  refine wp_world (fun w3=> Arr .u8 w3 w2.heap.size 32 K∧Below w1.heap.size w1 w3) ⟨(show Arr .u8 (w2.alloc (.cells (arr .u8 32 (fun _=> 0)) 22)) w2.heap.size 32 (fun _=> 0) from Arr.newAt rfl rfl).setRow 32 K,below_setRow' (B2.out.alloc B2.out.size _) B2.out.size _⟩ ?_
  rintro w3 ⟨h8,b3⟩
  have H8:=Lib.hid h8
  have B3:=Lib.hid b3
  have HP2:Hid (p<w2.heap.size):=Lib.hid (Nat.lt_of_lt_of_le HQ.out.1.lt B2.out.size)
  clear h8 b3
  go_wp2_with fail
  refine (HDR.out _ (HQ.out.1.below B3.out)).mono ?_
  rintro e w4 ⟨rfl,h4,c4⟩
  have H4:=Lib.hid h4
  have C4:=Lib.hid ((ChS.of_below B3.out (fun _=> False)).trans c4 fun _ h=> .inl h)
  have H84:Hid (Arr .u8 w4 w2.heap.size 32 K):=Lib.hid (H8.out.chg c4.chg fun e=> e.elim (fun e=> by have:=HP2.out;omega) id)
  have HV4:Hid (Rd .u8 w4 (.slice av' N cv') N (bf l')):=Lib.hid (HV.out.chS C4.out fun _ _ _=> id)
  have HL2:Hid (w2.heap.size<w4.heap.size):=Lib.hid H84.out.lt
  clear h4 c4
  go_upto_region 7 with (refine store_arr rfl 22 _ _ rfl .u8 w4.heap.size 32 (fun _=> 0) D Try.size22 rfl rfl (Arr.newAt rfl (by rfl)) ?_)
  refine wp_world (fun w5=> Arr .u8 w5 w4.heap.size 32 D∧Below w4.heap.size w4 w5) ⟨(show Arr .u8 (w4.alloc (.cells (arr .u8 32 (fun _=> 0)) 22)) w4.heap.size 32 (fun _=> 0) from Arr.newAt rfl rfl).setRow 32 D,below_setRow' ((Below.refl _ _).alloc (Nat.le_refl _) _) (Nat.le_refl _) _⟩ ?_
  rintro w5 ⟨h10,b5⟩
  have h8:=H84.out.kept b5
  have HV5:=Lib.hid (HV4.out.below b5)
  have H5:=Lib.hid (H4.out.below b5)
  have C5:=Lib.hid (C4.out.trans (ChS.of_below b5 (fun _=> False)) fun _ h=> .inl h)
  obtain ⟨q,hq⟩:∃q,q=w4.heap.size:=⟨_,rfl⟩
  rw [←hq] at h10 ⊢
  obtain ⟨r,hr⟩:∃r,r=w2.heap.size:=⟨_,rfl⟩
  rw [←hr] at h8 ⊢
  have hql:=h10.lt
  have HC10:Hid (∀i,i<12→w5.cell? ⟨q,0+i,none⟩=some (.int .u8 (D i))):=Lib.hid fun i hi=> by rw [Nat.zero_add,h10.cell i (by omega)]
  clear hq hr b5
  refine region_flow (n:=49) (by kernel_rfl) (by kernel_rfl) (by kernel_rfl) rfl
   (fun ii vv ww=> (match ii with | 0=> vv=.agg (arr .u8 32 (K)) | 1=> vv=.slice (some ⟨q,0,none⟩) 12 32 | 2=> vv=.pointer (some ⟨q,0,none⟩) | 3=> vv=.agg (arr .u8 12 (D)) | 4=> vv=.slice av' N cv' | 8 | 10=> vv=.int .i64 (0) | _=> True)∧(ii=5→TupR ww vv (N+16) SF)∧(ii=6→TupR ww vv (N+16) SF)∧(ii=7→Rd .u8 ww vv (N+16) (SF))∧(ii=9→Rd .u8 ww vv (N+16) (SF)))
   (fun w w'=> Below w.heap.size w w') (fun _ _ h=> h) (fun i v w w' h hE=> ⟨h.1,fun e=> TupR.below (h.2.1 e) hE,fun e=> TupR.below (h.2.2.1 e) hE,fun e=> Rd.below (h.2.2.2.1 e) hE,fun e=> Rd.below (h.2.2.2.2 e) hE⟩) ?_ ?_
  ·refine Each.all ?_
   refine ⟨?_,?_,?_,?_,?_,?_,?_,?_,?_,?_,?_,trivial⟩
   ·intro a w2 hB hF hd
    rw [if_pos (wanted_none rfl)]
    exact flow_val (fun h=> by cases h) (run_load_str rfl Try.underlying22 rfl Try.size22 (hF.same 8 rfl) (h8.below hB h8.lt)) ⟨rfl,fun h=> absurd h (by decide),fun h=> absurd h (by decide),fun h=> absurd h (by decide),fun h=> absurd h (by decide)⟩
   ·intro a w2 hB hF hd
    rw [if_pos (wanted_none rfl)]
    exact flow_val (fun h=> by cases h) (run_slice_part rfl (hF.same 10 rfl) (by simp only [Option.map_some,Option.map_none];exact run_sliceAt_ptr_h (m:=12) Try.underlying22 Try.size5 (by decide))) ⟨rfl,fun h=> absurd h (by decide),fun h=> absurd h (by decide),fun h=> absurd h (by decide),fun h=> absurd h (by decide)⟩
   ·intro a w2 hB hF hd
    rw [if_pos (wanted_none rfl)]
    exact flow_val (fun h=> by cases h) (run_to_array rfl ((hd 1 _ rfl (waits_spec rfl)).1) Try.underlying85 (by decide)) ⟨rfl,fun h=> absurd h (by decide),fun h=> absurd h (by decide),fun h=> absurd h (by decide),fun h=> absurd h (by decide)⟩
   ·intro a w2 hB hF hd
    rw [if_pos (wanted_none rfl)]
    exact flow_val (fun h=> by cases h) (run_load_part rfl ((hd 2 _ rfl (waits_spec rfl)).1) Try.underlying85 Try.size85 (fun i hi=> (hB.cell (p:=⟨q,0+i,none⟩) hql).trans (HC10.out i hi))) ⟨rfl,fun h=> absurd h (by decide),fun h=> absurd h (by decide),fun h=> absurd h (by decide),fun h=> absurd h (by decide)⟩
   ·intro a w2 hB hF hd
    rw [if_pos (wanted_none rfl)]
    exact flow_move _ (.inl rfl) (by simp) ⟨(hF.same 2 rfl),fun h=> absurd h (by decide),fun h=> absurd h (by decide),fun h=> absurd h (by decide),fun h=> absurd h (by decide)⟩
   ·intro a w2 hB hF hd
    rw [if_pos (wanted_none rfl)]
    refine flow_call _ _ _ rfl Try.call53 _ (args4 ((hd 0 _ rfl (waits_spec rfl)).1) ((hd 3 _ rfl (waits_spec rfl)).1) rfl ((hd 4 _ rfl (waits_spec rfl)).1)) (by simp) ((HSL.out w2 _ (HV5.out.below hB)).mono ?_)
    rintro e w3 ⟨u,rfl,hr,hb⟩;exact ⟨u,rfl,⟨trivial,fun _=> hr,fun h=> absurd h (by decide),fun h=> absurd h (by decide),fun h=> absurd h (by decide)⟩,hb⟩
   ·intro a w2 hB hF hd
    rw [if_pos (wanted_none rfl)]
    exact flow_move _ (.inl rfl) (by simp) ⟨trivial,fun h=> absurd h (by decide),fun _=> ((hd 5 _ rfl (waits_spec rfl)).2.1 rfl),fun h=> absurd h (by decide),fun h=> absurd h (by decide)⟩
   ·intro a w2 hB hF hd
    rw [if_pos (wanted_none rfl)]
    obtain ⟨u_,eu_,hu_⟩:=((hd 6 _ rfl (waits_spec rfl)).2.2.1 rfl)
    exact flow_val (fun h=> by cases h) (run_extract rfl eu_ rfl) ⟨trivial,fun h=> absurd h (by decide),fun h=> absurd h (by decide),fun _=> (hu_),fun h=> absurd h (by decide)⟩
   ·intro a w2 hB hF hd
    rw [if_pos (wanted_none rfl)]
    obtain ⟨u_,eu_,hu_⟩:=((hd 6 _ rfl (waits_spec rfl)).2.2.1 rfl)
    exact flow_val (fun h=> by cases h) (run_extract rfl eu_ rfl) ⟨rfl,fun h=> absurd h (by decide),fun h=> absurd h (by decide),fun h=> absurd h (by decide),fun h=> absurd h (by decide)⟩
   ·intro a w2 hB hF hd
    rw [if_pos (wanted_none rfl)]
    exact flow_move _ (.inr rfl) (by simp) ⟨trivial,fun h=> absurd h (by decide),fun h=> absurd h (by decide),fun h=> absurd h (by decide),fun _=> ((hd 7 _ rfl (waits_spec rfl)).2.2.2.1 rfl)⟩
   ·intro a w2 hB hF hd
    rw [if_pos (wanted_none rfl)]
    exact flow_move _ (.inr rfl) (by simp) ⟨((hd 8 _ rfl (waits_spec rfl)).1),fun h=> absurd h (by decide),fun h=> absurd h (by decide),fun h=> absurd h (by decide),fun h=> absurd h (by decide)⟩
  ·intro a w6 hB hF hS
   obtain ⟨x32,hx32⟩:∃x,x=a.tmps.getD 32 undef:=⟨_,rfl⟩
   have P32:TupR w6 x32 (N+16) SF:=by rw [hx32];exact (hS 5 _ rfl).2.1 rfl
   obtain ⟨x26,hx26⟩:∃x,x=a.tmps.getD 26 undef:=⟨_,rfl⟩
   have P26:TupR w6 x26 (N+16) SF:=by rw [hx26];exact (hS 6 _ rfl).2.2.1 rfl
   obtain ⟨x33,hx33⟩:∃x,x=a.tmps.getD 33 undef:=⟨_,rfl⟩
   have P33:Rd .u8 w6 x33 (N+16) (SF):=by rw [hx33];exact (hS 7 _ rfl).2.2.2.1 rfl
   obtain ⟨x11,hx11⟩:∃x,x=a.tmps.getD 11 undef:=⟨_,rfl⟩
   have P11:Rd .u8 w6 x11 (N+16) (SF):=by rw [hx11];exact (hS 9 _ rfl).2.2.2.2 rfl
   have ha:=puts_each rfl rfl hF [_,_,_,_,_,x32,x26,x33,_,x11,_] rfl ⟨(hS 0 _ rfl).1,(hS 1 _ rfl).1,(hS 2 _ rfl).1,(hS 3 _ rfl).1,(hS 4 _ rfl).1,hx32.symm,hx26.symm,hx33.symm,(hS 8 _ rfl).1,hx11.symm,(hS 10 _ rfl).1,trivial⟩
   simp only [puts,Act.put,List.setIfInBounds_toArray,List.set_cons_succ,List.set_cons_zero] at ha
   subst ha
   clear hx32 hx26 hx33 hx11
   clear hS hF
   have HR6:=Lib.hid P11
   have H6:=Lib.hid (H5.out.below hB)
   have C6:=Lib.hid (C5.out.trans (ChS.of_below hB (fun _=> False)) fun _ h=> .inl h)
   have hq6:∀i,i<12→w6.cell? ⟨q,0+i,none⟩=some (.int .u8 (catF 12 D SF i)):=fun i hi=> by rw [catF_lo hi];exact (hB.cell (p:=⟨q,0+i,none⟩) hql).trans (HC10.out i hi)
   have HQ6:=Lib.hid hq6
   obtain ⟨ax,cx,ex,_⟩:=id HR6.out
   subst ex
   have HNB:Hid (0<N+16):=Lib.hid (by omega)
   have HNC:Hid ((12+(N+16)) * 1≤140737488355328):=Lib.hid (by have:=HNL.out;omega)
   clear P11 P26 P32 P33 h8 h10 hB hql hq6
   go_wp2_with (at_builtin;refine append_full rfl _ _ 28 rfl 5 .u8 1 Try.underlying28 Try.info5 q 0 12 (catF 12 D SF) HQ6.out rfl _ (N+16) SF HR6.out rfl HNB.out (fun i _=> catF_hi) HNC.out (by have:=HNC.out;omega) ?_;intro v7 w7 hr7 b7)
   have HD:=Lib.hid (suDoneB HQ.out (H6.out.below b7) (C6.out.trans (ChS.of_below b7 (fun _=> False)) fun _ h=> .inl h) hr7 (catF_bound (fun i hi=> HDB.out i (by omega)) fun i _=> HSB.out i) 0)
   clear hr7 b7
   go_wp2
   go_ret2
   rw [HE.out]
   exact ⟨_,rfl,HD.out⟩
 ·have HK:=Lib.hid (suKey_no hb.rd hl)
  have HE:Hid (R=([],11,.by sd n)):=Lib.hid (by rw [HR.out];exact if_neg hl)
  obtain ⟨av,cv,rfl,_⟩:=hb.rd
  obtain ⟨av',cv',rfl,_⟩:=hb'.rd
  clear hR h hb hb' hl
  go_enter Try.func42,Try.ntmps42
  go_wp2_with fail
  refine HW.out.mono ?_
  rintro e w1 ⟨rfl,rfl⟩
  go_wp2_with fail
  refine HK.out.mono ?_
  rintro e w2 ⟨rfl,b2⟩
  have B2:=Lib.hid b2
  clear b2
  go_upto_region 4 with (refine store_arr rfl 22 _ _ rfl .u8 w2.heap.size 32 (fun _=> 0) (fun _=> 0) Try.size22 rfl rfl (Arr.newAt rfl (by rfl)) ?_)
  refine wp_world (fun w3=> Below w1.heap.size w1 w3) (below_setRow' (B2.out.alloc B2.out.size _) B2.out.size _) ?_
  rintro w3 b3
  have HD:=Lib.hid (suNoneB HQ.out b3 11)
  clear b3
  go_wp2
  go_ret2
  rw [HE.out]
  exact ⟨_,rfl,HD.out⟩
end
end Go.Proofs.Ytpcjekgfnfjbpaa
namespace Go.Proofs.Ytpcjekgfnfjbpaa
open Go.RowKit Go.Bas Go.ChangeShapes Go.Maps
attribute [local go_sem ↓] Go.wp_at_zero Go.wp_at_succ
def Su.lock:Su→List Int→List Int→UA
 | .by sd n,a,b=> lockB sd n a b
 | .tm S,a,b=> ((twoT 5 S a b).1,(twoT 5 S a b).2.1,.tm (twoT 5 S a b).2.2)
def Su.unlock:Su→List Int→List Int→List Int × Int
 | .by _ _,a,c=> unlockB a c
 | .tm S,a,c=> unlockT S a c
section
variable {B : Nat} {w w' w1 w2 w3 : World} {p q : Nat} {F F' G G' : Nat → Prop} {sd : Nat → Int} {n : Nat} {v u v' : Value} {l l' : List Int} {X X' X'' : Su} {S S' : TS}
theorem suDraw_any (h:SuM B w p F X) (s:Int) (hn:X.size≤900):Calls Try.prog 8 #[.pointer (some ⟨p,0,none⟩),.int .i64 s] w fun e w'=> ∃u,e=.returned (.tuple #[u,.int .i64 (X.draw s).2.1])∧SuR B w p F u (X.draw s) w':=by
 cases X with
 | «by» sd n=> exact suDraw_by h s hn
 | tm S=> exact (suDraw_tm h s hn).mono fun e w' ⟨u,h1,h2⟩=> ⟨u,h1,h2.su⟩
theorem suNext_any (h:SuM B w p F X) (hb:Byt F w v l) (hn:X.size≤900):Calls Try.prog 11 #[.pointer (some ⟨p,0,none⟩),v] w fun e w'=> ∃u,e=.returned (.tuple #[u,.int .i64 (X.next l).2.1])∧SuR B w p F u (X.next l) w':=by
 cases X with
 | «by» sd n=> exact suNext_by h hb
 | tm S=> exact (suNext_tm h hb hn).mono fun e w' ⟨u,h1,h2⟩=> ⟨u,h1,h2.su⟩
theorem suLock_any (h:SuM B w p F X) (hb:Byt F w v l) (hb':Byt F w v' l') (hn:X.size≤900) (hl':l'.length≤1000):Calls Try.prog 42 #[.pointer (some ⟨p,0,none⟩),v,v'] w fun e w'=> ∃u,e=.returned (.tuple #[u,.int .i64 (X.lock l l').2.1])∧SuR B w p F u (X.lock l l') w':=by
 cases X with
 | «by» sd n=> exact suLock_by h hb hb' hn hl'
 | tm S=> exact (suLock_tm h hb hb' hn).mono fun e w' ⟨u,h1,h2⟩=> ⟨u,h1,h2.su⟩
theorem suUnlock_any (h:SuM B w p F X) (hb:Byt F w v l) (hb':Byt F w v' l') (hn:X.size≤900) (hl':l'.length≤1000):Calls Try.prog 31 #[.pointer (some ⟨p,0,none⟩),v,v'] w fun e w'=> ∃u,e=.returned (.tuple #[u,.int .i64 (X.unlock l l').2])∧Byt F w' u (X.unlock l l').1∧Below w.heap.size w w':=by
 cases X with
 | «by» sd n=> exact suUnlock_by h hb hb' hl'
 | tm S=> exact suUnlock_tm h hb hb' (Nat.le_trans hn (by decide))
def Su.le:Su→Su→Prop
 | .by sd _,.by sd' _=> sd=sd'
 | .tm S,.tm S'=> S.l <+:S'.l∧S.tx <+:S'.tx
 | _,_=> False
theorem Su.le.refl (X:Su):X.le X:=by
 cases X with
 | «by» sd n=> exact rfl
 | tm S=> exact ⟨List.prefix_refl _,List.prefix_refl _⟩
theorem Su.le.trans (h:X.le X') (h':X'.le X''):X.le X'':=by
 cases X<;> cases X'<;> cases X''<;> first | exact h.elim | exact h'.elim | exact Eq.trans h h' | exact ⟨h.1.trans h'.1,h.2.trans h'.2⟩
def Su.ok:Su→Prop
 | .by _ _=> True
 | .tm S=> S.Ok
theorem SuM.ok (h:SuM B w p F X):X.ok:=by
 cases X with
 | «by» sd n=> trivial
 | tm S=> exact SuT.ok h
def Su.val:Su→List Int→Prop
 | .by _ _,l=> l.length=32
 | .tm S,l=> ∃n:Nat,n<S.l.length∧l=valT n
def Su.nx:Su→List Int→List Int→Prop
 | .by _ _,a,b=> b=lof 32 (nextB (bf a))
 | .tm S,a,b=> ∃n m:Nat,a=valT n∧b=valT m∧n<S.l.length∧S.l[m]? =some (6,(n:Int),0)
def Su.lk:Su→List Int→List Int→List Int→Prop
 | .by _ _,a,b,c=> a.length=32∧okB b∧∃D:Nat→Int,(∀i,i<12→0≤D i∧D i<256)∧c=lof (12+(b.length+16)) (catF 12 D (sealF (bf a) (nmF 12 D) 0 (fun _=> 0) b.length (bf b)))
 | .tm S,a,b,c=> ∃n m k:Nat,a=valT n∧b=valT m∧c=valT k∧n<S.l.length∧m<S.l.length∧S.l[k]? =some (5,(n:Int),(m:Int))
theorem Su.val.mono (h:X.val l) (hl:X.le X'):X'.val l:=by
 cases X<;> cases X'<;> first | exact hl.elim | exact h | (obtain ⟨n,h1,h2⟩:=h;exact ⟨n,Nat.lt_of_lt_of_le h1 hl.1.length_le,h2⟩)
theorem Su.nx.mono {a b:List Int} (h:X.nx a b) (hl:X.le X'):X'.nx a b:=by
 cases X<;> cases X'<;> first | exact hl.elim | exact h | (obtain ⟨n,m,h1,h2,h3,h4⟩:=h;exact ⟨n,m,h1,h2,Nat.lt_of_lt_of_le h3 hl.1.length_le,prefix_get hl.1 h4⟩)
theorem Su.lk.mono {a b c:List Int} (h:X.lk a b c) (hl:X.le X'):X'.lk a b c:=by
 cases X<;> cases X'<;> first | exact hl.elim | exact h | (obtain ⟨n,m,k,h1,h2,h3,h4,h5,h6⟩:=h;exact ⟨n,m,k,h1,h2,h3,Nat.lt_of_lt_of_le h4 hl.1.length_le,Nat.lt_of_lt_of_le h5 hl.1.length_le,prefix_get hl.1 h6⟩)
theorem valT_inj {n m:Nat} (hn:n≤1000000) (hm:m≤1000000) (h:valT n=valT m):n=m:=by
 have h1:=(valT_num (n:=(n:Int)) (by omega) (by omega)).2
 have h2:=(valT_num (n:=(m:Int)) (by omega) (by omega)).2
 rw [h] at h1
 omega
theorem put_get (h:S.Ok) {t:Tm} (ht:mayT S t=true):∃k:Nat,(putA S t).1=k∧(S.put t).l[k]? =some t∧k<(S.put t).l.length:=by
 unfold putA TS.put
 rw [if_pos ht]
 by_cases hin:t ∈ S.l
 ·rw [if_pos hin,if_neg (fun h=> h.2 hin)]
  exact ⟨plc S.l t,rfl,plc_get hin,plc_lt hin⟩
 ·rw [if_neg hin,if_pos ⟨ht,hin⟩]
  refine ⟨S.l.length,rfl,?_,by rw [add_len];omega⟩
  show (S.l++ [t])[S.l.length]? =some t
  rw [List.getElem?_append_right (Nat.le_refl _),Nat.sub_self]
  rfl
theorem put_le (t:Tm):S.l <+:(S.put t).l∧S.tx <+:(S.put t).tx:=by
 unfold TS.put
 split
 ·exact ⟨List.prefix_append _ _,List.prefix_refl _⟩
 ·exact ⟨List.prefix_refl _,List.prefix_refl _⟩
theorem twin (h:S.Ok) {m k:Nat} {t:Tm} (h1:S.l[m]? =some t) (h2:S.l[k]? =some t):m=k:=by
 have e1:=plc_at h.nd h1
 have e2:=plc_at h.nd h2
 omega
theorem draw_new {s:Int} (hw:S.few) (hl:S.l.length≤900) (hs:isSort s=true):S.draw s=S.add (1,s,nxt S.l s):=if_pos ⟨hs,by have:=hw s;unfold topT;omega⟩
def Su.few:Su→Prop
 | .by _ _=> True
 | .tm S=> S.few
theorem SuM.few (h:SuM B w p F X):X.few:=by
 cases X with
 | «by» sd n=> trivial
 | tm S=> obtain ⟨q,G,h,_⟩:=h;exact h.few
theorem Su.draw_ok (hw:X.few) (hn:X.size≤900) (s:Int) (hs:1≤s∧s≤4):∃b X',X.draw s=(b,0,X')∧X.le X'∧X'.val b∧b.length≤32∧X'.size=X.size+1:=by
 have hS:isSort s=true:=by unfold isSort;rw [decide_eq_true hs.1,decide_eq_true hs.2];rfl
 cases X with
 | «by» sd n=> exact ⟨_,.by sd (n+1),if_pos hS,rfl,lof_length _ _,by simp,rfl⟩
 | tm S=>
  have hn':S.l.length≤900:=hn
  have e:=draw_new hw hn' hS
  refine ⟨valT (S.l.length:Int),.tm (S.draw s),?_,?_,⟨S.l.length,?_,rfl⟩,by rw [valT_length];decide,?_⟩
  ·show ((drawT S s).1,(drawT S s).2.1,Su.tm (drawT S s).2.2)= _
   unfold drawT
   rw [if_pos hS]
  ·show S.l <+:(S.draw s).l∧S.tx <+:(S.draw s).tx
   rw [e]
   exact ⟨List.prefix_append _ _,List.prefix_refl _⟩
  ·rw [e,add_len];omega
  ·show (S.draw s).l.length= _
   rw [e,add_len]
   rfl
theorem Su.next_ok (ho:X.ok) (hn:X.size≤900) (hv:X.val l):∃b X',X.next l=(b,0,X')∧X.le X'∧X'.val b∧X'.nx l b∧b.length≤32∧X'.size≤X.size+1:=by
 cases X with
 | «by» sd n=>
  exact ⟨_,.by sd n,if_pos hv,rfl,lof_length _ _,rfl,by simp,by simp⟩
 | tm S=>
  obtain ⟨m,hm,rfl⟩:=hv
  have hn':S.l.length≤900:=hn
  have e:oneT 6 S (valT m)=(valT (putA S (6,m,0)).1,0,S.put (6,m,0)):=by unfold oneT;rw [numV_valT hm (by omega)]
  obtain ⟨k,h1,h2,h3⟩:=put_get ho (mayOne (k:=6) (by decide) hm)
  refine ⟨valT (k:Int),.tm (S.put (6,m,0)),?_,put_le _,⟨k,h3,rfl⟩,⟨m,k,rfl,rfl,Nat.lt_of_lt_of_le hm (put_le _).1.length_le,h2⟩,by rw [valT_length];decide,(put_len S _).1⟩
  show ((oneT 6 S (valT m)).1,(oneT 6 S (valT m)).2.1,Su.tm (oneT 6 S (valT m)).2.2)= _
  rw [e,h1]
theorem Su.nx_fun {a b c:List Int} (ho:X.ok) (hn:X.size≤900) (h:X.nx a b) (h':X.nx a c):b=c:=by
 cases X with
 | «by» sd n=> exact Eq.trans h (Eq.symm h')
 | tm S=>
  have hn':S.l.length≤900:=hn
  obtain ⟨n,m,rfl,rfl,h1,h2⟩:=h
  obtain ⟨n',m',e,rfl,h1',h2'⟩:=h'
  have:=valT_inj (by omega) (by omega) e
  subst this
  rw [twin ho h2 h2']
theorem Su.lock_ok (ho:X.ok) (hn:X.size≤900) (hv:X.val l) (hv':X.val l') (hb':okB l'):∃c X',X.lock l l'=(c,0,X')∧X.le X'∧X'.lk l l' c∧c.length≤100∧c≠ [] ∧X'.size≤X.size+1:=by
 cases X with
 | «by» sd n=>
  have h32:l'.length=32:=hv'
  refine ⟨_,.by sd (n+1),if_pos hv,rfl,⟨hv,hb',drawB sd n,fun i _=> drawB_b sd n i,rfl⟩,by rw [lof_length];omega,fun e=> ?_,Nat.le_refl _⟩
  have:=congrArg List.length e
  rw [lof_length] at this
  simp at this
 | tm S=>
  obtain ⟨n,hn1,rfl⟩:=hv
  obtain ⟨m,hm1,rfl⟩:=hv'
  have hn':S.l.length≤900:=hn
  have e:twoT 5 S (valT n) (valT m)=(valT (putA S (5,n,m)).1,0,S.put (5,n,m)):=by
   unfold twoT
   rw [numV_valT hn1 (by omega),numV_valT hm1 (by omega)]
   exact if_neg (fun h=> absurd h.1 (by decide))
  obtain ⟨k,h1,h2,h3⟩:=put_get ho (mayTwo (k:=5) (.inr rfl) hn1 hm1)
  refine ⟨valT (k:Int),.tm (S.put (5,n,m)),?_,put_le _,⟨n,m,k,rfl,rfl,rfl,Nat.lt_of_lt_of_le hn1 (put_le _).1.length_le,Nat.lt_of_lt_of_le hm1 (put_le _).1.length_le,h2⟩,by rw [valT_length];decide,fun e=> ?_,(put_len S _).1⟩
  ·show ((twoT 5 S (valT n) (valT m)).1,(twoT 5 S (valT n) (valT m)).2.1,Su.tm (twoT 5 S (valT n) (valT m)).2.2)= _
   rw [e,h1]
  ·have:=congrArg List.length e
   rw [valT_length] at this
   simp at this
theorem opens_congr {key nonce:Nat→Int} {nb n:Nat} {fb f g:Nat→Int} (h:∀i,i<n+16→f i=g i):opensB key nonce nb fb n f=opensB key nonce nb fb n g:=by
 unfold opensB
 rw [aTag_congr (fun _ _=> rfl) fun i hi=> h i (by omega)]
 unfold sameB
 refine decide_eq_decide.2 ⟨fun h1 i hi=> ?_,fun h1 i hi=> ?_⟩
 ·exact (h1 i hi).trans (h (n+i) (by omega))
 ·exact (h1 i hi).trans (h (n+i) (by omega)).symm
theorem Su.unlock_ok {a b c:List Int} (hn:X.size≤900) (h:X.lk a b c):X.unlock a c=(b,0):=by
 cases X with
 | «by» sd n=>
  obtain ⟨ha,hb,D,hD,rfl⟩:=h
  show unlockB a _=(b,0)
  unfold unlockB
  rw [if_pos ha,lof_length,if_neg (by omega)]
  obtain ⟨N,hN⟩:∃N,N=b.length:=⟨_,rfl⟩
  rw [←hN,show 12+(N+16) - 28=N by omega]
  obtain ⟨SF,hSF⟩:∃SF,SF=sealF (bf a) (nmF 12 D) 0 (fun _=> 0) N (bf b):=⟨_,rfl⟩
  rw [←hSF]
  have e1:nmF 12 (bf (lof (12+(N+16)) (catF 12 D SF)))=nmF 12 D:=nmF_congr fun i hi=> by rw [bf_lof (by omega),catF_lo hi]
  have e2:∀i,i<N+16→bf (lof (12+(N+16)) (catF 12 D SF)) (12+i)=SF i:=fun i hi=> by rw [bf_lof (by omega),catF_hi]
  rw [e1,opens_congr e2,hSF,opens_seal,if_pos rfl,←hSF]
  have e3:lof N (hidB (bf a) (nmF 12 D) 1 (fun i=> bf (lof (12+(N+16)) (catF 12 D SF)) (12+i)))=b:=by
   rw [←lof_bf b,←hN]
   refine lof_congr fun i hi=> ?_
   have:=open_seal (key:=bf a) (nonce:=nmF 12 D) (nb:=0) (fb:=fun _=> 0) (n:=N) (f:=bf b) (fun i hi=> hb.at i (by omega)) i hi
   rw [←hSF] at this
   rw [←this]
   show xo _ (bf (lof (12+(N+16)) (catF 12 D SF)) (12+i))=xo _ (SF i)
   rw [e2 i (by omega)]
  rw [e3]
 | tm S=>
  obtain ⟨n,m,k,rfl,rfl,rfl,h1,h2,h3⟩:=h
  have hn':S.l.length≤900:=hn
  have hk:=(List.getElem?_eq_some_iff.1 h3).1
  show unlockT S _ _= _
  unfold unlockT
  rw [numV_valT h1 (by omega),numV_valT hk (by omega)]
  simp only [kdT,tmAt_eq h3]
  rw [if_pos (by simp)]
end
end Go.Proofs.Ytpcjekgfnfjbpaa
namespace Go.Proofs.Ytpcjekgfnfjbpaa
open Go.RowKit Go.Bas Go.ChangeShapes Go.Maps
attribute [local go_sem ↓] Go.wp_at_zero Go.wp_at_succ
def suCs (kd:Int) (sd:Nat→Int) (s:Value):Array Value:=(.int .i64 kd::(vals .u8 32 sd++ [.int .i64 0,s])).toArray
theorem suCs_0 (kd:Int) (sd:Nat→Int) (s:Value):(suCs kd sd s)[0]? =some (.int .i64 kd):=rfl
theorem suCs_1 (kd:Int) (sd:Nat→Int) (s:Value) {i:Nat} (h:i<32):(suCs kd sd s)[1+i]? =some (.int .u8 (sd i)):=by
 unfold suCs
 rw [List.getElem?_toArray,Nat.add_comm,List.getElem?_cons_succ,List.getElem?_append_left (by simpa using h)]
 exact vals_get h
theorem suCs_33 (kd:Int) (sd:Nat→Int) (s:Value):(suCs kd sd s)[33]? =some (.int .i64 0):=rfl
theorem suCs_34 (kd:Int) (sd:Nat→Int) (s:Value):(suCs kd sd s)[34]? =some s:=rfl
theorem SuRow.new (w:World) (kd:Int) (sd:Nat→Int) (s:Value):SuRow (w.alloc (.cells (suCs kd sd s) 53)) w.heap.size kd sd 0 s:=by
 have hb:=heap_alloc_new w (.cells (suCs kd sd s) 53)
 have hc:=fun i=> cell_of_row _ _ i _ _ (0,0) hb
 exact ⟨⟨_,hb,rfl⟩,(hc 0).trans (suCs_0 _ _ _),fun i hi=> (hc (1+i)).trans (suCs_1 _ _ _ hi),(hc 33).trans (suCs_33 _ _ _),(hc 34).trans (suCs_34 _ _ _)⟩
theorem StA.base {B B':Nat} {w:World} {p:Nat} {F:Nat→Prop} {S:TS} (h:StA B w p F S) (hB:B'≤B):StA B' w p F S:=by
 obtain ⟨mb,mt,vl,vb,tv,h1,h2,h3⟩:=h
 exact ⟨mb,mt,vl,vb,tv,⟨⟨h1.row,h1.c0,h1.c1,h1.c2,h1.c3,h1.nx,h1.ls,h1.am,h1.xm,h1.bs,fun j b hb=> (h1.bt j b hb).mono hB,h1.ne,Nat.le_trans hB h1.hp,Nat.le_trans hB h1.hb,Nat.le_trans hB h1.hm,fun b hb=> Nat.le_trans hB (h1.hl b hb),fun b hb=> Nat.le_trans hB (h1.hv b hb)⟩,h1.nd,h1.txn,h1.all,h1.okt,h1.okx⟩,h2,h3⟩
theorem SuT.base {B B':Nat} {w:World} {p:Nat} {F:Nat→Prop} {S:TS} (h:SuT B w p F S) (hB:B'≤B):SuT B' w p F S:=by
 obtain ⟨q,G,h,hF⟩:=h
 exact ⟨q,G,⟨h.r,h.st.base hB,h.few,Nat.le_trans hB h.hp,h.np⟩,hF⟩
theorem suTerms_any (w:World):Calls Try.prog 13 #[] w fun e w'=> ∃p F,e=.returned (.pointer (some ⟨p,0,none⟩))∧SuT w.heap.size w' p F ⟨[], []⟩∧Below w.heap.size w w':=by
 go_enter Try.func13,Try.ntmps13
 go_wp2_with fail
 refine (tNew_any w).mono ?_
 rintro e w1 ⟨q,G,rfl,h1,b1⟩
 have H1:=Lib.hid h1
 have B1:=Lib.hid b1
 clear h1 b1
 go_wp2
 go_ret
 have hr:=SuRow.new w1 2 (fun _=> 0) (.pointer (some ⟨q,0,none⟩))
 have ba:=(Below.refl w1.heap.size w1).alloc (Nat.le_refl _) (.cells (suCs 2 (fun _=> 0) (.pointer (some ⟨q,0,none⟩))) 53)
 exact ⟨_,fun b=> b=w1.heap.size∨G b,rfl,⟨q,G,⟨hr,H1.out.below ba,TS.few.nil,B1.out.size,fun hg=> by have:=H1.out.lt hg;omega⟩,fun _=> Iff.rfl⟩,B1.out.trans (ba.mono B1.out.size)⟩
theorem fold_seed (sd:Nat→Int):Array.foldl (fun (cs:Array Value) (x:Value × Nat)=> cs.setIfInBounds (1+x.snd) x.fst) #[.int .i64 1,.int .u8 0,.int .u8 0,.int .u8 0,.int .u8 0,.int .u8 0,.int .u8 0,.int .u8 0,.int .u8 0,.int .u8 0,.int .u8 0,.int .u8 0,.int .u8 0,.int .u8 0,.int .u8 0,.int .u8 0,.int .u8 0,.int .u8 0,.int .u8 0,.int .u8 0,.int .u8 0,.int .u8 0,.int .u8 0,.int .u8 0,.int .u8 0,.int .u8 0,.int .u8 0,.int .u8 0,.int .u8 0,.int .u8 0,.int .u8 0,.int .u8 0,.int .u8 0,.int .i64 0,.pointer none] (arr .u8 32 sd).zipIdx 0 32=suCs 1 sd (.pointer none):=by kernel_rfl
theorem suBytes_any (sd:Nat→Int) (hs:∀i,i<32→0≤sd i∧sd i<256) (w:World):Calls Try.prog 20 #[.agg (arr .u8 32 sd)] w fun e w'=> ∃p,e=.returned (.pointer (some ⟨p,0,none⟩))∧SuB w.heap.size w' p sd 0∧Below w.heap.size w w':=by
 have HS:=Lib.hid hs
 clear hs
 go_enter Try.func20,Try.ntmps20
 go_upto_region 1 with (fail)
 refine wp_world (fun w1=> Arr .u8 w1 w.heap.size 32 sd∧Below w.heap.size w w1) ⟨Arr.newAt rfl rfl,(Below.refl _ _).alloc (Nat.le_refl _) _⟩ ?_
 rintro w1 ⟨h1,b1⟩
 have H1:=Lib.hid h1
 have B1:=Lib.hid b1
 clear h1 b1
 go_wp2_with (refine load_arr rfl 22 _ rfl .u8 w.heap.size 32 sd 5 Try.underlying22 Try.size22 rfl H1.out ?_)
 rw [fold_seed]
 go_ret
 have hr:=SuRow.new w1 1 sd (.pointer none)
 have ba:=(Below.refl w1.heap.size w1).alloc (Nat.le_refl _) (.cells (suCs 1 sd (.pointer none)) 53)
 have HR:Hid (SuB w.heap.size (w1.alloc (.cells (suCs 1 sd (.pointer none)) 53)) w1.heap.size sd 0∧Below w.heap.size w (w1.alloc (.cells (suCs 1 sd (.pointer none)) 53))):=Lib.hid ⟨⟨hr,HS.out,B1.out.size⟩,B1.out.trans (ba.mono B1.out.size)⟩
 exact ⟨w1.heap.size,rfl,HR.out⟩
def WayV (b:Bool) (sd:Nat→Int):Value:=.agg (.bool b::vals .u8 32 sd).toArray
def Su.new (b:Bool) (sd:Nat→Int):Su:=if b then .by sd 0 else .tm ⟨[], []⟩
theorem suWay_any (b:Bool) (sd:Nat→Int) (hs:∀i,i<32→0≤sd i∧sd i<256) (w:World):Calls Try.prog 7 #[WayV b sd] w fun e w'=> ∃p F,e=.returned (.pointer (some ⟨p,0,none⟩))∧SuM w.heap.size w' p F (Su.new b sd)∧Below w.heap.size w w':=by
 have HS:=Lib.hid hs
 clear hs
 obtain ⟨V,hV⟩:∃V,V=WayV b sd:=⟨_,rfl⟩
 have HV:=Lib.hid hV
 rw [←hV]
 clear hV
 go_enter Try.func7,Try.ntmps7
 obtain rfl:=HV.out
 go_upto_region 1 with (fail)
 refine wp_world (fun w1=> w1.cell? ⟨w.heap.size,0,none⟩=some (.bool b)∧(∀i,i<32→w1.cell? ⟨w.heap.size,1+i,none⟩=some (.int .u8 (sd i)))∧Below w.heap.size w w1) ⟨cell_of_row _ _ 0 _ _ (0,0) (heap_alloc_new w _),fun i hi=> (cell_of_row _ _ (1+i) _ _ (0,0) (heap_alloc_new w _)).trans (show (Value.bool b::vals .u8 32 sd).toArray[1+i]? = _ from by rw [List.getElem?_toArray,Nat.add_comm,List.getElem?_cons_succ];exact vals_get hi),(Below.refl _ _).alloc (Nat.le_refl _) _⟩ ?_
 rintro w1 ⟨c0,c1,b1⟩
 have C1:=Lib.hid c1
 have B1:=Lib.hid b1
 clear c1 b1
 cases b with
 | true=>
  go_wp2_with (refine load_part rfl 22 _ rfl .u8 w.heap.size 1 32 sd 5 Try.underlying22 Try.size22 rfl (fun i hi=> C1.out i hi) ?_)
  refine (suBytes_any sd HS.out w1).mono ?_
  rintro e w2 ⟨p,rfl,h2,b2⟩
  have H2:=Lib.hid h2
  have B2:=Lib.hid b2
  clear h2 b2
  go_wp2
  go_ret
  exact ⟨p,fun _=> False,rfl,⟨⟨H2.out.r,H2.out.sdb,Nat.le_trans B1.out.size H2.out.hp⟩,fun _=> id⟩,B1.out.trans (B2.out.mono B1.out.size)⟩
 | false=>
  go_wp2_with fail
  refine (suTerms_any w1).mono ?_
  rintro e w2 ⟨p,F,rfl,h2,b2⟩
  have H2:=Lib.hid h2
  have B2:=Lib.hid b2
  clear h2 b2
  go_wp2
  go_ret
  exact ⟨p,F,rfl,SuT.base H2.out B1.out.size,B1.out.trans (B2.out.mono B1.out.size)⟩
end Go.Proofs.Ytpcjekgfnfjbpaa
namespace Go.Proofs.Ytpcjekgfnfjbpaa
open Go.RowKit Go.Bas Go.ChangeShapes Go.Maps
attribute [local go_sem ↓] Go.wp_at_zero Go.wp_at_succ
def Su.nxs (X:Su) (a:List Int):Nat→List Int→Prop
 | 0,b=> b=a
 | j+1,b=> ∃c,X.nxs a j c∧X.nx c b
section
variable {B : Nat} {w w' w1 w2 w3 : World} {p q : Nat} {F F' F'' G G' : Nat → Prop} {sd : Nat → Int} {n : Nat} {v u v' : Value} {l l' a b c : List Int} {X X' X'' : Su} {S S' : TS}
theorem Su.nxs.mono (hl:X.le X'):∀{j:Nat} {b:List Int},X.nxs a j b→X'.nxs a j b
 | 0,_,h=> h
 | _+1,_,⟨c,h1,h2⟩=> ⟨c,h1.mono hl,h2.mono hl⟩
theorem Su.nxs_fun (ho:X.ok) (hn:X.size≤900):∀{j:Nat} {b c:List Int},X.nxs a j b→X.nxs a j c→b=c
 | 0,_,_,h,h'=> Eq.trans h (Eq.symm h')
 | _+1,_,_,⟨d,h1,h2⟩,⟨d',h1',h2'⟩=> by
  have e:=Su.nxs_fun ho hn h1 h1'
  subst e
  exact Su.nx_fun ho hn h2 h2'
def SuV (B:Nat) (w:World) (p:Nat) (F:Nat→Prop) (X:Su) (m:Nat) (v:Value) (b:List Int) (X':Su) (w':World):Prop:=
 ∃F',SuM B w' p F' X'∧Byt F' w' v b∧ChS p F w w'∧(∀b,F' b→F b∨w.heap.size≤b)∧X.le X'∧X'.size≤X.size+m
def DwI (B:Nat) (w:World) (p:Nat) (F:Nat→Prop) (X:Su) (a:List Int) (j:Nat) (v:Value) (w':World):Prop:=
 ∃b X',SuV B w p F X j v b X' w'∧X'.nxs a j b∧X'.val b∧b.length≤32
theorem dwI_next (hn:X.size+n+1≤900) (h:DwI B w p F X a n v w1):∃F' b X',SuM B w1 p F' X'∧Byt F' w1 v b∧X'.size≤900∧(X'.next b).2.1=0∧∀u w2,SuR B w1 p F' u (X'.next b) w2→DwI B w p F X a (n+1) u w2:=by
 obtain ⟨b,X',⟨F',h1,h2,h3,h4,h5,h6⟩,h7,h8,h9⟩:=h
 obtain ⟨b2,X2,e,g1,g2,g3,g4,g5⟩:=Su.next_ok h1.ok (by omega) h8
 refine ⟨F',b,X',h1,h2,by omega,by rw [e],fun u w2 hr=> ?_⟩
 rw [e] at hr
 obtain ⟨F2,k1,k2,k3,k4⟩:=hr
 refine ⟨b2,X2,⟨F2,k1,k2,h3.trans k3 h4,fun b hb=> ?_,h5.trans g1,by omega⟩,⟨b,h7.mono g1,g3⟩,g2,g4⟩
 rcases k4 b hb with h | h
 ·exact h4 b h
 ·exact .inr (Nat.le_trans h3.chg.size h)
theorem rgDown_any (h:SuM B w p F X) (hb:Byt F w v a) (hv:X.val a) (ha:a.length≤32) (k:Nat) (hk:k<4) (hn:X.size+k≤900):Calls Try.prog 9 #[.pointer (some ⟨p,0,none⟩),v,.int .i64 (k:Int)] w fun e w'=> ∃u,e=.returned (.tuple #[u,.int .i64 0])∧DwI B w p F X a k u w':=by
 have HM:=Lib.hid h
 have HB:=Lib.hid hb
 have HV:=Lib.hid hv
 have HA:=Lib.hid ha
 have HN:=Lib.hid hn
 have HK:=Lib.hid hk
 have HC:=Lib.hid (clone_any v a.length (bf a) w hb.rd (by omega))
 have h1:decide ((k:Int)<0)=false:=decide_eq_false (by omega)
 have h2:decide ((4:Int)≤(k:Int))=false:=decide_eq_false (by omega)
 obtain ⟨av,cv,rfl,_⟩:=hb.rd
 clear h hb hv ha hn hk
 go_enter Try.func9,Try.ntmps9
 go_wp2_with fail
 refine HC.out.mono ?_
 rintro e w1 ⟨u,rfl,hu,b1⟩
 have HU:=Lib.hid hu.rd
 have H0:Hid (DwI B w p F X a 0 u w1):=Lib.hid ⟨a,X,⟨F,HM.out.below b1,Byt.own (n:=a.length) (f:=bf a) hu (fun i hi=> HB.out.ok.at i hi) (fun b hb=> HM.out.lt (.inr hb)) |> fun h=> (lof_bf a)▸h,ChS.of_below b1 _,fun b hb=> .inl hb,Su.le.refl _,Nat.le_refl _⟩,rfl,HV.out,HA.out⟩
 clear hu b1 h1 h2
 go_wp2
 go_loopw [8,20] (fun o i wr=> ∃j:Nat,j≤k∧i=.int .i64 (j:Int)∧DwI B w p F X a j o wr) (fun _ i _=> k - (intOf i).toNat)
 case atStart=> exact ⟨0,Nat.zero_le _,rfl,H0.out⟩
 case round=>
  obtain ⟨j,hj,rfl,hI⟩:=hrel
  have HI:=Lib.hid hI
  clear hI
  by_cases hlt:j<k
  ·obtain ⟨F',b,X',g1,g2,g3,g4,g5⟩:=dwI_next (by have:=HN.out;omega) HI.out
   have G1:=Lib.hid g1
   have G2:=Lib.hid g2
   have G3:=Lib.hid g3
   have G5:=Lib.hid g5
   obtain ⟨ao,co,rfl,_⟩:=g2.rd
   have hk9:(j:Int)<(k:Int):=by omega
   have hk8:(k:Int)<1000000:=by have:=HK.out;omega
   have HLT:=Lib.hid hlt
   have G4:=Lib.hid g4
   clear g1 g2 g3 g4 g5 hlt
   go_wp2_with fail
   refine (suNext_any G1.out G2.out G3.out).mono ?_
   rw [G4.out]
   rintro e w2 ⟨x,rfl,hr⟩
   have HX:=Lib.hid (G5.out x w2 hr)
   clear hr
   go_wp2
   go_roundw
   case rel=> exact ⟨j+1,by have:=HLT.out;omega,by go_num,HX.out⟩
   case measure=> have:=HLT.out;simp [intOf];omega
  ·obtain rfl:j=k:=by omega
   clear hlt
   go_wp2
   go_ret2
   exact ⟨_,rfl,HI.out⟩
end
end Go.Proofs.Ytpcjekgfnfjbpaa
namespace Go.Proofs.Ytpcjekgfnfjbpaa
open Go.RowKit Go.Bas Go.ChangeShapes Go.Maps
attribute [local go_sem ↓] Go.wp_at_zero Go.wp_at_succ
section
variable {B : Nat} {w w' w1 w2 w3 : World} {p q : Nat} {F F' F'' G G' : Nat → Prop} {sd : Nat → Int} {n : Nat} {v u v' : Value} {l l' a b c : List Int} {X X' X'' : Su} {S S' : TS}
theorem _root_.Go.Bas.ChS.below (h:ChS p F w w') (hB:B≤w.heap.size) (hF:∀b,b=p∨F b→B≤b):Below B w w':=h.chg.below hB hF
theorem rgState_any (h:SuM B w p F X) (hb:Byt F w v a) (hv:X.val a) (ha:a.length≤32) (pl:Nat) (h1:1≤pl) (h4:pl≤4) (hn:X.size+4≤900):Calls Try.prog 10 #[.pointer (some ⟨p,0,none⟩),v,.int .i64 (pl:Int)] w fun e w'=> ∃u,e=.returned (.tuple #[u,.int .i64 0])∧DwI B w p F X a (4 - pl) u w':=by
 obtain ⟨k,hk⟩:∃k,k=4 - pl:=⟨_,rfl⟩
 have HC:=Lib.hid (rgDown_any h hb hv ha k (by omega) (by omega))
 have q1:decide ((pl:Int)<1)=false:=decide_eq_false (by omega)
 have q2:decide ((4:Int)<(pl:Int))=false:=decide_eq_false (by omega)
 have hw:IntKind.i64.wrap (4 - (pl:Int))=(k:Int):=by rw [wrap_i64_id (by omega) (by omega)];omega
 have hw2:(4 - (pl:Int))=(k:Int):=by omega
 rw [←hk]
 obtain ⟨av,cv,rfl,_⟩:=hb.rd
 clear h hb hv ha hn hk h1 h4
 go_enter Try.func10,Try.ntmps10
 go_wp2_with fail
 refine HC.out.mono ?_
 rintro e w1 ⟨u,rfl,hu⟩
 have HU:=Lib.hid hu
 clear hu
 go_wp2
 go_ret2
 exact ⟨u,rfl,HU.out⟩
theorem rgLink_any (h:SuM B w p F X) (hb:Byt F w v l) (hb':Byt F w v' l') (hn:X.size≤900) (hl':l'.length≤1000):Calls Try.prog 30 #[.pointer (some ⟨p,0,none⟩),v,v'] w fun e w'=> ∃u,e=.returned (.tuple #[u,.int .i64 (X.lock l l').2.1])∧SuR B w p F u (X.lock l l') w':=by
 have HC:=Lib.hid (suLock_any h hb hb' hn hl')
 obtain ⟨av,cv,rfl,_⟩:=hb.rd
 obtain ⟨av',cv',rfl,_⟩:=hb'.rd
 clear h hb hb' hn hl'
 go_enter Try.func30,Try.ntmps30
 go_wp2_with fail
 refine HC.out.mono ?_
 rintro e w1 ⟨u,rfl,hu⟩
 have HU:=Lib.hid hu
 clear hu
 go_wp2
 go_ret2
 exact ⟨u,rfl,HU.out⟩
theorem rgFollow_any (h:SuM B w p F X) (hb:Byt F w v l) (hb':Byt F w v' l') (hn:X.size≤900) (hl':l'.length≤1000):Calls Try.prog 15 #[.pointer (some ⟨p,0,none⟩),v,v'] w fun e w'=> ∃u,e=.returned (.tuple #[u,.int .i64 (X.unlock l l').2])∧Byt F w' u (X.unlock l l').1∧Below w.heap.size w w':=by
 have HC:=Lib.hid (suUnlock_any h hb hb' hn hl')
 obtain ⟨av,cv,rfl,_⟩:=hb.rd
 obtain ⟨av',cv',rfl,_⟩:=hb'.rd
 clear h hb hb' hn hl'
 go_enter Try.func15,Try.ntmps15
 go_wp2_with fail
 refine HC.out.mono ?_
 rintro e w1 ⟨u,rfl,hu,b1⟩
 have HU:=Lib.hid hu
 have B1:=Lib.hid b1
 clear hu b1
 go_wp2
 go_ret2
 exact ⟨u,rfl,HU.out,B1.out⟩
end
end Go.Proofs.Ytpcjekgfnfjbpaa
namespace Go.Proofs.Ytpcjekgfnfjbpaa
open Go.RowKit Go.Bas Go.ChangeShapes Go.Maps
attribute [local go_sem ↓] Go.wp_at_zero Go.wp_at_succ
abbrev Stp:Type:=Int × List Int
def stq (L:List Stp) (lv:Nat→Value):Nat→Nat→Value:=fun j i=> if i=0 then (match L[j]? with | some x=> .int .i64 x.1 | none=> undef) else lv j
structure StM (w:World) (v:Value) (L:List Stp) (lv:Nat→Value):Prop where
 m:Mat w v L.length 2 (stq L lv)
 l:∀(j:Nat) (x:Stp),L[j]? =some x→Rd .u8 w (lv j) x.2.length (bf x.2)
def OkS (L:List Stp):Prop:=∀(j:Nat) (x:Stp),L[j]? =some x→(1≤x.1∧x.1≤4)∧((x.1=1∧j=0∧x.2= [])∨(x.1=1∧0<j∧x.2≠ [])∨(∃y:Stp,0<j∧L[j - 1]? =some y∧y.1<4∧x.1=y.1+1∧x.2= []))
def lastS (L:List Stp) (j:Nat):Int:=if j=0 then 4 else (L.getD (j - 1) (0, [])).1
section
variable {B : Nat} {w w' w1 w2 w3 : World} {p q : Nat} {v u v' : Value} {L : List Stp} {lv : Nat → Value}
theorem StM.below (h:StM w v L lv) (hb:Below w.heap.size w w'):StM w' v L lv:=⟨h.m.below hb,fun j x hx=> (h.l j x hx).below hb⟩
theorem StM.at (h:StM w v L lv) {j:Nat} {x:Stp} (hx:L[j]? =some x):∃g o cap a c,v=.slice (some ⟨g,o,none⟩) L.length cap∧g<w.heap.size∧w.cell? ⟨g,o+j * 2,none⟩=some (.int .i64 x.1)∧w.cell? ⟨g,o+j * 2+1,none⟩=some (.slice a x.2.length c)∧lv j=.slice a x.2.length c:=by
 obtain ⟨a,cap,rfl,_,_,h3⟩:=h.m
 have hj:=(List.getElem?_eq_some_iff.1 hx).1
 obtain ⟨g,o,rfl,hlt,hc⟩:=h3 (by omega)
 obtain ⟨a,c,e,_⟩:=h.l j x hx
 refine ⟨g,o,cap,a,c,rfl,hlt,(hc j hj 0 (by decide)).trans (congrArg some (by unfold stq;rw [if_pos rfl,hx])),?_,e⟩
 rw [←e]
 exact (hc j hj 1 (by decide)).trans (congrArg some (if_neg (by decide)))
theorem StM.slice (h:StM w v L lv):∃a cap,v=.slice a L.length cap:=by obtain ⟨a,cap,e,_⟩:=h.m;exact ⟨a,cap,e⟩
theorem rgRight_any (h:StM w v L lv) (ho:OkS L) (hl:L.length≤1000):Calls Try.prog 17 #[v] w fun e w'=> e=.returned (.bool true)∧Below w.heap.size w w':=by
 have H:=Lib.hid h
 have HO:=Lib.hid ho
 have HL:=Lib.hid hl
 obtain ⟨av,cv,rfl⟩:=h.slice
 clear h ho hl
 go_enter Try.func17,Try.ntmps17
 go_wp2
 go_loopw [3,10] (fun la i wr=> ∃j:Nat,j≤L.length∧i=.int .i64 (j:Int)∧la=.int .i64 (lastS L j)∧Below w.heap.size w wr) (fun _ i _=> L.length - (intOf i).toNat)
 case atStart=> exact ⟨0,Nat.zero_le _,rfl,rfl,Below.refl _ _⟩
 case round=>
  obtain ⟨j,hj,rfl,rfl,hb⟩:=hrel
  have HB:=Lib.hid hb
  have HJ:=Lib.hid hj
  by_cases hlt:j<L.length
  ·obtain ⟨x,hx⟩:∃x,L[j]? =some x:=⟨_,List.getElem?_eq_getElem hlt⟩
   have HX:=Lib.hid hx
   obtain ⟨g,o,cap,al,cl,ev,hg,c0,c1,_⟩:=(H.out.below hb).at hx
   cases ev
   have hk9:(j:Int)<(L.length:Int):=by omega
   have hk8:(L.length:Int)<1000000:=by have:=HL.out;omega
   have HLT:=Lib.hid hlt
   have HNX:Hid (lastS L (j+1)=x.1):=Lib.hid (by unfold lastS;rw [if_neg (by omega),Nat.add_sub_cancel,List.getD_eq_getElem?_getD,hx];rfl)
   have HOX:=Lib.hid (HO.out j x hx)
   obtain ⟨la,hla⟩:∃la,la=lastS L j:=⟨_,rfl⟩
   have HLA:=Lib.hid hla
   rw [←hla]
   obtain ⟨pl,lk⟩:=x
   simp only at c0 c1 HNX HOX
   clear hb hj hx hg hlt hla
   go_upto_region 5 with (fail)
   refine wp_world (fun w2=> w2.cell? ⟨wr.heap.size,0,none⟩=some (.int .i64 pl)∧w2.cell? ⟨wr.heap.size,1,none⟩=some (.slice al lk.length cl)∧Below w.heap.size w w2) ⟨cell_of_row _ _ 0 _ _ (0,0) (heap_alloc_new wr _),cell_of_row _ _ 1 _ _ (0,0) (heap_alloc_new wr _),HB.out.alloc HB.out.size _⟩ ?_
   rintro w2 ⟨d0,d1,b2⟩
   have B2:=Lib.hid b2
   clear b2 c0 c1
   have hpl:(1≤pl∧pl≤4):=HOX.out.1
   rcases HOX.out.2 with ⟨rfl,rfl,e2⟩ | ⟨rfl,hj0,e2⟩ | ⟨y,hj0,hy,hy4,rfl,e2⟩
   ·subst e2
    obtain rfl:la=4:=HLA.out
    clear hpl
    go_wp2
    exact ⟨⟨1,HLT.out,rfl,by rw [show (1:Nat)=0+1 from rfl,HNX.out],B2.out⟩,by have:=HLT.out;simp [intOf];omega⟩
   ·have HL1:Hid (1≤la∧la≤4):=Lib.hid (by
     have hj1:j - 1<L.length:=by have:=HLT.out;omega
     have:=(HO.out (j - 1) _ (List.getElem?_eq_getElem hj1)).1
     rw [HLA.out]
     unfold lastS
     rw [if_neg (by omega),List.getD_eq_getElem?_getD,List.getElem?_eq_getElem hj1]
     exact this)
    have q1:((j:Int)==0)=false:=by simp;omega
    have q2:((lk.length:Int)==0)=false:=by
     have:lk.length≠0:=fun e=> e2 (List.length_eq_zero_iff.1 e)
     simp;exact e2
    have q3:(0:Int)<(j:Int):=by omega
    have q4:((1:Int)==la+1)=false:=by simp;have:=HL1.out;omega
    clear e2 hpl hj0
    go_upto_region 6 with (fail)
    have hxl:wr.heap.size<w2.heap.size:=World.block_lt_of_cell? _ _ d0
    by_cases h4:la<4
    ·skip
     refine region_flow (n:=55) (by kernel_rfl) (by kernel_rfl) (by kernel_rfl) rfl
      (fun ii vv _=> (match ii with | 0=> vv=.int .i64 ((j:Int)) | 1 | 2 | 4 | 5 | 6=> vv=.bool true | 3 | 9=> vv=.int .i64 (la) | 7=> vv=.pointer (some ⟨wr.heap.size,0,none⟩) | 8=> vv=.int .i64 (1) | 10=> vv=.int .i64 (la+1) | 11 | 12 | 13 | 18 | 19=> vv=.bool false | 14 | 15 | 16 | 17=> vv=undef | _=> True))
      (fun w w'=> Below w.heap.size w w') (fun _ _ h=> h) (fun _ _ _ _ h _=> h) ?_ ?_
     ·refine Each.all ?_
      refine ⟨?_,?_,?_,?_,?_,?_,?_,?_,?_,?_,?_,?_,?_,?_,?_,?_,?_,?_,?_,?_,trivial⟩
      ·intro a w2 hB hF hd
       rw [if_pos (wanted_none rfl)]
       exact flow_move _ (.inl rfl) (by simp) (hF.same 4 rfl)
      ·intro a w2 hB hF hd
       rw [if_pos (wanted_none rfl)]
       exact flow_val (fun h=> by cases h) (Go.Bas.run_gtr rfl (hd 0 _ rfl (waits_spec rfl)) rfl) (congrArg Value.bool (decide_eq_true q3))
      ·intro a w2 hB hF hd
       rw [if_pos (wanted_none rfl)]
       exact flow_move _ (.inl rfl) (by simp) (hd 1 _ rfl (waits_spec rfl))
      ·intro a w2 hB hF hd
       refine flow_wanted (wanted_yes rfl rfl (hd 2 _ rfl (waits_spec rfl)) rfl) ?_
       exact flow_move _ (.inl rfl) (by simp) (hF.same 3 rfl)
      ·intro a w2 hB hF hd
       refine flow_wanted (wanted_yes rfl rfl (hd 2 _ rfl (waits_spec rfl)) rfl) ?_
       exact flow_val (fun h=> by cases h) (Go.Bas.run_lss rfl (hd 3 _ rfl (waits_spec rfl)) rfl) (congrArg Value.bool (decide_eq_true h4))
      ·intro a w2 hB hF hd
       rw [if_pos (wanted_none rfl)]
       exact flow_val (fun h=> by cases h) (run_pick rfl (hd 2 _ rfl (waits_spec rfl))) ((hd 4 _ rfl (waits_spec rfl)))
      ·intro a w2 hB hF hd
       rw [if_pos (wanted_none rfl)]
       exact flow_move _ (.inl rfl) (by simp) (hd 5 _ rfl (waits_spec rfl))
      ·intro a w2 hB hF hd
       refine flow_wanted (wanted_yes rfl rfl (hd 6 _ rfl (waits_spec rfl)) rfl) ?_
       refine flow_val (fun h=> by cases h) (run_field_at (m:=0) (k:=0) rfl (hF.same 5 rfl) (by kernel_rfl)) ?_
       exact rfl
      ·intro a w2 hB hF hd
       refine flow_wanted (wanted_yes rfl rfl (hd 6 _ rfl (waits_spec rfl)) rfl) ?_
       exact flow_val (fun h=> by cases h) (run_load_cell rfl (hd 7 _ rfl (waits_spec rfl)) Try.underlying3 ((hB.cell (p:=⟨wr.heap.size,0,none⟩) hxl).trans d0)) rfl
      ·intro a w2 hB hF hd
       refine flow_wanted (wanted_yes rfl rfl (hd 6 _ rfl (waits_spec rfl)) rfl) ?_
       exact flow_move _ (.inl rfl) (by simp) (hF.same 3 rfl)
      ·intro a w2 hB hF hd
       refine flow_wanted (wanted_yes rfl rfl (hd 6 _ rfl (waits_spec rfl)) rfl) ?_
       exact flow_val (fun h=> by cases h) (Go.Bas.run_add rfl (hd 9 _ rfl (waits_spec rfl)) rfl) (congrArg (Value.int .i64) (wrap_i64_id (by have:=HL1.out;omega) (by have:=HL1.out;omega)))
      ·intro a w2 hB hF hd
       refine flow_wanted (wanted_yes rfl rfl (hd 6 _ rfl (waits_spec rfl)) rfl) ?_
       refine flow_val (fun h=> by cases h) (Go.Bas.run_eql_int rfl (hd 8 _ rfl (waits_spec rfl)) (hd 10 _ rfl (waits_spec rfl))) ?_
       exact congrArg Value.bool q4
      ·intro a w2 hB hF hd
       rw [if_pos (wanted_none rfl)]
       exact flow_val (fun h=> by cases h) (run_pick rfl (hd 6 _ rfl (waits_spec rfl))) ((hd 11 _ rfl (waits_spec rfl)))
      ·intro a w2 hB hF hd
       rw [if_pos (wanted_none rfl)]
       exact flow_move _ (.inl rfl) (by simp) (hd 12 _ rfl (waits_spec rfl))
      ·intro a w2 hB hF hd
       rw [if_neg (by rw [wanted_some rfl rfl (hd 13 _ rfl (waits_spec rfl))];decide)]
       exact rfl
      ·intro a w2 hB hF hd
       rw [if_neg (by rw [wanted_some rfl rfl (hd 13 _ rfl (waits_spec rfl))];decide)]
       exact rfl
      ·intro a w2 hB hF hd
       rw [if_neg (by rw [wanted_some rfl rfl (hd 13 _ rfl (waits_spec rfl))];decide)]
       exact rfl
      ·intro a w2 hB hF hd
       rw [if_neg (by rw [wanted_some rfl rfl (hd 13 _ rfl (waits_spec rfl))];decide)]
       exact rfl
      ·intro a w2 hB hF hd
       rw [if_pos (wanted_none rfl)]
       exact flow_val (fun h=> by cases h) (run_pick rfl (hd 13 _ rfl (waits_spec rfl))) (rfl)
      ·intro a w2 hB hF hd
       rw [if_pos (wanted_none rfl)]
       exact flow_move _ (.inr rfl) (by simp) (hd 18 _ rfl (waits_spec rfl))
     ·intro a w3 hB hF hS
      have ha:=puts_each rfl rfl hF [_,_,_,_,_,_,_,_,_,_,_,_,_,_,_,_,_,_,_,_] rfl ⟨hS 0 _ rfl,hS 1 _ rfl,hS 2 _ rfl,hS 3 _ rfl,hS 4 _ rfl,hS 5 _ rfl,hS 6 _ rfl,hS 7 _ rfl,hS 8 _ rfl,hS 9 _ rfl,hS 10 _ rfl,hS 11 _ rfl,hS 12 _ rfl,hS 13 _ rfl,hS 14 _ rfl,hS 15 _ rfl,hS 16 _ rfl,hS 17 _ rfl,hS 18 _ rfl,hS 19 _ rfl,trivial⟩
      simp only [puts,Act.put,List.setIfInBounds_toArray,List.set_cons_succ,List.set_cons_zero] at ha
      subst ha
      clear hS hF
      have hb3:=Lib.hid (B2.out.trans (hB.mono B2.out.size))
      have d0':=(hB.cell (p:=⟨wr.heap.size,0,none⟩) hxl).trans d0
      clear hB d0 d1 q3 q4 h4 hxl
      go_wp2
      exact ⟨⟨j+1,HLT.out,by go_num,by rw [HNX.out],hb3.out⟩,by have:=HLT.out;simp [intOf];omega⟩
    ·skip
     refine region_flow (n:=55) (by kernel_rfl) (by kernel_rfl) (by kernel_rfl) rfl
      (fun ii vv _=> (match ii with | 0=> vv=.int .i64 ((j:Int)) | 1 | 2=> vv=.bool true | 3=> vv=.int .i64 (la) | 4 | 5 | 6 | 12 | 13 | 18 | 19=> vv=.bool false | 7 | 8 | 9 | 10 | 11 | 14 | 15 | 16 | 17=> vv=undef | _=> True))
      (fun w w'=> Below w.heap.size w w') (fun _ _ h=> h) (fun _ _ _ _ h _=> h) ?_ ?_
     ·refine Each.all ?_
      refine ⟨?_,?_,?_,?_,?_,?_,?_,?_,?_,?_,?_,?_,?_,?_,?_,?_,?_,?_,?_,?_,trivial⟩
      ·intro a w2 hB hF hd
       rw [if_pos (wanted_none rfl)]
       exact flow_move _ (.inl rfl) (by simp) (hF.same 4 rfl)
      ·intro a w2 hB hF hd
       rw [if_pos (wanted_none rfl)]
       exact flow_val (fun h=> by cases h) (Go.Bas.run_gtr rfl (hd 0 _ rfl (waits_spec rfl)) rfl) (congrArg Value.bool (decide_eq_true q3))
      ·intro a w2 hB hF hd
       rw [if_pos (wanted_none rfl)]
       exact flow_move _ (.inl rfl) (by simp) (hd 1 _ rfl (waits_spec rfl))
      ·intro a w2 hB hF hd
       refine flow_wanted (wanted_yes rfl rfl (hd 2 _ rfl (waits_spec rfl)) rfl) ?_
       exact flow_move _ (.inl rfl) (by simp) (hF.same 3 rfl)
      ·intro a w2 hB hF hd
       refine flow_wanted (wanted_yes rfl rfl (hd 2 _ rfl (waits_spec rfl)) rfl) ?_
       exact flow_val (fun h=> by cases h) (Go.Bas.run_lss rfl (hd 3 _ rfl (waits_spec rfl)) rfl) (congrArg Value.bool (decide_eq_false h4))
      ·intro a w2 hB hF hd
       rw [if_pos (wanted_none rfl)]
       exact flow_val (fun h=> by cases h) (run_pick rfl (hd 2 _ rfl (waits_spec rfl))) ((hd 4 _ rfl (waits_spec rfl)))
      ·intro a w2 hB hF hd
       rw [if_pos (wanted_none rfl)]
       exact flow_move _ (.inl rfl) (by simp) (hd 5 _ rfl (waits_spec rfl))
      ·intro a w2 hB hF hd
       rw [if_neg (by rw [wanted_some rfl rfl (hd 6 _ rfl (waits_spec rfl))];decide)]
       exact rfl
      ·intro a w2 hB hF hd
       rw [if_neg (by rw [wanted_some rfl rfl (hd 6 _ rfl (waits_spec rfl))];decide)]
       exact rfl
      ·intro a w2 hB hF hd
       rw [if_neg (by rw [wanted_some rfl rfl (hd 6 _ rfl (waits_spec rfl))];decide)]
       exact rfl
      ·intro a w2 hB hF hd
       rw [if_neg (by rw [wanted_some rfl rfl (hd 6 _ rfl (waits_spec rfl))];decide)]
       exact rfl
      ·intro a w2 hB hF hd
       rw [if_neg (by rw [wanted_some rfl rfl (hd 6 _ rfl (waits_spec rfl))];decide)]
       exact rfl
      ·intro a w2 hB hF hd
       rw [if_pos (wanted_none rfl)]
       exact flow_val (fun h=> by cases h) (run_pick rfl (hd 6 _ rfl (waits_spec rfl))) (rfl)
      ·intro a w2 hB hF hd
       rw [if_pos (wanted_none rfl)]
       exact flow_move _ (.inl rfl) (by simp) (hd 12 _ rfl (waits_spec rfl))
      ·intro a w2 hB hF hd
       rw [if_neg (by rw [wanted_some rfl rfl (hd 13 _ rfl (waits_spec rfl))];decide)]
       exact rfl
      ·intro a w2 hB hF hd
       rw [if_neg (by rw [wanted_some rfl rfl (hd 13 _ rfl (waits_spec rfl))];decide)]
       exact rfl
      ·intro a w2 hB hF hd
       rw [if_neg (by rw [wanted_some rfl rfl (hd 13 _ rfl (waits_spec rfl))];decide)]
       exact rfl
      ·intro a w2 hB hF hd
       rw [if_neg (by rw [wanted_some rfl rfl (hd 13 _ rfl (waits_spec rfl))];decide)]
       exact rfl
      ·intro a w2 hB hF hd
       rw [if_pos (wanted_none rfl)]
       exact flow_val (fun h=> by cases h) (run_pick rfl (hd 13 _ rfl (waits_spec rfl))) (rfl)
      ·intro a w2 hB hF hd
       rw [if_pos (wanted_none rfl)]
       exact flow_move _ (.inr rfl) (by simp) (hd 18 _ rfl (waits_spec rfl))
     ·intro a w3 hB hF hS
      have ha:=puts_each rfl rfl hF [_,_,_,_,_,_,_,_,_,_,_,_,_,_,_,_,_,_,_,_] rfl ⟨hS 0 _ rfl,hS 1 _ rfl,hS 2 _ rfl,hS 3 _ rfl,hS 4 _ rfl,hS 5 _ rfl,hS 6 _ rfl,hS 7 _ rfl,hS 8 _ rfl,hS 9 _ rfl,hS 10 _ rfl,hS 11 _ rfl,hS 12 _ rfl,hS 13 _ rfl,hS 14 _ rfl,hS 15 _ rfl,hS 16 _ rfl,hS 17 _ rfl,hS 18 _ rfl,hS 19 _ rfl,trivial⟩
      simp only [puts,Act.put,List.setIfInBounds_toArray,List.set_cons_succ,List.set_cons_zero] at ha
      subst ha
      clear hS hF
      have hb3:=Lib.hid (B2.out.trans (hB.mono B2.out.size))
      have d0':=(hB.cell (p:=⟨wr.heap.size,0,none⟩) hxl).trans d0
      clear hB d0 d1 q3 q4 h4 hxl
      go_wp2
      exact ⟨⟨j+1,HLT.out,by go_num,by rw [HNX.out],hb3.out⟩,by have:=HLT.out;simp [intOf];omega⟩
   ·obtain ⟨yp,yl⟩:=y
    simp only at hy hy4 HLT HNX d0
    have hyb:=(HO.out (j - 1) _ hy).1
    obtain rfl:la=yp:=by
     rw [HLA.out]
     unfold lastS
     rw [if_neg (by omega),List.getD_eq_getElem?_getD,hy]
     rfl
    subst e2
    have q1:((j:Int)==0)=false:=by simp;omega
    have q3:(0:Int)<(j:Int):=by omega
    have HL1:Hid (1≤la∧la≤4):=Lib.hid hyb
    have h4:la<4:=hy4
    have q4:((la+1:Int)==1)=false:=by simp;omega
    have q5:((la+1:Int)==la+1)=true:=by simp
    rw [List.length_nil] at d1
    clear hpl hj0 hy hyb HLA HOX
    go_upto_region 6 with (fail)
    have hxl:wr.heap.size<w2.heap.size:=World.block_lt_of_cell? _ _ d0
    refine region_flow (n:=55) (by kernel_rfl) (by kernel_rfl) (by kernel_rfl) rfl
     (fun ii vv _=> (match ii with | 0=> vv=.int .i64 ((j:Int)) | 1 | 2 | 4 | 5 | 6 | 11 | 12 | 13 | 17 | 18 | 19=> vv=.bool true | 3 | 9=> vv=.int .i64 (la) | 7=> vv=.pointer (some ⟨wr.heap.size,0,none⟩) | 8 | 10=> vv=.int .i64 (la+1) | 14=> vv=.pointer (some ⟨wr.heap.size,1,none⟩) | 15=> vv=.slice al 0 cl | 16=> vv=.int .i64 (0) | _=> True))
     (fun w w'=> Below w.heap.size w w') (fun _ _ h=> h) (fun _ _ _ _ h _=> h) ?_ ?_
    ·refine Each.all ?_
     refine ⟨?_,?_,?_,?_,?_,?_,?_,?_,?_,?_,?_,?_,?_,?_,?_,?_,?_,?_,?_,?_,trivial⟩
     ·intro a w2 hB hF hd
      rw [if_pos (wanted_none rfl)]
      exact flow_move _ (.inl rfl) (by simp) (hF.same 4 rfl)
     ·intro a w2 hB hF hd
      rw [if_pos (wanted_none rfl)]
      exact flow_val (fun h=> by cases h) (Go.Bas.run_gtr rfl (hd 0 _ rfl (waits_spec rfl)) rfl) (congrArg Value.bool (decide_eq_true q3))
     ·intro a w2 hB hF hd
      rw [if_pos (wanted_none rfl)]
      exact flow_move _ (.inl rfl) (by simp) (hd 1 _ rfl (waits_spec rfl))
     ·intro a w2 hB hF hd
      refine flow_wanted (wanted_yes rfl rfl (hd 2 _ rfl (waits_spec rfl)) rfl) ?_
      exact flow_move _ (.inl rfl) (by simp) (hF.same 3 rfl)
     ·intro a w2 hB hF hd
      refine flow_wanted (wanted_yes rfl rfl (hd 2 _ rfl (waits_spec rfl)) rfl) ?_
      exact flow_val (fun h=> by cases h) (Go.Bas.run_lss rfl (hd 3 _ rfl (waits_spec rfl)) rfl) (congrArg Value.bool (decide_eq_true h4))
     ·intro a w2 hB hF hd
      rw [if_pos (wanted_none rfl)]
      exact flow_val (fun h=> by cases h) (run_pick rfl (hd 2 _ rfl (waits_spec rfl))) ((hd 4 _ rfl (waits_spec rfl)))
     ·intro a w2 hB hF hd
      rw [if_pos (wanted_none rfl)]
      exact flow_move _ (.inl rfl) (by simp) (hd 5 _ rfl (waits_spec rfl))
     ·intro a w2 hB hF hd
      refine flow_wanted (wanted_yes rfl rfl (hd 6 _ rfl (waits_spec rfl)) rfl) ?_
      refine flow_val (fun h=> by cases h) (run_field_at (m:=0) (k:=0) rfl (hF.same 5 rfl) (by kernel_rfl)) ?_
      exact rfl
     ·intro a w2 hB hF hd
      refine flow_wanted (wanted_yes rfl rfl (hd 6 _ rfl (waits_spec rfl)) rfl) ?_
      exact flow_val (fun h=> by cases h) (run_load_cell rfl (hd 7 _ rfl (waits_spec rfl)) Try.underlying3 ((hB.cell (p:=⟨wr.heap.size,0,none⟩) hxl).trans d0)) rfl
     ·intro a w2 hB hF hd
      refine flow_wanted (wanted_yes rfl rfl (hd 6 _ rfl (waits_spec rfl)) rfl) ?_
      exact flow_move _ (.inl rfl) (by simp) (hF.same 3 rfl)
     ·intro a w2 hB hF hd
      refine flow_wanted (wanted_yes rfl rfl (hd 6 _ rfl (waits_spec rfl)) rfl) ?_
      exact flow_val (fun h=> by cases h) (Go.Bas.run_add rfl (hd 9 _ rfl (waits_spec rfl)) rfl) (congrArg (Value.int .i64) (wrap_i64_id (by have:=HL1.out;omega) (by have:=HL1.out;omega)))
     ·intro a w2 hB hF hd
      refine flow_wanted (wanted_yes rfl rfl (hd 6 _ rfl (waits_spec rfl)) rfl) ?_
      refine flow_val (fun h=> by cases h) (Go.Bas.run_eql_int rfl (hd 8 _ rfl (waits_spec rfl)) (hd 10 _ rfl (waits_spec rfl))) ?_
      exact congrArg Value.bool q5
     ·intro a w2 hB hF hd
      rw [if_pos (wanted_none rfl)]
      exact flow_val (fun h=> by cases h) (run_pick rfl (hd 6 _ rfl (waits_spec rfl))) ((hd 11 _ rfl (waits_spec rfl)))
     ·intro a w2 hB hF hd
      rw [if_pos (wanted_none rfl)]
      exact flow_move _ (.inl rfl) (by simp) (hd 12 _ rfl (waits_spec rfl))
     ·intro a w2 hB hF hd
      refine flow_wanted (wanted_yes rfl rfl (hd 13 _ rfl (waits_spec rfl)) rfl) ?_
      refine flow_val (fun h=> by cases h) (run_field_at (m:=0) (k:=1) rfl (hF.same 5 rfl) (by kernel_rfl)) ?_
      exact rfl
     ·intro a w2 hB hF hd
      refine flow_wanted (wanted_yes rfl rfl (hd 13 _ rfl (waits_spec rfl)) rfl) ?_
      exact flow_val (fun h=> by cases h) (run_load_slice rfl (hd 14 _ rfl (waits_spec rfl)) Try.underlying28 ((hB.cell (p:=⟨wr.heap.size,1,none⟩) hxl).trans d1)) rfl
     ·intro a w2 hB hF hd
      refine flow_wanted (wanted_yes rfl rfl (hd 13 _ rfl (waits_spec rfl)) rfl) ?_
      exact flow_val (fun h=> by cases h) (run_len_sl rfl (hd 15 _ rfl (waits_spec rfl)) Try.underlying28) rfl
     ·intro a w2 hB hF hd
      refine flow_wanted (wanted_yes rfl rfl (hd 13 _ rfl (waits_spec rfl)) rfl) ?_
      refine flow_val (fun h=> by cases h) (Go.Bas.run_eql_int rfl (hd 16 _ rfl (waits_spec rfl)) rfl) ?_
      exact rfl
     ·intro a w2 hB hF hd
      rw [if_pos (wanted_none rfl)]
      exact flow_val (fun h=> by cases h) (run_pick rfl (hd 13 _ rfl (waits_spec rfl))) ((hd 17 _ rfl (waits_spec rfl)))
     ·intro a w2 hB hF hd
      rw [if_pos (wanted_none rfl)]
      exact flow_move _ (.inr rfl) (by simp) (hd 18 _ rfl (waits_spec rfl))
    ·intro a w3 hB hF hS
     have ha:=puts_each rfl rfl hF [_,_,_,_,_,_,_,_,_,_,_,_,_,_,_,_,_,_,_,_] rfl ⟨hS 0 _ rfl,hS 1 _ rfl,hS 2 _ rfl,hS 3 _ rfl,hS 4 _ rfl,hS 5 _ rfl,hS 6 _ rfl,hS 7 _ rfl,hS 8 _ rfl,hS 9 _ rfl,hS 10 _ rfl,hS 11 _ rfl,hS 12 _ rfl,hS 13 _ rfl,hS 14 _ rfl,hS 15 _ rfl,hS 16 _ rfl,hS 17 _ rfl,hS 18 _ rfl,hS 19 _ rfl,trivial⟩
     simp only [puts,Act.put,List.setIfInBounds_toArray,List.set_cons_succ,List.set_cons_zero] at ha
     subst ha
     clear hS hF
     have hb3:=Lib.hid (B2.out.trans (hB.mono B2.out.size))
     have d0':=(hB.cell (p:=⟨wr.heap.size,0,none⟩) hxl).trans d0
     clear hB d0 d1 q3 q4 q5 h4 hxl
     go_wp2
     exact ⟨⟨j+1,HLT.out,by go_num,by rw [HNX.out],hb3.out⟩,by have:=HLT.out;simp [intOf];omega⟩
  ·obtain rfl:j=L.length:=by omega
   clear hlt hb
   go_wp2
   go_ret
   exact ⟨rfl,HB.out⟩
theorem rgThere_any (h:StM w v L lv) (ho:OkS L) (hl:L.length≤1000) (n:Int):Calls Try.prog 32 #[v,.int .i64 n] w fun e w'=> e=.returned (.bool (decide (1≤n∧n≤(L.length:Int))))∧Below w.heap.size w w':=by
 obtain ⟨av,cv,rfl⟩:=h.slice
 obtain ⟨R,hR⟩:∃R,R=decide (1≤n∧n≤(L.length:Int)):=⟨_,rfl⟩
 rw [←hR]
 have HR:Hid (∀w',Below w.heap.size w w'→Calls Try.prog 17 #[.slice av L.length cv] w' fun e w2=> e=.returned (.bool true)∧Below w'.heap.size w' w2):=Lib.hid fun w' b=> rgRight_any (h.below b) ho hl
 by_cases h1:1≤n
 ·by_cases h2:n≤(L.length:Int)
  ·have HN:Hid (R=true):=Lib.hid (hR.trans (decide_eq_true ⟨h1,h2⟩))
   clear h ho hl hR
   go_enter Try.func32,Try.ntmps32
   go_upto_region 1 with (fail)
   refine region_flow (n:=17) (by kernel_rfl) (by kernel_rfl) (by kernel_rfl) rfl
    (fun ii vv _=> (match ii with | 0 | 3=> vv=.int .i64 (n) | 1 | 2 | 6 | 7 | 8 | 10 | 11 | 12=> vv=.bool true | 4 | 9=> vv=.slice av L.length cv | 5=> vv=.int .i64 ((L.length:Int)) | _=> True))
    (fun w w'=> Below w.heap.size w w') (fun _ _ h=> h) (fun _ _ _ _ h _=> h) ?_ ?_
   ·refine Each.all ?_
    refine ⟨?_,?_,?_,?_,?_,?_,?_,?_,?_,?_,?_,?_,?_,trivial⟩
    ·intro a w2 hB hF hd
     rw [if_pos (wanted_none rfl)]
     exact flow_move _ (.inl rfl) (by simp) (hF.same 1 rfl)
    ·intro a w2 hB hF hd
     rw [if_pos (wanted_none rfl)]
     exact flow_val (fun h=> by cases h) (Go.Bas.run_geq rfl (hd 0 _ rfl (waits_spec rfl)) rfl) (congrArg Value.bool (decide_eq_true h1))
    ·intro a w2 hB hF hd
     rw [if_pos (wanted_none rfl)]
     exact flow_move _ (.inl rfl) (by simp) (hd 1 _ rfl (waits_spec rfl))
    ·intro a w2 hB hF hd
     refine flow_wanted (wanted_yes rfl rfl (hd 2 _ rfl (waits_spec rfl)) rfl) ?_
     exact flow_move _ (.inl rfl) (by simp) (hF.same 1 rfl)
    ·intro a w2 hB hF hd
     refine flow_wanted (wanted_yes rfl rfl (hd 2 _ rfl (waits_spec rfl)) rfl) ?_
     exact flow_move _ (.inl rfl) (by simp) (hF.same 0 rfl)
    ·intro a w2 hB hF hd
     refine flow_wanted (wanted_yes rfl rfl (hd 2 _ rfl (waits_spec rfl)) rfl) ?_
     exact flow_val (fun h=> by cases h) (run_len_sl rfl (hd 4 _ rfl (waits_spec rfl)) Try.underlying36) rfl
    ·intro a w2 hB hF hd
     refine flow_wanted (wanted_yes rfl rfl (hd 2 _ rfl (waits_spec rfl)) rfl) ?_
     exact flow_val (fun h=> by cases h) (Go.Bas.run_leq rfl (hd 3 _ rfl (waits_spec rfl)) (hd 5 _ rfl (waits_spec rfl))) (congrArg Value.bool (decide_eq_true h2))
    ·intro a w2 hB hF hd
     rw [if_pos (wanted_none rfl)]
     exact flow_val (fun h=> by cases h) (run_pick rfl (hd 2 _ rfl (waits_spec rfl))) ((hd 6 _ rfl (waits_spec rfl)))
    ·intro a w2 hB hF hd
     rw [if_pos (wanted_none rfl)]
     exact flow_move _ (.inl rfl) (by simp) (hd 7 _ rfl (waits_spec rfl))
    ·intro a w2 hB hF hd
     refine flow_wanted (wanted_yes rfl rfl (hd 8 _ rfl (waits_spec rfl)) rfl) ?_
     exact flow_move _ (.inl rfl) (by simp) (hF.same 0 rfl)
    ·intro a w2 hB hF hd
     refine flow_wanted (wanted_yes rfl rfl (hd 8 _ rfl (waits_spec rfl)) rfl) ?_
     refine flow_call _ _ _ rfl Try.call17 _ (args1 (hd 9 _ rfl (waits_spec rfl))) (by simp) ((HR.out _ hB).mono ?_)
     rintro e w3 ⟨rfl,hb⟩;exact ⟨_,rfl,rfl,hb⟩
    ·intro a w2 hB hF hd
     rw [if_pos (wanted_none rfl)]
     exact flow_val (fun h=> by cases h) (run_pick rfl (hd 8 _ rfl (waits_spec rfl))) ((hd 10 _ rfl (waits_spec rfl)))
    ·intro a w2 hB hF hd
     rw [if_pos (wanted_none rfl)]
     exact flow_move _ (.inr rfl) (by simp) (hd 11 _ rfl (waits_spec rfl))
   ·intro a w3 hB hF hS
    have ha:=puts_each rfl rfl hF [_,_,_,_,_,_,_,_,_,_,_,_,_] rfl ⟨hS 0 _ rfl,hS 1 _ rfl,hS 2 _ rfl,hS 3 _ rfl,hS 4 _ rfl,hS 5 _ rfl,hS 6 _ rfl,hS 7 _ rfl,hS 8 _ rfl,hS 9 _ rfl,hS 10 _ rfl,hS 11 _ rfl,hS 12 _ rfl,trivial⟩
    simp only [puts,Act.put,List.setIfInBounds_toArray,List.set_cons_succ,List.set_cons_zero] at ha
    subst ha
    clear hS hF
    go_wp2
    go_ret
    exact ⟨by rw [HN.out];rfl,hB⟩
  ·have HN:Hid (R=false):=Lib.hid (hR.trans (decide_eq_false fun h=> h2 h.2))
   clear h ho hl hR
   go_enter Try.func32,Try.ntmps32
   go_upto_region 1 with (fail)
   refine region_flow (n:=17) (by kernel_rfl) (by kernel_rfl) (by kernel_rfl) rfl
    (fun ii vv _=> (match ii with | 0 | 3=> vv=.int .i64 (n) | 1 | 2=> vv=.bool true | 4=> vv=.slice av L.length cv | 5=> vv=.int .i64 ((L.length:Int)) | 6 | 7 | 8 | 11 | 12=> vv=.bool false | 9 | 10=> vv=undef | _=> True))
    (fun w w'=> Below w.heap.size w w') (fun _ _ h=> h) (fun _ _ _ _ h _=> h) ?_ ?_
   ·refine Each.all ?_
    refine ⟨?_,?_,?_,?_,?_,?_,?_,?_,?_,?_,?_,?_,?_,trivial⟩
    ·intro a w2 hB hF hd
     rw [if_pos (wanted_none rfl)]
     exact flow_move _ (.inl rfl) (by simp) (hF.same 1 rfl)
    ·intro a w2 hB hF hd
     rw [if_pos (wanted_none rfl)]
     exact flow_val (fun h=> by cases h) (Go.Bas.run_geq rfl (hd 0 _ rfl (waits_spec rfl)) rfl) (congrArg Value.bool (decide_eq_true h1))
    ·intro a w2 hB hF hd
     rw [if_pos (wanted_none rfl)]
     exact flow_move _ (.inl rfl) (by simp) (hd 1 _ rfl (waits_spec rfl))
    ·intro a w2 hB hF hd
     refine flow_wanted (wanted_yes rfl rfl (hd 2 _ rfl (waits_spec rfl)) rfl) ?_
     exact flow_move _ (.inl rfl) (by simp) (hF.same 1 rfl)
    ·intro a w2 hB hF hd
     refine flow_wanted (wanted_yes rfl rfl (hd 2 _ rfl (waits_spec rfl)) rfl) ?_
     exact flow_move _ (.inl rfl) (by simp) (hF.same 0 rfl)
    ·intro a w2 hB hF hd
     refine flow_wanted (wanted_yes rfl rfl (hd 2 _ rfl (waits_spec rfl)) rfl) ?_
     exact flow_val (fun h=> by cases h) (run_len_sl rfl (hd 4 _ rfl (waits_spec rfl)) Try.underlying36) rfl
    ·intro a w2 hB hF hd
     refine flow_wanted (wanted_yes rfl rfl (hd 2 _ rfl (waits_spec rfl)) rfl) ?_
     exact flow_val (fun h=> by cases h) (Go.Bas.run_leq rfl (hd 3 _ rfl (waits_spec rfl)) (hd 5 _ rfl (waits_spec rfl))) (congrArg Value.bool (decide_eq_false h2))
    ·intro a w2 hB hF hd
     rw [if_pos (wanted_none rfl)]
     exact flow_val (fun h=> by cases h) (run_pick rfl (hd 2 _ rfl (waits_spec rfl))) ((hd 6 _ rfl (waits_spec rfl)))
    ·intro a w2 hB hF hd
     rw [if_pos (wanted_none rfl)]
     exact flow_move _ (.inl rfl) (by simp) (hd 7 _ rfl (waits_spec rfl))
    ·intro a w2 hB hF hd
     rw [if_neg (by rw [wanted_some rfl rfl (hd 8 _ rfl (waits_spec rfl))];decide)]
     exact rfl
    ·intro a w2 hB hF hd
     rw [if_neg (by rw [wanted_some rfl rfl (hd 8 _ rfl (waits_spec rfl))];decide)]
     exact rfl
    ·intro a w2 hB hF hd
     rw [if_pos (wanted_none rfl)]
     exact flow_val (fun h=> by cases h) (run_pick rfl (hd 8 _ rfl (waits_spec rfl))) (rfl)
    ·intro a w2 hB hF hd
     rw [if_pos (wanted_none rfl)]
     exact flow_move _ (.inr rfl) (by simp) (hd 11 _ rfl (waits_spec rfl))
   ·intro a w3 hB hF hS
    have ha:=puts_each rfl rfl hF [_,_,_,_,_,_,_,_,_,_,_,_,_] rfl ⟨hS 0 _ rfl,hS 1 _ rfl,hS 2 _ rfl,hS 3 _ rfl,hS 4 _ rfl,hS 5 _ rfl,hS 6 _ rfl,hS 7 _ rfl,hS 8 _ rfl,hS 9 _ rfl,hS 10 _ rfl,hS 11 _ rfl,hS 12 _ rfl,trivial⟩
    simp only [puts,Act.put,List.setIfInBounds_toArray,List.set_cons_succ,List.set_cons_zero] at ha
    subst ha
    clear hS hF
    go_wp2
    go_ret
    exact ⟨by rw [HN.out];rfl,hB⟩
 ·have HN:Hid (R=false):=Lib.hid (hR.trans (decide_eq_false fun h=> h1 h.1))
  have h2:=0
  clear h ho hl hR
  go_enter Try.func32,Try.ntmps32
  go_upto_region 1 with (fail)
  refine region_flow (n:=17) (by kernel_rfl) (by kernel_rfl) (by kernel_rfl) rfl
   (fun ii vv _=> (match ii with | 0=> vv=.int .i64 (n) | 1 | 2 | 7 | 8 | 11 | 12=> vv=.bool false | 3 | 4 | 5 | 6 | 9 | 10=> vv=undef | _=> True))
   (fun w w'=> Below w.heap.size w w') (fun _ _ h=> h) (fun _ _ _ _ h _=> h) ?_ ?_
  ·refine Each.all ?_
   refine ⟨?_,?_,?_,?_,?_,?_,?_,?_,?_,?_,?_,?_,?_,trivial⟩
   ·intro a w2 hB hF hd
    rw [if_pos (wanted_none rfl)]
    exact flow_move _ (.inl rfl) (by simp) (hF.same 1 rfl)
   ·intro a w2 hB hF hd
    rw [if_pos (wanted_none rfl)]
    exact flow_val (fun h=> by cases h) (Go.Bas.run_geq rfl (hd 0 _ rfl (waits_spec rfl)) rfl) (congrArg Value.bool (decide_eq_false h1))
   ·intro a w2 hB hF hd
    rw [if_pos (wanted_none rfl)]
    exact flow_move _ (.inl rfl) (by simp) (hd 1 _ rfl (waits_spec rfl))
   ·intro a w2 hB hF hd
    rw [if_neg (by rw [wanted_some rfl rfl (hd 2 _ rfl (waits_spec rfl))];decide)]
    exact rfl
   ·intro a w2 hB hF hd
    rw [if_neg (by rw [wanted_some rfl rfl (hd 2 _ rfl (waits_spec rfl))];decide)]
    exact rfl
   ·intro a w2 hB hF hd
    rw [if_neg (by rw [wanted_some rfl rfl (hd 2 _ rfl (waits_spec rfl))];decide)]
    exact rfl
   ·intro a w2 hB hF hd
    rw [if_neg (by rw [wanted_some rfl rfl (hd 2 _ rfl (waits_spec rfl))];decide)]
    exact rfl
   ·intro a w2 hB hF hd
    rw [if_pos (wanted_none rfl)]
    exact flow_val (fun h=> by cases h) (run_pick rfl (hd 2 _ rfl (waits_spec rfl))) (rfl)
   ·intro a w2 hB hF hd
    rw [if_pos (wanted_none rfl)]
    exact flow_move _ (.inl rfl) (by simp) (hd 7 _ rfl (waits_spec rfl))
   ·intro a w2 hB hF hd
    rw [if_neg (by rw [wanted_some rfl rfl (hd 8 _ rfl (waits_spec rfl))];decide)]
    exact rfl
   ·intro a w2 hB hF hd
    rw [if_neg (by rw [wanted_some rfl rfl (hd 8 _ rfl (waits_spec rfl))];decide)]
    exact rfl
   ·intro a w2 hB hF hd
    rw [if_pos (wanted_none rfl)]
    exact flow_val (fun h=> by cases h) (run_pick rfl (hd 8 _ rfl (waits_spec rfl))) (rfl)
   ·intro a w2 hB hF hd
    rw [if_pos (wanted_none rfl)]
    exact flow_move _ (.inr rfl) (by simp) (hd 11 _ rfl (waits_spec rfl))
  ·intro a w3 hB hF hS
   have ha:=puts_each rfl rfl hF [_,_,_,_,_,_,_,_,_,_,_,_,_] rfl ⟨hS 0 _ rfl,hS 1 _ rfl,hS 2 _ rfl,hS 3 _ rfl,hS 4 _ rfl,hS 5 _ rfl,hS 6 _ rfl,hS 7 _ rfl,hS 8 _ rfl,hS 9 _ rfl,hS 10 _ rfl,hS 11 _ rfl,hS 12 _ rfl,trivial⟩
   simp only [puts,Act.put,List.setIfInBounds_toArray,List.set_cons_succ,List.set_cons_zero] at ha
   subst ha
   clear hS hF
   go_wp2
   go_ret
   exact ⟨by rw [HN.out];rfl,hB⟩
end
end Go.Proofs.Ytpcjekgfnfjbpaa
namespace Go.Proofs.Ytpcjekgfnfjbpaa
open Go.RowKit Go.Bas Go.ChangeShapes Go.Maps
attribute [local go_sem ↓] Go.wp_at_zero Go.wp_at_succ
def Su.ap:Su→List Int→List Int→Prop
 | .by _ _,_,_=> True
 | .tm _,t,t'=> t≠t'
def Su.fresh:Su→List Int→Prop
 | .by _ _,_=> True
 | .tm S,t=> ∃N:Nat,S.l.length≤N∧N≤1000000∧t=valT N
section
variable {B : Nat} {w w' w0 w1 w2 w3 : World} {p q : Nat} {F F' F'' G G' : Nat → Prop} {v u v' vl vs vl' vs' : Value} {a b c t t' : List Int} {X X' X'' : Su} {L : List Stp} {T : List (List Int)} {lv tv : Nat → Value}
theorem Su.fresh.nxs (ho:X'.ok) (hn:X'.size≤900) (hl:X.le X') (h:X.fresh a):∀{j:Nat} {b:List Int},X'.nxs a j b→X.fresh b
 | 0,_,e=> e▸h
 | j+1,b,⟨c,h1,h2⟩=> by
  have hc:=Su.fresh.nxs ho hn hl h h1
  cases X<;> cases X'<;> first | exact hl.elim | trivial | skip
  rename_i S S'
  obtain ⟨N,g1,g2,rfl⟩:=hc
  obtain ⟨n,m,e,rfl,h3,h4⟩:=h2
  have hn':S'.l.length≤900:=hn
  have:=valT_inj g2 (by omega) e
  subst this
  have hm:=(List.getElem?_eq_some_iff.1 h4).1
  have hok:=ho.ok m _ h4
  have hlt:N<m:=by
   rcases hok with h | ⟨_,⟨a,e,h⟩,_⟩ | h | h | h | h | h
   ·exact absurd h.1 (by simp)
   ·simp only at e;omega
   ·exact absurd h.1 (by simp)
   ·exact absurd h.1 (by simp)
   ·exact absurd h.1 (by simp)
   ·exact absurd h.1 (by simp)
   ·exact absurd h.1 (by simp)
  exact ⟨m,by omega,by omega,rfl⟩
theorem Su.ap_of (hl:X.le X') (hn:X.size≤900) (h:X.fresh t) (h':X.val t'):X'.ap t t':=by
 cases X<;> cases X'<;> first | exact hl.elim | trivial | skip
 rename_i S S'
 obtain ⟨N,g1,g2,rfl⟩:=h
 obtain ⟨m,g3,rfl⟩:=h'
 have hn':S.l.length≤900:=hn
 intro e
 have:=valT_inj g2 (by omega) e
 omega
theorem Su.ap.mono (hl:X.le X') (h:X.ap t t'):X'.ap t t':=by
 cases X<;> cases X'<;> first | exact hl.elim | exact h
theorem Su.draw_fresh (hn:X.size≤900) (s:Int) (hs:1≤s∧s≤4):X.fresh (X.draw s).1:=by
 have hS:isSort s=true:=by unfold isSort;rw [decide_eq_true hs.1,decide_eq_true hs.2];rfl
 cases X with
 | «by» sd n=> trivial
 | tm S=>
  have hn':S.l.length≤900:=hn
  refine ⟨S.l.length,Nat.le_refl _,by omega,?_⟩
  show (drawT S s).1= _
  unfold drawT
  rw [if_pos hS]
structure CR (X:Su) (L:List Stp) (T:List (List Int)):Prop where
 len:T.length=L.length
 val:∀(j:Nat) (t:List Int),T[j]? =some t→X.val t∧t.length≤32
 fst:∀x:Stp,L[0]? =some x→x=(1, [])
 pl:∀(j:Nat) (x:Stp),L[j]? =some x→1≤x.1∧x.1≤4
 st:∀(j:Nat) (x y:Stp) (t t':List Int),L[j+1]? =some x→L[j]? =some y→T[j+1]? =some t→T[j]? =some t'→
  (x.1=1∧x.2≠ [] ∧x.2.length≤100∧X.lk t t' x.2∧X.ap t t')∨(x.1=y.1+1∧y.1<4∧x.2= [] ∧X.nx t t')
theorem CR.nil (X:Su):CR X [] [] :=⟨rfl,fun j t h=> by simp at h,fun x h=> by simp at h,fun j x h=> by simp at h,fun j x y t t' h=> by simp at h⟩
theorem CR.mono (h:CR X L T) (hl:X.le X'):CR X' L T:=
 ⟨h.len,fun j t ht=> ⟨(h.val j t ht).1.mono hl,(h.val j t ht).2⟩,h.fst,h.pl,fun j x y t t' h1 h2 h3 h4=> (h.st j x y t t' h1 h2 h3 h4).imp (fun ⟨g1,g2,g3,g4,g5⟩=> ⟨g1,g2,g3,g4.mono hl,g5.mono hl⟩) fun ⟨g1,g2,g3,g4⟩=> ⟨g1,g2,g3,g4.mono hl⟩⟩
theorem snoc_get {α:Type} {l:List α} {x y:α} {j:Nat} (h:(l++ [x])[j]? =some y):(j<l.length∧l[j]? =some y)∨(j=l.length∧y=x):=by
 by_cases hj:j<l.length
 ·rw [List.getElem?_append_left hj] at h;exact .inl ⟨hj,h⟩
 ·have:=(List.getElem?_eq_some_iff.1 h).1
  rw [List.length_append,List.length_singleton] at this
  obtain rfl:j=l.length:=by omega
  rw [List.getElem?_append_right (Nat.le_refl _),Nat.sub_self] at h
  exact .inr ⟨rfl,(Option.some.inj h).symm⟩
theorem CR.snoc (h:CR X L T) {x:Stp} {t:List Int} (hv:X.val t∧t.length≤32) (hp:1≤x.1∧x.1≤4) (h0:L= [] →x=(1, []))
  (hs:∀(y:Stp) (t':List Int),L[L.length - 1]? =some y→T[T.length - 1]? =some t'→(x.1=1∧x.2≠ [] ∧x.2.length≤100∧X.lk t t' x.2∧X.ap t t')∨(x.1=y.1+1∧y.1<4∧x.2= [] ∧X.nx t t')):CR X (L++ [x]) (T++ [t]):=by
 have hlen:=h.len
 refine ⟨by simp [hlen],fun j s hj=> ?_,fun y hy=> ?_,fun j y hy=> ?_,fun j x' y s s' h1 h2 h3 h4=> ?_⟩
 ·rcases snoc_get hj with ⟨_,h'⟩ | ⟨_,rfl⟩
  ·exact h.val j s h'
  ·exact hv
 ·rcases snoc_get hy with ⟨_,h'⟩ | ⟨e,rfl⟩
  ·exact h.fst y h'
  ·exact h0 (List.length_eq_zero_iff.1 e.symm)
 ·rcases snoc_get hy with ⟨_,h'⟩ | ⟨_,rfl⟩
  ·exact h.pl j y h'
  ·exact hp
 ·rcases snoc_get h1 with ⟨hj,h1'⟩ | ⟨e,rfl⟩
  ·rw [List.getElem?_append_left (by omega)] at h2 h3 h4
   exact h.st j x' y s s' h1' h2 h3 h4
  ·rw [List.getElem?_append_left (by omega)] at h2 h4
   rcases snoc_get h3 with ⟨h5,_⟩ | ⟨_,rfl⟩
   ·omega
   ·exact hs y s' (by rw [←e,Nat.add_sub_cancel];exact h2) (by rw [hlen,←e,Nat.add_sub_cancel];exact h4)
theorem CR.okS (h:CR X L T):OkS L:=by
 intro j x hx
 refine ⟨h.pl j x hx,?_⟩
 cases j with
 | zero=> rw [h.fst x hx];exact .inl ⟨rfl,rfl,rfl⟩
 | succ j=>
  have hj:=(List.getElem?_eq_some_iff.1 hx).1
  have hl:=h.len
  obtain ⟨y,hy⟩:∃y,L[j]? =some y:=⟨_,List.getElem?_eq_getElem (by omega)⟩
  obtain ⟨t,ht⟩:∃t,T[j+1]? =some t:=⟨_,List.getElem?_eq_getElem (by omega)⟩
  obtain ⟨t',ht'⟩:∃t,T[j]? =some t:=⟨_,List.getElem?_eq_getElem (by omega)⟩
  rcases h.st j x y t t' hx hy ht ht' with ⟨g1,g2,_⟩ | ⟨g1,g2,g3,_⟩
  ·exact .inr (.inl ⟨g1,by omega,g2⟩)
  ·exact .inr (.inr ⟨y,by omega,hy,g2,g1,g3⟩)
theorem _root_.Go.Bas.Byt.chgU (h:Byt F w v a) (hc:Chg G w w') (hG:∀b,G b→NoU w b):Byt F w' v a:=⟨h.ok,h.rd.chgY hc fun hn b hb hg=> (hG b hg).ne h.rd hn b hb rfl,h.off⟩
structure ChnM (B:Nat) (w0:World) (p:Nat) (w:World) (F:Nat→Prop) (X:Su) (L:List Stp) (T:List (List Int)) (vl vs:Value) (lv tv:Nat→Value):Prop where
 su:SuM B w p F X
 ol:OwZ 41 2 w vl L.length (stq L lv)
 os:OwZ 28 1 w vs T.length (fun j _=> tv j)
 bl:∀(j:Nat) (x:Stp),L[j]? =some x→Byt F w (lv j) x.2
 bs:∀(j:Nat) (t:List Int),T[j]? =some t→Byt F w (tv j) t
 nl:∀b,vl.ownBlock=some b→b≠p∧¬ F b∧B≤b
 ns:∀b,vs.ownBlock=some b→b≠p∧¬ F b∧B≤b
 be:Below B w0 w
theorem ChnM.step (h:ChnM B w0 p w F X L T vl vs lv tv) (hm:SuM B w' p F' X') (hc:ChS p F w w') (hF:∀b,F' b→F b∨w.heap.size≤b):ChnM B w0 p w' F' X' L T vl vs lv tv:=by
 have hlt:=h.su.pLt
 have hnew:∀{b:Nat} {v:Value},(∀b,v.ownBlock=some b→b≠p∧¬ F b∧B≤b)→(∀b,v.ownBlock=some b→b<w.heap.size)→v.ownBlock=some b→b≠p∧¬ F' b∧B≤b:=fun g1 g2 hb=> ⟨(g1 _ hb).1,fun hf=> (hF _ hf).elim (g1 _ hb).2.1 fun h=> by have:=g2 _ hb;omega,(g1 _ hb).2.2⟩
 exact ⟨hm,h.ol.chg hc.chg fun b hb e=> e.elim (h.nl b hb).1 (h.nl b hb).2.1,h.os.chg hc.chg fun b hb e=> e.elim (h.ns b hb).1 (h.ns b hb).2.1,fun j x hx=> (h.bl j x hx).chS hc hF,fun j t ht=> (h.bs j t ht).chS hc hF,
  fun b hb=> hnew h.nl (fun b hb=> h.ol.m.lt b hb) hb,fun b hb=> hnew h.ns (fun b hb=> h.os.m.lt b hb) hb,h.be.trans (hc.below (Nat.le_trans hlt.2 (Nat.le_of_lt hlt.1)) fun b hb=> h.su.hi hb)⟩
theorem ChnM.below (h:ChnM B w0 p w F X L T vl vs lv tv) (hb:Below w.heap.size w w'):ChnM B w0 p w' F X L T vl vs lv tv:=h.step (h.su.below hb) (.of_below hb _) fun _ h=> .inl h
theorem _root_.Go.Bas.OwZ.apart {e e':TypeId} {c c' n n':Nat} {q q':Nat→Nat→Value} (h:OwZ e c w v n q) (h':OwZ e' c' w u n' q') (hne:e≠e'):∀b,v.ownBlock=some b→u.ownBlock≠some b:=by
 intro b hb hb'
 obtain ⟨cap,h1,_⟩:∃m,RowB w b e m∧True:=by
  rcases h.m with ⟨rfl,_⟩ | ⟨g,cap,rfl,h1,_⟩
  ·cases hb
  ·cases hb;exact ⟨_,h1,trivial⟩
 obtain ⟨cap',h1',_⟩:∃m,RowB w b e' m∧True:=by
  rcases h'.m with ⟨rfl,_⟩ | ⟨g,cap,rfl,k1,_⟩
  ·cases hb'
  ·cases hb';exact ⟨_,k1,trivial⟩
 exact hne (h1.type h1')
theorem ChnM.app1 (h:ChnM B w0 p w F X L T vl vs lv tv) {x:Stp} {y:Nat→Value} (hu:Byt F w u x.2) (h0:y 0=.int .i64 x.1) (h1:y 1=u) (ho:OwZ 41 2 w' vl' (L.length+1) (catM L.length (stq L lv) (fun _ i=> y i)))
  (hc:Chg (fun b=> vl.ownBlock=some b) w w') (hp:∀b,vl'.ownBlock=some b→vl.ownBlock=some b∨w.heap.size≤b):ChnM B w0 p w' F X (L++ [x]) T vl' vs (fun j=> if j=L.length then u else lv j) tv:=by
 have hB:B≤w.heap.size:=Nat.le_trans h.su.pLt.2 (Nat.le_of_lt h.su.pLt.1)
 have hk:∀{v:Value} {l:List Int},Byt F w v l→Byt F w' v l:=fun g=> g.chgU hc fun b hb=> h.ol.z b hb
 refine ⟨h.su.keep hc (fun e=> (h.nl p e).1 rfl) (fun b hb e=> (h.nl b e).2.1 hb),?_,h.os.chg hc fun b hb e=> h.ol.apart h.os (by decide) b e hb,fun j s hs=> ?_,fun j t ht=> hk (h.bs j t ht),fun b hb=> ?_,h.ns,h.be.trans (hc.below hB fun b hb=> (h.nl b hb).2.2)⟩
 ·rw [List.length_append,List.length_singleton]
  refine ho.congr fun j hj i hi=> ?_
  by_cases hjl:j<L.length
  ·rw [catM_lo hjl]
   unfold stq
   rw [List.getElem?_append_left hjl]
   dsimp only
   rw [if_neg (by omega:¬ j=L.length)]
  ·obtain rfl:j=L.length:=by omega
   rw [catM_at]
   unfold stq
   rw [List.getElem?_append_right (Nat.le_refl _),Nat.sub_self]
   dsimp only
   rw [if_pos (rfl:L.length=L.length)]
   rcases (by omega:i=0∨i=1) with rfl | rfl
   ·rw [if_pos rfl,h0];rfl
   ·rw [if_neg (by decide),h1]
 ·rcases snoc_get hs with ⟨hj,hs⟩ | ⟨rfl,rfl⟩
  ·rw [if_neg (by omega)];exact hk (h.bl j s hs)
  ·rw [if_pos rfl];exact hk hu
 ·rcases hp b hb with h | h'
  ·exact ‹ChnM B w0 p w F X L T vl vs lv tv›.nl b h
  ·exact ⟨fun e=> by have:=h.su.pLt.1;omega,fun hf=> by have:=h.su.lt (.inr hf);omega,by omega⟩
theorem ChnM.app2 (h:ChnM B w0 p w F X L T vl vs lv tv) {t:List Int} (hu:Byt F w u t) (ho:OwZ 28 1 w' vs' (T.length+1) (catM T.length (fun j _=> tv j) (fun _ _=> u)))
  (hc:Chg (fun b=> vs.ownBlock=some b) w w') (hp:∀b,vs'.ownBlock=some b→vs.ownBlock=some b∨w.heap.size≤b):ChnM B w0 p w' F X L (T++ [t]) vl vs' lv (fun j=> if j=T.length then u else tv j):=by
 have hB:B≤w.heap.size:=Nat.le_trans h.su.pLt.2 (Nat.le_of_lt h.su.pLt.1)
 have hk:∀{v:Value} {l:List Int},Byt F w v l→Byt F w' v l:=fun g=> g.chgU hc fun b hb=> h.os.z b hb
 refine ⟨h.su.keep hc (fun e=> (h.ns p e).1 rfl) (fun b hb e=> (h.ns b e).2.1 hb),h.ol.chg hc fun b hb e=> h.ol.apart h.os (by decide) b hb e,?_,fun j x hx=> hk (h.bl j x hx),fun j s hs=> ?_,h.nl,fun b hb=> ?_,h.be.trans (hc.below hB fun b hb=> (h.ns b hb).2.2)⟩
 ·rw [List.length_append,List.length_singleton]
  refine ho.congr fun j hj i hi=> ?_
  by_cases hjl:j<T.length
  ·rw [catM_lo hjl,if_neg (by omega)]
  ·obtain rfl:j=T.length:=by omega
   rw [catM_at,if_pos rfl]
 ·rcases snoc_get hs with ⟨hj,hs⟩ | ⟨rfl,rfl⟩
  ·rw [if_neg (by omega)];exact hk (h.bs j s hs)
  ·rw [if_pos rfl];exact hk hu
 ·rcases hp b hb with h | h'
  ·exact ‹ChnM B w0 p w F X L T vl vs lv tv›.ns b h
  ·exact ⟨fun e=> by have:=h.su.pLt.1;omega,fun hf=> by have:=h.su.lt (.inr hf);omega,by omega⟩
end
end Go.Proofs.Ytpcjekgfnfjbpaa
namespace Go.Proofs.Ytpcjekgfnfjbpaa
open Go.RowKit Go.Bas Go.ChangeShapes Go.Maps
attribute [local go_sem ↓] Go.wp_at_zero Go.wp_at_succ
section
variable {W w w' w0 w1 w2 w3 : World} {p q : Nat} {F F' F'' G G' : Nat → Prop} {v u v' vl vs vl' vs' sv : Value} {a b c t t' : List Int} {X X' X'' XA XB : Su} {L : List Stp} {T : List (List Int)} {lv tv : Nat → Value}
def InI (W:World) (p:Nat) (XB XA:Su) (a:List Int) (sv:Value) (L0 pl:Nat) (vl vs:Value) (w:World):Prop:=
 ∃F X L T lv tv,ChnM W.heap.size W p w F X L T vl vs lv tv∧CR X L T∧Byt F w sv a∧XA.le X∧X.size≤XA.size+4 * (pl - 1)∧L.length=L0+(pl - 1)∧(pl=1→∀t',T[T.length - 1]? =some t'→XB.val t')∧
  (2≤pl→∃(t':List Int) (y:Stp),T[T.length - 1]? =some t'∧L[L.length - 1]? =some y∧y.1=(pl:Int) - 1∧X.nxs a (5 - pl) t')
structure MidI (W:World) (p:Nat) (XB XA:Su) (a:List Int) (sv:Value) (L0 pl:Nat) (vl vs:Value) (w:World) (F:Nat→Prop) (X:Su) (L:List Stp) (T:List (List Int)) (lv tv:Nat→Value) (u:Value) (b:List Int) (m:Nat):Prop where
 ch:ChnM W.heap.size W p w F X L T vl vs lv tv
 cr:CR X L T
 sd:Byt F w sv a
 st:Byt F w u b
 le:XA.le X
 sz:X.size≤XA.size+4 * (pl - 1)+m
 ll:L.length=L0+(pl - 1)
 p1:pl=1→∀t',T[T.length - 1]? =some t'→XB.val t'
 p2:2≤pl→∃(t':List Int) (y:Stp),T[T.length - 1]? =some t'∧L[L.length - 1]? =some y∧y.1=(pl:Int) - 1∧X.nxs a (5 - pl) t'
 nx:X.nxs a (4 - pl) b
 vb:X.val b
 bl:b.length≤32
variable {L0 pl m : Nat}
theorem InI.mid (h:ChnM W.heap.size W p w F X L T vl vs lv tv) (hc:CR X L T) (hs:Byt F w sv a) (hl:XA.le X) (hz:X.size≤XA.size+4 * (pl - 1)) (hL:L.length=L0+(pl - 1)) (h1:pl=1→∀t',T[T.length - 1]? =some t'→XB.val t')
  (h2:2≤pl→∃(t':List Int) (y:Stp),T[T.length - 1]? =some t'∧L[L.length - 1]? =some y∧y.1=(pl:Int) - 1∧X.nxs a (5 - pl) t') (hd:DwI W.heap.size w p F X a (4 - pl) u w'):
  ∃F' X' b,MidI W p XB XA a sv L0 pl vl vs w' F' X' L T lv tv u b (4 - pl):=by
 obtain ⟨b,X',⟨F',g1,g2,g3,g4,g5,g6⟩,g7,g8,g9⟩:=hd
 refine ⟨F',X',b,h.step g1 g3 g4,hc.mono g5,hs.chS g3 g4,g2,hl.trans g5,by omega,hL,h1,fun hp=> ?_,g7,g8,g9⟩
 obtain ⟨t',y,k1,k2,k3,k4⟩:=h2 hp
 exact ⟨t',y,k1,k2,k3,k4.mono g5⟩
theorem MidI.below (h:MidI W p XB XA a sv L0 pl vl vs w F X L T lv tv u b m) (hb:Below w.heap.size w w'):MidI W p XB XA a sv L0 pl vl vs w' F X L T lv tv u b m:=
 ⟨h.ch.below hb,h.cr,h.sd.below hb,h.st.below hb,h.le,h.sz,h.ll,h.p1,h.p2,h.nx,h.vb,h.bl⟩
theorem MidI.poke (h:MidI W p XB XA a sv L0 pl vl vs w F X L T lv tv u b m) {g:Nat} (hc:Chg (fun b=> b=g) w w') (hU:NoU w g) (hp:g≠p∧¬ F g∧W.heap.size≤g) (hl:vl.ownBlock≠some g) (hs:vs.ownBlock≠some g):MidI W p XB XA a sv L0 pl vl vs w' F X L T lv tv u b m:=by
 have hk:∀{v:Value} {l:List Int},Byt F w v l→Byt F w' v l:=fun g=> g.chgU hc fun b hb=> hb▸hU
 have c:=h.ch
 have hB:W.heap.size≤w.heap.size:=Nat.le_trans c.su.pLt.2 (Nat.le_of_lt c.su.pLt.1)
 exact ⟨⟨c.su.keep hc (fun e=> hp.1 e.symm) (fun b hb e=> hp.2.1 (e▸hb)),c.ol.chg hc fun b hb e=> hl (e▸hb),c.os.chg hc fun b hb e=> hs (e▸hb),fun j x hx=> hk (c.bl j x hx),fun j t ht=> hk (c.bs j t ht),c.nl,c.ns,c.be.trans (hc.below hB fun b hb=> hb▸hp.2.2)⟩,
  h.cr,hk h.sd,hk h.st,h.le,h.sz,h.ll,h.p1,h.p2,h.nx,h.vb,h.bl⟩
theorem MidI.lock (h:MidI W p XB XA a sv L0 pl vl vs w F X L T lv tv u b m) (hl:X.le X') (hz:X'.size≤X.size+1) {z:Value} (hr:SuR W.heap.size w p F z (c,0,X') w'):
  ∃F',MidI W p XB XA a sv L0 pl vl vs w' F' X' L T lv tv u b (m+1)∧Byt F' w' z c∧Chg (fun b=> b=p∨F b) w w'∧∀b,F' b→F b∨w.heap.size≤b:=by
 obtain ⟨F',g1,g2,g3,g4⟩:=hr
 refine ⟨F',⟨h.ch.step g1 g3 g4,h.cr.mono hl,h.sd.chS g3 g4,h.st.chS g3 g4,h.le.trans hl,by have:=h.sz;omega,h.ll,h.p1,fun hp=> ?_,h.nx.mono hl,h.vb.mono hl,h.bl⟩,g2,g3.chg,g4⟩
 obtain ⟨t',y,k1,k2,k3,k4⟩:=h.p2 hp
 exact ⟨t',y,k1,k2,k3,k4.mono hl⟩
theorem MidI.done (h:MidI W p XB XA a sv L0 pl vl vs w F X L T lv tv u b m) (h1:1≤pl) (h4:pl≤4) (hm:m≤4) (hn:X.size≤900) (hXB:XB.le X) (hXBn:XB.size≤900) (hfr:XB.fresh a) {k:List Int}
  (hk:(k= [] ∧(pl=1→L= []))∨(pl=1∧k≠ [] ∧k.length≤100∧∃t',T[T.length - 1]? =some t'∧X.lk b t' k))
  (hc:ChnM W.heap.size W p w' F X (L++ [((pl:Int),k)]) (T++ [b]) vl' vs' (fun j=> if j=L.length then v' else lv j) (fun j=> if j=T.length then u else tv j)) (hsd:Byt F w' sv a):InI W p XB XA a sv L0 (pl+1) vl' vs' w':=by
 have hlen:=h.cr.len
 refine ⟨F,X,_,_,_,_,hc,h.cr.snoc ⟨h.vb,h.bl⟩ ⟨by simp only;omega,by simp only;omega⟩ (fun e=> ?_) (fun y t' hy ht=> ?_),hsd,h.le,by have:=h.sz;omega,by rw [List.length_append,List.length_singleton];have:=h.ll;omega,fun e=> by omega,fun _=> ⟨b,((pl:Int),k),by simp,by simp,by simp only;omega,?_⟩⟩
 ·subst e
  have hpl:pl=1:=by
   by_cases h2:2≤pl
   ·obtain ⟨t',y,_,k2,_⟩:=h.p2 h2;simp at k2
   ·omega
  rcases hk with ⟨rfl,_⟩ | ⟨_,_,_,t',ht,_⟩
  ·rw [hpl];rfl
  ·have:=h.cr.len;simp at this;subst this;simp at ht
 ·by_cases h2:2≤pl
  ·obtain ⟨t2,y2,k1,k2,k3,k4⟩:=h.p2 h2
   rw [hy] at k2;rw [ht] at k1
   obtain rfl:=Option.some.inj k1
   obtain rfl:=Option.some.inj k2
   have hk0:k= [] :=by rcases hk with ⟨e,_⟩ | ⟨e,_⟩;(· exact e);omega
   refine .inr ⟨by simp only;omega,by omega,hk0,?_⟩
   have e5:5 - pl=(4 - pl)+1:=by omega
   rw [e5] at k4
   obtain ⟨d,g1,g2⟩:=k4
   rw [Su.nxs_fun h.ch.su.ok hn h.nx g1]
   exact g2
  ·have hpl:pl=1:=by omega
   rcases hk with ⟨_,hk⟩ | ⟨_,k1,k2,t2,ht2,k3⟩
   ·have:=hk hpl;subst this;simp at hy
   ·rw [ht] at ht2
    obtain rfl:=Option.some.inj ht2
    exact .inl ⟨by simp only;omega,k1,k2,k3,Su.ap_of hXB hXBn (Su.fresh.nxs h.ch.su.ok hn hXB hfr h.nx) (h.p1 hpl t' ht)⟩
 ·have e5:5 - (pl+1)=4 - pl:=by omega
  rw [e5];exact h.nx
end
end Go.Proofs.Ytpcjekgfnfjbpaa
namespace Go.Proofs.Ytpcjekgfnfjbpaa
open Go.RowKit Go.Bas Go.ChangeShapes Go.Maps
attribute [local go_sem ↓] Go.wp_at_zero Go.wp_at_succ
theorem Try.infoStep:(Try.prog.info? 41).map (fun i=> (i.zero,i.size,i.bytes))=some (some (.agg #[.int .i64 0,.slice none 0 0]),2,32):=by kernel_rfl
section
variable {W w w' w0 w1 w2 w3 : World} {p q : Nat} {F F' F'' G G' : Nat → Prop} {v u v' vl vs vl' vs' sv : Value} {a b c t t' : List Int} {X X' X'' XA XB : Su} {L : List Stp} {T : List (List Int)} {lv tv : Nat → Value} {L0 pl m : Nat}
def OutI (W:World) (p:Nat) (X0:Su) (k:Nat) (vl vs:Value) (w:World):Prop:=
 ∃F X L T lv tv,ChnM W.heap.size W p w F X L T vl vs lv tv∧CR X L T∧X0.le X∧X.size≤X0.size+17 * k∧k≤L.length∧L.length≤4 * k
theorem rgChain_any {n:Nat} {f:Nat→Int} (hv:Rd .u8 W v n f) (hf:∀i,i<n→0≤f i∧f i<256) (hn:n≤5) (h:SuM W.heap.size w p F X) (hX:X.size≤100) (hbe:Below W.heap.size W w):
  Calls Try.prog 14 #[.pointer (some ⟨p,0,none⟩),v] w fun e w'=> ∃vl vs,e=.returned (.tuple #[vl,vs,.bool true])∧OutI W p X n vl vs w':=by
 have HM:=Lib.hid h
 have HV:=Lib.hid hv
 have HF:=Lib.hid hf
 have HN:=Lib.hid hn
 have HX:=Lib.hid hX
 have HBE:=Lib.hid hbe
 obtain ⟨av,cv,rfl,_⟩:=hv
 clear h hf hn hX hbe
 go_enter Try.func14,Try.ntmps14
 go_wp2
 go_loopw [7,8,19] (fun vl vs i wr=> ∃k:Nat,k≤n∧i=.int .i64 (k:Int)∧OutI W p X k vl vs wr) (fun _ _ i _=> n - (intOf i).toNat)
 case atStart=> exact ⟨0,Nat.zero_le _,rfl,F,X, [], [],fun _=> undef,fun _=> undef,⟨HM.out,OwZ.nil _ _ _ _,OwZ.nil _ _ _ _,fun j x hx=> (by simp at hx),fun j x hx=> (by simp at hx),fun b hb=> (by cases hb),fun b hb=> (by cases hb),HBE.out⟩,CR.nil _,Su.le.refl _,Nat.le_refl _,Nat.zero_le _,Nat.zero_le _⟩
 case round=>
  obtain ⟨k,hk,rfl,FB,XB,L,T,lv,tv,hch,hcr,hle,hsz,hL1,hL2⟩:=hrel
  have HCH:=Lib.hid hch
  have HCR:=Lib.hid hcr
  have HLE:=Lib.hid hle
  have HSZ:=Lib.hid hsz
  have HLL:=Lib.hid (And.intro hL1 hL2)
  clear hch hcr hle hsz hL1 hL2
  by_cases hlt:k<n
  ·have HLT:=Lib.hid hlt
   have hvr:=HV.out.below HCH.out.be
   obtain ⟨gv,ov,rfl,hgl,hcell⟩:=hvr.formAt (by omega)
   have ck:=hcell k hlt
   have hk9:(k:Int)<(n:Int):=by omega
   have hk8:(n:Int)<1000000:=by have:=HN.out;omega
   have HFK:=Lib.hid (HF.out k hlt)
   obtain ⟨r,hr,hr4⟩:∃r:Nat,(f k).tmod 4=(r:Int)∧r<4:=⟨((f k) % 4).toNat,by have:=HFK.out;rw [Int.tmod_eq_emod_of_nonneg this.1];omega,by omega⟩
   have HR4:=Lib.hid hr4
   have HD:=Lib.hid (suDraw_any (X:=XB) HCH.out.su 2 (by have:=HSZ.out;have:=HX.out;have:=HN.out;omega))
   obtain ⟨a,XA,e0,g1,g2,g3,g4⟩:=Su.draw_ok HCH.out.su.few (by have:=HSZ.out;have:=HX.out;have:=HN.out;omega) 2 (by decide)
   have HFR:Hid (XB.fresh a):=Lib.hid (by have:=Su.draw_fresh (X:=XB) (by have:=HSZ.out;have:=HX.out;have:=HN.out;omega) 2 (by decide);rw [e0] at this;exact this)
   rw [e0] at HD
   have G1:=Lib.hid g1
   have G2:=Lib.hid g2
   have G3:=Lib.hid g3
   have G4:=Lib.hid g4
   clear hlt hcell hgl hvr hr4 e0 g1 g2 g3 g4 hk
   go_wp2_with fail
   refine HD.out.mono ?_
   rintro e w1 ⟨sv,rfl,FA,h1,h2,h3,h4⟩
   have HCA:=Lib.hid (HCH.out.step h1 h3 h4)
   have HSV:=Lib.hid h2
   clear h1 h2 h3 h4 ck
   have hra:(r:Int)<4:=by have:=HR4.out;omega
   go_wp2
   go_loopw [7,8,13] (fun vl vs i wr=> ∃pl:Nat,1≤pl∧pl≤r+2∧i=.int .i64 (pl:Int)∧InI W p XB XA a sv L.length pl vl vs wr) (fun _ _ i _=> 6 - (intOf i).toNat)
   case atStart=> exact ⟨1,Nat.le_refl _,by omega,rfl,FA,XA,L,T,lv,tv,HCA.out,HCR.out.mono G1.out,HSV.out,Su.le.refl _,Nat.le_refl _,rfl,fun _ t' ht=> (HCR.out.val _ t' ht).1,fun h=> absurd h (by decide)⟩
   case round=>
    rename World=> wo
    obtain ⟨pl,hp1,hp2,rfl,hI⟩:=hrel
    obtain ⟨FC,XC,LC,TC,lvc,tvc,hch,hcr,hsd,hle,hsz,hll,hq1,hq2⟩:=hI
    have HCC:=Lib.hid hch
    have HCRC:=Lib.hid hcr
    have HSD:=Lib.hid hsd
    have HLEC:=Lib.hid hle
    have HSZC:=Lib.hid hsz
    have HLLC:=Lib.hid hll
    have HQ1:=Lib.hid hq1
    have HQ2:=Lib.hid hq2
    obtain ⟨al,cl,hvl,_⟩:=hch.ol.m.slice
    obtain ⟨ax,cx,hvs,_⟩:=hch.os.m.slice
    subst hvl
    subst hvs
    have HP1:=Lib.hid hp1
    have HP2:=Lib.hid hp2
    have HBASE:Hid (XA.size≤200):=Lib.hid (by have:=G4.out;have:=HSZ.out;have:=HX.out;have:=HN.out;omega)
    clear hch hcr hsd hle hsz hll hq1 hq2
    by_cases hpl:pl≤r+1
    ·have HPL:=Lib.hid hpl
     have HPL4:Hid (pl≤4):=Lib.hid (by have:=HR4.out;omega)
     have q1:decide ((pl:Int)≤(r:Int)+1)=true:=decide_eq_true (by omega)
     have q2:(pl:Int)<1000000:=by have:=HPL4.out;omega
     have HST:=Lib.hid (rgState_any HCC.out.su HSD.out (G2.out.mono HLEC.out) G3.out pl HP1.out HPL4.out (by have:=HSZC.out;have:=HBASE.out;have:=HPL4.out;omega))
     clear hpl hp1 hp2
     go_wp2_with fail
     refine HST.out.mono ?_
     rintro e w2 ⟨u,rfl,hdw⟩
     obtain ⟨F2,X2,b,hmid⟩:=InI.mid HCC.out HCRC.out HSD.out HLEC.out HSZC.out HLLC.out HQ1.out HQ2.out hdw
     have HMID:=Lib.hid hmid
     obtain ⟨au,cu,hu,_⟩:=hmid.st.rd
     subst hu
     clear hdw hmid q1
     go_upto_region 16 with (fail)
     refine wp_world (fun w3=> w3.cell? ⟨w2.heap.size,0,none⟩=some (.int .i64 (pl:Int))∧w3.cell? ⟨w2.heap.size,1,none⟩=some (.slice none 0 0)∧RowB w3 w2.heap.size 41 2∧Below w2.heap.size w2 w3) ⟨cell_of_row _ _ 0 _ _ (0,0) (heap_alloc_new w2 _),cell_of_row _ _ 1 _ _ (0,0) (heap_alloc_new w2 _),RowB.new w2 _ _,(Below.refl _ _).alloc (Nat.le_refl _) _⟩ ?_
     rintro w3 ⟨c0,c1,hrow,b3⟩
     have HROW:=Lib.hid hrow
     have HMID3:=Lib.hid (HMID.out.below b3)
     have HSIZE:=Lib.hid b3.size
     clear hrow b3
     have HLN:Hid (LC.length≤100):=Lib.hid (by have:=HLLC.out;have:=HLL.out;have:=HPL4.out;have:=HLT.out;have:=HN.out;omega)
     by_cases hone:pl=1
     ·subst hone
      rw [show ((1:Nat):Int)=1 from rfl] at c0 ⊢
      clear q2
      by_cases hem:LC= []
      ·subst hem
       rw [List.length_nil]
       go_wp2_with (first
        | (at_builtin;refine wpList_append_z (y:=fun i=> if i=0 then .int .i64 1 else .slice none 0 0) rfl _ _ rfl rfl (by rfl) HMID3.out.ch.ol (by decide) Try.underlying36 Try.infoStep rfl rfl (fun i hi=> by rcases (by omega:i=0∨i=1) with rfl | rfl;(· exact ⟨rfl,fun x e=> by cases e⟩);exact ⟨rfl,fun x e=> by cases e⟩) (fun z hz=> by simp [Value.cells] at hz;rcases hz with rfl | rfl<;> exact fun x e=> by cases e) (by have:=HLN.out;unfold maxLen;omega) (by have:=HLN.out;omega) ?_;intro v6 w6 ho6 hc6 hp6;have HA:=Lib.hid (HMID3.out.ch.app1 (x:=(1, [])) (Byt.nil _ _) rfl rfl ho6 hc6 hp6);have HS6:=Lib.hid (HMID3.out.sd.chgU hc6 fun b hb=> HMID3.out.ch.ol.z b hb);have HU6:=Lib.hid (HMID3.out.st.chgU hc6 fun b hb=> HMID3.out.ch.ol.z b hb);obtain ⟨a6,k6,e6,_⟩:=ho6.m.slice;subst e6;clear ho6 hc6 hp6)
        | (at_builtin;refine wpList_append_z (y:=fun _=> .slice au b.length cu) rfl _ _ rfl rfl (by rfl) HA.out.os (by decide) Try.underlying37 Try.infoBs rfl rfl (fun i hi=> ⟨rfl,fun x e=> by cases e⟩) (fun z hz=> by simp [Value.cells] at hz;subst hz;exact fun x e=> by cases e) (by have:=HLN.out;have:=HMID3.out.cr.len;unfold maxLen;omega) (by have:=HLN.out;have:=HMID3.out.cr.len;omega) ?_;intro v8 w8 ho8 hc8 hp8;have HA2:=Lib.hid (HA.out.app2 HU6.out ho8 hc8 hp8);have HS8:=Lib.hid (HS6.out.chgU hc8 fun b hb=> HA.out.os.z b hb);clear ho8 hc8 hp8))
       go_roundw
       case rel=> exact ⟨1+1,by omega,by have:=HPL.out;omega,by go_num,HMID3.out.done HP1.out HPL4.out (by omega) (by have:=HMID3.out.sz;have:=HBASE.out;have:=HPL4.out;omega) (G1.out.trans HMID3.out.le) (by have:=G4.out;have:=HBASE.out;omega) HFR.out (.inl ⟨rfl,fun _=> rfl⟩) HA2.out HS8.out⟩
       case measure=> have:=HPL4.out;simp [intOf] <;> omega
      ·have hk0:LC.length≠0:=fun e=> hem (List.length_eq_zero_iff.1 e)
       obtain ⟨k1,hk1⟩:∃k1,TC.length=k1+1:=⟨TC.length - 1,by have:=HCRC.out.len;omega⟩
       obtain ⟨g,cap,eg,_,_,_,hcg⟩:=HMID3.out.ch.os.m.form (by omega)
       cases eg
       obtain ⟨t',ht'⟩:∃t',TC[k1]? =some t':=⟨_,List.getElem?_eq_getElem (by omega)⟩
       have hbt:=HMID3.out.ch.bs k1 t' ht'
       have zg:=hcg k1 (by omega) 0 (by decide)
       rw [Nat.mul_one,Nat.add_zero] at zg
       obtain ⟨at',ct',et',_⟩:=hbt.rd
       rw [et'] at hbt zg
       have HT':Hid (TC[TC.length - 1]? =some t'):=Lib.hid (by rw [hk1,Nat.add_sub_cancel];exact ht')
       obtain ⟨c,X3,e3,k3,k4,k5,k6,k7⟩:=Su.lock_ok HMID3.out.ch.su.ok (by have:=HMID3.out.sz;have:=HBASE.out;omega) HMID3.out.vb (HMID3.out.cr.val k1 t' ht').1 hbt.ok
       have HLINK:=Lib.hid (rgLink_any HMID3.out.ch.su HMID3.out.st hbt (by have:=HMID3.out.sz;have:=HBASE.out;omega) (by have:=(HMID3.out.cr.val k1 t' ht').2;omega))
       rw [e3] at HLINK
       have HLK:=Lib.hid k4
       have HCL:=Lib.hid k5
       have HCN:=Lib.hid k6
       have HL3:=Lib.hid k3
       have HS3:=Lib.hid k7
       have q3:(0:Int)<(LC.length:Int):=by omega
       have q4:(k1:Int)<(TC.length:Int):=by omega
       have q5:(TC.length:Int)<1000000:=by have:=HLN.out;have:=HCRC.out.len;omega
       have q6:(TC.length:Int) - 1=(k1:Int):=by omega
       have q7:IntKind.i64.wrap ((TC.length:Int) - 1)=(k1:Int):=by rw [wrap_i64_id (by omega) (by omega)];omega
       have q8:(k1:Int)<1000000:=by omega
       have HNP:Hid (w2.heap.size≠p∧¬ F2 w2.heap.size):=Lib.hid ⟨fun e=> by have:=HMID.out.ch.su.pLt.1;omega,fun hf=> by have:=HMID.out.ch.su.lt (.inr hf);omega⟩
       have HNL:Hid (¬ (Value.slice al LC.length cl).ownBlock=some w2.heap.size∧¬ (Value.slice (some ⟨g,0,none⟩) TC.length cx).ownBlock=some w2.heap.size):=Lib.hid ⟨fun e=> by have:=HMID.out.ch.ol.m.lt _ e;omega,fun e=> by have:=HMID.out.ch.os.m.lt _ e;omega⟩
       have HLT2:Hid (w2.heap.size<w3.heap.size):=Lib.hid (World.block_lt_of_cell? _ _ c0)
       have HC0:=Lib.hid c0
       have HC1:=Lib.hid c1
       have q9:0<LC.length:=by omega
       clear hk0 hk1 hcg ht' hbt et' e3 k3 k4 k5 k6 k7
       go_wp2_with fail
       refine HLINK.out.mono ?_
       rintro e w4 ⟨z,rfl,hr4⟩
       obtain ⟨F3,hm4,hz4,hg4,hf4⟩:=HMID3.out.lock HL3.out HS3.out hr4
       have HM4:=Lib.hid hm4
       have HZ4:=Lib.hid hz4
       obtain ⟨az,cz,ez,_⟩:=hz4.rd
       subst ez
       have c0:=(hg4.cell (p:=⟨w2.heap.size,0,none⟩) HLT2.out (fun e=> e.elim HNP.out.1 HNP.out.2)).trans HC0.out
       have c1:=(hg4.cell (p:=⟨w2.heap.size,1,none⟩) HLT2.out (fun e=> e.elim HNP.out.1 HNP.out.2)).trans HC1.out
       have hrow4:=HROW.out.heap (hg4.block _ HLT2.out (fun e=> e.elim HNP.out.1 HNP.out.2))
       have HROW4:=Lib.hid hrow4
       have fr:=hrow4.free 1
       have HF3:Hid (¬ F3 w2.heap.size):=Lib.hid fun e=> (hf4 _ e).elim HNP.out.2 fun h=> by have:=HLT2.out;omega
       clear hm4 hz4 hg4 hf4 hr4 hrow4 zg
       go_upto_region 18 with (fail)
       have CS:=Chg.set (fun b=> b=w2.heap.size) w4 ⟨w2.heap.size,1,none⟩ (.slice az c.length cz) rfl
       have hU4:NoU w4 w2.heap.size:=by
        obtain ⟨cur,hcur,hsz⟩:=HROW4.out
        refine NoU.row hcur fun x hx=> ?_
        obtain ⟨i,hi⟩:=List.getElem?_of_mem hx
        have hi2:i<2:=by have:=(List.getElem?_eq_some_iff.1 hi).1;rw [Array.length_toList] at this;omega
        have hcell:w4.cell? ⟨w2.heap.size,i,none⟩=some x:=by rw [cell_of_row w4 _ i cur _ (0,0) hcur,←Array.getElem?_toList];exact hi
        rcases (by omega:i=0∨i=1) with rfl | rfl
        ·rw [c0] at hcell;cases hcell;exact fun x e=> by cases e
        ·rw [c1] at hcell;cases hcell;exact fun x e=> by cases e
       refine wp_world (fun w5=> w5.cell? ⟨w2.heap.size,0,none⟩=some (.int .i64 1)∧w5.cell? ⟨w2.heap.size,1,none⟩=some (.slice az c.length cz)∧Byt F3 w5 (.slice az c.length cz) c∧MidI W p XB XA a sv L.length 1 (.slice al LC.length cl) (.slice (some ⟨g,0,none⟩) TC.length cx) w5 F3 X3 LC TC lvc tvc (.slice au b.length cu) b (4 - 1+1)) ⟨(World.cell?_setCell_other _ _ _ _ (fun e=> by cases e)).trans c0,World.cell?_setCell_same _ _ _ c1,HZ4.out.chgU CS fun b hb=> hb▸hU4,HM4.out.poke CS hU4 ⟨HNP.out.1,HF3.out,by have:=HMID.out.ch.su.pLt;omega⟩ HNL.out.1 HNL.out.2⟩ ?_
       rintro w5 ⟨c0',c1',hz5,hm5⟩
       have HM5:=Lib.hid hm5
       have HZ5:=Lib.hid hz5
       have c0:=c0'
       have c1:=c1'
       clear c0' c1' hz5 hm5 CS hU4 fr q3 q4 q5 q6 q7 q8 q9 hem
       go_wp2_with (first
        | (at_builtin;refine wpList_append_z (y:=fun i=> if i=0 then .int .i64 1 else .slice az c.length cz) rfl _ _ rfl rfl (by rfl) HM5.out.ch.ol (by decide) Try.underlying36 Try.infoStep rfl rfl (fun i hi=> by rcases (by omega:i=0∨i=1) with rfl | rfl;(· exact ⟨rfl,fun x e=> by cases e⟩);exact ⟨rfl,fun x e=> by cases e⟩) (fun z hz=> by simp [Value.cells] at hz;rcases hz with rfl | rfl<;> exact fun x e=> by cases e) (by have:=HLN.out;unfold maxLen;omega) (by have:=HLN.out;omega) ?_;intro v6 w6 ho6 hc6 hp6;have HA:=Lib.hid (HM5.out.ch.app1 (x:=(1,c)) HZ5.out rfl rfl ho6 hc6 hp6);have HS6:=Lib.hid (HM5.out.sd.chgU hc6 fun b hb=> HM5.out.ch.ol.z b hb);have HU6:=Lib.hid (HM5.out.st.chgU hc6 fun b hb=> HM5.out.ch.ol.z b hb);obtain ⟨a6,k6,e6,_⟩:=ho6.m.slice;subst e6;clear ho6 hc6 hp6)
        | (at_builtin;refine wpList_append_z (y:=fun _=> .slice au b.length cu) rfl _ _ rfl rfl (by rfl) HA.out.os (by decide) Try.underlying37 Try.infoBs rfl rfl (fun i hi=> ⟨rfl,fun x e=> by cases e⟩) (fun z hz=> by simp [Value.cells] at hz;subst hz;exact fun x e=> by cases e) (by have:=HLN.out;have:=HM5.out.cr.len;unfold maxLen;omega) (by have:=HLN.out;have:=HM5.out.cr.len;omega) ?_;intro v8 w8 ho8 hc8 hp8;have HA2:=Lib.hid (HA.out.app2 HU6.out ho8 hc8 hp8);have HS8:=Lib.hid (HS6.out.chgU hc8 fun b hb=> HA.out.os.z b hb);clear ho8 hc8 hp8))
       go_roundw
       case rel=> exact ⟨1+1,by omega,by have:=HPL.out;omega,by go_num,HM5.out.done HP1.out HPL4.out (by omega) (by have:=HM5.out.sz;have:=HBASE.out;have:=HPL4.out;omega) (G1.out.trans HM5.out.le) (by have:=G4.out;have:=HBASE.out;omega) HFR.out (.inr ⟨rfl,HCN.out,HCL.out,t',HT'.out,HLK.out⟩) HA2.out HS8.out⟩
       case measure=> have:=HPL4.out;simp [intOf] <;> omega
     ·have hone':((pl:Int)==1)=false:=by simp;omega
      have HONE:=Lib.hid hone
      clear hone
      go_wp2_with (first
       | (at_builtin;refine wpList_append_z (y:=fun i=> if i=0 then .int .i64 (pl:Int) else .slice none 0 0) rfl _ _ rfl rfl (by rfl) HMID3.out.ch.ol (by decide) Try.underlying36 Try.infoStep rfl rfl (fun i hi=> by rcases (by omega:i=0∨i=1) with rfl | rfl;(· exact ⟨rfl,fun x e=> by cases e⟩);exact ⟨rfl,fun x e=> by cases e⟩) (fun z hz=> by simp [Value.cells] at hz;rcases hz with rfl | rfl<;> exact fun x e=> by cases e) (by have:=HLN.out;unfold maxLen;omega) (by have:=HLN.out;omega) ?_;intro v6 w6 ho6 hc6 hp6;have HA:=Lib.hid (HMID3.out.ch.app1 (x:=((pl:Int), [])) (Byt.nil _ _) rfl rfl ho6 hc6 hp6);have HS6:=Lib.hid (HMID3.out.sd.chgU hc6 fun b hb=> HMID3.out.ch.ol.z b hb);have HU6:=Lib.hid (HMID3.out.st.chgU hc6 fun b hb=> HMID3.out.ch.ol.z b hb);obtain ⟨a6,k6,e6,_⟩:=ho6.m.slice;subst e6;clear ho6 hc6 hp6)
       | (at_builtin;refine wpList_append_z (y:=fun _=> .slice au b.length cu) rfl _ _ rfl rfl (by rfl) HA.out.os (by decide) Try.underlying37 Try.infoBs rfl rfl (fun i hi=> ⟨rfl,fun x e=> by cases e⟩) (fun z hz=> by simp [Value.cells] at hz;subst hz;exact fun x e=> by cases e) (by have:=HLN.out;have:=HMID3.out.cr.len;unfold maxLen;omega) (by have:=HLN.out;have:=HMID3.out.cr.len;omega) ?_;intro v8 w8 ho8 hc8 hp8;have HA2:=Lib.hid (HA.out.app2 HU6.out ho8 hc8 hp8);have HS8:=Lib.hid (HS6.out.chgU hc8 fun b hb=> HA.out.os.z b hb);clear ho8 hc8 hp8))
      go_roundw
      case rel=> exact ⟨pl+1,by omega,by have:=HPL.out;omega,by go_num,HMID3.out.done HP1.out HPL4.out (by omega) (by have:=HMID3.out.sz;have:=HBASE.out;have:=HPL4.out;omega) (G1.out.trans HMID3.out.le) (by have:=G4.out;have:=HBASE.out;omega) HFR.out (.inl ⟨rfl,fun e=> absurd e HONE.out⟩) HA2.out HS8.out⟩
      case measure=> have:=HPL4.out;simp [intOf] <;> omega
    ·obtain rfl:pl=r+2:=by omega
     have q1:decide (((r+2:Nat):Int)≤(r:Int)+1)=false:=decide_eq_false (by omega)
     clear hpl hp1 hp2
     go_wp2
     go_roundw
     case rel=>
      refine ⟨k+1,by have:=HLT.out;omega,by go_num,FC,XC,LC,TC,lvc,tvc,HCC.out,HCRC.out,HLE.out.trans (G1.out.trans HLEC.out),?_,?_,?_⟩
      ·have:=HSZC.out;have:=G4.out;have:=HSZ.out;have:=HR4.out;omega
      ·have:=HLLC.out;have:=HLL.out;omega
      ·have:=HLLC.out;have:=HLL.out;have:=HR4.out;omega
     case measure=> have:=HLT.out;simp [intOf] <;> omega
  ·obtain rfl:k=n:=by omega
   clear hlt
   go_wp2
   go_ret3
   exact ⟨_,_,rfl,FB,XB,L,T,lv,tv,HCH.out,HCR.out,HLE.out,HSZ.out,HLL.out⟩
end
end Go.Proofs.Ytpcjekgfnfjbpaa
namespace Go.Proofs.Ytpcjekgfnfjbpaa
open Go.RowKit Go.Bas Go.ChangeShapes Go.Maps
attribute [local go_sem ↓] Go.wp_at_zero Go.wp_at_succ
section
variable {W w w' w0 w1 w2 w3 : World} {p q : Nat} {F F' F'' G G' : Nat → Prop} {v u v' vl vs vl' vs' sv : Value} {a b c t t' : List Int} {X X' X'' XA XB : Su} {L : List Stp} {T : List (List Int)} {lv tv : Nat → Value} {L0 pl m : Nat} {B : Nat}
theorem ChnM.stM (h:ChnM B w0 p w F X L T vl vs lv tv):StM w vl L lv:=⟨h.ol.m.mat,fun j x hx=> (h.bl j x hx).rd⟩
def RcI (W:World) (p:Nat) (X0:Su) (L:List Stp) (T:List (List Int)) (vl vs:Value) (lv tv:Nat→Value) (fr i:Nat) (o:Value) (w:World):Prop:=
 ∃F X t,ChnM W.heap.size W p w F X L T vl vs lv tv∧X0.le X∧T[i - 1]? =some t∧Byt F w o t∧X.size+i≤X0.size+fr
theorem rgReach_any (h:ChnM W.heap.size W p w F X L T vl vs lv tv) (hcr:CR X L T) {fr to:Nat} (h1:1≤to) (h2:to≤fr) (h3:fr≤L.length) (hL:L.length≤100) (hX:X.size≤500) (ht:T[fr - 1]? =some t) (hb:Byt F w v t):
  Calls Try.prog 16 #[.pointer (some ⟨p,0,none⟩),vl,.int .i64 (fr:Int),v,.int .i64 (to:Int)] w fun e w'=> ∃u,e=.returned (.tuple #[u,.int .i64 0])∧RcI W p X L T vl vs lv tv fr to u w':=by
 have HM:=Lib.hid h
 have HCR:=Lib.hid hcr
 have HL:=Lib.hid hL
 have HX:=Lib.hid hX
 have HB:=Lib.hid hb
 have HT:=Lib.hid ht
 have H1:=Lib.hid h1
 have H2:=Lib.hid h2
 have H3:=Lib.hid h3
 have HTF:Hid (∀w',Below w.heap.size w w'→Calls Try.prog 32 #[vl,.int .i64 (fr:Int)] w' fun e w2=> e=.returned (.bool true)∧Below w'.heap.size w' w2):=Lib.hid fun w' b=> by
  have:=rgThere_any (h.stM.below b) hcr.okS (by omega) (fr:Int)
  rwa [show decide (1≤(fr:Int)∧(fr:Int)≤(L.length:Int))=true from decide_eq_true (by omega)] at this
 have HTT:Hid (∀w',Below w.heap.size w w'→Calls Try.prog 32 #[vl,.int .i64 (to:Int)] w' fun e w2=> e=.returned (.bool true)∧Below w'.heap.size w' w2):=Lib.hid fun w' b=> by
  have:=rgThere_any (h.stM.below b) hcr.okS (by omega) (to:Int)
  rwa [show decide (1≤(to:Int)∧(to:Int)≤(L.length:Int))=true from decide_eq_true (by omega)] at this
 have HCL:=Lib.hid (fun w' (b:Below w.heap.size w w')=> clone_any v t.length (bf t) w' (hb.rd.below b) (by have:=(hcr.val _ _ ht).2;omega))
 obtain ⟨av,cv,rfl,_⟩:=hb.rd
 obtain ⟨al,cl,hvl,_⟩:=h.ol.m.slice
 subst hvl
 have q1:¬ fr<to:=by omega
 clear h hcr hL hX hb ht h1 h2 h3
 go_enter Try.func16,Try.ntmps16
 go_wp2_with fail
 refine (HTF.out w (Below.refl _ _)).mono ?_
 rintro e w1 ⟨rfl,b1⟩
 go_wp2_with fail
 refine (HTT.out w1 b1).mono ?_
 rintro e w2 ⟨rfl,b2⟩
 replace b2:=b1.trans (b2.mono b1.size)
 go_wp2_with fail
 refine (HCL.out w2 b2).mono ?_
 rintro e w3 ⟨u,rfl,hu,b3⟩
 have HI:Hid (RcI W p X L T (.slice al L.length cl) vs lv tv fr fr u w3):=Lib.hid ⟨F,X,t,HM.out.below (b2.trans (b3.mono b2.size)),Su.le.refl _,HT.out,⟨HB.out.ok,hu.rd,fun hn b hb hf=> by have:=hu.block b hb;have:=HM.out.su.lt (.inr hf);have:=b2.size;omega⟩,Nat.le_refl _⟩
 clear hu b1 b2 b3 q1
 go_wp2
 go_loopw [12,13] (fun o i wr=> ∃k:Nat,to≤k∧k≤fr∧i=.int .i64 (k:Int)∧RcI W p X L T (.slice al L.length cl) vs lv tv fr k o wr) (fun _ i _=> (intOf i).toNat)
 case atStart=> exact ⟨fr,H2.out,Nat.le_refl _,rfl,HI.out⟩
 case round=>
  obtain ⟨k,hk1,hk2,rfl,FC,XC,tc,hch,hle,htc,hbo,hsz⟩:=hrel
  have HCH:=Lib.hid hch
  have HLE:=Lib.hid hle
  have HTC:=Lib.hid htc
  have HBO:=Lib.hid hbo
  have HSZ:=Lib.hid hsz
  have HCRC:=Lib.hid (HCR.out.mono hle)
  have HK1:=Lib.hid hk1
  have HK2:=Lib.hid hk2
  obtain ⟨ao,co,ho,_⟩:=hbo.rd
  subst ho
  by_cases hlt:to<k
  ·have hlen:=HCR.out.len
   have h3:=H3.out
   have h1:=H1.out
   obtain ⟨j,hj⟩:∃j,k=j+2:=⟨k - 2,by omega⟩
   obtain ⟨x,hx⟩:∃x,L[j+1]? =some x:=⟨_,List.getElem?_eq_getElem (by omega)⟩
   obtain ⟨y,hy⟩:∃y,L[j]? =some y:=⟨_,List.getElem?_eq_getElem (by omega)⟩
   obtain ⟨t',ht'⟩:∃t',T[j]? =some t':=⟨_,List.getElem?_eq_getElem (by omega)⟩
   rw [hj,show j+2 - 1=j+1 from rfl] at htc
   have hst:=HCRC.out.st j x y tc t' hx hy htc ht'
   obtain ⟨g,o,cap,ak,ck,ev,hg,c0,c1,el⟩:=hch.stM.at hx
   cases ev
   have HT':=Lib.hid ht'
   have hbk:=hch.bl (j+1) x hx
   rw [el] at hbk
   have HBK:=Lib.hid hbk
   have HJ:=Lib.hid hj
   have HLT:=Lib.hid hlt
   have q1:to<k:=by omega
   have q2:(k:Int)<1000000:=by have:=HL.out;omega
   have q3:(k:Int) - 1=((j+1:Nat):Int):=by omega
   have q4:IntKind.i64.wrap ((k:Int) - 1)=((j+1:Nat):Int):=by rw [wrap_i64_id (by omega) (by omega)];omega
   have q5:((j+1:Nat):Int)<(L.length:Int):=by omega
   obtain ⟨j1,hj1⟩:∃j1,j1=j+1:=⟨_,rfl⟩
   rw [←hj1] at q3 q4 q5 c0 c1
   have HJ1:=Lib.hid hj1
   have HSZX:Hid (XC.size≤899):=Lib.hid (by have:=HX.out;have:=HL.out;omega)
   have HYP:=Lib.hid (HCRC.out.pl j y hy)
   have HVT:=Lib.hid (HCRC.out.val _ _ htc).1
   obtain ⟨pl,lk⟩:=x
   simp only at c0 c1 hst
   clear hch hle htc hbo hsz hlt hlen h3 h1 hj hx hy ht' hg el hbk hj1 hk1 hk2
   by_cases hone:pl=1
   ·subst hone
    have hlk:lk.length≤100∧XC.lk tc t' lk:=by
     rcases hst with ⟨_,g1,g2,g3,_⟩ | ⟨g1,g2,_⟩
     ·exact ⟨g2,g3⟩
     ·have:=HYP.out.1;omega
    have HUL:=Lib.hid (Su.unlock_ok (by have:=HSZX.out;omega) hlk.2)
    have HLL:=Lib.hid hlk.1
    clear hst hlk
    go_upto_region 10 with (fail)
    refine wp_world (fun w2=> w2.cell? ⟨wr.heap.size,0,none⟩=some (.int .i64 1)∧w2.cell? ⟨wr.heap.size,1,none⟩=some (.slice ak lk.length ck)∧Below wr.heap.size wr w2) ⟨cell_of_row _ _ 0 _ _ (0,0) (heap_alloc_new wr _),cell_of_row _ _ 1 _ _ (0,0) (heap_alloc_new wr _),(Below.refl _ _).alloc (Nat.le_refl _) _⟩ ?_
    rintro w2 ⟨d0,d1,b2⟩
    have B2:=Lib.hid b2
    clear b2 c0 c1
    go_wp2_with fail
    refine (rgFollow_any (HCH.out.su.below B2.out) (HBO.out.below B2.out) (HBK.out.below B2.out) (by have:=HSZX.out;omega) (by have:=HLL.out;omega)).mono ?_
    rw [HUL.out]
    rintro e w3 ⟨u,rfl,hu,b3⟩
    have HU:=Lib.hid hu
    have B3:=Lib.hid (B2.out.trans (b3.mono B2.out.size))
    clear hu b3 d0 d1
    go_wp2
    go_roundw
    case rel=> exact ⟨j1,by have:=HJ.out;have:=HLT.out;have:=HJ1.out;omega,by have:=HJ.out;have:=HK2.out;have:=HJ1.out;omega,by go_num,FC,XC,t',HCH.out.below B3.out,HLE.out,by rw [HJ1.out];exact HT'.out,HU.out,by have:=HSZ.out;have:=HJ.out;have:=HJ1.out;omega⟩
    case measure=> have:=HJ.out;have:=HJ1.out;simp [intOf] <;> omega
   ·have hnx:XC.nx tc t':=by
     rcases hst with ⟨g1,_⟩ | ⟨_,_,_,g4⟩
     ·exact absurd g1 hone
     ·exact g4
    have hone':(pl==1)=false:=by simpa using hone
    obtain ⟨b,X2,e2,g1,g2,g3,g4,g5⟩:=Su.next_ok HCH.out.su.ok (by have:=HSZX.out;omega) HVT.out
    have HNX:=Lib.hid hnx
    have HE2:=Lib.hid e2
    have G1:=Lib.hid g1
    have G3:=Lib.hid g3
    have G5:=Lib.hid g5
    clear hst hone hnx e2 g1 g2 g3 g4 g5
    go_upto_region 10 with (fail)
    refine wp_world (fun w2=> w2.cell? ⟨wr.heap.size,0,none⟩=some (.int .i64 pl)∧w2.cell? ⟨wr.heap.size,1,none⟩=some (.slice ak lk.length ck)∧Below wr.heap.size wr w2) ⟨cell_of_row _ _ 0 _ _ (0,0) (heap_alloc_new wr _),cell_of_row _ _ 1 _ _ (0,0) (heap_alloc_new wr _),(Below.refl _ _).alloc (Nat.le_refl _) _⟩ ?_
    rintro w2 ⟨d0,d1,b2⟩
    have B2:=Lib.hid b2
    clear b2 c0 c1
    go_wp2_with fail
    refine (suNext_any (HCH.out.su.below B2.out) (HBO.out.below B2.out) (by have:=HSZX.out;omega)).mono ?_
    rw [HE2.out]
    rintro e w3 ⟨u,rfl,F3,h1,h2,h3,h4⟩
    obtain rfl:b=t':=Su.nx_fun (X:=X2) h1.ok (by have:=G5.out;have:=HSZX.out;omega) G3.out (HNX.out.mono G1.out)
    have HC3:=Lib.hid ((HCH.out.below B2.out).step h1 h3 h4)
    have HU:=Lib.hid h2
    clear h1 h2 h3 h4 d0 d1 hone'
    go_wp2
    go_roundw
    case rel=> exact ⟨j1,by have:=HJ.out;have:=HLT.out;have:=HJ1.out;omega,by have:=HJ.out;have:=HK2.out;have:=HJ1.out;omega,by go_num,F3,X2,b,HC3.out,HLE.out.trans G1.out,by rw [HJ1.out];exact HT'.out,HU.out,by have:=HSZ.out;have:=HJ.out;have:=HJ1.out;have:=G5.out;omega⟩
    case measure=> have:=HJ.out;have:=HJ1.out;simp [intOf] <;> omega
  ·obtain rfl:k=to:=by omega
   clear hlt hch hle htc hbo hsz hk1 hk2
   go_wp2
   go_ret2
   exact ⟨_,rfl,FC,XC,tc,HCH.out,HLE.out,HTC.out,HBO.out,HSZ.out⟩
theorem rgReach_bad (h:StM w vl L lv) (ho:OkS L) (hL:L.length≤1000) (fr to:Int) (hbad:¬ (1≤to∧to≤fr∧fr≤(L.length:Int))) (pv:Value) (av:Option Addr) (n c:Nat):
  Calls Try.prog 16 #[pv,vl,.int .i64 fr,.slice av n c,.int .i64 to] w fun e w'=> e=.returned (.tuple #[.slice none 0 0,.int .i64 2])∧Below w.heap.size w w':=by
 obtain ⟨A,hA⟩:∃A,A=decide (1≤fr∧fr≤(L.length:Int)):=⟨_,rfl⟩
 obtain ⟨C,hC⟩:∃C,C=decide (1≤to∧to≤(L.length:Int)):=⟨_,rfl⟩
 have HTF:Hid (∀w',Below w.heap.size w w'→Calls Try.prog 32 #[vl,.int .i64 fr] w' fun e w2=> e=.returned (.bool A)∧Below w'.heap.size w' w2):=Lib.hid fun w' b=> hA▸rgThere_any (h.below b) ho hL fr
 have HTT:Hid (∀w',Below w.heap.size w w'→Calls Try.prog 32 #[vl,.int .i64 to] w' fun e w2=> e=.returned (.bool C)∧Below w'.heap.size w' w2):=Lib.hid fun w' b=> hC▸rgThere_any (h.below b) ho hL to
 obtain ⟨al,cl,hvl⟩:=h.slice
 subst hvl
 have HD:Hid (A=true→C=true→decide (fr<to)=true):=Lib.hid fun h1 h2=> by
  have h1:=of_decide_eq_true (hA▸h1)
  have h2:=of_decide_eq_true (hC▸h2)
  exact decide_eq_true (by omega)
 clear h ho hL hbad hA hC
 cases A with
 | false=>
  clear HD
  go_enter Try.func16,Try.ntmps16
  go_wp2_with fail
  refine (HTF.out w (Below.refl _ _)).mono ?_
  rintro e w1 ⟨rfl,b1⟩
  have B1:=Lib.hid b1
  clear b1
  go_wp2
  go_ret2
  exact ⟨rfl,B1.out⟩
 | true=>
  cases C with
  | false=>
   clear HD
   go_enter Try.func16,Try.ntmps16
   go_wp2_with fail
   refine (HTF.out w (Below.refl _ _)).mono ?_
   rintro e w1 ⟨rfl,b1⟩
   have B1:=Lib.hid b1
   clear b1
   go_wp2_with fail
   refine (HTT.out w1 B1.out).mono ?_
   rintro e w2 ⟨rfl,b2⟩
   have B2:=Lib.hid (B1.out.trans (b2.mono B1.out.size))
   clear b2
   go_wp2
   go_ret2
   exact ⟨rfl,B2.out⟩
  | true=>
   have hd:fr<to:=of_decide_eq_true (HD.out rfl rfl)
   clear HD
   go_enter Try.func16,Try.ntmps16
   go_wp2_with fail
   refine (HTF.out w (Below.refl _ _)).mono ?_
   rintro e w1 ⟨rfl,b1⟩
   have B1:=Lib.hid b1
   clear b1
   go_wp2_with fail
   refine (HTT.out w1 B1.out).mono ?_
   rintro e w2 ⟨rfl,b2⟩
   have B2:=Lib.hid (B1.out.trans (b2.mono B1.out.size))
   clear b2
   go_wp2
   go_ret2
   exact ⟨rfl,B2.out⟩
end
end Go.Proofs.Ytpcjekgfnfjbpaa
namespace Go.Proofs.Ytpcjekgfnfjbpaa
open Go.RowKit Go.Bas Go.ChangeShapes Go.Maps
attribute [local go_sem ↓] Go.wp_at_zero Go.wp_at_succ
attribute [local go_sem] Oper.semAt_some
def L3:List Stp:= [(1, []),(2, []),(1, [7])]
theorem L3_ok:OkS L3:=by
 intro j x hx
 have hj:=(List.getElem?_eq_some_iff.1 hx).1
 have hj3:j<3:=hj
 rcases (by omega:j=0∨j=1∨j=2) with rfl | rfl | rfl
 ·obtain rfl:(1, [])=x:=Option.some.inj hx
  exact ⟨⟨by decide,by decide⟩,.inl ⟨rfl,rfl,rfl⟩⟩
 ·obtain rfl:(2, [])=x:=Option.some.inj hx
  exact ⟨⟨by decide,by decide⟩,.inr (.inr ⟨(1, []),by decide,rfl,by decide,rfl,rfl⟩)⟩
 ·obtain rfl:(1, [7])=x:=Option.some.inj hx
  exact ⟨⟨by decide,by decide⟩,.inr (.inl ⟨rfl,by decide,by simp⟩)⟩
section
variable {w w' : World} {v : Value} {lv : Nat → Value} {q1 q2 : Nat}
theorem seg_stops (n:Nat) (hn:1≤n) (h:StM w v L3 lv) (hq1:Boxed w q1 36 v) (hq2:Boxed w q2 3 (.int .i64 2)):
  SeqStopsK Fence.wide n Try.prog 44 #[.pointer (some ⟨q1,0,none⟩),.pointer (some ⟨q2,0,none⟩)] (fun x:Nat=> #[natV x]) (KeepF (fun b=> v.ownBlock=some b∨b=q1∨b=q2))
   (fun ys=> ys= [1,2]) (fun pre=> pre= [1] ∨pre= [1,2]) 2 w:=fun l J Jx W hW hJ hJx hY h0=> by
 refine callsIn_wide.2 ?_
 obtain ⟨g,o,cap,a1,k1,ev,hg,c0,_,_⟩:=(h.below hW).at (j:=0) (x:=(1, [])) rfl
 obtain ⟨g',o',cap',a2,k2,ev2,_,c1,_,_⟩:=(h.below hW).at (j:=1) (x:=(2, [])) rfl
 obtain ⟨g'',o'',cap'',a3,k3,ev3,_,c2,_,_⟩:=(h.below hW).at (j:=2) (x:=(1, [7])) rfl
 rw [ev] at ev2 ev3
 cases ev2
 cases ev3
 have HTH:=Lib.hid (rgThere_any (h.below hW) L3_ok (by decide) 2)
 subst ev
 have hQ1:Boxed W q1 36 (.slice (some ⟨g,o,none⟩) L3.length cap):=by unfold Boxed;rw [hW.block q1 hq1.lt];exact hq1
 have hQ2:Boxed W q2 3 (.int .i64 2):=by unfold Boxed;rw [hW.block q2 hq2.lt];exact hq2
 have HQ1:=Lib.hid hQ1
 have HQ2:=Lib.hid hQ2
 have HY:=Lib.hid hY
 have HH0:=Lib.hid h0
 have z1:=hQ1.cell
 have z2:=hQ2.cell
 have C0:=Lib.hid c0
 have C1:=Lib.hid c1
 have C2:=Lib.hid c2
 have HGL:=Lib.hid hg
 have HJ:=Lib.hid hJ
 have HQ1L:=Lib.hid hQ1.lt
 have HQ2L:=Lib.hid hQ2.lt
 clear hY hJ hJx h0 hW h hq1 hq2 hQ1 hQ2
 go_enter Try.func44,Try.ntmps44
 go_wp2_with fail
 refine HTH.out.mono ?_
 rw [show decide ((1:Int)≤2∧(2:Int)≤((L3.length:Nat):Int))=true from by decide]
 rintro e w1 ⟨rfl,b1⟩
 have HJ1:=Lib.hid (HJ.out _ _ _ none HH0.out ⟨b1.os,b1.tape,b1.output,b1.size,fun k hk _=> b1.block k hk⟩ (fun r e=> by cases e))
 have K1:Hid (KeepF (fun b=> (Value.slice (some ⟨g,o,none⟩) L3.length cap).ownBlock=some b∨b=q1∨b=q2) W w1):=Lib.hid (KeepF.ofBelow b1 fun b hb=> by rcases hb with hb | rfl | rfl;(· cases hb;exact HGL.out);(· exact HQ1L.out);exact HQ2L.out)
 clear b1
 have y1:w1.cell? ⟨q1,0,none⟩=some (.slice (some ⟨g,o,none⟩) L3.length cap):=(World.cell?_of_block (a:=⟨q1,0,none⟩) (K1.out.2 q1 (.inr (.inl rfl)))).trans HQ1.out.cell
 have y2:w1.cell? ⟨q2,0,none⟩=some (.int .i64 2):=(World.cell?_of_block (a:=⟨q2,0,none⟩) (K1.out.2 q2 (.inr (.inr rfl)))).trans HQ2.out.cell
 have y3:w1.cell? ⟨g,o+1 * 2,none⟩=some (.int .i64 2):=(World.cell?_of_block (a:=⟨g,o+1 * 2,none⟩) (K1.out.2 g (.inl rfl))).trans C1.out
 have hl3:L3.length=3:=rfl
 rw [hl3] at y1 z1 ⊢
 clear z1 z2 c0 c1 c2 hl3
 go_upto_region 1 with (fail)
 refine wp_region_quiet_lit (by kernel_rfl) (by kernel_rfl) ?_
 repeat (quiet_step (fail))
 rw [show IntKind.i64.wrap 1=1 from by decide]
 repeat (quiet_step (fail))
 rw [show IntKind.i64.wrap (IntKind.i64.wrap 0+1)=1 from by decide]
 refine wpQuiet_nil ?_
 rintro _ ⟨nq,rfl⟩
 have hbd:=Go.Bas.below_drewN (Below.refl w1.heap.size w1) nq
 have HJ2:=Lib.hid (HJ.out _ _ _ none HJ1.out ⟨hbd.os,hbd.tape,hbd.output,hbd.size,fun k hk _=> hbd.block k hk⟩ (fun r e=> by cases e))
 have K2:Hid (KeepF (fun b=> (Value.slice (some ⟨g,o,none⟩) L3.length cap).ownBlock=some b∨b=q1∨b=q2) W (w1.drewN nq)):=Lib.hid ⟨Nat.le_trans K1.out.1 hbd.size,fun b hb=> (hbd.block b (by rcases hb with hb | rfl | rfl;(· cases hb;exact Nat.lt_of_lt_of_le HGL.out K1.out.1);(· exact Nat.lt_of_lt_of_le HQ1L.out K1.out.1);exact Nat.lt_of_lt_of_le HQ2L.out K1.out.1)).trans (K1.out.2 b hb)⟩
 obtain ⟨w2,hw2⟩:∃w2,w2=w1.drewN nq:=⟨_,rfl⟩
 rw [←hw2] at HJ2 K2 ⊢
 clear hw2 hbd y1 y2 y3
 go_wp2
 go_loopw [4] (fun v wr=> ∃k:Nat,(k=1∨k=2∨k=3)∧v=.int .i64 (k:Int)∧J ([1,2].take (k - 1)) wr∧KeepF (fun b=> (Value.slice (some ⟨g,o,none⟩) L3.length cap).ownBlock=some b∨b=q1∨b=q2) W wr) (fun v _=> 4 - (intOf v).toNat)
 case atStart=> exact ⟨1,.inl rfl,rfl,HJ2.out,K2.out⟩
 case round=>
  obtain ⟨k,hk,rfl,hJs,hnx⟩:=hrel
  have HJS:=Lib.hid hJs
  have HNX:=Lib.hid hnx
  have y1:wr.cell? ⟨q1,0,none⟩=some (.slice (some ⟨g,o,none⟩) L3.length cap):=(World.cell?_of_block (a:=⟨q1,0,none⟩) (HNX.out.2 q1 (.inr (.inl rfl)))).trans HQ1.out.cell
  have y2:wr.cell? ⟨q2,0,none⟩=some (.int .i64 2):=(World.cell?_of_block (a:=⟨q2,0,none⟩) (HNX.out.2 q2 (.inr (.inr rfl)))).trans HQ2.out.cell
  have y3:wr.cell? ⟨g,o+2 * 2,none⟩=some (.int .i64 1):=(World.cell?_of_block (a:=⟨g,o+2 * 2,none⟩) (HNX.out.2 g (.inl rfl))).trans C2.out
  rw [show L3.length=3 from rfl] at y1
  clear hJs hnx
  rcases hk with rfl | rfl | rfl
  ·obtain ⟨fn,tmps,assign,body,hy,hR⟩:=HY.out _ 1 wr HJS.out (by decide)
   change (Instr.yield l #[Value.int .i64 1]).run Try.prog wr= _ at hy
   rw [show ((1:Nat):Int)=1 from rfl]
   go_upto_region 4 with (fail)
   refine (wpIn_wide (n:=n)).1 ?_
   gi_wp2_with fail
   refine hR.mono ?_
   rintro e W3 (⟨rfl,hJ3,hk3⟩ | ⟨rfl,hJx3⟩)
   ·have HN3:=Lib.hid (HNX.out.trans hk3)
    have HJ3:=Lib.hid hJ3
    clear hJ3 hk3 y1 y2 y3
    gi_wp2
    go_wp2
    go_roundw
    case rel=> first | exact ⟨2,by decide,rfl,HJ3.out,HN3.out⟩ | ((repeat apply Exists.intro);exact ⟨⟨2,by decide,rfl,HJ3.out,HN3.out⟩,rfl⟩)
    case measure=> simp [intOf]
   ·have HJX:=Lib.hid hJx3
    clear hJx3 y1 y2 y3
    gi_wp2
    go_wp2
    refine bodyPost_ret (results_none rfl _ _ _) rfl ?_
    exact ⟨⟨_,rfl⟩,.inr ⟨_,.inl rfl,HJX.out⟩⟩
  ·obtain ⟨fn,tmps,assign,body,hy,hR⟩:=HY.out _ 2 wr HJS.out (by decide)
   change (Instr.yield l #[Value.int .i64 2]).run Try.prog wr= _ at hy
   rw [show ((2:Nat):Int)=2 from rfl]
   go_upto_region 4 with (fail)
   refine (wpIn_wide (n:=n)).1 ?_
   gi_wp2_with fail
   refine hR.mono ?_
   rintro e W3 (⟨rfl,hJ3,hk3⟩ | ⟨rfl,hJx3⟩)
   ·have HN3:=Lib.hid (HNX.out.trans hk3)
    have HJ3:=Lib.hid hJ3
    clear hJ3 hk3 y1 y2 y3
    gi_wp2
    go_wp2
    go_roundw
    case rel=> first | exact ⟨3,by decide,rfl,HJ3.out,HN3.out⟩ | ((repeat apply Exists.intro);exact ⟨⟨3,by decide,rfl,HJ3.out,HN3.out⟩,rfl⟩)
    case measure=> simp [intOf]
   ·have HJX:=Lib.hid hJx3
    clear hJx3 y1 y2 y3
    gi_wp2
    go_wp2
    refine bodyPost_ret (results_none rfl _ _ _) rfl ?_
    exact ⟨⟨_,rfl⟩,.inr ⟨_,.inr rfl,HJX.out⟩⟩
  ·rw [show ((3:Nat):Int)=3 from rfl]
   clear y1
   have y1:wr.cell? ⟨q1,0,none⟩=some (.slice (some ⟨g,o,none⟩) 3 cap):=(World.cell?_of_block (a:=⟨q1,0,none⟩) (HNX.out.2 q1 (.inr (.inl rfl)))).trans HQ1.out.cell
   go_wp2
   refine bodyPost_ret (results_none rfl _ _ _) rfl ?_
   exact ⟨⟨_,rfl⟩,.inl ⟨_,rfl,HJS.out⟩⟩
theorem rgSegment_any (w:World) (a:Option Addr) (m c:Nat) (n:Int):Calls Try.prog 33 #[.slice a m c,.int .i64 n] w fun e w'=> e=.returned (.func (.func 44) #[] #[.pointer (some ⟨w.heap.size,0,none⟩),.pointer (some ⟨w.heap.size+1,0,none⟩)])∧Boxed w' w.heap.size 36 (.slice a m c)∧Boxed w' (w.heap.size+1) 3 (.int .i64 n)∧Below w.heap.size w w':=by
 go_enter Try.func33,Try.ntmps33
 go_wp2
 go_ret
 refine ⟨by simp,(Boxed.new w _ _).alloc _,?_,((Below.refl _ _).alloc (Nat.le_refl _) _).alloc (by simp) _⟩
 have:=Boxed.new (w.alloc (.cells #[.slice a m c] 36)) 3 (.int .i64 n)
 rwa [World.size_alloc] at this
theorem rgFirst_three (h:StM w v L3 lv):Calls Try.prog 19 #[v,.int .i64 2] w fun e w'=> e=.returned (.int .i64 1)∧Below w.heap.size w w':=by
 obtain ⟨av,cv,rfl⟩:=h.slice
 have H:=Lib.hid h
 clear h
 refine (callsIn_wide (n:=9)).1 ?_
 refine callsIn_of_wp_marks Try.func19 rfl trivial ?_ rfl
 simp only [Try.ntmps19,List.size_toArray,List.length_cons,List.length_nil,Nat.reduceAdd,Nat.reduceSub,Array.replicate_succ,Array.replicate_zero,List.push_toArray,List.append_toArray,List.nil_append,List.cons_append]
 refine wpIn_wide.2 ?_
 go_upto_region 1 with (fail)
 refine wp_world (fun w1=> Boxed w1 w.heap.size 3 (.int .i64 0)∧Below w.heap.size w w1) ⟨Boxed.new w _ _,(Below.refl _ _).alloc (Nat.le_refl _) _⟩ ?_
 rintro w1 ⟨x1,b1⟩
 have X1:=Lib.hid x1
 have B1:=Lib.hid b1
 clear x1 b1
 go_wp2_with fail
 refine (rgSegment_any w1 av L3.length cv 2).mono ?_
 rintro e w2 ⟨rfl,xa,xb,b2⟩
 have HS:=Lib.hid (H.out.below (B1.out.trans (b2.mono B1.out.size)))
 have X2:Hid (Boxed w2 w.heap.size 3 (.int .i64 0)):=Lib.hid (by unfold Boxed;rw [b2.block _ X1.out.lt];exact X1.out)
 have B2:=Lib.hid (B1.out.trans (b2.mono B1.out.size))
 have XA:=Lib.hid xa
 have XB:=Lib.hid xb
 clear xa xb b2
 have hstop:=seg_stops 8 (by decide) HS.out XA.out XB.out
 have HGL:Hid (∀b,((Value.slice av L3.length cv).ownBlock=some b∨b=w1.heap.size∨b=w1.heap.size+1)→b<w2.heap.size):=Lib.hid fun b hb=> by
  rcases hb with hb | rfl | rfl
  ·obtain ⟨g,o,cap,_,_,e,hg,_⟩:=HS.out.at (j:=0) (x:=(1, [])) rfl
   cases e
   cases hb
   exact hg
  ·exact XA.out.lt
  ·exact XB.out.lt
 go_wp2
 refine (wpIn_wide (n:=9)).1 ?_
 refine wpIn_rangeFunc_ownF (F:=Fence.wide) (n:=9) rfl (by decide) (gf:=44) rfl trivial (enters_of Try.func44 (by kernel_rfl) rfl) hstop (fun h k=> h.trans k) (keepF_b HGL.out) (Below.refl _ _) (fun _=> rfl)
  (fun pre W=> pre= [] ∧Boxed W w.heap.size 3 (.int .i64 0)∧Below w.heap.size w W) (fun cd pre W=> cd=Code.ret∧∃x:Nat,pre= [x] ∧Boxed W w.heap.size 3 (natV x)∧Below w.heap.size w W) ?hI ?hIx ?h0 ?a1 ?assign ?body ?done ?stop
 case assign=>
  intro l x W K hK
  gi_wp2
  exact hK
 case hI=> exact (ownFrom_pure _ _).and (((boxed_own _ _ fun _=> _).from _).and (ownFrom_below (Nat.le_refl _) B2.out.size))
 case hIx=> exact fun cd s W W' row ⟨e,x,hp,hb,hbl⟩ hg hr=> ⟨e,x,hp,(boxed_own _ _ fun _:Unit=> natV x).from _ () W W' row hb hg hr,ownFrom_below (β:=Unit) (Nat.le_refl _) B2.out.size () W W' row hbl hg hr⟩
 case h0=> exact ⟨rfl,X2.out,B2.out⟩
 case body=>
  rintro l pre x W ⟨rfl,hx,hb⟩ _
  have HX:=Lib.hid hx
  have HB:=Lib.hid hb
  have c0:=hx.cell
  have fr:=hx.frozen
  clear hx hb
  gi_wp2
  exact ⟨KeepsOthers.setCell _ _ _,rfl,x,rfl,HX.out.set _,HB.out.setCell (Nat.le_refl _) _⟩
 case done=>
  rintro D ys W hD rfl ⟨h,_⟩ hKD
  cases h
 case stop=>
  rintro D c pre W hD hsp ⟨rfl,x,rfl,hbx,hbl⟩ hKD
  obtain rfl:x=1:=by
   rcases hsp with h | h
   ·simpa using h
   ·simp at h
  have hne:w.heap.size≠D:=by have:=X2.out.lt;omega
  have e2:(W.putObj D (.deferred none)).cell? ⟨w.heap.size,0,none⟩=some (.int .i64 1):=(hbx.kept (grownBy_putObj' W D _) (fun e=> hne (Option.some.inj e))).cell
  have b2:Below w.heap.size w (W.putObj D (.deferred none)):=hbl.trans (belowK_b (w:=w) (Nat.le_refl _) W D _ _ (by have:=B2.out.size;omega) hKD rfl rfl)
  gi_wp2
  refine ⟨by simp,.inl ⟨_,_,rfl,run_takeDeferred hKD,?_⟩⟩
  exact ⟨.int .i64 1,by simp [results,Try.results19,go_sem,e2],rfl,b2⟩
end
end Go.Proofs.Ytpcjekgfnfjbpaa
namespace Go.Proofs.Ytpcjekgfnfjbpaa
open Go.RowKit Go.Bas Go.ChangeShapes Go.Maps
attribute [local go_sem ↓] Go.wp_at_zero Go.wp_at_succ
section
variable {w w' : World}
theorem lit_three (w5:World):StM ((w5.alloc (.cells #[.int .u8 7] 5)).alloc (.cells #[.int .i64 1,.slice none 0 0,.int .i64 2,.slice none 0 0,.int .i64 1,.slice (some ⟨w5.heap.size,0,none⟩) 1 1] 41)) (.slice (some ⟨w5.heap.size+1,0,none⟩) 3 3) L3
  (fun j=> if j=2 then .slice (some ⟨w5.heap.size,0,none⟩) 1 1 else .slice none 0 0):=by
 have hb:=heap_alloc_new (w5.alloc (.cells #[.int .u8 7] 5)) (.cells #[.int .i64 1,.slice none 0 0,.int .i64 2,.slice none 0 0,.int .i64 1,.slice (some ⟨w5.heap.size,0,none⟩) 1 1] 41)
 rw [World.size_alloc] at hb
 have hc:=fun i=> cell_of_row _ _ i _ _ (0,0) hb
 have h7:Rd .u8 (w5.alloc (.cells #[.int .u8 7] 5)) (.slice (some ⟨w5.heap.size,0,none⟩) 1 1) 1 (bf [7]):=lit1_rd (x:=7) |>.congr fun i hi=> by obtain rfl:i=0:=(by omega);rfl
 refine ⟨⟨_,_,rfl,Nat.le_refl _,by decide,fun _=> ⟨_,0,rfl,(Array.getElem?_eq_some_iff.1 hb).1,fun j hj i hi=> ?_⟩⟩,fun j x hx=> ?_⟩
 ·rw [Nat.zero_add,hc]
  have hj3:j<3:=hj
  rcases (by omega:j=0∨j=1∨j=2) with rfl | rfl | rfl<;> rcases (by omega:i=0∨i=1) with rfl | rfl<;> rfl
 ·have hj3:j<3:=(List.getElem?_eq_some_iff.1 hx).1
  rcases (by omega:j=0∨j=1∨j=2) with rfl | rfl | rfl
  ·obtain rfl:=Option.some.inj hx;exact Rd.nil _ _ _
  ·obtain rfl:=Option.some.inj hx;exact Rd.nil _ _ _
  ·obtain rfl:=Option.some.inj hx;exact h7.below ((Below.refl _ _).alloc (Nat.le_refl _) _)
theorem rgAwake_any (w:World):Calls Try.prog 6 #[] w fun e w'=> e=.returned (.bool true)∧Below w.heap.size w w':=by
 go_enter Try.func6,Try.ntmps6
 go_wp2_with fail
 refine (suTerms_any w).mono ?_
 rintro e w1 ⟨p,F1,rfl,h1,b1⟩
 have M1:Hid (SuM w.heap.size w1 p F1 (.tm ⟨[], []⟩)):=Lib.hid h1
 have B1:=Lib.hid b1
 clear h1 b1
 obtain ⟨a,XA,e1,g1,g2,g3,g4⟩:=Su.draw_ok (X:=.tm ⟨[], []⟩) TS.few.nil (by decide) 2 (by decide)
 have HD:=Lib.hid (suDraw_any M1.out 2 (by decide))
 rw [e1] at HD
 have G2:=Lib.hid g2
 have G3:=Lib.hid g3
 have G4:Hid (XA.size=1):=Lib.hid g4
 have GL:=Lib.hid g1
 clear e1 g1 g2 g3 g4
 go_wp2_with fail
 refine HD.out.mono ?_
 rintro e w2 ⟨sv,rfl,F2,h1,h2,h3,h4⟩
 have M2:=Lib.hid h1
 have Y2:=Lib.hid h2
 have B2:=Lib.hid (B1.out.trans (h3.below (Nat.le_of_lt (Nat.lt_of_le_of_lt M1.out.pLt.2 M1.out.pLt.1)) fun b hb=> M1.out.hi hb))
 obtain ⟨ax,cx,rfl,_⟩:=h2.rd
 clear h1 h2 h3 h4
 go_wp2_with fail
 refine (rgDown_any M2.out Y2.out G2.out G3.out 1 (by decide) (by rw [G4.out];decide)).mono ?_
 rintro e w3 ⟨ub,rfl,b,X3,⟨F3,h1,h2,h3,h4,h5,h6⟩,⟨a',ea,hnx⟩,hv,hl⟩
 obtain rfl:a'=a:=ea
 have M3:=Lib.hid h1
 have Z3:=Lib.hid h2
 have Y3:=Lib.hid (Y2.out.chS h3 h4)
 have L3':=Lib.hid h5
 have S3:Hid (X3.size≤2):=Lib.hid (by have:=G4.out;omega)
 have NX:=Lib.hid hnx
 have B3:=Lib.hid (B2.out.trans (h3.below (Nat.le_of_lt (Nat.lt_of_le_of_lt M2.out.pLt.2 M2.out.pLt.1)) fun b hb=> M2.out.hi hb))
 have HV:=Lib.hid hv
 obtain ⟨ab,cb,rfl,_⟩:=h2.rd
 clear h1 h2 h3 h4 h5 h6 hnx hv hl
 obtain ⟨c,X4,e4,k1,k2,k3,k4,k5⟩:=Su.next_ok M3.out.ok (by have:=S3.out;omega) (G2.out.mono L3'.out)
 have HN:=Lib.hid (suNext_any M3.out Y3.out (by have:=S3.out;omega))
 rw [e4] at HN
 have NX4:=Lib.hid (NX.out.mono k1)
 have K3:=Lib.hid k3
 have S4:Hid (X4.size≤3):=Lib.hid (by have:=S3.out;omega)
 have LE:Hid ((Su.tm ⟨[], []⟩).le X4):=Lib.hid (GL.out.trans (L3'.out.trans k1))
 have VB:=Lib.hid (HV.out.mono k1)
 clear e4 k1 k2 k3 k4 k5
 go_wp2_with fail
 refine HN.out.mono ?_
 rintro e w4 ⟨uc,rfl,F4,h1,h2,h3,h4⟩
 obtain rfl:b=c:=Su.nx_fun (X:=X4) h1.ok (by have:=S4.out;omega) NX4.out K3.out
 have HB9:Hid (b.length=9):=Lib.hid (by
  have hv:=VB.out
  cases X4 with
  | «by» sd n=> exact LE.out.elim
  | tm S=> obtain ⟨n,_,e⟩:=hv;rw [e];exact valT_length _)
 have Z4:=Lib.hid (Z3.out.chS h3 h4)
 have Y4:=Lib.hid h2
 have B4:=Lib.hid (B3.out.trans (h3.below (Nat.le_of_lt (Nat.lt_of_le_of_lt M3.out.pLt.2 M3.out.pLt.1)) fun b hb=> M3.out.hi hb))
 obtain ⟨ac,cc,rfl,_⟩:=h2.rd
 have HS:=Lib.hid (same_q _ _ b.length b.length (bf b) (bf b) w4 Z4.out.rd Y4.out.rd)
 rw [show sameQ b.length (bf b) b.length (bf b)=true from by unfold sameQ;rw [decide_eq_true rfl,sameB_self];rfl] at HS
 rw [HB9.out] at HS ⊢
 clear h1 h2 h3 h4
 go_wp2_with fail
 refine HS.out.mono ?_
 rintro e w5 ⟨rfl,b5⟩
 have B5:=Lib.hid (B4.out.trans (b5.mono B4.out.size))
 clear b5
 go_wp2_with fail
 refine (rgFirst_three (lit_three w5)).mono ?_
 rintro e w6 ⟨rfl,b6⟩
 have B6:=Lib.hid (((B5.out.alloc B5.out.size _).alloc (by rw [World.size_alloc];have:=B5.out.size;omega) _).trans (b6.mono (by rw [World.size_alloc,World.size_alloc];have:=B5.out.size;omega)))
 clear b6
 go_wp2
 go_ret
 exact ⟨rfl,B6.out⟩
end
end Go.Proofs.Ytpcjekgfnfjbpaa
namespace Go.Proofs.Ytpcjekgfnfjbpaa
open Go.RowKit Go.Bas Go.ChangeShapes Go.Maps
attribute [local go_sem ↓] Go.wp_at_zero Go.wp_at_succ
theorem Try.sizeWay:(Try.prog.info? 24).map (·.size)=some 33:=by kernel_rfl
def wayY (b:Bool) (sd:Nat→Int) (i:Nat):Value:=if i=0 then .bool b else .int .u8 (sd (i - 1))
theorem wayV_row (b:Bool) (sd:Nat→Int):WayV b sd=.agg (rowV 33 (wayY b sd)):=by kernel_rfl
theorem Su.new_ok (b:Bool) (sd:Nat→Int):(Su.new b sd).few∧(Su.new b sd).size=0:=by
 cases b
 ·exact ⟨TS.few.nil,rfl⟩
 ·exact ⟨trivial,rfl⟩
section
variable {W w w' w0 w1 w2 w3 : World} {p q : Nat} {F F' F'' G G' : Nat → Prop} {v u v' vl vs vl' vs' sv : Value} {a b c t t' x : List Int} {X X' X'' XA XB : Su} {B n : Nat}
theorem SuM.base {B':Nat} (h:SuM B w p F X) (hB:B'≤B):SuM B' w p F X:=by
 cases X with
 | «by» sd n=> exact ⟨⟨h.1.r,h.1.sdb,Nat.le_trans hB h.1.hp⟩,h.2⟩
 | tm S=> exact SuT.base h hB
end
end Go.Proofs.Ytpcjekgfnfjbpaa
namespace Go.Proofs.Ytpcjekgfnfjbpaa
open Go.RowKit Go.Bas Go.ChangeShapes Go.Maps
attribute [local go_sem ↓] Go.wp_at_zero Go.wp_at_succ
section
variable {W w w' w0 w1 w2 w3 : World} {p q : Nat} {F F' F'' G G' : Nat → Prop} {v u v' vl vs vl' vs' sv : Value} {a b c t t' x : List Int} {X X' X'' XA XB : Su} {L : List Stp} {T : List (List Int)} {lv tv : Nat → Value} {L0 pl m : Nat} {B : Nat} {S : TS}
theorem run_index_rowsO {P:Program} {a:Act} {o':Oper} {w:World} {T e:TypeId} {x y:Operand} {k:IntKind} {b o n c sz i:Nat} (ho:o'.op=.indexAddr T x y) (hx:a.eval x=.slice (some ⟨b,o,none⟩) n c) (hy:a.eval y=.int k (i:Int)) (hu:P.underlying T=some (.slice e)) (hi:(P.info? e).map (·.size)=some sz)
  (h1:i<n):(execOp a.eval o').run P w=.ok (.value (.pointer (some ⟨b,o+i * sz,none⟩))) w:=by
 obtain ⟨q,hi1,hi2⟩:=Option.map_eq_some_iff.1 hi
 unfold execOp;simp only [ho,hx,hy]
 simp [Instr.indexAt,asIntOf,run_underlying hu,sizeOf,typeInfo,hi1,hi2,h1,Addr.add]
theorem rRight24_any (h:StM w v L lv) (ho:OkS L) (hl:L.length≤1000):Calls Try.prog 18 #[v] w fun e w'=> e=.returned (.bool true)∧Below w.heap.size w w':=by
 have H:=Lib.hid h
 have HO:=Lib.hid ho
 have HL:=Lib.hid hl
 obtain ⟨av,cv,rfl⟩:=h.slice
 clear h ho hl
 go_enter Try.func18,Try.ntmps18
 go_wp2
 go_loopw [3] (fun i wr=> ∃j:Nat,j≤L.length∧i=.int .i64 (j:Int)∧Below w.heap.size w wr) (fun i _=> L.length - (intOf i).toNat)
 case atStart=> exact ⟨0,Nat.zero_le _,rfl,Below.refl _ _⟩
 case round=>
  obtain ⟨j,hj,rfl,hb⟩:=hrel
  have HB:=Lib.hid hb
  by_cases hlt:j<L.length
  ·obtain ⟨x,hx⟩:∃x,L[j]? =some x:=⟨_,List.getElem?_eq_getElem hlt⟩
   obtain ⟨g,o,cap,al,cl,ev,hg,c0,c1,_⟩:=(H.out.below hb).at hx
   cases ev
   have hk9:(j:Int)<(L.length:Int):=by omega
   have hk8:(j:Int)<1000000:=by have:=HL.out;omega
   have HLT:=Lib.hid hlt
   have HOX:=Lib.hid (HO.out j x hx)
   obtain ⟨pl,lk⟩:=x
   simp only at c0 c1 HOX
   have HG:=Lib.hid hg
   have HC0:=Lib.hid c0
   have HC1:=Lib.hid c1
   clear hb hj hx hlt hg
   rcases HOX.out.2 with ⟨rfl,rfl,e2⟩ | ⟨rfl,hj0,e2⟩ | ⟨y,hj0,hy,hy4,hpl,e2⟩
   ·subst e2
    rw [List.length_nil] at c1
    rw [Nat.zero_mul,Nat.add_zero] at c0 c1
    rw [show ((0:Nat):Int)=0 from rfl] at hk9 ⊢
    clear hk8
    have hk7:L≠ [] :=fun e=> by have:=HLT.out;rw [e] at this;simp at this
    have hk6:0<L.length:=HLT.out
    go_wp2
    go_roundw
    case rel=> exact ⟨1,HLT.out,rfl,HB.out⟩
    case measure=> have:=HLT.out;simp [intOf] <;> omega
   ·have q1:((j:Int)==0)=false:=by simp;omega
    have q2:((lk.length:Int)==0)=false:=by simp;exact e2
    have q3:(0:Int)<(j:Int):=by omega
    have q4:0<j:=hj0
    have q5:¬ j=0:=by omega
    have q6:lk≠ [] :=e2
    clear e2 hj0
    go_wp2
    go_roundw
    case rel=> exact ⟨j+1,HLT.out,by go_num,HB.out⟩
    case measure=> have:=HLT.out;simp [intOf] <;> omega
   ·obtain ⟨yp,yl⟩:=y
    simp only at hy hy4 hpl
    subst e2
    have hyb:=(HO.out (j - 1) _ hy).1
    obtain ⟨i,hi⟩:∃i,j=i+1:=⟨j - 1,by omega⟩
    rw [hi,Nat.add_sub_cancel] at hy
    obtain ⟨g',o',cap',al',cl',ev',_,d0,_,_⟩:=(H.out.below HB.out).at hy
    cases ev'
    have HD0:=Lib.hid d0
    have HYB:Hid (1≤yp∧yp<4):=Lib.hid ⟨hyb.1,hy4⟩
    have HPL:=Lib.hid hpl
    have HI:=Lib.hid hi
    have q1:(pl==1)=false:=by simp;have:=hyb.1;simp only at this;omega
    clear hj0 hy hyb hy4 d0
    rw [List.length_nil] at c1
    clear c1 hi hpl
    go_upto_region 7 with (fail)
    have hw1:IntKind.i64.wrap ((j:Int) - 1)=(i:Int):=by have:=HI.out;have:=HL.out;have:=HLT.out;rw [wrap_i64_id (by omega) (by omega)];omega
    have hw2:IntKind.i64.wrap (pl - 1)=yp:=by have:=HPL.out;have:=HYB.out;rw [wrap_i64_id (by omega) (by omega)];omega
    have hq0:((j:Int)==0)=false:=by have:=HI.out;simp;omega
    have HLI:Hid (i<L.length):=Lib.hid (by have:=HI.out;have:=HLT.out;omega)
    refine region_flow (n:=82) (by kernel_rfl) (by kernel_rfl) (by kernel_rfl) rfl
     (fun ii vv _=> (match ii with | 0 | 4 | 12 | 20 | 26 | 35=> vv=.int .i64 ((j:Int)) | 1 | 2 | 8 | 9 | 10 | 16 | 17 | 18 | 31 | 32 | 33 | 40 | 41=> vv=.bool false | 3 | 11 | 19 | 25 | 34=> vv=.slice (some ⟨g,o,none⟩) L.length cv | 5 | 6 | 13 | 14 | 27 | 28 | 36=> vv=.pointer (some ⟨g,o+j * 2,none⟩) | 7 | 15 | 29=> vv=.int .i64 (pl) | 21=> vv=.int .i64 ((i:Int)) | 22 | 23=> vv=.pointer (some ⟨g,o+i * 2,none⟩) | 24 | 30=> vv=.int .i64 (yp) | 37=> vv=.pointer (some ⟨g,o+j * 2+1,none⟩) | 38=> vv=.slice al ([] :List Int).length cl | 39=> vv=.int .i64 ((([] :List Int).length:Int)) | _=> True))
     (fun w w'=> Below w.heap.size w w') (fun _ _ h=> h) (fun _ _ _ _ h _=> h) ?_ ?_
    ·refine Each.all ?_
     refine ⟨?_,?_,?_,?_,?_,?_,?_,?_,?_,?_,?_,?_,?_,?_,?_,?_,?_,?_,?_,?_,?_,?_,?_,?_,?_,?_,?_,?_,?_,?_,?_,?_,?_,?_,?_,?_,?_,?_,?_,?_,?_,?_,trivial⟩
     ·intro a w2 hB hF hd
      rw [if_pos (wanted_none rfl)]
      exact flow_move _ (.inl rfl) (by simp) (hF.same 3 rfl)
     ·intro a w2 hB hF hd
      rw [if_pos (wanted_none rfl)]
      refine flow_val (fun h=> by cases h) (Go.Bas.run_eql_int rfl (hd 0 _ rfl (waits_spec rfl)) rfl) ?_
      exact congrArg Value.bool hq0
     ·intro a w2 hB hF hd
      rw [if_pos (wanted_none rfl)]
      exact flow_move _ (.inl rfl) (by simp) (hd 1 _ rfl (waits_spec rfl))
     ·intro a w2 hB hF hd
      refine flow_wanted (wanted_yes rfl rfl (hd 2 _ rfl (waits_spec rfl)) rfl) ?_
      exact flow_move _ (.inl rfl) (by simp) (hF.same 0 rfl)
     ·intro a w2 hB hF hd
      refine flow_wanted (wanted_yes rfl rfl (hd 2 _ rfl (waits_spec rfl)) rfl) ?_
      exact flow_move _ (.inl rfl) (by simp) (hF.same 3 rfl)
     ·intro a w2 hB hF hd
      refine flow_wanted (wanted_yes rfl rfl (hd 2 _ rfl (waits_spec rfl)) rfl) ?_
      exact flow_val (fun h=> by cases h) (run_index_rowsO (i:=j) (sz:=2) rfl (hd 3 _ rfl (waits_spec rfl)) (hd 4 _ rfl (waits_spec rfl)) Try.underlying36 (by kernel_rfl) HLT.out) rfl
     ·intro a w2 hB hF hd
      refine flow_wanted (wanted_yes rfl rfl (hd 2 _ rfl (waits_spec rfl)) rfl) ?_
      refine flow_val (fun h=> by cases h) (run_field_at (m:=0) (k:=0) rfl (hd 5 _ rfl (waits_spec rfl)) (by kernel_rfl)) ?_
      exact rfl
     ·intro a w2 hB hF hd
      refine flow_wanted (wanted_yes rfl rfl (hd 2 _ rfl (waits_spec rfl)) rfl) ?_
      exact flow_val (fun h=> by cases h) (run_load_cell rfl (hd 6 _ rfl (waits_spec rfl)) Try.underlying3 ((hB.cell (p:=⟨g,o+j * 2,none⟩) HG.out).trans HC0.out)) rfl
     ·intro a w2 hB hF hd
      refine flow_wanted (wanted_yes rfl rfl (hd 2 _ rfl (waits_spec rfl)) rfl) ?_
      exact flow_val (fun h=> by cases h) (Go.Bas.run_lss rfl (hd 7 _ rfl (waits_spec rfl)) rfl) (congrArg Value.bool (decide_eq_false (by have:=HPL.out;have:=HYB.out;omega)))
     ·intro a w2 hB hF hd
      rw [if_pos (wanted_none rfl)]
      exact flow_val (fun h=> by cases h) (run_pick rfl (hd 2 _ rfl (waits_spec rfl))) ((hd 8 _ rfl (waits_spec rfl)))
     ·intro a w2 hB hF hd
      rw [if_pos (wanted_none rfl)]
      exact flow_move _ (.inl rfl) (by simp) (hd 9 _ rfl (waits_spec rfl))
     ·intro a w2 hB hF hd
      refine flow_wanted (wanted_yes rfl rfl (hd 10 _ rfl (waits_spec rfl)) rfl) ?_
      exact flow_move _ (.inl rfl) (by simp) (hF.same 0 rfl)
     ·intro a w2 hB hF hd
      refine flow_wanted (wanted_yes rfl rfl (hd 10 _ rfl (waits_spec rfl)) rfl) ?_
      exact flow_move _ (.inl rfl) (by simp) (hF.same 3 rfl)
     ·intro a w2 hB hF hd
      refine flow_wanted (wanted_yes rfl rfl (hd 10 _ rfl (waits_spec rfl)) rfl) ?_
      exact flow_val (fun h=> by cases h) (run_index_rowsO (i:=j) (sz:=2) rfl (hd 11 _ rfl (waits_spec rfl)) (hd 12 _ rfl (waits_spec rfl)) Try.underlying36 (by kernel_rfl) HLT.out) rfl
     ·intro a w2 hB hF hd
      refine flow_wanted (wanted_yes rfl rfl (hd 10 _ rfl (waits_spec rfl)) rfl) ?_
      refine flow_val (fun h=> by cases h) (run_field_at (m:=0) (k:=0) rfl (hd 13 _ rfl (waits_spec rfl)) (by kernel_rfl)) ?_
      exact rfl
     ·intro a w2 hB hF hd
      refine flow_wanted (wanted_yes rfl rfl (hd 10 _ rfl (waits_spec rfl)) rfl) ?_
      exact flow_val (fun h=> by cases h) (run_load_cell rfl (hd 14 _ rfl (waits_spec rfl)) Try.underlying3 ((hB.cell (p:=⟨g,o+j * 2,none⟩) HG.out).trans HC0.out)) rfl
     ·intro a w2 hB hF hd
      refine flow_wanted (wanted_yes rfl rfl (hd 10 _ rfl (waits_spec rfl)) rfl) ?_
      exact flow_val (fun h=> by cases h) (Go.Bas.run_gtr rfl (hd 15 _ rfl (waits_spec rfl)) rfl) (congrArg Value.bool (decide_eq_false (by have:=HPL.out;have:=HYB.out;omega)))
     ·intro a w2 hB hF hd
      rw [if_pos (wanted_none rfl)]
      exact flow_val (fun h=> by cases h) (run_pick rfl (hd 10 _ rfl (waits_spec rfl))) ((hd 16 _ rfl (waits_spec rfl)))
     ·intro a w2 hB hF hd
      rw [if_pos (wanted_none rfl)]
      exact flow_move _ (.inl rfl) (by simp) (hd 17 _ rfl (waits_spec rfl))
     ·intro a w2 hB hF hd
      refine flow_wanted (wanted_yes rfl rfl (hd 18 _ rfl (waits_spec rfl)) rfl) ?_
      exact flow_move _ (.inl rfl) (by simp) (hF.same 0 rfl)
     ·intro a w2 hB hF hd
      refine flow_wanted (wanted_yes rfl rfl (hd 18 _ rfl (waits_spec rfl)) rfl) ?_
      exact flow_move _ (.inl rfl) (by simp) (hF.same 3 rfl)
     ·intro a w2 hB hF hd
      refine flow_wanted (wanted_yes rfl rfl (hd 18 _ rfl (waits_spec rfl)) rfl) ?_
      exact flow_val (fun h=> by cases h) (Go.Bas.run_sub rfl (hd 20 _ rfl (waits_spec rfl)) rfl) (congrArg (Value.int .i64) (hw1))
     ·intro a w2 hB hF hd
      refine flow_wanted (wanted_yes rfl rfl (hd 18 _ rfl (waits_spec rfl)) rfl) ?_
      exact flow_val (fun h=> by cases h) (run_index_rowsO (i:=i) (sz:=2) rfl (hd 19 _ rfl (waits_spec rfl)) (hd 21 _ rfl (waits_spec rfl)) Try.underlying36 (by kernel_rfl) HLI.out) rfl
     ·intro a w2 hB hF hd
      refine flow_wanted (wanted_yes rfl rfl (hd 18 _ rfl (waits_spec rfl)) rfl) ?_
      refine flow_val (fun h=> by cases h) (run_field_at (m:=0) (k:=0) rfl (hd 22 _ rfl (waits_spec rfl)) (by kernel_rfl)) ?_
      exact rfl
     ·intro a w2 hB hF hd
      refine flow_wanted (wanted_yes rfl rfl (hd 18 _ rfl (waits_spec rfl)) rfl) ?_
      exact flow_val (fun h=> by cases h) (run_load_cell rfl (hd 23 _ rfl (waits_spec rfl)) Try.underlying3 ((hB.cell (p:=⟨g,o+i * 2,none⟩) HG.out).trans HD0.out)) rfl
     ·intro a w2 hB hF hd
      refine flow_wanted (wanted_yes rfl rfl (hd 18 _ rfl (waits_spec rfl)) rfl) ?_
      exact flow_move _ (.inl rfl) (by simp) (hF.same 0 rfl)
     ·intro a w2 hB hF hd
      refine flow_wanted (wanted_yes rfl rfl (hd 18 _ rfl (waits_spec rfl)) rfl) ?_
      exact flow_move _ (.inl rfl) (by simp) (hF.same 3 rfl)
     ·intro a w2 hB hF hd
      refine flow_wanted (wanted_yes rfl rfl (hd 18 _ rfl (waits_spec rfl)) rfl) ?_
      exact flow_val (fun h=> by cases h) (run_index_rowsO (i:=j) (sz:=2) rfl (hd 25 _ rfl (waits_spec rfl)) (hd 26 _ rfl (waits_spec rfl)) Try.underlying36 (by kernel_rfl) HLT.out) rfl
     ·intro a w2 hB hF hd
      refine flow_wanted (wanted_yes rfl rfl (hd 18 _ rfl (waits_spec rfl)) rfl) ?_
      refine flow_val (fun h=> by cases h) (run_field_at (m:=0) (k:=0) rfl (hd 27 _ rfl (waits_spec rfl)) (by kernel_rfl)) ?_
      exact rfl
     ·intro a w2 hB hF hd
      refine flow_wanted (wanted_yes rfl rfl (hd 18 _ rfl (waits_spec rfl)) rfl) ?_
      exact flow_val (fun h=> by cases h) (run_load_cell rfl (hd 28 _ rfl (waits_spec rfl)) Try.underlying3 ((hB.cell (p:=⟨g,o+j * 2,none⟩) HG.out).trans HC0.out)) rfl
     ·intro a w2 hB hF hd
      refine flow_wanted (wanted_yes rfl rfl (hd 18 _ rfl (waits_spec rfl)) rfl) ?_
      exact flow_val (fun h=> by cases h) (Go.Bas.run_sub rfl (hd 29 _ rfl (waits_spec rfl)) rfl) (congrArg (Value.int .i64) (hw2))
     ·intro a w2 hB hF hd
      refine flow_wanted (wanted_yes rfl rfl (hd 18 _ rfl (waits_spec rfl)) rfl) ?_
      exact flow_val (fun h=> by cases h) (Go.Bas.run_neq_int rfl (hd 24 _ rfl (waits_spec rfl)) (hd 30 _ rfl (waits_spec rfl))) (congrArg Value.bool ((by simp:(yp !=yp)=false)))
     ·intro a w2 hB hF hd
      rw [if_pos (wanted_none rfl)]
      exact flow_val (fun h=> by cases h) (run_pick rfl (hd 18 _ rfl (waits_spec rfl))) ((hd 31 _ rfl (waits_spec rfl)))
     ·intro a w2 hB hF hd
      rw [if_pos (wanted_none rfl)]
      exact flow_move _ (.inl rfl) (by simp) (hd 32 _ rfl (waits_spec rfl))
     ·intro a w2 hB hF hd
      refine flow_wanted (wanted_yes rfl rfl (hd 33 _ rfl (waits_spec rfl)) rfl) ?_
      exact flow_move _ (.inl rfl) (by simp) (hF.same 0 rfl)
     ·intro a w2 hB hF hd
      refine flow_wanted (wanted_yes rfl rfl (hd 33 _ rfl (waits_spec rfl)) rfl) ?_
      exact flow_move _ (.inl rfl) (by simp) (hF.same 3 rfl)
     ·intro a w2 hB hF hd
      refine flow_wanted (wanted_yes rfl rfl (hd 33 _ rfl (waits_spec rfl)) rfl) ?_
      exact flow_val (fun h=> by cases h) (run_index_rowsO (i:=j) (sz:=2) rfl (hd 34 _ rfl (waits_spec rfl)) (hd 35 _ rfl (waits_spec rfl)) Try.underlying36 (by kernel_rfl) HLT.out) rfl
     ·intro a w2 hB hF hd
      refine flow_wanted (wanted_yes rfl rfl (hd 33 _ rfl (waits_spec rfl)) rfl) ?_
      refine flow_val (fun h=> by cases h) (run_field_at (m:=0) (k:=1) rfl (hd 36 _ rfl (waits_spec rfl)) (by kernel_rfl)) ?_
      exact rfl
     ·intro a w2 hB hF hd
      refine flow_wanted (wanted_yes rfl rfl (hd 33 _ rfl (waits_spec rfl)) rfl) ?_
      exact flow_val (fun h=> by cases h) (run_load_slice rfl (hd 37 _ rfl (waits_spec rfl)) Try.underlying28 ((hB.cell (p:=⟨g,o+j * 2+1,none⟩) HG.out).trans HC1.out)) rfl
     ·intro a w2 hB hF hd
      refine flow_wanted (wanted_yes rfl rfl (hd 33 _ rfl (waits_spec rfl)) rfl) ?_
      exact flow_val (fun h=> by cases h) (run_len_sl rfl (hd 38 _ rfl (waits_spec rfl)) Try.underlying28) rfl
     ·intro a w2 hB hF hd
      refine flow_wanted (wanted_yes rfl rfl (hd 33 _ rfl (waits_spec rfl)) rfl) ?_
      exact flow_val (fun h=> by cases h) (Go.Bas.run_gtr rfl (hd 39 _ rfl (waits_spec rfl)) rfl) (congrArg Value.bool (decide_eq_false (by decide)))
     ·intro a w2 hB hF hd
      rw [if_pos (wanted_none rfl)]
      exact flow_val (fun h=> by cases h) (run_pick rfl (hd 33 _ rfl (waits_spec rfl))) ((hd 40 _ rfl (waits_spec rfl)))
    ·intro a w3 hB hF hS
     have ha:=puts_each rfl rfl hF [_,_,_,_,_,_,_,_,_,_,_,_,_,_,_,_,_,_,_,_,_,_,_,_,_,_,_,_,_,_,_,_,_,_,_,_,_,_,_,_,_,_] rfl ⟨hS 0 _ rfl,hS 1 _ rfl,hS 2 _ rfl,hS 3 _ rfl,hS 4 _ rfl,hS 5 _ rfl,hS 6 _ rfl,hS 7 _ rfl,hS 8 _ rfl,hS 9 _ rfl,hS 10 _ rfl,hS 11 _ rfl,hS 12 _ rfl,hS 13 _ rfl,hS 14 _ rfl,hS 15 _ rfl,hS 16 _ rfl,hS 17 _ rfl,hS 18 _ rfl,hS 19 _ rfl,hS 20 _ rfl,hS 21 _ rfl,hS 22 _ rfl,hS 23 _ rfl,hS 24 _ rfl,hS 25 _ rfl,hS 26 _ rfl,hS 27 _ rfl,hS 28 _ rfl,hS 29 _ rfl,hS 30 _ rfl,hS 31 _ rfl,hS 32 _ rfl,hS 33 _ rfl,hS 34 _ rfl,hS 35 _ rfl,hS 36 _ rfl,hS 37 _ rfl,hS 38 _ rfl,hS 39 _ rfl,hS 40 _ rfl,hS 41 _ rfl,trivial⟩
     simp only [puts,Act.put,List.setIfInBounds_toArray,List.set_cons_succ,List.set_cons_zero] at ha
     subst ha
     clear hS hF
     have hb3:=Lib.hid (HB.out.trans (hB.mono HB.out.size))
     clear hB q1 hq0 hw1 hw2
     go_wp2
     go_roundw
     case rel=> exact ⟨j+1,HLT.out,by go_num,hb3.out⟩
     case measure=> have:=HLT.out;simp [intOf] <;> omega
  ·obtain rfl:j=L.length:=by omega
   clear hlt hb hj
   go_wp2
   go_ret
   exact ⟨rfl,HB.out⟩
def SuP (N:Nat) (w:World) (v:Value) (X:Su):Prop:=∃p F,v=.pointer (some ⟨p,0,none⟩)∧SuM N w p F X
theorem SuP.below {N:Nat} (h:SuP N w v X) (hb:Below w.heap.size w w'):SuP N w' v X:=by obtain ⟨p,F,e,h⟩:=h;exact ⟨p,F,e,h.below hb⟩
theorem regressReach_num (w:World) (y:Bool) (sd:Nat→Int) (hs:∀i,i<32→0≤sd i∧sd i<256) (v:Value) (n:Nat) (f:Nat→Int) (hv:Rd .u8 w v n f) (hf:∀i,i<n→0≤f i∧f i<256) (g:Nat→Int) (hg:∀i,i<2→ -9223372036854775808≤g i∧g i≤9223372036854775807):
  Calls Try.prog 5 #[WayV y sd,v,.agg (arr .i64 2 g)] w fun e w'=> e=.returned (.bool true)∧Below w.heap.size w w':=by
 have HV:=Lib.hid hv
 have HF:=Lib.hid hf
 have HWY:Hid (∀w',Below w.heap.size w w'→Calls Try.prog 7 #[.agg (rowV 33 (wayY y sd))] w' fun e w2=> ∃u,e=.returned u∧SuP w.heap.size w2 u (Su.new y sd)∧Below w'.heap.size w' w2):=Lib.hid fun w' hb=> by
  rw [←wayV_row]
  refine (suWay_any y sd hs w').mono ?_
  rintro e w2 ⟨p,F,rfl,h1,b⟩
  exact ⟨_,rfl,⟨p,F,rfl,SuM.base h1 hb.size⟩,b⟩
 have HNO:=Lib.hid (Su.new_ok y sd)
 obtain ⟨V,hV⟩:∃V,V=WayV y sd:=⟨_,rfl⟩
 have HVR:Hid (V=.agg (rowV 33 (wayY y sd))):=Lib.hid (hV.trans (wayV_row y sd))
 rw [←hV]
 obtain ⟨A,hA⟩:∃A,A=Value.agg (arr .i64 2 g):=⟨_,rfl⟩
 rw [←hA]
 have HAA:=Lib.hid hA
 obtain ⟨fr,hfr⟩:∃x,x=g 0:=⟨_,rfl⟩
 obtain ⟨to,hto⟩:∃x,x=g 1:=⟨_,rfl⟩
 have HFB:Hid (-9223372036854775808≤fr∧fr≤9223372036854775807):=Lib.hid (hfr▸hg 0 (by decide))
 have HTB:Hid (-9223372036854775808≤to∧to≤9223372036854775807):=Lib.hid (hto▸hg 1 (by decide))
 have HFR:=Lib.hid hfr
 have HTO:=Lib.hid hto
 obtain ⟨av,cv,rfl,_⟩:=hv
 clear hs hV hf hA hfr hto hg
 go_enter Try.func5,Try.ntmps5
 go_upto_region 1 with (fail)
 refine wp_world (fun w1=> (∀i,i<33→w1.cell? ⟨w.heap.size,0+i,none⟩=some (wayY y sd i))∧Arr .i64 w1 (w.heap.size+1) 2 g∧Below w.heap.size w w1) ?_ ?_
 ·rw [HVR.out,HAA.out]
  exact ⟨fun i hi=> (((Below.refl _ _).alloc (Nat.le_refl _) _).cell (p:=⟨w.heap.size,0+i,none⟩) (by simp)).trans ((cell_of_row _ _ (0+i) _ _ (0,0) (heap_alloc_new w _)).trans (by rw [Nat.zero_add];exact rowV_get hi)),Arr.newAt (by simp) (by rfl),((Below.refl _ _).alloc (Nat.le_refl _) _).alloc (by simp) _⟩
 rintro w1 ⟨hc1,ha1,b1⟩
 have HC1:=Lib.hid hc1
 have HA1:=Lib.hid ha1
 have B1:=Lib.hid b1
 have HL1:Hid (w.heap.size<w1.heap.size):=Lib.hid (World.block_lt_of_cell? _ _ (hc1 0 (by decide)))
 obtain ⟨x3,hx3⟩:∃x,x=w.heap.size:=⟨_,rfl⟩
 obtain ⟨x5,hx5⟩:∃x,x=w.heap.size+1:=⟨_,rfl⟩
 rw [←hx5] at HA1 ⊢
 rw [show (Value.pointer (some ⟨w.heap.size,0,none⟩))=.pointer (some ⟨x3,0,none⟩) by rw [hx3]]
 have HC1:Hid (∀i,i<33→w1.cell? ⟨x3,0+i,none⟩=some (wayY y sd i)):=hx3▸HC1
 have HL1:Hid (x3<w1.heap.size):=hx3▸HL1
 clear hc1 ha1 b1 hx3 hx5
 go_wp2_with fail
 refine (rgAwake_any w1).mono ?_
 rintro e w2 ⟨rfl,b2⟩
 have HC2:Hid (∀i,i<33→w2.cell? ⟨x3,0+i,none⟩=some (wayY y sd i)):=Lib.hid fun i hi=> (b2.cell (p:=⟨x3,0+i,none⟩) HL1.out).trans (HC1.out i hi)
 have HA2:Hid (Arr .i64 w2 x5 2 g):=Lib.hid (HA1.out.kept b2)
 have HL2:Hid (x3<w2.heap.size):=Lib.hid (Nat.lt_of_lt_of_le HL1.out b2.size)
 have B2:=Lib.hid (B1.out.trans (b2.mono B1.out.size))
 clear b2 HC1 HA1 HL1
 by_cases h5:5<n
 ·have q1:(5:Int)<(n:Int):=by omega
  go_wp2
  go_ret
  exact ⟨rfl,B2.out⟩
 have q1:¬ (5:Int)<(n:Int):=by omega
 have HN:Hid (n≤5):=Lib.hid (by omega)
 clear h5
 go_upto_region 5 with (fail)
 refine region_flow (n:=99) (by kernel_rfl) (by kernel_rfl) (by kernel_rfl) rfl
  (fun ii vv ww=> (match ii with | 0=> vv=.agg (rowV 33 (wayY y sd)) | 2=> vv=.pointer (some ⟨x5,0,none⟩) | 3 | 7=> vv=.int .i64 (fr) | 4=> vv=.pointer (some ⟨x5,1,none⟩) | 5 | 8=> vv=.int .i64 (to) | _=> True)∧(ii=1→SuP w.heap.size ww vv (Su.new y sd))∧(ii=6→SuP w.heap.size ww vv (Su.new y sd)))
  (fun w w'=> Below w.heap.size w w') (fun _ _ h=> h) (fun i v w w' h hE=> ⟨h.1,fun e=> SuP.below (h.2.1 e) hE,fun e=> SuP.below (h.2.2 e) hE⟩) ?_ ?_
 ·refine Each.all ?_
  refine ⟨?_,?_,?_,?_,?_,?_,?_,?_,?_,trivial⟩
  ·intro a w2 hB hF hd
   rw [if_pos (wanted_none rfl)]
   exact flow_val (fun h=> by cases h) (run_load_row rfl (hF.same 3 rfl) Try.underlying24 rfl Try.sizeWay (fun i hi=> (hB.cell (p:=⟨x3,0+i,none⟩) HL2.out).trans (HC2.out i hi))) ⟨rfl,fun h=> absurd h (by decide),fun h=> absurd h (by decide)⟩
  ·intro a w2 hB hF hd
   rw [if_pos (wanted_none rfl)]
   refine flow_call _ _ _ rfl Try.call7 _ (args1 ((hd 0 _ rfl (waits_spec rfl)).1)) (by simp) ((HWY.out w2 (B2.out.trans (hB.mono B2.out.size))).mono ?_)
   rintro e w3 ⟨u,rfl,hr,hb⟩;exact ⟨u,rfl,⟨trivial,fun _=> hr,fun h=> absurd h (by decide)⟩,hb⟩
  ·intro a w2 hB hF hd
   rw [if_pos (wanted_none rfl)]
   exact flow_val (fun h=> by cases h) (run_index_addr rfl (hF.same 5 rfl) rfl Try.underlying45 (by kernel_rfl) (by decide) (by decide)) ⟨rfl,fun h=> absurd h (by decide),fun h=> absurd h (by decide)⟩
  ·intro a w2 hB hF hd
   rw [if_pos (wanted_none rfl)]
   exact flow_val (fun h=> by cases h) (run_load_cell rfl ((hd 2 _ rfl (waits_spec rfl)).1) Try.underlying3 (((HA2.out.kept hB).cell 0 (by decide)).trans (congrArg (fun z=> some (Value.int .i64 z)) HFR.out.symm))) ⟨rfl,fun h=> absurd h (by decide),fun h=> absurd h (by decide)⟩
  ·intro a w2 hB hF hd
   rw [if_pos (wanted_none rfl)]
   exact flow_val (fun h=> by cases h) (run_index_addr rfl (hF.same 5 rfl) rfl Try.underlying45 (by kernel_rfl) (by decide) (by decide)) ⟨rfl,fun h=> absurd h (by decide),fun h=> absurd h (by decide)⟩
  ·intro a w2 hB hF hd
   rw [if_pos (wanted_none rfl)]
   exact flow_val (fun h=> by cases h) (run_load_cell rfl ((hd 4 _ rfl (waits_spec rfl)).1) Try.underlying3 (((HA2.out.kept hB).cell 1 (by decide)).trans (congrArg (fun z=> some (Value.int .i64 z)) HTO.out.symm))) ⟨rfl,fun h=> absurd h (by decide),fun h=> absurd h (by decide)⟩
  ·intro a w2 hB hF hd
   rw [if_pos (wanted_none rfl)]
   exact flow_move _ (.inr rfl) (by simp) ⟨trivial,fun h=> absurd h (by decide),fun _=> ((hd 1 _ rfl (waits_spec rfl)).2.1 rfl)⟩
  ·intro a w2 hB hF hd
   rw [if_pos (wanted_none rfl)]
   exact flow_move _ (.inr rfl) (by simp) ⟨((hd 3 _ rfl (waits_spec rfl)).1),fun h=> absurd h (by decide),fun h=> absurd h (by decide)⟩
  ·intro a w2 hB hF hd
   rw [if_pos (wanted_none rfl)]
   exact flow_move _ (.inr rfl) (by simp) ⟨((hd 5 _ rfl (waits_spec rfl)).1),fun h=> absurd h (by decide),fun h=> absurd h (by decide)⟩
 ·intro a w3 hB hF hS
  obtain ⟨x22,hx22⟩:∃x,x=a.tmps.getD 22 undef:=⟨_,rfl⟩
  have P22:SuP w.heap.size w3 x22 (Su.new y sd):=by rw [hx22];exact (hS 1 _ rfl).2.1 rfl
  obtain ⟨x7,hx7⟩:∃x,x=a.tmps.getD 7 undef:=⟨_,rfl⟩
  have P7:SuP w.heap.size w3 x7 (Su.new y sd):=by rw [hx7];exact (hS 6 _ rfl).2.2 rfl
  have ha:=puts_each rfl rfl hF [_,x22,_,_,_,_,x7,_,_] rfl ⟨(hS 0 _ rfl).1,hx22.symm,(hS 2 _ rfl).1,(hS 3 _ rfl).1,(hS 4 _ rfl).1,(hS 5 _ rfl).1,hx7.symm,(hS 7 _ rfl).1,(hS 8 _ rfl).1,trivial⟩
  simp only [puts,Act.put,List.setIfInBounds_toArray,List.set_cons_succ,List.set_cons_zero] at ha
  subst ha
  clear hx22 hx7
  clear hS hF
  have HP:=Lib.hid P7
  have B3:=Lib.hid (B2.out.trans (hB.mono B2.out.size))
  obtain ⟨p,F,ep,_⟩:=id P7
  obtain ⟨p,F,ep,hm⟩:=P7
  subst ep
  have M3:=Lib.hid hm
  clear hB P22 hm HP HC2 HA2 HL2
  go_wp2_with fail
  refine (rgChain_any HV.out HF.out HN.out M3.out (by rw [HNO.out.2];decide) B3.out).mono ?_
  rintro e w4 ⟨vl,vs,rfl,F4,X,L,T,lv,tv,hch,hcr,hle,hsz,hl1,hl2⟩
  have HCH:=Lib.hid hch
  have HCR:=Lib.hid hcr
  have HSZ:Hid (X.size≤85):=Lib.hid (by have:=HN.out;have h0:=HNO.out.2;omega)
  have HLL:Hid (L.length≤20):=Lib.hid (by have:=HN.out;omega)
  obtain ⟨al,cl,hvl,_⟩:=hch.ol.m.slice
  obtain ⟨ax,cx,hvs,_⟩:=hch.os.m.slice
  subst hvl
  subst hvs
  clear hch hcr hle hsz hl1 hl2 q1
  go_wp2_with fail
  refine (rgRight_any HCH.out.stM HCR.out.okS (by have:=HLL.out;omega)).mono ?_
  rintro e w5 ⟨rfl,b5⟩
  have C5:=Lib.hid (HCH.out.below b5)
  clear b5
  go_wp2_with fail
  refine (rRight24_any C5.out.stM HCR.out.okS (by have:=HLL.out;omega)).mono ?_
  rintro e w6 ⟨rfl,b6⟩
  have C6:=Lib.hid (C5.out.below b6)
  clear b6
  by_cases hin:1≤fr∧fr≤(L.length:Int)
  ·obtain ⟨k,rfl⟩:=Int.eq_ofNat_of_zero_le (show 0≤fr by omega)
   have hk1:1≤k:=by omega
   obtain ⟨j,rfl⟩:∃j,k=j+1:=⟨k - 1,by omega⟩
   have HJL:Hid (j<L.length):=Lib.hid (by omega)
   obtain ⟨t,ht⟩:∃t,T[j]? =some t:=⟨_,List.getElem?_eq_getElem (by have:=HCR.out.len;have:=HJL.out;omega)⟩
   obtain ⟨gg,cap,eg,_,_,_,hcg⟩:=C6.out.os.m.form (by have:=HCR.out.len;have:=HJL.out;omega)
   cases eg
   have hbt:=C6.out.bs j t ht
   have zr:=hcg j (by have:=HCR.out.len;have:=HJL.out;omega) 0 (by decide)
   rw [Nat.mul_one,Nat.add_zero] at zr
   have HBT:=Lib.hid hbt
   obtain ⟨at',ct',et',_⟩:=hbt.rd
   have HET:=Lib.hid et'
   rw [et'] at zr
   have HTT:=Lib.hid ht
   obtain ⟨k,hk⟩:∃k,k=j+1:=⟨_,rfl⟩
   rw [←hk]
   have HK:=Lib.hid hk
   have q2:decide ((1:Int)≤(k:Int))=true:=decide_eq_true (by omega)
   have q3:k≤L.length:=by have:=HJL.out;omega
   have q3':decide ((k:Int)≤(L.length:Int))=true:=decide_eq_true (by omega)
   have q4:(k:Int) - 1=(j:Int):=by omega
   have q5:IntKind.i64.wrap ((k:Int) - 1)=(j:Int):=by have:=HJL.out;have:=HLL.out;rw [wrap_i64_id (by omega) (by omega)];omega
   have q6:(j:Int)<(T.length:Int):=by have:=HCR.out.len;have:=HJL.out;omega
   clear hcg hbt et' ht hk hin hk1
   by_cases hto:1≤to∧to≤(k:Int)
   ·obtain ⟨m,rfl⟩:=Int.eq_ofNat_of_zero_le (show 0≤to by omega)
    have HM1:Hid (1≤m∧m≤k):=Lib.hid (by omega)
    have HRE:=Lib.hid (rgReach_any (fr:=k) (to:=m) C6.out HCR.out HM1.out.1 HM1.out.2 q3 (by have:=HLL.out;omega) (by have:=HSZ.out;omega) (by rw [HK.out,Nat.add_sub_cancel];exact HTT.out) HBT.out)
    rw [HET.out] at HRE
    clear hto
    go_wp2_with fail
    refine HRE.out.mono ?_
    rintro e w7 ⟨u,rfl,F7,X7,t7,hch7,hle7,ht7,hb7,_⟩
    obtain ⟨i,hi⟩:∃i,m=i+1:=⟨m - 1,by have:=HM1.out;omega⟩
    rw [hi,Nat.add_sub_cancel] at ht7
    have hbt:=hch7.bs i t7 ht7
    obtain ⟨gg2,cap2,eg2,_,_,_,hcg⟩:=hch7.os.m.form (by have:=HCR.out.len;have:=HJL.out;omega)
    cases eg2
    have zi:=hcg i (by have:=(List.getElem?_eq_some_iff.1 ht7).1;exact this) 0 (by decide)
    rw [Nat.mul_one,Nat.add_zero] at zi
    have HS:=Lib.hid (same_q _ _ t7.length t7.length (bf t7) (bf t7) w7 hb7.rd hbt.rd)
    rw [show sameQ t7.length (bf t7) t7.length (bf t7)=true from by unfold sameQ;rw [decide_eq_true rfl,sameB_self];rfl] at HS
    obtain ⟨a9,c9,e9,_⟩:=hbt.rd
    rw [e9] at zi HS
    obtain ⟨a8,c8,e8,_⟩:=hb7.rd
    subst e8
    have HBE:=Lib.hid hch7.be
    have q7:decide ((m:Int)<1)=false:=decide_eq_false (by have:=HM1.out;omega)
    have q8:decide ((L.length:Int)<(k:Int))=false:=decide_eq_false (by omega)
    have q9:decide ((k:Int)<(m:Int))=false:=decide_eq_false (by have:=HM1.out;omega)
    have q10:(m:Int) - 1=(i:Int):=by omega
    have q11:IntKind.i64.wrap ((m:Int) - 1)=(i:Int):=by have:=HM1.out;have:=HLL.out;rw [wrap_i64_id (by omega) (by omega)];omega
    have q12:(i:Int)<(T.length:Int):=by have:=(List.getElem?_eq_some_iff.1 ht7).1;omega
    have q13:¬ m<1:=by have:=HM1.out;omega
    have q14:¬ L.length<k:=by omega
    have q15:¬ k<m:=by have:=HM1.out;omega
    have q16:m≠0:=by have:=HM1.out;omega
    clear hch7 hle7 ht7 hb7 hbt hcg e9 zr hi q2 q3 q3' q4 q5 q6
    go_wp2_with fail
    refine HS.out.mono ?_
    rintro e w8 ⟨rfl,b8⟩
    have B8:=Lib.hid (HBE.out.trans (b8.mono HBE.out.size))
    clear b8 zi
    go_wp2
    go_ret
    exact ⟨rfl,B8.out⟩
   ·have HRE:=Lib.hid (rgReach_bad C6.out.stM HCR.out.okS (by have:=HLL.out;omega) (k:Int) to (by omega) (.pointer (some ⟨p,0,none⟩)) at' t.length ct')
    have HTO:=Lib.hid hto
    clear hto
    go_wp2_with fail
    refine HRE.out.mono ?_
    rintro e w7 ⟨rfl,b7⟩
    have B7:=Lib.hid (C6.out.be.trans (b7.mono C6.out.be.size))
    clear b7 zr q2 q3' q4 q5 q6
    have q8:¬ L.length<k:=by omega
    have q8':decide ((L.length:Int)<(k:Int))=false:=decide_eq_false (by omega)
    by_cases h1:to<1
    ·have q7:decide (to<1)=true:=decide_eq_true h1
     clear h1
     go_wp2
     go_ret
     exact ⟨rfl,B7.out⟩
    ·have q7:decide (to<1)=false:=decide_eq_false h1
     have q9:decide ((k:Int)<to)=true:=decide_eq_true (by have:=HTO.out;omega)
     clear h1
     go_wp2
     go_ret
     exact ⟨rfl,B7.out⟩
  ·have HRE:=Lib.hid (rgReach_bad C6.out.stM HCR.out.okS (by have:=HLL.out;omega) fr to (by omega) (.pointer (some ⟨p,0,none⟩)) none 0 0)
   have HIN:=Lib.hid hin
   clear hin
   by_cases h1:1≤fr
   ·have q2:decide (1≤fr)=true:=decide_eq_true h1
    have q3:decide (fr≤(L.length:Int))=false:=decide_eq_false (by have:=HIN.out;omega)
    have q4:decide ((L.length:Int)<fr)=true:=decide_eq_true (by have:=HIN.out;omega)
    clear h1
    go_wp2_with fail
    refine HRE.out.mono ?_
    rintro e w7 ⟨rfl,b7⟩
    have B7:=Lib.hid (C6.out.be.trans (b7.mono C6.out.be.size))
    clear b7
    by_cases h1:to<1
    ·have q7:decide (to<1)=true:=decide_eq_true h1
     clear h1
     go_wp2
     go_ret
     exact ⟨rfl,B7.out⟩
    ·have q7:decide (to<1)=false:=decide_eq_false h1
     clear h1
     go_wp2
     go_ret
     exact ⟨rfl,B7.out⟩
   ·have q2:decide (1≤fr)=false:=decide_eq_false h1
    have q4:decide ((L.length:Int)<fr)=false:=decide_eq_false (by omega)
    have HF1:=Lib.hid h1
    clear h1
    go_wp2_with fail
    refine HRE.out.mono ?_
    rintro e w7 ⟨rfl,b7⟩
    have B7:=Lib.hid (C6.out.be.trans (b7.mono C6.out.be.size))
    clear b7
    by_cases h1:to<1
    ·have q7:decide (to<1)=true:=decide_eq_true h1
     clear h1
     go_wp2
     go_ret
     exact ⟨rfl,B7.out⟩
    ·have q7:decide (to<1)=false:=decide_eq_false h1
     have q9:decide (fr<to)=true:=decide_eq_true (by have:=HF1.out;omega)
     clear h1
     go_wp2
     go_ret
     exact ⟨rfl,B7.out⟩
theorem regressReach_law (w:World) (y:Bool) (sd:Nat→Int) (hs:∀i,i<32→(Lit.int .u8 (sd i)).wf=true) (v:Value) (n:Nat) (f:Nat→Int) (hv:Rd .u8 w v n f) (hf:∀i,i<n→(Lit.int .u8 (f i)).wf=true) (g:Nat→Int) (hg:∀i,i<2→(Lit.int .i64 (g i)).wf=true):
  Calls Try.prog 5 #[WayV y sd,v,.agg (arr .i64 2 g)] w fun e w'=> e=.returned (.bool true)∧Below w.heap.size w w':=
 regressReach_num w y sd (fun i hi=> by have:=bounds_u8 (hs i hi);omega) v n f hv (fun i hi=> by have:=bounds_u8 (hf i hi);omega) g (fun i hi=> by have:=bounds_i64 (hg i hi);omega)
end
end Go.Proofs.Ytpcjekgfnfjbpaa
