/-
  Part 33 of the texts that the proof of RegressDown rests on, one after the other. Conditions: named in each theorem.
-/
import Derived.Test.YtpcjekgfnfjbpaaPkRegressDown19
import Derived.Test.YtpcjekgfnfjbpaaPkRegressDown16
import Derived.Test.YtpcjekgfnfjbpaaPkRegressDown15
import Derived.Test.YtpcjekgfnfjbpaaPkRegressDown13
import Derived.Test.YtpcjekgfnfjbpaaPkRegressDown1
import Derived.Test.YtpcjekgfnfjbpaaPkRegressDown2
import Derived.Test.YtpcjekgfnfjbpaaPkRegressDown11
import Derived.Test.YtpcjekgfnfjbpaaPkRegressDown5
import Derived.Test.YtpcjekgfnfjbpaaPkRegressDown3
import Derived.Test.YtpcjekgfnfjbpaaPkRegressDown4
import Derived.Test.YtpcjekgfnfjbpaaPkRegressDown6
import Derived.Test.YtpcjekgfnfjbpaaPkRegressDown7
import Derived.Test.YtpcjekgfnfjbpaaPkRegressDown10
import Derived.Test.YtpcjekgfnfjbpaaPkRegressDown9
import Derived.Test.YtpcjekgfnfjbpaaPkRegressDown8
import Derived.Test.YtpcjekgfnfjbpaaPkRegressDown12
import Derived.Test.YtpcjekgfnfjbpaaPkRegressDown14
import Derived.Test.YtpcjekgfnfjbpaaPkRegressDown17
import Derived.Test.YtpcjekgfnfjbpaaPkRegressDown18
import Derived.Test.YtpcjekgfnfjbpaaPkRegressDown31
import Derived.Test.YtpcjekgfnfjbpaaPkRegressDown27
import Derived.Test.YtpcjekgfnfjbpaaPkRegressDown24
import Derived.Test.YtpcjekgfnfjbpaaPkRegressDown23
import Derived.Test.YtpcjekgfnfjbpaaPkRegressDown21
import Derived.Test.YtpcjekgfnfjbpaaPkRegressDown20
import Derived.Test.YtpcjekgfnfjbpaaPkRegressDown22
import Derived.Test.YtpcjekgfnfjbpaaPkRegressDown26
import Derived.Test.YtpcjekgfnfjbpaaPkRegressDown25
import Derived.Test.YtpcjekgfnfjbpaaPkRegressDown28
import Derived.Test.YtpcjekgfnfjbpaaPkRegressDown29
import Derived.Test.YtpcjekgfnfjbpaaPkRegressDown30
import Derived.Test.YtpcjekgfnfjbpaaPkRegressDown32
import Derived.BigFrame
import Derived.BigQuiet
import Derived.ChangeKeysEq
import Derived.ChangeMaps5
import Derived.ChangeOld
import Derived.Deep.Cut
import Derived.Deep.DrawnRows
import Derived.Deep.LoopGhost
import Derived.Deep.MidRow
import Derived.Deep.QuietTactic
import Derived.Deep.RegionHeld3
import Derived.Deep.RegionLaw
import Derived.Deep.Slices
import Derived.Deep.Strs
import Derived.Deep.Upon
import Derived.Deep.WholeRow
import Derived.DeepKeys4
import Derived.Great.BuildSlice
import Derived.Great.Walk
import Derived.Laws.BitsAllLaws
import Derived.Laws.BytesArg
import Derived.Laws.CopyOwn
import Derived.Laws.IdiomCopy
import Derived.Laws.IdiomStrings
import Derived.Laws.Strings
import Derived.Laws.StructEq
import Derived.Lib.BufferRead
import Derived.Lib.Hide
import Derived.LoopIn
import Derived.LoopNIn
import Derived.MapViews
import Derived.Maps.AppendAt
import Derived.Maps.OwnSet
import Derived.Maps.Range
import Derived.Maps.Views
import Derived.OpenShut
import Derived.Orders
import Derived.OrdersIn
import Derived.OwnWalkIn
import Derived.ProofKit
import Derived.RangeFuncBound
import Derived.RangeFuncBox
import Derived.RangeFuncCalls
import Derived.RangeFuncFrom
import Derived.RangeFuncLeaves
import Derived.RangeFuncNested
import Derived.Shelf.Abstract
import Derived.Shelf.RegionOpen
import Derived.ShutString
import Derived.StillTactics
import Derived.StillTailTactics
import Derived.TacticsInMore
import Derived.Test.YtpcjekgfnfjbpaaArr
import Derived.Test.YtpcjekgfnfjbpaaFlow
import Derived.Test.YtpcjekgfnfjbpaaKit
import Derived.Test.YtpcjekgfnfjbpaaOpen
import Derived.Test.YtpcjekgfnfjbpaaOpenT
import Derived.Test.YtpcjekgfnfjbpaaRows
import Derived.Test.YtpcjekgfnfjbpaaTxt
import Derived.WalkKit
import Derived.WalkLawsBesides
import Derived.WalkSmall
import Derived.WalkSpells
set_option linter.unusedVariables false
set_option linter.unusedSimpArgs false
set_option maxRecDepth 100000
set_option maxHeartbeats 12800000
namespace Go.Proofs.Ytpcjekgfnfjbpaa
open Go.RowKit Go.Bas Go.ChangeShapes Go.Maps
attribute [local go_sem ↓] Go.wp_at_zero Go.wp_at_succ
theorem _root_.Go.Bas.Chg.setRow (F:Nat→Prop) (w:World) (g:Nat) (cs:Array Value) (hF:F g):Chg F w (w.setRow g cs):=
 have h:=below_setRow' (Below.refl 0 w) (Nat.zero_le g) cs
 ⟨h.os,h.tape,h.output,h.size,fun b _ hn=> setRow_other w g b cs fun e=> hn (e▸hF)⟩
def drawS:ByteArray:=⟨#[100,114,97,119]⟩
def drawB (sd:Nat→Int) (n:Nat):Nat→Int:=tagB 32 sd (infN drawS.size (fun _=> 8) 1) (infF drawS.size (strB drawS) (fun _=> 8) (fun _=> put8 n) 1)
theorem drawB_b (sd:Nat→Int) (n i:Nat):0≤drawB sd n i∧drawB sd n i<256:=tagB_bound _ _ _ _ i
theorem dKeyDraw (v:Value) (sd:Nat→Int) (n:Nat) (hf:∀i,i<32→0≤sd i∧sd i<256) (vc:Value) (w:World) (h:Rd .u8 w v 32 sd) (hc:Txt w vc 1 (fun _=> 8) (fun _=> put8 n)):
  Calls Try.prog 38 #[v,.string drawS,vc] w fun e w'=> e=.returned (.tuple #[.agg (arr .u8 32 (drawB sd n)),.int .i64 0])∧Below w.heap.size w w':=
 dKey_any v 32 sd drawS vc 1 (fun _=> 8) (fun _=> put8 n) w h (by decide) (by decide) hf (by decide) hc (by decide) (fun j hj=> by decide) (fun j hj i hi=> put8_b _ _)
section
variable {B : Nat} {w w' w1 w2 w3 : World} {p q : Nat} {F G G' : Nat → Prop} {sd : Nat → Int} {n : Nat} {v u : Value} {l : List Int}
structure SuB (B:Nat) (w:World) (p:Nat) (sd:Nat→Int) (n:Nat):Prop where
 r:SuRow w p 1 sd n (.pointer none)
 sdb:∀i,i<32→0≤sd i∧sd i<256
 hp:B≤p
theorem SuB.below (h:SuB B w p sd n) (hb:Below w.heap.size w w'):SuB B w' p sd n:=⟨h.r.below hb,h.sdb,h.hp⟩
theorem SuB.lt (h:SuB B w p sd n):p<w.heap.size:=h.r.row.lt
theorem SuB.keep {H:Nat→Prop} (h:SuB B w p sd n) (hc:Chg H w w') (hF:¬ H p):SuB B w' p sd n:=⟨h.r.keep hc hF,h.sdb,h.hp⟩
theorem SuRow.next {kd m m':Int} {s:Value} (h:SuRow w p kd sd m s):SuRow (w.setCell ⟨p,33,none⟩ (.int .i64 m')) p kd sd m' s:=by
 refine ⟨h.row.setCell _ rfl _,?_,fun i hi=> ?_,?_,?_⟩
 ·rw [World.cell?_setCell_other _ _ _ _ (by intro e;cases e)];exact h.ck
 ·rw [World.cell?_setCell_other _ _ _ _ (by intro e;have:=congrArg Addr.off e;simp only at this;omega)];exact h.cs i hi
 ·exact World.cell?_setCell_same _ _ _ h.cn
 ·rw [World.cell?_setCell_other _ _ _ _ (by intro e;cases e)];exact h.cp
theorem SuB.next (h:SuB B w p sd n) {m:Nat}:SuB B (w.setCell ⟨p,33,none⟩ (.int .i64 (m:Int))) p sd m:=⟨h.r.next,h.sdb,h.hp⟩
theorem SuB.nextC (h:SuB B w p sd n) (m:Int):ChS p (fun _=> False) w (w.setCell ⟨p,33,none⟩ (.int .i64 m)):=
 ⟨.set _ _ _ _ (.inl rfl),fun b hb _ i x hx=> by
  rw [World.cell?_setCell_other _ _ _ _ (by intro e;cases e;rw [h.r.cn] at hx;cases hx)];exact hx⟩
theorem suKey_yes {f:Nat→Int} (h:Rd .u8 w v 32 f):Calls Try.prog 39 #[v] w fun e w'=> e=.returned (.tuple #[.agg (arr .u8 32 f),.int .i64 0])∧Below w.heap.size w w':=by
 obtain ⟨a,c,rfl,h1,h2,_,h4⟩:=h
 obtain ⟨b,o,rfl,hlt,hc⟩:=h4 (by decide)
 have HC:=Lib.hid hc
 have HLT:=Lib.hid hlt
 clear h4 hc hlt
 go_enter Try.func39,Try.ntmps39
 go_upto_region 1 with (fail)
 refine wp_world (fun w1=> Arr .u8 w1 w.heap.size 32 (fun _=> 0)∧Below w.heap.size w w1) ⟨Arr.newAt rfl (by rfl),(Below.refl _ _).alloc (Nat.le_refl _) _⟩ ?_
 rintro w1 ⟨hZ,hbel⟩
 have HC1:Hid (∀i,i<32→w1.cell? ⟨b,o+i,none⟩=some (.int .u8 (f i))):=Lib.hid fun i hi=> (hbel.cell (p:=⟨b,o+i,none⟩) HLT.out).trans (HC.out i hi)
 have HZ:=Lib.hid hZ
 have HB:=Lib.hid hbel
 have ha:∀w,(Instr.arrayAt 22 (.slice (some ⟨b,o,none⟩) 32 c)).run Try.prog w=.ok (.pointer (some ⟨b,o,none⟩)) w:=fun w=> arrayAt_part (P:=Try.prog) (T:=22) (a:=some ⟨b,o,none⟩) (len:=32) (cap:=c) (n:=32) Try.underlying22 (by decide) w
 clear hZ hbel
 go_wp2_with (first
  | (refine load_part rfl 22 _ rfl .u8 b o 32 f 5 Try.underlying22 Try.size22 rfl (fun i hi=> HC1.out i hi) ?_)
  | (refine store_arr rfl 22 _ _ rfl .u8 w.heap.size 32 (fun _=> 0) f Try.size22 rfl rfl HZ.out ?_))
 exact bodyPost_ret (results_arr2 rfl _ _ .u8 w.heap.size 32 _ 5 rfl (HZ.out.setRow _ _) Try.underlying22 Try.size22) rfl ⟨rfl,below_setRow' HB.out (Nat.le_refl _) _⟩
theorem suKey_no {m:Nat} {f:Nat→Int} (h:Rd .u8 w v m f) (hm:m≠32):Calls Try.prog 39 #[v] w fun e w'=> e=.returned (.tuple #[.agg (arr .u8 32 (fun _=> 0)),.int .i64 11])∧Below w.heap.size w w':=by
 obtain ⟨a,c,rfl,h1,h2,_,h4⟩:=h
 have hm':((m:Int) !=32)=true:=by simp;omega
 clear h4 hm
 go_enter Try.func39,Try.ntmps39
 go_upto_region 1 with (fail)
 refine wp_world (fun w1=> Arr .u8 w1 w.heap.size 32 (fun _=> 0)∧Below w.heap.size w w1) ⟨Arr.newAt rfl (by rfl),(Below.refl _ _).alloc (Nat.le_refl _) _⟩ ?_
 rintro w1 ⟨hZ,hbel⟩
 have HZ:=Lib.hid hZ
 have HB:=Lib.hid hbel
 clear hZ hbel
 go_wp2_with (refine store_arr rfl 22 _ _ rfl .u8 w.heap.size 32 (fun _=> 0) (fun _=> 0) Try.size22 rfl (by rfl) HZ.out ?_)
 exact bodyPost_ret (results_arr2 rfl _ _ .u8 w.heap.size 32 _ 5 rfl (HZ.out.setRow _ _) Try.underlying22 Try.size22) rfl ⟨rfl,below_setRow' HB.out (Nat.le_refl _) _⟩
theorem suDrawB_any (h:SuB B w p sd n) (hn:n≤100000):Calls Try.prog 24 #[.pointer (some ⟨p,0,none⟩)] w fun e w'=> e=.returned (.agg (arr .u8 32 (drawB sd n)))∧SuB B w' p sd (n+1)∧ChS p (fun _=> False) w w':=by
 have H:=Lib.hid h
 have HN:=Lib.hid hn
 have cn:=h.r.cn
 have HPN:Hid (p<w.heap.size):=Lib.hid h.r.row.lt
 clear h hn
 go_enter Try.func24,Try.ntmps24
 clear cn
 go_upto_region 1 with (fail)
 refine wp_world (fun w1=> Arr .u8 w1 w.heap.size 32 (fun _=> 0)∧Below w.heap.size w w1) ⟨Arr.newAt rfl (by rfl),(Below.refl _ _).alloc (Nat.le_refl _) _⟩ ?_
 rintro w1 ⟨hZ,hbel⟩
 have H1:=Lib.hid (H.out.below hbel)
 have cn:=H1.out.r.cn
 have HZ:=Lib.hid hZ
 have HB:=Lib.hid hbel
 clear hZ hbel
 go_wp2_with fail
 refine (put_ok (n:Int) 8 w1 (by decide) (by decide) (by omega) (by have:=HN.out;omega) (fun h=> absurd h (by decide))).mono ?_
 rintro e w2 ⟨u,rfl,hu,b2⟩
 have HU:=Lib.hid hu.rd
 obtain ⟨au,cu,rfl,_⟩:=hu.rd
 have H2:=Lib.hid (H1.out.below b2)
 have HZ2:=Lib.hid (HZ.out.kept b2)
 have HB2:=Lib.hid (HB.out.trans (b2.mono HB.out.size))
 clear hu b2 cn
 go_wp2_with fail
 have BA:=(Below.refl w2.heap.size w2).alloc (Nat.le_refl _) (.cells [Value.slice au 8 cu].toArray 28)
 refine (dKeyDraw _ sd n H2.out.sdb _ _ (H2.out.r.below BA).rd (new1 HU.out (Below.refl _ _))).mono ?_
 rintro e w3 ⟨rfl,b3⟩
 have B3:=Lib.hid (BA.trans (b3.mono (by rw [World.size_alloc];omega)))
 have H3:=Lib.hid (H2.out.below B3.out)
 have HZ3:=Lib.hid (HZ2.out.kept B3.out)
 have HB3:=Lib.hid (HB2.out.trans (B3.out.mono HB2.out.size))
 clear b3 BA
 obtain ⟨D,hD⟩:∃D,D=drawB sd n:=⟨_,rfl⟩
 rw [←hD]
 have HDD:=Lib.hid hD
 clear hD
 go_upto_region 3 with (refine store_arr rfl 22 _ _ rfl .u8 w3.heap.size 32 (fun _=> 0) D Try.size22 rfl rfl (Arr.newAt rfl (by rfl)) ?_)
 refine wp_world (fun w4=> Arr .u8 w4 w.heap.size 32 (fun _=> 0)∧Arr .u8 w4 w3.heap.size 32 D∧Below w3.heap.size w3 w4) ⟨(HZ3.out.alloc _).setRowOther _ (Nat.ne_of_lt HZ3.out.lt) _,(show Arr .u8 (w3.alloc (.cells (arr .u8 32 (fun _=> 0)) 22)) w3.heap.size 32 (fun _=> 0) from Arr.newAt rfl rfl).setRow 32 D,below_setRow' ((Below.refl _ _).alloc (Nat.le_refl _) _) (Nat.le_refl _) _⟩ ?_
 rintro w4 ⟨h4,h5,hbel⟩
 have H4:=Lib.hid (H3.out.below hbel)
 have HB4:=Lib.hid (HB3.out.trans (hbel.mono HB3.out.size))
 have HZ4:=Lib.hid h4
 have HD4:=Lib.hid h5
 have HPL:Hid (p<w.heap.size∧w.heap.size<w3.heap.size):=Lib.hid ⟨HPN.out,HZ3.out.lt⟩
 clear h4 h5 hbel
 have cn:=H4.out.r.cn
 have fr:=H4.out.r.row.free 33
 have hnb:(n:Int)<1000000:=by have:=HN.out;omega
 go_upto_region 4 with (fail)
 have CS:=H4.out.nextC ((n:Int)+1)
 refine wp_world (fun w5=> SuB B w5 p sd (n+1)∧Arr .u8 w5 w.heap.size 32 (fun _=> 0)∧Arr .u8 w5 w3.heap.size 32 D∧ChS p (fun _=> False) w w5) ⟨H4.out.next (m:=n+1),HZ4.out.chg CS.chg (fun e=> e.elim (fun e=> by have:=HPL.out;omega) id),HD4.out.chg CS.chg (fun e=> e.elim (fun e=> by have:=HPL.out;omega) id),(ChS.of_below HB4.out _).trans CS fun _ h=> h.elim⟩ ?_
 rintro w5 ⟨h5,hz5,hd5,c5⟩
 have H5:=Lib.hid h5
 have HZ5:=Lib.hid hz5
 have HD5:=Lib.hid hd5
 have C5:=Lib.hid c5
 clear h5 hz5 hd5 c5 CS cn fr hnb
 go_wp2_with (first
  | (refine load_arr rfl 22 _ rfl .u8 w3.heap.size 32 D 5 Try.underlying22 Try.size22 rfl HD5.out ?_)
  | (refine store_arr rfl 22 _ _ rfl .u8 w.heap.size 32 (fun _=> 0) D Try.size22 rfl rfl HZ5.out ?_))
 obtain rfl:=HDD.out
 have CR:=Chg.setRow (fun b=> b=w.heap.size) w5 w.heap.size (arr .u8 32 (drawB sd n)) rfl
 exact bodyPost_ret (results_arr rfl _ _ .u8 w.heap.size 32 _ 5 rfl (HZ5.out.setRow _ _) Try.underlying22 Try.size22) rfl ⟨rfl,H5.out.keep CR fun e=> by have:=HPL.out;omega,C5.out.trans (ChS.of_chg CR) fun b e=> .inr (by omega)⟩
end
end Go.Proofs.Ytpcjekgfnfjbpaa
namespace Go.Proofs.Ytpcjekgfnfjbpaa
open Go.RowKit Go.Bas Go.ChangeShapes Go.Maps
attribute [local go_sem ↓] Go.wp_at_zero Go.wp_at_succ
inductive Su where
 | by (sd:Nat→Int) (n:Nat)
 | tm (S:TS)
def Su.size:Su→Nat
 | .by _ n=> n
 | .tm S=> S.l.length
abbrev UA:Type:=List Int × Int × Su
def SuM (B:Nat) (w:World) (p:Nat) (F:Nat→Prop):Su→Prop
 | .by sd n=> SuB B w p sd n∧∀b,¬ F b
 | .tm S=> SuT B w p F S
section
variable {B : Nat} {w w' w1 w2 w3 : World} {p q : Nat} {F F' G G' : Nat → Prop} {sd : Nat → Int} {n : Nat} {v u v' : Value} {l l' : List Int} {X X' : Su} {S : TS}
theorem SuM.below (h:SuM B w p F X) (hb:Below w.heap.size w w'):SuM B w' p F X:=by
 cases X with
 | «by» sd n=> exact ⟨h.1.below hb,h.2⟩
 | tm S=> exact SuT.below h hb
theorem SuT.pLt (h:SuT B w p F S):p<w.heap.size∧B≤p:=by obtain ⟨q,G,h,_⟩:=h;exact ⟨h.r.row.lt,h.hp⟩
theorem SuM.pLt (h:SuM B w p F X):p<w.heap.size∧B≤p:=by
 cases X with
 | «by» sd n=> exact ⟨h.1.lt,h.1.hp⟩
 | tm S=> exact SuT.pLt h
theorem SuM.lt (h:SuM B w p F X) {b:Nat} (hb:b=p∨F b):b<w.heap.size:=by
 rcases hb with rfl | hb
 ·exact h.pLt.1
 ·cases X with
  | «by» sd n=> exact absurd hb (h.2 b)
  | tm S=> exact SuT.lt h hb
theorem SuM.hi (h:SuM B w p F X) {b:Nat} (hb:b=p∨F b):B≤b:=by
 rcases hb with rfl | hb
 ·exact h.pLt.2
 ·cases X with
  | «by» sd n=> exact absurd hb (h.2 b)
  | tm S=> exact SuT.hi h hb
def SuR (B:Nat) (w:World) (p:Nat) (F:Nat→Prop) (v:Value) (r:UA) (w':World):Prop:=∃F',SuM B w' p F' r.2.2∧Byt F' w' v r.1∧ChS p F w w'∧∀b,F' b→F b∨w.heap.size≤b
theorem SuTR.su {r:TA} (h:SuTR B w p F v r w'):SuR B w p F v (r.1,r.2.1,.tm r.2.2) w':=by
 obtain ⟨F',h1,h2,h3,h4⟩:=h
 exact ⟨F',h1,h2,ChS.of_chg h3,h4⟩
theorem Byt.any {f:Nat→Int} {m:Nat} (h:Rd .u8 w v m f) (hf:∀i,i<m→0≤f i∧f i<256) (hF:∀b,¬ F b):Byt F w v (lof m f):=⟨okB_lof hf,h.lof,fun _ b _=> hF b⟩
def oneB (g:(Nat→Int)→Nat→Int) (sd:Nat→Int) (n:Nat) (l:List Int):UA:=if l.length=32 then (lof 32 (g (bf l)),0,.by sd n) else ([],11,.by sd n)
def Su.draw:Su→Int→UA
 | .by sd n,s=> if isSort s=true then (lof 32 (drawB sd n),0,.by sd (n+1)) else ([],2,.by sd n)
 | .tm S,s=> ((drawT S s).1,(drawT S s).2.1,.tm (drawT S s).2.2)
def Su.next:Su→List Int→UA
 | .by sd n,l=> oneB nextB sd n l
 | .tm S,l=> ((oneT 6 S l).1,(oneT 6 S l).2.1,.tm (oneT 6 S l).2.2)
theorem suNoneB (h:SuM B w p F (.by sd n)) (hb:Below w.heap.size w w') (er:Int):SuR B w p F (.slice none 0 0) ([],er,.by sd n) w':=
 ⟨F,⟨h.1.below hb,h.2⟩,Byt.nil _ _,.of_below hb _,fun b hb=> .inl hb⟩
theorem suDoneB {m k:Nat} {f:Nat→Int} (h:SuM B w p F (.by sd n)) (hs:SuB B w1 p sd k) (hc:ChS p (fun _=> False) w w1) (hr:Rd .u8 w1 v m f) (hf:∀i,i<m→0≤f i∧f i<256) (er:Int):SuR B w p F v (lof m f,er,.by sd k) w1:=
 ⟨F,⟨hs,h.2⟩,Byt.any hr hf h.2,⟨hc.chg.mono fun b _ hb=> hb.imp id fun h=> h.elim,fun b hb _=> hc.u8 b hb id⟩,fun b hb=> .inl hb⟩
theorem suDraw_by (h:SuM B w p F (.by sd n)) (s:Int) (hn:n≤900):Calls Try.prog 8 #[.pointer (some ⟨p,0,none⟩),.int .i64 s] w fun e w'=> ∃u,e=.returned (.tuple #[u,.int .i64 (Su.draw (.by sd n) s).2.1])∧SuR B w p F u (Su.draw (.by sd n) s) w':=by
 have HQ:=Lib.hid h
 have HL:=Lib.hid hn
 have HW:=Lib.hid (suWhich_any h.1.r)
 obtain ⟨R,hR⟩:∃x,x=Su.draw (.by sd n) s:=⟨_,rfl⟩
 rw [←hR]
 have HR:=Lib.hid hR
 have ck:=h.1.r.ck
 clear hR h hn
 by_cases hs:1≤s∧s≤4
 ·have HS:Hid (isSort s=true):=Lib.hid (by unfold isSort;rw [decide_eq_true hs.1,decide_eq_true hs.2];rfl)
  have HE:Hid (R=(lof 32 (drawB sd n),0,.by sd (n+1))):=Lib.hid (by rw [HR.out];exact if_pos HS.out)
  have h1:decide (s<1)=false:=decide_eq_false (by omega)
  have h2:decide (4<s)=false:=decide_eq_false (by omega)
  clear hs
  go_enter Try.func8,Try.ntmps8
  go_wp2_with fail
  refine HW.out.mono ?_
  rintro e w1 ⟨rfl,rfl⟩
  go_wp2_with fail
  refine (suDrawB_any HQ.out.1 (by have:=HL.out;omega)).mono ?_
  rintro e w2 ⟨rfl,h2,c2⟩
  have H2:=Lib.hid h2
  have C2:=Lib.hid c2
  clear h2 c2 ck
  obtain ⟨D,hD⟩:∃D,D=drawB sd n:=⟨_,rfl⟩
  rw [←hD] at HE ⊢
  have HDB:Hid (∀i,i<32→0≤D i∧D i<256):=Lib.hid fun i _=> hD▸drawB_b sd n i
  clear hD
  go_upto_region 8 with (refine store_arr rfl 22 _ _ rfl .u8 w2.heap.size 32 (fun _=> 0) D Try.size22 rfl rfl (Arr.newAt rfl (by rfl)) ?_)
  refine wp_world (fun w4=> Arr .u8 w4 w2.heap.size 32 D∧Below w2.heap.size w2 w4) ⟨(show Arr .u8 (w2.alloc (.cells (arr .u8 32 (fun _=> 0)) 22)) w2.heap.size 32 (fun _=> 0) from Arr.newAt rfl rfl).setRow 32 D,below_setRow' ((Below.refl _ _).alloc (Nat.le_refl _) _) (Nat.le_refl _) _⟩ ?_
  rintro w4 ⟨h4,b4⟩
  have HD:=Lib.hid (suDoneB HQ.out (H2.out.below b4) (C2.out.trans (ChS.of_below b4 (fun _=> False)) fun _ h=> .inl h) (h4.rd (by decide)) HDB.out 0)
  clear h4 b4
  go_wp2
  go_ret2
  rw [HE.out]
  exact ⟨_,rfl,HD.out⟩
 ·have HE:Hid (R=([],2,.by sd n)):=Lib.hid (by
   rw [HR.out]
   refine if_neg fun h=> ?_
   simp only [isSort,Bool.and_eq_true,decide_eq_true_eq] at h
   exact hs h)
  by_cases h1:s<1
  ·have h1':decide (s<1)=true:=decide_eq_true h1
   clear hs h1
   go_enter Try.func8,Try.ntmps8
   go_wp2_with fail
   refine HW.out.mono ?_
   rintro e w1 ⟨rfl,rfl⟩
   go_wp2
   go_ret2
   rw [HE.out]
   exact ⟨_,rfl,suNoneB HQ.out (Below.refl _ _) 2⟩
  ·have h1':decide (s<1)=false:=decide_eq_false h1
   have h2':decide (4<s)=true:=decide_eq_true (by omega)
   clear hs h1
   go_enter Try.func8,Try.ntmps8
   go_wp2_with fail
   refine HW.out.mono ?_
   rintro e w1 ⟨rfl,rfl⟩
   go_wp2
   go_ret2
   rw [HE.out]
   exact ⟨_,rfl,suNoneB HQ.out (Below.refl _ _) 2⟩
end
end Go.Proofs.Ytpcjekgfnfjbpaa
namespace Go.Proofs.Ytpcjekgfnfjbpaa
open Go.RowKit Go.Bas Go.ChangeShapes Go.Maps
attribute [local go_sem ↓] Go.wp_at_zero Go.wp_at_succ
section
variable {B : Nat} {w w' w1 w2 w3 : World} {p q : Nat} {F F' G G' : Nat → Prop} {sd : Nat → Int} {n : Nat} {v u v' : Value} {l l' : List Int} {X X' : Su} {S : TS}
theorem suSome_Next (hl:l.length=32) (ho:okB l) (h:Rd .u8 w v l.length (bf l)):Calls Try.prog 26 #[v,.func (.func 27) #[] #[]] w fun e w'=> ∃u,e=.returned (.tuple #[u,.int .i64 0])∧Rd .u8 w' u 32 (nextB (bf l))∧Below w.heap.size w w':=by
 rw [hl] at h
 have HK:=Lib.hid (suKey_yes h)
 have HC:=Lib.hid (fun w=> dNext_any (bf l) (fun i hi=> ho.at i (by omega)) w)
 obtain ⟨a,c,rfl,h1,h2,_,h4⟩:=h
 obtain ⟨D,hD⟩:∃D,D=nextB (bf l):=⟨_,rfl⟩
 rw [←hD] at HC ⊢
 clear hD h4 hl ho
 go_enter Try.func26,Try.ntmps26
 go_wp2_with fail
 refine HK.out.mono ?_
 rintro e w1 ⟨rfl,b1⟩
 have B1:=Lib.hid b1
 clear b1
 obtain ⟨f,hf⟩:∃f,f=bf l:=⟨_,rfl⟩
 rw [←hf] at HC ⊢
 clear hf
 go_upto_region 2 with (refine store_arr rfl 22 _ _ rfl .u8 w1.heap.size 32 (fun _=> 0) f Try.size22 rfl rfl (Arr.newAt rfl (by rfl)) ?_)
 refine wp_world (fun w2=> Arr .u8 w2 w1.heap.size 32 f∧Below w.heap.size w w2) ⟨(show Arr .u8 (w1.alloc (.cells (arr .u8 32 (fun _=> 0)) 22)) w1.heap.size 32 (fun _=> 0) from Arr.newAt rfl rfl).setRow 32 f,below_setRow' (B1.out.alloc B1.out.size _) B1.out.size _⟩ ?_
 rintro w2 ⟨h2,b2⟩
 have H2:=Lib.hid h2
 have B2:=Lib.hid b2
 clear h2 b2
 go_wp2_with (refine load_arr rfl 22 _ rfl .u8 w1.heap.size 32 f 5 Try.underlying22 Try.size22 rfl H2.out ?_)
 refine (HC.out _).mono ?_
 rintro e w3 ⟨rfl,b3⟩
 have B3:=Lib.hid (B2.out.trans (b3.mono B2.out.size))
 clear b3
 go_upto_region 5 with (refine store_arr rfl 22 _ _ rfl .u8 w3.heap.size 32 (fun _=> 0) D Try.size22 rfl rfl (Arr.newAt rfl (by rfl)) ?_)
 refine wp_world (fun w4=> Arr .u8 w4 w3.heap.size 32 D∧Below w.heap.size w w4) ⟨(show Arr .u8 (w3.alloc (.cells (arr .u8 32 (fun _=> 0)) 22)) w3.heap.size 32 (fun _=> 0) from Arr.newAt rfl rfl).setRow 32 D,below_setRow' (B3.out.alloc B3.out.size _) B3.out.size _⟩ ?_
 rintro w4 ⟨h4,b4⟩
 have HR:=Lib.hid (h4.rd (by decide))
 have B4:=Lib.hid b4
 clear h4 b4
 go_wp2
 go_ret2
 exact ⟨_,rfl,HR.out,B4.out⟩
theorem suSomeNo_Next (hl:l.length≠32) (h:Rd .u8 w v l.length (bf l)):Calls Try.prog 26 #[v,.func (.func 27) #[] #[]] w fun e w'=> e=.returned (.tuple #[.slice none 0 0,.int .i64 11])∧Below w.heap.size w w':=by
 have HK:=Lib.hid (suKey_no h hl)
 obtain ⟨a,c,rfl,h1,h2,_,h4⟩:=h
 clear h4 hl
 go_enter Try.func26,Try.ntmps26
 go_wp2_with fail
 refine HK.out.mono ?_
 rintro e w1 ⟨rfl,b1⟩
 have B1:=Lib.hid b1
 clear b1
 go_upto_region 2 with (refine store_arr rfl 22 _ _ rfl .u8 w1.heap.size 32 (fun _=> 0) (fun _=> 0) Try.size22 rfl rfl (Arr.newAt rfl (by rfl)) ?_)
 refine wp_world (fun w2=> Below w.heap.size w w2) (below_setRow' (B1.out.alloc B1.out.size _) B1.out.size _) ?_
 rintro w2 b2
 have B2:=Lib.hid b2
 clear b2
 go_wp2
 go_ret2
 exact ⟨rfl,B2.out⟩
theorem suNext_by (h:SuM B w p F (.by sd n)) (hb:Byt F w v l):Calls Try.prog 11 #[.pointer (some ⟨p,0,none⟩),v] w fun e w'=> ∃u,e=.returned (.tuple #[u,.int .i64 (oneB nextB sd n l).2.1])∧SuR B w p F u (oneB nextB sd n l) w':=by
 have HQ:=Lib.hid h
 have HW:=Lib.hid (suWhich_any h.1.r)
 obtain ⟨R,hR⟩:∃x,x=oneB nextB sd n l:=⟨_,rfl⟩
 rw [←hR]
 have HR:=Lib.hid hR
 by_cases hl:l.length=32
 ·have HC:=Lib.hid (suSome_Next hl hb.ok hb.rd)
  have HE:Hid (R=(lof 32 (nextB (bf l)),0,.by sd n)):=Lib.hid (by rw [HR.out];exact if_pos hl)
  obtain ⟨av,cv,rfl,_⟩:=hb.rd
  clear hR h hb hl
  go_enter Try.func11,Try.ntmps11
  go_wp2_with fail
  refine HW.out.mono ?_
  rintro e w1 ⟨rfl,rfl⟩
  go_wp2_with fail
  refine HC.out.mono ?_
  rintro e w2 ⟨u,rfl,hr,b2⟩
  have HD:=Lib.hid (suDoneB HQ.out (HQ.out.1.below b2) (ChS.of_below b2 _) hr (fun i _=> nextB_bound (bf l) i) 0)
  clear hr b2
  go_wp2
  go_ret2
  rw [HE.out]
  exact ⟨u,rfl,HD.out⟩
 ·have HC:=Lib.hid (suSomeNo_Next hl hb.rd)
  have HE:Hid (R=([],11,.by sd n)):=Lib.hid (by rw [HR.out];exact if_neg hl)
  obtain ⟨av,cv,rfl,_⟩:=hb.rd
  clear hR h hb hl
  go_enter Try.func11,Try.ntmps11
  go_wp2_with fail
  refine HW.out.mono ?_
  rintro e w1 ⟨rfl,rfl⟩
  go_wp2_with fail
  refine HC.out.mono ?_
  rintro e w2 ⟨rfl,b2⟩
  have HD:=Lib.hid (suNoneB HQ.out b2 11)
  clear b2
  go_wp2
  go_ret2
  rw [HE.out]
  exact ⟨_,rfl,HD.out⟩
end
end Go.Proofs.Ytpcjekgfnfjbpaa
namespace Go.Proofs.Ytpcjekgfnfjbpaa
open Go.RowKit Go.Bas Go.ChangeShapes Go.Maps
attribute [local go_sem ↓] Go.wp_at_zero Go.wp_at_succ
section
variable {B : Nat} {w w' w1 w2 w3 : World} {p q : Nat} {F F' G G' : Nat → Prop} {sd : Nat → Int} {n : Nat} {v u v' : Value} {l l' : List Int} {X X' X'' : Su} {S S' : TS}
theorem suDraw_any (h:SuM B w p F X) (s:Int) (hn:X.size≤900):Calls Try.prog 8 #[.pointer (some ⟨p,0,none⟩),.int .i64 s] w fun e w'=> ∃u,e=.returned (.tuple #[u,.int .i64 (X.draw s).2.1])∧SuR B w p F u (X.draw s) w':=by
 cases X with
 | «by» sd n=> exact suDraw_by h s hn
 | tm S=> exact (suDraw_tm h s hn).mono fun e w' ⟨u,h1,h2⟩=> ⟨u,h1,h2.su⟩
theorem suNext_any (h:SuM B w p F X) (hb:Byt F w v l) (hn:X.size≤900):Calls Try.prog 11 #[.pointer (some ⟨p,0,none⟩),v] w fun e w'=> ∃u,e=.returned (.tuple #[u,.int .i64 (X.next l).2.1])∧SuR B w p F u (X.next l) w':=by
 cases X with
 | «by» sd n=> exact suNext_by h hb
 | tm S=> exact (suNext_tm h hb hn).mono fun e w' ⟨u,h1,h2⟩=> ⟨u,h1,h2.su⟩
def Su.le:Su→Su→Prop
 | .by sd _,.by sd' _=> sd=sd'
 | .tm S,.tm S'=> S.l <+:S'.l∧S.tx <+:S'.tx
 | _,_=> False
theorem Su.le.refl (X:Su):X.le X:=by
 cases X with
 | «by» sd n=> exact rfl
 | tm S=> exact ⟨List.prefix_refl _,List.prefix_refl _⟩
theorem Su.le.trans (h:X.le X') (h':X'.le X''):X.le X'':=by
 cases X<;> cases X'<;> cases X''<;> first | exact h.elim | exact h'.elim | exact Eq.trans h h' | exact ⟨h.1.trans h'.1,h.2.trans h'.2⟩
def Su.ok:Su→Prop
 | .by _ _=> True
 | .tm S=> S.Ok
theorem SuM.ok (h:SuM B w p F X):X.ok:=by
 cases X with
 | «by» sd n=> trivial
 | tm S=> exact SuT.ok h
def Su.val:Su→List Int→Prop
 | .by _ _,l=> l.length=32
 | .tm S,l=> ∃n:Nat,n<S.l.length∧l=valT n
def Su.nx:Su→List Int→List Int→Prop
 | .by _ _,a,b=> b=lof 32 (nextB (bf a))
 | .tm S,a,b=> ∃n m:Nat,a=valT n∧b=valT m∧n<S.l.length∧S.l[m]? =some (6,(n:Int),0)
theorem Su.val.mono (h:X.val l) (hl:X.le X'):X'.val l:=by
 cases X<;> cases X'<;> first | exact hl.elim | exact h | (obtain ⟨n,h1,h2⟩:=h;exact ⟨n,Nat.lt_of_lt_of_le h1 hl.1.length_le,h2⟩)
theorem Su.nx.mono {a b:List Int} (h:X.nx a b) (hl:X.le X'):X'.nx a b:=by
 cases X<;> cases X'<;> first | exact hl.elim | exact h | (obtain ⟨n,m,h1,h2,h3,h4⟩:=h;exact ⟨n,m,h1,h2,Nat.lt_of_lt_of_le h3 hl.1.length_le,prefix_get hl.1 h4⟩)
theorem valT_inj {n m:Nat} (hn:n≤1000000) (hm:m≤1000000) (h:valT n=valT m):n=m:=by
 have h1:=(valT_num (n:=(n:Int)) (by omega) (by omega)).2
 have h2:=(valT_num (n:=(m:Int)) (by omega) (by omega)).2
 rw [h] at h1
 omega
theorem put_get (h:S.Ok) {t:Tm} (ht:mayT S t=true):∃k:Nat,(putA S t).1=k∧(S.put t).l[k]? =some t∧k<(S.put t).l.length:=by
 unfold putA TS.put
 rw [if_pos ht]
 by_cases hin:t ∈ S.l
 ·rw [if_pos hin,if_neg (fun h=> h.2 hin)]
  exact ⟨plc S.l t,rfl,plc_get hin,plc_lt hin⟩
 ·rw [if_neg hin,if_pos ⟨ht,hin⟩]
  refine ⟨S.l.length,rfl,?_,by rw [add_len];omega⟩
  show (S.l++ [t])[S.l.length]? =some t
  rw [List.getElem?_append_right (Nat.le_refl _),Nat.sub_self]
  rfl
theorem put_le (t:Tm):S.l <+:(S.put t).l∧S.tx <+:(S.put t).tx:=by
 unfold TS.put
 split
 ·exact ⟨List.prefix_append _ _,List.prefix_refl _⟩
 ·exact ⟨List.prefix_refl _,List.prefix_refl _⟩
theorem twin (h:S.Ok) {m k:Nat} {t:Tm} (h1:S.l[m]? =some t) (h2:S.l[k]? =some t):m=k:=by
 have e1:=plc_at h.nd h1
 have e2:=plc_at h.nd h2
 omega
theorem draw_new {s:Int} (hw:S.few) (hl:S.l.length≤900) (hs:isSort s=true):S.draw s=S.add (1,s,nxt S.l s):=if_pos ⟨hs,by have:=hw s;unfold topT;omega⟩
def Su.few:Su→Prop
 | .by _ _=> True
 | .tm S=> S.few
theorem Su.draw_ok (hw:X.few) (hn:X.size≤900) (s:Int) (hs:1≤s∧s≤4):∃b X',X.draw s=(b,0,X')∧X.le X'∧X'.val b∧b.length≤32∧X'.size=X.size+1:=by
 have hS:isSort s=true:=by unfold isSort;rw [decide_eq_true hs.1,decide_eq_true hs.2];rfl
 cases X with
 | «by» sd n=> exact ⟨_,.by sd (n+1),if_pos hS,rfl,lof_length _ _,by simp,rfl⟩
 | tm S=>
  have hn':S.l.length≤900:=hn
  have e:=draw_new hw hn' hS
  refine ⟨valT (S.l.length:Int),.tm (S.draw s),?_,?_,⟨S.l.length,?_,rfl⟩,by rw [valT_length];decide,?_⟩
  ·show ((drawT S s).1,(drawT S s).2.1,Su.tm (drawT S s).2.2)= _
   unfold drawT
   rw [if_pos hS]
  ·show S.l <+:(S.draw s).l∧S.tx <+:(S.draw s).tx
   rw [e]
   exact ⟨List.prefix_append _ _,List.prefix_refl _⟩
  ·rw [e,add_len];omega
  ·show (S.draw s).l.length= _
   rw [e,add_len]
   rfl
theorem Su.next_ok (ho:X.ok) (hn:X.size≤900) (hv:X.val l):∃b X',X.next l=(b,0,X')∧X.le X'∧X'.val b∧X'.nx l b∧b.length≤32∧X'.size≤X.size+1:=by
 cases X with
 | «by» sd n=>
  exact ⟨_,.by sd n,if_pos hv,rfl,lof_length _ _,rfl,by simp,by simp⟩
 | tm S=>
  obtain ⟨m,hm,rfl⟩:=hv
  have hn':S.l.length≤900:=hn
  have e:oneT 6 S (valT m)=(valT (putA S (6,m,0)).1,0,S.put (6,m,0)):=by unfold oneT;rw [numV_valT hm (by omega)]
  obtain ⟨k,h1,h2,h3⟩:=put_get ho (mayOne (k:=6) (by decide) hm)
  refine ⟨valT (k:Int),.tm (S.put (6,m,0)),?_,put_le _,⟨k,h3,rfl⟩,⟨m,k,rfl,rfl,Nat.lt_of_lt_of_le hm (put_le _).1.length_le,h2⟩,by rw [valT_length];decide,(put_len S _).1⟩
  show ((oneT 6 S (valT m)).1,(oneT 6 S (valT m)).2.1,Su.tm (oneT 6 S (valT m)).2.2)= _
  rw [e,h1]
theorem Su.nx_fun {a b c:List Int} (ho:X.ok) (hn:X.size≤900) (h:X.nx a b) (h':X.nx a c):b=c:=by
 cases X with
 | «by» sd n=> exact Eq.trans h (Eq.symm h')
 | tm S=>
  have hn':S.l.length≤900:=hn
  obtain ⟨n,m,rfl,rfl,h1,h2⟩:=h
  obtain ⟨n',m',e,rfl,h1',h2'⟩:=h'
  have:=valT_inj (by omega) (by omega) e
  subst this
  rw [twin ho h2 h2']
end
end Go.Proofs.Ytpcjekgfnfjbpaa
namespace Go.Proofs.Ytpcjekgfnfjbpaa
open Go.RowKit Go.Bas Go.ChangeShapes Go.Maps
attribute [local go_sem ↓] Go.wp_at_zero Go.wp_at_succ
def suCs (kd:Int) (sd:Nat→Int) (s:Value):Array Value:=(.int .i64 kd::(vals .u8 32 sd++ [.int .i64 0,s])).toArray
theorem suCs_0 (kd:Int) (sd:Nat→Int) (s:Value):(suCs kd sd s)[0]? =some (.int .i64 kd):=rfl
theorem suCs_1 (kd:Int) (sd:Nat→Int) (s:Value) {i:Nat} (h:i<32):(suCs kd sd s)[1+i]? =some (.int .u8 (sd i)):=by
 unfold suCs
 rw [List.getElem?_toArray,Nat.add_comm,List.getElem?_cons_succ,List.getElem?_append_left (by simpa using h)]
 exact vals_get h
theorem suCs_33 (kd:Int) (sd:Nat→Int) (s:Value):(suCs kd sd s)[33]? =some (.int .i64 0):=rfl
theorem suCs_34 (kd:Int) (sd:Nat→Int) (s:Value):(suCs kd sd s)[34]? =some s:=rfl
theorem SuRow.new (w:World) (kd:Int) (sd:Nat→Int) (s:Value):SuRow (w.alloc (.cells (suCs kd sd s) 53)) w.heap.size kd sd 0 s:=by
 have hb:=heap_alloc_new w (.cells (suCs kd sd s) 53)
 have hc:=fun i=> cell_of_row _ _ i _ _ (0,0) hb
 exact ⟨⟨_,hb,rfl⟩,(hc 0).trans (suCs_0 _ _ _),fun i hi=> (hc (1+i)).trans (suCs_1 _ _ _ hi),(hc 33).trans (suCs_33 _ _ _),(hc 34).trans (suCs_34 _ _ _)⟩
theorem StA.base {B B':Nat} {w:World} {p:Nat} {F:Nat→Prop} {S:TS} (h:StA B w p F S) (hB:B'≤B):StA B' w p F S:=by
 obtain ⟨mb,mt,vl,vb,tv,h1,h2,h3⟩:=h
 exact ⟨mb,mt,vl,vb,tv,⟨⟨h1.row,h1.c0,h1.c1,h1.c2,h1.c3,h1.nx,h1.ls,h1.am,h1.xm,h1.bs,fun j b hb=> (h1.bt j b hb).mono hB,h1.ne,Nat.le_trans hB h1.hp,Nat.le_trans hB h1.hb,Nat.le_trans hB h1.hm,fun b hb=> Nat.le_trans hB (h1.hl b hb),fun b hb=> Nat.le_trans hB (h1.hv b hb)⟩,h1.nd,h1.txn,h1.all,h1.okt,h1.okx⟩,h2,h3⟩
theorem SuT.base {B B':Nat} {w:World} {p:Nat} {F:Nat→Prop} {S:TS} (h:SuT B w p F S) (hB:B'≤B):SuT B' w p F S:=by
 obtain ⟨q,G,h,hF⟩:=h
 exact ⟨q,G,⟨h.r,h.st.base hB,h.few,Nat.le_trans hB h.hp,h.np⟩,hF⟩
theorem suTerms_any (w:World):Calls Try.prog 13 #[] w fun e w'=> ∃p F,e=.returned (.pointer (some ⟨p,0,none⟩))∧SuT w.heap.size w' p F ⟨[], []⟩∧Below w.heap.size w w':=by
 go_enter Try.func13,Try.ntmps13
 go_wp2_with fail
 refine (tNew_any w).mono ?_
 rintro e w1 ⟨q,G,rfl,h1,b1⟩
 have H1:=Lib.hid h1
 have B1:=Lib.hid b1
 clear h1 b1
 go_wp2
 go_ret
 have hr:=SuRow.new w1 2 (fun _=> 0) (.pointer (some ⟨q,0,none⟩))
 have ba:=(Below.refl w1.heap.size w1).alloc (Nat.le_refl _) (.cells (suCs 2 (fun _=> 0) (.pointer (some ⟨q,0,none⟩))) 53)
 exact ⟨_,fun b=> b=w1.heap.size∨G b,rfl,⟨q,G,⟨hr,H1.out.below ba,TS.few.nil,B1.out.size,fun hg=> by have:=H1.out.lt hg;omega⟩,fun _=> Iff.rfl⟩,B1.out.trans (ba.mono B1.out.size)⟩
theorem fold_seed (sd:Nat→Int):Array.foldl (fun (cs:Array Value) (x:Value × Nat)=> cs.setIfInBounds (1+x.snd) x.fst) #[.int .i64 1,.int .u8 0,.int .u8 0,.int .u8 0,.int .u8 0,.int .u8 0,.int .u8 0,.int .u8 0,.int .u8 0,.int .u8 0,.int .u8 0,.int .u8 0,.int .u8 0,.int .u8 0,.int .u8 0,.int .u8 0,.int .u8 0,.int .u8 0,.int .u8 0,.int .u8 0,.int .u8 0,.int .u8 0,.int .u8 0,.int .u8 0,.int .u8 0,.int .u8 0,.int .u8 0,.int .u8 0,.int .u8 0,.int .u8 0,.int .u8 0,.int .u8 0,.int .u8 0,.int .i64 0,.pointer none] (arr .u8 32 sd).zipIdx 0 32=suCs 1 sd (.pointer none):=by kernel_rfl
theorem suBytes_any (sd:Nat→Int) (hs:∀i,i<32→0≤sd i∧sd i<256) (w:World):Calls Try.prog 20 #[.agg (arr .u8 32 sd)] w fun e w'=> ∃p,e=.returned (.pointer (some ⟨p,0,none⟩))∧SuB w.heap.size w' p sd 0∧Below w.heap.size w w':=by
 have HS:=Lib.hid hs
 clear hs
 go_enter Try.func20,Try.ntmps20
 go_upto_region 1 with (fail)
 refine wp_world (fun w1=> Arr .u8 w1 w.heap.size 32 sd∧Below w.heap.size w w1) ⟨Arr.newAt rfl rfl,(Below.refl _ _).alloc (Nat.le_refl _) _⟩ ?_
 rintro w1 ⟨h1,b1⟩
 have H1:=Lib.hid h1
 have B1:=Lib.hid b1
 clear h1 b1
 go_wp2_with (refine load_arr rfl 22 _ rfl .u8 w.heap.size 32 sd 5 Try.underlying22 Try.size22 rfl H1.out ?_)
 rw [fold_seed]
 go_ret
 have hr:=SuRow.new w1 1 sd (.pointer none)
 have ba:=(Below.refl w1.heap.size w1).alloc (Nat.le_refl _) (.cells (suCs 1 sd (.pointer none)) 53)
 have HR:Hid (SuB w.heap.size (w1.alloc (.cells (suCs 1 sd (.pointer none)) 53)) w1.heap.size sd 0∧Below w.heap.size w (w1.alloc (.cells (suCs 1 sd (.pointer none)) 53))):=Lib.hid ⟨⟨hr,HS.out,B1.out.size⟩,B1.out.trans (ba.mono B1.out.size)⟩
 exact ⟨w1.heap.size,rfl,HR.out⟩
def WayV (b:Bool) (sd:Nat→Int):Value:=.agg (.bool b::vals .u8 32 sd).toArray
def Su.new (b:Bool) (sd:Nat→Int):Su:=if b then .by sd 0 else .tm ⟨[], []⟩
theorem suWay_any (b:Bool) (sd:Nat→Int) (hs:∀i,i<32→0≤sd i∧sd i<256) (w:World):Calls Try.prog 7 #[WayV b sd] w fun e w'=> ∃p F,e=.returned (.pointer (some ⟨p,0,none⟩))∧SuM w.heap.size w' p F (Su.new b sd)∧Below w.heap.size w w':=by
 have HS:=Lib.hid hs
 clear hs
 obtain ⟨V,hV⟩:∃V,V=WayV b sd:=⟨_,rfl⟩
 have HV:=Lib.hid hV
 rw [←hV]
 clear hV
 go_enter Try.func7,Try.ntmps7
 obtain rfl:=HV.out
 go_upto_region 1 with (fail)
 refine wp_world (fun w1=> w1.cell? ⟨w.heap.size,0,none⟩=some (.bool b)∧(∀i,i<32→w1.cell? ⟨w.heap.size,1+i,none⟩=some (.int .u8 (sd i)))∧Below w.heap.size w w1) ⟨cell_of_row _ _ 0 _ _ (0,0) (heap_alloc_new w _),fun i hi=> (cell_of_row _ _ (1+i) _ _ (0,0) (heap_alloc_new w _)).trans (show (Value.bool b::vals .u8 32 sd).toArray[1+i]? = _ from by rw [List.getElem?_toArray,Nat.add_comm,List.getElem?_cons_succ];exact vals_get hi),(Below.refl _ _).alloc (Nat.le_refl _) _⟩ ?_
 rintro w1 ⟨c0,c1,b1⟩
 have C1:=Lib.hid c1
 have B1:=Lib.hid b1
 clear c1 b1
 cases b with
 | true=>
  go_wp2_with (refine load_part rfl 22 _ rfl .u8 w.heap.size 1 32 sd 5 Try.underlying22 Try.size22 rfl (fun i hi=> C1.out i hi) ?_)
  refine (suBytes_any sd HS.out w1).mono ?_
  rintro e w2 ⟨p,rfl,h2,b2⟩
  have H2:=Lib.hid h2
  have B2:=Lib.hid b2
  clear h2 b2
  go_wp2
  go_ret
  exact ⟨p,fun _=> False,rfl,⟨⟨H2.out.r,H2.out.sdb,Nat.le_trans B1.out.size H2.out.hp⟩,fun _=> id⟩,B1.out.trans (B2.out.mono B1.out.size)⟩
 | false=>
  go_wp2_with fail
  refine (suTerms_any w1).mono ?_
  rintro e w2 ⟨p,F,rfl,h2,b2⟩
  have H2:=Lib.hid h2
  have B2:=Lib.hid b2
  clear h2 b2
  go_wp2
  go_ret
  exact ⟨p,F,rfl,SuT.base H2.out B1.out.size,B1.out.trans (B2.out.mono B1.out.size)⟩
end Go.Proofs.Ytpcjekgfnfjbpaa
namespace Go.Proofs.Ytpcjekgfnfjbpaa
open Go.RowKit Go.Bas Go.ChangeShapes Go.Maps
attribute [local go_sem ↓] Go.wp_at_zero Go.wp_at_succ
def Su.nxs (X:Su) (a:List Int):Nat→List Int→Prop
 | 0,b=> b=a
 | j+1,b=> ∃c,X.nxs a j c∧X.nx c b
section
variable {B : Nat} {w w' w1 w2 w3 : World} {p q : Nat} {F F' F'' G G' : Nat → Prop} {sd : Nat → Int} {n : Nat} {v u v' : Value} {l l' a b c : List Int} {X X' X'' : Su} {S S' : TS}
theorem Su.nxs.mono (hl:X.le X'):∀{j:Nat} {b:List Int},X.nxs a j b→X'.nxs a j b
 | 0,_,h=> h
 | _+1,_,⟨c,h1,h2⟩=> ⟨c,h1.mono hl,h2.mono hl⟩
theorem Su.nxs_fun (ho:X.ok) (hn:X.size≤900):∀{j:Nat} {b c:List Int},X.nxs a j b→X.nxs a j c→b=c
 | 0,_,_,h,h'=> Eq.trans h (Eq.symm h')
 | _+1,_,_,⟨d,h1,h2⟩,⟨d',h1',h2'⟩=> by
  have e:=Su.nxs_fun ho hn h1 h1'
  subst e
  exact Su.nx_fun ho hn h2 h2'
def SuV (B:Nat) (w:World) (p:Nat) (F:Nat→Prop) (X:Su) (m:Nat) (v:Value) (b:List Int) (X':Su) (w':World):Prop:=
 ∃F',SuM B w' p F' X'∧Byt F' w' v b∧ChS p F w w'∧(∀b,F' b→F b∨w.heap.size≤b)∧X.le X'∧X'.size≤X.size+m
def DwI (B:Nat) (w:World) (p:Nat) (F:Nat→Prop) (X:Su) (a:List Int) (j:Nat) (v:Value) (w':World):Prop:=
 ∃b X',SuV B w p F X j v b X' w'∧X'.nxs a j b∧X'.val b∧b.length≤32
theorem dwI_next (hn:X.size+n+1≤900) (h:DwI B w p F X a n v w1):∃F' b X',SuM B w1 p F' X'∧Byt F' w1 v b∧X'.size≤900∧(X'.next b).2.1=0∧∀u w2,SuR B w1 p F' u (X'.next b) w2→DwI B w p F X a (n+1) u w2:=by
 obtain ⟨b,X',⟨F',h1,h2,h3,h4,h5,h6⟩,h7,h8,h9⟩:=h
 obtain ⟨b2,X2,e,g1,g2,g3,g4,g5⟩:=Su.next_ok h1.ok (by omega) h8
 refine ⟨F',b,X',h1,h2,by omega,by rw [e],fun u w2 hr=> ?_⟩
 rw [e] at hr
 obtain ⟨F2,k1,k2,k3,k4⟩:=hr
 refine ⟨b2,X2,⟨F2,k1,k2,h3.trans k3 h4,fun b hb=> ?_,h5.trans g1,by omega⟩,⟨b,h7.mono g1,g3⟩,g2,g4⟩
 rcases k4 b hb with h | h
 ·exact h4 b h
 ·exact .inr (Nat.le_trans h3.chg.size h)
theorem rgDown_any (h:SuM B w p F X) (hb:Byt F w v a) (hv:X.val a) (ha:a.length≤32) (k:Nat) (hk:k<4) (hn:X.size+k≤900):Calls Try.prog 9 #[.pointer (some ⟨p,0,none⟩),v,.int .i64 (k:Int)] w fun e w'=> ∃u,e=.returned (.tuple #[u,.int .i64 0])∧DwI B w p F X a k u w':=by
 have HM:=Lib.hid h
 have HB:=Lib.hid hb
 have HV:=Lib.hid hv
 have HA:=Lib.hid ha
 have HN:=Lib.hid hn
 have HK:=Lib.hid hk
 have HC:=Lib.hid (clone_any v a.length (bf a) w hb.rd (by omega))
 have h1:decide ((k:Int)<0)=false:=decide_eq_false (by omega)
 have h2:decide ((4:Int)≤(k:Int))=false:=decide_eq_false (by omega)
 obtain ⟨av,cv,rfl,_⟩:=hb.rd
 clear h hb hv ha hn hk
 go_enter Try.func9,Try.ntmps9
 go_wp2_with fail
 refine HC.out.mono ?_
 rintro e w1 ⟨u,rfl,hu,b1⟩
 have HU:=Lib.hid hu.rd
 have H0:Hid (DwI B w p F X a 0 u w1):=Lib.hid ⟨a,X,⟨F,HM.out.below b1,Byt.own (n:=a.length) (f:=bf a) hu (fun i hi=> HB.out.ok.at i hi) (fun b hb=> HM.out.lt (.inr hb)) |> fun h=> (lof_bf a)▸h,ChS.of_below b1 _,fun b hb=> .inl hb,Su.le.refl _,Nat.le_refl _⟩,rfl,HV.out,HA.out⟩
 clear hu b1 h1 h2
 go_wp2
 go_loopw [8,20] (fun o i wr=> ∃j:Nat,j≤k∧i=.int .i64 (j:Int)∧DwI B w p F X a j o wr) (fun _ i _=> k - (intOf i).toNat)
 case atStart=> exact ⟨0,Nat.zero_le _,rfl,H0.out⟩
 case round=>
  obtain ⟨j,hj,rfl,hI⟩:=hrel
  have HI:=Lib.hid hI
  clear hI
  by_cases hlt:j<k
  ·obtain ⟨F',b,X',g1,g2,g3,g4,g5⟩:=dwI_next (by have:=HN.out;omega) HI.out
   have G1:=Lib.hid g1
   have G2:=Lib.hid g2
   have G3:=Lib.hid g3
   have G5:=Lib.hid g5
   obtain ⟨ao,co,rfl,_⟩:=g2.rd
   have hk9:(j:Int)<(k:Int):=by omega
   have hk8:(k:Int)<1000000:=by have:=HK.out;omega
   have HLT:=Lib.hid hlt
   have G4:=Lib.hid g4
   clear g1 g2 g3 g4 g5 hlt
   go_wp2_with fail
   refine (suNext_any G1.out G2.out G3.out).mono ?_
   rw [G4.out]
   rintro e w2 ⟨x,rfl,hr⟩
   have HX:=Lib.hid (G5.out x w2 hr)
   clear hr
   go_wp2
   go_roundw
   case rel=> exact ⟨j+1,by have:=HLT.out;omega,by go_num,HX.out⟩
   case measure=> have:=HLT.out;simp [intOf];omega
  ·obtain rfl:j=k:=by omega
   clear hlt
   go_wp2
   go_ret2
   exact ⟨_,rfl,HI.out⟩
end
end Go.Proofs.Ytpcjekgfnfjbpaa
namespace Go.Proofs.Ytpcjekgfnfjbpaa
open Go.RowKit Go.Bas Go.ChangeShapes Go.Maps
attribute [local go_sem ↓] Go.wp_at_zero Go.wp_at_succ
section
variable {B : Nat} {w w' w1 w2 w3 : World} {p q : Nat} {F F' F'' G G' : Nat → Prop} {sd : Nat → Int} {n : Nat} {v u v' : Value} {l l' a b c : List Int} {X X' X'' : Su} {S S' : TS}
theorem _root_.Go.Bas.ChS.below (h:ChS p F w w') (hB:B≤w.heap.size) (hF:∀b,b=p∨F b→B≤b):Below B w w':=h.chg.below hB hF
theorem rgDown_bad (p:Value) (k:Int) (hk:k<0∨4≤k) (a:Option Addr) (m c:Nat) (w:World):Calls Try.prog 9 #[p,.slice a m c,.int .i64 k] w fun e w'=> e=.returned (.tuple #[.slice none 0 0,.int .i64 2])∧w'=w:=by
 by_cases h0:k<0
 ·have h1:decide (k<0)=true:=decide_eq_true h0
  clear h0 hk
  go_enter Try.func9,Try.ntmps9
  go_wp2
  go_ret2
  exact ⟨rfl,rfl⟩
 ·have h1:decide (k<0)=false:=decide_eq_false h0
  have h2:decide (4≤k)=true:=decide_eq_true (by omega)
  clear h0 hk
  go_enter Try.func9,Try.ntmps9
  go_wp2
  go_ret2
  exact ⟨rfl,rfl⟩
theorem rgState_any (h:SuM B w p F X) (hb:Byt F w v a) (hv:X.val a) (ha:a.length≤32) (pl:Nat) (h1:1≤pl) (h4:pl≤4) (hn:X.size+4≤900):Calls Try.prog 10 #[.pointer (some ⟨p,0,none⟩),v,.int .i64 (pl:Int)] w fun e w'=> ∃u,e=.returned (.tuple #[u,.int .i64 0])∧DwI B w p F X a (4 - pl) u w':=by
 obtain ⟨k,hk⟩:∃k,k=4 - pl:=⟨_,rfl⟩
 have HC:=Lib.hid (rgDown_any h hb hv ha k (by omega) (by omega))
 have q1:decide ((pl:Int)<1)=false:=decide_eq_false (by omega)
 have q2:decide ((4:Int)<(pl:Int))=false:=decide_eq_false (by omega)
 have hw:IntKind.i64.wrap (4 - (pl:Int))=(k:Int):=by rw [wrap_i64_id (by omega) (by omega)];omega
 have hw2:(4 - (pl:Int))=(k:Int):=by omega
 rw [←hk]
 obtain ⟨av,cv,rfl,_⟩:=hb.rd
 clear h hb hv ha hn hk h1 h4
 go_enter Try.func10,Try.ntmps10
 go_wp2_with fail
 refine HC.out.mono ?_
 rintro e w1 ⟨u,rfl,hu⟩
 have HU:=Lib.hid hu
 clear hu
 go_wp2
 go_ret2
 exact ⟨u,rfl,HU.out⟩
theorem rgState_bad (p:Value) (k:Int) (hk:k<1∨4<k) (a:Option Addr) (m c:Nat) (w:World):Calls Try.prog 10 #[p,.slice a m c,.int .i64 k] w fun e w'=> e=.returned (.tuple #[.slice none 0 0,.int .i64 2])∧w'=w:=by
 by_cases h0:k<1
 ·have h1:decide (k<1)=true:=decide_eq_true h0
  clear h0 hk
  go_enter Try.func10,Try.ntmps10
  go_wp2
  go_ret2
  exact ⟨rfl,rfl⟩
 ·have h1:decide (k<1)=false:=decide_eq_false h0
  have h2:decide (4<k)=true:=decide_eq_true (by omega)
  clear h0 hk
  go_enter Try.func10,Try.ntmps10
  go_wp2
  go_ret2
  exact ⟨rfl,rfl⟩
theorem suNext_nil (a:Option Addr) (m c:Nat) (w:World):Calls Try.prog 11 #[.pointer none,.slice a m c] w fun e w'=> e=.returned (.tuple #[.slice none 0 0,.int .i64 1])∧w'=w:=by
 go_enter Try.func11,Try.ntmps11
 go_wp2_with fail
 refine (suWhich_nil w).mono ?_
 rintro e w1 ⟨rfl,rfl⟩
 go_wp2
 go_ret2
 exact ⟨rfl,rfl⟩
theorem rgDown_nil (hr:Rd .u8 w v l.length (bf l)) (hl:l.length≤1000):Calls Try.prog 9 #[.pointer none,v,.int .i64 1] w fun e w'=> e=.returned (.tuple #[.slice none 0 0,.int .i64 1])∧Below w.heap.size w w':=by
 have HC:=Lib.hid (clone_any v l.length (bf l) w hr (by omega))
 obtain ⟨av,cv,rfl,_⟩:=hr
 clear hl
 go_enter Try.func9,Try.ntmps9
 go_wp2_with fail
 refine HC.out.mono ?_
 rintro e w1 ⟨u,rfl,hu,b1⟩
 have B1:=Lib.hid b1
 obtain ⟨au,cu,rfl,_⟩:=hu.rd
 clear hu b1
 go_wp2
 go_loopw [8,20] (fun o i wr=> i=.int .i64 0∧o=.slice au l.length cu∧Below w.heap.size w wr) (fun _ _ _=> 1)
 case atStart=> exact ⟨rfl,rfl,B1.out⟩
 case round=>
  obtain ⟨rfl,rfl,hb⟩:=hrel
  have HB:=Lib.hid hb
  clear hb
  go_wp2_with fail
  refine (suNext_nil _ _ _ wr).mono ?_
  rintro e w2 ⟨rfl,rfl⟩
  go_wp2
  go_ret2
  exact ⟨rfl,HB.out⟩
end
end Go.Proofs.Ytpcjekgfnfjbpaa
namespace Go.Proofs.Ytpcjekgfnfjbpaa
open Go.RowKit Go.Bas Go.ChangeShapes Go.Maps
attribute [local go_sem ↓] Go.wp_at_zero Go.wp_at_succ
abbrev Stp:Type:=Int × List Int
def stq (L:List Stp) (lv:Nat→Value):Nat→Nat→Value:=fun j i=> if i=0 then (match L[j]? with | some x=> .int .i64 x.1 | none=> undef) else lv j
structure StM (w:World) (v:Value) (L:List Stp) (lv:Nat→Value):Prop where
 m:Mat w v L.length 2 (stq L lv)
 l:∀(j:Nat) (x:Stp),L[j]? =some x→Rd .u8 w (lv j) x.2.length (bf x.2)
def OkS (L:List Stp):Prop:=∀(j:Nat) (x:Stp),L[j]? =some x→(1≤x.1∧x.1≤4)∧((x.1=1∧j=0∧x.2= [])∨(x.1=1∧0<j∧x.2≠ [])∨(∃y:Stp,0<j∧L[j - 1]? =some y∧y.1<4∧x.1=y.1+1∧x.2= []))
def lastS (L:List Stp) (j:Nat):Int:=if j=0 then 4 else (L.getD (j - 1) (0, [])).1
section
variable {B : Nat} {w w' w1 w2 w3 : World} {p q : Nat} {v u v' : Value} {L : List Stp} {lv : Nat → Value}
theorem StM.below (h:StM w v L lv) (hb:Below w.heap.size w w'):StM w' v L lv:=⟨h.m.below hb,fun j x hx=> (h.l j x hx).below hb⟩
theorem StM.at (h:StM w v L lv) {j:Nat} {x:Stp} (hx:L[j]? =some x):∃g o cap a c,v=.slice (some ⟨g,o,none⟩) L.length cap∧g<w.heap.size∧w.cell? ⟨g,o+j * 2,none⟩=some (.int .i64 x.1)∧w.cell? ⟨g,o+j * 2+1,none⟩=some (.slice a x.2.length c)∧lv j=.slice a x.2.length c:=by
 obtain ⟨a,cap,rfl,_,_,h3⟩:=h.m
 have hj:=(List.getElem?_eq_some_iff.1 hx).1
 obtain ⟨g,o,rfl,hlt,hc⟩:=h3 (by omega)
 obtain ⟨a,c,e,_⟩:=h.l j x hx
 refine ⟨g,o,cap,a,c,rfl,hlt,(hc j hj 0 (by decide)).trans (congrArg some (by unfold stq;rw [if_pos rfl,hx])),?_,e⟩
 rw [←e]
 exact (hc j hj 1 (by decide)).trans (congrArg some (if_neg (by decide)))
theorem StM.slice (h:StM w v L lv):∃a cap,v=.slice a L.length cap:=by obtain ⟨a,cap,e,_⟩:=h.m;exact ⟨a,cap,e⟩
theorem rgRight_any (h:StM w v L lv) (ho:OkS L) (hl:L.length≤1000):Calls Try.prog 17 #[v] w fun e w'=> e=.returned (.bool true)∧Below w.heap.size w w':=by
 have H:=Lib.hid h
 have HO:=Lib.hid ho
 have HL:=Lib.hid hl
 obtain ⟨av,cv,rfl⟩:=h.slice
 clear h ho hl
 go_enter Try.func17,Try.ntmps17
 go_wp2
 go_loopw [3,10] (fun la i wr=> ∃j:Nat,j≤L.length∧i=.int .i64 (j:Int)∧la=.int .i64 (lastS L j)∧Below w.heap.size w wr) (fun _ i _=> L.length - (intOf i).toNat)
 case atStart=> exact ⟨0,Nat.zero_le _,rfl,rfl,Below.refl _ _⟩
 case round=>
  obtain ⟨j,hj,rfl,rfl,hb⟩:=hrel
  have HB:=Lib.hid hb
  have HJ:=Lib.hid hj
  by_cases hlt:j<L.length
  ·obtain ⟨x,hx⟩:∃x,L[j]? =some x:=⟨_,List.getElem?_eq_getElem hlt⟩
   have HX:=Lib.hid hx
   obtain ⟨g,o,cap,al,cl,ev,hg,c0,c1,_⟩:=(H.out.below hb).at hx
   cases ev
   have hk9:(j:Int)<(L.length:Int):=by omega
   have hk8:(L.length:Int)<1000000:=by have:=HL.out;omega
   have HLT:=Lib.hid hlt
   have HNX:Hid (lastS L (j+1)=x.1):=Lib.hid (by unfold lastS;rw [if_neg (by omega),Nat.add_sub_cancel,List.getD_eq_getElem?_getD,hx];rfl)
   have HOX:=Lib.hid (HO.out j x hx)
   obtain ⟨la,hla⟩:∃la,la=lastS L j:=⟨_,rfl⟩
   have HLA:=Lib.hid hla
   rw [←hla]
   obtain ⟨pl,lk⟩:=x
   simp only at c0 c1 HNX HOX
   clear hb hj hx hg hlt hla
   go_upto_region 5 with (fail)
   refine wp_world (fun w2=> w2.cell? ⟨wr.heap.size,0,none⟩=some (.int .i64 pl)∧w2.cell? ⟨wr.heap.size,1,none⟩=some (.slice al lk.length cl)∧Below w.heap.size w w2) ⟨cell_of_row _ _ 0 _ _ (0,0) (heap_alloc_new wr _),cell_of_row _ _ 1 _ _ (0,0) (heap_alloc_new wr _),HB.out.alloc HB.out.size _⟩ ?_
   rintro w2 ⟨d0,d1,b2⟩
   have B2:=Lib.hid b2
   clear b2 c0 c1
   have hpl:(1≤pl∧pl≤4):=HOX.out.1
   rcases HOX.out.2 with ⟨rfl,rfl,e2⟩ | ⟨rfl,hj0,e2⟩ | ⟨y,hj0,hy,hy4,rfl,e2⟩
   ·subst e2
    obtain rfl:la=4:=HLA.out
    clear hpl
    go_wp2
    exact ⟨⟨1,HLT.out,rfl,by rw [show (1:Nat)=0+1 from rfl,HNX.out],B2.out⟩,by have:=HLT.out;simp [intOf];omega⟩
   ·have HL1:Hid (1≤la∧la≤4):=Lib.hid (by
     have hj1:j - 1<L.length:=by have:=HLT.out;omega
     have:=(HO.out (j - 1) _ (List.getElem?_eq_getElem hj1)).1
     rw [HLA.out]
     unfold lastS
     rw [if_neg (by omega),List.getD_eq_getElem?_getD,List.getElem?_eq_getElem hj1]
     exact this)
    have q1:((j:Int)==0)=false:=by simp;omega
    have q2:((lk.length:Int)==0)=false:=by
     have:lk.length≠0:=fun e=> e2 (List.length_eq_zero_iff.1 e)
     simp;exact e2
    have q3:(0:Int)<(j:Int):=by omega
    have q4:((1:Int)==la+1)=false:=by simp;have:=HL1.out;omega
    clear e2 hpl hj0
    go_upto_region 6 with (fail)
    have hxl:wr.heap.size<w2.heap.size:=World.block_lt_of_cell? _ _ d0
    by_cases h4:la<4
    ·skip
     refine region_flow (n:=55) (by kernel_rfl) (by kernel_rfl) (by kernel_rfl) rfl
      (fun ii vv _=> (match ii with | 0=> vv=.int .i64 ((j:Int)) | 1 | 2 | 4 | 5 | 6=> vv=.bool true | 3 | 9=> vv=.int .i64 (la) | 7=> vv=.pointer (some ⟨wr.heap.size,0,none⟩) | 8=> vv=.int .i64 (1) | 10=> vv=.int .i64 (la+1) | 11 | 12 | 13 | 18 | 19=> vv=.bool false | 14 | 15 | 16 | 17=> vv=undef | _=> True))
      (fun w w'=> Below w.heap.size w w') (fun _ _ h=> h) (fun _ _ _ _ h _=> h) ?_ ?_
     ·refine Each.all ?_
      refine ⟨?_,?_,?_,?_,?_,?_,?_,?_,?_,?_,?_,?_,?_,?_,?_,?_,?_,?_,?_,?_,trivial⟩
      ·intro a w2 hB hF hd
       rw [if_pos (wanted_none rfl)]
       exact flow_move _ (.inl rfl) (by simp) (hF.same 4 rfl)
      ·intro a w2 hB hF hd
       rw [if_pos (wanted_none rfl)]
       exact flow_val (fun h=> by cases h) (Go.Bas.run_gtr rfl (hd 0 _ rfl (waits_spec rfl)) rfl) (congrArg Value.bool (decide_eq_true q3))
      ·intro a w2 hB hF hd
       rw [if_pos (wanted_none rfl)]
       exact flow_move _ (.inl rfl) (by simp) (hd 1 _ rfl (waits_spec rfl))
      ·intro a w2 hB hF hd
       refine flow_wanted (wanted_yes rfl rfl (hd 2 _ rfl (waits_spec rfl)) rfl) ?_
       exact flow_move _ (.inl rfl) (by simp) (hF.same 3 rfl)
      ·intro a w2 hB hF hd
       refine flow_wanted (wanted_yes rfl rfl (hd 2 _ rfl (waits_spec rfl)) rfl) ?_
       exact flow_val (fun h=> by cases h) (Go.Bas.run_lss rfl (hd 3 _ rfl (waits_spec rfl)) rfl) (congrArg Value.bool (decide_eq_true h4))
      ·intro a w2 hB hF hd
       rw [if_pos (wanted_none rfl)]
       exact flow_val (fun h=> by cases h) (run_pick rfl (hd 2 _ rfl (waits_spec rfl))) ((hd 4 _ rfl (waits_spec rfl)))
      ·intro a w2 hB hF hd
       rw [if_pos (wanted_none rfl)]
       exact flow_move _ (.inl rfl) (by simp) (hd 5 _ rfl (waits_spec rfl))
      ·intro a w2 hB hF hd
       refine flow_wanted (wanted_yes rfl rfl (hd 6 _ rfl (waits_spec rfl)) rfl) ?_
       refine flow_val (fun h=> by cases h) (run_field_at (m:=0) (k:=0) rfl (hF.same 5 rfl) (by kernel_rfl)) ?_
       exact rfl
      ·intro a w2 hB hF hd
       refine flow_wanted (wanted_yes rfl rfl (hd 6 _ rfl (waits_spec rfl)) rfl) ?_
       exact flow_val (fun h=> by cases h) (run_load_cell rfl (hd 7 _ rfl (waits_spec rfl)) Try.underlying3 ((hB.cell (p:=⟨wr.heap.size,0,none⟩) hxl).trans d0)) rfl
      ·intro a w2 hB hF hd
       refine flow_wanted (wanted_yes rfl rfl (hd 6 _ rfl (waits_spec rfl)) rfl) ?_
       exact flow_move _ (.inl rfl) (by simp) (hF.same 3 rfl)
      ·intro a w2 hB hF hd
       refine flow_wanted (wanted_yes rfl rfl (hd 6 _ rfl (waits_spec rfl)) rfl) ?_
       exact flow_val (fun h=> by cases h) (Go.Bas.run_add rfl (hd 9 _ rfl (waits_spec rfl)) rfl) (congrArg (Value.int .i64) (wrap_i64_id (by have:=HL1.out;omega) (by have:=HL1.out;omega)))
      ·intro a w2 hB hF hd
       refine flow_wanted (wanted_yes rfl rfl (hd 6 _ rfl (waits_spec rfl)) rfl) ?_
       refine flow_val (fun h=> by cases h) (Go.Bas.run_eql_int rfl (hd 8 _ rfl (waits_spec rfl)) (hd 10 _ rfl (waits_spec rfl))) ?_
       exact congrArg Value.bool q4
      ·intro a w2 hB hF hd
       rw [if_pos (wanted_none rfl)]
       exact flow_val (fun h=> by cases h) (run_pick rfl (hd 6 _ rfl (waits_spec rfl))) ((hd 11 _ rfl (waits_spec rfl)))
      ·intro a w2 hB hF hd
       rw [if_pos (wanted_none rfl)]
       exact flow_move _ (.inl rfl) (by simp) (hd 12 _ rfl (waits_spec rfl))
      ·intro a w2 hB hF hd
       rw [if_neg (by rw [wanted_some rfl rfl (hd 13 _ rfl (waits_spec rfl))];decide)]
       exact rfl
      ·intro a w2 hB hF hd
       rw [if_neg (by rw [wanted_some rfl rfl (hd 13 _ rfl (waits_spec rfl))];decide)]
       exact rfl
      ·intro a w2 hB hF hd
       rw [if_neg (by rw [wanted_some rfl rfl (hd 13 _ rfl (waits_spec rfl))];decide)]
       exact rfl
      ·intro a w2 hB hF hd
       rw [if_neg (by rw [wanted_some rfl rfl (hd 13 _ rfl (waits_spec rfl))];decide)]
       exact rfl
      ·intro a w2 hB hF hd
       rw [if_pos (wanted_none rfl)]
       exact flow_val (fun h=> by cases h) (run_pick rfl (hd 13 _ rfl (waits_spec rfl))) (rfl)
      ·intro a w2 hB hF hd
       rw [if_pos (wanted_none rfl)]
       exact flow_move _ (.inr rfl) (by simp) (hd 18 _ rfl (waits_spec rfl))
     ·intro a w3 hB hF hS
      have ha:=puts_each rfl rfl hF [_,_,_,_,_,_,_,_,_,_,_,_,_,_,_,_,_,_,_,_] rfl ⟨hS 0 _ rfl,hS 1 _ rfl,hS 2 _ rfl,hS 3 _ rfl,hS 4 _ rfl,hS 5 _ rfl,hS 6 _ rfl,hS 7 _ rfl,hS 8 _ rfl,hS 9 _ rfl,hS 10 _ rfl,hS 11 _ rfl,hS 12 _ rfl,hS 13 _ rfl,hS 14 _ rfl,hS 15 _ rfl,hS 16 _ rfl,hS 17 _ rfl,hS 18 _ rfl,hS 19 _ rfl,trivial⟩
      simp only [puts,Act.put,List.setIfInBounds_toArray,List.set_cons_succ,List.set_cons_zero] at ha
      subst ha
      clear hS hF
      have hb3:=Lib.hid (B2.out.trans (hB.mono B2.out.size))
      have d0':=(hB.cell (p:=⟨wr.heap.size,0,none⟩) hxl).trans d0
      clear hB d0 d1 q3 q4 h4 hxl
      go_wp2
      exact ⟨⟨j+1,HLT.out,by go_num,by rw [HNX.out],hb3.out⟩,by have:=HLT.out;simp [intOf];omega⟩
    ·skip
     refine region_flow (n:=55) (by kernel_rfl) (by kernel_rfl) (by kernel_rfl) rfl
      (fun ii vv _=> (match ii with | 0=> vv=.int .i64 ((j:Int)) | 1 | 2=> vv=.bool true | 3=> vv=.int .i64 (la) | 4 | 5 | 6 | 12 | 13 | 18 | 19=> vv=.bool false | 7 | 8 | 9 | 10 | 11 | 14 | 15 | 16 | 17=> vv=undef | _=> True))
      (fun w w'=> Below w.heap.size w w') (fun _ _ h=> h) (fun _ _ _ _ h _=> h) ?_ ?_
     ·refine Each.all ?_
      refine ⟨?_,?_,?_,?_,?_,?_,?_,?_,?_,?_,?_,?_,?_,?_,?_,?_,?_,?_,?_,?_,trivial⟩
      ·intro a w2 hB hF hd
       rw [if_pos (wanted_none rfl)]
       exact flow_move _ (.inl rfl) (by simp) (hF.same 4 rfl)
      ·intro a w2 hB hF hd
       rw [if_pos (wanted_none rfl)]
       exact flow_val (fun h=> by cases h) (Go.Bas.run_gtr rfl (hd 0 _ rfl (waits_spec rfl)) rfl) (congrArg Value.bool (decide_eq_true q3))
      ·intro a w2 hB hF hd
       rw [if_pos (wanted_none rfl)]
       exact flow_move _ (.inl rfl) (by simp) (hd 1 _ rfl (waits_spec rfl))
      ·intro a w2 hB hF hd
       refine flow_wanted (wanted_yes rfl rfl (hd 2 _ rfl (waits_spec rfl)) rfl) ?_
       exact flow_move _ (.inl rfl) (by simp) (hF.same 3 rfl)
      ·intro a w2 hB hF hd
       refine flow_wanted (wanted_yes rfl rfl (hd 2 _ rfl (waits_spec rfl)) rfl) ?_
       exact flow_val (fun h=> by cases h) (Go.Bas.run_lss rfl (hd 3 _ rfl (waits_spec rfl)) rfl) (congrArg Value.bool (decide_eq_false h4))
      ·intro a w2 hB hF hd
       rw [if_pos (wanted_none rfl)]
       exact flow_val (fun h=> by cases h) (run_pick rfl (hd 2 _ rfl (waits_spec rfl))) ((hd 4 _ rfl (waits_spec rfl)))
      ·intro a w2 hB hF hd
       rw [if_pos (wanted_none rfl)]
       exact flow_move _ (.inl rfl) (by simp) (hd 5 _ rfl (waits_spec rfl))
      ·intro a w2 hB hF hd
       rw [if_neg (by rw [wanted_some rfl rfl (hd 6 _ rfl (waits_spec rfl))];decide)]
       exact rfl
      ·intro a w2 hB hF hd
       rw [if_neg (by rw [wanted_some rfl rfl (hd 6 _ rfl (waits_spec rfl))];decide)]
       exact rfl
      ·intro a w2 hB hF hd
       rw [if_neg (by rw [wanted_some rfl rfl (hd 6 _ rfl (waits_spec rfl))];decide)]
       exact rfl
      ·intro a w2 hB hF hd
       rw [if_neg (by rw [wanted_some rfl rfl (hd 6 _ rfl (waits_spec rfl))];decide)]
       exact rfl
      ·intro a w2 hB hF hd
       rw [if_neg (by rw [wanted_some rfl rfl (hd 6 _ rfl (waits_spec rfl))];decide)]
       exact rfl
      ·intro a w2 hB hF hd
       rw [if_pos (wanted_none rfl)]
       exact flow_val (fun h=> by cases h) (run_pick rfl (hd 6 _ rfl (waits_spec rfl))) (rfl)
      ·intro a w2 hB hF hd
       rw [if_pos (wanted_none rfl)]
       exact flow_move _ (.inl rfl) (by simp) (hd 12 _ rfl (waits_spec rfl))
      ·intro a w2 hB hF hd
       rw [if_neg (by rw [wanted_some rfl rfl (hd 13 _ rfl (waits_spec rfl))];decide)]
       exact rfl
      ·intro a w2 hB hF hd
       rw [if_neg (by rw [wanted_some rfl rfl (hd 13 _ rfl (waits_spec rfl))];decide)]
       exact rfl
      ·intro a w2 hB hF hd
       rw [if_neg (by rw [wanted_some rfl rfl (hd 13 _ rfl (waits_spec rfl))];decide)]
       exact rfl
      ·intro a w2 hB hF hd
       rw [if_neg (by rw [wanted_some rfl rfl (hd 13 _ rfl (waits_spec rfl))];decide)]
       exact rfl
      ·intro a w2 hB hF hd
       rw [if_pos (wanted_none rfl)]
       exact flow_val (fun h=> by cases h) (run_pick rfl (hd 13 _ rfl (waits_spec rfl))) (rfl)
      ·intro a w2 hB hF hd
       rw [if_pos (wanted_none rfl)]
       exact flow_move _ (.inr rfl) (by simp) (hd 18 _ rfl (waits_spec rfl))
     ·intro a w3 hB hF hS
      have ha:=puts_each rfl rfl hF [_,_,_,_,_,_,_,_,_,_,_,_,_,_,_,_,_,_,_,_] rfl ⟨hS 0 _ rfl,hS 1 _ rfl,hS 2 _ rfl,hS 3 _ rfl,hS 4 _ rfl,hS 5 _ rfl,hS 6 _ rfl,hS 7 _ rfl,hS 8 _ rfl,hS 9 _ rfl,hS 10 _ rfl,hS 11 _ rfl,hS 12 _ rfl,hS 13 _ rfl,hS 14 _ rfl,hS 15 _ rfl,hS 16 _ rfl,hS 17 _ rfl,hS 18 _ rfl,hS 19 _ rfl,trivial⟩
      simp only [puts,Act.put,List.setIfInBounds_toArray,List.set_cons_succ,List.set_cons_zero] at ha
      subst ha
      clear hS hF
      have hb3:=Lib.hid (B2.out.trans (hB.mono B2.out.size))
      have d0':=(hB.cell (p:=⟨wr.heap.size,0,none⟩) hxl).trans d0
      clear hB d0 d1 q3 q4 h4 hxl
      go_wp2
      exact ⟨⟨j+1,HLT.out,by go_num,by rw [HNX.out],hb3.out⟩,by have:=HLT.out;simp [intOf];omega⟩
   ·obtain ⟨yp,yl⟩:=y
    simp only at hy hy4 HLT HNX d0
    have hyb:=(HO.out (j - 1) _ hy).1
    obtain rfl:la=yp:=by
     rw [HLA.out]
     unfold lastS
     rw [if_neg (by omega),List.getD_eq_getElem?_getD,hy]
     rfl
    subst e2
    have q1:((j:Int)==0)=false:=by simp;omega
    have q3:(0:Int)<(j:Int):=by omega
    have HL1:Hid (1≤la∧la≤4):=Lib.hid hyb
    have h4:la<4:=hy4
    have q4:((la+1:Int)==1)=false:=by simp;omega
    have q5:((la+1:Int)==la+1)=true:=by simp
    rw [List.length_nil] at d1
    clear hpl hj0 hy hyb HLA HOX
    go_upto_region 6 with (fail)
    have hxl:wr.heap.size<w2.heap.size:=World.block_lt_of_cell? _ _ d0
    refine region_flow (n:=55) (by kernel_rfl) (by kernel_rfl) (by kernel_rfl) rfl
     (fun ii vv _=> (match ii with | 0=> vv=.int .i64 ((j:Int)) | 1 | 2 | 4 | 5 | 6 | 11 | 12 | 13 | 17 | 18 | 19=> vv=.bool true | 3 | 9=> vv=.int .i64 (la) | 7=> vv=.pointer (some ⟨wr.heap.size,0,none⟩) | 8 | 10=> vv=.int .i64 (la+1) | 14=> vv=.pointer (some ⟨wr.heap.size,1,none⟩) | 15=> vv=.slice al 0 cl | 16=> vv=.int .i64 (0) | _=> True))
     (fun w w'=> Below w.heap.size w w') (fun _ _ h=> h) (fun _ _ _ _ h _=> h) ?_ ?_
    ·refine Each.all ?_
     refine ⟨?_,?_,?_,?_,?_,?_,?_,?_,?_,?_,?_,?_,?_,?_,?_,?_,?_,?_,?_,?_,trivial⟩
     ·intro a w2 hB hF hd
      rw [if_pos (wanted_none rfl)]
      exact flow_move _ (.inl rfl) (by simp) (hF.same 4 rfl)
     ·intro a w2 hB hF hd
      rw [if_pos (wanted_none rfl)]
      exact flow_val (fun h=> by cases h) (Go.Bas.run_gtr rfl (hd 0 _ rfl (waits_spec rfl)) rfl) (congrArg Value.bool (decide_eq_true q3))
     ·intro a w2 hB hF hd
      rw [if_pos (wanted_none rfl)]
      exact flow_move _ (.inl rfl) (by simp) (hd 1 _ rfl (waits_spec rfl))
     ·intro a w2 hB hF hd
      refine flow_wanted (wanted_yes rfl rfl (hd 2 _ rfl (waits_spec rfl)) rfl) ?_
      exact flow_move _ (.inl rfl) (by simp) (hF.same 3 rfl)
     ·intro a w2 hB hF hd
      refine flow_wanted (wanted_yes rfl rfl (hd 2 _ rfl (waits_spec rfl)) rfl) ?_
      exact flow_val (fun h=> by cases h) (Go.Bas.run_lss rfl (hd 3 _ rfl (waits_spec rfl)) rfl) (congrArg Value.bool (decide_eq_true h4))
     ·intro a w2 hB hF hd
      rw [if_pos (wanted_none rfl)]
      exact flow_val (fun h=> by cases h) (run_pick rfl (hd 2 _ rfl (waits_spec rfl))) ((hd 4 _ rfl (waits_spec rfl)))
     ·intro a w2 hB hF hd
      rw [if_pos (wanted_none rfl)]
      exact flow_move _ (.inl rfl) (by simp) (hd 5 _ rfl (waits_spec rfl))
     ·intro a w2 hB hF hd
      refine flow_wanted (wanted_yes rfl rfl (hd 6 _ rfl (waits_spec rfl)) rfl) ?_
      refine flow_val (fun h=> by cases h) (run_field_at (m:=0) (k:=0) rfl (hF.same 5 rfl) (by kernel_rfl)) ?_
      exact rfl
     ·intro a w2 hB hF hd
      refine flow_wanted (wanted_yes rfl rfl (hd 6 _ rfl (waits_spec rfl)) rfl) ?_
      exact flow_val (fun h=> by cases h) (run_load_cell rfl (hd 7 _ rfl (waits_spec rfl)) Try.underlying3 ((hB.cell (p:=⟨wr.heap.size,0,none⟩) hxl).trans d0)) rfl
     ·intro a w2 hB hF hd
      refine flow_wanted (wanted_yes rfl rfl (hd 6 _ rfl (waits_spec rfl)) rfl) ?_
      exact flow_move _ (.inl rfl) (by simp) (hF.same 3 rfl)
     ·intro a w2 hB hF hd
      refine flow_wanted (wanted_yes rfl rfl (hd 6 _ rfl (waits_spec rfl)) rfl) ?_
      exact flow_val (fun h=> by cases h) (Go.Bas.run_add rfl (hd 9 _ rfl (waits_spec rfl)) rfl) (congrArg (Value.int .i64) (wrap_i64_id (by have:=HL1.out;omega) (by have:=HL1.out;omega)))
     ·intro a w2 hB hF hd
      refine flow_wanted (wanted_yes rfl rfl (hd 6 _ rfl (waits_spec rfl)) rfl) ?_
      refine flow_val (fun h=> by cases h) (Go.Bas.run_eql_int rfl (hd 8 _ rfl (waits_spec rfl)) (hd 10 _ rfl (waits_spec rfl))) ?_
      exact congrArg Value.bool q5
     ·intro a w2 hB hF hd
      rw [if_pos (wanted_none rfl)]
      exact flow_val (fun h=> by cases h) (run_pick rfl (hd 6 _ rfl (waits_spec rfl))) ((hd 11 _ rfl (waits_spec rfl)))
     ·intro a w2 hB hF hd
      rw [if_pos (wanted_none rfl)]
      exact flow_move _ (.inl rfl) (by simp) (hd 12 _ rfl (waits_spec rfl))
     ·intro a w2 hB hF hd
      refine flow_wanted (wanted_yes rfl rfl (hd 13 _ rfl (waits_spec rfl)) rfl) ?_
      refine flow_val (fun h=> by cases h) (run_field_at (m:=0) (k:=1) rfl (hF.same 5 rfl) (by kernel_rfl)) ?_
      exact rfl
     ·intro a w2 hB hF hd
      refine flow_wanted (wanted_yes rfl rfl (hd 13 _ rfl (waits_spec rfl)) rfl) ?_
      exact flow_val (fun h=> by cases h) (run_load_slice rfl (hd 14 _ rfl (waits_spec rfl)) Try.underlying28 ((hB.cell (p:=⟨wr.heap.size,1,none⟩) hxl).trans d1)) rfl
     ·intro a w2 hB hF hd
      refine flow_wanted (wanted_yes rfl rfl (hd 13 _ rfl (waits_spec rfl)) rfl) ?_
      exact flow_val (fun h=> by cases h) (run_len_sl rfl (hd 15 _ rfl (waits_spec rfl)) Try.underlying28) rfl
     ·intro a w2 hB hF hd
      refine flow_wanted (wanted_yes rfl rfl (hd 13 _ rfl (waits_spec rfl)) rfl) ?_
      refine flow_val (fun h=> by cases h) (Go.Bas.run_eql_int rfl (hd 16 _ rfl (waits_spec rfl)) rfl) ?_
      exact rfl
     ·intro a w2 hB hF hd
      rw [if_pos (wanted_none rfl)]
      exact flow_val (fun h=> by cases h) (run_pick rfl (hd 13 _ rfl (waits_spec rfl))) ((hd 17 _ rfl (waits_spec rfl)))
     ·intro a w2 hB hF hd
      rw [if_pos (wanted_none rfl)]
      exact flow_move _ (.inr rfl) (by simp) (hd 18 _ rfl (waits_spec rfl))
    ·intro a w3 hB hF hS
     have ha:=puts_each rfl rfl hF [_,_,_,_,_,_,_,_,_,_,_,_,_,_,_,_,_,_,_,_] rfl ⟨hS 0 _ rfl,hS 1 _ rfl,hS 2 _ rfl,hS 3 _ rfl,hS 4 _ rfl,hS 5 _ rfl,hS 6 _ rfl,hS 7 _ rfl,hS 8 _ rfl,hS 9 _ rfl,hS 10 _ rfl,hS 11 _ rfl,hS 12 _ rfl,hS 13 _ rfl,hS 14 _ rfl,hS 15 _ rfl,hS 16 _ rfl,hS 17 _ rfl,hS 18 _ rfl,hS 19 _ rfl,trivial⟩
     simp only [puts,Act.put,List.setIfInBounds_toArray,List.set_cons_succ,List.set_cons_zero] at ha
     subst ha
     clear hS hF
     have hb3:=Lib.hid (B2.out.trans (hB.mono B2.out.size))
     have d0':=(hB.cell (p:=⟨wr.heap.size,0,none⟩) hxl).trans d0
     clear hB d0 d1 q3 q4 q5 h4 hxl
     go_wp2
     exact ⟨⟨j+1,HLT.out,by go_num,by rw [HNX.out],hb3.out⟩,by have:=HLT.out;simp [intOf];omega⟩
  ·obtain rfl:j=L.length:=by omega
   clear hlt hb
   go_wp2
   go_ret
   exact ⟨rfl,HB.out⟩
theorem rgThere_any (h:StM w v L lv) (ho:OkS L) (hl:L.length≤1000) (n:Int):Calls Try.prog 32 #[v,.int .i64 n] w fun e w'=> e=.returned (.bool (decide (1≤n∧n≤(L.length:Int))))∧Below w.heap.size w w':=by
 obtain ⟨av,cv,rfl⟩:=h.slice
 obtain ⟨R,hR⟩:∃R,R=decide (1≤n∧n≤(L.length:Int)):=⟨_,rfl⟩
 rw [←hR]
 have HR:Hid (∀w',Below w.heap.size w w'→Calls Try.prog 17 #[.slice av L.length cv] w' fun e w2=> e=.returned (.bool true)∧Below w'.heap.size w' w2):=Lib.hid fun w' b=> rgRight_any (h.below b) ho hl
 by_cases h1:1≤n
 ·by_cases h2:n≤(L.length:Int)
  ·have HN:Hid (R=true):=Lib.hid (hR.trans (decide_eq_true ⟨h1,h2⟩))
   clear h ho hl hR
   go_enter Try.func32,Try.ntmps32
   go_upto_region 1 with (fail)
   refine region_flow (n:=17) (by kernel_rfl) (by kernel_rfl) (by kernel_rfl) rfl
    (fun ii vv _=> (match ii with | 0 | 3=> vv=.int .i64 (n) | 1 | 2 | 6 | 7 | 8 | 10 | 11 | 12=> vv=.bool true | 4 | 9=> vv=.slice av L.length cv | 5=> vv=.int .i64 ((L.length:Int)) | _=> True))
    (fun w w'=> Below w.heap.size w w') (fun _ _ h=> h) (fun _ _ _ _ h _=> h) ?_ ?_
   ·refine Each.all ?_
    refine ⟨?_,?_,?_,?_,?_,?_,?_,?_,?_,?_,?_,?_,?_,trivial⟩
    ·intro a w2 hB hF hd
     rw [if_pos (wanted_none rfl)]
     exact flow_move _ (.inl rfl) (by simp) (hF.same 1 rfl)
    ·intro a w2 hB hF hd
     rw [if_pos (wanted_none rfl)]
     exact flow_val (fun h=> by cases h) (Go.Bas.run_geq rfl (hd 0 _ rfl (waits_spec rfl)) rfl) (congrArg Value.bool (decide_eq_true h1))
    ·intro a w2 hB hF hd
     rw [if_pos (wanted_none rfl)]
     exact flow_move _ (.inl rfl) (by simp) (hd 1 _ rfl (waits_spec rfl))
    ·intro a w2 hB hF hd
     refine flow_wanted (wanted_yes rfl rfl (hd 2 _ rfl (waits_spec rfl)) rfl) ?_
     exact flow_move _ (.inl rfl) (by simp) (hF.same 1 rfl)
    ·intro a w2 hB hF hd
     refine flow_wanted (wanted_yes rfl rfl (hd 2 _ rfl (waits_spec rfl)) rfl) ?_
     exact flow_move _ (.inl rfl) (by simp) (hF.same 0 rfl)
    ·intro a w2 hB hF hd
     refine flow_wanted (wanted_yes rfl rfl (hd 2 _ rfl (waits_spec rfl)) rfl) ?_
     exact flow_val (fun h=> by cases h) (run_len_sl rfl (hd 4 _ rfl (waits_spec rfl)) Try.underlying36) rfl
    ·intro a w2 hB hF hd
     refine flow_wanted (wanted_yes rfl rfl (hd 2 _ rfl (waits_spec rfl)) rfl) ?_
     exact flow_val (fun h=> by cases h) (Go.Bas.run_leq rfl (hd 3 _ rfl (waits_spec rfl)) (hd 5 _ rfl (waits_spec rfl))) (congrArg Value.bool (decide_eq_true h2))
    ·intro a w2 hB hF hd
     rw [if_pos (wanted_none rfl)]
     exact flow_val (fun h=> by cases h) (run_pick rfl (hd 2 _ rfl (waits_spec rfl))) ((hd 6 _ rfl (waits_spec rfl)))
    ·intro a w2 hB hF hd
     rw [if_pos (wanted_none rfl)]
     exact flow_move _ (.inl rfl) (by simp) (hd 7 _ rfl (waits_spec rfl))
    ·intro a w2 hB hF hd
     refine flow_wanted (wanted_yes rfl rfl (hd 8 _ rfl (waits_spec rfl)) rfl) ?_
     exact flow_move _ (.inl rfl) (by simp) (hF.same 0 rfl)
    ·intro a w2 hB hF hd
     refine flow_wanted (wanted_yes rfl rfl (hd 8 _ rfl (waits_spec rfl)) rfl) ?_
     refine flow_call _ _ _ rfl Try.call17 _ (args1 (hd 9 _ rfl (waits_spec rfl))) (by simp) ((HR.out _ hB).mono ?_)
     rintro e w3 ⟨rfl,hb⟩;exact ⟨_,rfl,rfl,hb⟩
    ·intro a w2 hB hF hd
     rw [if_pos (wanted_none rfl)]
     exact flow_val (fun h=> by cases h) (run_pick rfl (hd 8 _ rfl (waits_spec rfl))) ((hd 10 _ rfl (waits_spec rfl)))
    ·intro a w2 hB hF hd
     rw [if_pos (wanted_none rfl)]
     exact flow_move _ (.inr rfl) (by simp) (hd 11 _ rfl (waits_spec rfl))
   ·intro a w3 hB hF hS
    have ha:=puts_each rfl rfl hF [_,_,_,_,_,_,_,_,_,_,_,_,_] rfl ⟨hS 0 _ rfl,hS 1 _ rfl,hS 2 _ rfl,hS 3 _ rfl,hS 4 _ rfl,hS 5 _ rfl,hS 6 _ rfl,hS 7 _ rfl,hS 8 _ rfl,hS 9 _ rfl,hS 10 _ rfl,hS 11 _ rfl,hS 12 _ rfl,trivial⟩
    simp only [puts,Act.put,List.setIfInBounds_toArray,List.set_cons_succ,List.set_cons_zero] at ha
    subst ha
    clear hS hF
    go_wp2
    go_ret
    exact ⟨by rw [HN.out];rfl,hB⟩
  ·have HN:Hid (R=false):=Lib.hid (hR.trans (decide_eq_false fun h=> h2 h.2))
   clear h ho hl hR
   go_enter Try.func32,Try.ntmps32
   go_upto_region 1 with (fail)
   refine region_flow (n:=17) (by kernel_rfl) (by kernel_rfl) (by kernel_rfl) rfl
    (fun ii vv _=> (match ii with | 0 | 3=> vv=.int .i64 (n) | 1 | 2=> vv=.bool true | 4=> vv=.slice av L.length cv | 5=> vv=.int .i64 ((L.length:Int)) | 6 | 7 | 8 | 11 | 12=> vv=.bool false | 9 | 10=> vv=undef | _=> True))
    (fun w w'=> Below w.heap.size w w') (fun _ _ h=> h) (fun _ _ _ _ h _=> h) ?_ ?_
   ·refine Each.all ?_
    refine ⟨?_,?_,?_,?_,?_,?_,?_,?_,?_,?_,?_,?_,?_,trivial⟩
    ·intro a w2 hB hF hd
     rw [if_pos (wanted_none rfl)]
     exact flow_move _ (.inl rfl) (by simp) (hF.same 1 rfl)
    ·intro a w2 hB hF hd
     rw [if_pos (wanted_none rfl)]
     exact flow_val (fun h=> by cases h) (Go.Bas.run_geq rfl (hd 0 _ rfl (waits_spec rfl)) rfl) (congrArg Value.bool (decide_eq_true h1))
    ·intro a w2 hB hF hd
     rw [if_pos (wanted_none rfl)]
     exact flow_move _ (.inl rfl) (by simp) (hd 1 _ rfl (waits_spec rfl))
    ·intro a w2 hB hF hd
     refine flow_wanted (wanted_yes rfl rfl (hd 2 _ rfl (waits_spec rfl)) rfl) ?_
     exact flow_move _ (.inl rfl) (by simp) (hF.same 1 rfl)
    ·intro a w2 hB hF hd
     refine flow_wanted (wanted_yes rfl rfl (hd 2 _ rfl (waits_spec rfl)) rfl) ?_
     exact flow_move _ (.inl rfl) (by simp) (hF.same 0 rfl)
    ·intro a w2 hB hF hd
     refine flow_wanted (wanted_yes rfl rfl (hd 2 _ rfl (waits_spec rfl)) rfl) ?_
     exact flow_val (fun h=> by cases h) (run_len_sl rfl (hd 4 _ rfl (waits_spec rfl)) Try.underlying36) rfl
    ·intro a w2 hB hF hd
     refine flow_wanted (wanted_yes rfl rfl (hd 2 _ rfl (waits_spec rfl)) rfl) ?_
     exact flow_val (fun h=> by cases h) (Go.Bas.run_leq rfl (hd 3 _ rfl (waits_spec rfl)) (hd 5 _ rfl (waits_spec rfl))) (congrArg Value.bool (decide_eq_false h2))
    ·intro a w2 hB hF hd
     rw [if_pos (wanted_none rfl)]
     exact flow_val (fun h=> by cases h) (run_pick rfl (hd 2 _ rfl (waits_spec rfl))) ((hd 6 _ rfl (waits_spec rfl)))
    ·intro a w2 hB hF hd
     rw [if_pos (wanted_none rfl)]
     exact flow_move _ (.inl rfl) (by simp) (hd 7 _ rfl (waits_spec rfl))
    ·intro a w2 hB hF hd
     rw [if_neg (by rw [wanted_some rfl rfl (hd 8 _ rfl (waits_spec rfl))];decide)]
     exact rfl
    ·intro a w2 hB hF hd
     rw [if_neg (by rw [wanted_some rfl rfl (hd 8 _ rfl (waits_spec rfl))];decide)]
     exact rfl
    ·intro a w2 hB hF hd
     rw [if_pos (wanted_none rfl)]
     exact flow_val (fun h=> by cases h) (run_pick rfl (hd 8 _ rfl (waits_spec rfl))) (rfl)
    ·intro a w2 hB hF hd
     rw [if_pos (wanted_none rfl)]
     exact flow_move _ (.inr rfl) (by simp) (hd 11 _ rfl (waits_spec rfl))
   ·intro a w3 hB hF hS
    have ha:=puts_each rfl rfl hF [_,_,_,_,_,_,_,_,_,_,_,_,_] rfl ⟨hS 0 _ rfl,hS 1 _ rfl,hS 2 _ rfl,hS 3 _ rfl,hS 4 _ rfl,hS 5 _ rfl,hS 6 _ rfl,hS 7 _ rfl,hS 8 _ rfl,hS 9 _ rfl,hS 10 _ rfl,hS 11 _ rfl,hS 12 _ rfl,trivial⟩
    simp only [puts,Act.put,List.setIfInBounds_toArray,List.set_cons_succ,List.set_cons_zero] at ha
    subst ha
    clear hS hF
    go_wp2
    go_ret
    exact ⟨by rw [HN.out];rfl,hB⟩
 ·have HN:Hid (R=false):=Lib.hid (hR.trans (decide_eq_false fun h=> h1 h.1))
  have h2:=0
  clear h ho hl hR
  go_enter Try.func32,Try.ntmps32
  go_upto_region 1 with (fail)
  refine region_flow (n:=17) (by kernel_rfl) (by kernel_rfl) (by kernel_rfl) rfl
   (fun ii vv _=> (match ii with | 0=> vv=.int .i64 (n) | 1 | 2 | 7 | 8 | 11 | 12=> vv=.bool false | 3 | 4 | 5 | 6 | 9 | 10=> vv=undef | _=> True))
   (fun w w'=> Below w.heap.size w w') (fun _ _ h=> h) (fun _ _ _ _ h _=> h) ?_ ?_
  ·refine Each.all ?_
   refine ⟨?_,?_,?_,?_,?_,?_,?_,?_,?_,?_,?_,?_,?_,trivial⟩
   ·intro a w2 hB hF hd
    rw [if_pos (wanted_none rfl)]
    exact flow_move _ (.inl rfl) (by simp) (hF.same 1 rfl)
   ·intro a w2 hB hF hd
    rw [if_pos (wanted_none rfl)]
    exact flow_val (fun h=> by cases h) (Go.Bas.run_geq rfl (hd 0 _ rfl (waits_spec rfl)) rfl) (congrArg Value.bool (decide_eq_false h1))
   ·intro a w2 hB hF hd
    rw [if_pos (wanted_none rfl)]
    exact flow_move _ (.inl rfl) (by simp) (hd 1 _ rfl (waits_spec rfl))
   ·intro a w2 hB hF hd
    rw [if_neg (by rw [wanted_some rfl rfl (hd 2 _ rfl (waits_spec rfl))];decide)]
    exact rfl
   ·intro a w2 hB hF hd
    rw [if_neg (by rw [wanted_some rfl rfl (hd 2 _ rfl (waits_spec rfl))];decide)]
    exact rfl
   ·intro a w2 hB hF hd
    rw [if_neg (by rw [wanted_some rfl rfl (hd 2 _ rfl (waits_spec rfl))];decide)]
    exact rfl
   ·intro a w2 hB hF hd
    rw [if_neg (by rw [wanted_some rfl rfl (hd 2 _ rfl (waits_spec rfl))];decide)]
    exact rfl
   ·intro a w2 hB hF hd
    rw [if_pos (wanted_none rfl)]
    exact flow_val (fun h=> by cases h) (run_pick rfl (hd 2 _ rfl (waits_spec rfl))) (rfl)
   ·intro a w2 hB hF hd
    rw [if_pos (wanted_none rfl)]
    exact flow_move _ (.inl rfl) (by simp) (hd 7 _ rfl (waits_spec rfl))
   ·intro a w2 hB hF hd
    rw [if_neg (by rw [wanted_some rfl rfl (hd 8 _ rfl (waits_spec rfl))];decide)]
    exact rfl
   ·intro a w2 hB hF hd
    rw [if_neg (by rw [wanted_some rfl rfl (hd 8 _ rfl (waits_spec rfl))];decide)]
    exact rfl
   ·intro a w2 hB hF hd
    rw [if_pos (wanted_none rfl)]
    exact flow_val (fun h=> by cases h) (run_pick rfl (hd 8 _ rfl (waits_spec rfl))) (rfl)
   ·intro a w2 hB hF hd
    rw [if_pos (wanted_none rfl)]
    exact flow_move _ (.inr rfl) (by simp) (hd 11 _ rfl (waits_spec rfl))
  ·intro a w3 hB hF hS
   have ha:=puts_each rfl rfl hF [_,_,_,_,_,_,_,_,_,_,_,_,_] rfl ⟨hS 0 _ rfl,hS 1 _ rfl,hS 2 _ rfl,hS 3 _ rfl,hS 4 _ rfl,hS 5 _ rfl,hS 6 _ rfl,hS 7 _ rfl,hS 8 _ rfl,hS 9 _ rfl,hS 10 _ rfl,hS 11 _ rfl,hS 12 _ rfl,trivial⟩
   simp only [puts,Act.put,List.setIfInBounds_toArray,List.set_cons_succ,List.set_cons_zero] at ha
   subst ha
   clear hS hF
   go_wp2
   go_ret
   exact ⟨by rw [HN.out];rfl,hB⟩
end
end Go.Proofs.Ytpcjekgfnfjbpaa
namespace Go.Proofs.Ytpcjekgfnfjbpaa
open Go.RowKit Go.Bas Go.ChangeShapes Go.Maps
attribute [local go_sem ↓] Go.wp_at_zero Go.wp_at_succ
attribute [local go_sem] Oper.semAt_some
def L3:List Stp:= [(1, []),(2, []),(1, [7])]
theorem L3_ok:OkS L3:=by
 intro j x hx
 have hj:=(List.getElem?_eq_some_iff.1 hx).1
 have hj3:j<3:=hj
 rcases (by omega:j=0∨j=1∨j=2) with rfl | rfl | rfl
 ·obtain rfl:(1, [])=x:=Option.some.inj hx
  exact ⟨⟨by decide,by decide⟩,.inl ⟨rfl,rfl,rfl⟩⟩
 ·obtain rfl:(2, [])=x:=Option.some.inj hx
  exact ⟨⟨by decide,by decide⟩,.inr (.inr ⟨(1, []),by decide,rfl,by decide,rfl,rfl⟩)⟩
 ·obtain rfl:(1, [7])=x:=Option.some.inj hx
  exact ⟨⟨by decide,by decide⟩,.inr (.inl ⟨rfl,by decide,by simp⟩)⟩
section
variable {w w' : World} {v : Value} {lv : Nat → Value} {q1 q2 : Nat}
theorem seg_stops (n:Nat) (hn:1≤n) (h:StM w v L3 lv) (hq1:Boxed w q1 36 v) (hq2:Boxed w q2 3 (.int .i64 2)):
  SeqStopsK Fence.wide n Try.prog 44 #[.pointer (some ⟨q1,0,none⟩),.pointer (some ⟨q2,0,none⟩)] (fun x:Nat=> #[natV x]) (KeepF (fun b=> v.ownBlock=some b∨b=q1∨b=q2))
   (fun ys=> ys= [1,2]) (fun pre=> pre= [1] ∨pre= [1,2]) 2 w:=fun l J Jx W hW hJ hJx hY h0=> by
 refine callsIn_wide.2 ?_
 obtain ⟨g,o,cap,a1,k1,ev,hg,c0,_,_⟩:=(h.below hW).at (j:=0) (x:=(1, [])) rfl
 obtain ⟨g',o',cap',a2,k2,ev2,_,c1,_,_⟩:=(h.below hW).at (j:=1) (x:=(2, [])) rfl
 obtain ⟨g'',o'',cap'',a3,k3,ev3,_,c2,_,_⟩:=(h.below hW).at (j:=2) (x:=(1, [7])) rfl
 rw [ev] at ev2 ev3
 cases ev2
 cases ev3
 have HTH:=Lib.hid (rgThere_any (h.below hW) L3_ok (by decide) 2)
 subst ev
 have hQ1:Boxed W q1 36 (.slice (some ⟨g,o,none⟩) L3.length cap):=by unfold Boxed;rw [hW.block q1 hq1.lt];exact hq1
 have hQ2:Boxed W q2 3 (.int .i64 2):=by unfold Boxed;rw [hW.block q2 hq2.lt];exact hq2
 have HQ1:=Lib.hid hQ1
 have HQ2:=Lib.hid hQ2
 have HY:=Lib.hid hY
 have HH0:=Lib.hid h0
 have z1:=hQ1.cell
 have z2:=hQ2.cell
 have C0:=Lib.hid c0
 have C1:=Lib.hid c1
 have C2:=Lib.hid c2
 have HGL:=Lib.hid hg
 have HJ:=Lib.hid hJ
 have HQ1L:=Lib.hid hQ1.lt
 have HQ2L:=Lib.hid hQ2.lt
 clear hY hJ hJx h0 hW h hq1 hq2 hQ1 hQ2
 go_enter Try.func44,Try.ntmps44
 go_wp2_with fail
 refine HTH.out.mono ?_
 rw [show decide ((1:Int)≤2∧(2:Int)≤((L3.length:Nat):Int))=true from by decide]
 rintro e w1 ⟨rfl,b1⟩
 have HJ1:=Lib.hid (HJ.out _ _ _ none HH0.out ⟨b1.os,b1.tape,b1.output,b1.size,fun k hk _=> b1.block k hk⟩ (fun r e=> by cases e))
 have K1:Hid (KeepF (fun b=> (Value.slice (some ⟨g,o,none⟩) L3.length cap).ownBlock=some b∨b=q1∨b=q2) W w1):=Lib.hid (KeepF.ofBelow b1 fun b hb=> by rcases hb with hb | rfl | rfl;(· cases hb;exact HGL.out);(· exact HQ1L.out);exact HQ2L.out)
 clear b1
 have y1:w1.cell? ⟨q1,0,none⟩=some (.slice (some ⟨g,o,none⟩) L3.length cap):=(World.cell?_of_block (a:=⟨q1,0,none⟩) (K1.out.2 q1 (.inr (.inl rfl)))).trans HQ1.out.cell
 have y2:w1.cell? ⟨q2,0,none⟩=some (.int .i64 2):=(World.cell?_of_block (a:=⟨q2,0,none⟩) (K1.out.2 q2 (.inr (.inr rfl)))).trans HQ2.out.cell
 have y3:w1.cell? ⟨g,o+1 * 2,none⟩=some (.int .i64 2):=(World.cell?_of_block (a:=⟨g,o+1 * 2,none⟩) (K1.out.2 g (.inl rfl))).trans C1.out
 have hl3:L3.length=3:=rfl
 rw [hl3] at y1 z1 ⊢
 clear z1 z2 c0 c1 c2 hl3
 go_upto_region 1 with (fail)
 refine wp_region_quiet_lit (by kernel_rfl) (by kernel_rfl) ?_
 repeat (quiet_step (fail))
 rw [show IntKind.i64.wrap 1=1 from by decide]
 repeat (quiet_step (fail))
 rw [show IntKind.i64.wrap (IntKind.i64.wrap 0+1)=1 from by decide]
 refine wpQuiet_nil ?_
 rintro _ ⟨nq,rfl⟩
 have hbd:=Go.Bas.below_drewN (Below.refl w1.heap.size w1) nq
 have HJ2:=Lib.hid (HJ.out _ _ _ none HJ1.out ⟨hbd.os,hbd.tape,hbd.output,hbd.size,fun k hk _=> hbd.block k hk⟩ (fun r e=> by cases e))
 have K2:Hid (KeepF (fun b=> (Value.slice (some ⟨g,o,none⟩) L3.length cap).ownBlock=some b∨b=q1∨b=q2) W (w1.drewN nq)):=Lib.hid ⟨Nat.le_trans K1.out.1 hbd.size,fun b hb=> (hbd.block b (by rcases hb with hb | rfl | rfl;(· cases hb;exact Nat.lt_of_lt_of_le HGL.out K1.out.1);(· exact Nat.lt_of_lt_of_le HQ1L.out K1.out.1);exact Nat.lt_of_lt_of_le HQ2L.out K1.out.1)).trans (K1.out.2 b hb)⟩
 obtain ⟨w2,hw2⟩:∃w2,w2=w1.drewN nq:=⟨_,rfl⟩
 rw [←hw2] at HJ2 K2 ⊢
 clear hw2 hbd y1 y2 y3
 go_wp2
 go_loopw [4] (fun v wr=> ∃k:Nat,(k=1∨k=2∨k=3)∧v=.int .i64 (k:Int)∧J ([1,2].take (k - 1)) wr∧KeepF (fun b=> (Value.slice (some ⟨g,o,none⟩) L3.length cap).ownBlock=some b∨b=q1∨b=q2) W wr) (fun v _=> 4 - (intOf v).toNat)
 case atStart=> exact ⟨1,.inl rfl,rfl,HJ2.out,K2.out⟩
 case round=>
  obtain ⟨k,hk,rfl,hJs,hnx⟩:=hrel
  have HJS:=Lib.hid hJs
  have HNX:=Lib.hid hnx
  have y1:wr.cell? ⟨q1,0,none⟩=some (.slice (some ⟨g,o,none⟩) L3.length cap):=(World.cell?_of_block (a:=⟨q1,0,none⟩) (HNX.out.2 q1 (.inr (.inl rfl)))).trans HQ1.out.cell
  have y2:wr.cell? ⟨q2,0,none⟩=some (.int .i64 2):=(World.cell?_of_block (a:=⟨q2,0,none⟩) (HNX.out.2 q2 (.inr (.inr rfl)))).trans HQ2.out.cell
  have y3:wr.cell? ⟨g,o+2 * 2,none⟩=some (.int .i64 1):=(World.cell?_of_block (a:=⟨g,o+2 * 2,none⟩) (HNX.out.2 g (.inl rfl))).trans C2.out
  rw [show L3.length=3 from rfl] at y1
  clear hJs hnx
  rcases hk with rfl | rfl | rfl
  ·obtain ⟨fn,tmps,assign,body,hy,hR⟩:=HY.out _ 1 wr HJS.out (by decide)
   change (Instr.yield l #[Value.int .i64 1]).run Try.prog wr= _ at hy
   rw [show ((1:Nat):Int)=1 from rfl]
   go_upto_region 4 with (fail)
   refine (wpIn_wide (n:=n)).1 ?_
   gi_wp2_with fail
   refine hR.mono ?_
   rintro e W3 (⟨rfl,hJ3,hk3⟩ | ⟨rfl,hJx3⟩)
   ·have HN3:=Lib.hid (HNX.out.trans hk3)
    have HJ3:=Lib.hid hJ3
    clear hJ3 hk3 y1 y2 y3
    gi_wp2
    go_wp2
    go_roundw
    case rel=> first | exact ⟨2,by decide,rfl,HJ3.out,HN3.out⟩ | ((repeat apply Exists.intro);exact ⟨⟨2,by decide,rfl,HJ3.out,HN3.out⟩,rfl⟩)
    case measure=> simp [intOf]
   ·have HJX:=Lib.hid hJx3
    clear hJx3 y1 y2 y3
    gi_wp2
    go_wp2
    refine bodyPost_ret (results_none rfl _ _ _) rfl ?_
    exact ⟨⟨_,rfl⟩,.inr ⟨_,.inl rfl,HJX.out⟩⟩
  ·obtain ⟨fn,tmps,assign,body,hy,hR⟩:=HY.out _ 2 wr HJS.out (by decide)
   change (Instr.yield l #[Value.int .i64 2]).run Try.prog wr= _ at hy
   rw [show ((2:Nat):Int)=2 from rfl]
   go_upto_region 4 with (fail)
   refine (wpIn_wide (n:=n)).1 ?_
   gi_wp2_with fail
   refine hR.mono ?_
   rintro e W3 (⟨rfl,hJ3,hk3⟩ | ⟨rfl,hJx3⟩)
   ·have HN3:=Lib.hid (HNX.out.trans hk3)
    have HJ3:=Lib.hid hJ3
    clear hJ3 hk3 y1 y2 y3
    gi_wp2
    go_wp2
    go_roundw
    case rel=> first | exact ⟨3,by decide,rfl,HJ3.out,HN3.out⟩ | ((repeat apply Exists.intro);exact ⟨⟨3,by decide,rfl,HJ3.out,HN3.out⟩,rfl⟩)
    case measure=> simp [intOf]
   ·have HJX:=Lib.hid hJx3
    clear hJx3 y1 y2 y3
    gi_wp2
    go_wp2
    refine bodyPost_ret (results_none rfl _ _ _) rfl ?_
    exact ⟨⟨_,rfl⟩,.inr ⟨_,.inr rfl,HJX.out⟩⟩
  ·rw [show ((3:Nat):Int)=3 from rfl]
   clear y1
   have y1:wr.cell? ⟨q1,0,none⟩=some (.slice (some ⟨g,o,none⟩) 3 cap):=(World.cell?_of_block (a:=⟨q1,0,none⟩) (HNX.out.2 q1 (.inr (.inl rfl)))).trans HQ1.out.cell
   go_wp2
   refine bodyPost_ret (results_none rfl _ _ _) rfl ?_
   exact ⟨⟨_,rfl⟩,.inl ⟨_,rfl,HJS.out⟩⟩
theorem rgSegment_any (w:World) (a:Option Addr) (m c:Nat) (n:Int):Calls Try.prog 33 #[.slice a m c,.int .i64 n] w fun e w'=> e=.returned (.func (.func 44) #[] #[.pointer (some ⟨w.heap.size,0,none⟩),.pointer (some ⟨w.heap.size+1,0,none⟩)])∧Boxed w' w.heap.size 36 (.slice a m c)∧Boxed w' (w.heap.size+1) 3 (.int .i64 n)∧Below w.heap.size w w':=by
 go_enter Try.func33,Try.ntmps33
 go_wp2
 go_ret
 refine ⟨by simp,(Boxed.new w _ _).alloc _,?_,((Below.refl _ _).alloc (Nat.le_refl _) _).alloc (by simp) _⟩
 have:=Boxed.new (w.alloc (.cells #[.slice a m c] 36)) 3 (.int .i64 n)
 rwa [World.size_alloc] at this
theorem rgFirst_three (h:StM w v L3 lv):Calls Try.prog 19 #[v,.int .i64 2] w fun e w'=> e=.returned (.int .i64 1)∧Below w.heap.size w w':=by
 obtain ⟨av,cv,rfl⟩:=h.slice
 have H:=Lib.hid h
 clear h
 refine (callsIn_wide (n:=9)).1 ?_
 refine callsIn_of_wp_marks Try.func19 rfl trivial ?_ rfl
 simp only [Try.ntmps19,List.size_toArray,List.length_cons,List.length_nil,Nat.reduceAdd,Nat.reduceSub,Array.replicate_succ,Array.replicate_zero,List.push_toArray,List.append_toArray,List.nil_append,List.cons_append]
 refine wpIn_wide.2 ?_
 go_upto_region 1 with (fail)
 refine wp_world (fun w1=> Boxed w1 w.heap.size 3 (.int .i64 0)∧Below w.heap.size w w1) ⟨Boxed.new w _ _,(Below.refl _ _).alloc (Nat.le_refl _) _⟩ ?_
 rintro w1 ⟨x1,b1⟩
 have X1:=Lib.hid x1
 have B1:=Lib.hid b1
 clear x1 b1
 go_wp2_with fail
 refine (rgSegment_any w1 av L3.length cv 2).mono ?_
 rintro e w2 ⟨rfl,xa,xb,b2⟩
 have HS:=Lib.hid (H.out.below (B1.out.trans (b2.mono B1.out.size)))
 have X2:Hid (Boxed w2 w.heap.size 3 (.int .i64 0)):=Lib.hid (by unfold Boxed;rw [b2.block _ X1.out.lt];exact X1.out)
 have B2:=Lib.hid (B1.out.trans (b2.mono B1.out.size))
 have XA:=Lib.hid xa
 have XB:=Lib.hid xb
 clear xa xb b2
 have hstop:=seg_stops 8 (by decide) HS.out XA.out XB.out
 have HGL:Hid (∀b,((Value.slice av L3.length cv).ownBlock=some b∨b=w1.heap.size∨b=w1.heap.size+1)→b<w2.heap.size):=Lib.hid fun b hb=> by
  rcases hb with hb | rfl | rfl
  ·obtain ⟨g,o,cap,_,_,e,hg,_⟩:=HS.out.at (j:=0) (x:=(1, [])) rfl
   cases e
   cases hb
   exact hg
  ·exact XA.out.lt
  ·exact XB.out.lt
 go_wp2
 refine (wpIn_wide (n:=9)).1 ?_
 refine wpIn_rangeFunc_ownF (F:=Fence.wide) (n:=9) rfl (by decide) (gf:=44) rfl trivial (enters_of Try.func44 (by kernel_rfl) rfl) hstop (fun h k=> h.trans k) (keepF_b HGL.out) (Below.refl _ _) (fun _=> rfl)
  (fun pre W=> pre= [] ∧Boxed W w.heap.size 3 (.int .i64 0)∧Below w.heap.size w W) (fun cd pre W=> cd=Code.ret∧∃x:Nat,pre= [x] ∧Boxed W w.heap.size 3 (natV x)∧Below w.heap.size w W) ?hI ?hIx ?h0 ?a1 ?assign ?body ?done ?stop
 case assign=>
  intro l x W K hK
  gi_wp2
  exact hK
 case hI=> exact (ownFrom_pure _ _).and (((boxed_own _ _ fun _=> _).from _).and (ownFrom_below (Nat.le_refl _) B2.out.size))
 case hIx=> exact fun cd s W W' row ⟨e,x,hp,hb,hbl⟩ hg hr=> ⟨e,x,hp,(boxed_own _ _ fun _:Unit=> natV x).from _ () W W' row hb hg hr,ownFrom_below (β:=Unit) (Nat.le_refl _) B2.out.size () W W' row hbl hg hr⟩
 case h0=> exact ⟨rfl,X2.out,B2.out⟩
 case body=>
  rintro l pre x W ⟨rfl,hx,hb⟩ _
  have HX:=Lib.hid hx
  have HB:=Lib.hid hb
  have c0:=hx.cell
  have fr:=hx.frozen
  clear hx hb
  gi_wp2
  exact ⟨KeepsOthers.setCell _ _ _,rfl,x,rfl,HX.out.set _,HB.out.setCell (Nat.le_refl _) _⟩
 case done=>
  rintro D ys W hD rfl ⟨h,_⟩ hKD
  cases h
 case stop=>
  rintro D c pre W hD hsp ⟨rfl,x,rfl,hbx,hbl⟩ hKD
  obtain rfl:x=1:=by
   rcases hsp with h | h
   ·simpa using h
   ·simp at h
  have hne:w.heap.size≠D:=by have:=X2.out.lt;omega
  have e2:(W.putObj D (.deferred none)).cell? ⟨w.heap.size,0,none⟩=some (.int .i64 1):=(hbx.kept (grownBy_putObj' W D _) (fun e=> hne (Option.some.inj e))).cell
  have b2:Below w.heap.size w (W.putObj D (.deferred none)):=hbl.trans (belowK_b (w:=w) (Nat.le_refl _) W D _ _ (by have:=B2.out.size;omega) hKD rfl rfl)
  gi_wp2
  refine ⟨by simp,.inl ⟨_,_,rfl,run_takeDeferred hKD,?_⟩⟩
  exact ⟨.int .i64 1,by simp [results,Try.results19,go_sem,e2],rfl,b2⟩
end
end Go.Proofs.Ytpcjekgfnfjbpaa
namespace Go.Proofs.Ytpcjekgfnfjbpaa
open Go.RowKit Go.Bas Go.ChangeShapes Go.Maps
attribute [local go_sem ↓] Go.wp_at_zero Go.wp_at_succ
section
variable {w w' : World}
theorem lit_three (w5:World):StM ((w5.alloc (.cells #[.int .u8 7] 5)).alloc (.cells #[.int .i64 1,.slice none 0 0,.int .i64 2,.slice none 0 0,.int .i64 1,.slice (some ⟨w5.heap.size,0,none⟩) 1 1] 41)) (.slice (some ⟨w5.heap.size+1,0,none⟩) 3 3) L3
  (fun j=> if j=2 then .slice (some ⟨w5.heap.size,0,none⟩) 1 1 else .slice none 0 0):=by
 have hb:=heap_alloc_new (w5.alloc (.cells #[.int .u8 7] 5)) (.cells #[.int .i64 1,.slice none 0 0,.int .i64 2,.slice none 0 0,.int .i64 1,.slice (some ⟨w5.heap.size,0,none⟩) 1 1] 41)
 rw [World.size_alloc] at hb
 have hc:=fun i=> cell_of_row _ _ i _ _ (0,0) hb
 have h7:Rd .u8 (w5.alloc (.cells #[.int .u8 7] 5)) (.slice (some ⟨w5.heap.size,0,none⟩) 1 1) 1 (bf [7]):=lit1_rd (x:=7) |>.congr fun i hi=> by obtain rfl:i=0:=(by omega);rfl
 refine ⟨⟨_,_,rfl,Nat.le_refl _,by decide,fun _=> ⟨_,0,rfl,(Array.getElem?_eq_some_iff.1 hb).1,fun j hj i hi=> ?_⟩⟩,fun j x hx=> ?_⟩
 ·rw [Nat.zero_add,hc]
  have hj3:j<3:=hj
  rcases (by omega:j=0∨j=1∨j=2) with rfl | rfl | rfl<;> rcases (by omega:i=0∨i=1) with rfl | rfl<;> rfl
 ·have hj3:j<3:=(List.getElem?_eq_some_iff.1 hx).1
  rcases (by omega:j=0∨j=1∨j=2) with rfl | rfl | rfl
  ·obtain rfl:=Option.some.inj hx;exact Rd.nil _ _ _
  ·obtain rfl:=Option.some.inj hx;exact Rd.nil _ _ _
  ·obtain rfl:=Option.some.inj hx;exact h7.below ((Below.refl _ _).alloc (Nat.le_refl _) _)
theorem rgAwake_any (w:World):Calls Try.prog 6 #[] w fun e w'=> e=.returned (.bool true)∧Below w.heap.size w w':=by
 go_enter Try.func6,Try.ntmps6
 go_wp2_with fail
 refine (suTerms_any w).mono ?_
 rintro e w1 ⟨p,F1,rfl,h1,b1⟩
 have M1:Hid (SuM w.heap.size w1 p F1 (.tm ⟨[], []⟩)):=Lib.hid h1
 have B1:=Lib.hid b1
 clear h1 b1
 obtain ⟨a,XA,e1,g1,g2,g3,g4⟩:=Su.draw_ok (X:=.tm ⟨[], []⟩) TS.few.nil (by decide) 2 (by decide)
 have HD:=Lib.hid (suDraw_any M1.out 2 (by decide))
 rw [e1] at HD
 have G2:=Lib.hid g2
 have G3:=Lib.hid g3
 have G4:Hid (XA.size=1):=Lib.hid g4
 have GL:=Lib.hid g1
 clear e1 g1 g2 g3 g4
 go_wp2_with fail
 refine HD.out.mono ?_
 rintro e w2 ⟨sv,rfl,F2,h1,h2,h3,h4⟩
 have M2:=Lib.hid h1
 have Y2:=Lib.hid h2
 have B2:=Lib.hid (B1.out.trans (h3.below (Nat.le_of_lt (Nat.lt_of_le_of_lt M1.out.pLt.2 M1.out.pLt.1)) fun b hb=> M1.out.hi hb))
 obtain ⟨ax,cx,rfl,_⟩:=h2.rd
 clear h1 h2 h3 h4
 go_wp2_with fail
 refine (rgDown_any M2.out Y2.out G2.out G3.out 1 (by decide) (by rw [G4.out];decide)).mono ?_
 rintro e w3 ⟨ub,rfl,b,X3,⟨F3,h1,h2,h3,h4,h5,h6⟩,⟨a',ea,hnx⟩,hv,hl⟩
 obtain rfl:a'=a:=ea
 have M3:=Lib.hid h1
 have Z3:=Lib.hid h2
 have Y3:=Lib.hid (Y2.out.chS h3 h4)
 have L3':=Lib.hid h5
 have S3:Hid (X3.size≤2):=Lib.hid (by have:=G4.out;omega)
 have NX:=Lib.hid hnx
 have B3:=Lib.hid (B2.out.trans (h3.below (Nat.le_of_lt (Nat.lt_of_le_of_lt M2.out.pLt.2 M2.out.pLt.1)) fun b hb=> M2.out.hi hb))
 have HV:=Lib.hid hv
 obtain ⟨ab,cb,rfl,_⟩:=h2.rd
 clear h1 h2 h3 h4 h5 h6 hnx hv hl
 obtain ⟨c,X4,e4,k1,k2,k3,k4,k5⟩:=Su.next_ok M3.out.ok (by have:=S3.out;omega) (G2.out.mono L3'.out)
 have HN:=Lib.hid (suNext_any M3.out Y3.out (by have:=S3.out;omega))
 rw [e4] at HN
 have NX4:=Lib.hid (NX.out.mono k1)
 have K3:=Lib.hid k3
 have S4:Hid (X4.size≤3):=Lib.hid (by have:=S3.out;omega)
 have LE:Hid ((Su.tm ⟨[], []⟩).le X4):=Lib.hid (GL.out.trans (L3'.out.trans k1))
 have VB:=Lib.hid (HV.out.mono k1)
 clear e4 k1 k2 k3 k4 k5
 go_wp2_with fail
 refine HN.out.mono ?_
 rintro e w4 ⟨uc,rfl,F4,h1,h2,h3,h4⟩
 obtain rfl:b=c:=Su.nx_fun (X:=X4) h1.ok (by have:=S4.out;omega) NX4.out K3.out
 have HB9:Hid (b.length=9):=Lib.hid (by
  have hv:=VB.out
  cases X4 with
  | «by» sd n=> exact LE.out.elim
  | tm S=> obtain ⟨n,_,e⟩:=hv;rw [e];exact valT_length _)
 have Z4:=Lib.hid (Z3.out.chS h3 h4)
 have Y4:=Lib.hid h2
 have B4:=Lib.hid (B3.out.trans (h3.below (Nat.le_of_lt (Nat.lt_of_le_of_lt M3.out.pLt.2 M3.out.pLt.1)) fun b hb=> M3.out.hi hb))
 obtain ⟨ac,cc,rfl,_⟩:=h2.rd
 have HS:=Lib.hid (same_q _ _ b.length b.length (bf b) (bf b) w4 Z4.out.rd Y4.out.rd)
 rw [show sameQ b.length (bf b) b.length (bf b)=true from by unfold sameQ;rw [decide_eq_true rfl,sameB_self];rfl] at HS
 rw [HB9.out] at HS ⊢
 clear h1 h2 h3 h4
 go_wp2_with fail
 refine HS.out.mono ?_
 rintro e w5 ⟨rfl,b5⟩
 have B5:=Lib.hid (B4.out.trans (b5.mono B4.out.size))
 clear b5
 go_wp2_with fail
 refine (rgFirst_three (lit_three w5)).mono ?_
 rintro e w6 ⟨rfl,b6⟩
 have B6:=Lib.hid (((B5.out.alloc B5.out.size _).alloc (by rw [World.size_alloc];have:=B5.out.size;omega) _).trans (b6.mono (by rw [World.size_alloc,World.size_alloc];have:=B5.out.size;omega)))
 clear b6
 go_wp2
 go_ret
 exact ⟨rfl,B6.out⟩
end
end Go.Proofs.Ytpcjekgfnfjbpaa
namespace Go.Proofs.Ytpcjekgfnfjbpaa
open Go.RowKit Go.Bas Go.ChangeShapes Go.Maps
attribute [local go_sem ↓] Go.wp_at_zero Go.wp_at_succ
theorem Try.sizeWay:(Try.prog.info? 24).map (·.size)=some 33:=by kernel_rfl
def wayY (b:Bool) (sd:Nat→Int) (i:Nat):Value:=if i=0 then .bool b else .int .u8 (sd (i - 1))
theorem wayV_row (b:Bool) (sd:Nat→Int):WayV b sd=.agg (rowV 33 (wayY b sd)):=by kernel_rfl
theorem Su.new_ok (b:Bool) (sd:Nat→Int):(Su.new b sd).few∧(Su.new b sd).size=0:=by
 cases b
 ·exact ⟨TS.few.nil,rfl⟩
 ·exact ⟨trivial,rfl⟩
section
variable {W w w' w0 w1 w2 w3 : World} {p q : Nat} {F F' F'' G G' : Nat → Prop} {v u v' vl vs vl' vs' sv : Value} {a b c t t' x : List Int} {X X' X'' XA XB : Su} {B n : Nat}
theorem rgState_few (h:SuM B w p F X) (hb:Byt F w v a) (hv:X.val a) (ha:a.length≤32) (hn4:n≤4) (hX:X.size+4≤900):Calls Try.prog 10 #[.pointer (some ⟨p,0,none⟩),v,.int .i64 (n:Int)] w fun e w'=>
  ∃ad m cp er,e=.returned (.tuple #[.slice ad m cp,.int .i64 er])∧(n=0→er=2)∧∃F' X',SuM B w' p F' X'∧ChS p F w w'∧(∀b,F' b→F b∨w.heap.size≤b)∧X.le X'∧X'.size≤X.size+4:=by
 obtain ⟨av,cv,rfl,_⟩:=hb.rd
 by_cases h0:n=0
 ·subst h0
  refine (rgState_bad _ _ (.inl (by decide)) _ _ _ w).mono ?_
  rintro e w' ⟨rfl,rfl⟩
  exact ⟨_,_,_,_,rfl,fun _=> rfl,F,X,h,ChS.refl _ _ _,fun b hb=> .inl hb,Su.le.refl _,Nat.le_add_right _ _⟩
 ·refine (rgState_any h hb hv ha n (by omega) hn4 hX).mono ?_
  rintro e w' ⟨u,rfl,b,X',⟨F',h1,h2,h3,h4,h5,h6⟩,_⟩
  obtain ⟨au,cu,rfl,_⟩:=h2.rd
  exact ⟨_,_,_,_,rfl,fun e=> absurd e h0,F',X',h1,h3,h4,h5,by omega⟩
theorem SuM.base {B':Nat} (h:SuM B w p F X) (hB:B'≤B):SuM B' w p F X:=by
 cases X with
 | «by» sd n=> exact ⟨⟨h.1.r,h.1.sdb,Nat.le_trans hB h.1.hp⟩,h.2⟩
 | tm S=> exact SuT.base h hB
theorem SuM.hB (h:SuM B w p F X):B≤w.heap.size:=Nat.le_of_lt (Nat.lt_of_le_of_lt h.pLt.2 h.pLt.1)
theorem SuM.belowS (h:SuM B w p F X) (hc:ChS p F w w'):Below B w w':=hc.below h.hB fun b hb=> h.hi hb
theorem regressDown_num (w:World) (y:Bool) (sd:Nat→Int) (hs:∀i,i<32→0≤sd i∧sd i<256) (n:Int) (n0: -9223372036854775808≤n) (n1:n≤9223372036854775807):
  Calls Try.prog 3 #[WayV y sd,.int .i64 n] w fun e w'=> e=.returned (.bool true)∧Below w.heap.size w w':=by
 have HS:=Lib.hid hs
 have HW:=Lib.hid (fun w=> suWay_any y sd hs w)
 have HNO:=Lib.hid (Su.new_ok y sd)
 obtain ⟨V,hV⟩:∃V,V=WayV y sd:=⟨_,rfl⟩
 have HVR:Hid (V=.agg (rowV 33 (wayY y sd))):=Lib.hid (hV.trans (wayV_row y sd))
 rw [←hV] at HW ⊢
 have HB:Hid (-9223372036854775808≤n∧n≤9223372036854775807):=Lib.hid ⟨n0,n1⟩
 clear hs hV n0 n1
 go_enter Try.func3,Try.ntmps3
 go_upto_region 1 with (fail)
 refine wp_world (fun w1=> (∀i,i<33→w1.cell? ⟨w.heap.size,0+i,none⟩=some (wayY y sd i))∧Below w.heap.size w w1) ?_ ?_
 ·rw [HVR.out]
  exact ⟨fun i hi=> by rw [Nat.zero_add];exact (cell_of_row _ _ i _ _ (0,0) (heap_alloc_new w _)).trans (rowV_get hi),(Below.refl _ _).alloc (Nat.le_refl _) _⟩
 rintro w1 ⟨hc1,b1⟩
 have HC1:=Lib.hid hc1
 have B1:=Lib.hid b1
 have HL1:Hid (w.heap.size<w1.heap.size):=Lib.hid (World.block_lt_of_cell? _ _ (hc1 0 (by decide)))
 clear hc1 b1
 go_wp2_with fail
 refine (rgAwake_any w1).mono ?_
 rintro e w2 ⟨rfl,b2⟩
 have HC2:Hid (∀i,i<33→w2.cell? ⟨w.heap.size,0+i,none⟩=some (wayY y sd i)):=Lib.hid fun i hi=> (b2.cell (p:=⟨w.heap.size,0+i,none⟩) HL1.out).trans (HC1.out i hi)
 have B2:=Lib.hid (B1.out.trans (b2.mono B1.out.size))
 clear b2
 go_wp2_with (refine load_row (y:=wayY y sd) rfl rfl rfl Try.underlying24 rfl Try.sizeWay HC2.out ?_)
 rw [←HVR.out]
 refine (HW.out w2).mono ?_
 rintro e w3 ⟨p,F1,rfl,h1,b3⟩
 have B3:=Lib.hid (B2.out.trans (b3.mono B2.out.size))
 have M1:Hid (SuM w.heap.size w3 p F1 (Su.new y sd)):=Lib.hid (SuM.base h1 B2.out.size)
 clear h1 b3
 obtain ⟨a,XA,e1,g1,g2,g3,g4⟩:=Su.draw_ok HNO.out.1 (by rw [HNO.out.2];decide) 2 (by decide)
 have HD:=Lib.hid (suDraw_any M1.out 2 (by rw [HNO.out.2];decide))
 rw [e1] at HD
 have G2:=Lib.hid g2
 have G3:=Lib.hid g3
 have G4:Hid (XA.size=1):=Lib.hid (by rw [g4,HNO.out.2])
 clear e1 g1 g2 g3 g4
 go_wp2_with fail
 refine HD.out.mono ?_
 rintro e w4 ⟨sv,rfl,F2,h1,h2,h3,h4⟩
 have M2:Hid (SuM w.heap.size w4 p F2 XA):=Lib.hid h1
 have Y2:Hid (Byt F2 w4 sv a):=Lib.hid h2
 have B4:=Lib.hid (B3.out.trans (M1.out.belowS h3))
 obtain ⟨ax,cx,rfl,_⟩:=h2.rd
 clear h1 h2 h3 h4
 by_cases hbad:n<0∨4<n
 ·have HBAD:=Lib.hid hbad
  go_wp2_with fail
  refine (rgDown_bad _ n (by have:=HBAD.out;omega) _ _ _ w4).mono ?_
  rintro e w5 ⟨rfl,rfl⟩
  go_wp2_with fail
  refine (rgState_bad _ n (by have:=HBAD.out;omega) _ _ _ w5).mono ?_
  rintro e w6 ⟨rfl,rfl⟩
  rcases hbad with h | h
  ·have q1:decide (n<0)=true:=decide_eq_true h
   clear h
   go_wp2
   go_ret
   exact ⟨rfl,B4.out⟩
  ·have q1:decide (n<0)=false:=decide_eq_false (by omega)
   have q2:decide (4<n)=true:=decide_eq_true h
   clear h
   go_wp2
   go_ret
   exact ⟨rfl,B4.out⟩
 obtain ⟨k,rfl⟩:=Int.eq_ofNat_of_zero_le (show 0≤n by omega)
 have HK4:Hid (k≤4):=Lib.hid (by omega)
 have q1:decide ((k:Int)<0)=false:=decide_eq_false (by omega)
 have q2:decide ((4:Int)<(k:Int))=false:=decide_eq_false (by omega)
 clear hbad
 by_cases hk:k=4
 ·subst hk
  rw [show ((4:Nat):Int)=4 from rfl] at q1 q2 ⊢
  go_wp2_with fail
  refine (rgDown_bad _ 4 (by decide) _ _ _ w4).mono ?_
  rintro e w5 ⟨rfl,rfl⟩
  have HST:=Lib.hid (rgState_any M2.out Y2.out G2.out G3.out 4 (by decide) (by decide) (by rw [G4.out];decide))
  rw [show ((4:Nat):Int)=4 from rfl] at HST
  go_wp2_with fail
  refine HST.out.mono ?_
  rintro e w6 ⟨u,rfl,b,X2,⟨F3,h1,h2,h3,h4,h5,h6⟩,h7,h8,h9⟩
  have h7':b=a:=h7
  subst h7'
  have M3:=Lib.hid h1
  have YU:=Lib.hid h2
  have Y3:=Lib.hid (Y2.out.chS h3 h4)
  have B6:=Lib.hid (B4.out.trans (M2.out.belowS h3))
  have HSZ:Hid (X2.size≤5):=Lib.hid (by have:=G4.out;omega)
  have HVA:=Lib.hid (G2.out.mono h5)
  obtain ⟨au,cu,rfl,_⟩:=h2.rd
  clear h1 h2 h3 h4 h5 h6 h7 h8 h9
  go_wp2_with fail
  refine (rgDown_nil Y3.out.rd (by have:=G3.out;omega)).mono ?_
  rintro e w7 ⟨rfl,b7⟩
  have B7:=Lib.hid (B6.out.trans (b7.mono B6.out.size))
  have M7:=Lib.hid (M3.out.below b7)
  have Y7:=Lib.hid (Y3.out.below b7)
  have YU7:=Lib.hid (YU.out.below b7)
  have H0:Hid (DwI w.heap.size w7 p F3 X2 b 0 (.slice ax b.length cx) w7):=Lib.hid ⟨b,X2,⟨F3,M7.out,Y7.out,ChS.refl _ _ _,fun b hb=> .inl hb,Su.le.refl _,Nat.le_refl _⟩,rfl,HVA.out,G3.out⟩
  clear b7
  go_wp2
  go_loopw [14,69] (fun o i wr=> ∃j:Nat,j≤4∧i=.int .i64 (j:Int)∧DwI w.heap.size w7 p F3 X2 b j o wr) (fun _ i _=> 4 - (intOf i).toNat)
  case atStart=> exact ⟨0,Nat.zero_le _,rfl,H0.out⟩
  case round=>
   obtain ⟨j,hj,rfl,hI⟩:=hrel
   have HI:=Lib.hid hI
   clear hI
   by_cases hlt:j<4
   ·obtain ⟨F',c,X',g1,g2,g3,g4,g5⟩:=dwI_next (by have:=HSZ.out;omega) HI.out
    have G1:=Lib.hid g1
    have G2:=Lib.hid g2
    have G3:=Lib.hid g3
    have G5:=Lib.hid g5
    obtain ⟨ao,co,rfl,_⟩:=g2.rd
    have hk9:(j:Int)<4:=by omega
    have HLT:=Lib.hid hlt
    have G4:=Lib.hid g4
    clear g1 g2 g3 g4 g5 hlt
    go_wp2_with fail
    refine (suNext_any G1.out G2.out G3.out).mono ?_
    rw [G4.out]
    rintro e w2 ⟨x,rfl,hr⟩
    have HX:=Lib.hid (G5.out x w2 hr)
    clear hr
    go_wp2
    go_roundw
    case rel=> exact ⟨j+1,by have:=HLT.out;omega,by go_num,HX.out⟩
    case measure=> have:=HLT.out;simp [intOf] <;> omega
   ·obtain rfl:j=4:=by omega
    clear hlt
    obtain ⟨c,X8,⟨F8,h1,h2,h3,h4,h5,h6⟩,h7,h8,h9⟩:=HI.out
    obtain ⟨ao,co,rfl,_⟩:=h2.rd
    have HS:=Lib.hid (same_q _ _ b.length b.length (bf b) (bf b) wr (YU7.out.chS h3 h4).rd (Y7.out.chS h3 h4).rd)
    rw [show sameQ b.length (bf b) b.length (bf b)=true from by unfold sameQ;rw [decide_eq_true rfl,sameB_self];rfl] at HS
    have B8:=Lib.hid (B7.out.trans (M7.out.belowS h3))
    clear h1 h2 h3 h4 h5 h6 h7 h8 h9
    go_wp2_with fail
    refine HS.out.mono ?_
    rintro e w9 ⟨rfl,b9⟩
    have B9:=Lib.hid (B8.out.trans (b9.mono B8.out.size))
    clear b9
    go_wp2
    go_ret
    exact ⟨rfl,B9.out⟩
 ·have HK3:Hid (k<4):=Lib.hid (by have:=HK4.out;omega)
  have HDN:=Lib.hid (rgDown_any M2.out Y2.out G2.out G3.out k HK3.out (by have:=HK3.out;have:=G4.out;omega))
  have q5:((k:Int)==4)=false:=by simp;omega
  have q6:¬ k=4:=hk
  have q7:(k:Int)<1000000:=by have:=HK3.out;omega
  clear hk
  go_wp2_with fail
  refine HDN.out.mono ?_
  rintro e w5 ⟨u,rfl,b,X5,⟨F5,h1,h2,h3,h4,h5,h6⟩,h7,h8,h9⟩
  have M5:=Lib.hid h1
  have YU5:=Lib.hid h2
  have Y5:=Lib.hid (Y2.out.chS h3 h4)
  have B5:=Lib.hid (B4.out.trans (M2.out.belowS h3))
  have HSZ5:Hid (X5.size≤4):=Lib.hid (by have:=G4.out;have:=HK3.out;omega)
  have HVA5:=Lib.hid (G2.out.mono h5)
  have HNX5:=Lib.hid h7
  obtain ⟨au,cu,rfl,_⟩:=h2.rd
  clear h1 h2 h3 h4 h5 h6 h7 h8 h9
  go_wp2_with fail
  refine (rgState_few (n:=k) M5.out Y5.out HVA5.out G3.out HK4.out (by have:=HSZ5.out;omega)).mono ?_
  rintro e w6 ⟨ay,my,cy,er,rfl,her,F6,X6,h1,h2,h3,h4,h5⟩
  have HER:=Lib.hid her
  have M6:=Lib.hid h1
  have YU6:=Lib.hid (YU5.out.chS h2 h3)
  have Y6:=Lib.hid (Y5.out.chS h2 h3)
  have B6:=Lib.hid (B5.out.trans (M5.out.belowS h2))
  have HSZ6:Hid (X6.size≤8):=Lib.hid (by have:=HSZ5.out;omega)
  have HVA6:=Lib.hid (HVA5.out.mono h4)
  have HNX6:=Lib.hid (HNX5.out.mono h4)
  clear her h1 h2 h3 h4 h5
  go_wp2_with fail
  refine (rgDown_nil Y6.out.rd (by have:=G3.out;omega)).mono ?_
  rintro e w7 ⟨rfl,b7⟩
  have B7:=Lib.hid (B6.out.trans (b7.mono B6.out.size))
  have M7:=Lib.hid (M6.out.below b7)
  have Y7:=Lib.hid (Y6.out.below b7)
  have YU7:=Lib.hid (YU6.out.below b7)
  have H0:Hid (DwI w.heap.size w7 p F6 X6 a 0 (.slice ax a.length cx) w7):=Lib.hid ⟨a,X6,⟨F6,M7.out,Y7.out,ChS.refl _ _ _,fun b hb=> .inl hb,Su.le.refl _,Nat.le_refl _⟩,rfl,HVA6.out,G3.out⟩
  clear b7
  go_wp2
  go_loopw [14,69] (fun o i wr=> ∃j:Nat,j≤k∧i=.int .i64 (j:Int)∧DwI w.heap.size w7 p F6 X6 a j o wr) (fun _ i _=> k - (intOf i).toNat)
  case atStart=> exact ⟨0,Nat.zero_le _,rfl,H0.out⟩
  case round=>
   obtain ⟨j,hj,rfl,hI⟩:=hrel
   have HI:=Lib.hid hI
   clear hI
   by_cases hlt:j<k
   ·obtain ⟨F',c,X',g1,g2,g3,g4,g5⟩:=dwI_next (by have:=HSZ6.out;have:=HK4.out;omega) HI.out
    have G1:=Lib.hid g1
    have G2:=Lib.hid g2
    have G3:=Lib.hid g3
    have G5:=Lib.hid g5
    obtain ⟨ao,co,rfl,_⟩:=g2.rd
    have hk9:(j:Int)<(k:Int):=by omega
    have HLT:=Lib.hid hlt
    have G4:=Lib.hid g4
    clear g1 g2 g3 g4 g5 hlt
    go_wp2_with fail
    refine (suNext_any G1.out G2.out G3.out).mono ?_
    rw [G4.out]
    rintro e w2 ⟨x,rfl,hr⟩
    have HX:=Lib.hid (G5.out x w2 hr)
    clear hr
    go_wp2
    go_roundw
    case rel=> exact ⟨j+1,by have:=HLT.out;omega,by go_num,HX.out⟩
    case measure=> have:=HLT.out;simp [intOf] <;> omega
   ·obtain rfl:j=k:=by omega
    clear hlt
    obtain ⟨c,X8,⟨F8,h1,h2,h3,h4,h5,h6⟩,h7,h8,h9⟩:=HI.out
    have hbc:b=c:=Su.nxs_fun h1.ok (by have:=HSZ6.out;have:=HK4.out;omega) (HNX6.out.mono h5) h7
    subst hbc
    have HS:=Lib.hid (same_q _ _ b.length b.length (bf b) (bf b) wr (YU7.out.chS h3 h4).rd h2.rd)
    rw [show sameQ b.length (bf b) b.length (bf b)=true from by unfold sameQ;rw [decide_eq_true rfl,sameB_self];rfl] at HS
    have M8:=Lib.hid h1
    have YO8:=Lib.hid h2
    have Y8:=Lib.hid (Y7.out.chS h3 h4)
    have B8:=Lib.hid (B7.out.trans (M7.out.belowS h3))
    have HSZ8:Hid (X8.size≤12):=Lib.hid (by have:=HSZ6.out;have:=HK4.out;omega)
    have HVA8:=Lib.hid (HVA6.out.mono h5)
    have HNX8:=Lib.hid h7
    obtain ⟨ao,co,rfl,_⟩:=h2.rd
    clear h1 h2 h3 h4 h5 h6 h7 h8 h9
    go_wp2_with fail
    refine HS.out.mono ?_
    rintro e w9 ⟨rfl,b9⟩
    have B9:=Lib.hid (B8.out.trans (b9.mono B8.out.size))
    have M9:=Lib.hid (M8.out.below b9)
    have YO9:=Lib.hid (YO8.out.below b9)
    have Y9:=Lib.hid (Y8.out.below b9)
    clear b9
    obtain ⟨pl,hpl⟩:∃pl:Nat,pl=4 - j:=⟨_,rfl⟩
    have hw:IntKind.i64.wrap (4 - (j:Int))=(pl:Int):=by have:=HK4.out;rw [wrap_i64_id (by omega) (by omega)];omega
    have hw2:(4 - (j:Int))=(pl:Int):=by have:=HK4.out;omega
    have HPL:=Lib.hid hpl
    clear hpl
    go_wp2_with fail
    refine (rgState_any M9.out Y9.out HVA8.out G3.out pl (by have:=HPL.out;have:=HK3.out;omega) (by have:=HPL.out;omega) (by have:=HSZ8.out;omega)).mono ?_
    rintro e w10 ⟨u',rfl,c,X10,⟨F10,h1,h2,h3,h4,h5,h6⟩,h7,h8,h9⟩
    have hbc:b=c:=Su.nxs_fun h1.ok (by have:=HSZ8.out;have:=HPL.out;omega) (HNX8.out.mono h5) (by have:=HPL.out;have:=HK4.out;rwa [show 4 - pl=j by omega] at h7)
    subst hbc
    have HS':=Lib.hid (same_q _ _ b.length b.length (bf b) (bf b) w10 h2.rd (YO9.out.chS h3 h4).rd)
    rw [show sameQ b.length (bf b) b.length (bf b)=true from by unfold sameQ;rw [decide_eq_true rfl,sameB_self];rfl] at HS'
    have B10:=Lib.hid (B9.out.trans (M9.out.belowS h3))
    obtain ⟨az,cz,rfl,_⟩:=h2.rd
    clear h1 h2 h3 h4 h5 h6 h7 h8 h9 hw hw2
    go_wp2_with fail
    refine HS'.out.mono ?_
    rintro e w11 ⟨rfl,b11⟩
    have B11:=Lib.hid (B10.out.trans (b11.mono B10.out.size))
    clear b11
    by_cases hj0:j=0
    ·subst hj0
     obtain rfl:er=2:=HER.out rfl
     rw [show ((0:Nat):Int)=0 from rfl] at q1 q2 q5 q7 ⊢
     go_wp2
     go_ret
     exact ⟨rfl,B11.out⟩
    ·have q8:decide ((0:Int)<(j:Int))=true:=decide_eq_true (by omega)
     have q9:0<j:=by omega
     clear hj0
     go_wp2
     go_ret
     exact ⟨rfl,B11.out⟩
theorem regressDown_law (w:World) (y:Bool) (sd:Nat→Int) (hs:∀i,i<32→(Lit.int .u8 (sd i)).wf=true) (n:Int) (hn:(Lit.int .i64 n).wf=true):
  Calls Try.prog 3 #[WayV y sd,.int .i64 n] w fun e w'=> e=.returned (.bool true)∧Below w.heap.size w w':=by
 have hb:=bounds_i64 hn
 exact regressDown_num w y sd (fun i hi=> by have:=bounds_u8 (hs i hi);omega) n (by omega) (by omega)
end
end Go.Proofs.Ytpcjekgfnfjbpaa
