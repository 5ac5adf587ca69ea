/-
  Part 18 of the texts that the proof of TermOnce rests on, one after the other. Conditions: named in each theorem.
-/
import Derived.Test.YtlmdgmgbijfaoaaPkTermOnce17
import Derived.Test.YtlmdgmgbijfaoaaPkTermOnce8
import Derived.Test.YtlmdgmgbijfaoaaPkTermOnce11
import Derived.Test.YtlmdgmgbijfaoaaPkTermOnce1
import Derived.Test.YtlmdgmgbijfaoaaPkTermOnce5
import Derived.Test.YtlmdgmgbijfaoaaPkTermOnce3
import Derived.Test.YtlmdgmgbijfaoaaPkTermOnce4
import Derived.Test.YtlmdgmgbijfaoaaPkTermOnce6
import Derived.Test.YtlmdgmgbijfaoaaPkTermOnce7
import Derived.Test.YtlmdgmgbijfaoaaPkTermOnce10
import Derived.Test.YtlmdgmgbijfaoaaPkTermOnce9
import Derived.BigQuiet
import Derived.ChangeKeysEq
import Derived.ChangeMaps5
import Derived.ChangeOld
import Derived.Deep.DrawnRows
import Derived.Deep.MidRow
import Derived.Deep.QuietTactic
import Derived.Deep.RegionHeld3
import Derived.Deep.Slices
import Derived.Deep.Strs
import Derived.Deep.Upon
import Derived.Deep.WholeRow
import Derived.Great.BuildSlice
import Derived.Laws.CopyOwn
import Derived.Laws.IdiomCopy
import Derived.Laws.StructEq
import Derived.Lib.Hide
import Derived.Maps.AppendAt
import Derived.Maps.OwnSet
import Derived.Maps.Range
import Derived.Maps.Views
import Derived.OpenShut
import Derived.Orders
import Derived.OrdersIn
import Derived.OwnWalkIn
import Derived.ProofKit
import Derived.RangeFuncCalls
import Derived.ShutString
import Derived.StillTactics
import Derived.StillTailTactics
import Derived.Test.YtlmdgmgbijfaoaaArr
import Derived.Test.YtlmdgmgbijfaoaaFlow
import Derived.Test.YtlmdgmgbijfaoaaKit
import Derived.Test.YtlmdgmgbijfaoaaOpen
import Derived.Test.YtlmdgmgbijfaoaaOpenT
import Derived.Test.YtlmdgmgbijfaoaaTxt
import Derived.WalkKit
import Derived.WalkLawsBesides
import Derived.WalkSmall
import Derived.WalkSpells
set_option linter.unusedVariables false
set_option linter.unusedSimpArgs false
namespace Go.Bas
open Go.RowKit
section
variable {P : Program} {ops : Array Oper} {Q : Exit → Act → World → Prop} {md : Region.Mode}
theorem anyIn_of_any (hnd:noDeferB ops=true) (hno:¬ LetsOut Q) {lp nn:Nat}:∀(fuel:Nat) (L:Array Bool) (a:Act) (w:World),wpAny P md ops Q fuel L a w→wpAnyIn (Fence.wide.inRound lp) nn P md ops Q fuel L a w:=by
 intro fuel
 induction fuel with
 | zero=> intro L a w h;exact h
 | succ fuel ih=>
  intro L a w h
  refine ⟨h.1,fun i hi=> ?_⟩
  have hop:=h.2 i hi
  unfold wpOp at hop
  unfold wpOpIn
  cases ho:ops[i]? with
  | none=>
   simp only [ho] at hop ⊢
   exact ih _ _ _ hop
  | some o=>
   simp only [ho] at hop ⊢
   split
   ·rename_i hw
    rw [if_pos hw] at hop
    exact Oper.wpIn_mono (fun a' w' h'=> ih _ _ _ h') (wpIn_of_wp (noDefer_spec hnd ho) (hop.resolve_right fun h=> hno h.2))
   ·rename_i hw
    rw [if_neg hw] at hop
    exact ⟨fun _ _=> trivial,ih _ _ _ hop⟩
theorem tail_round {id lp nn:Nat} {a:Act} {w:World} {l:List Oper} (n:Nat) (hm:P.follows .mixedOrders=true) (hB:Region.lexTailB .any l.toArray n=true) (hnd:noDeferB l.toArray=true) (hno:¬ LetsOut Q)
  (h:wpStill P l.toArray w.drew (fun a'=> wpList P l.toArray Q (l.drop n) a' w.drew) (l.take n) a):(Code.region id l.toArray true).wpIn (Fence.wide.inRound lp) nn P Q a w:=by
 have hB2:=hB
 unfold Region.lexTailB at hB2
 simp only [Bool.and_eq_true,decide_eq_true_eq] at hB2
 obtain ⟨⟨⟨⟨b1,b2⟩,b3⟩,b4⟩,b5⟩:=hB2
 have hnl:n<l.length:=by simpa using b2
 have hlen:(l.take n).length=n:=by rw [List.length_take];omega
 have hinv:HeadInv .any l.toArray n (Array.replicate l.toArray.size false):=⟨by simp,fun j oj _ hl=> (by rw [getD_replicate_false] at hl;cases hl),fun t _ ht=> getD_in (by simpa using ht) (getD_replicate_false _ _)⟩
 have hhead:=wpAnyL_lex (md:=.any) (g:=l.toArray.size - n) b1 b3 b4 b2 (l.take n) 0 _ a (fun j hj=> by rw [hlen] at hj;simp [hj]) (by rw [hlen];omega) hinv (by rw [hlen];exact b5) h
 have hall:=wpAny_of_head (Q':=Q) (g:=l.toArray.size - n) (fun L a' hL=> by
  have hs:=wpAny_of_seq (md:=.any) (Q':=Q) (l.drop n) n L a' w.drew (fun j=> by simp [List.getElem?_drop]) (by simpa using hL.1) hL.2
  simpa using hs) _ _ _ hhead
 refine wpIn_region_any hm (anyIn_of_any hnd hno _ _ _ _ ?_)
 rw [hlen,show n+(l.toArray.size - n)=l.toArray.size by omega] at hall
 exact hall
end
end Go.Bas
