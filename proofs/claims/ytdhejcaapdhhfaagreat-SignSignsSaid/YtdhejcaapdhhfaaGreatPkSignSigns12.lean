/-
  Part 12 of the texts that the proof of SignSigns rests on, one after the other. Conditions: named in each theorem.
-/
import Derived.Test.YtdhejcaapdhhfaaGreatPkSignSigns11
import Derived.Test.YtdhejcaapdhhfaaGreatPkSignSigns1
import Derived.Test.YtdhejcaapdhhfaaGreatPkSignSigns8
import Derived.BigQuiet
import Derived.ChangeKeysEq
import Derived.Deep.DrawnRows
import Derived.Deep.QuietTactic
import Derived.Deep.RegionHeld3
import Derived.Deep.WholeRow
import Derived.Laws.CopyOwn
import Derived.Laws.StructEq
import Derived.Lib.Hide
import Derived.Orders
import Derived.Test.YtdhejcaapdhhfaaGreatArr
import Derived.Test.YtdhejcaapdhhfaaGreatFlow
import Derived.Test.YtdhejcaapdhhfaaGreatKit
import Derived.Test.YtdhejcaapdhhfaaGreatRows
import Derived.WalkKit
import Derived.WalkLawsBesides
import Derived.WalkSmall
import Derived.WalkSpells
set_option linter.unusedVariables false
set_option linter.unusedSimpArgs false
namespace Go.Proofs.YtdhejcaapdhhfaaGreat
open Go.RowKit Go.Bas
attribute [local go_sem ↓] Go.wp_at_zero Go.wp_at_succ

/-- the order of the group. -/
def Q : Int := 7237005577332262213973186563042994240857116359379907606001950938285454250989
theorem order_lit : (#[.int .u8 237, .int .u8 211, .int .u8 245, .int .u8 92, .int .u8 26, .int .u8 99, .int .u8 18, .int .u8 88, .int .u8 214, .int .u8 156, .int .u8 247, .int .u8 162, .int .u8 222, .int .u8 249, .int .u8 222, .int .u8 20, .int .u8 0, .int .u8 0, .int .u8 0, .int .u8 0, .int .u8 0, .int .u8 0, .int .u8 0, .int .u8 0, .int .u8 0, .int .u8 0, .int .u8 0, .int .u8 0, .int .u8 0, .int .u8 0, .int .u8 0, .int .u8 16] : Array Value) = arr .u8 32 (dg 256 Q) := by kernel_rfl

set_option maxRecDepth 100000 in
set_option maxHeartbeats 400000 in
theorem order_any (w : World) :
    Calls Tryz.prog 107 #[] w fun e w' => e = .returned (.agg (arr .u8 32 (dg 256 Q))) ∧ Below w.heap.size w w' := by
  go_enter Tryz.func107, Tryz.ntmps107
  go_wp2_with (refine store_arr rfl 22 _ _ rfl .u8 w.heap.size 32 (fun _ => 0) (dg 256 Q) Tryz.size22 rfl (congrArg Value.agg order_lit) (Arr.newAt (by first | omega | (simp <;> omega)) (by rfl)) ?_)
  refine bodyPost_ret (results_arr rfl _ _ .u8 w.heap.size 32 _ 5 rfl (Arr.setRow (Arr.newAt (n := 32) (f := fun _ => 0) (by first | omega | (simp <;> omega)) (by rfl)) _ _) Tryz.underlying22 Tryz.size22) rfl ⟨rfl, below_setRow' ((Below.refl _ _).alloc (Nat.le_refl _) _) (Nat.le_refl _) _⟩

/-- X, less the order if it is not below it. -/
def once (X : Int) : Int := if Q ≤ X then X - Q else X

set_option maxRecDepth 100000 in
set_option maxHeartbeats 800000 in
theorem once_any (X : Int) (w : World) (hX : 0 ≤ X ∧ X < 65536 ^ 17) :
    Calls Tryz.prog 117 #[.agg (arr .u32 17 (dg 65536 X))] w fun e w' =>
      e = .returned (.agg (arr .u32 17 (dg 65536 (once X)))) ∧ Below w.heap.size w w' := by
  have HX := Lib.hid hX
  clear hX
  go_enter Tryz.func117, Tryz.ntmps117
  go_wp2
  refine wp_world (fun w1 => Arr .u32 w1 w.heap.size 17 (dg 65536 X) ∧ Arr .u32 w1 (w.heap.size + 1) 17 (fun _ => 0) ∧ Below w.heap.size w w1) ⟨Arr.alloc (Arr.newAt (by first | omega | (simp <;> omega)) (by rfl)) _, Arr.newAt (by first | omega | (simp <;> omega)) (by rfl), ((Below.refl _ _).alloc (Nat.le_refl _) _).alloc (by simp) _⟩ ?_
  rintro w1 ⟨hA, hZ, hbel⟩
  refine region_vars (n := 15) (by kernel_rfl) (by kernel_rfl) (by kernel_rfl) rfl
    (isAl [(8, 7)]) (putOf [(8, 7)]) (fun _ => arr .u32 17 (fun _ => 0)) (fun _ => arr .u32 17 (dg 65536 (X - Q))) (fun _ => 129) (fun _ => 3)
    (fun i v _ => match i with
      | 0 => v = .agg (arr .u32 17 (dg 65536 X)) | 1 => v = .agg (arr .u8 32 (dg 256 Q)) | 2 => v = .agg (arr .u32 17 (dg 65536 Q))
      | 3 | 4 => v = .tuple #[.agg (arr .u32 17 (dg 65536 (X - Q))), .bool (decide (Q ≤ X))]
      | 5 => v = .agg (arr .u32 17 (dg 65536 (X - Q))) | 6 | 9 => v = .bool (decide (Q ≤ X)) | _ => True)
    (fun _ _ => True) (fun _ _ _ => trivial) (fun _ _ _ _ _ _ _ => trivial) (fun _ _ _ _ h _ => h)
    (vs_al rfl) (vs_inj rfl) ?_ ?_ ?_ ?_
  · refine Each.all ?_
    refine ⟨?_, ?_, ?_, ?_, ?_, ?_, ?_, ?_, ?_, ?_, trivial⟩
    · intro _ _ a w2 hB hF hd
      rw [if_pos (wanted_none rfl)]
      exact flow_val (fun h => by cases h) (run_load_arr rfl Tryz.underlying129 Tryz.size129 (hF.same 1 rfl) (hA.below hB hA.lt)) rfl
    · intro _ _ a w2 hB hF hd
      rw [if_pos (wanted_none rfl)]
      refine flow_call _ _ _ rfl Tryz.call107 _ args0 (by simp) ((order_any w2).mono ?_)
      rintro e w3 ⟨rfl, hb⟩; exact ⟨_, rfl, rfl, hb⟩
    · intro _ _ a w2 hB hF hd
      rw [if_pos (wanted_none rfl)]
      refine flow_call _ _ _ rfl Tryz.call105 _ (args1 (hd 1 _ rfl rfl rfl (waits_spec rfl))) (by simp) ((of_any Q w2 (by decide)).mono ?_)
      rintro e w3 ⟨rfl, hb⟩; exact ⟨_, rfl, rfl, hb⟩
    · intro _ _ a w2 hB hF hd
      rw [if_pos (wanted_none rfl)]
      refine flow_call _ _ _ rfl Tryz.call106 _ (args2 (hd 0 _ rfl rfl rfl (waits_spec rfl)) (hd 2 _ rfl rfl rfl (waits_spec rfl))) (by simp) ((less_any X Q w2 HX.out (by decide)).mono ?_)
      rintro e w3 ⟨rfl, hb⟩; exact ⟨_, rfl, rfl, hb⟩
    · intro _ _ a w2 hB hF hd
      rw [if_pos (wanted_none rfl)]
      exact flow_move _ (.inl rfl) (by simp) (hd 3 _ rfl rfl rfl (waits_spec rfl))
    · intro _ _ a w2 hB hF hd
      rw [if_pos (wanted_none rfl)]
      exact flow_val (fun h => by cases h) (run_extract rfl (hd 4 _ rfl rfl rfl (waits_spec rfl)) rfl) rfl
    · intro _ _ a w2 hB hF hd
      rw [if_pos (wanted_none rfl)]
      exact flow_val (fun h => by cases h) (run_extract rfl (hd 4 _ rfl rfl rfl (waits_spec rfl)) rfl) rfl
    · exact fun h => by cases h
    · exact fun _ h => by cases h
    · intro _ _ a w2 hB hF hd
      rw [if_pos (wanted_none rfl)]
      exact flow_move _ (.inr rfl) (by simp) (hd 6 _ rfl rfl rfl (waits_spec rfl))
  · refine Each.all ?_
    refine ⟨(fun h => by cases h), (fun h => by cases h), (fun h => by cases h), (fun h => by cases h), (fun h => by cases h), (fun h => by cases h), (fun h => by cases h), ?_, (fun h => by cases h), (fun h => by cases h), trivial⟩
    exact fun _ => ⟨rfl, rfl, fun a w2 K h => flow_alloc rfl rfl Tryz.zeroValue129 (by simp) h⟩
  · refine Each.all ?_
    refine ⟨(fun _ h => by cases h), (fun _ h => by cases h), (fun _ h => by cases h), (fun _ h => by cases h), (fun _ h => by cases h), (fun _ h => by cases h), (fun _ h => by cases h), (fun _ h => by cases h), ?_, (fun _ h => by cases h), trivial⟩
    intro p hp
    obtain rfl : 7 = p := Option.some.inj hp
    exact ⟨rfl, rfl, ⟨_, rfl⟩, waits_spec rfl, fun a w2 b K hB hF hd hx hb h => flow_put rfl rfl Tryz.size129 hx (hd 5 _ rfl rfl rfl (waits_spec rfl)) hb h⟩
  · intro a w2 blk hB hF hS hv hfin hdis
    obtain ⟨v1, v2, v3⟩ := hv 7 _ rfl rfl
    have ha := puts_each rfl rfl hF [_, _, _, _, _, _, _, _, undef, _] rfl ⟨hS 0 _ rfl rfl rfl, hS 1 _ rfl rfl rfl, hS 2 _ rfl rfl rfl, hS 3 _ rfl rfl rfl, hS 4 _ rfl rfl rfl, hS 5 _ rfl rfl rfl, hS 6 _ rfl rfl rfl, v1, trivial, hS 9 _ rfl rfl rfl, trivial⟩
    have f8 := hfin 8 _ 7 rfl rfl
    simp only [puts, Act.put, List.setIfInBounds_toArray, List.set_cons_succ, List.set_cons_zero] at ha
    subst ha
    have hA2 := hA.below hB hA.lt
    have hZ2 := hZ.below hB hZ.lt
    have hV : Arr .u32 w2 (blk 7) 17 (dg 65536 (X - Q)) := ⟨_, f8⟩
    have hlt := hZ.lt
    have hbel2 : Below w.heap.size w w2 := hbel.trans (hB.mono hbel.size)
    clear hS hv hfin hdis hF hA hZ v1 f8 hB hbel
    by_cases hq : Q ≤ X
    · have hdq : decide (Q ≤ X) = true := by simpa using hq
      have HQ := Lib.hid hq
      go_wp2_with (first
        | (refine load_arr rfl 129 _ rfl .u32 (blk 7) 17 _ 120 Tryz.underlying129 Tryz.size129 rfl hV ?_)
        | (refine store_arr rfl 129 _ _ rfl .u32 (w.heap.size + 1) 17 (fun _ => 0) _ Tryz.size129 rfl rfl hZ2 ?_))
      refine bodyPost_ret (results_arr rfl _ _ .u32 (w.heap.size + 1) 17 _ 120 rfl (hZ2.setRow _ _) Tryz.underlying129 Tryz.size129) rfl ⟨?_, below_setRow' hbel2 (by omega) _⟩
      rw [once, if_pos HQ.out]
    · have hdq : decide (Q ≤ X) = false := by simpa using hq
      have HQ : Hid (X < Q) := by unfold Hid; omega
      go_wp2_with (first
        | (refine load_arr rfl 129 _ rfl .u32 w.heap.size 17 _ 120 Tryz.underlying129 Tryz.size129 rfl hA2 ?_)
        | (refine store_arr rfl 129 _ _ rfl .u32 (w.heap.size + 1) 17 (fun _ => 0) _ Tryz.size129 rfl rfl hZ2 ?_))
      refine bodyPost_ret (results_arr rfl _ _ .u32 (w.heap.size + 1) 17 _ 120 rfl (hZ2.setRow _ _) Tryz.underlying129 Tryz.size129) rfl ⟨?_, below_setRow' hbel2 (by omega) _⟩
      rw [once, if_neg (by have := HQ.out; omega)]
end Go.Proofs.YtdhejcaapdhhfaaGreat
