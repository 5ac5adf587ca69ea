/-
  Part 30 of the texts that the proof of SignSigns rests on, one after the other. Conditions: named in each theorem.
-/
import Derived.Test.YtdhejcaapdhhfaaGreatPkSignSigns16
import Derived.Test.YtdhejcaapdhhfaaGreatPkSignSigns15
import Derived.Test.YtdhejcaapdhhfaaGreatPkSignSigns10
import Derived.Test.YtdhejcaapdhhfaaGreatPkSignSigns1
import Derived.Test.YtdhejcaapdhhfaaGreatPkSignSigns3
import Derived.Test.YtdhejcaapdhhfaaGreatPkSignSigns2
import Derived.Test.YtdhejcaapdhhfaaGreatPkSignSigns9
import Derived.Test.YtdhejcaapdhhfaaGreatPkSignSigns8
import Derived.Test.YtdhejcaapdhhfaaGreatPkSignSigns4
import Derived.Test.YtdhejcaapdhhfaaGreatPkSignSigns5
import Derived.Test.YtdhejcaapdhhfaaGreatPkSignSigns6
import Derived.Test.YtdhejcaapdhhfaaGreatPkSignSigns28
import Derived.Test.YtdhejcaapdhhfaaGreatPkSignSigns27
import Derived.Test.YtdhejcaapdhhfaaGreatPkSignSigns20
import Derived.Test.YtdhejcaapdhhfaaGreatPkSignSigns19
import Derived.Test.YtdhejcaapdhhfaaGreatPkSignSigns25
import Derived.Test.YtdhejcaapdhhfaaGreatPkSignSigns23
import Derived.Test.YtdhejcaapdhhfaaGreatPkSignSigns29
import Derived.Test.YtdhejcaapdhhfaaGreatPkSignSigns13
import Derived.Test.YtdhejcaapdhhfaaGreatPkSignSigns12
import Derived.Test.YtdhejcaapdhhfaaGreatPkSignSigns11
import Derived.Test.YtdhejcaapdhhfaaGreatPkSignSigns18
import Derived.Test.YtdhejcaapdhhfaaGreatPkSignSigns7
import Derived.Test.YtdhejcaapdhhfaaGreatPkSignSigns14
import Derived.Test.YtdhejcaapdhhfaaGreatPkSignSigns17
import Derived.Test.YtdhejcaapdhhfaaGreatPkSignSigns26
import Derived.Test.YtdhejcaapdhhfaaGreatPkSignSigns24
import Derived.Test.YtdhejcaapdhhfaaGreatPkSignSigns22
import Derived.Test.YtdhejcaapdhhfaaGreatPkSignSigns21
import Derived.BigFrame
import Derived.BigQuiet
import Derived.ChangeKeysEq
import Derived.ChangeOld
import Derived.Deep.Cut
import Derived.Deep.DrawnRows
import Derived.Deep.LoopGhost
import Derived.Deep.MidRow
import Derived.Deep.QuietTactic
import Derived.Deep.RegionHeld3
import Derived.Deep.RegionLaw
import Derived.Deep.WholeRow
import Derived.Great.BuildSlice
import Derived.Laws.BitsAllLaws
import Derived.Laws.BytesArg
import Derived.Laws.CopyOwn
import Derived.Laws.IdiomCopy
import Derived.Laws.IdiomStrings
import Derived.Laws.Strings
import Derived.Laws.StructEq
import Derived.Lib.BufferRead
import Derived.Lib.Hide
import Derived.Maps.AppendAt
import Derived.Maps.Range
import Derived.OpenShut
import Derived.Orders
import Derived.OrdersIn
import Derived.OwnWalkIn
import Derived.ProofKit
import Derived.RangeFuncBox
import Derived.RangeFuncCalls
import Derived.ShutString
import Derived.Test.YtdhejcaapdhhfaaGreatArr
import Derived.Test.YtdhejcaapdhhfaaGreatFlow
import Derived.Test.YtdhejcaapdhhfaaGreatKit
import Derived.Test.YtdhejcaapdhhfaaGreatOpen
import Derived.Test.YtdhejcaapdhhfaaGreatRows
import Derived.Test.YtdhejcaapdhhfaaGreatTxt
import Derived.WalkKit
import Derived.WalkLawsBesides
import Derived.WalkSmall
import Derived.WalkSpells
set_option linter.unusedVariables false
set_option linter.unusedSimpArgs false
namespace Go.Proofs.YtdhejcaapdhhfaaGreat
open Go.RowKit Go.Bas
attribute [local go_sem ↓] Go.wp_at_zero Go.wp_at_succ

set_option maxRecDepth 100000 in
set_option maxHeartbeats 1600000 in
theorem rList_any (f : Nat → Int) (hf : ∀ i, i < 64 → 0 ≤ f i ∧ f i < 256) (w : World) :
    Calls Tryz.prog 83 #[.agg (arr .u8 64 f)] w fun e w' => ∃ v, e = .returned v ∧ Go.Bas.Own .u8 5 (w.heap.size + 1) w' v 64 f ∧ Below w.heap.size w w' := by
  have HF := Lib.hid hf
  clear hf
  go_enter Tryz.func83, Tryz.ntmps83
  have hA1 : Arr .u8 (w.alloc (.cells (arr .u8 64 f) 29)) w.heap.size 64 f := Arr.newAt rfl rfl
  have hb1 : Below w.heap.size w (w.alloc (.cells (arr .u8 64 f) 29)) := (Below.refl _ _).alloc (Nat.le_refl _) _
  go_wp2
  go_loopw [3, 4] (fun v i wr => ∃ k : Nat, k ≤ 64 ∧ i = .int .i64 (k : Int) ∧ Go.Bas.Own .u8 5 (w.heap.size + 1) wr v k f ∧ Arr .u8 wr w.heap.size 64 f ∧ Below w.heap.size w wr ∧ w.heap.size + 1 ≤ wr.heap.size) (fun _ i _ => 64 - (intOf i).toNat)
  case atStart => exact ⟨0, Nat.zero_le _, rfl, Go.Bas.Own.nil _ _ _ _ _, hA1, hb1, by simp⟩
  case round =>
    clear hA1 hb1
    obtain ⟨k, hk, rfl, ho, hA, hbel, hsz⟩ := hrel
    have HO := Lib.hid ho
    have HA := Lib.hid hA
    clear ho hA
    by_cases hlt : k < 64
    · obtain ⟨x, hx⟩ : ∃ x, x = f k := ⟨_, rfl⟩
      have x01 := HF.out k hlt
      have e1 := HA.out.cell k hlt
      rw [← hx] at x01 e1
      obtain ⟨x0, x1⟩ := x01
      have HX := Lib.hid hx
      have hne := HO.out.far (Nat.lt_succ_self w.heap.size)
      clear hx
      go_wp2_with (at_builtin; refine append_new rfl _ _ 23 rfl (w.heap.size + 1) 5 .u8 1 Tryz.underlying23 Tryz.info5 _ k f _ _ rfl HO.out rfl 1 rfl rfl ?_ (by omega) (by omega) (by omega) ?_; rotate_right; intro v' w6 hown hgrow)
      · go_roundw
        case rel => exact ⟨k + 1, by omega, by go_num, hown, (Arr.alloc HA.out _).grown hgrow hne, below_grown (hbel.alloc (by omega) _) hgrow HO.out (by simp; omega) (by omega), by have := hgrow.size; simp at this; omega⟩
        case measure => simp [intOf] <;> omega
      · first | exact HX.out | (intro i hi; exact one0 hi (by rw [show k + i = k by omega]; exact HX.out))
    · obtain rfl : k = 64 := by omega
      have HO2 := HO.out
      go_wp2
      go_ret
      exact ⟨_, rfl, HO2, hbel⟩

set_option maxRecDepth 100000 in
set_option maxHeartbeats 1600000 in
theorem rBytes32_any (f : Nat → Int) (hf : ∀ i, i < 32 → 0 ≤ f i ∧ f i < 256) (w : World) :
    Calls Tryz.prog 35 #[.agg (arr .u8 32 f)] w fun e w' => ∃ v, e = .returned v ∧ Go.Bas.Own .u8 5 (w.heap.size + 1) w' v 32 f ∧ Below w.heap.size w w' := by
  have HF := Lib.hid hf
  clear hf
  go_enter Tryz.func35, Tryz.ntmps35
  have hA1 : Arr .u8 (w.alloc (.cells (arr .u8 32 f) 22)) w.heap.size 32 f := Arr.newAt rfl rfl
  have hb1 : Below w.heap.size w (w.alloc (.cells (arr .u8 32 f) 22)) := (Below.refl _ _).alloc (Nat.le_refl _) _
  go_wp2
  go_loopw [3, 4] (fun v i wr => ∃ k : Nat, k ≤ 32 ∧ i = .int .i64 (k : Int) ∧ Go.Bas.Own .u8 5 (w.heap.size + 1) wr v k f ∧ Arr .u8 wr w.heap.size 32 f ∧ Below w.heap.size w wr ∧ w.heap.size + 1 ≤ wr.heap.size) (fun _ i _ => 32 - (intOf i).toNat)
  case atStart => exact ⟨0, Nat.zero_le _, rfl, Go.Bas.Own.nil _ _ _ _ _, hA1, hb1, by simp⟩
  case round =>
    clear hA1 hb1
    obtain ⟨k, hk, rfl, ho, hA, hbel, hsz⟩ := hrel
    have HO := Lib.hid ho
    have HA := Lib.hid hA
    clear ho hA
    by_cases hlt : k < 32
    · obtain ⟨x, hx⟩ : ∃ x, x = f k := ⟨_, rfl⟩
      have x01 := HF.out k hlt
      have e1 := HA.out.cell k hlt
      rw [← hx] at x01 e1
      obtain ⟨x0, x1⟩ := x01
      have HX := Lib.hid hx
      have hne := HO.out.far (Nat.lt_succ_self w.heap.size)
      clear hx
      go_wp2_with (at_builtin; refine append_new rfl _ _ 23 rfl (w.heap.size + 1) 5 .u8 1 Tryz.underlying23 Tryz.info5 _ k f _ _ rfl HO.out rfl 1 rfl rfl ?_ (by omega) (by omega) (by omega) ?_; rotate_right; intro v' w6 hown hgrow)
      · go_roundw
        case rel => exact ⟨k + 1, by omega, by go_num, hown, (Arr.alloc HA.out _).grown hgrow hne, below_grown (hbel.alloc (by omega) _) hgrow HO.out (by simp; omega) (by omega), by have := hgrow.size; simp at this; omega⟩
        case measure => simp [intOf] <;> omega
      · first | exact HX.out | (intro i hi; exact one0 hi (by rw [show k + i = k by omega]; exact HX.out))
    · obtain rfl : k = 32 := by omega
      have HO2 := HO.out
      go_wp2
      go_ret
      exact ⟨_, rfl, HO2, hbel⟩

end Go.Proofs.YtdhejcaapdhhfaaGreat
namespace Go.Proofs.YtdhejcaapdhhfaaGreat
open Go.RowKit Go.Bas
attribute [local go_sem ↓] Go.wp_at_zero Go.wp_at_succ

end Go.Proofs.YtdhejcaapdhhfaaGreat
namespace Go.Proofs.YtdhejcaapdhhfaaGreat
open Go.RowKit Go.Bas
attribute [local go_sem ↓] Go.wp_at_zero Go.wp_at_succ

end Go.Proofs.YtdhejcaapdhhfaaGreat

namespace Go.Proofs.YtdhejcaapdhhfaaGreat
open Go.RowKit Go.Bas Go.ChangeShapes
attribute [local go_sem ↓] Go.wp_at_zero Go.wp_at_succ
set_option maxRecDepth 100000 in
set_option maxHeartbeats 1600000 in
theorem rdNumber_any (v : Value) (n : Nat) (f : Nat → Int) (w : World) (hv : Rd .u8 w v n f) (hn : n ≤ 1000000) (hf : ∀ i, i < n → 0 ≤ f i ∧ f i < 256) :
    Calls Tryz.prog 34 #[v] w fun e w' => e = .returned (.agg (arr .u8 32 (dg 256 ((numN n f : Nat) : Int)))) ∧ Below w.heap.size w w' := by
  have HS := Lib.hid (fun w' h => rSum_any v n f w' h hn hf)
  have HV := Lib.hid hv
  have HLI := Lib.hid (fun w => rList_any (sumB n f) (fun i _ => sumB_bound n f i) w)
  have HOF : Hid (∀ w u, Rd .u8 w u 64 (sumB n f) → Calls Tryz.prog 82 #[u] w fun e w' => e = .returned (.agg (arr .u8 32 (dg 256 ((numN n f : Nat) : Int)))) ∧ Below w.heap.size w w') := fun w u hu => by
    have hb : ∀ i, i < 64 → 0 ≤ sumB n f i ∧ sumB n f i < 256 := fun i _ => sumB_bound n f i
    have h := qOf_any u (sm 256 (sumB n f) 64) 64 (by decide) (sm_bound (by decide) hb) w (hu.congr fun i hi => (dg_sm (by decide) hb i hi).symm)
    rw [numN_cast]; exact h
  obtain ⟨SB, hSB⟩ : ∃ SB, SB = sumB n f := ⟨_, rfl⟩
  obtain ⟨R, hR⟩ : ∃ R, R = numN n f := ⟨_, rfl⟩
  rw [← hR] at HOF ⊢
  rw [← hSB] at HS HLI HOF
  clear hSB hR hn hf hv
  go_enter Tryz.func34, Tryz.ntmps34
  go_upto_region 1 with (fail)
  refine wp_world (fun w1 => Arr .u8 w1 w.heap.size 32 (fun _ => 0) ∧ Below w.heap.size w w1) ⟨Arr.newAt rfl (by rfl), (Below.refl _ _).alloc (Nat.le_refl _) _⟩ ?_
  rintro w1 ⟨hZ, hbel⟩
  go_wp2_with fail
  refine (HS.out _ (HV.out.below hbel)).mono ?_
  rintro e w2 ⟨rfl, hb⟩
  replace hZ := hZ.kept hb
  replace hbel := hbel.trans (hb.mono hbel.size)
  clear hb
  go_wp2_with fail
  refine (HLI.out _).mono ?_
  rintro e w3 ⟨u, rfl, hu, hb⟩
  have HU := Lib.hid hu.rd
  replace hZ := hZ.kept hb
  replace hbel := hbel.trans (hb.mono hbel.size)
  clear hb hu
  go_wp2_with fail
  refine (HOF.out _ _ HU.out).mono ?_
  rintro e w4 ⟨rfl, hb⟩
  replace hZ := hZ.kept hb
  replace hbel := hbel.trans (hb.mono hbel.size)
  clear hb
  go_wp2_with (refine store_arr rfl 22 _ _ rfl .u8 w.heap.size 32 (fun _ => 0) (dg 256 (R : Int)) Tryz.size22 rfl rfl hZ ?_)
  exact bodyPost_ret (results_arr rfl _ _ .u8 w.heap.size 32 _ 5 rfl (hZ.setRow _ _) Tryz.underlying22 Tryz.size22) rfl ⟨rfl, below_setRow' hbel (Nat.le_refl _) _⟩

end Go.Proofs.YtdhejcaapdhhfaaGreat

namespace Go.Bas
open Go.RowKit
/-- blocks that hold an int are as they were. -/
def Keep6 (w w' : World) : Prop := w.heap.size ≤ w'.heap.size ∧ ∀ b, (∃ i x, w.cell? ⟨b, i, none⟩ = some (.int .i64 x)) → b < w.heap.size → w'.heap[b]? = w.heap[b]?
theorem Keep6.of {w w' : World} (h : Below w.heap.size w w') : Keep6 w w' := ⟨h.size, fun b _ hb => h.block b hb⟩
theorem Keep6.row {w : World} {b n : Nat} {f : Nat → Int} {cs : Array Value} {T : TypeId} (hz : w.heap[b]? = some (.cells (arr .u8 n f) T (0, 0))) : Keep6 w (w.setRow b cs) := by
  refine ⟨by rw [setRow_size]; exact Nat.le_refl _, fun b' hi _ => setRow_other w b b' cs ?_⟩
  rintro rfl
  obtain ⟨i, x, hx⟩ := hi
  rw [cell_of_row w b' i _ T (0, 0) hz] at hx
  by_cases hin : i < n
  · rw [arr_get hin] at hx; cases hx
  · have h2 := (Array.getElem?_eq_some_iff.1 hx).1
    rw [arr_size] at h2
    omega
theorem Rd.keep6 {w w' : World} {v : Value} {n : Nat} {f : Nat → Int} (h : Rd .i64 w v n f) (hk : Keep6 w w') : Rd .i64 w' v n f := by
  obtain ⟨a, c, rfl, h1, h2, h3, h4⟩ := h
  refine ⟨a, c, rfl, h1, h2, h3, fun hn => ?_⟩
  obtain ⟨b, o, rfl, hlt, hc⟩ := h4 hn
  have hb := hk.2 b ⟨o + 0, f 0, hc 0 hn⟩ hlt
  exact ⟨b, o, rfl, Nat.lt_of_lt_of_le hlt hk.1, fun i hi => (World.cell?_of_block hb).trans (hc i hi)⟩
theorem SPt.keep6 {w w' : World} {v : Value} {p : Ed C7} (h : SPt w v p) (hb : Keep6 w w') : SPt w' v p := by
  obtain ⟨r1, n1, c1, r2, n2, c2, r3, n3, c3, e, A, B, C, h0, h1, h2, h3⟩ := h
  exact ⟨r1, n1, c1, r2, n2, c2, r3, n3, c3, e, A, B, C, h0, h1.keep6 hb, h2.keep6 hb, h3.keep6 hb⟩
end Go.Bas
namespace Go.Proofs.YtdhejcaapdhhfaaGreat
open Go.RowKit Go.Bas Go.ChangeShapes
attribute [local go_sem ↓] Go.wp_at_zero Go.wp_at_succ
set_option maxRecDepth 100000 in
set_option maxHeartbeats 1600000 in
theorem sgMade_nil (w : World) : Calls Tryz.prog 22 #[.pointer none] w fun e w' => e = .returned (.bool false) ∧ Below w.heap.size w w' := by
  go_enter Tryz.func22, Tryz.ntmps22
  go_wp2
  go_ret
  exact ⟨rfl, Below.refl _ _⟩
theorem build_none32 {a : Act} (w : World) : (Instr.build 22 ((#[] : Array (Nat × Operand)).map fun (i, x) => (i, a.eval x))).run Tryz.prog w = .ok (.agg (arr .u8 32 (fun _ => 0))) w := Go.run_build w _ _ _ (by kernel_rfl)
set_option maxRecDepth 100000 in
set_option maxHeartbeats 1600000 in
theorem sgPublic_nil (w : World) : Calls Tryz.prog 7 #[.pointer none] w fun e w' => e = .returned (.tuple #[.agg (arr .u8 32 (fun _ => 0)), .int .i64 1]) ∧ Below w.heap.size w w' := by
  have HP0 := Lib.hid (fun (a : Act) w => build_none32 (a := a) w)
  go_enter Tryz.func7, Tryz.ntmps7
  go_upto_region 1 with (fail)
  refine wp_world (fun w1 => Arr .u8 w1 w.heap.size 32 (fun _ => 0) ∧ Below w.heap.size w w1) ⟨Arr.newAt rfl (by rfl), (Below.refl _ _).alloc (Nat.le_refl _) _⟩ ?_
  rintro w1 ⟨hZ, hbel⟩
  go_wp2_with fail
  refine (sgMade_nil _).mono ?_
  rintro e w2 ⟨rfl, hb⟩
  replace hZ := hZ.kept hb
  replace hbel := hbel.trans (hb.mono hbel.size)
  clear hb
  go_wp2_with (first | (refine step_val rfl (run_built rfl (HP0.out _ _)) ?_) | (refine store_arr rfl 22 _ _ rfl .u8 w.heap.size 32 (fun _ => 0) (fun _ => 0) Tryz.size22 rfl rfl hZ ?_))
  exact bodyPost_ret (results_arr2 rfl _ _ .u8 w.heap.size 32 _ 5 rfl (hZ.setRow 32 (fun _ => 0)) Tryz.underlying22 Tryz.size22) rfl ⟨rfl, below_setRow' hbel (Nat.le_refl _) _⟩
set_option maxRecDepth 100000 in
set_option maxHeartbeats 1600000 in
theorem sgSign_nil (tl : Option Addr) (tn tc : Nat) (w : World) : Calls Tryz.prog 8 #[.pointer none, .slice tl tn tc] w fun e w' => e = .returned (.tuple #[.agg (arr .u8 64 (fun _ => 0)), .int .i64 1]) ∧ Below w.heap.size w w' := by
  have HP0 := Lib.hid (fun (a : Act) w => build_none64 (a := a) w)
  go_enter Tryz.func8, Tryz.ntmps8
  go_upto_region 1 with (fail)
  refine wp_world (fun w1 => Arr .u8 w1 w.heap.size 64 (fun _ => 0) ∧ Below w.heap.size w w1) ⟨Arr.newAt rfl (by rfl), (Below.refl _ _).alloc (Nat.le_refl _) _⟩ ?_
  rintro w1 ⟨hZ, hbel⟩
  go_wp2_with fail
  refine (sgMade_nil _).mono ?_
  rintro e w2 ⟨rfl, hb⟩
  replace hZ := hZ.kept hb
  replace hbel := hbel.trans (hb.mono hbel.size)
  clear hb
  go_wp2_with (first | (refine step_val rfl (run_built rfl (HP0.out _ _)) ?_) | (refine store_arr rfl 29 _ _ rfl .u8 w.heap.size 64 (fun _ => 0) (fun _ => 0) Tryz.size29 rfl rfl hZ ?_))
  exact bodyPost_ret (results_arr2 rfl _ _ .u8 w.heap.size 64 _ 5 rfl (hZ.setRow 64 (fun _ => 0)) Tryz.underlying29 Tryz.size29) rfl ⟨rfl, below_setRow' hbel (Nat.le_refl _) _⟩

set_option maxRecDepth 100000 in
set_option maxHeartbeats 3200000 in
theorem rdHalves_any (S : Int) (w : World) : Calls Tryz.prog 30 #[.agg (arr .u8 32 (dg 256 S))] w fun e w' => ∃ v, e = .returned (.tuple #[.agg (arr .u8 32 (dg 256 ((sdA S : Nat) : Int))), v]) ∧ Go.Bas.Own .u8 5 w.heap.size w' v 32 (sdP S) ∧ Below w.heap.size w w' := by
  have HBY := Lib.hid (fun w => rBytes32_any (dg 256 S) (fun i _ => dg_bound (by decide) _ _) w)
  have HSU : Hid (∀ w v, Rd .u8 w v 32 (dg 256 S) → Calls Tryz.prog 73 #[v] w fun e w' => e = .returned (.agg (arr .u8 64 (sdS S))) ∧ Below w.heap.size w w') := fun w v h => rSum_any v 32 _ w h (by decide) (fun i _ => dg_bound (by decide) _ _)
  have HSB : Hid (∀ i, 0 ≤ sdS S i ∧ sdS S i < 256) := fun i => sumB_bound 32 (dg 256 S) i
  have HCL : Hid (∀ w, Calls Tryz.prog 74 #[.agg (arr .u8 32 (sdS S))] w fun e w' => e = .returned (.agg (arr .u8 32 (dg 256 ((sdA S : Nat) : Int)))) ∧ Below w.heap.size w w') := fun w => by
    rw [sdA_cast, show arr .u8 32 (sdS S) = arr .u8 32 (dg 256 (sm 256 (sdS S) 32)) from arr_congr fun i hi => (dg_sm (f := sdS S) (by decide) (fun i _ => sumB_bound 32 (dg 256 S) i) i hi).symm]
    exact rdClamp_any _ w
  have HPD : Hid (∀ i, sdP S i = sdS S (32 + i)) := fun _ => rfl
  obtain ⟨SB, hSB⟩ : ∃ SB, SB = sdS S := ⟨_, rfl⟩
  rw [← hSB] at HSU HCL HPD HSB
  obtain ⟨A, hA⟩ : ∃ A, A = sdA S := ⟨_, rfl⟩
  rw [← hA] at HCL ⊢
  obtain ⟨PF, hPF⟩ : ∃ PF, PF = sdP S := ⟨_, rfl⟩
  rw [← hPF] at HPD ⊢
  clear hSB hA hPF
  go_enter Tryz.func30, Tryz.ntmps30
  go_upto_region 1 with (fail)
  refine wp_world (fun w1 => Arr .u8 w1 w.heap.size 32 (dg 256 S) ∧ Arr .u8 w1 (w.heap.size + 1) 32 (fun _ => 0) ∧ Below w.heap.size w w1) ⟨.alloc (Arr.newAt rfl rfl) _, Arr.newAt (by first | omega | (simp <;> omega)) (by rfl), ((Below.refl _ _).alloc (Nat.le_refl _) _).alloc (by first | omega | (simp <;> omega)) _⟩ ?_
  rintro w1 ⟨h1, h2, hbel⟩
  go_wp2_with (refine load_arr rfl 22 _ rfl .u8 w.heap.size 32 (dg 256 S) 5 Tryz.underlying22 Tryz.size22 rfl h1 ?_)
  refine (HBY.out _).mono ?_
  rintro e w2 ⟨v, rfl, hv, hb⟩
  have HV := Lib.hid hv.rd
  replace h2 := h2.kept hb
  replace hbel := hbel.trans (hb.mono hbel.size)
  clear hb hv h1
  go_wp2_with fail
  refine (HSU.out _ _ HV.out).mono ?_
  rintro e w3 ⟨rfl, hb⟩
  replace h2 := h2.kept hb
  replace hbel := hbel.trans (hb.mono hbel.size)
  have hl2 := h2.lt
  clear hb HV HBY HSU
  go_upto_region 2 with (refine store_arr rfl 29 _ _ rfl .u8 w3.heap.size 64 (fun _ => 0) SB Tryz.size29 rfl rfl (Arr.newAt rfl (by rfl)) ?_)
  refine wp_world (fun w4 => Arr .u8 w4 w3.heap.size 64 SB ∧ Below w3.heap.size w3 w4) ⟨(Arr.newAt rfl (by rfl) : Arr .u8 _ _ 64 (fun _ => 0)).setRow _ _, below_setRow' ((Below.refl _ _).alloc (Nat.le_refl _) _) (Nat.le_refl _) _⟩ ?_
  rintro w4 ⟨h4, hb⟩
  replace h2 := h2.kept hb
  replace hbel := hbel.trans (hb.mono hbel.size)
  obtain ⟨x4, e4⟩ : ∃ x, x = w3.heap.size := ⟨_, rfl⟩
  rw [← e4] at h4 hl2 ⊢
  have hl4 := h4.lt
  clear e4 hb
  try simp only [Act.put, List.setIfInBounds_toArray, List.set_cons_succ, List.set_cons_zero]
  go_upto_region 3 with (fail)
  refine wp_world (fun w5 => Arr .u8 w5 w4.heap.size 32 (fun _ => 0) ∧ Below w4.heap.size w4 w5) ⟨Arr.newAt rfl (by rfl), (Below.refl _ _).alloc (Nat.le_refl _) _⟩ ?_
  rintro w5 ⟨h5, hb⟩
  replace h2 := h2.kept hb
  replace h4 := h4.kept hb
  have hsz := hbel.size
  replace hbel := hbel.trans (hb.mono hbel.size)
  obtain ⟨x5, e5⟩ : ∃ x, x = w4.heap.size := ⟨_, rfl⟩
  rw [← e5] at h5 hl4 hsz ⊢
  have hl5 := h5.lt
  obtain ⟨N5, hN5⟩ : ∃ N, N = w5.heap.size := ⟨_, rfl⟩
  rw [← hN5] at hl5
  have hN5' : N5 ≤ w5.heap.size := by omega
  clear e5 hb hN5
  go_wp2
  go_loopw [6, 7] (fun v i wr => ∃ k : Nat, k ≤ 32 ∧ i = .int .i64 (k : Int) ∧ Go.Bas.Own .u8 5 N5 wr v k PF ∧ Arr .u8 wr x5 32 (upto k SB (fun _ => 0)) ∧ Arr .u8 wr x4 64 SB ∧ Arr .u8 wr (w.heap.size + 1) 32 (fun _ => 0) ∧ Below w.heap.size w wr ∧ N5 ≤ wr.heap.size) (fun _ i _ => 32 - (intOf i).toNat)
  case atStart => exact ⟨0, Nat.zero_le _, rfl, Go.Bas.Own.nil _ _ _ _ _, by rw [upto_zero]; exact h5, h4, h2, hbel, hN5'⟩
  case round =>
    clear h5 h4 h2 hbel hN5'
    obtain ⟨k, hk, rfl, ho, h5, h4, h2, hbel, hsz2⟩ := hrel
    have HO := Lib.hid ho
    clear ho
    by_cases hlt : k < 32
    · have x01 := HSB.out (32 + k)
      have y01 := HSB.out k
      have e1 := h4.cell k (by omega)
      have e2 := h4.cell (32 + k) (by omega)
      have e3 := h5.cell k hlt
      have f3 := h5.free k
      obtain ⟨x, hx⟩ : ∃ x, x = SB (32 + k) := ⟨_, rfl⟩
      obtain ⟨y, hy⟩ : ∃ y, y = SB k := ⟨_, rfl⟩
      rw [← hx] at x01 e2
      rw [← hy] at y01 e1
      rw [upto_at] at e3
      obtain ⟨x0, x1⟩ := x01
      obtain ⟨y0, y1⟩ := y01
      have HX : Hid (PF k = x) := by unfold Hid; rw [HPD.out, hx]
      have HY := Lib.hid hy
      have hadd : IntKind.i64.wrap (32 + (k : Int)) = ((32 + k : Nat) : Int) := by rw [wrap_i64_id] <;> omega
      have hne4 := HO.out.far (show x4 < N5 by omega)
      have hne5 := HO.out.far (show x5 < N5 by omega)
      have hne2 := HO.out.far (show w.heap.size + 1 < N5 by omega)
      clear hx hy
      go_upto_region 8 with (fail)
      refine wp_world (fun wq => Arr .u8 wq x5 32 (upto (k + 1) SB (fun _ => 0)) ∧ Arr .u8 wq x4 64 SB ∧ Arr .u8 wq (w.heap.size + 1) 32 (fun _ => 0) ∧ Go.Bas.Own .u8 5 N5 wq u6 k PF ∧ Below w.heap.size w wq ∧ N5 ≤ wq.heap.size)
        ⟨by rw [← upto_step HY.out]; exact h5.set k y, Arr.other (p := ⟨x5, k, none⟩) h4 (show x4 ≠ x5 by omega) _, Arr.other (p := ⟨x5, k, none⟩) h2 (show w.heap.size + 1 ≠ x5 by omega) _, Go.Bas.Own.setCell HO.out (show x5 < N5 by omega) _ _, hbel.setCell (p := ⟨x5, k, none⟩) (show w.heap.size ≤ x5 by omega) _, by simpa using hsz2⟩ ?_
      clear h5 h4 h2 hbel hsz2 e1 e2 e3 f3 hne4 hne5 hne2 HO
      rintro wq ⟨h5, h4, h2, ho, hbel, hsz2⟩
      have HO := Lib.hid ho
      have e2 := h4.cell (32 + k) (by omega)
      have hne4 := HO.out.far (show x4 < N5 by omega)
      have hne5 := HO.out.far (show x5 < N5 by omega)
      have hne2 := HO.out.far (show w.heap.size + 1 < N5 by omega)
      have hxs : SB (32 + k) = x := by rw [← HPD.out]; exact HX.out
      rw [hxs] at e2
      clear ho hxs
      try simp only [Act.put, List.setIfInBounds_toArray, List.set_cons_succ, List.set_cons_zero]
      go_wp2_with (at_builtin; refine append_new rfl _ _ 23 rfl N5 5 .u8 1 Tryz.underlying23 Tryz.info5 _ k PF _ _ rfl HO.out rfl 1 rfl rfl ?_ (by omega) (by omega) (by omega) ?_; rotate_right; intro v' w6 hown hgrow)
      · go_roundw
        case rel => exact ⟨k + 1, by omega, by go_num, hown, (Arr.alloc h5 _).grown hgrow hne5, (Arr.alloc h4 _).grown hgrow hne4, (Arr.alloc h2 _).grown hgrow hne2, below_grown (hbel.alloc (by omega) _) hgrow HO.out (by simp; omega) (by omega), by have := hgrow.size; simp at this; omega⟩
        case measure => simp [intOf] <;> omega
      · first | exact HX.out.symm | (intro i hi; exact one0 hi (by rw [show k + i = k by omega]; first | exact HX.out | exact HX.out.symm))
    · obtain rfl : k = 32 := by omega
      replace h5 := h5.congr (upto_full SB (fun _ => 0) (Nat.le_refl _))
      go_wp2_with (refine load_arr rfl 22 _ rfl .u8 x5 32 SB 5 Tryz.underlying22 Tryz.size22 rfl h5 ?_)
      refine (HCL.out _).mono ?_
      rintro e w6 ⟨rfl, hb⟩
      replace h2 := h2.kept hb
      replace HO := Lib.hid (HO.out.below hb)
      replace hbel := hbel.trans (hb.mono hbel.size)
      clear hb h5 h4
      go_wp2_with (refine store_arr rfl 22 _ _ rfl .u8 (w.heap.size + 1) 32 (fun _ => 0) (dg 256 (A : Int)) Tryz.size22 rfl rfl h2 ?_)
      exact bodyPost_ret (results_arr2 rfl _ _ .u8 (w.heap.size + 1) 32 _ 5 rfl (h2.setRow 32 (dg 256 (A : Int))) Tryz.underlying22 Tryz.size22) rfl ⟨_, rfl, (Go.Bas.Own.setRow HO.out (show w.heap.size + 1 < N5 by omega) _).mono (by omega), below_setRow' hbel (by omega) _⟩

set_option maxRecDepth 100000 in
set_option maxHeartbeats 3200000 in
theorem rdPublic_any (S : Int) (w : World) : Calls Tryz.prog 12 #[.agg (arr .u8 32 (dg 256 S))] w fun e w' => e = .returned (.agg (arr .u8 32 (dg 256 (sdU S)))) ∧ Below w.heap.size w w' := by
  have HH := Lib.hid (fun w => rdHalves_any S w)
  have HAL := Lib.hid (sdA_lt S)
  have HU : Hid (sdU S = bytesN (Bp.mul (sdA S))) := rfl
  obtain ⟨U, hU⟩ : ∃ U, U = sdU S := ⟨_, rfl⟩
  rw [← hU] at HU ⊢
  obtain ⟨A, hA⟩ : ∃ A, A = sdA S := ⟨_, rfl⟩
  rw [← hA] at HH HAL HU
  clear hU hA
  go_enter Tryz.func12, Tryz.ntmps12
  go_upto_region 1 with (fail)
  refine wp_world (fun w1 => Arr .u8 w1 w.heap.size 32 (dg 256 S) ∧ Arr .u8 w1 (w.heap.size + 1) 32 (fun _ => 0) ∧ Below w.heap.size w w1) ⟨.alloc (Arr.newAt rfl rfl) _, Arr.newAt (by first | omega | (simp <;> omega)) (by rfl), ((Below.refl _ _).alloc (Nat.le_refl _) _).alloc (by first | omega | (simp <;> omega)) _⟩ ?_
  rintro w1 ⟨h1, h2, hbel⟩
  go_wp2_with (refine load_arr rfl 22 _ rfl .u8 w.heap.size 32 (dg 256 S) 5 Tryz.underlying22 Tryz.size22 rfl h1 ?_)
  refine (HH.out _).mono ?_
  rintro e w2 ⟨v, rfl, hv, hb⟩
  replace h2 := h2.kept hb
  replace hbel := hbel.trans (hb.mono hbel.size)
  have hl2 := h2.lt
  clear hb hv h1
  go_upto_region 2 with (refine store_arr rfl 22 _ _ rfl .u8 w2.heap.size 32 (fun _ => 0) (dg 256 (A : Int)) Tryz.size22 rfl rfl (Arr.newAt rfl (by rfl)) ?_)
  refine wp_world (fun w3 => Arr .u8 w3 w2.heap.size 32 (dg 256 (A : Int)) ∧ Below w2.heap.size w2 w3) ⟨(Arr.newAt rfl (by rfl) : Arr .u8 _ _ 32 (fun _ => 0)).setRow _ _, below_setRow' ((Below.refl _ _).alloc (Nat.le_refl _) _) (Nat.le_refl _) _⟩ ?_
  rintro w3 ⟨h3, hb⟩
  replace h2 := h2.kept hb
  replace hbel := hbel.trans (hb.mono hbel.size)
  obtain ⟨x3, e3⟩ : ∃ x, x = w2.heap.size := ⟨_, rfl⟩
  rw [← e3] at h3 hl2 ⊢
  clear e3 hb
  try simp only [Act.put, List.setIfInBounds_toArray, List.set_cons_succ, List.set_cons_zero]
  refine region_last' (n := 14) 4 rfl (by decide) (by kernel_rfl) (by kernel_rfl) (by kernel_rfl) (by kernel_rfl) rfl
    (fun ii vv ww => (match ii with | 1 => vv = .agg (arr .u8 32 (dg 256 (A : Int))) | 3 => vv = .agg (arr .u8 32 (dg 256 (bytesN (Bp.mul A)))) | _ => True) ∧ (ii = 0 → SPt ww vv (Bp)) ∧ (ii = 2 → SPt ww vv (Bp.mul A)))
    (fun w w' => Below w.heap.size w w') (fun _ _ h => h) (fun i v w w' h hE => ⟨h.1, fun e => SPt.below (h.2.1 e) hE, fun e => SPt.below (h.2.2 e) hE⟩) rfl ?_ ?_
  · refine Each.all ?_
    refine ⟨?_, ?_, ?_, ?_, (fun h => absurd rfl h), trivial⟩
    · intro _ a w2 hB hF hd
      rw [if_pos (wanted_none rfl)]
      refine flow_call _ _ _ rfl Tryz.call33 _ args0 (by simp) ((rBaseS w2).mono ?_)
      rintro e w3 ⟨u, rfl, hr, hb⟩; exact ⟨u, rfl, ⟨trivial, fun _ => hr, fun h => absurd h (by decide)⟩, hb⟩
    · intro _ a w2 hB hF hd
      rw [if_pos (wanted_none rfl)]
      exact flow_val (fun h => by cases h) (run_load_str rfl Tryz.underlying22 rfl Tryz.size22 (hF.same 3 rfl) (h3.below hB h3.lt)) ⟨rfl, fun h => absurd h (by decide), fun h => absurd h (by decide)⟩
    · intro _ a w2 hB hF hd
      rw [if_pos (wanted_none rfl)]
      refine flow_call _ _ _ rfl Tryz.call32 _ (args2 rfl ((hd 1 _ rfl (waits_spec rfl)).1)) (by simp) ((rMulS A HAL.out w2 ((hd 0 _ rfl (waits_spec rfl)).2.1 rfl)).mono ?_)
      rintro e w3 ⟨u, rfl, hr, hb⟩; exact ⟨u, rfl, ⟨trivial, fun h => absurd h (by decide), fun _ => hr⟩, hb⟩
    · intro _ a w2 hB hF hd
      rw [if_pos (wanted_none rfl)]
      refine flow_call _ _ _ rfl Tryz.call31 _ (args1 rfl) (by simp) ((rBytesS w2 ((hd 2 _ rfl (waits_spec rfl)).2.2 rfl)).mono ?_)
      rintro e w3 ⟨rfl, hb⟩; exact ⟨_, rfl, ⟨rfl, fun h => absurd h (by decide), fun h => absurd h (by decide)⟩, hb⟩
  · intro a w4 hB hF hS
    obtain ⟨x10, hx10⟩ : ∃ x, x = a.tmps.getD 10 undef := ⟨_, rfl⟩
    obtain ⟨x12, hx12⟩ : ∃ x, x = a.tmps.getD 12 undef := ⟨_, rfl⟩
    have ha := puts_each rfl rfl hF [x10, _, x12, _, undef] rfl ⟨hx10.symm, (hS 1 _ rfl (by decide)).1, hx12.symm, (hS 3 _ rfl (by decide)).1, trivial, trivial⟩
    simp only [puts, Act.put, List.setIfInBounds_toArray, List.set_cons_succ, List.set_cons_zero] at ha
    subst ha
    clear hx10 hx12
    clear hS hF
    replace h2 := h2.kept hB
    replace hbel := hbel.trans (hB.mono hbel.size)
    rw [← HU.out]
    clear hB h3
    refine wp_store_arr 22 _ _ rfl .u8 (w.heap.size + 1) 32 (fun _ => 0) (dg 256 U) Tryz.size22 rfl rfl h2 ?_
    go_wp2
    exact bodyPost_ret (results_arr rfl _ _ .u8 (w.heap.size + 1) 32 _ 5 rfl (h2.setRow 32 (dg 256 U)) Tryz.underlying22 Tryz.size22) rfl ⟨rfl, below_setRow' hbel (by omega) _⟩

end Go.Proofs.YtdhejcaapdhhfaaGreat

namespace Go.Proofs.YtdhejcaapdhhfaaGreat
open Go.RowKit Go.Bas Go.ChangeShapes
attribute [local go_sem ↓] Go.wp_at_zero Go.wp_at_succ
theorem rBytes32_at (f : Nat → Int) (hf : ∀ i, i < 32 → 0 ≤ f i ∧ f i < 256) (N : Nat) (w : World) (hN : N ≤ w.heap.size) :
    Calls Tryz.prog 35 #[.agg (arr .u8 32 f)] w fun e w' => ∃ v, e = .returned v ∧ Go.Bas.Own .u8 5 N w' v 32 f ∧ Below w.heap.size w w' := by
  refine (rBytes32_any f hf w).mono ?_
  rintro e w' ⟨v, rfl, h, hb⟩
  exact ⟨v, rfl, Go.Bas.Own.mono h (by omega), hb⟩
set_option maxRecDepth 100000 in
set_option maxHeartbeats 6400000 in
theorem rdSign_any (S : Int) (t : Value) (n : Nat) (f : Nat → Int) (w : World) (ht : Rd .u8 w t n f) (hn : n ≤ 900000) (hf : ∀ i, i < n → 0 ≤ f i ∧ f i < 256) :
    Calls Tryz.prog 14 #[.agg (arr .u8 32 (dg 256 S)), t] w fun e w' => ∃ v, e = .returned v ∧ Rd .u8 w' v 64 (sdB S f n) ∧ Below w.heap.size w w' := by
  have HH := Lib.hid (fun w => rdHalves_any S w)
  have HPU := Lib.hid (fun w => rdPublic_any S w)
  have HN1 : Hid (∀ w v, Rd .u8 w v (32 + n) (catF 32 (sdP S) f) → Calls Tryz.prog 34 #[v] w fun e w' => e = .returned (.agg (arr .u8 32 (dg 256 ((sigR (sdP S) f n : Nat) : Int)))) ∧ Below w.heap.size w w') := fun w v h => rdNumber_any v (32 + n) _ w h (by omega) (catF_bound (fun i _ => sdP_b S i) hf)
  have HN2 : Hid (∀ w v, Rd .u8 w v (32 + 32 + n) (catF 32 (dg 256 (sigF (sdP S) f n)) (catF 32 (dg 256 (sdU S)) f)) → Calls Tryz.prog 34 #[v] w fun e w' => e = .returned (.agg (arr .u8 32 (dg 256 ((sigK (sdP S) (dg 256 (sdU S)) f n : Nat) : Int)))) ∧ Below w.heap.size w w') := fun w v h => by
    have h2 := rdNumber_any v (32 + 32 + n) _ w h (by omega) (by rw [Nat.add_assoc]; exact catF_bound (fun i _ => dg_bound (by decide) _ _) (catF_bound (fun i _ => dg_bound (by decide) _ _) hf))
    rw [Nat.add_assoc] at h2
    exact h2
  have hlR : sigR (sdP S) f n < ordN := numN_lt _ _
  have hlK : sigK (sdP S) (dg 256 (sdU S)) f n < ordN := numN_lt _ _
  have hlA := sdA_lt S
  have ho : ordN < 2 ^ 256 := by decide
  have HML : Hid (∀ w, Calls Tryz.prog 37 #[.agg (arr .u8 32 (dg 256 ((sigK (sdP S) (dg 256 (sdU S)) f n : Nat) : Int))), .agg (arr .u8 32 (dg 256 ((sdA S : Nat) : Int)))] w fun e w' => e = .returned (.agg (arr .u8 32 (dg 256 ((sigK (sdP S) (dg 256 (sdU S)) f n * sdA S % ordN : Nat) : Int)))) ∧ Below w.heap.size w w') := fun w => by
    have h := qMul_any ((sigK (sdP S) (dg 256 (sdU S)) f n : Nat) : Int) ((sdA S : Nat) : Int) w ⟨by omega, by omega⟩ ⟨by omega, by omega⟩
    rw [Q_ordN] at h
    rwa [Int.natCast_emod, Int.natCast_mul]
  have hlM : sigK (sdP S) (dg 256 (sdU S)) f n * sdA S % ordN < ordN := Nat.mod_lt _ (by decide)
  have HAD : Hid (∀ w, Calls Tryz.prog 36 #[.agg (arr .u8 32 (dg 256 ((sigR (sdP S) f n : Nat) : Int))), .agg (arr .u8 32 (dg 256 ((sigK (sdP S) (dg 256 (sdU S)) f n * sdA S % ordN : Nat) : Int)))] w fun e w' => e = .returned (.agg (arr .u8 32 (dg 256 ((sigS (sdA S) (sdP S) (dg 256 (sdU S)) f n : Nat) : Int)))) ∧ Below w.heap.size w w') := fun w => by
    have h := qAdd_any ((sigR (sdP S) f n : Nat) : Int) ((sigK (sdP S) (dg 256 (sdU S)) f n * sdA S % ordN : Nat) : Int) w ⟨by omega, by omega⟩ ⟨by omega, by omega⟩
    rw [Q_ordN] at h
    have e : ((sigS (sdA S) (sdP S) (dg 256 (sdU S)) f n : Nat) : Int) = (((sigR (sdP S) f n : Nat) : Int) + ((sigK (sdP S) (dg 256 (sdU S)) f n * sdA S % ordN : Nat) : Int)) % (ordN : Int) := by
      unfold sigS
      rw [Int.natCast_emod, Int.natCast_add, Int.add_comm]
    rw [e]
    exact h
  have HRL : Hid (sigR (sdP S) f n < 2 ^ 256) := Nat.lt_trans hlR ho
  have HSF : Hid (sigF (sdP S) f n = bytesN (Bp.mul (sigR (sdP S) f n))) := rfl
  have HSB : Hid (sdB S f n = catF 32 (dg 256 (sigF (sdP S) f n)) (dg 256 ((sigS (sdA S) (sdP S) (dg 256 (sdU S)) f n : Nat) : Int))) := rfl
  obtain ⟨SG, hSG⟩ : ∃ x, x = sigS (sdA S) (sdP S) (dg 256 (sdU S)) f n := ⟨_, rfl⟩
  rw [← hSG] at HAD HSB
  obtain ⟨M, hM⟩ : ∃ x, x = sigK (sdP S) (dg 256 (sdU S)) f n * sdA S % ordN := ⟨_, rfl⟩
  rw [← hM] at HML HAD
  obtain ⟨K, hK⟩ : ∃ x, x = sigK (sdP S) (dg 256 (sdU S)) f n := ⟨_, rfl⟩
  rw [← hK] at HN2 HML
  obtain ⟨FI, hFI⟩ : ∃ x, x = sigF (sdP S) f n := ⟨_, rfl⟩
  rw [← hFI] at HN2 HSF HSB
  obtain ⟨R, hR⟩ : ∃ x, x = sigR (sdP S) f n := ⟨_, rfl⟩
  rw [← hR] at HN1 HAD HRL HSF
  obtain ⟨U, hU⟩ : ∃ x, x = sdU S := ⟨_, rfl⟩
  rw [← hU] at HPU HN2
  obtain ⟨PF, hPF⟩ : ∃ x, x = sdP S := ⟨_, rfl⟩
  rw [← hPF] at HH HN1
  obtain ⟨A, hA⟩ : ∃ x, x = sdA S := ⟨_, rfl⟩
  rw [← hA] at HH HML
  obtain ⟨SB, hB0⟩ : ∃ x, x = sdB S f n := ⟨_, rfl⟩
  rw [← hB0] at HSB ⊢
  have HT0 := Lib.hid ht
  have HNN := Lib.hid hn
  obtain ⟨ta, tn, tc, et⟩ := ht.isSlice
  subst et
  have hvn : tn = n := by obtain ⟨_, _, h, _⟩ := ht; cases h; rfl
  subst hvn
  clear hSG hM hK hFI hR hU hPF hA hB0 hlR hlK hlA hlM ho hf ht
  go_enter Tryz.func14, Tryz.ntmps14
  go_upto_region 1 with (fail)
  refine wp_world (fun w1 => Arr .u8 w1 w.heap.size 32 (dg 256 S) ∧ Below w.heap.size w w1) ⟨Arr.newAt rfl rfl, (Below.refl _ _).alloc (Nat.le_refl _) _⟩ ?_
  rintro w1 ⟨h2, hbel⟩
  have s1 := hbel.size
  go_wp2_with (refine load_arr rfl 22 _ rfl .u8 w.heap.size 32 (dg 256 S) 5 Tryz.underlying22 Tryz.size22 rfl h2 ?_)
  refine (HH.out _).mono ?_
  rintro e w2 ⟨v6, rfl, hv6, hb⟩
  have h6b : ∀ b, v6.ownBlock = some b → w.heap.size ≤ b ∧ b < w2.heap.size := fun b e => ⟨Nat.le_trans s1 (World.ownsRow.lt hv6 b e).1, (World.ownsRow.lt hv6 b e).2⟩
  have HV6 := Lib.hid hv6
  have s12 := hb.size
  replace h2 := h2.kept hb
  replace hbel := hbel.trans (hb.mono hbel.size)
  have hl2 := h2.lt
  clear hb hv6
  go_upto_region 2 with (refine store_arr rfl 22 _ _ rfl .u8 w2.heap.size 32 (fun _ => 0) (dg 256 (A : Int)) Tryz.size22 rfl rfl (Arr.newAt rfl (by rfl)) ?_)
  refine wp_world (fun w3 => Arr .u8 w3 w2.heap.size 32 (dg 256 (A : Int)) ∧ Below w2.heap.size w2 w3) ⟨(Arr.newAt rfl (by rfl) : Arr .u8 _ _ 32 (fun _ => 0)).setRow _ _, below_setRow' ((Below.refl _ _).alloc (Nat.le_refl _) _) (Nat.le_refl _) _⟩ ?_
  rintro w3 ⟨h5, hb⟩
  replace h2 := h2.kept hb
  replace hbel := hbel.trans (hb.mono hbel.size)
  replace HV6 := Lib.hid (HV6.out.below hb)
  obtain ⟨x5, e5⟩ : ∃ x, x = w2.heap.size := ⟨_, rfl⟩
  rw [← e5] at h5 hl2 h6b s12 ⊢
  clear e5 hb
  try simp only [Act.put, List.setIfInBounds_toArray, List.set_cons_succ, List.set_cons_zero]
  have hl5 := h5.lt
  go_wp2_with (refine load_arr rfl 22 _ rfl .u8 w.heap.size 32 (dg 256 S) 5 Tryz.underlying22 Tryz.size22 rfl h2 ?_)
  refine (HPU.out _).mono ?_
  rintro e w4 ⟨rfl, hb⟩
  replace h5 := h5.kept hb
  replace hbel := hbel.trans (hb.mono hbel.size)
  replace HV6 := Lib.hid (HV6.out.below hb)
  have hl5 := h5.lt
  clear hb h2
  go_upto_region 3 with (refine store_arr rfl 22 _ _ rfl .u8 w4.heap.size 32 (fun _ => 0) (dg 256 U) Tryz.size22 rfl rfl (Arr.newAt rfl (by rfl)) ?_)
  refine wp_world (fun w5 => Arr .u8 w5 w4.heap.size 32 (dg 256 U) ∧ Below w4.heap.size w4 w5) ⟨(Arr.newAt rfl (by rfl) : Arr .u8 _ _ 32 (fun _ => 0)).setRow _ _, below_setRow' ((Below.refl _ _).alloc (Nat.le_refl _) _) (Nat.le_refl _) _⟩ ?_
  rintro w5 ⟨h7, hb⟩
  replace h5 := h5.kept hb
  replace hbel := hbel.trans (hb.mono hbel.size)
  replace HV6 := Lib.hid (HV6.out.below hb)
  obtain ⟨x7, e7⟩ : ∃ x, x = w4.heap.size := ⟨_, rfl⟩
  rw [← e7] at h7 hl5 ⊢
  clear e7 hb
  try simp only [Act.put, List.setIfInBounds_toArray, List.set_cons_succ, List.set_cons_zero]
  have hl7 := h7.lt
  have hne5 : some x5 ≠ v6.ownBlock := fun e => by have := (h6b _ e.symm).2; omega
  have hne7 : some x7 ≠ v6.ownBlock := fun e => by have := (h6b _ e.symm).2; omega
  have hnn := HNN.out
  have q5 := hbel.size
  have HO6 : Hid (Go.Bas.Own .u8 5 w1.heap.size w5 v6 32 (catF 32 PF f)) := HV6.out.congr (fun i hi => (catF_lo hi).symm)
  have s6 : w1.heap.size ≤ w5.heap.size := by omega
  go_wp2_with (at_builtin; refine append_rd rfl _ _ 23 rfl w1.heap.size 5 .u8 1 Tryz.underlying23 Tryz.info5 v6 32 (catF 32 PF f) HO6.out rfl (.slice ta tn tc) tn f (HT0.out.below hbel) rfl (fun i _ => catF_hi i) (by omega) (by omega) s6 ?_; intro v21 w6 ho hg)
  replace h5 := h5.grown hg hne5
  replace h7 := h7.grown hg hne7
  replace hbel := below_grown hbel hg HO6.out q5 s1
  have HO21 := Lib.hid ho.rd
  clear hg ho HO6 HV6 hne5 hne7 h6b q5 s6
  go_wp2_with fail
  refine (HN1.out _ _ HO21.out).mono ?_
  rintro e w7 ⟨rfl, hb⟩
  replace h5 := h5.kept hb
  replace h7 := h7.kept hb
  replace hbel := hbel.trans (hb.mono hbel.size)
  have hl7 := h7.lt
  clear hb HO21
  go_upto_region 4 with (refine store_arr rfl 22 _ _ rfl .u8 w7.heap.size 32 (fun _ => 0) (dg 256 (R : Int)) Tryz.size22 rfl rfl (Arr.newAt rfl (by rfl)) ?_)
  refine wp_world (fun w8 => Arr .u8 w8 w7.heap.size 32 (dg 256 (R : Int)) ∧ Below w7.heap.size w7 w8) ⟨(Arr.newAt rfl (by rfl) : Arr .u8 _ _ 32 (fun _ => 0)).setRow _ _, below_setRow' ((Below.refl _ _).alloc (Nat.le_refl _) _) (Nat.le_refl _) _⟩ ?_
  rintro w8 ⟨h8, hb⟩
  replace h5 := h5.kept hb
  replace h7 := h7.kept hb
  replace hbel := hbel.trans (hb.mono hbel.size)
  obtain ⟨x8, e8⟩ : ∃ x, x = w7.heap.size := ⟨_, rfl⟩
  rw [← e8] at h8 hl7 ⊢
  clear e8 hb
  try simp only [Act.put, List.setIfInBounds_toArray, List.set_cons_succ, List.set_cons_zero]
  have hl8 := h8.lt
  refine region_vars (n := 49) (by kernel_rfl) (by kernel_rfl) (by kernel_rfl) rfl
    (isAl [(5, 4)]) (putOf [(5, 4)]) (fun _ => arr .u8 32 (fun _ => 0)) (fun _ => (arr .u8 32 (dg 256 (bytesN (Bp.mul R))))) (fun _ => 22) (fun _ => 9)
    (fun ii vv ww => (match ii with | 1 => vv = .agg (arr .u8 32 (dg 256 (R : Int))) | 3 => vv = .agg (arr .u8 32 (dg 256 (bytesN (Bp.mul R)))) | _ => True) ∧ (ii = 0 → SPt ww vv (Bp)) ∧ (ii = 2 → SPt ww vv (Bp.mul R))) Keep6 (fun _ _ h => Keep6.of h) (fun w b cs p _ _ hz => Keep6.row hz) (fun i v w w' h hE => ⟨h.1, fun e => SPt.keep6 (h.2.1 e) hE, fun e => SPt.keep6 (h.2.2 e) hE⟩)
    (vs_al rfl) (vs_inj rfl) ?_ ?_ ?_ ?_
  · refine Each.all ?_
    refine ⟨?_, ?_, ?_, ?_, (fun h => by cases h), (fun _ h => by cases h), trivial⟩
    · intro _ _ a w2 hB hF hd
      rw [if_pos (wanted_none rfl)]
      refine flow_call _ _ _ rfl Tryz.call33 _ args0 (by simp) ((rBaseS w2).mono ?_)
      rintro e w3 ⟨u, rfl, hr, hb⟩; exact ⟨u, rfl, ⟨trivial, fun _ => hr, fun h => absurd h (by decide)⟩, hb⟩
    · intro _ _ a w2 hB hF hd
      rw [if_pos (wanted_none rfl)]
      exact flow_val (fun h => by cases h) (run_load_str rfl Tryz.underlying22 rfl Tryz.size22 (hF.same 8 rfl) (h8.below hB h8.lt)) ⟨rfl, fun h => absurd h (by decide), fun h => absurd h (by decide)⟩
    · intro _ _ a w2 hB hF hd
      rw [if_pos (wanted_none rfl)]
      refine flow_call _ _ _ rfl Tryz.call32 _ (args2 rfl ((hd 1 _ rfl rfl rfl (waits_spec rfl)).1)) (by simp) ((rMulS R HRL.out w2 ((hd 0 _ rfl rfl rfl (waits_spec rfl)).2.1 rfl)).mono ?_)
      rintro e w3 ⟨u, rfl, hr, hb⟩; exact ⟨u, rfl, ⟨trivial, fun h => absurd h (by decide), fun _ => hr⟩, hb⟩
    · intro _ _ a w2 hB hF hd
      rw [if_pos (wanted_none rfl)]
      refine flow_call _ _ _ rfl Tryz.call31 _ (args1 rfl) (by simp) ((rBytesS w2 ((hd 2 _ rfl rfl rfl (waits_spec rfl)).2.2 rfl)).mono ?_)
      rintro e w3 ⟨rfl, hb⟩; exact ⟨_, rfl, ⟨rfl, fun h => absurd h (by decide), fun h => absurd h (by decide)⟩, hb⟩
  · refine Each.all ?_
    refine ⟨(fun h => by cases h), (fun h => by cases h), (fun h => by cases h), (fun h => by cases h), ?_, (fun h => by cases h), trivial⟩
    · exact fun _ => ⟨rfl, rfl, fun a w2 K h => flow_alloc rfl rfl Tryz.zeroValue22 (by simp) h⟩
  · refine Each.all ?_
    refine ⟨(fun _ h => by cases h), (fun _ h => by cases h), (fun _ h => by cases h), (fun _ h => by cases h), (fun _ h => by cases h), ?_, trivial⟩
    · intro p hp
      obtain rfl : 4 = p := Option.some.inj hp
      exact ⟨rfl, rfl, ⟨_, rfl⟩, waits_spec rfl, fun a w2 b K hB hF hd hx hb h => flow_put rfl rfl Tryz.size22 hx ((hd 3 _ rfl rfl rfl (waits_spec rfl)).1) hb h⟩
  · intro a w9 blk hB hF hS hv hfin hdis
    obtain ⟨v4, v4l, v4u⟩ := hv 4 _ rfl rfl
    obtain ⟨x23, hx23⟩ : ∃ x, x = a.tmps.getD 23 undef := ⟨_, rfl⟩
    obtain ⟨x25, hx25⟩ : ∃ x, x = a.tmps.getD 25 undef := ⟨_, rfl⟩
    have ha := puts_each rfl rfl hF [x23, _, x25, _, _, undef] rfl ⟨hx23.symm, (hS 1 _ rfl rfl rfl).1, hx25.symm, (hS 3 _ rfl rfl rfl).1, v4, trivial, trivial⟩
    have f4 := hfin 5 _ 4 rfl rfl
    simp only [puts, Act.put, List.setIfInBounds_toArray, List.set_cons_succ, List.set_cons_zero] at ha
    subst ha
    clear hx23 hx25
    have V4 : Arr .u8 w9 (blk 4) 32 (dg 256 (bytesN (Bp.mul R))) := ⟨_, f4⟩
    clear hS hv hfin hdis hF v4 f4
    replace h5 := h5.kept hB
    replace h7 := h7.kept hB
    replace h8 := h8.kept hB
    replace hbel := hbel.trans (hB.mono hbel.size)
    obtain ⟨x9, e9⟩ : ∃ x, x = blk 4 := ⟨_, rfl⟩
    rw [← e9] at V4 ⊢
    rw [← HSF.out] at V4
    have h9 := V4
    clear e9 hB V4 v4l v4u hl8
    go_wp2_with (refine load_arr rfl 22 _ rfl .u8 x9 32 (dg 256 FI) 5 Tryz.underlying22 Tryz.size22 rfl h9 ?_)
    refine (rBytes32_any (dg 256 FI) (fun i _ => dg_bound (by decide) _ _) _).mono ?_
    rintro e wA ⟨v29, rfl, hv, hb⟩
    replace h5 := h5.kept hb
    replace h7 := h7.kept hb
    replace h8 := h8.kept hb
    replace h9 := h9.kept hb
    replace hbel := hbel.trans (hb.mono hbel.size)
    have HV := Lib.hid hv.rd
    obtain ⟨BB, hBB⟩ : ∃ B, B = wA.heap.size := ⟨_, rfl⟩
    have hl5 := h5.lt
    have hl7 := h7.lt
    have hl8 := h8.lt
    have hl9 := h9.lt
    have qB := hbel.size
    rw [← hBB] at hl5 hl7 hl8 hl9 qB
    have hBA : BB ≤ wA.heap.size := by omega
    clear hb hv hBB
    have HN0 : Hid (Go.Bas.Own .u8 5 BB wA (.slice none 0 0) 0 (catF 32 (dg 256 FI) (catF 32 (dg 256 U) f))) := Go.Bas.Own.nil _ _ _ _ _
    go_upto_region 7 with (at_builtin; refine append_rd rfl _ _ 23 rfl BB 5 .u8 1 Tryz.underlying23 Tryz.info5 (.slice none 0 0) 0 (catF 32 (dg 256 FI) (catF 32 (dg 256 U) f)) HN0.out rfl v29 32 (dg 256 FI) HV.out rfl (fun i hi => by rw [Nat.zero_add]; exact catF_lo hi) (by omega) (by omega) hBA ?_; intro v30 wC ho hg)
    replace h5 := h5.grown hg (Go.Bas.Own.far HN0.out (show x5 < BB by omega))
    replace h7 := h7.grown hg (Go.Bas.Own.far HN0.out (show x7 < BB by omega))
    replace h8 := h8.grown hg (Go.Bas.Own.far HN0.out (show x8 < BB by omega))
    replace h9 := h9.grown hg (Go.Bas.Own.far HN0.out (show x9 < BB by omega))
    replace hbel := below_grown hbel hg HN0.out (by omega) (by omega)
    have hBC := Nat.le_trans hBA hg.size
    have HV30 := Lib.hid ho
    clear ho hg HV HN0 hBA
    go_wp2_with (refine load_arr rfl 22 _ rfl .u8 x7 32 (dg 256 U) 5 Tryz.underlying22 Tryz.size22 rfl h7 ?_)
    refine (rBytes32_any (dg 256 U) (fun i _ => dg_bound (by decide) _ _) _).mono ?_
    rintro e wD ⟨v33, rfl, hv, hb⟩
    replace h5 := h5.kept hb
    replace h7 := h7.kept hb
    replace h8 := h8.kept hb
    replace h9 := h9.kept hb
    replace hbel := hbel.trans (hb.mono hbel.size)
    have HV := Lib.hid hv.rd
    replace HV30 : Hid (Go.Bas.Own .u8 5 BB wD v30 32 (catF 32 (dg 256 FI) (catF 32 (dg 256 U) f))) := HV30.out.below hb
    have hBA := Nat.le_trans hBC hb.size
    clear hb hv hBC
    go_upto_region 8 with (at_builtin; refine append_rd rfl _ _ 23 rfl BB 5 .u8 1 Tryz.underlying23 Tryz.info5 v30 32 (catF 32 (dg 256 FI) (catF 32 (dg 256 U) f)) HV30.out rfl v33 32 (dg 256 U) HV.out rfl (fun i hi => by rw [catF_hi]; exact catF_lo hi) (by omega) (by omega) hBA ?_; intro v34 wE ho hg)
    replace h5 := h5.grown hg (Go.Bas.Own.far HV30.out (show x5 < BB by omega))
    replace h7 := h7.grown hg (Go.Bas.Own.far HV30.out (show x7 < BB by omega))
    replace h8 := h8.grown hg (Go.Bas.Own.far HV30.out (show x8 < BB by omega))
    replace h9 := h9.grown hg (Go.Bas.Own.far HV30.out (show x9 < BB by omega))
    replace hbel := below_grown hbel hg HV30.out (by omega) (by omega)
    have hBC := Nat.le_trans hBA hg.size
    have HV34 := Lib.hid ho
    clear ho hg HV HV30 hBA
    go_upto_region 9 with (at_builtin; refine append_rd rfl _ _ 23 rfl BB 5 .u8 1 Tryz.underlying23 Tryz.info5 v34 (32 + 32) (catF 32 (dg 256 FI) (catF 32 (dg 256 U) f)) HV34.out rfl (.slice ta tn tc) tn f (HT0.out.below hbel) rfl (fun i _ => by rw [Nat.add_assoc, catF_hi, catF_hi]) (by omega) (by omega) hBC ?_; intro v37 wF ho hg)
    replace h5 := h5.grown hg (Go.Bas.Own.far HV34.out (show x5 < BB by omega))
    replace h7 := h7.grown hg (Go.Bas.Own.far HV34.out (show x7 < BB by omega))
    replace h8 := h8.grown hg (Go.Bas.Own.far HV34.out (show x8 < BB by omega))
    replace h9 := h9.grown hg (Go.Bas.Own.far HV34.out (show x9 < BB by omega))
    replace hbel := below_grown hbel hg HV34.out (by omega) (by omega)
    have hBD := Nat.le_trans hBC hg.size
    have HV37 := Lib.hid ho.rd
    clear ho hg HV34 hBC
    refine region_vars (n := 49) (by kernel_rfl) (by kernel_rfl) (by kernel_rfl) rfl
      (isAl [(7, 6)]) (putOf [(7, 6)]) (fun _ => arr .u8 32 (fun _ => 0)) (fun _ => (arr .u8 32 (dg 256 (SG : Int)))) (fun _ => 22) (fun _ => 11)
      (fun ii vv _ => (match ii with | 0 => vv = .agg (arr .u8 32 (dg 256 (R : Int))) | 1 => vv = v37 | 2 => vv = .agg (arr .u8 32 (dg 256 (K : Int))) | 3 => vv = .agg (arr .u8 32 (dg 256 (A : Int))) | 4 => vv = .agg (arr .u8 32 (dg 256 (M : Int))) | 5 => vv = .agg (arr .u8 32 (dg 256 (SG : Int))) | _ => True)) (fun _ _ => True) (fun _ _ _ => trivial) (fun _ _ _ _ _ _ _ => trivial) (fun _ _ _ _ h _ => h)
      (vs_al rfl) (vs_inj rfl) ?_ ?_ ?_ ?_
    · refine Each.all ?_
      refine ⟨?_, ?_, ?_, ?_, ?_, ?_, (fun h => by cases h), (fun _ h => by cases h), trivial⟩
      · intro _ _ a w2 hB hF hd
        rw [if_pos (wanted_none rfl)]
        exact flow_val (fun h => by cases h) (run_load_str rfl Tryz.underlying22 rfl Tryz.size22 (hF.same 8 rfl) (h8.below hB h8.lt)) rfl
      · intro _ _ a w2 hB hF hd
        rw [if_pos (wanted_none rfl)]
        exact flow_move _ (.inl rfl) (by simp) (hF.same 10 rfl)
      · intro _ _ a w2 hB hF hd
        rw [if_pos (wanted_none rfl)]
        refine flow_call _ _ _ rfl Tryz.call34 _ (args1 (hd 1 _ rfl rfl rfl (waits_spec rfl))) (by simp) ((HN2.out w2 _ (HV37.out.below hB)).mono ?_)
        rintro e w3 ⟨rfl, hb⟩; exact ⟨_, rfl, rfl, hb⟩
      · intro _ _ a w2 hB hF hd
        rw [if_pos (wanted_none rfl)]
        exact flow_val (fun h => by cases h) (run_load_str rfl Tryz.underlying22 rfl Tryz.size22 (hF.same 5 rfl) (h5.below hB h5.lt)) rfl
      · intro _ _ a w2 hB hF hd
        rw [if_pos (wanted_none rfl)]
        refine flow_call _ _ _ rfl Tryz.call37 _ (args2 (hd 2 _ rfl rfl rfl (waits_spec rfl)) (hd 3 _ rfl rfl rfl (waits_spec rfl))) (by simp) ((HML.out w2).mono ?_)
        rintro e w3 ⟨rfl, hb⟩; exact ⟨_, rfl, rfl, hb⟩
      · intro _ _ a w2 hB hF hd
        rw [if_pos (wanted_none rfl)]
        refine flow_call _ _ _ rfl Tryz.call36 _ (args2 (hd 0 _ rfl rfl rfl (waits_spec rfl)) (hd 4 _ rfl rfl rfl (waits_spec rfl))) (by simp) ((HAD.out w2).mono ?_)
        rintro e w3 ⟨rfl, hb⟩; exact ⟨_, rfl, rfl, hb⟩
    · refine Each.all ?_
      refine ⟨(fun h => by cases h), (fun h => by cases h), (fun h => by cases h), (fun h => by cases h), (fun h => by cases h), (fun h => by cases h), ?_, (fun h => by cases h), trivial⟩
      · exact fun _ => ⟨rfl, rfl, fun a w2 K h => flow_alloc rfl rfl Tryz.zeroValue22 (by simp) h⟩
    · refine Each.all ?_
      refine ⟨(fun _ h => by cases h), (fun _ h => by cases h), (fun _ h => by cases h), (fun _ h => by cases h), (fun _ h => by cases h), (fun _ h => by cases h), (fun _ h => by cases h), ?_, trivial⟩
      · intro p hp
        obtain rfl : 6 = p := Option.some.inj hp
        exact ⟨rfl, rfl, ⟨_, rfl⟩, waits_spec rfl, fun a w2 b K hB hF hd hx hb h => flow_put rfl rfl Tryz.size22 hx (hd 5 _ rfl rfl rfl (waits_spec rfl)) hb h⟩
    · intro a wG blk hB hF hS hv hfin hdis
      obtain ⟨v6, v6l, v6u⟩ := hv 6 _ rfl rfl
      have ha := puts_each rfl rfl hF [_, _, _, _, _, _, _, undef] rfl ⟨hS 0 _ rfl rfl rfl, hS 1 _ rfl rfl rfl, hS 2 _ rfl rfl rfl, hS 3 _ rfl rfl rfl, hS 4 _ rfl rfl rfl, hS 5 _ rfl rfl rfl, v6, trivial, trivial⟩
      have f6 := hfin 7 _ 6 rfl rfl
      simp only [puts, Act.put, List.setIfInBounds_toArray, List.set_cons_succ, List.set_cons_zero] at ha
      subst ha
      have V6 : Arr .u8 wG (blk 6) 32 (dg 256 (SG : Int)) := ⟨_, f6⟩
      clear hS hv hfin hdis hF v6 f6
      replace h9 := h9.kept hB
      replace hbel := hbel.trans (hB.mono hbel.size)
      obtain ⟨x11, e11⟩ : ∃ x, x = blk 6 := ⟨_, rfl⟩
      rw [← e11] at V6 ⊢
      have h11 := V6
      clear e11 hB V6 v6l v6u h5 h7 h8 hl5 hl7 hl8 hl9 qB hBD HV37
      go_upto_region 10 with (fail)
      refine region_tail (n := 49) 4 (by decide) (by kernel_rfl) (by kernel_rfl) (by kernel_rfl) (by kernel_rfl) rfl
        (fun ii vv ww => (match ii with | 0 => vv = .agg (arr .u8 32 (dg 256 FI)) | 2 => vv = .agg (arr .u8 32 (dg 256 (SG : Int))) | _ => True) ∧ (ii = 1 → Go.Bas.Own .u8 5 wG.heap.size ww vv 32 (dg 256 FI)) ∧ (ii = 3 → Go.Bas.Own .u8 5 wG.heap.size ww vv 32 (dg 256 (SG : Int))))
        (fun i v w w' h hE => ⟨h.1, fun e => Go.Bas.Own.below (h.2.1 e) hE, fun e => Go.Bas.Own.below (h.2.2 e) hE⟩) ?_ ?_
      · refine Each.all ?_
        refine ⟨?_, ?_, ?_, ?_, (fun h => absurd h (by decide)), (fun h => absurd h (by decide)), trivial⟩
        · intro _ a w2 hB hF hd
          rw [if_pos (wanted_none rfl)]
          exact flow_val (fun h => by cases h) (run_load_str rfl Tryz.underlying22 rfl Tryz.size22 (hF.same 9 rfl) (h9.below hB h9.lt)) ⟨rfl, fun h => absurd h (by decide), fun h => absurd h (by decide)⟩
        · intro _ a w2 hB hF hd
          rw [if_pos (wanted_none rfl)]
          refine flow_call _ _ _ rfl Tryz.call35 _ (args1 ((hd 0 _ rfl (waits_spec rfl)).1)) (by simp) ((rBytes32_at (dg 256 FI) (fun i _ => dg_bound (by decide) _ _) wG.heap.size w2 hB.size).mono ?_)
          rintro e w3 ⟨u, rfl, hr, hb⟩; exact ⟨u, rfl, ⟨trivial, fun _ => hr, fun h => absurd h (by decide)⟩, hb⟩
        · intro _ a w2 hB hF hd
          rw [if_pos (wanted_none rfl)]
          exact flow_val (fun h => by cases h) (run_load_str rfl Tryz.underlying22 rfl Tryz.size22 (hF.same 11 rfl) (h11.below hB h11.lt)) ⟨rfl, fun h => absurd h (by decide), fun h => absurd h (by decide)⟩
        · intro _ a w2 hB hF hd
          rw [if_pos (wanted_none rfl)]
          refine flow_call _ _ _ rfl Tryz.call35 _ (args1 ((hd 2 _ rfl (waits_spec rfl)).1)) (by simp) ((rBytes32_at (dg 256 (SG : Int)) (fun i _ => dg_bound (by decide) _ _) wG.heap.size w2 hB.size).mono ?_)
          rintro e w3 ⟨u, rfl, hr, hb⟩; exact ⟨u, rfl, ⟨trivial, fun h => absurd h (by decide), fun _ => hr⟩, hb⟩
      · intro a wH hB hF hS
        obtain ⟨x45, hx45⟩ : ∃ x, x = a.tmps.getD 45 undef := ⟨_, rfl⟩
        have P45 : Go.Bas.Own .u8 5 wG.heap.size wH x45 32 (dg 256 FI) := by rw [hx45]; exact (hS 1 _ rfl (by decide)).2.1 rfl
        obtain ⟨x47, hx47⟩ : ∃ x, x = a.tmps.getD 47 undef := ⟨_, rfl⟩
        have P47 : Go.Bas.Own .u8 5 wG.heap.size wH x47 32 (dg 256 (SG : Int)) := by rw [hx47]; exact (hS 3 _ rfl (by decide)).2.2 rfl
        have ha := puts_each rfl rfl hF [_, x45, _, x47] rfl ⟨(hS 0 _ rfl (by decide)).1, hx45.symm, (hS 2 _ rfl (by decide)).1, hx47.symm, trivial⟩
        simp only [puts, List.take_succ_cons, List.take_zero, Act.put, List.setIfInBounds_toArray, List.set_cons_succ, List.set_cons_zero] at ha
        subst ha
        change tl _ _ _ (_ :: _ :: []) _ _
        clear hx45 hx47
        clear hS hF
        have qW := hbel.size
        replace hbel := hbel.trans (hB.mono hbel.size)
        have qG := hB.size
        have HO : Hid (Go.Bas.Own .u8 5 wG.heap.size wH x45 32 SB) := P45.congr (fun i hi => by rw [HSB.out]; exact (catF_lo hi).symm)
        refine tl_step rfl (wp_append_rd _ _ 23 rfl wG.heap.size 5 .u8 1 Tryz.underlying23 Tryz.info5 x45 32 SB HO.out rfl x47 32 (dg 256 (SG : Int)) P47.rd rfl (fun i _ => by rw [HSB.out]; exact catF_hi i) (by decide) (by decide) qG ?_)
        intro v48 wI ho hg
        have hb9 := below_grown hbel hg HO.out (by have := hbel.size; omega) (by have := hbel.size; omega)
        have HR := Lib.hid ho.rd
        clear ho hg P45 P47 HO hB
        refine tl_move rfl _ (.inr rfl) (tl_nil ?_)
        simp only [Act.put, Act.eval, List.setIfInBounds_toArray, List.set_cons_succ, List.set_cons_zero]
        go_wp2
        go_ret
        exact ⟨_, rfl, HR.out, hb9⟩
end Go.Proofs.YtdhejcaapdhhfaaGreat

namespace Go.Proofs.YtdhejcaapdhhfaaGreat
open Go.RowKit Go.Bas Go.ChangeShapes
attribute [local go_sem ↓] Go.wp_at_zero Go.wp_at_succ
set_option maxRecDepth 100000 in
set_option maxHeartbeats 6400000 in
theorem signSigns_num (S : Int) (v : Value) (n : Nat) (f : Nat → Int) (w : World) (hv : Rd .u8 w v n f) (hf : ∀ i, i < n → 0 ≤ f i ∧ f i < 256) :
    Calls Tryz.prog 3 #[.agg (arr .u8 32 (dg 256 S)), v] w fun e w' => e = .returned (.bool true) ∧ Below w.heap.size w w' := by
  have HT0 := Lib.hid hv
  have HF := Lib.hid hf
  have HAW := Lib.hid (fun w => sgAwake_any w)
  obtain ⟨ta, tn, tc, ev⟩ := hv.isSlice
  subst ev
  have hvn : tn = n := by obtain ⟨_, _, h, _⟩ := hv; cases h; rfl
  subst hvn
  clear hv hf
  go_enter Tryz.func3, Tryz.ntmps3
  go_upto_region 1 with (fail)
  refine wp_world (fun w1 => Arr .u8 w1 w.heap.size 32 (dg 256 S) ∧ Below w.heap.size w w1) ⟨Arr.newAt rfl rfl, (Below.refl _ _).alloc (Nat.le_refl _) _⟩ ?_
  rintro w1 ⟨h2, hbel⟩
  go_wp2_with fail
  refine (HAW.out _).mono ?_
  rintro e w2 ⟨rfl, hb⟩
  replace h2 := h2.kept hb
  replace hbel := hbel.trans (hb.mono hbel.size)
  clear hb HAW
  by_cases h300 : 300 < tn
  case pos =>
    have hgt : (300 : Int) < (tn : Int) := by omega
    clear h300
    go_wp2
    go_ret
    exact ⟨rfl, hbel⟩
  case neg =>
    have hgt : ¬ (300 : Int) < (tn : Int) := by omega
    have HSN : Hid (∀ w, Rd .u8 w (.slice ta tn tc) tn f → Calls Tryz.prog 10 #[.agg (arr .u8 32 (dg 256 S)), .slice ta tn tc] w fun e w' => e = .returned (.agg (arr .u8 64 (sdB S f tn))) ∧ Below w.heap.size w w') := fun w h => sgSign_any S _ tn f w h (by omega) HF.out
    have HSM : Hid (∀ w v, SgPt w v (dg 256 ((sdA S : Nat) : Int)) (sdP S) (dg 256 (sdU S)) → Rd .u8 w (.slice ta tn tc) tn f → Calls Tryz.prog 8 #[v, .slice ta tn tc] w fun e w' => e = .returned (.tuple #[.agg (arr .u8 64 (sdB S f tn)), .int .i64 0]) ∧ Below w.heap.size w w') := fun w v h ht => sgSignM_any _ tn f w h ht (sdA_lt S) (by omega) (fun i _ => sdP_b S i) (fun i _ => dg_bound (by decide) _ _) HF.out
    have HRS : Hid (∀ w, Rd .u8 w (.slice ta tn tc) tn f → Calls Tryz.prog 14 #[.agg (arr .u8 32 (dg 256 S)), .slice ta tn tc] w fun e w' => ∃ v, e = .returned v ∧ Rd .u8 w' v 64 (sdB S f tn) ∧ Below w.heap.size w w') := fun w h => rdSign_any S _ tn f w h (by omega) HF.out
    have HKY := Lib.hid (fun w => sgKey_any S w)
    have HPM := Lib.hid (fun w v h => sgPublicM_any (v := v) (A := dg 256 ((sdA S : Nat) : Int)) (P := sdP S) (U := dg 256 (sdU S)) w h)
    have HPU := Lib.hid (fun w => sgPublic_any S w)
    have HRP := Lib.hid (fun w => rdPublic_any S w)
    have HNP := Lib.hid (fun w => sgPublic_nil w)
    have HNS := Lib.hid (fun w => sgSign_nil ta tn tc w)
    obtain ⟨SB, hSB⟩ : ∃ x, x = sdB S f tn := ⟨_, rfl⟩
    rw [← hSB] at HSN HSM HRS
    obtain ⟨U, hU⟩ : ∃ x, x = sdU S := ⟨_, rfl⟩
    rw [← hU] at HSM HKY HPM HPU HRP
    clear hSB hU h300 HF
    go_wp2_with fail
    refine (HNP.out _).mono ?_
    rintro e w3 ⟨rfl, hb⟩
    replace h2 := h2.kept hb
    replace hbel := hbel.trans (hb.mono hbel.size)
    clear hb
    go_upto_region 7 with (refine store_arr rfl 22 _ _ rfl .u8 w3.heap.size 32 (fun _ => 0) (fun _ => 0) Tryz.size22 rfl rfl (Arr.newAt rfl (by rfl)) ?_)
    refine wp_world (fun w4 => Arr .u8 w4 w3.heap.size 32 (fun _ => 0) ∧ Below w3.heap.size w3 w4) ⟨(Arr.newAt rfl (by rfl) : Arr .u8 _ _ 32 (fun _ => 0)).setRow _ _, below_setRow' ((Below.refl _ _).alloc (Nat.le_refl _) _) (Nat.le_refl _) _⟩ ?_
    rintro w4 ⟨h6, hb⟩
    replace h2 := h2.kept hb
    replace hbel := hbel.trans (hb.mono hbel.size)
    obtain ⟨x6, e6⟩ : ∃ x, x = w3.heap.size := ⟨_, rfl⟩
    rw [← e6] at h6 ⊢
    clear e6 hb
    try simp only [Act.put, List.setIfInBounds_toArray, List.set_cons_succ, List.set_cons_zero]
    clear h6
    go_wp2_with fail
    refine (HNS.out _).mono ?_
    rintro e w5 ⟨rfl, hb⟩
    replace h2 := h2.kept hb
    replace hbel := hbel.trans (hb.mono hbel.size)
    clear hb
    go_upto_region 10 with (refine store_arr rfl 29 _ _ rfl .u8 w5.heap.size 64 (fun _ => 0) (fun _ => 0) Tryz.size29 rfl rfl (Arr.newAt rfl (by rfl)) ?_)
    refine wp_world (fun w6 => Arr .u8 w6 w5.heap.size 64 (fun _ => 0) ∧ Below w5.heap.size w5 w6) ⟨(Arr.newAt rfl (by rfl) : Arr .u8 _ _ 64 (fun _ => 0)).setRow _ _, below_setRow' ((Below.refl _ _).alloc (Nat.le_refl _) _) (Nat.le_refl _) _⟩ ?_
    rintro w6 ⟨h8, hb⟩
    replace h2 := h2.kept hb
    replace hbel := hbel.trans (hb.mono hbel.size)
    obtain ⟨x8, e8⟩ : ∃ x, x = w5.heap.size := ⟨_, rfl⟩
    rw [← e8] at h8 ⊢
    clear e8 hb
    try simp only [Act.put, List.setIfInBounds_toArray, List.set_cons_succ, List.set_cons_zero]
    clear h8 HNP HNS
    go_wp2_with (refine load_arr rfl 22 _ rfl .u8 w.heap.size 32 (dg 256 S) 5 Tryz.underlying22 Tryz.size22 rfl h2 ?_)
    refine (HKY.out _).mono ?_
    rintro e w7 ⟨k, rfl, hk, hb⟩
    replace h2 := h2.kept hb
    replace hbel := hbel.trans (hb.mono hbel.size)
    have HK := Lib.hid hk
    clear hb hk HKY
    go_wp2_with fail
    refine (HPM.out _ _ HK.out).mono ?_
    rintro e w8 ⟨rfl, hb⟩
    replace h2 := h2.kept hb
    replace HK := Lib.hid (HK.out.below hb)
    replace hbel := hbel.trans (hb.mono hbel.size)
    clear hb HPM
    go_upto_region 14 with (refine store_arr rfl 22 _ _ rfl .u8 w8.heap.size 32 (fun _ => 0) (dg 256 U) Tryz.size22 rfl rfl (Arr.newAt rfl (by rfl)) ?_)
    refine wp_world (fun w9 => Arr .u8 w9 w8.heap.size 32 (dg 256 U) ∧ Below w8.heap.size w8 w9) ⟨(Arr.newAt rfl (by rfl) : Arr .u8 _ _ 32 (fun _ => 0)).setRow _ _, below_setRow' ((Below.refl _ _).alloc (Nat.le_refl _) _) (Nat.le_refl _) _⟩ ?_
    rintro w9 ⟨h11, hb⟩
    replace h2 := h2.kept hb
    replace HK := Lib.hid (HK.out.below hb)
    replace hbel := hbel.trans (hb.mono hbel.size)
    obtain ⟨x11, e11⟩ : ∃ x, x = w8.heap.size := ⟨_, rfl⟩
    rw [← e11] at h11 ⊢
    clear e11 hb
    try simp only [Act.put, List.setIfInBounds_toArray, List.set_cons_succ, List.set_cons_zero]
    go_wp2_with fail
    refine (HSM.out _ _ HK.out (HT0.out.below hbel)).mono ?_
    rintro e w10 ⟨rfl, hb⟩
    replace h2 := h2.kept hb
    replace h11 := h11.kept hb
    replace hbel := hbel.trans (hb.mono hbel.size)
    clear hb HSM HK
    go_upto_region 15 with (refine store_arr rfl 29 _ _ rfl .u8 w10.heap.size 64 (fun _ => 0) SB Tryz.size29 rfl rfl (Arr.newAt rfl (by rfl)) ?_)
    refine wp_world (fun w11 => Arr .u8 w11 w10.heap.size 64 SB ∧ Below w10.heap.size w10 w11) ⟨(Arr.newAt rfl (by rfl) : Arr .u8 _ _ 64 (fun _ => 0)).setRow _ _, below_setRow' ((Below.refl _ _).alloc (Nat.le_refl _) _) (Nat.le_refl _) _⟩ ?_
    rintro w11 ⟨h13, hb⟩
    replace h2 := h2.kept hb
    replace h11 := h11.kept hb
    replace hbel := hbel.trans (hb.mono hbel.size)
    obtain ⟨x13, e13⟩ : ∃ x, x = w10.heap.size := ⟨_, rfl⟩
    rw [← e13] at h13 ⊢
    clear e13 hb
    try simp only [Act.put, List.setIfInBounds_toArray, List.set_cons_succ, List.set_cons_zero]
    go_wp2_with (refine load_arr rfl 22 _ rfl .u8 w.heap.size 32 (dg 256 S) 5 Tryz.underlying22 Tryz.size22 rfl h2 ?_)
    refine (HSN.out _ (HT0.out.below hbel)).mono ?_
    rintro e w12 ⟨rfl, hb⟩
    replace h2 := h2.kept hb
    replace h11 := h11.kept hb
    replace h13 := h13.kept hb
    replace hbel := hbel.trans (hb.mono hbel.size)
    clear hb HSN
    go_upto_region 16 with (refine store_arr rfl 29 _ _ rfl .u8 w12.heap.size 64 (fun _ => 0) SB Tryz.size29 rfl rfl (Arr.newAt rfl (by rfl)) ?_)
    refine wp_world (fun w13 => Arr .u8 w13 w12.heap.size 64 SB ∧ Below w12.heap.size w12 w13) ⟨(Arr.newAt rfl (by rfl) : Arr .u8 _ _ 64 (fun _ => 0)).setRow _ _, below_setRow' ((Below.refl _ _).alloc (Nat.le_refl _) _) (Nat.le_refl _) _⟩ ?_
    rintro w13 ⟨h15, hb⟩
    replace h2 := h2.kept hb
    replace h11 := h11.kept hb
    replace h13 := h13.kept hb
    replace hbel := hbel.trans (hb.mono hbel.size)
    obtain ⟨x15, e15⟩ : ∃ x, x = w12.heap.size := ⟨_, rfl⟩
    rw [← e15] at h15 ⊢
    clear e15 hb
    try simp only [Act.put, List.setIfInBounds_toArray, List.set_cons_succ, List.set_cons_zero]
    refine region_flow (n := 82) (by kernel_rfl) (by kernel_rfl) (by kernel_rfl) rfl
      (fun ii vv ww => (match ii with | 0 | 3 => vv = .int .i64 (0) | 1 | 2 | 4 | 5 | 6 | 10 | 11 | 12 | 16 | 17 | 18 | 21 | 22 | 23 | 28 | 29 | 30 => vv = .bool true | 7 | 9 | 13 | 15 => vv = .agg (arr .u8 32 (dg 256 U)) | 8 | 14 | 25 => vv = .agg (arr .u8 32 (dg 256 S)) | 19 | 20 => vv = .agg (arr .u8 64 (SB)) | 24 => vv = .slice (some ⟨x13, 0, none⟩) 64 64 | 26 => vv = .slice ta tn tc | _ => True) ∧ (ii = 27 → Rd .u8 ww vv 64 (SB)))
      (fun w w' => Below w.heap.size w w') (fun _ _ h => h) (fun i v w w' h hE => ⟨h.1, fun e => Rd.below (h.2 e) hE⟩) ?_ ?_
    · refine Each.all ?_
      refine ⟨?_, ?_, ?_, ?_, ?_, ?_, ?_, ?_, ?_, ?_, ?_, ?_, ?_, ?_, ?_, ?_, ?_, ?_, ?_, ?_, ?_, ?_, ?_, ?_, ?_, ?_, ?_, ?_, ?_, ?_, ?_, trivial⟩
      · intro a w2 hB hF hd
        rw [if_pos (wanted_none rfl)]
        exact flow_move _ (.inl rfl) (by simp) ⟨(hF.same 12 rfl), fun h => absurd h (by decide)⟩
      · intro a w2 hB hF hd
        rw [if_pos (wanted_none rfl)]
        refine flow_val (fun h => by cases h) (Go.Bas.run_eql_int rfl ((hd 0 _ rfl (waits_spec rfl)).1) rfl) ?_
        exact ⟨rfl, fun h => absurd h (by decide)⟩
      · intro a w2 hB hF hd
        rw [if_pos (wanted_none rfl)]
        exact flow_move _ (.inl rfl) (by simp) ⟨((hd 1 _ rfl (waits_spec rfl)).1), fun h => absurd h (by decide)⟩
      · intro a w2 hB hF hd
        refine flow_wanted (wanted_yes rfl rfl ((hd 2 _ rfl (waits_spec rfl)).1) rfl) ?_
        exact flow_move _ (.inl rfl) (by simp) ⟨(hF.same 14 rfl), fun h => absurd h (by decide)⟩
      · intro a w2 hB hF hd
        refine flow_wanted (wanted_yes rfl rfl ((hd 2 _ rfl (waits_spec rfl)).1) rfl) ?_
        refine flow_val (fun h => by cases h) (Go.Bas.run_eql_int rfl ((hd 3 _ rfl (waits_spec rfl)).1) rfl) ?_
        exact ⟨rfl, fun h => absurd h (by decide)⟩
      · intro a w2 hB hF hd
        rw [if_pos (wanted_none rfl)]
        exact flow_val (fun h => by cases h) (run_pick rfl ((hd 2 _ rfl (waits_spec rfl)).1)) ⟨(((hd 4 _ rfl (waits_spec rfl)).1)), fun h => absurd h (by decide)⟩
      · intro a w2 hB hF hd
        rw [if_pos (wanted_none rfl)]
        exact flow_move _ (.inl rfl) (by simp) ⟨((hd 5 _ rfl (waits_spec rfl)).1), fun h => absurd h (by decide)⟩
      · intro a w2 hB hF hd
        refine flow_wanted (wanted_yes rfl rfl ((hd 6 _ rfl (waits_spec rfl)).1) rfl) ?_
        exact flow_val (fun h => by cases h) (run_load_str rfl Tryz.underlying22 rfl Tryz.size22 (hF.same 11 rfl) (h11.below hB h11.lt)) ⟨rfl, fun h => absurd h (by decide)⟩
      · intro a w2 hB hF hd
        refine flow_wanted (wanted_yes rfl rfl ((hd 6 _ rfl (waits_spec rfl)).1) rfl) ?_
        exact flow_val (fun h => by cases h) (run_load_str rfl Tryz.underlying22 rfl Tryz.size22 (hF.same 2 rfl) (h2.below hB h2.lt)) ⟨rfl, fun h => absurd h (by decide)⟩
      · intro a w2 hB hF hd
        refine flow_wanted (wanted_yes rfl rfl ((hd 6 _ rfl (waits_spec rfl)).1) rfl) ?_
        refine flow_call _ _ _ rfl Tryz.call11 _ (args1 ((hd 8 _ rfl (waits_spec rfl)).1)) (by simp) ((HPU.out w2).mono ?_)
        rintro e w3 ⟨rfl, hb⟩; exact ⟨_, rfl, ⟨rfl, fun h => absurd h (by decide)⟩, hb⟩
      · intro a w2 hB hF hd
        refine flow_wanted (wanted_yes rfl rfl ((hd 6 _ rfl (waits_spec rfl)).1) rfl) ?_
        exact flow_val (fun h => by cases h) (run_eql_arr true rfl ((hd 7 _ rfl (waits_spec rfl)).1) ((hd 9 _ rfl (waits_spec rfl)).1) Tryz.underlying22 (by kernel_rfl) (by kernel_rfl) (by kernel_rfl) (by kernel_rfl) (by kernel_rfl) sameB_self) ⟨rfl, fun h => absurd h (by decide)⟩
      · intro a w2 hB hF hd
        rw [if_pos (wanted_none rfl)]
        exact flow_val (fun h => by cases h) (run_pick rfl ((hd 6 _ rfl (waits_spec rfl)).1)) ⟨(((hd 10 _ rfl (waits_spec rfl)).1)), fun h => absurd h (by decide)⟩
      · intro a w2 hB hF hd
        rw [if_pos (wanted_none rfl)]
        exact flow_move _ (.inl rfl) (by simp) ⟨((hd 11 _ rfl (waits_spec rfl)).1), fun h => absurd h (by decide)⟩
      · intro a w2 hB hF hd
        refine flow_wanted (wanted_yes rfl rfl ((hd 12 _ rfl (waits_spec rfl)).1) rfl) ?_
        exact flow_val (fun h => by cases h) (run_load_str rfl Tryz.underlying22 rfl Tryz.size22 (hF.same 11 rfl) (h11.below hB h11.lt)) ⟨rfl, fun h => absurd h (by decide)⟩
      · intro a w2 hB hF hd
        refine flow_wanted (wanted_yes rfl rfl ((hd 12 _ rfl (waits_spec rfl)).1) rfl) ?_
        exact flow_val (fun h => by cases h) (run_load_str rfl Tryz.underlying22 rfl Tryz.size22 (hF.same 2 rfl) (h2.below hB h2.lt)) ⟨rfl, fun h => absurd h (by decide)⟩
      · intro a w2 hB hF hd
        refine flow_wanted (wanted_yes rfl rfl ((hd 12 _ rfl (waits_spec rfl)).1) rfl) ?_
        refine flow_call _ _ _ rfl Tryz.call12 _ (args1 ((hd 14 _ rfl (waits_spec rfl)).1)) (by simp) ((HRP.out w2).mono ?_)
        rintro e w3 ⟨rfl, hb⟩; exact ⟨_, rfl, ⟨rfl, fun h => absurd h (by decide)⟩, hb⟩
      · intro a w2 hB hF hd
        refine flow_wanted (wanted_yes rfl rfl ((hd 12 _ rfl (waits_spec rfl)).1) rfl) ?_
        exact flow_val (fun h => by cases h) (run_eql_arr true rfl ((hd 13 _ rfl (waits_spec rfl)).1) ((hd 15 _ rfl (waits_spec rfl)).1) Tryz.underlying22 (by kernel_rfl) (by kernel_rfl) (by kernel_rfl) (by kernel_rfl) (by kernel_rfl) sameB_self) ⟨rfl, fun h => absurd h (by decide)⟩
      · intro a w2 hB hF hd
        rw [if_pos (wanted_none rfl)]
        exact flow_val (fun h => by cases h) (run_pick rfl ((hd 12 _ rfl (waits_spec rfl)).1)) ⟨(((hd 16 _ rfl (waits_spec rfl)).1)), fun h => absurd h (by decide)⟩
      · intro a w2 hB hF hd
        rw [if_pos (wanted_none rfl)]
        exact flow_move _ (.inl rfl) (by simp) ⟨((hd 17 _ rfl (waits_spec rfl)).1), fun h => absurd h (by decide)⟩
      · intro a w2 hB hF hd
        refine flow_wanted (wanted_yes rfl rfl ((hd 18 _ rfl (waits_spec rfl)).1) rfl) ?_
        exact flow_val (fun h => by cases h) (run_load_str rfl Tryz.underlying29 rfl Tryz.size29 (hF.same 13 rfl) (h13.below hB h13.lt)) ⟨rfl, fun h => absurd h (by decide)⟩
      · intro a w2 hB hF hd
        refine flow_wanted (wanted_yes rfl rfl ((hd 18 _ rfl (waits_spec rfl)).1) rfl) ?_
        exact flow_val (fun h => by cases h) (run_load_str rfl Tryz.underlying29 rfl Tryz.size29 (hF.same 15 rfl) (h15.below hB h15.lt)) ⟨rfl, fun h => absurd h (by decide)⟩
      · intro a w2 hB hF hd
        refine flow_wanted (wanted_yes rfl rfl ((hd 18 _ rfl (waits_spec rfl)).1) rfl) ?_
        exact flow_val (fun h => by cases h) (run_eql_arr true rfl ((hd 19 _ rfl (waits_spec rfl)).1) ((hd 20 _ rfl (waits_spec rfl)).1) Tryz.underlying29 (by kernel_rfl) (by kernel_rfl) (by kernel_rfl) (by kernel_rfl) (by kernel_rfl) sameB_self) ⟨rfl, fun h => absurd h (by decide)⟩
      · intro a w2 hB hF hd
        rw [if_pos (wanted_none rfl)]
        exact flow_val (fun h => by cases h) (run_pick rfl ((hd 18 _ rfl (waits_spec rfl)).1)) ⟨(((hd 21 _ rfl (waits_spec rfl)).1)), fun h => absurd h (by decide)⟩
      · intro a w2 hB hF hd
        rw [if_pos (wanted_none rfl)]
        exact flow_move _ (.inl rfl) (by simp) ⟨((hd 22 _ rfl (waits_spec rfl)).1), fun h => absurd h (by decide)⟩
      · intro a w2 hB hF hd
        refine flow_wanted (wanted_yes rfl rfl ((hd 23 _ rfl (waits_spec rfl)).1) rfl) ?_
        exact flow_val (fun h => by cases h) (run_slice_arr rfl (hF.same 13 rfl) Tryz.underlying29 (by kernel_rfl)) ⟨rfl, fun h => absurd h (by decide)⟩
      · intro a w2 hB hF hd
        refine flow_wanted (wanted_yes rfl rfl ((hd 23 _ rfl (waits_spec rfl)).1) rfl) ?_
        exact flow_val (fun h => by cases h) (run_load_str rfl Tryz.underlying22 rfl Tryz.size22 (hF.same 2 rfl) (h2.below hB h2.lt)) ⟨rfl, fun h => absurd h (by decide)⟩
      · intro a w2 hB hF hd
        refine flow_wanted (wanted_yes rfl rfl ((hd 23 _ rfl (waits_spec rfl)).1) rfl) ?_
        exact flow_move _ (.inl rfl) (by simp) ⟨(hF.same 1 rfl), fun h => absurd h (by decide)⟩
      · intro a w2 hB hF hd
        refine flow_wanted (wanted_yes rfl rfl ((hd 23 _ rfl (waits_spec rfl)).1) rfl) ?_
        refine flow_call _ _ _ rfl Tryz.call14 _ (args2 ((hd 25 _ rfl (waits_spec rfl)).1) ((hd 26 _ rfl (waits_spec rfl)).1)) (by simp) ((HRS.out w2 ((HT0.out.below hbel).below hB)).mono ?_)
        rintro e w3 ⟨u, rfl, hr, hb⟩; exact ⟨u, rfl, ⟨trivial, fun _ => hr⟩, hb⟩
      · intro a w2 hB hF hd
        refine flow_wanted (wanted_yes rfl rfl ((hd 23 _ rfl (waits_spec rfl)).1) rfl) ?_
        refine flow_call _ _ _ rfl Tryz.call13 _ (args2 ((hd 24 _ rfl (waits_spec rfl)).1) rfl) (by simp) ((same_yes _ _ 64 _ _ _ ((h13.kept hB).rd (by decide)) ((hd 27 _ rfl (waits_spec rfl)).2 rfl) (fun _ _ => rfl)).mono ?_)
        rintro e w3 ⟨rfl, hb⟩; exact ⟨_, rfl, ⟨rfl, fun h => absurd h (by decide)⟩, hb⟩
      · intro a w2 hB hF hd
        rw [if_pos (wanted_none rfl)]
        exact flow_val (fun h => by cases h) (run_pick rfl ((hd 23 _ rfl (waits_spec rfl)).1)) ⟨(((hd 28 _ rfl (waits_spec rfl)).1)), fun h => absurd h (by decide)⟩
      · intro a w2 hB hF hd
        rw [if_pos (wanted_none rfl)]
        exact flow_move _ (.inr rfl) (by simp) ⟨((hd 29 _ rfl (waits_spec rfl)).1), fun h => absurd h (by decide)⟩
    · intro a w14 hB hF hS
      obtain ⟨x79, hx79⟩ : ∃ x, x = a.tmps.getD 79 undef := ⟨_, rfl⟩
      have ha := puts_each rfl rfl hF [_, _, _, _, _, _, _, _, _, _, _, _, _, _, _, _, _, _, _, _, _, _, _, _, _, _, _, x79, _, _, _] rfl ⟨(hS 0 _ rfl).1, (hS 1 _ rfl).1, (hS 2 _ rfl).1, (hS 3 _ rfl).1, (hS 4 _ rfl).1, (hS 5 _ rfl).1, (hS 6 _ rfl).1, (hS 7 _ rfl).1, (hS 8 _ rfl).1, (hS 9 _ rfl).1, (hS 10 _ rfl).1, (hS 11 _ rfl).1, (hS 12 _ rfl).1, (hS 13 _ rfl).1, (hS 14 _ rfl).1, (hS 15 _ rfl).1, (hS 16 _ rfl).1, (hS 17 _ rfl).1, (hS 18 _ rfl).1, (hS 19 _ rfl).1, (hS 20 _ rfl).1, (hS 21 _ rfl).1, (hS 22 _ rfl).1, (hS 23 _ rfl).1, (hS 24 _ rfl).1, (hS 25 _ rfl).1, (hS 26 _ rfl).1, hx79.symm, (hS 28 _ rfl).1, (hS 29 _ rfl).1, (hS 30 _ rfl).1, trivial⟩
      simp only [puts, Act.put, List.setIfInBounds_toArray, List.set_cons_succ, List.set_cons_zero] at ha
      subst ha
      clear hx79
      clear hS hF
      have hb14 := hbel.trans (hB.mono hbel.size)
      go_wp2
      go_ret
      exact ⟨rfl, hb14⟩

theorem signSigns_law (w : World) (fs : Nat → Int) (hs : ∀ i, i < 32 → (Lit.int .u8 (fs i)).wf = true) (v : Value) (n : Nat) (f : Nat → Int) (hv : Rd .u8 w v n f) (hf : ∀ i, i < n → (Lit.int .u8 (f i)).wf = true) :
    Calls Tryz.prog 3 #[.agg (arr .u8 32 fs), v] w fun e w' => e = .returned (.bool true) ∧ Below w.heap.size w w' := by
  obtain ⟨S, eS, s0, s1⟩ := num32 fs hs
  rw [eS]
  exact signSigns_num S v n f w hv (fun i hi => by have := bounds_u8 (hf i hi); omega)
end Go.Proofs.YtdhejcaapdhhfaaGreat
