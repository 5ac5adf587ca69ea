/-
  Part 13 of the texts that the proof of SignSigns rests on, one after the other. Conditions: named in each theorem.
-/
import Derived.Test.YtdhejcaapdhhfaaGreatPkSignSigns12
import Derived.Test.YtdhejcaapdhhfaaGreatPkSignSigns11
import Derived.Test.YtdhejcaapdhhfaaGreatPkSignSigns1
import Derived.Test.YtdhejcaapdhhfaaGreatPkSignSigns8
import Derived.Test.YtdhejcaapdhhfaaGreatPkSignSigns9
import Derived.BigQuiet
import Derived.ChangeKeysEq
import Derived.Deep.DrawnRows
import Derived.Deep.QuietTactic
import Derived.Deep.RegionHeld3
import Derived.Deep.WholeRow
import Derived.Laws.BitsAllLaws
import Derived.Laws.CopyOwn
import Derived.Laws.StructEq
import Derived.Lib.Hide
import Derived.Orders
import Derived.Test.YtdhejcaapdhhfaaGreatArr
import Derived.Test.YtdhejcaapdhhfaaGreatFlow
import Derived.Test.YtdhejcaapdhhfaaGreatKit
import Derived.Test.YtdhejcaapdhhfaaGreatRows
import Derived.WalkKit
import Derived.WalkLawsBesides
import Derived.WalkSmall
import Derived.WalkSpells
set_option linter.unusedVariables false
set_option linter.unusedSimpArgs false
namespace Go.Proofs.YtdhejcaapdhhfaaGreat
open Go.RowKit Go.Bas
attribute [local go_sem ↓] Go.wp_at_zero Go.wp_at_succ

theorem once_half (X : Int) (m : Nat) : once (2 * (X / 2 ^ (m + 1) % Q) + X / 2 ^ m % 2) = X / 2 ^ m % Q := by
  have h := half X m
  generalize X / 2 ^ (m + 1) = Y at h
  generalize X / 2 ^ m = Z at h
  unfold once Q
  split <;> omega
theorem once_bound (Y b : Int) (hb : 0 ≤ b ∧ b ≤ 1) : 0 ≤ 2 * (Y % Q) + b ∧ 2 * (Y % Q) + b < 65536 ^ 17 := by
  have h1 := Int.emod_nonneg Y (by decide : Q ≠ 0)
  have h2 := Int.emod_lt_of_pos Y (by decide : 0 < Q)
  have h3 : (2 : Int) * Q < 65536 ^ 17 := by decide
  omega
set_option maxRecDepth 100000 in
set_option maxHeartbeats 800000 in
theorem taken_any (v : Value) (n : Nat) (f : Nat → Int) (w : World) (hv : Rd .u8 w v n f) (hf : ∀ i, i < n → 0 ≤ f i ∧ f i < 256) (hn : n ≤ 1000) :
    Calls Tryz.prog 108 #[v] w fun e w' =>
      e = .returned (.agg (arr .u32 17 (dg 65536 (sm 256 f n % Q)))) ∧ Below w.heap.size w w' := by
  obtain ⟨a1, c1, rfl, l1, m1, z1, h1⟩ := hv
  have HF := Lib.hid hf
  have H1 := Lib.hid h1
  have hw8 : IntKind.i64.wrap (8 * (n : Int)) = 8 * n := wrap_i64_id (by omega) (by omega)
  have hw9 : IntKind.i64.wrap (8 * (n : Int) - 1) = 8 * n - 1 := wrap_i64_id (by omega) (by omega)
  have hs := sm_bound (B := 256) (by decide) HF.out
  obtain ⟨X, hX⟩ : ∃ X, X = sm 256 f n := ⟨_, rfl⟩
  have hX0 : Hid (∀ i, i < n → dg 256 X i = f i) := by unfold Hid; rw [hX]; exact dg_sm (by decide) HF.out
  have hXb : Hid (X / 2 ^ (8 * n) = 0) := by
    unfold Hid
    rw [hX, Int.pow_mul]
    exact Int.ediv_eq_zero_of_lt hs.1 hs.2
  have hX1 : Hid (X = X / 2 ^ 0) := by unfold Hid; simp
  rw [← hX]
  have HX := Lib.hid hX
  clear h1 z1 hf hs hX
  go_enter Tryz.func108, Tryz.ntmps108
  go_wp2
  go_loopw [4] (fun i wr => ∃ k : Nat, k ≤ 8 * n ∧ i = .int .i64 ((k : Int) - 1) ∧ Arr .u32 wr w.heap.size 17 (fun _ => 0) ∧ Arr .u32 wr (w.heap.size + 1) 17 (dg 65536 (X / 2 ^ k % Q)) ∧ Below w.heap.size w wr) (fun i _ => (intOf i + 1).toNat)
  case atStart => exact ⟨8 * n, Nat.le_refl _, by go_num, Arr.alloc (Arr.newAt (by first | omega | (simp <;> omega)) (by rfl)) _, by rw [hXb.out]; exact Arr.newAt (by first | omega | (simp <;> omega)) (by rfl), ((Below.refl _ _).alloc (Nat.le_refl _) _).alloc (by simp) _⟩
  case round =>
    obtain ⟨k, hk, rfl, hZ, hA, hbel⟩ := hrel
    obtain _ | m := k
    · go_wp2_with (first
        | (refine load_arr rfl 129 _ rfl .u32 (w.heap.size + 1) 17 _ 120 Tryz.underlying129 Tryz.size129 rfl hA ?_)
        | (refine store_arr rfl 129 _ _ rfl .u32 w.heap.size 17 (fun _ => 0) _ Tryz.size129 rfl rfl hZ ?_))
      refine bodyPost_ret (results_arr rfl _ _ .u32 w.heap.size 17 _ 120 rfl (hZ.setRow _ _) Tryz.underlying129 Tryz.size129) rfl ⟨?_, below_setRow' hbel (Nat.le_refl _) _⟩
      rw [← hX1.out]
    · have hm8 : m / 8 < n := by omega
      obtain ⟨b, off, rfl, s1, hcell⟩ := H1.out (by omega)
      have hm9 : m % 8 < 8 := Nat.mod_lt _ (by decide)
      have hfm := HF.out (m / 8) hm8
      have hkm : ((m + 1 : Nat) : Int) - 1 = (m : Int) := by omega
      rw [hkm]
      have hq : IntKind.i64.wrap (Int.tdiv (m : Int) 8) = ((m / 8 : Nat) : Int) := by rw [Int.tdiv_eq_ediv_of_nonneg (by omega), wrap_i64_id] <;> omega
      have hr : Int.tmod (m : Int) 8 = ((m % 8 : Nat) : Int) := by rw [Int.tmod_eq_emod_of_nonneg (by omega)]; omega
      have hc : IntKind.u64.wrap ((m % 8 : Nat) : Int) = ((m % 8 : Nat) : Int) := wrap_u64_id (by omega) (by omega)
      have hsh := byte_shr (x := f (m / 8)) (m % 8) hm9
      have hand : bits .and .u8 (f (m / 8) / 2 ^ (m % 8)) 1 = X / 2 ^ m % 2 := by
        rw [and1_u8x (Int.ediv_nonneg hfm.1 (Int.le_of_lt (pow_pos' (by decide) _))) (Int.lt_of_le_of_lt (Int.ediv_le_self _ hfm.1) hfm.2), bit_of X m, hX0.out _ hm8]
      have hbit : 0 ≤ X / 2 ^ m % 2 ∧ X / 2 ^ m % 2 ≤ 1 := by omega
      have hcv : IntKind.u32.wrap (X / 2 ^ m % 2) = X / 2 ^ m % 2 := wrap_u32_id (by omega) (by omega)
      have hpl : off + ((m / 8 : Nat) : Int).toNat = off + m / 8 := by rw [Int.toNat_natCast]
      have hce := hcell (m / 8) hm8
      have hce2 := (hbel.cell (p := ⟨b, off + m / 8, none⟩) s1).trans hce
      have hbw := Nat.lt_of_lt_of_le s1 hbel.size
      have hcond : (0 : Int) ≤ (m : Int) := by omega
      have HX0 := Lib.hid hq
      go_wp2_with fail
      refine region_last' (n := 28) 14 rfl (by decide) (by kernel_rfl) (by kernel_rfl) (by kernel_rfl) (by kernel_rfl) rfl
        (fun ii vv _ => (match ii with | 0 => vv = .agg (arr .u32 17 (dg 65536 (X / 2 ^ (m + 1) % Q))) | 1 => vv = .slice (some ⟨b, off, none⟩) n c1 | 2 | 6 => vv = .int .i64 ((m : Int)) | 3 => vv = .int .i64 ((m / 8 : Nat)) | 4 => vv = .pointer (some ⟨b, off + m / 8, none⟩) | 5 => vv = .int .u8 (f (m / 8)) | 7 => vv = .int .i64 ((m % 8 : Nat)) | 8 => vv = .int .u64 ((m % 8 : Nat)) | 9 => vv = .int .u8 (f (m / 8) / 2 ^ (m % 8)) | 10 => vv = .int .u8 (X / 2 ^ m % 2) | 11 => vv = .int .u32 (X / 2 ^ m % 2) | 12 => vv = .agg (arr .u32 17 (dg 65536 (2 * (X / 2 ^ (m + 1) % Q) + X / 2 ^ m % 2))) | 13 => vv = .agg (arr .u32 17 (dg 65536 (once (2 * (X / 2 ^ (m + 1) % Q) + X / 2 ^ m % 2)))) | _ => True))
        (fun w w' => Below w.heap.size w w') (fun _ _ h => h) (fun _ _ _ _ h _ => h) rfl ?_ ?_
      · refine Each.all ?_
        refine ⟨?_, ?_, ?_, ?_, ?_, ?_, ?_, ?_, ?_, ?_, ?_, ?_, ?_, ?_, (fun h => absurd rfl h), trivial⟩
        · intro _ a w2 hB hF hd
          rw [if_pos (wanted_none rfl)]
          exact flow_val (fun h => by cases h) (run_load_str rfl Tryz.underlying129 rfl Tryz.size129 (hF.same 3 rfl) (hA.below hB hA.lt)) rfl
        · intro _ a w2 hB hF hd
          rw [if_pos (wanted_none rfl)]
          exact flow_move _ (.inl rfl) (by simp) (hF.same 0 rfl)
        · intro _ a w2 hB hF hd
          rw [if_pos (wanted_none rfl)]
          exact flow_move _ (.inl rfl) (by simp) (hF.same 4 rfl)
        · intro _ a w2 hB hF hd
          rw [if_pos (wanted_none rfl)]
          exact flow_val (fun h => by cases h) (Go.Bas.run_quo rfl (hd 2 _ rfl (waits_spec rfl)) rfl (by decide)) (congrArg (Value.int .i64) (hq))
        · intro _ a w2 hB hF hd
          rw [if_pos (wanted_none rfl)]
          exact flow_val (fun h => by cases h) (run_index_slice rfl (hd 1 _ rfl (waits_spec rfl)) (hd 3 _ rfl (waits_spec rfl)) Tryz.underlying23 (by kernel_rfl) (by omega) (by omega)) (congrArg (fun z => Value.pointer (some ⟨b, z, none⟩)) hpl)
        · intro _ a w2 hB hF hd
          rw [if_pos (wanted_none rfl)]
          exact flow_val (fun h => by cases h) (run_load_cell rfl (hd 4 _ rfl (waits_spec rfl)) Tryz.underlying5 ((hB.cell (p := ⟨b, off + m / 8, none⟩) hbw).trans hce2)) rfl
        · intro _ a w2 hB hF hd
          rw [if_pos (wanted_none rfl)]
          exact flow_move _ (.inl rfl) (by simp) (hF.same 4 rfl)
        · intro _ a w2 hB hF hd
          rw [if_pos (wanted_none rfl)]
          exact flow_val (fun h => by cases h) (Go.Bas.run_rem rfl (hd 6 _ rfl (waits_spec rfl)) rfl (by decide)) (congrArg (Value.int .i64) (hr))
        · intro _ a w2 hB hF hd
          rw [if_pos (wanted_none rfl)]
          exact flow_val (fun h => by cases h) (run_conv rfl (hd 7 _ rfl (waits_spec rfl)) Tryz.underlying3 Tryz.underlying92) (congrArg (Value.int .u64) (hc))
        · intro _ a w2 hB hF hd
          rw [if_pos (wanted_none rfl)]
          exact flow_val (fun h => by cases h) (Go.Bas.run_shr rfl (hd 5 _ rfl (waits_spec rfl)) (hd 8 _ rfl (waits_spec rfl)) (by omega)) (congrArg (Value.int .u8) (hsh))
        · intro _ a w2 hB hF hd
          rw [if_pos (wanted_none rfl)]
          exact flow_val (fun h => by cases h) (Go.Bas.run_and rfl (hd 9 _ rfl (waits_spec rfl)) rfl) (congrArg (Value.int .u8) (hand))
        · intro _ a w2 hB hF hd
          rw [if_pos (wanted_none rfl)]
          exact flow_val (fun h => by cases h) (run_conv rfl (hd 10 _ rfl (waits_spec rfl)) Tryz.underlying5 Tryz.underlying120) (congrArg (Value.int .u32) (hcv))
        · intro _ a w2 hB hF hd
          rw [if_pos (wanted_none rfl)]
          refine flow_call _ _ _ rfl Tryz.call144 _ (args2 (hd 0 _ rfl (waits_spec rfl)) (hd 11 _ rfl (waits_spec rfl))) (by simp) ((twice_any _ _ w2 hbit).mono ?_)
          rintro e w3 ⟨rfl, hb⟩; exact ⟨_, rfl, rfl, hb⟩
        · intro _ a w2 hB hF hd
          rw [if_pos (wanted_none rfl)]
          refine flow_call _ _ _ rfl Tryz.call117 _ (args1 (hd 12 _ rfl (waits_spec rfl))) (by simp) ((once_any _ w2 (once_bound _ _ hbit)).mono ?_)
          rintro e w3 ⟨rfl, hb⟩; exact ⟨_, rfl, rfl, hb⟩
      · intro a w2 hB hF hS
        have ha := puts_each rfl rfl hF [_, _, _, _, _, _, _, _, _, _, _, _, _, _, undef] rfl ⟨hS 0 _ rfl (by decide), hS 1 _ rfl (by decide), hS 2 _ rfl (by decide), hS 3 _ rfl (by decide), hS 4 _ rfl (by decide), hS 5 _ rfl (by decide), hS 6 _ rfl (by decide), hS 7 _ rfl (by decide), hS 8 _ rfl (by decide), hS 9 _ rfl (by decide), hS 10 _ rfl (by decide), hS 11 _ rfl (by decide), hS 12 _ rfl (by decide), hS 13 _ rfl (by decide), trivial, trivial⟩
        simp only [puts, Act.put, List.setIfInBounds_toArray, List.set_cons_succ, List.set_cons_zero] at ha
        subst ha
        clear hS hF
        have hA2 := hA.below hB hA.lt
        have hZ2 := hZ.below hB hZ.lt
        have hb2 := hbel.trans (hB.mono hbel.size)
        refine wp_store_arr 129 _ _ rfl .u32 (w.heap.size + 1) 17 _ _ Tryz.size129 rfl rfl hA2 ?_
        have hon := once_half X m
        have HON := Lib.hid hon
        clear hon
        go_wp2
        go_roundw
        case rel => exact ⟨m, by omega, by go_num, (hZ2.setRowOther _ (by omega) _), by rw [← HON.out]; exact hA2.setRow _ _, below_setRow' hb2 (by omega) _⟩
        case measure => simp [intOf] <;> omega
end Go.Proofs.YtdhejcaapdhhfaaGreat

namespace Go.Proofs.YtdhejcaapdhhfaaGreat
open Go.RowKit Go.Bas
attribute [local go_sem ↓] Go.wp_at_zero Go.wp_at_succ

theorem taken_num (v : Value) (A : Int) (n : Nat) (w : World) (hv : Rd .u8 w v n (dg 256 A)) (hn : n ≤ 1000) (hA : 0 ≤ A ∧ A < 256 ^ n) :
    Calls Tryz.prog 108 #[v] w fun e w' =>
      e = .returned (.agg (arr .u32 17 (dg 65536 (A % Q)))) ∧ Below w.heap.size w w' := by
  have h := taken_any v n (dg 256 A) w hv (fun i _ => dg_bound (by decide) A i) hn
  rw [sm_dg (by decide), Int.emod_eq_of_lt hA.1 hA.2] at h
  exact h

set_option maxRecDepth 100000 in
set_option maxHeartbeats 800000 in
theorem Of_ok (v : Value) (n : Nat) (f : Nat → Int) (w : World) (hv : Rd .u8 w v n f) (hf : ∀ i, i < n → 0 ≤ f i ∧ f i < 256) (hn : n ≤ 128) :
    Calls Tryz.prog 51 #[v] w fun e w' =>
      e = .returned (.tuple #[.agg (arr .u8 32 (dg 256 (sm 256 f n % Q))), .int .i64 0]) ∧ Below w.heap.size w w' := by
  have hv2 := hv
  have HV := Lib.hid hv
  obtain ⟨a1, c1, rfl, l1, m1, z1, h1⟩ := hv
  have HF := Lib.hid hf
  clear h1 z1 hf hv2
  go_enter Tryz.func51, Tryz.ntmps51
  go_wp2_with fail
  have hb1 : Below w.heap.size w (w.alloc (.cells (arr .u8 32 (fun _ => 0)) 22)) := (Below.refl _ _).alloc (Nat.le_refl _) _
  have hZ1 : Arr .u8 (w.alloc (.cells (arr .u8 32 (fun _ => 0)) 22)) w.heap.size 32 (fun _ => 0) := Arr.newAt rfl rfl
  refine (taken_any _ n f _ (HV.out.below hb1) HF.out (by omega)).mono ?_
  rintro e w2 ⟨rfl, hb2⟩
  go_wp2_with fail
  refine (bytes_any _ w2).mono ?_
  rintro e w3 ⟨rfl, hb3⟩
  have hZ3 := (hZ1.kept hb2).kept hb3
  have hbel3 := hb1.trans ((hb2.mono hb1.size).trans (hb3.mono (Nat.le_trans hb1.size hb2.size)))
  clear hb1 hZ1 hb2 hb3
  go_wp2_with (refine store_arr rfl 22 _ _ rfl .u8 w.heap.size 32 (fun _ => 0) _ Tryz.size22 rfl rfl hZ3 ?_)
  refine bodyPost_ret (results_arr2 rfl _ _ .u8 w.heap.size 32 _ 5 rfl (hZ3.setRow _ _) Tryz.underlying22 Tryz.size22) rfl ⟨rfl, below_setRow' hbel3 (Nat.le_refl _) _⟩

set_option maxRecDepth 100000 in
set_option maxHeartbeats 800000 in
theorem Right_any (C : Int) (w : World) (hC : 0 ≤ C ∧ C < 256 ^ 32) :
    Calls Tryz.prog 48 #[.agg (arr .u8 32 (dg 256 C))] w fun e w' =>
      e = .returned (.bool (decide (C < Q))) ∧ Below w.heap.size w w' := by
  have HC := Lib.hid hC
  clear hC
  go_enter Tryz.func48, Tryz.ntmps48
  have hA1 : Arr .u8 (w.alloc (.cells (arr .u8 32 (dg 256 C)) 22)) w.heap.size 32 (dg 256 C) := Arr.newAt rfl rfl
  have hb1 : Below w.heap.size w (w.alloc (.cells (arr .u8 32 (dg 256 C)) 22)) := (Below.refl _ _).alloc (Nat.le_refl _) _
  go_wp2_with (refine load_arr rfl 22 _ rfl .u8 w.heap.size 32 _ 5 Tryz.underlying22 Tryz.size22 rfl hA1 ?_)
  refine (of_any C _ HC.out).mono ?_
  rintro e w2 ⟨rfl, hb2⟩
  go_wp2_with fail
  refine (order_any w2).mono ?_
  rintro e w3 ⟨rfl, hb3⟩
  go_wp2_with fail
  refine (of_any Q w3 (by decide)).mono ?_
  rintro e w4 ⟨rfl, hb4⟩
  go_wp2_with fail
  refine (less_any C Q w4 ⟨HC.out.1, Int.lt_of_lt_of_le HC.out.2 (by decide)⟩ (by decide)).mono ?_
  rintro e w5 ⟨rfl, hb5⟩
  have hbel := hb1.trans ((hb2.mono hb1.size).trans ((hb3.mono (Nat.le_trans hb1.size hb2.size)).trans ((hb4.mono (Nat.le_trans (Nat.le_trans hb1.size hb2.size) hb3.size)).trans (hb5.mono (Nat.le_trans (Nat.le_trans (Nat.le_trans hb1.size hb2.size) hb3.size) hb4.size)))))
  clear hb1 hb2 hb3 hb4 hb5 hA1
  have hs := hbel.size
  go_wp2_with (refine store_arr rfl 129 _ _ rfl .u32 w5.heap.size 17 (fun _ => 0) _ Tryz.size129 rfl rfl (Arr.newAt rfl rfl) ?_)
  go_ret
  refine ⟨?_, below_setRow' (hbel.alloc hs _) hs _⟩
  by_cases h : C < Q
  · rw [decide_eq_false (by omega : ¬ Q ≤ C), decide_eq_true h]; rfl
  · rw [decide_eq_true (by omega : Q ≤ C), decide_eq_false h]; rfl
end Go.Proofs.YtdhejcaapdhhfaaGreat

namespace Go.Proofs.YtdhejcaapdhhfaaGreat
open Go.RowKit Go.Bas
attribute [local go_sem ↓] Go.wp_at_zero Go.wp_at_succ

theorem once_sum (A B : Int) : once (A % Q + B % Q) = (A + B) % Q := by
  unfold once Q
  split <;> omega
theorem modQ (A : Int) : 0 ≤ A % Q ∧ A % Q < Q := ⟨Int.emod_nonneg _ (by decide), Int.emod_lt_of_pos _ (by decide)⟩
theorem modQ_byte (A : Int) : 0 ≤ A % Q ∧ A % Q < 256 ^ 32 := ⟨(modQ A).1, Int.lt_trans (modQ A).2 (by decide)⟩
theorem sum_bound (A B : Int) : 0 ≤ A % Q + B % Q ∧ A % Q + B % Q < 65536 ^ 17 := by
  have h1 := modQ A
  have h2 := modQ B
  have h3 : Q + Q < 65536 ^ 17 := by decide
  omega

set_option maxRecDepth 100000 in
set_option maxHeartbeats 1600000 in
theorem Add_any (A B : Int) (w : World) (hA : 0 ≤ A ∧ A < 256 ^ 32) (hB : 0 ≤ B ∧ B < 256 ^ 32) :
    Calls Tryz.prog 65 #[.agg (arr .u8 32 (dg 256 A)), .agg (arr .u8 32 (dg 256 B))] w fun e w' =>
      e = .returned (.agg (arr .u8 32 (dg 256 ((A + B) % Q)))) ∧ Below w.heap.size w w' := by
  have HA := Lib.hid hA
  have HB := Lib.hid hB
  clear hA hB
  go_enter Tryz.func65, Tryz.ntmps65
  go_wp2
  refine wp_world (fun w1 => Arr .u8 w1 w.heap.size 32 (dg 256 A) ∧ Arr .u8 w1 (w.heap.size + 1) 32 (dg 256 B) ∧ Arr .u8 w1 (w.heap.size + 2) 32 (fun _ => 0) ∧ Below w.heap.size w w1)
    ⟨Arr.alloc (Arr.alloc (Arr.newAt (by first | omega | (simp <;> omega)) (by rfl)) _) _, Arr.alloc (Arr.newAt (by first | omega | (simp <;> omega)) (by rfl)) _, Arr.newAt (by first | omega | (simp <;> omega)) (by rfl), (((Below.refl _ _).alloc (Nat.le_refl _) _).alloc (by simp) _).alloc (by simp; omega) _⟩ ?_
  rintro w1 ⟨hA, hB', hZ, hbel⟩
  refine region_vars (n := 36) (by kernel_rfl) (by kernel_rfl) (by kernel_rfl) rfl
    (isAl [(6, 4), (7, 5)]) (putOf [(6, 4), (7, 5)]) (fun _ => arr .u32 17 (fun _ => 0)) (fun i => match i with | 4 => (arr .u32 17 (dg 65536 (A % Q))) | 5 => (arr .u32 17 (dg 65536 (B % Q))) | _ => #[]) (fun _ => 129) (fun i => match i with | 4 => 5 | 5 => 6 | _ => 0)
    (fun ii vv _ => (match ii with | 0 => vv = .slice (some ⟨w.heap.size, 0, none⟩) 32 32 | 1 => vv = .agg (arr .u32 17 (dg 65536 (A % Q))) | 2 => vv = .slice (some ⟨(w.heap.size + 1), 0, none⟩) 32 32 | 3 => vv = .agg (arr .u32 17 (dg 65536 (B % Q))) | _ => True)) (fun _ _ => True) (fun _ _ _ => trivial) (fun _ _ _ _ _ _ _ => trivial) (fun _ _ _ _ h _ => h)
    (vs_al rfl) (vs_inj rfl) ?_ ?_ ?_ ?_
  · refine Each.all ?_
    refine ⟨?_, ?_, ?_, ?_, (fun h => by cases h), (fun h => by cases h), (fun _ h => by cases h), (fun _ h => by cases h), trivial⟩
    · intro _ _ a w2 hB hF hd
      rw [if_pos (wanted_none rfl)]
      exact flow_val (fun h => by cases h) (run_slice_arr rfl (hF.same 2 rfl) Tryz.underlying22 (by kernel_rfl)) rfl
    · intro _ _ a w2 hB hF hd
      rw [if_pos (wanted_none rfl)]
      refine flow_call _ _ _ rfl Tryz.call108 _ (args1 (hd 0 _ rfl rfl rfl (waits_spec rfl))) (by simp) ((taken_num _ A 32 w2 ((hA.below hB hA.lt).rd (by decide)) (by decide) HA.out).mono ?_)
      rintro e w3 ⟨rfl, hb⟩; exact ⟨_, rfl, rfl, hb⟩
    · intro _ _ a w2 hB hF hd
      rw [if_pos (wanted_none rfl)]
      exact flow_val (fun h => by cases h) (run_slice_arr rfl (hF.same 3 rfl) Tryz.underlying22 (by kernel_rfl)) rfl
    · intro _ _ a w2 hB hF hd
      rw [if_pos (wanted_none rfl)]
      refine flow_call _ _ _ rfl Tryz.call108 _ (args1 (hd 2 _ rfl rfl rfl (waits_spec rfl))) (by simp) ((taken_num _ B 32 w2 ((hB'.below hB hB'.lt).rd (by decide)) (by decide) HB.out).mono ?_)
      rintro e w3 ⟨rfl, hb⟩; exact ⟨_, rfl, rfl, hb⟩
  · refine Each.all ?_
    refine ⟨(fun h => by cases h), (fun h => by cases h), (fun h => by cases h), (fun h => by cases h), ?_, ?_, (fun h => by cases h), (fun h => by cases h), trivial⟩
    · exact fun _ => ⟨rfl, rfl, fun a w2 K h => flow_alloc rfl rfl Tryz.zeroValue129 (by simp) h⟩
    · exact fun _ => ⟨rfl, rfl, fun a w2 K h => flow_alloc rfl rfl Tryz.zeroValue129 (by simp) h⟩
  · refine Each.all ?_
    refine ⟨(fun _ h => by cases h), (fun _ h => by cases h), (fun _ h => by cases h), (fun _ h => by cases h), (fun _ h => by cases h), (fun _ h => by cases h), ?_, ?_, trivial⟩
    · intro p hp
      obtain rfl : 4 = p := Option.some.inj hp
      exact ⟨rfl, rfl, ⟨_, rfl⟩, waits_spec rfl, fun a w2 b K hB hF hd hx hb h => flow_put rfl rfl Tryz.size129 hx (hd 1 _ rfl rfl rfl (waits_spec rfl)) hb h⟩
    · intro p hp
      obtain rfl : 5 = p := Option.some.inj hp
      exact ⟨rfl, rfl, ⟨_, rfl⟩, waits_spec rfl, fun a w2 b K hB hF hd hx hb h => flow_put rfl rfl Tryz.size129 hx (hd 3 _ rfl rfl rfl (waits_spec rfl)) hb h⟩
  · intro a w2 blk hB hF hS hv hfin hdis
    obtain ⟨v4, v4l, v4u⟩ := hv 4 _ rfl rfl
    obtain ⟨v5, v5l, v5u⟩ := hv 5 _ rfl rfl
    have ha := puts_each rfl rfl hF [_, _, _, _, _, _, undef, undef] rfl ⟨hS 0 _ rfl rfl rfl, hS 1 _ rfl rfl rfl, hS 2 _ rfl rfl rfl, hS 3 _ rfl rfl rfl, v4, v5, trivial, trivial, trivial⟩
    have f4 := hfin 6 _ 4 rfl rfl
    have f5 := hfin 7 _ 5 rfl rfl
    have d4_5 := hdis 4 5 _ _ rfl rfl rfl rfl (by decide)
    simp only [puts, Act.put, List.setIfInBounds_toArray, List.set_cons_succ, List.set_cons_zero] at ha
    subst ha
    have V4 : Arr .u32 w2 (blk 4) 17 (dg 65536 (A % Q)) := ⟨_, f4⟩
    have V5 : Arr .u32 w2 (blk 5) 17 (dg 65536 (B % Q)) := ⟨_, f5⟩
    clear hS hv hfin hdis hF v4 v5 f4 f5
    have hA2 := hA.below hB hA.lt
    have hZ2 := hZ.below hB hZ.lt
    have hZlt := hZ.lt
    have hb2 := hbel.trans (hB.mono hbel.size)
    have hs1 := hbel.size
    obtain ⟨x, hx⟩ : ∃ x, x = blk 4 := ⟨_, rfl⟩
    obtain ⟨y, hy⟩ : ∃ y, y = blk 5 := ⟨_, rfl⟩
    rw [← hx] at V4 d4_5 v4l v4u ⊢
    rw [← hy] at V5 d4_5 v5l v5u ⊢
    clear hx hy hA hB' hZ hB hbel hA2
    have hxy : x ≠ y := d4_5
    go_wp2
    go_loopw [7, 14] (fun c i wr => ∃ (k : Nat) (z : Int), k ≤ 17 ∧ z = carS (A % Q) (B % Q) k ∧ 0 ≤ z ∧ z ≤ 1 ∧ c = .int .u32 z ∧ i = .int .i64 k ∧ Arr .u32 wr x 17 (upto k (dg 65536 (A % Q + B % Q)) (dg 65536 (A % Q))) ∧ Arr .u32 wr y 17 (dg 65536 (B % Q)) ∧ Arr .u8 wr (w.heap.size + 2) 32 (fun _ => 0) ∧ Below w.heap.size w wr) (fun _ i _ => 17 - (intOf i).toNat)
    case atStart => exact ⟨0, 0, Nat.zero_le _, (carS_zero _ _).symm, by decide, by decide, rfl, rfl, by rw [upto_zero]; exact V4, V5, hZ2, hb2⟩
    case round =>
      obtain ⟨k, z, hk, hc, hc0, hc1, rfl, rfl, hX, hY, hZ, hbel⟩ := hrel
      have HC := Lib.hid hc
      clear hc
      by_cases hlt : k < 17
      · have e1 := hX.cell k hlt
        rw [upto_at] at e1
        have e2 := hY.cell k hlt
        have f1 := hX.free k
        have HX := Lib.hid hX
        have HY := Lib.hid hY
        have HZ := Lib.hid hZ
        obtain ⟨b0, b1⟩ := dg_bound (by decide : (0 : Int) < 65536) (A % Q) k
        obtain ⟨b2, b3⟩ := dg_bound (by decide : (0 : Int) < 65536) (B % Q) k
        have hand := and16_u32 (x := dg 65536 (A % Q) k + dg 65536 (B % Q) k + z) (by omega) (by omega)
        have hst := carS_step (A % Q) (B % Q) k
        rw [← HC.out] at hst
        obtain ⟨s1, s2⟩ := hst
        have S1 := Lib.hid s1
        have S2 := Lib.hid s2
        have hw1 := wrap_u32_id (x := dg 65536 (A % Q) k + dg 65536 (B % Q) k) (by omega) (by omega)
        have hw2 := wrap_u32_id (x := dg 65536 (A % Q) k + dg 65536 (B % Q) k + z) (by omega) (by omega)
        clear hX hY hZ s1 s2
        go_wp2
        go_quiet (fail)
        go_wp2
        go_roundw
        case rel => exact ⟨k + 1, _, by omega, S2.out, by omega, by omega, rfl, by go_num, by rw [← upto_step S1.out]; exact (HX.out.drewN _).set k _, (HY.out.drewN _).other (by first | omega | (simp <;> omega)) _, (HZ.out.drewN _).other (by first | omega | (simp <;> omega)) _, (below_drewN hbel _).setCell (by first | omega | (simp <;> omega)) _⟩
        case measure => simp [intOf] <;> omega
      · obtain rfl : k = 17 := by omega
        go_wp2_with (refine load_arr rfl 129 _ rfl .u32 x 17 _ 120 Tryz.underlying129 Tryz.size129 rfl hX ?_)
        rw [arr_congr (upto_full _ _ (Nat.le_refl _))]
        refine (once_any _ _ (sum_bound A B)).mono ?_
        rintro e w3 ⟨rfl, hb3⟩
        go_wp2_with fail
        refine (bytes_any _ _).mono ?_
        rintro e w4 ⟨rfl, hb4⟩
        have hZ4 := (hZ.kept hb3).kept hb4
        have hb5 := hbel.trans ((hb3.mono hbel.size).trans (hb4.mono (Nat.le_trans hbel.size hb3.size)))
        clear hb3 hb4 hX hY hZ
        go_wp2_with (refine store_arr rfl 22 _ _ rfl .u8 (w.heap.size + 2) 32 (fun _ => 0) _ Tryz.size22 rfl rfl hZ4 ?_)
        refine bodyPost_ret (results_arr rfl _ _ .u8 (w.heap.size + 2) 32 _ 5 rfl (hZ4.setRow _ _) Tryz.underlying22 Tryz.size22) rfl ⟨by rw [once_sum], below_setRow' hb5 (by omega) _⟩
end Go.Proofs.YtdhejcaapdhhfaaGreat

namespace Go.Proofs.YtdhejcaapdhhfaaGreat
open Go.RowKit Go.Bas
attribute [local go_sem ↓] Go.wp_at_zero Go.wp_at_succ

theorem sm_upd (B : Int) (f : Nat → Int) (p : Nat) (v : Int) : ∀ n, sm B (upd f p v) n = sm B f n + (if p < n then (v - f p) * B ^ p else 0)
  | 0 => by simp [sm]
  | n + 1 => by
    rw [sm, sm, sm_upd B f p v n]
    by_cases e : n = p
    · subst e
      rw [if_neg (by omega), if_pos (by omega), show upd f n v n = v from if_pos rfl, Int.sub_mul]; omega
    · rw [show upd f p v n = f n from if_neg (by omega)]
      by_cases h : p < n
      · rw [if_pos h, if_pos (by omega)]; omega
      · rw [if_neg h, if_neg (by omega)]; omega

/-- the columns of a product, of which rows below i and of row i the columns below j have been added. -/
def Cols (t x y : Nat → Int) (i j : Nat) : Prop :=
  sm 65536 t 34 = sm 65536 x i * sm 65536 y 17 + x i * 65536 ^ i * sm 65536 y j ∧
  ∀ k, 0 ≤ t k ∧ (k < i + j → t k ≤ (i + 1) * 4294836225) ∧ (i + j ≤ k → t k ≤ i * 4294836225)
theorem sm_nil (B : Int) : ∀ n, sm B (fun _ => 0) n = 0
  | 0 => rfl
  | n + 1 => by rw [sm, sm_nil B n]; simp
theorem Cols.zero (x y : Nat → Int) : Cols (fun _ => 0) x y 0 0 := by
  refine ⟨?_, fun k => ⟨by simp, fun h => by simp, fun h => by simp⟩⟩
  rw [sm_nil, show sm 65536 x 0 = 0 from rfl, show sm 65536 y 0 = 0 from rfl]; simp
theorem Cols.row {t x y : Nat → Int} {i : Nat} (h : Cols t x y i 17) : Cols t x y (i + 1) 0 := by
  refine ⟨?_, fun k => ⟨(h.2 k).1, fun hk => ?_, fun hk => ?_⟩⟩
  · rw [h.1, show sm 65536 x (i + 1) = sm 65536 x i + x i * 65536 ^ i from rfl, show sm 65536 y 0 = 0 from rfl, Int.add_mul, Int.mul_zero, Int.add_zero]
  · have h1 := (h.2 k).2.1; have := h1 (by omega); push_cast; omega
  · have h1 := (h.2 k).2.1; have h2 := (h.2 k).2.2
    rcases Nat.lt_or_ge k (i + 17) with h' | h'
    · have := h1 h'; push_cast; omega
    · have := h2 h'; push_cast; omega
theorem mul_le {a b : Int} (h0 : 0 ≤ a) (h1 : a ≤ 65535) (h2 : 0 ≤ b) (h3 : b ≤ 65535) : 0 ≤ a * b ∧ a * b ≤ 4294836225 := by
  refine ⟨Int.mul_nonneg h0 h2, ?_⟩
  have := Int.mul_le_mul h1 h3 h2 (by decide : (0 : Int) ≤ 65535)
  omega
theorem Cols.step {t x y : Nat → Int} {i j : Nat} (h : Cols t x y i j) (hi : i < 17) (hj : j < 17) (hx : 0 ≤ x i ∧ x i < 65536) (hy : 0 ≤ y j ∧ y j < 65536) : Cols (upd t (i + j) (t (i + j) + x i * y j)) x y i (j + 1) := by
  have hm := mul_le hx.1 (by omega) hy.1 (by omega)
  refine ⟨?_, fun k => ?_⟩
  · rw [sm_upd, if_pos (by omega), h.1, show sm 65536 y (j + 1) = sm 65536 y j + y j * 65536 ^ j from rfl, show t (i + j) + x i * y j - t (i + j) = x i * y j by omega, Int.pow_add, Int.mul_add]
    have : x i * y j * (65536 ^ i * 65536 ^ j) = x i * 65536 ^ i * (y j * 65536 ^ j) := by
      rw [Int.mul_assoc, Int.mul_assoc, ← Int.mul_assoc (y j), Int.mul_comm (y j), Int.mul_assoc]
    omega
  · by_cases e : k = i + j
    · subst e
      have h1 := (h.2 (i + j)).1; have h2 := (h.2 (i + j)).2.2 (Nat.le_refl _)
      rw [show upd t (i + j) (t (i + j) + x i * y j) (i + j) = t (i + j) + x i * y j from if_pos rfl]
      exact ⟨by omega, fun _ => by omega, fun hk => by omega⟩
    · rw [show upd t (i + j) (t (i + j) + x i * y j) k = t k from if_neg e]
      exact ⟨(h.2 k).1, fun hk => (h.2 k).2.1 (by omega), fun hk => (h.2 k).2.2 (by omega)⟩

/-- the bytes that have been written, and the carry. -/
def Outs (t o : Nat → Int) (k : Nat) (c : Int) : Prop :=
  sm 256 o (2 * k) + c * 65536 ^ k = sm 65536 t k ∧ (∀ i, i < 2 * k → 0 ≤ o i ∧ o i < 256) ∧ 0 ≤ c ∧ c ≤ 2000000000000
theorem Outs.zero (t o : Nat → Int) : Outs t o 0 0 := ⟨by simp [sm], fun i hi => by omega, by decide, by decide⟩
theorem Outs.step {t o : Nat → Int} {k : Nat} {c : Int} (h : Outs t o k c) (ht : 0 ≤ t k ∧ t k ≤ 77307052050) :
    Outs t (upd (upd o (2 * k) ((t k + c) % 256)) (2 * k + 1) ((t k + c) / 256 % 256)) (k + 1) ((t k + c) / 65536) := by
  obtain ⟨h1, h2, h3, h4⟩ := h
  refine ⟨?_, fun i hi => ?_, by omega, by omega⟩
  · rw [show 2 * (k + 1) = 2 * k + 1 + 1 by omega]
    rw [sm, sm, sm_upd, sm_upd, if_neg (by omega), if_neg (by omega)]
    rw [show upd (upd o (2 * k) ((t k + c) % 256)) (2 * k + 1) ((t k + c) / 256 % 256) (2 * k) = (t k + c) % 256 by unfold upd; rw [if_neg (by omega), if_pos rfl]]
    rw [show upd (upd o (2 * k) ((t k + c) % 256)) (2 * k + 1) ((t k + c) / 256 % 256) (2 * k + 1) = (t k + c) / 256 % 256 by unfold upd; rw [if_pos rfl]]
    rw [sm, ← h1, show (256 : Int) ^ (2 * k) = 65536 ^ k by rw [Int.pow_mul]; rfl, Int.pow_succ, show (256 : Int) ^ (2 * k) = 65536 ^ k by rw [Int.pow_mul]; rfl, Int.pow_succ]
    generalize (65536 : Int) ^ k = p
    have e : t k + c = (t k + c) % 256 + (t k + c) / 256 % 256 * 256 + (t k + c) / 65536 * 65536 := by omega
    have e2 : t k * p + c * p = ((t k + c) % 256) * p + ((t k + c) / 256 % 256 * 256) * p + ((t k + c) / 65536 * 65536) * p := by rw [← Int.add_mul, ← Int.add_mul, ← Int.add_mul, ← e]
    rw [Int.mul_comm p 256, ← Int.mul_assoc, Int.mul_comm p 65536, ← Int.mul_assoc]
    omega
  · unfold upd
    split
    · omega
    · split
      · omega
      · exact h2 i (by omega)
theorem Outs.done {t o : Nat → Int} {c X : Int} (h : Outs t o 34 c) (hX : sm 65536 t 34 = X) (hb : 0 ≤ X ∧ X < 65536 ^ 34) : sm 256 o 68 = X := by
  obtain ⟨h1, h2, h3, h4⟩ := h
  have hs := sm_bound (by decide : (0 : Int) < 256) h2
  rw [hX] at h1
  rw [show (68 : Nat) = 2 * 34 from rfl]
  generalize sm 256 o (2 * 34) = s at *
  have : c = 0 := by omega
  subst this
  omega

set_option maxRecDepth 100000 in
set_option maxHeartbeats 3200000 in
theorem Mul_any (A B : Int) (w : World) (hA : 0 ≤ A ∧ A < 256 ^ 32) (hB : 0 ≤ B ∧ B < 256 ^ 32) :
    Calls Tryz.prog 66 #[.agg (arr .u8 32 (dg 256 A)), .agg (arr .u8 32 (dg 256 B))] w fun e w' =>
      e = .returned (.agg (arr .u8 32 (dg 256 (A * B % Q)))) ∧ Below w.heap.size w w' := by
  have HA := Lib.hid hA
  have HB := Lib.hid hB
  clear hA hB
  go_enter Tryz.func66, Tryz.ntmps66
  go_wp2
  refine wp_world (fun w1 => Arr .u8 w1 w.heap.size 32 (dg 256 A) ∧ Arr .u8 w1 (w.heap.size + 1) 32 (dg 256 B) ∧ Arr .u8 w1 (w.heap.size + 2) 32 (fun _ => 0) ∧ Below w.heap.size w w1)
    ⟨Arr.alloc (Arr.alloc (Arr.newAt (by first | omega | (simp <;> omega)) (by rfl)) _) _, Arr.alloc (Arr.newAt (by first | omega | (simp <;> omega)) (by rfl)) _, Arr.newAt (by first | omega | (simp <;> omega)) (by rfl), (((Below.refl _ _).alloc (Nat.le_refl _) _).alloc (by simp) _).alloc (by simp; omega) _⟩ ?_
  rintro w1 ⟨hA, hB', hZ, hbel⟩
  refine region_vars (n := 70) (by kernel_rfl) (by kernel_rfl) (by kernel_rfl) rfl
    (isAl [(6, 4), (7, 5)]) (putOf [(6, 4), (7, 5)]) (fun _ => arr .u32 17 (fun _ => 0)) (fun i => match i with | 4 => (arr .u32 17 (dg 65536 A)) | 5 => (arr .u32 17 (dg 65536 B)) | _ => #[]) (fun _ => 129) (fun i => match i with | 4 => 5 | 5 => 6 | _ => 0)
    (fun ii vv _ => (match ii with | 0 => vv = .agg (arr .u8 32 (dg 256 A)) | 1 => vv = .agg (arr .u32 17 (dg 65536 A)) | 2 => vv = .agg (arr .u8 32 (dg 256 B)) | 3 => vv = .agg (arr .u32 17 (dg 65536 B)) | _ => True)) (fun _ _ => True) (fun _ _ _ => trivial) (fun _ _ _ _ _ _ _ => trivial) (fun _ _ _ _ h _ => h)
    (vs_al rfl) (vs_inj rfl) ?_ ?_ ?_ ?_
  · refine Each.all ?_
    refine ⟨?_, ?_, ?_, ?_, (fun h => by cases h), (fun h => by cases h), (fun _ h => by cases h), (fun _ h => by cases h), trivial⟩
    · intro _ _ a w2 hB hF hd
      rw [if_pos (wanted_none rfl)]
      exact flow_val (fun h => by cases h) (run_load_str rfl Tryz.underlying22 rfl Tryz.size22 (hF.same 2 rfl) (hA.below hB hA.lt)) rfl
    · intro _ _ a w2 hB hF hd
      rw [if_pos (wanted_none rfl)]
      refine flow_call _ _ _ rfl Tryz.call105 _ (args1 (hd 0 _ rfl rfl rfl (waits_spec rfl))) (by simp) ((of_any A w2 HA.out).mono ?_)
      rintro e w3 ⟨rfl, hb⟩; exact ⟨_, rfl, rfl, hb⟩
    · intro _ _ a w2 hB hF hd
      rw [if_pos (wanted_none rfl)]
      exact flow_val (fun h => by cases h) (run_load_str rfl Tryz.underlying22 rfl Tryz.size22 (hF.same 3 rfl) (hB'.below hB hB'.lt)) rfl
    · intro _ _ a w2 hB hF hd
      rw [if_pos (wanted_none rfl)]
      refine flow_call _ _ _ rfl Tryz.call105 _ (args1 (hd 2 _ rfl rfl rfl (waits_spec rfl))) (by simp) ((of_any B w2 HB.out).mono ?_)
      rintro e w3 ⟨rfl, hb⟩; exact ⟨_, rfl, rfl, hb⟩
  · refine Each.all ?_
    refine ⟨(fun h => by cases h), (fun h => by cases h), (fun h => by cases h), (fun h => by cases h), ?_, ?_, (fun h => by cases h), (fun h => by cases h), trivial⟩
    · exact fun _ => ⟨rfl, rfl, fun a w2 K h => flow_alloc rfl rfl Tryz.zeroValue129 (by simp) h⟩
    · exact fun _ => ⟨rfl, rfl, fun a w2 K h => flow_alloc rfl rfl Tryz.zeroValue129 (by simp) h⟩
  · refine Each.all ?_
    refine ⟨(fun _ h => by cases h), (fun _ h => by cases h), (fun _ h => by cases h), (fun _ h => by cases h), (fun _ h => by cases h), (fun _ h => by cases h), ?_, ?_, trivial⟩
    · intro p hp
      obtain rfl : 4 = p := Option.some.inj hp
      exact ⟨rfl, rfl, ⟨_, rfl⟩, waits_spec rfl, fun a w2 b K hB hF hd hx hb h => flow_put rfl rfl Tryz.size129 hx (hd 1 _ rfl rfl rfl (waits_spec rfl)) hb h⟩
    · intro p hp
      obtain rfl : 5 = p := Option.some.inj hp
      exact ⟨rfl, rfl, ⟨_, rfl⟩, waits_spec rfl, fun a w2 b K hB hF hd hx hb h => flow_put rfl rfl Tryz.size129 hx (hd 3 _ rfl rfl rfl (waits_spec rfl)) hb h⟩
  · intro a w2 blk hB hF hS hv hfin hdis
    obtain ⟨v4, v4l, v4u⟩ := hv 4 _ rfl rfl
    obtain ⟨v5, v5l, v5u⟩ := hv 5 _ rfl rfl
    have ha := puts_each rfl rfl hF [_, _, _, _, _, _, undef, undef] rfl ⟨hS 0 _ rfl rfl rfl, hS 1 _ rfl rfl rfl, hS 2 _ rfl rfl rfl, hS 3 _ rfl rfl rfl, v4, v5, trivial, trivial, trivial⟩
    have f4 := hfin 6 _ 4 rfl rfl
    have f5 := hfin 7 _ 5 rfl rfl
    have d4_5 := hdis 4 5 _ _ rfl rfl rfl rfl (by decide)
    simp only [puts, Act.put, List.setIfInBounds_toArray, List.set_cons_succ, List.set_cons_zero] at ha
    subst ha
    have V4 : Arr .u32 w2 (blk 4) 17 (dg 65536 A) := ⟨_, f4⟩
    have V5 : Arr .u32 w2 (blk 5) 17 (dg 65536 B) := ⟨_, f5⟩
    clear hS hv hfin hdis hF v4 v5 f4 f5
    have hA2 := hA.below hB hA.lt
    have hZ2 := hZ.below hB hZ.lt
    have hZlt := hZ.lt
    have hb2 := hbel.trans (hB.mono hbel.size)
    have hs1 := hbel.size
    obtain ⟨x, hx⟩ : ∃ x, x = blk 4 := ⟨_, rfl⟩
    obtain ⟨y, hy⟩ : ∃ y, y = blk 5 := ⟨_, rfl⟩
    rw [← hx] at V4 d4_5 v4l v4u ⊢
    rw [← hy] at V5 d4_5 v5l v5u ⊢
    clear hx hy hA hB' hZ hB hbel hA2 d4_5
    go_wp2_with (refine load_arr rfl 129 _ rfl .u32 x 17 _ 120 Tryz.underlying129 Tryz.size129 rfl (Arr.alloc V4 _) ?_)
    go_loopw [21] (fun i wr => ∃ (k : Nat) (t : Nat → Int), k ≤ 17 ∧ i = .int .i64 k ∧ Cols t (dg 65536 A) (dg 65536 B) k 0 ∧ Arr .u32 wr y 17 (dg 65536 B) ∧ Arr .u64 wr w2.heap.size 34 t ∧ Arr .u8 wr (w.heap.size + 2) 32 (fun _ => 0) ∧ Below w.heap.size w wr) (fun i _ => 17 - (intOf i).toNat)
    case atStart => exact ⟨0, _, Nat.zero_le _, rfl, Cols.zero _ _, Arr.alloc V5 _, Arr.newAt rfl (by rfl), Arr.alloc hZ2 _, hb2.alloc hb2.size _⟩
    case round =>
      obtain ⟨k, t, hk, rfl, hC, hY, hT, hZ, hbel⟩ := hrel
      by_cases hlt : k < 17
      · have hix := run_index_arr (f := dg 65536 A) Tryz.underlying129 Tryz.underlying120 Tryz.size120 k hlt
        have HCC := Lib.hid hC
        clear hC
        go_wp2_with (refine load_arr rfl 129 _ rfl .u32 y 17 _ 120 Tryz.underlying129 Tryz.size129 rfl hY ?_)
        have HY := Lib.hid hY
        have HT := Lib.hid hT
        have HZ := Lib.hid hZ
        have HBEL := Lib.hid hbel
        clear hY hT hZ hbel hix
        go_loopw [26] (fun i wr => ∃ (j : Nat) (t : Nat → Int), j ≤ 17 ∧ i = .int .i64 j ∧ Cols t (dg 65536 A) (dg 65536 B) k j ∧ Arr .u32 wr y 17 (dg 65536 B) ∧ Arr .u64 wr w2.heap.size 34 t ∧ Arr .u8 wr (w.heap.size + 2) 32 (fun _ => 0) ∧ Below w.heap.size w wr) (fun i _ => 17 - (intOf i).toNat)
        case atStart => exact ⟨0, _, Nat.zero_le _, rfl, HCC.out, HY.out, HT.out, HZ.out, HBEL.out⟩
        case round =>
          obtain ⟨j, u, hj, rfl, hC, hY, hT, hZ, hbel⟩ := hrel
          by_cases hjt : j < 17
          · have hiy := run_index_arr (f := dg 65536 B) Tryz.underlying129 Tryz.underlying120 Tryz.size120 j hjt
            have e1 := hT.cell (k + j) (by omega)
            have f1 := hT.free (k + j)
            obtain ⟨b0, b1⟩ := dg_bound (by decide : (0 : Int) < 65536) A k
            obtain ⟨b2, b3⟩ := dg_bound (by decide : (0 : Int) < 65536) B j
            obtain ⟨m0, m1⟩ := mul_le b0 (by omega) b2 (by omega)
            obtain ⟨u0, _, u1⟩ := hC.2 (k + j)
            have u2 := u1 (Nat.le_refl _)
            have hwm := wrap_u64_id m0 (by omega)
            have hws := wrap_u64_id (x := u (k + j) + dg 65536 A k * dg 65536 B j) (by omega) (by omega)
            have hst := hC.step hlt hjt ⟨b0, b1⟩ ⟨b2, b3⟩
            have HST := Lib.hid hst
            have HY2 := Lib.hid hY
            have HT2 := Lib.hid hT
            have HZ2 := Lib.hid hZ
            clear hC hY hT hZ u1 hst
            go_wp2
            go_roundw
            case rel => exact ⟨j + 1, _, by omega, by go_num, HST.out, HY2.out.other (by first | omega | (simp <;> omega)) _, HT2.out.set (k + j) _, HZ2.out.other (by first | omega | (simp <;> omega)) _, hbel.setCell (by first | omega | (simp <;> omega)) _⟩
            case measure => simp [intOf] <;> omega
          · obtain rfl : j = 17 := by omega
            go_wp2_with fail
            go_roundw
            case rel => exact ⟨k + 1, u, by omega, by go_num, hC.row, hY, hT, hZ, hbel⟩
            case measure => simp [intOf] <;> omega
      · obtain rfl : k = 17 := by omega
        have hsum : sm 65536 t 34 = A * B := by
          rw [hC.1, show sm 65536 (dg 65536 B) 0 = 0 from rfl, sm_dg (by decide), sm_dg (by decide), Int.emod_eq_of_lt HA.out.1 (Int.lt_trans HA.out.2 (by decide)), Int.emod_eq_of_lt HB.out.1 (Int.lt_trans HB.out.2 (by decide)), Int.mul_zero, Int.add_zero]
        have hcol : ∀ k, 0 ≤ t k ∧ t k ≤ 77307052050 := fun k => by
          have h := hC.2 k
          rcases Nat.lt_or_ge k (17 + 0) with h' | h'
          · have := h.2.1 h'; have := h.1; omega
          · have := h.2.2 h'; have := h.1; omega
        have HS := Lib.hid hsum
        have HCOL := Lib.hid hcol
        clear hsum hcol hC hY
        have hT1 := Arr.alloc hT (.cells (arr .u8 68 (fun _ => 0)) 142)
        have hZ1 := Arr.alloc hZ (.cells (arr .u8 68 (fun _ => 0)) 142)
        go_wp2_with (refine load_arr rfl 141 _ rfl .u64 w2.heap.size 34 _ 96 Tryz.underlying141 Tryz.size141 rfl hT1 ?_)
        have hb3 := hbel.alloc hbel.size (.cells (arr .u8 68 (fun _ => 0)) 142)
        have hTlt := hT.lt
        have hZlt3 := hZ.lt
        have hs3 := hbel.size
        clear hT hT1 hZ hbel
        go_loopw [13, 45] (fun c i wq => ∃ (k : Nat) (z : Int) (o : Nat → Int), k ≤ 34 ∧ Outs t o k z ∧ c = .int .u64 z ∧ i = .int .i64 k ∧ Arr .u8 wq wr.heap.size 68 o ∧ Arr .u8 wq (w.heap.size + 2) 32 (fun _ => 0) ∧ Below w.heap.size w wq) (fun _ i _ => 34 - (intOf i).toNat)
        case atStart => exact ⟨0, 0, fun _ => 0, Nat.zero_le _, Outs.zero _ _, rfl, rfl, Arr.newAt (n := 68) (f := fun _ => 0) rfl (by rfl), hZ1, hb3⟩
        case round =>
          obtain ⟨k, z, o, hk, hO, rfl, rfl, hR, hZ, hbel⟩ := hrel
          by_cases hlt : k < 34
          · have hix := run_index_arr (f := t) Tryz.underlying141 Tryz.underlying96 Tryz.size96 k hlt
            have e2 := hR.cell (2 * k) (by omega)
            have e3 := hR.cell (2 * k + 1) (by omega)
            have f2 := hR.free (2 * k)
            have f3 := hR.free (2 * k + 1)
            obtain ⟨t0, t1⟩ := HCOL.out k
            obtain ⟨z0, z1⟩ := hO.2.2
            have hst := Outs.step hO (HCOL.out k)
            have HST := Lib.hid hst
            have HR := Lib.hid hR
            have HZ2 := Lib.hid hZ
            have hwn := wrap_u64_id (x := t k + z) (by omega) (by omega)
            clear hst hR hZ hO
            go_wp2
            go_roundw
            case rel => exact ⟨k + 1, _, _, by omega, HST.out, rfl, by go_num, (HR.out.set (2 * k) _).set (2 * k + 1) _, (HZ2.out.other (by first | omega | (simp <;> omega)) _).other (by first | omega | (simp <;> omega)) _, (hbel.setCell (by first | omega | (simp <;> omega)) _).setCell (by first | omega | (simp <;> omega)) _⟩
            case measure => simp [intOf] <;> omega
          · obtain rfl : k = 34 := by omega
            have hob := hO.2.1
            have hX := Outs.done hO HS.out ⟨Int.mul_nonneg HA.out.1 HB.out.1, by
              have h1 := HA.out; have h2 := HB.out
              calc A * B ≤ 256 ^ 32 * 256 ^ 32 := Int.mul_le_mul (Int.le_of_lt h1.2) (Int.le_of_lt h2.2) h2.1 (by decide)
                _ < 65536 ^ 34 := by decide⟩
            have HOB := Lib.hid hob
            have HX := Lib.hid hX
            have HR := Lib.hid hR
            have hRlt := hR.lt
            clear hO hob hX
            go_wp2_with fail
            refine (taken_any _ 68 o _ (HR.out.rd (by decide)) HOB.out (by decide)).mono ?_
            rintro e w4 ⟨rfl, hb4⟩
            rw [HX.out]
            go_wp2_with fail
            refine (bytes_any _ _).mono ?_
            rintro e w5 ⟨rfl, hb5⟩
            have hZ5 := (hZ.kept hb4).kept hb5
            have hb6 := hbel.trans ((hb4.mono hbel.size).trans (hb5.mono (Nat.le_trans hbel.size hb4.size)))
            clear hb4 hb5 hZ hbel
            go_wp2_with (refine store_arr rfl 22 _ _ rfl .u8 (w.heap.size + 2) 32 (fun _ => 0) _ Tryz.size22 rfl rfl hZ5 ?_)
            refine bodyPost_ret (results_arr rfl _ _ .u8 (w.heap.size + 2) 32 _ 5 rfl (hZ5.setRow _ _) Tryz.underlying22 Tryz.size22) rfl ⟨rfl, below_setRow' hb6 (by omega) _⟩
end Go.Proofs.YtdhejcaapdhhfaaGreat

namespace Go.Proofs.YtdhejcaapdhhfaaGreat
open Go.RowKit Go.Bas
attribute [local go_sem ↓] Go.wp_at_zero Go.wp_at_succ

set_option maxRecDepth 100000 in
set_option maxHeartbeats 1600000 in
theorem MulAdd_any (A B C : Int) (w : World) (hA : 0 ≤ A ∧ A < 256 ^ 32) (hB : 0 ≤ B ∧ B < 256 ^ 32) (hC : 0 ≤ C ∧ C < 256 ^ 32) :
    Calls Tryz.prog 27 #[.agg (arr .u8 32 (dg 256 A)), .agg (arr .u8 32 (dg 256 B)), .agg (arr .u8 32 (dg 256 C))] w fun e w' =>
      e = .returned (.agg (arr .u8 32 (dg 256 ((A * B % Q + C) % Q)))) ∧ Below w.heap.size w w' := by
  have HA := Lib.hid hA
  have HB := Lib.hid hB
  have HC := Lib.hid hC
  clear hA hB hC
  go_enter Tryz.func27, Tryz.ntmps27
  go_wp2
  refine wp_world (fun w1 => Arr .u8 w1 w.heap.size 32 (dg 256 A) ∧ Arr .u8 w1 (w.heap.size + 1) 32 (dg 256 B) ∧ Arr .u8 w1 (w.heap.size + 2) 32 (dg 256 C) ∧ Arr .u8 w1 (w.heap.size + 3) 32 (fun _ => 0) ∧ Below w.heap.size w w1)
    ⟨Arr.alloc (Arr.alloc (Arr.alloc (Arr.newAt (by first | omega | (simp <;> omega)) (by rfl)) _) _) _, Arr.alloc (Arr.alloc (Arr.newAt (by first | omega | (simp <;> omega)) (by rfl)) _) _, Arr.alloc (Arr.newAt (by first | omega | (simp <;> omega)) (by rfl)) _, Arr.newAt (by first | omega | (simp <;> omega)) (by rfl), ((((Below.refl _ _).alloc (Nat.le_refl _) _).alloc (by simp) _).alloc (by simp; omega) _).alloc (by simp; omega) _⟩ ?_
  rintro w1 ⟨hA, hB', hC, hZ, hbel⟩
  refine region_last' (n := 12) 5 rfl (by decide) (by kernel_rfl) (by kernel_rfl) (by kernel_rfl) (by kernel_rfl) rfl
    (fun ii vv _ => (match ii with | 0 => vv = .agg (arr .u8 32 (dg 256 A)) | 1 => vv = .agg (arr .u8 32 (dg 256 B)) | 2 => vv = .agg (arr .u8 32 (dg 256 (A * B % Q))) | 3 => vv = .agg (arr .u8 32 (dg 256 C)) | 4 => vv = .agg (arr .u8 32 (dg 256 ((A * B % Q + C) % Q))) | _ => True))
    (fun w w' => Below w.heap.size w w') (fun _ _ h => h) (fun _ _ _ _ h _ => h) rfl ?_ ?_
  · refine Each.all ?_
    refine ⟨?_, ?_, ?_, ?_, ?_, (fun h => absurd rfl h), trivial⟩
    · intro _ a w2 hB hF hd
      rw [if_pos (wanted_none rfl)]
      exact flow_val (fun h => by cases h) (run_load_str rfl Tryz.underlying22 rfl Tryz.size22 (hF.same 3 rfl) (hA.below hB hA.lt)) rfl
    · intro _ a w2 hB hF hd
      rw [if_pos (wanted_none rfl)]
      exact flow_val (fun h => by cases h) (run_load_str rfl Tryz.underlying22 rfl Tryz.size22 (hF.same 4 rfl) (hB'.below hB hB'.lt)) rfl
    · intro _ a w2 hB hF hd
      rw [if_pos (wanted_none rfl)]
      refine flow_call _ _ _ rfl Tryz.call66 _ (args2 (hd 0 _ rfl (waits_spec rfl)) (hd 1 _ rfl (waits_spec rfl))) (by simp) ((Mul_any A B w2 HA.out HB.out).mono ?_)
      rintro e w3 ⟨rfl, hb⟩; exact ⟨_, rfl, rfl, hb⟩
    · intro _ a w2 hB hF hd
      rw [if_pos (wanted_none rfl)]
      exact flow_val (fun h => by cases h) (run_load_str rfl Tryz.underlying22 rfl Tryz.size22 (hF.same 5 rfl) (hC.below hB hC.lt)) rfl
    · intro _ a w2 hB hF hd
      rw [if_pos (wanted_none rfl)]
      refine flow_call _ _ _ rfl Tryz.call65 _ (args2 (hd 2 _ rfl (waits_spec rfl)) (hd 3 _ rfl (waits_spec rfl))) (by simp) ((Add_any (A * B % Q) C w2 (modQ_byte _) HC.out).mono ?_)
      rintro e w3 ⟨rfl, hb⟩; exact ⟨_, rfl, rfl, hb⟩
  · intro a w2 hB hF hS
    have ha := puts_each rfl rfl hF [_, _, _, _, _, undef] rfl ⟨hS 0 _ rfl (by decide), hS 1 _ rfl (by decide), hS 2 _ rfl (by decide), hS 3 _ rfl (by decide), hS 4 _ rfl (by decide), trivial, trivial⟩
    simp only [puts, Act.put, List.setIfInBounds_toArray, List.set_cons_succ, List.set_cons_zero] at ha
    subst ha
    clear hS hF
    have hZ2 := hZ.below hB hZ.lt
    have hb2 := hbel.trans (hB.mono hbel.size)
    refine wp_store_arr 22 _ _ rfl .u8 (w.heap.size + 3) 32 (fun _ => 0) _ Tryz.size22 rfl rfl hZ2 ?_
    clear hA hB' hC hZ hbel hB
    go_wp2
    refine bodyPost_ret (results_arr rfl _ _ .u8 (w.heap.size + 3) 32 _ 5 rfl (hZ2.setRow _ _) Tryz.underlying22 Tryz.size22) rfl ⟨rfl, below_setRow' hb2 (by omega) _⟩

end Go.Proofs.YtdhejcaapdhhfaaGreat

namespace Go.Proofs.YtdhejcaapdhhfaaGreat
open Go.RowKit Go.Bas
attribute [local go_sem ↓] Go.wp_at_zero Go.wp_at_succ

/-- the decimal digits. -/
def dec : List Nat := [50, 55, 55, 52, 50, 51, 49, 55, 55, 55, 55, 51, 55, 50, 51, 53, 51, 53, 51, 53, 56, 53, 49, 57, 51, 55, 55, 57, 48, 56, 56, 51, 54, 52, 56, 52, 57, 51]
/-- the number of the first n of them. -/
def decN : Nat → Int
  | 0 => 0
  | n + 1 => 10 * decN n + ((dec.getD n 48 : Nat) - 48)
/-- the carry into digit k when X is taken ten times and b added. -/
def carD (X b : Int) (k : Nat) : Int := (10 * X + b) / 65536 ^ k - 10 * (X / 65536 ^ k)
theorem carD_zero (X b : Int) : carD X b 0 = b := by simp [carD]; omega
theorem carD_step (X b : Int) (k : Nat) : (10 * dg 65536 X k + carD X b k) % 65536 = dg 65536 (10 * X + b) k ∧ (10 * dg 65536 X k + carD X b k) / 65536 = carD X b (k + 1) := by
  unfold carD dg
  rw [div_succ (by decide) X, div_succ (by decide) (10 * X + b)]
  omega
set_option maxRecDepth 100000 in
theorem dec_digit (i : Nat) (h : i < 38) : 48 ≤ dec.getD i 48 ∧ dec.getD i 48 ≤ 57 := by
  have key : ∀ i : Fin 38, 48 ≤ dec.getD i.val 48 ∧ dec.getD i.val 48 ≤ 57 := by decide
  exact key ⟨i, h⟩

set_option maxRecDepth 100000 in
theorem dec_last : ∀ i, i < 16 → upd (dg 65536 (decN 38)) 15 (dg 65536 (decN 38) 15 + 4096) i = dg 65536 Q i := by
  have key : ∀ i : Fin 16, upd (dg 65536 (decN 38)) 15 (dg 65536 (decN 38) 15 + 4096) i.val = dg 65536 Q i.val := by decide
  exact fun i h => key ⟨i, h⟩

set_option maxRecDepth 100000 in
theorem dec_byte (i : Nat) (h : i < 38) (h' : i < (⟨#[50, 55, 55, 52, 50, 51, 49, 55, 55, 55, 55, 51, 55, 50, 51, 53, 51, 53, 51, 53, 56, 53, 49, 57, 51, 55, 55, 57, 48, 56, 56, 51, 54, 52, 56, 52, 57, 51]⟩ : ByteArray).size) : (⟨#[50, 55, 55, 52, 50, 51, 49, 55, 55, 55, 55, 51, 55, 50, 51, 53, 51, 53, 51, 53, 56, 53, 49, 57, 51, 55, 55, 57, 48, 56, 56, 51, 54, 52, 56, 52, 57, 51]⟩ : ByteArray)[i].toNat = dec.getD i 48 := by
  have key : ∀ i : Fin 38, ((⟨#[50, 55, 55, 52, 50, 51, 49, 55, 55, 55, 55, 51, 55, 50, 51, 53, 51, 53, 51, 53, 56, 53, 49, 57, 51, 55, 55, 57, 48, 56, 56, 51, 54, 52, 56, 52, 57, 51]⟩ : ByteArray)[i.val]'i.isLt).toNat = dec.getD i.val 48 := by decide
  exact key ⟨i, h⟩

set_option maxRecDepth 100000 in
set_option maxHeartbeats 1600000 in
theorem rQ_any (w : World) :
    Calls Tryz.prog 127 #[] w fun e w' =>
      ∃ v, e = .returned v ∧ Own .i64 3 w.heap.size w' v 16 (dg 65536 Q) ∧ Below w.heap.size w w' := by
  go_enter Tryz.func127, Tryz.ntmps127
  go_wp2_with (refine make_ints rfl _ _ 64 rfl w.heap.size 3 .i64 8 Tryz.underlying64 Tryz.info3 .i64 .i64 16 rfl rfl (by decide) (by decide) (Nat.le_refl _) ?_; intro w1 hown hgrow)
  have hb1 : Below w.heap.size w w1 := below_grown0 (Below.refl _ _) hgrow (Nat.le_refl _)
  clear hgrow
  go_loopw [3] (fun i wr => ∃ n : Nat, n ≤ 38 ∧ i = .int .i64 n ∧ Own .i64 3 w.heap.size wr (.slice (some ⟨w.heap.size, 0, none⟩) 16 16) 16 (dg 65536 (decN n)) ∧ Below w.heap.size w wr) (fun i _ => 38 - (intOf i).toNat)
  case atStart => exact ⟨0, Nat.zero_le _, rfl, hown.congr (fun i _ => by simp [decN, dg_nil]), hb1⟩
  case round =>
    obtain ⟨n, hn, rfl, ho, hbel⟩ := hrel
    by_cases hlt : n < 38
    · obtain ⟨d0, d1⟩ := dec_digit n hlt
      have hby := dec_byte n hlt hlt
      have HD : Hid (decN (n + 1) = 10 * decN n + ((dec.getD n 48 : Nat) - 48)) := rfl
      obtain ⟨c, hc⟩ : ∃ c, c = dec.getD n 48 := ⟨_, rfl⟩
      rw [← hc] at d0 d1 hby HD
      clear hc
      have HO := Lib.hid ho
      clear ho
      have HB := Lib.hid hbel
      clear hbel
      go_wp2
      go_loopw [4, 5] (fun x i wr => ∃ (k : Nat) (z : Int), k ≤ 16 ∧ z = carD (decN n) ((c : Int) - 48) k ∧ 0 ≤ z ∧ z ≤ 9 ∧ x = .int .i64 z ∧ i = .int .i64 k ∧ Own .i64 3 w.heap.size wr (.slice (some ⟨w.heap.size, 0, none⟩) 16 16) 16 (upto k (dg 65536 (10 * decN n + ((c : Int) - 48))) (dg 65536 (decN n))) ∧ Below w.heap.size w wr) (fun _ i _ => 16 - (intOf i).toNat)
      case atStart => exact ⟨0, (c : Int) - 48, Nat.zero_le _, (carD_zero _ _).symm, by omega, by omega, rfl, rfl, by rw [upto_zero]; exact HO.out, HB.out⟩
      case round =>
        obtain ⟨k, z, hk, hz, z0, z1, rfl, rfl, ho, hbel⟩ := hrel
        have HZ := Lib.hid hz
        clear hz
        by_cases hkt : k < 16
        · obtain ⟨g, cc, he, _, _, _, _, hcell, hfree⟩ := ho.form (by decide)
          simp only [Value.slice.injEq, Option.some.injEq, Addr.mk.injEq] at he
          obtain ⟨⟨rfl, _⟩, _⟩ := he
          have e1 := hcell k hkt
          have f1 := hfree k
          rw [upto_at] at e1
          obtain ⟨x0, x1⟩ := dg_bound (by decide : (0 : Int) < 65536) (decN n) k
          have hst := carD_step (decN n) ((c : Int) - 48) k
          rw [← HZ.out] at hst
          have HST := Lib.hid hst
          have HO2 := Lib.hid ho
          clear ho hst hcell hfree
          go_wp2
          go_roundw
          case rel => exact ⟨k + 1, _, by omega, HST.out.2, by omega, by omega, rfl, by go_num, by rw [← upto_step HST.out.1]; exact HO2.out.store k _, hbel.setCell (Nat.le_refl _) _⟩
          case measure => simp [intOf] <;> omega
        · obtain rfl : k = 16 := by omega
          have HO2 := Lib.hid ho
          clear ho
          go_wp2
          go_roundw
          case rel => exact ⟨n + 1, by omega, by go_num, by rw [HD.out]; exact HO2.out.congr (upto_full _ _ (Nat.le_refl _)), hbel⟩
          case measure => simp [intOf] <;> omega
    · obtain rfl : n = 38 := by omega
      obtain ⟨g, cc, he, _, _, _, _, hcell, hfree⟩ := ho.form (by decide)
      simp only [Value.slice.injEq, Option.some.injEq, Addr.mk.injEq] at he
      obtain ⟨⟨rfl, _⟩, _⟩ := he
      have e1 := hcell 15 (by decide)
      have f1 := hfree 15
      obtain ⟨x0, x1⟩ := dg_bound (by decide : (0 : Int) < 65536) (decN 38) 15
      have HO := Lib.hid ho
      clear ho hcell hfree
      obtain ⟨t, ht⟩ : ∃ t, t = dg 65536 (decN 38) 15 := ⟨_, rfl⟩
      rw [← ht] at e1 x0 x1
      have HT := Lib.hid ht
      clear ht
      go_wp2
      go_ret
      exact ⟨_, rfl, (HO.out.store 15 _).congr (by rw [HT.out]; exact dec_last), hbel.setCell (Nat.le_refl _) _⟩
end Go.Proofs.YtdhejcaapdhhfaaGreat

namespace Go.Proofs.YtdhejcaapdhhfaaGreat
open Go.RowKit Go.Bas
attribute [local go_sem ↓] Go.wp_at_zero Go.wp_at_succ

theorem Q17 : 0 ≤ Q ∧ Q < 65536 ^ 17 := by decide
theorem low_bit (Y : Int) (b : Nat) (h : b < 16) : Y % 65536 / 2 ^ b % 2 = Y / 2 ^ b % 2 := by
  have hp : (0 : Int) < 2 ^ b := Int.pow_pos (by decide)
  have e : (65536 : Int) = 2 ^ b * (2 ^ (15 - b) * 2) := by
    rw [← Int.pow_succ, ← Int.pow_add, show b + (15 - b + 1) = 16 by omega]; rfl
  have h1 := Int.emod_add_mul_ediv Y 65536
  rw [e] at h1 ⊢
  generalize hr : Y % (2 ^ b * (2 ^ (15 - b) * 2)) = r at h1 ⊢
  generalize Y / (2 ^ b * (2 ^ (15 - b) * 2)) = q at h1
  rw [← h1, Int.mul_assoc, Int.mul_comm (2 ^ b), Int.add_mul_ediv_right _ _ (by omega), Int.mul_comm (2 ^ (15 - b)), Int.mul_assoc, Int.add_mul_emod_self_left]
theorem mod_half (X : Int) (m b : Nat) (h : b < 16) : once (2 * (X / 65536 ^ m / 2 ^ (b + 1) % Q) + dg 65536 X m / ((2 ^ b : Nat) : Int) % 2) = X / 65536 ^ m / 2 ^ b % Q := by
  have h1 := once_half (X / 65536 ^ m) b
  rw [← low_bit (X / 65536 ^ m) b h] at h1
  rw [← h1]
  unfold dg
  rw [show (((2 : Nat) ^ b : Nat) : Int) = (2 : Int) ^ b by simp]

set_option maxRecDepth 100000 in
set_option maxHeartbeats 3200000 in
theorem rMod_any (v : Value) (X : Int) (n : Nat) (hn : n ≤ 1000) (hX : 0 ≤ X ∧ X < 65536 ^ n) (w : World) (hv : Rd .i64 w v n (dg 65536 X)) :
    Calls Tryz.prog 85 #[v] w fun e w' =>
      ∃ v, e = .returned v ∧ Rd .i64 w' v 16 (dg 65536 (X % Q)) ∧ Below w.heap.size w w' := by
  have HV := Lib.hid hv
  obtain ⟨a1, c1, rfl, l1, m1, z1, h1⟩ := hv
  have H1 := Lib.hid h1
  have HX := Lib.hid hX
  clear z1 h1 hX
  go_enter Tryz.func85, Tryz.ntmps85
  go_wp2_with fail
  refine (rQ_any w).mono ?_
  rintro e w1 ⟨q, rfl, hq, hb1⟩
  go_wp2_with (first
    | (at_builtin; refine append_new rfl _ _ 64 rfl w.heap.size 3 .i64 8 Tryz.underlying64 Tryz.info3 _ 16 (dg 65536 Q) _ _ rfl hq rfl 1 rfl rfl ?_ (by decide) (by decide) hb1.size ?_; rotate_right; intro v' w2 hown hgrow)
    | (refine make_ints rfl _ _ 64 rfl w2.heap.size 3 .i64 8 Tryz.underlying64 Tryz.info3 .i64 .i64 17 rfl rfl (by decide) (by decide) (Nat.le_refl _) ?_; intro w3 hown3 hgrow3))
  · have hb2 : Below w.heap.size w w2 := below_grown ((hb1.alloc hb1.size _)) hgrow hq (by simp; have := hb1.size; omega) (Nat.le_refl _)
    have hb3 : Below w2.heap.size w2 w3 := below_grown0 (Below.refl _ _) hgrow3 (Nat.le_refl _)
    have hQ : Rd .i64 w2 v' 17 (dg 65536 Q) := hown.rd
    have HQ := Lib.hid hQ
    clear hgrow hgrow3 hq hb1 hown hQ
    go_loopw [4, 5] (fun r i wr => ∃ k : Nat, k ≤ n ∧ i = .int .i64 ((k : Int) - 1) ∧ Own .i64 3 w2.heap.size wr r 17 (dg 65536 (X / 65536 ^ k % Q)) ∧ Below w2.heap.size w2 wr) (fun _ i _ => (intOf i + 1).toNat)
    case atStart => exact ⟨n, Nat.le_refl _, rfl, hown3.congr (fun i _ => by rw [Int.ediv_eq_zero_of_lt HX.out.1 HX.out.2]; simp [dg]), hb3⟩
    case round =>
      obtain ⟨k, hk, rfl, ho, hbel⟩ := hrel
      obtain _ | m := k
      · obtain ⟨g, cc, rfl, _, hgl, hc17, hcc, hcell, _⟩ := ho.form (by decide)
        clear ho
        have hr : Rd .i64 wr (.slice (some ⟨g, 0, none⟩) 16 cc) 16 (dg 65536 (X / 65536 ^ 0 % Q)) := ⟨_, cc, rfl, by omega, hcc, (fun h => by cases h), fun _ => ⟨g, 0, rfl, hgl, fun i hi => by rw [Nat.zero_add]; exact hcell i (by omega)⟩⟩
        have HR := Lib.hid hr
        clear hr hcell
        go_wp2
        go_ret
        exact ⟨_, rfl, by have := HR.out; rwa [Int.pow_zero, Int.ediv_one] at this, hb2.trans (hbel.mono hb2.size)⟩
      · have HO := Lib.hid ho
        have HB := Lib.hid hbel
        clear ho hbel
        go_wp2
        go_loopw [4, 6] (fun r x wr => ∃ b : Nat, b ≤ 16 ∧ x = .int .i64 ((2 ^ b / 2 : Nat) : Int) ∧ Own .i64 3 w2.heap.size wr r 17 (dg 65536 (X / 65536 ^ m / 2 ^ b % Q)) ∧ Below w2.heap.size w2 wr) (fun _ x _ => (intOf x).toNat)
        case atStart => exact ⟨16, Nat.le_refl _, rfl, by rw [show (2 : Int) ^ 16 = 65536 from rfl, ← div_succ (by decide)]; exact HO.out, HB.out⟩
        case round =>
          obtain ⟨b, hb, rfl, ho, hbel⟩ := hrel
          have HO2 := Lib.hid ho
          clear ho
          obtain _ | b' := b
          · go_wp2
            go_roundw
            case rel => exact ⟨m, by omega, by go_num, by have := HO2.out; rwa [Int.pow_zero, Int.ediv_one] at this, hbel⟩
            case measure => simp [intOf] <;> omega
          · have hd2 : (2 ^ (b' + 1) / 2 : Nat) = 2 ^ b' := by rw [Nat.pow_succ]; omega
            rw [hd2]
            obtain ⟨D, hD⟩ : ∃ D : Nat, D = 2 ^ b' := ⟨_, rfl⟩
            have hD0 : 0 < D := by rw [hD]; exact Nat.pow_pos (by decide)
            have hD1 : D ≤ 32768 := by rw [hD]; exact Nat.pow_le_pow_right (by decide) (by omega : b' ≤ 15)
            rw [← hD]
            have HDD := Lib.hid hD
            clear hD hd2
            obtain ⟨b1, o1, rfl, s1, e1⟩ := H1.out (by omega)
            have c1 := ((hb2.trans (hbel.mono hb2.size)).cell (p := ⟨b1, o1 + m, none⟩) s1).trans (e1 m (by omega))
            have hkm : ((m + 1 : Nat) : Int) - 1 = (m : Int) := by omega
            rw [hkm]
            clear e1
            obtain ⟨x0, x1⟩ := dg_bound (by decide : (0 : Int) < 65536) X m
            obtain ⟨q, hq⟩ : ∃ q, q = (dg 65536 X m).tdiv (D : Int) := ⟨_, rfl⟩
            have hqe : q = dg 65536 X m / D := by rw [hq, Int.tdiv_eq_ediv_of_nonneg x0]
            have q0 : 0 ≤ q := by rw [hqe]; exact Int.ediv_nonneg x0 (by omega)
            have q1 : q < 65536 := by rw [hqe]; exact Int.lt_of_le_of_lt (Int.ediv_le_self _ x0) x1
            have hq' := hq.symm
            have HQE := Lib.hid hqe
            clear hq hqe
            obtain ⟨g, cc, rfl, hg0, hgl, hc17, hcc, hcell, hfree⟩ := HO2.out.form (by decide)
            clear hcell hfree
            obtain ⟨R, hR⟩ : ∃ R, R = X / 65536 ^ m / 2 ^ (b' + 1) % Q := ⟨_, rfl⟩
            rw [← hR] at HO2
            have HRR := Lib.hid hR
            have HBB := Lib.hid hbel
            clear hR hbel
            obtain ⟨c, hc⟩ : ∃ c, c = q % 2 := ⟨_, rfl⟩
            have c0 : 0 ≤ c ∧ c ≤ 1 := by omega
            have hc' := hc.symm
            have HCE := Lib.hid hc
            clear hc
            go_wp2
            go_loopw [7, 8] (fun x i wr => ∃ (k : Nat) (z : Int), k ≤ 17 ∧ z = car2 R c k ∧ 0 ≤ z ∧ z ≤ 1 ∧ x = .int .i64 z ∧ i = .int .i64 k ∧ Own .i64 3 w2.heap.size wr (.slice (some ⟨g, 0, none⟩) 17 cc) 17 (upto k (dg 65536 (2 * R + c)) (dg 65536 R)) ∧ Below w2.heap.size w2 wr) (fun _ i _ => 17 - (intOf i).toNat)
            case atStart => exact ⟨0, c, Nat.zero_le _, (car2_zero _ _).symm, c0.1, c0.2, by rw [hc'], rfl, by rw [upto_zero]; exact HO2.out, HBB.out⟩
            case round =>
              obtain ⟨k, z, hk, hz, z0, z1, rfl, rfl, ho, hbel⟩ := hrel
              have HZ := Lib.hid hz
              clear hz
              by_cases hkt : k < 17
              · obtain ⟨g', cc', he, _, _, _, _, hcell, hfree⟩ := ho.form (by decide)
                simp only [Value.slice.injEq, Option.some.injEq, Addr.mk.injEq] at he
                obtain ⟨⟨rfl, _⟩, _⟩ := he
                have e1 := hcell k hkt
                have f1 := hfree k
                rw [upto_at] at e1
                obtain ⟨x0, x1⟩ := dg_bound (by decide : (0 : Int) < 65536) R k
                have hst := car2_step' R c k
                rw [← HZ.out] at hst
                have HST := Lib.hid hst
                have HO3 := Lib.hid ho
                clear ho hst hcell hfree
                go_wp2
                go_roundw
                case rel => exact ⟨k + 1, _, by omega, HST.out.2, by omega, by omega, rfl, by go_num, by rw [← upto_step HST.out.1]; exact HO3.out.store k _, hbel.setCell hg0 _⟩
                case measure => simp [intOf] <;> omega
              · obtain rfl : k = 17 := by omega
                have ho3 := ho.congr (upto_full _ _ (Nat.le_refl _))
                have HO3 := Lib.hid ho3
                clear ho ho3
                have hbnd : 0 ≤ 2 * R + c ∧ 2 * R + c < 65536 ^ 17 := by rw [HRR.out]; exact once_bound _ _ c0
                have HBND := Lib.hid hbnd
                have hfin : once (2 * R + c) = X / 65536 ^ m / 2 ^ b' % Q := by rw [HRR.out, HCE.out, HQE.out, HDD.out]; exact mod_half X m b' (by omega)
                have HFIN := Lib.hid hfin
                have hsz := hbel.size
                clear hbnd hfin
                have hcon := rAtLeast_any _ v' (2 * R + c) Q 17 17 (Nat.le_refl _) wr HO3.out.rd (HQ.out.below hbel) HBND.out Q17
                by_cases hge : Q ≤ 2 * R + c
                · rw [decide_eq_true hge] at hcon
                  have hon : once (2 * R + c) = 2 * R + c - Q := by unfold once; rw [if_pos hge]
                  rw [HFIN.out] at hon
                  have HON := Lib.hid hon
                  have HCON := Lib.hid hcon
                  clear hon hge hcon
                  go_wp2_with fail
                  refine (HCON.out).mono ?_
                  rintro e w5 ⟨rfl, hb5⟩
                  go_wp2_with fail
                  refine (rLess_any _ v' (2 * R + c) Q 17 17 (Nat.le_refl _) (by decide) w5 (HO3.out.rd.below hb5) ((HQ.out.below hbel).below hb5)).mono ?_
                  rintro e w6 ⟨v6, rfl, ho6, hb6⟩
                  have HO6 := Lib.hid ho6
                  clear ho6
                  go_wp2
                  go_roundw
                  case rel => exact ⟨b', by omega, by rw [← HDD.out]; rfl, by rw [HON.out]; exact HO6.out.mono (by have := hb5.size; omega), (hbel.trans (hb5.mono hsz)).trans (hb6.mono (by have := hb5.size; omega))⟩
                  case measure => simp [intOf] <;> omega
                · rw [decide_eq_false hge] at hcon
                  have hon : once (2 * R + c) = 2 * R + c := by unfold once; rw [if_neg hge]
                  rw [HFIN.out] at hon
                  have HON := Lib.hid hon
                  have HCON := Lib.hid hcon
                  clear hon hge hcon
                  go_wp2_with fail
                  refine (HCON.out).mono ?_
                  rintro e w5 ⟨rfl, hb5⟩
                  go_wp2
                  go_roundw
                  case rel => exact ⟨b', by omega, by rw [← HDD.out]; rfl, by rw [HON.out]; exact HO3.out.below hb5, hbel.trans (hb5.mono hsz)⟩
                  case measure => simp [intOf] <;> omega
  · intro i hi
    obtain rfl : i = 0 := by omega
    rfl
end Go.Proofs.YtdhejcaapdhhfaaGreat

namespace Go.Proofs.YtdhejcaapdhhfaaGreat
open Go.RowKit Go.Bas
attribute [local go_sem ↓] Go.wp_at_zero Go.wp_at_succ

theorem dg_high {X : Int} {n j : Nat} (hX : 0 ≤ X ∧ X < 256 ^ n) (h : n ≤ j) : dg 256 X j = 0 :=
  dg_small ⟨hX.1, Int.lt_of_lt_of_le hX.2 (pow_mono 256 (by decide) n j h)⟩
theorem pow_256_even (j : Nat) : (256 : Int) ^ (2 * j) = 65536 ^ j := by rw [Int.pow_mul]; rfl
theorem half_bound {X : Int} {n : Nat} (hX : 0 ≤ X ∧ X < 256 ^ n) : 0 ≤ X ∧ X < 65536 ^ ((n + 1) / 2) := by
  refine ⟨hX.1, Int.lt_of_lt_of_le hX.2 ?_⟩
  rw [← pow_256_even]
  exact pow_mono 256 (by decide) _ _ (by omega)

set_option maxRecDepth 100000 in
set_option maxHeartbeats 1600000 in
theorem qOf_any (v : Value) (X : Int) (n : Nat) (hn : n ≤ 1000) (hX : 0 ≤ X ∧ X < 256 ^ n) (w : World) (hv : Rd .u8 w v n (dg 256 X)) :
    Calls Tryz.prog 82 #[v] w fun e w' =>
      e = .returned (.agg (arr .u8 32 (dg 256 (X % Q)))) ∧ Below w.heap.size w w' := by
  obtain ⟨a1, c1, rfl, l1, m1, z1, h1⟩ := hv
  have H1 := Lib.hid h1
  have HX := Lib.hid hX
  clear z1 h1 hX
  go_enter Tryz.func82, Tryz.ntmps82
  go_wp2
  go_loopw [3, 4] (fun v i wr => ∃ j : Nat, j ≤ (n + 1) / 2 ∧ i = .int .i64 (2 * j : Nat) ∧ Own .i64 3 (w.heap.size + 1) wr v j (dg 65536 X) ∧ Arr .u8 wr w.heap.size 32 (fun _ => 0) ∧ Below w.heap.size w wr) (fun _ i _ => n + 1 - (intOf i).toNat)
  case atStart => exact ⟨0, Nat.zero_le _, rfl, Own.nil _ _ _ _ _, Arr.newAt (by first | omega | (simp <;> omega)) (by rfl), (Below.refl _ _).alloc (Nat.le_refl _) _⟩
  case round =>
    obtain ⟨j, hj, rfl, ho, hA, hbel⟩ := hrel
    have HO := Lib.hid ho
    have HA := Lib.hid hA
    have hAlt := hA.lt
    have hsz := hbel.size
    have hne := HO.out.far (Nat.lt_succ_self w.heap.size)
    clear ho hA
    by_cases hlt : 2 * j < n
    · obtain ⟨b, off, rfl, s1, hcell⟩ := H1.out (by omega)
      have e0 := (hbel.cell (p := ⟨b, off + 2 * j, none⟩) s1).trans (hcell (2 * j) hlt)
      obtain ⟨p0, p0'⟩ := dg_bound (by decide : (0 : Int) < 256) X (2 * j)
      obtain ⟨p1, p1'⟩ := dg_bound (by decide : (0 : Int) < 256) X (2 * j + 1)
      have hp := pair16 X j
      have HP : Hid (dg 256 X (2 * j) + 256 * dg 256 X (2 * j + 1) = dg 65536 X j) := by unfold Hid; omega
      clear hp
      by_cases hlt2 : 2 * j + 1 < n
      · have e1 := (hbel.cell (p := ⟨b, off + (2 * j + 1), none⟩) s1).trans (hcell (2 * j + 1) hlt2)
        clear hcell
        go_wp2_with (at_builtin; refine append_new rfl _ _ 64 rfl (w.heap.size + 1) 3 .i64 8 Tryz.underlying64 Tryz.info3 _ j (dg 65536 X) _ _ rfl HO.out rfl 1 rfl rfl ?_ (by omega) (by omega) (by omega) ?_; rotate_right; intro v' w1 hown hgrow)
        · go_roundw
          case rel => exact ⟨j + 1, by omega, by go_num, hown, (Arr.alloc HA.out _).grown hgrow hne, below_grown (hbel.alloc hsz _) hgrow HO.out (by simp; omega) (by omega)⟩
          case measure => simp [intOf] <;> omega
        · intro i hi
          exact one0 hi (by rw [show j + i = j by omega]; exact HP.out)
      · have hz : Hid (dg 256 X (2 * j + 1) = 0) := dg_high HX.out (by omega)
        clear hcell
        go_wp2_with (at_builtin; refine append_new rfl _ _ 64 rfl (w.heap.size + 1) 3 .i64 8 Tryz.underlying64 Tryz.info3 _ j (dg 65536 X) _ _ rfl HO.out rfl 1 rfl rfl ?_ (by omega) (by omega) (by omega) ?_; rotate_right; intro v' w1 hown hgrow)
        · go_roundw
          case rel => exact ⟨j + 1, by omega, by go_num, hown, (Arr.alloc HA.out _).grown hgrow hne, below_grown (hbel.alloc hsz _) hgrow HO.out (by simp; omega) (by omega)⟩
          case measure => simp [intOf] <;> omega
        · intro i hi
          exact one0 hi (by rw [show j + i = j by omega]; have := HP.out; have := hz.out; omega)
    · obtain rfl : j = (n + 1) / 2 := by omega
      go_wp2_with fail
      refine (rMod_any _ X ((n + 1) / 2) (by omega) (half_bound HX.out) _ HO.out.rd).mono ?_
      rintro e w2 ⟨v2, rfl, hv2, hb2⟩
      have HV2 := Lib.hid hv2
      clear hv2
      go_wp2_with fail
      refine (rBytes_any _ (X % Q) 16 (by decide) _ HV2.out).mono ?_
      rintro e w3 ⟨rfl, hb3⟩
      have hZ := (HA.out.kept hb2).below hb3 (by have := hb2.size; omega)
      have hB : Below w.heap.size w w3 := (hbel.trans (hb2.mono hsz)).trans (hb3.mono (by have := hb2.size; omega))
      clear hbel hb2 hb3
      go_wp2_with (refine store_arr rfl 22 _ _ rfl .u8 w.heap.size 32 (fun _ => 0) _ Tryz.size22 rfl rfl hZ ?_)
      exact bodyPost_ret (results_arr rfl _ _ .u8 w.heap.size 32 _ 5 rfl (hZ.setRow _ _) Tryz.underlying22 Tryz.size22) rfl ⟨rfl, below_setRow' hB (Nat.le_refl _) _⟩

theorem carS_top {A B : Int} (hA : 0 ≤ A ∧ A < 256 ^ 32) (hB : 0 ≤ B ∧ B < 256 ^ 32) : carS A B 16 = dg 65536 (A + B) 16 ∧ 0 ≤ A + B ∧ A + B < 65536 ^ 17 := by
  have e : (256 : Int) ^ 32 = 65536 ^ 16 := by decide
  rw [e] at hA hB
  have h2 : (65536 : Int) ^ 17 = 65536 * 65536 ^ 16 := by decide
  refine ⟨?_, by omega, by omega⟩
  unfold carS dg
  rw [Int.ediv_eq_zero_of_lt hA.1 hA.2, Int.ediv_eq_zero_of_lt hB.1 hB.2]
  have h3 : (A + B) / 65536 ^ 16 < 65536 := Int.ediv_lt_of_lt_mul (by decide) (by omega)
  have h4 : 0 ≤ (A + B) / 65536 ^ 16 := Int.ediv_nonneg (by omega) (by decide)
  omega

set_option maxRecDepth 100000 in
set_option maxHeartbeats 1600000 in
theorem qAdd_any (A B : Int) (w : World) (hA : 0 ≤ A ∧ A < 256 ^ 32) (hB : 0 ≤ B ∧ B < 256 ^ 32) :
    Calls Tryz.prog 36 #[.agg (arr .u8 32 (dg 256 A)), .agg (arr .u8 32 (dg 256 B))] w fun e w' =>
      e = .returned (.agg (arr .u8 32 (dg 256 ((A + B) % Q)))) ∧ Below w.heap.size w w' := by
  have HT := Lib.hid (carS_top hA hB)
  clear hA hB
  go_enter Tryz.func36, Tryz.ntmps36
  go_wp2_with (refine load_arr rfl 22 _ rfl .u8 w.heap.size 32 _ 5 Tryz.underlying22 Tryz.size22 rfl (Arr.alloc (Arr.alloc (Arr.new .u8 w 22 32 (dg 256 A)) _) _) ?_)
  refine (rDigits_any A _).mono ?_
  rintro e w1 ⟨x, rfl, hx, hb1⟩
  have hB : Arr .u8 w1 (w.heap.size + 1) 32 (dg 256 B) := Arr.kept (Arr.alloc (Arr.newAt (by first | omega | (simp <;> omega)) (by rfl)) _) hb1
  have hZ : Arr .u8 w1 (w.heap.size + 2) 32 (fun _ => 0) := Arr.kept (Arr.newAt (by first | omega | (simp <;> omega)) (by rfl)) hb1
  have hs1 : w.heap.size + 3 ≤ w1.heap.size := by have := hb1.size; simpa using this
  have hb2 : Below w.heap.size w w1 := ((((Below.refl _ _).alloc (Nat.le_refl _) _).alloc (by simp) _).alloc (by simp; omega) _).trans (hb1.mono (by simp; omega))
  have HX := Lib.hid hx.rd
  clear hx hb1
  go_wp2_with (refine load_arr rfl 22 _ rfl .u8 (w.heap.size + 1) 32 _ 5 Tryz.underlying22 Tryz.size22 rfl hB ?_)
  refine (rDigits_any B _).mono ?_
  rintro e w3 ⟨y, rfl, hy, hb3⟩
  have hZ3 := hZ.kept hb3
  have hb := hb2.trans (hb3.mono (by omega))
  have HX3 := Lib.hid (HX.out.below hb3)
  have HY := Lib.hid hy.rd
  have hs3 : w.heap.size + 3 ≤ w3.heap.size := by have := hb3.size; omega
  clear hy hb2 hb3 hZ hB HX hs1
  obtain ⟨xa, xc, rfl, xl, xm, xz, xh⟩ := HX3.out
  obtain ⟨ya, yc, rfl, yl, ym, yz, yh⟩ := HY.out
  obtain ⟨xb, xo, rfl, xs, xe⟩ := xh (by decide)
  obtain ⟨yb, yo, rfl, ys, ye⟩ := yh (by decide)
  have XE := Lib.hid xe
  have YE := Lib.hid ye
  clear xz yz xe ye xh yh
  go_wp2
  go_loopw [7, 8, 9] (fun v c i wr => ∃ (k : Nat) (z : Int), k ≤ 16 ∧ z = carS A B k ∧ 0 ≤ z ∧ z ≤ 1 ∧ c = .int .i64 z ∧ i = .int .i64 k ∧ Own .i64 3 w3.heap.size wr v k (dg 65536 (A + B)) ∧ Below w3.heap.size w3 wr) (fun _ _ i _ => 16 - (intOf i).toNat)
  case atStart => exact ⟨0, 0, Nat.zero_le _, (carS_zero _ _).symm, by decide, by decide, rfl, rfl, Own.nil _ _ _ _ _, Below.refl _ _⟩
  case round =>
    obtain ⟨k, z, hk, hz, z0, z1, rfl, rfl, ho, hbel⟩ := hrel
    have HZ := Lib.hid hz
    have HO := Lib.hid ho
    clear hz ho
    have hsz := hbel.size
    by_cases hlt : k < 16
    · have c1 := (hbel.cell (p := ⟨xb, xo + k, none⟩) xs).trans (XE.out k hlt)
      have c2 := (hbel.cell (p := ⟨yb, yo + k, none⟩) ys).trans (YE.out k hlt)
      obtain ⟨x0, x1⟩ := dg_bound (by decide : (0 : Int) < 65536) A k
      obtain ⟨y0, y1⟩ := dg_bound (by decide : (0 : Int) < 65536) B k
      have u1 := wrap_i64_id (x := dg 65536 A k + dg 65536 B k) (by omega) (by omega)
      have u2 := wrap_i64_id (x := dg 65536 A k + dg 65536 B k + z) (by omega) (by omega)
      have hst := carS_step A B k
      rw [← HZ.out] at hst
      have HST := Lib.hid hst
      clear hst
      go_wp2
      go_quiet (fail)
      clear u1 u2
      go_wp2_with (at_builtin; refine append_new rfl _ _ 64 rfl w3.heap.size 3 .i64 8 Tryz.underlying64 Tryz.info3 _ k (dg 65536 (A + B)) _ _ rfl (HO.out.drewN _) rfl 1 rfl rfl ?_ (by omega) (by omega) hsz ?_; rotate_right; intro v' w1 hown hgrow)
      · go_roundw
        case rel => exact ⟨k + 1, _, by omega, HST.out.2, by omega, by omega, rfl, by go_num, hown, below_grown ((below_drewN hbel _).alloc hsz _) hgrow HO.out (by simp; omega) (Nat.le_refl _)⟩
        case measure => simp [intOf] <;> omega
      · intro i hi
        exact one0 hi (by rw [show k + i = k by omega]; exact HST.out.1)
    · obtain rfl : k = 16 := by omega
      have hz16 : z = dg 65536 (A + B) 16 := HZ.out.trans HT.out.1
      have HZ16 := Lib.hid hz16
      clear hz16
      have hZw := hZ3.kept hbel
      have hbw := hb.trans (hbel.mono (by omega))
      clear hZ3 hb hbel
      go_wp2_with (at_builtin; refine append_new rfl _ _ 64 rfl w3.heap.size 3 .i64 8 Tryz.underlying64 Tryz.info3 _ 16 (dg 65536 (A + B)) _ _ rfl HO.out rfl 1 rfl rfl ?_ (by omega) (by omega) hsz ?_; rotate_right; intro v' w5 hown hgrow)
      · have hne := HO.out.far (b := w.heap.size + 2) (by omega)
        have hZ5 := (Arr.alloc hZw _).grown hgrow hne
        have hb5 := below_grown (hbw.alloc (by omega) _) hgrow HO.out (by simp; omega) (by omega)
        have HR := Lib.hid hown.rd
        clear hown hgrow hZw hbw hne
        refine (rMod_any _ (A + B) 17 (by omega) HT.out.2 _ HR.out).mono ?_
        rintro e w6 ⟨v6, rfl, hv6, hb6⟩
        have hZ6 := hZ5.kept hb6
        have hB6 := hb5.trans (hb6.mono hb5.size)
        have HV6 := Lib.hid hv6
        clear hv6 hZ5 hb5 hb6
        go_wp2_with fail
        refine (rBytes_any _ ((A + B) % Q) 16 (by decide) _ HV6.out).mono ?_
        rintro e w7 ⟨rfl, hb7⟩
        have hZ7 := hZ6.kept hb7
        have hB7 := hB6.trans (hb7.mono hB6.size)
        clear hZ6 hB6 hb7
        go_wp2_with (refine store_arr rfl 22 _ _ rfl .u8 (w.heap.size + 2) 32 (fun _ => 0) _ Tryz.size22 rfl rfl hZ7 ?_)
        exact bodyPost_ret (results_arr rfl _ _ .u8 (w.heap.size + 2) 32 _ 5 rfl (hZ7.setRow _ _) Tryz.underlying22 Tryz.size22) rfl ⟨rfl, below_setRow' hB7 (by omega) _⟩
      · intro i hi
        exact one0 hi (by rw [show 16 + i = 16 by omega]; exact HZ16.out)

set_option maxRecDepth 100000 in
set_option maxHeartbeats 25600000 in
theorem qMul_any (A B : Int) (w : World) (hA : 0 ≤ A ∧ A < 256 ^ 32) (hB : 0 ≤ B ∧ B < 256 ^ 32) :
    Calls Tryz.prog 37 #[.agg (arr .u8 32 (dg 256 A)), .agg (arr .u8 32 (dg 256 B))] w fun e w' =>
      e = .returned (.agg (arr .u8 32 (dg 256 (A * B % Q)))) ∧ Below w.heap.size w w' := by
  have e32 : (256 : Int) ^ 32 = 65536 ^ 16 := by decide
  rw [e32] at hA hB
  have HA := Lib.hid hA
  have HB := Lib.hid hB
  clear hA hB e32
  go_enter Tryz.func37, Tryz.ntmps37
  go_wp2_with (refine load_arr rfl 22 _ rfl .u8 w.heap.size 32 _ 5 Tryz.underlying22 Tryz.size22 rfl (Arr.alloc (Arr.alloc (Arr.new .u8 w 22 32 (dg 256 A)) _) _) ?_)
  refine (rDigits_any A _).mono ?_
  rintro e w1 ⟨x, rfl, hx, hb1⟩
  have hB : Arr .u8 w1 (w.heap.size + 1) 32 (dg 256 B) := Arr.kept (Arr.alloc (Arr.newAt (by first | omega | (simp <;> omega)) (by rfl)) _) hb1
  have hZ : Arr .u8 w1 (w.heap.size + 2) 32 (fun _ => 0) := Arr.kept (Arr.newAt (by first | omega | (simp <;> omega)) (by rfl)) hb1
  have hs1 : w.heap.size + 3 ≤ w1.heap.size := by have := hb1.size; simpa using this
  have hb2 : Below w.heap.size w w1 := ((((Below.refl _ _).alloc (Nat.le_refl _) _).alloc (by simp) _).alloc (by simp; omega) _).trans (hb1.mono (by simp; omega))
  have HX := Lib.hid hx.rd
  clear hx hb1
  go_wp2_with (refine load_arr rfl 22 _ rfl .u8 (w.heap.size + 1) 32 _ 5 Tryz.underlying22 Tryz.size22 rfl hB ?_)
  refine (rDigits_any B _).mono ?_
  rintro e w3 ⟨y, rfl, hy, hb3⟩
  have hZ3 := hZ.kept hb3
  have hb := hb2.trans (hb3.mono (by omega))
  have HX3 := Lib.hid (HX.out.below hb3)
  have HY := Lib.hid hy.rd
  have hs3 : w.heap.size + 3 ≤ w3.heap.size := by have := hb3.size; omega
  clear hy hb2 hb3 hZ hB HX hs1
  obtain ⟨xa, xc, rfl, xl, xm, xz, xh⟩ := HX3.out
  obtain ⟨ya, yc, rfl, yl, ym, yz, yh⟩ := HY.out
  obtain ⟨xb, xo, rfl, xs, xe⟩ := xh (by decide)
  obtain ⟨yb, yo, rfl, ys, ye⟩ := yh (by decide)
  have XE := Lib.hid xe
  have YE := Lib.hid ye
  clear xz yz xe ye xh yh
  go_wp2_with (refine make_ints rfl _ _ 64 rfl w3.heap.size 3 .i64 8 Tryz.underlying64 Tryz.info3 .i64 .i64 32 rfl rfl (by decide) (by decide) (Nat.le_refl _) ?_; intro w4 hown hgrow)
  have hb4 : Below w3.heap.size w3 w4 := below_grown0 (Below.refl _ _) hgrow (Nat.le_refl _)
  clear hgrow
  go_loopw [8] (fun i wr => ∃ (k : Nat) (t : Nat → Int), k ≤ 16 ∧ i = .int .i64 k ∧ MulInv 16 16 A B t k 0 0 ∧ Own .i64 3 w3.heap.size wr (.slice (some ⟨w3.heap.size, 0, none⟩) 32 32) 32 t ∧ Below w3.heap.size w3 wr) (fun i _ => 16 - (intOf i).toNat)
  case atStart => exact ⟨0, _, Nat.zero_le _, rfl, MulInv.zero _ _ _ _, hown, hb4⟩
  case round =>
    obtain ⟨i, t, hi, rfl, hM, ho, hbel⟩ := hrel
    have HM := Lib.hid hM
    have HO := Lib.hid ho
    clear hM ho
    by_cases hlt : i < 16
    · have HBel := Lib.hid hbel
      clear hbel
      go_wp2
      go_loopw [9, 10] (fun c j wr => ∃ (k : Nat) (z : Int) (t : Nat → Int), k ≤ 16 ∧ 0 ≤ z ∧ z < 65536 ∧ c = .int .i64 z ∧ j = .int .i64 k ∧ MulInv 16 16 A B t i k z ∧ Own .i64 3 w3.heap.size wr (.slice (some ⟨w3.heap.size, 0, none⟩) 32 32) 32 t ∧ Below w3.heap.size w3 wr) (fun _ j _ => 16 - (intOf j).toNat)
      case atStart => exact ⟨0, 0, t, Nat.zero_le _, by decide, by decide, rfl, rfl, HM.out, HO.out, HBel.out⟩
      case round =>
        clear HM HO HBel
        obtain ⟨k, z, t, hk, z0, z1, rfl, rfl, hM, ho, hbel⟩ := hrel
        have HM := Lib.hid hM
        have HO := Lib.hid ho
        clear hM ho
        obtain ⟨g', cc', he, _, _, _, _, hcell, hfree⟩ := HO.out.form (by decide)
        simp only [Value.slice.injEq, Option.some.injEq, Addr.mk.injEq] at he
        obtain ⟨⟨rfl, q1⟩, q2⟩ := he
        clear q1 q2
        by_cases hkt : k < 16
        · have e1 := hcell (i + k) (by omega)
          have f1 := hfree (i + k)
          have c1 := (hbel.cell (p := ⟨xb, xo + i, none⟩) xs).trans (XE.out i hlt)
          have c2 := (hbel.cell (p := ⟨yb, yo + k, none⟩) ys).trans (YE.out k hkt)
          obtain ⟨m0, m1, m2, m3, m4, m5⟩ := HM.out.bound
          have HST := Lib.hid (HM.out.step hlt hkt)
          have HST2 := Lib.hid (HST.out.2.2)
          have t0 := (HM.out.1 (i + k)).1
          have t1 := (HM.out.1 (i + k)).2
          obtain ⟨x0, x1⟩ := dg_bound (by decide : (0 : Int) < 65536) A i
          obtain ⟨y0, y1⟩ := dg_bound (by decide : (0 : Int) < 65536) B k
          clear hcell hfree
          have i0 : (0 : Int) ≤ (i : Int) + k := by omega
          have i1 : (i : Int) + k < 32 := by omega
          have i2 : ((i : Int) + k).toNat = i + k := by omega
          have u0 := wrap_i64_id (x := (i : Int) + k) (by omega) (by omega)
          have u1 := wrap_i64_id (x := dg 65536 A i * dg 65536 B k) (by omega) (by omega)
          have u2 := wrap_i64_id (x := t (i + k) + dg 65536 A i * dg 65536 B k) (by omega) (by omega)
          have u3 := wrap_i64_id (x := t (i + k) + dg 65536 A i * dg 65536 B k + z) (by omega) (by omega)
          go_wp2
          go_quiet (fail)
          clear u1 u2 u3 u0
          go_wp2
          go_roundw
          case rel => exact ⟨k + 1, _, _, by omega, HST2.out.1, HST2.out.2.1, rfl, by go_num, HST.out, (HO.out.drewN _).store (i + k) _, (below_drewN hbel _).setCell (Nat.le_refl _) _⟩
          case measure => simp [intOf] <;> omega
        · obtain rfl : k = 16 := by omega
          obtain ⟨r0, r1⟩ := HM.out.row hlt HB.out
          have R0 := Lib.hid r0
          have R1 := Lib.hid r1
          have e1 := hcell (i + 16) (by omega)
          have f1 := hfree (i + 16)
          rw [R0.out] at e1
          clear hcell hfree r0 r1
          go_wp2
          go_roundw
          case rel => exact ⟨i + 1, _, by omega, by go_num, R1.out, by rw [R0.out]; have := HO.out.store (i + 16) z; rwa [show (0 : Int) + z = z by omega], hbel.setCell (Nat.le_refl _) _⟩
          case measure => simp [intOf] <;> omega
    · obtain rfl : i = 16 := by omega
      have hr := (HO.out.congr (HM.out.done HA.out)).rd
      have HR := Lib.hid hr
      have hZw := hZ3.kept hbel
      have hbw := hb.trans (hbel.mono (by omega))
      clear hZ3 hb hbel hr
      go_wp2_with fail
      refine (rMod_any _ (A * B) 32 (by omega) (mul_bound HA.out HB.out) _ HR.out).mono ?_
      rintro e w6 ⟨v6, rfl, hv6, hb6⟩
      have hZ6 := hZw.kept hb6
      have hB6 := hbw.trans (hb6.mono hbw.size)
      have HV6 := Lib.hid hv6
      clear hv6 hZw hbw hb6
      go_wp2_with fail
      refine (rBytes_any _ (A * B % Q) 16 (by decide) _ HV6.out).mono ?_
      rintro e w7 ⟨rfl, hb7⟩
      have hZ7 := hZ6.kept hb7
      have hB7 := hB6.trans (hb7.mono hB6.size)
      clear hZ6 hB6 hb7
      go_wp2_with (refine store_arr rfl 22 _ _ rfl .u8 (w.heap.size + 2) 32 (fun _ => 0) _ Tryz.size22 rfl rfl hZ7 ?_)
      exact bodyPost_ret (results_arr rfl _ _ .u8 (w.heap.size + 2) 32 _ 5 rfl (hZ7.setRow _ _) Tryz.underlying22 Tryz.size22) rfl ⟨rfl, below_setRow' hB7 (by omega) _⟩
end Go.Proofs.YtdhejcaapdhhfaaGreat
