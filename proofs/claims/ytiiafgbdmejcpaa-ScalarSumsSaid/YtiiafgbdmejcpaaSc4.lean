/-
  scalar.Of, Right, Add: what each makes. Conditions: named in each theorem.
-/
import Derived.Test.YtiiafgbdmejcpaaSc3
namespace Go.Proofs.Ytiiafgbdmejcpaa
open Go.RowKit Go.Bas
attribute [local go_sem ↓] Go.wp_at_zero Go.wp_at_succ
theorem Try.size5 : (Try.prog.info? 5).map (·.size) = some 1 := by kernel_rfl

theorem taken_num (v : Value) (A : Int) (n : Nat) (w : World) (hv : Rd .u8 w v n (dg 256 A)) (hn : n ≤ 1000) (hA : 0 ≤ A ∧ A < 256 ^ n) :
    Calls Try.prog 57 #[v] w fun e w' =>
      e = .returned (.agg (arr .u32 17 (dg 65536 (A % Q)))) ∧ Below w.heap.size w w' := by
  have h := taken_any v n (dg 256 A) w hv (fun i _ => dg_bound (by decide) A i) hn
  rw [sm_dg (by decide), Int.emod_eq_of_lt hA.1 hA.2] at h
  exact h

set_option maxRecDepth 100000 in
set_option maxHeartbeats 800000 in
theorem Of_ok (v : Value) (n : Nat) (f : Nat → Int) (w : World) (hv : Rd .u8 w v n f) (hf : ∀ i, i < n → 0 ≤ f i ∧ f i < 256) (hn : n ≤ 128) :
    Calls Try.prog 30 #[v] w fun e w' =>
      e = .returned (.tuple #[.agg (arr .u8 32 (dg 256 (sm 256 f n % Q))), .int .i64 0]) ∧ Below w.heap.size w w' := by
  have hv2 := hv
  have HV := Lib.hid hv
  obtain ⟨a1, c1, rfl, l1, m1, z1, h1⟩ := hv
  have HF := Lib.hid hf
  clear h1 z1 hf hv2
  go_enter Try.func30, Try.ntmps30
  go_wp2_with fail
  have hb1 : Below w.heap.size w (w.alloc (.cells (arr .u8 32 (fun _ => 0)) 38)) := (Below.refl _ _).alloc (Nat.le_refl _) _
  have hZ1 : Arr .u8 (w.alloc (.cells (arr .u8 32 (fun _ => 0)) 38)) w.heap.size 32 (fun _ => 0) := Arr.newAt rfl rfl
  refine (taken_any _ n f _ (HV.out.below hb1) HF.out (by omega)).mono ?_
  rintro e w2 ⟨rfl, hb2⟩
  go_wp2_with fail
  refine (bytes_any _ w2).mono ?_
  rintro e w3 ⟨rfl, hb3⟩
  have hZ3 := (hZ1.kept hb2).kept hb3
  have hbel3 := hb1.trans ((hb2.mono hb1.size).trans (hb3.mono (Nat.le_trans hb1.size hb2.size)))
  clear hb1 hZ1 hb2 hb3
  go_wp2_with (refine store_arr rfl 38 _ _ rfl .u8 w.heap.size 32 (fun _ => 0) _ Try.size38 rfl rfl hZ3 ?_)
  refine bodyPost_ret (results_arr2 rfl _ _ .u8 w.heap.size 32 _ 5 rfl (hZ3.setRow _ _) Try.underlying38 Try.size38) rfl ⟨rfl, below_setRow' hbel3 (Nat.le_refl _) _⟩

set_option maxRecDepth 100000 in
set_option maxHeartbeats 800000 in
theorem Of_long (v : Value) (n : Nat) (f : Nat → Int) (w : World) (hv : Rd .u8 w v n f) (hn : 128 < n) :
    Calls Try.prog 30 #[v] w fun e w' =>
      e = .returned (.tuple #[.agg (arr .u8 32 (fun _ => 0)), .int .i64 3]) ∧ Below w.heap.size w w' := by
  obtain ⟨a1, c1, rfl, l1, m1, z1, h1⟩ := hv
  clear h1 z1
  go_enter Try.func30, Try.ntmps30
  have hZ1 : Arr .u8 (w.alloc (.cells (arr .u8 32 (fun _ => 0)) 38)) w.heap.size 32 (fun _ => 0) := Arr.newAt rfl rfl
  go_wp2_with (refine store_arr rfl 38 _ _ rfl .u8 w.heap.size 32 (fun _ => 0) (fun _ => 0) Try.size38 rfl rfl hZ1 ?_)
  refine bodyPost_ret (results_arr2 rfl _ _ .u8 w.heap.size 32 _ 5 rfl (hZ1.setRow _ _) Try.underlying38 Try.size38) rfl ⟨rfl, below_setRow' ((Below.refl _ _).alloc (Nat.le_refl _) _) (Nat.le_refl _) _⟩

set_option maxRecDepth 100000 in
set_option maxHeartbeats 800000 in
theorem Right_any (C : Int) (w : World) (hC : 0 ≤ C ∧ C < 256 ^ 32) :
    Calls Try.prog 34 #[.agg (arr .u8 32 (dg 256 C))] w fun e w' =>
      e = .returned (.bool (decide (C < Q))) ∧ Below w.heap.size w w' := by
  have HC := Lib.hid hC
  clear hC
  go_enter Try.func34, Try.ntmps34
  have hA1 : Arr .u8 (w.alloc (.cells (arr .u8 32 (dg 256 C)) 38)) w.heap.size 32 (dg 256 C) := Arr.newAt rfl rfl
  have hb1 : Below w.heap.size w (w.alloc (.cells (arr .u8 32 (dg 256 C)) 38)) := (Below.refl _ _).alloc (Nat.le_refl _) _
  go_wp2_with (refine load_arr rfl 38 _ rfl .u8 w.heap.size 32 _ 5 Try.underlying38 Try.size38 rfl hA1 ?_)
  refine (of_any C _ HC.out).mono ?_
  rintro e w2 ⟨rfl, hb2⟩
  go_wp2_with fail
  refine (order_any w2).mono ?_
  rintro e w3 ⟨rfl, hb3⟩
  go_wp2_with fail
  refine (of_any Q w3 (by decide)).mono ?_
  rintro e w4 ⟨rfl, hb4⟩
  go_wp2_with fail
  refine (less_any C Q w4 ⟨HC.out.1, Int.lt_of_lt_of_le HC.out.2 (by decide)⟩ (by decide)).mono ?_
  rintro e w5 ⟨rfl, hb5⟩
  have hbel := hb1.trans ((hb2.mono hb1.size).trans ((hb3.mono (Nat.le_trans hb1.size hb2.size)).trans ((hb4.mono (Nat.le_trans (Nat.le_trans hb1.size hb2.size) hb3.size)).trans (hb5.mono (Nat.le_trans (Nat.le_trans (Nat.le_trans hb1.size hb2.size) hb3.size) hb4.size)))))
  clear hb1 hb2 hb3 hb4 hb5 hA1
  have hs := hbel.size
  go_wp2_with (refine store_arr rfl 91 _ _ rfl .u32 w5.heap.size 17 (fun _ => 0) _ Try.size91 rfl rfl (Arr.newAt rfl rfl) ?_)
  go_ret
  refine ⟨?_, below_setRow' (hbel.alloc hs _) hs _⟩
  by_cases h : C < Q
  · rw [decide_eq_false (by omega : ¬ Q ≤ C), decide_eq_true h]; rfl
  · rw [decide_eq_true (by omega : Q ≤ C), decide_eq_false h]; rfl
end Go.Proofs.Ytiiafgbdmejcpaa
