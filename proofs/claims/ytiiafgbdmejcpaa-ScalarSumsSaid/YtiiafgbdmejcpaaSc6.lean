/-
  scalar.Neg, MulAdd: what each makes. Conditions: named in each theorem.
-/
import Derived.Test.YtiiafgbdmejcpaaSc5
namespace Go.Proofs.Ytiiafgbdmejcpaa
open Go.RowKit Go.Bas
attribute [local go_sem ↓] Go.wp_at_zero Go.wp_at_succ

theorem dg_nil (B : Int) (i : Nat) : dg B 0 i = 0 := by simp [dg]
theorem zero32 : arr .u8 32 (dg 256 0) = arr .u8 32 (fun _ => 0) := arr_congr fun i _ => dg_nil 256 i
theorem dg_all_zero (X : Int) (h : 0 ≤ X ∧ X < 65536 ^ 17) : sameB 17 (dg 65536 X) (fun _ => 0) = decide (X = 0) := by
  by_cases e : X = 0
  · subst e; rw [sameB_yes fun i _ => dg_nil _ i]; rfl
  · rw [sameB_no fun h' => e (eq_of_dg (by decide) h ⟨Int.le_refl _, by decide⟩ fun i hi => by rw [h' i hi, dg_nil]), decide_eq_false e]

set_option maxRecDepth 100000 in
set_option maxHeartbeats 1600000 in
theorem Neg_any (A : Int) (w : World) (hA : 0 ≤ A ∧ A < 256 ^ 32) :
    Calls Try.prog 43 #[.agg (arr .u8 32 (dg 256 A))] w fun e w' =>
      e = .returned (.agg (arr .u8 32 (dg 256 (-A % Q)))) ∧ Below w.heap.size w w' := by
  have HA := Lib.hid hA
  clear hA
  go_enter Try.func43, Try.ntmps43
  have hA1 : Arr .u8 ((w.alloc (.cells (arr .u8 32 (dg 256 A)) 38)).alloc (.cells (arr .u8 32 (fun _ => 0)) 38)) w.heap.size 32 (dg 256 A) := Arr.alloc (Arr.newAt rfl rfl) _
  have hZ1 : Arr .u8 ((w.alloc (.cells (arr .u8 32 (dg 256 A)) 38)).alloc (.cells (arr .u8 32 (fun _ => 0)) 38)) (w.heap.size + 1) 32 (fun _ => 0) := Arr.newAt (by first | omega | (simp <;> omega)) rfl
  have hb1 : Below w.heap.size w ((w.alloc (.cells (arr .u8 32 (dg 256 A)) 38)).alloc (.cells (arr .u8 32 (fun _ => 0)) 38)) := ((Below.refl _ _).alloc (Nat.le_refl _) _).alloc (by simp) _
  go_wp2_with fail
  refine (taken_num _ A 32 _ (hA1.rd (by decide)) (by decide) HA.out).mono ?_
  rintro e w2 ⟨rfl, hb2⟩
  have hZ2 := hZ1.kept hb2
  have hZlt := hZ1.lt
  have hbel := hb1.trans (hb2.mono hb1.size)
  have hs1 := hb2.size
  clear hb1 hb2 hZ1 hA1
  have hw2s : w.heap.size + 2 ≤ w2.heap.size := by simpa using hs1
  have hZlt2 := hZ2.lt
  clear hs1 hZlt
  have hz0 := dg_all_zero (A % Q) ⟨(modQ A).1, Int.lt_trans (modQ A).2 (by decide)⟩
  have hneg : -A % Q = if A % Q = 0 then 0 else Q - A % Q := by unfold Q; split <;> omega
  have HN := Lib.hid hneg
  clear hneg
  by_cases hz : A % Q = 0
  · rw [decide_eq_true hz] at hz0
    have HN2 : Hid (-A % Q = 0) := by unfold Hid; rw [HN.out, if_pos hz]
    have HZ0 := Lib.hid hz0
    clear hz0 hz HN
    go_wp2_with (first
      | (refine store_arr rfl 91 _ _ rfl .u32 w2.heap.size 17 (fun _ => 0) _ Try.size91 rfl rfl (Arr.newAt rfl rfl) ?_)
      | (refine load_arr rfl 91 _ rfl .u32 w2.heap.size 17 _ 40 Try.underlying91 Try.size91 rfl (Arr.setRow (Arr.newAt (n := 17) (f := fun _ => 0) rfl rfl) _ _) ?_)
      | (refine step_val rfl (run_eql_arr (g := fun _ => 0) true rfl rfl rfl Try.underlying91 (by kernel_rfl) (by kernel_rfl) (by kernel_rfl) (by kernel_rfl) (by kernel_rfl) HZ0.out) ?_)
      | (refine store_arr rfl 38 _ _ rfl .u8 (w.heap.size + 1) 32 (fun _ => 0) (fun _ => 0) Try.size38 rfl rfl (Arr.setRowOther (Arr.alloc hZ2 _) _ (by omega) _) ?_))
    refine bodyPost_ret (results_arr rfl _ _ .u8 (w.heap.size + 1) 32 _ 5 rfl (Arr.setRow (Arr.setRowOther (Arr.alloc hZ2 _) _ (by omega) _) _ _) Try.underlying38 Try.size38) rfl ⟨by rw [HN2.out, zero32], below_setRow' (below_setRow' (hbel.alloc hbel.size _) hbel.size _) (by omega) _⟩
  · rw [decide_eq_false hz] at hz0
    have HN2 : Hid (-A % Q = Q - A % Q) := by unfold Hid; rw [HN.out, if_neg hz]
    have HZ0 := Lib.hid hz0
    clear hz0 hz HN
    go_wp2_with (first
      | (refine store_arr rfl 91 _ _ rfl .u32 w2.heap.size 17 (fun _ => 0) _ Try.size91 rfl rfl (Arr.newAt rfl rfl) ?_)
      | (refine load_arr rfl 91 _ rfl .u32 w2.heap.size 17 _ 40 Try.underlying91 Try.size91 rfl (Arr.setRow (Arr.newAt (n := 17) (f := fun _ => 0) rfl rfl) _ _) ?_)
      | (refine step_val rfl (run_eql_arr (g := fun _ => 0) false rfl rfl rfl Try.underlying91 (by kernel_rfl) (by kernel_rfl) (by kernel_rfl) (by kernel_rfl) (by kernel_rfl) HZ0.out) ?_))
    refine wp_world (fun w3 => Arr .u32 w3 w2.heap.size 17 (dg 65536 (A % Q)) ∧ Arr .u8 w3 (w.heap.size + 1) 32 (fun _ => 0) ∧ Below w.heap.size w w3) ⟨Arr.setRow (Arr.newAt (n := 17) (f := fun _ => 0) rfl rfl) _ _, Arr.setRowOther (Arr.alloc hZ2 _) _ (by omega) _, below_setRow' (hbel.alloc hbel.size _) hbel.size _⟩ ?_
    rintro w3 ⟨hX, hZ, hbel3⟩
    have hm := modQ A
    refine region_vars (n := 21) (by kernel_rfl) (by kernel_rfl) (by kernel_rfl) rfl
      (fun i v _ => (match i with | 0 => v = .agg (arr .u8 32 (dg 256 Q)) | 1 => v = .agg (arr .u32 17 (dg 65536 Q)) | 2 => v = .agg (arr .u32 17 (dg 65536 (A % Q))) | 3 | 4 => v = .tuple #[.agg (arr .u32 17 (dg 65536 (Q - A % Q))), .bool (decide (A % Q ≤ Q))] | 5 => v = .agg (arr .u32 17 (dg 65536 (Q - A % Q))) | 6 | 9 => v = .bool (decide (A % Q ≤ Q)) | _ => True))
      (fun _ _ => True) (fun _ _ _ => trivial) (fun _ _ _ _ => trivial) (fun _ _ _ _ h _ => h)
      (isAl [(8, 7)]) (putOf [(8, 7)]) (fun _ => arr .u32 17 (fun _ => 0)) (fun _ => (arr .u32 17 (dg 65536 (Q - A % Q)))) (fun _ => 91) (fun _ => 4)
      (vs_al rfl) (vs_inj rfl) ?_ ?_ ?_ ?_
    · refine Each.all ?_
      refine ⟨?_, ?_, ?_, ?_, ?_, ?_, ?_, (fun h => by cases h), (fun _ h => by cases h), ?_, trivial⟩
      · intro _ _ a w2 hB hF hd
        rw [if_pos (wanted_none rfl)]
        refine flow_call _ _ _ rfl Try.call31 _ args0 (by simp) ((order_any w2).mono ?_)
        rintro e w3 ⟨rfl, hb⟩; exact ⟨_, rfl, rfl, hb⟩
      · intro _ _ a w2 hB hF hd
        rw [if_pos (wanted_none rfl)]
        refine flow_call _ _ _ rfl Try.call59 _ (args1 (hd 0 _ rfl rfl rfl (waits_spec rfl))) (by simp) ((of_any Q w2 (by decide)).mono ?_)
        rintro e w3 ⟨rfl, hb⟩; exact ⟨_, rfl, rfl, hb⟩
      · intro _ _ a w2 hB hF hd
        rw [if_pos (wanted_none rfl)]
        exact flow_val (fun h => by cases h) (run_load_arr rfl Try.underlying91 Try.size91 (hF.same 3 rfl) (hX.below hB hX.lt)) rfl
      · intro _ _ a w2 hB hF hd
        rw [if_pos (wanted_none rfl)]
        refine flow_call _ _ _ rfl Try.call60 _ (args2 (hd 1 _ rfl rfl rfl (waits_spec rfl)) (hd 2 _ rfl rfl rfl (waits_spec rfl))) (by simp) ((less_any Q (A % Q) w2 (by decide) ⟨hm.1, Int.lt_trans hm.2 (by decide)⟩).mono ?_)
        rintro e w3 ⟨rfl, hb⟩; exact ⟨_, rfl, rfl, hb⟩
      · intro _ _ a w2 hB hF hd
        rw [if_pos (wanted_none rfl)]
        exact flow_move _ (.inl rfl) (by simp) (hd 3 _ rfl rfl rfl (waits_spec rfl))
      · intro _ _ a w2 hB hF hd
        rw [if_pos (wanted_none rfl)]
        exact flow_val (fun h => by cases h) (run_extract rfl (hd 4 _ rfl rfl rfl (waits_spec rfl)) rfl) rfl
      · intro _ _ a w2 hB hF hd
        rw [if_pos (wanted_none rfl)]
        exact flow_val (fun h => by cases h) (run_extract rfl (hd 4 _ rfl rfl rfl (waits_spec rfl)) rfl) rfl
      · intro _ _ a w2 hB hF hd
        rw [if_pos (wanted_none rfl)]
        exact flow_move _ (.inr rfl) (by simp) (hd 6 _ rfl rfl rfl (waits_spec rfl))
    · refine Each.all ?_
      refine ⟨(fun h => by cases h), (fun h => by cases h), (fun h => by cases h), (fun h => by cases h), (fun h => by cases h), (fun h => by cases h), (fun h => by cases h), ?_, (fun h => by cases h), (fun h => by cases h), trivial⟩
      · exact fun _ => ⟨rfl, rfl, fun a w2 K h => flow_alloc rfl rfl Try.zeroValue91 (by simp) h⟩
    · refine Each.all ?_
      refine ⟨(fun _ h => by cases h), (fun _ h => by cases h), (fun _ h => by cases h), (fun _ h => by cases h), (fun _ h => by cases h), (fun _ h => by cases h), (fun _ h => by cases h), (fun _ h => by cases h), ?_, (fun _ h => by cases h), trivial⟩
      · intro p hp
        obtain rfl : 7 = p := Option.some.inj hp
        exact ⟨rfl, rfl, ⟨_, rfl⟩, waits_spec rfl, fun a w2 b K hB hF hd hx hb h => flow_put rfl rfl Try.size91 hx (hd 5 _ rfl rfl rfl (waits_spec rfl)) hb h⟩
    · intro a w5 blk hB hF hS hv hfin hdis
      obtain ⟨v7, v7l, v7u⟩ := hv 7 _ rfl rfl
      have ha := puts_each rfl rfl hF [_, _, _, _, _, _, _, _, undef, _] rfl ⟨hS 0 _ rfl rfl rfl, hS 1 _ rfl rfl rfl, hS 2 _ rfl rfl rfl, hS 3 _ rfl rfl rfl, hS 4 _ rfl rfl rfl, hS 5 _ rfl rfl rfl, hS 6 _ rfl rfl rfl, v7, trivial, hS 9 _ rfl rfl rfl, trivial⟩
      have f7 := hfin 8 _ 7 rfl rfl
      simp only [puts, Act.put, List.setIfInBounds_toArray, List.set_cons_succ, List.set_cons_zero] at ha
      subst ha
      have V7 : Arr .u32 w5 (blk 7) 17 (dg 65536 (Q - A % Q)) := ⟨_, f7⟩
      clear hS hv hfin hdis hF v7 f7
      have hZ5 := hZ.below hB hZ.lt
      have hb5 := hbel3.trans (hB.mono hbel3.size)
      clear hZ hX hB hbel3 hbel hZ2
      go_wp2_with (refine load_arr rfl 91 _ rfl .u32 (blk 7) 17 _ 40 Try.underlying91 Try.size91 rfl V7 ?_)
      refine (bytes_any _ _).mono ?_
      rintro e w4 ⟨rfl, hb4⟩
      have hZ4 := hZ5.kept hb4
      have hb6 := hb5.trans (hb4.mono hb5.size)
      clear hb4 hb5 hZ5
      go_wp2_with (refine store_arr rfl 38 _ _ rfl .u8 (w.heap.size + 1) 32 (fun _ => 0) _ Try.size38 rfl rfl hZ4 ?_)
      refine bodyPost_ret (results_arr rfl _ _ .u8 (w.heap.size + 1) 32 _ 5 rfl (hZ4.setRow _ _) Try.underlying38 Try.size38) rfl ⟨by rw [HN2.out], below_setRow' hb6 (by omega) _⟩
end Go.Proofs.Ytiiafgbdmejcpaa
