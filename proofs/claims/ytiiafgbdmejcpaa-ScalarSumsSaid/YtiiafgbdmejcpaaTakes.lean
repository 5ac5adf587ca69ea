/-
  The law ScalarTakes answers true.
-/
import Derived.Test.YtiiafgbdmejcpaaRef8
import Derived.Test.YtiiafgbdmejcpaaScLaws
import Derived.Test.YtiiafgbdmejcpaaStep
namespace Go.Proofs.Ytiiafgbdmejcpaa
open Go.RowKit Go.Bas Go.ChangeShapes
attribute [local go_sem ↓] Go.wp_at_zero Go.wp_at_succ

theorem rQ_rd (w : World) : Calls Try.prog 33 #[] w fun e w' => ∃ v, e = .returned v ∧ Rd .i64 w' v 16 (dg 65536 Q) ∧ Below w.heap.size w w' :=
  (rQ_any w).mono fun _ _ ⟨v, h1, h2, h3⟩ => ⟨v, h1, h2.rd, h3⟩
theorem rDigits_rd (C : Int) (w : World) : Calls Try.prog 36 #[.agg (arr .u8 32 (dg 256 C))] w fun e w' => ∃ v, e = .returned v ∧ Rd .i64 w' v 16 (dg 65536 C) ∧ Below w.heap.size w w' :=
  (rDigits_any C w).mono fun _ _ ⟨v, h1, h2, h3⟩ => ⟨v, h1, h2.rd, h3⟩
theorem Q16 : (0 : Int) ≤ Q ∧ Q < 65536 ^ 16 := by decide
theorem num32 (f : Nat → Int) (h : ∀ i, i < 32 → (Lit.int .u8 (f i)).wf = true) : ∃ X : Int, arr .u8 32 f = arr .u8 32 (dg 256 X) ∧ 0 ≤ X ∧ X < 256 ^ 32 := by
  have h' : ∀ i, i < 32 → 0 ≤ f i ∧ f i < 256 := fun i hi => by have := bounds_u8 (h i hi); omega
  exact ⟨sm 256 f 32, arr_congr fun i hi => (dg_sm (by decide) h' i hi).symm, sm_bound (by decide) h'⟩
theorem numB (v : Value) (n : Nat) (f : Nat → Int) (w : World) (hv : Rd .u8 w v n f) (h : ∀ i, i < n → (Lit.int .u8 (f i)).wf = true) : ∃ X : Int, Rd .u8 w v n (dg 256 X) ∧ 0 ≤ X ∧ X < 256 ^ n := by
  have h' : ∀ i, i < n → 0 ≤ f i ∧ f i < 256 := fun i hi => by have := bounds_u8 (h i hi); omega
  exact ⟨sm 256 f n, hv.congr fun i hi => (dg_sm (by decide) h' i hi).symm, sm_bound (by decide) h'⟩
theorem right_least (C : Int) : (decide (C < Q) == decide (Q ≤ C)) = false := by
  by_cases h : C < Q
  · rw [decide_eq_true h, decide_eq_false (by omega : ¬ Q ≤ C)]; rfl
  · rw [decide_eq_false h, decide_eq_true (by omega : Q ≤ C)]; rfl

theorem Right_yes (X : Int) (w : World) : Calls Try.prog 34 #[.agg (arr .u8 32 (dg 256 (X % Q)))] w fun e w' => e = .returned (.bool true) ∧ Below w.heap.size w w' := by
  have h := Right_any (X % Q) w (modQ_byte X)
  rwa [decide_eq_true (modQ X).2] at h

set_option maxRecDepth 100000 in
set_option maxHeartbeats 6400000 in
theorem scalarTakes_law (w : World) (v : Value) (n : Nat) (f : Nat → Int) (hv : Rd .u8 w v n f) (hf : ∀ i, i < n → (Lit.int .u8 (f i)).wf = true) (fc : Nat → Int) (hc : ∀ i, i < 32 → (Lit.int .u8 (fc i)).wf = true) :
    Calls Try.prog 7 #[v, .agg (arr .u8 32 fc)] w fun e w' => e = .returned (.bool true) ∧ Below w.heap.size w w' := by
  obtain ⟨C, eC, hC⟩ := num32 fc hc
  obtain ⟨X, hX, hXb⟩ := numB v n f w hv hf
  have e32 : (256 : Int) ^ 32 = 65536 ^ 16 := by decide
  have hC' := hC
  rw [e32] at hC'
  have hx2 := hX
  obtain ⟨a1, c1, rfl, l1, m1, z1, h1⟩ := hx2
  rw [eC]
  have HC := Lib.hid hC
  have HC2 := Lib.hid hC'
  have HX := Lib.hid hX
  have HXB := Lib.hid hXb
  clear hC hC' hX hXb hv hf hc eC e32 z1 h1
  go_enter Try.func7, Try.ntmps7
  have hC1 : Arr .u8 (w.alloc (.cells (arr .u8 32 (dg 256 C)) 38)) w.heap.size 32 (dg 256 C) := Arr.newAt rfl rfl
  have hb1 : Below w.heap.size w (w.alloc (.cells (arr .u8 32 (dg 256 C)) 38)) := (Below.refl _ _).alloc (Nat.le_refl _) _
  go_wp2_with fail
  refine (awake_any _).mono ?_
  rintro e w2 ⟨rfl, hb2⟩
  have hC2 := hC1.kept hb2
  have hbel := hb1.trans (hb2.mono hb1.size)
  have HX2 := Lib.hid (HX.out.below hbel)
  clear hC1 hb1 hb2 HX
  by_cases hlong : 128 < n
  · go_wp2_with fail
    refine (Of_long _ n _ _ HX2.out hlong).mono ?_
    rintro e w4 ⟨rfl, hb4⟩
    have hC4 := hC2.kept hb4
    have hbel4 := hbel.trans (hb4.mono hbel.size)
    have hC4l := hC4.lt
    clear hC2 hb4 hbel
    go_wp2_with (refine store_arr rfl 38 _ _ rfl .u8 w4.heap.size 32 (fun _ => 0) _ Try.size38 rfl rfl (Arr.newAt rfl rfl) ?_)
    refine wp_world (fun w5 => Arr .u8 w5 w4.heap.size 32 (fun _ => 0) ∧ Arr .u8 w5 w.heap.size 32 (dg 256 C) ∧ Below w.heap.size w w5)
      ⟨Arr.setRow (Arr.newAt (n := 32) (f := fun _ => 0) rfl rfl) _ _, Arr.setRowOther (Arr.alloc hC4 _) _ (by omega) _, below_setRow' (hbel4.alloc hbel4.size _) hbel4.size _⟩ ?_
    rintro w5 ⟨hXx, hCc, hbel⟩
    clear hC4 hC4l hbel4
    refine region_flow (n := 49) (by kernel_rfl) (by kernel_rfl) (by kernel_rfl) rfl
      (fun i v w => (match i with | 0 | 2 => v = .agg (arr .u8 32 (dg 256 (Q))) | 3 | 4 | 11 | 12 => v = .bool false | 5 | 7 => v = .agg (arr .u8 32 (dg 256 (C))) | 6 => v = .bool ((decide (C < Q))) | 10 => v = .bool ((decide (Q ≤ C))) | _ => True) ∧ (i = 1 → Rd .i64 w v 16 (dg 65536 Q)) ∧ (i = 8 → Rd .i64 w v 16 (dg 65536 C)) ∧ (i = 9 → Rd .i64 w v 16 (dg 65536 Q)))
      (fun w w' => Below w.heap.size w w') (fun _ _ h => h) (fun i v w w' h hE => ⟨h.1, fun e => Rd.below (h.2.1 e) hE, fun e => Rd.below (h.2.2.1 e) hE, fun e => Rd.below (h.2.2.2 e) hE⟩) ?_ ?_
    · refine Each.all ?_
      refine ⟨?_, ?_, ?_, ?_, ?_, ?_, ?_, ?_, ?_, ?_, ?_, ?_, ?_, trivial⟩
      · intro a w2 hB hF hd
        rw [if_pos (wanted_none rfl)]
        refine flow_call _ _ _ rfl Try.call31 _ args0 (by simp) ((order_any w2).mono ?_)
        rintro e w3 ⟨rfl, hb⟩; exact ⟨_, rfl, ⟨rfl, fun h => absurd h (by decide), fun h => absurd h (by decide), fun h => absurd h (by decide)⟩, hb⟩
      · intro a w2 hB hF hd
        rw [if_pos (wanted_none rfl)]
        refine flow_call _ _ _ rfl Try.call33 _ args0 (by simp) ((rQ_rd w2).mono ?_)
        rintro e w3 ⟨u, rfl, hr, hb⟩; exact ⟨u, rfl, ⟨trivial, fun _ => hr, fun h => absurd h (by decide), fun h => absurd h (by decide)⟩, hb⟩
      · intro a w2 hB hF hd
        rw [if_pos (wanted_none rfl)]
        refine flow_call _ _ _ rfl Try.call32 _ (args1 rfl) (by simp) ((rBytes_any _ Q 16 (by decide) w2 ((hd 1 _ rfl (waits_spec rfl)).2.1 rfl)).mono ?_)
        rintro e w3 ⟨rfl, hb⟩; exact ⟨_, rfl, ⟨rfl, fun h => absurd h (by decide), fun h => absurd h (by decide), fun h => absurd h (by decide)⟩, hb⟩
      · intro a w2 hB hF hd
        rw [if_pos (wanted_none rfl)]
        exact flow_val (fun h => by cases h) (run_neq_arr true rfl ((hd 0 _ rfl (waits_spec rfl)).1) ((hd 2 _ rfl (waits_spec rfl)).1) Try.underlying38 (by kernel_rfl) (by kernel_rfl) (by kernel_rfl) (by kernel_rfl) (by kernel_rfl) sameB_self) ⟨rfl, fun h => absurd h (by decide), fun h => absurd h (by decide), fun h => absurd h (by decide)⟩
      · intro a w2 hB hF hd
        rw [if_pos (wanted_none rfl)]
        exact flow_move _ (.inl rfl) (by simp) ⟨((hd 3 _ rfl (waits_spec rfl)).1), fun h => absurd h (by decide), fun h => absurd h (by decide), fun h => absurd h (by decide)⟩
      · intro a w2 hB hF hd
        refine flow_wanted (wanted_yes rfl rfl ((hd 4 _ rfl (waits_spec rfl)).1) rfl) ?_
        exact flow_val (fun h => by cases h) (run_load_arr rfl Try.underlying38 Try.size38 (hF.same 3 rfl) (hCc.below hB hCc.lt)) ⟨rfl, fun h => absurd h (by decide), fun h => absurd h (by decide), fun h => absurd h (by decide)⟩
      · intro a w2 hB hF hd
        refine flow_wanted (wanted_yes rfl rfl ((hd 4 _ rfl (waits_spec rfl)).1) rfl) ?_
        refine flow_call _ _ _ rfl Try.call34 _ (args1 ((hd 5 _ rfl (waits_spec rfl)).1)) (by simp) ((Right_any C w2 HC.out).mono ?_)
        rintro e w3 ⟨rfl, hb⟩; exact ⟨_, rfl, ⟨rfl, fun h => absurd h (by decide), fun h => absurd h (by decide), fun h => absurd h (by decide)⟩, hb⟩
      · intro a w2 hB hF hd
        refine flow_wanted (wanted_yes rfl rfl ((hd 4 _ rfl (waits_spec rfl)).1) rfl) ?_
        exact flow_val (fun h => by cases h) (run_load_arr rfl Try.underlying38 Try.size38 (hF.same 3 rfl) (hCc.below hB hCc.lt)) ⟨rfl, fun h => absurd h (by decide), fun h => absurd h (by decide), fun h => absurd h (by decide)⟩
      · intro a w2 hB hF hd
        refine flow_wanted (wanted_yes rfl rfl ((hd 4 _ rfl (waits_spec rfl)).1) rfl) ?_
        refine flow_call _ _ _ rfl Try.call36 _ (args1 ((hd 7 _ rfl (waits_spec rfl)).1)) (by simp) ((rDigits_rd C w2).mono ?_)
        rintro e w3 ⟨u, rfl, hr, hb⟩; exact ⟨u, rfl, ⟨trivial, fun h => absurd h (by decide), fun _ => hr, fun h => absurd h (by decide)⟩, hb⟩
      · intro a w2 hB hF hd
        refine flow_wanted (wanted_yes rfl rfl ((hd 4 _ rfl (waits_spec rfl)).1) rfl) ?_
        refine flow_call _ _ _ rfl Try.call33 _ args0 (by simp) ((rQ_rd w2).mono ?_)
        rintro e w3 ⟨u, rfl, hr, hb⟩; exact ⟨u, rfl, ⟨trivial, fun h => absurd h (by decide), fun h => absurd h (by decide), fun _ => hr⟩, hb⟩
      · intro a w2 hB hF hd
        refine flow_wanted (wanted_yes rfl rfl ((hd 4 _ rfl (waits_spec rfl)).1) rfl) ?_
        refine flow_call _ _ _ rfl Try.call35 _ (args2 rfl rfl) (by simp) ((rAtLeast_any _ _ C Q 16 16 (Nat.le_refl _) w2 ((hd 8 _ rfl (waits_spec rfl)).2.2.1 rfl) ((hd 9 _ rfl (waits_spec rfl)).2.2.2 rfl) HC2.out Q16).mono ?_)
        rintro e w3 ⟨rfl, hb⟩; exact ⟨_, rfl, ⟨rfl, fun h => absurd h (by decide), fun h => absurd h (by decide), fun h => absurd h (by decide)⟩, hb⟩
      · intro a w2 hB hF hd
        refine flow_wanted (wanted_yes rfl rfl ((hd 4 _ rfl (waits_spec rfl)).1) rfl) ?_
        refine flow_val (fun h => by cases h) (Go.Bas.run_eql_bool rfl ((hd 6 _ rfl (waits_spec rfl)).1) ((hd 10 _ rfl (waits_spec rfl)).1) Try.underlying4) ?_
        exact ⟨(congrArg Value.bool (right_least C)), fun h => absurd h (by decide), fun h => absurd h (by decide), fun h => absurd h (by decide)⟩
      · intro a w2 hB hF hd
        rw [if_pos (wanted_none rfl)]
        exact flow_val (fun h => by cases h) (run_pick rfl ((hd 4 _ rfl (waits_spec rfl)).1)) ⟨(((hd 11 _ rfl (waits_spec rfl)).1)), fun h => absurd h (by decide), fun h => absurd h (by decide), fun h => absurd h (by decide)⟩
    · intro a w6 hB hF hS
      obtain ⟨x15, hx15⟩ : ∃ x, x = a.tmps.getD 15 undef := ⟨_, rfl⟩
      obtain ⟨x22, hx22⟩ : ∃ x, x = a.tmps.getD 22 undef := ⟨_, rfl⟩
      obtain ⟨x23, hx23⟩ : ∃ x, x = a.tmps.getD 23 undef := ⟨_, rfl⟩
      have ha := puts_each rfl rfl hF [_, x15, _, _, _, _, _, _, x22, x23, _, _, _] rfl ⟨(hS 0 _ rfl).1, hx15.symm, (hS 2 _ rfl).1, (hS 3 _ rfl).1, (hS 4 _ rfl).1, (hS 5 _ rfl).1, (hS 6 _ rfl).1, (hS 7 _ rfl).1, hx22.symm, hx23.symm, (hS 10 _ rfl).1, (hS 11 _ rfl).1, (hS 12 _ rfl).1, trivial⟩
      simp only [puts, Act.put, List.setIfInBounds_toArray, List.set_cons_succ, List.set_cons_zero] at ha
      subst ha
      clear hx15 hx22 hx23
      clear hS hF
      have hX5 := hXx.below hB hXx.lt
      have hb6 := hbel.trans (hB.mono hbel.size)
      clear hXx hCc hbel hB
      go_wp2_with (first
        | (refine step_valg (wanted_yes rfl rfl rfl rfl) (run_load_arr rfl Try.underlying38 Try.size38 rfl hX5) ?_)
        | (refine step_valg (wanted_yes rfl rfl rfl rfl) (run_eql_arr (f := fun _ => 0) (g := fun _ => 0) true rfl rfl rfl Try.underlying38 (by kernel_rfl) (by kernel_rfl) (by kernel_rfl) (by kernel_rfl) (by kernel_rfl) sameB_self) ?_))

      go_ret
      exact ⟨rfl, hb6⟩
  · go_wp2_with fail
    refine (Of_num _ X n _ HX2.out (by omega) HXB.out).mono ?_
    rintro e w4 ⟨rfl, hb4⟩
    have hC4 := hC2.kept hb4
    have hbel4 := hbel.trans (hb4.mono hbel.size)
    have HX4 := Lib.hid (HX2.out.below hb4)
    have hC4l := hC4.lt
    clear hC2 hb4 hbel HX2
    go_wp2_with (refine store_arr rfl 38 _ _ rfl .u8 w4.heap.size 32 (fun _ => 0) _ Try.size38 rfl rfl (Arr.newAt rfl rfl) ?_)
    refine wp_world (fun w5 => Arr .u8 w5 w4.heap.size 32 (dg 256 (X % Q)) ∧ Arr .u8 w5 w.heap.size 32 (dg 256 C) ∧ Rd .u8 w5 (.slice a1 n c1) n (dg 256 X) ∧ Below w.heap.size w w5)
      ⟨Arr.setRow (Arr.newAt (n := 32) (f := fun _ => 0) rfl rfl) _ _, Arr.setRowOther (Arr.alloc hC4 _) _ (by omega) _, HX4.out.below (below_setRow' ((Below.refl _ _).alloc (Nat.le_refl _) _) (Nat.le_refl _) _), below_setRow' (hbel4.alloc hbel4.size _) hbel4.size _⟩ ?_
    rintro w5 ⟨hXx, hCc, hRx, hbel⟩
    clear hC4 hC4l hbel4
    have HRx := Lib.hid hRx
    clear hRx
    refine region_flow (n := 49) (by kernel_rfl) (by kernel_rfl) (by kernel_rfl) rfl
      (fun i v w => (match i with | 0 | 2 => v = .agg (arr .u8 32 (dg 256 (Q))) | 3 | 4 | 11 | 12 => v = .bool false | 5 | 7 => v = .agg (arr .u8 32 (dg 256 (C))) | 6 => v = .bool ((decide (C < Q))) | 10 => v = .bool ((decide (Q ≤ C))) | _ => True) ∧ (i = 1 → Rd .i64 w v 16 (dg 65536 Q)) ∧ (i = 8 → Rd .i64 w v 16 (dg 65536 C)) ∧ (i = 9 → Rd .i64 w v 16 (dg 65536 Q)))
      (fun w w' => Below w.heap.size w w') (fun _ _ h => h) (fun i v w w' h hE => ⟨h.1, fun e => Rd.below (h.2.1 e) hE, fun e => Rd.below (h.2.2.1 e) hE, fun e => Rd.below (h.2.2.2 e) hE⟩) ?_ ?_
    · refine Each.all ?_
      refine ⟨?_, ?_, ?_, ?_, ?_, ?_, ?_, ?_, ?_, ?_, ?_, ?_, ?_, trivial⟩
      · intro a w2 hB hF hd
        rw [if_pos (wanted_none rfl)]
        refine flow_call _ _ _ rfl Try.call31 _ args0 (by simp) ((order_any w2).mono ?_)
        rintro e w3 ⟨rfl, hb⟩; exact ⟨_, rfl, ⟨rfl, fun h => absurd h (by decide), fun h => absurd h (by decide), fun h => absurd h (by decide)⟩, hb⟩
      · intro a w2 hB hF hd
        rw [if_pos (wanted_none rfl)]
        refine flow_call _ _ _ rfl Try.call33 _ args0 (by simp) ((rQ_rd w2).mono ?_)
        rintro e w3 ⟨u, rfl, hr, hb⟩; exact ⟨u, rfl, ⟨trivial, fun _ => hr, fun h => absurd h (by decide), fun h => absurd h (by decide)⟩, hb⟩
      · intro a w2 hB hF hd
        rw [if_pos (wanted_none rfl)]
        refine flow_call _ _ _ rfl Try.call32 _ (args1 rfl) (by simp) ((rBytes_any _ Q 16 (by decide) w2 ((hd 1 _ rfl (waits_spec rfl)).2.1 rfl)).mono ?_)
        rintro e w3 ⟨rfl, hb⟩; exact ⟨_, rfl, ⟨rfl, fun h => absurd h (by decide), fun h => absurd h (by decide), fun h => absurd h (by decide)⟩, hb⟩
      · intro a w2 hB hF hd
        rw [if_pos (wanted_none rfl)]
        exact flow_val (fun h => by cases h) (run_neq_arr true rfl ((hd 0 _ rfl (waits_spec rfl)).1) ((hd 2 _ rfl (waits_spec rfl)).1) Try.underlying38 (by kernel_rfl) (by kernel_rfl) (by kernel_rfl) (by kernel_rfl) (by kernel_rfl) sameB_self) ⟨rfl, fun h => absurd h (by decide), fun h => absurd h (by decide), fun h => absurd h (by decide)⟩
      · intro a w2 hB hF hd
        rw [if_pos (wanted_none rfl)]
        exact flow_move _ (.inl rfl) (by simp) ⟨((hd 3 _ rfl (waits_spec rfl)).1), fun h => absurd h (by decide), fun h => absurd h (by decide), fun h => absurd h (by decide)⟩
      · intro a w2 hB hF hd
        refine flow_wanted (wanted_yes rfl rfl ((hd 4 _ rfl (waits_spec rfl)).1) rfl) ?_
        exact flow_val (fun h => by cases h) (run_load_arr rfl Try.underlying38 Try.size38 (hF.same 3 rfl) (hCc.below hB hCc.lt)) ⟨rfl, fun h => absurd h (by decide), fun h => absurd h (by decide), fun h => absurd h (by decide)⟩
      · intro a w2 hB hF hd
        refine flow_wanted (wanted_yes rfl rfl ((hd 4 _ rfl (waits_spec rfl)).1) rfl) ?_
        refine flow_call _ _ _ rfl Try.call34 _ (args1 ((hd 5 _ rfl (waits_spec rfl)).1)) (by simp) ((Right_any C w2 HC.out).mono ?_)
        rintro e w3 ⟨rfl, hb⟩; exact ⟨_, rfl, ⟨rfl, fun h => absurd h (by decide), fun h => absurd h (by decide), fun h => absurd h (by decide)⟩, hb⟩
      · intro a w2 hB hF hd
        refine flow_wanted (wanted_yes rfl rfl ((hd 4 _ rfl (waits_spec rfl)).1) rfl) ?_
        exact flow_val (fun h => by cases h) (run_load_arr rfl Try.underlying38 Try.size38 (hF.same 3 rfl) (hCc.below hB hCc.lt)) ⟨rfl, fun h => absurd h (by decide), fun h => absurd h (by decide), fun h => absurd h (by decide)⟩
      · intro a w2 hB hF hd
        refine flow_wanted (wanted_yes rfl rfl ((hd 4 _ rfl (waits_spec rfl)).1) rfl) ?_
        refine flow_call _ _ _ rfl Try.call36 _ (args1 ((hd 7 _ rfl (waits_spec rfl)).1)) (by simp) ((rDigits_rd C w2).mono ?_)
        rintro e w3 ⟨u, rfl, hr, hb⟩; exact ⟨u, rfl, ⟨trivial, fun h => absurd h (by decide), fun _ => hr, fun h => absurd h (by decide)⟩, hb⟩
      · intro a w2 hB hF hd
        refine flow_wanted (wanted_yes rfl rfl ((hd 4 _ rfl (waits_spec rfl)).1) rfl) ?_
        refine flow_call _ _ _ rfl Try.call33 _ args0 (by simp) ((rQ_rd w2).mono ?_)
        rintro e w3 ⟨u, rfl, hr, hb⟩; exact ⟨u, rfl, ⟨trivial, fun h => absurd h (by decide), fun h => absurd h (by decide), fun _ => hr⟩, hb⟩
      · intro a w2 hB hF hd
        refine flow_wanted (wanted_yes rfl rfl ((hd 4 _ rfl (waits_spec rfl)).1) rfl) ?_
        refine flow_call _ _ _ rfl Try.call35 _ (args2 rfl rfl) (by simp) ((rAtLeast_any _ _ C Q 16 16 (Nat.le_refl _) w2 ((hd 8 _ rfl (waits_spec rfl)).2.2.1 rfl) ((hd 9 _ rfl (waits_spec rfl)).2.2.2 rfl) HC2.out Q16).mono ?_)
        rintro e w3 ⟨rfl, hb⟩; exact ⟨_, rfl, ⟨rfl, fun h => absurd h (by decide), fun h => absurd h (by decide), fun h => absurd h (by decide)⟩, hb⟩
      · intro a w2 hB hF hd
        refine flow_wanted (wanted_yes rfl rfl ((hd 4 _ rfl (waits_spec rfl)).1) rfl) ?_
        refine flow_val (fun h => by cases h) (Go.Bas.run_eql_bool rfl ((hd 6 _ rfl (waits_spec rfl)).1) ((hd 10 _ rfl (waits_spec rfl)).1) Try.underlying4) ?_
        exact ⟨(congrArg Value.bool (right_least C)), fun h => absurd h (by decide), fun h => absurd h (by decide), fun h => absurd h (by decide)⟩
      · intro a w2 hB hF hd
        rw [if_pos (wanted_none rfl)]
        exact flow_val (fun h => by cases h) (run_pick rfl ((hd 4 _ rfl (waits_spec rfl)).1)) ⟨(((hd 11 _ rfl (waits_spec rfl)).1)), fun h => absurd h (by decide), fun h => absurd h (by decide), fun h => absurd h (by decide)⟩
    · intro a w6 hB hF hS
      obtain ⟨x15, hx15⟩ : ∃ x, x = a.tmps.getD 15 undef := ⟨_, rfl⟩
      obtain ⟨x22, hx22⟩ : ∃ x, x = a.tmps.getD 22 undef := ⟨_, rfl⟩
      obtain ⟨x23, hx23⟩ : ∃ x, x = a.tmps.getD 23 undef := ⟨_, rfl⟩
      have ha := puts_each rfl rfl hF [_, x15, _, _, _, _, _, _, x22, x23, _, _, _] rfl ⟨(hS 0 _ rfl).1, hx15.symm, (hS 2 _ rfl).1, (hS 3 _ rfl).1, (hS 4 _ rfl).1, (hS 5 _ rfl).1, (hS 6 _ rfl).1, (hS 7 _ rfl).1, hx22.symm, hx23.symm, (hS 10 _ rfl).1, (hS 11 _ rfl).1, (hS 12 _ rfl).1, trivial⟩
      simp only [puts, Act.put, List.setIfInBounds_toArray, List.set_cons_succ, List.set_cons_zero] at ha
      subst ha
      clear hx15 hx22 hx23
      clear hS hF
      have hX5 := hXx.below hB hXx.lt
      have hb6 := hbel.trans (hB.mono hbel.size)
      have HR6 := Lib.hid (HRx.out.below (hB.mono (Nat.le_refl _)))
      clear hXx hCc hbel hB HRx
      go_wp2_with fail
      refine region_flow (n := 49) (by kernel_rfl) (by kernel_rfl) (by kernel_rfl) rfl
        (fun i v _ => (match i with | 0 => v = .int .i64 (0) | 1 | 2 | 6 | 7 | 8 | 10 | 11 | 12 => v = .bool true | 3 | 5 | 9 => v = .agg (arr .u8 32 (dg 256 ((X % Q)))) | 4 => v = .slice a1 n c1 | _ => True))
        (fun w w' => Below w.heap.size w w') (fun _ _ h => h) (fun _ _ _ _ h _ => h) ?_ ?_
      · refine Each.all ?_
        refine ⟨?_, ?_, ?_, ?_, ?_, ?_, ?_, ?_, ?_, ?_, ?_, ?_, ?_, trivial⟩
        · intro a w2 hB hF hd
          rw [if_pos (wanted_none rfl)]
          exact flow_move _ (.inl rfl) (by simp) (hF.same 6 rfl)
        · intro a w2 hB hF hd
          rw [if_pos (wanted_none rfl)]
          refine flow_val (fun h => by cases h) (Go.Bas.run_eql_int rfl (hd 0 _ rfl (waits_spec rfl)) rfl) ?_
          exact rfl
        · intro a w2 hB hF hd
          rw [if_pos (wanted_none rfl)]
          exact flow_move _ (.inl rfl) (by simp) (hd 1 _ rfl (waits_spec rfl))
        · intro a w2 hB hF hd
          refine flow_wanted (wanted_yes rfl rfl (hd 2 _ rfl (waits_spec rfl)) rfl) ?_
          exact flow_val (fun h => by cases h) (run_load_arr rfl Try.underlying38 Try.size38 (hF.same 5 rfl) (hX5.below hB hX5.lt)) rfl
        · intro a w2 hB hF hd
          refine flow_wanted (wanted_yes rfl rfl (hd 2 _ rfl (waits_spec rfl)) rfl) ?_
          exact flow_move _ (.inl rfl) (by simp) (hF.same 0 rfl)
        · intro a w2 hB hF hd
          refine flow_wanted (wanted_yes rfl rfl (hd 2 _ rfl (waits_spec rfl)) rfl) ?_
          refine flow_call _ _ _ rfl Try.call37 _ (args1 (hd 4 _ rfl (waits_spec rfl))) (by simp) ((rOf_any _ X n (by omega) HXB.out w2 (HR6.out.below hB)).mono ?_)
          rintro e w3 ⟨rfl, hb⟩; exact ⟨_, rfl, rfl, hb⟩
        · intro a w2 hB hF hd
          refine flow_wanted (wanted_yes rfl rfl (hd 2 _ rfl (waits_spec rfl)) rfl) ?_
          exact flow_val (fun h => by cases h) (run_eql_arr true rfl (hd 3 _ rfl (waits_spec rfl)) (hd 5 _ rfl (waits_spec rfl)) Try.underlying38 (by kernel_rfl) (by kernel_rfl) (by kernel_rfl) (by kernel_rfl) (by kernel_rfl) sameB_self) rfl
        · intro a w2 hB hF hd
          rw [if_pos (wanted_none rfl)]
          exact flow_val (fun h => by cases h) (run_pick rfl (hd 2 _ rfl (waits_spec rfl))) ((hd 6 _ rfl (waits_spec rfl)))
        · intro a w2 hB hF hd
          rw [if_pos (wanted_none rfl)]
          exact flow_move _ (.inl rfl) (by simp) (hd 7 _ rfl (waits_spec rfl))
        · intro a w2 hB hF hd
          refine flow_wanted (wanted_yes rfl rfl (hd 8 _ rfl (waits_spec rfl)) rfl) ?_
          exact flow_val (fun h => by cases h) (run_load_arr rfl Try.underlying38 Try.size38 (hF.same 5 rfl) (hX5.below hB hX5.lt)) rfl
        · intro a w2 hB hF hd
          refine flow_wanted (wanted_yes rfl rfl (hd 8 _ rfl (waits_spec rfl)) rfl) ?_
          refine flow_call _ _ _ rfl Try.call34 _ (args1 (hd 9 _ rfl (waits_spec rfl))) (by simp) ((Right_yes X w2).mono ?_)
          rintro e w3 ⟨rfl, hb⟩; exact ⟨_, rfl, rfl, hb⟩
        · intro a w2 hB hF hd
          rw [if_pos (wanted_none rfl)]
          exact flow_val (fun h => by cases h) (run_pick rfl (hd 8 _ rfl (waits_spec rfl))) ((hd 10 _ rfl (waits_spec rfl)))
        · intro a w2 hB hF hd
          rw [if_pos (wanted_none rfl)]
          exact flow_move _ (.inr rfl) (by simp) (hd 11 _ rfl (waits_spec rfl))
      · intro a w7 hB hF hS
        have ha := puts_each rfl rfl hF [_, _, _, _, _, _, _, _, _, _, _, _, _] rfl ⟨hS 0 _ rfl, hS 1 _ rfl, hS 2 _ rfl, hS 3 _ rfl, hS 4 _ rfl, hS 5 _ rfl, hS 6 _ rfl, hS 7 _ rfl, hS 8 _ rfl, hS 9 _ rfl, hS 10 _ rfl, hS 11 _ rfl, hS 12 _ rfl, trivial⟩
        simp only [puts, Act.put, List.setIfInBounds_toArray, List.set_cons_succ, List.set_cons_zero] at ha
        subst ha
        clear hS hF
        have hb := hb6.trans (hB.mono hb6.size)
        clear hX5 hb6 hB
        go_wp2
        go_ret
        exact ⟨rfl, hb⟩
end Go.Proofs.Ytiiafgbdmejcpaa
