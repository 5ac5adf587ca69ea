/-
  The law LadderMuls answers true: its walk. Conditions: named in each theorem.
-/
import Derived.Test.YtllkfkbioloaoaaLd3
import Derived.Test.YtllkfkbioloaoaaLd4
set_option linter.unusedVariables false
set_option linter.unusedSimpArgs false
namespace Go.Proofs.Ytllkfkbioloaoaa
open Go.RowKit Go.Bas Go.ChangeShapes
attribute [local go_sem ↓] Go.wp_at_zero Go.wp_at_succ
set_option maxRecDepth 100000 in
set_option maxHeartbeats 6400000 in
theorem ladderMuls_num (S U : Int) (w : World) :
    Calls Try.prog 11 #[.agg (arr .u8 32 (dg 256 S)), .agg (arr .u8 32 (dg 256 U))] w fun e w' => e = .returned (.bool true) ∧ Below w.heap.size w w' := by
  have HM : Hid (∀ w, Calls Try.prog 52 #[.agg (arr .u8 32 (dg 256 S)), .agg (arr .u8 32 (dg 256 U))] w fun e w' => e = .returned (.agg (arr .u8 32 (dg 256 (mulN S U)))) ∧ Below w.heap.size w w') := fun w => ldMul_any S U w
  have HR : Hid (∀ w, Calls Try.prog 50 #[.agg (arr .u8 32 (dg 256 S)), .agg (arr .u8 32 (dg 256 U))] w fun e w' => e = .returned (.agg (arr .u8 32 (dg 256 (mulN S U)))) ∧ Below w.heap.size w w') := fun w => rdMul_any S U w
  have HS := Lib.hid (fun w => ldShared_any S U w)
  have HC := Lib.hid (fun w => ldClamp_any S w)
  have HD := Lib.hid (fun w => rdClamp_any S w)
  have HZ := Lib.hid (mulN_zero S U)
  have HE : Hid (ldErr (mulN S U) = if mulN S U = 0 then 21 else 0) := rfl
  have HB := Lib.hid (fun (a : Act) w => build_z32 (a := a) w)
  obtain ⟨X, hX⟩ : ∃ X, X = mulN S U := ⟨_, rfl⟩
  rw [← hX] at HM HR HS HZ HE
  obtain ⟨er, her⟩ : ∃ er, er = ldErr X := ⟨_, rfl⟩
  rw [← her] at HS HE
  obtain ⟨K, hK⟩ : ∃ K, K = clampN S := ⟨_, rfl⟩
  rw [← hK] at HC HD
  clear hX her hK
  go_enter Try.func11, Try.ntmps11
  go_upto_region 1 with (fail)
  refine wp_world (fun w1 => Arr .u8 w1 w.heap.size 32 (dg 256 S) ∧ Arr .u8 w1 (w.heap.size + 1) 32 (dg 256 U) ∧ Below w.heap.size w w1) ⟨.alloc (Arr.newAt rfl rfl) _, Arr.newAt (by first | omega | (simp <;> omega)) rfl, ((Below.refl _ _).alloc (Nat.le_refl _) _).alloc (by first | omega | (simp <;> omega)) _⟩ ?_
  rintro w1 ⟨hA, hP, hbel⟩
  go_wp2_with fail
  refine (ldAwake_any _).mono ?_
  rintro e w2 ⟨rfl, hb2⟩
  have hA2 := hA.kept hb2
  have hP2 := hP.kept hb2
  have hbel2 := hbel.trans (hb2.mono hbel.size)
  clear hA hP hbel hb2
  go_wp2_with (first
    | (refine load_arr rfl 88 _ rfl .u8 w.heap.size 32 (dg 256 S) 5 Try.underlying88 Try.size88 rfl hA2 ?_)
    | (refine load_arr rfl 88 _ rfl .u8 (w.heap.size + 1) 32 (dg 256 U) 5 Try.underlying88 Try.size88 rfl hP2 ?_))
  refine (HR.out _).mono ?_
  rintro e w3 ⟨rfl, hb3⟩
  have hA3 := hA2.kept hb3
  have hP3 := hP2.kept hb3
  have hbel3 := hbel2.trans (hb3.mono hbel2.size)
  have hl3 := hP3.lt
  have hl3' := hA3.lt
  clear hA2 hP2 hbel2 hb3
  go_upto_region 4 with (refine store_arr rfl 88 _ _ rfl .u8 w3.heap.size 32 (fun _ => 0) (dg 256 X) Try.size88 rfl rfl (Arr.newAt rfl (by rfl)) ?_)
  refine wp_world (fun w4 => Arr .u8 w4 w3.heap.size 32 (dg 256 X) ∧ Arr .u8 w4 w.heap.size 32 (dg 256 S) ∧ Arr .u8 w4 (w.heap.size + 1) 32 (dg 256 U) ∧ Below w.heap.size w w4)
    ⟨(Arr.newAt rfl (by rfl) : Arr .u8 _ _ 32 (fun _ => 0)).setRow _ _, Arr.setRowOther (Arr.alloc hA3 _) _ (by omega) _, Arr.setRowOther (Arr.alloc hP3 _) _ (by omega) _, below_setRow' (hbel3.alloc hbel3.size _) hbel3.size _⟩ ?_
  rintro w4 ⟨hX, hA4, hP4, hbel4⟩
  obtain ⟨bx, hbx⟩ : ∃ bx, bx = w3.heap.size := ⟨_, rfl⟩
  rw [← hbx] at hX hl3 hl3' ⊢
  clear hbx hA3 hP3 hbel3
  try simp only [Act.put, List.setIfInBounds_toArray, List.set_cons_succ, List.set_cons_zero]
  go_wp2_with (first
    | (refine load_arr rfl 88 _ rfl .u8 w.heap.size 32 (dg 256 S) 5 Try.underlying88 Try.size88 rfl hA4 ?_)
    | (refine load_arr rfl 88 _ rfl .u8 (w.heap.size + 1) 32 (dg 256 U) 5 Try.underlying88 Try.size88 rfl hP4 ?_))
  refine (HS.out _).mono ?_
  rintro e w5 ⟨rfl, hb5⟩
  have hX5 := hX.kept hb5
  have hA5 := hA4.kept hb5
  have hP5 := hP4.kept hb5
  have hbel5 := hbel4.trans (hb5.mono hbel4.size)
  have hl5 := hX5.lt
  clear hX hA4 hP4 hbel4 hb5
  go_upto_region 5 with (refine store_arr rfl 88 _ _ rfl .u8 w5.heap.size 32 (fun _ => 0) (dg 256 X) Try.size88 rfl rfl (Arr.newAt rfl (by rfl)) ?_)
  refine wp_world (fun w6 => Arr .u8 w6 w5.heap.size 32 (dg 256 X) ∧ Arr .u8 w6 bx 32 (dg 256 X) ∧ Arr .u8 w6 w.heap.size 32 (dg 256 S) ∧ Arr .u8 w6 (w.heap.size + 1) 32 (dg 256 U) ∧ Below w.heap.size w w6)
    ⟨(Arr.newAt rfl (by rfl) : Arr .u8 _ _ 32 (fun _ => 0)).setRow _ _, Arr.setRowOther (Arr.alloc hX5 _) _ (by omega) _, Arr.setRowOther (Arr.alloc hA5 _) _ (by omega) _, Arr.setRowOther (Arr.alloc hP5 _) _ (by omega) _, below_setRow' (hbel5.alloc hbel5.size _) hbel5.size _⟩ ?_
  rintro w6 ⟨hY, hX6, hA6, hP6, hbel6⟩
  obtain ⟨by_, hby⟩ : ∃ by_, by_ = w5.heap.size := ⟨_, rfl⟩
  rw [← hby] at hY ⊢
  clear hby hX5 hA5 hP5 hbel5 hl5 hl3 hl3'
  try simp only [Act.put, List.setIfInBounds_toArray, List.set_cons_succ, List.set_cons_zero]
  refine region_flow (n := 50) (by kernel_rfl) (by kernel_rfl) (by kernel_rfl) rfl
    (fun ii vv _ => (match ii with | 0 | 11 | 13 => vv = .agg (arr .u8 32 (dg 256 S)) | 1 => vv = .agg (arr .u8 32 (dg 256 U)) | 2 | 3 | 6 | 7 => vv = .agg (arr .u8 32 (dg 256 X)) | 4 | 5 | 8 | 9 | 10 | 15 | 16 => vv = .bool false | 12 | 14 => vv = .agg (arr .u8 32 (dg 256 K)) | _ => True))
    (fun w w' => Below w.heap.size w w') (fun _ _ h => h) (fun _ _ _ _ h _ => h) ?_ ?_
  · refine Each.all ?_
    refine ⟨?_, ?_, ?_, ?_, ?_, ?_, ?_, ?_, ?_, ?_, ?_, ?_, ?_, ?_, ?_, ?_, ?_, trivial⟩
    · intro a w2 hB hF hd
      rw [if_pos (wanted_none rfl)]
      exact flow_val (fun h => by cases h) (run_load_str rfl Try.underlying88 rfl Try.size88 (hF.same 2 rfl) (hA6.below hB hA6.lt)) rfl
    · intro a w2 hB hF hd
      rw [if_pos (wanted_none rfl)]
      exact flow_val (fun h => by cases h) (run_load_str rfl Try.underlying88 rfl Try.size88 (hF.same 3 rfl) (hP6.below hB hP6.lt)) rfl
    · intro a w2 hB hF hd
      rw [if_pos (wanted_none rfl)]
      refine flow_call _ _ _ rfl Try.call52 _ (args2 (hd 0 _ rfl (waits_spec rfl)) (hd 1 _ rfl (waits_spec rfl))) (by simp) ((HM.out w2).mono ?_)
      rintro e w3 ⟨rfl, hb⟩; exact ⟨_, rfl, rfl, hb⟩
    · intro a w2 hB hF hd
      rw [if_pos (wanted_none rfl)]
      exact flow_val (fun h => by cases h) (run_load_str rfl Try.underlying88 rfl Try.size88 (hF.same 5 rfl) (hX6.below hB hX6.lt)) rfl
    · intro a w2 hB hF hd
      rw [if_pos (wanted_none rfl)]
      exact flow_val (fun h => by cases h) (run_neq_arr true rfl (hd 2 _ rfl (waits_spec rfl)) (hd 3 _ rfl (waits_spec rfl)) Try.underlying88 (by kernel_rfl) (by kernel_rfl) (by kernel_rfl) (by kernel_rfl) (by kernel_rfl) sameB_self) rfl
    · intro a w2 hB hF hd
      rw [if_pos (wanted_none rfl)]
      exact flow_move _ (.inl rfl) (by simp) (hd 4 _ rfl (waits_spec rfl))
    · intro a w2 hB hF hd
      refine flow_wanted (wanted_yes rfl rfl (hd 5 _ rfl (waits_spec rfl)) rfl) ?_
      exact flow_val (fun h => by cases h) (run_load_str rfl Try.underlying88 rfl Try.size88 (hF.same 6 rfl) (hY.below hB hY.lt)) rfl
    · intro a w2 hB hF hd
      refine flow_wanted (wanted_yes rfl rfl (hd 5 _ rfl (waits_spec rfl)) rfl) ?_
      exact flow_val (fun h => by cases h) (run_load_str rfl Try.underlying88 rfl Try.size88 (hF.same 5 rfl) (hX6.below hB hX6.lt)) rfl
    · intro a w2 hB hF hd
      refine flow_wanted (wanted_yes rfl rfl (hd 5 _ rfl (waits_spec rfl)) rfl) ?_
      exact flow_val (fun h => by cases h) (run_neq_arr true rfl (hd 6 _ rfl (waits_spec rfl)) (hd 7 _ rfl (waits_spec rfl)) Try.underlying88 (by kernel_rfl) (by kernel_rfl) (by kernel_rfl) (by kernel_rfl) (by kernel_rfl) sameB_self) rfl
    · intro a w2 hB hF hd
      rw [if_pos (wanted_none rfl)]
      exact flow_val (fun h => by cases h) (run_pick rfl (hd 5 _ rfl (waits_spec rfl))) ((hd 8 _ rfl (waits_spec rfl)))
    · intro a w2 hB hF hd
      rw [if_pos (wanted_none rfl)]
      exact flow_move _ (.inl rfl) (by simp) (hd 9 _ rfl (waits_spec rfl))
    · intro a w2 hB hF hd
      refine flow_wanted (wanted_yes rfl rfl (hd 10 _ rfl (waits_spec rfl)) rfl) ?_
      exact flow_val (fun h => by cases h) (run_load_str rfl Try.underlying88 rfl Try.size88 (hF.same 2 rfl) (hA6.below hB hA6.lt)) rfl
    · intro a w2 hB hF hd
      refine flow_wanted (wanted_yes rfl rfl (hd 10 _ rfl (waits_spec rfl)) rfl) ?_
      refine flow_call _ _ _ rfl Try.call53 _ (args1 (hd 11 _ rfl (waits_spec rfl))) (by simp) ((HC.out w2).mono ?_)
      rintro e w3 ⟨rfl, hb⟩; exact ⟨_, rfl, rfl, hb⟩
    · intro a w2 hB hF hd
      refine flow_wanted (wanted_yes rfl rfl (hd 10 _ rfl (waits_spec rfl)) rfl) ?_
      exact flow_val (fun h => by cases h) (run_load_str rfl Try.underlying88 rfl Try.size88 (hF.same 2 rfl) (hA6.below hB hA6.lt)) rfl
    · intro a w2 hB hF hd
      refine flow_wanted (wanted_yes rfl rfl (hd 10 _ rfl (waits_spec rfl)) rfl) ?_
      refine flow_call _ _ _ rfl Try.call54 _ (args1 (hd 13 _ rfl (waits_spec rfl))) (by simp) ((HD.out w2).mono ?_)
      rintro e w3 ⟨rfl, hb⟩; exact ⟨_, rfl, rfl, hb⟩
    · intro a w2 hB hF hd
      refine flow_wanted (wanted_yes rfl rfl (hd 10 _ rfl (waits_spec rfl)) rfl) ?_
      exact flow_val (fun h => by cases h) (run_neq_arr true rfl (hd 12 _ rfl (waits_spec rfl)) (hd 14 _ rfl (waits_spec rfl)) Try.underlying88 (by kernel_rfl) (by kernel_rfl) (by kernel_rfl) (by kernel_rfl) (by kernel_rfl) sameB_self) rfl
    · intro a w2 hB hF hd
      rw [if_pos (wanted_none rfl)]
      exact flow_val (fun h => by cases h) (run_pick rfl (hd 10 _ rfl (waits_spec rfl))) ((hd 15 _ rfl (waits_spec rfl)))
  · intro a w7 hB hF hS
    have ha := puts_each rfl rfl hF [_, _, _, _, _, _, _, _, _, _, _, _, _, _, _, _, _] rfl ⟨hS 0 _ rfl, hS 1 _ rfl, hS 2 _ rfl, hS 3 _ rfl, hS 4 _ rfl, hS 5 _ rfl, hS 6 _ rfl, hS 7 _ rfl, hS 8 _ rfl, hS 9 _ rfl, hS 10 _ rfl, hS 11 _ rfl, hS 12 _ rfl, hS 13 _ rfl, hS 14 _ rfl, hS 15 _ rfl, hS 16 _ rfl, trivial⟩
    simp only [puts, Act.put, List.setIfInBounds_toArray, List.set_cons_succ, List.set_cons_zero] at ha
    subst ha
    clear hS hF
    have hX7 := hX6.kept hB
    have hbel7 := hbel6.trans (hB.mono hbel6.size)
    clear hY hX6 hA6 hP6 hbel6 hB
    go_upto_region 7 with (fail)
    by_cases h0 : X = 0
    case pos =>
      have h1 : er = 21 := by rw [HE.out, if_pos h0]
      have HQ : Hid (sameB 32 (dg 256 X) (dg 256 0) = true) := by rw [HZ.out]; exact decide_eq_true h0
      refine region_flow (n := 50) (by kernel_rfl) (by kernel_rfl) (by kernel_rfl) rfl
        (fun ii vv _ => (match ii with | 0 | 7 | 10 => vv = .int .i64 (er) | 1 | 4 | 5 | 6 | 11 | 12 | 13 | 14 => vv = .bool true | 2 => vv = .agg (arr .u8 32 (dg 256 X)) | 3 => vv = .agg (arr .u8 32 (dg 256 0)) | 8 | 9 => vv = .bool false | _ => True))
        (fun w w' => Below w.heap.size w w') (fun _ _ h => h) (fun _ _ _ _ h _ => h) ?_ ?_
      · refine Each.all ?_
        refine ⟨?_, ?_, ?_, ?_, ?_, ?_, ?_, ?_, ?_, ?_, ?_, ?_, ?_, ?_, ?_, trivial⟩
        · intro a w2 hB hF hd
          rw [if_pos (wanted_none rfl)]
          exact flow_move _ (.inl rfl) (by simp) (hF.same 7 rfl)
        · intro a w2 hB hF hd
          rw [if_pos (wanted_none rfl)]
          refine flow_val (fun h => by cases h) (Go.Bas.run_eql_int rfl (hd 0 _ rfl (waits_spec rfl)) rfl) ?_
          exact congrArg Value.bool (beq_iff_eq.2 h1)
        · intro a w2 hB hF hd
          rw [if_pos (wanted_none rfl)]
          exact flow_val (fun h => by cases h) (run_load_str rfl Try.underlying88 rfl Try.size88 (hF.same 5 rfl) (hX7.below hB hX7.lt)) rfl
        · intro a w2 hB hF hd
          rw [if_pos (wanted_none rfl)]
          exact flow_val (fun h => by cases h) (run_built rfl (HB.out _ _)) rfl
        · intro a w2 hB hF hd
          rw [if_pos (wanted_none rfl)]
          exact flow_val (fun h => by cases h) (run_eql_arr true rfl (hd 2 _ rfl (waits_spec rfl)) (hd 3 _ rfl (waits_spec rfl)) Try.underlying88 (by kernel_rfl) (by kernel_rfl) (by kernel_rfl) (by kernel_rfl) (by kernel_rfl) HQ.out) rfl
        · intro a w2 hB hF hd
          rw [if_pos (wanted_none rfl)]
          refine flow_val (fun h => by cases h) (Go.Bas.run_eql_bool rfl (hd 1 _ rfl (waits_spec rfl)) (hd 4 _ rfl (waits_spec rfl)) Try.underlying4) ?_
          exact rfl
        · intro a w2 hB hF hd
          rw [if_pos (wanted_none rfl)]
          exact flow_move _ (.inl rfl) (by simp) (hd 5 _ rfl (waits_spec rfl))
        · intro a w2 hB hF hd
          refine flow_wanted (wanted_yes rfl rfl (hd 6 _ rfl (waits_spec rfl)) rfl) ?_
          exact flow_move _ (.inl rfl) (by simp) (hF.same 7 rfl)
        · intro a w2 hB hF hd
          refine flow_wanted (wanted_yes rfl rfl (hd 6 _ rfl (waits_spec rfl)) rfl) ?_
          refine flow_val (fun h => by cases h) (Go.Bas.run_eql_int rfl (hd 7 _ rfl (waits_spec rfl)) rfl) ?_
          exact congrArg Value.bool (beq_eq_false_iff_ne.2 (by omega))
        · intro a w2 hB hF hd
          refine flow_wanted (wanted_yes rfl rfl (hd 6 _ rfl (waits_spec rfl)) rfl) ?_
          exact flow_move _ (.inl rfl) (by simp) (hd 8 _ rfl (waits_spec rfl))
        · intro a w2 hB hF hd
          refine flow_wanted (wanted_yes rfl rfl (hd 9 _ rfl (waits_spec rfl)) rfl) ?_
          exact flow_move _ (.inl rfl) (by simp) (hF.same 7 rfl)
        · intro a w2 hB hF hd
          refine flow_wanted (wanted_yes rfl rfl (hd 9 _ rfl (waits_spec rfl)) rfl) ?_
          refine flow_val (fun h => by cases h) (Go.Bas.run_eql_int rfl (hd 10 _ rfl (waits_spec rfl)) rfl) ?_
          exact congrArg Value.bool (beq_iff_eq.2 h1)
        · intro a w2 hB hF hd
          refine flow_wanted (wanted_yes rfl rfl (hd 6 _ rfl (waits_spec rfl)) rfl) ?_
          exact flow_val (fun h => by cases h) (run_pick rfl (hd 9 _ rfl (waits_spec rfl))) ((hd 11 _ rfl (waits_spec rfl)))
        · intro a w2 hB hF hd
          rw [if_pos (wanted_none rfl)]
          exact flow_val (fun h => by cases h) (run_pick rfl (hd 6 _ rfl (waits_spec rfl))) ((hd 12 _ rfl (waits_spec rfl)))
        · intro a w2 hB hF hd
          rw [if_pos (wanted_none rfl)]
          exact flow_move _ (.inr rfl) (by simp) (hd 13 _ rfl (waits_spec rfl))
      · intro a w8 hB hF hS
        have ha := puts_each rfl rfl hF [_, _, _, _, _, _, _, _, _, _, _, _, _, _, _] rfl ⟨hS 0 _ rfl, hS 1 _ rfl, hS 2 _ rfl, hS 3 _ rfl, hS 4 _ rfl, hS 5 _ rfl, hS 6 _ rfl, hS 7 _ rfl, hS 8 _ rfl, hS 9 _ rfl, hS 10 _ rfl, hS 11 _ rfl, hS 12 _ rfl, hS 13 _ rfl, hS 14 _ rfl, trivial⟩
        simp only [puts, Act.put, List.setIfInBounds_toArray, List.set_cons_succ, List.set_cons_zero] at ha
        subst ha
        clear hS hF
        have hb8 := hbel7.trans (hB.mono hbel7.size)
        go_wp2
        go_ret
        exact ⟨rfl, hb8⟩
    case neg =>
      have h1 : er = 0 := by rw [HE.out, if_neg h0]
      have HQ : Hid (sameB 32 (dg 256 X) (dg 256 0) = false) := by rw [HZ.out]; exact decide_eq_false h0
      refine region_flow (n := 50) (by kernel_rfl) (by kernel_rfl) (by kernel_rfl) rfl
        (fun ii vv _ => (match ii with | 0 | 7 => vv = .int .i64 (er) | 1 | 4 => vv = .bool false | 2 => vv = .agg (arr .u8 32 (dg 256 X)) | 3 => vv = .agg (arr .u8 32 (dg 256 0)) | 5 | 6 | 8 | 9 | 12 | 13 | 14 => vv = .bool true | 10 | 11 => vv = undef | _ => True))
        (fun w w' => Below w.heap.size w w') (fun _ _ h => h) (fun _ _ _ _ h _ => h) ?_ ?_
      · refine Each.all ?_
        refine ⟨?_, ?_, ?_, ?_, ?_, ?_, ?_, ?_, ?_, ?_, ?_, ?_, ?_, ?_, ?_, trivial⟩
        · intro a w2 hB hF hd
          rw [if_pos (wanted_none rfl)]
          exact flow_move _ (.inl rfl) (by simp) (hF.same 7 rfl)
        · intro a w2 hB hF hd
          rw [if_pos (wanted_none rfl)]
          refine flow_val (fun h => by cases h) (Go.Bas.run_eql_int rfl (hd 0 _ rfl (waits_spec rfl)) rfl) ?_
          exact congrArg Value.bool (beq_eq_false_iff_ne.2 (by omega))
        · intro a w2 hB hF hd
          rw [if_pos (wanted_none rfl)]
          exact flow_val (fun h => by cases h) (run_load_str rfl Try.underlying88 rfl Try.size88 (hF.same 5 rfl) (hX7.below hB hX7.lt)) rfl
        · intro a w2 hB hF hd
          rw [if_pos (wanted_none rfl)]
          exact flow_val (fun h => by cases h) (run_built rfl (HB.out _ _)) rfl
        · intro a w2 hB hF hd
          rw [if_pos (wanted_none rfl)]
          exact flow_val (fun h => by cases h) (run_eql_arr false rfl (hd 2 _ rfl (waits_spec rfl)) (hd 3 _ rfl (waits_spec rfl)) Try.underlying88 (by kernel_rfl) (by kernel_rfl) (by kernel_rfl) (by kernel_rfl) (by kernel_rfl) HQ.out) rfl
        · intro a w2 hB hF hd
          rw [if_pos (wanted_none rfl)]
          refine flow_val (fun h => by cases h) (Go.Bas.run_eql_bool rfl (hd 1 _ rfl (waits_spec rfl)) (hd 4 _ rfl (waits_spec rfl)) Try.underlying4) ?_
          exact rfl
        · intro a w2 hB hF hd
          rw [if_pos (wanted_none rfl)]
          exact flow_move _ (.inl rfl) (by simp) (hd 5 _ rfl (waits_spec rfl))
        · intro a w2 hB hF hd
          refine flow_wanted (wanted_yes rfl rfl (hd 6 _ rfl (waits_spec rfl)) rfl) ?_
          exact flow_move _ (.inl rfl) (by simp) (hF.same 7 rfl)
        · intro a w2 hB hF hd
          refine flow_wanted (wanted_yes rfl rfl (hd 6 _ rfl (waits_spec rfl)) rfl) ?_
          refine flow_val (fun h => by cases h) (Go.Bas.run_eql_int rfl (hd 7 _ rfl (waits_spec rfl)) rfl) ?_
          exact congrArg Value.bool (beq_iff_eq.2 h1)
        · intro a w2 hB hF hd
          refine flow_wanted (wanted_yes rfl rfl (hd 6 _ rfl (waits_spec rfl)) rfl) ?_
          exact flow_move _ (.inl rfl) (by simp) (hd 8 _ rfl (waits_spec rfl))
        · intro a w2 hB hF hd
          rw [if_neg (by rw [wanted_some rfl rfl (hd 9 _ rfl (waits_spec rfl))]; decide)]
          exact rfl
        · intro a w2 hB hF hd
          rw [if_neg (by rw [wanted_some rfl rfl (hd 9 _ rfl (waits_spec rfl))]; decide)]
          exact rfl
        · intro a w2 hB hF hd
          refine flow_wanted (wanted_yes rfl rfl (hd 6 _ rfl (waits_spec rfl)) rfl) ?_
          exact flow_val (fun h => by cases h) (run_pick rfl (hd 9 _ rfl (waits_spec rfl))) (rfl)
        · intro a w2 hB hF hd
          rw [if_pos (wanted_none rfl)]
          exact flow_val (fun h => by cases h) (run_pick rfl (hd 6 _ rfl (waits_spec rfl))) ((hd 12 _ rfl (waits_spec rfl)))
        · intro a w2 hB hF hd
          rw [if_pos (wanted_none rfl)]
          exact flow_move _ (.inr rfl) (by simp) (hd 13 _ rfl (waits_spec rfl))
      · intro a w8 hB hF hS
        have ha := puts_each rfl rfl hF [_, _, _, _, _, _, _, _, _, _, _, _, _, _, _] rfl ⟨hS 0 _ rfl, hS 1 _ rfl, hS 2 _ rfl, hS 3 _ rfl, hS 4 _ rfl, hS 5 _ rfl, hS 6 _ rfl, hS 7 _ rfl, hS 8 _ rfl, hS 9 _ rfl, hS 10 _ rfl, hS 11 _ rfl, hS 12 _ rfl, hS 13 _ rfl, hS 14 _ rfl, trivial⟩
        simp only [puts, Act.put, List.setIfInBounds_toArray, List.set_cons_succ, List.set_cons_zero] at ha
        subst ha
        clear hS hF
        have hb8 := hbel7.trans (hB.mono hbel7.size)
        go_wp2
        go_ret
        exact ⟨rfl, hb8⟩

theorem ladderMuls_law (w : World) (fs : Nat → Int) (hs : ∀ i, i < 32 → (Lit.int .u8 (fs i)).wf = true) (fp : Nat → Int) (hp : ∀ i, i < 32 → (Lit.int .u8 (fp i)).wf = true) :
    Calls Try.prog 11 #[.agg (arr .u8 32 fs), .agg (arr .u8 32 fp)] w fun e w' => e = .returned (.bool true) ∧ Below w.heap.size w w' := by
  obtain ⟨S, eS, _⟩ := num32 fs hs
  obtain ⟨U, eU, _⟩ := num32 fp hp
  rw [eS, eU]
  exact ladderMuls_num S U w
end Go.Proofs.Ytllkfkbioloaoaa
