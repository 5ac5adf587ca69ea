/-
  The law LadderMeets answers true: its walk. Conditions: named in each theorem.
-/
import Derived.Test.YtllkfkbioloaoaaLd4
import Derived.Test.YtllkfkbioloaoaaLdI
set_option linter.unusedVariables false
set_option linter.unusedSimpArgs false
namespace Go.Proofs.Ytllkfkbioloaoaa
open Go.RowKit Go.Bas Go.ChangeShapes
attribute [local go_sem ↓] Go.wp_at_zero Go.wp_at_succ
theorem mulN_meets (S T U : Int) : mulN S (mulN T U) = mulN T (mulN S U) := clamp_meets S T (U % 2 ^ 255)
theorem mulN_clamp (S U : Int) : mulN (clampN S) U = mulN S U := by unfold mulN; rw [clamp_twice]

set_option maxRecDepth 100000 in
set_option maxHeartbeats 6400000 in
theorem ladderMeets_num (A B U : Int) (w : World) :
    Calls Try.prog 12 #[.agg (arr .u8 32 (dg 256 A)), .agg (arr .u8 32 (dg 256 B)), .agg (arr .u8 32 (dg 256 U))] w fun e w' => e = .returned (.bool true) ∧ Below w.heap.size w w' := by
  have HPA := Lib.hid (fun w => ldPublic_any A w)
  have HPB := Lib.hid (fun w => ldPublic_any B w)
  have HCA := Lib.hid (fun w => ldClamp_any A w)
  have HPC := Lib.hid (fun w => ldPublic_any (clampN A) w)
  have HM9 : Hid (∀ w, Calls Try.prog 52 #[.agg (arr .u8 32 (dg 256 A)), .agg (arr .u8 32 (dg 256 9))] w fun e w' => e = .returned (.agg (arr .u8 32 (dg 256 (mulN A 9)))) ∧ Below w.heap.size w w') := fun w => ldMul_any A 9 w
  have HSA := Lib.hid (fun w => ldShared_any A (mulN B 9) w)
  have HSB := Lib.hid (fun w => ldShared_any B (mulN A 9) w)
  have HMA : Hid (∀ w, Calls Try.prog 52 #[.agg (arr .u8 32 (dg 256 A)), .agg (arr .u8 32 (dg 256 U))] w fun e w' => e = .returned (.agg (arr .u8 32 (dg 256 (mulN A U)))) ∧ Below w.heap.size w w') := fun w => ldMul_any A U w
  have HMB : Hid (∀ w, Calls Try.prog 52 #[.agg (arr .u8 32 (dg 256 B)), .agg (arr .u8 32 (dg 256 U))] w fun e w' => e = .returned (.agg (arr .u8 32 (dg 256 (mulN B U)))) ∧ Below w.heap.size w w') := fun w => ldMul_any B U w
  have HAB : Hid (∀ w, Calls Try.prog 52 #[.agg (arr .u8 32 (dg 256 A)), .agg (arr .u8 32 (dg 256 (mulN B U)))] w fun e w' => e = .returned (.agg (arr .u8 32 (dg 256 (mulN A (mulN B U))))) ∧ Below w.heap.size w w') := fun w => ldMul_any A (mulN B U) w
  have HBA : Hid (∀ w, Calls Try.prog 52 #[.agg (arr .u8 32 (dg 256 B)), .agg (arr .u8 32 (dg 256 (mulN A U)))] w fun e w' => e = .returned (.agg (arr .u8 32 (dg 256 (mulN A (mulN B U))))) ∧ Below w.heap.size w w') := fun w => by
    rw [mulN_meets A B U]; exact ldMul_any B (mulN A U) w
  rw [mulN_clamp] at HPC
  rw [mulN_meets B A 9] at HSB
  obtain ⟨X, hX⟩ : ∃ X, X = mulN A (mulN B 9) := ⟨_, rfl⟩
  rw [← hX] at HSA HSB
  obtain ⟨er, her⟩ : ∃ er, er = ldErr X := ⟨_, rfl⟩
  rw [← her] at HSA HSB
  obtain ⟨Y, hY⟩ : ∃ Y, Y = mulN A (mulN B U) := ⟨_, rfl⟩
  rw [← hY] at HAB HBA
  obtain ⟨PA, hPA⟩ : ∃ x, x = mulN A 9 := ⟨_, rfl⟩
  obtain ⟨PB, hPB⟩ : ∃ x, x = mulN B 9 := ⟨_, rfl⟩
  obtain ⟨MA, hMA⟩ : ∃ x, x = mulN A U := ⟨_, rfl⟩
  obtain ⟨MB, hMB⟩ : ∃ x, x = mulN B U := ⟨_, rfl⟩
  obtain ⟨CA, hCA⟩ : ∃ x, x = clampN A := ⟨_, rfl⟩
  rw [← hPA] at HPA HPC HM9 HSB
  rw [← hPB] at HPB HSA
  rw [← hMA] at HMA HBA
  rw [← hMB] at HMB HAB
  rw [← hCA] at HCA HPC
  clear hX her hY hPA hPB hMA hMB hCA
  go_enter Try.func12, Try.ntmps12
  go_upto_region 1 with (fail)
  refine wp_world (fun w1 => Arr .u8 w1 w.heap.size 32 (dg 256 A) ∧ Arr .u8 w1 (w.heap.size + 1) 32 (dg 256 B) ∧ Arr .u8 w1 (w.heap.size + 2) 32 (dg 256 U) ∧ Below w.heap.size w w1) ⟨.alloc (.alloc (Arr.newAt rfl rfl) _) _, .alloc (Arr.newAt (by first | omega | (simp <;> omega)) rfl) _, Arr.newAt (by first | omega | (simp <;> omega)) rfl, (((Below.refl _ _).alloc (Nat.le_refl _) _).alloc (by first | omega | (simp <;> omega)) _).alloc (by first | omega | (simp <;> omega)) _⟩ ?_
  rintro w1 ⟨hA, hP, hU, hbel⟩
  go_wp2_with fail
  refine (ldAwake_any _).mono ?_
  rintro e w2 ⟨rfl, hb2⟩
  replace hA := hA.kept hb2
  replace hP := hP.kept hb2
  replace hU := hU.kept hb2
  replace hbel := hbel.trans (hb2.mono hbel.size)
  clear hb2
  go_upto_region 3 with (fail)
  refine region_flow (n := 62) (by kernel_rfl) (by kernel_rfl) (by kernel_rfl) rfl
    (fun ii vv _ => (match ii with | 0 | 2 | 7 | 9 => vv = .agg (arr .u8 32 (dg 256 A)) | 1 | 4 | 8 | 11 => vv = .agg (arr .u8 32 (dg 256 PA)) | 3 => vv = .agg (arr .u8 32 (dg 256 9)) | 5 | 6 | 12 | 13 => vv = .bool false | 10 => vv = .agg (arr .u8 32 (dg 256 CA)) | _ => True))
    (fun w w' => Below w.heap.size w w') (fun _ _ h => h) (fun _ _ _ _ h _ => h) ?_ ?_
  · refine Each.all ?_
    refine ⟨?_, ?_, ?_, ?_, ?_, ?_, ?_, ?_, ?_, ?_, ?_, ?_, ?_, ?_, trivial⟩
    · intro a w2 hB hF hd
      rw [if_pos (wanted_none rfl)]
      exact flow_val (fun h => by cases h) (run_load_str rfl Try.underlying88 rfl Try.size88 (hF.same 3 rfl) (hA.below hB hA.lt)) rfl
    · intro a w2 hB hF hd
      rw [if_pos (wanted_none rfl)]
      refine flow_call _ _ _ rfl Try.call55 _ (args1 (hd 0 _ rfl (waits_spec rfl))) (by simp) ((HPA.out w2).mono ?_)
      rintro e w3 ⟨rfl, hb⟩; exact ⟨_, rfl, rfl, hb⟩
    · intro a w2 hB hF hd
      rw [if_pos (wanted_none rfl)]
      exact flow_val (fun h => by cases h) (run_load_str rfl Try.underlying88 rfl Try.size88 (hF.same 3 rfl) (hA.below hB hA.lt)) rfl
    · intro a w2 hB hF hd
      rw [if_pos (wanted_none rfl)]
      refine flow_call _ _ _ rfl Try.call56 _ args0 (by simp) ((ldBase_any w2).mono ?_)
      rintro e w3 ⟨rfl, hb⟩; exact ⟨_, rfl, rfl, hb⟩
    · intro a w2 hB hF hd
      rw [if_pos (wanted_none rfl)]
      refine flow_call _ _ _ rfl Try.call52 _ (args2 (hd 2 _ rfl (waits_spec rfl)) (hd 3 _ rfl (waits_spec rfl))) (by simp) ((HM9.out w2).mono ?_)
      rintro e w3 ⟨rfl, hb⟩; exact ⟨_, rfl, rfl, hb⟩
    · intro a w2 hB hF hd
      rw [if_pos (wanted_none rfl)]
      exact flow_val (fun h => by cases h) (run_neq_arr true rfl (hd 1 _ rfl (waits_spec rfl)) (hd 4 _ rfl (waits_spec rfl)) Try.underlying88 (by kernel_rfl) (by kernel_rfl) (by kernel_rfl) (by kernel_rfl) (by kernel_rfl) sameB_self) rfl
    · intro a w2 hB hF hd
      rw [if_pos (wanted_none rfl)]
      exact flow_move _ (.inl rfl) (by simp) (hd 5 _ rfl (waits_spec rfl))
    · intro a w2 hB hF hd
      refine flow_wanted (wanted_yes rfl rfl (hd 6 _ rfl (waits_spec rfl)) rfl) ?_
      exact flow_val (fun h => by cases h) (run_load_str rfl Try.underlying88 rfl Try.size88 (hF.same 3 rfl) (hA.below hB hA.lt)) rfl
    · intro a w2 hB hF hd
      refine flow_wanted (wanted_yes rfl rfl (hd 6 _ rfl (waits_spec rfl)) rfl) ?_
      refine flow_call _ _ _ rfl Try.call55 _ (args1 (hd 7 _ rfl (waits_spec rfl))) (by simp) ((HPA.out w2).mono ?_)
      rintro e w3 ⟨rfl, hb⟩; exact ⟨_, rfl, rfl, hb⟩
    · intro a w2 hB hF hd
      refine flow_wanted (wanted_yes rfl rfl (hd 6 _ rfl (waits_spec rfl)) rfl) ?_
      exact flow_val (fun h => by cases h) (run_load_str rfl Try.underlying88 rfl Try.size88 (hF.same 3 rfl) (hA.below hB hA.lt)) rfl
    · intro a w2 hB hF hd
      refine flow_wanted (wanted_yes rfl rfl (hd 6 _ rfl (waits_spec rfl)) rfl) ?_
      refine flow_call _ _ _ rfl Try.call53 _ (args1 (hd 9 _ rfl (waits_spec rfl))) (by simp) ((HCA.out w2).mono ?_)
      rintro e w3 ⟨rfl, hb⟩; exact ⟨_, rfl, rfl, hb⟩
    · intro a w2 hB hF hd
      refine flow_wanted (wanted_yes rfl rfl (hd 6 _ rfl (waits_spec rfl)) rfl) ?_
      refine flow_call _ _ _ rfl Try.call55 _ (args1 (hd 10 _ rfl (waits_spec rfl))) (by simp) ((HPC.out w2).mono ?_)
      rintro e w3 ⟨rfl, hb⟩; exact ⟨_, rfl, rfl, hb⟩
    · intro a w2 hB hF hd
      refine flow_wanted (wanted_yes rfl rfl (hd 6 _ rfl (waits_spec rfl)) rfl) ?_
      exact flow_val (fun h => by cases h) (run_neq_arr true rfl (hd 8 _ rfl (waits_spec rfl)) (hd 11 _ rfl (waits_spec rfl)) Try.underlying88 (by kernel_rfl) (by kernel_rfl) (by kernel_rfl) (by kernel_rfl) (by kernel_rfl) sameB_self) rfl
    · intro a w2 hB hF hd
      rw [if_pos (wanted_none rfl)]
      exact flow_val (fun h => by cases h) (run_pick rfl (hd 6 _ rfl (waits_spec rfl))) ((hd 12 _ rfl (waits_spec rfl)))
  · intro a w3 hB hF hS
    have ha := puts_each rfl rfl hF [_, _, _, _, _, _, _, _, _, _, _, _, _, _] rfl ⟨hS 0 _ rfl, hS 1 _ rfl, hS 2 _ rfl, hS 3 _ rfl, hS 4 _ rfl, hS 5 _ rfl, hS 6 _ rfl, hS 7 _ rfl, hS 8 _ rfl, hS 9 _ rfl, hS 10 _ rfl, hS 11 _ rfl, hS 12 _ rfl, hS 13 _ rfl, trivial⟩
    simp only [puts, Act.put, List.setIfInBounds_toArray, List.set_cons_succ, List.set_cons_zero] at ha
    subst ha
    clear hS hF
    replace hA := hA.kept hB
    replace hP := hP.kept hB
    replace hU := hU.kept hB
    replace hbel := hbel.trans (hB.mono hbel.size)
    clear hB
    go_upto_region 5 with (fail)
    refine region_vars (n := 62) (by kernel_rfl) (by kernel_rfl) (by kernel_rfl) rfl
      (isAl [(8, 7)]) (putOf [(8, 7)]) (fun _ => arr .u8 32 (fun _ => 0)) (fun _ => (arr .u8 32 (dg 256 X))) (fun _ => 88) (fun _ => 7)
      (fun ii vv _ => (match ii with | 0 => vv = .agg (arr .u8 32 (dg 256 A)) | 1 => vv = .agg (arr .u8 32 (dg 256 B)) | 2 => vv = .agg (arr .u8 32 (dg 256 PB)) | 3 | 4 => vv = .tuple #[.agg (arr .u8 32 (dg 256 X)), .int .i64 (er)] | 5 => vv = .agg (arr .u8 32 (dg 256 X)) | 6 | 9 => vv = .int .i64 (er) | _ => True)) (fun _ _ => True) (fun _ _ _ => trivial) (fun _ _ _ _ _ _ _ => trivial) (fun _ _ _ _ h _ => h)
      (vs_al rfl) (vs_inj rfl) ?_ ?_ ?_ ?_
    · refine Each.all ?_
      refine ⟨?_, ?_, ?_, ?_, ?_, ?_, ?_, (fun h => by cases h), (fun _ h => by cases h), ?_, trivial⟩
      · intro _ _ a w2 hB hF hd
        rw [if_pos (wanted_none rfl)]
        exact flow_val (fun h => by cases h) (run_load_str rfl Try.underlying88 rfl Try.size88 (hF.same 3 rfl) (hA.below hB hA.lt)) rfl
      · intro _ _ a w2 hB hF hd
        rw [if_pos (wanted_none rfl)]
        exact flow_val (fun h => by cases h) (run_load_str rfl Try.underlying88 rfl Try.size88 (hF.same 4 rfl) (hP.below hB hP.lt)) rfl
      · intro _ _ a w2 hB hF hd
        rw [if_pos (wanted_none rfl)]
        refine flow_call _ _ _ rfl Try.call55 _ (args1 (hd 1 _ rfl rfl rfl (waits_spec rfl))) (by simp) ((HPB.out w2).mono ?_)
        rintro e w3 ⟨rfl, hb⟩; exact ⟨_, rfl, rfl, hb⟩
      · intro _ _ a w2 hB hF hd
        rw [if_pos (wanted_none rfl)]
        refine flow_call _ _ _ rfl Try.call51 _ (args2 (hd 0 _ rfl rfl rfl (waits_spec rfl)) (hd 2 _ rfl rfl rfl (waits_spec rfl))) (by simp) ((HSA.out w2).mono ?_)
        rintro e w3 ⟨rfl, hb⟩; exact ⟨_, rfl, rfl, hb⟩
      · intro _ _ a w2 hB hF hd
        rw [if_pos (wanted_none rfl)]
        exact flow_move _ (.inl rfl) (by simp) (hd 3 _ rfl rfl rfl (waits_spec rfl))
      · intro _ _ a w2 hB hF hd
        rw [if_pos (wanted_none rfl)]
        exact flow_val (fun h => by cases h) (run_extract rfl (hd 4 _ rfl rfl rfl (waits_spec rfl)) rfl) rfl
      · intro _ _ a w2 hB hF hd
        rw [if_pos (wanted_none rfl)]
        exact flow_val (fun h => by cases h) (run_extract rfl (hd 4 _ rfl rfl rfl (waits_spec rfl)) rfl) rfl
      · intro _ _ a w2 hB hF hd
        rw [if_pos (wanted_none rfl)]
        exact flow_move _ (.inr rfl) (by simp) (hd 6 _ rfl rfl rfl (waits_spec rfl))
    · refine Each.all ?_
      refine ⟨(fun h => by cases h), (fun h => by cases h), (fun h => by cases h), (fun h => by cases h), (fun h => by cases h), (fun h => by cases h), (fun h => by cases h), ?_, (fun h => by cases h), (fun h => by cases h), trivial⟩
      · exact fun _ => ⟨rfl, rfl, fun a w2 K h => flow_alloc rfl rfl Try.zeroValue88 (by simp) h⟩
    · refine Each.all ?_
      refine ⟨(fun _ h => by cases h), (fun _ h => by cases h), (fun _ h => by cases h), (fun _ h => by cases h), (fun _ h => by cases h), (fun _ h => by cases h), (fun _ h => by cases h), (fun _ h => by cases h), ?_, (fun _ h => by cases h), trivial⟩
      · intro p hp
        obtain rfl : 7 = p := Option.some.inj hp
        exact ⟨rfl, rfl, ⟨_, rfl⟩, waits_spec rfl, fun a w2 b K hB hF hd hx hb h => flow_put rfl rfl Try.size88 hx (hd 5 _ rfl rfl rfl (waits_spec rfl)) hb h⟩
    · intro a w4 blk hB hF hS hv hfin hdis
      obtain ⟨v7, v7l, v7u⟩ := hv 7 _ rfl rfl
      have ha := puts_each rfl rfl hF [_, _, _, _, _, _, _, _, undef, _] rfl ⟨hS 0 _ rfl rfl rfl, hS 1 _ rfl rfl rfl, hS 2 _ rfl rfl rfl, hS 3 _ rfl rfl rfl, hS 4 _ rfl rfl rfl, hS 5 _ rfl rfl rfl, hS 6 _ rfl rfl rfl, v7, trivial, hS 9 _ rfl rfl rfl, trivial⟩
      have f7 := hfin 8 _ 7 rfl rfl
      simp only [puts, Act.put, List.setIfInBounds_toArray, List.set_cons_succ, List.set_cons_zero] at ha
      subst ha
      have V7 : Arr .u8 w4 (blk 7) 32 (dg 256 X) := ⟨_, f7⟩
      clear hS hv hfin hdis hF v7 f7
      replace hA := hA.kept hB
      replace hP := hP.kept hB
      replace hU := hU.kept hB
      replace hbel := hbel.trans (hB.mono hbel.size)
      obtain ⟨x, hx⟩ : ∃ x, x = blk 7 := ⟨_, rfl⟩
      rw [← hx] at V7 ⊢
      have hX1 := V7
      clear hB V7 v7l v7u hx
      go_upto_region 6 with (fail)
      refine region_vars (n := 62) (by kernel_rfl) (by kernel_rfl) (by kernel_rfl) rfl
        (isAl [(8, 7)]) (putOf [(8, 7)]) (fun _ => arr .u8 32 (fun _ => 0)) (fun _ => (arr .u8 32 (dg 256 X))) (fun _ => 88) (fun _ => 9)
        (fun ii vv _ => (match ii with | 0 => vv = .agg (arr .u8 32 (dg 256 B)) | 1 => vv = .agg (arr .u8 32 (dg 256 A)) | 2 => vv = .agg (arr .u8 32 (dg 256 PA)) | 3 | 4 => vv = .tuple #[.agg (arr .u8 32 (dg 256 X)), .int .i64 (er)] | 5 => vv = .agg (arr .u8 32 (dg 256 X)) | 6 | 9 => vv = .int .i64 (er) | _ => True)) (fun _ _ => True) (fun _ _ _ => trivial) (fun _ _ _ _ _ _ _ => trivial) (fun _ _ _ _ h _ => h)
        (vs_al rfl) (vs_inj rfl) ?_ ?_ ?_ ?_
      · refine Each.all ?_
        refine ⟨?_, ?_, ?_, ?_, ?_, ?_, ?_, (fun h => by cases h), (fun _ h => by cases h), ?_, trivial⟩
        · intro _ _ a w2 hB hF hd
          rw [if_pos (wanted_none rfl)]
          exact flow_val (fun h => by cases h) (run_load_str rfl Try.underlying88 rfl Try.size88 (hF.same 4 rfl) (hP.below hB hP.lt)) rfl
        · intro _ _ a w2 hB hF hd
          rw [if_pos (wanted_none rfl)]
          exact flow_val (fun h => by cases h) (run_load_str rfl Try.underlying88 rfl Try.size88 (hF.same 3 rfl) (hA.below hB hA.lt)) rfl
        · intro _ _ a w2 hB hF hd
          rw [if_pos (wanted_none rfl)]
          refine flow_call _ _ _ rfl Try.call55 _ (args1 (hd 1 _ rfl rfl rfl (waits_spec rfl))) (by simp) ((HPA.out w2).mono ?_)
          rintro e w3 ⟨rfl, hb⟩; exact ⟨_, rfl, rfl, hb⟩
        · intro _ _ a w2 hB hF hd
          rw [if_pos (wanted_none rfl)]
          refine flow_call _ _ _ rfl Try.call51 _ (args2 (hd 0 _ rfl rfl rfl (waits_spec rfl)) (hd 2 _ rfl rfl rfl (waits_spec rfl))) (by simp) ((HSB.out w2).mono ?_)
          rintro e w3 ⟨rfl, hb⟩; exact ⟨_, rfl, rfl, hb⟩
        · intro _ _ a w2 hB hF hd
          rw [if_pos (wanted_none rfl)]
          exact flow_move _ (.inl rfl) (by simp) (hd 3 _ rfl rfl rfl (waits_spec rfl))
        · intro _ _ a w2 hB hF hd
          rw [if_pos (wanted_none rfl)]
          exact flow_val (fun h => by cases h) (run_extract rfl (hd 4 _ rfl rfl rfl (waits_spec rfl)) rfl) rfl
        · intro _ _ a w2 hB hF hd
          rw [if_pos (wanted_none rfl)]
          exact flow_val (fun h => by cases h) (run_extract rfl (hd 4 _ rfl rfl rfl (waits_spec rfl)) rfl) rfl
        · intro _ _ a w2 hB hF hd
          rw [if_pos (wanted_none rfl)]
          exact flow_move _ (.inr rfl) (by simp) (hd 6 _ rfl rfl rfl (waits_spec rfl))
      · refine Each.all ?_
        refine ⟨(fun h => by cases h), (fun h => by cases h), (fun h => by cases h), (fun h => by cases h), (fun h => by cases h), (fun h => by cases h), (fun h => by cases h), ?_, (fun h => by cases h), (fun h => by cases h), trivial⟩
        · exact fun _ => ⟨rfl, rfl, fun a w2 K h => flow_alloc rfl rfl Try.zeroValue88 (by simp) h⟩
      · refine Each.all ?_
        refine ⟨(fun _ h => by cases h), (fun _ h => by cases h), (fun _ h => by cases h), (fun _ h => by cases h), (fun _ h => by cases h), (fun _ h => by cases h), (fun _ h => by cases h), (fun _ h => by cases h), ?_, (fun _ h => by cases h), trivial⟩
        · intro p hp
          obtain rfl : 7 = p := Option.some.inj hp
          exact ⟨rfl, rfl, ⟨_, rfl⟩, waits_spec rfl, fun a w2 b K hB hF hd hx hb h => flow_put rfl rfl Try.size88 hx (hd 5 _ rfl rfl rfl (waits_spec rfl)) hb h⟩
      · intro a w5 blk hB hF hS hv hfin hdis
        obtain ⟨v7, v7l, v7u⟩ := hv 7 _ rfl rfl
        have ha := puts_each rfl rfl hF [_, _, _, _, _, _, _, _, undef, _] rfl ⟨hS 0 _ rfl rfl rfl, hS 1 _ rfl rfl rfl, hS 2 _ rfl rfl rfl, hS 3 _ rfl rfl rfl, hS 4 _ rfl rfl rfl, hS 5 _ rfl rfl rfl, hS 6 _ rfl rfl rfl, v7, trivial, hS 9 _ rfl rfl rfl, trivial⟩
        have f7 := hfin 8 _ 7 rfl rfl
        simp only [puts, Act.put, List.setIfInBounds_toArray, List.set_cons_succ, List.set_cons_zero] at ha
        subst ha
        have V7 : Arr .u8 w5 (blk 7) 32 (dg 256 X) := ⟨_, f7⟩
        clear hS hv hfin hdis hF v7 f7
        replace hA := hA.kept hB
        replace hP := hP.kept hB
        replace hU := hU.kept hB
        replace hX1 := hX1.kept hB
        replace hbel := hbel.trans (hB.mono hbel.size)
        obtain ⟨y, hy⟩ : ∃ x, x = blk 7 := ⟨_, rfl⟩
        rw [← hy] at V7 ⊢
        have hX2 := V7
        clear hB V7 v7l v7u hy
        go_upto_region 7 with (fail)
        refine region_flow (n := 62) (by kernel_rfl) (by kernel_rfl) (by kernel_rfl) rfl
          (fun ii vv _ => (match ii with | 0 | 1 => vv = .int .i64 (er) | 2 | 3 | 6 | 7 | 8 | 19 | 20 | 21 => vv = .bool true | 4 | 5 => vv = .agg (arr .u8 32 (dg 256 X)) | 9 | 15 => vv = .agg (arr .u8 32 (dg 256 A)) | 10 | 14 => vv = .agg (arr .u8 32 (dg 256 B)) | 11 | 16 => vv = .agg (arr .u8 32 (dg 256 U)) | 12 => vv = .agg (arr .u8 32 (dg 256 MB)) | 13 | 18 => vv = .agg (arr .u8 32 (dg 256 Y)) | 17 => vv = .agg (arr .u8 32 (dg 256 MA)) | _ => True))
          (fun w w' => Below w.heap.size w w') (fun _ _ h => h) (fun _ _ _ _ h _ => h) ?_ ?_
        · refine Each.all ?_
          refine ⟨?_, ?_, ?_, ?_, ?_, ?_, ?_, ?_, ?_, ?_, ?_, ?_, ?_, ?_, ?_, ?_, ?_, ?_, ?_, ?_, ?_, ?_, trivial⟩
          · intro a w2 hB hF hd
            rw [if_pos (wanted_none rfl)]
            exact flow_move _ (.inl rfl) (by simp) (hF.same 8 rfl)
          · intro a w2 hB hF hd
            rw [if_pos (wanted_none rfl)]
            exact flow_move _ (.inl rfl) (by simp) (hF.same 10 rfl)
          · intro a w2 hB hF hd
            rw [if_pos (wanted_none rfl)]
            refine flow_val (fun h => by cases h) (Go.Bas.run_eql_int rfl (hd 0 _ rfl (waits_spec rfl)) (hd 1 _ rfl (waits_spec rfl))) ?_
            exact congrArg Value.bool (beq_self_eq_true _)
          · intro a w2 hB hF hd
            rw [if_pos (wanted_none rfl)]
            exact flow_move _ (.inl rfl) (by simp) (hd 2 _ rfl (waits_spec rfl))
          · intro a w2 hB hF hd
            refine flow_wanted (wanted_yes rfl rfl (hd 3 _ rfl (waits_spec rfl)) rfl) ?_
            exact flow_val (fun h => by cases h) (run_load_str rfl Try.underlying88 rfl Try.size88 (hF.same 7 rfl) (hX1.below hB hX1.lt)) rfl
          · intro a w2 hB hF hd
            refine flow_wanted (wanted_yes rfl rfl (hd 3 _ rfl (waits_spec rfl)) rfl) ?_
            exact flow_val (fun h => by cases h) (run_load_str rfl Try.underlying88 rfl Try.size88 (hF.same 9 rfl) (hX2.below hB hX2.lt)) rfl
          · intro a w2 hB hF hd
            refine flow_wanted (wanted_yes rfl rfl (hd 3 _ rfl (waits_spec rfl)) rfl) ?_
            exact flow_val (fun h => by cases h) (run_eql_arr true rfl (hd 4 _ rfl (waits_spec rfl)) (hd 5 _ rfl (waits_spec rfl)) Try.underlying88 (by kernel_rfl) (by kernel_rfl) (by kernel_rfl) (by kernel_rfl) (by kernel_rfl) sameB_self) rfl
          · intro a w2 hB hF hd
            rw [if_pos (wanted_none rfl)]
            exact flow_val (fun h => by cases h) (run_pick rfl (hd 3 _ rfl (waits_spec rfl))) ((hd 6 _ rfl (waits_spec rfl)))
          · intro a w2 hB hF hd
            rw [if_pos (wanted_none rfl)]
            exact flow_move _ (.inl rfl) (by simp) (hd 7 _ rfl (waits_spec rfl))
          · intro a w2 hB hF hd
            refine flow_wanted (wanted_yes rfl rfl (hd 8 _ rfl (waits_spec rfl)) rfl) ?_
            exact flow_val (fun h => by cases h) (run_load_str rfl Try.underlying88 rfl Try.size88 (hF.same 3 rfl) (hA.below hB hA.lt)) rfl
          · intro a w2 hB hF hd
            refine flow_wanted (wanted_yes rfl rfl (hd 8 _ rfl (waits_spec rfl)) rfl) ?_
            exact flow_val (fun h => by cases h) (run_load_str rfl Try.underlying88 rfl Try.size88 (hF.same 4 rfl) (hP.below hB hP.lt)) rfl
          · intro a w2 hB hF hd
            refine flow_wanted (wanted_yes rfl rfl (hd 8 _ rfl (waits_spec rfl)) rfl) ?_
            exact flow_val (fun h => by cases h) (run_load_str rfl Try.underlying88 rfl Try.size88 (hF.same 5 rfl) (hU.below hB hU.lt)) rfl
          · intro a w2 hB hF hd
            refine flow_wanted (wanted_yes rfl rfl (hd 8 _ rfl (waits_spec rfl)) rfl) ?_
            refine flow_call _ _ _ rfl Try.call52 _ (args2 (hd 10 _ rfl (waits_spec rfl)) (hd 11 _ rfl (waits_spec rfl))) (by simp) ((HMB.out w2).mono ?_)
            rintro e w3 ⟨rfl, hb⟩; exact ⟨_, rfl, rfl, hb⟩
          · intro a w2 hB hF hd
            refine flow_wanted (wanted_yes rfl rfl (hd 8 _ rfl (waits_spec rfl)) rfl) ?_
            refine flow_call _ _ _ rfl Try.call52 _ (args2 (hd 9 _ rfl (waits_spec rfl)) (hd 12 _ rfl (waits_spec rfl))) (by simp) ((HAB.out w2).mono ?_)
            rintro e w3 ⟨rfl, hb⟩; exact ⟨_, rfl, rfl, hb⟩
          · intro a w2 hB hF hd
            refine flow_wanted (wanted_yes rfl rfl (hd 8 _ rfl (waits_spec rfl)) rfl) ?_
            exact flow_val (fun h => by cases h) (run_load_str rfl Try.underlying88 rfl Try.size88 (hF.same 4 rfl) (hP.below hB hP.lt)) rfl
          · intro a w2 hB hF hd
            refine flow_wanted (wanted_yes rfl rfl (hd 8 _ rfl (waits_spec rfl)) rfl) ?_
            exact flow_val (fun h => by cases h) (run_load_str rfl Try.underlying88 rfl Try.size88 (hF.same 3 rfl) (hA.below hB hA.lt)) rfl
          · intro a w2 hB hF hd
            refine flow_wanted (wanted_yes rfl rfl (hd 8 _ rfl (waits_spec rfl)) rfl) ?_
            exact flow_val (fun h => by cases h) (run_load_str rfl Try.underlying88 rfl Try.size88 (hF.same 5 rfl) (hU.below hB hU.lt)) rfl
          · intro a w2 hB hF hd
            refine flow_wanted (wanted_yes rfl rfl (hd 8 _ rfl (waits_spec rfl)) rfl) ?_
            refine flow_call _ _ _ rfl Try.call52 _ (args2 (hd 15 _ rfl (waits_spec rfl)) (hd 16 _ rfl (waits_spec rfl))) (by simp) ((HMA.out w2).mono ?_)
            rintro e w3 ⟨rfl, hb⟩; exact ⟨_, rfl, rfl, hb⟩
          · intro a w2 hB hF hd
            refine flow_wanted (wanted_yes rfl rfl (hd 8 _ rfl (waits_spec rfl)) rfl) ?_
            refine flow_call _ _ _ rfl Try.call52 _ (args2 (hd 14 _ rfl (waits_spec rfl)) (hd 17 _ rfl (waits_spec rfl))) (by simp) ((HBA.out w2).mono ?_)
            rintro e w3 ⟨rfl, hb⟩; exact ⟨_, rfl, rfl, hb⟩
          · intro a w2 hB hF hd
            refine flow_wanted (wanted_yes rfl rfl (hd 8 _ rfl (waits_spec rfl)) rfl) ?_
            exact flow_val (fun h => by cases h) (run_eql_arr true rfl (hd 13 _ rfl (waits_spec rfl)) (hd 18 _ rfl (waits_spec rfl)) Try.underlying88 (by kernel_rfl) (by kernel_rfl) (by kernel_rfl) (by kernel_rfl) (by kernel_rfl) sameB_self) rfl
          · intro a w2 hB hF hd
            rw [if_pos (wanted_none rfl)]
            exact flow_val (fun h => by cases h) (run_pick rfl (hd 8 _ rfl (waits_spec rfl))) ((hd 19 _ rfl (waits_spec rfl)))
          · intro a w2 hB hF hd
            rw [if_pos (wanted_none rfl)]
            exact flow_move _ (.inr rfl) (by simp) (hd 20 _ rfl (waits_spec rfl))
        · intro a w6 hB hF hS
          have ha := puts_each rfl rfl hF [_, _, _, _, _, _, _, _, _, _, _, _, _, _, _, _, _, _, _, _, _, _] rfl ⟨hS 0 _ rfl, hS 1 _ rfl, hS 2 _ rfl, hS 3 _ rfl, hS 4 _ rfl, hS 5 _ rfl, hS 6 _ rfl, hS 7 _ rfl, hS 8 _ rfl, hS 9 _ rfl, hS 10 _ rfl, hS 11 _ rfl, hS 12 _ rfl, hS 13 _ rfl, hS 14 _ rfl, hS 15 _ rfl, hS 16 _ rfl, hS 17 _ rfl, hS 18 _ rfl, hS 19 _ rfl, hS 20 _ rfl, hS 21 _ rfl, trivial⟩
          simp only [puts, Act.put, List.setIfInBounds_toArray, List.set_cons_succ, List.set_cons_zero] at ha
          subst ha
          clear hS hF
          have hb := hbel.trans (hB.mono hbel.size)
          go_wp2
          go_ret
          exact ⟨rfl, hb⟩

theorem ladderMeets_law (w : World) (fa : Nat → Int) (ha : ∀ i, i < 32 → (Lit.int .u8 (fa i)).wf = true) (fb : Nat → Int) (hb : ∀ i, i < 32 → (Lit.int .u8 (fb i)).wf = true) (fp : Nat → Int) (hp : ∀ i, i < 32 → (Lit.int .u8 (fp i)).wf = true) :
    Calls Try.prog 12 #[.agg (arr .u8 32 fa), .agg (arr .u8 32 fb), .agg (arr .u8 32 fp)] w fun e w' => e = .returned (.bool true) ∧ Below w.heap.size w w' := by
  obtain ⟨A, eA, _⟩ := num32 fa ha
  obtain ⟨B, eB, _⟩ := num32 fb hb
  obtain ⟨U, eU, _⟩ := num32 fp hp
  rw [eA, eB, eU]
  exact ladderMeets_num A B U w
end Go.Proofs.Ytllkfkbioloaoaa
