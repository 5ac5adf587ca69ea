/-
  ladder.Public, ladder.Shared, bastillelaw05.awake: what each answers. Conditions: named in each theorem.
-/
import Derived.Test.YtllkfkbioloaoaaLd2
import Derived.Test.YtllkfkbioloaoaaLdC
set_option linter.unusedVariables false
set_option linter.unusedSimpArgs false
namespace Go.Bas
open Go.RowKit
/-- why no secret comes. -/
def ldErr (X : Int) : Int := if X = 0 then 21 else 0
end Go.Bas
namespace Go.Proofs.Ytllkfkbioloaoaa
open Go.RowKit Go.Bas Go.ChangeShapes
attribute [local go_sem ↓] Go.wp_at_zero Go.wp_at_succ

/-- the number that comes of a secret and a point. -/
abbrev mulN (S U : Int) : Int := ladN (clampN S) (U % 2 ^ 255) % Pr
theorem build_z32 {a : Act} (w : World) : (Instr.build 88 ((#[] : Array (Nat × Operand)).map fun (i, x) => (i, a.eval x))).run Try.prog w = .ok (.agg (arr .u8 32 (dg 256 0))) w := build_nil (a := a) w

set_option maxRecDepth 100000 in
set_option maxHeartbeats 1600000 in
theorem ldPublic_any (S : Int) (w : World) :
    Calls Try.prog 55 #[.agg (arr .u8 32 (dg 256 S))] w fun e w' => e = .returned (.agg (arr .u8 32 (dg 256 (mulN S 9)))) ∧ Below w.heap.size w w' := by
  have HM := Lib.hid (fun w => ldMul_any S 9 w)
  unfold mulN
  obtain ⟨X, hX⟩ : ∃ X, X = ladN (clampN S) (9 % 2 ^ 255) % Pr := ⟨_, rfl⟩
  rw [← hX] at HM ⊢
  clear hX
  go_enter Try.func55, Try.ntmps55
  go_upto_region 1 with (fail)
  refine wp_world (fun w1 => Arr .u8 w1 w.heap.size 32 (dg 256 S) ∧ Arr .u8 w1 (w.heap.size + 1) 32 (fun _ => 0) ∧ Below w.heap.size w w1) ⟨.alloc (Arr.newAt rfl rfl) _, Arr.newAt (by first | omega | (simp <;> omega)) (by rfl), ((Below.refl _ _).alloc (Nat.le_refl _) _).alloc (by first | omega | (simp <;> omega)) _⟩ ?_
  rintro w1 ⟨hA, hZ, hbel⟩
  refine region_lasts (n := 6) (fun i => i == 3) (by kernel_rfl) (by kernel_rfl) (by kernel_rfl) (by kernel_rfl) rfl
    (fun ii vv _ => (match ii with | 0 => vv = .agg (arr .u8 32 (dg 256 S)) | 1 => vv = .agg (arr .u8 32 (dg 256 9)) | 2 => vv = .agg (arr .u8 32 (dg 256 X)) | _ => True))
    (fun w w' => Below w.heap.size w w') (fun _ _ h => h) (fun _ _ _ _ h _ => h)
    (fun _ => (w.heap.size + 1)) (fun _ => (arr .u8 32 (fun _ => 0))) (fun _ => (arr .u8 32 (dg 256 X)))
    (by intro i j _ _ hpi hpj hne; simp only [beq_iff_eq] at hpi hpj; omega)
    (by intro i _ hpi; exact (hZ).row)
    ?_ ?_ ?_
  · refine Each.all ?_
    refine ⟨?_, ?_, ?_, (fun h => absurd h (by decide)), trivial⟩
    · intro _ a w2 hB hF hd
      rw [if_pos (wanted_none rfl)]
      exact flow_val (fun h => by cases h) (run_load_str rfl Try.underlying88 rfl Try.size88 (hF.same 1 rfl) (hA.below hB hA.lt)) rfl
    · intro _ a w2 hB hF hd
      rw [if_pos (wanted_none rfl)]
      refine flow_call _ _ _ rfl Try.call56 _ args0 (by simp) ((ldBase_any w2).mono ?_)
      rintro e w3 ⟨rfl, hb⟩; exact ⟨_, rfl, rfl, hb⟩
    · intro _ a w2 hB hF hd
      rw [if_pos (wanted_none rfl)]
      refine flow_call _ _ _ rfl Try.call52 _ (args2 (hd 0 _ rfl rfl (waits_spec rfl)) (hd 1 _ rfl rfl (waits_spec rfl))) (by simp) ((HM.out w2).mono ?_)
      rintro e w3 ⟨rfl, hb⟩; exact ⟨_, rfl, rfl, hb⟩
  · refine Each.all ?_
    refine ⟨(fun h => absurd h (by decide)), (fun h => absurd h (by decide)), (fun h => absurd h (by decide)), ?_, trivial⟩
    · intro _ a w1 w2 K hB hF hS hr hK
      exact wp_store_arr 88 _ _ rfl .u8 ((w.heap.size + 1)) 32 (fun _ => 0) (dg 256 X) Try.size88 (hF.same 2 rfl) (hS 2 _ rfl rfl ) hr hK
  · intro a wf w3 hB hF hS hfil
    have other : ∀ {k : IntKind} {qb n : Nat} {f : Nat → Int}, qb ≠ (w.heap.size + 1) → Arr k wf qb n f → Arr k w3 qb n f := fun {k qb n f} e0 hA => hfil.arr (by intro i _ hpi; simp only [Bool.or_eq_true, beq_iff_eq] at hpi; subst hpi <;> ((try simp only []); (try dsimp only); omega)) hA
    have belowT : ∀ {B : Nat} {w0 : World}, B ≤ (w.heap.size + 1) → Below B w0 wf → Below B w0 w3 := fun {B w0} e0 hA => hfil.below (by intro i _ hpi; simp only [Bool.or_eq_true, beq_iff_eq] at hpi; subst hpi <;> ((try simp only []); (try dsimp only); omega)) hA
    have V3 : Arr .u8 w3 ((w.heap.size + 1)) 32 (dg 256 X) := hfil.at 3 (by decide) rfl
    have hszf := hfil.size
    clear hfil
    have ha := puts_each rfl rfl hF [_, _, _, undef] rfl ⟨hS 0 _ rfl rfl, hS 1 _ rfl rfl, hS 2 _ rfl rfl, trivial, trivial⟩
    simp only [puts, Act.put, List.setIfInBounds_toArray, List.set_cons_succ, List.set_cons_zero] at ha
    subst ha
    clear hS hF
    have hb := belowT (by omega) (hbel.trans (hB.mono hbel.size))
    go_wp2
    exact bodyPost_ret (results_arr rfl _ _ .u8 (w.heap.size + 1) 32 _ 5 rfl V3 Try.underlying88 Try.size88) rfl ⟨rfl, hb⟩

theorem mulN_zero (S U : Int) : sameB 32 (dg 256 (mulN S U)) (dg 256 0) = decide (mulN S U = 0) := by
  have h := sameB_modP (ladN (clampN S) (U % 2 ^ 255)) 0
  rw [show (0 : Int) % Pr = 0 by decide] at h
  rw [h]; unfold eqP mulN
  rw [show (0 : Int) % Pr = 0 by decide]

set_option maxRecDepth 100000 in
set_option maxHeartbeats 1600000 in
theorem ldShared_any (S U : Int) (w : World) :
    Calls Try.prog 51 #[.agg (arr .u8 32 (dg 256 S)), .agg (arr .u8 32 (dg 256 U))] w fun e w' => e = .returned (.tuple #[.agg (arr .u8 32 (dg 256 (mulN S U))), .int .i64 (ldErr (mulN S U))]) ∧ Below w.heap.size w w' := by
  have HM : Hid (∀ w, Calls Try.prog 52 #[.agg (arr .u8 32 (dg 256 S)), .agg (arr .u8 32 (dg 256 U))] w fun e w' => e = .returned (.agg (arr .u8 32 (dg 256 (mulN S U)))) ∧ Below w.heap.size w w') := fun w => ldMul_any S U w
  have HZ := Lib.hid (mulN_zero S U)
  have HE : Hid (ldErr (mulN S U) = if mulN S U = 0 then 21 else 0) := rfl
  have HB := Lib.hid (fun (a : Act) w => build_z32 (a := a) w)
  obtain ⟨X, hX⟩ : ∃ X, X = mulN S U := ⟨_, rfl⟩
  rw [← hX] at HM HZ HE ⊢
  obtain ⟨er, her⟩ : ∃ er, er = ldErr X := ⟨_, rfl⟩
  rw [← her] at HE ⊢
  clear hX her
  go_enter Try.func51, Try.ntmps51
  go_upto_region 1 with (fail)
  refine wp_world (fun w1 => Arr .u8 w1 w.heap.size 32 (dg 256 S) ∧ Arr .u8 w1 (w.heap.size + 1) 32 (dg 256 U) ∧ Arr .u8 w1 (w.heap.size + 2) 32 (fun _ => 0) ∧ Below w.heap.size w w1) ⟨.alloc (.alloc (Arr.newAt rfl rfl) _) _, .alloc (Arr.newAt (by first | omega | (simp <;> omega)) rfl) _, Arr.newAt (by first | omega | (simp <;> omega)) (by rfl), (((Below.refl _ _).alloc (Nat.le_refl _) _).alloc (by first | omega | (simp <;> omega)) _).alloc (by first | omega | (simp <;> omega)) _⟩ ?_
  rintro w1 ⟨hA, hP, hZ, hbel⟩
  go_wp2_with (first
    | (refine load_arr rfl 88 _ rfl .u8 w.heap.size 32 (dg 256 S) 5 Try.underlying88 Try.size88 rfl hA ?_)
    | (refine load_arr rfl 88 _ rfl .u8 (w.heap.size + 1) 32 (dg 256 U) 5 Try.underlying88 Try.size88 rfl hP ?_))
  refine (HM.out _).mono ?_
  rintro e w2 ⟨rfl, hb2⟩
  have hZ2 := hZ.kept hb2
  have hbel2 := hbel.trans (hb2.mono hbel.size)
  have hl2 := hZ2.lt
  clear hA hP hZ hbel hb2
  go_upto_region 2 with (refine store_arr rfl 88 _ _ rfl .u8 w2.heap.size 32 (fun _ => 0) (dg 256 X) Try.size88 rfl rfl (Arr.newAt rfl (by rfl)) ?_)
  refine wp_world (fun w3 => Arr .u8 w3 w2.heap.size 32 (dg 256 X) ∧ Arr .u8 w3 (w.heap.size + 2) 32 (fun _ => 0) ∧ Below w.heap.size w w3)
    ⟨(Arr.newAt rfl (by rfl) : Arr .u8 _ _ 32 (fun _ => 0)).setRow _ _, Arr.setRowOther (Arr.alloc hZ2 _) _ (by omega) _, below_setRow' (hbel2.alloc hbel2.size _) hbel2.size _⟩ ?_
  rintro w3 ⟨hX, hZ3, hbel3⟩
  obtain ⟨bx, hbx⟩ : ∃ bx, bx = w2.heap.size := ⟨_, rfl⟩
  rw [← hbx] at hX hl2 ⊢
  clear hbx hZ2 hbel2
  try simp only [Act.put, List.setIfInBounds_toArray, List.set_cons_succ, List.set_cons_zero]
  by_cases h0 : X = 0
  case pos =>
    have h1 : er = 21 := by rw [HE.out, if_pos h0]
    have HQ : Hid (sameB 32 (dg 256 X) (dg 256 0) = true) := by rw [HZ.out]; exact decide_eq_true h0
    have H1 := Lib.hid h1
    clear h0 h1 HE HZ
    refine region_flow (n := 15) (by kernel_rfl) (by kernel_rfl) (by kernel_rfl) rfl
      (fun ii vv _ => (match ii with | 0 => vv = .agg (arr .u8 32 (dg 256 X)) | 1 => vv = .agg (arr .u8 32 (dg 256 0)) | 2 => vv = .bool true | _ => True))
      (fun w w' => Below w.heap.size w w') (fun _ _ h => h) (fun _ _ _ _ h _ => h) ?_ ?_
    · refine Each.all ?_
      refine ⟨?_, ?_, ?_, trivial⟩
      · intro a w2 hB hF hd
        rw [if_pos (wanted_none rfl)]
        exact flow_val (fun h => by cases h) (run_load_str rfl Try.underlying88 rfl Try.size88 (hF.same 6 rfl) (hX.below hB hX.lt)) rfl
      · intro a w2 hB hF hd
        rw [if_pos (wanted_none rfl)]
        exact flow_val (fun h => by cases h) (run_built rfl (HB.out _ _)) rfl
      · intro a w2 hB hF hd
        rw [if_pos (wanted_none rfl)]
        exact flow_val (fun h => by cases h) (run_eql_arr true rfl (hd 0 _ rfl (waits_spec rfl)) (hd 1 _ rfl (waits_spec rfl)) Try.underlying88 (by kernel_rfl) (by kernel_rfl) (by kernel_rfl) (by kernel_rfl) (by kernel_rfl) HQ.out) rfl
    · intro a w4 hB hF hS
      have ha := puts_each rfl rfl hF [_, _, _] rfl ⟨hS 0 _ rfl, hS 1 _ rfl, hS 2 _ rfl, trivial⟩
      simp only [puts, Act.put, List.setIfInBounds_toArray, List.set_cons_succ, List.set_cons_zero] at ha
      subst ha
      clear hS hF
      have hX4 := hX.kept hB
      have hZ4 := hZ3.kept hB
      have hb4 := hbel3.trans (hB.mono hbel3.size)
      clear hX hZ3 hbel3 hB HQ
      go_wp2_with (first
        | (refine load_arr rfl 88 _ rfl .u8 bx 32 (dg 256 X) 5 Try.underlying88 Try.size88 rfl hX4 ?_)
        | (refine store_arr rfl 88 _ _ rfl .u8 (w.heap.size + 2) 32 (fun _ => 0) (dg 256 X) Try.size88 rfl rfl hZ4 ?_))
      exact bodyPost_ret (results_arr2 rfl _ _ .u8 (w.heap.size + 2) 32 _ 5 rfl (hZ4.setRow 32 (dg 256 X)) Try.underlying88 Try.size88) rfl ⟨by rw [H1.out]; rfl, below_setRow' hb4 (by omega) _⟩
  case neg =>
    have h1 : er = 0 := by rw [HE.out, if_neg h0]
    have HQ : Hid (sameB 32 (dg 256 X) (dg 256 0) = false) := by rw [HZ.out]; exact decide_eq_false h0
    have H1 := Lib.hid h1
    clear h0 h1 HE HZ
    refine region_flow (n := 15) (by kernel_rfl) (by kernel_rfl) (by kernel_rfl) rfl
      (fun ii vv _ => (match ii with | 0 => vv = .agg (arr .u8 32 (dg 256 X)) | 1 => vv = .agg (arr .u8 32 (dg 256 0)) | 2 => vv = .bool false | _ => True))
      (fun w w' => Below w.heap.size w w') (fun _ _ h => h) (fun _ _ _ _ h _ => h) ?_ ?_
    · refine Each.all ?_
      refine ⟨?_, ?_, ?_, trivial⟩
      · intro a w2 hB hF hd
        rw [if_pos (wanted_none rfl)]
        exact flow_val (fun h => by cases h) (run_load_str rfl Try.underlying88 rfl Try.size88 (hF.same 6 rfl) (hX.below hB hX.lt)) rfl
      · intro a w2 hB hF hd
        rw [if_pos (wanted_none rfl)]
        exact flow_val (fun h => by cases h) (run_built rfl (HB.out _ _)) rfl
      · intro a w2 hB hF hd
        rw [if_pos (wanted_none rfl)]
        exact flow_val (fun h => by cases h) (run_eql_arr false rfl (hd 0 _ rfl (waits_spec rfl)) (hd 1 _ rfl (waits_spec rfl)) Try.underlying88 (by kernel_rfl) (by kernel_rfl) (by kernel_rfl) (by kernel_rfl) (by kernel_rfl) HQ.out) rfl
    · intro a w4 hB hF hS
      have ha := puts_each rfl rfl hF [_, _, _] rfl ⟨hS 0 _ rfl, hS 1 _ rfl, hS 2 _ rfl, trivial⟩
      simp only [puts, Act.put, List.setIfInBounds_toArray, List.set_cons_succ, List.set_cons_zero] at ha
      subst ha
      clear hS hF
      have hX4 := hX.kept hB
      have hZ4 := hZ3.kept hB
      have hb4 := hbel3.trans (hB.mono hbel3.size)
      clear hX hZ3 hbel3 hB HQ
      go_wp2_with (first
        | (refine load_arr rfl 88 _ rfl .u8 bx 32 (dg 256 X) 5 Try.underlying88 Try.size88 rfl hX4 ?_)
        | (refine store_arr rfl 88 _ _ rfl .u8 (w.heap.size + 2) 32 (fun _ => 0) (dg 256 X) Try.size88 rfl rfl hZ4 ?_))
      exact bodyPost_ret (results_arr2 rfl _ _ .u8 (w.heap.size + 2) 32 _ 5 rfl (hZ4.setRow 32 (dg 256 X)) Try.underlying88 Try.size88) rfl ⟨by rw [H1.out]; rfl, below_setRow' hb4 (by omega) _⟩

set_option maxRecDepth 100000 in
set_option maxHeartbeats 1600000 in
theorem ldAwake_any (w : World) : Calls Try.prog 49 #[] w fun e w' => e = .returned (.bool true) ∧ Below w.heap.size w w' := by
  have HP := Lib.hid (fun w => ldPublic_any 8 w)
  have HZ : Hid (sameB 32 (dg 256 (mulN 8 9)) (dg 256 0) = false) := by rw [mulN_zero]; exact decide_eq_false awake_ne
  obtain ⟨X, hX⟩ : ∃ X, X = mulN 8 9 := ⟨_, rfl⟩
  rw [← hX] at HP HZ
  clear hX
  have HB := Lib.hid (fun (a : Act) w => build_z32 (a := a) w)
  have HB9 := Lib.hid (fun (a : Act) w => build_nine (a := a) w)
  have HB8 := Lib.hid (fun (a : Act) w => build_eight (a := a) w)
  go_enter Try.func49, Try.ntmps49
  go_upto_region 1 with (fail)
  refine region_flow (n := 10) (by kernel_rfl) (by kernel_rfl) (by kernel_rfl) rfl
    (fun ii vv _ => (match ii with | 0 | 1 => vv = .agg (arr .u8 32 (dg 256 9)) | 2 | 3 | 7 | 8 | 9 => vv = .bool true | 4 => vv = .agg (arr .u8 32 (dg 256 8)) | 5 => vv = .agg (arr .u8 32 (dg 256 X)) | 6 => vv = .agg (arr .u8 32 (dg 256 0)) | _ => True))
    (fun w w' => Below w.heap.size w w') (fun _ _ h => h) (fun _ _ _ _ h _ => h) ?_ ?_
  · refine Each.all ?_
    refine ⟨?_, ?_, ?_, ?_, ?_, ?_, ?_, ?_, ?_, ?_, trivial⟩
    · intro a w2 hB hF hd
      rw [if_pos (wanted_none rfl)]
      refine flow_call _ _ _ rfl Try.call56 _ args0 (by simp) ((ldBase_any w2).mono ?_)
      rintro e w3 ⟨rfl, hb⟩; exact ⟨_, rfl, rfl, hb⟩
    · intro a w2 hB hF hd
      rw [if_pos (wanted_none rfl)]
      exact flow_val (fun h => by cases h) (run_built rfl (HB9.out _ _)) rfl
    · intro a w2 hB hF hd
      rw [if_pos (wanted_none rfl)]
      exact flow_val (fun h => by cases h) (run_eql_arr true rfl (hd 0 _ rfl (waits_spec rfl)) (hd 1 _ rfl (waits_spec rfl)) Try.underlying88 (by kernel_rfl) (by kernel_rfl) (by kernel_rfl) (by kernel_rfl) (by kernel_rfl) sameB_self) rfl
    · intro a w2 hB hF hd
      rw [if_pos (wanted_none rfl)]
      exact flow_move _ (.inl rfl) (by simp) (hd 2 _ rfl (waits_spec rfl))
    · intro a w2 hB hF hd
      refine flow_wanted (wanted_yes rfl rfl (hd 3 _ rfl (waits_spec rfl)) rfl) ?_
      exact flow_val (fun h => by cases h) (run_built rfl (HB8.out _ _)) rfl
    · intro a w2 hB hF hd
      refine flow_wanted (wanted_yes rfl rfl (hd 3 _ rfl (waits_spec rfl)) rfl) ?_
      refine flow_call _ _ _ rfl Try.call55 _ (args1 (hd 4 _ rfl (waits_spec rfl))) (by simp) ((HP.out w2).mono ?_)
      rintro e w3 ⟨rfl, hb⟩; exact ⟨_, rfl, rfl, hb⟩
    · intro a w2 hB hF hd
      refine flow_wanted (wanted_yes rfl rfl (hd 3 _ rfl (waits_spec rfl)) rfl) ?_
      exact flow_val (fun h => by cases h) (run_built rfl (HB.out _ _)) rfl
    · intro a w2 hB hF hd
      refine flow_wanted (wanted_yes rfl rfl (hd 3 _ rfl (waits_spec rfl)) rfl) ?_
      exact flow_val (fun h => by cases h) (run_neq_arr false rfl (hd 5 _ rfl (waits_spec rfl)) (hd 6 _ rfl (waits_spec rfl)) Try.underlying88 (by kernel_rfl) (by kernel_rfl) (by kernel_rfl) (by kernel_rfl) (by kernel_rfl) HZ.out) rfl
    · intro a w2 hB hF hd
      rw [if_pos (wanted_none rfl)]
      exact flow_val (fun h => by cases h) (run_pick rfl (hd 3 _ rfl (waits_spec rfl))) ((hd 7 _ rfl (waits_spec rfl)))
    · intro a w2 hB hF hd
      rw [if_pos (wanted_none rfl)]
      exact flow_move _ (.inr rfl) (by simp) (hd 8 _ rfl (waits_spec rfl))
  · intro a w3 hB hF hS
    have ha := puts_each rfl rfl hF [_, _, _, _, _, _, _, _, _, _] rfl ⟨hS 0 _ rfl, hS 1 _ rfl, hS 2 _ rfl, hS 3 _ rfl, hS 4 _ rfl, hS 5 _ rfl, hS 6 _ rfl, hS 7 _ rfl, hS 8 _ rfl, hS 9 _ rfl, trivial⟩
    simp only [puts, Act.put, List.setIfInBounds_toArray, List.set_cons_succ, List.set_cons_zero] at ha
    subst ha
    clear hS hF
    go_wp2
    go_ret
    exact ⟨rfl, hB⟩
end Go.Proofs.Ytllkfkbioloaoaa
