/-
  The law FeLaws answers true.
-/
import Derived.Test.YtjmagojmfiabfaaFe5
namespace Go.Proofs.Ytjmagojmfiabfaa
open Go.RowKit Go.Bas Go.ChangeShapes
attribute [local go_sem ↓] Go.wp_at_zero Go.wp_at_succ

theorem feEqual_yes (f g : Nat → Int) (X Y : Int) (hf : Fe f X) (hg : Fe g Y) (h : X % Pr = Y % Pr) (w : World) :
    Calls Try.prog 21 #[El f, El g] w fun e w' => e = .returned (.bool true) ∧ Below w.heap.size w w' := by
  have := feEqual_any f g X Y hf hg w
  rwa [show eqP X Y = true from decide_eq_true h] at this
theorem feEqual_no (f g : Nat → Int) (X Y : Int) (hf : Fe f X) (hg : Fe g Y) (h : ¬ X % Pr = Y % Pr) (w : World) :
    Calls Try.prog 21 #[El f, El g] w fun e w' => e = .returned (.bool false) ∧ Below w.heap.size w w' := by
  have := feEqual_any f g X Y hf hg w
  rwa [show eqP X Y = false from decide_eq_false h] at this
theorem fe_nought : Fe (smallF 0) 0 := by have h := fe_smallF 0; rwa [show smallN 0 = 0 by decide] at h
theorem fe_one : Fe (smallF 1) 1 := by have h := fe_smallF 1; rwa [show smallN 1 = 1 by decide] at h
theorem inv_law {X : Int} (Y : Int) (h : X % Pr ≠ 0) : (Y * X) * invN X % Pr = Y % Pr := by
  have h1 := inv_Pr h
  have e : (Y * X) * invN X = Y * (X ^ (PN - 2) * X) := by
    unfold invN
    generalize X ^ (PN - 2) = I
    grind
  rw [e, Int.mul_emod, h1, Int.mul_one, Int.emod_emod_of_dvd _ (Int.dvd_refl Pr)]

set_option maxRecDepth 100000 in
set_option maxHeartbeats 25600000 in
theorem feLaws_law (w : World) (fa : Nat → Int) (ha : ∀ i, i < 32 → (Lit.int .u8 (fa i)).wf = true) (fb : Nat → Int) (hb : ∀ i, i < 32 → (Lit.int .u8 (fb i)).wf = true) (fc : Nat → Int) (hc : ∀ i, i < 32 → (Lit.int .u8 (fc i)).wf = true) :
    Calls Try.prog 7 #[.agg (arr .u8 32 fa), .agg (arr .u8 32 fb), .agg (arr .u8 32 fc)] w fun e w' => e = .returned (.bool true) ∧ Below w.heap.size w w' := by
  obtain ⟨A, eA, hA⟩ := num32 fa ha
  obtain ⟨B, eB, hB⟩ := num32 fb hb
  obtain ⟨C, eC, hC⟩ := num32 fc hc
  rw [eA, eB, eC]
  clear hA hB hC ha hb hc eA eB eC
  go_enter Try.func7, Try.ntmps7
  have hA1 : Arr .u8 (((w.alloc (.cells (arr .u8 32 (dg 256 A)) 22)).alloc (.cells (arr .u8 32 (dg 256 B)) 22)).alloc (.cells (arr .u8 32 (dg 256 C)) 22)) w.heap.size 32 (dg 256 A) := Arr.alloc (Arr.alloc (Arr.newAt rfl rfl) _) _
  have hB1 : Arr .u8 (((w.alloc (.cells (arr .u8 32 (dg 256 A)) 22)).alloc (.cells (arr .u8 32 (dg 256 B)) 22)).alloc (.cells (arr .u8 32 (dg 256 C)) 22)) (w.heap.size + 1) 32 (dg 256 B) := Arr.alloc (Arr.newAt (by first | omega | (simp <;> omega)) rfl) _
  have hC1 : Arr .u8 (((w.alloc (.cells (arr .u8 32 (dg 256 A)) 22)).alloc (.cells (arr .u8 32 (dg 256 B)) 22)).alloc (.cells (arr .u8 32 (dg 256 C)) 22)) (w.heap.size + 2) 32 (dg 256 C) := Arr.newAt (by first | omega | (simp <;> omega)) rfl
  have hb1 : Below w.heap.size w (((w.alloc (.cells (arr .u8 32 (dg 256 A)) 22)).alloc (.cells (arr .u8 32 (dg 256 B)) 22)).alloc (.cells (arr .u8 32 (dg 256 C)) 22)) := (((Below.refl _ _).alloc (Nat.le_refl _) _).alloc (by simp) _).alloc (by simp; omega) _
  go_wp2_with fail
  refine (awake_any _).mono ?_
  rintro e w2 ⟨rfl, hb2⟩
  have hA := hA1.kept hb2
  have hBb := hB1.kept hb2
  have hC := hC1.kept hb2
  have hbel := hb1.trans (hb2.mono hb1.size)
  clear hA1 hB1 hC1 hb1 hb2
  go_wp2
  refine region_vars (n := 117) (by kernel_rfl) (by kernel_rfl) (by kernel_rfl) rfl
    (isAl [(9, 6), (10, 7), (11, 8)]) (putOf [(9, 6), (10, 7), (11, 8)]) (fun _ => arr .i64 16 (fun _ => 0)) (fun i => match i with | 6 => (arr .i64 16 (dg 65536 (A % 2 ^ 255))) | 7 => (arr .i64 16 (dg 65536 (B % 2 ^ 255))) | 8 => (arr .i64 16 (dg 65536 (C % 2 ^ 255))) | _ => #[]) (fun _ => 26) (fun i => match i with | 6 => 7 | 7 => 8 | 8 => 9 | _ => 0)
    (fun i v _ => (match i with | 0 => v = .agg (arr .u8 32 (dg 256 A)) | 1 => v = .agg (arr .i64 16 (dg 65536 (A % 2 ^ 255))) | 2 => v = .agg (arr .u8 32 (dg 256 B)) | 3 => v = .agg (arr .i64 16 (dg 65536 (B % 2 ^ 255))) | 4 => v = .agg (arr .u8 32 (dg 256 C)) | 5 => v = .agg (arr .i64 16 (dg 65536 (C % 2 ^ 255))) | _ => True)) (fun _ _ => True) (fun _ _ _ => trivial) (fun _ _ _ _ _ _ _ => trivial) (fun _ _ _ _ h _ => h)
    (vs_al rfl) (vs_inj rfl) ?_ ?_ ?_ ?_
  · refine Each.all ?_
    refine ⟨?_, ?_, ?_, ?_, ?_, ?_, (fun h => by cases h), (fun h => by cases h), (fun h => by cases h), (fun _ h => by cases h), (fun _ h => by cases h), (fun _ h => by cases h), trivial⟩
    · intro _ _ a w2 hB hF hd
      rw [if_pos (wanted_none rfl)]
      exact flow_val (fun h => by cases h) (run_load_str rfl Try.underlying22 rfl Try.size22 (hF.same 3 rfl) (hA.below hB hA.lt)) rfl
    · intro _ _ a w2 hB hF hd
      rw [if_pos (wanted_none rfl)]
      refine flow_call _ _ _ rfl Try.call16 _ (args1 (hd 0 _ rfl rfl rfl (waits_spec rfl))) (by simp) ((feOf_any A w2).mono ?_)
      rintro e w3 ⟨rfl, hb⟩; exact ⟨_, rfl, rfl, hb⟩
    · intro _ _ a w2 hB hF hd
      rw [if_pos (wanted_none rfl)]
      exact flow_val (fun h => by cases h) (run_load_str rfl Try.underlying22 rfl Try.size22 (hF.same 4 rfl) (hBb.below hB hBb.lt)) rfl
    · intro _ _ a w2 hB hF hd
      rw [if_pos (wanted_none rfl)]
      refine flow_call _ _ _ rfl Try.call16 _ (args1 (hd 2 _ rfl rfl rfl (waits_spec rfl))) (by simp) ((feOf_any B w2).mono ?_)
      rintro e w3 ⟨rfl, hb⟩; exact ⟨_, rfl, rfl, hb⟩
    · intro _ _ a w2 hB hF hd
      rw [if_pos (wanted_none rfl)]
      exact flow_val (fun h => by cases h) (run_load_str rfl Try.underlying22 rfl Try.size22 (hF.same 5 rfl) (hC.below hB hC.lt)) rfl
    · intro _ _ a w2 hB hF hd
      rw [if_pos (wanted_none rfl)]
      refine flow_call _ _ _ rfl Try.call16 _ (args1 (hd 4 _ rfl rfl rfl (waits_spec rfl))) (by simp) ((feOf_any C w2).mono ?_)
      rintro e w3 ⟨rfl, hb⟩; exact ⟨_, rfl, rfl, hb⟩
  · refine Each.all ?_
    refine ⟨(fun h => by cases h), (fun h => by cases h), (fun h => by cases h), (fun h => by cases h), (fun h => by cases h), (fun h => by cases h), ?_, ?_, ?_, (fun h => by cases h), (fun h => by cases h), (fun h => by cases h), trivial⟩
    · exact fun _ => ⟨rfl, rfl, fun a w2 K h => flow_alloc rfl rfl Try.zeroValue26 (by simp) h⟩
    · exact fun _ => ⟨rfl, rfl, fun a w2 K h => flow_alloc rfl rfl Try.zeroValue26 (by simp) h⟩
    · exact fun _ => ⟨rfl, rfl, fun a w2 K h => flow_alloc rfl rfl Try.zeroValue26 (by simp) h⟩
  · refine Each.all ?_
    refine ⟨(fun _ h => by cases h), (fun _ h => by cases h), (fun _ h => by cases h), (fun _ h => by cases h), (fun _ h => by cases h), (fun _ h => by cases h), (fun _ h => by cases h), (fun _ h => by cases h), (fun _ h => by cases h), ?_, ?_, ?_, trivial⟩
    · intro p hp
      obtain rfl : 6 = p := Option.some.inj hp
      exact ⟨rfl, rfl, ⟨_, rfl⟩, waits_spec rfl, fun a w2 b K hB hF hd hx hb h => flow_put rfl rfl Try.size26 hx (hd 1 _ rfl rfl rfl (waits_spec rfl)) hb h⟩
    · intro p hp
      obtain rfl : 7 = p := Option.some.inj hp
      exact ⟨rfl, rfl, ⟨_, rfl⟩, waits_spec rfl, fun a w2 b K hB hF hd hx hb h => flow_put rfl rfl Try.size26 hx (hd 3 _ rfl rfl rfl (waits_spec rfl)) hb h⟩
    · intro p hp
      obtain rfl : 8 = p := Option.some.inj hp
      exact ⟨rfl, rfl, ⟨_, rfl⟩, waits_spec rfl, fun a w2 b K hB hF hd hx hb h => flow_put rfl rfl Try.size26 hx (hd 5 _ rfl rfl rfl (waits_spec rfl)) hb h⟩
  · intro a w3 blk hB hF hS hv hfin hdis
    obtain ⟨v6, v6l, v6u⟩ := hv 6 _ rfl rfl
    obtain ⟨v7, v7l, v7u⟩ := hv 7 _ rfl rfl
    obtain ⟨v8, v8l, v8u⟩ := hv 8 _ rfl rfl
    have ha := puts_each rfl rfl hF [_, _, _, _, _, _, _, _, _, undef, undef, undef] rfl ⟨hS 0 _ rfl rfl rfl, hS 1 _ rfl rfl rfl, hS 2 _ rfl rfl rfl, hS 3 _ rfl rfl rfl, hS 4 _ rfl rfl rfl, hS 5 _ rfl rfl rfl, v6, v7, v8, trivial, trivial, trivial, trivial⟩
    have f6 := hfin 9 _ 6 rfl rfl
    have f7 := hfin 10 _ 7 rfl rfl
    have f8 := hfin 11 _ 8 rfl rfl
    have d6_7 := hdis 6 7 _ _ rfl rfl rfl rfl (by decide)
    have d6_8 := hdis 6 8 _ _ rfl rfl rfl rfl (by decide)
    have d7_8 := hdis 7 8 _ _ rfl rfl rfl rfl (by decide)
    simp only [puts, Act.put, List.setIfInBounds_toArray, List.set_cons_succ, List.set_cons_zero] at ha
    subst ha
    have V6 : Arr .i64 w3 (blk 6) 16 (dg 65536 (A % 2 ^ 255)) := ⟨_, f6⟩
    have V7 : Arr .i64 w3 (blk 7) 16 (dg 65536 (B % 2 ^ 255)) := ⟨_, f7⟩
    have V8 : Arr .i64 w3 (blk 8) 16 (dg 65536 (C % 2 ^ 255)) := ⟨_, f8⟩
    clear hS hv hfin hdis hF v6 v7 v8 f6 f7 f8
    have hbel3 := hbel.trans (hB.mono hbel.size)
    obtain ⟨x, hx⟩ : ∃ x, x = blk 6 := ⟨_, rfl⟩
    obtain ⟨y, hy⟩ : ∃ y, y = blk 7 := ⟨_, rfl⟩
    obtain ⟨z, hz⟩ : ∃ z, z = blk 8 := ⟨_, rfl⟩
    rw [← hx] at V6 ⊢
    rw [← hy] at V7 ⊢
    rw [← hz] at V8 ⊢
    clear hx hy hz hA hBb hC hbel hB d6_7 d6_8 d7_8 v6l v6u v7l v7u v8l v8u
    obtain ⟨X, hXe⟩ : ∃ X, X = A % 2 ^ 255 := ⟨_, rfl⟩
    obtain ⟨Y, hYe⟩ : ∃ Y, Y = B % 2 ^ 255 := ⟨_, rfl⟩
    obtain ⟨Z, hZe⟩ : ∃ Z, Z = C % 2 ^ 255 := ⟨_, rfl⟩
    have HFX := Lib.hid (feOf_fe A)
    have HFY := Lib.hid (feOf_fe B)
    have HFZ := Lib.hid (feOf_fe C)
    rw [← hXe] at HFX V6 ⊢
    rw [← hYe] at HFY V7 ⊢
    rw [← hZe] at HFZ V8 ⊢
    clear hXe hYe hZe
    go_upto_region 4 with (fail)
    refine region_vars (n := 117) (by kernel_rfl) (by kernel_rfl) (by kernel_rfl) rfl
      (isAl [(4, 2), (5, 3)]) (putOf [(4, 2), (5, 3)]) (fun _ => arr .i64 16 (fun _ => 0)) (fun i => match i with | 2 => (arr .i64 16 (smallF 0)) | 3 => (arr .i64 16 (smallF 1)) | _ => #[]) (fun _ => 26) (fun i => match i with | 2 => 10 | 3 => 11 | _ => 0)
      (fun i v _ => (match i with | 0 => v = .agg (arr .i64 16 (smallF 0)) | 1 => v = .agg (arr .i64 16 (smallF 1)) | _ => True)) (fun _ _ => True) (fun _ _ _ => trivial) (fun _ _ _ _ _ _ _ => trivial) (fun _ _ _ _ h _ => h)
      (vs_al rfl) (vs_inj rfl) ?_ ?_ ?_ ?_
    · refine Each.all ?_
      refine ⟨?_, ?_, (fun h => by cases h), (fun h => by cases h), (fun _ h => by cases h), (fun _ h => by cases h), trivial⟩
      · intro _ _ a w2 hB hF hd
        rw [if_pos (wanted_none rfl)]
        refine flow_call _ _ _ rfl Try.call23 _ (args1 rfl) (by simp) ((feSmall_any 0 w2).mono ?_)
        rintro e w3 ⟨rfl, hb⟩; exact ⟨_, rfl, rfl, hb⟩
      · intro _ _ a w2 hB hF hd
        rw [if_pos (wanted_none rfl)]
        refine flow_call _ _ _ rfl Try.call23 _ (args1 rfl) (by simp) ((feSmall_any 1 w2).mono ?_)
        rintro e w3 ⟨rfl, hb⟩; exact ⟨_, rfl, rfl, hb⟩
    · refine Each.all ?_
      refine ⟨(fun h => by cases h), (fun h => by cases h), ?_, ?_, (fun h => by cases h), (fun h => by cases h), trivial⟩
      · exact fun _ => ⟨rfl, rfl, fun a w2 K h => flow_alloc rfl rfl Try.zeroValue26 (by simp) h⟩
      · exact fun _ => ⟨rfl, rfl, fun a w2 K h => flow_alloc rfl rfl Try.zeroValue26 (by simp) h⟩
    · refine Each.all ?_
      refine ⟨(fun _ h => by cases h), (fun _ h => by cases h), (fun _ h => by cases h), (fun _ h => by cases h), ?_, ?_, trivial⟩
      · intro p hp
        obtain rfl : 2 = p := Option.some.inj hp
        exact ⟨rfl, rfl, ⟨_, rfl⟩, waits_spec rfl, fun a w2 b K hB hF hd hx hb h => flow_put rfl rfl Try.size26 hx (hd 0 _ rfl rfl rfl (waits_spec rfl)) hb h⟩
      · intro p hp
        obtain rfl : 3 = p := Option.some.inj hp
        exact ⟨rfl, rfl, ⟨_, rfl⟩, waits_spec rfl, fun a w2 b K hB hF hd hx hb h => flow_put rfl rfl Try.size26 hx (hd 1 _ rfl rfl rfl (waits_spec rfl)) hb h⟩
    · intro a w4 blk hB hF hS hv hfin hdis
      obtain ⟨v2, v2l, v2u⟩ := hv 2 _ rfl rfl
      obtain ⟨v3, v3l, v3u⟩ := hv 3 _ rfl rfl
      have ha := puts_each rfl rfl hF [_, _, _, _, undef, undef] rfl ⟨hS 0 _ rfl rfl rfl, hS 1 _ rfl rfl rfl, v2, v3, trivial, trivial, trivial⟩
      have f2 := hfin 4 _ 2 rfl rfl
      have f3 := hfin 5 _ 3 rfl rfl
      have d2_3 := hdis 2 3 _ _ rfl rfl rfl rfl (by decide)
      simp only [puts, Act.put, List.setIfInBounds_toArray, List.set_cons_succ, List.set_cons_zero] at ha
      subst ha
      have V2 : Arr .i64 w4 (blk 2) 16 (smallF 0) := ⟨_, f2⟩
      have V3 : Arr .i64 w4 (blk 3) 16 (smallF 1) := ⟨_, f3⟩
      clear hS hv hfin hdis hF v2 v3 f2 f3
      have hx := V6.below hB V6.lt
      have hy := V7.below hB V7.lt
      have hz := V8.below hB V8.lt
      have hb4 := hbel3.trans (hB.mono hbel3.size)
      obtain ⟨zo, hzo⟩ : ∃ x, x = blk 2 := ⟨_, rfl⟩
      obtain ⟨on, hon⟩ : ∃ x, x = blk 3 := ⟨_, rfl⟩
      rw [← hzo] at V2 ⊢
      rw [← hon] at V3 ⊢
      clear hzo hon V6 V7 V8 hbel3 hB d2_3 v2l v2u v3l v3u
      go_wp2
      refine region_flow (n := 117) (by kernel_rfl) (by kernel_rfl) (by kernel_rfl) rfl
        (fun i v _ => (match i with | 0 | 4 | 9 | 13 | 19 | 24 | 27 | 35 | 40 => v = .agg (arr .i64 16 (dg 65536 X)) | 1 | 3 | 10 | 12 | 20 | 25 | 36 | 41 => v = .agg (arr .i64 16 (dg 65536 Y)) | 2 => v = .agg (arr .i64 16 (addF (dg 65536 X) (dg 65536 Y))) | 5 => v = .agg (arr .i64 16 (addF (dg 65536 Y) (dg 65536 X))) | 6 | 15 | 31 | 45 => v = .bool true | 7 | 8 | 16 | 17 | 18 | 32 | 33 | 34 | 46 | 47 => v = .bool false | 11 | 26 | 37 => v = .agg (arr .i64 16 (mulF (dg 65536 X) (dg 65536 Y))) | 14 => v = .agg (arr .i64 16 (mulF (dg 65536 Y) (dg 65536 X))) | 21 | 28 | 38 | 42 => v = .agg (arr .i64 16 (dg 65536 Z)) | 22 => v = .agg (arr .i64 16 (addF (dg 65536 Y) (dg 65536 Z))) | 23 => v = .agg (arr .i64 16 (mulF (dg 65536 X) (addF (dg 65536 Y) (dg 65536 Z)))) | 29 => v = .agg (arr .i64 16 (mulF (dg 65536 X) (dg 65536 Z))) | 30 => v = .agg (arr .i64 16 (addF (mulF (dg 65536 X) (dg 65536 Y)) (mulF (dg 65536 X) (dg 65536 Z)))) | 39 => v = .agg (arr .i64 16 (mulF (mulF (dg 65536 X) (dg 65536 Y)) (dg 65536 Z))) | 43 => v = .agg (arr .i64 16 (mulF (dg 65536 Y) (dg 65536 Z))) | 44 => v = .agg (arr .i64 16 (mulF (dg 65536 X) (mulF (dg 65536 Y) (dg 65536 Z)))) | _ => True))
        (fun w w' => Below w.heap.size w w') (fun _ _ h => h) (fun _ _ _ _ h _ => h) ?_ ?_
      · refine Each.all ?_
        refine ⟨?_, ?_, ?_, ?_, ?_, ?_, ?_, ?_, ?_, ?_, ?_, ?_, ?_, ?_, ?_, ?_, ?_, ?_, ?_, ?_, ?_, ?_, ?_, ?_, ?_, ?_, ?_, ?_, ?_, ?_, ?_, ?_, ?_, ?_, ?_, ?_, ?_, ?_, ?_, ?_, ?_, ?_, ?_, ?_, ?_, ?_, ?_, ?_, trivial⟩
        · intro a w2 hB hF hd
          rw [if_pos (wanted_none rfl)]
          exact flow_val (fun h => by cases h) (run_load_str rfl Try.underlying26 rfl Try.size26 (hF.same 7 rfl) (hx.below hB hx.lt)) rfl
        · intro a w2 hB hF hd
          rw [if_pos (wanted_none rfl)]
          exact flow_val (fun h => by cases h) (run_load_str rfl Try.underlying26 rfl Try.size26 (hF.same 8 rfl) (hy.below hB hy.lt)) rfl
        · intro a w2 hB hF hd
          rw [if_pos (wanted_none rfl)]
          refine flow_call _ _ _ rfl Try.call25 _ (args2 (hd 0 _ rfl (waits_spec rfl)) (hd 1 _ rfl (waits_spec rfl))) (by simp) ((feAdd_any (dg 65536 X) (dg 65536 Y) X Y HFX.out HFY.out w2).mono ?_)
          rintro e w3 ⟨rfl, hb⟩; exact ⟨_, rfl, rfl, hb⟩
        · intro a w2 hB hF hd
          rw [if_pos (wanted_none rfl)]
          exact flow_val (fun h => by cases h) (run_load_str rfl Try.underlying26 rfl Try.size26 (hF.same 8 rfl) (hy.below hB hy.lt)) rfl
        · intro a w2 hB hF hd
          rw [if_pos (wanted_none rfl)]
          exact flow_val (fun h => by cases h) (run_load_str rfl Try.underlying26 rfl Try.size26 (hF.same 7 rfl) (hx.below hB hx.lt)) rfl
        · intro a w2 hB hF hd
          rw [if_pos (wanted_none rfl)]
          refine flow_call _ _ _ rfl Try.call25 _ (args2 (hd 3 _ rfl (waits_spec rfl)) (hd 4 _ rfl (waits_spec rfl))) (by simp) ((feAdd_any (dg 65536 Y) (dg 65536 X) Y X HFY.out HFX.out w2).mono ?_)
          rintro e w3 ⟨rfl, hb⟩; exact ⟨_, rfl, rfl, hb⟩
        · intro a w2 hB hF hd
          rw [if_pos (wanted_none rfl)]
          refine flow_call _ _ _ rfl Try.call21 _ (args2 (hd 2 _ rfl (waits_spec rfl)) (hd 5 _ rfl (waits_spec rfl))) (by simp) ((feEqual_yes (addF (dg 65536 X) (dg 65536 Y)) (addF (dg 65536 Y) (dg 65536 X)) (X + Y) (Y + X) (HFX.out.addF HFY.out) (HFY.out.addF HFX.out) (modP_eq (by grind)) w2).mono ?_)
          rintro e w3 ⟨rfl, hb⟩; exact ⟨_, rfl, rfl, hb⟩
        · intro a w2 hB hF hd
          rw [if_pos (wanted_none rfl)]
          exact flow_val (fun h => by cases h) (run_not rfl (hd 6 _ rfl (waits_spec rfl))) rfl
        · intro a w2 hB hF hd
          rw [if_pos (wanted_none rfl)]
          exact flow_move _ (.inl rfl) (by simp) (hd 7 _ rfl (waits_spec rfl))
        · intro a w2 hB hF hd
          refine flow_wanted (wanted_yes rfl rfl (hd 8 _ rfl (waits_spec rfl)) rfl) ?_
          exact flow_val (fun h => by cases h) (run_load_str rfl Try.underlying26 rfl Try.size26 (hF.same 7 rfl) (hx.below hB hx.lt)) rfl
        · intro a w2 hB hF hd
          refine flow_wanted (wanted_yes rfl rfl (hd 8 _ rfl (waits_spec rfl)) rfl) ?_
          exact flow_val (fun h => by cases h) (run_load_str rfl Try.underlying26 rfl Try.size26 (hF.same 8 rfl) (hy.below hB hy.lt)) rfl
        · intro a w2 hB hF hd
          refine flow_wanted (wanted_yes rfl rfl (hd 8 _ rfl (waits_spec rfl)) rfl) ?_
          refine flow_call _ _ _ rfl Try.call29 _ (args2 (hd 9 _ rfl (waits_spec rfl)) (hd 10 _ rfl (waits_spec rfl))) (by simp) ((feMul_any (dg 65536 X) (dg 65536 Y) X Y HFX.out HFY.out w2).mono ?_)
          rintro e w3 ⟨rfl, hb⟩; exact ⟨_, rfl, rfl, hb⟩
        · intro a w2 hB hF hd
          refine flow_wanted (wanted_yes rfl rfl (hd 8 _ rfl (waits_spec rfl)) rfl) ?_
          exact flow_val (fun h => by cases h) (run_load_str rfl Try.underlying26 rfl Try.size26 (hF.same 8 rfl) (hy.below hB hy.lt)) rfl
        · intro a w2 hB hF hd
          refine flow_wanted (wanted_yes rfl rfl (hd 8 _ rfl (waits_spec rfl)) rfl) ?_
          exact flow_val (fun h => by cases h) (run_load_str rfl Try.underlying26 rfl Try.size26 (hF.same 7 rfl) (hx.below hB hx.lt)) rfl
        · intro a w2 hB hF hd
          refine flow_wanted (wanted_yes rfl rfl (hd 8 _ rfl (waits_spec rfl)) rfl) ?_
          refine flow_call _ _ _ rfl Try.call29 _ (args2 (hd 12 _ rfl (waits_spec rfl)) (hd 13 _ rfl (waits_spec rfl))) (by simp) ((feMul_any (dg 65536 Y) (dg 65536 X) Y X HFY.out HFX.out w2).mono ?_)
          rintro e w3 ⟨rfl, hb⟩; exact ⟨_, rfl, rfl, hb⟩
        · intro a w2 hB hF hd
          refine flow_wanted (wanted_yes rfl rfl (hd 8 _ rfl (waits_spec rfl)) rfl) ?_
          refine flow_call _ _ _ rfl Try.call21 _ (args2 (hd 11 _ rfl (waits_spec rfl)) (hd 14 _ rfl (waits_spec rfl))) (by simp) ((feEqual_yes (mulF (dg 65536 X) (dg 65536 Y)) (mulF (dg 65536 Y) (dg 65536 X)) (X * Y) (Y * X) (HFX.out.mulF HFY.out) (HFY.out.mulF HFX.out) (modP_eq (by grind)) w2).mono ?_)
          rintro e w3 ⟨rfl, hb⟩; exact ⟨_, rfl, rfl, hb⟩
        · intro a w2 hB hF hd
          refine flow_wanted (wanted_yes rfl rfl (hd 8 _ rfl (waits_spec rfl)) rfl) ?_
          exact flow_val (fun h => by cases h) (run_not rfl (hd 15 _ rfl (waits_spec rfl))) rfl
        · intro a w2 hB hF hd
          rw [if_pos (wanted_none rfl)]
          exact flow_val (fun h => by cases h) (run_pick rfl (hd 8 _ rfl (waits_spec rfl))) ((hd 16 _ rfl (waits_spec rfl)))
        · intro a w2 hB hF hd
          rw [if_pos (wanted_none rfl)]
          exact flow_move _ (.inl rfl) (by simp) (hd 17 _ rfl (waits_spec rfl))
        · intro a w2 hB hF hd
          refine flow_wanted (wanted_yes rfl rfl (hd 18 _ rfl (waits_spec rfl)) rfl) ?_
          exact flow_val (fun h => by cases h) (run_load_str rfl Try.underlying26 rfl Try.size26 (hF.same 7 rfl) (hx.below hB hx.lt)) rfl
        · intro a w2 hB hF hd
          refine flow_wanted (wanted_yes rfl rfl (hd 18 _ rfl (waits_spec rfl)) rfl) ?_
          exact flow_val (fun h => by cases h) (run_load_str rfl Try.underlying26 rfl Try.size26 (hF.same 8 rfl) (hy.below hB hy.lt)) rfl
        · intro a w2 hB hF hd
          refine flow_wanted (wanted_yes rfl rfl (hd 18 _ rfl (waits_spec rfl)) rfl) ?_
          exact flow_val (fun h => by cases h) (run_load_str rfl Try.underlying26 rfl Try.size26 (hF.same 9 rfl) (hz.below hB hz.lt)) rfl
        · intro a w2 hB hF hd
          refine flow_wanted (wanted_yes rfl rfl (hd 18 _ rfl (waits_spec rfl)) rfl) ?_
          refine flow_call _ _ _ rfl Try.call25 _ (args2 (hd 20 _ rfl (waits_spec rfl)) (hd 21 _ rfl (waits_spec rfl))) (by simp) ((feAdd_any (dg 65536 Y) (dg 65536 Z) Y Z HFY.out HFZ.out w2).mono ?_)
          rintro e w3 ⟨rfl, hb⟩; exact ⟨_, rfl, rfl, hb⟩
        · intro a w2 hB hF hd
          refine flow_wanted (wanted_yes rfl rfl (hd 18 _ rfl (waits_spec rfl)) rfl) ?_
          refine flow_call _ _ _ rfl Try.call29 _ (args2 (hd 19 _ rfl (waits_spec rfl)) (hd 22 _ rfl (waits_spec rfl))) (by simp) ((feMul_any (dg 65536 X) (addF (dg 65536 Y) (dg 65536 Z)) X (Y + Z) HFX.out (HFY.out.addF HFZ.out) w2).mono ?_)
          rintro e w3 ⟨rfl, hb⟩; exact ⟨_, rfl, rfl, hb⟩
        · intro a w2 hB hF hd
          refine flow_wanted (wanted_yes rfl rfl (hd 18 _ rfl (waits_spec rfl)) rfl) ?_
          exact flow_val (fun h => by cases h) (run_load_str rfl Try.underlying26 rfl Try.size26 (hF.same 7 rfl) (hx.below hB hx.lt)) rfl
        · intro a w2 hB hF hd
          refine flow_wanted (wanted_yes rfl rfl (hd 18 _ rfl (waits_spec rfl)) rfl) ?_
          exact flow_val (fun h => by cases h) (run_load_str rfl Try.underlying26 rfl Try.size26 (hF.same 8 rfl) (hy.below hB hy.lt)) rfl
        · intro a w2 hB hF hd
          refine flow_wanted (wanted_yes rfl rfl (hd 18 _ rfl (waits_spec rfl)) rfl) ?_
          refine flow_call _ _ _ rfl Try.call29 _ (args2 (hd 24 _ rfl (waits_spec rfl)) (hd 25 _ rfl (waits_spec rfl))) (by simp) ((feMul_any (dg 65536 X) (dg 65536 Y) X Y HFX.out HFY.out w2).mono ?_)
          rintro e w3 ⟨rfl, hb⟩; exact ⟨_, rfl, rfl, hb⟩
        · intro a w2 hB hF hd
          refine flow_wanted (wanted_yes rfl rfl (hd 18 _ rfl (waits_spec rfl)) rfl) ?_
          exact flow_val (fun h => by cases h) (run_load_str rfl Try.underlying26 rfl Try.size26 (hF.same 7 rfl) (hx.below hB hx.lt)) rfl
        · intro a w2 hB hF hd
          refine flow_wanted (wanted_yes rfl rfl (hd 18 _ rfl (waits_spec rfl)) rfl) ?_
          exact flow_val (fun h => by cases h) (run_load_str rfl Try.underlying26 rfl Try.size26 (hF.same 9 rfl) (hz.below hB hz.lt)) rfl
        · intro a w2 hB hF hd
          refine flow_wanted (wanted_yes rfl rfl (hd 18 _ rfl (waits_spec rfl)) rfl) ?_
          refine flow_call _ _ _ rfl Try.call29 _ (args2 (hd 27 _ rfl (waits_spec rfl)) (hd 28 _ rfl (waits_spec rfl))) (by simp) ((feMul_any (dg 65536 X) (dg 65536 Z) X Z HFX.out HFZ.out w2).mono ?_)
          rintro e w3 ⟨rfl, hb⟩; exact ⟨_, rfl, rfl, hb⟩
        · intro a w2 hB hF hd
          refine flow_wanted (wanted_yes rfl rfl (hd 18 _ rfl (waits_spec rfl)) rfl) ?_
          refine flow_call _ _ _ rfl Try.call25 _ (args2 (hd 26 _ rfl (waits_spec rfl)) (hd 29 _ rfl (waits_spec rfl))) (by simp) ((feAdd_any (mulF (dg 65536 X) (dg 65536 Y)) (mulF (dg 65536 X) (dg 65536 Z)) (X * Y) (X * Z) (HFX.out.mulF HFY.out) (HFX.out.mulF HFZ.out) w2).mono ?_)
          rintro e w3 ⟨rfl, hb⟩; exact ⟨_, rfl, rfl, hb⟩
        · intro a w2 hB hF hd
          refine flow_wanted (wanted_yes rfl rfl (hd 18 _ rfl (waits_spec rfl)) rfl) ?_
          refine flow_call _ _ _ rfl Try.call21 _ (args2 (hd 23 _ rfl (waits_spec rfl)) (hd 30 _ rfl (waits_spec rfl))) (by simp) ((feEqual_yes (mulF (dg 65536 X) (addF (dg 65536 Y) (dg 65536 Z))) (addF (mulF (dg 65536 X) (dg 65536 Y)) (mulF (dg 65536 X) (dg 65536 Z))) (X * (Y + Z)) ((X * Y) + (X * Z)) (HFX.out.mulF (HFY.out.addF HFZ.out)) ((HFX.out.mulF HFY.out).addF (HFX.out.mulF HFZ.out)) (modP_eq (by grind)) w2).mono ?_)
          rintro e w3 ⟨rfl, hb⟩; exact ⟨_, rfl, rfl, hb⟩
        · intro a w2 hB hF hd
          refine flow_wanted (wanted_yes rfl rfl (hd 18 _ rfl (waits_spec rfl)) rfl) ?_
          exact flow_val (fun h => by cases h) (run_not rfl (hd 31 _ rfl (waits_spec rfl))) rfl
        · intro a w2 hB hF hd
          rw [if_pos (wanted_none rfl)]
          exact flow_val (fun h => by cases h) (run_pick rfl (hd 18 _ rfl (waits_spec rfl))) ((hd 32 _ rfl (waits_spec rfl)))
        · intro a w2 hB hF hd
          rw [if_pos (wanted_none rfl)]
          exact flow_move _ (.inl rfl) (by simp) (hd 33 _ rfl (waits_spec rfl))
        · intro a w2 hB hF hd
          refine flow_wanted (wanted_yes rfl rfl (hd 34 _ rfl (waits_spec rfl)) rfl) ?_
          exact flow_val (fun h => by cases h) (run_load_str rfl Try.underlying26 rfl Try.size26 (hF.same 7 rfl) (hx.below hB hx.lt)) rfl
        · intro a w2 hB hF hd
          refine flow_wanted (wanted_yes rfl rfl (hd 34 _ rfl (waits_spec rfl)) rfl) ?_
          exact flow_val (fun h => by cases h) (run_load_str rfl Try.underlying26 rfl Try.size26 (hF.same 8 rfl) (hy.below hB hy.lt)) rfl
        · intro a w2 hB hF hd
          refine flow_wanted (wanted_yes rfl rfl (hd 34 _ rfl (waits_spec rfl)) rfl) ?_
          refine flow_call _ _ _ rfl Try.call29 _ (args2 (hd 35 _ rfl (waits_spec rfl)) (hd 36 _ rfl (waits_spec rfl))) (by simp) ((feMul_any (dg 65536 X) (dg 65536 Y) X Y HFX.out HFY.out w2).mono ?_)
          rintro e w3 ⟨rfl, hb⟩; exact ⟨_, rfl, rfl, hb⟩
        · intro a w2 hB hF hd
          refine flow_wanted (wanted_yes rfl rfl (hd 34 _ rfl (waits_spec rfl)) rfl) ?_
          exact flow_val (fun h => by cases h) (run_load_str rfl Try.underlying26 rfl Try.size26 (hF.same 9 rfl) (hz.below hB hz.lt)) rfl
        · intro a w2 hB hF hd
          refine flow_wanted (wanted_yes rfl rfl (hd 34 _ rfl (waits_spec rfl)) rfl) ?_
          refine flow_call _ _ _ rfl Try.call29 _ (args2 (hd 37 _ rfl (waits_spec rfl)) (hd 38 _ rfl (waits_spec rfl))) (by simp) ((feMul_any (mulF (dg 65536 X) (dg 65536 Y)) (dg 65536 Z) (X * Y) Z (HFX.out.mulF HFY.out) HFZ.out w2).mono ?_)
          rintro e w3 ⟨rfl, hb⟩; exact ⟨_, rfl, rfl, hb⟩
        · intro a w2 hB hF hd
          refine flow_wanted (wanted_yes rfl rfl (hd 34 _ rfl (waits_spec rfl)) rfl) ?_
          exact flow_val (fun h => by cases h) (run_load_str rfl Try.underlying26 rfl Try.size26 (hF.same 7 rfl) (hx.below hB hx.lt)) rfl
        · intro a w2 hB hF hd
          refine flow_wanted (wanted_yes rfl rfl (hd 34 _ rfl (waits_spec rfl)) rfl) ?_
          exact flow_val (fun h => by cases h) (run_load_str rfl Try.underlying26 rfl Try.size26 (hF.same 8 rfl) (hy.below hB hy.lt)) rfl
        · intro a w2 hB hF hd
          refine flow_wanted (wanted_yes rfl rfl (hd 34 _ rfl (waits_spec rfl)) rfl) ?_
          exact flow_val (fun h => by cases h) (run_load_str rfl Try.underlying26 rfl Try.size26 (hF.same 9 rfl) (hz.below hB hz.lt)) rfl
        · intro a w2 hB hF hd
          refine flow_wanted (wanted_yes rfl rfl (hd 34 _ rfl (waits_spec rfl)) rfl) ?_
          refine flow_call _ _ _ rfl Try.call29 _ (args2 (hd 41 _ rfl (waits_spec rfl)) (hd 42 _ rfl (waits_spec rfl))) (by simp) ((feMul_any (dg 65536 Y) (dg 65536 Z) Y Z HFY.out HFZ.out w2).mono ?_)
          rintro e w3 ⟨rfl, hb⟩; exact ⟨_, rfl, rfl, hb⟩
        · intro a w2 hB hF hd
          refine flow_wanted (wanted_yes rfl rfl (hd 34 _ rfl (waits_spec rfl)) rfl) ?_
          refine flow_call _ _ _ rfl Try.call29 _ (args2 (hd 40 _ rfl (waits_spec rfl)) (hd 43 _ rfl (waits_spec rfl))) (by simp) ((feMul_any (dg 65536 X) (mulF (dg 65536 Y) (dg 65536 Z)) X (Y * Z) HFX.out (HFY.out.mulF HFZ.out) w2).mono ?_)
          rintro e w3 ⟨rfl, hb⟩; exact ⟨_, rfl, rfl, hb⟩
        · intro a w2 hB hF hd
          refine flow_wanted (wanted_yes rfl rfl (hd 34 _ rfl (waits_spec rfl)) rfl) ?_
          refine flow_call _ _ _ rfl Try.call21 _ (args2 (hd 39 _ rfl (waits_spec rfl)) (hd 44 _ rfl (waits_spec rfl))) (by simp) ((feEqual_yes (mulF (mulF (dg 65536 X) (dg 65536 Y)) (dg 65536 Z)) (mulF (dg 65536 X) (mulF (dg 65536 Y) (dg 65536 Z))) ((X * Y) * Z) (X * (Y * Z)) ((HFX.out.mulF HFY.out).mulF HFZ.out) (HFX.out.mulF (HFY.out.mulF HFZ.out)) (modP_eq (by grind)) w2).mono ?_)
          rintro e w3 ⟨rfl, hb⟩; exact ⟨_, rfl, rfl, hb⟩
        · intro a w2 hB hF hd
          refine flow_wanted (wanted_yes rfl rfl (hd 34 _ rfl (waits_spec rfl)) rfl) ?_
          exact flow_val (fun h => by cases h) (run_not rfl (hd 45 _ rfl (waits_spec rfl))) rfl
        · intro a w2 hB hF hd
          rw [if_pos (wanted_none rfl)]
          exact flow_val (fun h => by cases h) (run_pick rfl (hd 34 _ rfl (waits_spec rfl))) ((hd 46 _ rfl (waits_spec rfl)))
      · intro a w5 hB hF hS
        have ha := puts_each rfl rfl hF [_, _, _, _, _, _, _, _, _, _, _, _, _, _, _, _, _, _, _, _, _, _, _, _, _, _, _, _, _, _, _, _, _, _, _, _, _, _, _, _, _, _, _, _, _, _, _, _] rfl ⟨hS 0 _ rfl, hS 1 _ rfl, hS 2 _ rfl, hS 3 _ rfl, hS 4 _ rfl, hS 5 _ rfl, hS 6 _ rfl, hS 7 _ rfl, hS 8 _ rfl, hS 9 _ rfl, hS 10 _ rfl, hS 11 _ rfl, hS 12 _ rfl, hS 13 _ rfl, hS 14 _ rfl, hS 15 _ rfl, hS 16 _ rfl, hS 17 _ rfl, hS 18 _ rfl, hS 19 _ rfl, hS 20 _ rfl, hS 21 _ rfl, hS 22 _ rfl, hS 23 _ rfl, hS 24 _ rfl, hS 25 _ rfl, hS 26 _ rfl, hS 27 _ rfl, hS 28 _ rfl, hS 29 _ rfl, hS 30 _ rfl, hS 31 _ rfl, hS 32 _ rfl, hS 33 _ rfl, hS 34 _ rfl, hS 35 _ rfl, hS 36 _ rfl, hS 37 _ rfl, hS 38 _ rfl, hS 39 _ rfl, hS 40 _ rfl, hS 41 _ rfl, hS 42 _ rfl, hS 43 _ rfl, hS 44 _ rfl, hS 45 _ rfl, hS 46 _ rfl, hS 47 _ rfl, trivial⟩
        simp only [puts, Act.put, List.setIfInBounds_toArray, List.set_cons_succ, List.set_cons_zero] at ha
        subst ha
        clear hS hF
        have hx5 := hx.below hB hx.lt
        have hy5 := hy.below hB hy.lt
        have hzo5 := V2.below hB V2.lt
        have hon5 := V3.below hB V3.lt
        have hb5 := hb4.trans (hB.mono hb4.size)
        clear hx hy hz V2 V3 hb4 hB
        go_wp2
        refine region_flow (n := 117) (by kernel_rfl) (by kernel_rfl) (by kernel_rfl) rfl
          (fun i v _ => (match i with | 0 | 1 | 8 | 11 | 19 | 22 | 27 | 30 => v = .agg (arr .i64 16 (dg 65536 X)) | 2 => v = .agg (arr .i64 16 (negF (dg 65536 X))) | 3 => v = .agg (arr .i64 16 (addF (dg 65536 X) (negF (dg 65536 X)))) | 4 | 28 => v = .agg (arr .i64 16 (smallF 0)) | 5 | 15 | 23 | 31 => v = .bool true | 6 | 7 | 16 | 17 | 18 | 24 | 25 | 26 | 32 | 33 => v = .bool false | 9 | 12 => v = .agg (arr .i64 16 (dg 65536 Y)) | 10 => v = .agg (arr .i64 16 (subF (dg 65536 X) (dg 65536 Y))) | 13 => v = .agg (arr .i64 16 (negF (dg 65536 Y))) | 14 => v = .agg (arr .i64 16 (addF (dg 65536 X) (negF (dg 65536 Y)))) | 20 => v = .agg (arr .i64 16 (smallF 1)) | 21 => v = .agg (arr .i64 16 (mulF (dg 65536 X) (smallF 1))) | 29 => v = .agg (arr .i64 16 (addF (dg 65536 X) (smallF 0))) | _ => True))
          (fun w w' => Below w.heap.size w w') (fun _ _ h => h) (fun _ _ _ _ h _ => h) ?_ ?_
        · refine Each.all ?_
          refine ⟨?_, ?_, ?_, ?_, ?_, ?_, ?_, ?_, ?_, ?_, ?_, ?_, ?_, ?_, ?_, ?_, ?_, ?_, ?_, ?_, ?_, ?_, ?_, ?_, ?_, ?_, ?_, ?_, ?_, ?_, ?_, ?_, ?_, ?_, trivial⟩
          · intro a w2 hB hF hd
            rw [if_pos (wanted_none rfl)]
            exact flow_val (fun h => by cases h) (run_load_str rfl Try.underlying26 rfl Try.size26 (hF.same 7 rfl) (hx5.below hB hx5.lt)) rfl
          · intro a w2 hB hF hd
            rw [if_pos (wanted_none rfl)]
            exact flow_val (fun h => by cases h) (run_load_str rfl Try.underlying26 rfl Try.size26 (hF.same 7 rfl) (hx5.below hB hx5.lt)) rfl
          · intro a w2 hB hF hd
            rw [if_pos (wanted_none rfl)]
            refine flow_call _ _ _ rfl Try.call31 _ (args1 (hd 1 _ rfl (waits_spec rfl))) (by simp) ((feNeg_any (dg 65536 X) X HFX.out w2).mono ?_)
            rintro e w3 ⟨rfl, hb⟩; exact ⟨_, rfl, rfl, hb⟩
          · intro a w2 hB hF hd
            rw [if_pos (wanted_none rfl)]
            refine flow_call _ _ _ rfl Try.call25 _ (args2 (hd 0 _ rfl (waits_spec rfl)) (hd 2 _ rfl (waits_spec rfl))) (by simp) ((feAdd_any (dg 65536 X) (negF (dg 65536 X)) X (-X) HFX.out (HFX.out.negF) w2).mono ?_)
            rintro e w3 ⟨rfl, hb⟩; exact ⟨_, rfl, rfl, hb⟩
          · intro a w2 hB hF hd
            rw [if_pos (wanted_none rfl)]
            exact flow_val (fun h => by cases h) (run_load_str rfl Try.underlying26 rfl Try.size26 (hF.same 10 rfl) (hzo5.below hB hzo5.lt)) rfl
          · intro a w2 hB hF hd
            rw [if_pos (wanted_none rfl)]
            refine flow_call _ _ _ rfl Try.call21 _ (args2 (hd 3 _ rfl (waits_spec rfl)) (hd 4 _ rfl (waits_spec rfl))) (by simp) ((feEqual_yes (addF (dg 65536 X) (negF (dg 65536 X))) (smallF 0) (X + (-X)) 0 (HFX.out.addF (HFX.out.negF)) fe_nought (modP_eq (by grind)) w2).mono ?_)
            rintro e w3 ⟨rfl, hb⟩; exact ⟨_, rfl, rfl, hb⟩
          · intro a w2 hB hF hd
            rw [if_pos (wanted_none rfl)]
            exact flow_val (fun h => by cases h) (run_not rfl (hd 5 _ rfl (waits_spec rfl))) rfl
          · intro a w2 hB hF hd
            rw [if_pos (wanted_none rfl)]
            exact flow_move _ (.inl rfl) (by simp) (hd 6 _ rfl (waits_spec rfl))
          · intro a w2 hB hF hd
            refine flow_wanted (wanted_yes rfl rfl (hd 7 _ rfl (waits_spec rfl)) rfl) ?_
            exact flow_val (fun h => by cases h) (run_load_str rfl Try.underlying26 rfl Try.size26 (hF.same 7 rfl) (hx5.below hB hx5.lt)) rfl
          · intro a w2 hB hF hd
            refine flow_wanted (wanted_yes rfl rfl (hd 7 _ rfl (waits_spec rfl)) rfl) ?_
            exact flow_val (fun h => by cases h) (run_load_str rfl Try.underlying26 rfl Try.size26 (hF.same 8 rfl) (hy5.below hB hy5.lt)) rfl
          · intro a w2 hB hF hd
            refine flow_wanted (wanted_yes rfl rfl (hd 7 _ rfl (waits_spec rfl)) rfl) ?_
            refine flow_call _ _ _ rfl Try.call27 _ (args2 (hd 8 _ rfl (waits_spec rfl)) (hd 9 _ rfl (waits_spec rfl))) (by simp) ((feSub_any (dg 65536 X) (dg 65536 Y) X Y HFX.out HFY.out w2).mono ?_)
            rintro e w3 ⟨rfl, hb⟩; exact ⟨_, rfl, rfl, hb⟩
          · intro a w2 hB hF hd
            refine flow_wanted (wanted_yes rfl rfl (hd 7 _ rfl (waits_spec rfl)) rfl) ?_
            exact flow_val (fun h => by cases h) (run_load_str rfl Try.underlying26 rfl Try.size26 (hF.same 7 rfl) (hx5.below hB hx5.lt)) rfl
          · intro a w2 hB hF hd
            refine flow_wanted (wanted_yes rfl rfl (hd 7 _ rfl (waits_spec rfl)) rfl) ?_
            exact flow_val (fun h => by cases h) (run_load_str rfl Try.underlying26 rfl Try.size26 (hF.same 8 rfl) (hy5.below hB hy5.lt)) rfl
          · intro a w2 hB hF hd
            refine flow_wanted (wanted_yes rfl rfl (hd 7 _ rfl (waits_spec rfl)) rfl) ?_
            refine flow_call _ _ _ rfl Try.call31 _ (args1 (hd 12 _ rfl (waits_spec rfl))) (by simp) ((feNeg_any (dg 65536 Y) Y HFY.out w2).mono ?_)
            rintro e w3 ⟨rfl, hb⟩; exact ⟨_, rfl, rfl, hb⟩
          · intro a w2 hB hF hd
            refine flow_wanted (wanted_yes rfl rfl (hd 7 _ rfl (waits_spec rfl)) rfl) ?_
            refine flow_call _ _ _ rfl Try.call25 _ (args2 (hd 11 _ rfl (waits_spec rfl)) (hd 13 _ rfl (waits_spec rfl))) (by simp) ((feAdd_any (dg 65536 X) (negF (dg 65536 Y)) X (-Y) HFX.out (HFY.out.negF) w2).mono ?_)
            rintro e w3 ⟨rfl, hb⟩; exact ⟨_, rfl, rfl, hb⟩
          · intro a w2 hB hF hd
            refine flow_wanted (wanted_yes rfl rfl (hd 7 _ rfl (waits_spec rfl)) rfl) ?_
            refine flow_call _ _ _ rfl Try.call21 _ (args2 (hd 10 _ rfl (waits_spec rfl)) (hd 14 _ rfl (waits_spec rfl))) (by simp) ((feEqual_yes (subF (dg 65536 X) (dg 65536 Y)) (addF (dg 65536 X) (negF (dg 65536 Y))) (X - Y) (X + (-Y)) (HFX.out.subF HFY.out) (HFX.out.addF (HFY.out.negF)) (modP_eq (by grind)) w2).mono ?_)
            rintro e w3 ⟨rfl, hb⟩; exact ⟨_, rfl, rfl, hb⟩
          · intro a w2 hB hF hd
            refine flow_wanted (wanted_yes rfl rfl (hd 7 _ rfl (waits_spec rfl)) rfl) ?_
            exact flow_val (fun h => by cases h) (run_not rfl (hd 15 _ rfl (waits_spec rfl))) rfl
          · intro a w2 hB hF hd
            rw [if_pos (wanted_none rfl)]
            exact flow_val (fun h => by cases h) (run_pick rfl (hd 7 _ rfl (waits_spec rfl))) ((hd 16 _ rfl (waits_spec rfl)))
          · intro a w2 hB hF hd
            rw [if_pos (wanted_none rfl)]
            exact flow_move _ (.inl rfl) (by simp) (hd 17 _ rfl (waits_spec rfl))
          · intro a w2 hB hF hd
            refine flow_wanted (wanted_yes rfl rfl (hd 18 _ rfl (waits_spec rfl)) rfl) ?_
            exact flow_val (fun h => by cases h) (run_load_str rfl Try.underlying26 rfl Try.size26 (hF.same 7 rfl) (hx5.below hB hx5.lt)) rfl
          · intro a w2 hB hF hd
            refine flow_wanted (wanted_yes rfl rfl (hd 18 _ rfl (waits_spec rfl)) rfl) ?_
            exact flow_val (fun h => by cases h) (run_load_str rfl Try.underlying26 rfl Try.size26 (hF.same 11 rfl) (hon5.below hB hon5.lt)) rfl
          · intro a w2 hB hF hd
            refine flow_wanted (wanted_yes rfl rfl (hd 18 _ rfl (waits_spec rfl)) rfl) ?_
            refine flow_call _ _ _ rfl Try.call29 _ (args2 (hd 19 _ rfl (waits_spec rfl)) (hd 20 _ rfl (waits_spec rfl))) (by simp) ((feMul_any (dg 65536 X) (smallF 1) X 1 HFX.out fe_one w2).mono ?_)
            rintro e w3 ⟨rfl, hb⟩; exact ⟨_, rfl, rfl, hb⟩
          · intro a w2 hB hF hd
            refine flow_wanted (wanted_yes rfl rfl (hd 18 _ rfl (waits_spec rfl)) rfl) ?_
            exact flow_val (fun h => by cases h) (run_load_str rfl Try.underlying26 rfl Try.size26 (hF.same 7 rfl) (hx5.below hB hx5.lt)) rfl
          · intro a w2 hB hF hd
            refine flow_wanted (wanted_yes rfl rfl (hd 18 _ rfl (waits_spec rfl)) rfl) ?_
            refine flow_call _ _ _ rfl Try.call21 _ (args2 (hd 21 _ rfl (waits_spec rfl)) (hd 22 _ rfl (waits_spec rfl))) (by simp) ((feEqual_yes (mulF (dg 65536 X) (smallF 1)) (dg 65536 X) (X * 1) X (HFX.out.mulF fe_one) HFX.out (modP_eq (by grind)) w2).mono ?_)
            rintro e w3 ⟨rfl, hb⟩; exact ⟨_, rfl, rfl, hb⟩
          · intro a w2 hB hF hd
            refine flow_wanted (wanted_yes rfl rfl (hd 18 _ rfl (waits_spec rfl)) rfl) ?_
            exact flow_val (fun h => by cases h) (run_not rfl (hd 23 _ rfl (waits_spec rfl))) rfl
          · intro a w2 hB hF hd
            rw [if_pos (wanted_none rfl)]
            exact flow_val (fun h => by cases h) (run_pick rfl (hd 18 _ rfl (waits_spec rfl))) ((hd 24 _ rfl (waits_spec rfl)))
          · intro a w2 hB hF hd
            rw [if_pos (wanted_none rfl)]
            exact flow_move _ (.inl rfl) (by simp) (hd 25 _ rfl (waits_spec rfl))
          · intro a w2 hB hF hd
            refine flow_wanted (wanted_yes rfl rfl (hd 26 _ rfl (waits_spec rfl)) rfl) ?_
            exact flow_val (fun h => by cases h) (run_load_str rfl Try.underlying26 rfl Try.size26 (hF.same 7 rfl) (hx5.below hB hx5.lt)) rfl
          · intro a w2 hB hF hd
            refine flow_wanted (wanted_yes rfl rfl (hd 26 _ rfl (waits_spec rfl)) rfl) ?_
            exact flow_val (fun h => by cases h) (run_load_str rfl Try.underlying26 rfl Try.size26 (hF.same 10 rfl) (hzo5.below hB hzo5.lt)) rfl
          · intro a w2 hB hF hd
            refine flow_wanted (wanted_yes rfl rfl (hd 26 _ rfl (waits_spec rfl)) rfl) ?_
            refine flow_call _ _ _ rfl Try.call25 _ (args2 (hd 27 _ rfl (waits_spec rfl)) (hd 28 _ rfl (waits_spec rfl))) (by simp) ((feAdd_any (dg 65536 X) (smallF 0) X 0 HFX.out fe_nought w2).mono ?_)
            rintro e w3 ⟨rfl, hb⟩; exact ⟨_, rfl, rfl, hb⟩
          · intro a w2 hB hF hd
            refine flow_wanted (wanted_yes rfl rfl (hd 26 _ rfl (waits_spec rfl)) rfl) ?_
            exact flow_val (fun h => by cases h) (run_load_str rfl Try.underlying26 rfl Try.size26 (hF.same 7 rfl) (hx5.below hB hx5.lt)) rfl
          · intro a w2 hB hF hd
            refine flow_wanted (wanted_yes rfl rfl (hd 26 _ rfl (waits_spec rfl)) rfl) ?_
            refine flow_call _ _ _ rfl Try.call21 _ (args2 (hd 29 _ rfl (waits_spec rfl)) (hd 30 _ rfl (waits_spec rfl))) (by simp) ((feEqual_yes (addF (dg 65536 X) (smallF 0)) (dg 65536 X) (X + 0) X (HFX.out.addF fe_nought) HFX.out (modP_eq (by grind)) w2).mono ?_)
            rintro e w3 ⟨rfl, hb⟩; exact ⟨_, rfl, rfl, hb⟩
          · intro a w2 hB hF hd
            refine flow_wanted (wanted_yes rfl rfl (hd 26 _ rfl (waits_spec rfl)) rfl) ?_
            exact flow_val (fun h => by cases h) (run_not rfl (hd 31 _ rfl (waits_spec rfl))) rfl
          · intro a w2 hB hF hd
            rw [if_pos (wanted_none rfl)]
            exact flow_val (fun h => by cases h) (run_pick rfl (hd 26 _ rfl (waits_spec rfl))) ((hd 32 _ rfl (waits_spec rfl)))
        · intro a w6 hB hF hS
          have ha := puts_each rfl rfl hF [_, _, _, _, _, _, _, _, _, _, _, _, _, _, _, _, _, _, _, _, _, _, _, _, _, _, _, _, _, _, _, _, _, _] rfl ⟨hS 0 _ rfl, hS 1 _ rfl, hS 2 _ rfl, hS 3 _ rfl, hS 4 _ rfl, hS 5 _ rfl, hS 6 _ rfl, hS 7 _ rfl, hS 8 _ rfl, hS 9 _ rfl, hS 10 _ rfl, hS 11 _ rfl, hS 12 _ rfl, hS 13 _ rfl, hS 14 _ rfl, hS 15 _ rfl, hS 16 _ rfl, hS 17 _ rfl, hS 18 _ rfl, hS 19 _ rfl, hS 20 _ rfl, hS 21 _ rfl, hS 22 _ rfl, hS 23 _ rfl, hS 24 _ rfl, hS 25 _ rfl, hS 26 _ rfl, hS 27 _ rfl, hS 28 _ rfl, hS 29 _ rfl, hS 30 _ rfl, hS 31 _ rfl, hS 32 _ rfl, hS 33 _ rfl, trivial⟩
          simp only [puts, Act.put, List.setIfInBounds_toArray, List.set_cons_succ, List.set_cons_zero] at ha
          subst ha
          clear hS hF
          have hx6 := hx5.below hB hx5.lt
          have hy6 := hy5.below hB hy5.lt
          have hzo6 := hzo5.below hB hzo5.lt
          have hb6 := hb5.trans (hB.mono hb5.size)
          clear hx5 hy5 hzo5 hon5 hb5 hB
          by_cases hX0 : X % Pr = 0
          · have HX0 := Lib.hid hX0
            clear hX0
            go_wp2
            refine region_flow (n := 117) (by kernel_rfl) (by kernel_rfl) (by kernel_rfl) rfl
              (fun i v _ => (match i with | 0 => v = .agg (arr .i64 16 (dg 65536 X)) | 1 => v = .agg (arr .i64 16 (smallF 0)) | 2 | 3 | 12 | 13 => v = .bool true | 4 | 5 | 6 | 7 | 8 | 9 | 10 | 11 => v = undef | _ => True))
              (fun w w' => Below w.heap.size w w') (fun _ _ h => h) (fun _ _ _ _ h _ => h) ?_ ?_
            · refine Each.all ?_
              refine ⟨?_, ?_, ?_, ?_, ?_, ?_, ?_, ?_, ?_, ?_, ?_, ?_, ?_, ?_, trivial⟩
              · intro a w2 hB hF hd
                rw [if_pos (wanted_none rfl)]
                exact flow_val (fun h => by cases h) (run_load_str rfl Try.underlying26 rfl Try.size26 (hF.same 7 rfl) (hx6.below hB hx6.lt)) rfl
              · intro a w2 hB hF hd
                rw [if_pos (wanted_none rfl)]
                exact flow_val (fun h => by cases h) (run_load_str rfl Try.underlying26 rfl Try.size26 (hF.same 10 rfl) (hzo6.below hB hzo6.lt)) rfl
              · intro a w2 hB hF hd
                rw [if_pos (wanted_none rfl)]
                refine flow_call _ _ _ rfl Try.call21 _ (args2 (hd 0 _ rfl (waits_spec rfl)) (hd 1 _ rfl (waits_spec rfl))) (by simp) ((feEqual_yes (dg 65536 X) (smallF 0) X 0 HFX.out fe_nought HX0.out w2).mono ?_)
                rintro e w3 ⟨rfl, hb⟩; exact ⟨_, rfl, rfl, hb⟩
              · intro a w2 hB hF hd
                rw [if_pos (wanted_none rfl)]
                exact flow_move _ (.inl rfl) (by simp) (hd 2 _ rfl (waits_spec rfl))
              · intro a w2 hB hF hd
                rw [if_neg (by rw [wanted_some rfl rfl (hd 3 _ rfl (waits_spec rfl))]; decide)]
                exact rfl
              · intro a w2 hB hF hd
                rw [if_neg (by rw [wanted_some rfl rfl (hd 3 _ rfl (waits_spec rfl))]; decide)]
                exact rfl
              · intro a w2 hB hF hd
                rw [if_neg (by rw [wanted_some rfl rfl (hd 3 _ rfl (waits_spec rfl))]; decide)]
                exact rfl
              · intro a w2 hB hF hd
                rw [if_neg (by rw [wanted_some rfl rfl (hd 3 _ rfl (waits_spec rfl))]; decide)]
                exact rfl
              · intro a w2 hB hF hd
                rw [if_neg (by rw [wanted_some rfl rfl (hd 3 _ rfl (waits_spec rfl))]; decide)]
                exact rfl
              · intro a w2 hB hF hd
                rw [if_neg (by rw [wanted_some rfl rfl (hd 3 _ rfl (waits_spec rfl))]; decide)]
                exact rfl
              · intro a w2 hB hF hd
                rw [if_neg (by rw [wanted_some rfl rfl (hd 3 _ rfl (waits_spec rfl))]; decide)]
                exact rfl
              · intro a w2 hB hF hd
                rw [if_neg (by rw [wanted_some rfl rfl (hd 3 _ rfl (waits_spec rfl))]; decide)]
                exact rfl
              · intro a w2 hB hF hd
                rw [if_pos (wanted_none rfl)]
                exact flow_val (fun h => by cases h) (run_pick rfl (hd 3 _ rfl (waits_spec rfl))) (rfl)
              · intro a w2 hB hF hd
                rw [if_pos (wanted_none rfl)]
                exact flow_move _ (.inr rfl) (by simp) (hd 12 _ rfl (waits_spec rfl))
            · intro a w7 hB hF hS
              have ha := puts_each rfl rfl hF [_, _, _, _, _, _, _, _, _, _, _, _, _, _] rfl ⟨hS 0 _ rfl, hS 1 _ rfl, hS 2 _ rfl, hS 3 _ rfl, hS 4 _ rfl, hS 5 _ rfl, hS 6 _ rfl, hS 7 _ rfl, hS 8 _ rfl, hS 9 _ rfl, hS 10 _ rfl, hS 11 _ rfl, hS 12 _ rfl, hS 13 _ rfl, trivial⟩
              simp only [puts, Act.put, List.setIfInBounds_toArray, List.set_cons_succ, List.set_cons_zero] at ha
              subst ha
              clear hS hF
              have hbf := hb6.trans (hB.mono hb6.size)
              clear hx6 hy6 hzo6 hb6 hB
              go_wp2
              go_ret
              exact ⟨rfl, hbf⟩
          · have HX0 := Lib.hid hX0
            clear hX0
            go_wp2
            refine region_flow (n := 117) (by kernel_rfl) (by kernel_rfl) (by kernel_rfl) rfl
              (fun i v _ => (match i with | 0 | 5 | 7 => v = .agg (arr .i64 16 (dg 65536 X)) | 1 => v = .agg (arr .i64 16 (smallF 0)) | 2 | 3 => v = .bool false | 4 | 10 => v = .agg (arr .i64 16 (dg 65536 Y)) | 6 => v = .agg (arr .i64 16 (mulF (dg 65536 Y) (dg 65536 X))) | 8 => v = .agg (arr .i64 16 (invF (dg 65536 X))) | 9 => v = .agg (arr .i64 16 (mulF (mulF (dg 65536 Y) (dg 65536 X)) (invF (dg 65536 X)))) | 11 | 12 | 13 => v = .bool true | _ => True))
              (fun w w' => Below w.heap.size w w') (fun _ _ h => h) (fun _ _ _ _ h _ => h) ?_ ?_
            · refine Each.all ?_
              refine ⟨?_, ?_, ?_, ?_, ?_, ?_, ?_, ?_, ?_, ?_, ?_, ?_, ?_, ?_, trivial⟩
              · intro a w2 hB hF hd
                rw [if_pos (wanted_none rfl)]
                exact flow_val (fun h => by cases h) (run_load_str rfl Try.underlying26 rfl Try.size26 (hF.same 7 rfl) (hx6.below hB hx6.lt)) rfl
              · intro a w2 hB hF hd
                rw [if_pos (wanted_none rfl)]
                exact flow_val (fun h => by cases h) (run_load_str rfl Try.underlying26 rfl Try.size26 (hF.same 10 rfl) (hzo6.below hB hzo6.lt)) rfl
              · intro a w2 hB hF hd
                rw [if_pos (wanted_none rfl)]
                refine flow_call _ _ _ rfl Try.call21 _ (args2 (hd 0 _ rfl (waits_spec rfl)) (hd 1 _ rfl (waits_spec rfl))) (by simp) ((feEqual_no (dg 65536 X) (smallF 0) X 0 HFX.out fe_nought HX0.out w2).mono ?_)
                rintro e w3 ⟨rfl, hb⟩; exact ⟨_, rfl, rfl, hb⟩
              · intro a w2 hB hF hd
                rw [if_pos (wanted_none rfl)]
                exact flow_move _ (.inl rfl) (by simp) (hd 2 _ rfl (waits_spec rfl))
              · intro a w2 hB hF hd
                refine flow_wanted (wanted_yes rfl rfl (hd 3 _ rfl (waits_spec rfl)) rfl) ?_
                exact flow_val (fun h => by cases h) (run_load_str rfl Try.underlying26 rfl Try.size26 (hF.same 8 rfl) (hy6.below hB hy6.lt)) rfl
              · intro a w2 hB hF hd
                refine flow_wanted (wanted_yes rfl rfl (hd 3 _ rfl (waits_spec rfl)) rfl) ?_
                exact flow_val (fun h => by cases h) (run_load_str rfl Try.underlying26 rfl Try.size26 (hF.same 7 rfl) (hx6.below hB hx6.lt)) rfl
              · intro a w2 hB hF hd
                refine flow_wanted (wanted_yes rfl rfl (hd 3 _ rfl (waits_spec rfl)) rfl) ?_
                refine flow_call _ _ _ rfl Try.call29 _ (args2 (hd 4 _ rfl (waits_spec rfl)) (hd 5 _ rfl (waits_spec rfl))) (by simp) ((feMul_any (dg 65536 Y) (dg 65536 X) Y X HFY.out HFX.out w2).mono ?_)
                rintro e w3 ⟨rfl, hb⟩; exact ⟨_, rfl, rfl, hb⟩
              · intro a w2 hB hF hd
                refine flow_wanted (wanted_yes rfl rfl (hd 3 _ rfl (waits_spec rfl)) rfl) ?_
                exact flow_val (fun h => by cases h) (run_load_str rfl Try.underlying26 rfl Try.size26 (hF.same 7 rfl) (hx6.below hB hx6.lt)) rfl
              · intro a w2 hB hF hd
                refine flow_wanted (wanted_yes rfl rfl (hd 3 _ rfl (waits_spec rfl)) rfl) ?_
                refine flow_call _ _ _ rfl Try.call34 _ (args1 (hd 7 _ rfl (waits_spec rfl))) (by simp) ((feInverse_any (dg 65536 X) X HFX.out w2).mono ?_)
                rintro e w3 ⟨rfl, hb⟩; exact ⟨_, rfl, rfl, hb⟩
              · intro a w2 hB hF hd
                refine flow_wanted (wanted_yes rfl rfl (hd 3 _ rfl (waits_spec rfl)) rfl) ?_
                refine flow_call _ _ _ rfl Try.call29 _ (args2 (hd 6 _ rfl (waits_spec rfl)) (hd 8 _ rfl (waits_spec rfl))) (by simp) ((feMul_any (mulF (dg 65536 Y) (dg 65536 X)) (invF (dg 65536 X)) (Y * X) (invN X) (HFY.out.mulF HFX.out) (fe_inv HFX.out) w2).mono ?_)
                rintro e w3 ⟨rfl, hb⟩; exact ⟨_, rfl, rfl, hb⟩
              · intro a w2 hB hF hd
                refine flow_wanted (wanted_yes rfl rfl (hd 3 _ rfl (waits_spec rfl)) rfl) ?_
                exact flow_val (fun h => by cases h) (run_load_str rfl Try.underlying26 rfl Try.size26 (hF.same 8 rfl) (hy6.below hB hy6.lt)) rfl
              · intro a w2 hB hF hd
                refine flow_wanted (wanted_yes rfl rfl (hd 3 _ rfl (waits_spec rfl)) rfl) ?_
                refine flow_call _ _ _ rfl Try.call21 _ (args2 (hd 9 _ rfl (waits_spec rfl)) (hd 10 _ rfl (waits_spec rfl))) (by simp) ((feEqual_yes (mulF (mulF (dg 65536 Y) (dg 65536 X)) (invF (dg 65536 X))) (dg 65536 Y) ((Y * X) * (invN X)) Y ((HFY.out.mulF HFX.out).mulF (fe_inv HFX.out)) HFY.out (inv_law Y HX0.out) w2).mono ?_)
                rintro e w3 ⟨rfl, hb⟩; exact ⟨_, rfl, rfl, hb⟩
              · intro a w2 hB hF hd
                rw [if_pos (wanted_none rfl)]
                exact flow_val (fun h => by cases h) (run_pick rfl (hd 3 _ rfl (waits_spec rfl))) ((hd 11 _ rfl (waits_spec rfl)))
              · intro a w2 hB hF hd
                rw [if_pos (wanted_none rfl)]
                exact flow_move _ (.inr rfl) (by simp) (hd 12 _ rfl (waits_spec rfl))
            · intro a w7 hB hF hS
              have ha := puts_each rfl rfl hF [_, _, _, _, _, _, _, _, _, _, _, _, _, _] rfl ⟨hS 0 _ rfl, hS 1 _ rfl, hS 2 _ rfl, hS 3 _ rfl, hS 4 _ rfl, hS 5 _ rfl, hS 6 _ rfl, hS 7 _ rfl, hS 8 _ rfl, hS 9 _ rfl, hS 10 _ rfl, hS 11 _ rfl, hS 12 _ rfl, hS 13 _ rfl, trivial⟩
              simp only [puts, Act.put, List.setIfInBounds_toArray, List.set_cons_succ, List.set_cons_zero] at ha
              subst ha
              clear hS hF
              have hbf := hb6.trans (hB.mono hb6.size)
              clear hx6 hy6 hzo6 hb6 hB
              go_wp2
              go_ret
              exact ⟨rfl, hbf⟩
end Go.Proofs.Ytjmagojmfiabfaa
