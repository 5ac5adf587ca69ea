/-
  The law FeSums answers true.
-/
import Derived.Test.YtjmagojmfiabfaaFeB
namespace Go.Proofs.Ytjmagojmfiabfaa
open Go.RowKit Go.Bas Go.ChangeShapes
attribute [local go_sem ↓] Go.wp_at_zero Go.wp_at_succ

theorem small0_rd (w : World) : Calls Try.prog 24 #[.int .i64 0] w fun e w' => ∃ v, e = .returned v ∧ Rd .i64 w' v 16 (dg 65536 (0 % Pr)) ∧ Below w.heap.size w w' := rSmall_rd 0 (by decide) (by decide) w

set_option maxRecDepth 100000 in
set_option maxHeartbeats 12800000 in
theorem feSums_law (w : World) (fb : Nat → Int) (hb : ∀ i, i < 32 → (Lit.int .u8 (fb i)).wf = true) (fc : Nat → Int) (hc : ∀ i, i < 32 → (Lit.int .u8 (fc i)).wf = true) :
    Calls Try.prog 4 #[.agg (arr .u8 32 fb), .agg (arr .u8 32 fc)] w fun e w' => e = .returned (.bool true) ∧ Below w.heap.size w w' := by
  obtain ⟨B, eB, hB⟩ := num32 fb hb
  obtain ⟨C, eC, hC⟩ := num32 fc hc
  rw [eB, eC]
  clear hB hC hb hc eB eC
  go_enter Try.func4, Try.ntmps4
  have hB1 : Arr .u8 ((w.alloc (.cells (arr .u8 32 (dg 256 B)) 22)).alloc (.cells (arr .u8 32 (dg 256 C)) 22)) w.heap.size 32 (dg 256 B) := Arr.alloc (Arr.newAt rfl rfl) _
  have hC1 : Arr .u8 ((w.alloc (.cells (arr .u8 32 (dg 256 B)) 22)).alloc (.cells (arr .u8 32 (dg 256 C)) 22)) (w.heap.size + 1) 32 (dg 256 C) := Arr.newAt (by first | omega | (simp <;> omega)) rfl
  have hb1 : Below w.heap.size w ((w.alloc (.cells (arr .u8 32 (dg 256 B)) 22)).alloc (.cells (arr .u8 32 (dg 256 C)) 22)) := ((Below.refl _ _).alloc (Nat.le_refl _) _).alloc (by simp) _
  go_wp2_with fail
  refine (awake_any _).mono ?_
  rintro e w2 ⟨rfl, hb2⟩
  have hBb := hB1.kept hb2
  have hC := hC1.kept hb2
  have hbel := hb1.trans (hb2.mono hb1.size)
  clear hB1 hC1 hb1 hb2
  go_wp2
  refine region_vars (n := 96) (by kernel_rfl) (by kernel_rfl) (by kernel_rfl) rfl
    (fun i v _ => (match i with | 0 => v = .agg (arr .u8 32 (dg 256 B)) | 1 => v = .agg (arr .i64 16 (dg 65536 (B % 2 ^ 255))) | 2 => v = .agg (arr .u8 32 (dg 256 C)) | 3 => v = .agg (arr .i64 16 (dg 65536 (C % 2 ^ 255))) | _ => True))
    (fun _ _ => True) (fun _ _ _ => trivial) (fun _ _ _ _ => trivial) (fun _ _ _ _ h _ => h)
    (isAl [(6, 4), (7, 5)]) (putOf [(6, 4), (7, 5)]) (fun _ => arr .i64 16 (fun _ => 0)) (fun i => match i with | 4 => (arr .i64 16 (dg 65536 (B % 2 ^ 255))) | 5 => (arr .i64 16 (dg 65536 (C % 2 ^ 255))) | _ => #[]) (fun _ => 26) (fun i => match i with | 4 => 5 | 5 => 6 | _ => 0)
    (vs_al rfl) (vs_inj rfl) ?_ ?_ ?_ ?_
  · refine Each.all ?_
    refine ⟨?_, ?_, ?_, ?_, (fun h => by cases h), (fun h => by cases h), (fun _ h => by cases h), (fun _ h => by cases h), trivial⟩
    · intro _ _ a w2 hB hF hd
      rw [if_pos (wanted_none rfl)]
      exact flow_val (fun h => by cases h) (run_load_str rfl Try.underlying22 rfl Try.size22 (hF.same 2 rfl) (hBb.below hB hBb.lt)) rfl
    · intro _ _ a w2 hB hF hd
      rw [if_pos (wanted_none rfl)]
      refine flow_call _ _ _ rfl Try.call16 _ (args1 (hd 0 _ rfl rfl rfl (waits_spec rfl))) (by simp) ((feOf_any B w2).mono ?_)
      rintro e w3 ⟨rfl, hb⟩; exact ⟨_, rfl, rfl, hb⟩
    · intro _ _ a w2 hB hF hd
      rw [if_pos (wanted_none rfl)]
      exact flow_val (fun h => by cases h) (run_load_str rfl Try.underlying22 rfl Try.size22 (hF.same 3 rfl) (hC.below hB hC.lt)) rfl
    · intro _ _ a w2 hB hF hd
      rw [if_pos (wanted_none rfl)]
      refine flow_call _ _ _ rfl Try.call16 _ (args1 (hd 2 _ rfl rfl rfl (waits_spec rfl))) (by simp) ((feOf_any C w2).mono ?_)
      rintro e w3 ⟨rfl, hb⟩; exact ⟨_, rfl, rfl, hb⟩
  · refine Each.all ?_
    refine ⟨(fun h => by cases h), (fun h => by cases h), (fun h => by cases h), (fun h => by cases h), ?_, ?_, (fun h => by cases h), (fun h => by cases h), trivial⟩
    · exact fun _ => ⟨rfl, rfl, fun a w2 K h => flow_alloc rfl rfl Try.zeroValue26 (by simp) h⟩
    · exact fun _ => ⟨rfl, rfl, fun a w2 K h => flow_alloc rfl rfl Try.zeroValue26 (by simp) h⟩
  · refine Each.all ?_
    refine ⟨(fun _ h => by cases h), (fun _ h => by cases h), (fun _ h => by cases h), (fun _ h => by cases h), (fun _ h => by cases h), (fun _ h => by cases h), ?_, ?_, trivial⟩
    · intro p hp
      obtain rfl : 4 = p := Option.some.inj hp
      exact ⟨rfl, rfl, ⟨_, rfl⟩, waits_spec rfl, fun a w2 b K hB hF hd hx hb h => flow_put rfl rfl Try.size26 hx (hd 1 _ rfl rfl rfl (waits_spec rfl)) hb h⟩
    · intro p hp
      obtain rfl : 5 = p := Option.some.inj hp
      exact ⟨rfl, rfl, ⟨_, rfl⟩, waits_spec rfl, fun a w2 b K hB hF hd hx hb h => flow_put rfl rfl Try.size26 hx (hd 3 _ rfl rfl rfl (waits_spec rfl)) hb h⟩
  · intro a w3 blk hB hF hS hv hfin hdis
    obtain ⟨v4, v4l, v4u⟩ := hv 4 _ rfl rfl
    obtain ⟨v5, v5l, v5u⟩ := hv 5 _ rfl rfl
    have ha := puts_each rfl rfl hF [_, _, _, _, _, _, undef, undef] rfl ⟨hS 0 _ rfl rfl rfl, hS 1 _ rfl rfl rfl, hS 2 _ rfl rfl rfl, hS 3 _ rfl rfl rfl, v4, v5, trivial, trivial, trivial⟩
    have f4 := hfin 6 _ 4 rfl rfl
    have f5 := hfin 7 _ 5 rfl rfl
    have d4_5 := hdis 4 5 _ _ rfl rfl rfl rfl (by decide)
    simp only [puts, Act.put, List.setIfInBounds_toArray, List.set_cons_succ, List.set_cons_zero] at ha
    subst ha
    have V4 : Arr .i64 w3 (blk 4) 16 (dg 65536 (B % 2 ^ 255)) := ⟨_, f4⟩
    have V5 : Arr .i64 w3 (blk 5) 16 (dg 65536 (C % 2 ^ 255)) := ⟨_, f5⟩
    clear hS hv hfin hdis hF v4 v5 f4 f5
    have hBb3 := hBb.below hB hBb.lt
    have hC3 := hC.below hB hC.lt
    have hbel3 := hbel.trans (hB.mono hbel.size)
    obtain ⟨x, hx⟩ : ∃ x, x = blk 4 := ⟨_, rfl⟩
    obtain ⟨y, hy⟩ : ∃ y, y = blk 5 := ⟨_, rfl⟩
    rw [← hx] at V4 d4_5 v4l v4u ⊢
    rw [← hy] at V5 d4_5 v5l v5u ⊢
    clear hx hy hBb hC hbel hB d4_5
    go_wp2
    refine region_flow (n := 96) (by kernel_rfl) (by kernel_rfl) (by kernel_rfl) rfl
      (fun i v w => (match i with | 0 => v = .agg (arr .u8 32 (dg 256 B)) | 2 => v = .agg (arr .u8 32 (dg 256 C)) | _ => True) ∧ (i = 1 → Rd .i64 w v 16 (dg 65536 (B % 2 ^ 255 % Pr))) ∧ (i = 3 → Rd .i64 w v 16 (dg 65536 (C % 2 ^ 255 % Pr))) ∧ (i = 4 → Rd .i64 w v 16 (dg 65536 (B % 2 ^ 255 % Pr))) ∧ (i = 5 → Rd .i64 w v 16 (dg 65536 (C % 2 ^ 255 % Pr))))
      (fun w w' => Below w.heap.size w w') (fun _ _ h => h) (fun i v w w' h hE => ⟨h.1, fun e => Rd.below (h.2.1 e) hE, fun e => Rd.below (h.2.2.1 e) hE, fun e => Rd.below (h.2.2.2.1 e) hE, fun e => Rd.below (h.2.2.2.2 e) hE⟩) ?_ ?_
    · refine Each.all ?_
      refine ⟨?_, ?_, ?_, ?_, ?_, ?_, trivial⟩
      · intro a w2 hB hF hd
        rw [if_pos (wanted_none rfl)]
        exact flow_val (fun h => by cases h) (run_load_str rfl Try.underlying22 rfl Try.size22 (hF.same 2 rfl) (hBb3.below hB hBb3.lt)) ⟨rfl, fun h => absurd h (by decide), fun h => absurd h (by decide), fun h => absurd h (by decide), fun h => absurd h (by decide)⟩
      · intro a w2 hB hF hd
        rw [if_pos (wanted_none rfl)]
        refine flow_call _ _ _ rfl Try.call17 _ (args1 ((hd 0 _ rfl (waits_spec rfl)).1)) (by simp) ((fOf_rd B w2).mono ?_)
        rintro e w3 ⟨u, rfl, hr, hb⟩; exact ⟨u, rfl, ⟨trivial, fun _ => hr, fun h => absurd h (by decide), fun h => absurd h (by decide), fun h => absurd h (by decide)⟩, hb⟩
      · intro a w2 hB hF hd
        rw [if_pos (wanted_none rfl)]
        exact flow_val (fun h => by cases h) (run_load_str rfl Try.underlying22 rfl Try.size22 (hF.same 3 rfl) (hC3.below hB hC3.lt)) ⟨rfl, fun h => absurd h (by decide), fun h => absurd h (by decide), fun h => absurd h (by decide), fun h => absurd h (by decide)⟩
      · intro a w2 hB hF hd
        rw [if_pos (wanted_none rfl)]
        refine flow_call _ _ _ rfl Try.call17 _ (args1 ((hd 2 _ rfl (waits_spec rfl)).1)) (by simp) ((fOf_rd C w2).mono ?_)
        rintro e w3 ⟨u, rfl, hr, hb⟩; exact ⟨u, rfl, ⟨trivial, fun h => absurd h (by decide), fun _ => hr, fun h => absurd h (by decide), fun h => absurd h (by decide)⟩, hb⟩
      · intro a w2 hB hF hd
        rw [if_pos (wanted_none rfl)]
        exact flow_move _ (.inr rfl) (by simp) ⟨trivial, fun h => absurd h (by decide), fun h => absurd h (by decide), fun _ => ((hd 1 _ rfl (waits_spec rfl)).2.1 rfl), fun h => absurd h (by decide)⟩
      · intro a w2 hB hF hd
        rw [if_pos (wanted_none rfl)]
        exact flow_move _ (.inr rfl) (by simp) ⟨trivial, fun h => absurd h (by decide), fun h => absurd h (by decide), fun h => absurd h (by decide), fun _ => ((hd 3 _ rfl (waits_spec rfl)).2.2.1 rfl)⟩
    · intro a w4 hB hF hS
      obtain ⟨x18, hx18⟩ : ∃ x, x = a.tmps.getD 18 undef := ⟨_, rfl⟩
      have P18 : Rd .i64 w4 x18 16 (dg 65536 (B % 2 ^ 255 % Pr)) := by rw [hx18]; exact (hS 1 _ rfl).2.1 rfl
      obtain ⟨x20, hx20⟩ : ∃ x, x = a.tmps.getD 20 undef := ⟨_, rfl⟩
      have P20 : Rd .i64 w4 x20 16 (dg 65536 (C % 2 ^ 255 % Pr)) := by rw [hx20]; exact (hS 3 _ rfl).2.2.1 rfl
      obtain ⟨x7, hx7⟩ : ∃ x, x = a.tmps.getD 7 undef := ⟨_, rfl⟩
      have P7 : Rd .i64 w4 x7 16 (dg 65536 (B % 2 ^ 255 % Pr)) := by rw [hx7]; exact (hS 4 _ rfl).2.2.2.1 rfl
      obtain ⟨x8, hx8⟩ : ∃ x, x = a.tmps.getD 8 undef := ⟨_, rfl⟩
      have P8 : Rd .i64 w4 x8 16 (dg 65536 (C % 2 ^ 255 % Pr)) := by rw [hx8]; exact (hS 5 _ rfl).2.2.2.2 rfl
      have ha := puts_each rfl rfl hF [_, x18, _, x20, x7, x8] rfl ⟨(hS 0 _ rfl).1, hx18.symm, (hS 2 _ rfl).1, hx20.symm, hx7.symm, hx8.symm, trivial⟩
      simp only [puts, Act.put, List.setIfInBounds_toArray, List.set_cons_succ, List.set_cons_zero] at ha
      subst ha
      clear hx18 hx20 hx7 hx8
      clear hS hF
      have hx := V4.below hB V4.lt
      have hy := V5.below hB V5.lt
      have hb4 := hbel3.trans (hB.mono hbel3.size)
      have H7 := Lib.hid P7
      have H8 := Lib.hid P8
      clear P7 P8 P18 P20 V4 V5 hbel3 hB hBb3 hC3 v4l v4u v5l v5u
      obtain ⟨X, hXe⟩ : ∃ X, X = B % 2 ^ 255 := ⟨_, rfl⟩
      obtain ⟨Y, hYe⟩ : ∃ Y, Y = C % 2 ^ 255 := ⟨_, rfl⟩
      have HFX := Lib.hid (feOf_fe B)
      have HFY := Lib.hid (feOf_fe C)
      rw [← hXe] at HFX hx H7 ⊢
      rw [← hYe] at HFY hy H8 ⊢
      clear hXe hYe
      go_upto_region 5 with (fail)
      refine region_flow (n := 96) (by kernel_rfl) (by kernel_rfl) (by kernel_rfl) rfl
        (fun i v w => (match i with | 0 | 10 | 21 | 32 => v = .agg (arr .i64 16 (dg 65536 X)) | 1 | 11 | 22 => v = .agg (arr .i64 16 (dg 65536 Y)) | 2 => v = .agg (arr .i64 16 (addF (dg 65536 X) (dg 65536 Y))) | 3 | 7 => v = .agg (arr .u8 32 (dg 256 ((X + Y) % Pr))) | 4 | 14 | 25 | 36 => v = x7 | 5 | 15 | 26 => v = x8 | 8 | 9 | 18 | 19 | 20 | 29 | 30 | 31 | 39 | 40 => v = .bool false | 12 => v = .agg (arr .i64 16 (subF (dg 65536 X) (dg 65536 Y))) | 13 | 17 => v = .agg (arr .u8 32 (dg 256 ((X - Y) % Pr))) | 23 => v = .agg (arr .i64 16 (mulF (dg 65536 X) (dg 65536 Y))) | 24 | 28 => v = .agg (arr .u8 32 (dg 256 ((X * Y) % Pr))) | 33 => v = .agg (arr .i64 16 (negF (dg 65536 X))) | 34 => v = .agg (arr .u8 32 (dg 256 ((-X) % Pr))) | 38 => v = .agg (arr .u8 32 (dg 256 ((0 - X) % Pr))) | _ => True) ∧ (i = 6 → Rd .i64 w v 16 (dg 65536 ((X + Y) % Pr))) ∧ (i = 16 → Rd .i64 w v 16 (dg 65536 ((X - Y) % Pr))) ∧ (i = 27 → Rd .i64 w v 16 (dg 65536 ((X * Y) % Pr))) ∧ (i = 35 → Rd .i64 w v 16 (dg 65536 (0 % Pr))) ∧ (i = 37 → Rd .i64 w v 16 (dg 65536 ((0 - X) % Pr))))
        (fun w w' => Below w.heap.size w w') (fun _ _ h => h) (fun i v w w' h hE => ⟨h.1, fun e => Rd.below (h.2.1 e) hE, fun e => Rd.below (h.2.2.1 e) hE, fun e => Rd.below (h.2.2.2.1 e) hE, fun e => Rd.below (h.2.2.2.2.1 e) hE, fun e => Rd.below (h.2.2.2.2.2 e) hE⟩) ?_ ?_
      · refine Each.all ?_
        refine ⟨?_, ?_, ?_, ?_, ?_, ?_, ?_, ?_, ?_, ?_, ?_, ?_, ?_, ?_, ?_, ?_, ?_, ?_, ?_, ?_, ?_, ?_, ?_, ?_, ?_, ?_, ?_, ?_, ?_, ?_, ?_, ?_, ?_, ?_, ?_, ?_, ?_, ?_, ?_, ?_, ?_, trivial⟩
        · intro a w2 hB hF hd
          rw [if_pos (wanted_none rfl)]
          exact flow_val (fun h => by cases h) (run_load_str rfl Try.underlying26 rfl Try.size26 (hF.same 5 rfl) (hx.below hB hx.lt)) ⟨rfl, fun h => absurd h (by decide), fun h => absurd h (by decide), fun h => absurd h (by decide), fun h => absurd h (by decide), fun h => absurd h (by decide)⟩
        · intro a w2 hB hF hd
          rw [if_pos (wanted_none rfl)]
          exact flow_val (fun h => by cases h) (run_load_str rfl Try.underlying26 rfl Try.size26 (hF.same 6 rfl) (hy.below hB hy.lt)) ⟨rfl, fun h => absurd h (by decide), fun h => absurd h (by decide), fun h => absurd h (by decide), fun h => absurd h (by decide), fun h => absurd h (by decide)⟩
        · intro a w2 hB hF hd
          rw [if_pos (wanted_none rfl)]
          refine flow_call _ _ _ rfl Try.call25 _ (args2 ((hd 0 _ rfl (waits_spec rfl)).1) ((hd 1 _ rfl (waits_spec rfl)).1)) (by simp) ((feAdd_any (dg 65536 X) (dg 65536 Y) X Y HFX.out HFY.out w2).mono ?_)
          rintro e w3 ⟨rfl, hb⟩; exact ⟨_, rfl, ⟨rfl, fun h => absurd h (by decide), fun h => absurd h (by decide), fun h => absurd h (by decide), fun h => absurd h (by decide), fun h => absurd h (by decide)⟩, hb⟩
        · intro a w2 hB hF hd
          rw [if_pos (wanted_none rfl)]
          refine flow_call _ _ _ rfl Try.call18 _ (args1 ((hd 2 _ rfl (waits_spec rfl)).1)) (by simp) ((feBytes_any (addF (dg 65536 X) (dg 65536 Y)) (X + Y) (HFX.out.addF HFY.out) w2).mono ?_)
          rintro e w3 ⟨rfl, hb⟩; exact ⟨_, rfl, ⟨rfl, fun h => absurd h (by decide), fun h => absurd h (by decide), fun h => absurd h (by decide), fun h => absurd h (by decide), fun h => absurd h (by decide)⟩, hb⟩
        · intro a w2 hB hF hd
          rw [if_pos (wanted_none rfl)]
          exact flow_move _ (.inl rfl) (by simp) ⟨(hF.same 7 rfl), fun h => absurd h (by decide), fun h => absurd h (by decide), fun h => absurd h (by decide), fun h => absurd h (by decide), fun h => absurd h (by decide)⟩
        · intro a w2 hB hF hd
          rw [if_pos (wanted_none rfl)]
          exact flow_move _ (.inl rfl) (by simp) ⟨(hF.same 8 rfl), fun h => absurd h (by decide), fun h => absurd h (by decide), fun h => absurd h (by decide), fun h => absurd h (by decide), fun h => absurd h (by decide)⟩
        · intro a w2 hB hF hd
          rw [if_pos (wanted_none rfl)]
          refine flow_call _ _ _ rfl Try.call26 _ (args2 ((hd 4 _ rfl (waits_spec rfl)).1) ((hd 5 _ rfl (waits_spec rfl)).1)) (by simp) ((fAdd_rd X Y _ _ w2 (H7.out.below hB) (H8.out.below hB)).mono ?_)
          rintro e w3 ⟨u, rfl, hr, hb⟩; exact ⟨u, rfl, ⟨trivial, fun _ => hr, fun h => absurd h (by decide), fun h => absurd h (by decide), fun h => absurd h (by decide), fun h => absurd h (by decide)⟩, hb⟩
        · intro a w2 hB hF hd
          rw [if_pos (wanted_none rfl)]
          refine flow_call _ _ _ rfl Try.call19 _ (args1 rfl) (by simp) ((rBytes_any _ ((X + Y) % Pr) 16 (by decide) w2 ((hd 6 _ rfl (waits_spec rfl)).2.1 rfl)).mono ?_)
          rintro e w3 ⟨rfl, hb⟩; exact ⟨_, rfl, ⟨rfl, fun h => absurd h (by decide), fun h => absurd h (by decide), fun h => absurd h (by decide), fun h => absurd h (by decide), fun h => absurd h (by decide)⟩, hb⟩
        · intro a w2 hB hF hd
          rw [if_pos (wanted_none rfl)]
          exact flow_val (fun h => by cases h) (run_neq_arr true rfl ((hd 3 _ rfl (waits_spec rfl)).1) ((hd 7 _ rfl (waits_spec rfl)).1) Try.underlying22 (by kernel_rfl) (by kernel_rfl) (by kernel_rfl) (by kernel_rfl) (by kernel_rfl) sameB_self) ⟨rfl, fun h => absurd h (by decide), fun h => absurd h (by decide), fun h => absurd h (by decide), fun h => absurd h (by decide), fun h => absurd h (by decide)⟩
        · intro a w2 hB hF hd
          rw [if_pos (wanted_none rfl)]
          exact flow_move _ (.inl rfl) (by simp) ⟨((hd 8 _ rfl (waits_spec rfl)).1), fun h => absurd h (by decide), fun h => absurd h (by decide), fun h => absurd h (by decide), fun h => absurd h (by decide), fun h => absurd h (by decide)⟩
        · intro a w2 hB hF hd
          refine flow_wanted (wanted_yes rfl rfl ((hd 9 _ rfl (waits_spec rfl)).1) rfl) ?_
          exact flow_val (fun h => by cases h) (run_load_str rfl Try.underlying26 rfl Try.size26 (hF.same 5 rfl) (hx.below hB hx.lt)) ⟨rfl, fun h => absurd h (by decide), fun h => absurd h (by decide), fun h => absurd h (by decide), fun h => absurd h (by decide), fun h => absurd h (by decide)⟩
        · intro a w2 hB hF hd
          refine flow_wanted (wanted_yes rfl rfl ((hd 9 _ rfl (waits_spec rfl)).1) rfl) ?_
          exact flow_val (fun h => by cases h) (run_load_str rfl Try.underlying26 rfl Try.size26 (hF.same 6 rfl) (hy.below hB hy.lt)) ⟨rfl, fun h => absurd h (by decide), fun h => absurd h (by decide), fun h => absurd h (by decide), fun h => absurd h (by decide), fun h => absurd h (by decide)⟩
        · intro a w2 hB hF hd
          refine flow_wanted (wanted_yes rfl rfl ((hd 9 _ rfl (waits_spec rfl)).1) rfl) ?_
          refine flow_call _ _ _ rfl Try.call27 _ (args2 ((hd 10 _ rfl (waits_spec rfl)).1) ((hd 11 _ rfl (waits_spec rfl)).1)) (by simp) ((feSub_any (dg 65536 X) (dg 65536 Y) X Y HFX.out HFY.out w2).mono ?_)
          rintro e w3 ⟨rfl, hb⟩; exact ⟨_, rfl, ⟨rfl, fun h => absurd h (by decide), fun h => absurd h (by decide), fun h => absurd h (by decide), fun h => absurd h (by decide), fun h => absurd h (by decide)⟩, hb⟩
        · intro a w2 hB hF hd
          refine flow_wanted (wanted_yes rfl rfl ((hd 9 _ rfl (waits_spec rfl)).1) rfl) ?_
          refine flow_call _ _ _ rfl Try.call18 _ (args1 ((hd 12 _ rfl (waits_spec rfl)).1)) (by simp) ((feBytes_any (subF (dg 65536 X) (dg 65536 Y)) (X - Y) (HFX.out.subF HFY.out) w2).mono ?_)
          rintro e w3 ⟨rfl, hb⟩; exact ⟨_, rfl, ⟨rfl, fun h => absurd h (by decide), fun h => absurd h (by decide), fun h => absurd h (by decide), fun h => absurd h (by decide), fun h => absurd h (by decide)⟩, hb⟩
        · intro a w2 hB hF hd
          refine flow_wanted (wanted_yes rfl rfl ((hd 9 _ rfl (waits_spec rfl)).1) rfl) ?_
          exact flow_move _ (.inl rfl) (by simp) ⟨(hF.same 7 rfl), fun h => absurd h (by decide), fun h => absurd h (by decide), fun h => absurd h (by decide), fun h => absurd h (by decide), fun h => absurd h (by decide)⟩
        · intro a w2 hB hF hd
          refine flow_wanted (wanted_yes rfl rfl ((hd 9 _ rfl (waits_spec rfl)).1) rfl) ?_
          exact flow_move _ (.inl rfl) (by simp) ⟨(hF.same 8 rfl), fun h => absurd h (by decide), fun h => absurd h (by decide), fun h => absurd h (by decide), fun h => absurd h (by decide), fun h => absurd h (by decide)⟩
        · intro a w2 hB hF hd
          refine flow_wanted (wanted_yes rfl rfl ((hd 9 _ rfl (waits_spec rfl)).1) rfl) ?_
          refine flow_call _ _ _ rfl Try.call28 _ (args2 ((hd 14 _ rfl (waits_spec rfl)).1) ((hd 15 _ rfl (waits_spec rfl)).1)) (by simp) ((fSub_rd X Y _ _ w2 (H7.out.below hB) (H8.out.below hB)).mono ?_)
          rintro e w3 ⟨u, rfl, hr, hb⟩; exact ⟨u, rfl, ⟨trivial, fun h => absurd h (by decide), fun _ => hr, fun h => absurd h (by decide), fun h => absurd h (by decide), fun h => absurd h (by decide)⟩, hb⟩
        · intro a w2 hB hF hd
          refine flow_wanted (wanted_yes rfl rfl ((hd 9 _ rfl (waits_spec rfl)).1) rfl) ?_
          refine flow_call _ _ _ rfl Try.call19 _ (args1 rfl) (by simp) ((rBytes_any _ ((X - Y) % Pr) 16 (by decide) w2 ((hd 16 _ rfl (waits_spec rfl)).2.2.1 rfl)).mono ?_)
          rintro e w3 ⟨rfl, hb⟩; exact ⟨_, rfl, ⟨rfl, fun h => absurd h (by decide), fun h => absurd h (by decide), fun h => absurd h (by decide), fun h => absurd h (by decide), fun h => absurd h (by decide)⟩, hb⟩
        · intro a w2 hB hF hd
          refine flow_wanted (wanted_yes rfl rfl ((hd 9 _ rfl (waits_spec rfl)).1) rfl) ?_
          exact flow_val (fun h => by cases h) (run_neq_arr true rfl ((hd 13 _ rfl (waits_spec rfl)).1) ((hd 17 _ rfl (waits_spec rfl)).1) Try.underlying22 (by kernel_rfl) (by kernel_rfl) (by kernel_rfl) (by kernel_rfl) (by kernel_rfl) sameB_self) ⟨rfl, fun h => absurd h (by decide), fun h => absurd h (by decide), fun h => absurd h (by decide), fun h => absurd h (by decide), fun h => absurd h (by decide)⟩
        · intro a w2 hB hF hd
          rw [if_pos (wanted_none rfl)]
          exact flow_val (fun h => by cases h) (run_pick rfl ((hd 9 _ rfl (waits_spec rfl)).1)) ⟨(((hd 18 _ rfl (waits_spec rfl)).1)), fun h => absurd h (by decide), fun h => absurd h (by decide), fun h => absurd h (by decide), fun h => absurd h (by decide), fun h => absurd h (by decide)⟩
        · intro a w2 hB hF hd
          rw [if_pos (wanted_none rfl)]
          exact flow_move _ (.inl rfl) (by simp) ⟨((hd 19 _ rfl (waits_spec rfl)).1), fun h => absurd h (by decide), fun h => absurd h (by decide), fun h => absurd h (by decide), fun h => absurd h (by decide), fun h => absurd h (by decide)⟩
        · intro a w2 hB hF hd
          refine flow_wanted (wanted_yes rfl rfl ((hd 20 _ rfl (waits_spec rfl)).1) rfl) ?_
          exact flow_val (fun h => by cases h) (run_load_str rfl Try.underlying26 rfl Try.size26 (hF.same 5 rfl) (hx.below hB hx.lt)) ⟨rfl, fun h => absurd h (by decide), fun h => absurd h (by decide), fun h => absurd h (by decide), fun h => absurd h (by decide), fun h => absurd h (by decide)⟩
        · intro a w2 hB hF hd
          refine flow_wanted (wanted_yes rfl rfl ((hd 20 _ rfl (waits_spec rfl)).1) rfl) ?_
          exact flow_val (fun h => by cases h) (run_load_str rfl Try.underlying26 rfl Try.size26 (hF.same 6 rfl) (hy.below hB hy.lt)) ⟨rfl, fun h => absurd h (by decide), fun h => absurd h (by decide), fun h => absurd h (by decide), fun h => absurd h (by decide), fun h => absurd h (by decide)⟩
        · intro a w2 hB hF hd
          refine flow_wanted (wanted_yes rfl rfl ((hd 20 _ rfl (waits_spec rfl)).1) rfl) ?_
          refine flow_call _ _ _ rfl Try.call29 _ (args2 ((hd 21 _ rfl (waits_spec rfl)).1) ((hd 22 _ rfl (waits_spec rfl)).1)) (by simp) ((feMul_any (dg 65536 X) (dg 65536 Y) X Y HFX.out HFY.out w2).mono ?_)
          rintro e w3 ⟨rfl, hb⟩; exact ⟨_, rfl, ⟨rfl, fun h => absurd h (by decide), fun h => absurd h (by decide), fun h => absurd h (by decide), fun h => absurd h (by decide), fun h => absurd h (by decide)⟩, hb⟩
        · intro a w2 hB hF hd
          refine flow_wanted (wanted_yes rfl rfl ((hd 20 _ rfl (waits_spec rfl)).1) rfl) ?_
          refine flow_call _ _ _ rfl Try.call18 _ (args1 ((hd 23 _ rfl (waits_spec rfl)).1)) (by simp) ((feBytes_any (mulF (dg 65536 X) (dg 65536 Y)) (X * Y) (HFX.out.mulF HFY.out) w2).mono ?_)
          rintro e w3 ⟨rfl, hb⟩; exact ⟨_, rfl, ⟨rfl, fun h => absurd h (by decide), fun h => absurd h (by decide), fun h => absurd h (by decide), fun h => absurd h (by decide), fun h => absurd h (by decide)⟩, hb⟩
        · intro a w2 hB hF hd
          refine flow_wanted (wanted_yes rfl rfl ((hd 20 _ rfl (waits_spec rfl)).1) rfl) ?_
          exact flow_move _ (.inl rfl) (by simp) ⟨(hF.same 7 rfl), fun h => absurd h (by decide), fun h => absurd h (by decide), fun h => absurd h (by decide), fun h => absurd h (by decide), fun h => absurd h (by decide)⟩
        · intro a w2 hB hF hd
          refine flow_wanted (wanted_yes rfl rfl ((hd 20 _ rfl (waits_spec rfl)).1) rfl) ?_
          exact flow_move _ (.inl rfl) (by simp) ⟨(hF.same 8 rfl), fun h => absurd h (by decide), fun h => absurd h (by decide), fun h => absurd h (by decide), fun h => absurd h (by decide), fun h => absurd h (by decide)⟩
        · intro a w2 hB hF hd
          refine flow_wanted (wanted_yes rfl rfl ((hd 20 _ rfl (waits_spec rfl)).1) rfl) ?_
          refine flow_call _ _ _ rfl Try.call30 _ (args2 ((hd 25 _ rfl (waits_spec rfl)).1) ((hd 26 _ rfl (waits_spec rfl)).1)) (by simp) ((fMul_rd X Y _ _ w2 (H7.out.below hB) (H8.out.below hB)).mono ?_)
          rintro e w3 ⟨u, rfl, hr, hb⟩; exact ⟨u, rfl, ⟨trivial, fun h => absurd h (by decide), fun h => absurd h (by decide), fun _ => hr, fun h => absurd h (by decide), fun h => absurd h (by decide)⟩, hb⟩
        · intro a w2 hB hF hd
          refine flow_wanted (wanted_yes rfl rfl ((hd 20 _ rfl (waits_spec rfl)).1) rfl) ?_
          refine flow_call _ _ _ rfl Try.call19 _ (args1 rfl) (by simp) ((rBytes_any _ ((X * Y) % Pr) 16 (by decide) w2 ((hd 27 _ rfl (waits_spec rfl)).2.2.2.1 rfl)).mono ?_)
          rintro e w3 ⟨rfl, hb⟩; exact ⟨_, rfl, ⟨rfl, fun h => absurd h (by decide), fun h => absurd h (by decide), fun h => absurd h (by decide), fun h => absurd h (by decide), fun h => absurd h (by decide)⟩, hb⟩
        · intro a w2 hB hF hd
          refine flow_wanted (wanted_yes rfl rfl ((hd 20 _ rfl (waits_spec rfl)).1) rfl) ?_
          exact flow_val (fun h => by cases h) (run_neq_arr true rfl ((hd 24 _ rfl (waits_spec rfl)).1) ((hd 28 _ rfl (waits_spec rfl)).1) Try.underlying22 (by kernel_rfl) (by kernel_rfl) (by kernel_rfl) (by kernel_rfl) (by kernel_rfl) sameB_self) ⟨rfl, fun h => absurd h (by decide), fun h => absurd h (by decide), fun h => absurd h (by decide), fun h => absurd h (by decide), fun h => absurd h (by decide)⟩
        · intro a w2 hB hF hd
          rw [if_pos (wanted_none rfl)]
          exact flow_val (fun h => by cases h) (run_pick rfl ((hd 20 _ rfl (waits_spec rfl)).1)) ⟨(((hd 29 _ rfl (waits_spec rfl)).1)), fun h => absurd h (by decide), fun h => absurd h (by decide), fun h => absurd h (by decide), fun h => absurd h (by decide), fun h => absurd h (by decide)⟩
        · intro a w2 hB hF hd
          rw [if_pos (wanted_none rfl)]
          exact flow_move _ (.inl rfl) (by simp) ⟨((hd 30 _ rfl (waits_spec rfl)).1), fun h => absurd h (by decide), fun h => absurd h (by decide), fun h => absurd h (by decide), fun h => absurd h (by decide), fun h => absurd h (by decide)⟩
        · intro a w2 hB hF hd
          refine flow_wanted (wanted_yes rfl rfl ((hd 31 _ rfl (waits_spec rfl)).1) rfl) ?_
          exact flow_val (fun h => by cases h) (run_load_str rfl Try.underlying26 rfl Try.size26 (hF.same 5 rfl) (hx.below hB hx.lt)) ⟨rfl, fun h => absurd h (by decide), fun h => absurd h (by decide), fun h => absurd h (by decide), fun h => absurd h (by decide), fun h => absurd h (by decide)⟩
        · intro a w2 hB hF hd
          refine flow_wanted (wanted_yes rfl rfl ((hd 31 _ rfl (waits_spec rfl)).1) rfl) ?_
          refine flow_call _ _ _ rfl Try.call31 _ (args1 ((hd 32 _ rfl (waits_spec rfl)).1)) (by simp) ((feNeg_any (dg 65536 X) X HFX.out w2).mono ?_)
          rintro e w3 ⟨rfl, hb⟩; exact ⟨_, rfl, ⟨rfl, fun h => absurd h (by decide), fun h => absurd h (by decide), fun h => absurd h (by decide), fun h => absurd h (by decide), fun h => absurd h (by decide)⟩, hb⟩
        · intro a w2 hB hF hd
          refine flow_wanted (wanted_yes rfl rfl ((hd 31 _ rfl (waits_spec rfl)).1) rfl) ?_
          refine flow_call _ _ _ rfl Try.call18 _ (args1 ((hd 33 _ rfl (waits_spec rfl)).1)) (by simp) ((feBytes_any (negF (dg 65536 X)) (-X) (HFX.out.negF) w2).mono ?_)
          rintro e w3 ⟨rfl, hb⟩; exact ⟨_, rfl, ⟨rfl, fun h => absurd h (by decide), fun h => absurd h (by decide), fun h => absurd h (by decide), fun h => absurd h (by decide), fun h => absurd h (by decide)⟩, hb⟩
        · intro a w2 hB hF hd
          refine flow_wanted (wanted_yes rfl rfl ((hd 31 _ rfl (waits_spec rfl)).1) rfl) ?_
          refine flow_call _ _ _ rfl Try.call24 _ (args1 rfl) (by simp) ((small0_rd w2).mono ?_)
          rintro e w3 ⟨u, rfl, hr, hb⟩; exact ⟨u, rfl, ⟨trivial, fun h => absurd h (by decide), fun h => absurd h (by decide), fun h => absurd h (by decide), fun _ => hr, fun h => absurd h (by decide)⟩, hb⟩
        · intro a w2 hB hF hd
          refine flow_wanted (wanted_yes rfl rfl ((hd 31 _ rfl (waits_spec rfl)).1) rfl) ?_
          exact flow_move _ (.inl rfl) (by simp) ⟨(hF.same 7 rfl), fun h => absurd h (by decide), fun h => absurd h (by decide), fun h => absurd h (by decide), fun h => absurd h (by decide), fun h => absurd h (by decide)⟩
        · intro a w2 hB hF hd
          refine flow_wanted (wanted_yes rfl rfl ((hd 31 _ rfl (waits_spec rfl)).1) rfl) ?_
          refine flow_call _ _ _ rfl Try.call28 _ (args2 rfl ((hd 36 _ rfl (waits_spec rfl)).1)) (by simp) ((fSub_rd 0 X _ _ w2 ((hd 35 _ rfl (waits_spec rfl)).2.2.2.2.1 rfl) (H7.out.below hB)).mono ?_)
          rintro e w3 ⟨u, rfl, hr, hb⟩; exact ⟨u, rfl, ⟨trivial, fun h => absurd h (by decide), fun h => absurd h (by decide), fun h => absurd h (by decide), fun h => absurd h (by decide), fun _ => hr⟩, hb⟩
        · intro a w2 hB hF hd
          refine flow_wanted (wanted_yes rfl rfl ((hd 31 _ rfl (waits_spec rfl)).1) rfl) ?_
          refine flow_call _ _ _ rfl Try.call19 _ (args1 rfl) (by simp) ((rBytes_any _ ((0 - X) % Pr) 16 (by decide) w2 ((hd 37 _ rfl (waits_spec rfl)).2.2.2.2.2 rfl)).mono ?_)
          rintro e w3 ⟨rfl, hb⟩; exact ⟨_, rfl, ⟨rfl, fun h => absurd h (by decide), fun h => absurd h (by decide), fun h => absurd h (by decide), fun h => absurd h (by decide), fun h => absurd h (by decide)⟩, hb⟩
        · intro a w2 hB hF hd
          refine flow_wanted (wanted_yes rfl rfl ((hd 31 _ rfl (waits_spec rfl)).1) rfl) ?_
          exact flow_val (fun h => by cases h) (run_neq_arr true rfl ((hd 34 _ rfl (waits_spec rfl)).1) ((hd 38 _ rfl (waits_spec rfl)).1) Try.underlying22 (by kernel_rfl) (by kernel_rfl) (by kernel_rfl) (by kernel_rfl) (by kernel_rfl) (sameB_num (by rw [Int.zero_sub]))) ⟨rfl, fun h => absurd h (by decide), fun h => absurd h (by decide), fun h => absurd h (by decide), fun h => absurd h (by decide), fun h => absurd h (by decide)⟩
        · intro a w2 hB hF hd
          rw [if_pos (wanted_none rfl)]
          exact flow_val (fun h => by cases h) (run_pick rfl ((hd 31 _ rfl (waits_spec rfl)).1)) ⟨(((hd 39 _ rfl (waits_spec rfl)).1)), fun h => absurd h (by decide), fun h => absurd h (by decide), fun h => absurd h (by decide), fun h => absurd h (by decide), fun h => absurd h (by decide)⟩
      · intro a w5 hB hF hS
        obtain ⟨x27, hx27⟩ : ∃ x, x = a.tmps.getD 27 undef := ⟨_, rfl⟩
        obtain ⟨x37, hx37⟩ : ∃ x, x = a.tmps.getD 37 undef := ⟨_, rfl⟩
        obtain ⟨x48, hx48⟩ : ∃ x, x = a.tmps.getD 48 undef := ⟨_, rfl⟩
        obtain ⟨x56, hx56⟩ : ∃ x, x = a.tmps.getD 56 undef := ⟨_, rfl⟩
        obtain ⟨x58, hx58⟩ : ∃ x, x = a.tmps.getD 58 undef := ⟨_, rfl⟩
        have ha := puts_each rfl rfl hF [_, _, _, _, _, _, x27, _, _, _, _, _, _, _, _, _, x37, _, _, _, _, _, _, _, _, _, _, x48, _, _, _, _, _, _, _, x56, _, x58, _, _, _] rfl ⟨(hS 0 _ rfl).1, (hS 1 _ rfl).1, (hS 2 _ rfl).1, (hS 3 _ rfl).1, (hS 4 _ rfl).1, (hS 5 _ rfl).1, hx27.symm, (hS 7 _ rfl).1, (hS 8 _ rfl).1, (hS 9 _ rfl).1, (hS 10 _ rfl).1, (hS 11 _ rfl).1, (hS 12 _ rfl).1, (hS 13 _ rfl).1, (hS 14 _ rfl).1, (hS 15 _ rfl).1, hx37.symm, (hS 17 _ rfl).1, (hS 18 _ rfl).1, (hS 19 _ rfl).1, (hS 20 _ rfl).1, (hS 21 _ rfl).1, (hS 22 _ rfl).1, (hS 23 _ rfl).1, (hS 24 _ rfl).1, (hS 25 _ rfl).1, (hS 26 _ rfl).1, hx48.symm, (hS 28 _ rfl).1, (hS 29 _ rfl).1, (hS 30 _ rfl).1, (hS 31 _ rfl).1, (hS 32 _ rfl).1, (hS 33 _ rfl).1, (hS 34 _ rfl).1, hx56.symm, (hS 36 _ rfl).1, hx58.symm, (hS 38 _ rfl).1, (hS 39 _ rfl).1, (hS 40 _ rfl).1, trivial⟩
        simp only [puts, Act.put, List.setIfInBounds_toArray, List.set_cons_succ, List.set_cons_zero] at ha
        subst ha
        clear hx27 hx37 hx48 hx56 hx58
        clear hS hF
        have hx5 := hx.below hB hx.lt
        have hy5 := hy.below hB hy.lt
        have hb5 := hb4.trans (hB.mono hb4.size)
        have H75 := Lib.hid (H7.out.below hB)
        have H85 := Lib.hid (H8.out.below hB)
        clear hx hy hb4 hB H7 H8
        go_wp2
        refine region_vars (n := 96) (by kernel_rfl) (by kernel_rfl) (by kernel_rfl) rfl
          (fun i v _ => (match i with | 0 | 3 => v = .agg (arr .i64 16 (dg 65536 X)) | 1 | 4 | 7 => v = .agg (arr .i64 16 (dg 65536 Y)) | 2 => v = .agg (arr .i64 16 (addF (dg 65536 X) (dg 65536 Y))) | 5 => v = .agg (arr .i64 16 (subF (dg 65536 X) (dg 65536 Y))) | 6 => v = .agg (arr .i64 16 (mulF (addF (dg 65536 X) (dg 65536 Y)) (subF (dg 65536 X) (dg 65536 Y)))) | 8 => v = .agg (arr .i64 16 (addF (mulF (addF (dg 65536 X) (dg 65536 Y)) (subF (dg 65536 X) (dg 65536 Y))) (dg 65536 Y))) | _ => True))
          (fun _ _ => True) (fun _ _ _ => trivial) (fun _ _ _ _ => trivial) (fun _ _ _ _ h _ => h)
          (isAl [(10, 9)]) (putOf [(10, 9)]) (fun _ => arr .i64 16 (fun _ => 0)) (fun _ => (arr .i64 16 (addF (mulF (addF (dg 65536 X) (dg 65536 Y)) (subF (dg 65536 X) (dg 65536 Y))) (dg 65536 Y)))) (fun _ => 26) (fun _ => 9)
          (vs_al rfl) (vs_inj rfl) ?_ ?_ ?_ ?_
        · refine Each.all ?_
          refine ⟨?_, ?_, ?_, ?_, ?_, ?_, ?_, ?_, ?_, (fun h => by cases h), (fun _ h => by cases h), trivial⟩
          · intro _ _ a w2 hB hF hd
            rw [if_pos (wanted_none rfl)]
            exact flow_val (fun h => by cases h) (run_load_str rfl Try.underlying26 rfl Try.size26 (hF.same 5 rfl) (hx5.below hB hx5.lt)) rfl
          · intro _ _ a w2 hB hF hd
            rw [if_pos (wanted_none rfl)]
            exact flow_val (fun h => by cases h) (run_load_str rfl Try.underlying26 rfl Try.size26 (hF.same 6 rfl) (hy5.below hB hy5.lt)) rfl
          · intro _ _ a w2 hB hF hd
            rw [if_pos (wanted_none rfl)]
            refine flow_call _ _ _ rfl Try.call25 _ (args2 (hd 0 _ rfl rfl rfl (waits_spec rfl)) (hd 1 _ rfl rfl rfl (waits_spec rfl))) (by simp) ((feAdd_any (dg 65536 X) (dg 65536 Y) X Y HFX.out HFY.out w2).mono ?_)
            rintro e w3 ⟨rfl, hb⟩; exact ⟨_, rfl, rfl, hb⟩
          · intro _ _ a w2 hB hF hd
            rw [if_pos (wanted_none rfl)]
            exact flow_val (fun h => by cases h) (run_load_str rfl Try.underlying26 rfl Try.size26 (hF.same 5 rfl) (hx5.below hB hx5.lt)) rfl
          · intro _ _ a w2 hB hF hd
            rw [if_pos (wanted_none rfl)]
            exact flow_val (fun h => by cases h) (run_load_str rfl Try.underlying26 rfl Try.size26 (hF.same 6 rfl) (hy5.below hB hy5.lt)) rfl
          · intro _ _ a w2 hB hF hd
            rw [if_pos (wanted_none rfl)]
            refine flow_call _ _ _ rfl Try.call27 _ (args2 (hd 3 _ rfl rfl rfl (waits_spec rfl)) (hd 4 _ rfl rfl rfl (waits_spec rfl))) (by simp) ((feSub_any (dg 65536 X) (dg 65536 Y) X Y HFX.out HFY.out w2).mono ?_)
            rintro e w3 ⟨rfl, hb⟩; exact ⟨_, rfl, rfl, hb⟩
          · intro _ _ a w2 hB hF hd
            rw [if_pos (wanted_none rfl)]
            refine flow_call _ _ _ rfl Try.call29 _ (args2 (hd 2 _ rfl rfl rfl (waits_spec rfl)) (hd 5 _ rfl rfl rfl (waits_spec rfl))) (by simp) ((feMul_any (addF (dg 65536 X) (dg 65536 Y)) (subF (dg 65536 X) (dg 65536 Y)) (X + Y) (X - Y) (HFX.out.addF HFY.out) (HFX.out.subF HFY.out) w2).mono ?_)
            rintro e w3 ⟨rfl, hb⟩; exact ⟨_, rfl, rfl, hb⟩
          · intro _ _ a w2 hB hF hd
            rw [if_pos (wanted_none rfl)]
            exact flow_val (fun h => by cases h) (run_load_str rfl Try.underlying26 rfl Try.size26 (hF.same 6 rfl) (hy5.below hB hy5.lt)) rfl
          · intro _ _ a w2 hB hF hd
            rw [if_pos (wanted_none rfl)]
            refine flow_call _ _ _ rfl Try.call25 _ (args2 (hd 6 _ rfl rfl rfl (waits_spec rfl)) (hd 7 _ rfl rfl rfl (waits_spec rfl))) (by simp) ((feAdd_any (mulF (addF (dg 65536 X) (dg 65536 Y)) (subF (dg 65536 X) (dg 65536 Y))) (dg 65536 Y) ((X + Y) * (X - Y)) Y ((HFX.out.addF HFY.out).mulF (HFX.out.subF HFY.out)) HFY.out w2).mono ?_)
            rintro e w3 ⟨rfl, hb⟩; exact ⟨_, rfl, rfl, hb⟩
        · refine Each.all ?_
          refine ⟨(fun h => by cases h), (fun h => by cases h), (fun h => by cases h), (fun h => by cases h), (fun h => by cases h), (fun h => by cases h), (fun h => by cases h), (fun h => by cases h), (fun h => by cases h), ?_, (fun h => by cases h), trivial⟩
          · exact fun _ => ⟨rfl, rfl, fun a w2 K h => flow_alloc rfl rfl Try.zeroValue26 (by simp) h⟩
        · refine Each.all ?_
          refine ⟨(fun _ h => by cases h), (fun _ h => by cases h), (fun _ h => by cases h), (fun _ h => by cases h), (fun _ h => by cases h), (fun _ h => by cases h), (fun _ h => by cases h), (fun _ h => by cases h), (fun _ h => by cases h), (fun _ h => by cases h), ?_, trivial⟩
          · intro p hp
            obtain rfl : 9 = p := Option.some.inj hp
            exact ⟨rfl, rfl, ⟨_, rfl⟩, waits_spec rfl, fun a w2 b K hB hF hd hx hb h => flow_put rfl rfl Try.size26 hx (hd 8 _ rfl rfl rfl (waits_spec rfl)) hb h⟩
        · intro a w6 blk hB hF hS hv hfin hdis
          obtain ⟨v9, v9l, v9u⟩ := hv 9 _ rfl rfl
          have ha := puts_each rfl rfl hF [_, _, _, _, _, _, _, _, _, _, undef] rfl ⟨hS 0 _ rfl rfl rfl, hS 1 _ rfl rfl rfl, hS 2 _ rfl rfl rfl, hS 3 _ rfl rfl rfl, hS 4 _ rfl rfl rfl, hS 5 _ rfl rfl rfl, hS 6 _ rfl rfl rfl, hS 7 _ rfl rfl rfl, hS 8 _ rfl rfl rfl, v9, trivial, trivial⟩
          have f9 := hfin 10 _ 9 rfl rfl
          simp only [puts, Act.put, List.setIfInBounds_toArray, List.set_cons_succ, List.set_cons_zero] at ha
          subst ha
          have V9 : Arr .i64 w6 (blk 9) 16 (addF (mulF (addF (dg 65536 X) (dg 65536 Y)) (subF (dg 65536 X) (dg 65536 Y))) (dg 65536 Y)) := ⟨_, f9⟩
          clear hS hv hfin hdis hF v9 f9
          have hb6 := hb5.trans (hB.mono hb5.size)
          have H76 := Lib.hid (H75.out.below hB)
          have H86 := Lib.hid (H85.out.below hB)
          obtain ⟨z, hz⟩ : ∃ z, z = blk 9 := ⟨_, rfl⟩
          rw [← hz] at V9 v9l v9u ⊢
          clear hz hx5 hy5 hb5 hB H75 H85
          go_upto_region 8 with (fail)
          refine region_flow (n := 96) (by kernel_rfl) (by kernel_rfl) (by kernel_rfl) rfl
            (fun i v w => (match i with | 0 | 3 => v = x7 | 1 | 4 | 7 => v = x8 | _ => True) ∧ (i = 2 → Rd .i64 w v 16 (dg 65536 ((X + Y) % Pr))) ∧ (i = 5 → Rd .i64 w v 16 (dg 65536 ((X - Y) % Pr))) ∧ (i = 6 → Rd .i64 w v 16 (dg 65536 (((X + Y) * (X - Y)) % Pr))) ∧ (i = 8 → Rd .i64 w v 16 (dg 65536 ((((X + Y) * (X - Y)) + Y) % Pr))) ∧ (i = 9 → Rd .i64 w v 16 (dg 65536 ((((X + Y) * (X - Y)) + Y) % Pr))))
            (fun w w' => Below w.heap.size w w') (fun _ _ h => h) (fun i v w w' h hE => ⟨h.1, fun e => Rd.below (h.2.1 e) hE, fun e => Rd.below (h.2.2.1 e) hE, fun e => Rd.below (h.2.2.2.1 e) hE, fun e => Rd.below (h.2.2.2.2.1 e) hE, fun e => Rd.below (h.2.2.2.2.2 e) hE⟩) ?_ ?_
          · refine Each.all ?_
            refine ⟨?_, ?_, ?_, ?_, ?_, ?_, ?_, ?_, ?_, ?_, trivial⟩
            · intro a w2 hB hF hd
              rw [if_pos (wanted_none rfl)]
              exact flow_move _ (.inl rfl) (by simp) ⟨(hF.same 7 rfl), fun h => absurd h (by decide), fun h => absurd h (by decide), fun h => absurd h (by decide), fun h => absurd h (by decide), fun h => absurd h (by decide)⟩
            · intro a w2 hB hF hd
              rw [if_pos (wanted_none rfl)]
              exact flow_move _ (.inl rfl) (by simp) ⟨(hF.same 8 rfl), fun h => absurd h (by decide), fun h => absurd h (by decide), fun h => absurd h (by decide), fun h => absurd h (by decide), fun h => absurd h (by decide)⟩
            · intro a w2 hB hF hd
              rw [if_pos (wanted_none rfl)]
              refine flow_call _ _ _ rfl Try.call26 _ (args2 ((hd 0 _ rfl (waits_spec rfl)).1) ((hd 1 _ rfl (waits_spec rfl)).1)) (by simp) ((fAdd_rd X Y _ _ w2 (H76.out.below hB) (H86.out.below hB)).mono ?_)
              rintro e w3 ⟨u, rfl, hr, hb⟩; exact ⟨u, rfl, ⟨trivial, fun _ => hr, fun h => absurd h (by decide), fun h => absurd h (by decide), fun h => absurd h (by decide), fun h => absurd h (by decide)⟩, hb⟩
            · intro a w2 hB hF hd
              rw [if_pos (wanted_none rfl)]
              exact flow_move _ (.inl rfl) (by simp) ⟨(hF.same 7 rfl), fun h => absurd h (by decide), fun h => absurd h (by decide), fun h => absurd h (by decide), fun h => absurd h (by decide), fun h => absurd h (by decide)⟩
            · intro a w2 hB hF hd
              rw [if_pos (wanted_none rfl)]
              exact flow_move _ (.inl rfl) (by simp) ⟨(hF.same 8 rfl), fun h => absurd h (by decide), fun h => absurd h (by decide), fun h => absurd h (by decide), fun h => absurd h (by decide), fun h => absurd h (by decide)⟩
            · intro a w2 hB hF hd
              rw [if_pos (wanted_none rfl)]
              refine flow_call _ _ _ rfl Try.call28 _ (args2 ((hd 3 _ rfl (waits_spec rfl)).1) ((hd 4 _ rfl (waits_spec rfl)).1)) (by simp) ((fSub_rd X Y _ _ w2 (H76.out.below hB) (H86.out.below hB)).mono ?_)
              rintro e w3 ⟨u, rfl, hr, hb⟩; exact ⟨u, rfl, ⟨trivial, fun h => absurd h (by decide), fun _ => hr, fun h => absurd h (by decide), fun h => absurd h (by decide), fun h => absurd h (by decide)⟩, hb⟩
            · intro a w2 hB hF hd
              rw [if_pos (wanted_none rfl)]
              refine flow_call _ _ _ rfl Try.call30 _ (args2 rfl rfl) (by simp) ((fMul_rd (X + Y) (X - Y) _ _ w2 ((hd 2 _ rfl (waits_spec rfl)).2.1 rfl) ((hd 5 _ rfl (waits_spec rfl)).2.2.1 rfl)).mono ?_)
              rintro e w3 ⟨u, rfl, hr, hb⟩; exact ⟨u, rfl, ⟨trivial, fun h => absurd h (by decide), fun h => absurd h (by decide), fun _ => hr, fun h => absurd h (by decide), fun h => absurd h (by decide)⟩, hb⟩
            · intro a w2 hB hF hd
              rw [if_pos (wanted_none rfl)]
              exact flow_move _ (.inl rfl) (by simp) ⟨(hF.same 8 rfl), fun h => absurd h (by decide), fun h => absurd h (by decide), fun h => absurd h (by decide), fun h => absurd h (by decide), fun h => absurd h (by decide)⟩
            · intro a w2 hB hF hd
              rw [if_pos (wanted_none rfl)]
              refine flow_call _ _ _ rfl Try.call26 _ (args2 rfl ((hd 7 _ rfl (waits_spec rfl)).1)) (by simp) ((fAdd_rd ((X + Y) * (X - Y)) Y _ _ w2 ((hd 6 _ rfl (waits_spec rfl)).2.2.2.1 rfl) (H86.out.below hB)).mono ?_)
              rintro e w3 ⟨u, rfl, hr, hb⟩; exact ⟨u, rfl, ⟨trivial, fun h => absurd h (by decide), fun h => absurd h (by decide), fun h => absurd h (by decide), fun _ => hr, fun h => absurd h (by decide)⟩, hb⟩
            · intro a w2 hB hF hd
              rw [if_pos (wanted_none rfl)]
              exact flow_move _ (.inr rfl) (by simp) ⟨trivial, fun h => absurd h (by decide), fun h => absurd h (by decide), fun h => absurd h (by decide), fun h => absurd h (by decide), fun _ => ((hd 8 _ rfl (waits_spec rfl)).2.2.2.2.1 rfl)⟩
          · intro a w7 hB hF hS
            obtain ⟨x73, hx73⟩ : ∃ x, x = a.tmps.getD 73 undef := ⟨_, rfl⟩
            have P73 : Rd .i64 w7 x73 16 (dg 65536 ((X + Y) % Pr)) := by rw [hx73]; exact (hS 2 _ rfl).2.1 rfl
            obtain ⟨x76, hx76⟩ : ∃ x, x = a.tmps.getD 76 undef := ⟨_, rfl⟩
            have P76 : Rd .i64 w7 x76 16 (dg 65536 ((X - Y) % Pr)) := by rw [hx76]; exact (hS 5 _ rfl).2.2.1 rfl
            obtain ⟨x77, hx77⟩ : ∃ x, x = a.tmps.getD 77 undef := ⟨_, rfl⟩
            have P77 : Rd .i64 w7 x77 16 (dg 65536 (((X + Y) * (X - Y)) % Pr)) := by rw [hx77]; exact (hS 6 _ rfl).2.2.2.1 rfl
            obtain ⟨x79, hx79⟩ : ∃ x, x = a.tmps.getD 79 undef := ⟨_, rfl⟩
            have P79 : Rd .i64 w7 x79 16 (dg 65536 ((((X + Y) * (X - Y)) + Y) % Pr)) := by rw [hx79]; exact (hS 8 _ rfl).2.2.2.2.1 rfl
            obtain ⟨x10, hx10⟩ : ∃ x, x = a.tmps.getD 10 undef := ⟨_, rfl⟩
            have P10 : Rd .i64 w7 x10 16 (dg 65536 ((((X + Y) * (X - Y)) + Y) % Pr)) := by rw [hx10]; exact (hS 9 _ rfl).2.2.2.2.2 rfl
            have ha := puts_each rfl rfl hF [_, _, x73, _, _, x76, x77, _, x79, x10] rfl ⟨(hS 0 _ rfl).1, (hS 1 _ rfl).1, hx73.symm, (hS 3 _ rfl).1, (hS 4 _ rfl).1, hx76.symm, hx77.symm, (hS 7 _ rfl).1, hx79.symm, hx10.symm, trivial⟩
            simp only [puts, Act.put, List.setIfInBounds_toArray, List.set_cons_succ, List.set_cons_zero] at ha
            subst ha
            clear hx73 hx76 hx77 hx79 hx10
            clear hS hF
            have hz7 := V9.below hB V9.lt
            have hb7 := hb6.trans (hB.mono hb6.size)
            have H107 := Lib.hid P10
            clear V9 hb6 hB H76 H86 P10 P73 P76 P77 P79
            go_upto_region 9 with (fail)
            refine region_flow (n := 96) (by kernel_rfl) (by kernel_rfl) (by kernel_rfl) rfl
              (fun i v w => (match i with | 0 | 6 | 7 => v = .agg (arr .i64 16 (addF (mulF (addF (dg 65536 X) (dg 65536 Y)) (subF (dg 65536 X) (dg 65536 Y))) (dg 65536 Y))) | 1 | 3 => v = .agg (arr .u8 32 (dg 256 (((X + Y) * (X - Y) + Y) % Pr))) | 2 | 10 | 11 => v = x10 | 4 | 5 | 14 | 15 | 16 => v = .bool true | 8 => v = .agg (arr .i64 16 (mulF (addF (mulF (addF (dg 65536 X) (dg 65536 Y)) (subF (dg 65536 X) (dg 65536 Y))) (dg 65536 Y)) (addF (mulF (addF (dg 65536 X) (dg 65536 Y)) (subF (dg 65536 X) (dg 65536 Y))) (dg 65536 Y)))) | 9 | 13 => v = .agg (arr .u8 32 (dg 256 ((((X + Y) * (X - Y) + Y) * ((X + Y) * (X - Y) + Y)) % Pr))) | _ => True) ∧ (i = 12 → Rd .i64 w v 16 (dg 65536 ((((X + Y) * (X - Y) + Y) * ((X + Y) * (X - Y) + Y)) % Pr))))
              (fun w w' => Below w.heap.size w w') (fun _ _ h => h) (fun i v w w' h hE => ⟨h.1, fun e => Rd.below (h.2 e) hE⟩) ?_ ?_
            · refine Each.all ?_
              refine ⟨?_, ?_, ?_, ?_, ?_, ?_, ?_, ?_, ?_, ?_, ?_, ?_, ?_, ?_, ?_, ?_, ?_, trivial⟩
              · intro a w2 hB hF hd
                rw [if_pos (wanted_none rfl)]
                exact flow_val (fun h => by cases h) (run_load_str rfl Try.underlying26 rfl Try.size26 (hF.same 9 rfl) (hz7.below hB hz7.lt)) ⟨rfl, fun h => absurd h (by decide)⟩
              · intro a w2 hB hF hd
                rw [if_pos (wanted_none rfl)]
                refine flow_call _ _ _ rfl Try.call18 _ (args1 ((hd 0 _ rfl (waits_spec rfl)).1)) (by simp) ((feBytes_any (addF (mulF (addF (dg 65536 X) (dg 65536 Y)) (subF (dg 65536 X) (dg 65536 Y))) (dg 65536 Y)) ((X + Y) * (X - Y) + Y) (((HFX.out.addF HFY.out).mulF (HFX.out.subF HFY.out)).addF HFY.out) w2).mono ?_)
                rintro e w3 ⟨rfl, hb⟩; exact ⟨_, rfl, ⟨rfl, fun h => absurd h (by decide)⟩, hb⟩
              · intro a w2 hB hF hd
                rw [if_pos (wanted_none rfl)]
                exact flow_move _ (.inl rfl) (by simp) ⟨(hF.same 10 rfl), fun h => absurd h (by decide)⟩
              · intro a w2 hB hF hd
                rw [if_pos (wanted_none rfl)]
                refine flow_call _ _ _ rfl Try.call19 _ (args1 ((hd 2 _ rfl (waits_spec rfl)).1)) (by simp) ((rBytes_any _ (((X + Y) * (X - Y) + Y) % Pr) 16 (by decide) w2 (H107.out.below hB)).mono ?_)
                rintro e w3 ⟨rfl, hb⟩; exact ⟨_, rfl, ⟨rfl, fun h => absurd h (by decide)⟩, hb⟩
              · intro a w2 hB hF hd
                rw [if_pos (wanted_none rfl)]
                exact flow_val (fun h => by cases h) (run_eql_arr true rfl ((hd 1 _ rfl (waits_spec rfl)).1) ((hd 3 _ rfl (waits_spec rfl)).1) Try.underlying22 (by kernel_rfl) (by kernel_rfl) (by kernel_rfl) (by kernel_rfl) (by kernel_rfl) sameB_self) ⟨rfl, fun h => absurd h (by decide)⟩
              · intro a w2 hB hF hd
                rw [if_pos (wanted_none rfl)]
                exact flow_move _ (.inl rfl) (by simp) ⟨((hd 4 _ rfl (waits_spec rfl)).1), fun h => absurd h (by decide)⟩
              · intro a w2 hB hF hd
                refine flow_wanted (wanted_yes rfl rfl ((hd 5 _ rfl (waits_spec rfl)).1) rfl) ?_
                exact flow_val (fun h => by cases h) (run_load_str rfl Try.underlying26 rfl Try.size26 (hF.same 9 rfl) (hz7.below hB hz7.lt)) ⟨rfl, fun h => absurd h (by decide)⟩
              · intro a w2 hB hF hd
                refine flow_wanted (wanted_yes rfl rfl ((hd 5 _ rfl (waits_spec rfl)).1) rfl) ?_
                exact flow_val (fun h => by cases h) (run_load_str rfl Try.underlying26 rfl Try.size26 (hF.same 9 rfl) (hz7.below hB hz7.lt)) ⟨rfl, fun h => absurd h (by decide)⟩
              · intro a w2 hB hF hd
                refine flow_wanted (wanted_yes rfl rfl ((hd 5 _ rfl (waits_spec rfl)).1) rfl) ?_
                refine flow_call _ _ _ rfl Try.call29 _ (args2 ((hd 6 _ rfl (waits_spec rfl)).1) ((hd 7 _ rfl (waits_spec rfl)).1)) (by simp) ((feMul_any (addF (mulF (addF (dg 65536 X) (dg 65536 Y)) (subF (dg 65536 X) (dg 65536 Y))) (dg 65536 Y)) (addF (mulF (addF (dg 65536 X) (dg 65536 Y)) (subF (dg 65536 X) (dg 65536 Y))) (dg 65536 Y)) ((X + Y) * (X - Y) + Y) ((X + Y) * (X - Y) + Y) (((HFX.out.addF HFY.out).mulF (HFX.out.subF HFY.out)).addF HFY.out) (((HFX.out.addF HFY.out).mulF (HFX.out.subF HFY.out)).addF HFY.out) w2).mono ?_)
                rintro e w3 ⟨rfl, hb⟩; exact ⟨_, rfl, ⟨rfl, fun h => absurd h (by decide)⟩, hb⟩
              · intro a w2 hB hF hd
                refine flow_wanted (wanted_yes rfl rfl ((hd 5 _ rfl (waits_spec rfl)).1) rfl) ?_
                refine flow_call _ _ _ rfl Try.call18 _ (args1 ((hd 8 _ rfl (waits_spec rfl)).1)) (by simp) ((feBytes_any (mulF (addF (mulF (addF (dg 65536 X) (dg 65536 Y)) (subF (dg 65536 X) (dg 65536 Y))) (dg 65536 Y)) (addF (mulF (addF (dg 65536 X) (dg 65536 Y)) (subF (dg 65536 X) (dg 65536 Y))) (dg 65536 Y))) (((X + Y) * (X - Y) + Y) * ((X + Y) * (X - Y) + Y)) ((((HFX.out.addF HFY.out).mulF (HFX.out.subF HFY.out)).addF HFY.out).mulF (((HFX.out.addF HFY.out).mulF (HFX.out.subF HFY.out)).addF HFY.out)) w2).mono ?_)
                rintro e w3 ⟨rfl, hb⟩; exact ⟨_, rfl, ⟨rfl, fun h => absurd h (by decide)⟩, hb⟩
              · intro a w2 hB hF hd
                refine flow_wanted (wanted_yes rfl rfl ((hd 5 _ rfl (waits_spec rfl)).1) rfl) ?_
                exact flow_move _ (.inl rfl) (by simp) ⟨(hF.same 10 rfl), fun h => absurd h (by decide)⟩
              · intro a w2 hB hF hd
                refine flow_wanted (wanted_yes rfl rfl ((hd 5 _ rfl (waits_spec rfl)).1) rfl) ?_
                exact flow_move _ (.inl rfl) (by simp) ⟨(hF.same 10 rfl), fun h => absurd h (by decide)⟩
              · intro a w2 hB hF hd
                refine flow_wanted (wanted_yes rfl rfl ((hd 5 _ rfl (waits_spec rfl)).1) rfl) ?_
                refine flow_call _ _ _ rfl Try.call30 _ (args2 ((hd 10 _ rfl (waits_spec rfl)).1) ((hd 11 _ rfl (waits_spec rfl)).1)) (by simp) ((fMul_rd ((X + Y) * (X - Y) + Y) ((X + Y) * (X - Y) + Y) _ _ w2 (H107.out.below hB) (H107.out.below hB)).mono ?_)
                rintro e w3 ⟨u, rfl, hr, hb⟩; exact ⟨u, rfl, ⟨trivial, fun _ => hr⟩, hb⟩
              · intro a w2 hB hF hd
                refine flow_wanted (wanted_yes rfl rfl ((hd 5 _ rfl (waits_spec rfl)).1) rfl) ?_
                refine flow_call _ _ _ rfl Try.call19 _ (args1 rfl) (by simp) ((rBytes_any _ ((((X + Y) * (X - Y) + Y) * ((X + Y) * (X - Y) + Y)) % Pr) 16 (by decide) w2 ((hd 12 _ rfl (waits_spec rfl)).2 rfl)).mono ?_)
                rintro e w3 ⟨rfl, hb⟩; exact ⟨_, rfl, ⟨rfl, fun h => absurd h (by decide)⟩, hb⟩
              · intro a w2 hB hF hd
                refine flow_wanted (wanted_yes rfl rfl ((hd 5 _ rfl (waits_spec rfl)).1) rfl) ?_
                exact flow_val (fun h => by cases h) (run_eql_arr true rfl ((hd 9 _ rfl (waits_spec rfl)).1) ((hd 13 _ rfl (waits_spec rfl)).1) Try.underlying22 (by kernel_rfl) (by kernel_rfl) (by kernel_rfl) (by kernel_rfl) (by kernel_rfl) sameB_self) ⟨rfl, fun h => absurd h (by decide)⟩
              · intro a w2 hB hF hd
                rw [if_pos (wanted_none rfl)]
                exact flow_val (fun h => by cases h) (run_pick rfl ((hd 5 _ rfl (waits_spec rfl)).1)) ⟨(((hd 14 _ rfl (waits_spec rfl)).1)), fun h => absurd h (by decide)⟩
              · intro a w2 hB hF hd
                rw [if_pos (wanted_none rfl)]
                exact flow_move _ (.inr rfl) (by simp) ⟨((hd 15 _ rfl (waits_spec rfl)).1), fun h => absurd h (by decide)⟩
            · intro a w8 hB hF hS
              obtain ⟨x92, hx92⟩ : ∃ x, x = a.tmps.getD 92 undef := ⟨_, rfl⟩
              have ha := puts_each rfl rfl hF [_, _, _, _, _, _, _, _, _, _, _, _, x92, _, _, _, _] rfl ⟨(hS 0 _ rfl).1, (hS 1 _ rfl).1, (hS 2 _ rfl).1, (hS 3 _ rfl).1, (hS 4 _ rfl).1, (hS 5 _ rfl).1, (hS 6 _ rfl).1, (hS 7 _ rfl).1, (hS 8 _ rfl).1, (hS 9 _ rfl).1, (hS 10 _ rfl).1, (hS 11 _ rfl).1, hx92.symm, (hS 13 _ rfl).1, (hS 14 _ rfl).1, (hS 15 _ rfl).1, (hS 16 _ rfl).1, trivial⟩
              simp only [puts, Act.put, List.setIfInBounds_toArray, List.set_cons_succ, List.set_cons_zero] at ha
              subst ha
              clear hx92
              clear hS hF
              have hbf := hb7.trans (hB.mono hb7.size)
              clear hz7 hb7 hB
              go_wp2
              go_ret
              exact ⟨rfl, hbf⟩
end Go.Proofs.Ytjmagojmfiabfaa
