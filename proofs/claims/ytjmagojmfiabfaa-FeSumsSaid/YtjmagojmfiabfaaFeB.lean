/-
  The law FeBytes answers true.
-/
import Derived.Test.YtjmagojmfiabfaaFeAw
namespace Go.Proofs.Ytjmagojmfiabfaa
open Go.RowKit Go.Bas Go.ChangeShapes
attribute [local go_sem ↓] Go.wp_at_zero Go.wp_at_succ

theorem smallN_mod (n : Int) : smallN n % Pr = smallN n := by
  have hp : (65536 : Int) < Pr := by decide
  unfold smallN
  split
  · exact Int.emod_eq_of_lt (by omega) (by omega)
  · rfl
theorem smallN_bound (n : Int) : 0 ≤ smallN n ∧ smallN n < 65536 := by unfold smallN; split <;> omega
theorem odd_digit (X : Int) : Int.tmod (dg 65536 X 0) 2 = X % 2 := by
  have := dg_bound (by decide : (0 : Int) < 65536) X 0
  rw [Int.tmod_eq_emod_of_nonneg this.1, dg_zero]; omega
theorem eq_same (A B : Int) : (eqP A B == eqN (A % Pr) (B % Pr)) = true := by unfold eqP eqN; exact beq_self_eq_true _
theorem build_el' {a : Act} (w : World) : (Instr.build 26 ((#[] : Array (Nat × Operand)).map fun (i, x) => (i, a.eval x))).run Try.prog w = .ok (.agg (arr .i64 16 (fun _ => 0))) w := build_el w

set_option maxRecDepth 100000 in
set_option maxHeartbeats 12800000 in
theorem feBytes_law (w : World) (fb : Nat → Int) (hb : ∀ i, i < 32 → (Lit.int .u8 (fb i)).wf = true) (fc : Nat → Int) (hc : ∀ i, i < 32 → (Lit.int .u8 (fc i)).wf = true) (n : Int) (hn : (Lit.int .i64 n).wf = true) :
    Calls Try.prog 3 #[.agg (arr .u8 32 fb), .agg (arr .u8 32 fc), .int .i64 n] w fun e w' => e = .returned (.bool true) ∧ Below w.heap.size w w' := by
  obtain ⟨B, eB, hB⟩ := num32 fb hb
  obtain ⟨C, eC, hC⟩ := num32 fc hc
  rw [eB, eC]
  clear hB hC hb hc eB eC hn
  go_enter Try.func3, Try.ntmps3
  have hB1 : Arr .u8 ((w.alloc (.cells (arr .u8 32 (dg 256 B)) 22)).alloc (.cells (arr .u8 32 (dg 256 C)) 22)) w.heap.size 32 (dg 256 B) := Arr.alloc (Arr.newAt rfl rfl) _
  have hC1 : Arr .u8 ((w.alloc (.cells (arr .u8 32 (dg 256 B)) 22)).alloc (.cells (arr .u8 32 (dg 256 C)) 22)) (w.heap.size + 1) 32 (dg 256 C) := Arr.newAt (by first | omega | (simp <;> omega)) rfl
  have hb1 : Below w.heap.size w ((w.alloc (.cells (arr .u8 32 (dg 256 B)) 22)).alloc (.cells (arr .u8 32 (dg 256 C)) 22)) := ((Below.refl _ _).alloc (Nat.le_refl _) _).alloc (by simp) _
  go_wp2_with fail
  refine (awake_any _).mono ?_
  rintro e w2 ⟨rfl, hb2⟩
  have hBb := hB1.kept hb2
  have hC := hC1.kept hb2
  have hbel := hb1.trans (hb2.mono hb1.size)
  clear hB1 hC1 hb1 hb2
  go_wp2
  refine region_vars (n := 68) (by kernel_rfl) (by kernel_rfl) (by kernel_rfl) rfl
    (fun i v _ => (match i with | 0 => v = .agg (arr .u8 32 (dg 256 B)) | 1 => v = .agg (arr .i64 16 (dg 65536 (B % 2 ^ 255))) | 2 => v = .agg (arr .u8 32 (dg 256 C)) | 3 => v = .agg (arr .i64 16 (dg 65536 (C % 2 ^ 255))) | _ => True))
    (fun _ _ => True) (fun _ _ _ => trivial) (fun _ _ _ _ => trivial) (fun _ _ _ _ h _ => h)
    (isAl [(6, 4), (7, 5)]) (putOf [(6, 4), (7, 5)]) (fun _ => arr .i64 16 (fun _ => 0)) (fun i => match i with | 4 => (arr .i64 16 (dg 65536 (B % 2 ^ 255))) | 5 => (arr .i64 16 (dg 65536 (C % 2 ^ 255))) | _ => #[]) (fun _ => 26) (fun i => match i with | 4 => 7 | 5 => 8 | _ => 0)
    (vs_al rfl) (vs_inj rfl) ?_ ?_ ?_ ?_
  · refine Each.all ?_
    refine ⟨?_, ?_, ?_, ?_, (fun h => by cases h), (fun h => by cases h), (fun _ h => by cases h), (fun _ h => by cases h), trivial⟩
    · intro _ _ a w2 hB hF hd
      rw [if_pos (wanted_none rfl)]
      exact flow_val (fun h => by cases h) (run_load_str rfl Try.underlying22 rfl Try.size22 (hF.same 3 rfl) (hBb.below hB hBb.lt)) rfl
    · intro _ _ a w2 hB hF hd
      rw [if_pos (wanted_none rfl)]
      refine flow_call _ _ _ rfl Try.call16 _ (args1 (hd 0 _ rfl rfl rfl (waits_spec rfl))) (by simp) ((feOf_any B w2).mono ?_)
      rintro e w3 ⟨rfl, hb⟩; exact ⟨_, rfl, rfl, hb⟩
    · intro _ _ a w2 hB hF hd
      rw [if_pos (wanted_none rfl)]
      exact flow_val (fun h => by cases h) (run_load_str rfl Try.underlying22 rfl Try.size22 (hF.same 4 rfl) (hC.below hB hC.lt)) rfl
    · intro _ _ a w2 hB hF hd
      rw [if_pos (wanted_none rfl)]
      refine flow_call _ _ _ rfl Try.call16 _ (args1 (hd 2 _ rfl rfl rfl (waits_spec rfl))) (by simp) ((feOf_any C w2).mono ?_)
      rintro e w3 ⟨rfl, hb⟩; exact ⟨_, rfl, rfl, hb⟩
  · refine Each.all ?_
    refine ⟨(fun h => by cases h), (fun h => by cases h), (fun h => by cases h), (fun h => by cases h), ?_, ?_, (fun h => by cases h), (fun h => by cases h), trivial⟩
    · exact fun _ => ⟨rfl, rfl, fun a w2 K h => flow_alloc rfl rfl Try.zeroValue26 (by simp) h⟩
    · exact fun _ => ⟨rfl, rfl, fun a w2 K h => flow_alloc rfl rfl Try.zeroValue26 (by simp) h⟩
  · refine Each.all ?_
    refine ⟨(fun _ h => by cases h), (fun _ h => by cases h), (fun _ h => by cases h), (fun _ h => by cases h), (fun _ h => by cases h), (fun _ h => by cases h), ?_, ?_, trivial⟩
    · intro p hp
      obtain rfl : 4 = p := Option.some.inj hp
      exact ⟨rfl, rfl, ⟨_, rfl⟩, waits_spec rfl, fun a w2 b K hB hF hd hx hb h => flow_put rfl rfl Try.size26 hx (hd 1 _ rfl rfl rfl (waits_spec rfl)) hb h⟩
    · intro p hp
      obtain rfl : 5 = p := Option.some.inj hp
      exact ⟨rfl, rfl, ⟨_, rfl⟩, waits_spec rfl, fun a w2 b K hB hF hd hx hb h => flow_put rfl rfl Try.size26 hx (hd 3 _ rfl rfl rfl (waits_spec rfl)) hb h⟩
  · intro a w3 blk hB hF hS hv hfin hdis
    obtain ⟨v4, v4l, v4u⟩ := hv 4 _ rfl rfl
    obtain ⟨v5, v5l, v5u⟩ := hv 5 _ rfl rfl
    have ha := puts_each rfl rfl hF [_, _, _, _, _, _, undef, undef] rfl ⟨hS 0 _ rfl rfl rfl, hS 1 _ rfl rfl rfl, hS 2 _ rfl rfl rfl, hS 3 _ rfl rfl rfl, v4, v5, trivial, trivial, trivial⟩
    have f4 := hfin 6 _ 4 rfl rfl
    have f5 := hfin 7 _ 5 rfl rfl
    have d4_5 := hdis 4 5 _ _ rfl rfl rfl rfl (by decide)
    simp only [puts, Act.put, List.setIfInBounds_toArray, List.set_cons_succ, List.set_cons_zero] at ha
    subst ha
    have V4 : Arr .i64 w3 (blk 4) 16 (dg 65536 (B % 2 ^ 255)) := ⟨_, f4⟩
    have V5 : Arr .i64 w3 (blk 5) 16 (dg 65536 (C % 2 ^ 255)) := ⟨_, f5⟩
    clear hS hv hfin hdis hF v4 v5 f4 f5
    have hBb3 := hBb.below hB hBb.lt
    have hC3 := hC.below hB hC.lt
    have hbel3 := hbel.trans (hB.mono hbel.size)
    obtain ⟨x, hx⟩ : ∃ x, x = blk 4 := ⟨_, rfl⟩
    obtain ⟨y, hy⟩ : ∃ y, y = blk 5 := ⟨_, rfl⟩
    rw [← hx] at V4 d4_5 v4l v4u ⊢
    rw [← hy] at V5 d4_5 v5l v5u ⊢
    clear hx hy hBb hC hbel hB d4_5
    go_wp2
    refine region_flow (n := 68) (by kernel_rfl) (by kernel_rfl) (by kernel_rfl) rfl
      (fun i v w => (match i with | 0 => v = .agg (arr .u8 32 (dg 256 B)) | 2 => v = .agg (arr .u8 32 (dg 256 C)) | _ => True) ∧ (i = 1 → Rd .i64 w v 16 (dg 65536 (B % 2 ^ 255 % Pr))) ∧ (i = 3 → Rd .i64 w v 16 (dg 65536 (C % 2 ^ 255 % Pr))) ∧ (i = 4 → Rd .i64 w v 16 (dg 65536 (B % 2 ^ 255 % Pr))) ∧ (i = 5 → Rd .i64 w v 16 (dg 65536 (C % 2 ^ 255 % Pr))))
      (fun w w' => Below w.heap.size w w') (fun _ _ h => h) (fun i v w w' h hE => ⟨h.1, fun e => Rd.below (h.2.1 e) hE, fun e => Rd.below (h.2.2.1 e) hE, fun e => Rd.below (h.2.2.2.1 e) hE, fun e => Rd.below (h.2.2.2.2 e) hE⟩) ?_ ?_
    · refine Each.all ?_
      refine ⟨?_, ?_, ?_, ?_, ?_, ?_, trivial⟩
      · intro a w2 hB hF hd
        rw [if_pos (wanted_none rfl)]
        exact flow_val (fun h => by cases h) (run_load_str rfl Try.underlying22 rfl Try.size22 (hF.same 3 rfl) (hBb3.below hB hBb3.lt)) ⟨rfl, fun h => absurd h (by decide), fun h => absurd h (by decide), fun h => absurd h (by decide), fun h => absurd h (by decide)⟩
      · intro a w2 hB hF hd
        rw [if_pos (wanted_none rfl)]
        refine flow_call _ _ _ rfl Try.call17 _ (args1 ((hd 0 _ rfl (waits_spec rfl)).1)) (by simp) ((fOf_rd B w2).mono ?_)
        rintro e w3 ⟨u, rfl, hr, hb⟩; exact ⟨u, rfl, ⟨trivial, fun _ => hr, fun h => absurd h (by decide), fun h => absurd h (by decide), fun h => absurd h (by decide)⟩, hb⟩
      · intro a w2 hB hF hd
        rw [if_pos (wanted_none rfl)]
        exact flow_val (fun h => by cases h) (run_load_str rfl Try.underlying22 rfl Try.size22 (hF.same 4 rfl) (hC3.below hB hC3.lt)) ⟨rfl, fun h => absurd h (by decide), fun h => absurd h (by decide), fun h => absurd h (by decide), fun h => absurd h (by decide)⟩
      · intro a w2 hB hF hd
        rw [if_pos (wanted_none rfl)]
        refine flow_call _ _ _ rfl Try.call17 _ (args1 ((hd 2 _ rfl (waits_spec rfl)).1)) (by simp) ((fOf_rd C w2).mono ?_)
        rintro e w3 ⟨u, rfl, hr, hb⟩; exact ⟨u, rfl, ⟨trivial, fun h => absurd h (by decide), fun _ => hr, fun h => absurd h (by decide), fun h => absurd h (by decide)⟩, hb⟩
      · intro a w2 hB hF hd
        rw [if_pos (wanted_none rfl)]
        exact flow_move _ (.inr rfl) (by simp) ⟨trivial, fun h => absurd h (by decide), fun h => absurd h (by decide), fun _ => ((hd 1 _ rfl (waits_spec rfl)).2.1 rfl), fun h => absurd h (by decide)⟩
      · intro a w2 hB hF hd
        rw [if_pos (wanted_none rfl)]
        exact flow_move _ (.inr rfl) (by simp) ⟨trivial, fun h => absurd h (by decide), fun h => absurd h (by decide), fun h => absurd h (by decide), fun _ => ((hd 3 _ rfl (waits_spec rfl)).2.2.1 rfl)⟩
    · intro a w4 hB hF hS
      obtain ⟨x19, hx19⟩ : ∃ x, x = a.tmps.getD 19 undef := ⟨_, rfl⟩
      have P19 : Rd .i64 w4 x19 16 (dg 65536 (B % 2 ^ 255 % Pr)) := by rw [hx19]; exact (hS 1 _ rfl).2.1 rfl
      obtain ⟨x21, hx21⟩ : ∃ x, x = a.tmps.getD 21 undef := ⟨_, rfl⟩
      have P21 : Rd .i64 w4 x21 16 (dg 65536 (C % 2 ^ 255 % Pr)) := by rw [hx21]; exact (hS 3 _ rfl).2.2.1 rfl
      obtain ⟨x9, hx9⟩ : ∃ x, x = a.tmps.getD 9 undef := ⟨_, rfl⟩
      have P9 : Rd .i64 w4 x9 16 (dg 65536 (B % 2 ^ 255 % Pr)) := by rw [hx9]; exact (hS 4 _ rfl).2.2.2.1 rfl
      obtain ⟨x10, hx10⟩ : ∃ x, x = a.tmps.getD 10 undef := ⟨_, rfl⟩
      have P10 : Rd .i64 w4 x10 16 (dg 65536 (C % 2 ^ 255 % Pr)) := by rw [hx10]; exact (hS 5 _ rfl).2.2.2.2 rfl
      have ha := puts_each rfl rfl hF [_, x19, _, x21, x9, x10] rfl ⟨(hS 0 _ rfl).1, hx19.symm, (hS 2 _ rfl).1, hx21.symm, hx9.symm, hx10.symm, trivial⟩
      simp only [puts, Act.put, List.setIfInBounds_toArray, List.set_cons_succ, List.set_cons_zero] at ha
      subst ha
      clear hx19 hx21 hx9 hx10
      clear hS hF
      have hx := V4.below hB V4.lt
      have hy := V5.below hB V5.lt
      have hb4 := hbel3.trans (hB.mono hbel3.size)
      have P9' := P9
      obtain ⟨a9, c9, rfl, l9, m9, z9, h9⟩ := P9'
      obtain ⟨b9, o9, rfl, s9, e9⟩ := h9 (by decide)
      have E9 := Lib.hid (e9 0 (by decide))
      have H9 := Lib.hid P9
      have H10 := Lib.hid P10
      clear z9 h9 e9 P9 P10 P19 P21 V4 V5 hbel3 hB hBb3 hC3 v4l v4u v5l v5u
      obtain ⟨X, hXe⟩ : ∃ X, X = B % 2 ^ 255 := ⟨_, rfl⟩
      obtain ⟨Y, hYe⟩ : ∃ Y, Y = C % 2 ^ 255 := ⟨_, rfl⟩
      have HFX := Lib.hid (feOf_fe B)
      have HFY := Lib.hid (feOf_fe C)
      rw [← hXe] at HFX hx H9 E9 ⊢
      rw [← hYe] at HFY hy H10 ⊢
      clear hXe hYe
      by_cases h0 : 0 ≤ n
      · by_cases h1 : n < 65536
        · have hs : smallN n = n := if_pos ⟨h0, h1⟩
          go_upto_region 8 with (fail)
          refine region_flow (n := 68) (by kernel_rfl) (by kernel_rfl) (by kernel_rfl) rfl
            (fun i v w => (match i with | 0 | 6 | 16 => v = .agg (arr .i64 16 (dg 65536 X)) | 1 | 3 => v = .agg (arr .u8 32 (dg 256 (X % Pr))) | 2 | 8 | 19 => v = .slice (some ⟨b9, o9, none⟩) 16 c9 | 4 | 5 | 13 | 14 | 15 | 22 | 23 | 24 | 31 | 32 | 33 | 37 | 38 | 39 => v = .bool true | 7 => v = .bool ((X % Pr % 2 == 1)) | 9 => v = .pointer (some ⟨b9, o9, none⟩) | 10 => v = .int .i64 (dg 65536 (X % Pr) 0) | 11 => v = .int .i64 (X % Pr % 2) | 12 => v = .bool ((X % Pr % 2) == (1)) | 17 => v = .agg (arr .i64 16 (dg 65536 Y)) | 18 => v = .bool ((eqP X Y)) | 20 => v = x10 | 21 => v = .bool ((eqN (X % Pr) (Y % Pr))) | 25 | 28 => v = .int .i64 (n) | 26 => v = .agg (arr .i64 16 (smallF n)) | 27 => v = .agg (arr .u8 32 (dg 256 ((smallN n) % Pr))) | 30 => v = .agg (arr .u8 32 (dg 256 n)) | 34 => v = .agg (arr .i64 16 (fun _ => 0)) | 35 => v = .agg (arr .u8 32 (dg 256 (0 % Pr))) | 36 => v = .agg (arr .u8 32 (dg 256 0)) | _ => True) ∧ (i = 29 → Rd .i64 w v 16 (dg 65536 n)))
            (fun w w' => Below w.heap.size w w') (fun _ _ h => h) (fun i v w w' h hE => ⟨h.1, fun e => Rd.below (h.2 e) hE⟩) ?_ ?_
          · refine Each.all ?_
            refine ⟨?_, ?_, ?_, ?_, ?_, ?_, ?_, ?_, ?_, ?_, ?_, ?_, ?_, ?_, ?_, ?_, ?_, ?_, ?_, ?_, ?_, ?_, ?_, ?_, ?_, ?_, ?_, ?_, ?_, ?_, ?_, ?_, ?_, ?_, ?_, ?_, ?_, ?_, ?_, ?_, trivial⟩
            · intro a w2 hB hF hd
              rw [if_pos (wanted_none rfl)]
              exact flow_val (fun h => by cases h) (run_load_str rfl Try.underlying26 rfl Try.size26 (hF.same 7 rfl) (hx.below hB hx.lt)) ⟨rfl, fun h => absurd h (by decide)⟩
            · intro a w2 hB hF hd
              rw [if_pos (wanted_none rfl)]
              refine flow_call _ _ _ rfl Try.call18 _ (args1 ((hd 0 _ rfl (waits_spec rfl)).1)) (by simp) ((feBytes_any (dg 65536 X) (X) HFX.out w2).mono ?_)
              rintro e w3 ⟨rfl, hb⟩; exact ⟨_, rfl, ⟨rfl, fun h => absurd h (by decide)⟩, hb⟩
            · intro a w2 hB hF hd
              rw [if_pos (wanted_none rfl)]
              exact flow_move _ (.inl rfl) (by simp) ⟨(hF.same 9 rfl), fun h => absurd h (by decide)⟩
            · intro a w2 hB hF hd
              rw [if_pos (wanted_none rfl)]
              refine flow_call _ _ _ rfl Try.call19 _ (args1 ((hd 2 _ rfl (waits_spec rfl)).1)) (by simp) ((rBytes_any _ (X % Pr) 16 (by decide) w2 (H9.out.below hB)).mono ?_)
              rintro e w3 ⟨rfl, hb⟩; exact ⟨_, rfl, ⟨rfl, fun h => absurd h (by decide)⟩, hb⟩
            · intro a w2 hB hF hd
              rw [if_pos (wanted_none rfl)]
              exact flow_val (fun h => by cases h) (run_eql_arr true rfl ((hd 1 _ rfl (waits_spec rfl)).1) ((hd 3 _ rfl (waits_spec rfl)).1) Try.underlying22 (by kernel_rfl) (by kernel_rfl) (by kernel_rfl) (by kernel_rfl) (by kernel_rfl) sameB_self) ⟨rfl, fun h => absurd h (by decide)⟩
            · intro a w2 hB hF hd
              rw [if_pos (wanted_none rfl)]
              exact flow_move _ (.inl rfl) (by simp) ⟨((hd 4 _ rfl (waits_spec rfl)).1), fun h => absurd h (by decide)⟩
            · intro a w2 hB hF hd
              refine flow_wanted (wanted_yes rfl rfl ((hd 5 _ rfl (waits_spec rfl)).1) rfl) ?_
              exact flow_val (fun h => by cases h) (run_load_str rfl Try.underlying26 rfl Try.size26 (hF.same 7 rfl) (hx.below hB hx.lt)) ⟨rfl, fun h => absurd h (by decide)⟩
            · intro a w2 hB hF hd
              refine flow_wanted (wanted_yes rfl rfl ((hd 5 _ rfl (waits_spec rfl)).1) rfl) ?_
              refine flow_call _ _ _ rfl Try.call20 _ (args1 ((hd 6 _ rfl (waits_spec rfl)).1)) (by simp) ((feOdd_any (dg 65536 X) (X) HFX.out w2).mono ?_)
              rintro e w3 ⟨rfl, hb⟩; exact ⟨_, rfl, ⟨rfl, fun h => absurd h (by decide)⟩, hb⟩
            · intro a w2 hB hF hd
              refine flow_wanted (wanted_yes rfl rfl ((hd 5 _ rfl (waits_spec rfl)).1) rfl) ?_
              exact flow_move _ (.inl rfl) (by simp) ⟨(hF.same 9 rfl), fun h => absurd h (by decide)⟩
            · intro a w2 hB hF hd
              refine flow_wanted (wanted_yes rfl rfl ((hd 5 _ rfl (waits_spec rfl)).1) rfl) ?_
              exact flow_val (fun h => by cases h) (run_index_slice rfl ((hd 8 _ rfl (waits_spec rfl)).1) rfl Try.underlying28 (by kernel_rfl) (by decide) (by decide)) ⟨rfl, fun h => absurd h (by decide)⟩
            · intro a w2 hB hF hd
              refine flow_wanted (wanted_yes rfl rfl ((hd 5 _ rfl (waits_spec rfl)).1) rfl) ?_
              exact flow_val (fun h => by cases h) (run_load_cell rfl ((hd 9 _ rfl (waits_spec rfl)).1) Try.underlying3 ((hB.cell s9).trans E9.out)) ⟨rfl, fun h => absurd h (by decide)⟩
            · intro a w2 hB hF hd
              refine flow_wanted (wanted_yes rfl rfl ((hd 5 _ rfl (waits_spec rfl)).1) rfl) ?_
              exact flow_val (fun h => by cases h) (Go.Bas.run_rem rfl ((hd 10 _ rfl (waits_spec rfl)).1) rfl (by decide)) ⟨(congrArg (Value.int .i64) (odd_digit _)), fun h => absurd h (by decide)⟩
            · intro a w2 hB hF hd
              refine flow_wanted (wanted_yes rfl rfl ((hd 5 _ rfl (waits_spec rfl)).1) rfl) ?_
              refine flow_val (fun h => by cases h) (Go.Bas.run_eql_int rfl ((hd 11 _ rfl (waits_spec rfl)).1) rfl) ?_
              exact ⟨rfl, fun h => absurd h (by decide)⟩
            · intro a w2 hB hF hd
              refine flow_wanted (wanted_yes rfl rfl ((hd 5 _ rfl (waits_spec rfl)).1) rfl) ?_
              refine flow_val (fun h => by cases h) (Go.Bas.run_eql_bool rfl ((hd 7 _ rfl (waits_spec rfl)).1) ((hd 12 _ rfl (waits_spec rfl)).1) Try.underlying4) ?_
              exact ⟨(congrArg Value.bool (beq_self_eq_true _)), fun h => absurd h (by decide)⟩
            · intro a w2 hB hF hd
              rw [if_pos (wanted_none rfl)]
              exact flow_val (fun h => by cases h) (run_pick rfl ((hd 5 _ rfl (waits_spec rfl)).1)) ⟨(((hd 13 _ rfl (waits_spec rfl)).1)), fun h => absurd h (by decide)⟩
            · intro a w2 hB hF hd
              rw [if_pos (wanted_none rfl)]
              exact flow_move _ (.inl rfl) (by simp) ⟨((hd 14 _ rfl (waits_spec rfl)).1), fun h => absurd h (by decide)⟩
            · intro a w2 hB hF hd
              refine flow_wanted (wanted_yes rfl rfl ((hd 15 _ rfl (waits_spec rfl)).1) rfl) ?_
              exact flow_val (fun h => by cases h) (run_load_str rfl Try.underlying26 rfl Try.size26 (hF.same 7 rfl) (hx.below hB hx.lt)) ⟨rfl, fun h => absurd h (by decide)⟩
            · intro a w2 hB hF hd
              refine flow_wanted (wanted_yes rfl rfl ((hd 15 _ rfl (waits_spec rfl)).1) rfl) ?_
              exact flow_val (fun h => by cases h) (run_load_str rfl Try.underlying26 rfl Try.size26 (hF.same 8 rfl) (hy.below hB hy.lt)) ⟨rfl, fun h => absurd h (by decide)⟩
            · intro a w2 hB hF hd
              refine flow_wanted (wanted_yes rfl rfl ((hd 15 _ rfl (waits_spec rfl)).1) rfl) ?_
              refine flow_call _ _ _ rfl Try.call21 _ (args2 ((hd 16 _ rfl (waits_spec rfl)).1) ((hd 17 _ rfl (waits_spec rfl)).1)) (by simp) ((feEqual_any (dg 65536 X) (dg 65536 Y) X Y HFX.out HFY.out w2).mono ?_)
              rintro e w3 ⟨rfl, hb⟩; exact ⟨_, rfl, ⟨rfl, fun h => absurd h (by decide)⟩, hb⟩
            · intro a w2 hB hF hd
              refine flow_wanted (wanted_yes rfl rfl ((hd 15 _ rfl (waits_spec rfl)).1) rfl) ?_
              exact flow_move _ (.inl rfl) (by simp) ⟨(hF.same 9 rfl), fun h => absurd h (by decide)⟩
            · intro a w2 hB hF hd
              refine flow_wanted (wanted_yes rfl rfl ((hd 15 _ rfl (waits_spec rfl)).1) rfl) ?_
              exact flow_move _ (.inl rfl) (by simp) ⟨(hF.same 10 rfl), fun h => absurd h (by decide)⟩
            · intro a w2 hB hF hd
              refine flow_wanted (wanted_yes rfl rfl ((hd 15 _ rfl (waits_spec rfl)).1) rfl) ?_
              refine flow_call _ _ _ rfl Try.call22 _ (args2 ((hd 19 _ rfl (waits_spec rfl)).1) ((hd 20 _ rfl (waits_spec rfl)).1)) (by simp) ((fSame_any _ _ (X % Pr) (Y % Pr) (modP16 X) (modP16 Y) w2 (H9.out.below hB) (H10.out.below hB)).mono ?_)
              rintro e w3 ⟨rfl, hb⟩; exact ⟨_, rfl, ⟨rfl, fun h => absurd h (by decide)⟩, hb⟩
            · intro a w2 hB hF hd
              refine flow_wanted (wanted_yes rfl rfl ((hd 15 _ rfl (waits_spec rfl)).1) rfl) ?_
              refine flow_val (fun h => by cases h) (Go.Bas.run_eql_bool rfl ((hd 18 _ rfl (waits_spec rfl)).1) ((hd 21 _ rfl (waits_spec rfl)).1) Try.underlying4) ?_
              exact ⟨(congrArg Value.bool (eq_same X Y)), fun h => absurd h (by decide)⟩
            · intro a w2 hB hF hd
              rw [if_pos (wanted_none rfl)]
              exact flow_val (fun h => by cases h) (run_pick rfl ((hd 15 _ rfl (waits_spec rfl)).1)) ⟨(((hd 22 _ rfl (waits_spec rfl)).1)), fun h => absurd h (by decide)⟩
            · intro a w2 hB hF hd
              rw [if_pos (wanted_none rfl)]
              exact flow_move _ (.inl rfl) (by simp) ⟨((hd 23 _ rfl (waits_spec rfl)).1), fun h => absurd h (by decide)⟩
            · intro a w2 hB hF hd
              refine flow_wanted (wanted_yes rfl rfl ((hd 24 _ rfl (waits_spec rfl)).1) rfl) ?_
              exact flow_move _ (.inl rfl) (by simp) ⟨(hF.same 2 rfl), fun h => absurd h (by decide)⟩
            · intro a w2 hB hF hd
              refine flow_wanted (wanted_yes rfl rfl ((hd 24 _ rfl (waits_spec rfl)).1) rfl) ?_
              refine flow_call _ _ _ rfl Try.call23 _ (args1 ((hd 25 _ rfl (waits_spec rfl)).1)) (by simp) ((feSmall_any n w2).mono ?_)
              rintro e w3 ⟨rfl, hb⟩; exact ⟨_, rfl, ⟨rfl, fun h => absurd h (by decide)⟩, hb⟩
            · intro a w2 hB hF hd
              refine flow_wanted (wanted_yes rfl rfl ((hd 24 _ rfl (waits_spec rfl)).1) rfl) ?_
              refine flow_call _ _ _ rfl Try.call18 _ (args1 ((hd 26 _ rfl (waits_spec rfl)).1)) (by simp) ((feBytes_any (smallF n) ((smallN n)) (fe_smallF n) w2).mono ?_)
              rintro e w3 ⟨rfl, hb⟩; exact ⟨_, rfl, ⟨rfl, fun h => absurd h (by decide)⟩, hb⟩
            · intro a w2 hB hF hd
              refine flow_wanted (wanted_yes rfl rfl ((hd 24 _ rfl (waits_spec rfl)).1) rfl) ?_
              exact flow_move _ (.inl rfl) (by simp) ⟨(hF.same 11 rfl), fun h => absurd h (by decide)⟩
            · intro a w2 hB hF hd
              refine flow_wanted (wanted_yes rfl rfl ((hd 24 _ rfl (waits_spec rfl)).1) rfl) ?_
              refine flow_call _ _ _ rfl Try.call24 _ (args1 ((hd 28 _ rfl (waits_spec rfl)).1)) (by simp) ((rSmall_rd n (by omega) (by omega) w2).mono ?_)
              rintro e w3 ⟨u, rfl, hr, hb⟩; exact ⟨u, rfl, ⟨trivial, fun _ => hr⟩, hb⟩
            · intro a w2 hB hF hd
              refine flow_wanted (wanted_yes rfl rfl ((hd 24 _ rfl (waits_spec rfl)).1) rfl) ?_
              refine flow_call _ _ _ rfl Try.call19 _ (args1 rfl) (by simp) ((rBytes_any _ n 16 (by decide) w2 ((hd 29 _ rfl (waits_spec rfl)).2 rfl)).mono ?_)
              rintro e w3 ⟨rfl, hb⟩; exact ⟨_, rfl, ⟨rfl, fun h => absurd h (by decide)⟩, hb⟩
            · intro a w2 hB hF hd
              refine flow_wanted (wanted_yes rfl rfl ((hd 24 _ rfl (waits_spec rfl)).1) rfl) ?_
              exact flow_val (fun h => by cases h) (run_eql_arr true rfl ((hd 27 _ rfl (waits_spec rfl)).1) ((hd 30 _ rfl (waits_spec rfl)).1) Try.underlying22 (by kernel_rfl) (by kernel_rfl) (by kernel_rfl) (by kernel_rfl) (by kernel_rfl) (sameB_num ((smallN_mod _).trans hs))) ⟨rfl, fun h => absurd h (by decide)⟩
            · intro a w2 hB hF hd
              rw [if_pos (wanted_none rfl)]
              exact flow_val (fun h => by cases h) (run_pick rfl ((hd 24 _ rfl (waits_spec rfl)).1)) ⟨(((hd 31 _ rfl (waits_spec rfl)).1)), fun h => absurd h (by decide)⟩
            · intro a w2 hB hF hd
              rw [if_pos (wanted_none rfl)]
              exact flow_move _ (.inl rfl) (by simp) ⟨((hd 32 _ rfl (waits_spec rfl)).1), fun h => absurd h (by decide)⟩
            · intro a w2 hB hF hd
              refine flow_wanted (wanted_yes rfl rfl ((hd 33 _ rfl (waits_spec rfl)).1) rfl) ?_
              exact flow_val (fun h => by cases h) (run_built rfl (build_el' _)) ⟨rfl, fun h => absurd h (by decide)⟩
            · intro a w2 hB hF hd
              refine flow_wanted (wanted_yes rfl rfl ((hd 33 _ rfl (waits_spec rfl)).1) rfl) ?_
              refine flow_call _ _ _ rfl Try.call18 _ (args1 ((hd 34 _ rfl (waits_spec rfl)).1)) (by simp) ((feBytes_any (fun _ => 0) (0) fe_zero w2).mono ?_)
              rintro e w3 ⟨rfl, hb⟩; exact ⟨_, rfl, ⟨rfl, fun h => absurd h (by decide)⟩, hb⟩
            · intro a w2 hB hF hd
              refine flow_wanted (wanted_yes rfl rfl ((hd 33 _ rfl (waits_spec rfl)).1) rfl) ?_
              exact flow_val (fun h => by cases h) (run_built rfl (build_nil _)) ⟨rfl, fun h => absurd h (by decide)⟩
            · intro a w2 hB hF hd
              refine flow_wanted (wanted_yes rfl rfl ((hd 33 _ rfl (waits_spec rfl)).1) rfl) ?_
              exact flow_val (fun h => by cases h) (run_eql_arr true rfl ((hd 35 _ rfl (waits_spec rfl)).1) ((hd 36 _ rfl (waits_spec rfl)).1) Try.underlying22 (by kernel_rfl) (by kernel_rfl) (by kernel_rfl) (by kernel_rfl) (by kernel_rfl) (sameB_num rfl)) ⟨rfl, fun h => absurd h (by decide)⟩
            · intro a w2 hB hF hd
              rw [if_pos (wanted_none rfl)]
              exact flow_val (fun h => by cases h) (run_pick rfl ((hd 33 _ rfl (waits_spec rfl)).1)) ⟨(((hd 37 _ rfl (waits_spec rfl)).1)), fun h => absurd h (by decide)⟩
            · intro a w2 hB hF hd
              rw [if_pos (wanted_none rfl)]
              exact flow_move _ (.inr rfl) (by simp) ⟨((hd 38 _ rfl (waits_spec rfl)).1), fun h => absurd h (by decide)⟩
          · intro a w5 hB hF hS
            obtain ⟨x58, hx58⟩ : ∃ x, x = a.tmps.getD 58 undef := ⟨_, rfl⟩
            have ha := puts_each rfl rfl hF [_, _, _, _, _, _, _, _, _, _, _, _, _, _, _, _, _, _, _, _, _, _, _, _, _, _, _, _, _, x58, _, _, _, _, _, _, _, _, _, _] rfl ⟨(hS 0 _ rfl).1, (hS 1 _ rfl).1, (hS 2 _ rfl).1, (hS 3 _ rfl).1, (hS 4 _ rfl).1, (hS 5 _ rfl).1, (hS 6 _ rfl).1, (hS 7 _ rfl).1, (hS 8 _ rfl).1, (hS 9 _ rfl).1, (hS 10 _ rfl).1, (hS 11 _ rfl).1, (hS 12 _ rfl).1, (hS 13 _ rfl).1, (hS 14 _ rfl).1, (hS 15 _ rfl).1, (hS 16 _ rfl).1, (hS 17 _ rfl).1, (hS 18 _ rfl).1, (hS 19 _ rfl).1, (hS 20 _ rfl).1, (hS 21 _ rfl).1, (hS 22 _ rfl).1, (hS 23 _ rfl).1, (hS 24 _ rfl).1, (hS 25 _ rfl).1, (hS 26 _ rfl).1, (hS 27 _ rfl).1, (hS 28 _ rfl).1, hx58.symm, (hS 30 _ rfl).1, (hS 31 _ rfl).1, (hS 32 _ rfl).1, (hS 33 _ rfl).1, (hS 34 _ rfl).1, (hS 35 _ rfl).1, (hS 36 _ rfl).1, (hS 37 _ rfl).1, (hS 38 _ rfl).1, (hS 39 _ rfl).1, trivial⟩
            simp only [puts, Act.put, List.setIfInBounds_toArray, List.set_cons_succ, List.set_cons_zero] at ha
            subst ha
            clear hx58
            clear hS hF
            have hbf := hb4.trans (hB.mono hb4.size)
            clear hx hy hb4 hB
            go_wp2
            go_ret
            exact ⟨rfl, hbf⟩
        · have hs : smallN n = 0 := if_neg (by omega)
          go_upto_region 8 with (fail)
          refine region_flow (n := 68) (by kernel_rfl) (by kernel_rfl) (by kernel_rfl) rfl
            (fun i v w => (match i with | 0 | 6 | 16 => v = .agg (arr .i64 16 (dg 65536 X)) | 1 | 3 => v = .agg (arr .u8 32 (dg 256 (X % Pr))) | 2 | 8 | 19 => v = .slice (some ⟨b9, o9, none⟩) 16 c9 | 4 | 5 | 13 | 14 | 15 | 22 | 23 | 24 | 31 | 32 | 33 | 37 | 38 | 39 => v = .bool true | 7 => v = .bool ((X % Pr % 2 == 1)) | 9 => v = .pointer (some ⟨b9, o9, none⟩) | 10 => v = .int .i64 (dg 65536 (X % Pr) 0) | 11 => v = .int .i64 (X % Pr % 2) | 12 => v = .bool ((X % Pr % 2) == (1)) | 17 => v = .agg (arr .i64 16 (dg 65536 Y)) | 18 => v = .bool ((eqP X Y)) | 20 => v = x10 | 21 => v = .bool ((eqN (X % Pr) (Y % Pr))) | 25 => v = .int .i64 (n) | 26 => v = .agg (arr .i64 16 (smallF n)) | 27 => v = .agg (arr .u8 32 (dg 256 ((smallN n) % Pr))) | 28 => v = .int .i64 (0) | 30 | 36 => v = .agg (arr .u8 32 (dg 256 0)) | 34 => v = .agg (arr .i64 16 (fun _ => 0)) | 35 => v = .agg (arr .u8 32 (dg 256 (0 % Pr))) | _ => True) ∧ (i = 29 → Rd .i64 w v 16 (dg 65536 0)))
            (fun w w' => Below w.heap.size w w') (fun _ _ h => h) (fun i v w w' h hE => ⟨h.1, fun e => Rd.below (h.2 e) hE⟩) ?_ ?_
          · refine Each.all ?_
            refine ⟨?_, ?_, ?_, ?_, ?_, ?_, ?_, ?_, ?_, ?_, ?_, ?_, ?_, ?_, ?_, ?_, ?_, ?_, ?_, ?_, ?_, ?_, ?_, ?_, ?_, ?_, ?_, ?_, ?_, ?_, ?_, ?_, ?_, ?_, ?_, ?_, ?_, ?_, ?_, ?_, trivial⟩
            · intro a w2 hB hF hd
              rw [if_pos (wanted_none rfl)]
              exact flow_val (fun h => by cases h) (run_load_str rfl Try.underlying26 rfl Try.size26 (hF.same 7 rfl) (hx.below hB hx.lt)) ⟨rfl, fun h => absurd h (by decide)⟩
            · intro a w2 hB hF hd
              rw [if_pos (wanted_none rfl)]
              refine flow_call _ _ _ rfl Try.call18 _ (args1 ((hd 0 _ rfl (waits_spec rfl)).1)) (by simp) ((feBytes_any (dg 65536 X) (X) HFX.out w2).mono ?_)
              rintro e w3 ⟨rfl, hb⟩; exact ⟨_, rfl, ⟨rfl, fun h => absurd h (by decide)⟩, hb⟩
            · intro a w2 hB hF hd
              rw [if_pos (wanted_none rfl)]
              exact flow_move _ (.inl rfl) (by simp) ⟨(hF.same 9 rfl), fun h => absurd h (by decide)⟩
            · intro a w2 hB hF hd
              rw [if_pos (wanted_none rfl)]
              refine flow_call _ _ _ rfl Try.call19 _ (args1 ((hd 2 _ rfl (waits_spec rfl)).1)) (by simp) ((rBytes_any _ (X % Pr) 16 (by decide) w2 (H9.out.below hB)).mono ?_)
              rintro e w3 ⟨rfl, hb⟩; exact ⟨_, rfl, ⟨rfl, fun h => absurd h (by decide)⟩, hb⟩
            · intro a w2 hB hF hd
              rw [if_pos (wanted_none rfl)]
              exact flow_val (fun h => by cases h) (run_eql_arr true rfl ((hd 1 _ rfl (waits_spec rfl)).1) ((hd 3 _ rfl (waits_spec rfl)).1) Try.underlying22 (by kernel_rfl) (by kernel_rfl) (by kernel_rfl) (by kernel_rfl) (by kernel_rfl) sameB_self) ⟨rfl, fun h => absurd h (by decide)⟩
            · intro a w2 hB hF hd
              rw [if_pos (wanted_none rfl)]
              exact flow_move _ (.inl rfl) (by simp) ⟨((hd 4 _ rfl (waits_spec rfl)).1), fun h => absurd h (by decide)⟩
            · intro a w2 hB hF hd
              refine flow_wanted (wanted_yes rfl rfl ((hd 5 _ rfl (waits_spec rfl)).1) rfl) ?_
              exact flow_val (fun h => by cases h) (run_load_str rfl Try.underlying26 rfl Try.size26 (hF.same 7 rfl) (hx.below hB hx.lt)) ⟨rfl, fun h => absurd h (by decide)⟩
            · intro a w2 hB hF hd
              refine flow_wanted (wanted_yes rfl rfl ((hd 5 _ rfl (waits_spec rfl)).1) rfl) ?_
              refine flow_call _ _ _ rfl Try.call20 _ (args1 ((hd 6 _ rfl (waits_spec rfl)).1)) (by simp) ((feOdd_any (dg 65536 X) (X) HFX.out w2).mono ?_)
              rintro e w3 ⟨rfl, hb⟩; exact ⟨_, rfl, ⟨rfl, fun h => absurd h (by decide)⟩, hb⟩
            · intro a w2 hB hF hd
              refine flow_wanted (wanted_yes rfl rfl ((hd 5 _ rfl (waits_spec rfl)).1) rfl) ?_
              exact flow_move _ (.inl rfl) (by simp) ⟨(hF.same 9 rfl), fun h => absurd h (by decide)⟩
            · intro a w2 hB hF hd
              refine flow_wanted (wanted_yes rfl rfl ((hd 5 _ rfl (waits_spec rfl)).1) rfl) ?_
              exact flow_val (fun h => by cases h) (run_index_slice rfl ((hd 8 _ rfl (waits_spec rfl)).1) rfl Try.underlying28 (by kernel_rfl) (by decide) (by decide)) ⟨rfl, fun h => absurd h (by decide)⟩
            · intro a w2 hB hF hd
              refine flow_wanted (wanted_yes rfl rfl ((hd 5 _ rfl (waits_spec rfl)).1) rfl) ?_
              exact flow_val (fun h => by cases h) (run_load_cell rfl ((hd 9 _ rfl (waits_spec rfl)).1) Try.underlying3 ((hB.cell s9).trans E9.out)) ⟨rfl, fun h => absurd h (by decide)⟩
            · intro a w2 hB hF hd
              refine flow_wanted (wanted_yes rfl rfl ((hd 5 _ rfl (waits_spec rfl)).1) rfl) ?_
              exact flow_val (fun h => by cases h) (Go.Bas.run_rem rfl ((hd 10 _ rfl (waits_spec rfl)).1) rfl (by decide)) ⟨(congrArg (Value.int .i64) (odd_digit _)), fun h => absurd h (by decide)⟩
            · intro a w2 hB hF hd
              refine flow_wanted (wanted_yes rfl rfl ((hd 5 _ rfl (waits_spec rfl)).1) rfl) ?_
              refine flow_val (fun h => by cases h) (Go.Bas.run_eql_int rfl ((hd 11 _ rfl (waits_spec rfl)).1) rfl) ?_
              exact ⟨rfl, fun h => absurd h (by decide)⟩
            · intro a w2 hB hF hd
              refine flow_wanted (wanted_yes rfl rfl ((hd 5 _ rfl (waits_spec rfl)).1) rfl) ?_
              refine flow_val (fun h => by cases h) (Go.Bas.run_eql_bool rfl ((hd 7 _ rfl (waits_spec rfl)).1) ((hd 12 _ rfl (waits_spec rfl)).1) Try.underlying4) ?_
              exact ⟨(congrArg Value.bool (beq_self_eq_true _)), fun h => absurd h (by decide)⟩
            · intro a w2 hB hF hd
              rw [if_pos (wanted_none rfl)]
              exact flow_val (fun h => by cases h) (run_pick rfl ((hd 5 _ rfl (waits_spec rfl)).1)) ⟨(((hd 13 _ rfl (waits_spec rfl)).1)), fun h => absurd h (by decide)⟩
            · intro a w2 hB hF hd
              rw [if_pos (wanted_none rfl)]
              exact flow_move _ (.inl rfl) (by simp) ⟨((hd 14 _ rfl (waits_spec rfl)).1), fun h => absurd h (by decide)⟩
            · intro a w2 hB hF hd
              refine flow_wanted (wanted_yes rfl rfl ((hd 15 _ rfl (waits_spec rfl)).1) rfl) ?_
              exact flow_val (fun h => by cases h) (run_load_str rfl Try.underlying26 rfl Try.size26 (hF.same 7 rfl) (hx.below hB hx.lt)) ⟨rfl, fun h => absurd h (by decide)⟩
            · intro a w2 hB hF hd
              refine flow_wanted (wanted_yes rfl rfl ((hd 15 _ rfl (waits_spec rfl)).1) rfl) ?_
              exact flow_val (fun h => by cases h) (run_load_str rfl Try.underlying26 rfl Try.size26 (hF.same 8 rfl) (hy.below hB hy.lt)) ⟨rfl, fun h => absurd h (by decide)⟩
            · intro a w2 hB hF hd
              refine flow_wanted (wanted_yes rfl rfl ((hd 15 _ rfl (waits_spec rfl)).1) rfl) ?_
              refine flow_call _ _ _ rfl Try.call21 _ (args2 ((hd 16 _ rfl (waits_spec rfl)).1) ((hd 17 _ rfl (waits_spec rfl)).1)) (by simp) ((feEqual_any (dg 65536 X) (dg 65536 Y) X Y HFX.out HFY.out w2).mono ?_)
              rintro e w3 ⟨rfl, hb⟩; exact ⟨_, rfl, ⟨rfl, fun h => absurd h (by decide)⟩, hb⟩
            · intro a w2 hB hF hd
              refine flow_wanted (wanted_yes rfl rfl ((hd 15 _ rfl (waits_spec rfl)).1) rfl) ?_
              exact flow_move _ (.inl rfl) (by simp) ⟨(hF.same 9 rfl), fun h => absurd h (by decide)⟩
            · intro a w2 hB hF hd
              refine flow_wanted (wanted_yes rfl rfl ((hd 15 _ rfl (waits_spec rfl)).1) rfl) ?_
              exact flow_move _ (.inl rfl) (by simp) ⟨(hF.same 10 rfl), fun h => absurd h (by decide)⟩
            · intro a w2 hB hF hd
              refine flow_wanted (wanted_yes rfl rfl ((hd 15 _ rfl (waits_spec rfl)).1) rfl) ?_
              refine flow_call _ _ _ rfl Try.call22 _ (args2 ((hd 19 _ rfl (waits_spec rfl)).1) ((hd 20 _ rfl (waits_spec rfl)).1)) (by simp) ((fSame_any _ _ (X % Pr) (Y % Pr) (modP16 X) (modP16 Y) w2 (H9.out.below hB) (H10.out.below hB)).mono ?_)
              rintro e w3 ⟨rfl, hb⟩; exact ⟨_, rfl, ⟨rfl, fun h => absurd h (by decide)⟩, hb⟩
            · intro a w2 hB hF hd
              refine flow_wanted (wanted_yes rfl rfl ((hd 15 _ rfl (waits_spec rfl)).1) rfl) ?_
              refine flow_val (fun h => by cases h) (Go.Bas.run_eql_bool rfl ((hd 18 _ rfl (waits_spec rfl)).1) ((hd 21 _ rfl (waits_spec rfl)).1) Try.underlying4) ?_
              exact ⟨(congrArg Value.bool (eq_same X Y)), fun h => absurd h (by decide)⟩
            · intro a w2 hB hF hd
              rw [if_pos (wanted_none rfl)]
              exact flow_val (fun h => by cases h) (run_pick rfl ((hd 15 _ rfl (waits_spec rfl)).1)) ⟨(((hd 22 _ rfl (waits_spec rfl)).1)), fun h => absurd h (by decide)⟩
            · intro a w2 hB hF hd
              rw [if_pos (wanted_none rfl)]
              exact flow_move _ (.inl rfl) (by simp) ⟨((hd 23 _ rfl (waits_spec rfl)).1), fun h => absurd h (by decide)⟩
            · intro a w2 hB hF hd
              refine flow_wanted (wanted_yes rfl rfl ((hd 24 _ rfl (waits_spec rfl)).1) rfl) ?_
              exact flow_move _ (.inl rfl) (by simp) ⟨(hF.same 2 rfl), fun h => absurd h (by decide)⟩
            · intro a w2 hB hF hd
              refine flow_wanted (wanted_yes rfl rfl ((hd 24 _ rfl (waits_spec rfl)).1) rfl) ?_
              refine flow_call _ _ _ rfl Try.call23 _ (args1 ((hd 25 _ rfl (waits_spec rfl)).1)) (by simp) ((feSmall_any n w2).mono ?_)
              rintro e w3 ⟨rfl, hb⟩; exact ⟨_, rfl, ⟨rfl, fun h => absurd h (by decide)⟩, hb⟩
            · intro a w2 hB hF hd
              refine flow_wanted (wanted_yes rfl rfl ((hd 24 _ rfl (waits_spec rfl)).1) rfl) ?_
              refine flow_call _ _ _ rfl Try.call18 _ (args1 ((hd 26 _ rfl (waits_spec rfl)).1)) (by simp) ((feBytes_any (smallF n) ((smallN n)) (fe_smallF n) w2).mono ?_)
              rintro e w3 ⟨rfl, hb⟩; exact ⟨_, rfl, ⟨rfl, fun h => absurd h (by decide)⟩, hb⟩
            · intro a w2 hB hF hd
              refine flow_wanted (wanted_yes rfl rfl ((hd 24 _ rfl (waits_spec rfl)).1) rfl) ?_
              exact flow_move _ (.inl rfl) (by simp) ⟨(hF.same 11 rfl), fun h => absurd h (by decide)⟩
            · intro a w2 hB hF hd
              refine flow_wanted (wanted_yes rfl rfl ((hd 24 _ rfl (waits_spec rfl)).1) rfl) ?_
              refine flow_call _ _ _ rfl Try.call24 _ (args1 ((hd 28 _ rfl (waits_spec rfl)).1)) (by simp) ((rSmall_rd 0 (by omega) (by omega) w2).mono ?_)
              rintro e w3 ⟨u, rfl, hr, hb⟩; exact ⟨u, rfl, ⟨trivial, fun _ => hr⟩, hb⟩
            · intro a w2 hB hF hd
              refine flow_wanted (wanted_yes rfl rfl ((hd 24 _ rfl (waits_spec rfl)).1) rfl) ?_
              refine flow_call _ _ _ rfl Try.call19 _ (args1 rfl) (by simp) ((rBytes_any _ 0 16 (by decide) w2 ((hd 29 _ rfl (waits_spec rfl)).2 rfl)).mono ?_)
              rintro e w3 ⟨rfl, hb⟩; exact ⟨_, rfl, ⟨rfl, fun h => absurd h (by decide)⟩, hb⟩
            · intro a w2 hB hF hd
              refine flow_wanted (wanted_yes rfl rfl ((hd 24 _ rfl (waits_spec rfl)).1) rfl) ?_
              exact flow_val (fun h => by cases h) (run_eql_arr true rfl ((hd 27 _ rfl (waits_spec rfl)).1) ((hd 30 _ rfl (waits_spec rfl)).1) Try.underlying22 (by kernel_rfl) (by kernel_rfl) (by kernel_rfl) (by kernel_rfl) (by kernel_rfl) (sameB_num ((smallN_mod _).trans hs))) ⟨rfl, fun h => absurd h (by decide)⟩
            · intro a w2 hB hF hd
              rw [if_pos (wanted_none rfl)]
              exact flow_val (fun h => by cases h) (run_pick rfl ((hd 24 _ rfl (waits_spec rfl)).1)) ⟨(((hd 31 _ rfl (waits_spec rfl)).1)), fun h => absurd h (by decide)⟩
            · intro a w2 hB hF hd
              rw [if_pos (wanted_none rfl)]
              exact flow_move _ (.inl rfl) (by simp) ⟨((hd 32 _ rfl (waits_spec rfl)).1), fun h => absurd h (by decide)⟩
            · intro a w2 hB hF hd
              refine flow_wanted (wanted_yes rfl rfl ((hd 33 _ rfl (waits_spec rfl)).1) rfl) ?_
              exact flow_val (fun h => by cases h) (run_built rfl (build_el' _)) ⟨rfl, fun h => absurd h (by decide)⟩
            · intro a w2 hB hF hd
              refine flow_wanted (wanted_yes rfl rfl ((hd 33 _ rfl (waits_spec rfl)).1) rfl) ?_
              refine flow_call _ _ _ rfl Try.call18 _ (args1 ((hd 34 _ rfl (waits_spec rfl)).1)) (by simp) ((feBytes_any (fun _ => 0) (0) fe_zero w2).mono ?_)
              rintro e w3 ⟨rfl, hb⟩; exact ⟨_, rfl, ⟨rfl, fun h => absurd h (by decide)⟩, hb⟩
            · intro a w2 hB hF hd
              refine flow_wanted (wanted_yes rfl rfl ((hd 33 _ rfl (waits_spec rfl)).1) rfl) ?_
              exact flow_val (fun h => by cases h) (run_built rfl (build_nil _)) ⟨rfl, fun h => absurd h (by decide)⟩
            · intro a w2 hB hF hd
              refine flow_wanted (wanted_yes rfl rfl ((hd 33 _ rfl (waits_spec rfl)).1) rfl) ?_
              exact flow_val (fun h => by cases h) (run_eql_arr true rfl ((hd 35 _ rfl (waits_spec rfl)).1) ((hd 36 _ rfl (waits_spec rfl)).1) Try.underlying22 (by kernel_rfl) (by kernel_rfl) (by kernel_rfl) (by kernel_rfl) (by kernel_rfl) (sameB_num rfl)) ⟨rfl, fun h => absurd h (by decide)⟩
            · intro a w2 hB hF hd
              rw [if_pos (wanted_none rfl)]
              exact flow_val (fun h => by cases h) (run_pick rfl ((hd 33 _ rfl (waits_spec rfl)).1)) ⟨(((hd 37 _ rfl (waits_spec rfl)).1)), fun h => absurd h (by decide)⟩
            · intro a w2 hB hF hd
              rw [if_pos (wanted_none rfl)]
              exact flow_move _ (.inr rfl) (by simp) ⟨((hd 38 _ rfl (waits_spec rfl)).1), fun h => absurd h (by decide)⟩
          · intro a w5 hB hF hS
            obtain ⟨x58, hx58⟩ : ∃ x, x = a.tmps.getD 58 undef := ⟨_, rfl⟩
            have ha := puts_each rfl rfl hF [_, _, _, _, _, _, _, _, _, _, _, _, _, _, _, _, _, _, _, _, _, _, _, _, _, _, _, _, _, x58, _, _, _, _, _, _, _, _, _, _] rfl ⟨(hS 0 _ rfl).1, (hS 1 _ rfl).1, (hS 2 _ rfl).1, (hS 3 _ rfl).1, (hS 4 _ rfl).1, (hS 5 _ rfl).1, (hS 6 _ rfl).1, (hS 7 _ rfl).1, (hS 8 _ rfl).1, (hS 9 _ rfl).1, (hS 10 _ rfl).1, (hS 11 _ rfl).1, (hS 12 _ rfl).1, (hS 13 _ rfl).1, (hS 14 _ rfl).1, (hS 15 _ rfl).1, (hS 16 _ rfl).1, (hS 17 _ rfl).1, (hS 18 _ rfl).1, (hS 19 _ rfl).1, (hS 20 _ rfl).1, (hS 21 _ rfl).1, (hS 22 _ rfl).1, (hS 23 _ rfl).1, (hS 24 _ rfl).1, (hS 25 _ rfl).1, (hS 26 _ rfl).1, (hS 27 _ rfl).1, (hS 28 _ rfl).1, hx58.symm, (hS 30 _ rfl).1, (hS 31 _ rfl).1, (hS 32 _ rfl).1, (hS 33 _ rfl).1, (hS 34 _ rfl).1, (hS 35 _ rfl).1, (hS 36 _ rfl).1, (hS 37 _ rfl).1, (hS 38 _ rfl).1, (hS 39 _ rfl).1, trivial⟩
            simp only [puts, Act.put, List.setIfInBounds_toArray, List.set_cons_succ, List.set_cons_zero] at ha
            subst ha
            clear hx58
            clear hS hF
            have hbf := hb4.trans (hB.mono hb4.size)
            clear hx hy hb4 hB
            go_wp2
            go_ret
            exact ⟨rfl, hbf⟩
      · have hs : smallN n = 0 := if_neg (by omega)
        have hd : decide (0 ≤ n) = false := by simpa using h0
        go_upto_region 8 with (fail)
        refine region_flow (n := 68) (by kernel_rfl) (by kernel_rfl) (by kernel_rfl) rfl
          (fun i v w => (match i with | 0 | 6 | 16 => v = .agg (arr .i64 16 (dg 65536 X)) | 1 | 3 => v = .agg (arr .u8 32 (dg 256 (X % Pr))) | 2 | 8 | 19 => v = .slice (some ⟨b9, o9, none⟩) 16 c9 | 4 | 5 | 13 | 14 | 15 | 22 | 23 | 24 | 31 | 32 | 33 | 37 | 38 | 39 => v = .bool true | 7 => v = .bool ((X % Pr % 2 == 1)) | 9 => v = .pointer (some ⟨b9, o9, none⟩) | 10 => v = .int .i64 (dg 65536 (X % Pr) 0) | 11 => v = .int .i64 (X % Pr % 2) | 12 => v = .bool ((X % Pr % 2) == (1)) | 17 => v = .agg (arr .i64 16 (dg 65536 Y)) | 18 => v = .bool ((eqP X Y)) | 20 => v = x10 | 21 => v = .bool ((eqN (X % Pr) (Y % Pr))) | 25 => v = .int .i64 (n) | 26 => v = .agg (arr .i64 16 (smallF n)) | 27 => v = .agg (arr .u8 32 (dg 256 ((smallN n) % Pr))) | 28 => v = .int .i64 (0) | 30 | 36 => v = .agg (arr .u8 32 (dg 256 0)) | 34 => v = .agg (arr .i64 16 (fun _ => 0)) | 35 => v = .agg (arr .u8 32 (dg 256 (0 % Pr))) | _ => True) ∧ (i = 29 → Rd .i64 w v 16 (dg 65536 0)))
          (fun w w' => Below w.heap.size w w') (fun _ _ h => h) (fun i v w w' h hE => ⟨h.1, fun e => Rd.below (h.2 e) hE⟩) ?_ ?_
        · refine Each.all ?_
          refine ⟨?_, ?_, ?_, ?_, ?_, ?_, ?_, ?_, ?_, ?_, ?_, ?_, ?_, ?_, ?_, ?_, ?_, ?_, ?_, ?_, ?_, ?_, ?_, ?_, ?_, ?_, ?_, ?_, ?_, ?_, ?_, ?_, ?_, ?_, ?_, ?_, ?_, ?_, ?_, ?_, trivial⟩
          · intro a w2 hB hF hd
            rw [if_pos (wanted_none rfl)]
            exact flow_val (fun h => by cases h) (run_load_str rfl Try.underlying26 rfl Try.size26 (hF.same 7 rfl) (hx.below hB hx.lt)) ⟨rfl, fun h => absurd h (by decide)⟩
          · intro a w2 hB hF hd
            rw [if_pos (wanted_none rfl)]
            refine flow_call _ _ _ rfl Try.call18 _ (args1 ((hd 0 _ rfl (waits_spec rfl)).1)) (by simp) ((feBytes_any (dg 65536 X) (X) HFX.out w2).mono ?_)
            rintro e w3 ⟨rfl, hb⟩; exact ⟨_, rfl, ⟨rfl, fun h => absurd h (by decide)⟩, hb⟩
          · intro a w2 hB hF hd
            rw [if_pos (wanted_none rfl)]
            exact flow_move _ (.inl rfl) (by simp) ⟨(hF.same 9 rfl), fun h => absurd h (by decide)⟩
          · intro a w2 hB hF hd
            rw [if_pos (wanted_none rfl)]
            refine flow_call _ _ _ rfl Try.call19 _ (args1 ((hd 2 _ rfl (waits_spec rfl)).1)) (by simp) ((rBytes_any _ (X % Pr) 16 (by decide) w2 (H9.out.below hB)).mono ?_)
            rintro e w3 ⟨rfl, hb⟩; exact ⟨_, rfl, ⟨rfl, fun h => absurd h (by decide)⟩, hb⟩
          · intro a w2 hB hF hd
            rw [if_pos (wanted_none rfl)]
            exact flow_val (fun h => by cases h) (run_eql_arr true rfl ((hd 1 _ rfl (waits_spec rfl)).1) ((hd 3 _ rfl (waits_spec rfl)).1) Try.underlying22 (by kernel_rfl) (by kernel_rfl) (by kernel_rfl) (by kernel_rfl) (by kernel_rfl) sameB_self) ⟨rfl, fun h => absurd h (by decide)⟩
          · intro a w2 hB hF hd
            rw [if_pos (wanted_none rfl)]
            exact flow_move _ (.inl rfl) (by simp) ⟨((hd 4 _ rfl (waits_spec rfl)).1), fun h => absurd h (by decide)⟩
          · intro a w2 hB hF hd
            refine flow_wanted (wanted_yes rfl rfl ((hd 5 _ rfl (waits_spec rfl)).1) rfl) ?_
            exact flow_val (fun h => by cases h) (run_load_str rfl Try.underlying26 rfl Try.size26 (hF.same 7 rfl) (hx.below hB hx.lt)) ⟨rfl, fun h => absurd h (by decide)⟩
          · intro a w2 hB hF hd
            refine flow_wanted (wanted_yes rfl rfl ((hd 5 _ rfl (waits_spec rfl)).1) rfl) ?_
            refine flow_call _ _ _ rfl Try.call20 _ (args1 ((hd 6 _ rfl (waits_spec rfl)).1)) (by simp) ((feOdd_any (dg 65536 X) (X) HFX.out w2).mono ?_)
            rintro e w3 ⟨rfl, hb⟩; exact ⟨_, rfl, ⟨rfl, fun h => absurd h (by decide)⟩, hb⟩
          · intro a w2 hB hF hd
            refine flow_wanted (wanted_yes rfl rfl ((hd 5 _ rfl (waits_spec rfl)).1) rfl) ?_
            exact flow_move _ (.inl rfl) (by simp) ⟨(hF.same 9 rfl), fun h => absurd h (by decide)⟩
          · intro a w2 hB hF hd
            refine flow_wanted (wanted_yes rfl rfl ((hd 5 _ rfl (waits_spec rfl)).1) rfl) ?_
            exact flow_val (fun h => by cases h) (run_index_slice rfl ((hd 8 _ rfl (waits_spec rfl)).1) rfl Try.underlying28 (by kernel_rfl) (by decide) (by decide)) ⟨rfl, fun h => absurd h (by decide)⟩
          · intro a w2 hB hF hd
            refine flow_wanted (wanted_yes rfl rfl ((hd 5 _ rfl (waits_spec rfl)).1) rfl) ?_
            exact flow_val (fun h => by cases h) (run_load_cell rfl ((hd 9 _ rfl (waits_spec rfl)).1) Try.underlying3 ((hB.cell s9).trans E9.out)) ⟨rfl, fun h => absurd h (by decide)⟩
          · intro a w2 hB hF hd
            refine flow_wanted (wanted_yes rfl rfl ((hd 5 _ rfl (waits_spec rfl)).1) rfl) ?_
            exact flow_val (fun h => by cases h) (Go.Bas.run_rem rfl ((hd 10 _ rfl (waits_spec rfl)).1) rfl (by decide)) ⟨(congrArg (Value.int .i64) (odd_digit _)), fun h => absurd h (by decide)⟩
          · intro a w2 hB hF hd
            refine flow_wanted (wanted_yes rfl rfl ((hd 5 _ rfl (waits_spec rfl)).1) rfl) ?_
            refine flow_val (fun h => by cases h) (Go.Bas.run_eql_int rfl ((hd 11 _ rfl (waits_spec rfl)).1) rfl) ?_
            exact ⟨rfl, fun h => absurd h (by decide)⟩
          · intro a w2 hB hF hd
            refine flow_wanted (wanted_yes rfl rfl ((hd 5 _ rfl (waits_spec rfl)).1) rfl) ?_
            refine flow_val (fun h => by cases h) (Go.Bas.run_eql_bool rfl ((hd 7 _ rfl (waits_spec rfl)).1) ((hd 12 _ rfl (waits_spec rfl)).1) Try.underlying4) ?_
            exact ⟨(congrArg Value.bool (beq_self_eq_true _)), fun h => absurd h (by decide)⟩
          · intro a w2 hB hF hd
            rw [if_pos (wanted_none rfl)]
            exact flow_val (fun h => by cases h) (run_pick rfl ((hd 5 _ rfl (waits_spec rfl)).1)) ⟨(((hd 13 _ rfl (waits_spec rfl)).1)), fun h => absurd h (by decide)⟩
          · intro a w2 hB hF hd
            rw [if_pos (wanted_none rfl)]
            exact flow_move _ (.inl rfl) (by simp) ⟨((hd 14 _ rfl (waits_spec rfl)).1), fun h => absurd h (by decide)⟩
          · intro a w2 hB hF hd
            refine flow_wanted (wanted_yes rfl rfl ((hd 15 _ rfl (waits_spec rfl)).1) rfl) ?_
            exact flow_val (fun h => by cases h) (run_load_str rfl Try.underlying26 rfl Try.size26 (hF.same 7 rfl) (hx.below hB hx.lt)) ⟨rfl, fun h => absurd h (by decide)⟩
          · intro a w2 hB hF hd
            refine flow_wanted (wanted_yes rfl rfl ((hd 15 _ rfl (waits_spec rfl)).1) rfl) ?_
            exact flow_val (fun h => by cases h) (run_load_str rfl Try.underlying26 rfl Try.size26 (hF.same 8 rfl) (hy.below hB hy.lt)) ⟨rfl, fun h => absurd h (by decide)⟩
          · intro a w2 hB hF hd
            refine flow_wanted (wanted_yes rfl rfl ((hd 15 _ rfl (waits_spec rfl)).1) rfl) ?_
            refine flow_call _ _ _ rfl Try.call21 _ (args2 ((hd 16 _ rfl (waits_spec rfl)).1) ((hd 17 _ rfl (waits_spec rfl)).1)) (by simp) ((feEqual_any (dg 65536 X) (dg 65536 Y) X Y HFX.out HFY.out w2).mono ?_)
            rintro e w3 ⟨rfl, hb⟩; exact ⟨_, rfl, ⟨rfl, fun h => absurd h (by decide)⟩, hb⟩
          · intro a w2 hB hF hd
            refine flow_wanted (wanted_yes rfl rfl ((hd 15 _ rfl (waits_spec rfl)).1) rfl) ?_
            exact flow_move _ (.inl rfl) (by simp) ⟨(hF.same 9 rfl), fun h => absurd h (by decide)⟩
          · intro a w2 hB hF hd
            refine flow_wanted (wanted_yes rfl rfl ((hd 15 _ rfl (waits_spec rfl)).1) rfl) ?_
            exact flow_move _ (.inl rfl) (by simp) ⟨(hF.same 10 rfl), fun h => absurd h (by decide)⟩
          · intro a w2 hB hF hd
            refine flow_wanted (wanted_yes rfl rfl ((hd 15 _ rfl (waits_spec rfl)).1) rfl) ?_
            refine flow_call _ _ _ rfl Try.call22 _ (args2 ((hd 19 _ rfl (waits_spec rfl)).1) ((hd 20 _ rfl (waits_spec rfl)).1)) (by simp) ((fSame_any _ _ (X % Pr) (Y % Pr) (modP16 X) (modP16 Y) w2 (H9.out.below hB) (H10.out.below hB)).mono ?_)
            rintro e w3 ⟨rfl, hb⟩; exact ⟨_, rfl, ⟨rfl, fun h => absurd h (by decide)⟩, hb⟩
          · intro a w2 hB hF hd
            refine flow_wanted (wanted_yes rfl rfl ((hd 15 _ rfl (waits_spec rfl)).1) rfl) ?_
            refine flow_val (fun h => by cases h) (Go.Bas.run_eql_bool rfl ((hd 18 _ rfl (waits_spec rfl)).1) ((hd 21 _ rfl (waits_spec rfl)).1) Try.underlying4) ?_
            exact ⟨(congrArg Value.bool (eq_same X Y)), fun h => absurd h (by decide)⟩
          · intro a w2 hB hF hd
            rw [if_pos (wanted_none rfl)]
            exact flow_val (fun h => by cases h) (run_pick rfl ((hd 15 _ rfl (waits_spec rfl)).1)) ⟨(((hd 22 _ rfl (waits_spec rfl)).1)), fun h => absurd h (by decide)⟩
          · intro a w2 hB hF hd
            rw [if_pos (wanted_none rfl)]
            exact flow_move _ (.inl rfl) (by simp) ⟨((hd 23 _ rfl (waits_spec rfl)).1), fun h => absurd h (by decide)⟩
          · intro a w2 hB hF hd
            refine flow_wanted (wanted_yes rfl rfl ((hd 24 _ rfl (waits_spec rfl)).1) rfl) ?_
            exact flow_move _ (.inl rfl) (by simp) ⟨(hF.same 2 rfl), fun h => absurd h (by decide)⟩
          · intro a w2 hB hF hd
            refine flow_wanted (wanted_yes rfl rfl ((hd 24 _ rfl (waits_spec rfl)).1) rfl) ?_
            refine flow_call _ _ _ rfl Try.call23 _ (args1 ((hd 25 _ rfl (waits_spec rfl)).1)) (by simp) ((feSmall_any n w2).mono ?_)
            rintro e w3 ⟨rfl, hb⟩; exact ⟨_, rfl, ⟨rfl, fun h => absurd h (by decide)⟩, hb⟩
          · intro a w2 hB hF hd
            refine flow_wanted (wanted_yes rfl rfl ((hd 24 _ rfl (waits_spec rfl)).1) rfl) ?_
            refine flow_call _ _ _ rfl Try.call18 _ (args1 ((hd 26 _ rfl (waits_spec rfl)).1)) (by simp) ((feBytes_any (smallF n) ((smallN n)) (fe_smallF n) w2).mono ?_)
            rintro e w3 ⟨rfl, hb⟩; exact ⟨_, rfl, ⟨rfl, fun h => absurd h (by decide)⟩, hb⟩
          · intro a w2 hB hF hd
            refine flow_wanted (wanted_yes rfl rfl ((hd 24 _ rfl (waits_spec rfl)).1) rfl) ?_
            exact flow_move _ (.inl rfl) (by simp) ⟨(hF.same 11 rfl), fun h => absurd h (by decide)⟩
          · intro a w2 hB hF hd
            refine flow_wanted (wanted_yes rfl rfl ((hd 24 _ rfl (waits_spec rfl)).1) rfl) ?_
            refine flow_call _ _ _ rfl Try.call24 _ (args1 ((hd 28 _ rfl (waits_spec rfl)).1)) (by simp) ((rSmall_rd 0 (by omega) (by omega) w2).mono ?_)
            rintro e w3 ⟨u, rfl, hr, hb⟩; exact ⟨u, rfl, ⟨trivial, fun _ => hr⟩, hb⟩
          · intro a w2 hB hF hd
            refine flow_wanted (wanted_yes rfl rfl ((hd 24 _ rfl (waits_spec rfl)).1) rfl) ?_
            refine flow_call _ _ _ rfl Try.call19 _ (args1 rfl) (by simp) ((rBytes_any _ 0 16 (by decide) w2 ((hd 29 _ rfl (waits_spec rfl)).2 rfl)).mono ?_)
            rintro e w3 ⟨rfl, hb⟩; exact ⟨_, rfl, ⟨rfl, fun h => absurd h (by decide)⟩, hb⟩
          · intro a w2 hB hF hd
            refine flow_wanted (wanted_yes rfl rfl ((hd 24 _ rfl (waits_spec rfl)).1) rfl) ?_
            exact flow_val (fun h => by cases h) (run_eql_arr true rfl ((hd 27 _ rfl (waits_spec rfl)).1) ((hd 30 _ rfl (waits_spec rfl)).1) Try.underlying22 (by kernel_rfl) (by kernel_rfl) (by kernel_rfl) (by kernel_rfl) (by kernel_rfl) (sameB_num ((smallN_mod _).trans hs))) ⟨rfl, fun h => absurd h (by decide)⟩
          · intro a w2 hB hF hd
            rw [if_pos (wanted_none rfl)]
            exact flow_val (fun h => by cases h) (run_pick rfl ((hd 24 _ rfl (waits_spec rfl)).1)) ⟨(((hd 31 _ rfl (waits_spec rfl)).1)), fun h => absurd h (by decide)⟩
          · intro a w2 hB hF hd
            rw [if_pos (wanted_none rfl)]
            exact flow_move _ (.inl rfl) (by simp) ⟨((hd 32 _ rfl (waits_spec rfl)).1), fun h => absurd h (by decide)⟩
          · intro a w2 hB hF hd
            refine flow_wanted (wanted_yes rfl rfl ((hd 33 _ rfl (waits_spec rfl)).1) rfl) ?_
            exact flow_val (fun h => by cases h) (run_built rfl (build_el' _)) ⟨rfl, fun h => absurd h (by decide)⟩
          · intro a w2 hB hF hd
            refine flow_wanted (wanted_yes rfl rfl ((hd 33 _ rfl (waits_spec rfl)).1) rfl) ?_
            refine flow_call _ _ _ rfl Try.call18 _ (args1 ((hd 34 _ rfl (waits_spec rfl)).1)) (by simp) ((feBytes_any (fun _ => 0) (0) fe_zero w2).mono ?_)
            rintro e w3 ⟨rfl, hb⟩; exact ⟨_, rfl, ⟨rfl, fun h => absurd h (by decide)⟩, hb⟩
          · intro a w2 hB hF hd
            refine flow_wanted (wanted_yes rfl rfl ((hd 33 _ rfl (waits_spec rfl)).1) rfl) ?_
            exact flow_val (fun h => by cases h) (run_built rfl (build_nil _)) ⟨rfl, fun h => absurd h (by decide)⟩
          · intro a w2 hB hF hd
            refine flow_wanted (wanted_yes rfl rfl ((hd 33 _ rfl (waits_spec rfl)).1) rfl) ?_
            exact flow_val (fun h => by cases h) (run_eql_arr true rfl ((hd 35 _ rfl (waits_spec rfl)).1) ((hd 36 _ rfl (waits_spec rfl)).1) Try.underlying22 (by kernel_rfl) (by kernel_rfl) (by kernel_rfl) (by kernel_rfl) (by kernel_rfl) (sameB_num rfl)) ⟨rfl, fun h => absurd h (by decide)⟩
          · intro a w2 hB hF hd
            rw [if_pos (wanted_none rfl)]
            exact flow_val (fun h => by cases h) (run_pick rfl ((hd 33 _ rfl (waits_spec rfl)).1)) ⟨(((hd 37 _ rfl (waits_spec rfl)).1)), fun h => absurd h (by decide)⟩
          · intro a w2 hB hF hd
            rw [if_pos (wanted_none rfl)]
            exact flow_move _ (.inr rfl) (by simp) ⟨((hd 38 _ rfl (waits_spec rfl)).1), fun h => absurd h (by decide)⟩
        · intro a w5 hB hF hS
          obtain ⟨x58, hx58⟩ : ∃ x, x = a.tmps.getD 58 undef := ⟨_, rfl⟩
          have ha := puts_each rfl rfl hF [_, _, _, _, _, _, _, _, _, _, _, _, _, _, _, _, _, _, _, _, _, _, _, _, _, _, _, _, _, x58, _, _, _, _, _, _, _, _, _, _] rfl ⟨(hS 0 _ rfl).1, (hS 1 _ rfl).1, (hS 2 _ rfl).1, (hS 3 _ rfl).1, (hS 4 _ rfl).1, (hS 5 _ rfl).1, (hS 6 _ rfl).1, (hS 7 _ rfl).1, (hS 8 _ rfl).1, (hS 9 _ rfl).1, (hS 10 _ rfl).1, (hS 11 _ rfl).1, (hS 12 _ rfl).1, (hS 13 _ rfl).1, (hS 14 _ rfl).1, (hS 15 _ rfl).1, (hS 16 _ rfl).1, (hS 17 _ rfl).1, (hS 18 _ rfl).1, (hS 19 _ rfl).1, (hS 20 _ rfl).1, (hS 21 _ rfl).1, (hS 22 _ rfl).1, (hS 23 _ rfl).1, (hS 24 _ rfl).1, (hS 25 _ rfl).1, (hS 26 _ rfl).1, (hS 27 _ rfl).1, (hS 28 _ rfl).1, hx58.symm, (hS 30 _ rfl).1, (hS 31 _ rfl).1, (hS 32 _ rfl).1, (hS 33 _ rfl).1, (hS 34 _ rfl).1, (hS 35 _ rfl).1, (hS 36 _ rfl).1, (hS 37 _ rfl).1, (hS 38 _ rfl).1, (hS 39 _ rfl).1, trivial⟩
          simp only [puts, Act.put, List.setIfInBounds_toArray, List.set_cons_succ, List.set_cons_zero] at ha
          subst ha
          clear hx58
          clear hS hF
          have hbf := hb4.trans (hB.mono hb4.size)
          clear hx hy hb4 hB
          go_wp2
          go_ret
          exact ⟨rfl, hbf⟩
end Go.Proofs.Ytjmagojmfiabfaa
