/-
  The law FeRoots answers true.
-/
import Derived.Test.YtjmagojmfiabfaaFr4
namespace Go.Proofs.Ytjmagojmfiabfaa
open Go.RowKit Go.Bas Go.ChangeShapes
attribute [local go_sem ↓] Go.wp_at_zero Go.wp_at_succ

theorem fSquare_yes (va : Value) (X : Int) (q : Bool) (h : isSq X = q) (w : World) (ha : Rd .i64 w va 16 (dg 65536 (X % Pr))) :
    Calls Try.prog 38 #[va] w fun e w' => e = .returned (.bool q) ∧ Below w.heap.size w w' := by
  rw [← h]; exact fSquare_any va X w ha
theorem even_digit {R : Int} (h : R % Pr % 2 = 0) : Int.tmod (dg 65536 (R % Pr) 0) 2 = 0 := by
  have := dg_bound (by decide : (0 : Int) < 65536) (R % Pr) 0
  rw [Int.tmod_eq_emod_of_nonneg this.1, dg_zero]; omega

set_option maxRecDepth 100000 in
set_option maxHeartbeats 25600000 in
theorem feRoots_law (w : World) (fb : Nat → Int) (hb : ∀ i, i < 32 → (Lit.int .u8 (fb i)).wf = true) :
    Calls Try.prog 6 #[.agg (arr .u8 32 fb)] w fun e w' => e = .returned (.bool true) ∧ Below w.heap.size w w' := by
  obtain ⟨B, eB, hB⟩ := num32 fb hb
  rw [eB]
  clear hB hb eB
  go_enter Try.func6, Try.ntmps6
  have hB1 : Arr .u8 (w.alloc (.cells (arr .u8 32 (dg 256 B)) 22)) w.heap.size 32 (dg 256 B) := Arr.newAt rfl rfl
  have hb1 : Below w.heap.size w (w.alloc (.cells (arr .u8 32 (dg 256 B)) 22)) := (Below.refl _ _).alloc (Nat.le_refl _) _
  go_wp2_with fail
  refine (awake_any _).mono ?_
  rintro e w2 ⟨rfl, hb2⟩
  have hBb := hB1.kept hb2
  have hbel := hb1.trans (hb2.mono hb1.size)
  clear hB1 hb1 hb2
  go_wp2
  refine region_vars (n := 66) (by kernel_rfl) (by kernel_rfl) (by kernel_rfl) rfl
    (isAl [(5, 4)]) (putOf [(5, 4)]) (fun _ => arr .i64 16 (fun _ => 0)) (fun _ => (arr .i64 16 (dg 65536 (B % 2 ^ 255)))) (fun _ => 26) (fun _ => 3)
    (fun i v w => (match i with | 0 | 2 => v = .agg (arr .u8 32 (dg 256 B)) | 1 => v = .agg (arr .i64 16 (dg 65536 (B % 2 ^ 255))) | _ => True) ∧ (i = 3 → Own .i64 3 0 w v 16 (dg 65536 (B % 2 ^ 255 % Pr))) ∧ (i = 6 → Own .i64 3 0 w v 16 (dg 65536 (B % 2 ^ 255 % Pr)))) (KeepT [26]) (fun _ _ h => KeepT.below h) (fun w b cs p _ _ hz => KeepT.row hz rfl) (fun i v w w' h hE => ⟨h.1, fun e => Own.keepT rfl (h.2.1 e) hE, fun e => Own.keepT rfl (h.2.2 e) hE⟩)
    (vs_al rfl) (vs_inj rfl) ?_ ?_ ?_ ?_
  · refine Each.all ?_
    refine ⟨?_, ?_, ?_, ?_, (fun h => by cases h), (fun _ h => by cases h), ?_, trivial⟩
    · intro _ _ a w2 hB hF hd
      rw [if_pos (wanted_none rfl)]
      exact flow_val (fun h => by cases h) (run_load_str rfl Try.underlying22 rfl Try.size22 (hF.same 1 rfl) (hBb.below hB hBb.lt)) ⟨rfl, fun h => absurd h (by decide), fun h => absurd h (by decide)⟩
    · intro _ _ a w2 hB hF hd
      rw [if_pos (wanted_none rfl)]
      refine flow_call _ _ _ rfl Try.call16 _ (args1 ((hd 0 _ rfl rfl rfl (waits_spec rfl)).1)) (by simp) ((feOf_any B w2).mono ?_)
      rintro e w3 ⟨rfl, hb⟩; exact ⟨_, rfl, ⟨rfl, fun h => absurd h (by decide), fun h => absurd h (by decide)⟩, hb⟩
    · intro _ _ a w2 hB hF hd
      rw [if_pos (wanted_none rfl)]
      exact flow_val (fun h => by cases h) (run_load_str rfl Try.underlying22 rfl Try.size22 (hF.same 1 rfl) (hBb.below hB hBb.lt)) ⟨rfl, fun h => absurd h (by decide), fun h => absurd h (by decide)⟩
    · intro _ _ a w2 hB hF hd
      rw [if_pos (wanted_none rfl)]
      refine flow_call _ _ _ rfl Try.call17 _ (args1 ((hd 2 _ rfl rfl rfl (waits_spec rfl)).1)) (by simp) ((fOf_own B w2).mono ?_)
      rintro e w3 ⟨u, rfl, hr, hb⟩; exact ⟨u, rfl, ⟨trivial, fun _ => hr, fun h => absurd h (by decide)⟩, hb⟩
    · intro _ _ a w2 hB hF hd
      rw [if_pos (wanted_none rfl)]
      exact flow_move _ (.inr rfl) (by simp) ⟨trivial, fun h => absurd h (by decide), fun _ => ((hd 3 _ rfl rfl rfl (waits_spec rfl)).2.1 rfl)⟩
  · refine Each.all ?_
    refine ⟨(fun h => by cases h), (fun h => by cases h), (fun h => by cases h), (fun h => by cases h), ?_, (fun h => by cases h), (fun h => by cases h), trivial⟩
    · exact fun _ => ⟨rfl, rfl, fun a w2 K h => flow_alloc rfl rfl Try.zeroValue26 (by simp) h⟩
  · refine Each.all ?_
    refine ⟨(fun _ h => by cases h), (fun _ h => by cases h), (fun _ h => by cases h), (fun _ h => by cases h), (fun _ h => by cases h), ?_, (fun _ h => by cases h), trivial⟩
    · intro p hp
      obtain rfl : 4 = p := Option.some.inj hp
      exact ⟨rfl, rfl, ⟨_, rfl⟩, waits_spec rfl, fun a w2 b K hB hF hd hx hb h => flow_put rfl rfl Try.size26 hx ((hd 1 _ rfl rfl rfl (waits_spec rfl)).1) hb h⟩
  · intro a w3 blk hB hF hS hv hfin hdis
    obtain ⟨v4, v4l, v4u⟩ := hv 4 _ rfl rfl
    obtain ⟨x15, hx15⟩ : ∃ x, x = a.tmps.getD 15 undef := ⟨_, rfl⟩
    have P15 : Own .i64 3 0 w3 x15 16 (dg 65536 (B % 2 ^ 255 % Pr)) := by rw [hx15]; exact (hS 3 _ rfl rfl rfl).2.1 rfl
    obtain ⟨x4, hx4⟩ : ∃ x, x = a.tmps.getD 4 undef := ⟨_, rfl⟩
    have P4 : Own .i64 3 0 w3 x4 16 (dg 65536 (B % 2 ^ 255 % Pr)) := by rw [hx4]; exact (hS 6 _ rfl rfl rfl).2.2 rfl
    have ha := puts_each rfl rfl hF [_, _, _, x15, _, undef, x4] rfl ⟨(hS 0 _ rfl rfl rfl).1, (hS 1 _ rfl rfl rfl).1, (hS 2 _ rfl rfl rfl).1, hx15.symm, v4, trivial, hx4.symm, trivial⟩
    have f4 := hfin 5 _ 4 rfl rfl
    simp only [puts, Act.put, List.setIfInBounds_toArray, List.set_cons_succ, List.set_cons_zero] at ha
    subst ha
    clear hx15 hx4
    have V4 : Arr .i64 w3 (blk 4) 16 (dg 65536 (B % 2 ^ 255)) := ⟨_, f4⟩
    clear hS hv hfin hdis hF v4 f4
    have hb3 := hbel.trans (hB.mono hbel.size)
    have H4 := Lib.hid P4.rd
    obtain ⟨x, hxe⟩ : ∃ x, x = blk 4 := ⟨_, rfl⟩
    rw [← hxe] at V4 ⊢
    obtain ⟨X, hXe⟩ : ∃ X, X = B % 2 ^ 255 := ⟨_, rfl⟩
    have HFX := Lib.hid (feOf_fe B)
    rw [← hXe] at HFX V4 H4 ⊢
    have hx := V4
    clear hxe hXe V4 P4 P15 hBb hbel hB v4l v4u
    rcases hsq : isSq X with _ | _
    · have HSQ := Lib.hid hsq
      clear hsq
      go_wp2_with (refine load_str rfl 26 _ rfl .i64 x 16 _ Try.underlying26 rfl Try.size26 rfl hx ?_)
      refine (feRoot_no (dg 65536 X) X HFX.out HSQ.out _).mono ?_
      rintro e w4 ⟨rfl, hb4⟩
      have hbel4 := hb3.trans (hb4.mono hb3.size)
      have H44 := Lib.hid (H4.out.below hb4)
      clear hx hb3 hb4 H4
      go_upto_region 5 with (refine store_arr rfl 26 _ _ rfl .i64 w4.heap.size 16 (fun _ => 0) _ Try.size26 rfl rfl (Arr.newAt rfl rfl) ?_)
      refine wp_world (fun w5 => Arr .i64 w5 w4.heap.size 16 (fun _ => 0) ∧ Below w.heap.size w w5 ∧ Rd .i64 w5 x4 16 (dg 65536 (X % Pr)))
        ⟨Arr.setRow (Arr.newAt (n := 16) (f := fun _ => 0) rfl rfl) _ _, below_setRow' (hbel4.alloc hbel4.size _) hbel4.size _, H44.out.below (below_setRow' ((Below.refl _ _).alloc (Nat.le_refl _) _) (Nat.le_refl _) _)⟩ ?_
      rintro w5 ⟨hr, hbel, hp⟩
      have H45 := Lib.hid hp
      clear hbel4 H44 hp
      go_wp2_with fail
      refine (fSquare_yes _ X false HSQ.out _ H45.out).mono ?_
      rintro e w6 ⟨rfl, hb6⟩
      have hr6 := hr.kept hb6
      have hbel6 := hbel.trans (hb6.mono hbel.size)
      clear hr hbel hb6 H45
      go_wp2_with (refine load_str rfl 26 _ rfl .i64 w4.heap.size 16 _ Try.underlying26 rfl Try.size26 rfl hr6 ?_)
      refine (feBytes_any (fun _ => 0) 0 fe_zero _).mono ?_
      rintro e w7 ⟨rfl, hb7⟩
      have hbel7 := hbel6.trans (hb7.mono hbel6.size)
      clear hr6 hbel6 hb7
      go_wp2_with (first
        | (refine step_val rfl (run_built rfl (build_nil _)) ?_)
        | (refine step_val rfl (run_eql_arr true rfl rfl rfl Try.underlying22 (by kernel_rfl) (by kernel_rfl) (by kernel_rfl) (by kernel_rfl) (by kernel_rfl) (sameB_num (show (0 : Int) % Pr = 0 by decide))) ?_))
      go_ret
      exact ⟨rfl, hbel7⟩
    · have HSQ := Lib.hid hsq
      clear hsq
      go_wp2_with (refine load_str rfl 26 _ rfl .i64 x 16 _ Try.underlying26 rfl Try.size26 rfl hx ?_)
      refine (feRoot_yes (dg 65536 X) X HFX.out HSQ.out _).mono ?_
      rintro e w4 ⟨h, R, rfl, hfe, hrr, hev, hb4⟩
      have HFE := Lib.hid hfe
      have HRR := Lib.hid hrr
      have HEV := Lib.hid hev
      have hx4 := hx.kept hb4
      have hbel4 := hb3.trans (hb4.mono hb3.size)
      have H44 := Lib.hid (H4.out.below hb4)
      have lx := hx4.lt
      clear hx hb3 hb4 H4 hfe hrr hev
      go_upto_region 5 with (refine store_arr rfl 26 _ _ rfl .i64 w4.heap.size 16 (fun _ => 0) _ Try.size26 rfl rfl (Arr.newAt rfl rfl) ?_)
      refine wp_world (fun w5 => Arr .i64 w5 w4.heap.size 16 h ∧ Arr .i64 w5 x 16 (dg 65536 X) ∧ Below w.heap.size w w5 ∧ Rd .i64 w5 x4 16 (dg 65536 (X % Pr)))
        ⟨Arr.setRow (Arr.newAt (n := 16) (f := fun _ => 0) rfl rfl) _ _, Arr.setRowOther (Arr.alloc hx4 _) _ (by omega) _, below_setRow' (hbel4.alloc hbel4.size _) hbel4.size _, H44.out.below (below_setRow' ((Below.refl _ _).alloc (Nat.le_refl _) _) (Nat.le_refl _) _)⟩ ?_
      rintro w5 ⟨hr, hx5, hbel, hp⟩
      have H45 := Lib.hid hp
      clear hbel4 H44 hp hx4
      go_wp2_with fail
      refine (fSquare_yes _ X true HSQ.out _ H45.out).mono ?_
      rintro e w6 ⟨rfl, hb6⟩
      have hr6 := hr.kept hb6
      have hx6 := hx5.kept hb6
      have H46 := Lib.hid (H45.out.below hb6)
      have hbel6 := hbel.trans (hb6.mono hbel.size)
      clear hr hx5 hbel hb6 H45
      go_wp2_with (refine load_str rfl 26 _ rfl .i64 w4.heap.size 16 _ Try.underlying26 rfl Try.size26 rfl hr6 ?_)
      refine (feBytes_any h R HFE.out _).mono ?_
      rintro e w7 ⟨rfl, hb7⟩
      have hx7 := hx6.kept hb7
      have H47 := Lib.hid (H46.out.below hb7)
      have hbel7 := hbel6.trans (hb7.mono hbel6.size)
      clear hr6 hx6 hbel6 hb7 H46
      go_wp2_with fail
      refine (fOf_canon R _).mono ?_
      rintro e w8 ⟨d, rfl, hd, hb8⟩
      have hd' := hd
      obtain ⟨a9, c9, rfl, l9, m9, z9, h9⟩ := hd'
      obtain ⟨b9, o9, rfl, s9, e9⟩ := h9 (by decide)
      have E9 := Lib.hid (e9 0 (by decide))
      have HD := Lib.hid hd
      have hx8 := hx7.kept hb8
      have H48 := Lib.hid (H47.out.below hb8)
      have hbel8 := hbel7.trans (hb8.mono hbel7.size)
      clear hx7 hbel7 hb8 H47 hd z9 h9 e9
      go_upto_region 10 with (fail)
      refine region_flow (n := 66) (by kernel_rfl) (by kernel_rfl) (by kernel_rfl) rfl
        (fun i v w => (match i with | 0 | 1 | 7 => v = .slice (some ⟨b9, o9, none⟩) 16 c9 | 3 => v = x4 | 4 => v = .bool true | 5 | 6 | 11 | 12 => v = .bool false | 8 => v = .pointer (some ⟨b9, o9, none⟩) | 9 => v = .int .i64 (dg 65536 (R % Pr) 0) | 10 => v = .int .i64 (0) | _ => True) ∧ (i = 2 → Rd .i64 w v 16 (dg 65536 (R * R % Pr))))
        (fun w w' => Below w.heap.size w w') (fun _ _ h => h) (fun i v w w' h hE => ⟨h.1, fun e => Rd.below (h.2 e) hE⟩) ?_ ?_
      · refine Each.all ?_
        refine ⟨?_, ?_, ?_, ?_, ?_, ?_, ?_, ?_, ?_, ?_, ?_, ?_, ?_, trivial⟩
        · intro a w2 hB hF hd
          rw [if_pos (wanted_none rfl)]
          exact flow_move _ (.inl rfl) (by simp) ⟨(hF.same 7 rfl), fun h => absurd h (by decide)⟩
        · intro a w2 hB hF hd
          rw [if_pos (wanted_none rfl)]
          exact flow_move _ (.inl rfl) (by simp) ⟨(hF.same 7 rfl), fun h => absurd h (by decide)⟩
        · intro a w2 hB hF hd
          rw [if_pos (wanted_none rfl)]
          refine flow_call _ _ _ rfl Try.call30 _ (args2 ((hd 0 _ rfl (waits_spec rfl)).1) ((hd 1 _ rfl (waits_spec rfl)).1)) (by simp) ((fMul_rd R R _ _ w2 (HD.out.below hB) (HD.out.below hB)).mono ?_)
          rintro e w3 ⟨u, rfl, hr, hb⟩; exact ⟨u, rfl, ⟨trivial, fun _ => hr⟩, hb⟩
        · intro a w2 hB hF hd
          rw [if_pos (wanted_none rfl)]
          exact flow_move _ (.inl rfl) (by simp) ⟨(hF.same 4 rfl), fun h => absurd h (by decide)⟩
        · intro a w2 hB hF hd
          rw [if_pos (wanted_none rfl)]
          refine flow_call _ _ _ rfl Try.call22 _ (args2 rfl ((hd 3 _ rfl (waits_spec rfl)).1)) (by simp) ((fSame_yes _ _ (R * R) X HRR.out w2 ((hd 2 _ rfl (waits_spec rfl)).2 rfl) (H48.out.below hB)).mono ?_)
          rintro e w3 ⟨rfl, hb⟩; exact ⟨_, rfl, ⟨rfl, fun h => absurd h (by decide)⟩, hb⟩
        · intro a w2 hB hF hd
          rw [if_pos (wanted_none rfl)]
          exact flow_val (fun h => by cases h) (run_not rfl ((hd 4 _ rfl (waits_spec rfl)).1)) ⟨rfl, fun h => absurd h (by decide)⟩
        · intro a w2 hB hF hd
          rw [if_pos (wanted_none rfl)]
          exact flow_move _ (.inl rfl) (by simp) ⟨((hd 5 _ rfl (waits_spec rfl)).1), fun h => absurd h (by decide)⟩
        · intro a w2 hB hF hd
          refine flow_wanted (wanted_yes rfl rfl ((hd 6 _ rfl (waits_spec rfl)).1) rfl) ?_
          exact flow_move _ (.inl rfl) (by simp) ⟨(hF.same 7 rfl), fun h => absurd h (by decide)⟩
        · intro a w2 hB hF hd
          refine flow_wanted (wanted_yes rfl rfl ((hd 6 _ rfl (waits_spec rfl)).1) rfl) ?_
          exact flow_val (fun h => by cases h) (run_index_slice rfl ((hd 7 _ rfl (waits_spec rfl)).1) rfl Try.underlying28 (by kernel_rfl) (by decide) (by decide)) ⟨rfl, fun h => absurd h (by decide)⟩
        · intro a w2 hB hF hd
          refine flow_wanted (wanted_yes rfl rfl ((hd 6 _ rfl (waits_spec rfl)).1) rfl) ?_
          exact flow_val (fun h => by cases h) (run_load_cell rfl ((hd 8 _ rfl (waits_spec rfl)).1) Try.underlying3 ((hB.cell s9).trans E9.out)) ⟨rfl, fun h => absurd h (by decide)⟩
        · intro a w2 hB hF hd
          refine flow_wanted (wanted_yes rfl rfl ((hd 6 _ rfl (waits_spec rfl)).1) rfl) ?_
          exact flow_val (fun h => by cases h) (Go.Bas.run_rem rfl ((hd 9 _ rfl (waits_spec rfl)).1) rfl (by decide)) ⟨(congrArg (Value.int .i64) (even_digit HEV.out)), fun h => absurd h (by decide)⟩
        · intro a w2 hB hF hd
          refine flow_wanted (wanted_yes rfl rfl ((hd 6 _ rfl (waits_spec rfl)).1) rfl) ?_
          exact flow_val (fun h => by cases h) (Go.Bas.run_neq_int rfl ((hd 10 _ rfl (waits_spec rfl)).1) rfl) ⟨(congrArg Value.bool (rfl)), fun h => absurd h (by decide)⟩
        · intro a w2 hB hF hd
          rw [if_pos (wanted_none rfl)]
          exact flow_val (fun h => by cases h) (run_pick rfl ((hd 6 _ rfl (waits_spec rfl)).1)) ⟨(((hd 11 _ rfl (waits_spec rfl)).1)), fun h => absurd h (by decide)⟩
      · intro a w9 hB hF hS
        obtain ⟨x36, hx36⟩ : ∃ x, x = a.tmps.getD 36 undef := ⟨_, rfl⟩
        have ha := puts_each rfl rfl hF [_, _, x36, _, _, _, _, _, _, _, _, _, _] rfl ⟨(hS 0 _ rfl).1, (hS 1 _ rfl).1, hx36.symm, (hS 3 _ rfl).1, (hS 4 _ rfl).1, (hS 5 _ rfl).1, (hS 6 _ rfl).1, (hS 7 _ rfl).1, (hS 8 _ rfl).1, (hS 9 _ rfl).1, (hS 10 _ rfl).1, (hS 11 _ rfl).1, (hS 12 _ rfl).1, trivial⟩
        simp only [puts, Act.put, List.setIfInBounds_toArray, List.set_cons_succ, List.set_cons_zero] at ha
        subst ha
        clear hx36
        clear hS hF
        have hx9 := hx8.below hB hx8.lt
        have hbel9 := hbel8.trans (hB.mono hbel8.size)
        clear hx8 hbel8 hB H48
        go_wp2_with (refine load_str rfl 26 _ rfl .i64 x 16 _ Try.underlying26 rfl Try.size26 rfl hx9 ?_)
        refine (feMul_any (dg 65536 X) (dg 65536 X) X X HFX.out HFX.out _).mono ?_
        rintro e w10 ⟨rfl, hb10⟩
        have hx10 := hx9.kept hb10
        have hbel10 := hbel9.trans (hb10.mono hbel9.size)
        clear hx9 hbel9 hb10
        go_wp2_with fail
        refine (feRoot_yes (mulF (dg 65536 X) (dg 65536 X)) (X * X) (HFX.out.mulF HFX.out) (sq_isSq rfl) _).mono ?_
        rintro e w11 ⟨g, S, rfl, hgf, hss, hsv, hb11⟩
        have HGF := Lib.hid hgf
        have HSS := Lib.hid (two_roots hss)
        have hx11 := hx10.kept hb11
        have hbel11 := hbel10.trans (hb11.mono hbel10.size)
        have lx11 := hx11.lt
        clear hx10 hbel10 hb11 hgf hss hsv
        go_upto_region 13 with (refine store_arr rfl 26 _ _ rfl .i64 w11.heap.size 16 (fun _ => 0) _ Try.size26 rfl rfl (Arr.newAt rfl rfl) ?_)
        refine wp_world (fun w12 => Arr .i64 w12 w11.heap.size 16 g ∧ Arr .i64 w12 x 16 (dg 65536 X) ∧ Below w.heap.size w w12)
          ⟨Arr.setRow (Arr.newAt (n := 16) (f := fun _ => 0) rfl rfl) _ _, Arr.setRowOther (Arr.alloc hx11 _) _ (by omega) _, below_setRow' (hbel11.alloc hbel11.size _) hbel11.size _⟩ ?_
        rintro w12 ⟨hg12, hx12, hbel12⟩
        clear hx11 hbel11 lx11
        by_cases hsx : S % Pr = X % Pr
        · have HSX := Lib.hid hsx
          clear hsx
          refine region_flow (n := 66) (by kernel_rfl) (by kernel_rfl) (by kernel_rfl) rfl
            (fun i v _ => (match i with | 0 | 1 | 4 | 5 | 10 | 11 | 12 => v = .bool true | 2 => v = .agg (arr .i64 16 (g)) | 3 => v = .agg (arr .i64 16 (dg 65536 X)) | 6 | 7 | 8 | 9 => v = undef | _ => True))
            (fun w w' => Below w.heap.size w w') (fun _ _ h => h) (fun _ _ _ _ h _ => h) ?_ ?_
          · refine Each.all ?_
            refine ⟨?_, ?_, ?_, ?_, ?_, ?_, ?_, ?_, ?_, ?_, ?_, ?_, ?_, trivial⟩
            · intro a w2 hB hF hd
              rw [if_pos (wanted_none rfl)]
              exact flow_move _ (.inl rfl) (by simp) (hF.same 9 rfl)
            · intro a w2 hB hF hd
              rw [if_pos (wanted_none rfl)]
              exact flow_move _ (.inl rfl) (by simp) (hd 0 _ rfl (waits_spec rfl))
            · intro a w2 hB hF hd
              refine flow_wanted (wanted_yes rfl rfl (hd 1 _ rfl (waits_spec rfl)) rfl) ?_
              exact flow_val (fun h => by cases h) (run_load_str rfl Try.underlying26 rfl Try.size26 (hF.same 8 rfl) (hg12.below hB hg12.lt)) rfl
            · intro a w2 hB hF hd
              refine flow_wanted (wanted_yes rfl rfl (hd 1 _ rfl (waits_spec rfl)) rfl) ?_
              exact flow_val (fun h => by cases h) (run_load_str rfl Try.underlying26 rfl Try.size26 (hF.same 3 rfl) (hx12.below hB hx12.lt)) rfl
            · intro a w2 hB hF hd
              refine flow_wanted (wanted_yes rfl rfl (hd 1 _ rfl (waits_spec rfl)) rfl) ?_
              refine flow_call _ _ _ rfl Try.call21 _ (args2 (hd 2 _ rfl (waits_spec rfl)) (hd 3 _ rfl (waits_spec rfl))) (by simp) ((feEqual_yes (g) (dg 65536 X) S X HGF.out HFX.out HSX.out w2).mono ?_)
              rintro e w3 ⟨rfl, hb⟩; exact ⟨_, rfl, rfl, hb⟩
            · intro a w2 hB hF hd
              refine flow_wanted (wanted_yes rfl rfl (hd 1 _ rfl (waits_spec rfl)) rfl) ?_
              exact flow_move _ (.inl rfl) (by simp) (hd 4 _ rfl (waits_spec rfl))
            · intro a w2 hB hF hd
              rw [if_neg (by rw [wanted_some rfl rfl (hd 5 _ rfl (waits_spec rfl))]; decide)]
              exact rfl
            · intro a w2 hB hF hd
              rw [if_neg (by rw [wanted_some rfl rfl (hd 5 _ rfl (waits_spec rfl))]; decide)]
              exact rfl
            · intro a w2 hB hF hd
              rw [if_neg (by rw [wanted_some rfl rfl (hd 5 _ rfl (waits_spec rfl))]; decide)]
              exact rfl
            · intro a w2 hB hF hd
              rw [if_neg (by rw [wanted_some rfl rfl (hd 5 _ rfl (waits_spec rfl))]; decide)]
              exact rfl
            · intro a w2 hB hF hd
              refine flow_wanted (wanted_yes rfl rfl (hd 1 _ rfl (waits_spec rfl)) rfl) ?_
              exact flow_val (fun h => by cases h) (run_pick rfl (hd 5 _ rfl (waits_spec rfl))) (rfl)
            · intro a w2 hB hF hd
              rw [if_pos (wanted_none rfl)]
              exact flow_val (fun h => by cases h) (run_pick rfl (hd 1 _ rfl (waits_spec rfl))) ((hd 10 _ rfl (waits_spec rfl)))
            · intro a w2 hB hF hd
              rw [if_pos (wanted_none rfl)]
              exact flow_move _ (.inr rfl) (by simp) (hd 11 _ rfl (waits_spec rfl))
          · intro a w13 hB hF hS
            have ha := puts_each rfl rfl hF [_, _, _, _, _, _, _, _, _, _, _, _, _] rfl ⟨hS 0 _ rfl, hS 1 _ rfl, hS 2 _ rfl, hS 3 _ rfl, hS 4 _ rfl, hS 5 _ rfl, hS 6 _ rfl, hS 7 _ rfl, hS 8 _ rfl, hS 9 _ rfl, hS 10 _ rfl, hS 11 _ rfl, hS 12 _ rfl, trivial⟩
            simp only [puts, Act.put, List.setIfInBounds_toArray, List.set_cons_succ, List.set_cons_zero] at ha
            subst ha
            clear hS hF
            have hbf := hbel12.trans (hB.mono hbel12.size)
            clear hg12 hx12 hbel12 hB
            go_wp2
            go_ret
            exact ⟨rfl, hbf⟩
        · have HSN := Lib.hid (HSS.out.resolve_left hsx)
          have HSX := Lib.hid hsx
          clear hsx
          refine region_flow (n := 66) (by kernel_rfl) (by kernel_rfl) (by kernel_rfl) rfl
            (fun i v _ => (match i with | 0 | 1 | 9 | 10 | 11 | 12 => v = .bool true | 2 | 6 => v = .agg (arr .i64 16 (g)) | 3 | 7 => v = .agg (arr .i64 16 (dg 65536 X)) | 4 | 5 => v = .bool false | 8 => v = .agg (arr .i64 16 (negF (dg 65536 X))) | _ => True))
            (fun w w' => Below w.heap.size w w') (fun _ _ h => h) (fun _ _ _ _ h _ => h) ?_ ?_
          · refine Each.all ?_
            refine ⟨?_, ?_, ?_, ?_, ?_, ?_, ?_, ?_, ?_, ?_, ?_, ?_, ?_, trivial⟩
            · intro a w2 hB hF hd
              rw [if_pos (wanted_none rfl)]
              exact flow_move _ (.inl rfl) (by simp) (hF.same 9 rfl)
            · intro a w2 hB hF hd
              rw [if_pos (wanted_none rfl)]
              exact flow_move _ (.inl rfl) (by simp) (hd 0 _ rfl (waits_spec rfl))
            · intro a w2 hB hF hd
              refine flow_wanted (wanted_yes rfl rfl (hd 1 _ rfl (waits_spec rfl)) rfl) ?_
              exact flow_val (fun h => by cases h) (run_load_str rfl Try.underlying26 rfl Try.size26 (hF.same 8 rfl) (hg12.below hB hg12.lt)) rfl
            · intro a w2 hB hF hd
              refine flow_wanted (wanted_yes rfl rfl (hd 1 _ rfl (waits_spec rfl)) rfl) ?_
              exact flow_val (fun h => by cases h) (run_load_str rfl Try.underlying26 rfl Try.size26 (hF.same 3 rfl) (hx12.below hB hx12.lt)) rfl
            · intro a w2 hB hF hd
              refine flow_wanted (wanted_yes rfl rfl (hd 1 _ rfl (waits_spec rfl)) rfl) ?_
              refine flow_call _ _ _ rfl Try.call21 _ (args2 (hd 2 _ rfl (waits_spec rfl)) (hd 3 _ rfl (waits_spec rfl))) (by simp) ((feEqual_no (g) (dg 65536 X) S X HGF.out HFX.out HSX.out w2).mono ?_)
              rintro e w3 ⟨rfl, hb⟩; exact ⟨_, rfl, rfl, hb⟩
            · intro a w2 hB hF hd
              refine flow_wanted (wanted_yes rfl rfl (hd 1 _ rfl (waits_spec rfl)) rfl) ?_
              exact flow_move _ (.inl rfl) (by simp) (hd 4 _ rfl (waits_spec rfl))
            · intro a w2 hB hF hd
              refine flow_wanted (wanted_yes rfl rfl (hd 5 _ rfl (waits_spec rfl)) rfl) ?_
              exact flow_val (fun h => by cases h) (run_load_str rfl Try.underlying26 rfl Try.size26 (hF.same 8 rfl) (hg12.below hB hg12.lt)) rfl
            · intro a w2 hB hF hd
              refine flow_wanted (wanted_yes rfl rfl (hd 5 _ rfl (waits_spec rfl)) rfl) ?_
              exact flow_val (fun h => by cases h) (run_load_str rfl Try.underlying26 rfl Try.size26 (hF.same 3 rfl) (hx12.below hB hx12.lt)) rfl
            · intro a w2 hB hF hd
              refine flow_wanted (wanted_yes rfl rfl (hd 5 _ rfl (waits_spec rfl)) rfl) ?_
              refine flow_call _ _ _ rfl Try.call31 _ (args1 (hd 7 _ rfl (waits_spec rfl))) (by simp) ((feNeg_any (dg 65536 X) X HFX.out w2).mono ?_)
              rintro e w3 ⟨rfl, hb⟩; exact ⟨_, rfl, rfl, hb⟩
            · intro a w2 hB hF hd
              refine flow_wanted (wanted_yes rfl rfl (hd 5 _ rfl (waits_spec rfl)) rfl) ?_
              refine flow_call _ _ _ rfl Try.call21 _ (args2 (hd 6 _ rfl (waits_spec rfl)) (hd 8 _ rfl (waits_spec rfl))) (by simp) ((feEqual_yes (g) (negF (dg 65536 X)) S (-X) HGF.out (HFX.out.negF) HSN.out w2).mono ?_)
              rintro e w3 ⟨rfl, hb⟩; exact ⟨_, rfl, rfl, hb⟩
            · intro a w2 hB hF hd
              refine flow_wanted (wanted_yes rfl rfl (hd 1 _ rfl (waits_spec rfl)) rfl) ?_
              exact flow_val (fun h => by cases h) (run_pick rfl (hd 5 _ rfl (waits_spec rfl))) ((hd 9 _ rfl (waits_spec rfl)))
            · intro a w2 hB hF hd
              rw [if_pos (wanted_none rfl)]
              exact flow_val (fun h => by cases h) (run_pick rfl (hd 1 _ rfl (waits_spec rfl))) ((hd 10 _ rfl (waits_spec rfl)))
            · intro a w2 hB hF hd
              rw [if_pos (wanted_none rfl)]
              exact flow_move _ (.inr rfl) (by simp) (hd 11 _ rfl (waits_spec rfl))
          · intro a w13 hB hF hS
            have ha := puts_each rfl rfl hF [_, _, _, _, _, _, _, _, _, _, _, _, _] rfl ⟨hS 0 _ rfl, hS 1 _ rfl, hS 2 _ rfl, hS 3 _ rfl, hS 4 _ rfl, hS 5 _ rfl, hS 6 _ rfl, hS 7 _ rfl, hS 8 _ rfl, hS 9 _ rfl, hS 10 _ rfl, hS 11 _ rfl, hS 12 _ rfl, trivial⟩
            simp only [puts, Act.put, List.setIfInBounds_toArray, List.set_cons_succ, List.set_cons_zero] at ha
            subst ha
            clear hS hF
            have hbf := hbel12.trans (hB.mono hbel12.size)
            clear hg12 hx12 hbel12 hB
            go_wp2
            go_ret
            exact ⟨rfl, hbf⟩
end Go.Proofs.Ytjmagojmfiabfaa
