/-
  The law FePowers answers true.
-/
import Derived.Test.YtjmagojmfiabfaaFeL
import Derived.Test.YtjmagojmfiabfaaFr3
namespace Go.Proofs.Ytjmagojmfiabfaa
open Go.RowKit Go.Bas Go.ChangeShapes
attribute [local go_sem ↓] Go.wp_at_zero Go.wp_at_succ

theorem fOf_own (X : Int) (w : World) : Calls Try.prog 17 #[.agg (arr .u8 32 (dg 256 X))] w fun e w' => ∃ v, e = .returned v ∧ Own .i64 3 0 w' v 16 (dg 65536 (X % 2 ^ 255 % Pr)) ∧ Below w.heap.size w w' :=
  (fOf_any X w).mono fun _ _ ⟨v, h1, h2, h3⟩ => ⟨v, h1, h2.mono (Nat.zero_le _), h3⟩
theorem canon255 (Y : Int) : Y % Pr % 2 ^ 255 % Pr = Y % Pr := by
  have h := modP Y
  have h2 : (Pr : Int) < 2 ^ 255 := by decide
  rw [Int.emod_eq_of_lt h.1 (Int.lt_trans h.2 h2), Int.emod_emod_of_dvd _ (Int.dvd_refl Pr)]
theorem fOf_canon (Y : Int) (w : World) : Calls Try.prog 17 #[.agg (arr .u8 32 (dg 256 (Y % Pr)))] w fun e w' => ∃ v, e = .returned v ∧ Rd .i64 w' v 16 (dg 65536 (Y % Pr)) ∧ Below w.heap.size w w' := by
  have h := fOf_rd (Y % Pr) w
  rwa [canon255] at h
theorem fZero_yes (va : Value) (X : Int) (h0 : X % Pr = 0) (w : World) (ha : Rd .i64 w va 16 (dg 65536 (X % Pr))) : Calls Try.prog 35 #[va] w fun e w' => e = .returned (.bool true) ∧ Below w.heap.size w w' := by
  have h := fZero_any va (X % Pr) (modP16 X) w ha
  rwa [show eqN (X % Pr) 0 = true from decide_eq_true h0] at h
theorem fZero_no (va : Value) (X : Int) (h0 : ¬ X % Pr = 0) (w : World) (ha : Rd .i64 w va 16 (dg 65536 (X % Pr))) : Calls Try.prog 35 #[va] w fun e w' => e = .returned (.bool false) ∧ Below w.heap.size w w' := by
  have h := fZero_any va (X % Pr) (modP16 X) w ha
  rwa [show eqN (X % Pr) 0 = false from decide_eq_false h0] at h
theorem fSame_yes (va vb : Value) (A B : Int) (h : A % Pr = B % Pr) (w : World) (ha : Rd .i64 w va 16 (dg 65536 (A % Pr))) (hb : Rd .i64 w vb 16 (dg 65536 (B % Pr))) : Calls Try.prog 22 #[va, vb] w fun e w' => e = .returned (.bool true) ∧ Below w.heap.size w w' := by
  have h2 := fSame_any va vb (A % Pr) (B % Pr) (modP16 A) (modP16 B) w ha hb
  rwa [show eqN (A % Pr) (B % Pr) = true from decide_eq_true h] at h2
theorem one_modP : (1 : Int) % Pr = 1 := by decide
theorem inv_one {X : Int} (h : X % Pr ≠ 0) : (invN X * X) % Pr = 1 % Pr := by unfold invN; rw [inv_Pr h, one_modP]
theorem inv_nil {X : Int} (h : X % Pr = 0) : invN X % Pr = 0 := inv_zero h
theorem dg_one_rd {w : World} {v : Value} (h : Rd .i64 w v 16 (dg 65536 1)) : Rd .i64 w v 16 (dg 65536 (1 % Pr)) := by rwa [one_modP]

set_option maxRecDepth 100000 in
set_option maxHeartbeats 25600000 in
theorem fePowers_law (w : World) (fb : Nat → Int) (hb : ∀ i, i < 32 → (Lit.int .u8 (fb i)).wf = true) (fc : Nat → Int) (hc : ∀ i, i < 32 → (Lit.int .u8 (fc i)).wf = true) :
    Calls Try.prog 5 #[.agg (arr .u8 32 fb), .agg (arr .u8 32 fc)] w fun e w' => e = .returned (.bool true) ∧ Below w.heap.size w w' := by
  obtain ⟨B, eB, hB⟩ := num32 fb hb
  obtain ⟨N, eN, hN⟩ := num32 fc hc
  rw [eB, eN]
  have hN2 : 0 ≤ N ∧ N < 2 ^ 256 := by rw [show (2 : Int) ^ 256 = 256 ^ 32 by decide]; exact hN
  have HN := Lib.hid hN2
  clear hB hN hb hc eB eN hN2
  go_enter Try.func5, Try.ntmps5
  have hB1 : Arr .u8 ((w.alloc (.cells (arr .u8 32 (dg 256 B)) 22)).alloc (.cells (arr .u8 32 (dg 256 N)) 22)) w.heap.size 32 (dg 256 B) := Arr.alloc (Arr.newAt rfl rfl) _
  have hC1 : Arr .u8 ((w.alloc (.cells (arr .u8 32 (dg 256 B)) 22)).alloc (.cells (arr .u8 32 (dg 256 N)) 22)) (w.heap.size + 1) 32 (dg 256 N) := Arr.newAt (by first | omega | (simp <;> omega)) rfl
  have hb1 : Below w.heap.size w ((w.alloc (.cells (arr .u8 32 (dg 256 B)) 22)).alloc (.cells (arr .u8 32 (dg 256 N)) 22)) := ((Below.refl _ _).alloc (Nat.le_refl _) _).alloc (by simp) _
  go_wp2_with fail
  refine (awake_any _).mono ?_
  rintro e w2 ⟨rfl, hb2⟩
  have hBb := hB1.kept hb2
  have hC := hC1.kept hb2
  have hbel := hb1.trans (hb2.mono hb1.size)
  clear hB1 hC1 hb1 hb2
  go_wp2
  refine region_vars (n := 77) (by kernel_rfl) (by kernel_rfl) (by kernel_rfl) rfl
    (isAl [(5, 4)]) (putOf [(5, 4)]) (fun _ => arr .i64 16 (fun _ => 0)) (fun _ => (arr .i64 16 (dg 65536 (B % 2 ^ 255)))) (fun _ => 26) (fun _ => 5)
    (fun i v w => (match i with | 0 | 2 => v = .agg (arr .u8 32 (dg 256 B)) | 1 => v = .agg (arr .i64 16 (dg 65536 (B % 2 ^ 255))) | _ => True) ∧ (i = 3 → Own .i64 3 0 w v 16 (dg 65536 (B % 2 ^ 255 % Pr))) ∧ (i = 6 → Own .i64 3 0 w v 16 (dg 65536 (B % 2 ^ 255 % Pr)))) (KeepT [26]) (fun _ _ h => KeepT.below h) (fun w b cs p _ _ hz => KeepT.row hz rfl) (fun i v w w' h hE => ⟨h.1, fun e => Own.keepT rfl (h.2.1 e) hE, fun e => Own.keepT rfl (h.2.2 e) hE⟩)
    (vs_al rfl) (vs_inj rfl) ?_ ?_ ?_ ?_
  · refine Each.all ?_
    refine ⟨?_, ?_, ?_, ?_, (fun h => by cases h), (fun _ h => by cases h), ?_, trivial⟩
    · intro _ _ a w2 hB hF hd
      rw [if_pos (wanted_none rfl)]
      exact flow_val (fun h => by cases h) (run_load_str rfl Try.underlying22 rfl Try.size22 (hF.same 2 rfl) (hBb.below hB hBb.lt)) ⟨rfl, fun h => absurd h (by decide), fun h => absurd h (by decide)⟩
    · intro _ _ a w2 hB hF hd
      rw [if_pos (wanted_none rfl)]
      refine flow_call _ _ _ rfl Try.call16 _ (args1 ((hd 0 _ rfl rfl rfl (waits_spec rfl)).1)) (by simp) ((feOf_any B w2).mono ?_)
      rintro e w3 ⟨rfl, hb⟩; exact ⟨_, rfl, ⟨rfl, fun h => absurd h (by decide), fun h => absurd h (by decide)⟩, hb⟩
    · intro _ _ a w2 hB hF hd
      rw [if_pos (wanted_none rfl)]
      exact flow_val (fun h => by cases h) (run_load_str rfl Try.underlying22 rfl Try.size22 (hF.same 2 rfl) (hBb.below hB hBb.lt)) ⟨rfl, fun h => absurd h (by decide), fun h => absurd h (by decide)⟩
    · intro _ _ a w2 hB hF hd
      rw [if_pos (wanted_none rfl)]
      refine flow_call _ _ _ rfl Try.call17 _ (args1 ((hd 2 _ rfl rfl rfl (waits_spec rfl)).1)) (by simp) ((fOf_own B w2).mono ?_)
      rintro e w3 ⟨u, rfl, hr, hb⟩; exact ⟨u, rfl, ⟨trivial, fun _ => hr, fun h => absurd h (by decide)⟩, hb⟩
    · intro _ _ a w2 hB hF hd
      rw [if_pos (wanted_none rfl)]
      exact flow_move _ (.inr rfl) (by simp) ⟨trivial, fun h => absurd h (by decide), fun _ => ((hd 3 _ rfl rfl rfl (waits_spec rfl)).2.1 rfl)⟩
  · refine Each.all ?_
    refine ⟨(fun h => by cases h), (fun h => by cases h), (fun h => by cases h), (fun h => by cases h), ?_, (fun h => by cases h), (fun h => by cases h), trivial⟩
    · exact fun _ => ⟨rfl, rfl, fun a w2 K h => flow_alloc rfl rfl Try.zeroValue26 (by simp) h⟩
  · refine Each.all ?_
    refine ⟨(fun _ h => by cases h), (fun _ h => by cases h), (fun _ h => by cases h), (fun _ h => by cases h), (fun _ h => by cases h), ?_, (fun _ h => by cases h), trivial⟩
    · intro p hp
      obtain rfl : 4 = p := Option.some.inj hp
      exact ⟨rfl, rfl, ⟨_, rfl⟩, waits_spec rfl, fun a w2 b K hB hF hd hx hb h => flow_put rfl rfl Try.size26 hx ((hd 1 _ rfl rfl rfl (waits_spec rfl)).1) hb h⟩
  · intro a w3 blk hB hF hS hv hfin hdis
    obtain ⟨v4, v4l, v4u⟩ := hv 4 _ rfl rfl
    obtain ⟨x18, hx18⟩ : ∃ x, x = a.tmps.getD 18 undef := ⟨_, rfl⟩
    have P18 : Own .i64 3 0 w3 x18 16 (dg 65536 (B % 2 ^ 255 % Pr)) := by rw [hx18]; exact (hS 3 _ rfl rfl rfl).2.1 rfl
    obtain ⟨x6, hx6⟩ : ∃ x, x = a.tmps.getD 6 undef := ⟨_, rfl⟩
    have P6 : Own .i64 3 0 w3 x6 16 (dg 65536 (B % 2 ^ 255 % Pr)) := by rw [hx6]; exact (hS 6 _ rfl rfl rfl).2.2 rfl
    have ha := puts_each rfl rfl hF [_, _, _, x18, _, undef, x6] rfl ⟨(hS 0 _ rfl rfl rfl).1, (hS 1 _ rfl rfl rfl).1, (hS 2 _ rfl rfl rfl).1, hx18.symm, v4, trivial, hx6.symm, trivial⟩
    have f4 := hfin 5 _ 4 rfl rfl
    simp only [puts, Act.put, List.setIfInBounds_toArray, List.set_cons_succ, List.set_cons_zero] at ha
    subst ha
    clear hx18 hx6
    have V4 : Arr .i64 w3 (blk 4) 16 (dg 65536 (B % 2 ^ 255)) := ⟨_, f4⟩
    clear hS hv hfin hdis hF v4 f4
    have hn := hC.below hB hC.lt
    have hb3 := hbel.trans (hB.mono hbel.size)
    have H6 := Lib.hid P6.rd
    obtain ⟨x, hx⟩ : ∃ x, x = blk 4 := ⟨_, rfl⟩
    rw [← hx] at V4 ⊢
    obtain ⟨X, hXe⟩ : ∃ X, X = B % 2 ^ 255 := ⟨_, rfl⟩
    have HFX := Lib.hid (feOf_fe B)
    rw [← hXe] at HFX V4 H6 ⊢
    have hx := V4
    clear hXe V4 P6 P18 hBb hC hbel hB v4l v4u
    go_upto_region 4 with (fail)
    refine region_flow (n := 77) (by kernel_rfl) (by kernel_rfl) (by kernel_rfl) rfl
      (fun i v w => (match i with | 0 => v = .agg (arr .i64 16 (dg 65536 X)) | 1 | 5 => v = .agg (arr .u8 32 (dg 256 N)) | 2 => v = .agg (arr .i64 16 (powF (dg 65536 X) N)) | 3 | 7 => v = .agg (arr .u8 32 (dg 256 ((X ^ N.toNat) % Pr))) | 4 => v = x6 | 8 => v = .bool false | _ => True) ∧ (i = 6 → Rd .i64 w v 16 (dg 65536 ((X ^ N.toNat) % Pr))))
      (fun w w' => Below w.heap.size w w') (fun _ _ h => h) (fun i v w w' h hE => ⟨h.1, fun e => Rd.below (h.2 e) hE⟩) ?_ ?_
    · refine Each.all ?_
      refine ⟨?_, ?_, ?_, ?_, ?_, ?_, ?_, ?_, ?_, trivial⟩
      · intro a w2 hB hF hd
        rw [if_pos (wanted_none rfl)]
        exact flow_val (fun h => by cases h) (run_load_str rfl Try.underlying26 rfl Try.size26 (hF.same 5 rfl) (hx.below hB hx.lt)) ⟨rfl, fun h => absurd h (by decide)⟩
      · intro a w2 hB hF hd
        rw [if_pos (wanted_none rfl)]
        exact flow_val (fun h => by cases h) (run_load_str rfl Try.underlying22 rfl Try.size22 (hF.same 3 rfl) (hn.below hB hn.lt)) ⟨rfl, fun h => absurd h (by decide)⟩
      · intro a w2 hB hF hd
        rw [if_pos (wanted_none rfl)]
        refine flow_call _ _ _ rfl Try.call32 _ (args2 ((hd 0 _ rfl (waits_spec rfl)).1) ((hd 1 _ rfl (waits_spec rfl)).1)) (by simp) ((fePower_any (dg 65536 X) X N HFX.out HN.out.1 HN.out.2 w2).mono ?_)
        rintro e w3 ⟨rfl, hb⟩; exact ⟨_, rfl, ⟨rfl, fun h => absurd h (by decide)⟩, hb⟩
      · intro a w2 hB hF hd
        rw [if_pos (wanted_none rfl)]
        refine flow_call _ _ _ rfl Try.call18 _ (args1 ((hd 2 _ rfl (waits_spec rfl)).1)) (by simp) ((feBytes_any (powF (dg 65536 X) N) (X ^ N.toNat) (HFX.out.powF HN.out.1 HN.out.2) w2).mono ?_)
        rintro e w3 ⟨rfl, hb⟩; exact ⟨_, rfl, ⟨rfl, fun h => absurd h (by decide)⟩, hb⟩
      · intro a w2 hB hF hd
        rw [if_pos (wanted_none rfl)]
        exact flow_move _ (.inl rfl) (by simp) ⟨(hF.same 6 rfl), fun h => absurd h (by decide)⟩
      · intro a w2 hB hF hd
        rw [if_pos (wanted_none rfl)]
        exact flow_val (fun h => by cases h) (run_load_str rfl Try.underlying22 rfl Try.size22 (hF.same 3 rfl) (hn.below hB hn.lt)) ⟨rfl, fun h => absurd h (by decide)⟩
      · intro a w2 hB hF hd
        rw [if_pos (wanted_none rfl)]
        refine flow_call _ _ _ rfl Try.call33 _ (args2 ((hd 4 _ rfl (waits_spec rfl)).1) ((hd 5 _ rfl (waits_spec rfl)).1)) (by simp) ((fPower_any _ X N HN.out.1 HN.out.2 w2 (H6.out.below hB)).mono ?_)
        rintro e w3 ⟨u, rfl, hr, hb⟩; exact ⟨u, rfl, ⟨trivial, fun _ => hr⟩, hb⟩
      · intro a w2 hB hF hd
        rw [if_pos (wanted_none rfl)]
        refine flow_call _ _ _ rfl Try.call19 _ (args1 rfl) (by simp) ((rBytes_any _ ((X ^ N.toNat) % Pr) 16 (by decide) w2 ((hd 6 _ rfl (waits_spec rfl)).2 rfl)).mono ?_)
        rintro e w3 ⟨rfl, hb⟩; exact ⟨_, rfl, ⟨rfl, fun h => absurd h (by decide)⟩, hb⟩
      · intro a w2 hB hF hd
        rw [if_pos (wanted_none rfl)]
        exact flow_val (fun h => by cases h) (run_neq_arr true rfl ((hd 3 _ rfl (waits_spec rfl)).1) ((hd 7 _ rfl (waits_spec rfl)).1) Try.underlying22 (by kernel_rfl) (by kernel_rfl) (by kernel_rfl) (by kernel_rfl) (by kernel_rfl) sameB_self) ⟨rfl, fun h => absurd h (by decide)⟩
    · intro a w4 hB hF hS
      obtain ⟨x25, hx25⟩ : ∃ x, x = a.tmps.getD 25 undef := ⟨_, rfl⟩
      have ha := puts_each rfl rfl hF [_, _, _, _, _, _, x25, _, _] rfl ⟨(hS 0 _ rfl).1, (hS 1 _ rfl).1, (hS 2 _ rfl).1, (hS 3 _ rfl).1, (hS 4 _ rfl).1, (hS 5 _ rfl).1, hx25.symm, (hS 7 _ rfl).1, (hS 8 _ rfl).1, trivial⟩
      simp only [puts, Act.put, List.setIfInBounds_toArray, List.set_cons_succ, List.set_cons_zero] at ha
      subst ha
      clear hx25
      clear hS hF
      have hx4 := hx.below hB hx.lt
      have hn4 := hn.below hB hn.lt
      have hb4 := hb3.trans (hB.mono hb3.size)
      have H64 := Lib.hid (H6.out.below hB)
      clear hx hn hb3 hB H6
      go_upto_region 6 with (fail)
      refine region_flow (n := 77) (by kernel_rfl) (by kernel_rfl) (by kernel_rfl) rfl
        (fun i v w => (match i with | 0 => v = .agg (arr .i64 16 (dg 65536 X)) | 1 => v = .agg (arr .i64 16 (invF (dg 65536 X))) | 2 => v = .agg (arr .u8 32 (dg 256 ((invN X) % Pr))) | 4 => v = x6 | _ => True) ∧ (i = 3 → Rd .i64 w v 16 (dg 65536 ((invN X) % Pr))) ∧ (i = 5 → Rd .i64 w v 16 (dg 65536 (((invN X) * X) % Pr))) ∧ (i = 6 → Rd .i64 w v 16 (dg 65536 (((invN X) * X) % Pr))))
        (fun w w' => Below w.heap.size w w') (fun _ _ h => h) (fun i v w w' h hE => ⟨h.1, fun e => Rd.below (h.2.1 e) hE, fun e => Rd.below (h.2.2.1 e) hE, fun e => Rd.below (h.2.2.2 e) hE⟩) ?_ ?_
      · refine Each.all ?_
        refine ⟨?_, ?_, ?_, ?_, ?_, ?_, ?_, trivial⟩
        · intro a w2 hB hF hd
          rw [if_pos (wanted_none rfl)]
          exact flow_val (fun h => by cases h) (run_load_str rfl Try.underlying26 rfl Try.size26 (hF.same 5 rfl) (hx4.below hB hx4.lt)) ⟨rfl, fun h => absurd h (by decide), fun h => absurd h (by decide), fun h => absurd h (by decide)⟩
        · intro a w2 hB hF hd
          rw [if_pos (wanted_none rfl)]
          refine flow_call _ _ _ rfl Try.call34 _ (args1 ((hd 0 _ rfl (waits_spec rfl)).1)) (by simp) ((feInverse_any (dg 65536 X) X HFX.out w2).mono ?_)
          rintro e w3 ⟨rfl, hb⟩; exact ⟨_, rfl, ⟨rfl, fun h => absurd h (by decide), fun h => absurd h (by decide), fun h => absurd h (by decide)⟩, hb⟩
        · intro a w2 hB hF hd
          rw [if_pos (wanted_none rfl)]
          refine flow_call _ _ _ rfl Try.call18 _ (args1 ((hd 1 _ rfl (waits_spec rfl)).1)) (by simp) ((feBytes_any (invF (dg 65536 X)) (invN X) (fe_inv HFX.out) w2).mono ?_)
          rintro e w3 ⟨rfl, hb⟩; exact ⟨_, rfl, ⟨rfl, fun h => absurd h (by decide), fun h => absurd h (by decide), fun h => absurd h (by decide)⟩, hb⟩
        · intro a w2 hB hF hd
          rw [if_pos (wanted_none rfl)]
          refine flow_call _ _ _ rfl Try.call17 _ (args1 ((hd 2 _ rfl (waits_spec rfl)).1)) (by simp) ((fOf_canon (invN X) w2).mono ?_)
          rintro e w3 ⟨u, rfl, hr, hb⟩; exact ⟨u, rfl, ⟨trivial, fun _ => hr, fun h => absurd h (by decide), fun h => absurd h (by decide)⟩, hb⟩
        · intro a w2 hB hF hd
          rw [if_pos (wanted_none rfl)]
          exact flow_move _ (.inl rfl) (by simp) ⟨(hF.same 6 rfl), fun h => absurd h (by decide), fun h => absurd h (by decide), fun h => absurd h (by decide)⟩
        · intro a w2 hB hF hd
          rw [if_pos (wanted_none rfl)]
          refine flow_call _ _ _ rfl Try.call30 _ (args2 rfl ((hd 4 _ rfl (waits_spec rfl)).1)) (by simp) ((fMul_rd (invN X) X _ _ w2 ((hd 3 _ rfl (waits_spec rfl)).2.1 rfl) (H64.out.below hB)).mono ?_)
          rintro e w3 ⟨u, rfl, hr, hb⟩; exact ⟨u, rfl, ⟨trivial, fun h => absurd h (by decide), fun _ => hr, fun h => absurd h (by decide)⟩, hb⟩
        · intro a w2 hB hF hd
          rw [if_pos (wanted_none rfl)]
          exact flow_move _ (.inr rfl) (by simp) ⟨trivial, fun h => absurd h (by decide), fun h => absurd h (by decide), fun _ => ((hd 5 _ rfl (waits_spec rfl)).2.2.1 rfl)⟩
      · intro a w5 hB hF hS
        obtain ⟨x31, hx31⟩ : ∃ x, x = a.tmps.getD 31 undef := ⟨_, rfl⟩
        have P31 : Rd .i64 w5 x31 16 (dg 65536 ((invN X) % Pr)) := by rw [hx31]; exact (hS 3 _ rfl).2.1 rfl
        obtain ⟨x33, hx33⟩ : ∃ x, x = a.tmps.getD 33 undef := ⟨_, rfl⟩
        have P33 : Rd .i64 w5 x33 16 (dg 65536 (((invN X) * X) % Pr)) := by rw [hx33]; exact (hS 5 _ rfl).2.2.1 rfl
        obtain ⟨x7, hx7⟩ : ∃ x, x = a.tmps.getD 7 undef := ⟨_, rfl⟩
        have P7 : Rd .i64 w5 x7 16 (dg 65536 (((invN X) * X) % Pr)) := by rw [hx7]; exact (hS 6 _ rfl).2.2.2 rfl
        have ha := puts_each rfl rfl hF [_, _, _, x31, _, x33, x7] rfl ⟨(hS 0 _ rfl).1, (hS 1 _ rfl).1, (hS 2 _ rfl).1, hx31.symm, (hS 4 _ rfl).1, hx33.symm, hx7.symm, trivial⟩
        simp only [puts, Act.put, List.setIfInBounds_toArray, List.set_cons_succ, List.set_cons_zero] at ha
        subst ha
        clear hx31 hx33 hx7
        clear hS hF
        have hx5 := hx4.below hB hx4.lt
        have hn5 := hn4.below hB hn4.lt
        have hb5 := hb4.trans (hB.mono hb4.size)
        have H65 := Lib.hid (H64.out.below hB)
        have H75 := Lib.hid P7
        clear hx4 hn4 hb4 hB H64 P7 P31 P33
        by_cases hX0 : X % Pr = 0
        · have HX0 := Lib.hid hX0
          clear hX0
          go_upto_region 7 with (fail)
          refine region_flow (n := 77) (by kernel_rfl) (by kernel_rfl) (by kernel_rfl) rfl
            (fun i v _ => (match i with | 0 => v = x6 | 1 => v = .bool true | _ => True))
            (fun w w' => Below w.heap.size w w') (fun _ _ h => h) (fun _ _ _ _ h _ => h) ?_ ?_
          · refine Each.all ?_
            refine ⟨?_, ?_, trivial⟩
            · intro a w2 hB hF hd
              rw [if_pos (wanted_none rfl)]
              exact flow_move _ (.inl rfl) (by simp) (hF.same 6 rfl)
            · intro a w2 hB hF hd
              rw [if_pos (wanted_none rfl)]
              refine flow_call _ _ _ rfl Try.call35 _ (args1 (hd 0 _ rfl (waits_spec rfl))) (by simp) ((fZero_yes _ X HX0.out w2 (H65.out.below hB)).mono ?_)
              rintro e w3 ⟨rfl, hb⟩; exact ⟨_, rfl, rfl, hb⟩
          · intro a w6 hB hF hS
            have ha := puts_each rfl rfl hF [_, _] rfl ⟨hS 0 _ rfl, hS 1 _ rfl, trivial⟩
            simp only [puts, Act.put, List.setIfInBounds_toArray, List.set_cons_succ, List.set_cons_zero] at ha
            subst ha
            clear hS hF
            have hx6 := hx5.below hB hx5.lt
            have hn6 := hn5.below hB hn5.lt
            have hb6 := hb5.trans (hB.mono hb5.size)
            clear hx5 hn5 hb5 hB H65 H75
            go_upto_region 8 with (fail)
            refine region_flow (n := 77) (by kernel_rfl) (by kernel_rfl) (by kernel_rfl) rfl
              (fun i v _ => (match i with | 0 => v = .agg (arr .i64 16 (dg 65536 X)) | 1 => v = .agg (arr .i64 16 (invF (dg 65536 X))) | 2 => v = .agg (arr .u8 32 (dg 256 ((invN X) % Pr))) | 3 => v = .agg (arr .u8 32 (dg 256 0)) | 4 => v = .bool false | _ => True))
              (fun w w' => Below w.heap.size w w') (fun _ _ h => h) (fun _ _ _ _ h _ => h) ?_ ?_
            · refine Each.all ?_
              refine ⟨?_, ?_, ?_, ?_, ?_, trivial⟩
              · intro a w2 hB hF hd
                rw [if_pos (wanted_none rfl)]
                exact flow_val (fun h => by cases h) (run_load_str rfl Try.underlying26 rfl Try.size26 (hF.same 5 rfl) (hx6.below hB hx6.lt)) rfl
              · intro a w2 hB hF hd
                rw [if_pos (wanted_none rfl)]
                refine flow_call _ _ _ rfl Try.call34 _ (args1 (hd 0 _ rfl (waits_spec rfl))) (by simp) ((feInverse_any (dg 65536 X) X HFX.out w2).mono ?_)
                rintro e w3 ⟨rfl, hb⟩; exact ⟨_, rfl, rfl, hb⟩
              · intro a w2 hB hF hd
                rw [if_pos (wanted_none rfl)]
                refine flow_call _ _ _ rfl Try.call18 _ (args1 (hd 1 _ rfl (waits_spec rfl))) (by simp) ((feBytes_any (invF (dg 65536 X)) (invN X) (fe_inv HFX.out) w2).mono ?_)
                rintro e w3 ⟨rfl, hb⟩; exact ⟨_, rfl, rfl, hb⟩
              · intro a w2 hB hF hd
                rw [if_pos (wanted_none rfl)]
                exact flow_val (fun h => by cases h) (run_built rfl (build_nil _)) rfl
              · intro a w2 hB hF hd
                rw [if_pos (wanted_none rfl)]
                exact flow_val (fun h => by cases h) (run_neq_arr true rfl (hd 2 _ rfl (waits_spec rfl)) (hd 3 _ rfl (waits_spec rfl)) Try.underlying22 (by kernel_rfl) (by kernel_rfl) (by kernel_rfl) (by kernel_rfl) (by kernel_rfl) (sameB_num (inv_nil HX0.out))) rfl
            · intro a w7 hB hF hS
              have ha := puts_each rfl rfl hF [_, _, _, _, _] rfl ⟨hS 0 _ rfl, hS 1 _ rfl, hS 2 _ rfl, hS 3 _ rfl, hS 4 _ rfl, trivial⟩
              simp only [puts, Act.put, List.setIfInBounds_toArray, List.set_cons_succ, List.set_cons_zero] at ha
              subst ha
              clear hS hF
              have hx7 := hx6.below hB hx6.lt
              have hn7 := hn6.below hB hn6.lt
              have hb7 := hb6.trans (hB.mono hb6.size)
              clear hx6 hn6 hb6 hB
              go_upto_region 12 with (fail)
              refine region_vars (n := 77) (by kernel_rfl) (by kernel_rfl) (by kernel_rfl) rfl
                (isAl [(3, 2)]) (putOf [(3, 2)]) (fun _ => arr .i64 16 (fun _ => 0)) (fun _ => (arr .i64 16 (dg 65536 (N % 2 ^ 255)))) (fun _ => 26) (fun _ => 8)
                (fun i v _ => (match i with | 0 => v = .agg (arr .u8 32 (dg 256 N)) | 1 => v = .agg (arr .i64 16 (dg 65536 (N % 2 ^ 255))) | _ => True)) (fun _ _ => True) (fun _ _ _ => trivial) (fun _ _ _ _ _ _ _ => trivial) (fun _ _ _ _ h _ => h)
                (vs_al rfl) (vs_inj rfl) ?_ ?_ ?_ ?_
              · refine Each.all ?_
                refine ⟨?_, ?_, (fun h => by cases h), (fun _ h => by cases h), trivial⟩
                · intro _ _ a w2 hB hF hd
                  rw [if_pos (wanted_none rfl)]
                  exact flow_val (fun h => by cases h) (run_load_str rfl Try.underlying22 rfl Try.size22 (hF.same 3 rfl) (hn7.below hB hn7.lt)) rfl
                · intro _ _ a w2 hB hF hd
                  rw [if_pos (wanted_none rfl)]
                  refine flow_call _ _ _ rfl Try.call16 _ (args1 (hd 0 _ rfl rfl rfl (waits_spec rfl))) (by simp) ((feOf_any N w2).mono ?_)
                  rintro e w3 ⟨rfl, hb⟩; exact ⟨_, rfl, rfl, hb⟩
              · refine Each.all ?_
                refine ⟨(fun h => by cases h), (fun h => by cases h), ?_, (fun h => by cases h), trivial⟩
                · exact fun _ => ⟨rfl, rfl, fun a w2 K h => flow_alloc rfl rfl Try.zeroValue26 (by simp) h⟩
              · refine Each.all ?_
                refine ⟨(fun _ h => by cases h), (fun _ h => by cases h), (fun _ h => by cases h), ?_, trivial⟩
                · intro p hp
                  obtain rfl : 2 = p := Option.some.inj hp
                  exact ⟨rfl, rfl, ⟨_, rfl⟩, waits_spec rfl, fun a w2 b K hB hF hd hx hb h => flow_put rfl rfl Try.size26 hx (hd 1 _ rfl rfl rfl (waits_spec rfl)) hb h⟩
              · intro a w8 blk hB hF hS hv hfin hdis
                obtain ⟨v2, v2l, v2u⟩ := hv 2 _ rfl rfl
                have ha := puts_each rfl rfl hF [_, _, _, undef] rfl ⟨hS 0 _ rfl rfl rfl, hS 1 _ rfl rfl rfl, v2, trivial, trivial⟩
                have f2 := hfin 3 _ 2 rfl rfl
                simp only [puts, Act.put, List.setIfInBounds_toArray, List.set_cons_succ, List.set_cons_zero] at ha
                subst ha
                have V2 : Arr .i64 w8 (blk 2) 16 (dg 65536 (N % 2 ^ 255)) := ⟨_, f2⟩
                clear hS hv hfin hdis hF v2 f2
                have hx8 := hx7.below hB hx7.lt
                have hb8 := hb7.trans (hB.mono hb7.size)
                obtain ⟨y, hy⟩ : ∃ y, y = blk 2 := ⟨_, rfl⟩
                rw [← hy] at V2 ⊢
                have hy8 := V2
                clear hy V2 hx7 hn7 hb7 hB v2l v2u
                have HFY := Lib.hid (feOf_fe N)
                obtain ⟨Y, hYe⟩ : ∃ Y, Y = N % 2 ^ 255 := ⟨_, rfl⟩
                rw [← hYe] at HFY hy8 ⊢
                clear hYe
                go_upto_region 13 with (fail)
                refine region_vars (n := 77) (by kernel_rfl) (by kernel_rfl) (by kernel_rfl) rfl
                  (isAl [(8, 6), (9, 7)]) (putOf [(8, 6), (9, 7)]) (fun _ => arr .i64 16 (fun _ => 0)) (fun i => match i with | 6 => (arr .i64 16 (dg 65536 Y)) | 7 => (arr .i64 16 (dg 65536 X)) | _ => #[]) (fun _ => 26) (fun i => match i with | 6 => 9 | 7 => 10 | _ => 0)
                  (fun i v _ => (match i with | 0 | 5 => v = .agg (arr .i64 16 (dg 65536 X)) | 1 | 4 => v = .agg (arr .i64 16 (dg 65536 Y)) | 2 | 3 => v = .tuple #[.agg (arr .i64 16 (dg 65536 Y)), .agg (arr .i64 16 (dg 65536 X))] | _ => True)) (fun _ _ => True) (fun _ _ _ => trivial) (fun _ _ _ _ _ _ _ => trivial) (fun _ _ _ _ h _ => h)
                  (vs_al rfl) (vs_inj rfl) ?_ ?_ ?_ ?_
                · refine Each.all ?_
                  refine ⟨?_, ?_, ?_, ?_, ?_, ?_, (fun h => by cases h), (fun h => by cases h), (fun _ h => by cases h), (fun _ h => by cases h), trivial⟩
                  · intro _ _ a w2 hB hF hd
                    rw [if_pos (wanted_none rfl)]
                    exact flow_val (fun h => by cases h) (run_load_str rfl Try.underlying26 rfl Try.size26 (hF.same 5 rfl) (hx8.below hB hx8.lt)) rfl
                  · intro _ _ a w2 hB hF hd
                    rw [if_pos (wanted_none rfl)]
                    exact flow_val (fun h => by cases h) (run_load_str rfl Try.underlying26 rfl Try.size26 (hF.same 8 rfl) (hy8.below hB hy8.lt)) rfl
                  · intro _ _ a w2 hB hF hd
                    rw [if_pos (wanted_none rfl)]
                    refine flow_call _ _ _ rfl Try.call36 _ (args3 (hd 0 _ rfl rfl rfl (waits_spec rfl)) (hd 1 _ rfl rfl rfl (waits_spec rfl)) rfl) (by simp) ((feSwap_yes (dg 65536 X) (dg 65536 Y) X Y HFX.out HFY.out w2).mono ?_)
                    rintro e w3 ⟨rfl, hb⟩; exact ⟨_, rfl, rfl, hb⟩
                  · intro _ _ a w2 hB hF hd
                    rw [if_pos (wanted_none rfl)]
                    exact flow_move _ (.inl rfl) (by simp) (hd 2 _ rfl rfl rfl (waits_spec rfl))
                  · intro _ _ a w2 hB hF hd
                    rw [if_pos (wanted_none rfl)]
                    exact flow_val (fun h => by cases h) (run_extract rfl (hd 3 _ rfl rfl rfl (waits_spec rfl)) rfl) rfl
                  · intro _ _ a w2 hB hF hd
                    rw [if_pos (wanted_none rfl)]
                    exact flow_val (fun h => by cases h) (run_extract rfl (hd 3 _ rfl rfl rfl (waits_spec rfl)) rfl) rfl
                · refine Each.all ?_
                  refine ⟨(fun h => by cases h), (fun h => by cases h), (fun h => by cases h), (fun h => by cases h), (fun h => by cases h), (fun h => by cases h), ?_, ?_, (fun h => by cases h), (fun h => by cases h), trivial⟩
                  · exact fun _ => ⟨rfl, rfl, fun a w2 K h => flow_alloc rfl rfl Try.zeroValue26 (by simp) h⟩
                  · exact fun _ => ⟨rfl, rfl, fun a w2 K h => flow_alloc rfl rfl Try.zeroValue26 (by simp) h⟩
                · refine Each.all ?_
                  refine ⟨(fun _ h => by cases h), (fun _ h => by cases h), (fun _ h => by cases h), (fun _ h => by cases h), (fun _ h => by cases h), (fun _ h => by cases h), (fun _ h => by cases h), (fun _ h => by cases h), ?_, ?_, trivial⟩
                  · intro p hp
                    obtain rfl : 6 = p := Option.some.inj hp
                    exact ⟨rfl, rfl, ⟨_, rfl⟩, waits_spec rfl, fun a w2 b K hB hF hd hx hb h => flow_put rfl rfl Try.size26 hx (hd 4 _ rfl rfl rfl (waits_spec rfl)) hb h⟩
                  · intro p hp
                    obtain rfl : 7 = p := Option.some.inj hp
                    exact ⟨rfl, rfl, ⟨_, rfl⟩, waits_spec rfl, fun a w2 b K hB hF hd hx hb h => flow_put rfl rfl Try.size26 hx (hd 5 _ rfl rfl rfl (waits_spec rfl)) hb h⟩
                · intro a w9 blk hB hF hS hv hfin hdis
                  obtain ⟨v6, v6l, v6u⟩ := hv 6 _ rfl rfl
                  obtain ⟨v7, v7l, v7u⟩ := hv 7 _ rfl rfl
                  have ha := puts_each rfl rfl hF [_, _, _, _, _, _, _, _, undef, undef] rfl ⟨hS 0 _ rfl rfl rfl, hS 1 _ rfl rfl rfl, hS 2 _ rfl rfl rfl, hS 3 _ rfl rfl rfl, hS 4 _ rfl rfl rfl, hS 5 _ rfl rfl rfl, v6, v7, trivial, trivial, trivial⟩
                  have f6 := hfin 8 _ 6 rfl rfl
                  have f7 := hfin 9 _ 7 rfl rfl
                  have d6_7 := hdis 6 7 _ _ rfl rfl rfl rfl (by decide)
                  simp only [puts, Act.put, List.setIfInBounds_toArray, List.set_cons_succ, List.set_cons_zero] at ha
                  subst ha
                  have V6 : Arr .i64 w9 (blk 6) 16 (dg 65536 Y) := ⟨_, f6⟩
                  have V7 : Arr .i64 w9 (blk 7) 16 (dg 65536 X) := ⟨_, f7⟩
                  clear hS hv hfin hdis hF v6 v7 f6 f7
                  have hx9 := hx8.below hB hx8.lt
                  have hy9 := hy8.below hB hy8.lt
                  have hb9 := hb8.trans (hB.mono hb8.size)
                  obtain ⟨s, hs⟩ : ∃ y, y = blk 6 := ⟨_, rfl⟩
                  obtain ⟨t, ht⟩ : ∃ y, y = blk 7 := ⟨_, rfl⟩
                  rw [← hs] at V6 ⊢
                  rw [← ht] at V7 ⊢
                  have hs9 := V6
                  have ht9 := V7
                  clear hs ht hx8 hy8 hb8 hB d6_7 v6l v6u v7l v7u V6 V7
                  go_upto_region 14 with (fail)
                  refine region_vars (n := 77) (by kernel_rfl) (by kernel_rfl) (by kernel_rfl) rfl
                    (isAl [(8, 6), (9, 7)]) (putOf [(8, 6), (9, 7)]) (fun _ => arr .i64 16 (fun _ => 0)) (fun i => match i with | 6 => (arr .i64 16 (dg 65536 X)) | 7 => (arr .i64 16 (dg 65536 Y)) | _ => #[]) (fun _ => 26) (fun i => match i with | 6 => 11 | 7 => 12 | _ => 0)
                    (fun i v _ => (match i with | 0 | 4 => v = .agg (arr .i64 16 (dg 65536 X)) | 1 | 5 => v = .agg (arr .i64 16 (dg 65536 Y)) | 2 | 3 => v = .tuple #[.agg (arr .i64 16 (dg 65536 X)), .agg (arr .i64 16 (dg 65536 Y))] | _ => True)) (fun _ _ => True) (fun _ _ _ => trivial) (fun _ _ _ _ _ _ _ => trivial) (fun _ _ _ _ h _ => h)
                    (vs_al rfl) (vs_inj rfl) ?_ ?_ ?_ ?_
                  · refine Each.all ?_
                    refine ⟨?_, ?_, ?_, ?_, ?_, ?_, (fun h => by cases h), (fun h => by cases h), (fun _ h => by cases h), (fun _ h => by cases h), trivial⟩
                    · intro _ _ a w2 hB hF hd
                      rw [if_pos (wanted_none rfl)]
                      exact flow_val (fun h => by cases h) (run_load_str rfl Try.underlying26 rfl Try.size26 (hF.same 5 rfl) (hx9.below hB hx9.lt)) rfl
                    · intro _ _ a w2 hB hF hd
                      rw [if_pos (wanted_none rfl)]
                      exact flow_val (fun h => by cases h) (run_load_str rfl Try.underlying26 rfl Try.size26 (hF.same 8 rfl) (hy9.below hB hy9.lt)) rfl
                    · intro _ _ a w2 hB hF hd
                      rw [if_pos (wanted_none rfl)]
                      refine flow_call _ _ _ rfl Try.call36 _ (args3 (hd 0 _ rfl rfl rfl (waits_spec rfl)) (hd 1 _ rfl rfl rfl (waits_spec rfl)) rfl) (by simp) ((feSwap_no (dg 65536 X) (dg 65536 Y) X Y HFX.out HFY.out w2).mono ?_)
                      rintro e w3 ⟨rfl, hb⟩; exact ⟨_, rfl, rfl, hb⟩
                    · intro _ _ a w2 hB hF hd
                      rw [if_pos (wanted_none rfl)]
                      exact flow_move _ (.inl rfl) (by simp) (hd 2 _ rfl rfl rfl (waits_spec rfl))
                    · intro _ _ a w2 hB hF hd
                      rw [if_pos (wanted_none rfl)]
                      exact flow_val (fun h => by cases h) (run_extract rfl (hd 3 _ rfl rfl rfl (waits_spec rfl)) rfl) rfl
                    · intro _ _ a w2 hB hF hd
                      rw [if_pos (wanted_none rfl)]
                      exact flow_val (fun h => by cases h) (run_extract rfl (hd 3 _ rfl rfl rfl (waits_spec rfl)) rfl) rfl
                  · refine Each.all ?_
                    refine ⟨(fun h => by cases h), (fun h => by cases h), (fun h => by cases h), (fun h => by cases h), (fun h => by cases h), (fun h => by cases h), ?_, ?_, (fun h => by cases h), (fun h => by cases h), trivial⟩
                    · exact fun _ => ⟨rfl, rfl, fun a w2 K h => flow_alloc rfl rfl Try.zeroValue26 (by simp) h⟩
                    · exact fun _ => ⟨rfl, rfl, fun a w2 K h => flow_alloc rfl rfl Try.zeroValue26 (by simp) h⟩
                  · refine Each.all ?_
                    refine ⟨(fun _ h => by cases h), (fun _ h => by cases h), (fun _ h => by cases h), (fun _ h => by cases h), (fun _ h => by cases h), (fun _ h => by cases h), (fun _ h => by cases h), (fun _ h => by cases h), ?_, ?_, trivial⟩
                    · intro p hp
                      obtain rfl : 6 = p := Option.some.inj hp
                      exact ⟨rfl, rfl, ⟨_, rfl⟩, waits_spec rfl, fun a w2 b K hB hF hd hx hb h => flow_put rfl rfl Try.size26 hx (hd 4 _ rfl rfl rfl (waits_spec rfl)) hb h⟩
                    · intro p hp
                      obtain rfl : 7 = p := Option.some.inj hp
                      exact ⟨rfl, rfl, ⟨_, rfl⟩, waits_spec rfl, fun a w2 b K hB hF hd hx hb h => flow_put rfl rfl Try.size26 hx (hd 5 _ rfl rfl rfl (waits_spec rfl)) hb h⟩
                  · intro a w10 blk hB hF hS hv hfin hdis
                    obtain ⟨v6, v6l, v6u⟩ := hv 6 _ rfl rfl
                    obtain ⟨v7, v7l, v7u⟩ := hv 7 _ rfl rfl
                    have ha := puts_each rfl rfl hF [_, _, _, _, _, _, _, _, undef, undef] rfl ⟨hS 0 _ rfl rfl rfl, hS 1 _ rfl rfl rfl, hS 2 _ rfl rfl rfl, hS 3 _ rfl rfl rfl, hS 4 _ rfl rfl rfl, hS 5 _ rfl rfl rfl, v6, v7, trivial, trivial, trivial⟩
                    have f6 := hfin 8 _ 6 rfl rfl
                    have f7 := hfin 9 _ 7 rfl rfl
                    have d6_7 := hdis 6 7 _ _ rfl rfl rfl rfl (by decide)
                    simp only [puts, Act.put, List.setIfInBounds_toArray, List.set_cons_succ, List.set_cons_zero] at ha
                    subst ha
                    have V6 : Arr .i64 w10 (blk 6) 16 (dg 65536 X) := ⟨_, f6⟩
                    have V7 : Arr .i64 w10 (blk 7) 16 (dg 65536 Y) := ⟨_, f7⟩
                    clear hS hv hfin hdis hF v6 v7 f6 f7
                    have hx10 := hx9.below hB hx9.lt
                    have hy10 := hy9.below hB hy9.lt
                    have hs10 := hs9.below hB hs9.lt
                    have ht10 := ht9.below hB ht9.lt
                    have hb10 := hb9.trans (hB.mono hb9.size)
                    obtain ⟨u, hu⟩ : ∃ y, y = blk 6 := ⟨_, rfl⟩
                    obtain ⟨v, hv⟩ : ∃ y, y = blk 7 := ⟨_, rfl⟩
                    rw [← hu] at V6 ⊢
                    rw [← hv] at V7 ⊢
                    have hu10 := V6
                    have hv10 := V7
                    clear hu hv hx9 hy9 hs9 ht9 hb9 hB d6_7 v6l v6u v7l v7u V6 V7
                    go_upto_region 15 with (fail)
                    refine region_flow (n := 77) (by kernel_rfl) (by kernel_rfl) (by kernel_rfl) rfl
                      (fun i v _ => (match i with | 0 | 1 | 14 | 15 => v = .agg (arr .i64 16 (dg 65536 Y)) | 2 | 3 | 6 | 7 | 8 | 11 | 12 | 13 | 16 | 17 | 18 => v = .bool true | 4 | 5 | 9 | 10 => v = .agg (arr .i64 16 (dg 65536 X)) | _ => True))
                      (fun w w' => Below w.heap.size w w') (fun _ _ h => h) (fun _ _ _ _ h _ => h) ?_ ?_
                    · refine Each.all ?_
                      refine ⟨?_, ?_, ?_, ?_, ?_, ?_, ?_, ?_, ?_, ?_, ?_, ?_, ?_, ?_, ?_, ?_, ?_, ?_, ?_, trivial⟩
                      · intro a w2 hB hF hd
                        rw [if_pos (wanted_none rfl)]
                        exact flow_val (fun h => by cases h) (run_load_str rfl Try.underlying26 rfl Try.size26 (hF.same 9 rfl) (hs10.below hB hs10.lt)) rfl
                      · intro a w2 hB hF hd
                        rw [if_pos (wanted_none rfl)]
                        exact flow_val (fun h => by cases h) (run_load_str rfl Try.underlying26 rfl Try.size26 (hF.same 8 rfl) (hy10.below hB hy10.lt)) rfl
                      · intro a w2 hB hF hd
                        rw [if_pos (wanted_none rfl)]
                        refine flow_call _ _ _ rfl Try.call21 _ (args2 (hd 0 _ rfl (waits_spec rfl)) (hd 1 _ rfl (waits_spec rfl))) (by simp) ((feEqual_yes (dg 65536 Y) (dg 65536 Y) Y Y HFY.out HFY.out rfl w2).mono ?_)
                        rintro e w3 ⟨rfl, hb⟩; exact ⟨_, rfl, rfl, hb⟩
                      · intro a w2 hB hF hd
                        rw [if_pos (wanted_none rfl)]
                        exact flow_move _ (.inl rfl) (by simp) (hd 2 _ rfl (waits_spec rfl))
                      · intro a w2 hB hF hd
                        refine flow_wanted (wanted_yes rfl rfl (hd 3 _ rfl (waits_spec rfl)) rfl) ?_
                        exact flow_val (fun h => by cases h) (run_load_str rfl Try.underlying26 rfl Try.size26 (hF.same 10 rfl) (ht10.below hB ht10.lt)) rfl
                      · intro a w2 hB hF hd
                        refine flow_wanted (wanted_yes rfl rfl (hd 3 _ rfl (waits_spec rfl)) rfl) ?_
                        exact flow_val (fun h => by cases h) (run_load_str rfl Try.underlying26 rfl Try.size26 (hF.same 5 rfl) (hx10.below hB hx10.lt)) rfl
                      · intro a w2 hB hF hd
                        refine flow_wanted (wanted_yes rfl rfl (hd 3 _ rfl (waits_spec rfl)) rfl) ?_
                        refine flow_call _ _ _ rfl Try.call21 _ (args2 (hd 4 _ rfl (waits_spec rfl)) (hd 5 _ rfl (waits_spec rfl))) (by simp) ((feEqual_yes (dg 65536 X) (dg 65536 X) X X HFX.out HFX.out rfl w2).mono ?_)
                        rintro e w3 ⟨rfl, hb⟩; exact ⟨_, rfl, rfl, hb⟩
                      · intro a w2 hB hF hd
                        rw [if_pos (wanted_none rfl)]
                        exact flow_val (fun h => by cases h) (run_pick rfl (hd 3 _ rfl (waits_spec rfl))) ((hd 6 _ rfl (waits_spec rfl)))
                      · intro a w2 hB hF hd
                        rw [if_pos (wanted_none rfl)]
                        exact flow_move _ (.inl rfl) (by simp) (hd 7 _ rfl (waits_spec rfl))
                      · intro a w2 hB hF hd
                        refine flow_wanted (wanted_yes rfl rfl (hd 8 _ rfl (waits_spec rfl)) rfl) ?_
                        exact flow_val (fun h => by cases h) (run_load_str rfl Try.underlying26 rfl Try.size26 (hF.same 11 rfl) (hu10.below hB hu10.lt)) rfl
                      · intro a w2 hB hF hd
                        refine flow_wanted (wanted_yes rfl rfl (hd 8 _ rfl (waits_spec rfl)) rfl) ?_
                        exact flow_val (fun h => by cases h) (run_load_str rfl Try.underlying26 rfl Try.size26 (hF.same 5 rfl) (hx10.below hB hx10.lt)) rfl
                      · intro a w2 hB hF hd
                        refine flow_wanted (wanted_yes rfl rfl (hd 8 _ rfl (waits_spec rfl)) rfl) ?_
                        refine flow_call _ _ _ rfl Try.call21 _ (args2 (hd 9 _ rfl (waits_spec rfl)) (hd 10 _ rfl (waits_spec rfl))) (by simp) ((feEqual_yes (dg 65536 X) (dg 65536 X) X X HFX.out HFX.out rfl w2).mono ?_)
                        rintro e w3 ⟨rfl, hb⟩; exact ⟨_, rfl, rfl, hb⟩
                      · intro a w2 hB hF hd
                        rw [if_pos (wanted_none rfl)]
                        exact flow_val (fun h => by cases h) (run_pick rfl (hd 8 _ rfl (waits_spec rfl))) ((hd 11 _ rfl (waits_spec rfl)))
                      · intro a w2 hB hF hd
                        rw [if_pos (wanted_none rfl)]
                        exact flow_move _ (.inl rfl) (by simp) (hd 12 _ rfl (waits_spec rfl))
                      · intro a w2 hB hF hd
                        refine flow_wanted (wanted_yes rfl rfl (hd 13 _ rfl (waits_spec rfl)) rfl) ?_
                        exact flow_val (fun h => by cases h) (run_load_str rfl Try.underlying26 rfl Try.size26 (hF.same 12 rfl) (hv10.below hB hv10.lt)) rfl
                      · intro a w2 hB hF hd
                        refine flow_wanted (wanted_yes rfl rfl (hd 13 _ rfl (waits_spec rfl)) rfl) ?_
                        exact flow_val (fun h => by cases h) (run_load_str rfl Try.underlying26 rfl Try.size26 (hF.same 8 rfl) (hy10.below hB hy10.lt)) rfl
                      · intro a w2 hB hF hd
                        refine flow_wanted (wanted_yes rfl rfl (hd 13 _ rfl (waits_spec rfl)) rfl) ?_
                        refine flow_call _ _ _ rfl Try.call21 _ (args2 (hd 14 _ rfl (waits_spec rfl)) (hd 15 _ rfl (waits_spec rfl))) (by simp) ((feEqual_yes (dg 65536 Y) (dg 65536 Y) Y Y HFY.out HFY.out rfl w2).mono ?_)
                        rintro e w3 ⟨rfl, hb⟩; exact ⟨_, rfl, rfl, hb⟩
                      · intro a w2 hB hF hd
                        rw [if_pos (wanted_none rfl)]
                        exact flow_val (fun h => by cases h) (run_pick rfl (hd 13 _ rfl (waits_spec rfl))) ((hd 16 _ rfl (waits_spec rfl)))
                      · intro a w2 hB hF hd
                        rw [if_pos (wanted_none rfl)]
                        exact flow_move _ (.inr rfl) (by simp) (hd 17 _ rfl (waits_spec rfl))
                    · intro a w11 hB hF hS
                      have ha := puts_each rfl rfl hF [_, _, _, _, _, _, _, _, _, _, _, _, _, _, _, _, _, _, _] rfl ⟨hS 0 _ rfl, hS 1 _ rfl, hS 2 _ rfl, hS 3 _ rfl, hS 4 _ rfl, hS 5 _ rfl, hS 6 _ rfl, hS 7 _ rfl, hS 8 _ rfl, hS 9 _ rfl, hS 10 _ rfl, hS 11 _ rfl, hS 12 _ rfl, hS 13 _ rfl, hS 14 _ rfl, hS 15 _ rfl, hS 16 _ rfl, hS 17 _ rfl, hS 18 _ rfl, trivial⟩
                      simp only [puts, Act.put, List.setIfInBounds_toArray, List.set_cons_succ, List.set_cons_zero] at ha
                      subst ha
                      clear hS hF
                      have hbf := hb10.trans (hB.mono hb10.size)
                      clear hx10 hy10 hs10 ht10 hu10 hv10 hb10 hB
                      go_wp2
                      go_ret
                      exact ⟨rfl, hbf⟩
        · have HX0 := Lib.hid hX0
          clear hX0
          go_upto_region 7 with (fail)
          refine region_flow (n := 77) (by kernel_rfl) (by kernel_rfl) (by kernel_rfl) rfl
            (fun i v _ => (match i with | 0 => v = x6 | 1 => v = .bool false | _ => True))
            (fun w w' => Below w.heap.size w w') (fun _ _ h => h) (fun _ _ _ _ h _ => h) ?_ ?_
          · refine Each.all ?_
            refine ⟨?_, ?_, trivial⟩
            · intro a w2 hB hF hd
              rw [if_pos (wanted_none rfl)]
              exact flow_move _ (.inl rfl) (by simp) (hF.same 6 rfl)
            · intro a w2 hB hF hd
              rw [if_pos (wanted_none rfl)]
              refine flow_call _ _ _ rfl Try.call35 _ (args1 (hd 0 _ rfl (waits_spec rfl))) (by simp) ((fZero_no _ X HX0.out w2 (H65.out.below hB)).mono ?_)
              rintro e w3 ⟨rfl, hb⟩; exact ⟨_, rfl, rfl, hb⟩
          · intro a w6 hB hF hS
            have ha := puts_each rfl rfl hF [_, _] rfl ⟨hS 0 _ rfl, hS 1 _ rfl, trivial⟩
            simp only [puts, Act.put, List.setIfInBounds_toArray, List.set_cons_succ, List.set_cons_zero] at ha
            subst ha
            clear hS hF
            have hx6 := hx5.below hB hx5.lt
            have hn6 := hn5.below hB hn5.lt
            have hb6 := hb5.trans (hB.mono hb5.size)
            have H76 := Lib.hid (H75.out.below hB)
            clear hx5 hn5 hb5 hB H65 H75
            go_upto_region 10 with (fail)
            refine region_flow (n := 77) (by kernel_rfl) (by kernel_rfl) (by kernel_rfl) rfl
              (fun i v w => (match i with | 0 => v = x7 | 2 => v = .bool true | 3 => v = .bool false | _ => True) ∧ (i = 1 → Rd .i64 w v 16 (dg 65536 1)))
              (fun w w' => Below w.heap.size w w') (fun _ _ h => h) (fun i v w w' h hE => ⟨h.1, fun e => Rd.below (h.2 e) hE⟩) ?_ ?_
            · refine Each.all ?_
              refine ⟨?_, ?_, ?_, ?_, trivial⟩
              · intro a w2 hB hF hd
                rw [if_pos (wanted_none rfl)]
                exact flow_move _ (.inl rfl) (by simp) ⟨(hF.same 7 rfl), fun h => absurd h (by decide)⟩
              · intro a w2 hB hF hd
                rw [if_pos (wanted_none rfl)]
                refine flow_call _ _ _ rfl Try.call24 _ (args1 rfl) (by simp) ((rSmall_rd 1 (by decide) (by decide) w2).mono ?_)
                rintro e w3 ⟨u, rfl, hr, hb⟩; exact ⟨u, rfl, ⟨trivial, fun _ => hr⟩, hb⟩
              · intro a w2 hB hF hd
                rw [if_pos (wanted_none rfl)]
                refine flow_call _ _ _ rfl Try.call22 _ (args2 ((hd 0 _ rfl (waits_spec rfl)).1) rfl) (by simp) ((fSame_yes _ _ (invN X * X) 1 (inv_one HX0.out) w2 (H76.out.below hB) (dg_one_rd ((hd 1 _ rfl (waits_spec rfl)).2 rfl))).mono ?_)
                rintro e w3 ⟨rfl, hb⟩; exact ⟨_, rfl, ⟨rfl, fun h => absurd h (by decide)⟩, hb⟩
              · intro a w2 hB hF hd
                rw [if_pos (wanted_none rfl)]
                exact flow_val (fun h => by cases h) (run_not rfl ((hd 2 _ rfl (waits_spec rfl)).1)) ⟨rfl, fun h => absurd h (by decide)⟩
            · intro a w7 hB hF hS
              obtain ⟨x42, hx42⟩ : ∃ x, x = a.tmps.getD 42 undef := ⟨_, rfl⟩
              have ha := puts_each rfl rfl hF [_, x42, _, _] rfl ⟨(hS 0 _ rfl).1, hx42.symm, (hS 2 _ rfl).1, (hS 3 _ rfl).1, trivial⟩
              simp only [puts, Act.put, List.setIfInBounds_toArray, List.set_cons_succ, List.set_cons_zero] at ha
              subst ha
              clear hx42
              clear hS hF
              have hx7 := hx6.below hB hx6.lt
              have hn7 := hn6.below hB hn6.lt
              have hb7 := hb6.trans (hB.mono hb6.size)
              clear hx6 hn6 hb6 hB H76
              go_upto_region 12 with (fail)
              refine region_vars (n := 77) (by kernel_rfl) (by kernel_rfl) (by kernel_rfl) rfl
                (isAl [(3, 2)]) (putOf [(3, 2)]) (fun _ => arr .i64 16 (fun _ => 0)) (fun _ => (arr .i64 16 (dg 65536 (N % 2 ^ 255)))) (fun _ => 26) (fun _ => 8)
                (fun i v _ => (match i with | 0 => v = .agg (arr .u8 32 (dg 256 N)) | 1 => v = .agg (arr .i64 16 (dg 65536 (N % 2 ^ 255))) | _ => True)) (fun _ _ => True) (fun _ _ _ => trivial) (fun _ _ _ _ _ _ _ => trivial) (fun _ _ _ _ h _ => h)
                (vs_al rfl) (vs_inj rfl) ?_ ?_ ?_ ?_
              · refine Each.all ?_
                refine ⟨?_, ?_, (fun h => by cases h), (fun _ h => by cases h), trivial⟩
                · intro _ _ a w2 hB hF hd
                  rw [if_pos (wanted_none rfl)]
                  exact flow_val (fun h => by cases h) (run_load_str rfl Try.underlying22 rfl Try.size22 (hF.same 3 rfl) (hn7.below hB hn7.lt)) rfl
                · intro _ _ a w2 hB hF hd
                  rw [if_pos (wanted_none rfl)]
                  refine flow_call _ _ _ rfl Try.call16 _ (args1 (hd 0 _ rfl rfl rfl (waits_spec rfl))) (by simp) ((feOf_any N w2).mono ?_)
                  rintro e w3 ⟨rfl, hb⟩; exact ⟨_, rfl, rfl, hb⟩
              · refine Each.all ?_
                refine ⟨(fun h => by cases h), (fun h => by cases h), ?_, (fun h => by cases h), trivial⟩
                · exact fun _ => ⟨rfl, rfl, fun a w2 K h => flow_alloc rfl rfl Try.zeroValue26 (by simp) h⟩
              · refine Each.all ?_
                refine ⟨(fun _ h => by cases h), (fun _ h => by cases h), (fun _ h => by cases h), ?_, trivial⟩
                · intro p hp
                  obtain rfl : 2 = p := Option.some.inj hp
                  exact ⟨rfl, rfl, ⟨_, rfl⟩, waits_spec rfl, fun a w2 b K hB hF hd hx hb h => flow_put rfl rfl Try.size26 hx (hd 1 _ rfl rfl rfl (waits_spec rfl)) hb h⟩
              · intro a w8 blk hB hF hS hv hfin hdis
                obtain ⟨v2, v2l, v2u⟩ := hv 2 _ rfl rfl
                have ha := puts_each rfl rfl hF [_, _, _, undef] rfl ⟨hS 0 _ rfl rfl rfl, hS 1 _ rfl rfl rfl, v2, trivial, trivial⟩
                have f2 := hfin 3 _ 2 rfl rfl
                simp only [puts, Act.put, List.setIfInBounds_toArray, List.set_cons_succ, List.set_cons_zero] at ha
                subst ha
                have V2 : Arr .i64 w8 (blk 2) 16 (dg 65536 (N % 2 ^ 255)) := ⟨_, f2⟩
                clear hS hv hfin hdis hF v2 f2
                have hx8 := hx7.below hB hx7.lt
                have hb8 := hb7.trans (hB.mono hb7.size)
                obtain ⟨y, hy⟩ : ∃ y, y = blk 2 := ⟨_, rfl⟩
                rw [← hy] at V2 ⊢
                have hy8 := V2
                clear hy V2 hx7 hn7 hb7 hB v2l v2u
                have HFY := Lib.hid (feOf_fe N)
                obtain ⟨Y, hYe⟩ : ∃ Y, Y = N % 2 ^ 255 := ⟨_, rfl⟩
                rw [← hYe] at HFY hy8 ⊢
                clear hYe
                go_upto_region 13 with (fail)
                refine region_vars (n := 77) (by kernel_rfl) (by kernel_rfl) (by kernel_rfl) rfl
                  (isAl [(8, 6), (9, 7)]) (putOf [(8, 6), (9, 7)]) (fun _ => arr .i64 16 (fun _ => 0)) (fun i => match i with | 6 => (arr .i64 16 (dg 65536 Y)) | 7 => (arr .i64 16 (dg 65536 X)) | _ => #[]) (fun _ => 26) (fun i => match i with | 6 => 9 | 7 => 10 | _ => 0)
                  (fun i v _ => (match i with | 0 | 5 => v = .agg (arr .i64 16 (dg 65536 X)) | 1 | 4 => v = .agg (arr .i64 16 (dg 65536 Y)) | 2 | 3 => v = .tuple #[.agg (arr .i64 16 (dg 65536 Y)), .agg (arr .i64 16 (dg 65536 X))] | _ => True)) (fun _ _ => True) (fun _ _ _ => trivial) (fun _ _ _ _ _ _ _ => trivial) (fun _ _ _ _ h _ => h)
                  (vs_al rfl) (vs_inj rfl) ?_ ?_ ?_ ?_
                · refine Each.all ?_
                  refine ⟨?_, ?_, ?_, ?_, ?_, ?_, (fun h => by cases h), (fun h => by cases h), (fun _ h => by cases h), (fun _ h => by cases h), trivial⟩
                  · intro _ _ a w2 hB hF hd
                    rw [if_pos (wanted_none rfl)]
                    exact flow_val (fun h => by cases h) (run_load_str rfl Try.underlying26 rfl Try.size26 (hF.same 5 rfl) (hx8.below hB hx8.lt)) rfl
                  · intro _ _ a w2 hB hF hd
                    rw [if_pos (wanted_none rfl)]
                    exact flow_val (fun h => by cases h) (run_load_str rfl Try.underlying26 rfl Try.size26 (hF.same 8 rfl) (hy8.below hB hy8.lt)) rfl
                  · intro _ _ a w2 hB hF hd
                    rw [if_pos (wanted_none rfl)]
                    refine flow_call _ _ _ rfl Try.call36 _ (args3 (hd 0 _ rfl rfl rfl (waits_spec rfl)) (hd 1 _ rfl rfl rfl (waits_spec rfl)) rfl) (by simp) ((feSwap_yes (dg 65536 X) (dg 65536 Y) X Y HFX.out HFY.out w2).mono ?_)
                    rintro e w3 ⟨rfl, hb⟩; exact ⟨_, rfl, rfl, hb⟩
                  · intro _ _ a w2 hB hF hd
                    rw [if_pos (wanted_none rfl)]
                    exact flow_move _ (.inl rfl) (by simp) (hd 2 _ rfl rfl rfl (waits_spec rfl))
                  · intro _ _ a w2 hB hF hd
                    rw [if_pos (wanted_none rfl)]
                    exact flow_val (fun h => by cases h) (run_extract rfl (hd 3 _ rfl rfl rfl (waits_spec rfl)) rfl) rfl
                  · intro _ _ a w2 hB hF hd
                    rw [if_pos (wanted_none rfl)]
                    exact flow_val (fun h => by cases h) (run_extract rfl (hd 3 _ rfl rfl rfl (waits_spec rfl)) rfl) rfl
                · refine Each.all ?_
                  refine ⟨(fun h => by cases h), (fun h => by cases h), (fun h => by cases h), (fun h => by cases h), (fun h => by cases h), (fun h => by cases h), ?_, ?_, (fun h => by cases h), (fun h => by cases h), trivial⟩
                  · exact fun _ => ⟨rfl, rfl, fun a w2 K h => flow_alloc rfl rfl Try.zeroValue26 (by simp) h⟩
                  · exact fun _ => ⟨rfl, rfl, fun a w2 K h => flow_alloc rfl rfl Try.zeroValue26 (by simp) h⟩
                · refine Each.all ?_
                  refine ⟨(fun _ h => by cases h), (fun _ h => by cases h), (fun _ h => by cases h), (fun _ h => by cases h), (fun _ h => by cases h), (fun _ h => by cases h), (fun _ h => by cases h), (fun _ h => by cases h), ?_, ?_, trivial⟩
                  · intro p hp
                    obtain rfl : 6 = p := Option.some.inj hp
                    exact ⟨rfl, rfl, ⟨_, rfl⟩, waits_spec rfl, fun a w2 b K hB hF hd hx hb h => flow_put rfl rfl Try.size26 hx (hd 4 _ rfl rfl rfl (waits_spec rfl)) hb h⟩
                  · intro p hp
                    obtain rfl : 7 = p := Option.some.inj hp
                    exact ⟨rfl, rfl, ⟨_, rfl⟩, waits_spec rfl, fun a w2 b K hB hF hd hx hb h => flow_put rfl rfl Try.size26 hx (hd 5 _ rfl rfl rfl (waits_spec rfl)) hb h⟩
                · intro a w9 blk hB hF hS hv hfin hdis
                  obtain ⟨v6, v6l, v6u⟩ := hv 6 _ rfl rfl
                  obtain ⟨v7, v7l, v7u⟩ := hv 7 _ rfl rfl
                  have ha := puts_each rfl rfl hF [_, _, _, _, _, _, _, _, undef, undef] rfl ⟨hS 0 _ rfl rfl rfl, hS 1 _ rfl rfl rfl, hS 2 _ rfl rfl rfl, hS 3 _ rfl rfl rfl, hS 4 _ rfl rfl rfl, hS 5 _ rfl rfl rfl, v6, v7, trivial, trivial, trivial⟩
                  have f6 := hfin 8 _ 6 rfl rfl
                  have f7 := hfin 9 _ 7 rfl rfl
                  have d6_7 := hdis 6 7 _ _ rfl rfl rfl rfl (by decide)
                  simp only [puts, Act.put, List.setIfInBounds_toArray, List.set_cons_succ, List.set_cons_zero] at ha
                  subst ha
                  have V6 : Arr .i64 w9 (blk 6) 16 (dg 65536 Y) := ⟨_, f6⟩
                  have V7 : Arr .i64 w9 (blk 7) 16 (dg 65536 X) := ⟨_, f7⟩
                  clear hS hv hfin hdis hF v6 v7 f6 f7
                  have hx9 := hx8.below hB hx8.lt
                  have hy9 := hy8.below hB hy8.lt
                  have hb9 := hb8.trans (hB.mono hb8.size)
                  obtain ⟨s, hs⟩ : ∃ y, y = blk 6 := ⟨_, rfl⟩
                  obtain ⟨t, ht⟩ : ∃ y, y = blk 7 := ⟨_, rfl⟩
                  rw [← hs] at V6 ⊢
                  rw [← ht] at V7 ⊢
                  have hs9 := V6
                  have ht9 := V7
                  clear hs ht hx8 hy8 hb8 hB d6_7 v6l v6u v7l v7u V6 V7
                  go_upto_region 14 with (fail)
                  refine region_vars (n := 77) (by kernel_rfl) (by kernel_rfl) (by kernel_rfl) rfl
                    (isAl [(8, 6), (9, 7)]) (putOf [(8, 6), (9, 7)]) (fun _ => arr .i64 16 (fun _ => 0)) (fun i => match i with | 6 => (arr .i64 16 (dg 65536 X)) | 7 => (arr .i64 16 (dg 65536 Y)) | _ => #[]) (fun _ => 26) (fun i => match i with | 6 => 11 | 7 => 12 | _ => 0)
                    (fun i v _ => (match i with | 0 | 4 => v = .agg (arr .i64 16 (dg 65536 X)) | 1 | 5 => v = .agg (arr .i64 16 (dg 65536 Y)) | 2 | 3 => v = .tuple #[.agg (arr .i64 16 (dg 65536 X)), .agg (arr .i64 16 (dg 65536 Y))] | _ => True)) (fun _ _ => True) (fun _ _ _ => trivial) (fun _ _ _ _ _ _ _ => trivial) (fun _ _ _ _ h _ => h)
                    (vs_al rfl) (vs_inj rfl) ?_ ?_ ?_ ?_
                  · refine Each.all ?_
                    refine ⟨?_, ?_, ?_, ?_, ?_, ?_, (fun h => by cases h), (fun h => by cases h), (fun _ h => by cases h), (fun _ h => by cases h), trivial⟩
                    · intro _ _ a w2 hB hF hd
                      rw [if_pos (wanted_none rfl)]
                      exact flow_val (fun h => by cases h) (run_load_str rfl Try.underlying26 rfl Try.size26 (hF.same 5 rfl) (hx9.below hB hx9.lt)) rfl
                    · intro _ _ a w2 hB hF hd
                      rw [if_pos (wanted_none rfl)]
                      exact flow_val (fun h => by cases h) (run_load_str rfl Try.underlying26 rfl Try.size26 (hF.same 8 rfl) (hy9.below hB hy9.lt)) rfl
                    · intro _ _ a w2 hB hF hd
                      rw [if_pos (wanted_none rfl)]
                      refine flow_call _ _ _ rfl Try.call36 _ (args3 (hd 0 _ rfl rfl rfl (waits_spec rfl)) (hd 1 _ rfl rfl rfl (waits_spec rfl)) rfl) (by simp) ((feSwap_no (dg 65536 X) (dg 65536 Y) X Y HFX.out HFY.out w2).mono ?_)
                      rintro e w3 ⟨rfl, hb⟩; exact ⟨_, rfl, rfl, hb⟩
                    · intro _ _ a w2 hB hF hd
                      rw [if_pos (wanted_none rfl)]
                      exact flow_move _ (.inl rfl) (by simp) (hd 2 _ rfl rfl rfl (waits_spec rfl))
                    · intro _ _ a w2 hB hF hd
                      rw [if_pos (wanted_none rfl)]
                      exact flow_val (fun h => by cases h) (run_extract rfl (hd 3 _ rfl rfl rfl (waits_spec rfl)) rfl) rfl
                    · intro _ _ a w2 hB hF hd
                      rw [if_pos (wanted_none rfl)]
                      exact flow_val (fun h => by cases h) (run_extract rfl (hd 3 _ rfl rfl rfl (waits_spec rfl)) rfl) rfl
                  · refine Each.all ?_
                    refine ⟨(fun h => by cases h), (fun h => by cases h), (fun h => by cases h), (fun h => by cases h), (fun h => by cases h), (fun h => by cases h), ?_, ?_, (fun h => by cases h), (fun h => by cases h), trivial⟩
                    · exact fun _ => ⟨rfl, rfl, fun a w2 K h => flow_alloc rfl rfl Try.zeroValue26 (by simp) h⟩
                    · exact fun _ => ⟨rfl, rfl, fun a w2 K h => flow_alloc rfl rfl Try.zeroValue26 (by simp) h⟩
                  · refine Each.all ?_
                    refine ⟨(fun _ h => by cases h), (fun _ h => by cases h), (fun _ h => by cases h), (fun _ h => by cases h), (fun _ h => by cases h), (fun _ h => by cases h), (fun _ h => by cases h), (fun _ h => by cases h), ?_, ?_, trivial⟩
                    · intro p hp
                      obtain rfl : 6 = p := Option.some.inj hp
                      exact ⟨rfl, rfl, ⟨_, rfl⟩, waits_spec rfl, fun a w2 b K hB hF hd hx hb h => flow_put rfl rfl Try.size26 hx (hd 4 _ rfl rfl rfl (waits_spec rfl)) hb h⟩
                    · intro p hp
                      obtain rfl : 7 = p := Option.some.inj hp
                      exact ⟨rfl, rfl, ⟨_, rfl⟩, waits_spec rfl, fun a w2 b K hB hF hd hx hb h => flow_put rfl rfl Try.size26 hx (hd 5 _ rfl rfl rfl (waits_spec rfl)) hb h⟩
                  · intro a w10 blk hB hF hS hv hfin hdis
                    obtain ⟨v6, v6l, v6u⟩ := hv 6 _ rfl rfl
                    obtain ⟨v7, v7l, v7u⟩ := hv 7 _ rfl rfl
                    have ha := puts_each rfl rfl hF [_, _, _, _, _, _, _, _, undef, undef] rfl ⟨hS 0 _ rfl rfl rfl, hS 1 _ rfl rfl rfl, hS 2 _ rfl rfl rfl, hS 3 _ rfl rfl rfl, hS 4 _ rfl rfl rfl, hS 5 _ rfl rfl rfl, v6, v7, trivial, trivial, trivial⟩
                    have f6 := hfin 8 _ 6 rfl rfl
                    have f7 := hfin 9 _ 7 rfl rfl
                    have d6_7 := hdis 6 7 _ _ rfl rfl rfl rfl (by decide)
                    simp only [puts, Act.put, List.setIfInBounds_toArray, List.set_cons_succ, List.set_cons_zero] at ha
                    subst ha
                    have V6 : Arr .i64 w10 (blk 6) 16 (dg 65536 X) := ⟨_, f6⟩
                    have V7 : Arr .i64 w10 (blk 7) 16 (dg 65536 Y) := ⟨_, f7⟩
                    clear hS hv hfin hdis hF v6 v7 f6 f7
                    have hx10 := hx9.below hB hx9.lt
                    have hy10 := hy9.below hB hy9.lt
                    have hs10 := hs9.below hB hs9.lt
                    have ht10 := ht9.below hB ht9.lt
                    have hb10 := hb9.trans (hB.mono hb9.size)
                    obtain ⟨u, hu⟩ : ∃ y, y = blk 6 := ⟨_, rfl⟩
                    obtain ⟨v, hv⟩ : ∃ y, y = blk 7 := ⟨_, rfl⟩
                    rw [← hu] at V6 ⊢
                    rw [← hv] at V7 ⊢
                    have hu10 := V6
                    have hv10 := V7
                    clear hu hv hx9 hy9 hs9 ht9 hb9 hB d6_7 v6l v6u v7l v7u V6 V7
                    go_upto_region 15 with (fail)
                    refine region_flow (n := 77) (by kernel_rfl) (by kernel_rfl) (by kernel_rfl) rfl
                      (fun i v _ => (match i with | 0 | 1 | 14 | 15 => v = .agg (arr .i64 16 (dg 65536 Y)) | 2 | 3 | 6 | 7 | 8 | 11 | 12 | 13 | 16 | 17 | 18 => v = .bool true | 4 | 5 | 9 | 10 => v = .agg (arr .i64 16 (dg 65536 X)) | _ => True))
                      (fun w w' => Below w.heap.size w w') (fun _ _ h => h) (fun _ _ _ _ h _ => h) ?_ ?_
                    · refine Each.all ?_
                      refine ⟨?_, ?_, ?_, ?_, ?_, ?_, ?_, ?_, ?_, ?_, ?_, ?_, ?_, ?_, ?_, ?_, ?_, ?_, ?_, trivial⟩
                      · intro a w2 hB hF hd
                        rw [if_pos (wanted_none rfl)]
                        exact flow_val (fun h => by cases h) (run_load_str rfl Try.underlying26 rfl Try.size26 (hF.same 9 rfl) (hs10.below hB hs10.lt)) rfl
                      · intro a w2 hB hF hd
                        rw [if_pos (wanted_none rfl)]
                        exact flow_val (fun h => by cases h) (run_load_str rfl Try.underlying26 rfl Try.size26 (hF.same 8 rfl) (hy10.below hB hy10.lt)) rfl
                      · intro a w2 hB hF hd
                        rw [if_pos (wanted_none rfl)]
                        refine flow_call _ _ _ rfl Try.call21 _ (args2 (hd 0 _ rfl (waits_spec rfl)) (hd 1 _ rfl (waits_spec rfl))) (by simp) ((feEqual_yes (dg 65536 Y) (dg 65536 Y) Y Y HFY.out HFY.out rfl w2).mono ?_)
                        rintro e w3 ⟨rfl, hb⟩; exact ⟨_, rfl, rfl, hb⟩
                      · intro a w2 hB hF hd
                        rw [if_pos (wanted_none rfl)]
                        exact flow_move _ (.inl rfl) (by simp) (hd 2 _ rfl (waits_spec rfl))
                      · intro a w2 hB hF hd
                        refine flow_wanted (wanted_yes rfl rfl (hd 3 _ rfl (waits_spec rfl)) rfl) ?_
                        exact flow_val (fun h => by cases h) (run_load_str rfl Try.underlying26 rfl Try.size26 (hF.same 10 rfl) (ht10.below hB ht10.lt)) rfl
                      · intro a w2 hB hF hd
                        refine flow_wanted (wanted_yes rfl rfl (hd 3 _ rfl (waits_spec rfl)) rfl) ?_
                        exact flow_val (fun h => by cases h) (run_load_str rfl Try.underlying26 rfl Try.size26 (hF.same 5 rfl) (hx10.below hB hx10.lt)) rfl
                      · intro a w2 hB hF hd
                        refine flow_wanted (wanted_yes rfl rfl (hd 3 _ rfl (waits_spec rfl)) rfl) ?_
                        refine flow_call _ _ _ rfl Try.call21 _ (args2 (hd 4 _ rfl (waits_spec rfl)) (hd 5 _ rfl (waits_spec rfl))) (by simp) ((feEqual_yes (dg 65536 X) (dg 65536 X) X X HFX.out HFX.out rfl w2).mono ?_)
                        rintro e w3 ⟨rfl, hb⟩; exact ⟨_, rfl, rfl, hb⟩
                      · intro a w2 hB hF hd
                        rw [if_pos (wanted_none rfl)]
                        exact flow_val (fun h => by cases h) (run_pick rfl (hd 3 _ rfl (waits_spec rfl))) ((hd 6 _ rfl (waits_spec rfl)))
                      · intro a w2 hB hF hd
                        rw [if_pos (wanted_none rfl)]
                        exact flow_move _ (.inl rfl) (by simp) (hd 7 _ rfl (waits_spec rfl))
                      · intro a w2 hB hF hd
                        refine flow_wanted (wanted_yes rfl rfl (hd 8 _ rfl (waits_spec rfl)) rfl) ?_
                        exact flow_val (fun h => by cases h) (run_load_str rfl Try.underlying26 rfl Try.size26 (hF.same 11 rfl) (hu10.below hB hu10.lt)) rfl
                      · intro a w2 hB hF hd
                        refine flow_wanted (wanted_yes rfl rfl (hd 8 _ rfl (waits_spec rfl)) rfl) ?_
                        exact flow_val (fun h => by cases h) (run_load_str rfl Try.underlying26 rfl Try.size26 (hF.same 5 rfl) (hx10.below hB hx10.lt)) rfl
                      · intro a w2 hB hF hd
                        refine flow_wanted (wanted_yes rfl rfl (hd 8 _ rfl (waits_spec rfl)) rfl) ?_
                        refine flow_call _ _ _ rfl Try.call21 _ (args2 (hd 9 _ rfl (waits_spec rfl)) (hd 10 _ rfl (waits_spec rfl))) (by simp) ((feEqual_yes (dg 65536 X) (dg 65536 X) X X HFX.out HFX.out rfl w2).mono ?_)
                        rintro e w3 ⟨rfl, hb⟩; exact ⟨_, rfl, rfl, hb⟩
                      · intro a w2 hB hF hd
                        rw [if_pos (wanted_none rfl)]
                        exact flow_val (fun h => by cases h) (run_pick rfl (hd 8 _ rfl (waits_spec rfl))) ((hd 11 _ rfl (waits_spec rfl)))
                      · intro a w2 hB hF hd
                        rw [if_pos (wanted_none rfl)]
                        exact flow_move _ (.inl rfl) (by simp) (hd 12 _ rfl (waits_spec rfl))
                      · intro a w2 hB hF hd
                        refine flow_wanted (wanted_yes rfl rfl (hd 13 _ rfl (waits_spec rfl)) rfl) ?_
                        exact flow_val (fun h => by cases h) (run_load_str rfl Try.underlying26 rfl Try.size26 (hF.same 12 rfl) (hv10.below hB hv10.lt)) rfl
                      · intro a w2 hB hF hd
                        refine flow_wanted (wanted_yes rfl rfl (hd 13 _ rfl (waits_spec rfl)) rfl) ?_
                        exact flow_val (fun h => by cases h) (run_load_str rfl Try.underlying26 rfl Try.size26 (hF.same 8 rfl) (hy10.below hB hy10.lt)) rfl
                      · intro a w2 hB hF hd
                        refine flow_wanted (wanted_yes rfl rfl (hd 13 _ rfl (waits_spec rfl)) rfl) ?_
                        refine flow_call _ _ _ rfl Try.call21 _ (args2 (hd 14 _ rfl (waits_spec rfl)) (hd 15 _ rfl (waits_spec rfl))) (by simp) ((feEqual_yes (dg 65536 Y) (dg 65536 Y) Y Y HFY.out HFY.out rfl w2).mono ?_)
                        rintro e w3 ⟨rfl, hb⟩; exact ⟨_, rfl, rfl, hb⟩
                      · intro a w2 hB hF hd
                        rw [if_pos (wanted_none rfl)]
                        exact flow_val (fun h => by cases h) (run_pick rfl (hd 13 _ rfl (waits_spec rfl))) ((hd 16 _ rfl (waits_spec rfl)))
                      · intro a w2 hB hF hd
                        rw [if_pos (wanted_none rfl)]
                        exact flow_move _ (.inr rfl) (by simp) (hd 17 _ rfl (waits_spec rfl))
                    · intro a w11 hB hF hS
                      have ha := puts_each rfl rfl hF [_, _, _, _, _, _, _, _, _, _, _, _, _, _, _, _, _, _, _] rfl ⟨hS 0 _ rfl, hS 1 _ rfl, hS 2 _ rfl, hS 3 _ rfl, hS 4 _ rfl, hS 5 _ rfl, hS 6 _ rfl, hS 7 _ rfl, hS 8 _ rfl, hS 9 _ rfl, hS 10 _ rfl, hS 11 _ rfl, hS 12 _ rfl, hS 13 _ rfl, hS 14 _ rfl, hS 15 _ rfl, hS 16 _ rfl, hS 17 _ rfl, hS 18 _ rfl, trivial⟩
                      simp only [puts, Act.put, List.setIfInBounds_toArray, List.set_cons_succ, List.set_cons_zero] at ha
                      subst ha
                      clear hS hF
                      have hbf := hb10.trans (hB.mono hb10.size)
                      clear hx10 hy10 hs10 ht10 hu10 hv10 hb10 hB
                      go_wp2
                      go_ret
                      exact ⟨rfl, hbf⟩
end Go.Proofs.Ytjmagojmfiabfaa
