/-
  Part 20 of the texts that the proof of PointSums rests on, one after the other. Conditions: named in each theorem.
-/
import Derived.Test.YtdhejcaapdhhfaaPkPointSums19
set_option linter.unusedVariables false
set_option linter.unusedSimpArgs false
namespace Go.Bas
theorem bytesN_zero : bytesN (.zero : Ed C7) = 1 := by
  have h1 : edY (.zero : Ed C7) = 1 := by unfold edY Ed.zero; decide +kernel
  have h0 : edX (.zero : Ed C7) = 0 := by unfold edX Ed.zero; decide +kernel
  unfold bytesN
  rw [h1, h0]; decide
theorem base_yR : toF (4 * 5 ^ (PN - 2)) = Bp.y := by
  have h := RRep.base.2.2
  rw [toF_one] at h
  generalize toF (4 * 5 ^ (PN - 2)) = a at *
  generalize Bp.y = b at *
  grind
end Go.Bas
namespace Go.Proofs.Ytdhejcaapdhhfaa
open Go.RowKit Go.Bas Go.ChangeShapes
attribute [local go_sem ↓] Go.wp_at_zero Go.wp_at_succ
theorem build_one32 {a : Act} (w : World) : (Instr.build 22 ((#[(0, .const (.int .u8 1))] : Array (Nat × Operand)).map fun (i, x) => (i, a.eval x))).run Try.prog w = .ok (.agg (arr .u8 32 (dg 256 1))) w := Go.run_build w _ _ _ (by kernel_rfl)
theorem rOnBase {a b : Value} (w : World) (h1 : Rd .i64 w a 16 (dg 65536 (BX % Pr))) (h2 : Rd .i64 w b 16 (dg 65536 (4 * 5 ^ (PN - 2) % Pr))) : Calls Try.prog 14 #[a, b] w fun e w' => e = .returned (.bool true) ∧ Below w.heap.size w w' :=
  rOn7_any a b BX (4 * 5 ^ (PN - 2)) w h1 h2 (on_numR (p := Bp) rfl base_yR)
theorem pMulN {v : Value} {p : Ed C7} (n : Nat) (hn : n < 2 ^ 256) (w : World) (hp : NPt v p) :
    Calls Try.prog 16 #[v, .agg (arr .u8 32 (dg 256 (n : Int)))] w fun e w' => ∃ r, e = .returned r ∧ NPt r (p.mul n) ∧ Below w.heap.size w w' := by
  obtain ⟨F, rfl, h⟩ := hp
  refine (pMul_ok h n hn w).mono ?_
  rintro e w' ⟨G, rfl, hG, hb⟩
  exact ⟨_, rfl, ⟨G, rfl, hG⟩, hb⟩
theorem pAddN {v u : Value} {p q : Ed C7} (w : World) (hp : NPt v p) (hq : NPt u q) :
    Calls Try.prog 18 #[v, u] w fun e w' => ∃ r, e = .returned r ∧ NPt r (p.add q) ∧ Below w.heap.size w w' := by
  obtain ⟨F, rfl, h⟩ := hp
  obtain ⟨G, rfl, k⟩ := hq
  obtain ⟨R, hR, hc⟩ := pAdd_ok h k
  refine (hc w).mono ?_
  rintro e w' ⟨rfl, hb⟩
  exact ⟨_, rfl, ⟨R, rfl, hR⟩, hb⟩
theorem pNegN {v : Value} {p : Ed C7} (w : World) (hp : NPt v p) : Calls Try.prog 24 #[v] w fun e w' => ∃ r, e = .returned r ∧ NPt r p.neg ∧ Below w.heap.size w w' := by
  obtain ⟨F, rfl, h⟩ := hp
  obtain ⟨R, hR, hc⟩ := pNeg_ok h
  refine (hc w).mono ?_
  rintro e w' ⟨rfl, hb⟩
  exact ⟨_, rfl, ⟨R, rfl, hR⟩, hb⟩
theorem pNoughtN (w : World) : Calls Try.prog 15 #[] w fun e w' => ∃ r, e = .returned r ∧ NPt r .zero ∧ Below w.heap.size w w' := by
  obtain ⟨R, hR, hc⟩ := pNought_ok
  refine (hc w).mono ?_
  rintro e w' ⟨rfl, hb⟩
  exact ⟨_, rfl, ⟨R, rfl, hR⟩, hb⟩
theorem pBytesN {v : Value} {p : Ed C7} (w : World) (hp : NPt v p) : Calls Try.prog 12 #[v] w fun e w' => e = .returned (.agg (arr .u8 32 (dg 256 (bytesN p)))) ∧ Below w.heap.size w w' := by
  obtain ⟨F, rfl, h⟩ := hp
  exact pBytes_ok h w
theorem pEqualN {v u : Value} {p q : Ed C7} (w : World) (hp : NPt v p) (hq : NPt u q) (e : p = q) : Calls Try.prog 34 #[v, u] w fun e w' => e = .returned (.bool true) ∧ Below w.heap.size w w' := by
  obtain ⟨F, rfl, h⟩ := hp
  obtain ⟨G, rfl, k⟩ := hq
  exact pEqual_ok h k e w
theorem pOnN {v : Value} {p : Ed C7} (w : World) (hp : NPt v p) : Calls Try.prog 21 #[v] w fun e w' => e = .returned (.bool true) ∧ Below w.heap.size w w' := by
  obtain ⟨F, rfl, h⟩ := hp
  exact pOn_ok h w

set_option maxRecDepth 100000 in
set_option maxHeartbeats 6400000 in
theorem pointSums_num (M N : Nat) (hM : M < 2 ^ 256) (hN : N < 2 ^ 256) (w : World) :
    Calls Try.prog 3 #[.agg (arr .u8 32 (dg 256 (M : Int))), .agg (arr .u8 32 (dg 256 (N : Int)))] w fun e w' => e = .returned (.bool true) ∧ Below w.heap.size w w' := by
  have HM := Lib.hid hM
  have HN := Lib.hid hN
  have HBF := Lib.hid pf_base
  have HPB := Lib.hid (fun w => pBase_ok w)
  have HB1 := Lib.hid (fun (a : Act) w => build_one32 (a := a) w)
  have HZ : Hid (sameB 32 (dg 256 (bytesN (.zero : Ed C7))) (dg 256 1) = true) := by rw [bytesN_zero]; exact sameB_self
  obtain ⟨F, hF⟩ : ∃ F, F = baseF := ⟨_, rfl⟩
  rw [← hF] at HBF HPB
  clear hM hN hF
  go_enter Try.func3, Try.ntmps3
  go_upto_region 1 with (fail)
  refine wp_world (fun w1 => Arr .u8 w1 w.heap.size 32 (dg 256 (M : Int)) ∧ Arr .u8 w1 (w.heap.size + 1) 32 (dg 256 (N : Int)) ∧ Below w.heap.size w w1) ⟨.alloc (Arr.newAt rfl rfl) _, Arr.newAt (by first | omega | (simp <;> omega)) rfl, ((Below.refl _ _).alloc (Nat.le_refl _) _).alloc (by first | omega | (simp <;> omega)) _⟩ ?_
  rintro w1 ⟨h2, h3, hbel⟩
  go_wp2_with fail
  refine (pnAwake_any _).mono ?_
  rintro e w2 ⟨rfl, hb⟩
  replace h2 := h2.kept hb
  replace h3 := h3.kept hb
  replace hbel := hbel.trans (hb.mono hbel.size)
  clear hb
  go_wp2_with fail
  refine (HPB.out _).mono ?_
  rintro e w3 ⟨rfl, hb⟩
  replace h2 := h2.kept hb
  replace h3 := h3.kept hb
  replace hbel := hbel.trans (hb.mono hbel.size)
  clear hb
  go_wp2_with fail
  refine (rBase7_any _).mono ?_
  rintro e w4 ⟨va, vb, vc, rfl, ⟨ha, hbb, hc⟩, hb⟩
  replace h2 := h2.kept hb
  replace h3 := h3.kept hb
  replace hbel := hbel.trans (hb.mono hbel.size)
  have HS : SPt w4 (.agg #[va, vb, vc]) Bp := SPt.of ⟨_, _, _, RRep.base, ha, hbb, hc⟩
  obtain ⟨a1, a2, a3, e1⟩ := ha.isSlice
  obtain ⟨b1, b2, b3, e2⟩ := hbb.isSlice
  obtain ⟨c1, c2, c3, e3⟩ := hc.isSlice
  subst e1; subst e2; subst e3
  have HS := Lib.hid HS
  have Ha := Lib.hid ha
  have Hb := Lib.hid hbb
  have hl3 := h3.lt
  clear hb ha hbb hc
  go_upto_region 4 with (first
    | (refine store_arr rfl 28 _ _ rfl .i64 w4.heap.size 64 (fun _ => 0) F Try.size28 rfl rfl (.alloc (Arr.newAt rfl (by rfl)) _) ?_)
    | (refine store_rowC rfl 32 _ _ rfl (w4.heap.size + 1) #[.slice none 0 0, .slice none 0 0, .slice none 0 0] #[.slice a1 a2 a3, .slice b1 b2 b3, .slice c1 c2 c3] rfl (one3 ⟨_, _, _, rfl⟩ ⟨_, _, _, rfl⟩ ⟨_, _, _, rfl⟩) Try.size32 rfl rfl (RowC.setRowOther (RowC.newAt (by first | omega | (simp <;> omega))) _ (by omega) _) ?_))
  refine wp_world (fun w5 => Arr .i64 w5 w4.heap.size 64 F ∧ RowC w5 (w4.heap.size + 1) #[.slice a1 a2 a3, .slice b1 b2 b3, .slice c1 c2 c3] ∧ Below w4.heap.size w4 w5)
    ⟨((Arr.alloc (Arr.newAt rfl (by rfl) : Arr .i64 _ _ 64 (fun _ => 0)) _).setRow _ _).setRowOther _ (by omega) _, (RowC.setRowOther (RowC.newAt (by first | omega | (simp <;> omega)) : RowC _ _ #[.slice none 0 0, .slice none 0 0, .slice none 0 0]) _ (by omega) _).setRow _, below_setRow' (below_setRow' (((Below.refl _ _).alloc (Nat.le_refl _) _).alloc (by first | omega | (simp <;> omega)) _) (Nat.le_refl _) _) (by omega) _⟩ ?_
  rintro w5 ⟨h5, h6, hb⟩
  replace h2 := h2.kept hb
  replace h3 := h3.kept hb
  replace HS := Lib.hid (HS.out.below hb)
  replace Ha := Lib.hid (Ha.out.below hb)
  replace Hb := Lib.hid (Hb.out.below hb)
  replace hbel := hbel.trans (hb.mono hbel.size)
  obtain ⟨x5, e5⟩ : ∃ x, x = w4.heap.size := ⟨_, rfl⟩
  rw [← e5] at h5 h6 hl3 ⊢
  clear e5 hb
  try simp only [Act.put, List.setIfInBounds_toArray, List.set_cons_succ, List.set_cons_zero]
  refine region_flow (n := 67) (by kernel_rfl) (by kernel_rfl) (by kernel_rfl) rfl
    (fun ii vv ww => (match ii with | 0 => vv = .agg (arr .i64 64 (F)) | 1 | 3 => vv = .agg (arr .u8 32 (dg 256 (bytesN (Bp)))) | 2 => vv = .agg #[.slice a1 a2 a3, .slice b1 b2 b3, .slice c1 c2 c3] | 4 | 5 | 11 | 12 | 13 | 17 | 18 => vv = .bool false | 6 => vv = .pointer (some ⟨(x5 + 1), 0, none⟩) | 7 => vv = .slice a1 a2 a3 | 8 => vv = .pointer (some ⟨(x5 + 1), 1, none⟩) | 9 => vv = .slice b1 b2 b3 | 10 => vv = .bool true | 15 => vv = .agg (arr .u8 32 (dg 256 (bytesN (.zero)))) | 16 => vv = .agg (arr .u8 32 (dg 256 1)) | _ => True) ∧ (ii = 14 → NPt vv (.zero)))
    (fun w w' => Below w.heap.size w w') (fun _ _ h => h) (fun i v w w' h hE => ⟨h.1, fun e => NPt.keep (h.2 e) hE⟩) ?_ ?_
  · refine Each.all ?_
    refine ⟨?_, ?_, ?_, ?_, ?_, ?_, ?_, ?_, ?_, ?_, ?_, ?_, ?_, ?_, ?_, ?_, ?_, ?_, ?_, trivial⟩
    · intro a w2 hB hF hd
      rw [if_pos (wanted_none rfl)]
      exact flow_val (fun h => by cases h) (run_load_str rfl Try.underlying28 rfl Try.size28 (hF.same 5 rfl) (h5.below hB h5.lt)) ⟨rfl, fun h => absurd h (by decide)⟩
    · intro a w2 hB hF hd
      rw [if_pos (wanted_none rfl)]
      refine flow_call _ _ _ rfl Try.call12 _ (args1 ((hd 0 _ rfl (waits_spec rfl)).1)) (by simp) ((pBytesN w2 ⟨_, rfl, HBF.out⟩).mono ?_)
      rintro e w3 ⟨rfl, hb⟩; exact ⟨_, rfl, ⟨rfl, fun h => absurd h (by decide)⟩, hb⟩
    · intro a w2 hB hF hd
      rw [if_pos (wanted_none rfl)]
      exact flow_val (fun h => by cases h) (run_load_rowC (cs := #[.slice a1 a2 a3, .slice b1 b2 b3, .slice c1 c2 c3]) rfl Try.underlying32 rfl Try.size32 (hF.same 6 rfl) (h6.kept hB)) ⟨rfl, fun h => absurd h (by decide)⟩
    · intro a w2 hB hF hd
      rw [if_pos (wanted_none rfl)]
      refine flow_call _ _ _ rfl Try.call13 _ (args1 ((hd 2 _ rfl (waits_spec rfl)).1)) (by simp) ((rBytesS w2 (HS.out.below hB)).mono ?_)
      rintro e w3 ⟨rfl, hb⟩; exact ⟨_, rfl, ⟨rfl, fun h => absurd h (by decide)⟩, hb⟩
    · intro a w2 hB hF hd
      rw [if_pos (wanted_none rfl)]
      exact flow_val (fun h => by cases h) (run_neq_arr true rfl ((hd 1 _ rfl (waits_spec rfl)).1) ((hd 3 _ rfl (waits_spec rfl)).1) Try.underlying22 (by kernel_rfl) (by kernel_rfl) (by kernel_rfl) (by kernel_rfl) (by kernel_rfl) sameB_self) ⟨rfl, fun h => absurd h (by decide)⟩
    · intro a w2 hB hF hd
      rw [if_pos (wanted_none rfl)]
      exact flow_move _ (.inl rfl) (by simp) ⟨((hd 4 _ rfl (waits_spec rfl)).1), fun h => absurd h (by decide)⟩
    · intro a w2 hB hF hd
      refine flow_wanted (wanted_yes rfl rfl ((hd 5 _ rfl (waits_spec rfl)).1) rfl) ?_
      refine flow_val (fun h => by cases h) (run_field_at (m := 0) (k := 0) rfl (hF.same 6 rfl) (by kernel_rfl)) ?_
      exact ⟨rfl, fun h => absurd h (by decide)⟩
    · intro a w2 hB hF hd
      refine flow_wanted (wanted_yes rfl rfl ((hd 5 _ rfl (waits_spec rfl)).1) rfl) ?_
      exact flow_val (fun h => by cases h) (run_load_sl rfl ((hd 6 _ rfl (waits_spec rfl)).1) Try.underlying30 ((h6.kept hB).cell 0 rfl)) ⟨rfl, fun h => absurd h (by decide)⟩
    · intro a w2 hB hF hd
      refine flow_wanted (wanted_yes rfl rfl ((hd 5 _ rfl (waits_spec rfl)).1) rfl) ?_
      refine flow_val (fun h => by cases h) (run_field_at (m := 0) (k := 1) rfl (hF.same 6 rfl) (by kernel_rfl)) ?_
      exact ⟨rfl, fun h => absurd h (by decide)⟩
    · intro a w2 hB hF hd
      refine flow_wanted (wanted_yes rfl rfl ((hd 5 _ rfl (waits_spec rfl)).1) rfl) ?_
      exact flow_val (fun h => by cases h) (run_load_sl rfl ((hd 8 _ rfl (waits_spec rfl)).1) Try.underlying30 ((h6.kept hB).cell 1 rfl)) ⟨rfl, fun h => absurd h (by decide)⟩
    · intro a w2 hB hF hd
      refine flow_wanted (wanted_yes rfl rfl ((hd 5 _ rfl (waits_spec rfl)).1) rfl) ?_
      refine flow_call _ _ _ rfl Try.call14 _ (args2 ((hd 7 _ rfl (waits_spec rfl)).1) ((hd 9 _ rfl (waits_spec rfl)).1)) (by simp) ((rOnBase w2 (Ha.out.below hB) (Hb.out.below hB)).mono ?_)
      rintro e w3 ⟨rfl, hb⟩; exact ⟨_, rfl, ⟨rfl, fun h => absurd h (by decide)⟩, hb⟩
    · intro a w2 hB hF hd
      refine flow_wanted (wanted_yes rfl rfl ((hd 5 _ rfl (waits_spec rfl)).1) rfl) ?_
      exact flow_val (fun h => by cases h) (run_not rfl ((hd 10 _ rfl (waits_spec rfl)).1)) ⟨rfl, fun h => absurd h (by decide)⟩
    · intro a w2 hB hF hd
      rw [if_pos (wanted_none rfl)]
      exact flow_val (fun h => by cases h) (run_pick rfl ((hd 5 _ rfl (waits_spec rfl)).1)) ⟨(((hd 11 _ rfl (waits_spec rfl)).1)), fun h => absurd h (by decide)⟩
    · intro a w2 hB hF hd
      rw [if_pos (wanted_none rfl)]
      exact flow_move _ (.inl rfl) (by simp) ⟨((hd 12 _ rfl (waits_spec rfl)).1), fun h => absurd h (by decide)⟩
    · intro a w2 hB hF hd
      refine flow_wanted (wanted_yes rfl rfl ((hd 13 _ rfl (waits_spec rfl)).1) rfl) ?_
      refine flow_call _ _ _ rfl Try.call15 _ args0 (by simp) ((pNoughtN w2).mono ?_)
      rintro e w3 ⟨u, rfl, hr, hb⟩; exact ⟨u, rfl, ⟨trivial, fun _ => hr⟩, hb⟩
    · intro a w2 hB hF hd
      refine flow_wanted (wanted_yes rfl rfl ((hd 13 _ rfl (waits_spec rfl)).1) rfl) ?_
      refine flow_call _ _ _ rfl Try.call12 _ (args1 rfl) (by simp) ((pBytesN w2 ((hd 14 _ rfl (waits_spec rfl)).2 rfl)).mono ?_)
      rintro e w3 ⟨rfl, hb⟩; exact ⟨_, rfl, ⟨rfl, fun h => absurd h (by decide)⟩, hb⟩
    · intro a w2 hB hF hd
      refine flow_wanted (wanted_yes rfl rfl ((hd 13 _ rfl (waits_spec rfl)).1) rfl) ?_
      exact flow_val (fun h => by cases h) (run_built rfl (HB1.out _ _)) ⟨rfl, fun h => absurd h (by decide)⟩
    · intro a w2 hB hF hd
      refine flow_wanted (wanted_yes rfl rfl ((hd 13 _ rfl (waits_spec rfl)).1) rfl) ?_
      exact flow_val (fun h => by cases h) (run_neq_arr true rfl ((hd 15 _ rfl (waits_spec rfl)).1) ((hd 16 _ rfl (waits_spec rfl)).1) Try.underlying22 (by kernel_rfl) (by kernel_rfl) (by kernel_rfl) (by kernel_rfl) (by kernel_rfl) HZ.out) ⟨rfl, fun h => absurd h (by decide)⟩
    · intro a w2 hB hF hd
      rw [if_pos (wanted_none rfl)]
      exact flow_val (fun h => by cases h) (run_pick rfl ((hd 13 _ rfl (waits_spec rfl)).1)) ⟨(((hd 17 _ rfl (waits_spec rfl)).1)), fun h => absurd h (by decide)⟩
  · intro a w6 hB hF hS
    obtain ⟨x29, hx29⟩ : ∃ x, x = a.tmps.getD 29 undef := ⟨_, rfl⟩
    have ha := puts_each rfl rfl hF [_, _, _, _, _, _, _, _, _, _, _, _, _, _, x29, _, _, _, _] rfl ⟨(hS 0 _ rfl).1, (hS 1 _ rfl).1, (hS 2 _ rfl).1, (hS 3 _ rfl).1, (hS 4 _ rfl).1, (hS 5 _ rfl).1, (hS 6 _ rfl).1, (hS 7 _ rfl).1, (hS 8 _ rfl).1, (hS 9 _ rfl).1, (hS 10 _ rfl).1, (hS 11 _ rfl).1, (hS 12 _ rfl).1, (hS 13 _ rfl).1, hx29.symm, (hS 15 _ rfl).1, (hS 16 _ rfl).1, (hS 17 _ rfl).1, (hS 18 _ rfl).1, trivial⟩
    simp only [puts, Act.put, List.setIfInBounds_toArray, List.set_cons_succ, List.set_cons_zero] at ha
    subst ha
    clear hx29
    clear hS hF
    replace h2 := h2.kept hB
    replace h3 := h3.kept hB
    replace h5 := h5.kept hB
    replace h6 := h6.kept hB
    replace HS := Lib.hid (HS.out.below hB)
    replace Ha := Lib.hid (Ha.out.below hB)
    replace Hb := Lib.hid (Hb.out.below hB)
    replace hbel := hbel.trans (hB.mono hbel.size)
    clear hB
    go_upto_region 6 with (fail)
    refine region_varsS (n := 67) (by kernel_rfl) (by kernel_rfl) (by kernel_rfl) rfl
      (isAl [(8, 6), (9, 7)]) (putOf [(8, 6), (9, 7)]) (fun _ => arr .i64 64 (fun _ => 0))  (fun _ => 28) (fun i => match i with | 6 => 7 | 7 => 8 | _ => 0) (fun i => match i with | 6 => 2 | 7 => 5 | _ => 0)
      (fun ii vv ww => (match ii with | 0 | 3 => vv = .agg (arr .i64 64 (F)) | 1 => vv = .agg (arr .u8 32 (dg 256 (M : Int))) | 4 => vv = .agg (arr .u8 32 (dg 256 (N : Int))) | _ => True) ∧ (ii = 2 → NPt vv ((Bp).mul M)) ∧ (ii = 5 → NPt vv ((Bp).mul N))) (fun _ _ => True) (fun _ _ _ => trivial) (fun _ _ _ _ _ _ _ => trivial) (fun i v w w' h hE => ⟨h.1, fun e => NPt.keep (h.2.1 e) hE, fun e => NPt.keep (h.2.2 e) hE⟩)
      (vs_al rfl) (src_spec (by kernel_rfl)) (vs_inj rfl) ?_ ?_ ?_ ?_
    · refine Each.all ?_
      refine ⟨?_, ?_, ?_, ?_, ?_, ?_, (fun h => by cases h), (fun h => by cases h), (fun _ h => by cases h), (fun _ h => by cases h), trivial⟩
      · intro _ _ a w2 hB hF hd
        rw [if_pos (wanted_none rfl)]
        exact flow_val (fun h => by cases h) (run_load_str rfl Try.underlying28 rfl Try.size28 (hF.same 5 rfl) (h5.below hB h5.lt)) ⟨rfl, fun h => absurd h (by decide), fun h => absurd h (by decide)⟩
      · intro _ _ a w2 hB hF hd
        rw [if_pos (wanted_none rfl)]
        exact flow_val (fun h => by cases h) (run_load_str rfl Try.underlying22 rfl Try.size22 (hF.same 2 rfl) (h2.below hB h2.lt)) ⟨rfl, fun h => absurd h (by decide), fun h => absurd h (by decide)⟩
      · intro _ _ a w2 hB hF hd
        rw [if_pos (wanted_none rfl)]
        refine flow_call _ _ _ rfl Try.call16 _ (args2 ((hd 0 _ rfl rfl rfl (waits_spec rfl)).1) ((hd 1 _ rfl rfl rfl (waits_spec rfl)).1)) (by simp) ((pMulN M HM.out w2 ⟨_, rfl, HBF.out⟩).mono ?_)
        rintro e w3 ⟨u, rfl, hr, hb⟩; exact ⟨u, rfl, ⟨trivial, fun _ => hr, fun h => absurd h (by decide)⟩, hb⟩
      · intro _ _ a w2 hB hF hd
        rw [if_pos (wanted_none rfl)]
        exact flow_val (fun h => by cases h) (run_load_str rfl Try.underlying28 rfl Try.size28 (hF.same 5 rfl) (h5.below hB h5.lt)) ⟨rfl, fun h => absurd h (by decide), fun h => absurd h (by decide)⟩
      · intro _ _ a w2 hB hF hd
        rw [if_pos (wanted_none rfl)]
        exact flow_val (fun h => by cases h) (run_load_str rfl Try.underlying22 rfl Try.size22 (hF.same 3 rfl) (h3.below hB h3.lt)) ⟨rfl, fun h => absurd h (by decide), fun h => absurd h (by decide)⟩
      · intro _ _ a w2 hB hF hd
        rw [if_pos (wanted_none rfl)]
        refine flow_call _ _ _ rfl Try.call16 _ (args2 ((hd 3 _ rfl rfl rfl (waits_spec rfl)).1) ((hd 4 _ rfl rfl rfl (waits_spec rfl)).1)) (by simp) ((pMulN N HN.out w2 ⟨_, rfl, HBF.out⟩).mono ?_)
        rintro e w3 ⟨u, rfl, hr, hb⟩; exact ⟨u, rfl, ⟨trivial, fun h => absurd h (by decide), fun _ => hr⟩, hb⟩
    · refine Each.all ?_
      refine ⟨(fun h => by cases h), (fun h => by cases h), (fun h => by cases h), (fun h => by cases h), (fun h => by cases h), (fun h => by cases h), ?_, ?_, (fun h => by cases h), (fun h => by cases h), trivial⟩
      · exact fun _ => ⟨rfl, rfl, fun a w2 K h => flow_alloc rfl rfl Try.zeroValue28 (by simp) h⟩
      · exact fun _ => ⟨rfl, rfl, fun a w2 K h => flow_alloc rfl rfl Try.zeroValue28 (by simp) h⟩
    · refine Each.all ?_
      refine ⟨(fun _ h => by cases h), (fun _ h => by cases h), (fun _ h => by cases h), (fun _ h => by cases h), (fun _ h => by cases h), (fun _ h => by cases h), (fun _ h => by cases h), (fun _ h => by cases h), ?_, ?_, trivial⟩
      · intro p hp
        obtain rfl : 6 = p := Option.some.inj hp
        exact ⟨rfl, rfl, ⟨_, rfl⟩, waits_spec rfl, fun a w2 b K hB hF hd hx hb h => put_src_N (s := 2) rfl rfl rfl Try.size28 hx rfl ((hd 2 _ rfl rfl rfl (waits_spec rfl)).2.1 rfl) hb h⟩
      · intro p hp
        obtain rfl : 7 = p := Option.some.inj hp
        exact ⟨rfl, rfl, ⟨_, rfl⟩, waits_spec rfl, fun a w2 b K hB hF hd hx hb h => put_src_N (s := 5) rfl rfl rfl Try.size28 hx rfl ((hd 5 _ rfl rfl rfl (waits_spec rfl)).2.2 rfl) hb h⟩
    · intro a w7 blk hB hF hS hv hfin hdis
      obtain ⟨v6, v6l, v6u⟩ := hv 6 _ rfl rfl
      obtain ⟨v7, v7l, v7u⟩ := hv 7 _ rfl rfl
      obtain ⟨x36, hx36⟩ : ∃ x, x = a.tmps.getD 36 undef := ⟨_, rfl⟩
      have P36 : NPt x36 ((Bp).mul M) := by rw [hx36]; exact (hS 2 _ rfl rfl rfl).2.1 rfl
      obtain ⟨x39, hx39⟩ : ∃ x, x = a.tmps.getD 39 undef := ⟨_, rfl⟩
      have P39 : NPt x39 ((Bp).mul N) := by rw [hx39]; exact (hS 5 _ rfl rfl rfl).2.2 rfl
      have f6 := hfin 8 _ 6 rfl rfl
      obtain ⟨F36, e36, G36⟩ := P36
      have V6 : Arr .i64 w7 (blk 6) 64 F36 := arr_src (s := 2) f6 rfl (hx36.symm.trans e36)
      have f7 := hfin 9 _ 7 rfl rfl
      obtain ⟨F39, e39, G39⟩ := P39
      have V7 : Arr .i64 w7 (blk 7) 64 F39 := arr_src (s := 5) f7 rfl (hx39.symm.trans e39)
      have ha := puts_each rfl rfl hF [_, _, x36, _, _, x39, _, _, undef, undef] rfl ⟨(hS 0 _ rfl rfl rfl).1, (hS 1 _ rfl rfl rfl).1, hx36.symm, (hS 3 _ rfl rfl rfl).1, (hS 4 _ rfl rfl rfl).1, hx39.symm, v6, v7, trivial, trivial, trivial⟩
      have d6_7 := hdis 6 7 _ _ rfl rfl rfl rfl (by decide)
      simp only [puts, Act.put, List.setIfInBounds_toArray, List.set_cons_succ, List.set_cons_zero] at ha
      subst ha
      clear hx36 hx39
      clear hS hv hfin hdis hF v6 v7 f6 f7
      replace h2 := h2.kept hB
      replace h3 := h3.kept hB
      replace h5 := h5.kept hB
      replace h6 := h6.kept hB
      replace HS := Lib.hid (HS.out.below hB)
      replace Ha := Lib.hid (Ha.out.below hB)
      replace Hb := Lib.hid (Hb.out.below hB)
      replace hbel := hbel.trans (hB.mono hbel.size)
      obtain ⟨x7, e7⟩ : ∃ x, x = blk 6 := ⟨_, rfl⟩
      obtain ⟨x8, e8⟩ : ∃ x, x = blk 7 := ⟨_, rfl⟩
      rw [← e7] at V6 ⊢
      rw [← e8] at V7 ⊢
      have h7 := V6
      have h8 := V7
      have H7 := Lib.hid G36
      have H8 := Lib.hid G39
      clear hB v6l v6u v7l v7u e36 e39 G36 G39 V6 V7 d6_7 e7 e8
      go_upto_region 7 with (fail)
      refine region_varsS (n := 67) (by kernel_rfl) (by kernel_rfl) (by kernel_rfl) rfl
        (isAl [(8, 6), (9, 7)]) (putOf [(8, 6), (9, 7)]) (fun _ => #[.slice none 0 0, .slice none 0 0, .slice none 0 0])  (fun _ => 32) (fun i => match i with | 6 => 9 | 7 => 10 | _ => 0) (fun i => match i with | 6 => 2 | 7 => 5 | _ => 0)
        (fun ii vv ww => (match ii with | 0 | 3 => vv = .agg #[.slice a1 a2 a3, .slice b1 b2 b3, .slice c1 c2 c3] | 1 => vv = .agg (arr .u8 32 (dg 256 (M : Int))) | 4 => vv = .agg (arr .u8 32 (dg 256 (N : Int))) | _ => True) ∧ (ii = 2 → SPt ww vv ((Bp).mul M)) ∧ (ii = 5 → SPt ww vv ((Bp).mul N))) KeepI (fun _ _ h => KeepI.of h) (fun w b cs p _ _ hz => KeepI.row hz (three_sl ⟨_, _, _, rfl⟩ ⟨_, _, _, rfl⟩ ⟨_, _, _, rfl⟩)) (fun i v w w' h hE => ⟨h.1, fun e => SPt.keepI (h.2.1 e) hE, fun e => SPt.keepI (h.2.2 e) hE⟩)
        (vs_al rfl) (src_spec (by kernel_rfl)) (vs_inj rfl) ?_ ?_ ?_ ?_
      · refine Each.all ?_
        refine ⟨?_, ?_, ?_, ?_, ?_, ?_, (fun h => by cases h), (fun h => by cases h), (fun _ h => by cases h), (fun _ h => by cases h), trivial⟩
        · intro _ _ a w2 hB hF hd
          rw [if_pos (wanted_none rfl)]
          exact flow_val (fun h => by cases h) (run_load_rowC (cs := #[.slice a1 a2 a3, .slice b1 b2 b3, .slice c1 c2 c3]) rfl Try.underlying32 rfl Try.size32 (hF.same 6 rfl) (h6.kept hB)) ⟨rfl, fun h => absurd h (by decide), fun h => absurd h (by decide)⟩
        · intro _ _ a w2 hB hF hd
          rw [if_pos (wanted_none rfl)]
          exact flow_val (fun h => by cases h) (run_load_str rfl Try.underlying22 rfl Try.size22 (hF.same 2 rfl) (h2.below hB h2.lt)) ⟨rfl, fun h => absurd h (by decide), fun h => absurd h (by decide)⟩
        · intro _ _ a w2 hB hF hd
          rw [if_pos (wanted_none rfl)]
          refine flow_call _ _ _ rfl Try.call17 _ (args2 ((hd 0 _ rfl rfl rfl (waits_spec rfl)).1) ((hd 1 _ rfl rfl rfl (waits_spec rfl)).1)) (by simp) ((rMulS M HM.out w2 (HS.out.below hB)).mono ?_)
          rintro e w3 ⟨u, rfl, hr, hb⟩; exact ⟨u, rfl, ⟨trivial, fun _ => hr, fun h => absurd h (by decide)⟩, hb⟩
        · intro _ _ a w2 hB hF hd
          rw [if_pos (wanted_none rfl)]
          exact flow_val (fun h => by cases h) (run_load_rowC (cs := #[.slice a1 a2 a3, .slice b1 b2 b3, .slice c1 c2 c3]) rfl Try.underlying32 rfl Try.size32 (hF.same 6 rfl) (h6.kept hB)) ⟨rfl, fun h => absurd h (by decide), fun h => absurd h (by decide)⟩
        · intro _ _ a w2 hB hF hd
          rw [if_pos (wanted_none rfl)]
          exact flow_val (fun h => by cases h) (run_load_str rfl Try.underlying22 rfl Try.size22 (hF.same 3 rfl) (h3.below hB h3.lt)) ⟨rfl, fun h => absurd h (by decide), fun h => absurd h (by decide)⟩
        · intro _ _ a w2 hB hF hd
          rw [if_pos (wanted_none rfl)]
          refine flow_call _ _ _ rfl Try.call17 _ (args2 ((hd 3 _ rfl rfl rfl (waits_spec rfl)).1) ((hd 4 _ rfl rfl rfl (waits_spec rfl)).1)) (by simp) ((rMulS N HN.out w2 (HS.out.below hB)).mono ?_)
          rintro e w3 ⟨u, rfl, hr, hb⟩; exact ⟨u, rfl, ⟨trivial, fun h => absurd h (by decide), fun _ => hr⟩, hb⟩
      · refine Each.all ?_
        refine ⟨(fun h => by cases h), (fun h => by cases h), (fun h => by cases h), (fun h => by cases h), (fun h => by cases h), (fun h => by cases h), ?_, ?_, (fun h => by cases h), (fun h => by cases h), trivial⟩
        · exact fun _ => ⟨rfl, rfl, fun a w2 K h => flow_alloc rfl rfl Try.zeroValue32 (by simp) h⟩
        · exact fun _ => ⟨rfl, rfl, fun a w2 K h => flow_alloc rfl rfl Try.zeroValue32 (by simp) h⟩
      · refine Each.all ?_
        refine ⟨(fun _ h => by cases h), (fun _ h => by cases h), (fun _ h => by cases h), (fun _ h => by cases h), (fun _ h => by cases h), (fun _ h => by cases h), (fun _ h => by cases h), (fun _ h => by cases h), ?_, ?_, trivial⟩
        · intro p hp
          obtain rfl : 6 = p := Option.some.inj hp
          exact ⟨rfl, rfl, ⟨_, rfl⟩, waits_spec rfl, fun a w2 b K hB hF hd hx hb h => put_src_S (s := 2) rfl rfl rfl Try.size32 hx rfl ((hd 2 _ rfl rfl rfl (waits_spec rfl)).2.1 rfl) hb h⟩
        · intro p hp
          obtain rfl : 7 = p := Option.some.inj hp
          exact ⟨rfl, rfl, ⟨_, rfl⟩, waits_spec rfl, fun a w2 b K hB hF hd hx hb h => put_src_S (s := 5) rfl rfl rfl Try.size32 hx rfl ((hd 5 _ rfl rfl rfl (waits_spec rfl)).2.2 rfl) hb h⟩
      · intro a w8 blk hB hF hS hv hfin hdis
        obtain ⟨v6, v6l, v6u⟩ := hv 6 _ rfl rfl
        obtain ⟨v7, v7l, v7u⟩ := hv 7 _ rfl rfl
        obtain ⟨x42, hx42⟩ : ∃ x, x = a.tmps.getD 42 undef := ⟨_, rfl⟩
        have P42 : SPt w8 x42 ((Bp).mul M) := by rw [hx42]; exact (hS 2 _ rfl rfl rfl).2.1 rfl
        obtain ⟨x45, hx45⟩ : ∃ x, x = a.tmps.getD 45 undef := ⟨_, rfl⟩
        have P45 : SPt w8 x45 ((Bp).mul N) := by rw [hx45]; exact (hS 5 _ rfl rfl rfl).2.2 rfl
        have f6 := hfin 8 _ 6 rfl rfl
        obtain ⟨ra42, na42, ca42, rb42, nb42, cb42, rc42, nc42, cc42, e42, G42⟩ := P42
        have V6 : RowC w8 (blk 6) #[.slice ra42 na42 ca42, .slice rb42 nb42 cb42, .slice rc42 nc42 cc42] := row_src (s := 2) f6 rfl (hx42.symm.trans e42)
        have f7 := hfin 9 _ 7 rfl rfl
        obtain ⟨ra45, na45, ca45, rb45, nb45, cb45, rc45, nc45, cc45, e45, G45⟩ := P45
        have V7 : RowC w8 (blk 7) #[.slice ra45 na45 ca45, .slice rb45 nb45 cb45, .slice rc45 nc45 cc45] := row_src (s := 5) f7 rfl (hx45.symm.trans e45)
        have ha := puts_each rfl rfl hF [_, _, x42, _, _, x45, _, _, undef, undef] rfl ⟨(hS 0 _ rfl rfl rfl).1, (hS 1 _ rfl rfl rfl).1, hx42.symm, (hS 3 _ rfl rfl rfl).1, (hS 4 _ rfl rfl rfl).1, hx45.symm, v6, v7, trivial, trivial, trivial⟩
        have d6_7 := hdis 6 7 _ _ rfl rfl rfl rfl (by decide)
        simp only [puts, Act.put, List.setIfInBounds_toArray, List.set_cons_succ, List.set_cons_zero] at ha
        subst ha
        clear hx42 hx45
        clear hS hv hfin hdis hF v6 v7 f6 f7
        replace h2 := h2.kept hB
        replace h3 := h3.kept hB
        replace h7 := h7.kept hB
        replace h8 := h8.kept hB
        replace hbel := hbel.trans (hB.mono hbel.size)
        obtain ⟨x9, e9⟩ : ∃ x, x = blk 6 := ⟨_, rfl⟩
        obtain ⟨x10, e10⟩ : ∃ x, x = blk 7 := ⟨_, rfl⟩
        rw [← e9] at V6 ⊢
        rw [← e10] at V7 ⊢
        have h9 := V6
        have h10 := V7
        have H9 := Lib.hid (SPt.of G42)
        have H10 := Lib.hid (SPt.of G45)
        clear hB v6l v6u v7l v7u e42 e45 G42 G45 V6 V7 d6_7 e9 e10 h5 h6 HS Ha Hb
        go_upto_region 8 with (fail)
        refine region_flow (n := 67) (by kernel_rfl) (by kernel_rfl) (by kernel_rfl) rfl
          (fun ii vv ww => (match ii with | 0 | 6 | 18 => vv = .agg (arr .i64 64 (F36)) | 1 | 3 => vv = .agg (arr .u8 32 (dg 256 (bytesN (Bp.mul M)))) | 2 | 10 => vv = .agg #[.slice ra42 na42 ca42, .slice rb42 nb42 cb42, .slice rc42 nc42 cc42] | 4 | 5 | 15 | 16 | 17 | 19 | 20 | 21 => vv = .bool true | 7 => vv = .agg (arr .i64 64 (F39)) | 9 | 14 => vv = .agg (arr .u8 32 (dg 256 (bytesN ((Bp.mul M).add (Bp.mul N))))) | 11 => vv = .agg #[.slice ra45 na45 ca45, .slice rb45 nb45 cb45, .slice rc45 nc45 cc45] | _ => True) ∧ (ii = 8 → NPt vv ((Bp.mul M).add (Bp.mul N))) ∧ (ii = 12 → Rd .i64 ww vv 16 (dg 65536 (dR % Pr))) ∧ (ii = 13 → SPt ww vv ((Bp.mul M).add (Bp.mul N))))
          (fun w w' => Below w.heap.size w w') (fun _ _ h => h) (fun i v w w' h hE => ⟨h.1, fun e => NPt.keep (h.2.1 e) hE, fun e => Rd.below (h.2.2.1 e) hE, fun e => SPt.below (h.2.2.2 e) hE⟩) ?_ ?_
        · refine Each.all ?_
          refine ⟨?_, ?_, ?_, ?_, ?_, ?_, ?_, ?_, ?_, ?_, ?_, ?_, ?_, ?_, ?_, ?_, ?_, ?_, ?_, ?_, ?_, ?_, trivial⟩
          · intro a w2 hB hF hd
            rw [if_pos (wanted_none rfl)]
            exact flow_val (fun h => by cases h) (run_load_str rfl Try.underlying28 rfl Try.size28 (hF.same 7 rfl) (h7.below hB h7.lt)) ⟨rfl, fun h => absurd h (by decide), fun h => absurd h (by decide), fun h => absurd h (by decide)⟩
          · intro a w2 hB hF hd
            rw [if_pos (wanted_none rfl)]
            refine flow_call _ _ _ rfl Try.call12 _ (args1 ((hd 0 _ rfl (waits_spec rfl)).1)) (by simp) ((pBytesN w2 ⟨_, rfl, H7.out⟩).mono ?_)
            rintro e w3 ⟨rfl, hb⟩; exact ⟨_, rfl, ⟨rfl, fun h => absurd h (by decide), fun h => absurd h (by decide), fun h => absurd h (by decide)⟩, hb⟩
          · intro a w2 hB hF hd
            rw [if_pos (wanted_none rfl)]
            exact flow_val (fun h => by cases h) (run_load_rowC (cs := #[.slice ra42 na42 ca42, .slice rb42 nb42 cb42, .slice rc42 nc42 cc42]) rfl Try.underlying32 rfl Try.size32 (hF.same 9 rfl) (h9.kept hB)) ⟨rfl, fun h => absurd h (by decide), fun h => absurd h (by decide), fun h => absurd h (by decide)⟩
          · intro a w2 hB hF hd
            rw [if_pos (wanted_none rfl)]
            refine flow_call _ _ _ rfl Try.call13 _ (args1 ((hd 2 _ rfl (waits_spec rfl)).1)) (by simp) ((rBytesS w2 (H9.out.below hB)).mono ?_)
            rintro e w3 ⟨rfl, hb⟩; exact ⟨_, rfl, ⟨rfl, fun h => absurd h (by decide), fun h => absurd h (by decide), fun h => absurd h (by decide)⟩, hb⟩
          · intro a w2 hB hF hd
            rw [if_pos (wanted_none rfl)]
            exact flow_val (fun h => by cases h) (run_eql_arr true rfl ((hd 1 _ rfl (waits_spec rfl)).1) ((hd 3 _ rfl (waits_spec rfl)).1) Try.underlying22 (by kernel_rfl) (by kernel_rfl) (by kernel_rfl) (by kernel_rfl) (by kernel_rfl) sameB_self) ⟨rfl, fun h => absurd h (by decide), fun h => absurd h (by decide), fun h => absurd h (by decide)⟩
          · intro a w2 hB hF hd
            rw [if_pos (wanted_none rfl)]
            exact flow_move _ (.inl rfl) (by simp) ⟨((hd 4 _ rfl (waits_spec rfl)).1), fun h => absurd h (by decide), fun h => absurd h (by decide), fun h => absurd h (by decide)⟩
          · intro a w2 hB hF hd
            refine flow_wanted (wanted_yes rfl rfl ((hd 5 _ rfl (waits_spec rfl)).1) rfl) ?_
            exact flow_val (fun h => by cases h) (run_load_str rfl Try.underlying28 rfl Try.size28 (hF.same 7 rfl) (h7.below hB h7.lt)) ⟨rfl, fun h => absurd h (by decide), fun h => absurd h (by decide), fun h => absurd h (by decide)⟩
          · intro a w2 hB hF hd
            refine flow_wanted (wanted_yes rfl rfl ((hd 5 _ rfl (waits_spec rfl)).1) rfl) ?_
            exact flow_val (fun h => by cases h) (run_load_str rfl Try.underlying28 rfl Try.size28 (hF.same 8 rfl) (h8.below hB h8.lt)) ⟨rfl, fun h => absurd h (by decide), fun h => absurd h (by decide), fun h => absurd h (by decide)⟩
          · intro a w2 hB hF hd
            refine flow_wanted (wanted_yes rfl rfl ((hd 5 _ rfl (waits_spec rfl)).1) rfl) ?_
            refine flow_call _ _ _ rfl Try.call18 _ (args2 ((hd 6 _ rfl (waits_spec rfl)).1) ((hd 7 _ rfl (waits_spec rfl)).1)) (by simp) ((pAddN w2 ⟨_, rfl, H7.out⟩ ⟨_, rfl, H8.out⟩).mono ?_)
            rintro e w3 ⟨u, rfl, hr, hb⟩; exact ⟨u, rfl, ⟨trivial, fun _ => hr, fun h => absurd h (by decide), fun h => absurd h (by decide)⟩, hb⟩
          · intro a w2 hB hF hd
            refine flow_wanted (wanted_yes rfl rfl ((hd 5 _ rfl (waits_spec rfl)).1) rfl) ?_
            refine flow_call _ _ _ rfl Try.call12 _ (args1 rfl) (by simp) ((pBytesN w2 ((hd 8 _ rfl (waits_spec rfl)).2.1 rfl)).mono ?_)
            rintro e w3 ⟨rfl, hb⟩; exact ⟨_, rfl, ⟨rfl, fun h => absurd h (by decide), fun h => absurd h (by decide), fun h => absurd h (by decide)⟩, hb⟩
          · intro a w2 hB hF hd
            refine flow_wanted (wanted_yes rfl rfl ((hd 5 _ rfl (waits_spec rfl)).1) rfl) ?_
            exact flow_val (fun h => by cases h) (run_load_rowC (cs := #[.slice ra42 na42 ca42, .slice rb42 nb42 cb42, .slice rc42 nc42 cc42]) rfl Try.underlying32 rfl Try.size32 (hF.same 9 rfl) (h9.kept hB)) ⟨rfl, fun h => absurd h (by decide), fun h => absurd h (by decide), fun h => absurd h (by decide)⟩
          · intro a w2 hB hF hd
            refine flow_wanted (wanted_yes rfl rfl ((hd 5 _ rfl (waits_spec rfl)).1) rfl) ?_
            exact flow_val (fun h => by cases h) (run_load_rowC (cs := #[.slice ra45 na45 ca45, .slice rb45 nb45 cb45, .slice rc45 nc45 cc45]) rfl Try.underlying32 rfl Try.size32 (hF.same 10 rfl) (h10.kept hB)) ⟨rfl, fun h => absurd h (by decide), fun h => absurd h (by decide), fun h => absurd h (by decide)⟩
          · intro a w2 hB hF hd
            refine flow_wanted (wanted_yes rfl rfl ((hd 5 _ rfl (waits_spec rfl)).1) rfl) ?_
            refine flow_call _ _ _ rfl Try.call20 _ args0 (by simp) ((rD_any w2).mono ?_)
            rintro e w3 ⟨u, rfl, hr, hb⟩; exact ⟨u, rfl, ⟨trivial, fun h => absurd h (by decide), fun _ => hr, fun h => absurd h (by decide)⟩, hb⟩
          · intro a w2 hB hF hd
            refine flow_wanted (wanted_yes rfl rfl ((hd 5 _ rfl (waits_spec rfl)).1) rfl) ?_
            refine flow_call _ _ _ rfl Try.call19 _ (args3 ((hd 10 _ rfl (waits_spec rfl)).1) ((hd 11 _ rfl (waits_spec rfl)).1) rfl) (by simp) ((rAddS w2 (H9.out.below hB) (H10.out.below hB) ((hd 12 _ rfl (waits_spec rfl)).2.2.1 rfl)).mono ?_)
            rintro e w3 ⟨u, rfl, hr, hb⟩; exact ⟨u, rfl, ⟨trivial, fun h => absurd h (by decide), fun h => absurd h (by decide), fun _ => hr⟩, hb⟩
          · intro a w2 hB hF hd
            refine flow_wanted (wanted_yes rfl rfl ((hd 5 _ rfl (waits_spec rfl)).1) rfl) ?_
            refine flow_call _ _ _ rfl Try.call13 _ (args1 rfl) (by simp) ((rBytesS w2 ((hd 13 _ rfl (waits_spec rfl)).2.2.2 rfl)).mono ?_)
            rintro e w3 ⟨rfl, hb⟩; exact ⟨_, rfl, ⟨rfl, fun h => absurd h (by decide), fun h => absurd h (by decide), fun h => absurd h (by decide)⟩, hb⟩
          · intro a w2 hB hF hd
            refine flow_wanted (wanted_yes rfl rfl ((hd 5 _ rfl (waits_spec rfl)).1) rfl) ?_
            exact flow_val (fun h => by cases h) (run_eql_arr true rfl ((hd 9 _ rfl (waits_spec rfl)).1) ((hd 14 _ rfl (waits_spec rfl)).1) Try.underlying22 (by kernel_rfl) (by kernel_rfl) (by kernel_rfl) (by kernel_rfl) (by kernel_rfl) sameB_self) ⟨rfl, fun h => absurd h (by decide), fun h => absurd h (by decide), fun h => absurd h (by decide)⟩
          · intro a w2 hB hF hd
            rw [if_pos (wanted_none rfl)]
            exact flow_val (fun h => by cases h) (run_pick rfl ((hd 5 _ rfl (waits_spec rfl)).1)) ⟨(((hd 15 _ rfl (waits_spec rfl)).1)), fun h => absurd h (by decide), fun h => absurd h (by decide), fun h => absurd h (by decide)⟩
          · intro a w2 hB hF hd
            rw [if_pos (wanted_none rfl)]
            exact flow_move _ (.inl rfl) (by simp) ⟨((hd 16 _ rfl (waits_spec rfl)).1), fun h => absurd h (by decide), fun h => absurd h (by decide), fun h => absurd h (by decide)⟩
          · intro a w2 hB hF hd
            refine flow_wanted (wanted_yes rfl rfl ((hd 17 _ rfl (waits_spec rfl)).1) rfl) ?_
            exact flow_val (fun h => by cases h) (run_load_str rfl Try.underlying28 rfl Try.size28 (hF.same 7 rfl) (h7.below hB h7.lt)) ⟨rfl, fun h => absurd h (by decide), fun h => absurd h (by decide), fun h => absurd h (by decide)⟩
          · intro a w2 hB hF hd
            refine flow_wanted (wanted_yes rfl rfl ((hd 17 _ rfl (waits_spec rfl)).1) rfl) ?_
            refine flow_call _ _ _ rfl Try.call21 _ (args1 ((hd 18 _ rfl (waits_spec rfl)).1)) (by simp) ((pOnN w2 ⟨_, rfl, H7.out⟩).mono ?_)
            rintro e w3 ⟨rfl, hb⟩; exact ⟨_, rfl, ⟨rfl, fun h => absurd h (by decide), fun h => absurd h (by decide), fun h => absurd h (by decide)⟩, hb⟩
          · intro a w2 hB hF hd
            rw [if_pos (wanted_none rfl)]
            exact flow_val (fun h => by cases h) (run_pick rfl ((hd 17 _ rfl (waits_spec rfl)).1)) ⟨(((hd 19 _ rfl (waits_spec rfl)).1)), fun h => absurd h (by decide), fun h => absurd h (by decide), fun h => absurd h (by decide)⟩
          · intro a w2 hB hF hd
            rw [if_pos (wanted_none rfl)]
            exact flow_move _ (.inr rfl) (by simp) ⟨((hd 20 _ rfl (waits_spec rfl)).1), fun h => absurd h (by decide), fun h => absurd h (by decide), fun h => absurd h (by decide)⟩
        · intro a w9 hB hF hS
          obtain ⟨x54, hx54⟩ : ∃ x, x = a.tmps.getD 54 undef := ⟨_, rfl⟩
          obtain ⟨x58, hx58⟩ : ∃ x, x = a.tmps.getD 58 undef := ⟨_, rfl⟩
          obtain ⟨x59, hx59⟩ : ∃ x, x = a.tmps.getD 59 undef := ⟨_, rfl⟩
          have ha := puts_each rfl rfl hF [_, _, _, _, _, _, _, _, x54, _, _, _, x58, x59, _, _, _, _, _, _, _, _] rfl ⟨(hS 0 _ rfl).1, (hS 1 _ rfl).1, (hS 2 _ rfl).1, (hS 3 _ rfl).1, (hS 4 _ rfl).1, (hS 5 _ rfl).1, (hS 6 _ rfl).1, (hS 7 _ rfl).1, hx54.symm, (hS 9 _ rfl).1, (hS 10 _ rfl).1, (hS 11 _ rfl).1, hx58.symm, hx59.symm, (hS 14 _ rfl).1, (hS 15 _ rfl).1, (hS 16 _ rfl).1, (hS 17 _ rfl).1, (hS 18 _ rfl).1, (hS 19 _ rfl).1, (hS 20 _ rfl).1, (hS 21 _ rfl).1, trivial⟩
          simp only [puts, Act.put, List.setIfInBounds_toArray, List.set_cons_succ, List.set_cons_zero] at ha
          subst ha
          clear hx54 hx58 hx59
          clear hS hF
          have hb9 := hbel.trans (hB.mono hbel.size)
          go_wp2
          go_ret
          exact ⟨rfl, hb9⟩

theorem pointSums_law (w : World) (fs : Nat → Int) (hs : ∀ i, i < 32 → (Lit.int .u8 (fs i)).wf = true) (fp : Nat → Int) (hp : ∀ i, i < 32 → (Lit.int .u8 (fp i)).wf = true) :
    Calls Try.prog 3 #[.agg (arr .u8 32 fs), .agg (arr .u8 32 fp)] w fun e w' => e = .returned (.bool true) ∧ Below w.heap.size w w' := by
  obtain ⟨S, eS, s0, s1⟩ := num32 fs hs
  obtain ⟨U, eU, u0, u1⟩ := num32 fp hp
  obtain ⟨M, rfl⟩ := Int.eq_ofNat_of_zero_le s0
  obtain ⟨N, rfl⟩ := Int.eq_ofNat_of_zero_le u0
  rw [eS, eU]
  exact pointSums_num M N (by omega) (by omega) w
end Go.Proofs.Ytdhejcaapdhhfaa
