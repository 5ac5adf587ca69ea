/-
  The law DeriveBack answers true at few steps: its walk. Conditions: named in each theorem.
-/
import Derived.Test.YtgobodhcamgidaaDrL
set_option linter.unusedVariables false
set_option linter.unusedSimpArgs false
namespace Go.Bas
open Go.RowKit
/-- what derive.Chain answers for n ≤ 40. -/
def ChnR (n : Nat) (S : Nat → Nat → Int) (B : Nat) (v : Value) (er : Int) (w : World) : Prop :=
  (n = 0 ∧ v = .slice none 0 0 ∧ er = 2) ∨ (0 < n ∧ er = 0 ∧ ∃ G, v = .slice (some ⟨G, 0, none⟩) n n ∧ Arr .u8 w G (n * 32) (chnF n S n) ∧ B ≤ G)
end Go.Bas
namespace Go.Proofs.Ytgobodhcamgidaa
open Go.RowKit Go.Bas Go.ChangeShapes
attribute [local go_sem ↓] Go.wp_at_zero Go.wp_at_succ

theorem dChain_few (f : Nat → Int) (hf : ∀ i, i < 32 → 0 ≤ f i ∧ f i < 256) (n : Nat) (hn : n ≤ 40) (w : World) :
    Calls Try.prog 36 #[.agg (arr .u8 32 f), .int .i64 n] w fun e w' => ∃ v er, e = .returned (.tuple #[v, .int .i64 er]) ∧ ChnR n (nextI f) w.heap.size v er w' ∧ Below w.heap.size w w' := by
  by_cases h0 : n = 0
  · subst h0
    refine (dChain_no f ((0 : Nat) : Int) (by omega) w).mono ?_
    rintro e w' ⟨rfl, hb⟩
    exact ⟨_, _, rfl, Or.inl ⟨rfl, rfl, rfl⟩, hb⟩
  · refine (dChain_any f hf n (by omega) (by omega) w).mono ?_
    rintro e w' ⟨G, rfl, hA, hG, hb⟩
    exact ⟨_, _, rfl, Or.inr ⟨by omega, rfl, G, rfl, hA, hG⟩, hb⟩

set_option maxRecDepth 100000 in
set_option maxHeartbeats 6400000 in
theorem drBack_few (f : Nat → Int) (hf : ∀ i, i < 32 → 0 ≤ f i ∧ f i < 256) (n : Nat) (hn : n ≤ 40) (k : Int) (hk : k ≤ 40 ∨ 4096 < k) (w : World) :
    Calls Try.prog 9 #[.agg (arr .u8 32 f), .int .i64 n, .int .i64 k] w fun e w' => e = .returned (.bool true) ∧ Below w.heap.size w w' := by
  have HB3 : Hid (∀ a m b w, a + m = b → m ≤ 40 → Calls Try.prog 35 #[.agg (arr .u8 32 (nextI f a)), .int .i64 (m : Nat)] w fun e w' => e = .returned (.tuple #[.agg (arr .u8 32 (nextI f b)), .int .i64 0]) ∧ Below w.heap.size w w') := by
    rintro a m b w rfl hm
    have := dBack_any (nextI f a) (nextI_bound hf a) m (by omega) w
    rwa [nextI_add] at this
  have HBK : Hid (∀ w, Calls Try.prog 35 #[.agg (arr .u8 32 (nextI f 0)), .int .i64 (n : Nat)] w fun e w' => e = .returned (.tuple #[.agg (arr .u8 32 (nextI f n)), .int .i64 0]) ∧ Below w.heap.size w w') := fun w => HB3.out 0 n n w (by omega) hn
  have HCH : Hid (∀ w, Calls Try.prog 36 #[.agg (arr .u8 32 (nextI f 0)), .int .i64 n] w fun e w' => ∃ v er, e = .returned (.tuple #[v, .int .i64 er]) ∧ ChnR n (nextI f) w.heap.size v er w' ∧ Below w.heap.size w w') := fun w => dChain_few f hf n hn w
  have HRN : Hid (∀ j w, Calls Try.prog 34 #[.agg (arr .u8 32 (nextI f j))] w fun e w' => e = .returned (.agg (arr .u8 32 (nextI f (j + 1)))) ∧ Below w.heap.size w w') := fun j w => rNext_any (nextI f j) (nextI_bound hf j) w
  have H0 : Hid (f = nextI f 0) := rfl
  obtain ⟨NX, hNX⟩ : ∃ NX, NX = nextI f := ⟨_, rfl⟩
  rw [← hNX] at HB3 HBK HCH HRN H0
  clear hNX hf
  go_enter Try.func9, Try.ntmps9
  go_upto_region 1 with (fail)
  refine wp_world (fun w1 => Arr .u8 w1 w.heap.size 32 (NX 0) ∧ Below w.heap.size w w1) ⟨Arr.newAt rfl (by rw [← H0.out]), (Below.refl _ _).alloc (Nat.le_refl _) _⟩ ?_
  rintro w1 ⟨hA, hb1⟩
  go_wp2_with fail
  refine (drAwake_any _).mono ?_
  rintro e w2 ⟨rfl, hb2⟩
  have hA2 := hA.kept hb2
  have hb3 := hb1.trans (hb2.mono hb1.size)
  clear hb1 hb2 hA H0
  rcases hk with h | h
  case inl =>
    go_upto_region 3 with (fail)
    refine region_flow (n := 172) (by kernel_rfl) (by kernel_rfl) (by kernel_rfl) rfl
      (fun ii vv _ => (match ii with | 0 => vv = .int .i64 ((n : Int)) | 1 | 2 | 5 | 6 | 8 | 9 | 12 | 13 => vv = .bool false | 3 | 4 | 10 | 11 => vv = undef | 7 => vv = .int .i64 (k) | _ => True))
      (fun w w' => Below w.heap.size w w') (fun _ _ h => h) (fun _ _ _ _ h _ => h) ?_ ?_
    · refine Each.all ?_
      refine ⟨?_, ?_, ?_, ?_, ?_, ?_, ?_, ?_, ?_, ?_, ?_, ?_, ?_, ?_, trivial⟩
      · intro a w2 hB hF hd
        rw [if_pos (wanted_none rfl)]
        exact flow_move _ (.inl rfl) (by simp) (hF.same 1 rfl)
      · intro a w2 hB hF hd
        rw [if_pos (wanted_none rfl)]
        exact flow_val (fun h => by cases h) (Go.Bas.run_gtr rfl (hd 0 _ rfl (waits_spec rfl)) rfl) (congrArg Value.bool (decide_eq_false (by omega)))
      · intro a w2 hB hF hd
        rw [if_pos (wanted_none rfl)]
        exact flow_move _ (.inl rfl) (by simp) (hd 1 _ rfl (waits_spec rfl))
      · intro a w2 hB hF hd
        rw [if_neg (by rw [wanted_some rfl rfl (hd 2 _ rfl (waits_spec rfl))]; decide)]
        exact rfl
      · intro a w2 hB hF hd
        rw [if_neg (by rw [wanted_some rfl rfl (hd 2 _ rfl (waits_spec rfl))]; decide)]
        exact rfl
      · intro a w2 hB hF hd
        rw [if_pos (wanted_none rfl)]
        exact flow_val (fun h => by cases h) (run_pick rfl (hd 2 _ rfl (waits_spec rfl))) (rfl)
      · intro a w2 hB hF hd
        rw [if_pos (wanted_none rfl)]
        exact flow_move _ (.inl rfl) (by simp) (hd 5 _ rfl (waits_spec rfl))
      · intro a w2 hB hF hd
        refine flow_wanted (wanted_yes rfl rfl (hd 6 _ rfl (waits_spec rfl)) rfl) ?_
        exact flow_move _ (.inl rfl) (by simp) (hF.same 2 rfl)
      · intro a w2 hB hF hd
        refine flow_wanted (wanted_yes rfl rfl (hd 6 _ rfl (waits_spec rfl)) rfl) ?_
        exact flow_val (fun h => by cases h) (Go.Bas.run_gtr rfl (hd 7 _ rfl (waits_spec rfl)) rfl) (congrArg Value.bool (decide_eq_false (by omega)))
      · intro a w2 hB hF hd
        refine flow_wanted (wanted_yes rfl rfl (hd 6 _ rfl (waits_spec rfl)) rfl) ?_
        exact flow_move _ (.inl rfl) (by simp) (hd 8 _ rfl (waits_spec rfl))
      · intro a w2 hB hF hd
        rw [if_neg (by rw [wanted_some rfl rfl (hd 9 _ rfl (waits_spec rfl))]; decide)]
        exact rfl
      · intro a w2 hB hF hd
        rw [if_neg (by rw [wanted_some rfl rfl (hd 9 _ rfl (waits_spec rfl))]; decide)]
        exact rfl
      · intro a w2 hB hF hd
        refine flow_wanted (wanted_yes rfl rfl (hd 6 _ rfl (waits_spec rfl)) rfl) ?_
        exact flow_val (fun h => by cases h) (run_pick rfl (hd 9 _ rfl (waits_spec rfl))) (rfl)
      · intro a w2 hB hF hd
        rw [if_pos (wanted_none rfl)]
        exact flow_val (fun h => by cases h) (run_pick rfl (hd 6 _ rfl (waits_spec rfl))) ((hd 12 _ rfl (waits_spec rfl)))
    · intro a w3 hB hF hS
      have ha := puts_each rfl rfl hF [_, _, _, _, _, _, _, _, _, _, _, _, _, _] rfl ⟨hS 0 _ rfl, hS 1 _ rfl, hS 2 _ rfl, hS 3 _ rfl, hS 4 _ rfl, hS 5 _ rfl, hS 6 _ rfl, hS 7 _ rfl, hS 8 _ rfl, hS 9 _ rfl, hS 10 _ rfl, hS 11 _ rfl, hS 12 _ rfl, hS 13 _ rfl, trivial⟩
      simp only [puts, Act.put, List.setIfInBounds_toArray, List.set_cons_succ, List.set_cons_zero] at ha
      subst ha
      clear hS hF
      have hb4 := hb3.trans (hB.mono hb3.size)
      have hA3 := hA2.kept hB
      clear hB hb3 hA2
      go_wp2_with (refine load_arr rfl 26 _ rfl .u8 w.heap.size 32 (NX 0) 5 Try.underlying26 Try.size26 rfl hA3 ?_)
      refine (HBK.out _).mono ?_
      rintro e w4 ⟨rfl, hb5⟩
      have hA4 := hA3.kept hb5
      have hb6 := hb4.trans (hb5.mono hb4.size)
      have hql := hA4.lt
      clear hA3 hb4 hb5
      go_upto_region 6 with (refine store_arr rfl 26 _ _ rfl .u8 w4.heap.size 32 (fun _ => 0) (NX n) Try.size26 rfl rfl (Arr.newAt rfl (by rfl)) ?_)
      refine wp_world (fun w5 => Arr .u8 w5 w4.heap.size 32 (NX n) ∧ Arr .u8 w5 w.heap.size 32 (NX 0) ∧ Below w.heap.size w w5) ⟨(Arr.newAt rfl (by rfl) : Arr .u8 _ _ 32 (fun _ => 0)).setRow _ _, Arr.setRowOther (Arr.alloc hA4 _) _ (by omega) _, below_setRow' (hb6.alloc hb6.size _) hb6.size _⟩ ?_
      rintro w5 ⟨hZ5, hA5, hb7⟩
      obtain ⟨q, hq⟩ : ∃ q, q = w4.heap.size := ⟨_, rfl⟩
      rw [← hq] at hZ5 ⊢
      clear hq hA4 hb6 hql
      try simp only [Act.put, List.setIfInBounds_toArray, List.set_cons_succ, List.set_cons_zero]
      go_wp2_with (refine load_arr rfl 26 _ rfl .u8 w.heap.size 32 (NX 0) 5 Try.underlying26 Try.size26 rfl hA5 ?_)
      refine (HCH.out _).mono ?_
      rintro e w6 ⟨v9, er, rfl, hch, hb8⟩
      have hS6 := hZ5.kept hb8
      have hA6 := hA5.kept hb8
      have hb9 := hb7.trans (hb8.mono hb7.size)
      clear hZ5 hA5 hb7 hb8
      go_upto_region 7 with (fail)
      refine region_flow (n := 172) (by kernel_rfl) (by kernel_rfl) (by kernel_rfl) rfl
        (fun ii vv _ => (match ii with | 0 | 3 => vv = .int .i64 ((n : Int)) | 1 | 2 | 4 | 5 => vv = .bool false | _ => True))
        (fun w w' => Below w.heap.size w w') (fun _ _ h => h) (fun _ _ _ _ h _ => h) ?_ ?_
      · refine Each.all ?_
        refine ⟨?_, ?_, ?_, ?_, ?_, ?_, trivial⟩
        · intro a w2 hB hF hd
          rw [if_pos (wanted_none rfl)]
          exact flow_move _ (.inl rfl) (by simp) (hF.same 1 rfl)
        · intro a w2 hB hF hd
          rw [if_pos (wanted_none rfl)]
          exact flow_val (fun h => by cases h) (Go.Bas.run_lss rfl (hd 0 _ rfl (waits_spec rfl)) rfl) (congrArg Value.bool (decide_eq_false (by omega)))
        · intro a w2 hB hF hd
          rw [if_pos (wanted_none rfl)]
          exact flow_move _ (.inl rfl) (by simp) (hd 1 _ rfl (waits_spec rfl))
        · intro a w2 hB hF hd
          refine flow_wanted (wanted_yes rfl rfl (hd 2 _ rfl (waits_spec rfl)) rfl) ?_
          exact flow_move _ (.inl rfl) (by simp) (hF.same 1 rfl)
        · intro a w2 hB hF hd
          refine flow_wanted (wanted_yes rfl rfl (hd 2 _ rfl (waits_spec rfl)) rfl) ?_
          exact flow_val (fun h => by cases h) (Go.Bas.run_gtr rfl (hd 3 _ rfl (waits_spec rfl)) rfl) (congrArg Value.bool (decide_eq_false (by omega)))
        · intro a w2 hB hF hd
          rw [if_pos (wanted_none rfl)]
          exact flow_val (fun h => by cases h) (run_pick rfl (hd 2 _ rfl (waits_spec rfl))) ((hd 4 _ rfl (waits_spec rfl)))
      · intro a w7 hB hF hS
        have ha := puts_each rfl rfl hF [_, _, _, _, _, _] rfl ⟨hS 0 _ rfl, hS 1 _ rfl, hS 2 _ rfl, hS 3 _ rfl, hS 4 _ rfl, hS 5 _ rfl, trivial⟩
        simp only [puts, Act.put, List.setIfInBounds_toArray, List.set_cons_succ, List.set_cons_zero] at ha
        subst ha
        clear hS hF
        have hA7 := hA6.kept hB
        go_upto_region 10 with (first
          | (refine load_arr rfl 26 _ rfl .u8 w.heap.size 32 (NX 0) 5 Try.underlying26 Try.size26 rfl hA7 ?_)
          | (refine store_arr rfl 26 _ _ rfl .u8 w7.heap.size 32 (fun _ => 0) (NX 0) Try.size26 rfl rfl (Arr.newAt rfl (by rfl)) ?_))
        refine wp_world (fun w8 => Arr .u8 w8 w7.heap.size 32 (NX 0) ∧ Below w6.heap.size w6 w8) ⟨(Arr.newAt rfl (by rfl) : Arr .u8 _ _ 32 (fun _ => 0)).setRow _ _, below_setRow' (hB.alloc hB.size _) hB.size _⟩ ?_
        rintro w8 ⟨hW8, hc8⟩
        obtain ⟨q2, hq2⟩ : ∃ q2, q2 = w7.heap.size := ⟨_, rfl⟩
        have hq6 : w6.heap.size ≤ q2 := by have := hB.size; omega
        rw [← hq2] at hW8 ⊢
        clear hq2 hA7 hB
        try simp only [Act.put, List.setIfInBounds_toArray, List.set_cons_succ, List.set_cons_zero]
        go_wp2
        go_loopw [69] (fun u wr => ∃ j : Nat, j ≤ n ∧ u = .int .i64 (j : Int) ∧ Arr .u8 wr q2 32 (NX j) ∧ Below w6.heap.size w6 wr) (fun u _ => n - (intOf u).toNat)
        case atStart => exact ⟨0, Nat.zero_le _, rfl, hW8, hc8⟩
        case round =>
          clear hW8 hc8
          obtain ⟨j, hj, rfl, hW, hc⟩ := hrel
          by_cases hlt : j < n
          · have HCON := Lib.hid (fun w => HRN.out j w)
            go_wp2_with (refine load_arr rfl 26 _ rfl .u8 q2 32 _ 5 Try.underlying26 Try.size26 rfl hW ?_)
            refine (HCON.out _).mono ?_
            rintro e wc ⟨rfl, hbc⟩
            have hWc := hW.kept hbc
            have hcc := hc.trans (hbc.mono hc.size)
            have hWd := hWc.setRow 32 (NX (j + 1))
            have hcd := below_setRow' hcc hq6 (arr .u8 32 (NX (j + 1)))
            have HWC := Lib.hid hWc
            clear hW hc hbc hWc hcc
            go_wp2_with (refine store_arr rfl 26 _ _ rfl .u8 q2 32 _ (NX (j + 1)) Try.size26 rfl rfl HWC.out ?_)
            go_roundw
            case rel => first | exact ⟨j + 1, by omega, by go_num, hWd, hcd⟩ | ((repeat apply Exists.intro); exact ⟨⟨j + 1, by omega, by go_num, hWd, hcd⟩, rfl⟩)
            case measure => simp [intOf] <;> omega
          · obtain rfl : n = j := by omega
            rename_i wr
            have hS8 := hS6.kept hc
            go_upto_region 14 with (fail)
            refine region_flow (n := 172) (by kernel_rfl) (by kernel_rfl) (by kernel_rfl) rfl
              (fun ii vv _ => (match ii with | 0 => vv = .int .i64 (0) | 1 | 2 | 5 | 6 => vv = .bool false | 3 | 4 => vv = .agg (arr .u8 32 (NX n)) | _ => True))
              (fun w w' => Below w.heap.size w w') (fun _ _ h => h) (fun _ _ _ _ h _ => h) ?_ ?_
            · refine Each.all ?_
              refine ⟨?_, ?_, ?_, ?_, ?_, ?_, ?_, trivial⟩
              · intro a w2 hB hF hd
                rw [if_pos (wanted_none rfl)]
                exact flow_move _ (.inl rfl) (by simp) (hF.same 8 rfl)
              · intro a w2 hB hF hd
                rw [if_pos (wanted_none rfl)]
                exact flow_val (fun h => by cases h) (Go.Bas.run_neq_int rfl (hd 0 _ rfl (waits_spec rfl)) rfl) (congrArg Value.bool (bne_self_eq_false _))
              · intro a w2 hB hF hd
                rw [if_pos (wanted_none rfl)]
                exact flow_move _ (.inl rfl) (by simp) (hd 1 _ rfl (waits_spec rfl))
              · intro a w2 hB hF hd
                refine flow_wanted (wanted_yes rfl rfl (hd 2 _ rfl (waits_spec rfl)) rfl) ?_
                exact flow_val (fun h => by cases h) (run_load_str rfl Try.underlying26 rfl Try.size26 (hF.same 7 rfl) (hS8.below hB hS8.lt)) rfl
              · intro a w2 hB hF hd
                refine flow_wanted (wanted_yes rfl rfl (hd 2 _ rfl (waits_spec rfl)) rfl) ?_
                exact flow_val (fun h => by cases h) (run_load_str rfl Try.underlying26 rfl Try.size26 (hF.same 11 rfl) (hW.below hB hW.lt)) rfl
              · intro a w2 hB hF hd
                refine flow_wanted (wanted_yes rfl rfl (hd 2 _ rfl (waits_spec rfl)) rfl) ?_
                exact flow_val (fun h => by cases h) (run_neq_arr true rfl (hd 3 _ rfl (waits_spec rfl)) (hd 4 _ rfl (waits_spec rfl)) Try.underlying26 (by kernel_rfl) (by kernel_rfl) (by kernel_rfl) (by kernel_rfl) (by kernel_rfl) sameB_self) rfl
              · intro a w2 hB hF hd
                rw [if_pos (wanted_none rfl)]
                exact flow_val (fun h => by cases h) (run_pick rfl (hd 2 _ rfl (waits_spec rfl))) ((hd 5 _ rfl (waits_spec rfl)))
            · intro a w9 hB hF hS
              have ha := puts_each rfl rfl hF [_, _, _, _, _, _, _] rfl ⟨hS 0 _ rfl, hS 1 _ rfl, hS 2 _ rfl, hS 3 _ rfl, hS 4 _ rfl, hS 5 _ rfl, hS 6 _ rfl, trivial⟩
              simp only [puts, Act.put, List.setIfInBounds_toArray, List.set_cons_succ, List.set_cons_zero] at ha
              subst ha
              clear hS hF
              have hc9 := hc.trans (hB.mono hc.size)
              clear hW hc hB hS8
              go_upto_region 16 with (fail)
              rcases (by omega : n = 0 ∨ 0 < n) with hn0 | hn0
              · skip
                refine region_flow (n := 172) (by kernel_rfl) (by kernel_rfl) (by kernel_rfl) rfl
                  (fun ii vv _ => (match ii with | 0 => vv = .int .i64 ((n : Int)) | 1 => vv = .bool true | _ => True))
                  (fun w w' => Below w.heap.size w w') (fun _ _ h => h) (fun _ _ _ _ h _ => h) ?_ ?_
                · refine Each.all ?_
                  refine ⟨?_, ?_, trivial⟩
                  · intro a w2 hB hF hd
                    rw [if_pos (wanted_none rfl)]
                    exact flow_move _ (.inl rfl) (by simp) (hF.same 1 rfl)
                  · intro a w2 hB hF hd
                    rw [if_pos (wanted_none rfl)]
                    refine flow_val (fun h => by cases h) (Go.Bas.run_eql_int rfl (hd 0 _ rfl (waits_spec rfl)) rfl) ?_
                    exact congrArg Value.bool (beq_iff_eq.2 (by omega))
                · intro a wa hB hF hS
                  have ha := puts_each rfl rfl hF [_, _] rfl ⟨hS 0 _ rfl, hS 1 _ rfl, trivial⟩
                  simp only [puts, Act.put, List.setIfInBounds_toArray, List.set_cons_succ, List.set_cons_zero] at ha
                  subst ha
                  clear hS hF
                  have hca := hc9.trans (hB.mono hc9.size)
                  clear hB hc9
                  rcases hch with ⟨_, rfl, rfl⟩ | ⟨hq, _⟩
                  · go_upto_region 17 with (fail)
                    refine region_flow (n := 172) (by kernel_rfl) (by kernel_rfl) (by kernel_rfl) rfl
                      (fun ii vv _ => (match ii with | 0 => vv = .int .i64 (2) | 1 | 2 | 5 | 6 | 7 => vv = .bool true | 3 => vv = .slice none 0 0 | 4 => vv = .int .i64 (((0 : Nat) : Int)) | _ => True))
                      (fun w w' => Below w.heap.size w w') (fun _ _ h => h) (fun _ _ _ _ h _ => h) ?_ ?_
                    · refine Each.all ?_
                      refine ⟨?_, ?_, ?_, ?_, ?_, ?_, ?_, ?_, trivial⟩
                      · intro a w2 hB hF hd
                        rw [if_pos (wanted_none rfl)]
                        exact flow_move _ (.inl rfl) (by simp) (hF.same 10 rfl)
                      · intro a w2 hB hF hd
                        rw [if_pos (wanted_none rfl)]
                        refine flow_val (fun h => by cases h) (Go.Bas.run_eql_int rfl (hd 0 _ rfl (waits_spec rfl)) rfl) ?_
                        exact rfl
                      · intro a w2 hB hF hd
                        rw [if_pos (wanted_none rfl)]
                        exact flow_move _ (.inl rfl) (by simp) (hd 1 _ rfl (waits_spec rfl))
                      · intro a w2 hB hF hd
                        refine flow_wanted (wanted_yes rfl rfl (hd 2 _ rfl (waits_spec rfl)) rfl) ?_
                        exact flow_move _ (.inl rfl) (by simp) (hF.same 9 rfl)
                      · intro a w2 hB hF hd
                        refine flow_wanted (wanted_yes rfl rfl (hd 2 _ rfl (waits_spec rfl)) rfl) ?_
                        exact flow_val (fun h => by cases h) (run_len_sl rfl (hd 3 _ rfl (waits_spec rfl)) Try.underlying60) rfl
                      · intro a w2 hB hF hd
                        refine flow_wanted (wanted_yes rfl rfl (hd 2 _ rfl (waits_spec rfl)) rfl) ?_
                        refine flow_val (fun h => by cases h) (Go.Bas.run_eql_int rfl (hd 4 _ rfl (waits_spec rfl)) rfl) ?_
                        exact rfl
                      · intro a w2 hB hF hd
                        rw [if_pos (wanted_none rfl)]
                        exact flow_val (fun h => by cases h) (run_pick rfl (hd 2 _ rfl (waits_spec rfl))) ((hd 5 _ rfl (waits_spec rfl)))
                      · intro a w2 hB hF hd
                        rw [if_pos (wanted_none rfl)]
                        exact flow_move _ (.inr rfl) (by simp) (hd 6 _ rfl (waits_spec rfl))
                    · intro a wb hB hF hS
                      have ha := puts_each rfl rfl hF [_, _, _, _, _, _, _, _] rfl ⟨hS 0 _ rfl, hS 1 _ rfl, hS 2 _ rfl, hS 3 _ rfl, hS 4 _ rfl, hS 5 _ rfl, hS 6 _ rfl, hS 7 _ rfl, trivial⟩
                      simp only [puts, Act.put, List.setIfInBounds_toArray, List.set_cons_succ, List.set_cons_zero] at ha
                      subst ha
                      clear hS hF
                      have hcb := hb9.trans ((hca.trans (hB.mono hca.size)).mono hb9.size)
                      go_wp2
                      go_ret
                      exact ⟨rfl, hcb⟩
                  · exact absurd hn0 (by omega)
              · skip
                refine region_flow (n := 172) (by kernel_rfl) (by kernel_rfl) (by kernel_rfl) rfl
                  (fun ii vv _ => (match ii with | 0 => vv = .int .i64 ((n : Int)) | 1 => vv = .bool false | _ => True))
                  (fun w w' => Below w.heap.size w w') (fun _ _ h => h) (fun _ _ _ _ h _ => h) ?_ ?_
                · refine Each.all ?_
                  refine ⟨?_, ?_, trivial⟩
                  · intro a w2 hB hF hd
                    rw [if_pos (wanted_none rfl)]
                    exact flow_move _ (.inl rfl) (by simp) (hF.same 1 rfl)
                  · intro a w2 hB hF hd
                    rw [if_pos (wanted_none rfl)]
                    refine flow_val (fun h => by cases h) (Go.Bas.run_eql_int rfl (hd 0 _ rfl (waits_spec rfl)) rfl) ?_
                    exact congrArg Value.bool (beq_eq_false_iff_ne.2 (by omega))
                · intro a wa hB hF hS
                  have ha := puts_each rfl rfl hF [_, _] rfl ⟨hS 0 _ rfl, hS 1 _ rfl, trivial⟩
                  simp only [puts, Act.put, List.setIfInBounds_toArray, List.set_cons_succ, List.set_cons_zero] at ha
                  subst ha
                  clear hS hF
                  have hca := hc9.trans (hB.mono hc9.size)
                  clear hB hc9
                  rcases hch with ⟨hq, _, _⟩ | ⟨_, rfl, G, rfl, hG, _⟩
                  · exact absurd hn0 (by omega)
                  obtain ⟨n1, hn1⟩ : ∃ n1, n = n1 + 1 := ⟨n - 1, by omega⟩
                  have hA8 := hA6.kept hca
                  have hG8 := hG.kept hca
                  have hGl := hG8.lt
                  have HC0 := Lib.hid (chn_part hG8 (i := n1) (r := 0) (by omega))
                  go_upto_region 18 with (fail)
                  refine region_flow (n := 172) (by kernel_rfl) (by kernel_rfl) (by kernel_rfl) rfl
                    (fun ii vv _ => (match ii with | 0 => vv = .int .i64 (0) | 1 | 2 | 6 | 7 | 8 | 15 | 16 => vv = .bool false | 3 | 9 => vv = .slice (some ⟨G, 0, none⟩) n n | 4 | 5 | 10 => vv = .int .i64 ((n : Int)) | 11 => vv = .int .i64 ((n1 : Int)) | 12 => vv = .pointer (some ⟨G, n1 * 32, none⟩) | 13 | 14 => vv = .agg (arr .u8 32 (NX 0)) | _ => True))
                    (fun w w' => Below w.heap.size w w') (fun _ _ h => h) (fun _ _ _ _ h _ => h) ?_ ?_
                  · refine Each.all ?_
                    refine ⟨?_, ?_, ?_, ?_, ?_, ?_, ?_, ?_, ?_, ?_, ?_, ?_, ?_, ?_, ?_, ?_, ?_, trivial⟩
                    · intro a w2 hB hF hd
                      rw [if_pos (wanted_none rfl)]
                      exact flow_move _ (.inl rfl) (by simp) (hF.same 10 rfl)
                    · intro a w2 hB hF hd
                      rw [if_pos (wanted_none rfl)]
                      exact flow_val (fun h => by cases h) (Go.Bas.run_neq_int rfl (hd 0 _ rfl (waits_spec rfl)) rfl) (congrArg Value.bool (bne_self_eq_false _))
                    · intro a w2 hB hF hd
                      rw [if_pos (wanted_none rfl)]
                      exact flow_move _ (.inl rfl) (by simp) (hd 1 _ rfl (waits_spec rfl))
                    · intro a w2 hB hF hd
                      refine flow_wanted (wanted_yes rfl rfl (hd 2 _ rfl (waits_spec rfl)) rfl) ?_
                      exact flow_move _ (.inl rfl) (by simp) (hF.same 9 rfl)
                    · intro a w2 hB hF hd
                      refine flow_wanted (wanted_yes rfl rfl (hd 2 _ rfl (waits_spec rfl)) rfl) ?_
                      exact flow_val (fun h => by cases h) (run_len_sl rfl (hd 3 _ rfl (waits_spec rfl)) Try.underlying60) rfl
                    · intro a w2 hB hF hd
                      refine flow_wanted (wanted_yes rfl rfl (hd 2 _ rfl (waits_spec rfl)) rfl) ?_
                      exact flow_move _ (.inl rfl) (by simp) (hF.same 1 rfl)
                    · intro a w2 hB hF hd
                      refine flow_wanted (wanted_yes rfl rfl (hd 2 _ rfl (waits_spec rfl)) rfl) ?_
                      exact flow_val (fun h => by cases h) (Go.Bas.run_neq_int rfl (hd 4 _ rfl (waits_spec rfl)) (hd 5 _ rfl (waits_spec rfl))) (congrArg Value.bool (bne_self_eq_false _))
                    · intro a w2 hB hF hd
                      rw [if_pos (wanted_none rfl)]
                      exact flow_val (fun h => by cases h) (run_pick rfl (hd 2 _ rfl (waits_spec rfl))) ((hd 6 _ rfl (waits_spec rfl)))
                    · intro a w2 hB hF hd
                      rw [if_pos (wanted_none rfl)]
                      exact flow_move _ (.inl rfl) (by simp) (hd 7 _ rfl (waits_spec rfl))
                    · intro a w2 hB hF hd
                      refine flow_wanted (wanted_yes rfl rfl (hd 8 _ rfl (waits_spec rfl)) rfl) ?_
                      exact flow_move _ (.inl rfl) (by simp) (hF.same 9 rfl)
                    · intro a w2 hB hF hd
                      refine flow_wanted (wanted_yes rfl rfl (hd 8 _ rfl (waits_spec rfl)) rfl) ?_
                      exact flow_move _ (.inl rfl) (by simp) (hF.same 1 rfl)
                    · intro a w2 hB hF hd
                      refine flow_wanted (wanted_yes rfl rfl (hd 8 _ rfl (waits_spec rfl)) rfl) ?_
                      exact flow_val (fun h => by cases h) (Go.Bas.run_sub rfl (hd 10 _ rfl (waits_spec rfl)) rfl) (congrArg (Value.int .i64) ((wrap_i64_id (by omega) (by omega)).trans (by omega)))
                    · intro a w2 hB hF hd
                      refine flow_wanted (wanted_yes rfl rfl (hd 8 _ rfl (waits_spec rfl)) rfl) ?_
                      exact flow_val (fun h => by cases h) (run_index_rows (i := n1) (sz := 32) rfl (hd 9 _ rfl (waits_spec rfl)) (hd 11 _ rfl (waits_spec rfl)) Try.underlying60 Try.size26 (by omega)) rfl
                    · intro a w2 hB hF hd
                      refine flow_wanted (wanted_yes rfl rfl (hd 8 _ rfl (waits_spec rfl)) rfl) ?_
                      exact flow_val (fun h => by cases h) (run_load_part rfl (hd 12 _ rfl (waits_spec rfl)) Try.underlying26 Try.size26 (fun c hc => (hB.cell (p := ⟨G, n1 * 32 + c, none⟩) hGl).trans (HC0.out c hc))) rfl
                    · intro a w2 hB hF hd
                      refine flow_wanted (wanted_yes rfl rfl (hd 8 _ rfl (waits_spec rfl)) rfl) ?_
                      exact flow_val (fun h => by cases h) (run_load_str rfl Try.underlying26 rfl Try.size26 (hF.same 3 rfl) (hA8.below hB hA8.lt)) rfl
                    · intro a w2 hB hF hd
                      refine flow_wanted (wanted_yes rfl rfl (hd 8 _ rfl (waits_spec rfl)) rfl) ?_
                      exact flow_val (fun h => by cases h) (run_neq_arr true rfl (hd 13 _ rfl (waits_spec rfl)) (hd 14 _ rfl (waits_spec rfl)) Try.underlying26 (by kernel_rfl) (by kernel_rfl) (by kernel_rfl) (by kernel_rfl) (by kernel_rfl) sameB_self) rfl
                    · intro a w2 hB hF hd
                      rw [if_pos (wanted_none rfl)]
                      exact flow_val (fun h => by cases h) (run_pick rfl (hd 8 _ rfl (waits_spec rfl))) ((hd 15 _ rfl (waits_spec rfl)))
                  · intro a wb hB hF hS
                    have ha := puts_each rfl rfl hF [_, _, _, _, _, _, _, _, _, _, _, _, _, _, _, _, _] rfl ⟨hS 0 _ rfl, hS 1 _ rfl, hS 2 _ rfl, hS 3 _ rfl, hS 4 _ rfl, hS 5 _ rfl, hS 6 _ rfl, hS 7 _ rfl, hS 8 _ rfl, hS 9 _ rfl, hS 10 _ rfl, hS 11 _ rfl, hS 12 _ rfl, hS 13 _ rfl, hS 14 _ rfl, hS 15 _ rfl, hS 16 _ rfl, trivial⟩
                    simp only [puts, Act.put, List.setIfInBounds_toArray, List.set_cons_succ, List.set_cons_zero] at ha
                    subst ha
                    clear hS hF
                    have hcb := hca.trans (hB.mono hca.size)
                    have HN1 := Lib.hid hn1
                    clear hB hca hA8 hG8 hGl HC0 hn1
                    go_wp2
                    go_loopw [12] (fun u wr => ∃ i : Nat, i < n ∧ u = .int .i64 (i : Int) ∧ Below w6.heap.size w6 wr) (fun u _ => (intOf u).toNat)
                    case atStart => exact ⟨n1, by have := HN1.out; omega, congrArg (Value.int .i64) (by have := HN1.out; omega), hcb⟩
                    case round =>
                      clear hcb
                      obtain ⟨i, hi, rfl, hc⟩ := hrel
                      rename_i wi
                      by_cases hlt : 0 < i
                      · obtain ⟨i1, hi1⟩ : ∃ i1, i = i1 + 1 := ⟨i - 1, by omega⟩
                        obtain ⟨r, hr⟩ : ∃ r, i + r + 1 = n := ⟨n - 1 - i, by omega⟩
                        have hG9 := hG.kept hc
                        have hGl := hG9.lt
                        have HCA := Lib.hid (chn_part hG9 (i := i1) (r := r + 1) (by omega))
                        have HCB := Lib.hid (chn_part hG9 (i := i) (r := r) (by omega))
                        go_upto_region 23 with (fail)
                        refine region_flow (n := 172) (by kernel_rfl) (by kernel_rfl) (by kernel_rfl) rfl
                          (fun ii vv _ => (match ii with | 0 | 5 => vv = .slice (some ⟨G, 0, none⟩) n n | 1 | 6 => vv = .int .i64 ((i : Int)) | 2 => vv = .int .i64 ((i1 : Int)) | 3 => vv = .pointer (some ⟨G, i1 * 32, none⟩) | 4 | 9 => vv = .agg (arr .u8 32 (NX (r + 1))) | 7 => vv = .pointer (some ⟨G, i * 32, none⟩) | 8 => vv = .agg (arr .u8 32 (NX r)) | 10 => vv = .bool false | _ => True))
                          (fun w w' => Below w.heap.size w w') (fun _ _ h => h) (fun _ _ _ _ h _ => h) ?_ ?_
                        · refine Each.all ?_
                          refine ⟨?_, ?_, ?_, ?_, ?_, ?_, ?_, ?_, ?_, ?_, ?_, trivial⟩
                          · intro a w2 hB hF hd
                            rw [if_pos (wanted_none rfl)]
                            exact flow_move _ (.inl rfl) (by simp) (hF.same 9 rfl)
                          · intro a w2 hB hF hd
                            rw [if_pos (wanted_none rfl)]
                            exact flow_move _ (.inl rfl) (by simp) (hF.same 12 rfl)
                          · intro a w2 hB hF hd
                            rw [if_pos (wanted_none rfl)]
                            exact flow_val (fun h => by cases h) (Go.Bas.run_sub rfl (hd 1 _ rfl (waits_spec rfl)) rfl) (congrArg (Value.int .i64) ((wrap_i64_id (by omega) (by omega)).trans (by omega)))
                          · intro a w2 hB hF hd
                            rw [if_pos (wanted_none rfl)]
                            exact flow_val (fun h => by cases h) (run_index_rows (i := i1) (sz := 32) rfl (hd 0 _ rfl (waits_spec rfl)) (hd 2 _ rfl (waits_spec rfl)) Try.underlying60 Try.size26 (by omega)) rfl
                          · intro a w2 hB hF hd
                            rw [if_pos (wanted_none rfl)]
                            exact flow_val (fun h => by cases h) (run_load_part rfl (hd 3 _ rfl (waits_spec rfl)) Try.underlying26 Try.size26 (fun c hc => (hB.cell (p := ⟨G, i1 * 32 + c, none⟩) hGl).trans (HCA.out c hc))) rfl
                          · intro a w2 hB hF hd
                            rw [if_pos (wanted_none rfl)]
                            exact flow_move _ (.inl rfl) (by simp) (hF.same 9 rfl)
                          · intro a w2 hB hF hd
                            rw [if_pos (wanted_none rfl)]
                            exact flow_move _ (.inl rfl) (by simp) (hF.same 12 rfl)
                          · intro a w2 hB hF hd
                            rw [if_pos (wanted_none rfl)]
                            exact flow_val (fun h => by cases h) (run_index_rows (i := i) (sz := 32) rfl (hd 5 _ rfl (waits_spec rfl)) (hd 6 _ rfl (waits_spec rfl)) Try.underlying60 Try.size26 (by omega)) rfl
                          · intro a w2 hB hF hd
                            rw [if_pos (wanted_none rfl)]
                            exact flow_val (fun h => by cases h) (run_load_part rfl (hd 7 _ rfl (waits_spec rfl)) Try.underlying26 Try.size26 (fun c hc => (hB.cell (p := ⟨G, i * 32 + c, none⟩) hGl).trans (HCB.out c hc))) rfl
                          · intro a w2 hB hF hd
                            rw [if_pos (wanted_none rfl)]
                            refine flow_call _ _ _ rfl Try.call34 _ (args1 (hd 8 _ rfl (waits_spec rfl))) (by simp) ((HRN.out r _).mono ?_)
                            rintro e w3 ⟨rfl, hb⟩; exact ⟨_, rfl, rfl, hb⟩
                          · intro a w2 hB hF hd
                            rw [if_pos (wanted_none rfl)]
                            exact flow_val (fun h => by cases h) (run_neq_arr true rfl (hd 4 _ rfl (waits_spec rfl)) (hd 9 _ rfl (waits_spec rfl)) Try.underlying26 (by kernel_rfl) (by kernel_rfl) (by kernel_rfl) (by kernel_rfl) (by kernel_rfl) sameB_self) rfl
                        · intro a wj hB hF hS
                          have ha := puts_each rfl rfl hF [_, _, _, _, _, _, _, _, _, _, _] rfl ⟨hS 0 _ rfl, hS 1 _ rfl, hS 2 _ rfl, hS 3 _ rfl, hS 4 _ rfl, hS 5 _ rfl, hS 6 _ rfl, hS 7 _ rfl, hS 8 _ rfl, hS 9 _ rfl, hS 10 _ rfl, trivial⟩
                          simp only [puts, Act.put, List.setIfInBounds_toArray, List.set_cons_succ, List.set_cons_zero] at ha
                          subst ha
                          clear hS hF
                          have hcj := hc.trans (hB.mono hc.size)
                          clear hB hc hG9 hGl HCA HCB
                          go_wp2
                          go_roundw
                          case rel => first | exact ⟨i1, by omega, congrArg (Value.int .i64) (by omega), hcj⟩ | ((repeat apply Exists.intro); exact ⟨⟨i1, by omega, congrArg (Value.int .i64) (by omega), hcj⟩, rfl⟩)
                          case measure => simp [intOf] <;> omega
                      · obtain rfl : 0 = i := by omega
                        go_upto_region 25 with (fail)
                        rcases (by omega : k < 0 ∨ (n : Int) < k ∨ (0 ≤ k ∧ k ≤ n)) with hk | hk | hk
                        · skip
                          refine region_flow (n := 172) (by kernel_rfl) (by kernel_rfl) (by kernel_rfl) rfl
                            (fun ii vv _ => (match ii with | 0 => vv = .int .i64 (k) | 1 | 2 | 6 => vv = .bool true | 3 | 4 | 5 => vv = undef | _ => True))
                            (fun w w' => Below w.heap.size w w') (fun _ _ h => h) (fun _ _ _ _ h _ => h) ?_ ?_
                          · refine Each.all ?_
                            refine ⟨?_, ?_, ?_, ?_, ?_, ?_, ?_, trivial⟩
                            · intro a w2 hB hF hd
                              rw [if_pos (wanted_none rfl)]
                              exact flow_move _ (.inl rfl) (by simp) (hF.same 2 rfl)
                            · intro a w2 hB hF hd
                              rw [if_pos (wanted_none rfl)]
                              exact flow_val (fun h => by cases h) (Go.Bas.run_lss rfl (hd 0 _ rfl (waits_spec rfl)) rfl) (congrArg Value.bool (decide_eq_true (by omega)))
                            · intro a w2 hB hF hd
                              rw [if_pos (wanted_none rfl)]
                              exact flow_move _ (.inl rfl) (by simp) (hd 1 _ rfl (waits_spec rfl))
                            · intro a w2 hB hF hd
                              rw [if_neg (by rw [wanted_some rfl rfl (hd 2 _ rfl (waits_spec rfl))]; decide)]
                              exact rfl
                            · intro a w2 hB hF hd
                              rw [if_neg (by rw [wanted_some rfl rfl (hd 2 _ rfl (waits_spec rfl))]; decide)]
                              exact rfl
                            · intro a w2 hB hF hd
                              rw [if_neg (by rw [wanted_some rfl rfl (hd 2 _ rfl (waits_spec rfl))]; decide)]
                              exact rfl
                            · intro a w2 hB hF hd
                              rw [if_pos (wanted_none rfl)]
                              exact flow_val (fun h => by cases h) (run_pick rfl (hd 2 _ rfl (waits_spec rfl))) (rfl)
                          · intro a wb hB hF hS
                            have ha := puts_each rfl rfl hF [_, _, _, _, _, _, _] rfl ⟨hS 0 _ rfl, hS 1 _ rfl, hS 2 _ rfl, hS 3 _ rfl, hS 4 _ rfl, hS 5 _ rfl, hS 6 _ rfl, trivial⟩
                            simp only [puts, Act.put, List.setIfInBounds_toArray, List.set_cons_succ, List.set_cons_zero] at ha
                            subst ha
                            clear hS hF
                            have hcb := hc.trans (hB.mono hc.size)
                            clear hB hc
                            go_wp2
                            go_ret
                            exact ⟨rfl, hb9.trans (hcb.mono hb9.size)⟩
                        · skip
                          refine region_flow (n := 172) (by kernel_rfl) (by kernel_rfl) (by kernel_rfl) rfl
                            (fun ii vv _ => (match ii with | 0 | 3 => vv = .int .i64 (k) | 1 | 2 => vv = .bool false | 4 => vv = .int .i64 ((n : Int)) | 5 | 6 => vv = .bool true | _ => True))
                            (fun w w' => Below w.heap.size w w') (fun _ _ h => h) (fun _ _ _ _ h _ => h) ?_ ?_
                          · refine Each.all ?_
                            refine ⟨?_, ?_, ?_, ?_, ?_, ?_, ?_, trivial⟩
                            · intro a w2 hB hF hd
                              rw [if_pos (wanted_none rfl)]
                              exact flow_move _ (.inl rfl) (by simp) (hF.same 2 rfl)
                            · intro a w2 hB hF hd
                              rw [if_pos (wanted_none rfl)]
                              exact flow_val (fun h => by cases h) (Go.Bas.run_lss rfl (hd 0 _ rfl (waits_spec rfl)) rfl) (congrArg Value.bool (decide_eq_false (by omega)))
                            · intro a w2 hB hF hd
                              rw [if_pos (wanted_none rfl)]
                              exact flow_move _ (.inl rfl) (by simp) (hd 1 _ rfl (waits_spec rfl))
                            · intro a w2 hB hF hd
                              refine flow_wanted (wanted_yes rfl rfl (hd 2 _ rfl (waits_spec rfl)) rfl) ?_
                              exact flow_move _ (.inl rfl) (by simp) (hF.same 2 rfl)
                            · intro a w2 hB hF hd
                              refine flow_wanted (wanted_yes rfl rfl (hd 2 _ rfl (waits_spec rfl)) rfl) ?_
                              exact flow_move _ (.inl rfl) (by simp) (hF.same 1 rfl)
                            · intro a w2 hB hF hd
                              refine flow_wanted (wanted_yes rfl rfl (hd 2 _ rfl (waits_spec rfl)) rfl) ?_
                              exact flow_val (fun h => by cases h) (Go.Bas.run_gtr rfl (hd 3 _ rfl (waits_spec rfl)) (hd 4 _ rfl (waits_spec rfl))) (congrArg Value.bool (decide_eq_true (by omega)))
                            · intro a w2 hB hF hd
                              rw [if_pos (wanted_none rfl)]
                              exact flow_val (fun h => by cases h) (run_pick rfl (hd 2 _ rfl (waits_spec rfl))) ((hd 5 _ rfl (waits_spec rfl)))
                          · intro a wb hB hF hS
                            have ha := puts_each rfl rfl hF [_, _, _, _, _, _, _] rfl ⟨hS 0 _ rfl, hS 1 _ rfl, hS 2 _ rfl, hS 3 _ rfl, hS 4 _ rfl, hS 5 _ rfl, hS 6 _ rfl, trivial⟩
                            simp only [puts, Act.put, List.setIfInBounds_toArray, List.set_cons_succ, List.set_cons_zero] at ha
                            subst ha
                            clear hS hF
                            have hcb := hc.trans (hB.mono hc.size)
                            clear hB hc
                            go_wp2
                            go_ret
                            exact ⟨rfl, hb9.trans (hcb.mono hb9.size)⟩
                        · skip
                          refine region_flow (n := 172) (by kernel_rfl) (by kernel_rfl) (by kernel_rfl) rfl
                            (fun ii vv _ => (match ii with | 0 | 3 => vv = .int .i64 (k) | 1 | 2 | 5 | 6 => vv = .bool false | 4 => vv = .int .i64 ((n : Int)) | _ => True))
                            (fun w w' => Below w.heap.size w w') (fun _ _ h => h) (fun _ _ _ _ h _ => h) ?_ ?_
                          · refine Each.all ?_
                            refine ⟨?_, ?_, ?_, ?_, ?_, ?_, ?_, trivial⟩
                            · intro a w2 hB hF hd
                              rw [if_pos (wanted_none rfl)]
                              exact flow_move _ (.inl rfl) (by simp) (hF.same 2 rfl)
                            · intro a w2 hB hF hd
                              rw [if_pos (wanted_none rfl)]
                              exact flow_val (fun h => by cases h) (Go.Bas.run_lss rfl (hd 0 _ rfl (waits_spec rfl)) rfl) (congrArg Value.bool (decide_eq_false (by omega)))
                            · intro a w2 hB hF hd
                              rw [if_pos (wanted_none rfl)]
                              exact flow_move _ (.inl rfl) (by simp) (hd 1 _ rfl (waits_spec rfl))
                            · intro a w2 hB hF hd
                              refine flow_wanted (wanted_yes rfl rfl (hd 2 _ rfl (waits_spec rfl)) rfl) ?_
                              exact flow_move _ (.inl rfl) (by simp) (hF.same 2 rfl)
                            · intro a w2 hB hF hd
                              refine flow_wanted (wanted_yes rfl rfl (hd 2 _ rfl (waits_spec rfl)) rfl) ?_
                              exact flow_move _ (.inl rfl) (by simp) (hF.same 1 rfl)
                            · intro a w2 hB hF hd
                              refine flow_wanted (wanted_yes rfl rfl (hd 2 _ rfl (waits_spec rfl)) rfl) ?_
                              exact flow_val (fun h => by cases h) (Go.Bas.run_gtr rfl (hd 3 _ rfl (waits_spec rfl)) (hd 4 _ rfl (waits_spec rfl))) (congrArg Value.bool (decide_eq_false (by omega)))
                            · intro a w2 hB hF hd
                              rw [if_pos (wanted_none rfl)]
                              exact flow_val (fun h => by cases h) (run_pick rfl (hd 2 _ rfl (waits_spec rfl))) ((hd 5 _ rfl (waits_spec rfl)))
                          · intro a wb hB hF hS
                            have ha := puts_each rfl rfl hF [_, _, _, _, _, _, _] rfl ⟨hS 0 _ rfl, hS 1 _ rfl, hS 2 _ rfl, hS 3 _ rfl, hS 4 _ rfl, hS 5 _ rfl, hS 6 _ rfl, trivial⟩
                            simp only [puts, Act.put, List.setIfInBounds_toArray, List.set_cons_succ, List.set_cons_zero] at ha
                            subst ha
                            clear hS hF
                            have hcb := hc.trans (hB.mono hc.size)
                            clear hB hc
                            obtain ⟨kk, hkk⟩ := Int.eq_ofNat_of_zero_le hk.1
                            have HK2 : Hid (∀ w, Calls Try.prog 35 #[.agg (arr .u8 32 (NX 0)), .int .i64 k] w fun e w' => e = .returned (.tuple #[.agg (arr .u8 32 (NX kk)), .int .i64 0]) ∧ Below w.heap.size w w') := fun w => by rw [hkk]; exact HB3.out 0 kk kk w (by omega) (by omega)
                            have HK3 : Hid (∀ w, Calls Try.prog 35 #[.agg (arr .u8 32 (NX kk)), .int .i64 ((n : Int) - k)] w fun e w' => e = .returned (.tuple #[.agg (arr .u8 32 (NX n)), .int .i64 0]) ∧ Below w.heap.size w w') := fun w => by
                              rw [show (n : Int) - k = ((n - kk : Nat) : Int) by omega]; exact HB3.out kk (n - kk) n w (by omega) (by omega)
                            have HKK := Lib.hid hkk
                            clear hkk
                            have hA8 := hA6.kept hcb
                            go_wp2_with (refine load_arr rfl 26 _ rfl .u8 w.heap.size 32 (NX 0) 5 Try.underlying26 Try.size26 rfl hA8 ?_)
                            refine (HK2.out _).mono ?_
                            rintro e wc ⟨rfl, hbc⟩
                            have hcc := hcb.trans (hbc.mono hcb.size)
                            clear hcb hbc hA8
                            go_upto_region 28 with (refine store_arr rfl 26 _ _ rfl .u8 wc.heap.size 32 (fun _ => 0) (NX kk) Try.size26 rfl rfl (Arr.newAt rfl (by rfl)) ?_)
                            refine wp_world (fun wd => Arr .u8 wd wc.heap.size 32 (NX kk) ∧ Below w6.heap.size w6 wd) ⟨(Arr.newAt rfl (by rfl) : Arr .u8 _ _ 32 (fun _ => 0)).setRow _ _, below_setRow' (hcc.alloc hcc.size _) hcc.size _⟩ ?_
                            rintro wd ⟨hX, hcd⟩
                            obtain ⟨q3, hq3⟩ : ∃ q3, q3 = wc.heap.size := ⟨_, rfl⟩
                            rw [← hq3] at hX ⊢
                            clear hq3 hcc
                            try simp only [Act.put, List.setIfInBounds_toArray, List.set_cons_succ, List.set_cons_zero]
                            go_wp2_with (refine load_arr rfl 26 _ rfl .u8 q3 32 (NX kk) 5 Try.underlying26 Try.size26 rfl hX ?_)
                            refine (HK3.out _).mono ?_
                            rintro e we ⟨rfl, hbe⟩
                            have hce := hcd.trans (hbe.mono hcd.size)
                            have hXe := hX.kept hbe
                            have hqe := hXe.lt
                            clear hcd hX hbe
                            go_upto_region 29 with (refine store_arr rfl 26 _ _ rfl .u8 we.heap.size 32 (fun _ => 0) (NX n) Try.size26 rfl rfl (Arr.newAt rfl (by rfl)) ?_)
                            refine wp_world (fun wf => Arr .u8 wf we.heap.size 32 (NX n) ∧ Arr .u8 wf q3 32 (NX kk) ∧ Below w6.heap.size w6 wf) ⟨(Arr.newAt rfl (by rfl) : Arr .u8 _ _ 32 (fun _ => 0)).setRow _ _, Arr.setRowOther (Arr.alloc hXe _) _ (by omega) _, below_setRow' (hce.alloc hce.size _) hce.size _⟩ ?_
                            rintro wf ⟨hY, hXf, hcf⟩
                            obtain ⟨q4, hq4⟩ : ∃ q4, q4 = we.heap.size := ⟨_, rfl⟩
                            rw [← hq4] at hY ⊢
                            clear hq4 hce hXe hqe
                            try simp only [Act.put, List.setIfInBounds_toArray, List.set_cons_succ, List.set_cons_zero]
                            have hSf := hS6.kept hcf
                            rcases (by omega : k = n ∨ k < n) with hkn | hkn
                            · skip
                              refine region_flow (n := 172) (by kernel_rfl) (by kernel_rfl) (by kernel_rfl) rfl
                                (fun ii vv _ => (match ii with | 0 | 3 => vv = .int .i64 (0) | 1 | 2 | 4 | 5 | 6 | 9 | 10 | 11 | 14 | 15 | 25 | 26 | 27 => vv = .bool true | 7 | 8 => vv = .agg (arr .u8 32 (NX n)) | 12 => vv = .int .i64 (k) | 13 => vv = .int .i64 ((n : Int)) | 16 | 17 | 18 | 19 | 20 | 21 | 22 | 23 | 24 => vv = undef | _ => True))
                                (fun w w' => Below w.heap.size w w') (fun _ _ h => h) (fun _ _ _ _ h _ => h) ?_ ?_
                              · refine Each.all ?_
                                refine ⟨?_, ?_, ?_, ?_, ?_, ?_, ?_, ?_, ?_, ?_, ?_, ?_, ?_, ?_, ?_, ?_, ?_, ?_, ?_, ?_, ?_, ?_, ?_, ?_, ?_, ?_, ?_, ?_, trivial⟩
                                · intro a w2 hB hF hd
                                  rw [if_pos (wanted_none rfl)]
                                  exact flow_move _ (.inl rfl) (by simp) (hF.same 14 rfl)
                                · intro a w2 hB hF hd
                                  rw [if_pos (wanted_none rfl)]
                                  refine flow_val (fun h => by cases h) (Go.Bas.run_eql_int rfl (hd 0 _ rfl (waits_spec rfl)) rfl) ?_
                                  exact rfl
                                · intro a w2 hB hF hd
                                  rw [if_pos (wanted_none rfl)]
                                  exact flow_move _ (.inl rfl) (by simp) (hd 1 _ rfl (waits_spec rfl))
                                · intro a w2 hB hF hd
                                  refine flow_wanted (wanted_yes rfl rfl (hd 2 _ rfl (waits_spec rfl)) rfl) ?_
                                  exact flow_move _ (.inl rfl) (by simp) (hF.same 16 rfl)
                                · intro a w2 hB hF hd
                                  refine flow_wanted (wanted_yes rfl rfl (hd 2 _ rfl (waits_spec rfl)) rfl) ?_
                                  refine flow_val (fun h => by cases h) (Go.Bas.run_eql_int rfl (hd 3 _ rfl (waits_spec rfl)) rfl) ?_
                                  exact rfl
                                · intro a w2 hB hF hd
                                  rw [if_pos (wanted_none rfl)]
                                  exact flow_val (fun h => by cases h) (run_pick rfl (hd 2 _ rfl (waits_spec rfl))) ((hd 4 _ rfl (waits_spec rfl)))
                                · intro a w2 hB hF hd
                                  rw [if_pos (wanted_none rfl)]
                                  exact flow_move _ (.inl rfl) (by simp) (hd 5 _ rfl (waits_spec rfl))
                                · intro a w2 hB hF hd
                                  refine flow_wanted (wanted_yes rfl rfl (hd 6 _ rfl (waits_spec rfl)) rfl) ?_
                                  exact flow_val (fun h => by cases h) (run_load_str rfl Try.underlying26 rfl Try.size26 (hF.same 15 rfl) (hY.below hB hY.lt)) rfl
                                · intro a w2 hB hF hd
                                  refine flow_wanted (wanted_yes rfl rfl (hd 6 _ rfl (waits_spec rfl)) rfl) ?_
                                  exact flow_val (fun h => by cases h) (run_load_str rfl Try.underlying26 rfl Try.size26 (hF.same 7 rfl) (hSf.below hB hSf.lt)) rfl
                                · intro a w2 hB hF hd
                                  refine flow_wanted (wanted_yes rfl rfl (hd 6 _ rfl (waits_spec rfl)) rfl) ?_
                                  exact flow_val (fun h => by cases h) (run_eql_arr true rfl (hd 7 _ rfl (waits_spec rfl)) (hd 8 _ rfl (waits_spec rfl)) Try.underlying26 (by kernel_rfl) (by kernel_rfl) (by kernel_rfl) (by kernel_rfl) (by kernel_rfl) sameB_self) rfl
                                · intro a w2 hB hF hd
                                  rw [if_pos (wanted_none rfl)]
                                  exact flow_val (fun h => by cases h) (run_pick rfl (hd 6 _ rfl (waits_spec rfl))) ((hd 9 _ rfl (waits_spec rfl)))
                                · intro a w2 hB hF hd
                                  rw [if_pos (wanted_none rfl)]
                                  exact flow_move _ (.inl rfl) (by simp) (hd 10 _ rfl (waits_spec rfl))
                                · intro a w2 hB hF hd
                                  refine flow_wanted (wanted_yes rfl rfl (hd 11 _ rfl (waits_spec rfl)) rfl) ?_
                                  exact flow_move _ (.inl rfl) (by simp) (hF.same 2 rfl)
                                · intro a w2 hB hF hd
                                  refine flow_wanted (wanted_yes rfl rfl (hd 11 _ rfl (waits_spec rfl)) rfl) ?_
                                  exact flow_move _ (.inl rfl) (by simp) (hF.same 1 rfl)
                                · intro a w2 hB hF hd
                                  refine flow_wanted (wanted_yes rfl rfl (hd 11 _ rfl (waits_spec rfl)) rfl) ?_
                                  refine flow_val (fun h => by cases h) (Go.Bas.run_eql_int rfl (hd 12 _ rfl (waits_spec rfl)) (hd 13 _ rfl (waits_spec rfl))) ?_
                                  exact congrArg Value.bool (beq_iff_eq.2 hkn)
                                · intro a w2 hB hF hd
                                  refine flow_wanted (wanted_yes rfl rfl (hd 11 _ rfl (waits_spec rfl)) rfl) ?_
                                  exact flow_move _ (.inl rfl) (by simp) (hd 14 _ rfl (waits_spec rfl))
                                · intro a w2 hB hF hd
                                  rw [if_neg (by rw [wanted_some rfl rfl (hd 15 _ rfl (waits_spec rfl))]; decide)]
                                  exact rfl
                                · intro a w2 hB hF hd
                                  rw [if_neg (by rw [wanted_some rfl rfl (hd 15 _ rfl (waits_spec rfl))]; decide)]
                                  exact rfl
                                · intro a w2 hB hF hd
                                  rw [if_neg (by rw [wanted_some rfl rfl (hd 15 _ rfl (waits_spec rfl))]; decide)]
                                  exact rfl
                                · intro a w2 hB hF hd
                                  rw [if_neg (by rw [wanted_some rfl rfl (hd 15 _ rfl (waits_spec rfl))]; decide)]
                                  exact rfl
                                · intro a w2 hB hF hd
                                  rw [if_neg (by rw [wanted_some rfl rfl (hd 15 _ rfl (waits_spec rfl))]; decide)]
                                  exact rfl
                                · intro a w2 hB hF hd
                                  rw [if_neg (by rw [wanted_some rfl rfl (hd 15 _ rfl (waits_spec rfl))]; decide)]
                                  exact rfl
                                · intro a w2 hB hF hd
                                  rw [if_neg (by rw [wanted_some rfl rfl (hd 15 _ rfl (waits_spec rfl))]; decide)]
                                  exact rfl
                                · intro a w2 hB hF hd
                                  rw [if_neg (by rw [wanted_some rfl rfl (hd 15 _ rfl (waits_spec rfl))]; decide)]
                                  exact rfl
                                · intro a w2 hB hF hd
                                  rw [if_neg (by rw [wanted_some rfl rfl (hd 15 _ rfl (waits_spec rfl))]; decide)]
                                  exact rfl
                                · intro a w2 hB hF hd
                                  refine flow_wanted (wanted_yes rfl rfl (hd 11 _ rfl (waits_spec rfl)) rfl) ?_
                                  exact flow_val (fun h => by cases h) (run_pick rfl (hd 15 _ rfl (waits_spec rfl))) (rfl)
                                · intro a w2 hB hF hd
                                  rw [if_pos (wanted_none rfl)]
                                  exact flow_val (fun h => by cases h) (run_pick rfl (hd 11 _ rfl (waits_spec rfl))) ((hd 25 _ rfl (waits_spec rfl)))
                                · intro a w2 hB hF hd
                                  rw [if_pos (wanted_none rfl)]
                                  exact flow_move _ (.inr rfl) (by simp) (hd 26 _ rfl (waits_spec rfl))
                              · intro a wg hB hF hS
                                have ha := puts_each rfl rfl hF [_, _, _, _, _, _, _, _, _, _, _, _, _, _, _, _, _, _, _, _, _, _, _, _, _, _, _, _] rfl ⟨hS 0 _ rfl, hS 1 _ rfl, hS 2 _ rfl, hS 3 _ rfl, hS 4 _ rfl, hS 5 _ rfl, hS 6 _ rfl, hS 7 _ rfl, hS 8 _ rfl, hS 9 _ rfl, hS 10 _ rfl, hS 11 _ rfl, hS 12 _ rfl, hS 13 _ rfl, hS 14 _ rfl, hS 15 _ rfl, hS 16 _ rfl, hS 17 _ rfl, hS 18 _ rfl, hS 19 _ rfl, hS 20 _ rfl, hS 21 _ rfl, hS 22 _ rfl, hS 23 _ rfl, hS 24 _ rfl, hS 25 _ rfl, hS 26 _ rfl, hS 27 _ rfl, trivial⟩
                                simp only [puts, Act.put, List.setIfInBounds_toArray, List.set_cons_succ, List.set_cons_zero] at ha
                                subst ha
                                clear hS hF
                                have hcg := hcf.trans (hB.mono hcf.size)
                                go_wp2
                                go_ret
                                exact ⟨rfl, hb9.trans (hcg.mono hb9.size)⟩
                            · obtain ⟨i, hi⟩ : ∃ i, i + kk + 1 = n := ⟨n - kk - 1, by have := HKK.out; omega⟩
                              have hik : (n : Int) - 1 - k = (i : Int) := by have := HKK.out; omega
                              have hG8 := hG.kept hcf
                              have hGl := hG8.lt
                              have HC0 := Lib.hid (chn_part hG8 (i := i) (r := kk) (by omega))
                              refine region_flow (n := 172) (by kernel_rfl) (by kernel_rfl) (by kernel_rfl) rfl
                                (fun ii vv _ => (match ii with | 0 | 3 => vv = .int .i64 (0) | 1 | 2 | 4 | 5 | 6 | 9 | 10 | 11 | 24 | 25 | 26 | 27 => vv = .bool true | 7 | 8 => vv = .agg (arr .u8 32 (NX n)) | 12 | 19 => vv = .int .i64 (k) | 13 | 17 => vv = .int .i64 ((n : Int)) | 14 | 15 => vv = .bool false | 16 => vv = .slice (some ⟨G, 0, none⟩) n n | 18 => vv = .int .i64 ((n : Int) - 1) | 20 => vv = .int .i64 ((i : Int)) | 21 => vv = .pointer (some ⟨G, i * 32, none⟩) | 22 | 23 => vv = .agg (arr .u8 32 (NX kk)) | _ => True))
                                (fun w w' => Below w.heap.size w w') (fun _ _ h => h) (fun _ _ _ _ h _ => h) ?_ ?_
                              · refine Each.all ?_
                                refine ⟨?_, ?_, ?_, ?_, ?_, ?_, ?_, ?_, ?_, ?_, ?_, ?_, ?_, ?_, ?_, ?_, ?_, ?_, ?_, ?_, ?_, ?_, ?_, ?_, ?_, ?_, ?_, ?_, trivial⟩
                                · intro a w2 hB hF hd
                                  rw [if_pos (wanted_none rfl)]
                                  exact flow_move _ (.inl rfl) (by simp) (hF.same 14 rfl)
                                · intro a w2 hB hF hd
                                  rw [if_pos (wanted_none rfl)]
                                  refine flow_val (fun h => by cases h) (Go.Bas.run_eql_int rfl (hd 0 _ rfl (waits_spec rfl)) rfl) ?_
                                  exact rfl
                                · intro a w2 hB hF hd
                                  rw [if_pos (wanted_none rfl)]
                                  exact flow_move _ (.inl rfl) (by simp) (hd 1 _ rfl (waits_spec rfl))
                                · intro a w2 hB hF hd
                                  refine flow_wanted (wanted_yes rfl rfl (hd 2 _ rfl (waits_spec rfl)) rfl) ?_
                                  exact flow_move _ (.inl rfl) (by simp) (hF.same 16 rfl)
                                · intro a w2 hB hF hd
                                  refine flow_wanted (wanted_yes rfl rfl (hd 2 _ rfl (waits_spec rfl)) rfl) ?_
                                  refine flow_val (fun h => by cases h) (Go.Bas.run_eql_int rfl (hd 3 _ rfl (waits_spec rfl)) rfl) ?_
                                  exact rfl
                                · intro a w2 hB hF hd
                                  rw [if_pos (wanted_none rfl)]
                                  exact flow_val (fun h => by cases h) (run_pick rfl (hd 2 _ rfl (waits_spec rfl))) ((hd 4 _ rfl (waits_spec rfl)))
                                · intro a w2 hB hF hd
                                  rw [if_pos (wanted_none rfl)]
                                  exact flow_move _ (.inl rfl) (by simp) (hd 5 _ rfl (waits_spec rfl))
                                · intro a w2 hB hF hd
                                  refine flow_wanted (wanted_yes rfl rfl (hd 6 _ rfl (waits_spec rfl)) rfl) ?_
                                  exact flow_val (fun h => by cases h) (run_load_str rfl Try.underlying26 rfl Try.size26 (hF.same 15 rfl) (hY.below hB hY.lt)) rfl
                                · intro a w2 hB hF hd
                                  refine flow_wanted (wanted_yes rfl rfl (hd 6 _ rfl (waits_spec rfl)) rfl) ?_
                                  exact flow_val (fun h => by cases h) (run_load_str rfl Try.underlying26 rfl Try.size26 (hF.same 7 rfl) (hSf.below hB hSf.lt)) rfl
                                · intro a w2 hB hF hd
                                  refine flow_wanted (wanted_yes rfl rfl (hd 6 _ rfl (waits_spec rfl)) rfl) ?_
                                  exact flow_val (fun h => by cases h) (run_eql_arr true rfl (hd 7 _ rfl (waits_spec rfl)) (hd 8 _ rfl (waits_spec rfl)) Try.underlying26 (by kernel_rfl) (by kernel_rfl) (by kernel_rfl) (by kernel_rfl) (by kernel_rfl) sameB_self) rfl
                                · intro a w2 hB hF hd
                                  rw [if_pos (wanted_none rfl)]
                                  exact flow_val (fun h => by cases h) (run_pick rfl (hd 6 _ rfl (waits_spec rfl))) ((hd 9 _ rfl (waits_spec rfl)))
                                · intro a w2 hB hF hd
                                  rw [if_pos (wanted_none rfl)]
                                  exact flow_move _ (.inl rfl) (by simp) (hd 10 _ rfl (waits_spec rfl))
                                · intro a w2 hB hF hd
                                  refine flow_wanted (wanted_yes rfl rfl (hd 11 _ rfl (waits_spec rfl)) rfl) ?_
                                  exact flow_move _ (.inl rfl) (by simp) (hF.same 2 rfl)
                                · intro a w2 hB hF hd
                                  refine flow_wanted (wanted_yes rfl rfl (hd 11 _ rfl (waits_spec rfl)) rfl) ?_
                                  exact flow_move _ (.inl rfl) (by simp) (hF.same 1 rfl)
                                · intro a w2 hB hF hd
                                  refine flow_wanted (wanted_yes rfl rfl (hd 11 _ rfl (waits_spec rfl)) rfl) ?_
                                  refine flow_val (fun h => by cases h) (Go.Bas.run_eql_int rfl (hd 12 _ rfl (waits_spec rfl)) (hd 13 _ rfl (waits_spec rfl))) ?_
                                  exact congrArg Value.bool (beq_eq_false_iff_ne.2 (by omega))
                                · intro a w2 hB hF hd
                                  refine flow_wanted (wanted_yes rfl rfl (hd 11 _ rfl (waits_spec rfl)) rfl) ?_
                                  exact flow_move _ (.inl rfl) (by simp) (hd 14 _ rfl (waits_spec rfl))
                                · intro a w2 hB hF hd
                                  refine flow_wanted (wanted_yes rfl rfl (hd 15 _ rfl (waits_spec rfl)) rfl) ?_
                                  exact flow_move _ (.inl rfl) (by simp) (hF.same 9 rfl)
                                · intro a w2 hB hF hd
                                  refine flow_wanted (wanted_yes rfl rfl (hd 15 _ rfl (waits_spec rfl)) rfl) ?_
                                  exact flow_move _ (.inl rfl) (by simp) (hF.same 1 rfl)
                                · intro a w2 hB hF hd
                                  refine flow_wanted (wanted_yes rfl rfl (hd 15 _ rfl (waits_spec rfl)) rfl) ?_
                                  exact flow_val (fun h => by cases h) (Go.Bas.run_sub rfl (hd 17 _ rfl (waits_spec rfl)) rfl) (congrArg (Value.int .i64) (wrap_i64_id (by omega) (by omega)))
                                · intro a w2 hB hF hd
                                  refine flow_wanted (wanted_yes rfl rfl (hd 15 _ rfl (waits_spec rfl)) rfl) ?_
                                  exact flow_move _ (.inl rfl) (by simp) (hF.same 2 rfl)
                                · intro a w2 hB hF hd
                                  refine flow_wanted (wanted_yes rfl rfl (hd 15 _ rfl (waits_spec rfl)) rfl) ?_
                                  exact flow_val (fun h => by cases h) (Go.Bas.run_sub rfl (hd 18 _ rfl (waits_spec rfl)) (hd 19 _ rfl (waits_spec rfl))) (congrArg (Value.int .i64) ((wrap_i64_id (by omega) (by omega)).trans hik))
                                · intro a w2 hB hF hd
                                  refine flow_wanted (wanted_yes rfl rfl (hd 15 _ rfl (waits_spec rfl)) rfl) ?_
                                  exact flow_val (fun h => by cases h) (run_index_rows (i := i) (sz := 32) rfl (hd 16 _ rfl (waits_spec rfl)) (hd 20 _ rfl (waits_spec rfl)) Try.underlying60 Try.size26 (by omega)) rfl
                                · intro a w2 hB hF hd
                                  refine flow_wanted (wanted_yes rfl rfl (hd 15 _ rfl (waits_spec rfl)) rfl) ?_
                                  exact flow_val (fun h => by cases h) (run_load_part rfl (hd 21 _ rfl (waits_spec rfl)) Try.underlying26 Try.size26 (fun c hc => (hB.cell (p := ⟨G, i * 32 + c, none⟩) hGl).trans (HC0.out c hc))) rfl
                                · intro a w2 hB hF hd
                                  refine flow_wanted (wanted_yes rfl rfl (hd 15 _ rfl (waits_spec rfl)) rfl) ?_
                                  exact flow_val (fun h => by cases h) (run_load_str rfl Try.underlying26 rfl Try.size26 (hF.same 13 rfl) (hXf.below hB hXf.lt)) rfl
                                · intro a w2 hB hF hd
                                  refine flow_wanted (wanted_yes rfl rfl (hd 15 _ rfl (waits_spec rfl)) rfl) ?_
                                  exact flow_val (fun h => by cases h) (run_eql_arr true rfl (hd 22 _ rfl (waits_spec rfl)) (hd 23 _ rfl (waits_spec rfl)) Try.underlying26 (by kernel_rfl) (by kernel_rfl) (by kernel_rfl) (by kernel_rfl) (by kernel_rfl) sameB_self) rfl
                                · intro a w2 hB hF hd
                                  refine flow_wanted (wanted_yes rfl rfl (hd 11 _ rfl (waits_spec rfl)) rfl) ?_
                                  exact flow_val (fun h => by cases h) (run_pick rfl (hd 15 _ rfl (waits_spec rfl))) ((hd 24 _ rfl (waits_spec rfl)))
                                · intro a w2 hB hF hd
                                  rw [if_pos (wanted_none rfl)]
                                  exact flow_val (fun h => by cases h) (run_pick rfl (hd 11 _ rfl (waits_spec rfl))) ((hd 25 _ rfl (waits_spec rfl)))
                                · intro a w2 hB hF hd
                                  rw [if_pos (wanted_none rfl)]
                                  exact flow_move _ (.inr rfl) (by simp) (hd 26 _ rfl (waits_spec rfl))
                              · intro a wg hB hF hS
                                have ha := puts_each rfl rfl hF [_, _, _, _, _, _, _, _, _, _, _, _, _, _, _, _, _, _, _, _, _, _, _, _, _, _, _, _] rfl ⟨hS 0 _ rfl, hS 1 _ rfl, hS 2 _ rfl, hS 3 _ rfl, hS 4 _ rfl, hS 5 _ rfl, hS 6 _ rfl, hS 7 _ rfl, hS 8 _ rfl, hS 9 _ rfl, hS 10 _ rfl, hS 11 _ rfl, hS 12 _ rfl, hS 13 _ rfl, hS 14 _ rfl, hS 15 _ rfl, hS 16 _ rfl, hS 17 _ rfl, hS 18 _ rfl, hS 19 _ rfl, hS 20 _ rfl, hS 21 _ rfl, hS 22 _ rfl, hS 23 _ rfl, hS 24 _ rfl, hS 25 _ rfl, hS 26 _ rfl, hS 27 _ rfl, trivial⟩
                                simp only [puts, Act.put, List.setIfInBounds_toArray, List.set_cons_succ, List.set_cons_zero] at ha
                                subst ha
                                clear hS hF
                                have hcg := hcf.trans (hB.mono hcf.size)
                                go_wp2
                                go_ret
                                exact ⟨rfl, hb9.trans (hcg.mono hb9.size)⟩
  case inr =>
    go_upto_region 3 with (fail)
    refine region_flow (n := 172) (by kernel_rfl) (by kernel_rfl) (by kernel_rfl) rfl
      (fun ii vv _ => (match ii with | 0 => vv = .int .i64 ((n : Int)) | 1 | 2 | 5 | 6 | 11 | 12 | 13 => vv = .bool false | 3 | 4 => vv = undef | 7 | 10 => vv = .int .i64 (k) | 8 | 9 => vv = .bool true | _ => True))
      (fun w w' => Below w.heap.size w w') (fun _ _ h => h) (fun _ _ _ _ h _ => h) ?_ ?_
    · refine Each.all ?_
      refine ⟨?_, ?_, ?_, ?_, ?_, ?_, ?_, ?_, ?_, ?_, ?_, ?_, ?_, ?_, trivial⟩
      · intro a w2 hB hF hd
        rw [if_pos (wanted_none rfl)]
        exact flow_move _ (.inl rfl) (by simp) (hF.same 1 rfl)
      · intro a w2 hB hF hd
        rw [if_pos (wanted_none rfl)]
        exact flow_val (fun h => by cases h) (Go.Bas.run_gtr rfl (hd 0 _ rfl (waits_spec rfl)) rfl) (congrArg Value.bool (decide_eq_false (by omega)))
      · intro a w2 hB hF hd
        rw [if_pos (wanted_none rfl)]
        exact flow_move _ (.inl rfl) (by simp) (hd 1 _ rfl (waits_spec rfl))
      · intro a w2 hB hF hd
        rw [if_neg (by rw [wanted_some rfl rfl (hd 2 _ rfl (waits_spec rfl))]; decide)]
        exact rfl
      · intro a w2 hB hF hd
        rw [if_neg (by rw [wanted_some rfl rfl (hd 2 _ rfl (waits_spec rfl))]; decide)]
        exact rfl
      · intro a w2 hB hF hd
        rw [if_pos (wanted_none rfl)]
        exact flow_val (fun h => by cases h) (run_pick rfl (hd 2 _ rfl (waits_spec rfl))) (rfl)
      · intro a w2 hB hF hd
        rw [if_pos (wanted_none rfl)]
        exact flow_move _ (.inl rfl) (by simp) (hd 5 _ rfl (waits_spec rfl))
      · intro a w2 hB hF hd
        refine flow_wanted (wanted_yes rfl rfl (hd 6 _ rfl (waits_spec rfl)) rfl) ?_
        exact flow_move _ (.inl rfl) (by simp) (hF.same 2 rfl)
      · intro a w2 hB hF hd
        refine flow_wanted (wanted_yes rfl rfl (hd 6 _ rfl (waits_spec rfl)) rfl) ?_
        exact flow_val (fun h => by cases h) (Go.Bas.run_gtr rfl (hd 7 _ rfl (waits_spec rfl)) rfl) (congrArg Value.bool (decide_eq_true (by omega)))
      · intro a w2 hB hF hd
        refine flow_wanted (wanted_yes rfl rfl (hd 6 _ rfl (waits_spec rfl)) rfl) ?_
        exact flow_move _ (.inl rfl) (by simp) (hd 8 _ rfl (waits_spec rfl))
      · intro a w2 hB hF hd
        refine flow_wanted (wanted_yes rfl rfl (hd 9 _ rfl (waits_spec rfl)) rfl) ?_
        exact flow_move _ (.inl rfl) (by simp) (hF.same 2 rfl)
      · intro a w2 hB hF hd
        refine flow_wanted (wanted_yes rfl rfl (hd 9 _ rfl (waits_spec rfl)) rfl) ?_
        exact flow_val (fun h => by cases h) (Go.Bas.run_leq rfl (hd 10 _ rfl (waits_spec rfl)) rfl) (congrArg Value.bool (decide_eq_false (by omega)))
      · intro a w2 hB hF hd
        refine flow_wanted (wanted_yes rfl rfl (hd 6 _ rfl (waits_spec rfl)) rfl) ?_
        exact flow_val (fun h => by cases h) (run_pick rfl (hd 9 _ rfl (waits_spec rfl))) ((hd 11 _ rfl (waits_spec rfl)))
      · intro a w2 hB hF hd
        rw [if_pos (wanted_none rfl)]
        exact flow_val (fun h => by cases h) (run_pick rfl (hd 6 _ rfl (waits_spec rfl))) ((hd 12 _ rfl (waits_spec rfl)))
    · intro a w3 hB hF hS
      have ha := puts_each rfl rfl hF [_, _, _, _, _, _, _, _, _, _, _, _, _, _] rfl ⟨hS 0 _ rfl, hS 1 _ rfl, hS 2 _ rfl, hS 3 _ rfl, hS 4 _ rfl, hS 5 _ rfl, hS 6 _ rfl, hS 7 _ rfl, hS 8 _ rfl, hS 9 _ rfl, hS 10 _ rfl, hS 11 _ rfl, hS 12 _ rfl, hS 13 _ rfl, trivial⟩
      simp only [puts, Act.put, List.setIfInBounds_toArray, List.set_cons_succ, List.set_cons_zero] at ha
      subst ha
      clear hS hF
      have hb4 := hb3.trans (hB.mono hb3.size)
      have hA3 := hA2.kept hB
      clear hB hb3 hA2
      go_wp2_with (refine load_arr rfl 26 _ rfl .u8 w.heap.size 32 (NX 0) 5 Try.underlying26 Try.size26 rfl hA3 ?_)
      refine (HBK.out _).mono ?_
      rintro e w4 ⟨rfl, hb5⟩
      have hA4 := hA3.kept hb5
      have hb6 := hb4.trans (hb5.mono hb4.size)
      have hql := hA4.lt
      clear hA3 hb4 hb5
      go_upto_region 6 with (refine store_arr rfl 26 _ _ rfl .u8 w4.heap.size 32 (fun _ => 0) (NX n) Try.size26 rfl rfl (Arr.newAt rfl (by rfl)) ?_)
      refine wp_world (fun w5 => Arr .u8 w5 w4.heap.size 32 (NX n) ∧ Arr .u8 w5 w.heap.size 32 (NX 0) ∧ Below w.heap.size w w5) ⟨(Arr.newAt rfl (by rfl) : Arr .u8 _ _ 32 (fun _ => 0)).setRow _ _, Arr.setRowOther (Arr.alloc hA4 _) _ (by omega) _, below_setRow' (hb6.alloc hb6.size _) hb6.size _⟩ ?_
      rintro w5 ⟨hZ5, hA5, hb7⟩
      obtain ⟨q, hq⟩ : ∃ q, q = w4.heap.size := ⟨_, rfl⟩
      rw [← hq] at hZ5 ⊢
      clear hq hA4 hb6 hql
      try simp only [Act.put, List.setIfInBounds_toArray, List.set_cons_succ, List.set_cons_zero]
      go_wp2_with (refine load_arr rfl 26 _ rfl .u8 w.heap.size 32 (NX 0) 5 Try.underlying26 Try.size26 rfl hA5 ?_)
      refine (HCH.out _).mono ?_
      rintro e w6 ⟨v9, er, rfl, hch, hb8⟩
      have hS6 := hZ5.kept hb8
      have hA6 := hA5.kept hb8
      have hb9 := hb7.trans (hb8.mono hb7.size)
      clear hZ5 hA5 hb7 hb8
      go_upto_region 7 with (fail)
      refine region_flow (n := 172) (by kernel_rfl) (by kernel_rfl) (by kernel_rfl) rfl
        (fun ii vv _ => (match ii with | 0 | 3 => vv = .int .i64 ((n : Int)) | 1 | 2 | 4 | 5 => vv = .bool false | _ => True))
        (fun w w' => Below w.heap.size w w') (fun _ _ h => h) (fun _ _ _ _ h _ => h) ?_ ?_
      · refine Each.all ?_
        refine ⟨?_, ?_, ?_, ?_, ?_, ?_, trivial⟩
        · intro a w2 hB hF hd
          rw [if_pos (wanted_none rfl)]
          exact flow_move _ (.inl rfl) (by simp) (hF.same 1 rfl)
        · intro a w2 hB hF hd
          rw [if_pos (wanted_none rfl)]
          exact flow_val (fun h => by cases h) (Go.Bas.run_lss rfl (hd 0 _ rfl (waits_spec rfl)) rfl) (congrArg Value.bool (decide_eq_false (by omega)))
        · intro a w2 hB hF hd
          rw [if_pos (wanted_none rfl)]
          exact flow_move _ (.inl rfl) (by simp) (hd 1 _ rfl (waits_spec rfl))
        · intro a w2 hB hF hd
          refine flow_wanted (wanted_yes rfl rfl (hd 2 _ rfl (waits_spec rfl)) rfl) ?_
          exact flow_move _ (.inl rfl) (by simp) (hF.same 1 rfl)
        · intro a w2 hB hF hd
          refine flow_wanted (wanted_yes rfl rfl (hd 2 _ rfl (waits_spec rfl)) rfl) ?_
          exact flow_val (fun h => by cases h) (Go.Bas.run_gtr rfl (hd 3 _ rfl (waits_spec rfl)) rfl) (congrArg Value.bool (decide_eq_false (by omega)))
        · intro a w2 hB hF hd
          rw [if_pos (wanted_none rfl)]
          exact flow_val (fun h => by cases h) (run_pick rfl (hd 2 _ rfl (waits_spec rfl))) ((hd 4 _ rfl (waits_spec rfl)))
      · intro a w7 hB hF hS
        have ha := puts_each rfl rfl hF [_, _, _, _, _, _] rfl ⟨hS 0 _ rfl, hS 1 _ rfl, hS 2 _ rfl, hS 3 _ rfl, hS 4 _ rfl, hS 5 _ rfl, trivial⟩
        simp only [puts, Act.put, List.setIfInBounds_toArray, List.set_cons_succ, List.set_cons_zero] at ha
        subst ha
        clear hS hF
        have hA7 := hA6.kept hB
        go_upto_region 10 with (first
          | (refine load_arr rfl 26 _ rfl .u8 w.heap.size 32 (NX 0) 5 Try.underlying26 Try.size26 rfl hA7 ?_)
          | (refine store_arr rfl 26 _ _ rfl .u8 w7.heap.size 32 (fun _ => 0) (NX 0) Try.size26 rfl rfl (Arr.newAt rfl (by rfl)) ?_))
        refine wp_world (fun w8 => Arr .u8 w8 w7.heap.size 32 (NX 0) ∧ Below w6.heap.size w6 w8) ⟨(Arr.newAt rfl (by rfl) : Arr .u8 _ _ 32 (fun _ => 0)).setRow _ _, below_setRow' (hB.alloc hB.size _) hB.size _⟩ ?_
        rintro w8 ⟨hW8, hc8⟩
        obtain ⟨q2, hq2⟩ : ∃ q2, q2 = w7.heap.size := ⟨_, rfl⟩
        have hq6 : w6.heap.size ≤ q2 := by have := hB.size; omega
        rw [← hq2] at hW8 ⊢
        clear hq2 hA7 hB
        try simp only [Act.put, List.setIfInBounds_toArray, List.set_cons_succ, List.set_cons_zero]
        go_wp2
        go_loopw [69] (fun u wr => ∃ j : Nat, j ≤ n ∧ u = .int .i64 (j : Int) ∧ Arr .u8 wr q2 32 (NX j) ∧ Below w6.heap.size w6 wr) (fun u _ => n - (intOf u).toNat)
        case atStart => exact ⟨0, Nat.zero_le _, rfl, hW8, hc8⟩
        case round =>
          clear hW8 hc8
          obtain ⟨j, hj, rfl, hW, hc⟩ := hrel
          by_cases hlt : j < n
          · have HCON := Lib.hid (fun w => HRN.out j w)
            go_wp2_with (refine load_arr rfl 26 _ rfl .u8 q2 32 _ 5 Try.underlying26 Try.size26 rfl hW ?_)
            refine (HCON.out _).mono ?_
            rintro e wc ⟨rfl, hbc⟩
            have hWc := hW.kept hbc
            have hcc := hc.trans (hbc.mono hc.size)
            have hWd := hWc.setRow 32 (NX (j + 1))
            have hcd := below_setRow' hcc hq6 (arr .u8 32 (NX (j + 1)))
            have HWC := Lib.hid hWc
            clear hW hc hbc hWc hcc
            go_wp2_with (refine store_arr rfl 26 _ _ rfl .u8 q2 32 _ (NX (j + 1)) Try.size26 rfl rfl HWC.out ?_)
            go_roundw
            case rel => first | exact ⟨j + 1, by omega, by go_num, hWd, hcd⟩ | ((repeat apply Exists.intro); exact ⟨⟨j + 1, by omega, by go_num, hWd, hcd⟩, rfl⟩)
            case measure => simp [intOf] <;> omega
          · obtain rfl : n = j := by omega
            rename_i wr
            have hS8 := hS6.kept hc
            go_upto_region 14 with (fail)
            refine region_flow (n := 172) (by kernel_rfl) (by kernel_rfl) (by kernel_rfl) rfl
              (fun ii vv _ => (match ii with | 0 => vv = .int .i64 (0) | 1 | 2 | 5 | 6 => vv = .bool false | 3 | 4 => vv = .agg (arr .u8 32 (NX n)) | _ => True))
              (fun w w' => Below w.heap.size w w') (fun _ _ h => h) (fun _ _ _ _ h _ => h) ?_ ?_
            · refine Each.all ?_
              refine ⟨?_, ?_, ?_, ?_, ?_, ?_, ?_, trivial⟩
              · intro a w2 hB hF hd
                rw [if_pos (wanted_none rfl)]
                exact flow_move _ (.inl rfl) (by simp) (hF.same 8 rfl)
              · intro a w2 hB hF hd
                rw [if_pos (wanted_none rfl)]
                exact flow_val (fun h => by cases h) (Go.Bas.run_neq_int rfl (hd 0 _ rfl (waits_spec rfl)) rfl) (congrArg Value.bool (bne_self_eq_false _))
              · intro a w2 hB hF hd
                rw [if_pos (wanted_none rfl)]
                exact flow_move _ (.inl rfl) (by simp) (hd 1 _ rfl (waits_spec rfl))
              · intro a w2 hB hF hd
                refine flow_wanted (wanted_yes rfl rfl (hd 2 _ rfl (waits_spec rfl)) rfl) ?_
                exact flow_val (fun h => by cases h) (run_load_str rfl Try.underlying26 rfl Try.size26 (hF.same 7 rfl) (hS8.below hB hS8.lt)) rfl
              · intro a w2 hB hF hd
                refine flow_wanted (wanted_yes rfl rfl (hd 2 _ rfl (waits_spec rfl)) rfl) ?_
                exact flow_val (fun h => by cases h) (run_load_str rfl Try.underlying26 rfl Try.size26 (hF.same 11 rfl) (hW.below hB hW.lt)) rfl
              · intro a w2 hB hF hd
                refine flow_wanted (wanted_yes rfl rfl (hd 2 _ rfl (waits_spec rfl)) rfl) ?_
                exact flow_val (fun h => by cases h) (run_neq_arr true rfl (hd 3 _ rfl (waits_spec rfl)) (hd 4 _ rfl (waits_spec rfl)) Try.underlying26 (by kernel_rfl) (by kernel_rfl) (by kernel_rfl) (by kernel_rfl) (by kernel_rfl) sameB_self) rfl
              · intro a w2 hB hF hd
                rw [if_pos (wanted_none rfl)]
                exact flow_val (fun h => by cases h) (run_pick rfl (hd 2 _ rfl (waits_spec rfl))) ((hd 5 _ rfl (waits_spec rfl)))
            · intro a w9 hB hF hS
              have ha := puts_each rfl rfl hF [_, _, _, _, _, _, _] rfl ⟨hS 0 _ rfl, hS 1 _ rfl, hS 2 _ rfl, hS 3 _ rfl, hS 4 _ rfl, hS 5 _ rfl, hS 6 _ rfl, trivial⟩
              simp only [puts, Act.put, List.setIfInBounds_toArray, List.set_cons_succ, List.set_cons_zero] at ha
              subst ha
              clear hS hF
              have hc9 := hc.trans (hB.mono hc.size)
              clear hW hc hB hS8
              go_upto_region 16 with (fail)
              rcases (by omega : n = 0 ∨ 0 < n) with hn0 | hn0
              · skip
                refine region_flow (n := 172) (by kernel_rfl) (by kernel_rfl) (by kernel_rfl) rfl
                  (fun ii vv _ => (match ii with | 0 => vv = .int .i64 ((n : Int)) | 1 => vv = .bool true | _ => True))
                  (fun w w' => Below w.heap.size w w') (fun _ _ h => h) (fun _ _ _ _ h _ => h) ?_ ?_
                · refine Each.all ?_
                  refine ⟨?_, ?_, trivial⟩
                  · intro a w2 hB hF hd
                    rw [if_pos (wanted_none rfl)]
                    exact flow_move _ (.inl rfl) (by simp) (hF.same 1 rfl)
                  · intro a w2 hB hF hd
                    rw [if_pos (wanted_none rfl)]
                    refine flow_val (fun h => by cases h) (Go.Bas.run_eql_int rfl (hd 0 _ rfl (waits_spec rfl)) rfl) ?_
                    exact congrArg Value.bool (beq_iff_eq.2 (by omega))
                · intro a wa hB hF hS
                  have ha := puts_each rfl rfl hF [_, _] rfl ⟨hS 0 _ rfl, hS 1 _ rfl, trivial⟩
                  simp only [puts, Act.put, List.setIfInBounds_toArray, List.set_cons_succ, List.set_cons_zero] at ha
                  subst ha
                  clear hS hF
                  have hca := hc9.trans (hB.mono hc9.size)
                  clear hB hc9
                  rcases hch with ⟨_, rfl, rfl⟩ | ⟨hq, _⟩
                  · go_upto_region 17 with (fail)
                    refine region_flow (n := 172) (by kernel_rfl) (by kernel_rfl) (by kernel_rfl) rfl
                      (fun ii vv _ => (match ii with | 0 => vv = .int .i64 (2) | 1 | 2 | 5 | 6 | 7 => vv = .bool true | 3 => vv = .slice none 0 0 | 4 => vv = .int .i64 (((0 : Nat) : Int)) | _ => True))
                      (fun w w' => Below w.heap.size w w') (fun _ _ h => h) (fun _ _ _ _ h _ => h) ?_ ?_
                    · refine Each.all ?_
                      refine ⟨?_, ?_, ?_, ?_, ?_, ?_, ?_, ?_, trivial⟩
                      · intro a w2 hB hF hd
                        rw [if_pos (wanted_none rfl)]
                        exact flow_move _ (.inl rfl) (by simp) (hF.same 10 rfl)
                      · intro a w2 hB hF hd
                        rw [if_pos (wanted_none rfl)]
                        refine flow_val (fun h => by cases h) (Go.Bas.run_eql_int rfl (hd 0 _ rfl (waits_spec rfl)) rfl) ?_
                        exact rfl
                      · intro a w2 hB hF hd
                        rw [if_pos (wanted_none rfl)]
                        exact flow_move _ (.inl rfl) (by simp) (hd 1 _ rfl (waits_spec rfl))
                      · intro a w2 hB hF hd
                        refine flow_wanted (wanted_yes rfl rfl (hd 2 _ rfl (waits_spec rfl)) rfl) ?_
                        exact flow_move _ (.inl rfl) (by simp) (hF.same 9 rfl)
                      · intro a w2 hB hF hd
                        refine flow_wanted (wanted_yes rfl rfl (hd 2 _ rfl (waits_spec rfl)) rfl) ?_
                        exact flow_val (fun h => by cases h) (run_len_sl rfl (hd 3 _ rfl (waits_spec rfl)) Try.underlying60) rfl
                      · intro a w2 hB hF hd
                        refine flow_wanted (wanted_yes rfl rfl (hd 2 _ rfl (waits_spec rfl)) rfl) ?_
                        refine flow_val (fun h => by cases h) (Go.Bas.run_eql_int rfl (hd 4 _ rfl (waits_spec rfl)) rfl) ?_
                        exact rfl
                      · intro a w2 hB hF hd
                        rw [if_pos (wanted_none rfl)]
                        exact flow_val (fun h => by cases h) (run_pick rfl (hd 2 _ rfl (waits_spec rfl))) ((hd 5 _ rfl (waits_spec rfl)))
                      · intro a w2 hB hF hd
                        rw [if_pos (wanted_none rfl)]
                        exact flow_move _ (.inr rfl) (by simp) (hd 6 _ rfl (waits_spec rfl))
                    · intro a wb hB hF hS
                      have ha := puts_each rfl rfl hF [_, _, _, _, _, _, _, _] rfl ⟨hS 0 _ rfl, hS 1 _ rfl, hS 2 _ rfl, hS 3 _ rfl, hS 4 _ rfl, hS 5 _ rfl, hS 6 _ rfl, hS 7 _ rfl, trivial⟩
                      simp only [puts, Act.put, List.setIfInBounds_toArray, List.set_cons_succ, List.set_cons_zero] at ha
                      subst ha
                      clear hS hF
                      have hcb := hb9.trans ((hca.trans (hB.mono hca.size)).mono hb9.size)
                      go_wp2
                      go_ret
                      exact ⟨rfl, hcb⟩
                  · exact absurd hn0 (by omega)
              · skip
                refine region_flow (n := 172) (by kernel_rfl) (by kernel_rfl) (by kernel_rfl) rfl
                  (fun ii vv _ => (match ii with | 0 => vv = .int .i64 ((n : Int)) | 1 => vv = .bool false | _ => True))
                  (fun w w' => Below w.heap.size w w') (fun _ _ h => h) (fun _ _ _ _ h _ => h) ?_ ?_
                · refine Each.all ?_
                  refine ⟨?_, ?_, trivial⟩
                  · intro a w2 hB hF hd
                    rw [if_pos (wanted_none rfl)]
                    exact flow_move _ (.inl rfl) (by simp) (hF.same 1 rfl)
                  · intro a w2 hB hF hd
                    rw [if_pos (wanted_none rfl)]
                    refine flow_val (fun h => by cases h) (Go.Bas.run_eql_int rfl (hd 0 _ rfl (waits_spec rfl)) rfl) ?_
                    exact congrArg Value.bool (beq_eq_false_iff_ne.2 (by omega))
                · intro a wa hB hF hS
                  have ha := puts_each rfl rfl hF [_, _] rfl ⟨hS 0 _ rfl, hS 1 _ rfl, trivial⟩
                  simp only [puts, Act.put, List.setIfInBounds_toArray, List.set_cons_succ, List.set_cons_zero] at ha
                  subst ha
                  clear hS hF
                  have hca := hc9.trans (hB.mono hc9.size)
                  clear hB hc9
                  rcases hch with ⟨hq, _, _⟩ | ⟨_, rfl, G, rfl, hG, _⟩
                  · exact absurd hn0 (by omega)
                  obtain ⟨n1, hn1⟩ : ∃ n1, n = n1 + 1 := ⟨n - 1, by omega⟩
                  have hA8 := hA6.kept hca
                  have hG8 := hG.kept hca
                  have hGl := hG8.lt
                  have HC0 := Lib.hid (chn_part hG8 (i := n1) (r := 0) (by omega))
                  go_upto_region 18 with (fail)
                  refine region_flow (n := 172) (by kernel_rfl) (by kernel_rfl) (by kernel_rfl) rfl
                    (fun ii vv _ => (match ii with | 0 => vv = .int .i64 (0) | 1 | 2 | 6 | 7 | 8 | 15 | 16 => vv = .bool false | 3 | 9 => vv = .slice (some ⟨G, 0, none⟩) n n | 4 | 5 | 10 => vv = .int .i64 ((n : Int)) | 11 => vv = .int .i64 ((n1 : Int)) | 12 => vv = .pointer (some ⟨G, n1 * 32, none⟩) | 13 | 14 => vv = .agg (arr .u8 32 (NX 0)) | _ => True))
                    (fun w w' => Below w.heap.size w w') (fun _ _ h => h) (fun _ _ _ _ h _ => h) ?_ ?_
                  · refine Each.all ?_
                    refine ⟨?_, ?_, ?_, ?_, ?_, ?_, ?_, ?_, ?_, ?_, ?_, ?_, ?_, ?_, ?_, ?_, ?_, trivial⟩
                    · intro a w2 hB hF hd
                      rw [if_pos (wanted_none rfl)]
                      exact flow_move _ (.inl rfl) (by simp) (hF.same 10 rfl)
                    · intro a w2 hB hF hd
                      rw [if_pos (wanted_none rfl)]
                      exact flow_val (fun h => by cases h) (Go.Bas.run_neq_int rfl (hd 0 _ rfl (waits_spec rfl)) rfl) (congrArg Value.bool (bne_self_eq_false _))
                    · intro a w2 hB hF hd
                      rw [if_pos (wanted_none rfl)]
                      exact flow_move _ (.inl rfl) (by simp) (hd 1 _ rfl (waits_spec rfl))
                    · intro a w2 hB hF hd
                      refine flow_wanted (wanted_yes rfl rfl (hd 2 _ rfl (waits_spec rfl)) rfl) ?_
                      exact flow_move _ (.inl rfl) (by simp) (hF.same 9 rfl)
                    · intro a w2 hB hF hd
                      refine flow_wanted (wanted_yes rfl rfl (hd 2 _ rfl (waits_spec rfl)) rfl) ?_
                      exact flow_val (fun h => by cases h) (run_len_sl rfl (hd 3 _ rfl (waits_spec rfl)) Try.underlying60) rfl
                    · intro a w2 hB hF hd
                      refine flow_wanted (wanted_yes rfl rfl (hd 2 _ rfl (waits_spec rfl)) rfl) ?_
                      exact flow_move _ (.inl rfl) (by simp) (hF.same 1 rfl)
                    · intro a w2 hB hF hd
                      refine flow_wanted (wanted_yes rfl rfl (hd 2 _ rfl (waits_spec rfl)) rfl) ?_
                      exact flow_val (fun h => by cases h) (Go.Bas.run_neq_int rfl (hd 4 _ rfl (waits_spec rfl)) (hd 5 _ rfl (waits_spec rfl))) (congrArg Value.bool (bne_self_eq_false _))
                    · intro a w2 hB hF hd
                      rw [if_pos (wanted_none rfl)]
                      exact flow_val (fun h => by cases h) (run_pick rfl (hd 2 _ rfl (waits_spec rfl))) ((hd 6 _ rfl (waits_spec rfl)))
                    · intro a w2 hB hF hd
                      rw [if_pos (wanted_none rfl)]
                      exact flow_move _ (.inl rfl) (by simp) (hd 7 _ rfl (waits_spec rfl))
                    · intro a w2 hB hF hd
                      refine flow_wanted (wanted_yes rfl rfl (hd 8 _ rfl (waits_spec rfl)) rfl) ?_
                      exact flow_move _ (.inl rfl) (by simp) (hF.same 9 rfl)
                    · intro a w2 hB hF hd
                      refine flow_wanted (wanted_yes rfl rfl (hd 8 _ rfl (waits_spec rfl)) rfl) ?_
                      exact flow_move _ (.inl rfl) (by simp) (hF.same 1 rfl)
                    · intro a w2 hB hF hd
                      refine flow_wanted (wanted_yes rfl rfl (hd 8 _ rfl (waits_spec rfl)) rfl) ?_
                      exact flow_val (fun h => by cases h) (Go.Bas.run_sub rfl (hd 10 _ rfl (waits_spec rfl)) rfl) (congrArg (Value.int .i64) ((wrap_i64_id (by omega) (by omega)).trans (by omega)))
                    · intro a w2 hB hF hd
                      refine flow_wanted (wanted_yes rfl rfl (hd 8 _ rfl (waits_spec rfl)) rfl) ?_
                      exact flow_val (fun h => by cases h) (run_index_rows (i := n1) (sz := 32) rfl (hd 9 _ rfl (waits_spec rfl)) (hd 11 _ rfl (waits_spec rfl)) Try.underlying60 Try.size26 (by omega)) rfl
                    · intro a w2 hB hF hd
                      refine flow_wanted (wanted_yes rfl rfl (hd 8 _ rfl (waits_spec rfl)) rfl) ?_
                      exact flow_val (fun h => by cases h) (run_load_part rfl (hd 12 _ rfl (waits_spec rfl)) Try.underlying26 Try.size26 (fun c hc => (hB.cell (p := ⟨G, n1 * 32 + c, none⟩) hGl).trans (HC0.out c hc))) rfl
                    · intro a w2 hB hF hd
                      refine flow_wanted (wanted_yes rfl rfl (hd 8 _ rfl (waits_spec rfl)) rfl) ?_
                      exact flow_val (fun h => by cases h) (run_load_str rfl Try.underlying26 rfl Try.size26 (hF.same 3 rfl) (hA8.below hB hA8.lt)) rfl
                    · intro a w2 hB hF hd
                      refine flow_wanted (wanted_yes rfl rfl (hd 8 _ rfl (waits_spec rfl)) rfl) ?_
                      exact flow_val (fun h => by cases h) (run_neq_arr true rfl (hd 13 _ rfl (waits_spec rfl)) (hd 14 _ rfl (waits_spec rfl)) Try.underlying26 (by kernel_rfl) (by kernel_rfl) (by kernel_rfl) (by kernel_rfl) (by kernel_rfl) sameB_self) rfl
                    · intro a w2 hB hF hd
                      rw [if_pos (wanted_none rfl)]
                      exact flow_val (fun h => by cases h) (run_pick rfl (hd 8 _ rfl (waits_spec rfl))) ((hd 15 _ rfl (waits_spec rfl)))
                  · intro a wb hB hF hS
                    have ha := puts_each rfl rfl hF [_, _, _, _, _, _, _, _, _, _, _, _, _, _, _, _, _] rfl ⟨hS 0 _ rfl, hS 1 _ rfl, hS 2 _ rfl, hS 3 _ rfl, hS 4 _ rfl, hS 5 _ rfl, hS 6 _ rfl, hS 7 _ rfl, hS 8 _ rfl, hS 9 _ rfl, hS 10 _ rfl, hS 11 _ rfl, hS 12 _ rfl, hS 13 _ rfl, hS 14 _ rfl, hS 15 _ rfl, hS 16 _ rfl, trivial⟩
                    simp only [puts, Act.put, List.setIfInBounds_toArray, List.set_cons_succ, List.set_cons_zero] at ha
                    subst ha
                    clear hS hF
                    have hcb := hca.trans (hB.mono hca.size)
                    have HN1 := Lib.hid hn1
                    clear hB hca hA8 hG8 hGl HC0 hn1
                    go_wp2
                    go_loopw [12] (fun u wr => ∃ i : Nat, i < n ∧ u = .int .i64 (i : Int) ∧ Below w6.heap.size w6 wr) (fun u _ => (intOf u).toNat)
                    case atStart => exact ⟨n1, by have := HN1.out; omega, congrArg (Value.int .i64) (by have := HN1.out; omega), hcb⟩
                    case round =>
                      clear hcb
                      obtain ⟨i, hi, rfl, hc⟩ := hrel
                      rename_i wi
                      by_cases hlt : 0 < i
                      · obtain ⟨i1, hi1⟩ : ∃ i1, i = i1 + 1 := ⟨i - 1, by omega⟩
                        obtain ⟨r, hr⟩ : ∃ r, i + r + 1 = n := ⟨n - 1 - i, by omega⟩
                        have hG9 := hG.kept hc
                        have hGl := hG9.lt
                        have HCA := Lib.hid (chn_part hG9 (i := i1) (r := r + 1) (by omega))
                        have HCB := Lib.hid (chn_part hG9 (i := i) (r := r) (by omega))
                        go_upto_region 23 with (fail)
                        refine region_flow (n := 172) (by kernel_rfl) (by kernel_rfl) (by kernel_rfl) rfl
                          (fun ii vv _ => (match ii with | 0 | 5 => vv = .slice (some ⟨G, 0, none⟩) n n | 1 | 6 => vv = .int .i64 ((i : Int)) | 2 => vv = .int .i64 ((i1 : Int)) | 3 => vv = .pointer (some ⟨G, i1 * 32, none⟩) | 4 | 9 => vv = .agg (arr .u8 32 (NX (r + 1))) | 7 => vv = .pointer (some ⟨G, i * 32, none⟩) | 8 => vv = .agg (arr .u8 32 (NX r)) | 10 => vv = .bool false | _ => True))
                          (fun w w' => Below w.heap.size w w') (fun _ _ h => h) (fun _ _ _ _ h _ => h) ?_ ?_
                        · refine Each.all ?_
                          refine ⟨?_, ?_, ?_, ?_, ?_, ?_, ?_, ?_, ?_, ?_, ?_, trivial⟩
                          · intro a w2 hB hF hd
                            rw [if_pos (wanted_none rfl)]
                            exact flow_move _ (.inl rfl) (by simp) (hF.same 9 rfl)
                          · intro a w2 hB hF hd
                            rw [if_pos (wanted_none rfl)]
                            exact flow_move _ (.inl rfl) (by simp) (hF.same 12 rfl)
                          · intro a w2 hB hF hd
                            rw [if_pos (wanted_none rfl)]
                            exact flow_val (fun h => by cases h) (Go.Bas.run_sub rfl (hd 1 _ rfl (waits_spec rfl)) rfl) (congrArg (Value.int .i64) ((wrap_i64_id (by omega) (by omega)).trans (by omega)))
                          · intro a w2 hB hF hd
                            rw [if_pos (wanted_none rfl)]
                            exact flow_val (fun h => by cases h) (run_index_rows (i := i1) (sz := 32) rfl (hd 0 _ rfl (waits_spec rfl)) (hd 2 _ rfl (waits_spec rfl)) Try.underlying60 Try.size26 (by omega)) rfl
                          · intro a w2 hB hF hd
                            rw [if_pos (wanted_none rfl)]
                            exact flow_val (fun h => by cases h) (run_load_part rfl (hd 3 _ rfl (waits_spec rfl)) Try.underlying26 Try.size26 (fun c hc => (hB.cell (p := ⟨G, i1 * 32 + c, none⟩) hGl).trans (HCA.out c hc))) rfl
                          · intro a w2 hB hF hd
                            rw [if_pos (wanted_none rfl)]
                            exact flow_move _ (.inl rfl) (by simp) (hF.same 9 rfl)
                          · intro a w2 hB hF hd
                            rw [if_pos (wanted_none rfl)]
                            exact flow_move _ (.inl rfl) (by simp) (hF.same 12 rfl)
                          · intro a w2 hB hF hd
                            rw [if_pos (wanted_none rfl)]
                            exact flow_val (fun h => by cases h) (run_index_rows (i := i) (sz := 32) rfl (hd 5 _ rfl (waits_spec rfl)) (hd 6 _ rfl (waits_spec rfl)) Try.underlying60 Try.size26 (by omega)) rfl
                          · intro a w2 hB hF hd
                            rw [if_pos (wanted_none rfl)]
                            exact flow_val (fun h => by cases h) (run_load_part rfl (hd 7 _ rfl (waits_spec rfl)) Try.underlying26 Try.size26 (fun c hc => (hB.cell (p := ⟨G, i * 32 + c, none⟩) hGl).trans (HCB.out c hc))) rfl
                          · intro a w2 hB hF hd
                            rw [if_pos (wanted_none rfl)]
                            refine flow_call _ _ _ rfl Try.call34 _ (args1 (hd 8 _ rfl (waits_spec rfl))) (by simp) ((HRN.out r _).mono ?_)
                            rintro e w3 ⟨rfl, hb⟩; exact ⟨_, rfl, rfl, hb⟩
                          · intro a w2 hB hF hd
                            rw [if_pos (wanted_none rfl)]
                            exact flow_val (fun h => by cases h) (run_neq_arr true rfl (hd 4 _ rfl (waits_spec rfl)) (hd 9 _ rfl (waits_spec rfl)) Try.underlying26 (by kernel_rfl) (by kernel_rfl) (by kernel_rfl) (by kernel_rfl) (by kernel_rfl) sameB_self) rfl
                        · intro a wj hB hF hS
                          have ha := puts_each rfl rfl hF [_, _, _, _, _, _, _, _, _, _, _] rfl ⟨hS 0 _ rfl, hS 1 _ rfl, hS 2 _ rfl, hS 3 _ rfl, hS 4 _ rfl, hS 5 _ rfl, hS 6 _ rfl, hS 7 _ rfl, hS 8 _ rfl, hS 9 _ rfl, hS 10 _ rfl, trivial⟩
                          simp only [puts, Act.put, List.setIfInBounds_toArray, List.set_cons_succ, List.set_cons_zero] at ha
                          subst ha
                          clear hS hF
                          have hcj := hc.trans (hB.mono hc.size)
                          clear hB hc hG9 hGl HCA HCB
                          go_wp2
                          go_roundw
                          case rel => first | exact ⟨i1, by omega, congrArg (Value.int .i64) (by omega), hcj⟩ | ((repeat apply Exists.intro); exact ⟨⟨i1, by omega, congrArg (Value.int .i64) (by omega), hcj⟩, rfl⟩)
                          case measure => simp [intOf] <;> omega
                      · obtain rfl : 0 = i := by omega
                        go_upto_region 25 with (fail)
                        rcases (by omega : k < 0 ∨ (n : Int) < k ∨ (0 ≤ k ∧ k ≤ n)) with hk | hk | hk
                        · skip
                          refine region_flow (n := 172) (by kernel_rfl) (by kernel_rfl) (by kernel_rfl) rfl
                            (fun ii vv _ => (match ii with | 0 => vv = .int .i64 (k) | 1 | 2 | 6 => vv = .bool true | 3 | 4 | 5 => vv = undef | _ => True))
                            (fun w w' => Below w.heap.size w w') (fun _ _ h => h) (fun _ _ _ _ h _ => h) ?_ ?_
                          · refine Each.all ?_
                            refine ⟨?_, ?_, ?_, ?_, ?_, ?_, ?_, trivial⟩
                            · intro a w2 hB hF hd
                              rw [if_pos (wanted_none rfl)]
                              exact flow_move _ (.inl rfl) (by simp) (hF.same 2 rfl)
                            · intro a w2 hB hF hd
                              rw [if_pos (wanted_none rfl)]
                              exact flow_val (fun h => by cases h) (Go.Bas.run_lss rfl (hd 0 _ rfl (waits_spec rfl)) rfl) (congrArg Value.bool (decide_eq_true (by omega)))
                            · intro a w2 hB hF hd
                              rw [if_pos (wanted_none rfl)]
                              exact flow_move _ (.inl rfl) (by simp) (hd 1 _ rfl (waits_spec rfl))
                            · intro a w2 hB hF hd
                              rw [if_neg (by rw [wanted_some rfl rfl (hd 2 _ rfl (waits_spec rfl))]; decide)]
                              exact rfl
                            · intro a w2 hB hF hd
                              rw [if_neg (by rw [wanted_some rfl rfl (hd 2 _ rfl (waits_spec rfl))]; decide)]
                              exact rfl
                            · intro a w2 hB hF hd
                              rw [if_neg (by rw [wanted_some rfl rfl (hd 2 _ rfl (waits_spec rfl))]; decide)]
                              exact rfl
                            · intro a w2 hB hF hd
                              rw [if_pos (wanted_none rfl)]
                              exact flow_val (fun h => by cases h) (run_pick rfl (hd 2 _ rfl (waits_spec rfl))) (rfl)
                          · intro a wb hB hF hS
                            have ha := puts_each rfl rfl hF [_, _, _, _, _, _, _] rfl ⟨hS 0 _ rfl, hS 1 _ rfl, hS 2 _ rfl, hS 3 _ rfl, hS 4 _ rfl, hS 5 _ rfl, hS 6 _ rfl, trivial⟩
                            simp only [puts, Act.put, List.setIfInBounds_toArray, List.set_cons_succ, List.set_cons_zero] at ha
                            subst ha
                            clear hS hF
                            have hcb := hc.trans (hB.mono hc.size)
                            clear hB hc
                            go_wp2
                            go_ret
                            exact ⟨rfl, hb9.trans (hcb.mono hb9.size)⟩
                        · skip
                          refine region_flow (n := 172) (by kernel_rfl) (by kernel_rfl) (by kernel_rfl) rfl
                            (fun ii vv _ => (match ii with | 0 | 3 => vv = .int .i64 (k) | 1 | 2 => vv = .bool false | 4 => vv = .int .i64 ((n : Int)) | 5 | 6 => vv = .bool true | _ => True))
                            (fun w w' => Below w.heap.size w w') (fun _ _ h => h) (fun _ _ _ _ h _ => h) ?_ ?_
                          · refine Each.all ?_
                            refine ⟨?_, ?_, ?_, ?_, ?_, ?_, ?_, trivial⟩
                            · intro a w2 hB hF hd
                              rw [if_pos (wanted_none rfl)]
                              exact flow_move _ (.inl rfl) (by simp) (hF.same 2 rfl)
                            · intro a w2 hB hF hd
                              rw [if_pos (wanted_none rfl)]
                              exact flow_val (fun h => by cases h) (Go.Bas.run_lss rfl (hd 0 _ rfl (waits_spec rfl)) rfl) (congrArg Value.bool (decide_eq_false (by omega)))
                            · intro a w2 hB hF hd
                              rw [if_pos (wanted_none rfl)]
                              exact flow_move _ (.inl rfl) (by simp) (hd 1 _ rfl (waits_spec rfl))
                            · intro a w2 hB hF hd
                              refine flow_wanted (wanted_yes rfl rfl (hd 2 _ rfl (waits_spec rfl)) rfl) ?_
                              exact flow_move _ (.inl rfl) (by simp) (hF.same 2 rfl)
                            · intro a w2 hB hF hd
                              refine flow_wanted (wanted_yes rfl rfl (hd 2 _ rfl (waits_spec rfl)) rfl) ?_
                              exact flow_move _ (.inl rfl) (by simp) (hF.same 1 rfl)
                            · intro a w2 hB hF hd
                              refine flow_wanted (wanted_yes rfl rfl (hd 2 _ rfl (waits_spec rfl)) rfl) ?_
                              exact flow_val (fun h => by cases h) (Go.Bas.run_gtr rfl (hd 3 _ rfl (waits_spec rfl)) (hd 4 _ rfl (waits_spec rfl))) (congrArg Value.bool (decide_eq_true (by omega)))
                            · intro a w2 hB hF hd
                              rw [if_pos (wanted_none rfl)]
                              exact flow_val (fun h => by cases h) (run_pick rfl (hd 2 _ rfl (waits_spec rfl))) ((hd 5 _ rfl (waits_spec rfl)))
                          · intro a wb hB hF hS
                            have ha := puts_each rfl rfl hF [_, _, _, _, _, _, _] rfl ⟨hS 0 _ rfl, hS 1 _ rfl, hS 2 _ rfl, hS 3 _ rfl, hS 4 _ rfl, hS 5 _ rfl, hS 6 _ rfl, trivial⟩
                            simp only [puts, Act.put, List.setIfInBounds_toArray, List.set_cons_succ, List.set_cons_zero] at ha
                            subst ha
                            clear hS hF
                            have hcb := hc.trans (hB.mono hc.size)
                            clear hB hc
                            go_wp2
                            go_ret
                            exact ⟨rfl, hb9.trans (hcb.mono hb9.size)⟩
                        · skip
                          refine region_flow (n := 172) (by kernel_rfl) (by kernel_rfl) (by kernel_rfl) rfl
                            (fun ii vv _ => (match ii with | 0 | 3 => vv = .int .i64 (k) | 1 | 2 | 5 | 6 => vv = .bool false | 4 => vv = .int .i64 ((n : Int)) | _ => True))
                            (fun w w' => Below w.heap.size w w') (fun _ _ h => h) (fun _ _ _ _ h _ => h) ?_ ?_
                          · refine Each.all ?_
                            refine ⟨?_, ?_, ?_, ?_, ?_, ?_, ?_, trivial⟩
                            · intro a w2 hB hF hd
                              rw [if_pos (wanted_none rfl)]
                              exact flow_move _ (.inl rfl) (by simp) (hF.same 2 rfl)
                            · intro a w2 hB hF hd
                              rw [if_pos (wanted_none rfl)]
                              exact flow_val (fun h => by cases h) (Go.Bas.run_lss rfl (hd 0 _ rfl (waits_spec rfl)) rfl) (congrArg Value.bool (decide_eq_false (by omega)))
                            · intro a w2 hB hF hd
                              rw [if_pos (wanted_none rfl)]
                              exact flow_move _ (.inl rfl) (by simp) (hd 1 _ rfl (waits_spec rfl))
                            · intro a w2 hB hF hd
                              refine flow_wanted (wanted_yes rfl rfl (hd 2 _ rfl (waits_spec rfl)) rfl) ?_
                              exact flow_move _ (.inl rfl) (by simp) (hF.same 2 rfl)
                            · intro a w2 hB hF hd
                              refine flow_wanted (wanted_yes rfl rfl (hd 2 _ rfl (waits_spec rfl)) rfl) ?_
                              exact flow_move _ (.inl rfl) (by simp) (hF.same 1 rfl)
                            · intro a w2 hB hF hd
                              refine flow_wanted (wanted_yes rfl rfl (hd 2 _ rfl (waits_spec rfl)) rfl) ?_
                              exact flow_val (fun h => by cases h) (Go.Bas.run_gtr rfl (hd 3 _ rfl (waits_spec rfl)) (hd 4 _ rfl (waits_spec rfl))) (congrArg Value.bool (decide_eq_false (by omega)))
                            · intro a w2 hB hF hd
                              rw [if_pos (wanted_none rfl)]
                              exact flow_val (fun h => by cases h) (run_pick rfl (hd 2 _ rfl (waits_spec rfl))) ((hd 5 _ rfl (waits_spec rfl)))
                          · intro a wb hB hF hS
                            have ha := puts_each rfl rfl hF [_, _, _, _, _, _, _] rfl ⟨hS 0 _ rfl, hS 1 _ rfl, hS 2 _ rfl, hS 3 _ rfl, hS 4 _ rfl, hS 5 _ rfl, hS 6 _ rfl, trivial⟩
                            simp only [puts, Act.put, List.setIfInBounds_toArray, List.set_cons_succ, List.set_cons_zero] at ha
                            subst ha
                            clear hS hF
                            have hcb := hc.trans (hB.mono hc.size)
                            clear hB hc
                            obtain ⟨kk, hkk⟩ := Int.eq_ofNat_of_zero_le hk.1
                            have HK2 : Hid (∀ w, Calls Try.prog 35 #[.agg (arr .u8 32 (NX 0)), .int .i64 k] w fun e w' => e = .returned (.tuple #[.agg (arr .u8 32 (NX kk)), .int .i64 0]) ∧ Below w.heap.size w w') := fun w => by rw [hkk]; exact HB3.out 0 kk kk w (by omega) (by omega)
                            have HK3 : Hid (∀ w, Calls Try.prog 35 #[.agg (arr .u8 32 (NX kk)), .int .i64 ((n : Int) - k)] w fun e w' => e = .returned (.tuple #[.agg (arr .u8 32 (NX n)), .int .i64 0]) ∧ Below w.heap.size w w') := fun w => by
                              rw [show (n : Int) - k = ((n - kk : Nat) : Int) by omega]; exact HB3.out kk (n - kk) n w (by omega) (by omega)
                            have HKK := Lib.hid hkk
                            clear hkk
                            have hA8 := hA6.kept hcb
                            go_wp2_with (refine load_arr rfl 26 _ rfl .u8 w.heap.size 32 (NX 0) 5 Try.underlying26 Try.size26 rfl hA8 ?_)
                            refine (HK2.out _).mono ?_
                            rintro e wc ⟨rfl, hbc⟩
                            have hcc := hcb.trans (hbc.mono hcb.size)
                            clear hcb hbc hA8
                            go_upto_region 28 with (refine store_arr rfl 26 _ _ rfl .u8 wc.heap.size 32 (fun _ => 0) (NX kk) Try.size26 rfl rfl (Arr.newAt rfl (by rfl)) ?_)
                            refine wp_world (fun wd => Arr .u8 wd wc.heap.size 32 (NX kk) ∧ Below w6.heap.size w6 wd) ⟨(Arr.newAt rfl (by rfl) : Arr .u8 _ _ 32 (fun _ => 0)).setRow _ _, below_setRow' (hcc.alloc hcc.size _) hcc.size _⟩ ?_
                            rintro wd ⟨hX, hcd⟩
                            obtain ⟨q3, hq3⟩ : ∃ q3, q3 = wc.heap.size := ⟨_, rfl⟩
                            rw [← hq3] at hX ⊢
                            clear hq3 hcc
                            try simp only [Act.put, List.setIfInBounds_toArray, List.set_cons_succ, List.set_cons_zero]
                            go_wp2_with (refine load_arr rfl 26 _ rfl .u8 q3 32 (NX kk) 5 Try.underlying26 Try.size26 rfl hX ?_)
                            refine (HK3.out _).mono ?_
                            rintro e we ⟨rfl, hbe⟩
                            have hce := hcd.trans (hbe.mono hcd.size)
                            have hXe := hX.kept hbe
                            have hqe := hXe.lt
                            clear hcd hX hbe
                            go_upto_region 29 with (refine store_arr rfl 26 _ _ rfl .u8 we.heap.size 32 (fun _ => 0) (NX n) Try.size26 rfl rfl (Arr.newAt rfl (by rfl)) ?_)
                            refine wp_world (fun wf => Arr .u8 wf we.heap.size 32 (NX n) ∧ Arr .u8 wf q3 32 (NX kk) ∧ Below w6.heap.size w6 wf) ⟨(Arr.newAt rfl (by rfl) : Arr .u8 _ _ 32 (fun _ => 0)).setRow _ _, Arr.setRowOther (Arr.alloc hXe _) _ (by omega) _, below_setRow' (hce.alloc hce.size _) hce.size _⟩ ?_
                            rintro wf ⟨hY, hXf, hcf⟩
                            obtain ⟨q4, hq4⟩ : ∃ q4, q4 = we.heap.size := ⟨_, rfl⟩
                            rw [← hq4] at hY ⊢
                            clear hq4 hce hXe hqe
                            try simp only [Act.put, List.setIfInBounds_toArray, List.set_cons_succ, List.set_cons_zero]
                            have hSf := hS6.kept hcf
                            rcases (by omega : k = n ∨ k < n) with hkn | hkn
                            · skip
                              refine region_flow (n := 172) (by kernel_rfl) (by kernel_rfl) (by kernel_rfl) rfl
                                (fun ii vv _ => (match ii with | 0 | 3 => vv = .int .i64 (0) | 1 | 2 | 4 | 5 | 6 | 9 | 10 | 11 | 14 | 15 | 25 | 26 | 27 => vv = .bool true | 7 | 8 => vv = .agg (arr .u8 32 (NX n)) | 12 => vv = .int .i64 (k) | 13 => vv = .int .i64 ((n : Int)) | 16 | 17 | 18 | 19 | 20 | 21 | 22 | 23 | 24 => vv = undef | _ => True))
                                (fun w w' => Below w.heap.size w w') (fun _ _ h => h) (fun _ _ _ _ h _ => h) ?_ ?_
                              · refine Each.all ?_
                                refine ⟨?_, ?_, ?_, ?_, ?_, ?_, ?_, ?_, ?_, ?_, ?_, ?_, ?_, ?_, ?_, ?_, ?_, ?_, ?_, ?_, ?_, ?_, ?_, ?_, ?_, ?_, ?_, ?_, trivial⟩
                                · intro a w2 hB hF hd
                                  rw [if_pos (wanted_none rfl)]
                                  exact flow_move _ (.inl rfl) (by simp) (hF.same 14 rfl)
                                · intro a w2 hB hF hd
                                  rw [if_pos (wanted_none rfl)]
                                  refine flow_val (fun h => by cases h) (Go.Bas.run_eql_int rfl (hd 0 _ rfl (waits_spec rfl)) rfl) ?_
                                  exact rfl
                                · intro a w2 hB hF hd
                                  rw [if_pos (wanted_none rfl)]
                                  exact flow_move _ (.inl rfl) (by simp) (hd 1 _ rfl (waits_spec rfl))
                                · intro a w2 hB hF hd
                                  refine flow_wanted (wanted_yes rfl rfl (hd 2 _ rfl (waits_spec rfl)) rfl) ?_
                                  exact flow_move _ (.inl rfl) (by simp) (hF.same 16 rfl)
                                · intro a w2 hB hF hd
                                  refine flow_wanted (wanted_yes rfl rfl (hd 2 _ rfl (waits_spec rfl)) rfl) ?_
                                  refine flow_val (fun h => by cases h) (Go.Bas.run_eql_int rfl (hd 3 _ rfl (waits_spec rfl)) rfl) ?_
                                  exact rfl
                                · intro a w2 hB hF hd
                                  rw [if_pos (wanted_none rfl)]
                                  exact flow_val (fun h => by cases h) (run_pick rfl (hd 2 _ rfl (waits_spec rfl))) ((hd 4 _ rfl (waits_spec rfl)))
                                · intro a w2 hB hF hd
                                  rw [if_pos (wanted_none rfl)]
                                  exact flow_move _ (.inl rfl) (by simp) (hd 5 _ rfl (waits_spec rfl))
                                · intro a w2 hB hF hd
                                  refine flow_wanted (wanted_yes rfl rfl (hd 6 _ rfl (waits_spec rfl)) rfl) ?_
                                  exact flow_val (fun h => by cases h) (run_load_str rfl Try.underlying26 rfl Try.size26 (hF.same 15 rfl) (hY.below hB hY.lt)) rfl
                                · intro a w2 hB hF hd
                                  refine flow_wanted (wanted_yes rfl rfl (hd 6 _ rfl (waits_spec rfl)) rfl) ?_
                                  exact flow_val (fun h => by cases h) (run_load_str rfl Try.underlying26 rfl Try.size26 (hF.same 7 rfl) (hSf.below hB hSf.lt)) rfl
                                · intro a w2 hB hF hd
                                  refine flow_wanted (wanted_yes rfl rfl (hd 6 _ rfl (waits_spec rfl)) rfl) ?_
                                  exact flow_val (fun h => by cases h) (run_eql_arr true rfl (hd 7 _ rfl (waits_spec rfl)) (hd 8 _ rfl (waits_spec rfl)) Try.underlying26 (by kernel_rfl) (by kernel_rfl) (by kernel_rfl) (by kernel_rfl) (by kernel_rfl) sameB_self) rfl
                                · intro a w2 hB hF hd
                                  rw [if_pos (wanted_none rfl)]
                                  exact flow_val (fun h => by cases h) (run_pick rfl (hd 6 _ rfl (waits_spec rfl))) ((hd 9 _ rfl (waits_spec rfl)))
                                · intro a w2 hB hF hd
                                  rw [if_pos (wanted_none rfl)]
                                  exact flow_move _ (.inl rfl) (by simp) (hd 10 _ rfl (waits_spec rfl))
                                · intro a w2 hB hF hd
                                  refine flow_wanted (wanted_yes rfl rfl (hd 11 _ rfl (waits_spec rfl)) rfl) ?_
                                  exact flow_move _ (.inl rfl) (by simp) (hF.same 2 rfl)
                                · intro a w2 hB hF hd
                                  refine flow_wanted (wanted_yes rfl rfl (hd 11 _ rfl (waits_spec rfl)) rfl) ?_
                                  exact flow_move _ (.inl rfl) (by simp) (hF.same 1 rfl)
                                · intro a w2 hB hF hd
                                  refine flow_wanted (wanted_yes rfl rfl (hd 11 _ rfl (waits_spec rfl)) rfl) ?_
                                  refine flow_val (fun h => by cases h) (Go.Bas.run_eql_int rfl (hd 12 _ rfl (waits_spec rfl)) (hd 13 _ rfl (waits_spec rfl))) ?_
                                  exact congrArg Value.bool (beq_iff_eq.2 hkn)
                                · intro a w2 hB hF hd
                                  refine flow_wanted (wanted_yes rfl rfl (hd 11 _ rfl (waits_spec rfl)) rfl) ?_
                                  exact flow_move _ (.inl rfl) (by simp) (hd 14 _ rfl (waits_spec rfl))
                                · intro a w2 hB hF hd
                                  rw [if_neg (by rw [wanted_some rfl rfl (hd 15 _ rfl (waits_spec rfl))]; decide)]
                                  exact rfl
                                · intro a w2 hB hF hd
                                  rw [if_neg (by rw [wanted_some rfl rfl (hd 15 _ rfl (waits_spec rfl))]; decide)]
                                  exact rfl
                                · intro a w2 hB hF hd
                                  rw [if_neg (by rw [wanted_some rfl rfl (hd 15 _ rfl (waits_spec rfl))]; decide)]
                                  exact rfl
                                · intro a w2 hB hF hd
                                  rw [if_neg (by rw [wanted_some rfl rfl (hd 15 _ rfl (waits_spec rfl))]; decide)]
                                  exact rfl
                                · intro a w2 hB hF hd
                                  rw [if_neg (by rw [wanted_some rfl rfl (hd 15 _ rfl (waits_spec rfl))]; decide)]
                                  exact rfl
                                · intro a w2 hB hF hd
                                  rw [if_neg (by rw [wanted_some rfl rfl (hd 15 _ rfl (waits_spec rfl))]; decide)]
                                  exact rfl
                                · intro a w2 hB hF hd
                                  rw [if_neg (by rw [wanted_some rfl rfl (hd 15 _ rfl (waits_spec rfl))]; decide)]
                                  exact rfl
                                · intro a w2 hB hF hd
                                  rw [if_neg (by rw [wanted_some rfl rfl (hd 15 _ rfl (waits_spec rfl))]; decide)]
                                  exact rfl
                                · intro a w2 hB hF hd
                                  rw [if_neg (by rw [wanted_some rfl rfl (hd 15 _ rfl (waits_spec rfl))]; decide)]
                                  exact rfl
                                · intro a w2 hB hF hd
                                  refine flow_wanted (wanted_yes rfl rfl (hd 11 _ rfl (waits_spec rfl)) rfl) ?_
                                  exact flow_val (fun h => by cases h) (run_pick rfl (hd 15 _ rfl (waits_spec rfl))) (rfl)
                                · intro a w2 hB hF hd
                                  rw [if_pos (wanted_none rfl)]
                                  exact flow_val (fun h => by cases h) (run_pick rfl (hd 11 _ rfl (waits_spec rfl))) ((hd 25 _ rfl (waits_spec rfl)))
                                · intro a w2 hB hF hd
                                  rw [if_pos (wanted_none rfl)]
                                  exact flow_move _ (.inr rfl) (by simp) (hd 26 _ rfl (waits_spec rfl))
                              · intro a wg hB hF hS
                                have ha := puts_each rfl rfl hF [_, _, _, _, _, _, _, _, _, _, _, _, _, _, _, _, _, _, _, _, _, _, _, _, _, _, _, _] rfl ⟨hS 0 _ rfl, hS 1 _ rfl, hS 2 _ rfl, hS 3 _ rfl, hS 4 _ rfl, hS 5 _ rfl, hS 6 _ rfl, hS 7 _ rfl, hS 8 _ rfl, hS 9 _ rfl, hS 10 _ rfl, hS 11 _ rfl, hS 12 _ rfl, hS 13 _ rfl, hS 14 _ rfl, hS 15 _ rfl, hS 16 _ rfl, hS 17 _ rfl, hS 18 _ rfl, hS 19 _ rfl, hS 20 _ rfl, hS 21 _ rfl, hS 22 _ rfl, hS 23 _ rfl, hS 24 _ rfl, hS 25 _ rfl, hS 26 _ rfl, hS 27 _ rfl, trivial⟩
                                simp only [puts, Act.put, List.setIfInBounds_toArray, List.set_cons_succ, List.set_cons_zero] at ha
                                subst ha
                                clear hS hF
                                have hcg := hcf.trans (hB.mono hcf.size)
                                go_wp2
                                go_ret
                                exact ⟨rfl, hb9.trans (hcg.mono hb9.size)⟩
                            · obtain ⟨i, hi⟩ : ∃ i, i + kk + 1 = n := ⟨n - kk - 1, by have := HKK.out; omega⟩
                              have hik : (n : Int) - 1 - k = (i : Int) := by have := HKK.out; omega
                              have hG8 := hG.kept hcf
                              have hGl := hG8.lt
                              have HC0 := Lib.hid (chn_part hG8 (i := i) (r := kk) (by omega))
                              refine region_flow (n := 172) (by kernel_rfl) (by kernel_rfl) (by kernel_rfl) rfl
                                (fun ii vv _ => (match ii with | 0 | 3 => vv = .int .i64 (0) | 1 | 2 | 4 | 5 | 6 | 9 | 10 | 11 | 24 | 25 | 26 | 27 => vv = .bool true | 7 | 8 => vv = .agg (arr .u8 32 (NX n)) | 12 | 19 => vv = .int .i64 (k) | 13 | 17 => vv = .int .i64 ((n : Int)) | 14 | 15 => vv = .bool false | 16 => vv = .slice (some ⟨G, 0, none⟩) n n | 18 => vv = .int .i64 ((n : Int) - 1) | 20 => vv = .int .i64 ((i : Int)) | 21 => vv = .pointer (some ⟨G, i * 32, none⟩) | 22 | 23 => vv = .agg (arr .u8 32 (NX kk)) | _ => True))
                                (fun w w' => Below w.heap.size w w') (fun _ _ h => h) (fun _ _ _ _ h _ => h) ?_ ?_
                              · refine Each.all ?_
                                refine ⟨?_, ?_, ?_, ?_, ?_, ?_, ?_, ?_, ?_, ?_, ?_, ?_, ?_, ?_, ?_, ?_, ?_, ?_, ?_, ?_, ?_, ?_, ?_, ?_, ?_, ?_, ?_, ?_, trivial⟩
                                · intro a w2 hB hF hd
                                  rw [if_pos (wanted_none rfl)]
                                  exact flow_move _ (.inl rfl) (by simp) (hF.same 14 rfl)
                                · intro a w2 hB hF hd
                                  rw [if_pos (wanted_none rfl)]
                                  refine flow_val (fun h => by cases h) (Go.Bas.run_eql_int rfl (hd 0 _ rfl (waits_spec rfl)) rfl) ?_
                                  exact rfl
                                · intro a w2 hB hF hd
                                  rw [if_pos (wanted_none rfl)]
                                  exact flow_move _ (.inl rfl) (by simp) (hd 1 _ rfl (waits_spec rfl))
                                · intro a w2 hB hF hd
                                  refine flow_wanted (wanted_yes rfl rfl (hd 2 _ rfl (waits_spec rfl)) rfl) ?_
                                  exact flow_move _ (.inl rfl) (by simp) (hF.same 16 rfl)
                                · intro a w2 hB hF hd
                                  refine flow_wanted (wanted_yes rfl rfl (hd 2 _ rfl (waits_spec rfl)) rfl) ?_
                                  refine flow_val (fun h => by cases h) (Go.Bas.run_eql_int rfl (hd 3 _ rfl (waits_spec rfl)) rfl) ?_
                                  exact rfl
                                · intro a w2 hB hF hd
                                  rw [if_pos (wanted_none rfl)]
                                  exact flow_val (fun h => by cases h) (run_pick rfl (hd 2 _ rfl (waits_spec rfl))) ((hd 4 _ rfl (waits_spec rfl)))
                                · intro a w2 hB hF hd
                                  rw [if_pos (wanted_none rfl)]
                                  exact flow_move _ (.inl rfl) (by simp) (hd 5 _ rfl (waits_spec rfl))
                                · intro a w2 hB hF hd
                                  refine flow_wanted (wanted_yes rfl rfl (hd 6 _ rfl (waits_spec rfl)) rfl) ?_
                                  exact flow_val (fun h => by cases h) (run_load_str rfl Try.underlying26 rfl Try.size26 (hF.same 15 rfl) (hY.below hB hY.lt)) rfl
                                · intro a w2 hB hF hd
                                  refine flow_wanted (wanted_yes rfl rfl (hd 6 _ rfl (waits_spec rfl)) rfl) ?_
                                  exact flow_val (fun h => by cases h) (run_load_str rfl Try.underlying26 rfl Try.size26 (hF.same 7 rfl) (hSf.below hB hSf.lt)) rfl
                                · intro a w2 hB hF hd
                                  refine flow_wanted (wanted_yes rfl rfl (hd 6 _ rfl (waits_spec rfl)) rfl) ?_
                                  exact flow_val (fun h => by cases h) (run_eql_arr true rfl (hd 7 _ rfl (waits_spec rfl)) (hd 8 _ rfl (waits_spec rfl)) Try.underlying26 (by kernel_rfl) (by kernel_rfl) (by kernel_rfl) (by kernel_rfl) (by kernel_rfl) sameB_self) rfl
                                · intro a w2 hB hF hd
                                  rw [if_pos (wanted_none rfl)]
                                  exact flow_val (fun h => by cases h) (run_pick rfl (hd 6 _ rfl (waits_spec rfl))) ((hd 9 _ rfl (waits_spec rfl)))
                                · intro a w2 hB hF hd
                                  rw [if_pos (wanted_none rfl)]
                                  exact flow_move _ (.inl rfl) (by simp) (hd 10 _ rfl (waits_spec rfl))
                                · intro a w2 hB hF hd
                                  refine flow_wanted (wanted_yes rfl rfl (hd 11 _ rfl (waits_spec rfl)) rfl) ?_
                                  exact flow_move _ (.inl rfl) (by simp) (hF.same 2 rfl)
                                · intro a w2 hB hF hd
                                  refine flow_wanted (wanted_yes rfl rfl (hd 11 _ rfl (waits_spec rfl)) rfl) ?_
                                  exact flow_move _ (.inl rfl) (by simp) (hF.same 1 rfl)
                                · intro a w2 hB hF hd
                                  refine flow_wanted (wanted_yes rfl rfl (hd 11 _ rfl (waits_spec rfl)) rfl) ?_
                                  refine flow_val (fun h => by cases h) (Go.Bas.run_eql_int rfl (hd 12 _ rfl (waits_spec rfl)) (hd 13 _ rfl (waits_spec rfl))) ?_
                                  exact congrArg Value.bool (beq_eq_false_iff_ne.2 (by omega))
                                · intro a w2 hB hF hd
                                  refine flow_wanted (wanted_yes rfl rfl (hd 11 _ rfl (waits_spec rfl)) rfl) ?_
                                  exact flow_move _ (.inl rfl) (by simp) (hd 14 _ rfl (waits_spec rfl))
                                · intro a w2 hB hF hd
                                  refine flow_wanted (wanted_yes rfl rfl (hd 15 _ rfl (waits_spec rfl)) rfl) ?_
                                  exact flow_move _ (.inl rfl) (by simp) (hF.same 9 rfl)
                                · intro a w2 hB hF hd
                                  refine flow_wanted (wanted_yes rfl rfl (hd 15 _ rfl (waits_spec rfl)) rfl) ?_
                                  exact flow_move _ (.inl rfl) (by simp) (hF.same 1 rfl)
                                · intro a w2 hB hF hd
                                  refine flow_wanted (wanted_yes rfl rfl (hd 15 _ rfl (waits_spec rfl)) rfl) ?_
                                  exact flow_val (fun h => by cases h) (Go.Bas.run_sub rfl (hd 17 _ rfl (waits_spec rfl)) rfl) (congrArg (Value.int .i64) (wrap_i64_id (by omega) (by omega)))
                                · intro a w2 hB hF hd
                                  refine flow_wanted (wanted_yes rfl rfl (hd 15 _ rfl (waits_spec rfl)) rfl) ?_
                                  exact flow_move _ (.inl rfl) (by simp) (hF.same 2 rfl)
                                · intro a w2 hB hF hd
                                  refine flow_wanted (wanted_yes rfl rfl (hd 15 _ rfl (waits_spec rfl)) rfl) ?_
                                  exact flow_val (fun h => by cases h) (Go.Bas.run_sub rfl (hd 18 _ rfl (waits_spec rfl)) (hd 19 _ rfl (waits_spec rfl))) (congrArg (Value.int .i64) ((wrap_i64_id (by omega) (by omega)).trans hik))
                                · intro a w2 hB hF hd
                                  refine flow_wanted (wanted_yes rfl rfl (hd 15 _ rfl (waits_spec rfl)) rfl) ?_
                                  exact flow_val (fun h => by cases h) (run_index_rows (i := i) (sz := 32) rfl (hd 16 _ rfl (waits_spec rfl)) (hd 20 _ rfl (waits_spec rfl)) Try.underlying60 Try.size26 (by omega)) rfl
                                · intro a w2 hB hF hd
                                  refine flow_wanted (wanted_yes rfl rfl (hd 15 _ rfl (waits_spec rfl)) rfl) ?_
                                  exact flow_val (fun h => by cases h) (run_load_part rfl (hd 21 _ rfl (waits_spec rfl)) Try.underlying26 Try.size26 (fun c hc => (hB.cell (p := ⟨G, i * 32 + c, none⟩) hGl).trans (HC0.out c hc))) rfl
                                · intro a w2 hB hF hd
                                  refine flow_wanted (wanted_yes rfl rfl (hd 15 _ rfl (waits_spec rfl)) rfl) ?_
                                  exact flow_val (fun h => by cases h) (run_load_str rfl Try.underlying26 rfl Try.size26 (hF.same 13 rfl) (hXf.below hB hXf.lt)) rfl
                                · intro a w2 hB hF hd
                                  refine flow_wanted (wanted_yes rfl rfl (hd 15 _ rfl (waits_spec rfl)) rfl) ?_
                                  exact flow_val (fun h => by cases h) (run_eql_arr true rfl (hd 22 _ rfl (waits_spec rfl)) (hd 23 _ rfl (waits_spec rfl)) Try.underlying26 (by kernel_rfl) (by kernel_rfl) (by kernel_rfl) (by kernel_rfl) (by kernel_rfl) sameB_self) rfl
                                · intro a w2 hB hF hd
                                  refine flow_wanted (wanted_yes rfl rfl (hd 11 _ rfl (waits_spec rfl)) rfl) ?_
                                  exact flow_val (fun h => by cases h) (run_pick rfl (hd 15 _ rfl (waits_spec rfl))) ((hd 24 _ rfl (waits_spec rfl)))
                                · intro a w2 hB hF hd
                                  rw [if_pos (wanted_none rfl)]
                                  exact flow_val (fun h => by cases h) (run_pick rfl (hd 11 _ rfl (waits_spec rfl))) ((hd 25 _ rfl (waits_spec rfl)))
                                · intro a w2 hB hF hd
                                  rw [if_pos (wanted_none rfl)]
                                  exact flow_move _ (.inr rfl) (by simp) (hd 26 _ rfl (waits_spec rfl))
                              · intro a wg hB hF hS
                                have ha := puts_each rfl rfl hF [_, _, _, _, _, _, _, _, _, _, _, _, _, _, _, _, _, _, _, _, _, _, _, _, _, _, _, _] rfl ⟨hS 0 _ rfl, hS 1 _ rfl, hS 2 _ rfl, hS 3 _ rfl, hS 4 _ rfl, hS 5 _ rfl, hS 6 _ rfl, hS 7 _ rfl, hS 8 _ rfl, hS 9 _ rfl, hS 10 _ rfl, hS 11 _ rfl, hS 12 _ rfl, hS 13 _ rfl, hS 14 _ rfl, hS 15 _ rfl, hS 16 _ rfl, hS 17 _ rfl, hS 18 _ rfl, hS 19 _ rfl, hS 20 _ rfl, hS 21 _ rfl, hS 22 _ rfl, hS 23 _ rfl, hS 24 _ rfl, hS 25 _ rfl, hS 26 _ rfl, hS 27 _ rfl, trivial⟩
                                simp only [puts, Act.put, List.setIfInBounds_toArray, List.set_cons_succ, List.set_cons_zero] at ha
                                subst ha
                                clear hS hF
                                have hcg := hcf.trans (hB.mono hcf.size)
                                go_wp2
                                go_ret
                                exact ⟨rfl, hb9.trans (hcg.mono hb9.size)⟩

theorem deriveBack_law (w : World) (f : Nat → Int) (hfb : ∀ i, i < 32 → (Lit.int .u8 (f i)).wf = true) (n : Int) (_ : (Lit.int .i64 n).wf = true) (k : Int) (_ : (Lit.int .i64 k).wf = true) :
    Calls Try.prog 9 #[.agg (arr .u8 32 f), .int .i64 n, .int .i64 k] w fun e w' => e = .returned (.bool true) ∧ Below w.heap.size w w' := by
  have hf := byteB f 32 hfb
  by_cases hbig : 40 < n ∧ n ≤ 4096 ∨ 40 < k ∧ k ≤ 4096
  · exact drBack_big f n k hbig w
  · by_cases hno : n < 0 ∨ 4096 < n
    · exact drBack_no f n k hno (by omega) w
    · obtain ⟨m, rfl⟩ := Int.eq_ofNat_of_zero_le (by omega : 0 ≤ n)
      exact drBack_few f hf m (by omega) k (by omega) w
end Go.Proofs.Ytgobodhcamgidaa
