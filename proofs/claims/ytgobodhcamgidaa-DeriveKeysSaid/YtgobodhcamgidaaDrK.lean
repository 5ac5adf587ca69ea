/-
  The law DeriveKeys answers true: its walk. Conditions: named in each theorem.
-/
import Derived.Test.YtgobodhcamgidaaDr7
import Derived.OpenShut
set_option linter.unusedVariables false
set_option linter.unusedSimpArgs false
namespace Go.Proofs.Ytgobodhcamgidaa
open Go.RowKit Go.Bas Go.ChangeShapes
attribute [local go_sem ↓] Go.wp_at_zero Go.wp_at_succ

set_option maxRecDepth 100000 in
set_option maxHeartbeats 6400000 in
theorem deriveKeys_law (w : World) (vf : Value) (nf : Nat) (from_ : Nat → Int) (hf : Rd .u8 w vf nf from_) (hfb : ∀ i, i < nf → (Lit.int .u8 (from_ i)).wf = true) (s : ByteArray) (hs : s.size ≤ maxLen)
    (vc : Value) (m : Nat) (lens : Nat → Nat) (g : Nat → Nat → Int) (hc : Txt w vc m lens g) (hg : ∀ j, j < m → ∀ i, i < lens j → (Lit.int .u8 (g j i)).wf = true) :
    Calls Try.prog 8 #[vf, .string s, vc] w fun e w' => e = .returned (.bool true) ∧ Below w.heap.size w w' := by
  have HFB := Lib.hid (byteB from_ nf hfb)
  have HGB : Hid (∀ j, j < m → ∀ i, i < lens j → 0 ≤ g j i ∧ g j i < 256) := fun j hj => byteB (g j) (lens j) (hg j hj)
  have HF := Lib.hid hf
  have HC := Lib.hid hc
  obtain ⟨fa, fc, rfl, f1, f2, _, _⟩ := hf
  obtain ⟨ca, cc, rfl, c1, c2, _⟩ := hc
  unfold maxLen at hs
  clear hfb hg
  go_enter Try.func8, Try.ntmps8
  go_wp2_with fail
  refine (drAwake_any _).mono ?_
  rintro e w1 ⟨rfl, hb1⟩
  have HF1 := Lib.hid (HF.out.below hb1)
  have HC1 := Lib.hid (HC.out.below hb1)
  clear HF HC
  rcases (by omega : 300 < nf ∨ (nf ≤ 300 ∧ 100 < s.size) ∨ (nf ≤ 300 ∧ s.size ≤ 100 ∧ 20 < m) ∨ (nf ≤ 300 ∧ s.size ≤ 100 ∧ m ≤ 20)) with h | h | h | h
  case inl =>
    go_upto_region 3 with (fail)
    refine region_flow (n := 78) (by kernel_rfl) (by kernel_rfl) (by kernel_rfl) rfl
      (fun ii vv _ => (match ii with | 0 => vv = .slice fa nf fc | 1 => vv = .int .i64 ((nf : Int)) | 2 | 3 | 7 | 8 | 12 => vv = .bool true | 4 | 5 | 6 | 9 | 10 | 11 => vv = undef | _ => True))
      (fun w w' => Below w.heap.size w w') (fun _ _ h => h) (fun _ _ _ _ h _ => h) ?_ ?_
    · refine Each.all ?_
      refine ⟨?_, ?_, ?_, ?_, ?_, ?_, ?_, ?_, ?_, ?_, ?_, ?_, ?_, trivial⟩
      · intro a w2 hB hF hd
        rw [if_pos (wanted_none rfl)]
        exact flow_move _ (.inl rfl) (by simp) (hF.same 0 rfl)
      · intro a w2 hB hF hd
        rw [if_pos (wanted_none rfl)]
        exact flow_val (fun h => by cases h) (run_len_sl rfl (hd 0 _ rfl (waits_spec rfl)) Try.underlying22) rfl
      · intro a w2 hB hF hd
        rw [if_pos (wanted_none rfl)]
        exact flow_val (fun h => by cases h) (Go.Bas.run_gtr rfl (hd 1 _ rfl (waits_spec rfl)) rfl) (congrArg Value.bool (decide_eq_true (by omega)))
      · intro a w2 hB hF hd
        rw [if_pos (wanted_none rfl)]
        exact flow_move _ (.inl rfl) (by simp) (hd 2 _ rfl (waits_spec rfl))
      · intro a w2 hB hF hd
        rw [if_neg (by rw [wanted_some rfl rfl (hd 3 _ rfl (waits_spec rfl))]; decide)]
        exact rfl
      · intro a w2 hB hF hd
        rw [if_neg (by rw [wanted_some rfl rfl (hd 3 _ rfl (waits_spec rfl))]; decide)]
        exact rfl
      · intro a w2 hB hF hd
        rw [if_neg (by rw [wanted_some rfl rfl (hd 3 _ rfl (waits_spec rfl))]; decide)]
        exact rfl
      · intro a w2 hB hF hd
        rw [if_pos (wanted_none rfl)]
        exact flow_val (fun h => by cases h) (run_pick rfl (hd 3 _ rfl (waits_spec rfl))) (rfl)
      · intro a w2 hB hF hd
        rw [if_pos (wanted_none rfl)]
        exact flow_move _ (.inl rfl) (by simp) (hd 7 _ rfl (waits_spec rfl))
      · intro a w2 hB hF hd
        rw [if_neg (by rw [wanted_some rfl rfl (hd 8 _ rfl (waits_spec rfl))]; decide)]
        exact rfl
      · intro a w2 hB hF hd
        rw [if_neg (by rw [wanted_some rfl rfl (hd 8 _ rfl (waits_spec rfl))]; decide)]
        exact rfl
      · intro a w2 hB hF hd
        rw [if_neg (by rw [wanted_some rfl rfl (hd 8 _ rfl (waits_spec rfl))]; decide)]
        exact rfl
      · intro a w2 hB hF hd
        rw [if_pos (wanted_none rfl)]
        exact flow_val (fun h => by cases h) (run_pick rfl (hd 8 _ rfl (waits_spec rfl))) (rfl)
    · intro a w2 hB hF hS
      have ha := puts_each rfl rfl hF [_, _, _, _, _, _, _, _, _, _, _, _, _] rfl ⟨hS 0 _ rfl, hS 1 _ rfl, hS 2 _ rfl, hS 3 _ rfl, hS 4 _ rfl, hS 5 _ rfl, hS 6 _ rfl, hS 7 _ rfl, hS 8 _ rfl, hS 9 _ rfl, hS 10 _ rfl, hS 11 _ rfl, hS 12 _ rfl, trivial⟩
      simp only [puts, Act.put, List.setIfInBounds_toArray, List.set_cons_succ, List.set_cons_zero] at ha
      subst ha
      clear hS hF
      have hb2 := hb1.trans (hB.mono hb1.size)
      clear hB
      go_wp2
      go_ret
      exact ⟨rfl, hb2⟩
  case inr.inl =>
    go_upto_region 3 with (fail)
    refine region_flow (n := 78) (by kernel_rfl) (by kernel_rfl) (by kernel_rfl) rfl
      (fun ii vv _ => (match ii with | 0 => vv = .slice fa nf fc | 1 => vv = .int .i64 ((nf : Int)) | 2 | 3 => vv = .bool false | 4 => vv = .string s | 5 => vv = .int .i64 ((s.size : Int)) | 6 | 7 | 8 | 12 => vv = .bool true | 9 | 10 | 11 => vv = undef | _ => True))
      (fun w w' => Below w.heap.size w w') (fun _ _ h => h) (fun _ _ _ _ h _ => h) ?_ ?_
    · refine Each.all ?_
      refine ⟨?_, ?_, ?_, ?_, ?_, ?_, ?_, ?_, ?_, ?_, ?_, ?_, ?_, trivial⟩
      · intro a w2 hB hF hd
        rw [if_pos (wanted_none rfl)]
        exact flow_move _ (.inl rfl) (by simp) (hF.same 0 rfl)
      · intro a w2 hB hF hd
        rw [if_pos (wanted_none rfl)]
        exact flow_val (fun h => by cases h) (run_len_sl rfl (hd 0 _ rfl (waits_spec rfl)) Try.underlying22) rfl
      · intro a w2 hB hF hd
        rw [if_pos (wanted_none rfl)]
        exact flow_val (fun h => by cases h) (Go.Bas.run_gtr rfl (hd 1 _ rfl (waits_spec rfl)) rfl) (congrArg Value.bool (decide_eq_false (by omega)))
      · intro a w2 hB hF hd
        rw [if_pos (wanted_none rfl)]
        exact flow_move _ (.inl rfl) (by simp) (hd 2 _ rfl (waits_spec rfl))
      · intro a w2 hB hF hd
        refine flow_wanted (wanted_yes rfl rfl (hd 3 _ rfl (waits_spec rfl)) rfl) ?_
        exact flow_move _ (.inl rfl) (by simp) (hF.same 1 rfl)
      · intro a w2 hB hF hd
        refine flow_wanted (wanted_yes rfl rfl (hd 3 _ rfl (waits_spec rfl)) rfl) ?_
        exact flow_val (fun h => by cases h) (run_len_str rfl (hd 4 _ rfl (waits_spec rfl)) Try.underlying9) rfl
      · intro a w2 hB hF hd
        refine flow_wanted (wanted_yes rfl rfl (hd 3 _ rfl (waits_spec rfl)) rfl) ?_
        exact flow_val (fun h => by cases h) (Go.Bas.run_gtr rfl (hd 5 _ rfl (waits_spec rfl)) rfl) (congrArg Value.bool (decide_eq_true (by omega)))
      · intro a w2 hB hF hd
        rw [if_pos (wanted_none rfl)]
        exact flow_val (fun h => by cases h) (run_pick rfl (hd 3 _ rfl (waits_spec rfl))) ((hd 6 _ rfl (waits_spec rfl)))
      · intro a w2 hB hF hd
        rw [if_pos (wanted_none rfl)]
        exact flow_move _ (.inl rfl) (by simp) (hd 7 _ rfl (waits_spec rfl))
      · intro a w2 hB hF hd
        rw [if_neg (by rw [wanted_some rfl rfl (hd 8 _ rfl (waits_spec rfl))]; decide)]
        exact rfl
      · intro a w2 hB hF hd
        rw [if_neg (by rw [wanted_some rfl rfl (hd 8 _ rfl (waits_spec rfl))]; decide)]
        exact rfl
      · intro a w2 hB hF hd
        rw [if_neg (by rw [wanted_some rfl rfl (hd 8 _ rfl (waits_spec rfl))]; decide)]
        exact rfl
      · intro a w2 hB hF hd
        rw [if_pos (wanted_none rfl)]
        exact flow_val (fun h => by cases h) (run_pick rfl (hd 8 _ rfl (waits_spec rfl))) (rfl)
    · intro a w2 hB hF hS
      have ha := puts_each rfl rfl hF [_, _, _, _, _, _, _, _, _, _, _, _, _] rfl ⟨hS 0 _ rfl, hS 1 _ rfl, hS 2 _ rfl, hS 3 _ rfl, hS 4 _ rfl, hS 5 _ rfl, hS 6 _ rfl, hS 7 _ rfl, hS 8 _ rfl, hS 9 _ rfl, hS 10 _ rfl, hS 11 _ rfl, hS 12 _ rfl, trivial⟩
      simp only [puts, Act.put, List.setIfInBounds_toArray, List.set_cons_succ, List.set_cons_zero] at ha
      subst ha
      clear hS hF
      have hb2 := hb1.trans (hB.mono hb1.size)
      clear hB
      go_wp2
      go_ret
      exact ⟨rfl, hb2⟩
  case inr.inr.inl =>
    go_upto_region 3 with (fail)
    refine region_flow (n := 78) (by kernel_rfl) (by kernel_rfl) (by kernel_rfl) rfl
      (fun ii vv _ => (match ii with | 0 => vv = .slice fa nf fc | 1 => vv = .int .i64 ((nf : Int)) | 2 | 3 | 6 | 7 | 8 => vv = .bool false | 4 => vv = .string s | 5 => vv = .int .i64 ((s.size : Int)) | 9 => vv = .slice ca m cc | 10 => vv = .int .i64 ((m : Int)) | 11 | 12 => vv = .bool true | _ => True))
      (fun w w' => Below w.heap.size w w') (fun _ _ h => h) (fun _ _ _ _ h _ => h) ?_ ?_
    · refine Each.all ?_
      refine ⟨?_, ?_, ?_, ?_, ?_, ?_, ?_, ?_, ?_, ?_, ?_, ?_, ?_, trivial⟩
      · intro a w2 hB hF hd
        rw [if_pos (wanted_none rfl)]
        exact flow_move _ (.inl rfl) (by simp) (hF.same 0 rfl)
      · intro a w2 hB hF hd
        rw [if_pos (wanted_none rfl)]
        exact flow_val (fun h => by cases h) (run_len_sl rfl (hd 0 _ rfl (waits_spec rfl)) Try.underlying22) rfl
      · intro a w2 hB hF hd
        rw [if_pos (wanted_none rfl)]
        exact flow_val (fun h => by cases h) (Go.Bas.run_gtr rfl (hd 1 _ rfl (waits_spec rfl)) rfl) (congrArg Value.bool (decide_eq_false (by omega)))
      · intro a w2 hB hF hd
        rw [if_pos (wanted_none rfl)]
        exact flow_move _ (.inl rfl) (by simp) (hd 2 _ rfl (waits_spec rfl))
      · intro a w2 hB hF hd
        refine flow_wanted (wanted_yes rfl rfl (hd 3 _ rfl (waits_spec rfl)) rfl) ?_
        exact flow_move _ (.inl rfl) (by simp) (hF.same 1 rfl)
      · intro a w2 hB hF hd
        refine flow_wanted (wanted_yes rfl rfl (hd 3 _ rfl (waits_spec rfl)) rfl) ?_
        exact flow_val (fun h => by cases h) (run_len_str rfl (hd 4 _ rfl (waits_spec rfl)) Try.underlying9) rfl
      · intro a w2 hB hF hd
        refine flow_wanted (wanted_yes rfl rfl (hd 3 _ rfl (waits_spec rfl)) rfl) ?_
        exact flow_val (fun h => by cases h) (Go.Bas.run_gtr rfl (hd 5 _ rfl (waits_spec rfl)) rfl) (congrArg Value.bool (decide_eq_false (by omega)))
      · intro a w2 hB hF hd
        rw [if_pos (wanted_none rfl)]
        exact flow_val (fun h => by cases h) (run_pick rfl (hd 3 _ rfl (waits_spec rfl))) ((hd 6 _ rfl (waits_spec rfl)))
      · intro a w2 hB hF hd
        rw [if_pos (wanted_none rfl)]
        exact flow_move _ (.inl rfl) (by simp) (hd 7 _ rfl (waits_spec rfl))
      · intro a w2 hB hF hd
        refine flow_wanted (wanted_yes rfl rfl (hd 8 _ rfl (waits_spec rfl)) rfl) ?_
        exact flow_move _ (.inl rfl) (by simp) (hF.same 2 rfl)
      · intro a w2 hB hF hd
        refine flow_wanted (wanted_yes rfl rfl (hd 8 _ rfl (waits_spec rfl)) rfl) ?_
        exact flow_val (fun h => by cases h) (run_len_sl rfl (hd 9 _ rfl (waits_spec rfl)) Try.underlying52) rfl
      · intro a w2 hB hF hd
        refine flow_wanted (wanted_yes rfl rfl (hd 8 _ rfl (waits_spec rfl)) rfl) ?_
        exact flow_val (fun h => by cases h) (Go.Bas.run_gtr rfl (hd 10 _ rfl (waits_spec rfl)) rfl) (congrArg Value.bool (decide_eq_true (by omega)))
      · intro a w2 hB hF hd
        rw [if_pos (wanted_none rfl)]
        exact flow_val (fun h => by cases h) (run_pick rfl (hd 8 _ rfl (waits_spec rfl))) ((hd 11 _ rfl (waits_spec rfl)))
    · intro a w2 hB hF hS
      have ha := puts_each rfl rfl hF [_, _, _, _, _, _, _, _, _, _, _, _, _] rfl ⟨hS 0 _ rfl, hS 1 _ rfl, hS 2 _ rfl, hS 3 _ rfl, hS 4 _ rfl, hS 5 _ rfl, hS 6 _ rfl, hS 7 _ rfl, hS 8 _ rfl, hS 9 _ rfl, hS 10 _ rfl, hS 11 _ rfl, hS 12 _ rfl, trivial⟩
      simp only [puts, Act.put, List.setIfInBounds_toArray, List.set_cons_succ, List.set_cons_zero] at ha
      subst ha
      clear hS hF
      have hb2 := hb1.trans (hB.mono hb1.size)
      clear hB
      go_wp2
      go_ret
      exact ⟨rfl, hb2⟩
  case inr.inr.inr =>
    go_upto_region 3 with (fail)
    refine region_flow (n := 78) (by kernel_rfl) (by kernel_rfl) (by kernel_rfl) rfl
      (fun ii vv _ => (match ii with | 0 => vv = .slice fa nf fc | 1 => vv = .int .i64 ((nf : Int)) | 2 | 3 | 6 | 7 | 8 | 11 | 12 => vv = .bool false | 4 => vv = .string s | 5 => vv = .int .i64 ((s.size : Int)) | 9 => vv = .slice ca m cc | 10 => vv = .int .i64 ((m : Int)) | _ => True))
      (fun w w' => Below w.heap.size w w') (fun _ _ h => h) (fun _ _ _ _ h _ => h) ?_ ?_
    · refine Each.all ?_
      refine ⟨?_, ?_, ?_, ?_, ?_, ?_, ?_, ?_, ?_, ?_, ?_, ?_, ?_, trivial⟩
      · intro a w2 hB hF hd
        rw [if_pos (wanted_none rfl)]
        exact flow_move _ (.inl rfl) (by simp) (hF.same 0 rfl)
      · intro a w2 hB hF hd
        rw [if_pos (wanted_none rfl)]
        exact flow_val (fun h => by cases h) (run_len_sl rfl (hd 0 _ rfl (waits_spec rfl)) Try.underlying22) rfl
      · intro a w2 hB hF hd
        rw [if_pos (wanted_none rfl)]
        exact flow_val (fun h => by cases h) (Go.Bas.run_gtr rfl (hd 1 _ rfl (waits_spec rfl)) rfl) (congrArg Value.bool (decide_eq_false (by omega)))
      · intro a w2 hB hF hd
        rw [if_pos (wanted_none rfl)]
        exact flow_move _ (.inl rfl) (by simp) (hd 2 _ rfl (waits_spec rfl))
      · intro a w2 hB hF hd
        refine flow_wanted (wanted_yes rfl rfl (hd 3 _ rfl (waits_spec rfl)) rfl) ?_
        exact flow_move _ (.inl rfl) (by simp) (hF.same 1 rfl)
      · intro a w2 hB hF hd
        refine flow_wanted (wanted_yes rfl rfl (hd 3 _ rfl (waits_spec rfl)) rfl) ?_
        exact flow_val (fun h => by cases h) (run_len_str rfl (hd 4 _ rfl (waits_spec rfl)) Try.underlying9) rfl
      · intro a w2 hB hF hd
        refine flow_wanted (wanted_yes rfl rfl (hd 3 _ rfl (waits_spec rfl)) rfl) ?_
        exact flow_val (fun h => by cases h) (Go.Bas.run_gtr rfl (hd 5 _ rfl (waits_spec rfl)) rfl) (congrArg Value.bool (decide_eq_false (by omega)))
      · intro a w2 hB hF hd
        rw [if_pos (wanted_none rfl)]
        exact flow_val (fun h => by cases h) (run_pick rfl (hd 3 _ rfl (waits_spec rfl))) ((hd 6 _ rfl (waits_spec rfl)))
      · intro a w2 hB hF hd
        rw [if_pos (wanted_none rfl)]
        exact flow_move _ (.inl rfl) (by simp) (hd 7 _ rfl (waits_spec rfl))
      · intro a w2 hB hF hd
        refine flow_wanted (wanted_yes rfl rfl (hd 8 _ rfl (waits_spec rfl)) rfl) ?_
        exact flow_move _ (.inl rfl) (by simp) (hF.same 2 rfl)
      · intro a w2 hB hF hd
        refine flow_wanted (wanted_yes rfl rfl (hd 8 _ rfl (waits_spec rfl)) rfl) ?_
        exact flow_val (fun h => by cases h) (run_len_sl rfl (hd 9 _ rfl (waits_spec rfl)) Try.underlying52) rfl
      · intro a w2 hB hF hd
        refine flow_wanted (wanted_yes rfl rfl (hd 8 _ rfl (waits_spec rfl)) rfl) ?_
        exact flow_val (fun h => by cases h) (Go.Bas.run_gtr rfl (hd 10 _ rfl (waits_spec rfl)) rfl) (congrArg Value.bool (decide_eq_false (by omega)))
      · intro a w2 hB hF hd
        rw [if_pos (wanted_none rfl)]
        exact flow_val (fun h => by cases h) (run_pick rfl (hd 8 _ rfl (waits_spec rfl))) ((hd 11 _ rfl (waits_spec rfl)))
    · intro a w2 hB hF hS
      have ha := puts_each rfl rfl hF [_, _, _, _, _, _, _, _, _, _, _, _, _] rfl ⟨hS 0 _ rfl, hS 1 _ rfl, hS 2 _ rfl, hS 3 _ rfl, hS 4 _ rfl, hS 5 _ rfl, hS 6 _ rfl, hS 7 _ rfl, hS 8 _ rfl, hS 9 _ rfl, hS 10 _ rfl, hS 11 _ rfl, hS 12 _ rfl, trivial⟩
      simp only [puts, Act.put, List.setIfInBounds_toArray, List.set_cons_succ, List.set_cons_zero] at ha
      subst ha
      clear hS hF
      obtain ⟨l1, l2, l3⟩ := h
      have hb2 := hb1.trans (hB.mono hb1.size)
      have HF2 := Lib.hid (HF1.out.below hB)
      have HC2 := Lib.hid (HC1.out.below hB)
      clear hB HF1 HC1 hb1
      obtain ⟨c3⟩ : Nonempty (0 < m → ∃ b o, ca = some ⟨b, o, none⟩ ∧ b < w2.heap.size ∧ ∀ j, j < m → ∃ u, w2.cell? ⟨b, o + j, none⟩ = some u ∧ Rd .u8 w2 u (lens j) (g j)) := by
        obtain ⟨a', c', he, _, _, h3⟩ := HC2.out
        simp only [Value.slice.injEq, true_and] at he
        obtain ⟨rfl, rfl⟩ := he
        exact ⟨h3⟩
      have HC3 := Lib.hid c3
      clear c3
      go_wp2
      go_loop [32] (fun i => ∃ k : Nat, k ≤ m ∧ i = .int .i64 (k : Int) ∧ Hid (∀ j, j < k → lens j ≤ 100)) (fun i => m - (intOf i).toNat)
      case atStart => exact ⟨0, Nat.zero_le _, rfl, fun j h => absurd h (Nat.not_lt_zero _)⟩
      case round =>
        obtain ⟨k, hk, rfl, hlk⟩ := hrel
        by_cases hlt : k < m
        · obtain ⟨tb, to, rfl, tlt, tcell⟩ := HC3.out (by omega)
          obtain ⟨u, hu, hru⟩ := tcell k hlt
          obtain ⟨ua, uc, rfl, u1, u2, _, _⟩ := hru
          obtain ⟨n, hn⟩ : ∃ n, n = lens k := ⟨_, rfl⟩
          rw [← hn] at hu u1
          have HN := Lib.hid hn
          clear tcell hn
          by_cases hbig : 100 < n
          · go_wp2
            go_ret
            exact ⟨rfl, hb2⟩
          · have hnx : Hid (∀ j, j < k + 1 → lens j ≤ 100) := by
              intro j hj
              by_cases hjk : j = k
              · subst hjk; rw [← HN.out]; omega
              · exact hlk.out j (by omega)
            go_wp2
            go_round
            case rel => exact ⟨k + 1, by omega, by go_num, hnx⟩
            case measure => simp [intOf]; omega
        · obtain rfl : k = m := by omega
          obtain ⟨K, er, hKB, hk1, hk2⟩ := keys_alike nf from_ s k lens g (by omega) HFB.out (fun j hj => by have := hlk.out j hj; omega) HGB.out
          have HKB := Lib.hid hKB
          have HK1 := Lib.hid hk1
          have HK2 := Lib.hid hk2
          clear hKB hk1 hk2 hlk HC3
          go_wp2_with fail
          refine (HK1.out _ _ _ HF2.out HC2.out).mono ?_
          rintro e w3 ⟨rfl, hb3⟩
          have hbel3 := hb2.trans (hb3.mono hb2.size)
          have HF3 := Lib.hid (HF2.out.below hb3)
          have HC3 := Lib.hid (HC2.out.below hb3)
          clear hb2 hb3 HF2 HC2
          go_upto_region 12 with (refine store_arr rfl 26 _ _ rfl .u8 w3.heap.size 32 (fun _ => 0) K Try.size26 rfl rfl (Arr.newAt rfl (by rfl)) ?_)
          refine wp_world (fun w4 => Arr .u8 w4 w3.heap.size 32 K ∧ Below w.heap.size w w4 ∧ Below w3.heap.size w3 w4) ⟨(Arr.newAt rfl (by rfl) : Arr .u8 _ _ 32 (fun _ => 0)).setRow _ _, below_setRow' (hbel3.alloc hbel3.size _) hbel3.size _, below_setRow' ((Below.refl w3.heap.size w3).alloc (Nat.le_refl _) _) (Nat.le_refl _) _⟩ ?_
          rintro w4 ⟨hA4, hb4, hb34⟩
          have HF4 := Lib.hid (HF3.out.below hb34)
          have HC4 := Lib.hid (HC3.out.below hb34)
          obtain ⟨q, hq⟩ : ∃ q, q = w3.heap.size := ⟨_, rfl⟩
          rw [← hq] at hA4 ⊢
          clear hq hbel3 hb34 HF3 HC3
          try simp only [Act.put, List.setIfInBounds_toArray, List.set_cons_succ, List.set_cons_zero]
          go_wp2_with fail
          refine (HK2.out _ _ _ HF4.out HC4.out).mono ?_
          rintro e w5 ⟨rfl, hb5⟩
          have hbel5 := hb4.trans (hb5.mono hb4.size)
          have hA5 := hA4.kept hb5
          have hql := hA5.lt
          clear hb4 hb5 HF4 HC4 hA4
          go_upto_region 13 with (refine store_arr rfl 26 _ _ rfl .u8 w5.heap.size 32 (fun _ => 0) K Try.size26 rfl rfl (Arr.newAt rfl (by rfl)) ?_)
          refine wp_world (fun w6 => Arr .u8 w6 w5.heap.size 32 K ∧ Arr .u8 w6 q 32 K ∧ Below w.heap.size w w6) ⟨(Arr.newAt rfl (by rfl) : Arr .u8 _ _ 32 (fun _ => 0)).setRow _ _, Arr.setRowOther (Arr.alloc hA5 _) _ (by omega) _, below_setRow' (hbel5.alloc hbel5.size _) hbel5.size _⟩ ?_
          rintro w6 ⟨hB6, hA6, hb6⟩
          obtain ⟨q2, hq2⟩ : ∃ q2, q2 = w5.heap.size := ⟨_, rfl⟩
          rw [← hq2] at hB6 ⊢
          clear hq2 hbel5 hA5 hql
          try simp only [Act.put, List.setIfInBounds_toArray, List.set_cons_succ, List.set_cons_zero]
          refine region_flow (n := 78) (by kernel_rfl) (by kernel_rfl) (by kernel_rfl) rfl
            (fun ii vv _ => (match ii with | 0 | 1 => vv = .agg (arr .u8 32 (K)) | 2 | 3 | 6 | 7 => vv = .bool false | 4 | 5 => vv = .int .i64 (er) | _ => True))
            (fun w w' => Below w.heap.size w w') (fun _ _ h => h) (fun _ _ _ _ h _ => h) ?_ ?_
          · refine Each.all ?_
            refine ⟨?_, ?_, ?_, ?_, ?_, ?_, ?_, ?_, trivial⟩
            · intro a w2 hB hF hd
              rw [if_pos (wanted_none rfl)]
              exact flow_val (fun h => by cases h) (run_load_str rfl Try.underlying26 rfl Try.size26 (hF.same 9 rfl) (hA6.below hB hA6.lt)) rfl
            · intro a w2 hB hF hd
              rw [if_pos (wanted_none rfl)]
              exact flow_val (fun h => by cases h) (run_load_str rfl Try.underlying26 rfl Try.size26 (hF.same 11 rfl) (hB6.below hB hB6.lt)) rfl
            · intro a w2 hB hF hd
              rw [if_pos (wanted_none rfl)]
              exact flow_val (fun h => by cases h) (run_neq_arr true rfl (hd 0 _ rfl (waits_spec rfl)) (hd 1 _ rfl (waits_spec rfl)) Try.underlying26 (by kernel_rfl) (by kernel_rfl) (by kernel_rfl) (by kernel_rfl) (by kernel_rfl) sameB_self) rfl
            · intro a w2 hB hF hd
              rw [if_pos (wanted_none rfl)]
              exact flow_move _ (.inl rfl) (by simp) (hd 2 _ rfl (waits_spec rfl))
            · intro a w2 hB hF hd
              refine flow_wanted (wanted_yes rfl rfl (hd 3 _ rfl (waits_spec rfl)) rfl) ?_
              exact flow_move _ (.inl rfl) (by simp) (hF.same 10 rfl)
            · intro a w2 hB hF hd
              refine flow_wanted (wanted_yes rfl rfl (hd 3 _ rfl (waits_spec rfl)) rfl) ?_
              exact flow_move _ (.inl rfl) (by simp) (hF.same 12 rfl)
            · intro a w2 hB hF hd
              refine flow_wanted (wanted_yes rfl rfl (hd 3 _ rfl (waits_spec rfl)) rfl) ?_
              exact flow_val (fun h => by cases h) (Go.Bas.run_neq_int rfl (hd 4 _ rfl (waits_spec rfl)) (hd 5 _ rfl (waits_spec rfl))) (congrArg Value.bool (bne_self_eq_false _))
            · intro a w2 hB hF hd
              rw [if_pos (wanted_none rfl)]
              exact flow_val (fun h => by cases h) (run_pick rfl (hd 3 _ rfl (waits_spec rfl))) ((hd 6 _ rfl (waits_spec rfl)))
          · intro a w7 hB hF hS
            have ha := puts_each rfl rfl hF [_, _, _, _, _, _, _, _] rfl ⟨hS 0 _ rfl, hS 1 _ rfl, hS 2 _ rfl, hS 3 _ rfl, hS 4 _ rfl, hS 5 _ rfl, hS 6 _ rfl, hS 7 _ rfl, trivial⟩
            simp only [puts, Act.put, List.setIfInBounds_toArray, List.set_cons_succ, List.set_cons_zero] at ha
            subst ha
            clear hS hF
            have hb7 := hb6.trans (hB.mono hb6.size)
            have hA7 := hA6.kept hB
            clear hB hb6 hA6 hB6
            have HKI := Lib.hid (fun v w h => rdKeyI v K HKB.out w h)
            go_wp2_with fail
            refine (HKI.out _ _ (hA7.rd (by decide))).mono ?_
            rintro e w8 ⟨rfl, hb8⟩
            have hbel8 := hb7.trans (hb8.mono hb7.size)
            have hA8 := hA7.kept hb8
            have hql := hA8.lt
            obtain ⟨IB, hIB⟩ : ∃ IB, IB = itemB K := ⟨_, rfl⟩
            obtain ⟨NB, hNB⟩ : ∃ NB, NB = nextB K := ⟨_, rfl⟩
            have HIT := Lib.hid (fun w => dItem_any K HKB.out w)
            have HNX := Lib.hid (fun w => dNext_any K HKB.out w)
            have HRN := Lib.hid (fun w => rNext_any K HKB.out w)
            rw [← hIB] at HIT ⊢
            rw [← hNB] at HNX HRN
            clear hIB hNB hb7 hA7 hb8 HKI
            go_upto_region 16 with (refine store_arr rfl 26 _ _ rfl .u8 w8.heap.size 32 (fun _ => 0) IB Try.size26 rfl rfl (Arr.newAt rfl (by rfl)) ?_)
            refine wp_world (fun w9 => Arr .u8 w9 w8.heap.size 32 IB ∧ Arr .u8 w9 q 32 K ∧ Below w.heap.size w w9) ⟨(Arr.newAt rfl (by rfl) : Arr .u8 _ _ 32 (fun _ => 0)).setRow _ _, Arr.setRowOther (Arr.alloc hA8 _) _ (by omega) _, below_setRow' (hbel8.alloc hbel8.size _) hbel8.size _⟩ ?_
            rintro w9 ⟨hI9, hA9, hb9⟩
            obtain ⟨q3, hq3⟩ : ∃ q3, q3 = w8.heap.size := ⟨_, rfl⟩
            rw [← hq3] at hI9 ⊢
            clear hq3 hbel8 hA8 hql
            try simp only [Act.put, List.setIfInBounds_toArray, List.set_cons_succ, List.set_cons_zero]
            refine region_flow (n := 78) (by kernel_rfl) (by kernel_rfl) (by kernel_rfl) rfl
              (fun ii vv _ => (match ii with | 0 | 5 | 7 => vv = .agg (arr .u8 32 (K)) | 1 | 2 => vv = .agg (arr .u8 32 (IB)) | 3 | 4 | 9 | 10 | 11 => vv = .bool true | 6 | 8 => vv = .agg (arr .u8 32 (NB)) | _ => True))
              (fun w w' => Below w.heap.size w w') (fun _ _ h => h) (fun _ _ _ _ h _ => h) ?_ ?_
            · refine Each.all ?_
              refine ⟨?_, ?_, ?_, ?_, ?_, ?_, ?_, ?_, ?_, ?_, ?_, ?_, trivial⟩
              · intro a w2 hB hF hd
                rw [if_pos (wanted_none rfl)]
                exact flow_val (fun h => by cases h) (run_load_str rfl Try.underlying26 rfl Try.size26 (hF.same 9 rfl) (hA9.below hB hA9.lt)) rfl
              · intro a w2 hB hF hd
                rw [if_pos (wanted_none rfl)]
                refine flow_call _ _ _ rfl Try.call32 _ (args1 (hd 0 _ rfl (waits_spec rfl))) (by simp) ((HIT.out _).mono ?_)
                rintro e w3 ⟨rfl, hb⟩; exact ⟨_, rfl, rfl, hb⟩
              · intro a w2 hB hF hd
                rw [if_pos (wanted_none rfl)]
                exact flow_val (fun h => by cases h) (run_load_str rfl Try.underlying26 rfl Try.size26 (hF.same 13 rfl) (hI9.below hB hI9.lt)) rfl
              · intro a w2 hB hF hd
                rw [if_pos (wanted_none rfl)]
                exact flow_val (fun h => by cases h) (run_eql_arr true rfl (hd 1 _ rfl (waits_spec rfl)) (hd 2 _ rfl (waits_spec rfl)) Try.underlying26 (by kernel_rfl) (by kernel_rfl) (by kernel_rfl) (by kernel_rfl) (by kernel_rfl) sameB_self) rfl
              · intro a w2 hB hF hd
                rw [if_pos (wanted_none rfl)]
                exact flow_move _ (.inl rfl) (by simp) (hd 3 _ rfl (waits_spec rfl))
              · intro a w2 hB hF hd
                refine flow_wanted (wanted_yes rfl rfl (hd 4 _ rfl (waits_spec rfl)) rfl) ?_
                exact flow_val (fun h => by cases h) (run_load_str rfl Try.underlying26 rfl Try.size26 (hF.same 9 rfl) (hA9.below hB hA9.lt)) rfl
              · intro a w2 hB hF hd
                refine flow_wanted (wanted_yes rfl rfl (hd 4 _ rfl (waits_spec rfl)) rfl) ?_
                refine flow_call _ _ _ rfl Try.call33 _ (args1 (hd 5 _ rfl (waits_spec rfl))) (by simp) ((HNX.out _).mono ?_)
                rintro e w3 ⟨rfl, hb⟩; exact ⟨_, rfl, rfl, hb⟩
              · intro a w2 hB hF hd
                refine flow_wanted (wanted_yes rfl rfl (hd 4 _ rfl (waits_spec rfl)) rfl) ?_
                exact flow_val (fun h => by cases h) (run_load_str rfl Try.underlying26 rfl Try.size26 (hF.same 9 rfl) (hA9.below hB hA9.lt)) rfl
              · intro a w2 hB hF hd
                refine flow_wanted (wanted_yes rfl rfl (hd 4 _ rfl (waits_spec rfl)) rfl) ?_
                refine flow_call _ _ _ rfl Try.call34 _ (args1 (hd 7 _ rfl (waits_spec rfl))) (by simp) ((HRN.out _).mono ?_)
                rintro e w3 ⟨rfl, hb⟩; exact ⟨_, rfl, rfl, hb⟩
              · intro a w2 hB hF hd
                refine flow_wanted (wanted_yes rfl rfl (hd 4 _ rfl (waits_spec rfl)) rfl) ?_
                exact flow_val (fun h => by cases h) (run_eql_arr true rfl (hd 6 _ rfl (waits_spec rfl)) (hd 8 _ rfl (waits_spec rfl)) Try.underlying26 (by kernel_rfl) (by kernel_rfl) (by kernel_rfl) (by kernel_rfl) (by kernel_rfl) sameB_self) rfl
              · intro a w2 hB hF hd
                rw [if_pos (wanted_none rfl)]
                exact flow_val (fun h => by cases h) (run_pick rfl (hd 4 _ rfl (waits_spec rfl))) ((hd 9 _ rfl (waits_spec rfl)))
              · intro a w2 hB hF hd
                rw [if_pos (wanted_none rfl)]
                exact flow_move _ (.inr rfl) (by simp) (hd 10 _ rfl (waits_spec rfl))
            · intro a wa hB hF hS
              have ha := puts_each rfl rfl hF [_, _, _, _, _, _, _, _, _, _, _, _] rfl ⟨hS 0 _ rfl, hS 1 _ rfl, hS 2 _ rfl, hS 3 _ rfl, hS 4 _ rfl, hS 5 _ rfl, hS 6 _ rfl, hS 7 _ rfl, hS 8 _ rfl, hS 9 _ rfl, hS 10 _ rfl, hS 11 _ rfl, trivial⟩
              simp only [puts, Act.put, List.setIfInBounds_toArray, List.set_cons_succ, List.set_cons_zero] at ha
              subst ha
              clear hS hF
              have hba := hb9.trans (hB.mono hb9.size)
              clear hB hb9
              go_wp2
              go_ret
              exact ⟨rfl, hba⟩
end Go.Proofs.Ytgobodhcamgidaa
