/-
  bastilleref03.Primes, the law ShaKinds: walks. Conditions: named in each theorem.
-/
import Derived.Test.YtgobodhcamgidaaRtL
import Derived.Test.YtgobodhcamgidaaKdN
import Derived.Test.YtgobodhcamgidaaPtr
set_option linter.unusedVariables false
set_option linter.unusedSimpArgs false
namespace Go.Proofs.Ytgobodhcamgidaa
open Go.RowKit Go.Bas Go.ChangeShapes
attribute [local go_sem ↓] Go.wp_at_zero Go.wp_at_succ

set_option maxRecDepth 100000 in
set_option maxHeartbeats 3200000 in
theorem primes_any (w : World) : Calls Try.prog 24 #[.int .i64 80] w fun e w' => ∃ v, e = .returned v ∧ Go.Bas.Own .i64 3 w.heap.size w' v 80 prF ∧ Below w.heap.size w w' := by
  go_enter Try.func24, Try.ntmps24
  go_wp2
  go_loopw [3, 4] (fun v i wr => ∃ p : Nat, 2 ≤ p ∧ p ≤ 410 ∧ i = .int .i64 (p : Int) ∧ Go.Bas.Own .i64 3 w.heap.size wr v (cntP p) prF ∧ Below w.heap.size w wr) (fun _ i _ => 410 - (intOf i).toNat)
  case atStart => exact ⟨2, by decide, by decide, rfl, by rw [cntP_2]; exact Go.Bas.Own.nil _ _ _ _ _, Below.refl _ _⟩
  case round =>
    obtain ⟨p, p2, p3, rfl, ho, hbel⟩ := hrel
    have hs := hbel.size
    have HO := Lib.hid ho
    obtain ⟨la, lc, rfl, l1, l2, _, _⟩ := ho.rd
    obtain ⟨m, hm⟩ : ∃ m, m = cntP p := ⟨_, rfl⟩
    have HM := Lib.hid hm
    rw [← hm] at HO l1 ⊢
    clear ho hm
    by_cases hlt : p < 410
    · obtain ⟨⟨hyes, hno⟩, hm80⟩ := cntP_step ⟨p, hlt⟩ p2
      rw [show (⟨p, hlt⟩ : Fin 410).val = p from rfl, ← HM.out] at hm80
      have hm' : m ≤ 79 := by omega
      have HYES : Hid ((∀ j : Nat, j < m → (p : Int) % prF j ≠ 0) → (p : Int) = prF m ∧ cntP (p + 1) = m + 1) := fun h => by rw [HM.out]; exact hyes fun j hj => h j.val (by rw [HM.out]; exact hj)
      have HNO : Hid (¬ (∀ j : Nat, j < m → (p : Int) % prF j ≠ 0) → cntP (p + 1) = m) := fun h => by rw [HM.out]; exact hno fun h2 => h fun j hj => h2 ⟨j, by omega⟩ (by show j < cntP p; rw [← HM.out]; exact hj)
      clear hyes hno hm80
      obtain ⟨wp, hwp⟩ : ∃ wp, wp = wr := ⟨_, rfl⟩
      subst hwp
      go_wp2
      go_loop [5, 6] (fun b i => ∃ (k : Nat) (y : Bool), k ≤ m ∧ i = .int .i64 (k : Int) ∧ b = .bool y ∧ Hid (y = true ↔ ∀ j : Nat, j < k → (p : Int) % prF j ≠ 0)) (fun _ i => m - (intOf i).toNat)
      case atStart => exact ⟨0, true, Nat.zero_le _, rfl, rfl, by unfold Hid; simp⟩
      case round =>
        obtain ⟨k, y, hk, rfl, rfl, hy⟩ := hrel
        by_cases hkt : k < m
        · obtain ⟨b, o, rfl, hb, hc⟩ := HO.out.rd.formAt (by omega)
          obtain ⟨q, hq⟩ : ∃ q, q = prF k := ⟨_, rfl⟩
          have q2 := prF_bound (show k < 80 by omega)
          rw [← hq] at q2
          obtain ⟨q2, q3⟩ := q2
          have ck : wp.cell? ⟨b, o + k, none⟩ = some (.int .i64 q) := by rw [hq]; exact hc k hkt
          have HQ := Lib.hid hq
          obtain ⟨r, hr⟩ : ∃ r, r = (p : Int) % q := ⟨_, rfl⟩
          have HR := Lib.hid hr
          have hrt : Int.tmod (p : Int) q = r := by rw [Int.tmod_eq_emod_of_nonneg (by omega), hr]
          have hre : (p : Int) % q = r := hr.symm
          have hq0 : q ≠ 0 := by omega
          clear hq hc hr
          by_cases hz : r = 0
          · have HZ : Hid ((false : Bool) = true ↔ ∀ j : Nat, j < k + 1 → (p : Int) % prF j ≠ 0) := by
              unfold Hid
              refine ⟨(fun h => Bool.noConfusion h), fun h => absurd (h k (by omega)) ?_⟩
              rw [← HQ.out, ← HR.out, hz]; simp
            subst hz
            clear HR
            go_wp2
            go_round
            case rel => exact ⟨k + 1, false, by omega, by go_num, rfl, HZ⟩
            case measure => simp [intOf]; omega
          · have HZ : Hid (y = true ↔ ∀ j : Nat, j < k + 1 → (p : Int) % prF j ≠ 0) := by
              unfold Hid
              rw [hy.out]
              refine ⟨fun h j hj => ?_, fun h j hj => h j (by omega)⟩
              by_cases hjk : j = k
              · subst hjk; rw [← HQ.out, ← HR.out]; exact hz
              · exact h j (by omega)
            have hzb : (r == 0) = false := by simpa using hz
            clear HR
            go_wp2
            go_round
            case rel => exact ⟨k + 1, y, by omega, by go_num, rfl, HZ⟩
            case measure => simp [intOf]; omega
        · obtain rfl : k = m := by omega
          cases y with
          | true =>
            obtain ⟨h1, h2⟩ := HYES.out (hy.out.1 rfl)
            have H1 := Lib.hid h1
            have H2 := Lib.hid h2
            clear h1 h2 HYES HNO hy
            go_wp2_with (at_builtin; refine append_new rfl _ _ 44 rfl w.heap.size 3 .i64 8 Try.underlying44 Try.info3 _ k prF _ _ rfl HO.out rfl 1 rfl rfl ?_ (by omega) (by omega) (by omega) ?_; rotate_right; intro v' w6 hown hgrow)
            · go_roundw
              case rel => exact ⟨p + 1, by omega, by omega, by go_num, by rw [H2.out]; exact hown, below_grown (hbel.alloc hs _) hgrow HO.out (by simp; omega) (Nat.le_refl _)⟩
              case measure => simp [intOf] <;> omega
            · first | exact H1.out | (intro i hi; exact one0 hi (by rw [show k + i = k by omega]; exact H1.out))
          | false =>
            have H2 := Lib.hid (HNO.out fun h => by have := hy.out.2 h; cases this)
            clear HYES HNO hy
            go_wp2
            go_roundw
            case rel => exact ⟨p + 1, by omega, by omega, by go_num, by rw [H2.out]; exact HO.out, hbel⟩
            case measure => simp [intOf] <;> omega
    · obtain rfl : p = 410 := by omega
      rw [cntP_top] at HM
      obtain rfl : m = 80 := HM.out
      clear HM
      go_wp2
      go_ret
      exact ⟨_, rfl, HO.out, hbel⟩

theorem rootC_any {i : Nat} (hi : i < 80) (w : World) : Calls Try.prog 21 #[.int .i64 (prF i), .int .i64 3] w fun e w' => e = .returned (.tuple #[.int .u64 (kK i), .int .i64 0]) ∧ Below w.heap.size w w' :=
  (root_any (prF i) 3 (.inr rfl) (prF_bound hi).1 (by have := prF_bound hi; omega) w).mono fun e w' ⟨X, hX, he, hb⟩ => ⟨by rw [he, isRoot_unique hX (rootC_is hi), rootC_mod hi], hb⟩
theorem rootQ_any {i : Nat} (hi : i < 8) (w : World) : Calls Try.prog 21 #[.int .i64 (prF i), .int .i64 2] w fun e w' => e = .returned (.tuple #[.int .u64 (kB i), .int .i64 0]) ∧ Below w.heap.size w w' :=
  (root_any (prF i) 2 (.inl rfl) (prF_bound (by omega)).1 (by have := prF_bound (show i < 80 by omega); omega) w).mono fun e w' ⟨X, hX, he, hb⟩ => ⟨by rw [he, isRoot_unique hX (rootQ_is hi), rootQ_mod hi], hb⟩
theorem rRootC_any {i : Nat} (hi : i < 80) (w : World) : Calls Try.prog 22 #[.int .i64 (prF i), .int .i64 3] w fun e w' => e = .returned (.int .u64 (kK i)) ∧ Below w.heap.size w w' :=
  (rRoot_any (prF i) 3 (.inr rfl) (prF_bound hi).1 (by have := prF_bound hi; omega) w).mono fun e w' ⟨X, hX, he, hb⟩ => ⟨by rw [he, isRoot_unique hX (rootC_is hi), rootC_mod hi], hb⟩
theorem rRootQ_any {i : Nat} (hi : i < 8) (w : World) : Calls Try.prog 22 #[.int .i64 (prF i), .int .i64 2] w fun e w' => e = .returned (.int .u64 (kB i)) ∧ Below w.heap.size w w' :=
  (rRoot_any (prF i) 2 (.inl rfl) (prF_bound (by omega)).1 (by have := prF_bound (show i < 80 by omega); omega) w).mono fun e w' ⟨X, hX, he, hb⟩ => ⟨by rw [he, isRoot_unique hX (rootQ_is hi), rootQ_mod hi], hb⟩
theorem told_rd (w : World) : Calls Try.prog 25 #[] w fun e w' => ∃ v, e = .returned v ∧ Rd .u64 w' v 80 kK ∧ Below w.heap.size w w' :=
  (told_any w).mono fun _ _ ⟨v, h1, h2, h3⟩ => ⟨v, h1, h2.rd, h3⟩
theorem rBegin_rd (w : World) : Calls Try.prog 26 #[] w fun e w' => ∃ v, e = .returned v ∧ Rd .u64 w' v 8 kB ∧ Below w.heap.size w w' :=
  (rBegin_any w).mono fun _ _ ⟨v, h1, h2, h3⟩ => ⟨v, h1, h2.rd, h3⟩

set_option maxRecDepth 100000 in
set_option maxHeartbeats 6400000 in
theorem shaKinds_law (w : World) (t : Int) (ht : (Lit.int .u8 t).wf = true) :
    Calls Try.prog 6 #[.int .u8 t] w fun e w' => e = .returned (.bool true) ∧ Below w.heap.size w w' := by
  have tb := bounds_u8 ht
  obtain ⟨t0, t1⟩ := tb
  obtain ⟨i, hi⟩ : ∃ i : Nat, (i : Int) = t % 80 := ⟨(t % 80).toNat, by omega⟩
  have hi80 : i < 80 := by omega
  have hm1 : Int.tmod t 80 = (i : Int) := by rw [Int.tmod_eq_emod_of_nonneg t0, hi]
  have hm2 : t % 80 = (i : Int) := hi.symm
  obtain ⟨j, hj⟩ : ∃ j : Nat, j = i % 8 := ⟨_, rfl⟩
  have hj8 : j < 8 := by omega
  have hm3 : Int.tmod (i : Int) 8 = (j : Int) := by rw [Int.tmod_eq_emod_of_nonneg (by omega)]; omega
  have hm4 : (i : Int) % 8 = (j : Int) := by omega
  have HM3 := Lib.hid hm3
  have HM4 := Lib.hid hm4
  have HRC := Lib.hid (fun w => rootC_any hi80 w)
  have HRQ := Lib.hid (fun w => rootQ_any hj8 w)
  have HRRC := Lib.hid (fun w => rRootC_any hi80 w)
  have HRRQ := Lib.hid (fun w => rRootQ_any hj8 w)
  obtain ⟨kc, hkc⟩ : ∃ kc, kc = kK i := ⟨_, rfl⟩
  obtain ⟨kq, hkq⟩ : ∃ kq, kq = kB j := ⟨_, rfl⟩
  rw [← hkc] at HRC HRRC
  rw [← hkq] at HRQ HRRQ
  have HKC := Lib.hid hkc
  have HKQ := Lib.hid hkq
  clear ht hi hj hkc hkq hm3 hm4
  go_enter Try.func6, Try.ntmps6
  go_wp2_with fail
  refine (shAwake_any _).mono ?_
  rintro e w1 ⟨rfl, hb1⟩
  go_wp2_with fail
  refine (kinds_any _).mono ?_
  rintro e w2 ⟨rfl, hb2⟩
  have hb12 := hb1.trans (hb2.mono hb1.size)
  clear hb1 hb2 hm1 hm2
  go_upto_region 5 with (refine store_arr rfl 42 _ _ rfl .u64 w2.heap.size 80 (fun _ => 0) kK Try.size42 rfl rfl (Arr.newAt rfl (by rfl)) ?_)
  refine wp_world (fun w3 => Arr .u64 w3 w2.heap.size 80 kK ∧ Below w.heap.size w w3) ⟨(Arr.newAt rfl (by rfl) : Arr .u64 _ _ 80 (fun _ => 0)).setRow _ _, below_setRow' (hb12.alloc hb12.size _) hb12.size _⟩ ?_
  rintro w3 ⟨hA, hb3⟩
  obtain ⟨q, hq⟩ : ∃ q, q = w2.heap.size := ⟨_, rfl⟩
  rw [← hq] at hA ⊢
  clear hq hb12
  simp only [Act.put]
  go_wp2_with fail
  refine (primes_any _).mono ?_
  rintro e w4 ⟨v, rfl, ho, hb4⟩
  have hrd := ho.rd
  obtain ⟨pa, pc, rfl, p1, p2, _, _⟩ := id hrd
  have HRD := Lib.hid hrd
  have hA4 := hA.kept hb4
  have hb34 := hb3.trans (hb4.mono hb3.size)
  obtain ⟨b, o, rfl, hbl, hc⟩ := HRD.out.formAt (by decide)
  have c1 : w4.cell? ⟨b, o + i, none⟩ = some (.int .i64 (prF i)) := hc i hi80
  clear ho hrd hA hb3 hb4 hc
  go_wp2_with fail
  refine (HRC.out _).mono ?_
  rintro e w5 ⟨rfl, hb5⟩
  have hA5 := hA4.kept hb5
  have hb45 := hb34.trans (hb5.mono hb34.size)
  have HRD5 := Lib.hid (HRD.out.below hb5)
  obtain ⟨b', o', he, hbl5, hc⟩ := HRD5.out.formAt (by decide)
  simp only [Option.some.injEq, Addr.mk.injEq, and_true] at he
  obtain ⟨rfl, rfl⟩ := he
  have c2 : w5.cell? ⟨b, o + j, none⟩ = some (.int .i64 (prF j)) := hc j (by omega)
  have hm3 := HM3.out
  have hm4 := HM4.out
  clear hA4 hb5 hb34 HRD c1 hc
  go_wp2_with fail
  refine (HRQ.out _).mono ?_
  rintro e w6 ⟨rfl, hb6⟩
  have hA6 := hA5.kept hb6
  have hb56 := hb45.trans (hb6.mono hb45.size)
  have HRD6 := Lib.hid (HRD5.out.below hb6)
  clear hA5 hb6 hb45 HRD5 c2 hm3 hm4
  go_upto_region 8 with (fail)
  refine region_flow (n := 83) (by kernel_rfl) (by kernel_rfl) (by kernel_rfl) rfl
    (fun ii vv ww => (match ii with | 0 | 3 => vv = .int .i64 (0) | 1 | 2 | 4 | 5 | 6 | 11 | 12 | 13 | 19 | 20 | 21 | 28 | 29 | 30 | 37 | 38 | 39 | 47 | 48 | 49 => vv = .bool true | 7 | 15 | 23 | 32 | 41 => vv = .int .i64 ((i : Int)) | 8 => vv = .pointer (some ⟨q, i, none⟩) | 9 | 10 | 17 | 18 | 26 | 27 => vv = .int .u64 (kc) | 22 | 40 => vv = .slice (some ⟨b, o, none⟩) 80 pc | 24 => vv = .pointer (some ⟨b, o + i, none⟩) | 25 => vv = .int .i64 (prF i) | 33 | 42 => vv = .int .i64 ((j : Int)) | 35 | 36 | 45 | 46 => vv = .int .u64 (kq) | 43 => vv = .pointer (some ⟨b, o + j, none⟩) | 44 => vv = .int .i64 (prF j) | _ => True) ∧ (ii = 14 → Rd .u64 ww vv 80 (kK)) ∧ (ii = 16 → PtrI .u64 ww vv ((kK) (i))) ∧ (ii = 31 → Rd .u64 ww vv 8 (kB)) ∧ (ii = 34 → PtrI .u64 ww vv ((kB) (j))))
    (fun w w' => Below w.heap.size w w') (fun _ _ h => h) (fun i v w w' h hE => ⟨h.1, fun e => Rd.below (h.2.1 e) hE, fun e => PtrI.below (h.2.2.1 e) hE, fun e => Rd.below (h.2.2.2.1 e) hE, fun e => PtrI.below (h.2.2.2.2 e) hE⟩) ?_ ?_
  · refine Each.all ?_
    refine ⟨?_, ?_, ?_, ?_, ?_, ?_, ?_, ?_, ?_, ?_, ?_, ?_, ?_, ?_, ?_, ?_, ?_, ?_, ?_, ?_, ?_, ?_, ?_, ?_, ?_, ?_, ?_, ?_, ?_, ?_, ?_, ?_, ?_, ?_, ?_, ?_, ?_, ?_, ?_, ?_, ?_, ?_, ?_, ?_, ?_, ?_, ?_, ?_, ?_, ?_, trivial⟩
    · intro a w2 hB hF hd
      rw [if_pos (wanted_none rfl)]
      exact flow_move _ (.inl rfl) (by simp) ⟨(hF.same 7 rfl), fun h => absurd h (by decide), fun h => absurd h (by decide), fun h => absurd h (by decide), fun h => absurd h (by decide)⟩
    · intro a w2 hB hF hd
      rw [if_pos (wanted_none rfl)]
      refine flow_val (fun h => by cases h) (Go.Bas.run_eql_int rfl ((hd 0 _ rfl (waits_spec rfl)).1) rfl) ?_
      exact ⟨rfl, fun h => absurd h (by decide), fun h => absurd h (by decide), fun h => absurd h (by decide), fun h => absurd h (by decide)⟩
    · intro a w2 hB hF hd
      rw [if_pos (wanted_none rfl)]
      exact flow_move _ (.inl rfl) (by simp) ⟨((hd 1 _ rfl (waits_spec rfl)).1), fun h => absurd h (by decide), fun h => absurd h (by decide), fun h => absurd h (by decide), fun h => absurd h (by decide)⟩
    · intro a w2 hB hF hd
      refine flow_wanted (wanted_yes rfl rfl ((hd 2 _ rfl (waits_spec rfl)).1) rfl) ?_
      exact flow_move _ (.inl rfl) (by simp) ⟨(hF.same 9 rfl), fun h => absurd h (by decide), fun h => absurd h (by decide), fun h => absurd h (by decide), fun h => absurd h (by decide)⟩
    · intro a w2 hB hF hd
      refine flow_wanted (wanted_yes rfl rfl ((hd 2 _ rfl (waits_spec rfl)).1) rfl) ?_
      refine flow_val (fun h => by cases h) (Go.Bas.run_eql_int rfl ((hd 3 _ rfl (waits_spec rfl)).1) rfl) ?_
      exact ⟨rfl, fun h => absurd h (by decide), fun h => absurd h (by decide), fun h => absurd h (by decide), fun h => absurd h (by decide)⟩
    · intro a w2 hB hF hd
      rw [if_pos (wanted_none rfl)]
      exact flow_val (fun h => by cases h) (run_pick rfl ((hd 2 _ rfl (waits_spec rfl)).1)) ⟨(((hd 4 _ rfl (waits_spec rfl)).1)), fun h => absurd h (by decide), fun h => absurd h (by decide), fun h => absurd h (by decide), fun h => absurd h (by decide)⟩
    · intro a w2 hB hF hd
      rw [if_pos (wanted_none rfl)]
      exact flow_move _ (.inl rfl) (by simp) ⟨((hd 5 _ rfl (waits_spec rfl)).1), fun h => absurd h (by decide), fun h => absurd h (by decide), fun h => absurd h (by decide), fun h => absurd h (by decide)⟩
    · intro a w2 hB hF hd
      refine flow_wanted (wanted_yes rfl rfl ((hd 6 _ rfl (waits_spec rfl)).1) rfl) ?_
      exact flow_move _ (.inl rfl) (by simp) ⟨(hF.same 3 rfl), fun h => absurd h (by decide), fun h => absurd h (by decide), fun h => absurd h (by decide), fun h => absurd h (by decide)⟩
    · intro a w2 hB hF hd
      refine flow_wanted (wanted_yes rfl rfl ((hd 6 _ rfl (waits_spec rfl)).1) rfl) ?_
      exact flow_val (fun h => by cases h) (run_index_addr rfl (hF.same 4 rfl) ((hd 7 _ rfl (waits_spec rfl)).1) Try.underlying42 (by kernel_rfl) (by omega) (by omega)) ⟨rfl, fun h => absurd h (by decide), fun h => absurd h (by decide), fun h => absurd h (by decide), fun h => absurd h (by decide)⟩
    · intro a w2 hB hF hd
      refine flow_wanted (wanted_yes rfl rfl ((hd 6 _ rfl (waits_spec rfl)).1) rfl) ?_
      exact flow_val (fun h => by cases h) (run_load_cell rfl ((hd 8 _ rfl (waits_spec rfl)).1) Try.underlying36 (((hA6.kept hB).cell i hi80).trans (by rw [HKC.out]))) ⟨rfl, fun h => absurd h (by decide), fun h => absurd h (by decide), fun h => absurd h (by decide), fun h => absurd h (by decide)⟩
    · intro a w2 hB hF hd
      refine flow_wanted (wanted_yes rfl rfl ((hd 6 _ rfl (waits_spec rfl)).1) rfl) ?_
      exact flow_move _ (.inl rfl) (by simp) ⟨(hF.same 6 rfl), fun h => absurd h (by decide), fun h => absurd h (by decide), fun h => absurd h (by decide), fun h => absurd h (by decide)⟩
    · intro a w2 hB hF hd
      refine flow_wanted (wanted_yes rfl rfl ((hd 6 _ rfl (waits_spec rfl)).1) rfl) ?_
      refine flow_val (fun h => by cases h) (Go.Bas.run_eql_int rfl ((hd 9 _ rfl (waits_spec rfl)).1) ((hd 10 _ rfl (waits_spec rfl)).1)) ?_
      exact ⟨(congrArg Value.bool (beq_self_eq_true _)), fun h => absurd h (by decide), fun h => absurd h (by decide), fun h => absurd h (by decide), fun h => absurd h (by decide)⟩
    · intro a w2 hB hF hd
      rw [if_pos (wanted_none rfl)]
      exact flow_val (fun h => by cases h) (run_pick rfl ((hd 6 _ rfl (waits_spec rfl)).1)) ⟨(((hd 11 _ rfl (waits_spec rfl)).1)), fun h => absurd h (by decide), fun h => absurd h (by decide), fun h => absurd h (by decide), fun h => absurd h (by decide)⟩
    · intro a w2 hB hF hd
      rw [if_pos (wanted_none rfl)]
      exact flow_move _ (.inl rfl) (by simp) ⟨((hd 12 _ rfl (waits_spec rfl)).1), fun h => absurd h (by decide), fun h => absurd h (by decide), fun h => absurd h (by decide), fun h => absurd h (by decide)⟩
    · intro a w2 hB hF hd
      refine flow_wanted (wanted_yes rfl rfl ((hd 13 _ rfl (waits_spec rfl)).1) rfl) ?_
      refine flow_call _ _ _ rfl Try.call25 _ args0 (by simp) ((told_rd _).mono ?_)
      rintro e w3 ⟨u, rfl, hr, hb⟩; exact ⟨u, rfl, ⟨trivial, fun _ => hr, fun h => absurd h (by decide), fun h => absurd h (by decide), fun h => absurd h (by decide)⟩, hb⟩
    · intro a w2 hB hF hd
      refine flow_wanted (wanted_yes rfl rfl ((hd 13 _ rfl (waits_spec rfl)).1) rfl) ?_
      exact flow_move _ (.inl rfl) (by simp) ⟨(hF.same 3 rfl), fun h => absurd h (by decide), fun h => absurd h (by decide), fun h => absurd h (by decide), fun h => absurd h (by decide)⟩
    · intro a w2 hB hF hd
      refine flow_wanted (wanted_yes rfl rfl ((hd 13 _ rfl (waits_spec rfl)).1) rfl) ?_
      refine flow_valE (fun h => by cases h) (run_index_rd (i := i) rfl rfl (((hd 14 _ rfl (waits_spec rfl)).2.1 rfl)) ((hd 15 _ rfl (waits_spec rfl)).1) Try.underlying46 (by kernel_rfl) hi80) ?_
      intro vq hq2
      exact ⟨trivial, fun h => absurd h (by decide), fun _ => hq2, fun h => absurd h (by decide), fun h => absurd h (by decide)⟩
    · intro a w2 hB hF hd
      refine flow_wanted (wanted_yes rfl rfl ((hd 13 _ rfl (waits_spec rfl)).1) rfl) ?_
      exact flow_val (fun h => by cases h) (run_load_ptr rfl rfl ((hd 16 _ rfl (waits_spec rfl)).2.2.1 rfl) Try.underlying36) ⟨(congrArg (Value.int .u64) (HKC.out.symm)), fun h => absurd h (by decide), fun h => absurd h (by decide), fun h => absurd h (by decide), fun h => absurd h (by decide)⟩
    · intro a w2 hB hF hd
      refine flow_wanted (wanted_yes rfl rfl ((hd 13 _ rfl (waits_spec rfl)).1) rfl) ?_
      exact flow_move _ (.inl rfl) (by simp) ⟨(hF.same 6 rfl), fun h => absurd h (by decide), fun h => absurd h (by decide), fun h => absurd h (by decide), fun h => absurd h (by decide)⟩
    · intro a w2 hB hF hd
      refine flow_wanted (wanted_yes rfl rfl ((hd 13 _ rfl (waits_spec rfl)).1) rfl) ?_
      refine flow_val (fun h => by cases h) (Go.Bas.run_eql_int rfl ((hd 17 _ rfl (waits_spec rfl)).1) ((hd 18 _ rfl (waits_spec rfl)).1)) ?_
      exact ⟨(congrArg Value.bool (beq_self_eq_true _)), fun h => absurd h (by decide), fun h => absurd h (by decide), fun h => absurd h (by decide), fun h => absurd h (by decide)⟩
    · intro a w2 hB hF hd
      rw [if_pos (wanted_none rfl)]
      exact flow_val (fun h => by cases h) (run_pick rfl ((hd 13 _ rfl (waits_spec rfl)).1)) ⟨(((hd 19 _ rfl (waits_spec rfl)).1)), fun h => absurd h (by decide), fun h => absurd h (by decide), fun h => absurd h (by decide), fun h => absurd h (by decide)⟩
    · intro a w2 hB hF hd
      rw [if_pos (wanted_none rfl)]
      exact flow_move _ (.inl rfl) (by simp) ⟨((hd 20 _ rfl (waits_spec rfl)).1), fun h => absurd h (by decide), fun h => absurd h (by decide), fun h => absurd h (by decide), fun h => absurd h (by decide)⟩
    · intro a w2 hB hF hd
      refine flow_wanted (wanted_yes rfl rfl ((hd 21 _ rfl (waits_spec rfl)).1) rfl) ?_
      exact flow_move _ (.inl rfl) (by simp) ⟨(hF.same 5 rfl), fun h => absurd h (by decide), fun h => absurd h (by decide), fun h => absurd h (by decide), fun h => absurd h (by decide)⟩
    · intro a w2 hB hF hd
      refine flow_wanted (wanted_yes rfl rfl ((hd 21 _ rfl (waits_spec rfl)).1) rfl) ?_
      exact flow_move _ (.inl rfl) (by simp) ⟨(hF.same 3 rfl), fun h => absurd h (by decide), fun h => absurd h (by decide), fun h => absurd h (by decide), fun h => absurd h (by decide)⟩
    · intro a w2 hB hF hd
      refine flow_wanted (wanted_yes rfl rfl ((hd 21 _ rfl (waits_spec rfl)).1) rfl) ?_
      exact flow_val (fun h => by cases h) (run_index_slice rfl ((hd 22 _ rfl (waits_spec rfl)).1) ((hd 23 _ rfl (waits_spec rfl)).1) Try.underlying44 (by kernel_rfl) (by omega) (by omega)) ⟨rfl, fun h => absurd h (by decide), fun h => absurd h (by decide), fun h => absurd h (by decide), fun h => absurd h (by decide)⟩
    · intro a w2 hB hF hd
      refine flow_wanted (wanted_yes rfl rfl ((hd 21 _ rfl (waits_spec rfl)).1) rfl) ?_
      exact flow_val (fun h => by cases h) (run_load_cell rfl ((hd 24 _ rfl (waits_spec rfl)).1) Try.underlying3 ((Rd.at' (HRD6.out.below hB) hi80).1)) ⟨rfl, fun h => absurd h (by decide), fun h => absurd h (by decide), fun h => absurd h (by decide), fun h => absurd h (by decide)⟩
    · intro a w2 hB hF hd
      refine flow_wanted (wanted_yes rfl rfl ((hd 21 _ rfl (waits_spec rfl)).1) rfl) ?_
      refine flow_call _ _ _ rfl Try.call22 _ (args2 ((hd 25 _ rfl (waits_spec rfl)).1) rfl) (by simp) ((HRRC.out _).mono ?_)
      rintro e w3 ⟨rfl, hb⟩; exact ⟨_, rfl, ⟨rfl, fun h => absurd h (by decide), fun h => absurd h (by decide), fun h => absurd h (by decide), fun h => absurd h (by decide)⟩, hb⟩
    · intro a w2 hB hF hd
      refine flow_wanted (wanted_yes rfl rfl ((hd 21 _ rfl (waits_spec rfl)).1) rfl) ?_
      exact flow_move _ (.inl rfl) (by simp) ⟨(hF.same 6 rfl), fun h => absurd h (by decide), fun h => absurd h (by decide), fun h => absurd h (by decide), fun h => absurd h (by decide)⟩
    · intro a w2 hB hF hd
      refine flow_wanted (wanted_yes rfl rfl ((hd 21 _ rfl (waits_spec rfl)).1) rfl) ?_
      refine flow_val (fun h => by cases h) (Go.Bas.run_eql_int rfl ((hd 26 _ rfl (waits_spec rfl)).1) ((hd 27 _ rfl (waits_spec rfl)).1)) ?_
      exact ⟨(congrArg Value.bool (beq_self_eq_true _)), fun h => absurd h (by decide), fun h => absurd h (by decide), fun h => absurd h (by decide), fun h => absurd h (by decide)⟩
    · intro a w2 hB hF hd
      rw [if_pos (wanted_none rfl)]
      exact flow_val (fun h => by cases h) (run_pick rfl ((hd 21 _ rfl (waits_spec rfl)).1)) ⟨(((hd 28 _ rfl (waits_spec rfl)).1)), fun h => absurd h (by decide), fun h => absurd h (by decide), fun h => absurd h (by decide), fun h => absurd h (by decide)⟩
    · intro a w2 hB hF hd
      rw [if_pos (wanted_none rfl)]
      exact flow_move _ (.inl rfl) (by simp) ⟨((hd 29 _ rfl (waits_spec rfl)).1), fun h => absurd h (by decide), fun h => absurd h (by decide), fun h => absurd h (by decide), fun h => absurd h (by decide)⟩
    · intro a w2 hB hF hd
      refine flow_wanted (wanted_yes rfl rfl ((hd 30 _ rfl (waits_spec rfl)).1) rfl) ?_
      refine flow_call _ _ _ rfl Try.call26 _ args0 (by simp) ((rBegin_rd _).mono ?_)
      rintro e w3 ⟨u, rfl, hr, hb⟩; exact ⟨u, rfl, ⟨trivial, fun h => absurd h (by decide), fun h => absurd h (by decide), fun _ => hr, fun h => absurd h (by decide)⟩, hb⟩
    · intro a w2 hB hF hd
      refine flow_wanted (wanted_yes rfl rfl ((hd 30 _ rfl (waits_spec rfl)).1) rfl) ?_
      exact flow_move _ (.inl rfl) (by simp) ⟨(hF.same 3 rfl), fun h => absurd h (by decide), fun h => absurd h (by decide), fun h => absurd h (by decide), fun h => absurd h (by decide)⟩
    · intro a w2 hB hF hd
      refine flow_wanted (wanted_yes rfl rfl ((hd 30 _ rfl (waits_spec rfl)).1) rfl) ?_
      exact flow_val (fun h => by cases h) (Go.Bas.run_rem rfl ((hd 32 _ rfl (waits_spec rfl)).1) rfl (by decide)) ⟨(congrArg (Value.int .i64) (HM3.out)), fun h => absurd h (by decide), fun h => absurd h (by decide), fun h => absurd h (by decide), fun h => absurd h (by decide)⟩
    · intro a w2 hB hF hd
      refine flow_wanted (wanted_yes rfl rfl ((hd 30 _ rfl (waits_spec rfl)).1) rfl) ?_
      refine flow_valE (fun h => by cases h) (run_index_rd (i := j) rfl rfl (((hd 31 _ rfl (waits_spec rfl)).2.2.2.1 rfl)) ((hd 33 _ rfl (waits_spec rfl)).1) Try.underlying46 (by kernel_rfl) hj8) ?_
      intro vq hq2
      exact ⟨trivial, fun h => absurd h (by decide), fun h => absurd h (by decide), fun h => absurd h (by decide), fun _ => hq2⟩
    · intro a w2 hB hF hd
      refine flow_wanted (wanted_yes rfl rfl ((hd 30 _ rfl (waits_spec rfl)).1) rfl) ?_
      exact flow_val (fun h => by cases h) (run_load_ptr rfl rfl ((hd 34 _ rfl (waits_spec rfl)).2.2.2.2 rfl) Try.underlying36) ⟨(congrArg (Value.int .u64) (HKQ.out.symm)), fun h => absurd h (by decide), fun h => absurd h (by decide), fun h => absurd h (by decide), fun h => absurd h (by decide)⟩
    · intro a w2 hB hF hd
      refine flow_wanted (wanted_yes rfl rfl ((hd 30 _ rfl (waits_spec rfl)).1) rfl) ?_
      exact flow_move _ (.inl rfl) (by simp) ⟨(hF.same 8 rfl), fun h => absurd h (by decide), fun h => absurd h (by decide), fun h => absurd h (by decide), fun h => absurd h (by decide)⟩
    · intro a w2 hB hF hd
      refine flow_wanted (wanted_yes rfl rfl ((hd 30 _ rfl (waits_spec rfl)).1) rfl) ?_
      refine flow_val (fun h => by cases h) (Go.Bas.run_eql_int rfl ((hd 35 _ rfl (waits_spec rfl)).1) ((hd 36 _ rfl (waits_spec rfl)).1)) ?_
      exact ⟨(congrArg Value.bool (beq_self_eq_true _)), fun h => absurd h (by decide), fun h => absurd h (by decide), fun h => absurd h (by decide), fun h => absurd h (by decide)⟩
    · intro a w2 hB hF hd
      rw [if_pos (wanted_none rfl)]
      exact flow_val (fun h => by cases h) (run_pick rfl ((hd 30 _ rfl (waits_spec rfl)).1)) ⟨(((hd 37 _ rfl (waits_spec rfl)).1)), fun h => absurd h (by decide), fun h => absurd h (by decide), fun h => absurd h (by decide), fun h => absurd h (by decide)⟩
    · intro a w2 hB hF hd
      rw [if_pos (wanted_none rfl)]
      exact flow_move _ (.inl rfl) (by simp) ⟨((hd 38 _ rfl (waits_spec rfl)).1), fun h => absurd h (by decide), fun h => absurd h (by decide), fun h => absurd h (by decide), fun h => absurd h (by decide)⟩
    · intro a w2 hB hF hd
      refine flow_wanted (wanted_yes rfl rfl ((hd 39 _ rfl (waits_spec rfl)).1) rfl) ?_
      exact flow_move _ (.inl rfl) (by simp) ⟨(hF.same 5 rfl), fun h => absurd h (by decide), fun h => absurd h (by decide), fun h => absurd h (by decide), fun h => absurd h (by decide)⟩
    · intro a w2 hB hF hd
      refine flow_wanted (wanted_yes rfl rfl ((hd 39 _ rfl (waits_spec rfl)).1) rfl) ?_
      exact flow_move _ (.inl rfl) (by simp) ⟨(hF.same 3 rfl), fun h => absurd h (by decide), fun h => absurd h (by decide), fun h => absurd h (by decide), fun h => absurd h (by decide)⟩
    · intro a w2 hB hF hd
      refine flow_wanted (wanted_yes rfl rfl ((hd 39 _ rfl (waits_spec rfl)).1) rfl) ?_
      exact flow_val (fun h => by cases h) (Go.Bas.run_rem rfl ((hd 41 _ rfl (waits_spec rfl)).1) rfl (by decide)) ⟨(congrArg (Value.int .i64) (HM3.out)), fun h => absurd h (by decide), fun h => absurd h (by decide), fun h => absurd h (by decide), fun h => absurd h (by decide)⟩
    · intro a w2 hB hF hd
      refine flow_wanted (wanted_yes rfl rfl ((hd 39 _ rfl (waits_spec rfl)).1) rfl) ?_
      exact flow_val (fun h => by cases h) (run_index_slice rfl ((hd 40 _ rfl (waits_spec rfl)).1) ((hd 42 _ rfl (waits_spec rfl)).1) Try.underlying44 (by kernel_rfl) (by omega) (by omega)) ⟨rfl, fun h => absurd h (by decide), fun h => absurd h (by decide), fun h => absurd h (by decide), fun h => absurd h (by decide)⟩
    · intro a w2 hB hF hd
      refine flow_wanted (wanted_yes rfl rfl ((hd 39 _ rfl (waits_spec rfl)).1) rfl) ?_
      exact flow_val (fun h => by cases h) (run_load_cell rfl ((hd 43 _ rfl (waits_spec rfl)).1) Try.underlying3 ((Rd.at' (HRD6.out.below hB) (show j < 80 by omega)).1)) ⟨rfl, fun h => absurd h (by decide), fun h => absurd h (by decide), fun h => absurd h (by decide), fun h => absurd h (by decide)⟩
    · intro a w2 hB hF hd
      refine flow_wanted (wanted_yes rfl rfl ((hd 39 _ rfl (waits_spec rfl)).1) rfl) ?_
      refine flow_call _ _ _ rfl Try.call22 _ (args2 ((hd 44 _ rfl (waits_spec rfl)).1) rfl) (by simp) ((HRRQ.out _).mono ?_)
      rintro e w3 ⟨rfl, hb⟩; exact ⟨_, rfl, ⟨rfl, fun h => absurd h (by decide), fun h => absurd h (by decide), fun h => absurd h (by decide), fun h => absurd h (by decide)⟩, hb⟩
    · intro a w2 hB hF hd
      refine flow_wanted (wanted_yes rfl rfl ((hd 39 _ rfl (waits_spec rfl)).1) rfl) ?_
      exact flow_move _ (.inl rfl) (by simp) ⟨(hF.same 8 rfl), fun h => absurd h (by decide), fun h => absurd h (by decide), fun h => absurd h (by decide), fun h => absurd h (by decide)⟩
    · intro a w2 hB hF hd
      refine flow_wanted (wanted_yes rfl rfl ((hd 39 _ rfl (waits_spec rfl)).1) rfl) ?_
      refine flow_val (fun h => by cases h) (Go.Bas.run_eql_int rfl ((hd 45 _ rfl (waits_spec rfl)).1) ((hd 46 _ rfl (waits_spec rfl)).1)) ?_
      exact ⟨(congrArg Value.bool (beq_self_eq_true _)), fun h => absurd h (by decide), fun h => absurd h (by decide), fun h => absurd h (by decide), fun h => absurd h (by decide)⟩
    · intro a w2 hB hF hd
      rw [if_pos (wanted_none rfl)]
      exact flow_val (fun h => by cases h) (run_pick rfl ((hd 39 _ rfl (waits_spec rfl)).1)) ⟨(((hd 47 _ rfl (waits_spec rfl)).1)), fun h => absurd h (by decide), fun h => absurd h (by decide), fun h => absurd h (by decide), fun h => absurd h (by decide)⟩
    · intro a w2 hB hF hd
      rw [if_pos (wanted_none rfl)]
      exact flow_move _ (.inr rfl) (by simp) ⟨((hd 48 _ rfl (waits_spec rfl)).1), fun h => absurd h (by decide), fun h => absurd h (by decide), fun h => absurd h (by decide), fun h => absurd h (by decide)⟩
  · intro a w7 hB hF hS
    obtain ⟨x48, hx48⟩ : ∃ x, x = a.tmps.getD 48 undef := ⟨_, rfl⟩
    obtain ⟨x50, hx50⟩ : ∃ x, x = a.tmps.getD 50 undef := ⟨_, rfl⟩
    obtain ⟨x65, hx65⟩ : ∃ x, x = a.tmps.getD 65 undef := ⟨_, rfl⟩
    obtain ⟨x68, hx68⟩ : ∃ x, x = a.tmps.getD 68 undef := ⟨_, rfl⟩
    have ha := puts_each rfl rfl hF [_, _, _, _, _, _, _, _, _, _, _, _, _, _, x48, _, x50, _, _, _, _, _, _, _, _, _, _, _, _, _, _, x65, _, _, x68, _, _, _, _, _, _, _, _, _, _, _, _, _, _, _] rfl ⟨(hS 0 _ rfl).1, (hS 1 _ rfl).1, (hS 2 _ rfl).1, (hS 3 _ rfl).1, (hS 4 _ rfl).1, (hS 5 _ rfl).1, (hS 6 _ rfl).1, (hS 7 _ rfl).1, (hS 8 _ rfl).1, (hS 9 _ rfl).1, (hS 10 _ rfl).1, (hS 11 _ rfl).1, (hS 12 _ rfl).1, (hS 13 _ rfl).1, hx48.symm, (hS 15 _ rfl).1, hx50.symm, (hS 17 _ rfl).1, (hS 18 _ rfl).1, (hS 19 _ rfl).1, (hS 20 _ rfl).1, (hS 21 _ rfl).1, (hS 22 _ rfl).1, (hS 23 _ rfl).1, (hS 24 _ rfl).1, (hS 25 _ rfl).1, (hS 26 _ rfl).1, (hS 27 _ rfl).1, (hS 28 _ rfl).1, (hS 29 _ rfl).1, (hS 30 _ rfl).1, hx65.symm, (hS 32 _ rfl).1, (hS 33 _ rfl).1, hx68.symm, (hS 35 _ rfl).1, (hS 36 _ rfl).1, (hS 37 _ rfl).1, (hS 38 _ rfl).1, (hS 39 _ rfl).1, (hS 40 _ rfl).1, (hS 41 _ rfl).1, (hS 42 _ rfl).1, (hS 43 _ rfl).1, (hS 44 _ rfl).1, (hS 45 _ rfl).1, (hS 46 _ rfl).1, (hS 47 _ rfl).1, (hS 48 _ rfl).1, (hS 49 _ rfl).1, trivial⟩
    simp only [puts, Act.put, List.setIfInBounds_toArray, List.set_cons_succ, List.set_cons_zero] at ha
    subst ha
    clear hx48 hx50 hx65 hx68
    clear hS hF
    have hb7 := hb56.trans (hB.mono hb56.size)
    go_wp2
    go_ret
    exact ⟨rfl, hb7⟩
end Go.Proofs.Ytgobodhcamgidaa
