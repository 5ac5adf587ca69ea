/-
  The law DeriveTags answers true: its walk. Conditions: named in each theorem.
-/
import Derived.Test.YtgobodhcamgidaaDr7
set_option linter.unusedVariables false
set_option linter.unusedSimpArgs false
namespace Go.Bas
theorem lens2_cut {f : Nat → Int} {i n : Nat} (h : i ≤ n) : (∀ j, j < 2 → ∀ x, x < catL 1 (fun _ => i) (fun _ => n - i) j → f (offs (catL 1 (fun _ => i) (fun _ => n - i)) j + x) = catG 1 (fun _ => f) (fun _ => fun x => f (i + x)) j x) ∧ offs (catL 1 (fun _ => i) (fun _ => n - i)) 2 = n := by
  constructor
  · intro j hj x hx
    rcases (by omega : j = 0 ∨ j = 1) with rfl | rfl
    · simp [offs, catG]
    · simp [offs, catG, catL]
  · simp [offs, catL]; omega
end Go.Bas
namespace Go.Proofs.Ytgobodhcamgidaa
open Go.RowKit Go.Bas Go.ChangeShapes
attribute [local go_sem ↓] Go.wp_at_zero Go.wp_at_succ

set_option maxRecDepth 100000 in
set_option maxHeartbeats 6400000 in
theorem deriveTags_law (w : World) (vk : Value) (nk : Nat) (key : Nat → Int) (hk : Rd .u8 w vk nk key) (hkb : ∀ i, i < nk → (Lit.int .u8 (key i)).wf = true) (v : Value) (n : Nat) (f : Nat → Int) (hv : Rd .u8 w v n f) (hf : ∀ i, i < n → (Lit.int .u8 (f i)).wf = true) (t : Int) (ht : (Lit.int .u16 t).wf = true) :
    Calls Try.prog 7 #[vk, v, .int .u16 t] w fun e w' => e = .returned (.bool true) ∧ Below w.heap.size w w' := by
  have HKB := Lib.hid (byteB key nk hkb)
  have HF := Lib.hid (byteB f n hf)
  have HK := Lib.hid hk
  have HV := Lib.hid hv
  obtain ⟨ka, kc, rfl, k1, k2, _, _⟩ := hk
  obtain ⟨a1, c1, rfl, h1, h2, _, _⟩ := hv
  have tb := bounds_u16 ht
  obtain ⟨t0, t1⟩ := tb
  obtain ⟨i, hi⟩ : ∃ i : Nat, (i : Int) = t % ((n : Int) + 1) := ⟨(t % ((n : Int) + 1)).toNat, Int.toNat_of_nonneg (Int.emod_nonneg _ (by omega))⟩
  have hin : i ≤ n := by
    have := Int.emod_lt_of_pos t (show (0 : Int) < (n : Int) + 1 by omega)
    omega
  have hm1 : t.tmod ((n : Int) + 1) = (i : Int) := by rw [Int.tmod_eq_emod_of_nonneg t0, hi]
  have hm2 : t % ((n : Int) + 1) = (i : Int) := hi.symm
  obtain ⟨g1, g2⟩ := Rd.head Try.underlying22 Try.info5 a1 n c1 i hin h1
  obtain ⟨lb, j1, j2, j3⟩ := Rd.cut Try.underlying22 Try.info5 a1 n c1 i n hin (Nat.le_refl _) h1
  have G1 := Lib.hid g1
  have G2 := Lib.hid g2
  have J2 := Lib.hid j2
  have J3 := Lib.hid j3
  clear hkb hf ht hi g1 g2 j1 j2 j3
  go_enter Try.func7, Try.ntmps7
  go_wp2_with fail
  refine (drAwake_any _).mono ?_
  rintro e w2 ⟨rfl, hb2⟩
  have HK2 := Lib.hid (HK.out.below hb2)
  have HV2 := Lib.hid (HV.out.below hb2)
  clear HK HV
  by_cases hl1 : 300 < nk
  · go_upto_region 3 with (fail)
    refine region_flow (n := 47) (by kernel_rfl) (by kernel_rfl) (by kernel_rfl) rfl
      (fun ii vv _ => (match ii with | 0 => vv = .slice ka nk kc | 1 => vv = .int .i64 ((nk : Int)) | 2 | 3 | 7 => vv = .bool true | 4 | 5 | 6 => vv = undef | _ => True))
      (fun w w' => Below w.heap.size w w') (fun _ _ h => h) (fun _ _ _ _ h _ => h) ?_ ?_
    · refine Each.all ?_
      refine ⟨?_, ?_, ?_, ?_, ?_, ?_, ?_, ?_, trivial⟩
      · intro a w2 hB hF hd
        rw [if_pos (wanted_none rfl)]
        exact flow_move _ (.inl rfl) (by simp) (hF.same 0 rfl)
      · intro a w2 hB hF hd
        rw [if_pos (wanted_none rfl)]
        exact flow_val (fun h => by cases h) (run_len_sl rfl (hd 0 _ rfl (waits_spec rfl)) Try.underlying22) rfl
      · intro a w2 hB hF hd
        rw [if_pos (wanted_none rfl)]
        exact flow_val (fun h => by cases h) (Go.Bas.run_gtr rfl (hd 1 _ rfl (waits_spec rfl)) rfl) (congrArg Value.bool (decide_eq_true (by omega)))
      · intro a w2 hB hF hd
        rw [if_pos (wanted_none rfl)]
        exact flow_move _ (.inl rfl) (by simp) (hd 2 _ rfl (waits_spec rfl))
      · intro a w2 hB hF hd
        rw [if_neg (by rw [wanted_some rfl rfl (hd 3 _ rfl (waits_spec rfl))]; decide)]
        exact rfl
      · intro a w2 hB hF hd
        rw [if_neg (by rw [wanted_some rfl rfl (hd 3 _ rfl (waits_spec rfl))]; decide)]
        exact rfl
      · intro a w2 hB hF hd
        rw [if_neg (by rw [wanted_some rfl rfl (hd 3 _ rfl (waits_spec rfl))]; decide)]
        exact rfl
      · intro a w2 hB hF hd
        rw [if_pos (wanted_none rfl)]
        exact flow_val (fun h => by cases h) (run_pick rfl (hd 3 _ rfl (waits_spec rfl))) (rfl)
    · intro a w3 hB hF hS
      have ha := puts_each rfl rfl hF [_, _, _, _, _, _, _, _] rfl ⟨hS 0 _ rfl, hS 1 _ rfl, hS 2 _ rfl, hS 3 _ rfl, hS 4 _ rfl, hS 5 _ rfl, hS 6 _ rfl, hS 7 _ rfl, trivial⟩
      simp only [puts, Act.put, List.setIfInBounds_toArray, List.set_cons_succ, List.set_cons_zero] at ha
      subst ha
      clear hS hF
      have hb3 := hb2.trans (hB.mono hb2.size)
      go_wp2
      go_ret
      exact ⟨rfl, hb3⟩
  · by_cases hl2 : 300 < n
    · go_upto_region 3 with (fail)
      refine region_flow (n := 47) (by kernel_rfl) (by kernel_rfl) (by kernel_rfl) rfl
        (fun ii vv _ => (match ii with | 0 => vv = .slice ka nk kc | 1 => vv = .int .i64 ((nk : Int)) | 2 | 3 => vv = .bool false | 4 => vv = .slice a1 n c1 | 5 => vv = .int .i64 ((n : Int)) | 6 | 7 => vv = .bool true | _ => True))
        (fun w w' => Below w.heap.size w w') (fun _ _ h => h) (fun _ _ _ _ h _ => h) ?_ ?_
      · refine Each.all ?_
        refine ⟨?_, ?_, ?_, ?_, ?_, ?_, ?_, ?_, trivial⟩
        · intro a w2 hB hF hd
          rw [if_pos (wanted_none rfl)]
          exact flow_move _ (.inl rfl) (by simp) (hF.same 0 rfl)
        · intro a w2 hB hF hd
          rw [if_pos (wanted_none rfl)]
          exact flow_val (fun h => by cases h) (run_len_sl rfl (hd 0 _ rfl (waits_spec rfl)) Try.underlying22) rfl
        · intro a w2 hB hF hd
          rw [if_pos (wanted_none rfl)]
          exact flow_val (fun h => by cases h) (Go.Bas.run_gtr rfl (hd 1 _ rfl (waits_spec rfl)) rfl) (congrArg Value.bool (decide_eq_false (by omega)))
        · intro a w2 hB hF hd
          rw [if_pos (wanted_none rfl)]
          exact flow_move _ (.inl rfl) (by simp) (hd 2 _ rfl (waits_spec rfl))
        · intro a w2 hB hF hd
          refine flow_wanted (wanted_yes rfl rfl (hd 3 _ rfl (waits_spec rfl)) rfl) ?_
          exact flow_move _ (.inl rfl) (by simp) (hF.same 1 rfl)
        · intro a w2 hB hF hd
          refine flow_wanted (wanted_yes rfl rfl (hd 3 _ rfl (waits_spec rfl)) rfl) ?_
          exact flow_val (fun h => by cases h) (run_len_sl rfl (hd 4 _ rfl (waits_spec rfl)) Try.underlying22) rfl
        · intro a w2 hB hF hd
          refine flow_wanted (wanted_yes rfl rfl (hd 3 _ rfl (waits_spec rfl)) rfl) ?_
          exact flow_val (fun h => by cases h) (Go.Bas.run_gtr rfl (hd 5 _ rfl (waits_spec rfl)) rfl) (congrArg Value.bool (decide_eq_true (by omega)))
        · intro a w2 hB hF hd
          rw [if_pos (wanted_none rfl)]
          exact flow_val (fun h => by cases h) (run_pick rfl (hd 3 _ rfl (waits_spec rfl))) ((hd 6 _ rfl (waits_spec rfl)))
      · intro a w3 hB hF hS
        have ha := puts_each rfl rfl hF [_, _, _, _, _, _, _, _] rfl ⟨hS 0 _ rfl, hS 1 _ rfl, hS 2 _ rfl, hS 3 _ rfl, hS 4 _ rfl, hS 5 _ rfl, hS 6 _ rfl, hS 7 _ rfl, trivial⟩
        simp only [puts, Act.put, List.setIfInBounds_toArray, List.set_cons_succ, List.set_cons_zero] at ha
        subst ha
        clear hS hF
        have hb3 := hb2.trans (hB.mono hb2.size)
        go_wp2
        go_ret
        exact ⟨rfl, hb3⟩
    · go_upto_region 3 with (fail)
      refine region_flow (n := 47) (by kernel_rfl) (by kernel_rfl) (by kernel_rfl) rfl
        (fun ii vv _ => (match ii with | 0 => vv = .slice ka nk kc | 1 => vv = .int .i64 ((nk : Int)) | 2 | 3 | 6 | 7 => vv = .bool false | 4 => vv = .slice a1 n c1 | 5 => vv = .int .i64 ((n : Int)) | _ => True))
        (fun w w' => Below w.heap.size w w') (fun _ _ h => h) (fun _ _ _ _ h _ => h) ?_ ?_
      · refine Each.all ?_
        refine ⟨?_, ?_, ?_, ?_, ?_, ?_, ?_, ?_, trivial⟩
        · intro a w2 hB hF hd
          rw [if_pos (wanted_none rfl)]
          exact flow_move _ (.inl rfl) (by simp) (hF.same 0 rfl)
        · intro a w2 hB hF hd
          rw [if_pos (wanted_none rfl)]
          exact flow_val (fun h => by cases h) (run_len_sl rfl (hd 0 _ rfl (waits_spec rfl)) Try.underlying22) rfl
        · intro a w2 hB hF hd
          rw [if_pos (wanted_none rfl)]
          exact flow_val (fun h => by cases h) (Go.Bas.run_gtr rfl (hd 1 _ rfl (waits_spec rfl)) rfl) (congrArg Value.bool (decide_eq_false (by omega)))
        · intro a w2 hB hF hd
          rw [if_pos (wanted_none rfl)]
          exact flow_move _ (.inl rfl) (by simp) (hd 2 _ rfl (waits_spec rfl))
        · intro a w2 hB hF hd
          refine flow_wanted (wanted_yes rfl rfl (hd 3 _ rfl (waits_spec rfl)) rfl) ?_
          exact flow_move _ (.inl rfl) (by simp) (hF.same 1 rfl)
        · intro a w2 hB hF hd
          refine flow_wanted (wanted_yes rfl rfl (hd 3 _ rfl (waits_spec rfl)) rfl) ?_
          exact flow_val (fun h => by cases h) (run_len_sl rfl (hd 4 _ rfl (waits_spec rfl)) Try.underlying22) rfl
        · intro a w2 hB hF hd
          refine flow_wanted (wanted_yes rfl rfl (hd 3 _ rfl (waits_spec rfl)) rfl) ?_
          exact flow_val (fun h => by cases h) (Go.Bas.run_gtr rfl (hd 5 _ rfl (waits_spec rfl)) rfl) (congrArg Value.bool (decide_eq_false (by omega)))
        · intro a w2 hB hF hd
          rw [if_pos (wanted_none rfl)]
          exact flow_val (fun h => by cases h) (run_pick rfl (hd 3 _ rfl (waits_spec rfl))) ((hd 6 _ rfl (waits_spec rfl)))
      · intro a w3 hB hF hS
        have ha := puts_each rfl rfl hF [_, _, _, _, _, _, _, _] rfl ⟨hS 0 _ rfl, hS 1 _ rfl, hS 2 _ rfl, hS 3 _ rfl, hS 4 _ rfl, hS 5 _ rfl, hS 6 _ rfl, hS 7 _ rfl, trivial⟩
        simp only [puts, Act.put, List.setIfInBounds_toArray, List.set_cons_succ, List.set_cons_zero] at ha
        subst ha
        clear hS hF
        have hb3 := hb2.trans (hB.mono hb2.size)
        have HK3 := Lib.hid (HK2.out.below hB)
        have HV3 := Lib.hid (HV2.out.below hB)
        obtain ⟨TG, hTG⟩ : ∃ TG, TG = tagB nk key n f := ⟨_, rfl⟩
        have HR := Lib.hid (fun w h1 h2 => rdTag_any (.slice ka nk kc) nk key (.slice a1 n c1) n f w h1 (by omega) HKB.out h2 (by omega) HF.out)
        have HT1 := Lib.hid (fun vp w h1 h2 => dTag_any (.slice ka nk kc) nk key vp 1 (fun _ => n) (fun _ => f) n f w h1 (by omega) HKB.out h2 (by decide) (cut1 (f := f) (n := n)).1 (cut1 (f := f) (n := n)).2 (by omega) HF.out)
        have HT2 := Lib.hid (fun vp w h1 h2 => dTag_any (.slice ka nk kc) nk key vp 2 (catL 1 (fun _ => i) (fun _ => n - i)) (catG 1 (fun _ => f) (fun _ => fun x => f (i + x))) n f w h1 (by omega) HKB.out h2 (by decide) (lens2_cut (f := f) hin).1 (lens2_cut (f := f) hin).2 (by omega) HF.out)
        rw [← hTG] at HR HT1 HT2
        clear hTG hB HK2 HV2 hb2
        go_wp2_with fail
        refine (HR.out _ HK3.out HV3.out).mono ?_
        rintro e w4 ⟨rfl, hb4⟩
        have hbel4 := hb3.trans (hb4.mono hb3.size)
        have HK4 := Lib.hid (HK3.out.below hb4)
        have HV4 := Lib.hid (HV3.out.below hb4)
        clear HK3 HV3 hb3 hb4 hm1 hm2
        go_upto_region 7 with (refine store_arr rfl 24 _ _ rfl .u8 w4.heap.size 64 (fun _ => 0) TG Try.size24 rfl rfl (Arr.newAt rfl (by rfl)) ?_)
        refine wp_world (fun w5 => Arr .u8 w5 w4.heap.size 64 TG ∧ Below w.heap.size w w5 ∧ Below w4.heap.size w4 w5) ⟨(Arr.newAt rfl (by rfl) : Arr .u8 _ _ 64 (fun _ => 0)).setRow _ _, below_setRow' (hbel4.alloc hbel4.size _) hbel4.size _, below_setRow' ((Below.refl w4.heap.size w4).alloc (Nat.le_refl _) _) (Nat.le_refl _) _⟩ ?_
        rintro w5 ⟨hA, hb5, hb45⟩
        obtain ⟨q, hq⟩ : ∃ q, q = w4.heap.size := ⟨_, rfl⟩
        have HK5 := Lib.hid (HK4.out.below hb45)
        have HV5 := Lib.hid (HV4.out.below hb45)
        have HH := Lib.hid (G2.out _ _ HV5.out)
        have HC := Lib.hid (J3.out _ _ HV5.out).2
        rw [← hq] at hA ⊢
        clear hq hbel4 hb45 HK4 HV4
        try simp only [Act.put, List.setIfInBounds_toArray, List.set_cons_succ, List.set_cons_zero]
        refine region_flow (n := 47) (by kernel_rfl) (by kernel_rfl) (by kernel_rfl) rfl
          (fun ii vv ww => (match ii with | 0 | 7 => vv = .slice ka nk kc | 1 | 8 | 11 => vv = .slice a1 n c1 | 3 | 4 | 15 | 16 => vv = .agg (arr .u8 64 (TG)) | 5 | 6 | 17 | 18 | 19 => vv = .bool true | 9 | 12 => vv = .int .i64 ((i : Int)) | 10 => vv = .slice a1 i c1 | 13 => vv = .slice lb (n - i) (c1 - i) | _ => True) ∧ (ii = 2 → Txt ww vv 1 (fun _ => n) (fun _ => f)) ∧ (ii = 14 → Txt ww vv 2 (catL 1 (fun _ => i) (fun _ => n - i)) (catG 1 (fun _ => f) (fun _ => fun x => f (i + x)))))
          (fun w w' => Below w.heap.size w w') (fun _ _ h => h) (fun i v w w' h hE => ⟨h.1, fun e => Txt.below (h.2.1 e) hE, fun e => Txt.below (h.2.2 e) hE⟩) ?_ ?_
        · refine Each.all ?_
          refine ⟨?_, ?_, ?_, ?_, ?_, ?_, ?_, ?_, ?_, ?_, ?_, ?_, ?_, ?_, ?_, ?_, ?_, ?_, ?_, ?_, trivial⟩
          · intro a w2 hB hF hd
            rw [if_pos (wanted_none rfl)]
            exact flow_move _ (.inl rfl) (by simp) ⟨(hF.same 0 rfl), fun h => absurd h (by decide), fun h => absurd h (by decide)⟩
          · intro a w2 hB hF hd
            rw [if_pos (wanted_none rfl)]
            exact flow_move _ (.inl rfl) (by simp) ⟨(hF.same 1 rfl), fun h => absurd h (by decide), fun h => absurd h (by decide)⟩
          · intro a w2 hB hF hd
            rw [if_pos (wanted_none rfl)]
            exact flow_lits 52 22 1 _ [.slice a1 n c1] rfl Try.underlying52 (by kernel_rfl) (by kernel_rfl) rfl (by decide) (by decide) (by intro v hv; simp only [List.mem_cons, List.not_mem_nil, or_false] at hv; rcases hv with rfl <;> rfl) (by simp only [List.map_toArray, List.map_cons, List.map_nil, show a.eval (Operand.tmp 29) = .slice a1 n c1 from ((hd 1 _ rfl (waits_spec rfl)).1)]; rfl) (by simp) ⟨trivial, fun _ => ((new1 HV5.out hB)), fun h => absurd h (by decide)⟩
          · intro a w2 hB hF hd
            rw [if_pos (wanted_none rfl)]
            refine flow_call _ _ _ rfl Try.call29 _ (args2 ((hd 0 _ rfl (waits_spec rfl)).1) rfl) (by simp) ((HT1.out _ _ (HK5.out.below hB) ((hd 2 _ rfl (waits_spec rfl)).2.1 rfl)).mono ?_)
            rintro e w3 ⟨rfl, hb⟩; exact ⟨_, rfl, ⟨rfl, fun h => absurd h (by decide), fun h => absurd h (by decide)⟩, hb⟩
          · intro a w2 hB hF hd
            rw [if_pos (wanted_none rfl)]
            exact flow_val (fun h => by cases h) (run_load_str rfl Try.underlying24 rfl Try.size24 (hF.same 8 rfl) (hA.below hB hA.lt)) ⟨rfl, fun h => absurd h (by decide), fun h => absurd h (by decide)⟩
          · intro a w2 hB hF hd
            rw [if_pos (wanted_none rfl)]
            exact flow_val (fun h => by cases h) (run_eql_arr true rfl ((hd 3 _ rfl (waits_spec rfl)).1) ((hd 4 _ rfl (waits_spec rfl)).1) Try.underlying24 (by kernel_rfl) (by kernel_rfl) (by kernel_rfl) (by kernel_rfl) (by kernel_rfl) sameB_self) ⟨rfl, fun h => absurd h (by decide), fun h => absurd h (by decide)⟩
          · intro a w2 hB hF hd
            rw [if_pos (wanted_none rfl)]
            exact flow_move _ (.inl rfl) (by simp) ⟨((hd 5 _ rfl (waits_spec rfl)).1), fun h => absurd h (by decide), fun h => absurd h (by decide)⟩
          · intro a w2 hB hF hd
            refine flow_wanted (wanted_yes rfl rfl ((hd 6 _ rfl (waits_spec rfl)).1) rfl) ?_
            exact flow_move _ (.inl rfl) (by simp) ⟨(hF.same 0 rfl), fun h => absurd h (by decide), fun h => absurd h (by decide)⟩
          · intro a w2 hB hF hd
            refine flow_wanted (wanted_yes rfl rfl ((hd 6 _ rfl (waits_spec rfl)).1) rfl) ?_
            exact flow_move _ (.inl rfl) (by simp) ⟨(hF.same 1 rfl), fun h => absurd h (by decide), fun h => absurd h (by decide)⟩
          · intro a w2 hB hF hd
            refine flow_wanted (wanted_yes rfl rfl ((hd 6 _ rfl (waits_spec rfl)).1) rfl) ?_
            exact flow_move _ (.inl rfl) (by simp) ⟨(hF.same 7 rfl), fun h => absurd h (by decide), fun h => absurd h (by decide)⟩
          · intro a w2 hB hF hd
            refine flow_wanted (wanted_yes rfl rfl ((hd 6 _ rfl (waits_spec rfl)).1) rfl) ?_
            exact flow_val (fun h => by cases h) (run_slice_part rfl ((hd 8 _ rfl (waits_spec rfl)).1) (by simp only [Option.map_some, Option.map_none, show a.eval (Operand.tmp 37) = .int .i64 ((i : Int)) from ((hd 9 _ rfl (waits_spec rfl)).1)]; exact G1.out _)) ⟨rfl, fun h => absurd h (by decide), fun h => absurd h (by decide)⟩
          · intro a w2 hB hF hd
            refine flow_wanted (wanted_yes rfl rfl ((hd 6 _ rfl (waits_spec rfl)).1) rfl) ?_
            exact flow_move _ (.inl rfl) (by simp) ⟨(hF.same 1 rfl), fun h => absurd h (by decide), fun h => absurd h (by decide)⟩
          · intro a w2 hB hF hd
            refine flow_wanted (wanted_yes rfl rfl ((hd 6 _ rfl (waits_spec rfl)).1) rfl) ?_
            exact flow_move _ (.inl rfl) (by simp) ⟨(hF.same 7 rfl), fun h => absurd h (by decide), fun h => absurd h (by decide)⟩
          · intro a w2 hB hF hd
            refine flow_wanted (wanted_yes rfl rfl ((hd 6 _ rfl (waits_spec rfl)).1) rfl) ?_
            exact flow_val (fun h => by cases h) (run_slice_part rfl ((hd 11 _ rfl (waits_spec rfl)).1) (by simp only [Option.map_some, Option.map_none, show a.eval (Operand.tmp 40) = .int .i64 ((i : Int)) from ((hd 12 _ rfl (waits_spec rfl)).1)]; exact J2.out _)) ⟨rfl, fun h => absurd h (by decide), fun h => absurd h (by decide)⟩
          · intro a w2 hB hF hd
            refine flow_wanted (wanted_yes rfl rfl ((hd 6 _ rfl (waits_spec rfl)).1) rfl) ?_
            exact flow_lits 52 22 2 _ [.slice a1 i c1, .slice lb (n - i) (c1 - i)] rfl Try.underlying52 (by kernel_rfl) (by kernel_rfl) rfl (by decide) (by decide) (by intro v hv; simp only [List.mem_cons, List.not_mem_nil, or_false] at hv; rcases hv with rfl | rfl <;> rfl) (by simp only [List.map_toArray, List.map_cons, List.map_nil, show a.eval (Operand.tmp 38) = .slice a1 i c1 from ((hd 10 _ rfl (waits_spec rfl)).1), show a.eval (Operand.tmp 41) = .slice lb (n - i) (c1 - i) from ((hd 13 _ rfl (waits_spec rfl)).1)]; rfl) (by simp) ⟨trivial, fun h => absurd h (by decide), fun _ => ((newTwo HH.out HC.out hB))⟩
          · intro a w2 hB hF hd
            refine flow_wanted (wanted_yes rfl rfl ((hd 6 _ rfl (waits_spec rfl)).1) rfl) ?_
            refine flow_call _ _ _ rfl Try.call29 _ (args2 ((hd 7 _ rfl (waits_spec rfl)).1) rfl) (by simp) ((HT2.out _ _ (HK5.out.below hB) ((hd 14 _ rfl (waits_spec rfl)).2.2 rfl)).mono ?_)
            rintro e w3 ⟨rfl, hb⟩; exact ⟨_, rfl, ⟨rfl, fun h => absurd h (by decide), fun h => absurd h (by decide)⟩, hb⟩
          · intro a w2 hB hF hd
            refine flow_wanted (wanted_yes rfl rfl ((hd 6 _ rfl (waits_spec rfl)).1) rfl) ?_
            exact flow_val (fun h => by cases h) (run_load_str rfl Try.underlying24 rfl Try.size24 (hF.same 8 rfl) (hA.below hB hA.lt)) ⟨rfl, fun h => absurd h (by decide), fun h => absurd h (by decide)⟩
          · intro a w2 hB hF hd
            refine flow_wanted (wanted_yes rfl rfl ((hd 6 _ rfl (waits_spec rfl)).1) rfl) ?_
            exact flow_val (fun h => by cases h) (run_eql_arr true rfl ((hd 15 _ rfl (waits_spec rfl)).1) ((hd 16 _ rfl (waits_spec rfl)).1) Try.underlying24 (by kernel_rfl) (by kernel_rfl) (by kernel_rfl) (by kernel_rfl) (by kernel_rfl) sameB_self) ⟨rfl, fun h => absurd h (by decide), fun h => absurd h (by decide)⟩
          · intro a w2 hB hF hd
            rw [if_pos (wanted_none rfl)]
            exact flow_val (fun h => by cases h) (run_pick rfl ((hd 6 _ rfl (waits_spec rfl)).1)) ⟨(((hd 17 _ rfl (waits_spec rfl)).1)), fun h => absurd h (by decide), fun h => absurd h (by decide)⟩
          · intro a w2 hB hF hd
            rw [if_pos (wanted_none rfl)]
            exact flow_move _ (.inr rfl) (by simp) ⟨((hd 18 _ rfl (waits_spec rfl)).1), fun h => absurd h (by decide), fun h => absurd h (by decide)⟩
        · intro a w6 hB hF hS
          obtain ⟨x30, hx30⟩ : ∃ x, x = a.tmps.getD 30 undef := ⟨_, rfl⟩
          obtain ⟨x42, hx42⟩ : ∃ x, x = a.tmps.getD 42 undef := ⟨_, rfl⟩
          have ha := puts_each rfl rfl hF [_, _, x30, _, _, _, _, _, _, _, _, _, _, _, x42, _, _, _, _, _] rfl ⟨(hS 0 _ rfl).1, (hS 1 _ rfl).1, hx30.symm, (hS 3 _ rfl).1, (hS 4 _ rfl).1, (hS 5 _ rfl).1, (hS 6 _ rfl).1, (hS 7 _ rfl).1, (hS 8 _ rfl).1, (hS 9 _ rfl).1, (hS 10 _ rfl).1, (hS 11 _ rfl).1, (hS 12 _ rfl).1, (hS 13 _ rfl).1, hx42.symm, (hS 15 _ rfl).1, (hS 16 _ rfl).1, (hS 17 _ rfl).1, (hS 18 _ rfl).1, (hS 19 _ rfl).1, trivial⟩
          simp only [puts, Act.put, List.setIfInBounds_toArray, List.set_cons_succ, List.set_cons_zero] at ha
          subst ha
          clear hx30 hx42
          clear hS hF
          have hb6 := hb5.trans (hB.mono hb5.size)
          clear hA hB hb5
          go_wp2
          go_ret
          exact ⟨rfl, hb6⟩
end Go.Proofs.Ytgobodhcamgidaa
