/-
  The law AeadSeals answers true: its walk. Conditions: named in each theorem.
-/
import Derived.Test.YtgobodhcamgidaaAe5
import Derived.Test.YtgobodhcamgidaaAeO
set_option linter.unusedVariables false
set_option linter.unusedSimpArgs false
namespace Go.Bas
/-- one cell of an array of noughts set. -/
def unitF (x : Int) (i : Nat) : Int := if i = 0 then x else 0
theorem unitF_bound {x : Int} (h : 0 ≤ x ∧ x < 256) (i : Nat) : 0 ≤ unitF x i ∧ unitF x i < 256 := by unfold unitF; split <;> omega
end Go.Bas
namespace Go.Proofs.Ytgobodhcamgidaa
open Go.RowKit Go.Bas
attribute [local go_sem ↓] Go.wp_at_zero Go.wp_at_succ
theorem byteA (f : Nat → Int) (n : Nat) (h : ∀ i, i < n → (Lit.int .u8 (f i)).wf = true) : ∀ i, i < n → 0 ≤ f i ∧ f i < 256 := fun i hi => by have := bounds_u8 (h i hi); omega
theorem build_k1 {a : Act} (w : World) : (Instr.build 26 ((#[(0, Operand.const (Value.int .u8 1))] : Array (Nat × Operand)).map fun (i, x) => (i, a.eval x))).run Try.prog w = .ok (.agg (arr .u8 32 (unitF 1))) w := by
  simp only [List.map_toArray, List.map_cons, List.map_nil, Act.eval]
  rw [Go.run_build w _ _ (arr .u8 32 (unitF 1)) (by kernel_rfl)]
theorem build_n2 {a : Act} (w : World) : (Instr.build 64 ((#[(0, Operand.const (Value.int .u8 2))] : Array (Nat × Operand)).map fun (i, x) => (i, a.eval x))).run Try.prog w = .ok (.agg (arr .u8 12 (unitF 2))) w := by
  simp only [List.map_toArray, List.map_cons, List.map_nil, Act.eval]
  rw [Go.run_build w _ _ (arr .u8 12 (unitF 2)) (by kernel_rfl)]

set_option maxRecDepth 100000 in
set_option maxHeartbeats 1600000 in
theorem aAwake_any (w : World) : Calls Try.prog 37 #[] w fun e w' => e = .returned (.bool true) ∧ Below w.heap.size w w' := by
  have HS := Lib.hid (aSeal_any (unitF 1) (unitF 2) (fun i _ => unitF_bound (by decide) i) (fun i _ => unitF_bound (by decide) i) (.slice none 0 0))
  go_enter Try.func37, Try.ntmps37
  go_wp2_with (first
    | (refine step_val rfl (run_built rfl (build_k1 _)) ?_)
    | (refine step_val rfl (run_built rfl (build_n2 _)) ?_)
    | (refine make_ints rfl _ _ 22 rfl w.heap.size 5 .u8 1 Try.underlying22 Try.info5 .i64 .i64 5 rfl rfl (by omega) (by omega) (Nat.le_refl _) ?_; intro w2 hown hgrow))
  have hb2 := below_grown0 (Below.refl w.heap.size w) hgrow (Nat.le_refl _)
  refine (HS.out _ 0 5 (fun _ => 0) (fun _ => 0) _ (Rd.nil _ _ _) hown.rd (fun i hi => by omega) (by decide) (by decide)).mono ?_
  rintro e w3 ⟨v, rfl, hO, hb3⟩
  obtain ⟨g, c, rfl, _⟩ := hO.form (by decide)
  have hb := hb2.trans (hb3.mono hb2.size)
  clear hO hown hgrow hb2 hb3
  go_upto_region 2 with (fail)
  refine region_flow (n := 21) (by kernel_rfl) (by kernel_rfl) (by kernel_rfl) rfl
    (fun ii vv _ => (match ii with | 0 => vv = .int .i64 (0) | 1 | 2 | 5 | 6 | 7 | 9 | 10 | 11 => vv = .bool true | 3 => vv = .slice (some ⟨g, 0, none⟩) (5 + 16) c | 4 => vv = .int .i64 (((5 + 16 : Nat) : Int)) | 8 => vv = .int .i64 (sizeN 5) | _ => True))
    (fun w w' => Below w.heap.size w w') (fun _ _ h => h) (fun _ _ _ _ h _ => h) ?_ ?_
  · refine Each.all ?_
    refine ⟨?_, ?_, ?_, ?_, ?_, ?_, ?_, ?_, ?_, ?_, ?_, ?_, trivial⟩
    · intro a w2 hB hF hd
      rw [if_pos (wanted_none rfl)]
      exact flow_move _ (.inl rfl) (by simp) (hF.same 2 rfl)
    · intro a w2 hB hF hd
      rw [if_pos (wanted_none rfl)]
      refine flow_val (fun h => by cases h) (Go.Bas.run_eql_int rfl (hd 0 _ rfl (waits_spec rfl)) rfl) ?_
      exact rfl
    · intro a w2 hB hF hd
      rw [if_pos (wanted_none rfl)]
      exact flow_move _ (.inl rfl) (by simp) (hd 1 _ rfl (waits_spec rfl))
    · intro a w2 hB hF hd
      refine flow_wanted (wanted_yes rfl rfl (hd 2 _ rfl (waits_spec rfl)) rfl) ?_
      exact flow_move _ (.inl rfl) (by simp) (hF.same 1 rfl)
    · intro a w2 hB hF hd
      refine flow_wanted (wanted_yes rfl rfl (hd 2 _ rfl (waits_spec rfl)) rfl) ?_
      exact flow_val (fun h => by cases h) (run_len_sl rfl (hd 3 _ rfl (waits_spec rfl)) Try.underlying22) rfl
    · intro a w2 hB hF hd
      refine flow_wanted (wanted_yes rfl rfl (hd 2 _ rfl (waits_spec rfl)) rfl) ?_
      refine flow_val (fun h => by cases h) (Go.Bas.run_eql_int rfl (hd 4 _ rfl (waits_spec rfl)) rfl) ?_
      exact congrArg Value.bool (by decide)
    · intro a w2 hB hF hd
      rw [if_pos (wanted_none rfl)]
      exact flow_val (fun h => by cases h) (run_pick rfl (hd 2 _ rfl (waits_spec rfl))) ((hd 5 _ rfl (waits_spec rfl)))
    · intro a w2 hB hF hd
      rw [if_pos (wanted_none rfl)]
      exact flow_move _ (.inl rfl) (by simp) (hd 6 _ rfl (waits_spec rfl))
    · intro a w2 hB hF hd
      refine flow_wanted (wanted_yes rfl rfl (hd 7 _ rfl (waits_spec rfl)) rfl) ?_
      refine flow_call _ _ _ rfl Try.call42 _ (args1 rfl) (by simp) ((aSz_any 5 _).mono ?_)
      rintro e w3 ⟨rfl, hb⟩; exact ⟨_, rfl, rfl, hb⟩
    · intro a w2 hB hF hd
      refine flow_wanted (wanted_yes rfl rfl (hd 7 _ rfl (waits_spec rfl)) rfl) ?_
      refine flow_val (fun h => by cases h) (Go.Bas.run_eql_int rfl (hd 8 _ rfl (waits_spec rfl)) rfl) ?_
      exact congrArg Value.bool (by decide)
    · intro a w2 hB hF hd
      rw [if_pos (wanted_none rfl)]
      exact flow_val (fun h => by cases h) (run_pick rfl (hd 7 _ rfl (waits_spec rfl))) ((hd 9 _ rfl (waits_spec rfl)))
    · intro a w2 hB hF hd
      rw [if_pos (wanted_none rfl)]
      exact flow_move _ (.inr rfl) (by simp) (hd 10 _ rfl (waits_spec rfl))
  · intro a w4 hB hF hS
    have ha := puts_each rfl rfl hF [_, _, _, _, _, _, _, _, _, _, _, _] rfl ⟨hS 0 _ rfl, hS 1 _ rfl, hS 2 _ rfl, hS 3 _ rfl, hS 4 _ rfl, hS 5 _ rfl, hS 6 _ rfl, hS 7 _ rfl, hS 8 _ rfl, hS 9 _ rfl, hS 10 _ rfl, hS 11 _ rfl, trivial⟩
    simp only [puts, Act.put, List.setIfInBounds_toArray, List.set_cons_succ, List.set_cons_zero] at ha
    subst ha
    clear hS hF
    have hb4 := hb.trans (hB.mono hb.size)
    go_wp2
    go_ret
    exact ⟨rfl, hb4⟩

set_option maxRecDepth 100000 in
set_option maxHeartbeats 3200000 in
theorem aeadSeals_law (w : World) (key nonce : Nat → Int) (hk : ∀ i, i < 32 → (Lit.int .u8 (key i)).wf = true) (hn : ∀ i, i < 12 → (Lit.int .u8 (nonce i)).wf = true) (x : Value) (nb : Nat) (fb : Nat → Int) (hb : Rd .u8 w x nb fb) (hfb : ∀ i, i < nb → (Lit.int .u8 (fb i)).wf = true)
    (v : Value) (n : Nat) (f : Nat → Int) (hv : Rd .u8 w v n f) (hf : ∀ i, i < n → (Lit.int .u8 (f i)).wf = true) (m : Int) (hm : (Lit.int .i64 m).wf = true) :
    Calls Try.prog 10 #[.agg (caseS key nonce x), v, .int .i64 m] w fun e w' => e = .returned (.bool true) ∧ Below w.heap.size w w' := by
  have HK := Lib.hid (byteA key 32 hk)
  have HN := Lib.hid (byteA nonce 12 hn)
  have HFB := Lib.hid (byteA fb nb hfb)
  have HF := Lib.hid (byteA f n hf)
  have HB := Lib.hid hb
  have HV := Lib.hid hv
  have hmb : -9223372036854775808 ≤ m ∧ m < 9223372036854775808 := by have := bounds_i64 hm; omega
  obtain ⟨m0, m1⟩ := hmb
  obtain ⟨ab, cb, rfl, b1, b2, b3, b4⟩ := hb
  obtain ⟨a1, c1, rfl, h1, h2, h3, h4⟩ := hv
  clear hk hn hfb hf hm b3 b4 h3 h4
  go_enter Try.func10, Try.ntmps10
  have hA1 : CaseSAt (w.alloc (.cells (caseS key nonce (.slice ab nb cb)) 66)) w.heap.size key nonce (.slice ab nb cb) := CaseSAt.new _ _ _ _ _
  have hb1 : Below w.heap.size w (w.alloc (.cells (caseS key nonce (.slice ab nb cb)) 66)) := (Below.refl _ _).alloc (Nat.le_refl _) _
  go_wp2_with fail
  refine (aAwake_any _).mono ?_
  rintro e w2 ⟨rfl, hb2⟩
  have hA2 := hA1.kept hb2
  have hbel := hb1.trans (hb2.mono hb1.size)
  have ec := hA2.last
  have HB2 := Lib.hid (HB.out.below hbel)
  have HV2 := Lib.hid (HV.out.below hbel)
  clear hA1 hb1 hb2 HB HV
  by_cases hlong : 300 < nb
  · go_wp2
    go_ret
    exact ⟨rfl, hbel⟩
  · by_cases hlong2 : 300 < n
    · go_wp2
      go_ret
      exact ⟨rfl, hbel⟩
    · go_wp2_with (first
        | (refine load_part rfl 26 _ rfl .u8 w.heap.size 0 32 key 5 Try.underlying26 Try.size26 rfl hA2.keyAt ?_)
        | (refine load_part rfl 64 _ rfl .u8 w.heap.size 32 12 nonce 5 Try.underlying64 Try.size64 rfl hA2.nonceAt ?_))
      refine (aSeal_any key nonce HK.out HN.out _ _ nb n fb f _ HB2.out HV2.out HFB.out (by omega) (by omega)).mono ?_
      rintro e w3 ⟨u, rfl, hO, hb3⟩
      obtain ⟨g, c, rfl, _⟩ := hO.form (by omega)
      have HO := Lib.hid hO.rd
      have hA3 := hA2.kept hb3
      have hbel3 := hbel.trans (hb3.mono hbel.size)
      have HB3 := Lib.hid (HB2.out.below hb3)
      have HV3 := Lib.hid (HV2.out.below hb3)
      clear hA2 hb3 hbel ec hO
      have HSN : Hid ((((n + 16 : Nat) : Int) == sizeN (n : Int)) = true) := by unfold Hid sizeN; rw [if_pos (by omega)]; simp
      rcases (by omega : m < 0 ∨ (0 ≤ m ∧ m ≤ 1048560) ∨ 1048560 < m) with hm1 | ⟨hm1, hm2⟩ | hm1
      case' inl => have HS : Hid (sizeN m = 0) := if_neg (by omega)
      case' inr.inl => have HS : Hid (sizeN m = m + 16) := if_pos ⟨hm1, hm2⟩
      case' inr.inr =>
        have HS : Hid (sizeN m = 0) := if_neg (by omega)
        have hm2 : 0 ≤ m := by omega
      case inl =>
        go_upto_region 9 with (fail)
        refine region_flow (n := 87) (by kernel_rfl) (by kernel_rfl) (by kernel_rfl) rfl
          (fun ii vv ww => (match ii with | 0 | 36 => vv = .int .i64 (0) | 1 | 2 | 12 | 13 | 14 | 31 | 32 | 33 | 37 | 38 | 39 | 45 | 46 | 47 => vv = .bool true | 3 | 40 => vv = .slice (some ⟨g, 0, none⟩) (n + 16) c | 4 | 15 | 23 => vv = .pointer (some ⟨w.heap.size, 0, none⟩) | 5 | 16 | 24 => vv = .agg (arr .u8 32 (key)) | 6 | 17 | 25 => vv = .pointer (some ⟨w.heap.size, 32, none⟩) | 7 | 18 | 26 => vv = .agg (arr .u8 12 (nonce)) | 8 | 19 | 27 => vv = .pointer (some ⟨w.heap.size, 44, none⟩) | 9 | 20 | 28 => vv = .slice ab nb cb | 10 | 21 | 29 | 42 => vv = .slice a1 n c1 | 22 | 30 => vv = .agg (arr .u8 16 (dg 256 (aTag key nonce nb fb n f))) | 34 => vv = .int .i64 (m) | 35 => vv = .int .i64 (sizeN m) | 41 => vv = .int .i64 (((n + 16 : Nat) : Int)) | 43 => vv = .int .i64 ((n : Int)) | 44 => vv = .int .i64 (sizeN (n : Int)) | _ => True) ∧ (ii = 11 → Rd .u8 ww vv (n + 16) (sealF key nonce nb fb n f)))
          (fun w w' => Below w.heap.size w w') (fun _ _ h => h) (fun i v w w' h hE => ⟨h.1, fun e => Rd.below (h.2 e) hE⟩) ?_ ?_
        · refine Each.all ?_
          refine ⟨?_, ?_, ?_, ?_, ?_, ?_, ?_, ?_, ?_, ?_, ?_, ?_, ?_, ?_, ?_, ?_, ?_, ?_, ?_, ?_, ?_, ?_, ?_, ?_, ?_, ?_, ?_, ?_, ?_, ?_, ?_, ?_, ?_, ?_, ?_, ?_, ?_, ?_, ?_, ?_, ?_, ?_, ?_, ?_, ?_, ?_, ?_, ?_, trivial⟩
          · intro a w2 hB hF hd
            rw [if_pos (wanted_none rfl)]
            exact flow_move _ (.inl rfl) (by simp) ⟨(hF.same 8 rfl), fun h => absurd h (by decide)⟩
          · intro a w2 hB hF hd
            rw [if_pos (wanted_none rfl)]
            refine flow_val (fun h => by cases h) (Go.Bas.run_eql_int rfl ((hd 0 _ rfl (waits_spec rfl)).1) rfl) ?_
            exact ⟨rfl, fun h => absurd h (by decide)⟩
          · intro a w2 hB hF hd
            rw [if_pos (wanted_none rfl)]
            exact flow_move _ (.inl rfl) (by simp) ⟨((hd 1 _ rfl (waits_spec rfl)).1), fun h => absurd h (by decide)⟩
          · intro a w2 hB hF hd
            refine flow_wanted (wanted_yes rfl rfl ((hd 2 _ rfl (waits_spec rfl)).1) rfl) ?_
            exact flow_move _ (.inl rfl) (by simp) ⟨(hF.same 7 rfl), fun h => absurd h (by decide)⟩
          · intro a w2 hB hF hd
            refine flow_wanted (wanted_yes rfl rfl ((hd 2 _ rfl (waits_spec rfl)).1) rfl) ?_
            refine flow_val (fun h => by cases h) (run_field_at (m := 31) (k := 0) rfl (hF.same 3 rfl) (by kernel_rfl)) ?_
            exact ⟨rfl, fun h => absurd h (by decide)⟩
          · intro a w2 hB hF hd
            refine flow_wanted (wanted_yes rfl rfl ((hd 2 _ rfl (waits_spec rfl)).1) rfl) ?_
            exact flow_val (fun h => by cases h) (run_load_part rfl ((hd 4 _ rfl (waits_spec rfl)).1) Try.underlying26 Try.size26 (fun i hi => (hB.cell (p := ⟨w.heap.size, 0 + i, none⟩) hA3.lt).trans (hA3.keyAt i hi))) ⟨rfl, fun h => absurd h (by decide)⟩
          · intro a w2 hB hF hd
            refine flow_wanted (wanted_yes rfl rfl ((hd 2 _ rfl (waits_spec rfl)).1) rfl) ?_
            refine flow_val (fun h => by cases h) (run_field_at (m := 11) (k := 32) rfl (hF.same 3 rfl) (by kernel_rfl)) ?_
            exact ⟨rfl, fun h => absurd h (by decide)⟩
          · intro a w2 hB hF hd
            refine flow_wanted (wanted_yes rfl rfl ((hd 2 _ rfl (waits_spec rfl)).1) rfl) ?_
            exact flow_val (fun h => by cases h) (run_load_part rfl ((hd 6 _ rfl (waits_spec rfl)).1) Try.underlying64 Try.size64 (fun i hi => (hB.cell (p := ⟨w.heap.size, 32 + i, none⟩) hA3.lt).trans (hA3.nonceAt i hi))) ⟨rfl, fun h => absurd h (by decide)⟩
          · intro a w2 hB hF hd
            refine flow_wanted (wanted_yes rfl rfl ((hd 2 _ rfl (waits_spec rfl)).1) rfl) ?_
            refine flow_val (fun h => by cases h) (run_field_at (m := 0) (k := 44) rfl (hF.same 3 rfl) (by kernel_rfl)) ?_
            exact ⟨rfl, fun h => absurd h (by decide)⟩
          · intro a w2 hB hF hd
            refine flow_wanted (wanted_yes rfl rfl ((hd 2 _ rfl (waits_spec rfl)).1) rfl) ?_
            exact flow_val (fun h => by cases h) (run_load_slice rfl ((hd 8 _ rfl (waits_spec rfl)).1) Try.underlying22 ((hB.cell (p := ⟨w.heap.size, 44, none⟩) hA3.lt).trans hA3.last)) ⟨rfl, fun h => absurd h (by decide)⟩
          · intro a w2 hB hF hd
            refine flow_wanted (wanted_yes rfl rfl ((hd 2 _ rfl (waits_spec rfl)).1) rfl) ?_
            exact flow_move _ (.inl rfl) (by simp) ⟨(hF.same 1 rfl), fun h => absurd h (by decide)⟩
          · intro a w2 hB hF hd
            refine flow_wanted (wanted_yes rfl rfl ((hd 2 _ rfl (waits_spec rfl)).1) rfl) ?_
            refine flow_call _ _ _ rfl Try.call39 _ (args4 ((hd 5 _ rfl (waits_spec rfl)).1) ((hd 7 _ rfl (waits_spec rfl)).1) ((hd 9 _ rfl (waits_spec rfl)).1) ((hd 10 _ rfl (waits_spec rfl)).1)) (by simp) ((rASeal_any key nonce HK.out HN.out _ _ nb n fb f _ (HB3.out.below hB) (HV3.out.below hB) HFB.out (by omega) (by omega)).mono ?_)
            rintro e w3 ⟨u, rfl, hr, hb⟩; exact ⟨u, rfl, ⟨trivial, fun _ => hr⟩, hb⟩
          · intro a w2 hB hF hd
            refine flow_wanted (wanted_yes rfl rfl ((hd 2 _ rfl (waits_spec rfl)).1) rfl) ?_
            refine flow_call _ _ _ rfl Try.call17 _ (args2 ((hd 3 _ rfl (waits_spec rfl)).1) rfl) (by simp) ((same_yes _ _ (n + 16) _ _ _ (HO.out.below hB) ((hd 11 _ rfl (waits_spec rfl)).2 rfl) (fun _ _ => rfl)).mono ?_)
            rintro e w3 ⟨rfl, hb⟩; exact ⟨_, rfl, ⟨rfl, fun h => absurd h (by decide)⟩, hb⟩
          · intro a w2 hB hF hd
            rw [if_pos (wanted_none rfl)]
            exact flow_val (fun h => by cases h) (run_pick rfl ((hd 2 _ rfl (waits_spec rfl)).1)) ⟨(((hd 12 _ rfl (waits_spec rfl)).1)), fun h => absurd h (by decide)⟩
          · intro a w2 hB hF hd
            rw [if_pos (wanted_none rfl)]
            exact flow_move _ (.inl rfl) (by simp) ⟨((hd 13 _ rfl (waits_spec rfl)).1), fun h => absurd h (by decide)⟩
          · intro a w2 hB hF hd
            refine flow_wanted (wanted_yes rfl rfl ((hd 14 _ rfl (waits_spec rfl)).1) rfl) ?_
            refine flow_val (fun h => by cases h) (run_field_at (m := 31) (k := 0) rfl (hF.same 3 rfl) (by kernel_rfl)) ?_
            exact ⟨rfl, fun h => absurd h (by decide)⟩
          · intro a w2 hB hF hd
            refine flow_wanted (wanted_yes rfl rfl ((hd 14 _ rfl (waits_spec rfl)).1) rfl) ?_
            exact flow_val (fun h => by cases h) (run_load_part rfl ((hd 15 _ rfl (waits_spec rfl)).1) Try.underlying26 Try.size26 (fun i hi => (hB.cell (p := ⟨w.heap.size, 0 + i, none⟩) hA3.lt).trans (hA3.keyAt i hi))) ⟨rfl, fun h => absurd h (by decide)⟩
          · intro a w2 hB hF hd
            refine flow_wanted (wanted_yes rfl rfl ((hd 14 _ rfl (waits_spec rfl)).1) rfl) ?_
            refine flow_val (fun h => by cases h) (run_field_at (m := 11) (k := 32) rfl (hF.same 3 rfl) (by kernel_rfl)) ?_
            exact ⟨rfl, fun h => absurd h (by decide)⟩
          · intro a w2 hB hF hd
            refine flow_wanted (wanted_yes rfl rfl ((hd 14 _ rfl (waits_spec rfl)).1) rfl) ?_
            exact flow_val (fun h => by cases h) (run_load_part rfl ((hd 17 _ rfl (waits_spec rfl)).1) Try.underlying64 Try.size64 (fun i hi => (hB.cell (p := ⟨w.heap.size, 32 + i, none⟩) hA3.lt).trans (hA3.nonceAt i hi))) ⟨rfl, fun h => absurd h (by decide)⟩
          · intro a w2 hB hF hd
            refine flow_wanted (wanted_yes rfl rfl ((hd 14 _ rfl (waits_spec rfl)).1) rfl) ?_
            refine flow_val (fun h => by cases h) (run_field_at (m := 0) (k := 44) rfl (hF.same 3 rfl) (by kernel_rfl)) ?_
            exact ⟨rfl, fun h => absurd h (by decide)⟩
          · intro a w2 hB hF hd
            refine flow_wanted (wanted_yes rfl rfl ((hd 14 _ rfl (waits_spec rfl)).1) rfl) ?_
            exact flow_val (fun h => by cases h) (run_load_slice rfl ((hd 19 _ rfl (waits_spec rfl)).1) Try.underlying22 ((hB.cell (p := ⟨w.heap.size, 44, none⟩) hA3.lt).trans hA3.last)) ⟨rfl, fun h => absurd h (by decide)⟩
          · intro a w2 hB hF hd
            refine flow_wanted (wanted_yes rfl rfl ((hd 14 _ rfl (waits_spec rfl)).1) rfl) ?_
            exact flow_move _ (.inl rfl) (by simp) ⟨(hF.same 1 rfl), fun h => absurd h (by decide)⟩
          · intro a w2 hB hF hd
            refine flow_wanted (wanted_yes rfl rfl ((hd 14 _ rfl (waits_spec rfl)).1) rfl) ?_
            refine flow_call _ _ _ rfl Try.call40 _ (args4 ((hd 16 _ rfl (waits_spec rfl)).1) ((hd 18 _ rfl (waits_spec rfl)).1) ((hd 20 _ rfl (waits_spec rfl)).1) ((hd 21 _ rfl (waits_spec rfl)).1)) (by simp) ((aTag_any key nonce HK.out HN.out _ _ nb n fb f _ (HB3.out.below hB) (HV3.out.below hB) HFB.out HF.out (by omega) (by omega)).mono ?_)
            rintro e w3 ⟨rfl, hb⟩; exact ⟨_, rfl, ⟨rfl, fun h => absurd h (by decide)⟩, hb⟩
          · intro a w2 hB hF hd
            refine flow_wanted (wanted_yes rfl rfl ((hd 14 _ rfl (waits_spec rfl)).1) rfl) ?_
            refine flow_val (fun h => by cases h) (run_field_at (m := 31) (k := 0) rfl (hF.same 3 rfl) (by kernel_rfl)) ?_
            exact ⟨rfl, fun h => absurd h (by decide)⟩
          · intro a w2 hB hF hd
            refine flow_wanted (wanted_yes rfl rfl ((hd 14 _ rfl (waits_spec rfl)).1) rfl) ?_
            exact flow_val (fun h => by cases h) (run_load_part rfl ((hd 23 _ rfl (waits_spec rfl)).1) Try.underlying26 Try.size26 (fun i hi => (hB.cell (p := ⟨w.heap.size, 0 + i, none⟩) hA3.lt).trans (hA3.keyAt i hi))) ⟨rfl, fun h => absurd h (by decide)⟩
          · intro a w2 hB hF hd
            refine flow_wanted (wanted_yes rfl rfl ((hd 14 _ rfl (waits_spec rfl)).1) rfl) ?_
            refine flow_val (fun h => by cases h) (run_field_at (m := 11) (k := 32) rfl (hF.same 3 rfl) (by kernel_rfl)) ?_
            exact ⟨rfl, fun h => absurd h (by decide)⟩
          · intro a w2 hB hF hd
            refine flow_wanted (wanted_yes rfl rfl ((hd 14 _ rfl (waits_spec rfl)).1) rfl) ?_
            exact flow_val (fun h => by cases h) (run_load_part rfl ((hd 25 _ rfl (waits_spec rfl)).1) Try.underlying64 Try.size64 (fun i hi => (hB.cell (p := ⟨w.heap.size, 32 + i, none⟩) hA3.lt).trans (hA3.nonceAt i hi))) ⟨rfl, fun h => absurd h (by decide)⟩
          · intro a w2 hB hF hd
            refine flow_wanted (wanted_yes rfl rfl ((hd 14 _ rfl (waits_spec rfl)).1) rfl) ?_
            refine flow_val (fun h => by cases h) (run_field_at (m := 0) (k := 44) rfl (hF.same 3 rfl) (by kernel_rfl)) ?_
            exact ⟨rfl, fun h => absurd h (by decide)⟩
          · intro a w2 hB hF hd
            refine flow_wanted (wanted_yes rfl rfl ((hd 14 _ rfl (waits_spec rfl)).1) rfl) ?_
            exact flow_val (fun h => by cases h) (run_load_slice rfl ((hd 27 _ rfl (waits_spec rfl)).1) Try.underlying22 ((hB.cell (p := ⟨w.heap.size, 44, none⟩) hA3.lt).trans hA3.last)) ⟨rfl, fun h => absurd h (by decide)⟩
          · intro a w2 hB hF hd
            refine flow_wanted (wanted_yes rfl rfl ((hd 14 _ rfl (waits_spec rfl)).1) rfl) ?_
            exact flow_move _ (.inl rfl) (by simp) ⟨(hF.same 1 rfl), fun h => absurd h (by decide)⟩
          · intro a w2 hB hF hd
            refine flow_wanted (wanted_yes rfl rfl ((hd 14 _ rfl (waits_spec rfl)).1) rfl) ?_
            refine flow_call _ _ _ rfl Try.call41 _ (args4 ((hd 24 _ rfl (waits_spec rfl)).1) ((hd 26 _ rfl (waits_spec rfl)).1) ((hd 28 _ rfl (waits_spec rfl)).1) ((hd 29 _ rfl (waits_spec rfl)).1)) (by simp) ((rATag_any key nonce HK.out HN.out _ _ nb n fb f _ (HB3.out.below hB) (HV3.out.below hB) HFB.out HF.out (by omega) (by omega)).mono ?_)
            rintro e w3 ⟨rfl, hb⟩; exact ⟨_, rfl, ⟨rfl, fun h => absurd h (by decide)⟩, hb⟩
          · intro a w2 hB hF hd
            refine flow_wanted (wanted_yes rfl rfl ((hd 14 _ rfl (waits_spec rfl)).1) rfl) ?_
            exact flow_val (fun h => by cases h) (run_eql_arr true rfl ((hd 22 _ rfl (waits_spec rfl)).1) ((hd 30 _ rfl (waits_spec rfl)).1) Try.underlying70 (by kernel_rfl) (by kernel_rfl) (by kernel_rfl) (by kernel_rfl) (by kernel_rfl) sameB_self) ⟨rfl, fun h => absurd h (by decide)⟩
          · intro a w2 hB hF hd
            rw [if_pos (wanted_none rfl)]
            exact flow_val (fun h => by cases h) (run_pick rfl ((hd 14 _ rfl (waits_spec rfl)).1)) ⟨(((hd 31 _ rfl (waits_spec rfl)).1)), fun h => absurd h (by decide)⟩
          · intro a w2 hB hF hd
            rw [if_pos (wanted_none rfl)]
            exact flow_move _ (.inl rfl) (by simp) ⟨((hd 32 _ rfl (waits_spec rfl)).1), fun h => absurd h (by decide)⟩
          · intro a w2 hB hF hd
            refine flow_wanted (wanted_yes rfl rfl ((hd 33 _ rfl (waits_spec rfl)).1) rfl) ?_
            exact flow_move _ (.inl rfl) (by simp) ⟨(hF.same 2 rfl), fun h => absurd h (by decide)⟩
          · intro a w2 hB hF hd
            refine flow_wanted (wanted_yes rfl rfl ((hd 33 _ rfl (waits_spec rfl)).1) rfl) ?_
            refine flow_call _ _ _ rfl Try.call42 _ (args1 ((hd 34 _ rfl (waits_spec rfl)).1)) (by simp) ((aSz_any _ _).mono ?_)
            rintro e w3 ⟨rfl, hb⟩; exact ⟨_, rfl, ⟨rfl, fun h => absurd h (by decide)⟩, hb⟩
          · intro a w2 hB hF hd
            refine flow_wanted (wanted_yes rfl rfl ((hd 33 _ rfl (waits_spec rfl)).1) rfl) ?_
            exact flow_move _ (.inl rfl) (by simp) ⟨(hF.same 9 rfl), fun h => absurd h (by decide)⟩
          · intro a w2 hB hF hd
            refine flow_wanted (wanted_yes rfl rfl ((hd 33 _ rfl (waits_spec rfl)).1) rfl) ?_
            refine flow_val (fun h => by cases h) (Go.Bas.run_eql_int rfl ((hd 35 _ rfl (waits_spec rfl)).1) ((hd 36 _ rfl (waits_spec rfl)).1)) ?_
            exact ⟨(congrArg Value.bool (by rw [HS.out]; exact beq_self_eq_true _)), fun h => absurd h (by decide)⟩
          · intro a w2 hB hF hd
            rw [if_pos (wanted_none rfl)]
            exact flow_val (fun h => by cases h) (run_pick rfl ((hd 33 _ rfl (waits_spec rfl)).1)) ⟨(((hd 37 _ rfl (waits_spec rfl)).1)), fun h => absurd h (by decide)⟩
          · intro a w2 hB hF hd
            rw [if_pos (wanted_none rfl)]
            exact flow_move _ (.inl rfl) (by simp) ⟨((hd 38 _ rfl (waits_spec rfl)).1), fun h => absurd h (by decide)⟩
          · intro a w2 hB hF hd
            refine flow_wanted (wanted_yes rfl rfl ((hd 39 _ rfl (waits_spec rfl)).1) rfl) ?_
            exact flow_move _ (.inl rfl) (by simp) ⟨(hF.same 7 rfl), fun h => absurd h (by decide)⟩
          · intro a w2 hB hF hd
            refine flow_wanted (wanted_yes rfl rfl ((hd 39 _ rfl (waits_spec rfl)).1) rfl) ?_
            exact flow_val (fun h => by cases h) (run_len_sl rfl ((hd 40 _ rfl (waits_spec rfl)).1) Try.underlying22) ⟨rfl, fun h => absurd h (by decide)⟩
          · intro a w2 hB hF hd
            refine flow_wanted (wanted_yes rfl rfl ((hd 39 _ rfl (waits_spec rfl)).1) rfl) ?_
            exact flow_move _ (.inl rfl) (by simp) ⟨(hF.same 1 rfl), fun h => absurd h (by decide)⟩
          · intro a w2 hB hF hd
            refine flow_wanted (wanted_yes rfl rfl ((hd 39 _ rfl (waits_spec rfl)).1) rfl) ?_
            exact flow_val (fun h => by cases h) (run_len_sl rfl ((hd 42 _ rfl (waits_spec rfl)).1) Try.underlying22) ⟨rfl, fun h => absurd h (by decide)⟩
          · intro a w2 hB hF hd
            refine flow_wanted (wanted_yes rfl rfl ((hd 39 _ rfl (waits_spec rfl)).1) rfl) ?_
            refine flow_call _ _ _ rfl Try.call42 _ (args1 ((hd 43 _ rfl (waits_spec rfl)).1)) (by simp) ((aSz_any _ _).mono ?_)
            rintro e w3 ⟨rfl, hb⟩; exact ⟨_, rfl, ⟨rfl, fun h => absurd h (by decide)⟩, hb⟩
          · intro a w2 hB hF hd
            refine flow_wanted (wanted_yes rfl rfl ((hd 39 _ rfl (waits_spec rfl)).1) rfl) ?_
            refine flow_val (fun h => by cases h) (Go.Bas.run_eql_int rfl ((hd 41 _ rfl (waits_spec rfl)).1) ((hd 44 _ rfl (waits_spec rfl)).1)) ?_
            exact ⟨(congrArg Value.bool HSN.out), fun h => absurd h (by decide)⟩
          · intro a w2 hB hF hd
            rw [if_pos (wanted_none rfl)]
            exact flow_val (fun h => by cases h) (run_pick rfl ((hd 39 _ rfl (waits_spec rfl)).1)) ⟨(((hd 45 _ rfl (waits_spec rfl)).1)), fun h => absurd h (by decide)⟩
          · intro a w2 hB hF hd
            rw [if_pos (wanted_none rfl)]
            exact flow_move _ (.inr rfl) (by simp) ⟨((hd 46 _ rfl (waits_spec rfl)).1), fun h => absurd h (by decide)⟩
        · intro a w4 hB hF hS
          obtain ⟨x51, hx51⟩ : ∃ x, x = a.tmps.getD 51 undef := ⟨_, rfl⟩
          have ha := puts_each rfl rfl hF [_, _, _, _, _, _, _, _, _, _, _, x51, _, _, _, _, _, _, _, _, _, _, _, _, _, _, _, _, _, _, _, _, _, _, _, _, _, _, _, _, _, _, _, _, _, _, _, _] rfl ⟨(hS 0 _ rfl).1, (hS 1 _ rfl).1, (hS 2 _ rfl).1, (hS 3 _ rfl).1, (hS 4 _ rfl).1, (hS 5 _ rfl).1, (hS 6 _ rfl).1, (hS 7 _ rfl).1, (hS 8 _ rfl).1, (hS 9 _ rfl).1, (hS 10 _ rfl).1, hx51.symm, (hS 12 _ rfl).1, (hS 13 _ rfl).1, (hS 14 _ rfl).1, (hS 15 _ rfl).1, (hS 16 _ rfl).1, (hS 17 _ rfl).1, (hS 18 _ rfl).1, (hS 19 _ rfl).1, (hS 20 _ rfl).1, (hS 21 _ rfl).1, (hS 22 _ rfl).1, (hS 23 _ rfl).1, (hS 24 _ rfl).1, (hS 25 _ rfl).1, (hS 26 _ rfl).1, (hS 27 _ rfl).1, (hS 28 _ rfl).1, (hS 29 _ rfl).1, (hS 30 _ rfl).1, (hS 31 _ rfl).1, (hS 32 _ rfl).1, (hS 33 _ rfl).1, (hS 34 _ rfl).1, (hS 35 _ rfl).1, (hS 36 _ rfl).1, (hS 37 _ rfl).1, (hS 38 _ rfl).1, (hS 39 _ rfl).1, (hS 40 _ rfl).1, (hS 41 _ rfl).1, (hS 42 _ rfl).1, (hS 43 _ rfl).1, (hS 44 _ rfl).1, (hS 45 _ rfl).1, (hS 46 _ rfl).1, (hS 47 _ rfl).1, trivial⟩
          simp only [puts, Act.put, List.setIfInBounds_toArray, List.set_cons_succ, List.set_cons_zero] at ha
          subst ha
          clear hx51
          clear hS hF
          have hb4 := hbel3.trans (hB.mono hbel3.size)
          go_wp2
          go_ret
          exact ⟨rfl, hb4⟩
      case inr.inl =>
        go_upto_region 9 with (fail)
        refine region_flow (n := 87) (by kernel_rfl) (by kernel_rfl) (by kernel_rfl) rfl
          (fun ii vv ww => (match ii with | 0 => vv = .int .i64 (0) | 1 | 2 | 12 | 13 | 14 | 31 | 32 | 33 | 37 | 38 | 39 | 45 | 46 | 47 => vv = .bool true | 3 | 40 => vv = .slice (some ⟨g, 0, none⟩) (n + 16) c | 4 | 15 | 23 => vv = .pointer (some ⟨w.heap.size, 0, none⟩) | 5 | 16 | 24 => vv = .agg (arr .u8 32 (key)) | 6 | 17 | 25 => vv = .pointer (some ⟨w.heap.size, 32, none⟩) | 7 | 18 | 26 => vv = .agg (arr .u8 12 (nonce)) | 8 | 19 | 27 => vv = .pointer (some ⟨w.heap.size, 44, none⟩) | 9 | 20 | 28 => vv = .slice ab nb cb | 10 | 21 | 29 | 42 => vv = .slice a1 n c1 | 22 | 30 => vv = .agg (arr .u8 16 (dg 256 (aTag key nonce nb fb n f))) | 34 => vv = .int .i64 (m) | 35 => vv = .int .i64 (sizeN m) | 36 => vv = .int .i64 (m + 16) | 41 => vv = .int .i64 (((n + 16 : Nat) : Int)) | 43 => vv = .int .i64 ((n : Int)) | 44 => vv = .int .i64 (sizeN (n : Int)) | _ => True) ∧ (ii = 11 → Rd .u8 ww vv (n + 16) (sealF key nonce nb fb n f)))
          (fun w w' => Below w.heap.size w w') (fun _ _ h => h) (fun i v w w' h hE => ⟨h.1, fun e => Rd.below (h.2 e) hE⟩) ?_ ?_
        · refine Each.all ?_
          refine ⟨?_, ?_, ?_, ?_, ?_, ?_, ?_, ?_, ?_, ?_, ?_, ?_, ?_, ?_, ?_, ?_, ?_, ?_, ?_, ?_, ?_, ?_, ?_, ?_, ?_, ?_, ?_, ?_, ?_, ?_, ?_, ?_, ?_, ?_, ?_, ?_, ?_, ?_, ?_, ?_, ?_, ?_, ?_, ?_, ?_, ?_, ?_, ?_, trivial⟩
          · intro a w2 hB hF hd
            rw [if_pos (wanted_none rfl)]
            exact flow_move _ (.inl rfl) (by simp) ⟨(hF.same 8 rfl), fun h => absurd h (by decide)⟩
          · intro a w2 hB hF hd
            rw [if_pos (wanted_none rfl)]
            refine flow_val (fun h => by cases h) (Go.Bas.run_eql_int rfl ((hd 0 _ rfl (waits_spec rfl)).1) rfl) ?_
            exact ⟨rfl, fun h => absurd h (by decide)⟩
          · intro a w2 hB hF hd
            rw [if_pos (wanted_none rfl)]
            exact flow_move _ (.inl rfl) (by simp) ⟨((hd 1 _ rfl (waits_spec rfl)).1), fun h => absurd h (by decide)⟩
          · intro a w2 hB hF hd
            refine flow_wanted (wanted_yes rfl rfl ((hd 2 _ rfl (waits_spec rfl)).1) rfl) ?_
            exact flow_move _ (.inl rfl) (by simp) ⟨(hF.same 7 rfl), fun h => absurd h (by decide)⟩
          · intro a w2 hB hF hd
            refine flow_wanted (wanted_yes rfl rfl ((hd 2 _ rfl (waits_spec rfl)).1) rfl) ?_
            refine flow_val (fun h => by cases h) (run_field_at (m := 31) (k := 0) rfl (hF.same 3 rfl) (by kernel_rfl)) ?_
            exact ⟨rfl, fun h => absurd h (by decide)⟩
          · intro a w2 hB hF hd
            refine flow_wanted (wanted_yes rfl rfl ((hd 2 _ rfl (waits_spec rfl)).1) rfl) ?_
            exact flow_val (fun h => by cases h) (run_load_part rfl ((hd 4 _ rfl (waits_spec rfl)).1) Try.underlying26 Try.size26 (fun i hi => (hB.cell (p := ⟨w.heap.size, 0 + i, none⟩) hA3.lt).trans (hA3.keyAt i hi))) ⟨rfl, fun h => absurd h (by decide)⟩
          · intro a w2 hB hF hd
            refine flow_wanted (wanted_yes rfl rfl ((hd 2 _ rfl (waits_spec rfl)).1) rfl) ?_
            refine flow_val (fun h => by cases h) (run_field_at (m := 11) (k := 32) rfl (hF.same 3 rfl) (by kernel_rfl)) ?_
            exact ⟨rfl, fun h => absurd h (by decide)⟩
          · intro a w2 hB hF hd
            refine flow_wanted (wanted_yes rfl rfl ((hd 2 _ rfl (waits_spec rfl)).1) rfl) ?_
            exact flow_val (fun h => by cases h) (run_load_part rfl ((hd 6 _ rfl (waits_spec rfl)).1) Try.underlying64 Try.size64 (fun i hi => (hB.cell (p := ⟨w.heap.size, 32 + i, none⟩) hA3.lt).trans (hA3.nonceAt i hi))) ⟨rfl, fun h => absurd h (by decide)⟩
          · intro a w2 hB hF hd
            refine flow_wanted (wanted_yes rfl rfl ((hd 2 _ rfl (waits_spec rfl)).1) rfl) ?_
            refine flow_val (fun h => by cases h) (run_field_at (m := 0) (k := 44) rfl (hF.same 3 rfl) (by kernel_rfl)) ?_
            exact ⟨rfl, fun h => absurd h (by decide)⟩
          · intro a w2 hB hF hd
            refine flow_wanted (wanted_yes rfl rfl ((hd 2 _ rfl (waits_spec rfl)).1) rfl) ?_
            exact flow_val (fun h => by cases h) (run_load_slice rfl ((hd 8 _ rfl (waits_spec rfl)).1) Try.underlying22 ((hB.cell (p := ⟨w.heap.size, 44, none⟩) hA3.lt).trans hA3.last)) ⟨rfl, fun h => absurd h (by decide)⟩
          · intro a w2 hB hF hd
            refine flow_wanted (wanted_yes rfl rfl ((hd 2 _ rfl (waits_spec rfl)).1) rfl) ?_
            exact flow_move _ (.inl rfl) (by simp) ⟨(hF.same 1 rfl), fun h => absurd h (by decide)⟩
          · intro a w2 hB hF hd
            refine flow_wanted (wanted_yes rfl rfl ((hd 2 _ rfl (waits_spec rfl)).1) rfl) ?_
            refine flow_call _ _ _ rfl Try.call39 _ (args4 ((hd 5 _ rfl (waits_spec rfl)).1) ((hd 7 _ rfl (waits_spec rfl)).1) ((hd 9 _ rfl (waits_spec rfl)).1) ((hd 10 _ rfl (waits_spec rfl)).1)) (by simp) ((rASeal_any key nonce HK.out HN.out _ _ nb n fb f _ (HB3.out.below hB) (HV3.out.below hB) HFB.out (by omega) (by omega)).mono ?_)
            rintro e w3 ⟨u, rfl, hr, hb⟩; exact ⟨u, rfl, ⟨trivial, fun _ => hr⟩, hb⟩
          · intro a w2 hB hF hd
            refine flow_wanted (wanted_yes rfl rfl ((hd 2 _ rfl (waits_spec rfl)).1) rfl) ?_
            refine flow_call _ _ _ rfl Try.call17 _ (args2 ((hd 3 _ rfl (waits_spec rfl)).1) rfl) (by simp) ((same_yes _ _ (n + 16) _ _ _ (HO.out.below hB) ((hd 11 _ rfl (waits_spec rfl)).2 rfl) (fun _ _ => rfl)).mono ?_)
            rintro e w3 ⟨rfl, hb⟩; exact ⟨_, rfl, ⟨rfl, fun h => absurd h (by decide)⟩, hb⟩
          · intro a w2 hB hF hd
            rw [if_pos (wanted_none rfl)]
            exact flow_val (fun h => by cases h) (run_pick rfl ((hd 2 _ rfl (waits_spec rfl)).1)) ⟨(((hd 12 _ rfl (waits_spec rfl)).1)), fun h => absurd h (by decide)⟩
          · intro a w2 hB hF hd
            rw [if_pos (wanted_none rfl)]
            exact flow_move _ (.inl rfl) (by simp) ⟨((hd 13 _ rfl (waits_spec rfl)).1), fun h => absurd h (by decide)⟩
          · intro a w2 hB hF hd
            refine flow_wanted (wanted_yes rfl rfl ((hd 14 _ rfl (waits_spec rfl)).1) rfl) ?_
            refine flow_val (fun h => by cases h) (run_field_at (m := 31) (k := 0) rfl (hF.same 3 rfl) (by kernel_rfl)) ?_
            exact ⟨rfl, fun h => absurd h (by decide)⟩
          · intro a w2 hB hF hd
            refine flow_wanted (wanted_yes rfl rfl ((hd 14 _ rfl (waits_spec rfl)).1) rfl) ?_
            exact flow_val (fun h => by cases h) (run_load_part rfl ((hd 15 _ rfl (waits_spec rfl)).1) Try.underlying26 Try.size26 (fun i hi => (hB.cell (p := ⟨w.heap.size, 0 + i, none⟩) hA3.lt).trans (hA3.keyAt i hi))) ⟨rfl, fun h => absurd h (by decide)⟩
          · intro a w2 hB hF hd
            refine flow_wanted (wanted_yes rfl rfl ((hd 14 _ rfl (waits_spec rfl)).1) rfl) ?_
            refine flow_val (fun h => by cases h) (run_field_at (m := 11) (k := 32) rfl (hF.same 3 rfl) (by kernel_rfl)) ?_
            exact ⟨rfl, fun h => absurd h (by decide)⟩
          · intro a w2 hB hF hd
            refine flow_wanted (wanted_yes rfl rfl ((hd 14 _ rfl (waits_spec rfl)).1) rfl) ?_
            exact flow_val (fun h => by cases h) (run_load_part rfl ((hd 17 _ rfl (waits_spec rfl)).1) Try.underlying64 Try.size64 (fun i hi => (hB.cell (p := ⟨w.heap.size, 32 + i, none⟩) hA3.lt).trans (hA3.nonceAt i hi))) ⟨rfl, fun h => absurd h (by decide)⟩
          · intro a w2 hB hF hd
            refine flow_wanted (wanted_yes rfl rfl ((hd 14 _ rfl (waits_spec rfl)).1) rfl) ?_
            refine flow_val (fun h => by cases h) (run_field_at (m := 0) (k := 44) rfl (hF.same 3 rfl) (by kernel_rfl)) ?_
            exact ⟨rfl, fun h => absurd h (by decide)⟩
          · intro a w2 hB hF hd
            refine flow_wanted (wanted_yes rfl rfl ((hd 14 _ rfl (waits_spec rfl)).1) rfl) ?_
            exact flow_val (fun h => by cases h) (run_load_slice rfl ((hd 19 _ rfl (waits_spec rfl)).1) Try.underlying22 ((hB.cell (p := ⟨w.heap.size, 44, none⟩) hA3.lt).trans hA3.last)) ⟨rfl, fun h => absurd h (by decide)⟩
          · intro a w2 hB hF hd
            refine flow_wanted (wanted_yes rfl rfl ((hd 14 _ rfl (waits_spec rfl)).1) rfl) ?_
            exact flow_move _ (.inl rfl) (by simp) ⟨(hF.same 1 rfl), fun h => absurd h (by decide)⟩
          · intro a w2 hB hF hd
            refine flow_wanted (wanted_yes rfl rfl ((hd 14 _ rfl (waits_spec rfl)).1) rfl) ?_
            refine flow_call _ _ _ rfl Try.call40 _ (args4 ((hd 16 _ rfl (waits_spec rfl)).1) ((hd 18 _ rfl (waits_spec rfl)).1) ((hd 20 _ rfl (waits_spec rfl)).1) ((hd 21 _ rfl (waits_spec rfl)).1)) (by simp) ((aTag_any key nonce HK.out HN.out _ _ nb n fb f _ (HB3.out.below hB) (HV3.out.below hB) HFB.out HF.out (by omega) (by omega)).mono ?_)
            rintro e w3 ⟨rfl, hb⟩; exact ⟨_, rfl, ⟨rfl, fun h => absurd h (by decide)⟩, hb⟩
          · intro a w2 hB hF hd
            refine flow_wanted (wanted_yes rfl rfl ((hd 14 _ rfl (waits_spec rfl)).1) rfl) ?_
            refine flow_val (fun h => by cases h) (run_field_at (m := 31) (k := 0) rfl (hF.same 3 rfl) (by kernel_rfl)) ?_
            exact ⟨rfl, fun h => absurd h (by decide)⟩
          · intro a w2 hB hF hd
            refine flow_wanted (wanted_yes rfl rfl ((hd 14 _ rfl (waits_spec rfl)).1) rfl) ?_
            exact flow_val (fun h => by cases h) (run_load_part rfl ((hd 23 _ rfl (waits_spec rfl)).1) Try.underlying26 Try.size26 (fun i hi => (hB.cell (p := ⟨w.heap.size, 0 + i, none⟩) hA3.lt).trans (hA3.keyAt i hi))) ⟨rfl, fun h => absurd h (by decide)⟩
          · intro a w2 hB hF hd
            refine flow_wanted (wanted_yes rfl rfl ((hd 14 _ rfl (waits_spec rfl)).1) rfl) ?_
            refine flow_val (fun h => by cases h) (run_field_at (m := 11) (k := 32) rfl (hF.same 3 rfl) (by kernel_rfl)) ?_
            exact ⟨rfl, fun h => absurd h (by decide)⟩
          · intro a w2 hB hF hd
            refine flow_wanted (wanted_yes rfl rfl ((hd 14 _ rfl (waits_spec rfl)).1) rfl) ?_
            exact flow_val (fun h => by cases h) (run_load_part rfl ((hd 25 _ rfl (waits_spec rfl)).1) Try.underlying64 Try.size64 (fun i hi => (hB.cell (p := ⟨w.heap.size, 32 + i, none⟩) hA3.lt).trans (hA3.nonceAt i hi))) ⟨rfl, fun h => absurd h (by decide)⟩
          · intro a w2 hB hF hd
            refine flow_wanted (wanted_yes rfl rfl ((hd 14 _ rfl (waits_spec rfl)).1) rfl) ?_
            refine flow_val (fun h => by cases h) (run_field_at (m := 0) (k := 44) rfl (hF.same 3 rfl) (by kernel_rfl)) ?_
            exact ⟨rfl, fun h => absurd h (by decide)⟩
          · intro a w2 hB hF hd
            refine flow_wanted (wanted_yes rfl rfl ((hd 14 _ rfl (waits_spec rfl)).1) rfl) ?_
            exact flow_val (fun h => by cases h) (run_load_slice rfl ((hd 27 _ rfl (waits_spec rfl)).1) Try.underlying22 ((hB.cell (p := ⟨w.heap.size, 44, none⟩) hA3.lt).trans hA3.last)) ⟨rfl, fun h => absurd h (by decide)⟩
          · intro a w2 hB hF hd
            refine flow_wanted (wanted_yes rfl rfl ((hd 14 _ rfl (waits_spec rfl)).1) rfl) ?_
            exact flow_move _ (.inl rfl) (by simp) ⟨(hF.same 1 rfl), fun h => absurd h (by decide)⟩
          · intro a w2 hB hF hd
            refine flow_wanted (wanted_yes rfl rfl ((hd 14 _ rfl (waits_spec rfl)).1) rfl) ?_
            refine flow_call _ _ _ rfl Try.call41 _ (args4 ((hd 24 _ rfl (waits_spec rfl)).1) ((hd 26 _ rfl (waits_spec rfl)).1) ((hd 28 _ rfl (waits_spec rfl)).1) ((hd 29 _ rfl (waits_spec rfl)).1)) (by simp) ((rATag_any key nonce HK.out HN.out _ _ nb n fb f _ (HB3.out.below hB) (HV3.out.below hB) HFB.out HF.out (by omega) (by omega)).mono ?_)
            rintro e w3 ⟨rfl, hb⟩; exact ⟨_, rfl, ⟨rfl, fun h => absurd h (by decide)⟩, hb⟩
          · intro a w2 hB hF hd
            refine flow_wanted (wanted_yes rfl rfl ((hd 14 _ rfl (waits_spec rfl)).1) rfl) ?_
            exact flow_val (fun h => by cases h) (run_eql_arr true rfl ((hd 22 _ rfl (waits_spec rfl)).1) ((hd 30 _ rfl (waits_spec rfl)).1) Try.underlying70 (by kernel_rfl) (by kernel_rfl) (by kernel_rfl) (by kernel_rfl) (by kernel_rfl) sameB_self) ⟨rfl, fun h => absurd h (by decide)⟩
          · intro a w2 hB hF hd
            rw [if_pos (wanted_none rfl)]
            exact flow_val (fun h => by cases h) (run_pick rfl ((hd 14 _ rfl (waits_spec rfl)).1)) ⟨(((hd 31 _ rfl (waits_spec rfl)).1)), fun h => absurd h (by decide)⟩
          · intro a w2 hB hF hd
            rw [if_pos (wanted_none rfl)]
            exact flow_move _ (.inl rfl) (by simp) ⟨((hd 32 _ rfl (waits_spec rfl)).1), fun h => absurd h (by decide)⟩
          · intro a w2 hB hF hd
            refine flow_wanted (wanted_yes rfl rfl ((hd 33 _ rfl (waits_spec rfl)).1) rfl) ?_
            exact flow_move _ (.inl rfl) (by simp) ⟨(hF.same 2 rfl), fun h => absurd h (by decide)⟩
          · intro a w2 hB hF hd
            refine flow_wanted (wanted_yes rfl rfl ((hd 33 _ rfl (waits_spec rfl)).1) rfl) ?_
            refine flow_call _ _ _ rfl Try.call42 _ (args1 ((hd 34 _ rfl (waits_spec rfl)).1)) (by simp) ((aSz_any _ _).mono ?_)
            rintro e w3 ⟨rfl, hb⟩; exact ⟨_, rfl, ⟨rfl, fun h => absurd h (by decide)⟩, hb⟩
          · intro a w2 hB hF hd
            refine flow_wanted (wanted_yes rfl rfl ((hd 33 _ rfl (waits_spec rfl)).1) rfl) ?_
            exact flow_move _ (.inl rfl) (by simp) ⟨(hF.same 9 rfl), fun h => absurd h (by decide)⟩
          · intro a w2 hB hF hd
            refine flow_wanted (wanted_yes rfl rfl ((hd 33 _ rfl (waits_spec rfl)).1) rfl) ?_
            refine flow_val (fun h => by cases h) (Go.Bas.run_eql_int rfl ((hd 35 _ rfl (waits_spec rfl)).1) ((hd 36 _ rfl (waits_spec rfl)).1)) ?_
            exact ⟨(congrArg Value.bool (by rw [HS.out]; exact beq_self_eq_true _)), fun h => absurd h (by decide)⟩
          · intro a w2 hB hF hd
            rw [if_pos (wanted_none rfl)]
            exact flow_val (fun h => by cases h) (run_pick rfl ((hd 33 _ rfl (waits_spec rfl)).1)) ⟨(((hd 37 _ rfl (waits_spec rfl)).1)), fun h => absurd h (by decide)⟩
          · intro a w2 hB hF hd
            rw [if_pos (wanted_none rfl)]
            exact flow_move _ (.inl rfl) (by simp) ⟨((hd 38 _ rfl (waits_spec rfl)).1), fun h => absurd h (by decide)⟩
          · intro a w2 hB hF hd
            refine flow_wanted (wanted_yes rfl rfl ((hd 39 _ rfl (waits_spec rfl)).1) rfl) ?_
            exact flow_move _ (.inl rfl) (by simp) ⟨(hF.same 7 rfl), fun h => absurd h (by decide)⟩
          · intro a w2 hB hF hd
            refine flow_wanted (wanted_yes rfl rfl ((hd 39 _ rfl (waits_spec rfl)).1) rfl) ?_
            exact flow_val (fun h => by cases h) (run_len_sl rfl ((hd 40 _ rfl (waits_spec rfl)).1) Try.underlying22) ⟨rfl, fun h => absurd h (by decide)⟩
          · intro a w2 hB hF hd
            refine flow_wanted (wanted_yes rfl rfl ((hd 39 _ rfl (waits_spec rfl)).1) rfl) ?_
            exact flow_move _ (.inl rfl) (by simp) ⟨(hF.same 1 rfl), fun h => absurd h (by decide)⟩
          · intro a w2 hB hF hd
            refine flow_wanted (wanted_yes rfl rfl ((hd 39 _ rfl (waits_spec rfl)).1) rfl) ?_
            exact flow_val (fun h => by cases h) (run_len_sl rfl ((hd 42 _ rfl (waits_spec rfl)).1) Try.underlying22) ⟨rfl, fun h => absurd h (by decide)⟩
          · intro a w2 hB hF hd
            refine flow_wanted (wanted_yes rfl rfl ((hd 39 _ rfl (waits_spec rfl)).1) rfl) ?_
            refine flow_call _ _ _ rfl Try.call42 _ (args1 ((hd 43 _ rfl (waits_spec rfl)).1)) (by simp) ((aSz_any _ _).mono ?_)
            rintro e w3 ⟨rfl, hb⟩; exact ⟨_, rfl, ⟨rfl, fun h => absurd h (by decide)⟩, hb⟩
          · intro a w2 hB hF hd
            refine flow_wanted (wanted_yes rfl rfl ((hd 39 _ rfl (waits_spec rfl)).1) rfl) ?_
            refine flow_val (fun h => by cases h) (Go.Bas.run_eql_int rfl ((hd 41 _ rfl (waits_spec rfl)).1) ((hd 44 _ rfl (waits_spec rfl)).1)) ?_
            exact ⟨(congrArg Value.bool HSN.out), fun h => absurd h (by decide)⟩
          · intro a w2 hB hF hd
            rw [if_pos (wanted_none rfl)]
            exact flow_val (fun h => by cases h) (run_pick rfl ((hd 39 _ rfl (waits_spec rfl)).1)) ⟨(((hd 45 _ rfl (waits_spec rfl)).1)), fun h => absurd h (by decide)⟩
          · intro a w2 hB hF hd
            rw [if_pos (wanted_none rfl)]
            exact flow_move _ (.inr rfl) (by simp) ⟨((hd 46 _ rfl (waits_spec rfl)).1), fun h => absurd h (by decide)⟩
        · intro a w4 hB hF hS
          obtain ⟨x51, hx51⟩ : ∃ x, x = a.tmps.getD 51 undef := ⟨_, rfl⟩
          have ha := puts_each rfl rfl hF [_, _, _, _, _, _, _, _, _, _, _, x51, _, _, _, _, _, _, _, _, _, _, _, _, _, _, _, _, _, _, _, _, _, _, _, _, _, _, _, _, _, _, _, _, _, _, _, _] rfl ⟨(hS 0 _ rfl).1, (hS 1 _ rfl).1, (hS 2 _ rfl).1, (hS 3 _ rfl).1, (hS 4 _ rfl).1, (hS 5 _ rfl).1, (hS 6 _ rfl).1, (hS 7 _ rfl).1, (hS 8 _ rfl).1, (hS 9 _ rfl).1, (hS 10 _ rfl).1, hx51.symm, (hS 12 _ rfl).1, (hS 13 _ rfl).1, (hS 14 _ rfl).1, (hS 15 _ rfl).1, (hS 16 _ rfl).1, (hS 17 _ rfl).1, (hS 18 _ rfl).1, (hS 19 _ rfl).1, (hS 20 _ rfl).1, (hS 21 _ rfl).1, (hS 22 _ rfl).1, (hS 23 _ rfl).1, (hS 24 _ rfl).1, (hS 25 _ rfl).1, (hS 26 _ rfl).1, (hS 27 _ rfl).1, (hS 28 _ rfl).1, (hS 29 _ rfl).1, (hS 30 _ rfl).1, (hS 31 _ rfl).1, (hS 32 _ rfl).1, (hS 33 _ rfl).1, (hS 34 _ rfl).1, (hS 35 _ rfl).1, (hS 36 _ rfl).1, (hS 37 _ rfl).1, (hS 38 _ rfl).1, (hS 39 _ rfl).1, (hS 40 _ rfl).1, (hS 41 _ rfl).1, (hS 42 _ rfl).1, (hS 43 _ rfl).1, (hS 44 _ rfl).1, (hS 45 _ rfl).1, (hS 46 _ rfl).1, (hS 47 _ rfl).1, trivial⟩
          simp only [puts, Act.put, List.setIfInBounds_toArray, List.set_cons_succ, List.set_cons_zero] at ha
          subst ha
          clear hx51
          clear hS hF
          have hb4 := hbel3.trans (hB.mono hbel3.size)
          go_wp2
          go_ret
          exact ⟨rfl, hb4⟩
      case inr.inr =>
        go_upto_region 9 with (fail)
        refine region_flow (n := 87) (by kernel_rfl) (by kernel_rfl) (by kernel_rfl) rfl
          (fun ii vv ww => (match ii with | 0 | 36 => vv = .int .i64 (0) | 1 | 2 | 12 | 13 | 14 | 31 | 32 | 33 | 37 | 38 | 39 | 45 | 46 | 47 => vv = .bool true | 3 | 40 => vv = .slice (some ⟨g, 0, none⟩) (n + 16) c | 4 | 15 | 23 => vv = .pointer (some ⟨w.heap.size, 0, none⟩) | 5 | 16 | 24 => vv = .agg (arr .u8 32 (key)) | 6 | 17 | 25 => vv = .pointer (some ⟨w.heap.size, 32, none⟩) | 7 | 18 | 26 => vv = .agg (arr .u8 12 (nonce)) | 8 | 19 | 27 => vv = .pointer (some ⟨w.heap.size, 44, none⟩) | 9 | 20 | 28 => vv = .slice ab nb cb | 10 | 21 | 29 | 42 => vv = .slice a1 n c1 | 22 | 30 => vv = .agg (arr .u8 16 (dg 256 (aTag key nonce nb fb n f))) | 34 => vv = .int .i64 (m) | 35 => vv = .int .i64 (sizeN m) | 41 => vv = .int .i64 (((n + 16 : Nat) : Int)) | 43 => vv = .int .i64 ((n : Int)) | 44 => vv = .int .i64 (sizeN (n : Int)) | _ => True) ∧ (ii = 11 → Rd .u8 ww vv (n + 16) (sealF key nonce nb fb n f)))
          (fun w w' => Below w.heap.size w w') (fun _ _ h => h) (fun i v w w' h hE => ⟨h.1, fun e => Rd.below (h.2 e) hE⟩) ?_ ?_
        · refine Each.all ?_
          refine ⟨?_, ?_, ?_, ?_, ?_, ?_, ?_, ?_, ?_, ?_, ?_, ?_, ?_, ?_, ?_, ?_, ?_, ?_, ?_, ?_, ?_, ?_, ?_, ?_, ?_, ?_, ?_, ?_, ?_, ?_, ?_, ?_, ?_, ?_, ?_, ?_, ?_, ?_, ?_, ?_, ?_, ?_, ?_, ?_, ?_, ?_, ?_, ?_, trivial⟩
          · intro a w2 hB hF hd
            rw [if_pos (wanted_none rfl)]
            exact flow_move _ (.inl rfl) (by simp) ⟨(hF.same 8 rfl), fun h => absurd h (by decide)⟩
          · intro a w2 hB hF hd
            rw [if_pos (wanted_none rfl)]
            refine flow_val (fun h => by cases h) (Go.Bas.run_eql_int rfl ((hd 0 _ rfl (waits_spec rfl)).1) rfl) ?_
            exact ⟨rfl, fun h => absurd h (by decide)⟩
          · intro a w2 hB hF hd
            rw [if_pos (wanted_none rfl)]
            exact flow_move _ (.inl rfl) (by simp) ⟨((hd 1 _ rfl (waits_spec rfl)).1), fun h => absurd h (by decide)⟩
          · intro a w2 hB hF hd
            refine flow_wanted (wanted_yes rfl rfl ((hd 2 _ rfl (waits_spec rfl)).1) rfl) ?_
            exact flow_move _ (.inl rfl) (by simp) ⟨(hF.same 7 rfl), fun h => absurd h (by decide)⟩
          · intro a w2 hB hF hd
            refine flow_wanted (wanted_yes rfl rfl ((hd 2 _ rfl (waits_spec rfl)).1) rfl) ?_
            refine flow_val (fun h => by cases h) (run_field_at (m := 31) (k := 0) rfl (hF.same 3 rfl) (by kernel_rfl)) ?_
            exact ⟨rfl, fun h => absurd h (by decide)⟩
          · intro a w2 hB hF hd
            refine flow_wanted (wanted_yes rfl rfl ((hd 2 _ rfl (waits_spec rfl)).1) rfl) ?_
            exact flow_val (fun h => by cases h) (run_load_part rfl ((hd 4 _ rfl (waits_spec rfl)).1) Try.underlying26 Try.size26 (fun i hi => (hB.cell (p := ⟨w.heap.size, 0 + i, none⟩) hA3.lt).trans (hA3.keyAt i hi))) ⟨rfl, fun h => absurd h (by decide)⟩
          · intro a w2 hB hF hd
            refine flow_wanted (wanted_yes rfl rfl ((hd 2 _ rfl (waits_spec rfl)).1) rfl) ?_
            refine flow_val (fun h => by cases h) (run_field_at (m := 11) (k := 32) rfl (hF.same 3 rfl) (by kernel_rfl)) ?_
            exact ⟨rfl, fun h => absurd h (by decide)⟩
          · intro a w2 hB hF hd
            refine flow_wanted (wanted_yes rfl rfl ((hd 2 _ rfl (waits_spec rfl)).1) rfl) ?_
            exact flow_val (fun h => by cases h) (run_load_part rfl ((hd 6 _ rfl (waits_spec rfl)).1) Try.underlying64 Try.size64 (fun i hi => (hB.cell (p := ⟨w.heap.size, 32 + i, none⟩) hA3.lt).trans (hA3.nonceAt i hi))) ⟨rfl, fun h => absurd h (by decide)⟩
          · intro a w2 hB hF hd
            refine flow_wanted (wanted_yes rfl rfl ((hd 2 _ rfl (waits_spec rfl)).1) rfl) ?_
            refine flow_val (fun h => by cases h) (run_field_at (m := 0) (k := 44) rfl (hF.same 3 rfl) (by kernel_rfl)) ?_
            exact ⟨rfl, fun h => absurd h (by decide)⟩
          · intro a w2 hB hF hd
            refine flow_wanted (wanted_yes rfl rfl ((hd 2 _ rfl (waits_spec rfl)).1) rfl) ?_
            exact flow_val (fun h => by cases h) (run_load_slice rfl ((hd 8 _ rfl (waits_spec rfl)).1) Try.underlying22 ((hB.cell (p := ⟨w.heap.size, 44, none⟩) hA3.lt).trans hA3.last)) ⟨rfl, fun h => absurd h (by decide)⟩
          · intro a w2 hB hF hd
            refine flow_wanted (wanted_yes rfl rfl ((hd 2 _ rfl (waits_spec rfl)).1) rfl) ?_
            exact flow_move _ (.inl rfl) (by simp) ⟨(hF.same 1 rfl), fun h => absurd h (by decide)⟩
          · intro a w2 hB hF hd
            refine flow_wanted (wanted_yes rfl rfl ((hd 2 _ rfl (waits_spec rfl)).1) rfl) ?_
            refine flow_call _ _ _ rfl Try.call39 _ (args4 ((hd 5 _ rfl (waits_spec rfl)).1) ((hd 7 _ rfl (waits_spec rfl)).1) ((hd 9 _ rfl (waits_spec rfl)).1) ((hd 10 _ rfl (waits_spec rfl)).1)) (by simp) ((rASeal_any key nonce HK.out HN.out _ _ nb n fb f _ (HB3.out.below hB) (HV3.out.below hB) HFB.out (by omega) (by omega)).mono ?_)
            rintro e w3 ⟨u, rfl, hr, hb⟩; exact ⟨u, rfl, ⟨trivial, fun _ => hr⟩, hb⟩
          · intro a w2 hB hF hd
            refine flow_wanted (wanted_yes rfl rfl ((hd 2 _ rfl (waits_spec rfl)).1) rfl) ?_
            refine flow_call _ _ _ rfl Try.call17 _ (args2 ((hd 3 _ rfl (waits_spec rfl)).1) rfl) (by simp) ((same_yes _ _ (n + 16) _ _ _ (HO.out.below hB) ((hd 11 _ rfl (waits_spec rfl)).2 rfl) (fun _ _ => rfl)).mono ?_)
            rintro e w3 ⟨rfl, hb⟩; exact ⟨_, rfl, ⟨rfl, fun h => absurd h (by decide)⟩, hb⟩
          · intro a w2 hB hF hd
            rw [if_pos (wanted_none rfl)]
            exact flow_val (fun h => by cases h) (run_pick rfl ((hd 2 _ rfl (waits_spec rfl)).1)) ⟨(((hd 12 _ rfl (waits_spec rfl)).1)), fun h => absurd h (by decide)⟩
          · intro a w2 hB hF hd
            rw [if_pos (wanted_none rfl)]
            exact flow_move _ (.inl rfl) (by simp) ⟨((hd 13 _ rfl (waits_spec rfl)).1), fun h => absurd h (by decide)⟩
          · intro a w2 hB hF hd
            refine flow_wanted (wanted_yes rfl rfl ((hd 14 _ rfl (waits_spec rfl)).1) rfl) ?_
            refine flow_val (fun h => by cases h) (run_field_at (m := 31) (k := 0) rfl (hF.same 3 rfl) (by kernel_rfl)) ?_
            exact ⟨rfl, fun h => absurd h (by decide)⟩
          · intro a w2 hB hF hd
            refine flow_wanted (wanted_yes rfl rfl ((hd 14 _ rfl (waits_spec rfl)).1) rfl) ?_
            exact flow_val (fun h => by cases h) (run_load_part rfl ((hd 15 _ rfl (waits_spec rfl)).1) Try.underlying26 Try.size26 (fun i hi => (hB.cell (p := ⟨w.heap.size, 0 + i, none⟩) hA3.lt).trans (hA3.keyAt i hi))) ⟨rfl, fun h => absurd h (by decide)⟩
          · intro a w2 hB hF hd
            refine flow_wanted (wanted_yes rfl rfl ((hd 14 _ rfl (waits_spec rfl)).1) rfl) ?_
            refine flow_val (fun h => by cases h) (run_field_at (m := 11) (k := 32) rfl (hF.same 3 rfl) (by kernel_rfl)) ?_
            exact ⟨rfl, fun h => absurd h (by decide)⟩
          · intro a w2 hB hF hd
            refine flow_wanted (wanted_yes rfl rfl ((hd 14 _ rfl (waits_spec rfl)).1) rfl) ?_
            exact flow_val (fun h => by cases h) (run_load_part rfl ((hd 17 _ rfl (waits_spec rfl)).1) Try.underlying64 Try.size64 (fun i hi => (hB.cell (p := ⟨w.heap.size, 32 + i, none⟩) hA3.lt).trans (hA3.nonceAt i hi))) ⟨rfl, fun h => absurd h (by decide)⟩
          · intro a w2 hB hF hd
            refine flow_wanted (wanted_yes rfl rfl ((hd 14 _ rfl (waits_spec rfl)).1) rfl) ?_
            refine flow_val (fun h => by cases h) (run_field_at (m := 0) (k := 44) rfl (hF.same 3 rfl) (by kernel_rfl)) ?_
            exact ⟨rfl, fun h => absurd h (by decide)⟩
          · intro a w2 hB hF hd
            refine flow_wanted (wanted_yes rfl rfl ((hd 14 _ rfl (waits_spec rfl)).1) rfl) ?_
            exact flow_val (fun h => by cases h) (run_load_slice rfl ((hd 19 _ rfl (waits_spec rfl)).1) Try.underlying22 ((hB.cell (p := ⟨w.heap.size, 44, none⟩) hA3.lt).trans hA3.last)) ⟨rfl, fun h => absurd h (by decide)⟩
          · intro a w2 hB hF hd
            refine flow_wanted (wanted_yes rfl rfl ((hd 14 _ rfl (waits_spec rfl)).1) rfl) ?_
            exact flow_move _ (.inl rfl) (by simp) ⟨(hF.same 1 rfl), fun h => absurd h (by decide)⟩
          · intro a w2 hB hF hd
            refine flow_wanted (wanted_yes rfl rfl ((hd 14 _ rfl (waits_spec rfl)).1) rfl) ?_
            refine flow_call _ _ _ rfl Try.call40 _ (args4 ((hd 16 _ rfl (waits_spec rfl)).1) ((hd 18 _ rfl (waits_spec rfl)).1) ((hd 20 _ rfl (waits_spec rfl)).1) ((hd 21 _ rfl (waits_spec rfl)).1)) (by simp) ((aTag_any key nonce HK.out HN.out _ _ nb n fb f _ (HB3.out.below hB) (HV3.out.below hB) HFB.out HF.out (by omega) (by omega)).mono ?_)
            rintro e w3 ⟨rfl, hb⟩; exact ⟨_, rfl, ⟨rfl, fun h => absurd h (by decide)⟩, hb⟩
          · intro a w2 hB hF hd
            refine flow_wanted (wanted_yes rfl rfl ((hd 14 _ rfl (waits_spec rfl)).1) rfl) ?_
            refine flow_val (fun h => by cases h) (run_field_at (m := 31) (k := 0) rfl (hF.same 3 rfl) (by kernel_rfl)) ?_
            exact ⟨rfl, fun h => absurd h (by decide)⟩
          · intro a w2 hB hF hd
            refine flow_wanted (wanted_yes rfl rfl ((hd 14 _ rfl (waits_spec rfl)).1) rfl) ?_
            exact flow_val (fun h => by cases h) (run_load_part rfl ((hd 23 _ rfl (waits_spec rfl)).1) Try.underlying26 Try.size26 (fun i hi => (hB.cell (p := ⟨w.heap.size, 0 + i, none⟩) hA3.lt).trans (hA3.keyAt i hi))) ⟨rfl, fun h => absurd h (by decide)⟩
          · intro a w2 hB hF hd
            refine flow_wanted (wanted_yes rfl rfl ((hd 14 _ rfl (waits_spec rfl)).1) rfl) ?_
            refine flow_val (fun h => by cases h) (run_field_at (m := 11) (k := 32) rfl (hF.same 3 rfl) (by kernel_rfl)) ?_
            exact ⟨rfl, fun h => absurd h (by decide)⟩
          · intro a w2 hB hF hd
            refine flow_wanted (wanted_yes rfl rfl ((hd 14 _ rfl (waits_spec rfl)).1) rfl) ?_
            exact flow_val (fun h => by cases h) (run_load_part rfl ((hd 25 _ rfl (waits_spec rfl)).1) Try.underlying64 Try.size64 (fun i hi => (hB.cell (p := ⟨w.heap.size, 32 + i, none⟩) hA3.lt).trans (hA3.nonceAt i hi))) ⟨rfl, fun h => absurd h (by decide)⟩
          · intro a w2 hB hF hd
            refine flow_wanted (wanted_yes rfl rfl ((hd 14 _ rfl (waits_spec rfl)).1) rfl) ?_
            refine flow_val (fun h => by cases h) (run_field_at (m := 0) (k := 44) rfl (hF.same 3 rfl) (by kernel_rfl)) ?_
            exact ⟨rfl, fun h => absurd h (by decide)⟩
          · intro a w2 hB hF hd
            refine flow_wanted (wanted_yes rfl rfl ((hd 14 _ rfl (waits_spec rfl)).1) rfl) ?_
            exact flow_val (fun h => by cases h) (run_load_slice rfl ((hd 27 _ rfl (waits_spec rfl)).1) Try.underlying22 ((hB.cell (p := ⟨w.heap.size, 44, none⟩) hA3.lt).trans hA3.last)) ⟨rfl, fun h => absurd h (by decide)⟩
          · intro a w2 hB hF hd
            refine flow_wanted (wanted_yes rfl rfl ((hd 14 _ rfl (waits_spec rfl)).1) rfl) ?_
            exact flow_move _ (.inl rfl) (by simp) ⟨(hF.same 1 rfl), fun h => absurd h (by decide)⟩
          · intro a w2 hB hF hd
            refine flow_wanted (wanted_yes rfl rfl ((hd 14 _ rfl (waits_spec rfl)).1) rfl) ?_
            refine flow_call _ _ _ rfl Try.call41 _ (args4 ((hd 24 _ rfl (waits_spec rfl)).1) ((hd 26 _ rfl (waits_spec rfl)).1) ((hd 28 _ rfl (waits_spec rfl)).1) ((hd 29 _ rfl (waits_spec rfl)).1)) (by simp) ((rATag_any key nonce HK.out HN.out _ _ nb n fb f _ (HB3.out.below hB) (HV3.out.below hB) HFB.out HF.out (by omega) (by omega)).mono ?_)
            rintro e w3 ⟨rfl, hb⟩; exact ⟨_, rfl, ⟨rfl, fun h => absurd h (by decide)⟩, hb⟩
          · intro a w2 hB hF hd
            refine flow_wanted (wanted_yes rfl rfl ((hd 14 _ rfl (waits_spec rfl)).1) rfl) ?_
            exact flow_val (fun h => by cases h) (run_eql_arr true rfl ((hd 22 _ rfl (waits_spec rfl)).1) ((hd 30 _ rfl (waits_spec rfl)).1) Try.underlying70 (by kernel_rfl) (by kernel_rfl) (by kernel_rfl) (by kernel_rfl) (by kernel_rfl) sameB_self) ⟨rfl, fun h => absurd h (by decide)⟩
          · intro a w2 hB hF hd
            rw [if_pos (wanted_none rfl)]
            exact flow_val (fun h => by cases h) (run_pick rfl ((hd 14 _ rfl (waits_spec rfl)).1)) ⟨(((hd 31 _ rfl (waits_spec rfl)).1)), fun h => absurd h (by decide)⟩
          · intro a w2 hB hF hd
            rw [if_pos (wanted_none rfl)]
            exact flow_move _ (.inl rfl) (by simp) ⟨((hd 32 _ rfl (waits_spec rfl)).1), fun h => absurd h (by decide)⟩
          · intro a w2 hB hF hd
            refine flow_wanted (wanted_yes rfl rfl ((hd 33 _ rfl (waits_spec rfl)).1) rfl) ?_
            exact flow_move _ (.inl rfl) (by simp) ⟨(hF.same 2 rfl), fun h => absurd h (by decide)⟩
          · intro a w2 hB hF hd
            refine flow_wanted (wanted_yes rfl rfl ((hd 33 _ rfl (waits_spec rfl)).1) rfl) ?_
            refine flow_call _ _ _ rfl Try.call42 _ (args1 ((hd 34 _ rfl (waits_spec rfl)).1)) (by simp) ((aSz_any _ _).mono ?_)
            rintro e w3 ⟨rfl, hb⟩; exact ⟨_, rfl, ⟨rfl, fun h => absurd h (by decide)⟩, hb⟩
          · intro a w2 hB hF hd
            refine flow_wanted (wanted_yes rfl rfl ((hd 33 _ rfl (waits_spec rfl)).1) rfl) ?_
            exact flow_move _ (.inl rfl) (by simp) ⟨(hF.same 9 rfl), fun h => absurd h (by decide)⟩
          · intro a w2 hB hF hd
            refine flow_wanted (wanted_yes rfl rfl ((hd 33 _ rfl (waits_spec rfl)).1) rfl) ?_
            refine flow_val (fun h => by cases h) (Go.Bas.run_eql_int rfl ((hd 35 _ rfl (waits_spec rfl)).1) ((hd 36 _ rfl (waits_spec rfl)).1)) ?_
            exact ⟨(congrArg Value.bool (by rw [HS.out]; exact beq_self_eq_true _)), fun h => absurd h (by decide)⟩
          · intro a w2 hB hF hd
            rw [if_pos (wanted_none rfl)]
            exact flow_val (fun h => by cases h) (run_pick rfl ((hd 33 _ rfl (waits_spec rfl)).1)) ⟨(((hd 37 _ rfl (waits_spec rfl)).1)), fun h => absurd h (by decide)⟩
          · intro a w2 hB hF hd
            rw [if_pos (wanted_none rfl)]
            exact flow_move _ (.inl rfl) (by simp) ⟨((hd 38 _ rfl (waits_spec rfl)).1), fun h => absurd h (by decide)⟩
          · intro a w2 hB hF hd
            refine flow_wanted (wanted_yes rfl rfl ((hd 39 _ rfl (waits_spec rfl)).1) rfl) ?_
            exact flow_move _ (.inl rfl) (by simp) ⟨(hF.same 7 rfl), fun h => absurd h (by decide)⟩
          · intro a w2 hB hF hd
            refine flow_wanted (wanted_yes rfl rfl ((hd 39 _ rfl (waits_spec rfl)).1) rfl) ?_
            exact flow_val (fun h => by cases h) (run_len_sl rfl ((hd 40 _ rfl (waits_spec rfl)).1) Try.underlying22) ⟨rfl, fun h => absurd h (by decide)⟩
          · intro a w2 hB hF hd
            refine flow_wanted (wanted_yes rfl rfl ((hd 39 _ rfl (waits_spec rfl)).1) rfl) ?_
            exact flow_move _ (.inl rfl) (by simp) ⟨(hF.same 1 rfl), fun h => absurd h (by decide)⟩
          · intro a w2 hB hF hd
            refine flow_wanted (wanted_yes rfl rfl ((hd 39 _ rfl (waits_spec rfl)).1) rfl) ?_
            exact flow_val (fun h => by cases h) (run_len_sl rfl ((hd 42 _ rfl (waits_spec rfl)).1) Try.underlying22) ⟨rfl, fun h => absurd h (by decide)⟩
          · intro a w2 hB hF hd
            refine flow_wanted (wanted_yes rfl rfl ((hd 39 _ rfl (waits_spec rfl)).1) rfl) ?_
            refine flow_call _ _ _ rfl Try.call42 _ (args1 ((hd 43 _ rfl (waits_spec rfl)).1)) (by simp) ((aSz_any _ _).mono ?_)
            rintro e w3 ⟨rfl, hb⟩; exact ⟨_, rfl, ⟨rfl, fun h => absurd h (by decide)⟩, hb⟩
          · intro a w2 hB hF hd
            refine flow_wanted (wanted_yes rfl rfl ((hd 39 _ rfl (waits_spec rfl)).1) rfl) ?_
            refine flow_val (fun h => by cases h) (Go.Bas.run_eql_int rfl ((hd 41 _ rfl (waits_spec rfl)).1) ((hd 44 _ rfl (waits_spec rfl)).1)) ?_
            exact ⟨(congrArg Value.bool HSN.out), fun h => absurd h (by decide)⟩
          · intro a w2 hB hF hd
            rw [if_pos (wanted_none rfl)]
            exact flow_val (fun h => by cases h) (run_pick rfl ((hd 39 _ rfl (waits_spec rfl)).1)) ⟨(((hd 45 _ rfl (waits_spec rfl)).1)), fun h => absurd h (by decide)⟩
          · intro a w2 hB hF hd
            rw [if_pos (wanted_none rfl)]
            exact flow_move _ (.inr rfl) (by simp) ⟨((hd 46 _ rfl (waits_spec rfl)).1), fun h => absurd h (by decide)⟩
        · intro a w4 hB hF hS
          obtain ⟨x51, hx51⟩ : ∃ x, x = a.tmps.getD 51 undef := ⟨_, rfl⟩
          have ha := puts_each rfl rfl hF [_, _, _, _, _, _, _, _, _, _, _, x51, _, _, _, _, _, _, _, _, _, _, _, _, _, _, _, _, _, _, _, _, _, _, _, _, _, _, _, _, _, _, _, _, _, _, _, _] rfl ⟨(hS 0 _ rfl).1, (hS 1 _ rfl).1, (hS 2 _ rfl).1, (hS 3 _ rfl).1, (hS 4 _ rfl).1, (hS 5 _ rfl).1, (hS 6 _ rfl).1, (hS 7 _ rfl).1, (hS 8 _ rfl).1, (hS 9 _ rfl).1, (hS 10 _ rfl).1, hx51.symm, (hS 12 _ rfl).1, (hS 13 _ rfl).1, (hS 14 _ rfl).1, (hS 15 _ rfl).1, (hS 16 _ rfl).1, (hS 17 _ rfl).1, (hS 18 _ rfl).1, (hS 19 _ rfl).1, (hS 20 _ rfl).1, (hS 21 _ rfl).1, (hS 22 _ rfl).1, (hS 23 _ rfl).1, (hS 24 _ rfl).1, (hS 25 _ rfl).1, (hS 26 _ rfl).1, (hS 27 _ rfl).1, (hS 28 _ rfl).1, (hS 29 _ rfl).1, (hS 30 _ rfl).1, (hS 31 _ rfl).1, (hS 32 _ rfl).1, (hS 33 _ rfl).1, (hS 34 _ rfl).1, (hS 35 _ rfl).1, (hS 36 _ rfl).1, (hS 37 _ rfl).1, (hS 38 _ rfl).1, (hS 39 _ rfl).1, (hS 40 _ rfl).1, (hS 41 _ rfl).1, (hS 42 _ rfl).1, (hS 43 _ rfl).1, (hS 44 _ rfl).1, (hS 45 _ rfl).1, (hS 46 _ rfl).1, (hS 47 _ rfl).1, trivial⟩
          simp only [puts, Act.put, List.setIfInBounds_toArray, List.set_cons_succ, List.set_cons_zero] at ha
          subst ha
          clear hx51
          clear hS hF
          have hb4 := hbel3.trans (hB.mono hbel3.size)
          go_wp2
          go_ret
          exact ⟨rfl, hb4⟩
end Go.Proofs.Ytgobodhcamgidaa
