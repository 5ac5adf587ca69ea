/-
  poly.Tag of no text; bastillelaw10.awake. Conditions: named in each theorem.
-/
import Derived.Test.YtgobodhcamgidaaPo5
set_option linter.unusedVariables false
set_option linter.unusedSimpArgs false
namespace Go.Bas
theorem high16 {K : Int} (h : 0 ≤ K ∧ K < 256 ^ 32) : sm 256 (fun i => dg 256 K (16 + i)) 16 % PP = K / 256 ^ 16 := by
  have h1 := sm_split 256 (dg 256 K) 16 16
  rw [sm_dg (by decide), sm_dg (by decide), Int.emod_eq_of_lt h.1 h.2] at h1
  have h2 := Int.emod_add_mul_ediv K (256 ^ 16)
  have h3 : sm 256 (fun i => dg 256 K (16 + i)) 16 = K / 256 ^ 16 := by
    have : (256 : Int) ^ 16 * sm 256 (fun i => dg 256 K (16 + i)) 16 = 256 ^ 16 * (K / 256 ^ 16) := by omega
    exact Int.eq_of_mul_eq_mul_left (by decide) this
  rw [h3]
  have h4 : K / 256 ^ 16 < 256 ^ 16 := Int.ediv_lt_of_lt_mul (by decide) (by rw [show (256 : Int) ^ 16 * 256 ^ 16 = 256 ^ 32 by decide]; exact h.2)
  exact Int.emod_eq_of_lt (Int.ediv_nonneg h.1 (by decide)) (Int.lt_trans h4 (by decide))
end Go.Bas
namespace Go.Proofs.Ytgobodhcamgidaa
open Go.RowKit Go.Bas
attribute [local go_sem ↓] Go.wp_at_zero Go.wp_at_succ

theorem build_parts {a : Act} (w : World) : (Instr.build 124 ((#[] : Array (Nat × Operand)).map fun (i, x) => (i, a.eval x))).run Try.prog w = .ok (.agg (arr .u32 17 (fun _ => 0))) w := by
  simp only [List.map_toArray, List.map_nil]
  rw [Go.run_build w _ _ (arr .u32 17 (fun _ => 0)) (by kernel_rfl)]

theorem sum_zero (S : Int) (w : World) : Calls Try.prog 90 #[.agg (arr .u32 17 (dg 256 0)), .agg (arr .u32 17 (dg 256 S))] w fun e w' => e = .returned (.agg (arr .u32 17 (dg 256 S))) ∧ Below w.heap.size w w' := by
  have h := sumP_any 0 S w
  rwa [Int.zero_add] at h

set_option maxRecDepth 100000 in
set_option maxHeartbeats 6400000 in
theorem tag_none (K : Int) (hK : 0 ≤ K ∧ K < 256 ^ 32) (w : World) :
    Calls Try.prog 67 #[.agg (arr .u8 32 (dg 256 K)), .slice none 0 0] w fun e w' => e = .returned (.agg (arr .u8 16 (dg 256 (K / 256 ^ 16)))) ∧ Below w.heap.size w w' := by
  obtain ⟨R, hR⟩ : ∃ R, R = sm 256 (clampF (dg 256 K)) 16 % PP := ⟨_, rfl⟩
  have cb : ∀ i, i < 16 → 0 ≤ clampF (dg 256 K) i ∧ clampF (dg 256 K) i < 256 := fun i _ => by
    have := dg_bound (by decide : (0 : Int) < 256) K i
    unfold clampF
    split
    · omega
    · split <;> omega
  have HO1 : Hid (∀ (v : Value) (w : World), Rd .u8 w v 16 (clampF (dg 256 K)) → Calls Try.prog 85 #[v] w fun e w' => e = .returned (.tuple #[.agg (arr .u8 17 (dg 256 R)), .int .i64 0]) ∧ Below w.heap.size w w') := by
    intro v w hv; rw [hR]; exact poOf_any v 16 _ w hv cb (by decide)
  have HO2 : Hid (∀ (v : Value) (w : World), Rd .u8 w v 16 (fun i => dg 256 K (16 + i)) → Calls Try.prog 85 #[v] w fun e w' => e = .returned (.tuple #[.agg (arr .u8 17 (dg 256 (K / 256 ^ 16))), .int .i64 0]) ∧ Below w.heap.size w w') := by
    intro v w hv; rw [← high16 hK]; exact poOf_any v 16 _ w hv (fun i _ => dg_bound (by decide) _ _) (by decide)
  have HC : Hid (∀ w : World, Calls Try.prog 86 #[.agg (arr .u8 32 (dg 256 K))] w fun e w' => ∃ v, e = .returned v ∧ Rd .u8 w' v 16 (clampF (dg 256 K)) ∧ Below w.heap.size w w') := fun w => clamped_any _ (fun i _ => dg_bound (by decide) _ _) w
  obtain ⟨S, hS⟩ : ∃ S, S = K / 256 ^ 16 := ⟨_, rfl⟩
  rw [← hS] at HO2 ⊢
  obtain ⟨cf, hcf⟩ : ∃ cf, cf = clampF (dg 256 K) := ⟨_, rfl⟩
  rw [← hcf] at HO1 HC
  clear hR cb hS hcf hK
  go_enter Try.func67, Try.ntmps67
  go_upto_region 2 with (fail)
  refine wp_world (fun w1 => Arr .u8 w1 w.heap.size 32 (dg 256 K) ∧ Arr .u8 w1 (w.heap.size + 1) 16 (fun _ => 0) ∧ Below w.heap.size w w1)
    ⟨Arr.alloc (Arr.newAt rfl rfl) _, Arr.newAt (by simp) (by rfl), ((Below.refl _ _).alloc (Nat.le_refl _) _).alloc (by simp) _⟩ ?_
  rintro w1 ⟨hA, hZ, hbel⟩
  go_wp2
  go_loopw [5, 21] (fun v i wr => v = .slice none 0 0 ∧ i = .int .i64 0 ∧ Arr .u8 wr w.heap.size 32 (dg 256 K) ∧ Arr .u8 wr (w.heap.size + 1) 16 (fun _ => 0) ∧ Below w.heap.size w wr) (fun _ _ _ => 0)
  case atStart => exact ⟨rfl, rfl, hA, hZ, hbel⟩
  case round =>
    clear hA hZ hbel
    obtain ⟨rfl, rfl, hA, hZ, hbel⟩ := hrel
    have s0 := hbel.size
    have l0 := hZ.lt
    go_wp2_with (refine load_arr rfl 26 _ rfl .u8 w.heap.size 32 _ 5 Try.underlying26 Try.size26 rfl (Arr.alloc hA _) ?_)
    refine (HC.out _).mono ?_
    rintro e w2 ⟨v, rfl, hv, hb2⟩
    have hA2 := (Arr.alloc hA _).kept hb2
    have hZ2 := (Arr.alloc hZ _).kept hb2
    have hbel2 := (hbel.alloc s0 _).trans (hb2.mono (by simp; omega))
    have hE := (Own.new .u8 5 wr #[] 0 cf (Nat.le_refl _) (by omega) rfl (fun i hi => by omega)).below hb2
    have s2 : wr.heap.size ≤ w2.heap.size := by have := hb2.size; simp at this; omega
    have HV := Lib.hid hv
    clear hA hZ hbel hb2 hv
    go_wp2_with (at_builtin; refine append_rd rfl _ _ 22 rfl wr.heap.size 5 .u8 1 Try.underlying22 Try.info5 _ 0 cf hE rfl _ 16 cf HV.out rfl (fun i _ => by rw [Nat.zero_add]) (by omega) (by omega) s2 ?_; intro v3 w3 hown hgrow)
    refine (HO1.out _ _ (by rw [Nat.zero_add] at hown; exact hown.rd)).mono ?_
    rintro e w4 ⟨rfl, hb4⟩
    have hA4 := (hA2.grown hgrow (hE.far (by omega))).kept hb4
    have hZ4 := (hZ2.grown hgrow (hE.far (by omega))).kept hb4
    have hbel3 := below_grown hbel2 hgrow hE (by omega) s0
    have hbel4 := hbel3.trans (hb4.mono hbel3.size)
    have s4 := hbel4.size
    have l4 := hZ4.lt
    have k4 := hA4.lt
    clear hA2 hZ2 hbel2 hE hown hgrow hb4 hbel3 HV
    go_upto_region 8 with (refine store_arr rfl 120 _ _ rfl .u8 w4.heap.size 17 (fun _ => 0) _ Try.size120 rfl rfl (Arr.newAt rfl rfl) ?_)
    refine wp_world (fun w5 => Arr .u8 w5 w4.heap.size 17 (dg 256 R) ∧ Arr .u8 w5 w.heap.size 32 (dg 256 K) ∧ Arr .u8 w5 (w.heap.size + 1) 16 (fun _ => 0) ∧ Below w.heap.size w w5)
      ⟨Arr.setRow (Arr.newAt (n := 17) (f := fun _ => 0) rfl rfl) _ _, Arr.setRowOther (Arr.alloc hA4 _) _ (by omega) _, Arr.setRowOther (Arr.alloc hZ4 _) _ (by omega) _, below_setRow' (hbel4.alloc s4 _) s4 _⟩ ?_
    rintro w5 ⟨hR5, hA5, hZ5, hbel5⟩
    clear hA4 hZ4 hbel4
    have hRd : Rd .u8 w5 (.slice (some ⟨w.heap.size, 16, none⟩) 16 16) 16 (fun i => dg 256 K (16 + i)) := ⟨_, _, rfl, by decide, by decide, (fun h => by cases h), fun _ => ⟨_, 16, rfl, hA5.lt, fun i hi => hA5.cell (16 + i) (by omega)⟩⟩
    have HRd := Lib.hid hRd
    clear hRd hA5
    go_wp2_with fail
    refine (HO2.out _ _ HRd.out).mono ?_
    rintro e w6 ⟨rfl, hb6⟩
    have hR6 := hR5.kept hb6
    have hZ6 := hZ5.kept hb6
    have hbel6 := hbel5.trans (hb6.mono hbel5.size)
    have s6 := hbel6.size
    have l6 := hZ6.lt
    have r6 := hR6.lt
    clear hR5 hZ5 hbel5 hb6 HRd
    go_upto_region 9 with (refine store_arr rfl 120 _ _ rfl .u8 w6.heap.size 17 (fun _ => 0) _ Try.size120 rfl rfl (Arr.newAt rfl rfl) ?_)
    refine wp_world (fun w7 => Arr .u8 w7 w6.heap.size 17 (dg 256 S) ∧ Arr .u8 w7 w4.heap.size 17 (dg 256 R) ∧ Arr .u8 w7 (w.heap.size + 1) 16 (fun _ => 0) ∧ Below w.heap.size w w7)
      ⟨Arr.setRow (Arr.newAt (n := 17) (f := fun _ => 0) rfl rfl) _ _, Arr.setRowOther (Arr.alloc hR6 _) _ (by omega) _, Arr.setRowOther (Arr.alloc hZ6 _) _ (by omega) _, below_setRow' (hbel6.alloc s6 _) s6 _⟩ ?_
    rintro w7 ⟨hS7, hR7, hZ7, hbel7⟩
    clear hR6 hZ6 hbel6
    go_wp2_with (first
      | (refine load_arr rfl 120 _ rfl .u8 w4.heap.size 17 _ 5 Try.underlying120 Try.size120 rfl hR7 ?_)
      | (refine step_val rfl (run_built rfl (build_parts _)) ?_))
    refine (wide_any R _).mono ?_
    rintro e w8 ⟨rfl, hb8⟩
    have hS8 := hS7.kept hb8
    have hZ8 := hZ7.kept hb8
    have hbel8 := hbel7.trans (hb8.mono hbel7.size)
    have s8 := hbel8.size
    have l8 := hZ8.lt
    have r8 := hS8.lt
    clear hS7 hR7 hZ7 hbel7 hb8
    obtain ⟨p, hp⟩ : ∃ p, p = w6.heap.size := ⟨_, rfl⟩
    rw [← hp] at hS8 r8 ⊢
    clear hp s6 l6 r6
    go_wp2_with (first
      | (refine store_arr rfl 124 _ _ rfl .u32 w8.heap.size 17 (fun _ => 0) _ Try.size124 rfl rfl (Arr.alloc (Arr.newAt (by simp) (by rfl)) _) ?_)
      | (refine store_arr rfl 124 _ _ rfl .u32 (w8.heap.size + 1) 17 (fun _ => 0) _ Try.size124 rfl rfl (Arr.setRowOther (Arr.newAt (by simp) (by rfl)) _ (by omega) _) ?_))
    refine wp_world (fun wq => Arr .u32 wq w8.heap.size 17 (dg 256 0) ∧ Arr .u8 wq p 17 (dg 256 S) ∧ Arr .u8 wq (w.heap.size + 1) 16 (fun _ => 0) ∧ Below w.heap.size w wq) ⟨?_, ?_, ?_, ?_⟩ ?_
    · refine Arr.setRowOther (Arr.congr (f := fun _ => 0) (Arr.setRow (Arr.alloc (Arr.newAt (f := fun _ => 0) (n := 17) (by simp) (by rfl)) _) _ _) fun i _ => by simp [dg]) _ (by omega) _
    · exact Arr.setRowOther (Arr.setRowOther (Arr.alloc (Arr.alloc hS8 _) _) _ (by omega) _) _ (by omega) _
    · exact Arr.setRowOther (Arr.setRowOther (Arr.alloc (Arr.alloc hZ8 _) _) _ (by omega) _) _ (by omega) _
    · exact below_setRow' (below_setRow' ((hbel8.alloc s8 _).alloc (by simp; omega) _) s8 _) (by omega) _
    rintro wb ⟨hT8, hSb, hZb, hbelb⟩
    clear hS8 hZ8 hbel8
    simp only [Act.put]
    go_loopw [5] (fun v wq => v = .slice none 0 0 ∧ Arr .u32 wq w8.heap.size 17 (dg 256 0) ∧ Arr .u8 wq p 17 (dg 256 S) ∧ Arr .u8 wq (w.heap.size + 1) 16 (fun _ => 0) ∧ Below w.heap.size w wq) (fun _ _ => 0)
    case atStart => exact ⟨rfl, hT8, hSb, hZb, hbelb⟩
    case round =>
      clear hT8 hSb hZb hbelb
      obtain ⟨rfl, hT, hS, hZ, hbel⟩ := hrel
      go_upto_region 23 with (fail)
      refine region_vars (n := 87) (by kernel_rfl) (by kernel_rfl) (by kernel_rfl) rfl
        (isAl [(6, 5)]) (putOf [(6, 5)]) (fun _ => arr .u32 17 (fun _ => 0)) (fun _ => (arr .u32 17 (dg 256 S))) (fun _ => 124) (fun _ => 18)
        (fun ii vv _ => (match ii with | 0 | 1 => vv = .agg (arr .u32 17 (dg 256 0)) | 2 => vv = .agg (arr .u8 17 (dg 256 S)) | 3 | 4 => vv = .agg (arr .u32 17 (dg 256 S)) | _ => True)) (fun _ _ => True) (fun _ _ _ => trivial) (fun _ _ _ _ _ _ _ => trivial) (fun _ _ _ _ h _ => h)
        (vs_al rfl) (vs_inj rfl) ?_ ?_ ?_ ?_
      · refine Each.all ?_
        refine ⟨?_, ?_, ?_, ?_, ?_, (fun h => by cases h), (fun _ h => by cases h), trivial⟩
        · intro _ _ a w2 hB hF hd
          rw [if_pos (wanted_none rfl)]
          exact flow_val (fun h => by cases h) (run_load_str rfl Try.underlying124 rfl Try.size124 (hF.same 12 rfl) (hT.below hB hT.lt)) rfl
        · intro _ _ a w2 hB hF hd
          rw [if_pos (wanted_none rfl)]
          refine flow_call _ _ _ rfl Try.call89 _ (args1 (hd 0 _ rfl rfl rfl (waits_spec rfl))) (by simp) ((reduced_dg 0 (by decide) w2).mono ?_)
          rintro e w3 ⟨rfl, hb⟩; exact ⟨_, rfl, rfl, hb⟩
        · intro _ _ a w2 hB hF hd
          rw [if_pos (wanted_none rfl)]
          exact flow_val (fun h => by cases h) (run_load_str rfl Try.underlying120 rfl Try.size120 (hF.same 10 rfl) (hS.below hB hS.lt)) rfl
        · intro _ _ a w2 hB hF hd
          rw [if_pos (wanted_none rfl)]
          refine flow_call _ _ _ rfl Try.call87 _ (args1 (hd 2 _ rfl rfl rfl (waits_spec rfl))) (by simp) ((wide_any S w2).mono ?_)
          rintro e w3 ⟨rfl, hb⟩; exact ⟨_, rfl, rfl, hb⟩
        · intro _ _ a w2 hB hF hd
          rw [if_pos (wanted_none rfl)]
          refine flow_call _ _ _ rfl Try.call90 _ (args2 (hd 1 _ rfl rfl rfl (waits_spec rfl)) (hd 3 _ rfl rfl rfl (waits_spec rfl))) (by simp) ((sum_zero S w2).mono ?_)
          rintro e w3 ⟨rfl, hb⟩; exact ⟨_, rfl, rfl, hb⟩
      · refine Each.all ?_
        refine ⟨(fun h => by cases h), (fun h => by cases h), (fun h => by cases h), (fun h => by cases h), (fun h => by cases h), ?_, (fun h => by cases h), trivial⟩
        · exact fun _ => ⟨rfl, rfl, fun a w2 K h => flow_alloc rfl rfl Try.zeroValue124 (by simp) h⟩
      · refine Each.all ?_
        refine ⟨(fun _ h => by cases h), (fun _ h => by cases h), (fun _ h => by cases h), (fun _ h => by cases h), (fun _ h => by cases h), (fun _ h => by cases h), ?_, trivial⟩
        · intro p hp
          obtain rfl : 5 = p := Option.some.inj hp
          exact ⟨rfl, rfl, ⟨_, rfl⟩, waits_spec rfl, fun a w2 b K hB hF hd hx hb h => flow_put rfl rfl Try.size124 hx (hd 4 _ rfl rfl rfl (waits_spec rfl)) hb h⟩
      · intro a w9 blk hB hF hS hv hfin hdis
        obtain ⟨v5, v5l, v5u⟩ := hv 5 _ rfl rfl
        have ha := puts_each rfl rfl hF [_, _, _, _, _, _, undef] rfl ⟨hS 0 _ rfl rfl rfl, hS 1 _ rfl rfl rfl, hS 2 _ rfl rfl rfl, hS 3 _ rfl rfl rfl, hS 4 _ rfl rfl rfl, v5, trivial, trivial⟩
        have f5 := hfin 6 _ 5 rfl rfl
        simp only [puts, Act.put, List.setIfInBounds_toArray, List.set_cons_succ, List.set_cons_zero] at ha
        subst ha
        have V5 : Arr .u32 w9 (blk 5) 17 (dg 256 S) := ⟨_, f5⟩
        clear hS hv hfin hdis hF v5 f5
        have hZ9 := hZ.below hB hZ.lt
        have hbel9 := hbel.trans (hB.mono hbel.size)
        have s9 := hbel9.size
        clear hT hS hZ hbel hB
        obtain ⟨q, hq⟩ : ∃ q, q = blk 5 := ⟨_, rfl⟩
        rw [← hq] at V5 ⊢
        clear hq
        go_wp2_with (refine load_arr rfl 124 _ rfl .u32 q 17 _ 97 Try.underlying124 Try.size124 rfl V5 ?_)
        refine (bytes16_any S _).mono ?_
        rintro e wa ⟨v, rfl, hv, hba⟩
        have hZa := hZ9.kept hba
        have hbela := hbel9.trans (hba.mono s9)
        obtain ⟨g, c, rfl, q1, q2, q3, q4, hcells, q5⟩ := hv.form (by decide)
        have HCL := Lib.hid hcells
        have hat := arrayAt_part (a := some ⟨g, 0, none⟩) (len := 16) (cap := c) Try.underlying70 (by decide)
        clear hv hcells q5 hZ9 hbel9 V5 hba
        go_wp2_with (first
          | (refine load_part rfl 70 _ rfl .u8 g 0 16 (dg 256 S) 5 Try.underlying70 Try.size70 rfl (fun i hi => by rw [Nat.zero_add]; exact HCL.out i hi) ?_)
          | (refine store_arr rfl 70 _ _ rfl .u8 (w.heap.size + 1) 16 (fun _ => 0) _ Try.size70 rfl rfl hZa ?_))
        exact bodyPost_ret (results_arr rfl _ _ .u8 (w.heap.size + 1) 16 _ 5 rfl (hZa.setRow _ _) Try.underlying70 Try.size70) rfl ⟨rfl, below_setRow' hbela (by omega) _⟩
end Go.Proofs.Ytgobodhcamgidaa
