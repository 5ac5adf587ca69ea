/-
  The law PolyLaws answers true.
-/
import Derived.Test.YtjmagojmfiabfaaPoA
namespace Go.Bas
theorem pl_acomm (A B : Int) : (A + B) % PP = (B + A) % PP := by rw [Int.add_comm]
theorem pl_mcomm (A B : Int) : A * B % PP = B * A % PP := by rw [Int.mul_comm]
theorem pl_massoc (A B C : Int) : A * B % PP * C % PP = A * (B * C % PP) % PP := by
  rw [Int.mul_emod (A * B % PP), Int.emod_emod_of_dvd _ (Int.dvd_refl PP), ← Int.mul_emod, Int.mul_emod A (B * C % PP), Int.emod_emod_of_dvd _ (Int.dvd_refl PP), ← Int.mul_emod, Int.mul_assoc]
theorem pl_aassoc (A B C : Int) : ((A + B) % PP + C) % PP = (A + (B + C) % PP) % PP := by
  rw [Int.add_emod ((A + B) % PP), Int.emod_emod_of_dvd _ (Int.dvd_refl PP), ← Int.add_emod, Int.add_emod A ((B + C) % PP), Int.emod_emod_of_dvd _ (Int.dvd_refl PP), ← Int.add_emod, Int.add_assoc]
theorem pl_distr (A B C : Int) : A * ((B + C) % PP) % PP = (A * B % PP + A * C % PP) % PP := by
  rw [← Int.add_emod, Int.mul_emod A ((B + C) % PP), Int.emod_emod_of_dvd _ (Int.dvd_refl PP), ← Int.mul_emod, Int.mul_add]
theorem pl_one (A : Int) : A * 1 % PP % PP = A % PP := by rw [Int.mul_one, Int.emod_emod_of_dvd _ (Int.dvd_refl PP)]
theorem pl_zero (A : Int) : (A + 0) % PP % PP = A % PP := by rw [Int.add_zero, Int.emod_emod_of_dvd _ (Int.dvd_refl PP)]
theorem small1 : (0 : Int) ≤ 1 ∧ (1 : Int) < 256 ^ 17 := by decide
theorem small0 : (0 : Int) ≤ 0 ∧ (0 : Int) < 256 ^ 17 := by decide
end Go.Bas
namespace Go.Proofs.Ytjmagojmfiabfaa
open Go.RowKit Go.Bas Go.ChangeShapes
attribute [local go_sem ↓] Go.wp_at_zero Go.wp_at_succ

theorem samePo {n : Nat} {B X Y : Int} (h : X = Y) : sameB n (dg B X) (dg B Y) = true := by rw [h]; exact sameB_self
theorem num17 (f : Nat → Int) (h : ∀ i, i < 17 → (Lit.int .u8 (f i)).wf = true) : ∃ X : Int, arr .u8 17 f = arr .u8 17 (dg 256 X) ∧ 0 ≤ X ∧ X < 256 ^ 17 := by
  have h' : ∀ i, i < 17 → 0 ≤ f i ∧ f i < 256 := fun i hi => by have := bounds_u8 (h i hi); omega
  exact ⟨sm 256 f 17, arr_congr fun i hi => (dg_sm (by decide) h' i hi).symm, sm_bound (by decide) h'⟩

set_option maxRecDepth 100000 in
set_option maxHeartbeats 25600000 in
theorem polyLaws_law (w : World) (fa : Nat → Int) (ha : ∀ i, i < 17 → (Lit.int .u8 (fa i)).wf = true) (fb : Nat → Int) (hb : ∀ i, i < 17 → (Lit.int .u8 (fb i)).wf = true) (fc : Nat → Int) (hc : ∀ i, i < 17 → (Lit.int .u8 (fc i)).wf = true) :
    Calls Try.prog 14 #[.agg (arr .u8 17 fa), .agg (arr .u8 17 fb), .agg (arr .u8 17 fc)] w fun e w' => e = .returned (.bool true) ∧ Below w.heap.size w w' := by
  obtain ⟨A, eA, hA⟩ := num17 fa ha
  obtain ⟨B, eB, hB⟩ := num17 fb hb
  obtain ⟨C, eC, hC⟩ := num17 fc hc
  rw [eA, eB, eC]
  have HA := Lib.hid hA
  have HB := Lib.hid hB
  have HC := Lib.hid hC
  clear hA hB hC ha hb hc eA eB eC
  go_enter Try.func14, Try.ntmps14
  go_upto_region 1 with (fail)
  refine wp_world (fun w1 => Arr .u8 w1 w.heap.size 17 (dg 256 A) ∧ Arr .u8 w1 (w.heap.size + 1) 17 (dg 256 B) ∧ Arr .u8 w1 (w.heap.size + 2) 17 (dg 256 C) ∧ Below w.heap.size w w1)
    ⟨Arr.alloc (Arr.alloc (Arr.newAt rfl rfl) _) _, Arr.alloc (Arr.newAt (by first | omega | (simp <;> omega)) rfl) _, Arr.newAt (by first | omega | (simp <;> omega)) rfl, (((Below.refl _ _).alloc (Nat.le_refl _) _).alloc (by simp) _).alloc (by simp; omega) _⟩ ?_
  rintro w1 ⟨hA1, hB1, hC1, hb1⟩
  go_wp2_with fail
  refine (awake_any _).mono ?_
  rintro e w2 ⟨rfl, hb2⟩
  have hA := hA1.kept hb2
  have hBb := hB1.kept hb2
  have hC := hC1.kept hb2
  have hbel := hb1.trans (hb2.mono hb1.size)
  clear hA1 hB1 hC1 hb1 hb2
  go_upto_region 3 with (fail)
  refine region_vars (n := 90) (by kernel_rfl) (by kernel_rfl) (by kernel_rfl) rfl
    (isAl [(6, 3), (7, 4), (8, 5)]) (putOf [(6, 3), (7, 4), (8, 5)]) (fun _ => arr .u8 17 (fun _ => 0)) (fun i => match i with | 3 => (arr .u8 17 (dg 256 A)) | 4 => (arr .u8 17 (dg 256 B)) | 5 => (arr .u8 17 (dg 256 C)) | _ => #[]) (fun _ => 87) (fun i => match i with | 3 => 7 | 4 => 8 | 5 => 9 | _ => 0)
    (fun i v _ => (match i with | 0 => v = .agg (arr .u8 17 (dg 256 A)) | 1 => v = .agg (arr .u8 17 (dg 256 B)) | 2 => v = .agg (arr .u8 17 (dg 256 C)) | _ => True)) (fun _ _ => True) (fun _ _ _ => trivial) (fun _ _ _ _ _ _ _ => trivial) (fun _ _ _ _ h _ => h)
    (vs_al rfl) (vs_inj rfl) ?_ ?_ ?_ ?_
  · refine Each.all ?_
    refine ⟨?_, ?_, ?_, (fun h => by cases h), (fun h => by cases h), (fun h => by cases h), (fun _ h => by cases h), (fun _ h => by cases h), (fun _ h => by cases h), trivial⟩
    · intro _ _ a w2 hB hF hd
      rw [if_pos (wanted_none rfl)]
      exact flow_val (fun h => by cases h) (run_load_str rfl Try.underlying86 rfl Try.size86 (hF.same 3 rfl) (hA.below hB hA.lt)) rfl
    · intro _ _ a w2 hB hF hd
      rw [if_pos (wanted_none rfl)]
      exact flow_val (fun h => by cases h) (run_load_str rfl Try.underlying86 rfl Try.size86 (hF.same 4 rfl) (hBb.below hB hBb.lt)) rfl
    · intro _ _ a w2 hB hF hd
      rw [if_pos (wanted_none rfl)]
      exact flow_val (fun h => by cases h) (run_load_str rfl Try.underlying86 rfl Try.size86 (hF.same 5 rfl) (hC.below hB hC.lt)) rfl
  · refine Each.all ?_
    refine ⟨(fun h => by cases h), (fun h => by cases h), (fun h => by cases h), ?_, ?_, ?_, (fun h => by cases h), (fun h => by cases h), (fun h => by cases h), trivial⟩
    · exact fun _ => ⟨rfl, rfl, fun a w2 K h => flow_alloc rfl rfl Try.zeroValue87 (by simp) h⟩
    · exact fun _ => ⟨rfl, rfl, fun a w2 K h => flow_alloc rfl rfl Try.zeroValue87 (by simp) h⟩
    · exact fun _ => ⟨rfl, rfl, fun a w2 K h => flow_alloc rfl rfl Try.zeroValue87 (by simp) h⟩
  · refine Each.all ?_
    refine ⟨(fun _ h => by cases h), (fun _ h => by cases h), (fun _ h => by cases h), (fun _ h => by cases h), (fun _ h => by cases h), (fun _ h => by cases h), ?_, ?_, ?_, trivial⟩
    · intro p hp
      obtain rfl : 3 = p := Option.some.inj hp
      exact ⟨rfl, rfl, ⟨_, rfl⟩, waits_spec rfl, fun a w2 b K hB hF hd hx hb h => flow_put rfl rfl Try.size87 hx (hd 0 _ rfl rfl rfl (waits_spec rfl)) hb h⟩
    · intro p hp
      obtain rfl : 4 = p := Option.some.inj hp
      exact ⟨rfl, rfl, ⟨_, rfl⟩, waits_spec rfl, fun a w2 b K hB hF hd hx hb h => flow_put rfl rfl Try.size87 hx (hd 1 _ rfl rfl rfl (waits_spec rfl)) hb h⟩
    · intro p hp
      obtain rfl : 5 = p := Option.some.inj hp
      exact ⟨rfl, rfl, ⟨_, rfl⟩, waits_spec rfl, fun a w2 b K hB hF hd hx hb h => flow_put rfl rfl Try.size87 hx (hd 2 _ rfl rfl rfl (waits_spec rfl)) hb h⟩
  · intro a w3 blk hB hF hS hv hfin hdis
    obtain ⟨v3, v3l, v3u⟩ := hv 3 _ rfl rfl
    obtain ⟨v4, v4l, v4u⟩ := hv 4 _ rfl rfl
    obtain ⟨v5, v5l, v5u⟩ := hv 5 _ rfl rfl
    have ha := puts_each rfl rfl hF [_, _, _, _, _, _, undef, undef, undef] rfl ⟨hS 0 _ rfl rfl rfl, hS 1 _ rfl rfl rfl, hS 2 _ rfl rfl rfl, v3, v4, v5, trivial, trivial, trivial, trivial⟩
    have f3 := hfin 6 _ 3 rfl rfl
    have f4 := hfin 7 _ 4 rfl rfl
    have f5 := hfin 8 _ 5 rfl rfl
    have d3_4 := hdis 3 4 _ _ rfl rfl rfl rfl (by decide)
    have d3_5 := hdis 3 5 _ _ rfl rfl rfl rfl (by decide)
    have d4_5 := hdis 4 5 _ _ rfl rfl rfl rfl (by decide)
    simp only [puts, Act.put, List.setIfInBounds_toArray, List.set_cons_succ, List.set_cons_zero] at ha
    subst ha
    have V3 : Arr .u8 w3 (blk 3) 17 (dg 256 A) := ⟨_, f3⟩
    have V4 : Arr .u8 w3 (blk 4) 17 (dg 256 B) := ⟨_, f4⟩
    have V5 : Arr .u8 w3 (blk 5) 17 (dg 256 C) := ⟨_, f5⟩
    clear hS hv hfin hdis hF v3 v4 v5 f3 f4 f5
    have hbel3 := hbel.trans (hB.mono hbel.size)
    obtain ⟨x, hx⟩ : ∃ x, x = blk 3 := ⟨_, rfl⟩
    obtain ⟨y, hy⟩ : ∃ y, y = blk 4 := ⟨_, rfl⟩
    obtain ⟨z, hz⟩ : ∃ z, z = blk 5 := ⟨_, rfl⟩
    rw [← hx] at V3 ⊢
    rw [← hy] at V4 ⊢
    rw [← hz] at V5 ⊢
    clear hx hy hz hA hBb hC hbel hB d3_4 d3_5 d4_5 v3l v3u v4l v4u v5l v5u
    go_upto_region 4 with (fail)
    simp only [List.append]
    refine region_flow (n := 90) (by kernel_rfl) (by kernel_rfl) (by kernel_rfl) rfl
      (fun i v _ => (match i with | 0 | 4 | 8 | 12 | 17 | 22 | 30 | 35 | 43 | 48 | 51 | 58 | 62 | 67 | 71 => v = .agg (arr .u8 17 (dg 256 A)) | 1 | 3 | 9 | 11 | 18 | 23 | 31 | 36 | 44 | 49 => v = .agg (arr .u8 17 (dg 256 B)) | 2 | 32 => v = .agg (arr .u8 17 (dg 256 ((A + B) % PP))) | 5 => v = .agg (arr .u8 17 (dg 256 ((B + A) % PP))) | 6 | 7 | 14 | 15 | 16 | 27 | 28 | 29 | 40 | 41 | 42 | 55 | 56 | 57 | 64 | 65 | 66 | 73 | 74 | 75 => v = .bool true | 10 | 19 | 50 => v = .agg (arr .u8 17 (dg 256 (A * B % PP))) | 13 => v = .agg (arr .u8 17 (dg 256 (B * A % PP))) | 20 | 24 | 33 | 37 | 45 | 52 => v = .agg (arr .u8 17 (dg 256 C)) | 21 => v = .agg (arr .u8 17 (dg 256 ((A * B % PP) * C % PP))) | 25 => v = .agg (arr .u8 17 (dg 256 (B * C % PP))) | 26 => v = .agg (arr .u8 17 (dg 256 (A * (B * C % PP) % PP))) | 34 => v = .agg (arr .u8 17 (dg 256 ((((A + B) % PP) + C) % PP))) | 38 | 46 => v = .agg (arr .u8 17 (dg 256 ((B + C) % PP))) | 39 => v = .agg (arr .u8 17 (dg 256 ((A + ((B + C) % PP)) % PP))) | 47 => v = .agg (arr .u8 17 (dg 256 (A * ((B + C) % PP) % PP))) | 53 => v = .agg (arr .u8 17 (dg 256 (A * C % PP))) | 54 => v = .agg (arr .u8 17 (dg 256 (((A * B % PP) + (A * C % PP)) % PP))) | 59 => v = .agg (arr .u8 17 (dg 256 1)) | 60 => v = .agg (arr .u8 17 (dg 256 (A * 1 % PP))) | 61 => v = .agg (arr .u8 17 (dg 256 ((A * 1 % PP) % PP))) | 63 | 72 => v = .agg (arr .u8 17 (dg 256 (A % PP))) | 68 => v = .agg (arr .u8 17 (dg 256 0)) | 69 => v = .agg (arr .u8 17 (dg 256 ((A + 0) % PP))) | 70 => v = .agg (arr .u8 17 (dg 256 (((A + 0) % PP) % PP))) | _ => True))
      (fun w w' => Below w.heap.size w w') (fun _ _ h => h) (fun _ _ _ _ h _ => h) ?_ ?_
    · refine Each.all ?_
      refine ⟨?_, ?_, ?_, ?_, ?_, ?_, ?_, ?_, ?_, ?_, ?_, ?_, ?_, ?_, ?_, ?_, ?_, ?_, ?_, ?_, ?_, ?_, ?_, ?_, ?_, ?_, ?_, ?_, ?_, ?_, ?_, ?_, ?_, ?_, ?_, ?_, ?_, ?_, ?_, ?_, ?_, ?_, ?_, ?_, ?_, ?_, ?_, ?_, ?_, ?_, ?_, ?_, ?_, ?_, ?_, ?_, ?_, ?_, ?_, ?_, ?_, ?_, ?_, ?_, ?_, ?_, ?_, ?_, ?_, ?_, ?_, ?_, ?_, ?_, ?_, ?_, trivial⟩
      · intro a w2 hB hF hd
        rw [if_pos (wanted_none rfl)]
        exact flow_val (fun h => by cases h) (run_load_str rfl Try.underlying87 rfl Try.size87 (hF.same 7 rfl) (V3.below hB V3.lt)) rfl
      · intro a w2 hB hF hd
        rw [if_pos (wanted_none rfl)]
        exact flow_val (fun h => by cases h) (run_load_str rfl Try.underlying87 rfl Try.size87 (hF.same 8 rfl) (V4.below hB V4.lt)) rfl
      · intro a w2 hB hF hd
        rw [if_pos (wanted_none rfl)]
        refine flow_call _ _ _ rfl Try.call64 _ (args2 (hd 0 _ rfl (waits_spec rfl)) (hd 1 _ rfl (waits_spec rfl))) (by simp) ((poAdd_any A B HA.out HB.out w2).mono ?_)
        rintro e w3 ⟨rfl, hb⟩; exact ⟨_, rfl, rfl, hb⟩
      · intro a w2 hB hF hd
        rw [if_pos (wanted_none rfl)]
        exact flow_val (fun h => by cases h) (run_load_str rfl Try.underlying87 rfl Try.size87 (hF.same 8 rfl) (V4.below hB V4.lt)) rfl
      · intro a w2 hB hF hd
        rw [if_pos (wanted_none rfl)]
        exact flow_val (fun h => by cases h) (run_load_str rfl Try.underlying87 rfl Try.size87 (hF.same 7 rfl) (V3.below hB V3.lt)) rfl
      · intro a w2 hB hF hd
        rw [if_pos (wanted_none rfl)]
        refine flow_call _ _ _ rfl Try.call64 _ (args2 (hd 3 _ rfl (waits_spec rfl)) (hd 4 _ rfl (waits_spec rfl))) (by simp) ((poAdd_any B A HB.out HA.out w2).mono ?_)
        rintro e w3 ⟨rfl, hb⟩; exact ⟨_, rfl, rfl, hb⟩
      · intro a w2 hB hF hd
        rw [if_pos (wanted_none rfl)]
        exact flow_val (fun h => by cases h) (run_eql_arr true rfl (hd 2 _ rfl (waits_spec rfl)) (hd 5 _ rfl (waits_spec rfl)) Try.underlying87 (by kernel_rfl) (by kernel_rfl) (by kernel_rfl) (by kernel_rfl) (by kernel_rfl) (samePo (pl_acomm A B))) rfl
      · intro a w2 hB hF hd
        rw [if_pos (wanted_none rfl)]
        exact flow_move _ (.inl rfl) (by simp) (hd 6 _ rfl (waits_spec rfl))
      · intro a w2 hB hF hd
        refine flow_wanted (wanted_yes rfl rfl (hd 7 _ rfl (waits_spec rfl)) rfl) ?_
        exact flow_val (fun h => by cases h) (run_load_str rfl Try.underlying87 rfl Try.size87 (hF.same 7 rfl) (V3.below hB V3.lt)) rfl
      · intro a w2 hB hF hd
        refine flow_wanted (wanted_yes rfl rfl (hd 7 _ rfl (waits_spec rfl)) rfl) ?_
        exact flow_val (fun h => by cases h) (run_load_str rfl Try.underlying87 rfl Try.size87 (hF.same 8 rfl) (V4.below hB V4.lt)) rfl
      · intro a w2 hB hF hd
        refine flow_wanted (wanted_yes rfl rfl (hd 7 _ rfl (waits_spec rfl)) rfl) ?_
        refine flow_call _ _ _ rfl Try.call66 _ (args2 (hd 8 _ rfl (waits_spec rfl)) (hd 9 _ rfl (waits_spec rfl))) (by simp) ((poMul_any A B HA.out HB.out w2).mono ?_)
        rintro e w3 ⟨rfl, hb⟩; exact ⟨_, rfl, rfl, hb⟩
      · intro a w2 hB hF hd
        refine flow_wanted (wanted_yes rfl rfl (hd 7 _ rfl (waits_spec rfl)) rfl) ?_
        exact flow_val (fun h => by cases h) (run_load_str rfl Try.underlying87 rfl Try.size87 (hF.same 8 rfl) (V4.below hB V4.lt)) rfl
      · intro a w2 hB hF hd
        refine flow_wanted (wanted_yes rfl rfl (hd 7 _ rfl (waits_spec rfl)) rfl) ?_
        exact flow_val (fun h => by cases h) (run_load_str rfl Try.underlying87 rfl Try.size87 (hF.same 7 rfl) (V3.below hB V3.lt)) rfl
      · intro a w2 hB hF hd
        refine flow_wanted (wanted_yes rfl rfl (hd 7 _ rfl (waits_spec rfl)) rfl) ?_
        refine flow_call _ _ _ rfl Try.call66 _ (args2 (hd 11 _ rfl (waits_spec rfl)) (hd 12 _ rfl (waits_spec rfl))) (by simp) ((poMul_any B A HB.out HA.out w2).mono ?_)
        rintro e w3 ⟨rfl, hb⟩; exact ⟨_, rfl, rfl, hb⟩
      · intro a w2 hB hF hd
        refine flow_wanted (wanted_yes rfl rfl (hd 7 _ rfl (waits_spec rfl)) rfl) ?_
        exact flow_val (fun h => by cases h) (run_eql_arr true rfl (hd 10 _ rfl (waits_spec rfl)) (hd 13 _ rfl (waits_spec rfl)) Try.underlying87 (by kernel_rfl) (by kernel_rfl) (by kernel_rfl) (by kernel_rfl) (by kernel_rfl) (samePo (pl_mcomm A B))) rfl
      · intro a w2 hB hF hd
        rw [if_pos (wanted_none rfl)]
        exact flow_val (fun h => by cases h) (run_pick rfl (hd 7 _ rfl (waits_spec rfl))) ((hd 14 _ rfl (waits_spec rfl)))
      · intro a w2 hB hF hd
        rw [if_pos (wanted_none rfl)]
        exact flow_move _ (.inl rfl) (by simp) (hd 15 _ rfl (waits_spec rfl))
      · intro a w2 hB hF hd
        refine flow_wanted (wanted_yes rfl rfl (hd 16 _ rfl (waits_spec rfl)) rfl) ?_
        exact flow_val (fun h => by cases h) (run_load_str rfl Try.underlying87 rfl Try.size87 (hF.same 7 rfl) (V3.below hB V3.lt)) rfl
      · intro a w2 hB hF hd
        refine flow_wanted (wanted_yes rfl rfl (hd 16 _ rfl (waits_spec rfl)) rfl) ?_
        exact flow_val (fun h => by cases h) (run_load_str rfl Try.underlying87 rfl Try.size87 (hF.same 8 rfl) (V4.below hB V4.lt)) rfl
      · intro a w2 hB hF hd
        refine flow_wanted (wanted_yes rfl rfl (hd 16 _ rfl (waits_spec rfl)) rfl) ?_
        refine flow_call _ _ _ rfl Try.call66 _ (args2 (hd 17 _ rfl (waits_spec rfl)) (hd 18 _ rfl (waits_spec rfl))) (by simp) ((poMul_any A B HA.out HB.out w2).mono ?_)
        rintro e w3 ⟨rfl, hb⟩; exact ⟨_, rfl, rfl, hb⟩
      · intro a w2 hB hF hd
        refine flow_wanted (wanted_yes rfl rfl (hd 16 _ rfl (waits_spec rfl)) rfl) ?_
        exact flow_val (fun h => by cases h) (run_load_str rfl Try.underlying87 rfl Try.size87 (hF.same 9 rfl) (V5.below hB V5.lt)) rfl
      · intro a w2 hB hF hd
        refine flow_wanted (wanted_yes rfl rfl (hd 16 _ rfl (waits_spec rfl)) rfl) ?_
        refine flow_call _ _ _ rfl Try.call66 _ (args2 (hd 19 _ rfl (waits_spec rfl)) (hd 20 _ rfl (waits_spec rfl))) (by simp) ((poMul_any (A * B % PP) C (modPP _) HC.out w2).mono ?_)
        rintro e w3 ⟨rfl, hb⟩; exact ⟨_, rfl, rfl, hb⟩
      · intro a w2 hB hF hd
        refine flow_wanted (wanted_yes rfl rfl (hd 16 _ rfl (waits_spec rfl)) rfl) ?_
        exact flow_val (fun h => by cases h) (run_load_str rfl Try.underlying87 rfl Try.size87 (hF.same 7 rfl) (V3.below hB V3.lt)) rfl
      · intro a w2 hB hF hd
        refine flow_wanted (wanted_yes rfl rfl (hd 16 _ rfl (waits_spec rfl)) rfl) ?_
        exact flow_val (fun h => by cases h) (run_load_str rfl Try.underlying87 rfl Try.size87 (hF.same 8 rfl) (V4.below hB V4.lt)) rfl
      · intro a w2 hB hF hd
        refine flow_wanted (wanted_yes rfl rfl (hd 16 _ rfl (waits_spec rfl)) rfl) ?_
        exact flow_val (fun h => by cases h) (run_load_str rfl Try.underlying87 rfl Try.size87 (hF.same 9 rfl) (V5.below hB V5.lt)) rfl
      · intro a w2 hB hF hd
        refine flow_wanted (wanted_yes rfl rfl (hd 16 _ rfl (waits_spec rfl)) rfl) ?_
        refine flow_call _ _ _ rfl Try.call66 _ (args2 (hd 23 _ rfl (waits_spec rfl)) (hd 24 _ rfl (waits_spec rfl))) (by simp) ((poMul_any B C HB.out HC.out w2).mono ?_)
        rintro e w3 ⟨rfl, hb⟩; exact ⟨_, rfl, rfl, hb⟩
      · intro a w2 hB hF hd
        refine flow_wanted (wanted_yes rfl rfl (hd 16 _ rfl (waits_spec rfl)) rfl) ?_
        refine flow_call _ _ _ rfl Try.call66 _ (args2 (hd 22 _ rfl (waits_spec rfl)) (hd 25 _ rfl (waits_spec rfl))) (by simp) ((poMul_any A (B * C % PP) HA.out (modPP _) w2).mono ?_)
        rintro e w3 ⟨rfl, hb⟩; exact ⟨_, rfl, rfl, hb⟩
      · intro a w2 hB hF hd
        refine flow_wanted (wanted_yes rfl rfl (hd 16 _ rfl (waits_spec rfl)) rfl) ?_
        exact flow_val (fun h => by cases h) (run_eql_arr true rfl (hd 21 _ rfl (waits_spec rfl)) (hd 26 _ rfl (waits_spec rfl)) Try.underlying87 (by kernel_rfl) (by kernel_rfl) (by kernel_rfl) (by kernel_rfl) (by kernel_rfl) (samePo (pl_massoc A B C))) rfl
      · intro a w2 hB hF hd
        rw [if_pos (wanted_none rfl)]
        exact flow_val (fun h => by cases h) (run_pick rfl (hd 16 _ rfl (waits_spec rfl))) ((hd 27 _ rfl (waits_spec rfl)))
      · intro a w2 hB hF hd
        rw [if_pos (wanted_none rfl)]
        exact flow_move _ (.inl rfl) (by simp) (hd 28 _ rfl (waits_spec rfl))
      · intro a w2 hB hF hd
        refine flow_wanted (wanted_yes rfl rfl (hd 29 _ rfl (waits_spec rfl)) rfl) ?_
        exact flow_val (fun h => by cases h) (run_load_str rfl Try.underlying87 rfl Try.size87 (hF.same 7 rfl) (V3.below hB V3.lt)) rfl
      · intro a w2 hB hF hd
        refine flow_wanted (wanted_yes rfl rfl (hd 29 _ rfl (waits_spec rfl)) rfl) ?_
        exact flow_val (fun h => by cases h) (run_load_str rfl Try.underlying87 rfl Try.size87 (hF.same 8 rfl) (V4.below hB V4.lt)) rfl
      · intro a w2 hB hF hd
        refine flow_wanted (wanted_yes rfl rfl (hd 29 _ rfl (waits_spec rfl)) rfl) ?_
        refine flow_call _ _ _ rfl Try.call64 _ (args2 (hd 30 _ rfl (waits_spec rfl)) (hd 31 _ rfl (waits_spec rfl))) (by simp) ((poAdd_any A B HA.out HB.out w2).mono ?_)
        rintro e w3 ⟨rfl, hb⟩; exact ⟨_, rfl, rfl, hb⟩
      · intro a w2 hB hF hd
        refine flow_wanted (wanted_yes rfl rfl (hd 29 _ rfl (waits_spec rfl)) rfl) ?_
        exact flow_val (fun h => by cases h) (run_load_str rfl Try.underlying87 rfl Try.size87 (hF.same 9 rfl) (V5.below hB V5.lt)) rfl
      · intro a w2 hB hF hd
        refine flow_wanted (wanted_yes rfl rfl (hd 29 _ rfl (waits_spec rfl)) rfl) ?_
        refine flow_call _ _ _ rfl Try.call64 _ (args2 (hd 32 _ rfl (waits_spec rfl)) (hd 33 _ rfl (waits_spec rfl))) (by simp) ((poAdd_any ((A + B) % PP) C (modPP _) HC.out w2).mono ?_)
        rintro e w3 ⟨rfl, hb⟩; exact ⟨_, rfl, rfl, hb⟩
      · intro a w2 hB hF hd
        refine flow_wanted (wanted_yes rfl rfl (hd 29 _ rfl (waits_spec rfl)) rfl) ?_
        exact flow_val (fun h => by cases h) (run_load_str rfl Try.underlying87 rfl Try.size87 (hF.same 7 rfl) (V3.below hB V3.lt)) rfl
      · intro a w2 hB hF hd
        refine flow_wanted (wanted_yes rfl rfl (hd 29 _ rfl (waits_spec rfl)) rfl) ?_
        exact flow_val (fun h => by cases h) (run_load_str rfl Try.underlying87 rfl Try.size87 (hF.same 8 rfl) (V4.below hB V4.lt)) rfl
      · intro a w2 hB hF hd
        refine flow_wanted (wanted_yes rfl rfl (hd 29 _ rfl (waits_spec rfl)) rfl) ?_
        exact flow_val (fun h => by cases h) (run_load_str rfl Try.underlying87 rfl Try.size87 (hF.same 9 rfl) (V5.below hB V5.lt)) rfl
      · intro a w2 hB hF hd
        refine flow_wanted (wanted_yes rfl rfl (hd 29 _ rfl (waits_spec rfl)) rfl) ?_
        refine flow_call _ _ _ rfl Try.call64 _ (args2 (hd 36 _ rfl (waits_spec rfl)) (hd 37 _ rfl (waits_spec rfl))) (by simp) ((poAdd_any B C HB.out HC.out w2).mono ?_)
        rintro e w3 ⟨rfl, hb⟩; exact ⟨_, rfl, rfl, hb⟩
      · intro a w2 hB hF hd
        refine flow_wanted (wanted_yes rfl rfl (hd 29 _ rfl (waits_spec rfl)) rfl) ?_
        refine flow_call _ _ _ rfl Try.call64 _ (args2 (hd 35 _ rfl (waits_spec rfl)) (hd 38 _ rfl (waits_spec rfl))) (by simp) ((poAdd_any A ((B + C) % PP) HA.out (modPP _) w2).mono ?_)
        rintro e w3 ⟨rfl, hb⟩; exact ⟨_, rfl, rfl, hb⟩
      · intro a w2 hB hF hd
        refine flow_wanted (wanted_yes rfl rfl (hd 29 _ rfl (waits_spec rfl)) rfl) ?_
        exact flow_val (fun h => by cases h) (run_eql_arr true rfl (hd 34 _ rfl (waits_spec rfl)) (hd 39 _ rfl (waits_spec rfl)) Try.underlying87 (by kernel_rfl) (by kernel_rfl) (by kernel_rfl) (by kernel_rfl) (by kernel_rfl) (samePo (pl_aassoc A B C))) rfl
      · intro a w2 hB hF hd
        rw [if_pos (wanted_none rfl)]
        exact flow_val (fun h => by cases h) (run_pick rfl (hd 29 _ rfl (waits_spec rfl))) ((hd 40 _ rfl (waits_spec rfl)))
      · intro a w2 hB hF hd
        rw [if_pos (wanted_none rfl)]
        exact flow_move _ (.inl rfl) (by simp) (hd 41 _ rfl (waits_spec rfl))
      · intro a w2 hB hF hd
        refine flow_wanted (wanted_yes rfl rfl (hd 42 _ rfl (waits_spec rfl)) rfl) ?_
        exact flow_val (fun h => by cases h) (run_load_str rfl Try.underlying87 rfl Try.size87 (hF.same 7 rfl) (V3.below hB V3.lt)) rfl
      · intro a w2 hB hF hd
        refine flow_wanted (wanted_yes rfl rfl (hd 42 _ rfl (waits_spec rfl)) rfl) ?_
        exact flow_val (fun h => by cases h) (run_load_str rfl Try.underlying87 rfl Try.size87 (hF.same 8 rfl) (V4.below hB V4.lt)) rfl
      · intro a w2 hB hF hd
        refine flow_wanted (wanted_yes rfl rfl (hd 42 _ rfl (waits_spec rfl)) rfl) ?_
        exact flow_val (fun h => by cases h) (run_load_str rfl Try.underlying87 rfl Try.size87 (hF.same 9 rfl) (V5.below hB V5.lt)) rfl
      · intro a w2 hB hF hd
        refine flow_wanted (wanted_yes rfl rfl (hd 42 _ rfl (waits_spec rfl)) rfl) ?_
        refine flow_call _ _ _ rfl Try.call64 _ (args2 (hd 44 _ rfl (waits_spec rfl)) (hd 45 _ rfl (waits_spec rfl))) (by simp) ((poAdd_any B C HB.out HC.out w2).mono ?_)
        rintro e w3 ⟨rfl, hb⟩; exact ⟨_, rfl, rfl, hb⟩
      · intro a w2 hB hF hd
        refine flow_wanted (wanted_yes rfl rfl (hd 42 _ rfl (waits_spec rfl)) rfl) ?_
        refine flow_call _ _ _ rfl Try.call66 _ (args2 (hd 43 _ rfl (waits_spec rfl)) (hd 46 _ rfl (waits_spec rfl))) (by simp) ((poMul_any A ((B + C) % PP) HA.out (modPP _) w2).mono ?_)
        rintro e w3 ⟨rfl, hb⟩; exact ⟨_, rfl, rfl, hb⟩
      · intro a w2 hB hF hd
        refine flow_wanted (wanted_yes rfl rfl (hd 42 _ rfl (waits_spec rfl)) rfl) ?_
        exact flow_val (fun h => by cases h) (run_load_str rfl Try.underlying87 rfl Try.size87 (hF.same 7 rfl) (V3.below hB V3.lt)) rfl
      · intro a w2 hB hF hd
        refine flow_wanted (wanted_yes rfl rfl (hd 42 _ rfl (waits_spec rfl)) rfl) ?_
        exact flow_val (fun h => by cases h) (run_load_str rfl Try.underlying87 rfl Try.size87 (hF.same 8 rfl) (V4.below hB V4.lt)) rfl
      · intro a w2 hB hF hd
        refine flow_wanted (wanted_yes rfl rfl (hd 42 _ rfl (waits_spec rfl)) rfl) ?_
        refine flow_call _ _ _ rfl Try.call66 _ (args2 (hd 48 _ rfl (waits_spec rfl)) (hd 49 _ rfl (waits_spec rfl))) (by simp) ((poMul_any A B HA.out HB.out w2).mono ?_)
        rintro e w3 ⟨rfl, hb⟩; exact ⟨_, rfl, rfl, hb⟩
      · intro a w2 hB hF hd
        refine flow_wanted (wanted_yes rfl rfl (hd 42 _ rfl (waits_spec rfl)) rfl) ?_
        exact flow_val (fun h => by cases h) (run_load_str rfl Try.underlying87 rfl Try.size87 (hF.same 7 rfl) (V3.below hB V3.lt)) rfl
      · intro a w2 hB hF hd
        refine flow_wanted (wanted_yes rfl rfl (hd 42 _ rfl (waits_spec rfl)) rfl) ?_
        exact flow_val (fun h => by cases h) (run_load_str rfl Try.underlying87 rfl Try.size87 (hF.same 9 rfl) (V5.below hB V5.lt)) rfl
      · intro a w2 hB hF hd
        refine flow_wanted (wanted_yes rfl rfl (hd 42 _ rfl (waits_spec rfl)) rfl) ?_
        refine flow_call _ _ _ rfl Try.call66 _ (args2 (hd 51 _ rfl (waits_spec rfl)) (hd 52 _ rfl (waits_spec rfl))) (by simp) ((poMul_any A C HA.out HC.out w2).mono ?_)
        rintro e w3 ⟨rfl, hb⟩; exact ⟨_, rfl, rfl, hb⟩
      · intro a w2 hB hF hd
        refine flow_wanted (wanted_yes rfl rfl (hd 42 _ rfl (waits_spec rfl)) rfl) ?_
        refine flow_call _ _ _ rfl Try.call64 _ (args2 (hd 50 _ rfl (waits_spec rfl)) (hd 53 _ rfl (waits_spec rfl))) (by simp) ((poAdd_any (A * B % PP) (A * C % PP) (modPP _) (modPP _) w2).mono ?_)
        rintro e w3 ⟨rfl, hb⟩; exact ⟨_, rfl, rfl, hb⟩
      · intro a w2 hB hF hd
        refine flow_wanted (wanted_yes rfl rfl (hd 42 _ rfl (waits_spec rfl)) rfl) ?_
        exact flow_val (fun h => by cases h) (run_eql_arr true rfl (hd 47 _ rfl (waits_spec rfl)) (hd 54 _ rfl (waits_spec rfl)) Try.underlying87 (by kernel_rfl) (by kernel_rfl) (by kernel_rfl) (by kernel_rfl) (by kernel_rfl) (samePo (pl_distr A B C))) rfl
      · intro a w2 hB hF hd
        rw [if_pos (wanted_none rfl)]
        exact flow_val (fun h => by cases h) (run_pick rfl (hd 42 _ rfl (waits_spec rfl))) ((hd 55 _ rfl (waits_spec rfl)))
      · intro a w2 hB hF hd
        rw [if_pos (wanted_none rfl)]
        exact flow_move _ (.inl rfl) (by simp) (hd 56 _ rfl (waits_spec rfl))
      · intro a w2 hB hF hd
        refine flow_wanted (wanted_yes rfl rfl (hd 57 _ rfl (waits_spec rfl)) rfl) ?_
        exact flow_val (fun h => by cases h) (run_load_str rfl Try.underlying87 rfl Try.size87 (hF.same 7 rfl) (V3.below hB V3.lt)) rfl
      · intro a w2 hB hF hd
        refine flow_wanted (wanted_yes rfl rfl (hd 57 _ rfl (waits_spec rfl)) rfl) ?_
        exact flow_val (fun h => by cases h) (run_built rfl (build_num1 _)) rfl
      · intro a w2 hB hF hd
        refine flow_wanted (wanted_yes rfl rfl (hd 57 _ rfl (waits_spec rfl)) rfl) ?_
        refine flow_call _ _ _ rfl Try.call66 _ (args2 (hd 58 _ rfl (waits_spec rfl)) (hd 59 _ rfl (waits_spec rfl))) (by simp) ((poMul_any A 1 HA.out small1 w2).mono ?_)
        rintro e w3 ⟨rfl, hb⟩; exact ⟨_, rfl, rfl, hb⟩
      · intro a w2 hB hF hd
        refine flow_wanted (wanted_yes rfl rfl (hd 57 _ rfl (waits_spec rfl)) rfl) ?_
        refine flow_call _ _ _ rfl Try.call62 _ (args1 (hd 60 _ rfl (waits_spec rfl))) (by simp) ((poBytes_any (A * 1 % PP) (modPP _) w2).mono ?_)
        rintro e w3 ⟨rfl, hb⟩; exact ⟨_, rfl, rfl, hb⟩
      · intro a w2 hB hF hd
        refine flow_wanted (wanted_yes rfl rfl (hd 57 _ rfl (waits_spec rfl)) rfl) ?_
        exact flow_val (fun h => by cases h) (run_load_str rfl Try.underlying87 rfl Try.size87 (hF.same 7 rfl) (V3.below hB V3.lt)) rfl
      · intro a w2 hB hF hd
        refine flow_wanted (wanted_yes rfl rfl (hd 57 _ rfl (waits_spec rfl)) rfl) ?_
        refine flow_call _ _ _ rfl Try.call62 _ (args1 (hd 62 _ rfl (waits_spec rfl))) (by simp) ((poBytes_any A HA.out w2).mono ?_)
        rintro e w3 ⟨rfl, hb⟩; exact ⟨_, rfl, rfl, hb⟩
      · intro a w2 hB hF hd
        refine flow_wanted (wanted_yes rfl rfl (hd 57 _ rfl (waits_spec rfl)) rfl) ?_
        exact flow_val (fun h => by cases h) (run_eql_arr true rfl (hd 61 _ rfl (waits_spec rfl)) (hd 63 _ rfl (waits_spec rfl)) Try.underlying86 (by kernel_rfl) (by kernel_rfl) (by kernel_rfl) (by kernel_rfl) (by kernel_rfl) (samePo (pl_one A))) rfl
      · intro a w2 hB hF hd
        rw [if_pos (wanted_none rfl)]
        exact flow_val (fun h => by cases h) (run_pick rfl (hd 57 _ rfl (waits_spec rfl))) ((hd 64 _ rfl (waits_spec rfl)))
      · intro a w2 hB hF hd
        rw [if_pos (wanted_none rfl)]
        exact flow_move _ (.inl rfl) (by simp) (hd 65 _ rfl (waits_spec rfl))
      · intro a w2 hB hF hd
        refine flow_wanted (wanted_yes rfl rfl (hd 66 _ rfl (waits_spec rfl)) rfl) ?_
        exact flow_val (fun h => by cases h) (run_load_str rfl Try.underlying87 rfl Try.size87 (hF.same 7 rfl) (V3.below hB V3.lt)) rfl
      · intro a w2 hB hF hd
        refine flow_wanted (wanted_yes rfl rfl (hd 66 _ rfl (waits_spec rfl)) rfl) ?_
        exact flow_val (fun h => by cases h) (run_built rfl (build_num0 _)) rfl
      · intro a w2 hB hF hd
        refine flow_wanted (wanted_yes rfl rfl (hd 66 _ rfl (waits_spec rfl)) rfl) ?_
        refine flow_call _ _ _ rfl Try.call64 _ (args2 (hd 67 _ rfl (waits_spec rfl)) (hd 68 _ rfl (waits_spec rfl))) (by simp) ((poAdd_any A 0 HA.out small0 w2).mono ?_)
        rintro e w3 ⟨rfl, hb⟩; exact ⟨_, rfl, rfl, hb⟩
      · intro a w2 hB hF hd
        refine flow_wanted (wanted_yes rfl rfl (hd 66 _ rfl (waits_spec rfl)) rfl) ?_
        refine flow_call _ _ _ rfl Try.call62 _ (args1 (hd 69 _ rfl (waits_spec rfl))) (by simp) ((poBytes_any ((A + 0) % PP) (modPP _) w2).mono ?_)
        rintro e w3 ⟨rfl, hb⟩; exact ⟨_, rfl, rfl, hb⟩
      · intro a w2 hB hF hd
        refine flow_wanted (wanted_yes rfl rfl (hd 66 _ rfl (waits_spec rfl)) rfl) ?_
        exact flow_val (fun h => by cases h) (run_load_str rfl Try.underlying87 rfl Try.size87 (hF.same 7 rfl) (V3.below hB V3.lt)) rfl
      · intro a w2 hB hF hd
        refine flow_wanted (wanted_yes rfl rfl (hd 66 _ rfl (waits_spec rfl)) rfl) ?_
        refine flow_call _ _ _ rfl Try.call62 _ (args1 (hd 71 _ rfl (waits_spec rfl))) (by simp) ((poBytes_any A HA.out w2).mono ?_)
        rintro e w3 ⟨rfl, hb⟩; exact ⟨_, rfl, rfl, hb⟩
      · intro a w2 hB hF hd
        refine flow_wanted (wanted_yes rfl rfl (hd 66 _ rfl (waits_spec rfl)) rfl) ?_
        exact flow_val (fun h => by cases h) (run_eql_arr true rfl (hd 70 _ rfl (waits_spec rfl)) (hd 72 _ rfl (waits_spec rfl)) Try.underlying86 (by kernel_rfl) (by kernel_rfl) (by kernel_rfl) (by kernel_rfl) (by kernel_rfl) (samePo (pl_zero A))) rfl
      · intro a w2 hB hF hd
        rw [if_pos (wanted_none rfl)]
        exact flow_val (fun h => by cases h) (run_pick rfl (hd 66 _ rfl (waits_spec rfl))) ((hd 73 _ rfl (waits_spec rfl)))
      · intro a w2 hB hF hd
        rw [if_pos (wanted_none rfl)]
        exact flow_move _ (.inr rfl) (by simp) (hd 74 _ rfl (waits_spec rfl))
    · intro a w4 hB hF hS
      have ha := puts_each rfl rfl hF [_, _, _, _, _, _, _, _, _, _, _, _, _, _, _, _, _, _, _, _, _, _, _, _, _, _, _, _, _, _, _, _, _, _, _, _, _, _, _, _, _, _, _, _, _, _, _, _, _, _, _, _, _, _, _, _, _, _, _, _, _, _, _, _, _, _, _, _, _, _, _, _, _, _, _, _] rfl ⟨hS 0 _ rfl, hS 1 _ rfl, hS 2 _ rfl, hS 3 _ rfl, hS 4 _ rfl, hS 5 _ rfl, hS 6 _ rfl, hS 7 _ rfl, hS 8 _ rfl, hS 9 _ rfl, hS 10 _ rfl, hS 11 _ rfl, hS 12 _ rfl, hS 13 _ rfl, hS 14 _ rfl, hS 15 _ rfl, hS 16 _ rfl, hS 17 _ rfl, hS 18 _ rfl, hS 19 _ rfl, hS 20 _ rfl, hS 21 _ rfl, hS 22 _ rfl, hS 23 _ rfl, hS 24 _ rfl, hS 25 _ rfl, hS 26 _ rfl, hS 27 _ rfl, hS 28 _ rfl, hS 29 _ rfl, hS 30 _ rfl, hS 31 _ rfl, hS 32 _ rfl, hS 33 _ rfl, hS 34 _ rfl, hS 35 _ rfl, hS 36 _ rfl, hS 37 _ rfl, hS 38 _ rfl, hS 39 _ rfl, hS 40 _ rfl, hS 41 _ rfl, hS 42 _ rfl, hS 43 _ rfl, hS 44 _ rfl, hS 45 _ rfl, hS 46 _ rfl, hS 47 _ rfl, hS 48 _ rfl, hS 49 _ rfl, hS 50 _ rfl, hS 51 _ rfl, hS 52 _ rfl, hS 53 _ rfl, hS 54 _ rfl, hS 55 _ rfl, hS 56 _ rfl, hS 57 _ rfl, hS 58 _ rfl, hS 59 _ rfl, hS 60 _ rfl, hS 61 _ rfl, hS 62 _ rfl, hS 63 _ rfl, hS 64 _ rfl, hS 65 _ rfl, hS 66 _ rfl, hS 67 _ rfl, hS 68 _ rfl, hS 69 _ rfl, hS 70 _ rfl, hS 71 _ rfl, hS 72 _ rfl, hS 73 _ rfl, hS 74 _ rfl, hS 75 _ rfl, trivial⟩
      simp only [puts, Act.put, List.setIfInBounds_toArray, List.set_cons_succ, List.set_cons_zero] at ha
      subst ha
      clear hS hF
      have hbf := hbel3.trans (hB.mono hbel3.size)
      clear V3 V4 V5 hbel3 hB
      go_wp2
      go_ret
      exact ⟨rfl, hbf⟩
end Go.Proofs.Ytjmagojmfiabfaa
