/-
  poly: Bytes, Add, Mul: what each makes of two numbers. Conditions: named in each theorem.
-/
import Derived.Test.YtjmagojmfiabfaaPo2
namespace Go.Bas
theorem two_parts (A B : Int) (hA : 0 ≤ A ∧ A < 256 ^ 17) (hB : 0 ≤ B ∧ B < 256 ^ 17) : sm 256 (fun i => dg 256 A i + dg 256 B i) 17 = A + B := by
  have := sm_lin 256 (dg 256 A) (dg 256 B) 1 1 17
  simp only [Int.one_mul] at this
  rw [this, sm_dg (by decide), sm_dg (by decide), Int.emod_eq_of_lt hA.1 hA.2, Int.emod_eq_of_lt hB.1 hB.2]
theorem one_part (A : Int) (hA : 0 ≤ A ∧ A < 256 ^ 17) : sm 256 (dg 256 A) 17 = A := by rw [sm_dg (by decide), Int.emod_eq_of_lt hA.1 hA.2]
theorem modPP (A : Int) : 0 ≤ A % PP ∧ A % PP < 256 ^ 17 := ⟨Int.emod_nonneg A (by decide), Int.lt_trans (Int.emod_lt_of_pos A (by decide)) (by decide)⟩
theorem prod_mod (f g : Nat → Int) : sm 256 (pd (fold5 (sm 256 (fun i => prodS f g i 17) 17))) 17 % PP = sm 256 f 17 * sm 256 g 17 % PP := by rw [sm_pd, fold5_mod, prodS_mod f g 17 (Nat.le_refl _)]
theorem prod_small {f g : Nat → Int} (hf : ∀ i, i < 17 → 0 ≤ f i ∧ f i ≤ 600) (hg : ∀ i, i < 17 → 0 ≤ g i ∧ g i ≤ 255) : ∀ i, i < 17 → 0 ≤ pd (fold5 (sm 256 (fun i => prodS f g i 17) 17)) i ∧ pd (fold5 (sm 256 (fun i => prodS f g i 17) 17)) i ≤ 300 := by
  have h := sm_top (f := fun i => prodS f g i 17) (fun i hi => by have := prodS_bound hf hg i hi 17 (Nat.le_refl _); omega)
  have h2 := fold5_bound h.1 h.2
  exact pd_small h2.1 h2.2
theorem dg_le (A : Int) (i : Nat) : 0 ≤ dg 256 A i ∧ dg 256 A i ≤ 255 := by have := dg_bound (by decide : (0 : Int) < 256) A i; omega
end Go.Bas
namespace Go.Proofs.Ytjmagojmfiabfaa
open Go.RowKit Go.Bas
attribute [local go_sem ↓] Go.wp_at_zero Go.wp_at_succ

theorem reduced_dg (A : Int) (hA : 0 ≤ A ∧ A < 256 ^ 17) (w : World) :
    Calls Try.prog 94 #[.agg (arr .u32 17 (dg 256 A))] w fun e w' => e = .returned (.agg (arr .u32 17 (dg 256 (A % PP)))) ∧ Below w.heap.size w w' := by
  have h := reduced_any (dg 256 A) w (fun i _ => by have := dg_le A i; omega)
  rw [one_part A hA] at h
  exact h

theorem Try.size86 : (Try.prog.info? 86).map (·.size) = some 17 := by kernel_rfl

set_option maxRecDepth 100000 in
set_option maxHeartbeats 1600000 in
theorem poBytes_any (A : Int) (hA : 0 ≤ A ∧ A < 256 ^ 17) (w : World) :
    Calls Try.prog 62 #[.agg (arr .u8 17 (dg 256 A))] w fun e w' => e = .returned (.agg (arr .u8 17 (dg 256 (A % PP)))) ∧ Below w.heap.size w w' := by
  have HA := Lib.hid hA
  clear hA
  go_enter Try.func62, Try.ntmps62
  go_wp2_with (refine load_arr rfl 87 _ rfl .u8 w.heap.size 17 _ 5 Try.underlying87 Try.size87 rfl (Arr.alloc (Arr.newAt rfl rfl) _) ?_)
  refine (wide_any A _).mono ?_
  rintro e w1 ⟨rfl, hb1⟩
  go_wp2_with fail
  refine (reduced_dg A HA.out _).mono ?_
  rintro e w2 ⟨rfl, hb2⟩
  go_wp2_with fail
  refine (plain_any (A % PP) _).mono ?_
  rintro e w3 ⟨rfl, hb3⟩
  have hZ : Arr .u8 w3 (w.heap.size + 1) 17 (fun _ => 0) := Arr.kept (Arr.kept (Arr.kept (Arr.newAt (by simp) (by rfl)) hb1) hb2) hb3
  have s1 := hb1.size
  have s2 := hb2.size
  simp at s1
  have hbel : Below w.heap.size w w3 := (((((Below.refl _ _).alloc (Nat.le_refl _) _).alloc (by simp) _).trans (hb1.mono (by simp; omega))).trans (hb2.mono (by omega))).trans (hb3.mono (by omega))
  clear hb1 hb2 hb3
  go_wp2_with (refine store_arr rfl 86 _ _ rfl .u8 (w.heap.size + 1) 17 (fun _ => 0) _ Try.size86 rfl rfl hZ ?_)
  exact bodyPost_ret (results_arr rfl _ _ .u8 (w.heap.size + 1) 17 _ 5 rfl (hZ.setRow _ _) Try.underlying86 Try.size86) rfl ⟨rfl, below_setRow' hbel (by omega) _⟩

set_option maxRecDepth 100000 in
set_option maxHeartbeats 3200000 in
theorem poAdd_any (A B : Int) (hA : 0 ≤ A ∧ A < 256 ^ 17) (hB : 0 ≤ B ∧ B < 256 ^ 17) (w : World) :
    Calls Try.prog 64 #[.agg (arr .u8 17 (dg 256 A)), .agg (arr .u8 17 (dg 256 B))] w fun e w' => e = .returned (.agg (arr .u8 17 (dg 256 ((A + B) % PP)))) ∧ Below w.heap.size w w' := by
  have HA := Lib.hid hA
  have HB := Lib.hid hB
  have HR : Hid (∀ w : World, Calls Try.prog 94 #[.agg (arr .u32 17 (fun i => dg 256 (A % PP) i + dg 256 (B % PP) i))] w fun e w' => e = .returned (.agg (arr .u32 17 (dg 256 ((A + B) % PP)))) ∧ Below w.heap.size w w') := by
    intro w
    have h := reduced_any (fun i => dg 256 (A % PP) i + dg 256 (B % PP) i) w (fun i _ => by have := dg_le (A % PP) i; have := dg_le (B % PP) i; omega)
    rw [two_parts _ _ (modPP A) (modPP B), ← Int.add_emod] at h
    exact h
  clear hA hB
  go_enter Try.func64, Try.ntmps64
  go_wp2
  refine wp_world (fun w1 => Arr .u8 w1 w.heap.size 17 (dg 256 A) ∧ Arr .u8 w1 (w.heap.size + 1) 17 (dg 256 B) ∧ Arr .u8 w1 (w.heap.size + 2) 17 (fun _ => 0) ∧ Below w.heap.size w w1)
    ⟨Arr.alloc (Arr.alloc (Arr.newAt (by first | omega | (simp <;> omega)) (by rfl)) _) _, Arr.alloc (Arr.newAt (by first | omega | (simp <;> omega)) (by rfl)) _, Arr.newAt (by first | omega | (simp <;> omega)) (by rfl), (((Below.refl _ _).alloc (Nat.le_refl _) _).alloc (by simp) _).alloc (by simp; omega) _⟩ ?_
  rintro w1 ⟨hA, hB', hZ, hbel⟩
  refine region_vars (n := 29) (by kernel_rfl) (by kernel_rfl) (by kernel_rfl) rfl
    (isAl [(8, 6), (9, 7)]) (putOf [(8, 6), (9, 7)]) (fun _ => arr .u32 17 (fun _ => 0)) (fun i => match i with | 6 => (arr .u32 17 (dg 256 (A % PP))) | 7 => (arr .u32 17 (dg 256 (B % PP))) | _ => #[]) (fun _ => 124) (fun i => match i with | 6 => 5 | 7 => 6 | _ => 0)
    (fun ii vv _ => (match ii with | 0 => vv = .agg (arr .u8 17 (dg 256 A)) | 1 => vv = .agg (arr .u32 17 (dg 256 A)) | 2 => vv = .agg (arr .u32 17 (dg 256 (A % PP))) | 3 => vv = .agg (arr .u8 17 (dg 256 B)) | 4 => vv = .agg (arr .u32 17 (dg 256 B)) | 5 => vv = .agg (arr .u32 17 (dg 256 (B % PP))) | _ => True)) (fun _ _ => True) (fun _ _ _ => trivial) (fun _ _ _ _ _ _ _ => trivial) (fun _ _ _ _ h _ => h)
    (vs_al rfl) (vs_inj rfl) ?_ ?_ ?_ ?_
  · refine Each.all ?_
    refine ⟨?_, ?_, ?_, ?_, ?_, ?_, (fun h => by cases h), (fun h => by cases h), (fun _ h => by cases h), (fun _ h => by cases h), trivial⟩
    · intro _ _ a w2 hB hF hd
      rw [if_pos (wanted_none rfl)]
      exact flow_val (fun h => by cases h) (run_load_str rfl Try.underlying87 rfl Try.size87 (hF.same 2 rfl) (hA.below hB hA.lt)) rfl
    · intro _ _ a w2 hB hF hd
      rw [if_pos (wanted_none rfl)]
      refine flow_call _ _ _ rfl Try.call92 _ (args1 (hd 0 _ rfl rfl rfl (waits_spec rfl))) (by simp) ((wide_any A w2).mono ?_)
      rintro e w3 ⟨rfl, hb⟩; exact ⟨_, rfl, rfl, hb⟩
    · intro _ _ a w2 hB hF hd
      rw [if_pos (wanted_none rfl)]
      refine flow_call _ _ _ rfl Try.call94 _ (args1 (hd 1 _ rfl rfl rfl (waits_spec rfl))) (by simp) ((reduced_dg A HA.out w2).mono ?_)
      rintro e w3 ⟨rfl, hb⟩; exact ⟨_, rfl, rfl, hb⟩
    · intro _ _ a w2 hB hF hd
      rw [if_pos (wanted_none rfl)]
      exact flow_val (fun h => by cases h) (run_load_str rfl Try.underlying87 rfl Try.size87 (hF.same 3 rfl) (hB'.below hB hB'.lt)) rfl
    · intro _ _ a w2 hB hF hd
      rw [if_pos (wanted_none rfl)]
      refine flow_call _ _ _ rfl Try.call92 _ (args1 (hd 3 _ rfl rfl rfl (waits_spec rfl))) (by simp) ((wide_any B w2).mono ?_)
      rintro e w3 ⟨rfl, hb⟩; exact ⟨_, rfl, rfl, hb⟩
    · intro _ _ a w2 hB hF hd
      rw [if_pos (wanted_none rfl)]
      refine flow_call _ _ _ rfl Try.call94 _ (args1 (hd 4 _ rfl rfl rfl (waits_spec rfl))) (by simp) ((reduced_dg B HB.out w2).mono ?_)
      rintro e w3 ⟨rfl, hb⟩; exact ⟨_, rfl, rfl, hb⟩
  · refine Each.all ?_
    refine ⟨(fun h => by cases h), (fun h => by cases h), (fun h => by cases h), (fun h => by cases h), (fun h => by cases h), (fun h => by cases h), ?_, ?_, (fun h => by cases h), (fun h => by cases h), trivial⟩
    · exact fun _ => ⟨rfl, rfl, fun a w2 K h => flow_alloc rfl rfl Try.zeroValue124 (by simp) h⟩
    · exact fun _ => ⟨rfl, rfl, fun a w2 K h => flow_alloc rfl rfl Try.zeroValue124 (by simp) h⟩
  · refine Each.all ?_
    refine ⟨(fun _ h => by cases h), (fun _ h => by cases h), (fun _ h => by cases h), (fun _ h => by cases h), (fun _ h => by cases h), (fun _ h => by cases h), (fun _ h => by cases h), (fun _ h => by cases h), ?_, ?_, trivial⟩
    · intro p hp
      obtain rfl : 6 = p := Option.some.inj hp
      exact ⟨rfl, rfl, ⟨_, rfl⟩, waits_spec rfl, fun a w2 b K hB hF hd hx hb h => flow_put rfl rfl Try.size124 hx (hd 2 _ rfl rfl rfl (waits_spec rfl)) hb h⟩
    · intro p hp
      obtain rfl : 7 = p := Option.some.inj hp
      exact ⟨rfl, rfl, ⟨_, rfl⟩, waits_spec rfl, fun a w2 b K hB hF hd hx hb h => flow_put rfl rfl Try.size124 hx (hd 5 _ rfl rfl rfl (waits_spec rfl)) hb h⟩
  · intro a w2 blk hB hF hS hv hfin hdis
    obtain ⟨v6, v6l, v6u⟩ := hv 6 _ rfl rfl
    obtain ⟨v7, v7l, v7u⟩ := hv 7 _ rfl rfl
    have ha := puts_each rfl rfl hF [_, _, _, _, _, _, _, _, undef, undef] rfl ⟨hS 0 _ rfl rfl rfl, hS 1 _ rfl rfl rfl, hS 2 _ rfl rfl rfl, hS 3 _ rfl rfl rfl, hS 4 _ rfl rfl rfl, hS 5 _ rfl rfl rfl, v6, v7, trivial, trivial, trivial⟩
    have f6 := hfin 8 _ 6 rfl rfl
    have f7 := hfin 9 _ 7 rfl rfl
    have d6_7 := hdis 6 7 _ _ rfl rfl rfl rfl (by decide)
    simp only [puts, Act.put, List.setIfInBounds_toArray, List.set_cons_succ, List.set_cons_zero] at ha
    subst ha
    have V6 : Arr .u32 w2 (blk 6) 17 (dg 256 (A % PP)) := ⟨_, f6⟩
    have V7 : Arr .u32 w2 (blk 7) 17 (dg 256 (B % PP)) := ⟨_, f7⟩
    clear hS hv hfin hdis hF v6 v7 f6 f7
    have hZ2 := hZ.below hB hZ.lt
    have hb2 := hbel.trans (hB.mono hbel.size)
    have hs1 := hbel.size
    have hZlt := hZ.lt
    obtain ⟨x, hx⟩ : ∃ x, x = blk 6 := ⟨_, rfl⟩
    obtain ⟨y, hy⟩ : ∃ y, y = blk 7 := ⟨_, rfl⟩
    rw [← hx] at V6 d6_7 v6l v6u ⊢
    rw [← hy] at V7 d6_7 v7l v7u ⊢
    clear hx hy hA hB' hZ hB hbel
    go_wp2
    go_loopw [14] (fun i wr => ∃ k : Nat, k ≤ 17 ∧ i = .int .i64 k ∧ Arr .u32 wr x 17 (upto k (fun i => dg 256 (A % PP) i + dg 256 (B % PP) i) (dg 256 (A % PP))) ∧ Arr .u32 wr y 17 (dg 256 (B % PP)) ∧ Arr .u8 wr (w.heap.size + 2) 17 (fun _ => 0) ∧ Below w.heap.size w wr) (fun i _ => 17 - (intOf i).toNat)
    case atStart => exact ⟨0, Nat.zero_le _, rfl, by rw [upto_zero]; exact V6, V7, hZ2, hb2⟩
    case round =>
      obtain ⟨k, hk, rfl, hX, hY, hZ, hbel⟩ := hrel
      by_cases hlt : k < 17
      · have e1 := hX.cell k hlt
        rw [upto_at] at e1
        have e2 := hY.cell k hlt
        have f1 := hX.free k
        obtain ⟨b0, b1⟩ := dg_le (A % PP) k
        obtain ⟨b2, b3⟩ := dg_le (B % PP) k
        have HX := Lib.hid hX
        have HY := Lib.hid hY
        have HZ := Lib.hid hZ
        clear hX hY hZ
        go_wp2
        go_region
        all_goals
          go_wp2
          go_roundw
          case rel => exact ⟨k + 1, by omega, by go_num, by rw [← upto_step rfl]; exact (HX.out.set k _).drew, (HY.out.other (by first | exact d6_7 | exact d6_7.symm | (simp; omega)) _).drew, (HZ.out.other (by simp; omega) _).drew, (hbel.setCell (by simp; omega) _).drew⟩
          case measure => simp [intOf] <;> omega
      · obtain rfl : k = 17 := by omega
        have hX2 := hX.congr (upto_full _ _ (Nat.le_refl _))
        clear hX hY
        go_wp2_with (refine load_arr rfl 124 _ rfl .u32 x 17 _ 122 Try.underlying124 Try.size124 rfl hX2 ?_)
        refine (HR.out _).mono ?_
        rintro e w3 ⟨rfl, hb3⟩
        go_wp2_with fail
        refine (plain_any ((A + B) % PP) _).mono ?_
        rintro e w4 ⟨rfl, hb4⟩
        have hZ4 := (hZ.kept hb3).kept hb4
        have s3 := hb3.size
        have s4 := hbel.size
        have hb5 := (hbel.trans (hb3.mono s4)).trans (hb4.mono (by omega))
        clear hb3 hb4 hZ hX2 hbel
        go_wp2_with (refine store_arr rfl 87 _ _ rfl .u8 (w.heap.size + 2) 17 (fun _ => 0) _ Try.size87 rfl rfl hZ4 ?_)
        exact bodyPost_ret (results_arr rfl _ _ .u8 (w.heap.size + 2) 17 _ 5 rfl (hZ4.setRow _ _) Try.underlying87 Try.size87) rfl ⟨rfl, below_setRow' hb5 (by omega) _⟩

set_option maxRecDepth 100000 in
set_option maxHeartbeats 3200000 in
theorem poMul_any (A B : Int) (hA : 0 ≤ A ∧ A < 256 ^ 17) (hB : 0 ≤ B ∧ B < 256 ^ 17) (w : World) :
    Calls Try.prog 66 #[.agg (arr .u8 17 (dg 256 A)), .agg (arr .u8 17 (dg 256 B))] w fun e w' => e = .returned (.agg (arr .u8 17 (dg 256 (A * B % PP)))) ∧ Below w.heap.size w w' := by
  have HA := Lib.hid hA
  have HB := Lib.hid hB
  have bf : ∀ i, i < 17 → 0 ≤ dg 256 (A % PP) i ∧ dg 256 (A % PP) i ≤ 600 := fun i _ => by have := dg_le (A % PP) i; omega
  have bg : ∀ i, i < 17 → 0 ≤ dg 256 (B % PP) i ∧ dg 256 (B % PP) i ≤ 255 := fun i _ => dg_le (B % PP) i
  obtain ⟨p, hp⟩ : ∃ p, p = pd (fold5 (sm 256 (fun i => prodS (dg 256 (A % PP)) (dg 256 (B % PP)) i 17) 17)) := ⟨_, rfl⟩
  have HP : Hid (∀ w : World, Calls Try.prog 93 #[.agg (arr .u32 17 (dg 256 (A % PP))), .agg (arr .u32 17 (dg 256 (B % PP)))] w fun e w' => e = .returned (.agg (arr .u32 17 p)) ∧ Below w.heap.size w w') := by
    intro w; rw [hp]; exact product_any _ _ w bf bg
  have HR : Hid (∀ w : World, Calls Try.prog 94 #[.agg (arr .u32 17 p)] w fun e w' => e = .returned (.agg (arr .u32 17 (dg 256 (A * B % PP)))) ∧ Below w.heap.size w w') := by
    intro w
    have h := reduced_any p w (fun i hi => by have := prod_small bf bg i hi; rw [hp]; omega)
    rw [show sm 256 p 17 % PP = A * B % PP by rw [hp, prod_mod, one_part _ (modPP A), one_part _ (modPP B), ← Int.mul_emod]] at h
    exact h
  clear hA hB bf bg hp
  go_enter Try.func66, Try.ntmps66
  go_wp2
  refine wp_world (fun w1 => Arr .u8 w1 w.heap.size 17 (dg 256 A) ∧ Arr .u8 w1 (w.heap.size + 1) 17 (dg 256 B) ∧ Arr .u8 w1 (w.heap.size + 2) 17 (fun _ => 0) ∧ Below w.heap.size w w1)
    ⟨Arr.alloc (Arr.alloc (Arr.newAt (by first | omega | (simp <;> omega)) (by rfl)) _) _, Arr.alloc (Arr.newAt (by first | omega | (simp <;> omega)) (by rfl)) _, Arr.newAt (by first | omega | (simp <;> omega)) (by rfl), (((Below.refl _ _).alloc (Nat.le_refl _) _).alloc (by simp) _).alloc (by simp; omega) _⟩ ?_
  rintro w1 ⟨hA, hG, hZ, hbel⟩
  refine region_lasts (n := 14) (fun i => i == 9) (by kernel_rfl) (by kernel_rfl) (by kernel_rfl) (by kernel_rfl) rfl
    (fun ii vv _ => (match ii with | 0 => vv = .agg (arr .u8 17 (dg 256 A)) | 1 => vv = .agg (arr .u32 17 (dg 256 A)) | 2 => vv = .agg (arr .u32 17 (dg 256 (A % PP))) | 3 => vv = .agg (arr .u8 17 (dg 256 B)) | 4 => vv = .agg (arr .u32 17 (dg 256 B)) | 5 => vv = .agg (arr .u32 17 (dg 256 (B % PP))) | 6 => vv = .agg (arr .u32 17 (p)) | 7 => vv = .agg (arr .u32 17 (dg 256 (A * B % PP))) | 8 => vv = .agg (arr .u8 17 (dg 256 (A * B % PP))) | _ => True))
    (fun w w' => Below w.heap.size w w') (fun _ _ h => h) (fun _ _ _ _ h _ => h)
    (fun _ => (w.heap.size + 2)) (fun _ => (arr .u8 17 (fun _ => 0))) (fun _ => (arr .u8 17 (dg 256 (A * B % PP))))
    (by intro i j _ _ hpi hpj hne; simp only [beq_iff_eq] at hpi hpj; omega)
    (by intro i _ hpi; exact (hZ).row)
    ?_ ?_ ?_
  · refine Each.all ?_
    refine ⟨?_, ?_, ?_, ?_, ?_, ?_, ?_, ?_, ?_, (fun h => absurd h (by decide)), trivial⟩
    · intro _ a w2 hB hF hd
      rw [if_pos (wanted_none rfl)]
      exact flow_val (fun h => by cases h) (run_load_str rfl Try.underlying87 rfl Try.size87 (hF.same 2 rfl) (hA.below hB hA.lt)) rfl
    · intro _ a w2 hB hF hd
      rw [if_pos (wanted_none rfl)]
      refine flow_call _ _ _ rfl Try.call92 _ (args1 (hd 0 _ rfl rfl (waits_spec rfl))) (by simp) ((wide_any A w2).mono ?_)
      rintro e w3 ⟨rfl, hb⟩; exact ⟨_, rfl, rfl, hb⟩
    · intro _ a w2 hB hF hd
      rw [if_pos (wanted_none rfl)]
      refine flow_call _ _ _ rfl Try.call94 _ (args1 (hd 1 _ rfl rfl (waits_spec rfl))) (by simp) ((reduced_dg A HA.out w2).mono ?_)
      rintro e w3 ⟨rfl, hb⟩; exact ⟨_, rfl, rfl, hb⟩
    · intro _ a w2 hB hF hd
      rw [if_pos (wanted_none rfl)]
      exact flow_val (fun h => by cases h) (run_load_str rfl Try.underlying87 rfl Try.size87 (hF.same 3 rfl) (hG.below hB hG.lt)) rfl
    · intro _ a w2 hB hF hd
      rw [if_pos (wanted_none rfl)]
      refine flow_call _ _ _ rfl Try.call92 _ (args1 (hd 3 _ rfl rfl (waits_spec rfl))) (by simp) ((wide_any B w2).mono ?_)
      rintro e w3 ⟨rfl, hb⟩; exact ⟨_, rfl, rfl, hb⟩
    · intro _ a w2 hB hF hd
      rw [if_pos (wanted_none rfl)]
      refine flow_call _ _ _ rfl Try.call94 _ (args1 (hd 4 _ rfl rfl (waits_spec rfl))) (by simp) ((reduced_dg B HB.out w2).mono ?_)
      rintro e w3 ⟨rfl, hb⟩; exact ⟨_, rfl, rfl, hb⟩
    · intro _ a w2 hB hF hd
      rw [if_pos (wanted_none rfl)]
      refine flow_call _ _ _ rfl Try.call93 _ (args2 (hd 2 _ rfl rfl (waits_spec rfl)) (hd 5 _ rfl rfl (waits_spec rfl))) (by simp) ((HP.out w2).mono ?_)
      rintro e w3 ⟨rfl, hb⟩; exact ⟨_, rfl, rfl, hb⟩
    · intro _ a w2 hB hF hd
      rw [if_pos (wanted_none rfl)]
      refine flow_call _ _ _ rfl Try.call94 _ (args1 (hd 6 _ rfl rfl (waits_spec rfl))) (by simp) ((HR.out w2).mono ?_)
      rintro e w3 ⟨rfl, hb⟩; exact ⟨_, rfl, rfl, hb⟩
    · intro _ a w2 hB hF hd
      rw [if_pos (wanted_none rfl)]
      refine flow_call _ _ _ rfl Try.call98 _ (args1 (hd 7 _ rfl rfl (waits_spec rfl))) (by simp) ((plain_any (A * B % PP) w2).mono ?_)
      rintro e w3 ⟨rfl, hb⟩; exact ⟨_, rfl, rfl, hb⟩
  · refine Each.all ?_
    refine ⟨(fun h => absurd h (by decide)), (fun h => absurd h (by decide)), (fun h => absurd h (by decide)), (fun h => absurd h (by decide)), (fun h => absurd h (by decide)), (fun h => absurd h (by decide)), (fun h => absurd h (by decide)), (fun h => absurd h (by decide)), (fun h => absurd h (by decide)), ?_, trivial⟩
    · intro _ a w1 w2 K hB hF hS hr hK
      exact wp_store_arr 87 _ _ rfl .u8 ((w.heap.size + 2)) 17 (fun _ => 0) (dg 256 (A * B % PP)) Try.size87 (hF.same 4 rfl) (hS 8 _ rfl rfl ) hr hK
  · intro a wf w3 hB hF hS hfil
    have other : ∀ {k : IntKind} {qb n : Nat} {f : Nat → Int}, qb ≠ (w.heap.size + 2) → Arr k wf qb n f → Arr k w3 qb n f := fun {k qb n f} e0 hA => hfil.arr (by intro i _ hpi; simp only [Bool.or_eq_true, beq_iff_eq] at hpi; subst hpi <;> ((try simp only []); (try dsimp only); omega)) hA
    have belowT : ∀ {B : Nat} {w0 : World}, B ≤ (w.heap.size + 2) → Below B w0 wf → Below B w0 w3 := fun {B w0} e0 hA => hfil.below (by intro i _ hpi; simp only [Bool.or_eq_true, beq_iff_eq] at hpi; subst hpi <;> ((try simp only []); (try dsimp only); omega)) hA
    have V9 : Arr .u8 w3 ((w.heap.size + 2)) 17 (dg 256 (A * B % PP)) := hfil.at 9 (by decide) rfl
    have hszf := hfil.size
    clear hfil
    have ha := puts_each rfl rfl hF [_, _, _, _, _, _, _, _, _, undef] rfl ⟨hS 0 _ rfl rfl, hS 1 _ rfl rfl, hS 2 _ rfl rfl, hS 3 _ rfl rfl, hS 4 _ rfl rfl, hS 5 _ rfl rfl, hS 6 _ rfl rfl, hS 7 _ rfl rfl, hS 8 _ rfl rfl, trivial, trivial⟩
    simp only [puts, Act.put, List.setIfInBounds_toArray, List.set_cons_succ, List.set_cons_zero] at ha
    subst ha
    clear hS hF
    have hb := belowT (by omega) (hbel.trans (hB.mono hbel.size))
    clear hA hG hZ hbel hB other belowT
    go_wp2
    exact bodyPost_ret (results_arr rfl _ _ .u8 (w.heap.size + 2) 17 _ 5 rfl V9 Try.underlying87 Try.size87) rfl ⟨rfl, hb⟩
end Go.Proofs.Ytjmagojmfiabfaa
