/-
  The law PolyNumbers answers true.
-/
import Derived.Test.YtjmagojmfiabfaaPoR3
import Derived.Test.YtjmagojmfiabfaaPoA
import Derived.Test.YtjmagojmfiabfaaSame
import Derived.OpenShut
namespace Go.Bas
open Go.RowKit
theorem samePn {n : Nat} {B X Y : Int} (h : X = Y) : sameB n (dg B X) (dg B Y) = true := by rw [h]; exact sameB_self
theorem pn_add (A B : Int) : (A + B) % PP % PP = (A % PP + B % PP) % PP := by rw [Int.emod_emod_of_dvd _ (Int.dvd_refl PP), ← Int.add_emod]
theorem pn_mul (A B : Int) : A * B % PP % PP = A % PP * (B % PP) % PP := by rw [Int.emod_emod_of_dvd _ (Int.dvd_refl PP), ← Int.mul_emod]
theorem run_sliceAt_ptr_h {P : Program} {w : World} {T e : TypeId} {b n m : Nat} (hu : P.underlying T = some (.array n e)) (hi : (P.info? e).map (·.size) = some 1) (hm : m ≤ n) :
    (Instr.sliceAt T (.pointer (some ⟨b, 0, none⟩)) none (some (.int .i64 (m : Int))) none).run P w = .ok (.slice (some ⟨b, 0, none⟩) m n) w := by
  obtain ⟨i, h1, h2⟩ := Option.map_eq_some_iff.1 hi
  simp [Instr.sliceAt, Instr.sureAddr, run_underlying hu, Instr.sliceBounds, run_sliceBound, sizeOf, typeInfo, h1, h2, hm]
  exact fun _ => rfl
end Go.Bas
namespace Go.Proofs.Ytjmagojmfiabfaa
open Go.RowKit Go.Bas Go.ChangeShapes
attribute [local go_sem ↓] Go.wp_at_zero Go.wp_at_succ

theorem num17' (f : Nat → Int) (h : ∀ i, i < 17 → (Lit.int .u8 (f i)).wf = true) : ∃ X : Int, arr .u8 17 f = arr .u8 17 (dg 256 X) ∧ 0 ≤ X ∧ X < 256 ^ 17 := by
  have h' : ∀ i, i < 17 → 0 ≤ f i ∧ f i < 256 := fun i hi => by have := bounds_u8 (h i hi); omega
  exact ⟨sm 256 f 17, arr_congr fun i hi => (dg_sm (by decide) h' i hi).symm, sm_bound (by decide) h'⟩
theorem rDigitsP_rd (v : Value) (X : Int) (n : Nat) (hn : n ≤ 1000) (hX : 0 ≤ X ∧ X < 256 ^ n) (w : World) (hv : Rd .u8 w v n (dg 256 X)) :
    Calls Try.prog 61 #[v] w fun e w' => ∃ v, e = .returned v ∧ Rd .i64 w' v ((n + 1) / 2) (dg 65536 X) ∧ Below w.heap.size w w' :=
  (rDigitsP_any v X n hn hX w hv).mono fun _ _ ⟨v, h1, h2, h3⟩ => ⟨v, h1, h2.rd, h3⟩
theorem rClamp_rd (v : Value) (n : Nat) (f : Nat → Int) (w : World) (hv : Rd .u8 w v n f) (hn : 16 ≤ n) (hf : ∀ i, i < 16 → 0 ≤ f i ∧ f i < 256) :
    Calls Try.prog 69 #[v] w fun e w' => ∃ v, e = .returned v ∧ Rd .u8 w' v 16 (clampF f) ∧ Below w.heap.size w w' :=
  (rClamp_any v n f w hv hn hf).mono fun _ _ ⟨v, h1, h2, h3⟩ => ⟨v, h1, h2.rd, h3⟩

set_option maxRecDepth 100000 in
set_option maxHeartbeats 3200000 in
theorem poOf_long (v : Value) (n : Nat) (f : Nat → Int) (w : World) (hv : Rd .u8 w v n f) (hn : 17 < n) :
    Calls Try.prog 70 #[v] w fun e w' => e = .returned (.tuple #[.agg (arr .u8 17 (dg 256 0)), .int .i64 3]) ∧ Below w.heap.size w w' := by
  obtain ⟨a1, c1, rfl, l1, m1, z1, h1⟩ := hv
  clear z1 h1
  go_enter Try.func70, Try.ntmps70
  have hA : Arr .u8 (w.alloc (.cells #[.int .u8 0, .int .u8 0, .int .u8 0, .int .u8 0, .int .u8 0, .int .u8 0, .int .u8 0, .int .u8 0, .int .u8 0, .int .u8 0, .int .u8 0, .int .u8 0, .int .u8 0, .int .u8 0, .int .u8 0, .int .u8 0, .int .u8 0] 87)) w.heap.size 17 (dg 256 0) := Arr.newAt rfl (by rfl)
  go_wp2_with (first
    | (refine step_val rfl (run_built rfl (build_num0 _)) ?_)
    | (refine store_arr rfl 87 _ _ rfl .u8 w.heap.size 17 (dg 256 0) _ Try.size87 rfl rfl hA ?_))
  exact bodyPost_ret (results_arr2 rfl _ _ .u8 w.heap.size 17 _ 5 rfl (hA.setRow _ _) Try.underlying87 Try.size87) rfl ⟨rfl, below_setRow' ((Below.refl _ _).alloc (Nat.le_refl _) _) (Nat.le_refl _) _⟩

set_option maxRecDepth 100000 in
set_option maxHeartbeats 12800000 in
theorem polyNumbers_law (w : World) (fa : Nat → Int) (ha : ∀ i, i < 17 → (Lit.int .u8 (fa i)).wf = true) (fb : Nat → Int) (hb : ∀ i, i < 17 → (Lit.int .u8 (fb i)).wf = true) (v : Value) (n : Nat) (f : Nat → Int) (hv : Rd .u8 w v n f) (hf : ∀ i, i < n → (Lit.int .u8 (f i)).wf = true) :
    Calls Try.prog 13 #[.agg (arr .u8 17 fa), .agg (arr .u8 17 fb), v] w fun e w' => e = .returned (.bool true) ∧ Below w.heap.size w w' := by
  obtain ⟨A, eA, hA⟩ := num17' fa ha
  obtain ⟨B, eB, hB⟩ := num17' fb hb
  have hF : ∀ i, i < n → 0 ≤ f i ∧ f i < 256 := fun i hi => by have := bounds_u8 (hf i hi); omega
  have hCC : 0 ≤ sm 256 f n ∧ sm 256 f n < 256 ^ n := sm_bound (by decide) hF
  have hx2 := hv
  obtain ⟨a1, c1, rfl, l1, m1, z1, h1⟩ := hx2
  rw [eA, eB]
  have HA := Lib.hid hA
  have HB := Lib.hid hB
  have HX := Lib.hid hv
  have HXC := Lib.hid (hv.congr fun i hi => (dg_sm (by decide) hF i hi).symm)
  have HF := Lib.hid hF
  obtain ⟨C, hC⟩ : ∃ C, C = sm 256 f n := ⟨_, rfl⟩
  rw [← hC] at hCC HXC
  have HCB := Lib.hid hCC
  have HC := Lib.hid hC
  clear hA hB ha hb eA eB hv hf hF z1 h1 hC hCC
  go_enter Try.func13, Try.ntmps13
  go_upto_region 1 with (fail)
  refine wp_world (fun w1 => Arr .u8 w1 w.heap.size 17 (dg 256 A) ∧ Arr .u8 w1 (w.heap.size + 1) 17 (dg 256 B) ∧ Below w.heap.size w w1)
    ⟨Arr.alloc (Arr.newAt rfl rfl) _, Arr.newAt (by first | omega | (simp <;> omega)) rfl, ((Below.refl _ _).alloc (Nat.le_refl _) _).alloc (by simp) _⟩ ?_
  rintro w1 ⟨hA1, hB1, hb1⟩
  go_wp2_with fail
  refine (awake_any _).mono ?_
  rintro e w2 ⟨rfl, hb2⟩
  have hA2 := hA1.kept hb2
  have hB2 := hB1.kept hb2
  have hbel := hb1.trans (hb2.mono hb1.size)
  clear hA1 hB1 hb1 hb2
  by_cases hlong : 100 < n
  · go_wp2
    go_ret
    exact ⟨rfl, hbel⟩
  · go_upto_region 5 with (fail)
    refine region_vars (n := 88) (by kernel_rfl) (by kernel_rfl) (by kernel_rfl) rfl
      (isAl [(4, 2), (5, 3)]) (putOf [(4, 2), (5, 3)]) (fun _ => arr .u8 17 (fun _ => 0)) (fun i => match i with | 2 => (arr .u8 17 (dg 256 A)) | 3 => (arr .u8 17 (dg 256 B)) | _ => #[]) (fun _ => 87) (fun i => match i with | 2 => 7 | 3 => 8 | _ => 0)
      (fun ii vv _ => (match ii with | 0 => vv = .agg (arr .u8 17 (dg 256 A)) | 1 => vv = .agg (arr .u8 17 (dg 256 B)) | _ => True)) (fun _ _ => True) (fun _ _ _ => trivial) (fun _ _ _ _ _ _ _ => trivial) (fun _ _ _ _ h _ => h)
      (vs_al rfl) (vs_inj rfl) ?_ ?_ ?_ ?_
    · refine Each.all ?_
      refine ⟨?_, ?_, (fun h => by cases h), (fun h => by cases h), (fun _ h => by cases h), (fun _ h => by cases h), trivial⟩
      · intro _ _ a w2 hB hF hd
        rw [if_pos (wanted_none rfl)]
        exact flow_val (fun h => by cases h) (run_load_str rfl Try.underlying86 rfl Try.size86 (hF.same 3 rfl) (hA2.below hB hA2.lt)) rfl
      · intro _ _ a w2 hB hF hd
        rw [if_pos (wanted_none rfl)]
        exact flow_val (fun h => by cases h) (run_load_str rfl Try.underlying86 rfl Try.size86 (hF.same 4 rfl) (hB2.below hB hB2.lt)) rfl
    · refine Each.all ?_
      refine ⟨(fun h => by cases h), (fun h => by cases h), ?_, ?_, (fun h => by cases h), (fun h => by cases h), trivial⟩
      · exact fun _ => ⟨rfl, rfl, fun a w2 K h => flow_alloc rfl rfl Try.zeroValue87 (by simp) h⟩
      · exact fun _ => ⟨rfl, rfl, fun a w2 K h => flow_alloc rfl rfl Try.zeroValue87 (by simp) h⟩
    · refine Each.all ?_
      refine ⟨(fun _ h => by cases h), (fun _ h => by cases h), (fun _ h => by cases h), (fun _ h => by cases h), ?_, ?_, trivial⟩
      · intro p hp
        obtain rfl : 2 = p := Option.some.inj hp
        exact ⟨rfl, rfl, ⟨_, rfl⟩, waits_spec rfl, fun a w2 b K hB hF hd hx hb h => flow_put rfl rfl Try.size87 hx (hd 0 _ rfl rfl rfl (waits_spec rfl)) hb h⟩
      · intro p hp
        obtain rfl : 3 = p := Option.some.inj hp
        exact ⟨rfl, rfl, ⟨_, rfl⟩, waits_spec rfl, fun a w2 b K hB hF hd hx hb h => flow_put rfl rfl Try.size87 hx (hd 1 _ rfl rfl rfl (waits_spec rfl)) hb h⟩
    · intro a w3 blk hB hF hS hv hfin hdis
      obtain ⟨v2, v2l, v2u⟩ := hv 2 _ rfl rfl
      obtain ⟨v3, v3l, v3u⟩ := hv 3 _ rfl rfl
      have ha := puts_each rfl rfl hF [_, _, _, _, undef, undef] rfl ⟨hS 0 _ rfl rfl rfl, hS 1 _ rfl rfl rfl, v2, v3, trivial, trivial, trivial⟩
      have f2 := hfin 4 _ 2 rfl rfl
      have f3 := hfin 5 _ 3 rfl rfl
      have d2_3 := hdis 2 3 _ _ rfl rfl rfl rfl (by decide)
      simp only [puts, Act.put, List.setIfInBounds_toArray, List.set_cons_succ, List.set_cons_zero] at ha
      subst ha
      have V2 : Arr .u8 w3 (blk 2) 17 (dg 256 A) := ⟨_, f2⟩
      have V3 : Arr .u8 w3 (blk 3) 17 (dg 256 B) := ⟨_, f3⟩
      clear hS hv hfin hdis hF v2 v3 f2 f3
      have hA3 := hA2.kept hB
      have hB3 := hB2.kept hB
      have hbel3 := hbel.trans (hB.mono hbel.size)
      obtain ⟨x, hx⟩ : ∃ x, x = blk 2 := ⟨_, rfl⟩
      obtain ⟨y, hy⟩ : ∃ y, y = blk 3 := ⟨_, rfl⟩
      rw [← hx] at V2 ⊢
      rw [← hy] at V3 ⊢
      clear hx hy hA2 hB2 hbel hB d2_3 v2l v2u v3l v3u
      go_upto_region 6 with (fail)
      refine region_flow (n := 88) (by kernel_rfl) (by kernel_rfl) (by kernel_rfl) rfl
        (fun ii vv ww => (match ii with | 0 => vv = .slice (some ⟨w.heap.size, 0, none⟩) 17 17 | 3 => vv = .slice (some ⟨(w.heap.size + 1), 0, none⟩) 17 17 | _ => True) ∧ (ii = 1 → Rd .i64 ww vv ((17 + 1) / 2) (dg 65536 A)) ∧ (ii = 2 → Rd .i64 ww vv 10 (dg 65536 (A % PP))) ∧ (ii = 4 → Rd .i64 ww vv ((17 + 1) / 2) (dg 65536 B)) ∧ (ii = 5 → Rd .i64 ww vv 10 (dg 65536 (B % PP))) ∧ (ii = 6 → Rd .i64 ww vv 10 (dg 65536 (A % PP))) ∧ (ii = 7 → Rd .i64 ww vv 10 (dg 65536 (B % PP))))
        (fun w w' => Below w.heap.size w w') (fun _ _ h => h) (fun i v w w' h hE => ⟨h.1, fun e => Rd.below (h.2.1 e) hE, fun e => Rd.below (h.2.2.1 e) hE, fun e => Rd.below (h.2.2.2.1 e) hE, fun e => Rd.below (h.2.2.2.2.1 e) hE, fun e => Rd.below (h.2.2.2.2.2.1 e) hE, fun e => Rd.below (h.2.2.2.2.2.2 e) hE⟩) ?_ ?_
      · refine Each.all ?_
        refine ⟨?_, ?_, ?_, ?_, ?_, ?_, ?_, ?_, trivial⟩
        · intro a w2 hB hF hd
          rw [if_pos (wanted_none rfl)]
          exact flow_val (fun h => by cases h) (run_slice_arr rfl (hF.same 3 rfl) Try.underlying86 (by kernel_rfl)) ⟨rfl, fun h => absurd h (by decide), fun h => absurd h (by decide), fun h => absurd h (by decide), fun h => absurd h (by decide), fun h => absurd h (by decide), fun h => absurd h (by decide)⟩
        · intro a w2 hB hF hd
          rw [if_pos (wanted_none rfl)]
          refine flow_call _ _ _ rfl Try.call61 _ (args1 ((hd 0 _ rfl (waits_spec rfl)).1)) (by simp) ((rDigitsP_rd _ A 17 (by decide) HA.out w2 ((hA3.kept hB).rd (by decide))).mono ?_)
          rintro e w3 ⟨u, rfl, hr, hb⟩; exact ⟨u, rfl, ⟨trivial, fun _ => hr, fun h => absurd h (by decide), fun h => absurd h (by decide), fun h => absurd h (by decide), fun h => absurd h (by decide), fun h => absurd h (by decide)⟩, hb⟩
        · intro a w2 hB hF hd
          rw [if_pos (wanted_none rfl)]
          refine flow_call _ _ _ rfl Try.call60 _ (args1 rfl) (by simp) ((rModP_any _ A ((17 + 1) / 2) (by decide) (half_boundP HA.out) w2 ((hd 1 _ rfl (waits_spec rfl)).2.1 rfl)).mono ?_)
          rintro e w3 ⟨u, rfl, hr, hb⟩; exact ⟨u, rfl, ⟨trivial, fun h => absurd h (by decide), fun _ => hr, fun h => absurd h (by decide), fun h => absurd h (by decide), fun h => absurd h (by decide), fun h => absurd h (by decide)⟩, hb⟩
        · intro a w2 hB hF hd
          rw [if_pos (wanted_none rfl)]
          exact flow_val (fun h => by cases h) (run_slice_arr rfl (hF.same 4 rfl) Try.underlying86 (by kernel_rfl)) ⟨rfl, fun h => absurd h (by decide), fun h => absurd h (by decide), fun h => absurd h (by decide), fun h => absurd h (by decide), fun h => absurd h (by decide), fun h => absurd h (by decide)⟩
        · intro a w2 hB hF hd
          rw [if_pos (wanted_none rfl)]
          refine flow_call _ _ _ rfl Try.call61 _ (args1 ((hd 3 _ rfl (waits_spec rfl)).1)) (by simp) ((rDigitsP_rd _ B 17 (by decide) HB.out w2 ((hB3.kept hB).rd (by decide))).mono ?_)
          rintro e w3 ⟨u, rfl, hr, hb⟩; exact ⟨u, rfl, ⟨trivial, fun h => absurd h (by decide), fun h => absurd h (by decide), fun _ => hr, fun h => absurd h (by decide), fun h => absurd h (by decide), fun h => absurd h (by decide)⟩, hb⟩
        · intro a w2 hB hF hd
          rw [if_pos (wanted_none rfl)]
          refine flow_call _ _ _ rfl Try.call60 _ (args1 rfl) (by simp) ((rModP_any _ B ((17 + 1) / 2) (by decide) (half_boundP HB.out) w2 ((hd 4 _ rfl (waits_spec rfl)).2.2.2.1 rfl)).mono ?_)
          rintro e w3 ⟨u, rfl, hr, hb⟩; exact ⟨u, rfl, ⟨trivial, fun h => absurd h (by decide), fun h => absurd h (by decide), fun h => absurd h (by decide), fun _ => hr, fun h => absurd h (by decide), fun h => absurd h (by decide)⟩, hb⟩
        · intro a w2 hB hF hd
          rw [if_pos (wanted_none rfl)]
          exact flow_move _ (.inr rfl) (by simp) ⟨trivial, fun h => absurd h (by decide), fun h => absurd h (by decide), fun h => absurd h (by decide), fun h => absurd h (by decide), fun _ => ((hd 2 _ rfl (waits_spec rfl)).2.2.1 rfl), fun h => absurd h (by decide)⟩
        · intro a w2 hB hF hd
          rw [if_pos (wanted_none rfl)]
          exact flow_move _ (.inr rfl) (by simp) ⟨trivial, fun h => absurd h (by decide), fun h => absurd h (by decide), fun h => absurd h (by decide), fun h => absurd h (by decide), fun h => absurd h (by decide), fun _ => ((hd 5 _ rfl (waits_spec rfl)).2.2.2.2.1 rfl)⟩
      · intro a w4 hB hF hS
        obtain ⟨x22, hx22⟩ : ∃ x, x = a.tmps.getD 22 undef := ⟨_, rfl⟩
        have P22 : Rd .i64 w4 x22 ((17 + 1) / 2) (dg 65536 A) := by rw [hx22]; exact (hS 1 _ rfl).2.1 rfl
        obtain ⟨x23, hx23⟩ : ∃ x, x = a.tmps.getD 23 undef := ⟨_, rfl⟩
        have P23 : Rd .i64 w4 x23 10 (dg 65536 (A % PP)) := by rw [hx23]; exact (hS 2 _ rfl).2.2.1 rfl
        obtain ⟨x25, hx25⟩ : ∃ x, x = a.tmps.getD 25 undef := ⟨_, rfl⟩
        have P25 : Rd .i64 w4 x25 ((17 + 1) / 2) (dg 65536 B) := by rw [hx25]; exact (hS 4 _ rfl).2.2.2.1 rfl
        obtain ⟨x26, hx26⟩ : ∃ x, x = a.tmps.getD 26 undef := ⟨_, rfl⟩
        have P26 : Rd .i64 w4 x26 10 (dg 65536 (B % PP)) := by rw [hx26]; exact (hS 5 _ rfl).2.2.2.2.1 rfl
        obtain ⟨x9, hx9⟩ : ∃ x, x = a.tmps.getD 9 undef := ⟨_, rfl⟩
        have P9 : Rd .i64 w4 x9 10 (dg 65536 (A % PP)) := by rw [hx9]; exact (hS 6 _ rfl).2.2.2.2.2.1 rfl
        obtain ⟨x10, hx10⟩ : ∃ x, x = a.tmps.getD 10 undef := ⟨_, rfl⟩
        have P10 : Rd .i64 w4 x10 10 (dg 65536 (B % PP)) := by rw [hx10]; exact (hS 7 _ rfl).2.2.2.2.2.2 rfl
        have ha := puts_each rfl rfl hF [_, x22, x23, _, x25, x26, x9, x10] rfl ⟨(hS 0 _ rfl).1, hx22.symm, hx23.symm, (hS 3 _ rfl).1, hx25.symm, hx26.symm, hx9.symm, hx10.symm, trivial⟩
        simp only [puts, Act.put, List.setIfInBounds_toArray, List.set_cons_succ, List.set_cons_zero] at ha
        subst ha
        clear hx22 hx23 hx25 hx26 hx9 hx10
        clear hS hF
        have hA4 := hA3.kept hB
        have hB4 := hB3.kept hB
        have hX4 := V2.kept hB
        have hY4 := V3.kept hB
        have hbel4 := hbel3.trans (hB.mono hbel3.size)
        have H9 := Lib.hid P9
        have H10 := Lib.hid P10
        clear hA3 hB3 V2 V3 hbel3 hB P9 P10 P22 P23 P25 P26
        go_upto_region 7 with (fail)
        refine region_flow (n := 88) (by kernel_rfl) (by kernel_rfl) (by kernel_rfl) rfl
          (fun ii vv ww => (match ii with | 0 | 6 | 17 => vv = .agg (arr .u8 17 (dg 256 A)) | 1 | 3 => vv = .agg (arr .u8 17 (dg 256 (A % PP))) | 2 | 10 | 21 => vv = x9 | 4 | 5 | 14 | 15 | 16 | 25 | 26 => vv = .bool false | 7 | 18 => vv = .agg (arr .u8 17 (dg 256 B)) | 8 => vv = .agg (arr .u8 17 (dg 256 ((A + B) % PP))) | 9 => vv = .agg (arr .u8 17 (dg 256 (((A + B) % PP) % PP))) | 11 | 22 => vv = x10 | 13 => vv = .agg (arr .u8 17 (dg 256 ((A % PP + B % PP) % PP))) | 19 => vv = .agg (arr .u8 17 (dg 256 (A * B % PP))) | 20 => vv = .agg (arr .u8 17 (dg 256 ((A * B % PP) % PP))) | 24 => vv = .agg (arr .u8 17 (dg 256 (A % PP * (B % PP) % PP))) | _ => True) ∧ (ii = 12 → Rd .i64 ww vv 10 (dg 65536 ((A % PP + B % PP) % PP))) ∧ (ii = 23 → Rd .i64 ww vv 10 (dg 65536 (A % PP * (B % PP) % PP))))
          (fun w w' => Below w.heap.size w w') (fun _ _ h => h) (fun i v w w' h hE => ⟨h.1, fun e => Rd.below (h.2.1 e) hE, fun e => Rd.below (h.2.2 e) hE⟩) ?_ ?_
        · refine Each.all ?_
          refine ⟨?_, ?_, ?_, ?_, ?_, ?_, ?_, ?_, ?_, ?_, ?_, ?_, ?_, ?_, ?_, ?_, ?_, ?_, ?_, ?_, ?_, ?_, ?_, ?_, ?_, ?_, ?_, trivial⟩
          · intro a w2 hB hF hd
            rw [if_pos (wanted_none rfl)]
            exact flow_val (fun h => by cases h) (run_load_str rfl Try.underlying87 rfl Try.size87 (hF.same 7 rfl) (hX4.below hB hX4.lt)) ⟨rfl, fun h => absurd h (by decide), fun h => absurd h (by decide)⟩
          · intro a w2 hB hF hd
            rw [if_pos (wanted_none rfl)]
            refine flow_call _ _ _ rfl Try.call62 _ (args1 ((hd 0 _ rfl (waits_spec rfl)).1)) (by simp) ((poBytes_any A HA.out w2).mono ?_)
            rintro e w3 ⟨rfl, hb⟩; exact ⟨_, rfl, ⟨rfl, fun h => absurd h (by decide), fun h => absurd h (by decide)⟩, hb⟩
          · intro a w2 hB hF hd
            rw [if_pos (wanted_none rfl)]
            exact flow_move _ (.inl rfl) (by simp) ⟨(hF.same 9 rfl), fun h => absurd h (by decide), fun h => absurd h (by decide)⟩
          · intro a w2 hB hF hd
            rw [if_pos (wanted_none rfl)]
            refine flow_call _ _ _ rfl Try.call63 _ (args1 ((hd 2 _ rfl (waits_spec rfl)).1)) (by simp) ((rBytesP_any _ (A % PP) 10 (by decide) w2 (H9.out.below hB)).mono ?_)
            rintro e w3 ⟨rfl, hb⟩; exact ⟨_, rfl, ⟨rfl, fun h => absurd h (by decide), fun h => absurd h (by decide)⟩, hb⟩
          · intro a w2 hB hF hd
            rw [if_pos (wanted_none rfl)]
            exact flow_val (fun h => by cases h) (run_neq_arr true rfl ((hd 1 _ rfl (waits_spec rfl)).1) ((hd 3 _ rfl (waits_spec rfl)).1) Try.underlying86 (by kernel_rfl) (by kernel_rfl) (by kernel_rfl) (by kernel_rfl) (by kernel_rfl) sameB_self) ⟨rfl, fun h => absurd h (by decide), fun h => absurd h (by decide)⟩
          · intro a w2 hB hF hd
            rw [if_pos (wanted_none rfl)]
            exact flow_move _ (.inl rfl) (by simp) ⟨((hd 4 _ rfl (waits_spec rfl)).1), fun h => absurd h (by decide), fun h => absurd h (by decide)⟩
          · intro a w2 hB hF hd
            refine flow_wanted (wanted_yes rfl rfl ((hd 5 _ rfl (waits_spec rfl)).1) rfl) ?_
            exact flow_val (fun h => by cases h) (run_load_str rfl Try.underlying87 rfl Try.size87 (hF.same 7 rfl) (hX4.below hB hX4.lt)) ⟨rfl, fun h => absurd h (by decide), fun h => absurd h (by decide)⟩
          · intro a w2 hB hF hd
            refine flow_wanted (wanted_yes rfl rfl ((hd 5 _ rfl (waits_spec rfl)).1) rfl) ?_
            exact flow_val (fun h => by cases h) (run_load_str rfl Try.underlying87 rfl Try.size87 (hF.same 8 rfl) (hY4.below hB hY4.lt)) ⟨rfl, fun h => absurd h (by decide), fun h => absurd h (by decide)⟩
          · intro a w2 hB hF hd
            refine flow_wanted (wanted_yes rfl rfl ((hd 5 _ rfl (waits_spec rfl)).1) rfl) ?_
            refine flow_call _ _ _ rfl Try.call64 _ (args2 ((hd 6 _ rfl (waits_spec rfl)).1) ((hd 7 _ rfl (waits_spec rfl)).1)) (by simp) ((poAdd_any A B HA.out HB.out w2).mono ?_)
            rintro e w3 ⟨rfl, hb⟩; exact ⟨_, rfl, ⟨rfl, fun h => absurd h (by decide), fun h => absurd h (by decide)⟩, hb⟩
          · intro a w2 hB hF hd
            refine flow_wanted (wanted_yes rfl rfl ((hd 5 _ rfl (waits_spec rfl)).1) rfl) ?_
            refine flow_call _ _ _ rfl Try.call62 _ (args1 ((hd 8 _ rfl (waits_spec rfl)).1)) (by simp) ((poBytes_any ((A + B) % PP) (modPP _) w2).mono ?_)
            rintro e w3 ⟨rfl, hb⟩; exact ⟨_, rfl, ⟨rfl, fun h => absurd h (by decide), fun h => absurd h (by decide)⟩, hb⟩
          · intro a w2 hB hF hd
            refine flow_wanted (wanted_yes rfl rfl ((hd 5 _ rfl (waits_spec rfl)).1) rfl) ?_
            exact flow_move _ (.inl rfl) (by simp) ⟨(hF.same 9 rfl), fun h => absurd h (by decide), fun h => absurd h (by decide)⟩
          · intro a w2 hB hF hd
            refine flow_wanted (wanted_yes rfl rfl ((hd 5 _ rfl (waits_spec rfl)).1) rfl) ?_
            exact flow_move _ (.inl rfl) (by simp) ⟨(hF.same 10 rfl), fun h => absurd h (by decide), fun h => absurd h (by decide)⟩
          · intro a w2 hB hF hd
            refine flow_wanted (wanted_yes rfl rfl ((hd 5 _ rfl (waits_spec rfl)).1) rfl) ?_
            refine flow_call _ _ _ rfl Try.call65 _ (args2 ((hd 10 _ rfl (waits_spec rfl)).1) ((hd 11 _ rfl (waits_spec rfl)).1)) (by simp) ((rAddP_any _ _ (A % PP) (B % PP) w2 (H9.out.below hB) (H10.out.below hB) (two_PP (modPP_lt A) (modPP_lt B))).mono ?_)
            rintro e w3 ⟨u, rfl, hr, hb⟩; exact ⟨u, rfl, ⟨trivial, fun _ => hr, fun h => absurd h (by decide)⟩, hb⟩
          · intro a w2 hB hF hd
            refine flow_wanted (wanted_yes rfl rfl ((hd 5 _ rfl (waits_spec rfl)).1) rfl) ?_
            refine flow_call _ _ _ rfl Try.call63 _ (args1 rfl) (by simp) ((rBytesP_any _ ((A % PP + B % PP) % PP) 10 (by decide) w2 ((hd 12 _ rfl (waits_spec rfl)).2.1 rfl)).mono ?_)
            rintro e w3 ⟨rfl, hb⟩; exact ⟨_, rfl, ⟨rfl, fun h => absurd h (by decide), fun h => absurd h (by decide)⟩, hb⟩
          · intro a w2 hB hF hd
            refine flow_wanted (wanted_yes rfl rfl ((hd 5 _ rfl (waits_spec rfl)).1) rfl) ?_
            exact flow_val (fun h => by cases h) (run_neq_arr true rfl ((hd 9 _ rfl (waits_spec rfl)).1) ((hd 13 _ rfl (waits_spec rfl)).1) Try.underlying86 (by kernel_rfl) (by kernel_rfl) (by kernel_rfl) (by kernel_rfl) (by kernel_rfl) (samePn (pn_add A B))) ⟨rfl, fun h => absurd h (by decide), fun h => absurd h (by decide)⟩
          · intro a w2 hB hF hd
            rw [if_pos (wanted_none rfl)]
            exact flow_val (fun h => by cases h) (run_pick rfl ((hd 5 _ rfl (waits_spec rfl)).1)) ⟨(((hd 14 _ rfl (waits_spec rfl)).1)), fun h => absurd h (by decide), fun h => absurd h (by decide)⟩
          · intro a w2 hB hF hd
            rw [if_pos (wanted_none rfl)]
            exact flow_move _ (.inl rfl) (by simp) ⟨((hd 15 _ rfl (waits_spec rfl)).1), fun h => absurd h (by decide), fun h => absurd h (by decide)⟩
          · intro a w2 hB hF hd
            refine flow_wanted (wanted_yes rfl rfl ((hd 16 _ rfl (waits_spec rfl)).1) rfl) ?_
            exact flow_val (fun h => by cases h) (run_load_str rfl Try.underlying87 rfl Try.size87 (hF.same 7 rfl) (hX4.below hB hX4.lt)) ⟨rfl, fun h => absurd h (by decide), fun h => absurd h (by decide)⟩
          · intro a w2 hB hF hd
            refine flow_wanted (wanted_yes rfl rfl ((hd 16 _ rfl (waits_spec rfl)).1) rfl) ?_
            exact flow_val (fun h => by cases h) (run_load_str rfl Try.underlying87 rfl Try.size87 (hF.same 8 rfl) (hY4.below hB hY4.lt)) ⟨rfl, fun h => absurd h (by decide), fun h => absurd h (by decide)⟩
          · intro a w2 hB hF hd
            refine flow_wanted (wanted_yes rfl rfl ((hd 16 _ rfl (waits_spec rfl)).1) rfl) ?_
            refine flow_call _ _ _ rfl Try.call66 _ (args2 ((hd 17 _ rfl (waits_spec rfl)).1) ((hd 18 _ rfl (waits_spec rfl)).1)) (by simp) ((poMul_any A B HA.out HB.out w2).mono ?_)
            rintro e w3 ⟨rfl, hb⟩; exact ⟨_, rfl, ⟨rfl, fun h => absurd h (by decide), fun h => absurd h (by decide)⟩, hb⟩
          · intro a w2 hB hF hd
            refine flow_wanted (wanted_yes rfl rfl ((hd 16 _ rfl (waits_spec rfl)).1) rfl) ?_
            refine flow_call _ _ _ rfl Try.call62 _ (args1 ((hd 19 _ rfl (waits_spec rfl)).1)) (by simp) ((poBytes_any (A * B % PP) (modPP _) w2).mono ?_)
            rintro e w3 ⟨rfl, hb⟩; exact ⟨_, rfl, ⟨rfl, fun h => absurd h (by decide), fun h => absurd h (by decide)⟩, hb⟩
          · intro a w2 hB hF hd
            refine flow_wanted (wanted_yes rfl rfl ((hd 16 _ rfl (waits_spec rfl)).1) rfl) ?_
            exact flow_move _ (.inl rfl) (by simp) ⟨(hF.same 9 rfl), fun h => absurd h (by decide), fun h => absurd h (by decide)⟩
          · intro a w2 hB hF hd
            refine flow_wanted (wanted_yes rfl rfl ((hd 16 _ rfl (waits_spec rfl)).1) rfl) ?_
            exact flow_move _ (.inl rfl) (by simp) ⟨(hF.same 10 rfl), fun h => absurd h (by decide), fun h => absurd h (by decide)⟩
          · intro a w2 hB hF hd
            refine flow_wanted (wanted_yes rfl rfl ((hd 16 _ rfl (waits_spec rfl)).1) rfl) ?_
            refine flow_call _ _ _ rfl Try.call67 _ (args2 ((hd 21 _ rfl (waits_spec rfl)).1) ((hd 22 _ rfl (waits_spec rfl)).1)) (by simp) ((rMulP_any _ _ (A % PP) (B % PP) w2 (H9.out.below hB) (H10.out.below hB) (PP_digits (modPP_lt A)) (PP_digits (modPP_lt B))).mono ?_)
            rintro e w3 ⟨u, rfl, hr, hb⟩; exact ⟨u, rfl, ⟨trivial, fun h => absurd h (by decide), fun _ => hr⟩, hb⟩
          · intro a w2 hB hF hd
            refine flow_wanted (wanted_yes rfl rfl ((hd 16 _ rfl (waits_spec rfl)).1) rfl) ?_
            refine flow_call _ _ _ rfl Try.call63 _ (args1 rfl) (by simp) ((rBytesP_any _ (A % PP * (B % PP) % PP) 10 (by decide) w2 ((hd 23 _ rfl (waits_spec rfl)).2.2 rfl)).mono ?_)
            rintro e w3 ⟨rfl, hb⟩; exact ⟨_, rfl, ⟨rfl, fun h => absurd h (by decide), fun h => absurd h (by decide)⟩, hb⟩
          · intro a w2 hB hF hd
            refine flow_wanted (wanted_yes rfl rfl ((hd 16 _ rfl (waits_spec rfl)).1) rfl) ?_
            exact flow_val (fun h => by cases h) (run_neq_arr true rfl ((hd 20 _ rfl (waits_spec rfl)).1) ((hd 24 _ rfl (waits_spec rfl)).1) Try.underlying86 (by kernel_rfl) (by kernel_rfl) (by kernel_rfl) (by kernel_rfl) (by kernel_rfl) (samePn (pn_mul A B))) ⟨rfl, fun h => absurd h (by decide), fun h => absurd h (by decide)⟩
          · intro a w2 hB hF hd
            rw [if_pos (wanted_none rfl)]
            exact flow_val (fun h => by cases h) (run_pick rfl ((hd 16 _ rfl (waits_spec rfl)).1)) ⟨(((hd 25 _ rfl (waits_spec rfl)).1)), fun h => absurd h (by decide), fun h => absurd h (by decide)⟩
        · intro a w5 hB hF hS
          obtain ⟨x39, hx39⟩ : ∃ x, x = a.tmps.getD 39 undef := ⟨_, rfl⟩
          obtain ⟨x50, hx50⟩ : ∃ x, x = a.tmps.getD 50 undef := ⟨_, rfl⟩
          have ha := puts_each rfl rfl hF [_, _, _, _, _, _, _, _, _, _, _, _, x39, _, _, _, _, _, _, _, _, _, _, x50, _, _, _] rfl ⟨(hS 0 _ rfl).1, (hS 1 _ rfl).1, (hS 2 _ rfl).1, (hS 3 _ rfl).1, (hS 4 _ rfl).1, (hS 5 _ rfl).1, (hS 6 _ rfl).1, (hS 7 _ rfl).1, (hS 8 _ rfl).1, (hS 9 _ rfl).1, (hS 10 _ rfl).1, (hS 11 _ rfl).1, hx39.symm, (hS 13 _ rfl).1, (hS 14 _ rfl).1, (hS 15 _ rfl).1, (hS 16 _ rfl).1, (hS 17 _ rfl).1, (hS 18 _ rfl).1, (hS 19 _ rfl).1, (hS 20 _ rfl).1, (hS 21 _ rfl).1, (hS 22 _ rfl).1, hx50.symm, (hS 24 _ rfl).1, (hS 25 _ rfl).1, (hS 26 _ rfl).1, trivial⟩
          simp only [puts, Act.put, List.setIfInBounds_toArray, List.set_cons_succ, List.set_cons_zero] at ha
          subst ha
          clear hx39 hx50
          clear hS hF
          have hA5 := hA4.kept hB
          have hbel5 := hbel4.trans (hB.mono hbel4.size)
          clear hA4 hB4 hX4 hY4 hbel4 hB H9 H10
          have hat := arrayAt_part (a := some ⟨w.heap.size, 0, none⟩) (len := 16) (cap := 17) Try.underlying82 (by decide)
          have hcellA := fun i hi => hA5.cell i (by omega : i < 17)
          have HCA : Hid (∀ i, i < 16 → w5.cell? ⟨w.heap.size, 0 + i, none⟩ = some (.int .u8 (dg 256 A i))) := fun i hi => by rw [Nat.zero_add]; exact hA5.cell i (by omega)
          clear hcellA
          go_wp2_with (refine load_part rfl 82 _ rfl .u8 w.heap.size 0 16 (dg 256 A) 5 Try.underlying82 Try.size82 rfl HCA.out ?_)
          refine (clamp_any (dg 256 A) (fun i hi => dg_bound (by decide) _ _) _).mono ?_
          rintro e w6 ⟨rfl, hb6⟩
          have hA6 := hA5.kept hb6
          have hbel6 := hbel5.trans (hb6.mono hbel5.size)
          have s6 := hbel6.size
          have l6 := hA6.lt
          clear hA5 hbel5 hb6 HCA hat
          go_upto_region 10 with (refine store_arr rfl 82 _ _ rfl .u8 w6.heap.size 16 (fun _ => 0) _ Try.size82 rfl rfl (Arr.newAt rfl rfl) ?_)
          refine wp_world (fun w7 => Arr .u8 w7 w6.heap.size 16 (clampF (dg 256 A)) ∧ Arr .u8 w7 w.heap.size 17 (dg 256 A) ∧ Below w.heap.size w w7)
            ⟨Arr.setRow (Arr.newAt (n := 16) (f := fun _ => 0) rfl rfl) _ _, Arr.setRowOther (Arr.alloc hA6 _) _ (by omega) _, below_setRow' (hbel6.alloc s6 _) s6 _⟩ ?_
          rintro w7 ⟨hK7, hA7, hbel7⟩
          clear hA6 hbel6
          simp only [Act.put]
          refine region_flow (n := 88) (by kernel_rfl) (by kernel_rfl) (by kernel_rfl) rfl
            (fun ii vv ww => (match ii with | 0 => vv = .slice (some ⟨w6.heap.size, 0, none⟩) 16 16 | 1 => vv = .slice (some ⟨w.heap.size, 0, none⟩) 16 17 | 3 => vv = .bool true | 4 => vv = .bool false | _ => True) ∧ (ii = 2 → Rd .u8 ww vv 16 (clampF (dg 256 A))))
            (fun w w' => Below w.heap.size w w') (fun _ _ h => h) (fun i v w w' h hE => ⟨h.1, fun e => Rd.below (h.2 e) hE⟩) ?_ ?_
          · refine Each.all ?_
            refine ⟨?_, ?_, ?_, ?_, ?_, trivial⟩
            · intro a w2 hB hF hd
              rw [if_pos (wanted_none rfl)]
              exact flow_val (fun h => by cases h) (run_slice_arr rfl (hF.same 11 rfl) Try.underlying82 (by kernel_rfl)) ⟨rfl, fun h => absurd h (by decide)⟩
            · intro a w2 hB hF hd
              rw [if_pos (wanted_none rfl)]
              exact flow_val (fun h => by cases h) (run_slice_part rfl (hF.same 3 rfl) (by simp only [Option.map_some, Option.map_none]; exact run_sliceAt_ptr_h (m := 16) Try.underlying86 Try.size5 (by decide))) ⟨rfl, fun h => absurd h (by decide)⟩
            · intro a w2 hB hF hd
              rw [if_pos (wanted_none rfl)]
              refine flow_call _ _ _ rfl Try.call69 _ (args1 ((hd 1 _ rfl (waits_spec rfl)).1)) (by simp) ((rClamp_rd _ 16 (dg 256 A) w2 (arr_part (m := 16) (hA7.kept hB) (by decide) (by decide)) (by decide) (fun i hi => dg_bound (by decide) _ _)).mono ?_)
              rintro e w3 ⟨u, rfl, hr, hb⟩; exact ⟨u, rfl, ⟨trivial, fun _ => hr⟩, hb⟩
            · intro a w2 hB hF hd
              rw [if_pos (wanted_none rfl)]
              refine flow_call _ _ _ rfl Try.call47 _ (args2 ((hd 0 _ rfl (waits_spec rfl)).1) rfl) (by simp) ((same_yes _ _ 16 (clampF (dg 256 A)) (clampF (dg 256 A)) w2 ((hK7.kept hB).rd (by decide)) ((hd 2 _ rfl (waits_spec rfl)).2 rfl) (fun _ _ => rfl)).mono ?_)
              rintro e w3 ⟨rfl, hb⟩; exact ⟨_, rfl, ⟨rfl, fun h => absurd h (by decide)⟩, hb⟩
            · intro a w2 hB hF hd
              rw [if_pos (wanted_none rfl)]
              exact flow_val (fun h => by cases h) (run_not rfl ((hd 3 _ rfl (waits_spec rfl)).1)) ⟨rfl, fun h => absurd h (by decide)⟩
          · intro a w8 hB hF hS
            obtain ⟨x60, hx60⟩ : ∃ x, x = a.tmps.getD 60 undef := ⟨_, rfl⟩
            have ha := puts_each rfl rfl hF [_, _, x60, _, _] rfl ⟨(hS 0 _ rfl).1, (hS 1 _ rfl).1, hx60.symm, (hS 3 _ rfl).1, (hS 4 _ rfl).1, trivial⟩
            simp only [puts, Act.put, List.setIfInBounds_toArray, List.set_cons_succ, List.set_cons_zero] at ha
            subst ha
            clear hx60
            clear hS hF
            have hbel8 := hbel7.trans (hB.mono hbel7.size)
            have HX8 := Lib.hid (HX.out.below hbel8)
            have HXC8 := Lib.hid (HXC.out.below hbel8)
            clear hK7 hA7 hbel7 hB
            by_cases h17 : 17 < n
            · go_wp2_with fail
              refine (poOf_long _ n f _ HX8.out h17).mono ?_
              rintro e w9 ⟨rfl, hb9⟩
              have hbel9 := hbel8.trans (hb9.mono hbel8.size)
              have s9 := hbel9.size
              clear hbel8 hb9
              go_upto_region 13 with (refine store_arr rfl 87 _ _ rfl .u8 w9.heap.size 17 (fun _ => 0) _ Try.size87 rfl rfl (Arr.newAt rfl rfl) ?_)
              refine wp_world (fun wa => Arr .u8 wa w9.heap.size 17 (dg 256 0) ∧ Below w.heap.size w wa)
                ⟨Arr.setRow (Arr.newAt (n := 17) (f := fun _ => 0) rfl rfl) _ _, below_setRow' (hbel9.alloc s9 _) s9 _⟩ ?_
              rintro wa ⟨hNa, hbela⟩
              clear hbel9
              go_upto_region 14 with (fail)
              refine region_flow (n := 88) (by kernel_rfl) (by kernel_rfl) (by kernel_rfl) rfl
                (fun ii vv _ => (match ii with | 0 => vv = .int .i64 (3) | 1 | 2 | 5 | 6 | 7 => vv = .bool true | 3 | 4 => vv = .agg (arr .u8 17 (dg 256 0)) | _ => True))
                (fun w w' => Below w.heap.size w w') (fun _ _ h => h) (fun _ _ _ _ h _ => h) ?_ ?_
              · refine Each.all ?_
                refine ⟨?_, ?_, ?_, ?_, ?_, ?_, ?_, ?_, trivial⟩
                · intro a w2 hB hF hd
                  rw [if_pos (wanted_none rfl)]
                  exact flow_move _ (.inl rfl) (by simp) (hF.same 13 rfl)
                · intro a w2 hB hF hd
                  rw [if_pos (wanted_none rfl)]
                  refine flow_val (fun h => by cases h) (Go.Bas.run_eql_int rfl (hd 0 _ rfl (waits_spec rfl)) rfl) ?_
                  exact rfl
                · intro a w2 hB hF hd
                  rw [if_pos (wanted_none rfl)]
                  exact flow_move _ (.inl rfl) (by simp) (hd 1 _ rfl (waits_spec rfl))
                · intro a w2 hB hF hd
                  refine flow_wanted (wanted_yes rfl rfl (hd 2 _ rfl (waits_spec rfl)) rfl) ?_
                  exact flow_val (fun h => by cases h) (run_load_str rfl Try.underlying87 rfl Try.size87 (hF.same 12 rfl) (hNa.below hB hNa.lt)) rfl
                · intro a w2 hB hF hd
                  refine flow_wanted (wanted_yes rfl rfl (hd 2 _ rfl (waits_spec rfl)) rfl) ?_
                  exact flow_val (fun h => by cases h) (run_built rfl (build_num0 _)) rfl
                · intro a w2 hB hF hd
                  refine flow_wanted (wanted_yes rfl rfl (hd 2 _ rfl (waits_spec rfl)) rfl) ?_
                  exact flow_val (fun h => by cases h) (run_eql_arr true rfl (hd 3 _ rfl (waits_spec rfl)) (hd 4 _ rfl (waits_spec rfl)) Try.underlying87 (by kernel_rfl) (by kernel_rfl) (by kernel_rfl) (by kernel_rfl) (by kernel_rfl) sameB_self) rfl
                · intro a w2 hB hF hd
                  rw [if_pos (wanted_none rfl)]
                  exact flow_val (fun h => by cases h) (run_pick rfl (hd 2 _ rfl (waits_spec rfl))) ((hd 5 _ rfl (waits_spec rfl)))
                · intro a w2 hB hF hd
                  rw [if_pos (wanted_none rfl)]
                  exact flow_move _ (.inr rfl) (by simp) (hd 6 _ rfl (waits_spec rfl))
              · intro a wb hB hF hS
                have ha := puts_each rfl rfl hF [_, _, _, _, _, _, _, _] rfl ⟨hS 0 _ rfl, hS 1 _ rfl, hS 2 _ rfl, hS 3 _ rfl, hS 4 _ rfl, hS 5 _ rfl, hS 6 _ rfl, hS 7 _ rfl, trivial⟩
                simp only [puts, Act.put, List.setIfInBounds_toArray, List.set_cons_succ, List.set_cons_zero] at ha
                subst ha
                clear hS hF
                have hbf := hbela.trans (hB.mono hbela.size)
                clear hNa hbela hB
                go_wp2
                go_ret
                exact ⟨rfl, hbf⟩
            · have HO : Hid (∀ w : World, Rd .u8 w (.slice a1 n c1) n f → Calls Try.prog 70 #[.slice a1 n c1] w fun e w' => e = .returned (.tuple #[.agg (arr .u8 17 (dg 256 (C % PP))), .int .i64 0]) ∧ Below w.heap.size w w') := by
                intro w h; rw [HC.out]; exact poOf_any _ n f w h HF.out (by omega)
              go_wp2_with fail
              refine (HO.out _ HX8.out).mono ?_
              rintro e w9 ⟨rfl, hb9⟩
              have hbel9 := hbel8.trans (hb9.mono hbel8.size)
              have s9 := hbel9.size
              have HXC9 := Lib.hid (HXC8.out.below (hb9.trans ((Below.refl _ _).mono hb9.size)))
              clear hbel8 hb9 HXC8
              go_upto_region 13 with (refine store_arr rfl 87 _ _ rfl .u8 w9.heap.size 17 (fun _ => 0) _ Try.size87 rfl rfl (Arr.newAt rfl rfl) ?_)
              refine wp_world (fun wa => Arr .u8 wa w9.heap.size 17 (dg 256 (C % PP)) ∧ Rd .u8 wa (.slice a1 n c1) n (dg 256 C) ∧ Below w.heap.size w wa)
                ⟨Arr.setRow (Arr.newAt (n := 17) (f := fun _ => 0) rfl rfl) _ _, HXC9.out.below (below_setRow' ((Below.refl _ _).alloc (Nat.le_refl _) _) (Nat.le_refl _) _), below_setRow' (hbel9.alloc s9 _) s9 _⟩ ?_
              rintro wa ⟨hNa, hRa, hbela⟩
              have HRa := Lib.hid hRa
              clear hbel9 HXC9 hRa
              go_upto_region 15 with (fail)
              refine region_flow (n := 88) (by kernel_rfl) (by kernel_rfl) (by kernel_rfl) rfl
                (fun ii vv ww => (match ii with | 0 => vv = .int .i64 (0) | 1 | 2 | 8 | 9 | 10 => vv = .bool true | 3 | 7 => vv = .agg (arr .u8 17 (dg 256 (C % PP))) | 4 => vv = .slice a1 n c1 | _ => True) ∧ (ii = 5 → Rd .i64 ww vv ((n + 1) / 2) (dg 65536 C)) ∧ (ii = 6 → Rd .i64 ww vv 10 (dg 65536 (C % PP))))
                (fun w w' => Below w.heap.size w w') (fun _ _ h => h) (fun i v w w' h hE => ⟨h.1, fun e => Rd.below (h.2.1 e) hE, fun e => Rd.below (h.2.2 e) hE⟩) ?_ ?_
              · refine Each.all ?_
                refine ⟨?_, ?_, ?_, ?_, ?_, ?_, ?_, ?_, ?_, ?_, ?_, trivial⟩
                · intro a w2 hB hF hd
                  rw [if_pos (wanted_none rfl)]
                  exact flow_move _ (.inl rfl) (by simp) ⟨(hF.same 13 rfl), fun h => absurd h (by decide), fun h => absurd h (by decide)⟩
                · intro a w2 hB hF hd
                  rw [if_pos (wanted_none rfl)]
                  refine flow_val (fun h => by cases h) (Go.Bas.run_eql_int rfl ((hd 0 _ rfl (waits_spec rfl)).1) rfl) ?_
                  exact ⟨rfl, fun h => absurd h (by decide), fun h => absurd h (by decide)⟩
                · intro a w2 hB hF hd
                  rw [if_pos (wanted_none rfl)]
                  exact flow_move _ (.inl rfl) (by simp) ⟨((hd 1 _ rfl (waits_spec rfl)).1), fun h => absurd h (by decide), fun h => absurd h (by decide)⟩
                · intro a w2 hB hF hd
                  refine flow_wanted (wanted_yes rfl rfl ((hd 2 _ rfl (waits_spec rfl)).1) rfl) ?_
                  exact flow_val (fun h => by cases h) (run_load_str rfl Try.underlying87 rfl Try.size87 (hF.same 12 rfl) (hNa.below hB hNa.lt)) ⟨rfl, fun h => absurd h (by decide), fun h => absurd h (by decide)⟩
                · intro a w2 hB hF hd
                  refine flow_wanted (wanted_yes rfl rfl ((hd 2 _ rfl (waits_spec rfl)).1) rfl) ?_
                  exact flow_move _ (.inl rfl) (by simp) ⟨(hF.same 2 rfl), fun h => absurd h (by decide), fun h => absurd h (by decide)⟩
                · intro a w2 hB hF hd
                  refine flow_wanted (wanted_yes rfl rfl ((hd 2 _ rfl (waits_spec rfl)).1) rfl) ?_
                  refine flow_call _ _ _ rfl Try.call61 _ (args1 ((hd 4 _ rfl (waits_spec rfl)).1)) (by simp) ((rDigitsP_rd _ C n (by omega) HCB.out w2 (HRa.out.below hB)).mono ?_)
                  rintro e w3 ⟨u, rfl, hr, hb⟩; exact ⟨u, rfl, ⟨trivial, fun _ => hr, fun h => absurd h (by decide)⟩, hb⟩
                · intro a w2 hB hF hd
                  refine flow_wanted (wanted_yes rfl rfl ((hd 2 _ rfl (waits_spec rfl)).1) rfl) ?_
                  refine flow_call _ _ _ rfl Try.call60 _ (args1 rfl) (by simp) ((rModP_any _ C ((n + 1) / 2) (by omega) (half_boundP HCB.out) w2 ((hd 5 _ rfl (waits_spec rfl)).2.1 rfl)).mono ?_)
                  rintro e w3 ⟨u, rfl, hr, hb⟩; exact ⟨u, rfl, ⟨trivial, fun h => absurd h (by decide), fun _ => hr⟩, hb⟩
                · intro a w2 hB hF hd
                  refine flow_wanted (wanted_yes rfl rfl ((hd 2 _ rfl (waits_spec rfl)).1) rfl) ?_
                  refine flow_call _ _ _ rfl Try.call63 _ (args1 rfl) (by simp) ((rBytesP_any _ (C % PP) 10 (by decide) w2 ((hd 6 _ rfl (waits_spec rfl)).2.2 rfl)).mono ?_)
                  rintro e w3 ⟨rfl, hb⟩; exact ⟨_, rfl, ⟨rfl, fun h => absurd h (by decide), fun h => absurd h (by decide)⟩, hb⟩
                · intro a w2 hB hF hd
                  refine flow_wanted (wanted_yes rfl rfl ((hd 2 _ rfl (waits_spec rfl)).1) rfl) ?_
                  exact flow_val (fun h => by cases h) (run_eql_arr true rfl ((hd 3 _ rfl (waits_spec rfl)).1) ((hd 7 _ rfl (waits_spec rfl)).1) Try.underlying86 (by kernel_rfl) (by kernel_rfl) (by kernel_rfl) (by kernel_rfl) (by kernel_rfl) sameB_self) ⟨rfl, fun h => absurd h (by decide), fun h => absurd h (by decide)⟩
                · intro a w2 hB hF hd
                  rw [if_pos (wanted_none rfl)]
                  exact flow_val (fun h => by cases h) (run_pick rfl ((hd 2 _ rfl (waits_spec rfl)).1)) ⟨(((hd 8 _ rfl (waits_spec rfl)).1)), fun h => absurd h (by decide), fun h => absurd h (by decide)⟩
                · intro a w2 hB hF hd
                  rw [if_pos (wanted_none rfl)]
                  exact flow_move _ (.inr rfl) (by simp) ⟨((hd 9 _ rfl (waits_spec rfl)).1), fun h => absurd h (by decide), fun h => absurd h (by decide)⟩
              · intro a wb hB hF hS
                obtain ⟨x83, hx83⟩ : ∃ x, x = a.tmps.getD 83 undef := ⟨_, rfl⟩
                obtain ⟨x84, hx84⟩ : ∃ x, x = a.tmps.getD 84 undef := ⟨_, rfl⟩
                have ha := puts_each rfl rfl hF [_, _, _, _, _, x83, x84, _, _, _, _] rfl ⟨(hS 0 _ rfl).1, (hS 1 _ rfl).1, (hS 2 _ rfl).1, (hS 3 _ rfl).1, (hS 4 _ rfl).1, hx83.symm, hx84.symm, (hS 7 _ rfl).1, (hS 8 _ rfl).1, (hS 9 _ rfl).1, (hS 10 _ rfl).1, trivial⟩
                simp only [puts, Act.put, List.setIfInBounds_toArray, List.set_cons_succ, List.set_cons_zero] at ha
                subst ha
                clear hx83 hx84
                clear hS hF
                have hbf := hbela.trans (hB.mono hbela.size)
                clear hNa hbela hB
                go_wp2
                go_ret
                exact ⟨rfl, hbf⟩
end Go.Proofs.Ytjmagojmfiabfaa
