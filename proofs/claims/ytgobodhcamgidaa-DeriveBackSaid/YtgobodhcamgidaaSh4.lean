/-
  sha.Kinds, sha.begin, sha.Pad: what each answers. Conditions: named in each theorem.
-/
import Derived.Test.YtgobodhcamgidaaSh3
import Derived.Test.YtgobodhcamgidaaMade
import Derived.Test.YtgobodhcamgidaaRow
set_option linter.unusedVariables false
set_option linter.unusedSimpArgs false
namespace Go.Bas
open Go.RowKit
theorem padF_0 (n : Nat) : padF n 0 = 128 := rfl
theorem padF_mid {n i : Nat} (h0 : 0 < i) (h : i < padZ n + 9) : padF n i = 0 := by unfold padF; rw [if_neg (by omega), if_pos h]
end Go.Bas
namespace Go.Proofs.Ytgobodhcamgidaa
open Go.RowKit Go.Bas
attribute [local go_sem ↓] Go.wp_at_zero Go.wp_at_succ
theorem padF_end {n i : Nat} (h : i < 8) : padF n (padZ n + 9 + i) = by64 (fun _ => 8 * (n : Int)) i := by
  unfold padF by64
  rw [if_neg (by omega), if_neg (by omega), Nat.add_sub_cancel_left, Nat.mod_eq_of_lt h]

set_option maxRecDepth 100000 in
set_option maxHeartbeats 1600000 in
theorem kinds_any (w : World) : Calls Try.prog 23 #[] w fun e w' => e = .returned (.agg (arr .u64 80 kK)) ∧ Below w.heap.size w w' := by
  obtain ⟨kf, hK⟩ : ∃ kf, kf = kK := ⟨_, rfl⟩
  have HK := Lib.hid hK
  rw [← hK]
  clear hK
  go_enter Try.func23, Try.ntmps23
  go_upto_region 1 with (fail)
  refine wp_world (fun w1 => Arr .u64 w1 w.heap.size 80 (fun _ => 0) ∧ Below w.heap.size w w1) ⟨Arr.newAt rfl (by rfl), (Below.refl _ _).alloc (Nat.le_refl _) _⟩ ?_
  rintro w1 ⟨hZ, hbel⟩
  refine region_lasts (n := 2) (fun i => i == 1) (by kernel_rfl) (by kernel_rfl) (by kernel_rfl) (by kernel_rfl) rfl
    (fun ii vv _ => (match ii with | 0 => vv = .agg (arr .u64 80 (kf)) | _ => True))
    (fun w w' => Below w.heap.size w w') (fun _ _ h => h) (fun _ _ _ _ h _ => h)
    (fun _ => w.heap.size) (fun _ => (arr .u64 80 (fun _ => 0))) (fun _ => (arr .u64 80 (kf)))
    (by intro i j _ _ hpi hpj hne; simp only [beq_iff_eq] at hpi hpj; omega)
    (by intro i _ hpi; exact (hZ).row)
    ?_ ?_ ?_
  · refine Each.all ?_
    refine ⟨?_, (fun h => absurd h (by decide)), trivial⟩
    · intro _ a w2 hB hF hd
      rw [if_pos (wanted_none rfl)]
      refine flow_val (v := .agg (arr .u64 80 kf)) (fun h => by cases h) (run_built rfl ?_) rfl
      rw [HK.out]
      simp only [List.map_toArray, List.map_cons, List.map_nil, Act.eval]
      rw [Go.run_build _ _ _ (arr .u64 80 kK) (by kernel_rfl)]
  · refine Each.all ?_
    refine ⟨(fun h => absurd h (by decide)), ?_, trivial⟩
    · intro _ a w1 w2 K hB hF hS hr hK
      exact wp_store_arr 42 _ _ rfl .u64 (w.heap.size) 80 (fun _ => 0) (kf) Try.size42 (hF.same 0 rfl) (hS 0 _ rfl rfl ) hr hK
  · intro a wf w2 hB hF hS hfil
    have other : ∀ {k : IntKind} {qb n : Nat} {f : Nat → Int}, qb ≠ w.heap.size → Arr k wf qb n f → Arr k w2 qb n f := fun {k qb n f} e0 hA => hfil.arr (by intro i _ hpi; simp only [Bool.or_eq_true, beq_iff_eq] at hpi; subst hpi <;> ((try simp only []); (try dsimp only); omega)) hA
    have belowT : ∀ {B : Nat} {w0 : World}, B ≤ w.heap.size → Below B w0 wf → Below B w0 w2 := fun {B w0} e0 hA => hfil.below (by intro i _ hpi; simp only [Bool.or_eq_true, beq_iff_eq] at hpi; subst hpi <;> ((try simp only []); (try dsimp only); omega)) hA
    have V1 : Arr .u64 w2 (w.heap.size) 80 (kf) := hfil.at 1 (by decide) rfl
    have hszf := hfil.size
    clear hfil
    have ha := puts_each rfl rfl hF [_, undef] rfl ⟨hS 0 _ rfl rfl, trivial, trivial⟩
    simp only [puts, Act.put, List.setIfInBounds_toArray, List.set_cons_succ, List.set_cons_zero] at ha
    subst ha
    clear hS hF
    have hb2 := belowT (Nat.le_refl _) (hbel.trans (hB.mono hbel.size))
    go_wp2
    exact bodyPost_ret (results_arr rfl _ _ .u64 w.heap.size 80 _ 36 rfl V1 Try.underlying42 Try.size42) rfl ⟨rfl, hb2⟩

set_option maxRecDepth 100000 in
set_option maxHeartbeats 1600000 in
theorem begin_any (w : World) : Calls Try.prog 46 #[] w fun e w' => e = .returned (.agg (arr .u64 8 kB)) ∧ Below w.heap.size w w' := by
  obtain ⟨kf, hK⟩ : ∃ kf, kf = kB := ⟨_, rfl⟩
  have HK := Lib.hid hK
  rw [← hK]
  clear hK
  go_enter Try.func46, Try.ntmps46
  go_upto_region 1 with (fail)
  refine wp_world (fun w1 => Arr .u64 w1 w.heap.size 8 (fun _ => 0) ∧ Below w.heap.size w w1) ⟨Arr.newAt rfl (by rfl), (Below.refl _ _).alloc (Nat.le_refl _) _⟩ ?_
  rintro w1 ⟨hZ, hbel⟩
  refine region_lasts (n := 2) (fun i => i == 1) (by kernel_rfl) (by kernel_rfl) (by kernel_rfl) (by kernel_rfl) rfl
    (fun ii vv _ => (match ii with | 0 => vv = .agg (arr .u64 8 (kf)) | _ => True))
    (fun w w' => Below w.heap.size w w') (fun _ _ h => h) (fun _ _ _ _ h _ => h)
    (fun _ => w.heap.size) (fun _ => (arr .u64 8 (fun _ => 0))) (fun _ => (arr .u64 8 (kf)))
    (by intro i j _ _ hpi hpj hne; simp only [beq_iff_eq] at hpi hpj; omega)
    (by intro i _ hpi; exact (hZ).row)
    ?_ ?_ ?_
  · refine Each.all ?_
    refine ⟨?_, (fun h => absurd h (by decide)), trivial⟩
    · intro _ a w2 hB hF hd
      rw [if_pos (wanted_none rfl)]
      refine flow_val (v := .agg (arr .u64 8 kf)) (fun h => by cases h) (run_built rfl ?_) rfl
      rw [HK.out]
      simp only [List.map_toArray, List.map_cons, List.map_nil, Act.eval]
      rw [Go.run_build _ _ _ (arr .u64 8 kB) (by kernel_rfl)]
  · refine Each.all ?_
    refine ⟨(fun h => absurd h (by decide)), ?_, trivial⟩
    · intro _ a w1 w2 K hB hF hS hr hK
      exact wp_store_arr 78 _ _ rfl .u64 (w.heap.size) 8 (fun _ => 0) (kf) Try.size78 (hF.same 0 rfl) (hS 0 _ rfl rfl ) hr hK
  · intro a wf w2 hB hF hS hfil
    have other : ∀ {k : IntKind} {qb n : Nat} {f : Nat → Int}, qb ≠ w.heap.size → Arr k wf qb n f → Arr k w2 qb n f := fun {k qb n f} e0 hA => hfil.arr (by intro i _ hpi; simp only [Bool.or_eq_true, beq_iff_eq] at hpi; subst hpi <;> ((try simp only []); (try dsimp only); omega)) hA
    have belowT : ∀ {B : Nat} {w0 : World}, B ≤ w.heap.size → Below B w0 wf → Below B w0 w2 := fun {B w0} e0 hA => hfil.below (by intro i _ hpi; simp only [Bool.or_eq_true, beq_iff_eq] at hpi; subst hpi <;> ((try simp only []); (try dsimp only); omega)) hA
    have V1 : Arr .u64 w2 (w.heap.size) 8 (kf) := hfil.at 1 (by decide) rfl
    have hszf := hfil.size
    clear hfil
    have ha := puts_each rfl rfl hF [_, undef] rfl ⟨hS 0 _ rfl rfl, trivial, trivial⟩
    simp only [puts, Act.put, List.setIfInBounds_toArray, List.set_cons_succ, List.set_cons_zero] at ha
    subst ha
    clear hS hF
    have hb2 := belowT (Nat.le_refl _) (hbel.trans (hB.mono hbel.size))
    go_wp2
    exact bodyPost_ret (results_arr rfl _ _ .u64 w.heap.size 8 _ 36 rfl V1 Try.underlying78 Try.size78) rfl ⟨rfl, hb2⟩

theorem pad_out (n : Int) (h : n < 0 ∨ 1099511627776 < n) (w : World) : Calls Try.prog 19 #[.int .i64 n] w fun e w' => e = .returned (.slice none 0 0) ∧ w = w' := by
  by_cases h0 : n < 0
  · clear h
    go_enter Try.func19, Try.ntmps19
    go_wp2
    go_ret
    exact ⟨rfl, rfl⟩
  · have h1 : 1099511627776 < n := by omega
    have h2 : 0 ≤ n := by omega
    clear h h0
    go_enter Try.func19, Try.ntmps19
    go_wp2
    go_ret
    exact ⟨rfl, rfl⟩

set_option maxRecDepth 100000 in
set_option maxHeartbeats 1600000 in
theorem pad_any (n : Nat) (hn : n ≤ 1099511627776) (w : World) :
    Calls Try.prog 19 #[.int .i64 n] w fun e w' => ∃ v, e = .returned v ∧ Go.Bas.Own .u8 5 w.heap.size w' v (padN n) (padF n) ∧ Below w.heap.size w w' := by
  obtain ⟨Z, hZ⟩ : ∃ Z, Z = padZ n := ⟨_, rfl⟩
  have hz : (239 - (n : Int) % 128) % 128 = (Z : Int) := by rw [hZ]; unfold padZ; omega
  have hzl : Z < 128 := by rw [hZ]; exact Nat.mod_lt _ (by decide)
  have h1 : Int.tmod (n : Int) 128 = (n : Int) % 128 := Int.tmod_eq_emod_of_nonneg (by omega)
  have h2 : Int.tmod (239 - (n : Int) % 128) 128 = (Z : Int) := by rw [Int.tmod_eq_emod_of_nonneg (by omega)]; exact hz
  have HZ := Lib.hid hZ
  have HN : Hid (padN n = Z + 9 + 8) := by rw [hZ]; exact rfl
  have HM : Hid (∀ i, 0 < i → i < Z + 9 → padF n i = 0) := by rw [hZ]; exact fun i h0 h => padF_mid h0 h
  have HE : Hid (∀ i, i < 8 → padF n (Z + 9 + i) = by64 (fun _ => 8 * (n : Int)) i) := by rw [hZ]; exact fun i h => padF_end h
  clear hZ
  go_enter Try.func19, Try.ntmps19
  obtain ⟨F, hF⟩ : ∃ F, F = padF n := ⟨_, rfl⟩
  have HF0 : Hid (F 0 = 128) := by rw [hF]; exact rfl
  have HE2 : Hid (∀ i, i < 8 → F (Z + 9 + i) = by64 (fun _ => (n : Int) * 8) i) := by rw [hF]; exact fun i hi => by rw [HE.out i hi, Int.mul_comm]
  rw [← hF] at HM ⊢
  clear hF HE
  have b1 : 0 ≤ (n : Int) * 8 := by omega
  have b2 : (n : Int) * 8 ≤ 8796093022208 := by omega
  have HB8 : Hid (0 ≤ (n : Int) * 8 ∧ (n : Int) * 8 < 18446744073709551616) := ⟨b1, by omega⟩
  have ho0 : Go.Bas.Own .u8 5 w.heap.size (w.alloc (.cells #[Value.int .u8 128] 5)) (.slice (some ⟨w.heap.size, 0, none⟩) 1 1) 1 F := Go.Bas.Own.new .u8 _ w _ 1 F (Nat.le_refl _) (by decide) rfl (fun i hi => one0 hi (by rw [show i = 0 by omega, HF0.out]))
  have HO0 := Lib.hid ho0
  clear ho0
  go_upto_region 5 with (at_builtin; refine append_made rfl _ _ 22 3 rfl w.heap.size 5 .u8 1 Try.underlying22 Try.underlying3 Try.info5 w.heap.size 1 1 F HO0.out rfl (Z + 8) rfl (by omega) (fun i hi => HM.out (1 + i) (by omega) (by omega)) (by omega) (by omega) (by simp) ?_; intro v2 w2 hown2 hgr2)
  have hb2 : Below w.heap.size w w2 := below_grown0 ((Below.refl _ _).alloc (Nat.le_refl _) _) hgr2 (by simp)
  have HO2 : Hid (Go.Bas.Own .u8 5 w.heap.size w2 v2 (Z + 9) F) := by unfold Hid; rw [show Z + 9 = 1 + (Z + 8) by omega]; exact hown2
  have s2 := hb2.size
  clear hown2 hgr2 HO0
  go_wp2_with fail
  refine (bytes64_any _ 1 (fun _ => (n : Int) * 8) _ lit1_rd (fun i _ => HB8.out) (by decide)).mono ?_
  rintro e w3 ⟨p, rfl, hp, hb3⟩
  have HO3 := Lib.hid ((HO2.out.alloc _).below hb3)
  have HP3 := Lib.hid hp.rd
  have hb03 := (hb2.alloc s2 _).trans (hb3.mono (by simp; omega))
  clear hp hb3 HO2 hb2
  have s3 := hb03.size
  go_wp2_with (at_builtin; refine append_rd rfl _ _ 22 rfl w.heap.size 5 .u8 1 Try.underlying22 Try.info5 _ (Z + 9) F HO3.out rfl _ (1 * 8) _ HP3.out rfl HE2.out (by omega) (by omega) s3 ?_; intro v4 w4 hown4 hgr4)
  have hb4 := below_grown hb03 hgr4 HO3.out s3 (Nat.le_refl _)
  have HO4 := Lib.hid hown4
  clear hown4 hgr4
  go_ret
  exact ⟨_, rfl, by rw [HN.out]; exact HO4.out, hb4⟩
end Go.Proofs.Ytgobodhcamgidaa
