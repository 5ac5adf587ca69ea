/-
  sha.Half, sha.Hex, bastillelaw03.awake: what each answers. Conditions: named in each theorem.
-/
import Derived.Test.YtgobodhcamgidaaSh8
import Derived.Test.YtgobodhcamgidaaSh10
import Derived.Test.YtgobodhcamgidaaChO
import Derived.Test.YtgobodhcamgidaaSame
set_option linter.unusedVariables false
set_option linter.unusedSimpArgs false
namespace Go.Proofs.Ytgobodhcamgidaa
open Go.RowKit Go.Bas
attribute [local go_sem ↓] Go.wp_at_zero Go.wp_at_succ
/-- the sum of one part. -/
theorem sum1_any (v : Value) (n : Nat) (f : Nat → Int) (w : World) (hv : Txt w v 1 (fun _ => n) (fun _ => f)) (hn : n ≤ 1000000) (hf : ∀ i, i < n → 0 ≤ f i ∧ f i < 256) :
    Calls Try.prog 14 #[v] w fun e w' => e = .returned (.agg (arr .u8 64 (sumB n f))) ∧ Below w.heap.size w w' :=
  sum_any v 1 _ _ n f w hv (cut1 (f := f) (n := n)).1 (cut1 (f := f) (n := n)).2 hn hf

set_option maxRecDepth 100000 in
set_option maxHeartbeats 1600000 in
theorem half_any (v : Value) (m : Nat) (lens : Nat → Nat) (g : Nat → Nat → Int) (n : Nat) (f : Nat → Int) (w : World) (hv : Txt w v m lens g) (hg : ∀ j, j < m → ∀ i, i < lens j → f (offs lens j + i) = g j i) (hn : offs lens m = n) (hn2 : n ≤ 1000000) (hf : ∀ i, i < n → 0 ≤ f i ∧ f i < 256) :
    Calls Try.prog 15 #[v] w fun e w' => e = .returned (.agg (arr .u8 32 (sumB n f))) ∧ Below w.heap.size w w' := by
  obtain ⟨SB, hSB⟩ : ∃ SB, SB = sumB n f := ⟨_, rfl⟩
  have HS := Lib.hid (fun w' (h : Txt w' v m lens g) => sum_any v m lens g n f w' h hg hn hn2 hf)
  have HV := Lib.hid hv
  rw [← hSB] at HS ⊢
  clear hSB hg hn hn2 hf hv
  go_enter Try.func15, Try.ntmps15
  go_upto_region 1 with (fail)
  refine wp_world (fun w1 => Arr .u8 w1 w.heap.size 32 (fun _ => 0) ∧ Below w.heap.size w w1 ∧ w1.heap.size = w.heap.size + 1) ⟨Arr.newAt rfl (by rfl), (Below.refl _ _).alloc (Nat.le_refl _) _, by simp⟩ ?_
  rintro w1 ⟨hZ, hbel, hs⟩
  refine region_vars (n := 9) (by kernel_rfl) (by kernel_rfl) (by kernel_rfl) rfl
    (isAl [(3, 2)]) (putOf [(3, 2)]) (fun _ => arr .u8 64 (fun _ => 0)) (fun _ => (arr .u8 64 (SB))) (fun _ => 24) (fun _ => 3)
    (fun ii vv _ => (match ii with | 0 => vv = v | 1 => vv = .agg (arr .u8 64 (SB)) | _ => True)) (fun _ _ => True) (fun _ _ _ => trivial) (fun _ _ _ _ _ _ _ => trivial) (fun _ _ _ _ h _ => h)
    (vs_al rfl) (vs_inj rfl) ?_ ?_ ?_ ?_
  · refine Each.all ?_
    refine ⟨?_, ?_, (fun h => by cases h), (fun _ h => by cases h), trivial⟩
    · intro _ _ a w2 hB hF hd
      rw [if_pos (wanted_none rfl)]
      exact flow_move _ (.inl rfl) (by simp) (hF.same 0 rfl)
    · intro _ _ a w2 hB hF hd
      rw [if_pos (wanted_none rfl)]
      refine flow_call _ _ _ rfl Try.call14 _ (args1 (hd 0 _ rfl rfl rfl (waits_spec rfl))) (by simp) ((HS.out _ (HV.out.below (hbel.trans (hB.mono hbel.size)))).mono ?_)
      rintro e w3 ⟨rfl, hb⟩; exact ⟨_, rfl, rfl, hb⟩
  · refine Each.all ?_
    refine ⟨(fun h => by cases h), (fun h => by cases h), ?_, (fun h => by cases h), trivial⟩
    · exact fun _ => ⟨rfl, rfl, fun a w2 K h => flow_alloc rfl rfl Try.zeroValue24 (by simp) h⟩
  · refine Each.all ?_
    refine ⟨(fun _ h => by cases h), (fun _ h => by cases h), (fun _ h => by cases h), ?_, trivial⟩
    · intro p hp
      obtain rfl : 2 = p := Option.some.inj hp
      exact ⟨rfl, rfl, ⟨_, rfl⟩, waits_spec rfl, fun a w2 b K hB hF hd hx hb h => flow_put rfl rfl Try.size24 hx (hd 1 _ rfl rfl rfl (waits_spec rfl)) hb h⟩
  · intro a w2 blk hB hF hS hv hfin hdis
    obtain ⟨v2, v2l, v2u⟩ := hv 2 _ rfl rfl
    have ha := puts_each rfl rfl hF [_, _, _, undef] rfl ⟨hS 0 _ rfl rfl rfl, hS 1 _ rfl rfl rfl, v2, trivial, trivial⟩
    have f2 := hfin 3 _ 2 rfl rfl
    simp only [puts, Act.put, List.setIfInBounds_toArray, List.set_cons_succ, List.set_cons_zero] at ha
    subst ha
    have V2 : Arr .u8 w2 (blk 2) 64 (SB) := ⟨_, f2⟩
    clear hS hv hfin hdis hF v2 f2
    have hZ2 := hZ.kept hB
    have hb2 := hbel.trans (hB.mono hbel.size)
    obtain ⟨q, hq⟩ : ∃ q, q = blk 2 := ⟨_, rfl⟩
    rw [← hq] at V2 ⊢
    have hql := V2.lt
    have hc3 : ∀ i, i < 32 → w2.cell? ⟨q, 0 + i, none⟩ = some (.int .u8 (SB i)) := fun i hi => by rw [Nat.zero_add, V2.cell i (by omega)]
    have HC3 := Lib.hid hc3
    have HZ2 := Lib.hid hZ2
    clear hZ hbel hs hq hc3 hB V2 hZ2
    go_upto_region 2 with (fail)
    refine region_lasts (n := 9) (fun i => i == 3) (by kernel_rfl) (by kernel_rfl) (by kernel_rfl) (by kernel_rfl) rfl
      (fun ii vv _ => (match ii with | 0 => vv = .slice (some ⟨q, 0, none⟩) 32 64 | 1 => vv = .pointer (some ⟨q, 0, none⟩) | 2 => vv = .agg (arr .u8 32 (SB)) | _ => True))
      (fun w w' => Below w.heap.size w w') (fun _ _ h => h) (fun _ _ _ _ h _ => h)
      (fun _ => w.heap.size) (fun _ => (arr .u8 32 (fun _ => 0))) (fun _ => (arr .u8 32 (SB)))
      (by intro i j _ _ hpi hpj hne; simp only [beq_iff_eq] at hpi hpj; omega)
      (by intro i _ hpi; exact (HZ2.out).row)
      ?_ ?_ ?_
    · refine Each.all ?_
      refine ⟨?_, ?_, ?_, (fun h => absurd h (by decide)), trivial⟩
      · intro _ a w2 hB hF hd
        rw [if_pos (wanted_none rfl)]
        exact flow_val (fun h => by cases h) (run_slice_part rfl (hF.same 3 rfl) (by simp only [Option.map_some, Option.map_none]; exact run_sliceAt_ptr_h (m := 32) Try.underlying24 Try.size5 (by decide))) rfl
      · intro _ a w2 hB hF hd
        rw [if_pos (wanted_none rfl)]
        exact flow_val (fun h => by cases h) (run_to_array rfl (hd 0 _ rfl rfl (waits_spec rfl)) Try.underlying26 (by decide)) rfl
      · intro _ a w2 hB hF hd
        rw [if_pos (wanted_none rfl)]
        exact flow_val (fun h => by cases h) (run_load_part rfl (hd 1 _ rfl rfl (waits_spec rfl)) Try.underlying26 Try.size26 (fun i hi => (hB.cell (p := ⟨q, 0 + i, none⟩) hql).trans (HC3.out i hi))) rfl
    · refine Each.all ?_
      refine ⟨(fun h => absurd h (by decide)), (fun h => absurd h (by decide)), (fun h => absurd h (by decide)), ?_, trivial⟩
      · intro _ a w1 w2 K hB hF hS hr hK
        exact wp_store_arr 26 _ _ rfl .u8 (w.heap.size) 32 (fun _ => 0) (SB) Try.size26 (hF.same 2 rfl) (hS 2 _ rfl rfl ) hr hK
    · intro a wf w4 hB hF hS hfil
      have other : ∀ {k : IntKind} {qb n : Nat} {f : Nat → Int}, qb ≠ w.heap.size → Arr k wf qb n f → Arr k w4 qb n f := fun {k qb n f} e0 hA => hfil.arr (by intro i _ hpi; simp only [Bool.or_eq_true, beq_iff_eq] at hpi; subst hpi <;> ((try simp only []); (try dsimp only); omega)) hA
      have belowT : ∀ {B : Nat} {w0 : World}, B ≤ w.heap.size → Below B w0 wf → Below B w0 w4 := fun {B w0} e0 hA => hfil.below (by intro i _ hpi; simp only [Bool.or_eq_true, beq_iff_eq] at hpi; subst hpi <;> ((try simp only []); (try dsimp only); omega)) hA
      have V3 : Arr .u8 w4 (w.heap.size) 32 (SB) := hfil.at 3 (by decide) rfl
      have hszf := hfil.size
      clear hfil
      have ha := puts_each rfl rfl hF [_, _, _, undef] rfl ⟨hS 0 _ rfl rfl, hS 1 _ rfl rfl, hS 2 _ rfl rfl, trivial, trivial⟩
      simp only [puts, Act.put, List.setIfInBounds_toArray, List.set_cons_succ, List.set_cons_zero] at ha
      subst ha
      clear hS hF
      have hb4 := belowT (by omega) (hb2.trans (hB.mono hb2.size))
      go_wp2
      exact bodyPost_ret (results_arr rfl _ _ .u8 w.heap.size 32 _ 5 rfl V3 Try.underlying26 Try.size26) rfl ⟨rfl, hb4⟩

theorem lit3_rd {w : World} {T : TypeId} : Rd .u8 (w.alloc (.cells [Value.int .u8 97, .int .u8 98, .int .u8 99].toArray T)) (.slice (some ⟨w.heap.size, 0, none⟩) 3 3) 3 abcF :=
  lit_rd rfl (by decide) fun i hi => by rcases (by omega : i = 0 ∨ i = 1 ∨ i = 2) with rfl | rfl | rfl <;> rfl
set_option maxRecDepth 100000 in
set_option maxHeartbeats 1600000 in
theorem shAwake_any (w : World) : Calls Try.prog 13 #[] w fun e w' => e = .returned (.bool true) ∧ Below w.heap.size w w' := by
  obtain ⟨SB, hSB⟩ : ∃ SB, SB = sumB 3 abcF := ⟨_, rfl⟩
  have HS := Lib.hid (fun v w (h : Txt w v 1 (fun _ => 3) (fun _ => abcF)) => sum1_any v 3 abcF w h (by decide) abcF_bound)
  have HSB : Hid (SB 0 = 221 ∧ SB 1 = 175 ∧ SB 2 = 53 ∧ SB 3 = 161) := by rw [hSB]; exact abc_four
  rw [← hSB] at HS
  clear hSB
  go_enter Try.func13, Try.ntmps13
  go_wp2_with fail
  refine (HS.out _ _ (by simpa using new1 (T := 22) (lit3_rd (w := w) (T := 5)) (Below.refl _ _))).mono ?_
  rintro e w2 ⟨rfl, hb2⟩
  have hbel : Below w.heap.size w w2 := (((Below.refl w.heap.size w).alloc (Nat.le_refl _) _).alloc (by simp) _).trans (hb2.mono (by simp; omega))
  clear hb2
  go_upto_region 2 with (refine store_arr rfl 24 _ _ rfl .u8 w2.heap.size 64 (fun _ => 0) SB Try.size24 rfl rfl (Arr.newAt rfl (by rfl)) ?_)
  refine wp_world (fun w3 => Arr .u8 w3 w2.heap.size 64 SB ∧ Below w.heap.size w w3) ⟨(Arr.newAt rfl (by rfl) : Arr .u8 _ _ 64 (fun _ => 0)).setRow _ _, below_setRow' (hbel.alloc hbel.size _) hbel.size _⟩ ?_
  rintro w3 ⟨hA, hb3⟩
  obtain ⟨q, hq⟩ : ∃ q, q = w2.heap.size := ⟨_, rfl⟩
  rw [← hq] at hA ⊢
  clear hq hbel
  refine region_flow (n := 23) (by kernel_rfl) (by kernel_rfl) (by kernel_rfl) rfl
    (fun ii vv _ => (match ii with | 0 => vv = .pointer (some ⟨q, 0, none⟩) | 1 => vv = .int .u8 (SB 0) | 2 | 3 | 6 | 7 | 8 | 11 | 12 | 13 | 16 | 17 | 18 => vv = .bool true | 4 => vv = .pointer (some ⟨q, 1, none⟩) | 5 => vv = .int .u8 (SB 1) | 9 => vv = .pointer (some ⟨q, 2, none⟩) | 10 => vv = .int .u8 (SB 2) | 14 => vv = .pointer (some ⟨q, 3, none⟩) | 15 => vv = .int .u8 (SB 3) | _ => True))
    (fun w w' => Below w.heap.size w w') (fun _ _ h => h) (fun _ _ _ _ h _ => h) ?_ ?_
  · refine Each.all ?_
    refine ⟨?_, ?_, ?_, ?_, ?_, ?_, ?_, ?_, ?_, ?_, ?_, ?_, ?_, ?_, ?_, ?_, ?_, ?_, ?_, trivial⟩
    · intro a w2 hB hF hd
      rw [if_pos (wanted_none rfl)]
      exact flow_val (fun h => by cases h) (run_index_addr rfl (hF.same 1 rfl) rfl Try.underlying24 (by kernel_rfl) (by decide) (by decide)) rfl
    · intro a w2 hB hF hd
      rw [if_pos (wanted_none rfl)]
      exact flow_val (fun h => by cases h) (run_load_cell rfl (hd 0 _ rfl (waits_spec rfl)) Try.underlying5 ((hA.kept hB).cell 0 (by decide))) rfl
    · intro a w2 hB hF hd
      rw [if_pos (wanted_none rfl)]
      refine flow_val (fun h => by cases h) (Go.Bas.run_eql_int rfl (hd 1 _ rfl (waits_spec rfl)) rfl) ?_
      exact congrArg Value.bool (by have := HSB.out; simp [this])
    · intro a w2 hB hF hd
      rw [if_pos (wanted_none rfl)]
      exact flow_move _ (.inl rfl) (by simp) (hd 2 _ rfl (waits_spec rfl))
    · intro a w2 hB hF hd
      refine flow_wanted (wanted_yes rfl rfl (hd 3 _ rfl (waits_spec rfl)) rfl) ?_
      exact flow_val (fun h => by cases h) (run_index_addr rfl (hF.same 1 rfl) rfl Try.underlying24 (by kernel_rfl) (by decide) (by decide)) rfl
    · intro a w2 hB hF hd
      refine flow_wanted (wanted_yes rfl rfl (hd 3 _ rfl (waits_spec rfl)) rfl) ?_
      exact flow_val (fun h => by cases h) (run_load_cell rfl (hd 4 _ rfl (waits_spec rfl)) Try.underlying5 ((hA.kept hB).cell 1 (by decide))) rfl
    · intro a w2 hB hF hd
      refine flow_wanted (wanted_yes rfl rfl (hd 3 _ rfl (waits_spec rfl)) rfl) ?_
      refine flow_val (fun h => by cases h) (Go.Bas.run_eql_int rfl (hd 5 _ rfl (waits_spec rfl)) rfl) ?_
      exact congrArg Value.bool (by have := HSB.out; simp [this])
    · intro a w2 hB hF hd
      rw [if_pos (wanted_none rfl)]
      exact flow_val (fun h => by cases h) (run_pick rfl (hd 3 _ rfl (waits_spec rfl))) ((hd 6 _ rfl (waits_spec rfl)))
    · intro a w2 hB hF hd
      rw [if_pos (wanted_none rfl)]
      exact flow_move _ (.inl rfl) (by simp) (hd 7 _ rfl (waits_spec rfl))
    · intro a w2 hB hF hd
      refine flow_wanted (wanted_yes rfl rfl (hd 8 _ rfl (waits_spec rfl)) rfl) ?_
      exact flow_val (fun h => by cases h) (run_index_addr rfl (hF.same 1 rfl) rfl Try.underlying24 (by kernel_rfl) (by decide) (by decide)) rfl
    · intro a w2 hB hF hd
      refine flow_wanted (wanted_yes rfl rfl (hd 8 _ rfl (waits_spec rfl)) rfl) ?_
      exact flow_val (fun h => by cases h) (run_load_cell rfl (hd 9 _ rfl (waits_spec rfl)) Try.underlying5 ((hA.kept hB).cell 2 (by decide))) rfl
    · intro a w2 hB hF hd
      refine flow_wanted (wanted_yes rfl rfl (hd 8 _ rfl (waits_spec rfl)) rfl) ?_
      refine flow_val (fun h => by cases h) (Go.Bas.run_eql_int rfl (hd 10 _ rfl (waits_spec rfl)) rfl) ?_
      exact congrArg Value.bool (by have := HSB.out; simp [this])
    · intro a w2 hB hF hd
      rw [if_pos (wanted_none rfl)]
      exact flow_val (fun h => by cases h) (run_pick rfl (hd 8 _ rfl (waits_spec rfl))) ((hd 11 _ rfl (waits_spec rfl)))
    · intro a w2 hB hF hd
      rw [if_pos (wanted_none rfl)]
      exact flow_move _ (.inl rfl) (by simp) (hd 12 _ rfl (waits_spec rfl))
    · intro a w2 hB hF hd
      refine flow_wanted (wanted_yes rfl rfl (hd 13 _ rfl (waits_spec rfl)) rfl) ?_
      exact flow_val (fun h => by cases h) (run_index_addr rfl (hF.same 1 rfl) rfl Try.underlying24 (by kernel_rfl) (by decide) (by decide)) rfl
    · intro a w2 hB hF hd
      refine flow_wanted (wanted_yes rfl rfl (hd 13 _ rfl (waits_spec rfl)) rfl) ?_
      exact flow_val (fun h => by cases h) (run_load_cell rfl (hd 14 _ rfl (waits_spec rfl)) Try.underlying5 ((hA.kept hB).cell 3 (by decide))) rfl
    · intro a w2 hB hF hd
      refine flow_wanted (wanted_yes rfl rfl (hd 13 _ rfl (waits_spec rfl)) rfl) ?_
      refine flow_val (fun h => by cases h) (Go.Bas.run_eql_int rfl (hd 15 _ rfl (waits_spec rfl)) rfl) ?_
      exact congrArg Value.bool (by have := HSB.out; simp [this])
    · intro a w2 hB hF hd
      rw [if_pos (wanted_none rfl)]
      exact flow_val (fun h => by cases h) (run_pick rfl (hd 13 _ rfl (waits_spec rfl))) ((hd 16 _ rfl (waits_spec rfl)))
    · intro a w2 hB hF hd
      rw [if_pos (wanted_none rfl)]
      exact flow_move _ (.inr rfl) (by simp) (hd 17 _ rfl (waits_spec rfl))
  · intro a w4 hB hF hS
    have ha := puts_each rfl rfl hF [_, _, _, _, _, _, _, _, _, _, _, _, _, _, _, _, _, _, _] rfl ⟨hS 0 _ rfl, hS 1 _ rfl, hS 2 _ rfl, hS 3 _ rfl, hS 4 _ rfl, hS 5 _ rfl, hS 6 _ rfl, hS 7 _ rfl, hS 8 _ rfl, hS 9 _ rfl, hS 10 _ rfl, hS 11 _ rfl, hS 12 _ rfl, hS 13 _ rfl, hS 14 _ rfl, hS 15 _ rfl, hS 16 _ rfl, hS 17 _ rfl, hS 18 _ rfl, trivial⟩
    simp only [puts, Act.put, List.setIfInBounds_toArray, List.set_cons_succ, List.set_cons_zero] at ha
    subst ha
    clear hS hF
    have hb4 := hb3.trans (hB.mono hb3.size)
    go_wp2
    go_ret
    exact ⟨rfl, hb4⟩
end Go.Proofs.Ytgobodhcamgidaa
