/-
  sha.above: what it answers. Conditions: named in each theorem.
-/
import Derived.Test.YtgobodhcamgidaaRt3
import Derived.Test.YtgobodhcamgidaaTxt
import Derived.Test.YtgobodhcamgidaaRow
set_option linter.unusedVariables false
set_option linter.unusedSimpArgs false
namespace Go.Bas
/-- two words are a number's digits. -/
theorem two_digits {u v : Int} (hu : 0 ≤ u ∧ u < M64) (hv : 0 ≤ v ∧ v < M64) :
    dg 18446744073709551616 (u * M64 + v) 0 = v ∧ dg 18446744073709551616 (u * M64 + v) 1 = u ∧ 0 ≤ u * M64 + v ∧ u * M64 + v < 18446744073709551616 ^ 2 := by
  unfold dg M64 at *
  simp only [Int.pow_zero, Int.ediv_one, Int.pow_one]
  omega
end Go.Bas
namespace Go.Proofs.Ytgobodhcamgidaa
open Go.RowKit Go.Bas
attribute [local go_sem ↓] Go.wp_at_zero Go.wp_at_succ
theorem Try.sizeW2 : (Try.prog.info? 106).map (·.size) = some 2 := by kernel_rfl

theorem product_rd (va vb : Value) (la lb : Nat) (A B : Int) (hA : 0 ≤ A ∧ A < 18446744073709551616 ^ la) (hB : 0 ≤ B ∧ B < 18446744073709551616 ^ lb) (l1 : la ≤ 10) (l2 : 1 ≤ lb) (l3 : lb ≤ 10) (w : World)
    (ha : Rd .u64 w va la (dg 18446744073709551616 A)) (hb : Rd .u64 w vb lb (dg 18446744073709551616 B)) :
    Calls Try.prog 75 #[va, vb] w fun e w' => ∃ v, e = .returned v ∧ Rd .u64 w' v (la + lb) (dg 18446744073709551616 (A * B)) ∧ Below w.heap.size w w' :=
  (product_any va vb la lb A B hA hB l1 l2 l3 w ha hb).mono fun _ _ ⟨v, h1, h2, h3⟩ => ⟨v, h1, h2.rd, h3⟩
theorem greater_bel (v : Value) (n e : Nat) (p X : Int) (hn : n ≤ 1000) (he : e + 1 ≤ n) (hp : 0 ≤ p ∧ p < 18446744073709551616) (hX : 0 ≤ X ∧ X < 18446744073709551616 ^ n) (w : World) (hv : Rd .u64 w v n (dg 18446744073709551616 X)) :
    Calls Try.prog 76 #[v, .int .u64 p, .int .i64 e] w fun e' w' => e' = .returned (.bool (gtN 18446744073709551616 p e X)) ∧ Below w.heap.size w w' :=
  (greater_any v n e p X hn he hp hX w hv).mono fun _ _ ⟨h1, h2⟩ => ⟨h1, h2 ▸ Below.refl _ _⟩

set_option maxRecDepth 100000 in
set_option maxHeartbeats 3200000 in
theorem sAbove_any (u v p : Int) (k : Nat) (hk : k = 2 ∨ k = 3) (hu : 0 ≤ u ∧ u < M64) (hv : 0 ≤ v ∧ v < M64) (p0 : 0 ≤ p) (p1 : p ≤ 500) (w : World) :
    Calls Try.prog 53 #[.int .u64 u, .int .u64 v, .int .i64 p, .int .i64 k] w fun e w' => e = .returned (.bool (gtN 18446744073709551616 p k ((u * M64 + v) ^ k))) ∧ Below w.heap.size w w' := by
  obtain ⟨t0, t1, n0, n1⟩ := two_digits hu hv
  obtain ⟨N, hN⟩ : ∃ N, N = u * M64 + v := ⟨_, rfl⟩
  rw [← hN] at t0 t1 n0 n1 ⊢
  have hb2 := mulw_bound (la := 2) (lb := 2) ⟨n0, n1⟩ ⟨n0, n1⟩
  have hb3 := mulw_bound (la := 4) (lb := 2) hb2 ⟨n0, n1⟩
  have HP2 := Lib.hid (fun va vb w h1 h2 => product_rd va vb 2 2 N N ⟨n0, n1⟩ ⟨n0, n1⟩ (by decide) (by decide) (by decide) w h1 h2)
  have HP3 := Lib.hid (fun va vb w h1 h2 => product_rd va vb 4 2 (N * N) N hb2 ⟨n0, n1⟩ (by decide) (by decide) (by decide) w h1 h2)
  have HG2 := Lib.hid (fun v w h => greater_bel v 4 2 p (N * N) (by decide) (by decide) ⟨p0, by omega⟩ hb2 w h)
  have HG3 := Lib.hid (fun v w h => greater_bel v 6 3 p (N * N * N) (by decide) (by decide) ⟨p0, by omega⟩ hb3 w h)
  have e2 : gtN 18446744073709551616 p 2 (N * N) = gtN 18446744073709551616 p 2 (N ^ 2) := by rw [Int.pow_succ, Int.pow_succ, Int.pow_zero, Int.one_mul]
  have e3 : gtN 18446744073709551616 p 3 (N * N * N) = gtN 18446744073709551616 p 3 (N ^ 3) := by rw [Int.pow_succ, Int.pow_succ, Int.pow_succ, Int.pow_zero, Int.one_mul]
  rw [e2] at HG2
  rw [e3] at HG3
  obtain ⟨g, hg⟩ : ∃ g, g = dg 18446744073709551616 N := ⟨_, rfl⟩
  obtain ⟨g2, hg2⟩ : ∃ g, g = dg 18446744073709551616 (N * N) := ⟨_, rfl⟩
  obtain ⟨g3, hg3⟩ : ∃ g, g = dg 18446744073709551616 (N * N * N) := ⟨_, rfl⟩
  rw [← hg, ← hg2] at HP2
  rw [← hg, ← hg2, ← hg3] at HP3
  rw [← hg2] at HG2
  rw [← hg3] at HG3
  rw [← hg] at t0 t1
  have HT : Hid (g 0 = v ∧ g 1 = u) := ⟨t0, t1⟩
  obtain ⟨G2, hG2⟩ : ∃ G2, G2 = gtN 18446744073709551616 p 2 (N ^ 2) := ⟨_, rfl⟩
  obtain ⟨G3, hG3⟩ : ∃ G3, G3 = gtN 18446744073709551616 p 3 (N ^ 3) := ⟨_, rfl⟩
  rw [← hG2] at HG2
  rw [← hG3] at HG3
  obtain ⟨G, hG⟩ : ∃ G, G = gtN 18446744073709551616 p k (N ^ k) := ⟨_, rfl⟩
  rw [← hG]
  have HK : Hid ((k = 2 → G = G2) ∧ (k = 3 → G = G3)) := ⟨fun h => by subst h; rw [hG, hG2], fun h => by subst h; rw [hG, hG3]⟩
  have hlit : #[Value.int .u64 v, .int .u64 u] = arr .u64 2 g := by unfold arr vals; simp [List.range_succ, HT.out.1, HT.out.2]
  have HL := Lib.hid hlit
  clear t0 t1 n0 n1 hb2 hb3 e2 e3 hg hg2 hg3 hG2 hG3 hG hu hv hN hlit
  go_enter Try.func53, Try.ntmps53
  go_upto_region 2 with (fail)
  refine wp_world (fun w1 => Arr .u64 w1 w.heap.size 2 g ∧ Below w.heap.size w w1) ⟨Arr.newAt rfl HL.out, (Below.refl _ _).alloc (Nat.le_refl _) _⟩ ?_
  rintro w1 ⟨hA, hb1⟩
  obtain ⟨q, hq⟩ : ∃ q, q = w.heap.size := ⟨_, rfl⟩
  rw [← hq] at hA
  have hql := hA.lt
  rw [show (w.heap.size : Nat) = q from hq.symm]
  clear hq HL HT
  refine region_flow (n := 29) (by kernel_rfl) (by kernel_rfl) (by kernel_rfl) rfl
    (fun ii vv ww => (match ii with | 0 | 1 => vv = .slice (some ⟨q, 0, none⟩) 2 2 | _ => True) ∧ (ii = 2 → Rd .u64 ww vv (2 + 2) (g2)) ∧ (ii = 3 → Rd .u64 ww vv (2 + 2) (g2)))
    (fun w w' => Below w.heap.size w w') (fun _ _ h => h) (fun i v w w' h hE => ⟨h.1, fun e => Rd.below (h.2.1 e) hE, fun e => Rd.below (h.2.2 e) hE⟩) ?_ ?_
  · refine Each.all ?_
    refine ⟨?_, ?_, ?_, ?_, trivial⟩
    · intro a w2 hB hF hd
      rw [if_pos (wanted_none rfl)]
      exact flow_val (fun h => by cases h) (run_slice_arr rfl (hF.same 9 rfl) Try.underlying106 (by kernel_rfl)) ⟨rfl, fun h => absurd h (by decide), fun h => absurd h (by decide)⟩
    · intro a w2 hB hF hd
      rw [if_pos (wanted_none rfl)]
      exact flow_val (fun h => by cases h) (run_slice_arr rfl (hF.same 9 rfl) Try.underlying106 (by kernel_rfl)) ⟨rfl, fun h => absurd h (by decide), fun h => absurd h (by decide)⟩
    · intro a w2 hB hF hd
      rw [if_pos (wanted_none rfl)]
      refine flow_call _ _ _ rfl Try.call75 _ (args2 ((hd 0 _ rfl (waits_spec rfl)).1) ((hd 1 _ rfl (waits_spec rfl)).1)) (by simp) ((HP2.out _ _ _ ((hA.kept hB).rd (by decide)) ((hA.kept hB).rd (by decide))).mono ?_)
      rintro e w3 ⟨u, rfl, hr, hb⟩; exact ⟨u, rfl, ⟨trivial, fun _ => hr, fun h => absurd h (by decide)⟩, hb⟩
    · intro a w2 hB hF hd
      rw [if_pos (wanted_none rfl)]
      exact flow_move _ (.inr rfl) (by simp) ⟨trivial, fun h => absurd h (by decide), fun _ => ((hd 2 _ rfl (waits_spec rfl)).2.1 rfl)⟩
  · intro a w2 hB hF hS
    obtain ⟨x16, hx16⟩ : ∃ x, x = a.tmps.getD 16 undef := ⟨_, rfl⟩
    have P16 : Rd .u64 w2 x16 (2 + 2) (g2) := by rw [hx16]; exact (hS 2 _ rfl).2.1 rfl
    obtain ⟨x10, hx10⟩ : ∃ x, x = a.tmps.getD 10 undef := ⟨_, rfl⟩
    have P10 : Rd .u64 w2 x10 (2 + 2) (g2) := by rw [hx10]; exact (hS 3 _ rfl).2.2 rfl
    have ha := puts_each rfl rfl hF [_, _, x16, x10] rfl ⟨(hS 0 _ rfl).1, (hS 1 _ rfl).1, hx16.symm, hx10.symm, trivial⟩
    simp only [puts, Act.put, List.setIfInBounds_toArray, List.set_cons_succ, List.set_cons_zero] at ha
    subst ha
    clear hx16 hx10
    clear hS hF
    have hb2 := hb1.trans (hB.mono hb1.size)
    have hA2 := hA.kept hB
    have HP := Lib.hid P10
    have U := Lib.hid (show IntKind.u64.wrap p = p from wrap_u64_id p0 (by omega))
    clear hA hb1 hB P10 P16 HP2 hql
    rcases hk with rfl | rfl
    · have HGG := Lib.hid (HK.out.1 rfl)
      go_upto_region 4 with (fail)
      refine region_flow (n := 29) (by kernel_rfl) (by kernel_rfl) (by kernel_rfl) rfl
        (fun ii vv _ => (match ii with | 0 => vv = x10 | 1 => vv = .int .i64 (p) | 2 => vv = .int .u64 (p) | 3 | 4 => vv = .bool G2 | _ => True))
        (fun w w' => Below w.heap.size w w') (fun _ _ h => h) (fun _ _ _ _ h _ => h) ?_ ?_
      · refine Each.all ?_
        refine ⟨?_, ?_, ?_, ?_, ?_, trivial⟩
        · intro a w2 hB hF hd
          rw [if_pos (wanted_none rfl)]
          exact flow_move _ (.inl rfl) (by simp) (hF.same 10 rfl)
        · intro a w2 hB hF hd
          rw [if_pos (wanted_none rfl)]
          exact flow_move _ (.inl rfl) (by simp) (hF.same 2 rfl)
        · intro a w2 hB hF hd
          rw [if_pos (wanted_none rfl)]
          exact flow_val (fun h => by cases h) (run_conv rfl (hd 1 _ rfl (waits_spec rfl)) Try.underlying3 Try.underlying36) (congrArg (Value.int .u64) (U.out))
        · intro a w2 hB hF hd
          rw [if_pos (wanted_none rfl)]
          refine flow_call _ _ _ rfl Try.call76 _ (args3 (hd 0 _ rfl (waits_spec rfl)) (hd 2 _ rfl (waits_spec rfl)) rfl) (by simp) ((HG2.out _ _ (HP.out.below hB)).mono ?_)
          rintro e w3 ⟨rfl, hb⟩; exact ⟨_, rfl, rfl, hb⟩
        · intro a w2 hB hF hd
          rw [if_pos (wanted_none rfl)]
          exact flow_move _ (.inr rfl) (by simp) (hd 3 _ rfl (waits_spec rfl))
      · intro a w3 hB hF hS
        have ha := puts_each rfl rfl hF [_, _, _, _, _] rfl ⟨hS 0 _ rfl, hS 1 _ rfl, hS 2 _ rfl, hS 3 _ rfl, hS 4 _ rfl, trivial⟩
        simp only [puts, Act.put, List.setIfInBounds_toArray, List.set_cons_succ, List.set_cons_zero] at ha
        subst ha
        clear hS hF
        have hb3 := hb2.trans (hB.mono hb2.size)
        clear hB
        go_wp2
        go_ret
        exact ⟨by rw [HGG.out]; rfl, hb3⟩
    · have HGG := Lib.hid (HK.out.2 rfl)
      go_upto_region 5 with (fail)
      refine region_flow (n := 29) (by kernel_rfl) (by kernel_rfl) (by kernel_rfl) rfl
        (fun ii vv ww => (match ii with | 0 => vv = x10 | 1 => vv = .slice (some ⟨q, 0, none⟩) 2 2 | 3 => vv = .int .i64 (p) | 4 => vv = .int .u64 (p) | 5 | 6 => vv = .bool G3 | _ => True) ∧ (ii = 2 → Rd .u64 ww vv (4 + 2) (g3)))
        (fun w w' => Below w.heap.size w w') (fun _ _ h => h) (fun i v w w' h hE => ⟨h.1, fun e => Rd.below (h.2 e) hE⟩) ?_ ?_
      · refine Each.all ?_
        refine ⟨?_, ?_, ?_, ?_, ?_, ?_, ?_, trivial⟩
        · intro a w2 hB hF hd
          rw [if_pos (wanted_none rfl)]
          exact flow_move _ (.inl rfl) (by simp) ⟨(hF.same 10 rfl), fun h => absurd h (by decide)⟩
        · intro a w2 hB hF hd
          rw [if_pos (wanted_none rfl)]
          exact flow_val (fun h => by cases h) (run_slice_arr rfl (hF.same 9 rfl) Try.underlying106 (by kernel_rfl)) ⟨rfl, fun h => absurd h (by decide)⟩
        · intro a w2 hB hF hd
          rw [if_pos (wanted_none rfl)]
          refine flow_call _ _ _ rfl Try.call75 _ (args2 ((hd 0 _ rfl (waits_spec rfl)).1) ((hd 1 _ rfl (waits_spec rfl)).1)) (by simp) ((HP3.out _ _ _ (HP.out.below hB) ((hA2.kept hB).rd (by decide))).mono ?_)
          rintro e w3 ⟨u, rfl, hr, hb⟩; exact ⟨u, rfl, ⟨trivial, fun _ => hr⟩, hb⟩
        · intro a w2 hB hF hd
          rw [if_pos (wanted_none rfl)]
          exact flow_move _ (.inl rfl) (by simp) ⟨(hF.same 2 rfl), fun h => absurd h (by decide)⟩
        · intro a w2 hB hF hd
          rw [if_pos (wanted_none rfl)]
          exact flow_val (fun h => by cases h) (run_conv rfl ((hd 3 _ rfl (waits_spec rfl)).1) Try.underlying3 Try.underlying36) ⟨(congrArg (Value.int .u64) (U.out)), fun h => absurd h (by decide)⟩
        · intro a w2 hB hF hd
          rw [if_pos (wanted_none rfl)]
          refine flow_call _ _ _ rfl Try.call76 _ (args3 rfl ((hd 4 _ rfl (waits_spec rfl)).1) rfl) (by simp) ((HG3.out _ _ ((hd 2 _ rfl (waits_spec rfl)).2 rfl)).mono ?_)
          rintro e w3 ⟨rfl, hb⟩; exact ⟨_, rfl, ⟨rfl, fun h => absurd h (by decide)⟩, hb⟩
        · intro a w2 hB hF hd
          rw [if_pos (wanted_none rfl)]
          exact flow_move _ (.inr rfl) (by simp) ⟨((hd 5 _ rfl (waits_spec rfl)).1), fun h => absurd h (by decide)⟩
      · intro a w3 hB hF hS
        obtain ⟨x25, hx25⟩ : ∃ x, x = a.tmps.getD 25 undef := ⟨_, rfl⟩
        have ha := puts_each rfl rfl hF [_, _, x25, _, _, _, _] rfl ⟨(hS 0 _ rfl).1, (hS 1 _ rfl).1, hx25.symm, (hS 3 _ rfl).1, (hS 4 _ rfl).1, (hS 5 _ rfl).1, (hS 6 _ rfl).1, trivial⟩
        simp only [puts, Act.put, List.setIfInBounds_toArray, List.set_cons_succ, List.set_cons_zero] at ha
        subst ha
        clear hx25
        clear hS hF
        have hb3 := hb2.trans (hB.mono hb2.size)
        clear hB
        go_wp2
        go_ret
        exact ⟨by rw [HGG.out]; rfl, hb3⟩
end Go.Proofs.Ytgobodhcamgidaa
