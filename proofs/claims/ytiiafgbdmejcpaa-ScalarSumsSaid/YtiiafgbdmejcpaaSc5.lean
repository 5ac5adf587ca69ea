/-
  scalar.Add: the sum modulo the order. Conditions: named in each theorem.
-/
import Derived.Test.YtiiafgbdmejcpaaSc4
namespace Go.Proofs.Ytiiafgbdmejcpaa
open Go.RowKit Go.Bas
attribute [local go_sem ↓] Go.wp_at_zero Go.wp_at_succ

/-- the carry into digit k of a sum. -/
def carS (X Y : Int) (k : Nat) : Int := (X + Y) / 65536 ^ k - X / 65536 ^ k - Y / 65536 ^ k
theorem carS_zero (X Y : Int) : carS X Y 0 = 0 := by simp [carS]; omega
theorem carS_step (X Y : Int) (k : Nat) : (dg 65536 X k + dg 65536 Y k + carS X Y k) % 65536 = dg 65536 (X + Y) k ∧ (dg 65536 X k + dg 65536 Y k + carS X Y k) / 65536 = carS X Y (k + 1) := by
  unfold carS dg
  rw [div_succ (by decide) X, div_succ (by decide) Y, div_succ (by decide) (X + Y)]
  omega
theorem once_sum (A B : Int) : once (A % Q + B % Q) = (A + B) % Q := by
  unfold once Q
  split <;> omega
theorem modQ (A : Int) : 0 ≤ A % Q ∧ A % Q < Q := ⟨Int.emod_nonneg _ (by decide), Int.emod_lt_of_pos _ (by decide)⟩
theorem modQ_byte (A : Int) : 0 ≤ A % Q ∧ A % Q < 256 ^ 32 := ⟨(modQ A).1, Int.lt_trans (modQ A).2 (by decide)⟩
theorem sum_bound (A B : Int) : 0 ≤ A % Q + B % Q ∧ A % Q + B % Q < 65536 ^ 17 := by
  have h1 := modQ A
  have h2 := modQ B
  have h3 : Q + Q < 65536 ^ 17 := by decide
  omega

set_option maxRecDepth 100000 in
set_option maxHeartbeats 1600000 in
theorem Add_any (A B : Int) (w : World) (hA : 0 ≤ A ∧ A < 256 ^ 32) (hB : 0 ≤ B ∧ B < 256 ^ 32) :
    Calls Try.prog 44 #[.agg (arr .u8 32 (dg 256 A)), .agg (arr .u8 32 (dg 256 B))] w fun e w' =>
      e = .returned (.agg (arr .u8 32 (dg 256 ((A + B) % Q)))) ∧ Below w.heap.size w w' := by
  have HA := Lib.hid hA
  have HB := Lib.hid hB
  clear hA hB
  go_enter Try.func44, Try.ntmps44
  go_wp2
  refine wp_world (fun w1 => Arr .u8 w1 w.heap.size 32 (dg 256 A) ∧ Arr .u8 w1 (w.heap.size + 1) 32 (dg 256 B) ∧ Arr .u8 w1 (w.heap.size + 2) 32 (fun _ => 0) ∧ Below w.heap.size w w1)
    ⟨Arr.alloc (Arr.alloc (Arr.newAt (by first | omega | (simp <;> omega)) (by rfl)) _) _, Arr.alloc (Arr.newAt (by first | omega | (simp <;> omega)) (by rfl)) _, Arr.newAt (by first | omega | (simp <;> omega)) (by rfl), (((Below.refl _ _).alloc (Nat.le_refl _) _).alloc (by simp) _).alloc (by simp; omega) _⟩ ?_
  rintro w1 ⟨hA, hB', hZ, hbel⟩
  refine region_vars (n := 36) (by kernel_rfl) (by kernel_rfl) (by kernel_rfl) rfl
    (fun i v _ => (match i with | 0 => v = .slice (some ⟨w.heap.size, 0, none⟩) 32 32 | 1 => v = .agg (arr .u32 17 (dg 65536 (A % Q))) | 2 => v = .slice (some ⟨(w.heap.size + 1), 0, none⟩) 32 32 | 3 => v = .agg (arr .u32 17 (dg 65536 (B % Q))) | _ => True))
    (fun _ _ => True) (fun _ _ _ => trivial) (fun _ _ _ _ => trivial) (fun _ _ _ _ h _ => h)
    (isAl [(6, 4), (7, 5)]) (putOf [(6, 4), (7, 5)]) (fun _ => arr .u32 17 (fun _ => 0)) (fun i => match i with | 4 => (arr .u32 17 (dg 65536 (A % Q))) | 5 => (arr .u32 17 (dg 65536 (B % Q))) | _ => #[]) (fun _ => 91) (fun i => match i with | 4 => 5 | 5 => 6 | _ => 0)
    (vs_al rfl) (vs_inj rfl) ?_ ?_ ?_ ?_
  · refine Each.all ?_
    refine ⟨?_, ?_, ?_, ?_, (fun h => by cases h), (fun h => by cases h), (fun _ h => by cases h), (fun _ h => by cases h), trivial⟩
    · intro _ _ a w2 hB hF hd
      rw [if_pos (wanted_none rfl)]
      exact flow_val (fun h => by cases h) (run_slice_arr rfl (hF.same 2 rfl) Try.underlying38 (by kernel_rfl)) rfl
    · intro _ _ a w2 hB hF hd
      rw [if_pos (wanted_none rfl)]
      refine flow_call _ _ _ rfl Try.call57 _ (args1 (hd 0 _ rfl rfl rfl (waits_spec rfl))) (by simp) ((taken_num _ A 32 w2 ((hA.below hB hA.lt).rd (by decide)) (by decide) HA.out).mono ?_)
      rintro e w3 ⟨rfl, hb⟩; exact ⟨_, rfl, rfl, hb⟩
    · intro _ _ a w2 hB hF hd
      rw [if_pos (wanted_none rfl)]
      exact flow_val (fun h => by cases h) (run_slice_arr rfl (hF.same 3 rfl) Try.underlying38 (by kernel_rfl)) rfl
    · intro _ _ a w2 hB hF hd
      rw [if_pos (wanted_none rfl)]
      refine flow_call _ _ _ rfl Try.call57 _ (args1 (hd 2 _ rfl rfl rfl (waits_spec rfl))) (by simp) ((taken_num _ B 32 w2 ((hB'.below hB hB'.lt).rd (by decide)) (by decide) HB.out).mono ?_)
      rintro e w3 ⟨rfl, hb⟩; exact ⟨_, rfl, rfl, hb⟩
  · refine Each.all ?_
    refine ⟨(fun h => by cases h), (fun h => by cases h), (fun h => by cases h), (fun h => by cases h), ?_, ?_, (fun h => by cases h), (fun h => by cases h), trivial⟩
    · exact fun _ => ⟨rfl, rfl, fun a w2 K h => flow_alloc rfl rfl Try.zeroValue91 (by simp) h⟩
    · exact fun _ => ⟨rfl, rfl, fun a w2 K h => flow_alloc rfl rfl Try.zeroValue91 (by simp) h⟩
  · refine Each.all ?_
    refine ⟨(fun _ h => by cases h), (fun _ h => by cases h), (fun _ h => by cases h), (fun _ h => by cases h), (fun _ h => by cases h), (fun _ h => by cases h), ?_, ?_, trivial⟩
    · intro p hp
      obtain rfl : 4 = p := Option.some.inj hp
      exact ⟨rfl, rfl, ⟨_, rfl⟩, waits_spec rfl, fun a w2 b K hB hF hd hx hb h => flow_put rfl rfl Try.size91 hx (hd 1 _ rfl rfl rfl (waits_spec rfl)) hb h⟩
    · intro p hp
      obtain rfl : 5 = p := Option.some.inj hp
      exact ⟨rfl, rfl, ⟨_, rfl⟩, waits_spec rfl, fun a w2 b K hB hF hd hx hb h => flow_put rfl rfl Try.size91 hx (hd 3 _ rfl rfl rfl (waits_spec rfl)) hb h⟩
  · intro a w2 blk hB hF hS hv hfin hdis
    obtain ⟨v4, v4l, v4u⟩ := hv 4 _ rfl rfl
    obtain ⟨v5, v5l, v5u⟩ := hv 5 _ rfl rfl
    have ha := puts_each rfl rfl hF [_, _, _, _, _, _, undef, undef] rfl ⟨hS 0 _ rfl rfl rfl, hS 1 _ rfl rfl rfl, hS 2 _ rfl rfl rfl, hS 3 _ rfl rfl rfl, v4, v5, trivial, trivial, trivial⟩
    have f4 := hfin 6 _ 4 rfl rfl
    have f5 := hfin 7 _ 5 rfl rfl
    have d4_5 := hdis 4 5 _ _ rfl rfl rfl rfl (by decide)
    simp only [puts, Act.put, List.setIfInBounds_toArray, List.set_cons_succ, List.set_cons_zero] at ha
    subst ha
    have V4 : Arr .u32 w2 (blk 4) 17 (dg 65536 (A % Q)) := ⟨_, f4⟩
    have V5 : Arr .u32 w2 (blk 5) 17 (dg 65536 (B % Q)) := ⟨_, f5⟩
    clear hS hv hfin hdis hF v4 v5 f4 f5
    have hA2 := hA.below hB hA.lt
    have hZ2 := hZ.below hB hZ.lt
    have hZlt := hZ.lt
    have hb2 := hbel.trans (hB.mono hbel.size)
    have hs1 := hbel.size
    obtain ⟨x, hx⟩ : ∃ x, x = blk 4 := ⟨_, rfl⟩
    obtain ⟨y, hy⟩ : ∃ y, y = blk 5 := ⟨_, rfl⟩
    rw [← hx] at V4 d4_5 v4l v4u ⊢
    rw [← hy] at V5 d4_5 v5l v5u ⊢
    clear hx hy hA hB' hZ hB hbel hA2
    have hxy : x ≠ y := d4_5
    go_wp2
    go_loopw [7, 14] (fun c i wr => ∃ (k : Nat) (z : Int), k ≤ 17 ∧ z = carS (A % Q) (B % Q) k ∧ 0 ≤ z ∧ z ≤ 1 ∧ c = .int .u32 z ∧ i = .int .i64 k ∧ Arr .u32 wr x 17 (upto k (dg 65536 (A % Q + B % Q)) (dg 65536 (A % Q))) ∧ Arr .u32 wr y 17 (dg 65536 (B % Q)) ∧ Arr .u8 wr (w.heap.size + 2) 32 (fun _ => 0) ∧ Below w.heap.size w wr) (fun _ i _ => 17 - (intOf i).toNat)
    case atStart => exact ⟨0, 0, Nat.zero_le _, (carS_zero _ _).symm, by decide, by decide, rfl, rfl, by rw [upto_zero]; exact V4, V5, hZ2, hb2⟩
    case round =>
      obtain ⟨k, z, hk, hc, hc0, hc1, rfl, rfl, hX, hY, hZ, hbel⟩ := hrel
      have HC := Lib.hid hc
      clear hc
      by_cases hlt : k < 17
      · have e1 := hX.cell k hlt
        rw [upto_at] at e1
        have e2 := hY.cell k hlt
        have f1 := hX.free k
        have HX := Lib.hid hX
        have HY := Lib.hid hY
        have HZ := Lib.hid hZ
        obtain ⟨b0, b1⟩ := dg_bound (by decide : (0 : Int) < 65536) (A % Q) k
        obtain ⟨b2, b3⟩ := dg_bound (by decide : (0 : Int) < 65536) (B % Q) k
        have hand := and16_u32 (x := dg 65536 (A % Q) k + dg 65536 (B % Q) k + z) (by omega) (by omega)
        have hst := carS_step (A % Q) (B % Q) k
        rw [← HC.out] at hst
        obtain ⟨s1, s2⟩ := hst
        have S1 := Lib.hid s1
        have S2 := Lib.hid s2
        have hw1 := wrap_u32_id (x := dg 65536 (A % Q) k + dg 65536 (B % Q) k) (by omega) (by omega)
        have hw2 := wrap_u32_id (x := dg 65536 (A % Q) k + dg 65536 (B % Q) k + z) (by omega) (by omega)
        clear hX hY hZ s1 s2
        go_wp2
        go_quiet (fail)
        go_wp2
        go_roundw
        case rel => exact ⟨k + 1, _, by omega, S2.out, by omega, by omega, rfl, by go_num, by rw [← upto_step S1.out]; exact (HX.out.drewN _).set k _, (HY.out.drewN _).other (by first | omega | (simp <;> omega)) _, (HZ.out.drewN _).other (by first | omega | (simp <;> omega)) _, (below_drewN hbel _).setCell (by first | omega | (simp <;> omega)) _⟩
        case measure => simp [intOf] <;> omega
      · obtain rfl : k = 17 := by omega
        go_wp2_with (refine load_arr rfl 91 _ rfl .u32 x 17 _ 40 Try.underlying91 Try.size91 rfl hX ?_)
        rw [arr_congr (upto_full _ _ (Nat.le_refl _))]
        refine (once_any _ _ (sum_bound A B)).mono ?_
        rintro e w3 ⟨rfl, hb3⟩
        go_wp2_with fail
        refine (bytes_any _ _).mono ?_
        rintro e w4 ⟨rfl, hb4⟩
        have hZ4 := (hZ.kept hb3).kept hb4
        have hb5 := hbel.trans ((hb3.mono hbel.size).trans (hb4.mono (Nat.le_trans hbel.size hb3.size)))
        clear hb3 hb4 hX hY hZ
        go_wp2_with (refine store_arr rfl 38 _ _ rfl .u8 (w.heap.size + 2) 32 (fun _ => 0) _ Try.size38 rfl rfl hZ4 ?_)
        refine bodyPost_ret (results_arr rfl _ _ .u8 (w.heap.size + 2) 32 _ 5 rfl (hZ4.setRow _ _) Try.underlying38 Try.size38) rfl ⟨by rw [once_sum], below_setRow' hb5 (by omega) _⟩
end Go.Proofs.Ytiiafgbdmejcpaa
