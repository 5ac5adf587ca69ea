/-
  scalar.Mul, MulAdd: the product modulo the order. Conditions: named in each theorem.
-/
import Derived.Test.YtiiafgbdmejcpaaSc6
namespace Go.Proofs.Ytiiafgbdmejcpaa
open Go.RowKit Go.Bas
attribute [local go_sem ↓] Go.wp_at_zero Go.wp_at_succ
theorem Try.size98 : (Try.prog.info? 98).map (·.size) = some 34 := by kernel_rfl
theorem Try.size72 : (Try.prog.info? 72).map (·.size) = some 1 := by kernel_rfl
theorem Try.size99 : (Try.prog.info? 99).map (·.size) = some 68 := by kernel_rfl

theorem sm_upd (B : Int) (f : Nat → Int) (p : Nat) (v : Int) : ∀ n, sm B (upd f p v) n = sm B f n + (if p < n then (v - f p) * B ^ p else 0)
  | 0 => by simp [sm]
  | n + 1 => by
    rw [sm, sm, sm_upd B f p v n]
    by_cases e : n = p
    · subst e
      rw [if_neg (by omega), if_pos (by omega), show upd f n v n = v from if_pos rfl, Int.sub_mul]; omega
    · rw [show upd f p v n = f n from if_neg (by omega)]
      by_cases h : p < n
      · rw [if_pos h, if_pos (by omega)]; omega
      · rw [if_neg h, if_neg (by omega)]; omega

/-- the columns of a product, of which rows below i and of row i the columns below j have been added. -/
def Cols (t x y : Nat → Int) (i j : Nat) : Prop :=
  sm 65536 t 34 = sm 65536 x i * sm 65536 y 17 + x i * 65536 ^ i * sm 65536 y j ∧
  ∀ k, 0 ≤ t k ∧ (k < i + j → t k ≤ (i + 1) * 4294836225) ∧ (i + j ≤ k → t k ≤ i * 4294836225)
theorem sm_nil (B : Int) : ∀ n, sm B (fun _ => 0) n = 0
  | 0 => rfl
  | n + 1 => by rw [sm, sm_nil B n]; simp
theorem Cols.zero (x y : Nat → Int) : Cols (fun _ => 0) x y 0 0 := by
  refine ⟨?_, fun k => ⟨by simp, fun h => by simp, fun h => by simp⟩⟩
  rw [sm_nil, show sm 65536 x 0 = 0 from rfl, show sm 65536 y 0 = 0 from rfl]; simp
theorem Cols.row {t x y : Nat → Int} {i : Nat} (h : Cols t x y i 17) : Cols t x y (i + 1) 0 := by
  refine ⟨?_, fun k => ⟨(h.2 k).1, fun hk => ?_, fun hk => ?_⟩⟩
  · rw [h.1, show sm 65536 x (i + 1) = sm 65536 x i + x i * 65536 ^ i from rfl, show sm 65536 y 0 = 0 from rfl, Int.add_mul, Int.mul_zero, Int.add_zero]
  · have h1 := (h.2 k).2.1; have := h1 (by omega); push_cast; omega
  · have h1 := (h.2 k).2.1; have h2 := (h.2 k).2.2
    rcases Nat.lt_or_ge k (i + 17) with h' | h'
    · have := h1 h'; push_cast; omega
    · have := h2 h'; push_cast; omega
theorem mul_le {a b : Int} (h0 : 0 ≤ a) (h1 : a ≤ 65535) (h2 : 0 ≤ b) (h3 : b ≤ 65535) : 0 ≤ a * b ∧ a * b ≤ 4294836225 := by
  refine ⟨Int.mul_nonneg h0 h2, ?_⟩
  have := Int.mul_le_mul h1 h3 h2 (by decide : (0 : Int) ≤ 65535)
  omega
theorem Cols.step {t x y : Nat → Int} {i j : Nat} (h : Cols t x y i j) (hi : i < 17) (hj : j < 17) (hx : 0 ≤ x i ∧ x i < 65536) (hy : 0 ≤ y j ∧ y j < 65536) : Cols (upd t (i + j) (t (i + j) + x i * y j)) x y i (j + 1) := by
  have hm := mul_le hx.1 (by omega) hy.1 (by omega)
  refine ⟨?_, fun k => ?_⟩
  · rw [sm_upd, if_pos (by omega), h.1, show sm 65536 y (j + 1) = sm 65536 y j + y j * 65536 ^ j from rfl, show t (i + j) + x i * y j - t (i + j) = x i * y j by omega, Int.pow_add, Int.mul_add]
    have : x i * y j * (65536 ^ i * 65536 ^ j) = x i * 65536 ^ i * (y j * 65536 ^ j) := by
      rw [Int.mul_assoc, Int.mul_assoc, ← Int.mul_assoc (y j), Int.mul_comm (y j), Int.mul_assoc]
    omega
  · by_cases e : k = i + j
    · subst e
      have h1 := (h.2 (i + j)).1; have h2 := (h.2 (i + j)).2.2 (Nat.le_refl _)
      rw [show upd t (i + j) (t (i + j) + x i * y j) (i + j) = t (i + j) + x i * y j from if_pos rfl]
      exact ⟨by omega, fun _ => by omega, fun hk => by omega⟩
    · rw [show upd t (i + j) (t (i + j) + x i * y j) k = t k from if_neg e]
      exact ⟨(h.2 k).1, fun hk => (h.2 k).2.1 (by omega), fun hk => (h.2 k).2.2 (by omega)⟩

/-- the bytes that have been written, and the carry. -/
def Outs (t o : Nat → Int) (k : Nat) (c : Int) : Prop :=
  sm 256 o (2 * k) + c * 65536 ^ k = sm 65536 t k ∧ (∀ i, i < 2 * k → 0 ≤ o i ∧ o i < 256) ∧ 0 ≤ c ∧ c ≤ 2000000000000
theorem Outs.zero (t o : Nat → Int) : Outs t o 0 0 := ⟨by simp [sm], fun i hi => by omega, by decide, by decide⟩
theorem Outs.step {t o : Nat → Int} {k : Nat} {c : Int} (h : Outs t o k c) (ht : 0 ≤ t k ∧ t k ≤ 77307052050) :
    Outs t (upd (upd o (2 * k) ((t k + c) % 256)) (2 * k + 1) ((t k + c) / 256 % 256)) (k + 1) ((t k + c) / 65536) := by
  obtain ⟨h1, h2, h3, h4⟩ := h
  refine ⟨?_, fun i hi => ?_, by omega, by omega⟩
  · rw [show 2 * (k + 1) = 2 * k + 1 + 1 by omega]
    rw [sm, sm, sm_upd, sm_upd, if_neg (by omega), if_neg (by omega)]
    rw [show upd (upd o (2 * k) ((t k + c) % 256)) (2 * k + 1) ((t k + c) / 256 % 256) (2 * k) = (t k + c) % 256 by unfold upd; rw [if_neg (by omega), if_pos rfl]]
    rw [show upd (upd o (2 * k) ((t k + c) % 256)) (2 * k + 1) ((t k + c) / 256 % 256) (2 * k + 1) = (t k + c) / 256 % 256 by unfold upd; rw [if_pos rfl]]
    rw [sm, ← h1, show (256 : Int) ^ (2 * k) = 65536 ^ k by rw [Int.pow_mul]; rfl, Int.pow_succ, show (256 : Int) ^ (2 * k) = 65536 ^ k by rw [Int.pow_mul]; rfl, Int.pow_succ]
    generalize (65536 : Int) ^ k = p
    have e : t k + c = (t k + c) % 256 + (t k + c) / 256 % 256 * 256 + (t k + c) / 65536 * 65536 := by omega
    have e2 : t k * p + c * p = ((t k + c) % 256) * p + ((t k + c) / 256 % 256 * 256) * p + ((t k + c) / 65536 * 65536) * p := by rw [← Int.add_mul, ← Int.add_mul, ← Int.add_mul, ← e]
    rw [Int.mul_comm p 256, ← Int.mul_assoc, Int.mul_comm p 65536, ← Int.mul_assoc]
    omega
  · unfold upd
    split
    · omega
    · split
      · omega
      · exact h2 i (by omega)
theorem Outs.done {t o : Nat → Int} {c X : Int} (h : Outs t o 34 c) (hX : sm 65536 t 34 = X) (hb : 0 ≤ X ∧ X < 65536 ^ 34) : sm 256 o 68 = X := by
  obtain ⟨h1, h2, h3, h4⟩ := h
  have hs := sm_bound (by decide : (0 : Int) < 256) h2
  rw [hX] at h1
  rw [show (68 : Nat) = 2 * 34 from rfl]
  generalize sm 256 o (2 * 34) = s at *
  have : c = 0 := by omega
  subst this
  omega

set_option maxRecDepth 100000 in
set_option maxHeartbeats 3200000 in
theorem Mul_any (A B : Int) (w : World) (hA : 0 ≤ A ∧ A < 256 ^ 32) (hB : 0 ≤ B ∧ B < 256 ^ 32) :
    Calls Try.prog 46 #[.agg (arr .u8 32 (dg 256 A)), .agg (arr .u8 32 (dg 256 B))] w fun e w' =>
      e = .returned (.agg (arr .u8 32 (dg 256 (A * B % Q)))) ∧ Below w.heap.size w w' := by
  have HA := Lib.hid hA
  have HB := Lib.hid hB
  clear hA hB
  go_enter Try.func46, Try.ntmps46
  go_wp2
  refine wp_world (fun w1 => Arr .u8 w1 w.heap.size 32 (dg 256 A) ∧ Arr .u8 w1 (w.heap.size + 1) 32 (dg 256 B) ∧ Arr .u8 w1 (w.heap.size + 2) 32 (fun _ => 0) ∧ Below w.heap.size w w1)
    ⟨Arr.alloc (Arr.alloc (Arr.newAt (by first | omega | (simp <;> omega)) (by rfl)) _) _, Arr.alloc (Arr.newAt (by first | omega | (simp <;> omega)) (by rfl)) _, Arr.newAt (by first | omega | (simp <;> omega)) (by rfl), (((Below.refl _ _).alloc (Nat.le_refl _) _).alloc (by simp) _).alloc (by simp; omega) _⟩ ?_
  rintro w1 ⟨hA, hB', hZ, hbel⟩
  refine region_vars (n := 70) (by kernel_rfl) (by kernel_rfl) (by kernel_rfl) rfl
    (fun i v _ => (match i with | 0 => v = .agg (arr .u8 32 (dg 256 A)) | 1 => v = .agg (arr .u32 17 (dg 65536 A)) | 2 => v = .agg (arr .u8 32 (dg 256 B)) | 3 => v = .agg (arr .u32 17 (dg 65536 B)) | _ => True))
    (fun _ _ => True) (fun _ _ _ => trivial) (fun _ _ _ _ => trivial) (fun _ _ _ _ h _ => h)
    (isAl [(6, 4), (7, 5)]) (putOf [(6, 4), (7, 5)]) (fun _ => arr .u32 17 (fun _ => 0)) (fun i => match i with | 4 => (arr .u32 17 (dg 65536 A)) | 5 => (arr .u32 17 (dg 65536 B)) | _ => #[]) (fun _ => 91) (fun i => match i with | 4 => 5 | 5 => 6 | _ => 0)
    (vs_al rfl) (vs_inj rfl) ?_ ?_ ?_ ?_
  · refine Each.all ?_
    refine ⟨?_, ?_, ?_, ?_, (fun h => by cases h), (fun h => by cases h), (fun _ h => by cases h), (fun _ h => by cases h), trivial⟩
    · intro _ _ a w2 hB hF hd
      rw [if_pos (wanted_none rfl)]
      exact flow_val (fun h => by cases h) (run_load_arr rfl Try.underlying38 Try.size38 (hF.same 2 rfl) (hA.below hB hA.lt)) rfl
    · intro _ _ a w2 hB hF hd
      rw [if_pos (wanted_none rfl)]
      refine flow_call _ _ _ rfl Try.call59 _ (args1 (hd 0 _ rfl rfl rfl (waits_spec rfl))) (by simp) ((of_any A w2 HA.out).mono ?_)
      rintro e w3 ⟨rfl, hb⟩; exact ⟨_, rfl, rfl, hb⟩
    · intro _ _ a w2 hB hF hd
      rw [if_pos (wanted_none rfl)]
      exact flow_val (fun h => by cases h) (run_load_arr rfl Try.underlying38 Try.size38 (hF.same 3 rfl) (hB'.below hB hB'.lt)) rfl
    · intro _ _ a w2 hB hF hd
      rw [if_pos (wanted_none rfl)]
      refine flow_call _ _ _ rfl Try.call59 _ (args1 (hd 2 _ rfl rfl rfl (waits_spec rfl))) (by simp) ((of_any B w2 HB.out).mono ?_)
      rintro e w3 ⟨rfl, hb⟩; exact ⟨_, rfl, rfl, hb⟩
  · refine Each.all ?_
    refine ⟨(fun h => by cases h), (fun h => by cases h), (fun h => by cases h), (fun h => by cases h), ?_, ?_, (fun h => by cases h), (fun h => by cases h), trivial⟩
    · exact fun _ => ⟨rfl, rfl, fun a w2 K h => flow_alloc rfl rfl Try.zeroValue91 (by simp) h⟩
    · exact fun _ => ⟨rfl, rfl, fun a w2 K h => flow_alloc rfl rfl Try.zeroValue91 (by simp) h⟩
  · refine Each.all ?_
    refine ⟨(fun _ h => by cases h), (fun _ h => by cases h), (fun _ h => by cases h), (fun _ h => by cases h), (fun _ h => by cases h), (fun _ h => by cases h), ?_, ?_, trivial⟩
    · intro p hp
      obtain rfl : 4 = p := Option.some.inj hp
      exact ⟨rfl, rfl, ⟨_, rfl⟩, waits_spec rfl, fun a w2 b K hB hF hd hx hb h => flow_put rfl rfl Try.size91 hx (hd 1 _ rfl rfl rfl (waits_spec rfl)) hb h⟩
    · intro p hp
      obtain rfl : 5 = p := Option.some.inj hp
      exact ⟨rfl, rfl, ⟨_, rfl⟩, waits_spec rfl, fun a w2 b K hB hF hd hx hb h => flow_put rfl rfl Try.size91 hx (hd 3 _ rfl rfl rfl (waits_spec rfl)) hb h⟩
  · intro a w2 blk hB hF hS hv hfin hdis
    obtain ⟨v4, v4l, v4u⟩ := hv 4 _ rfl rfl
    obtain ⟨v5, v5l, v5u⟩ := hv 5 _ rfl rfl
    have ha := puts_each rfl rfl hF [_, _, _, _, _, _, undef, undef] rfl ⟨hS 0 _ rfl rfl rfl, hS 1 _ rfl rfl rfl, hS 2 _ rfl rfl rfl, hS 3 _ rfl rfl rfl, v4, v5, trivial, trivial, trivial⟩
    have f4 := hfin 6 _ 4 rfl rfl
    have f5 := hfin 7 _ 5 rfl rfl
    have d4_5 := hdis 4 5 _ _ rfl rfl rfl rfl (by decide)
    simp only [puts, Act.put, List.setIfInBounds_toArray, List.set_cons_succ, List.set_cons_zero] at ha
    subst ha
    have V4 : Arr .u32 w2 (blk 4) 17 (dg 65536 A) := ⟨_, f4⟩
    have V5 : Arr .u32 w2 (blk 5) 17 (dg 65536 B) := ⟨_, f5⟩
    clear hS hv hfin hdis hF v4 v5 f4 f5
    have hA2 := hA.below hB hA.lt
    have hZ2 := hZ.below hB hZ.lt
    have hZlt := hZ.lt
    have hb2 := hbel.trans (hB.mono hbel.size)
    have hs1 := hbel.size
    obtain ⟨x, hx⟩ : ∃ x, x = blk 4 := ⟨_, rfl⟩
    obtain ⟨y, hy⟩ : ∃ y, y = blk 5 := ⟨_, rfl⟩
    rw [← hx] at V4 d4_5 v4l v4u ⊢
    rw [← hy] at V5 d4_5 v5l v5u ⊢
    clear hx hy hA hB' hZ hB hbel hA2 d4_5
    go_wp2_with (refine load_arr rfl 91 _ rfl .u32 x 17 _ 40 Try.underlying91 Try.size91 rfl (Arr.alloc V4 _) ?_)
    go_loopw [21] (fun i wr => ∃ (k : Nat) (t : Nat → Int), k ≤ 17 ∧ i = .int .i64 k ∧ Cols t (dg 65536 A) (dg 65536 B) k 0 ∧ Arr .u32 wr y 17 (dg 65536 B) ∧ Arr .u64 wr w2.heap.size 34 t ∧ Arr .u8 wr (w.heap.size + 2) 32 (fun _ => 0) ∧ Below w.heap.size w wr) (fun i _ => 17 - (intOf i).toNat)
    case atStart => exact ⟨0, _, Nat.zero_le _, rfl, Cols.zero _ _, Arr.alloc V5 _, Arr.newAt rfl (by rfl), Arr.alloc hZ2 _, hb2.alloc hb2.size _⟩
    case round =>
      obtain ⟨k, t, hk, rfl, hC, hY, hT, hZ, hbel⟩ := hrel
      by_cases hlt : k < 17
      · have hix := run_index_arr (f := dg 65536 A) Try.underlying91 Try.underlying40 Try.size40 k hlt
        have HCC := Lib.hid hC
        clear hC
        go_wp2_with (refine load_arr rfl 91 _ rfl .u32 y 17 _ 40 Try.underlying91 Try.size91 rfl hY ?_)
        have HY := Lib.hid hY
        have HT := Lib.hid hT
        have HZ := Lib.hid hZ
        have HBEL := Lib.hid hbel
        clear hY hT hZ hbel hix
        go_loopw [26] (fun i wr => ∃ (j : Nat) (t : Nat → Int), j ≤ 17 ∧ i = .int .i64 j ∧ Cols t (dg 65536 A) (dg 65536 B) k j ∧ Arr .u32 wr y 17 (dg 65536 B) ∧ Arr .u64 wr w2.heap.size 34 t ∧ Arr .u8 wr (w.heap.size + 2) 32 (fun _ => 0) ∧ Below w.heap.size w wr) (fun i _ => 17 - (intOf i).toNat)
        case atStart => exact ⟨0, _, Nat.zero_le _, rfl, HCC.out, HY.out, HT.out, HZ.out, HBEL.out⟩
        case round =>
          obtain ⟨j, u, hj, rfl, hC, hY, hT, hZ, hbel⟩ := hrel
          by_cases hjt : j < 17
          · have hiy := run_index_arr (f := dg 65536 B) Try.underlying91 Try.underlying40 Try.size40 j hjt
            have e1 := hT.cell (k + j) (by omega)
            have f1 := hT.free (k + j)
            obtain ⟨b0, b1⟩ := dg_bound (by decide : (0 : Int) < 65536) A k
            obtain ⟨b2, b3⟩ := dg_bound (by decide : (0 : Int) < 65536) B j
            obtain ⟨m0, m1⟩ := mul_le b0 (by omega) b2 (by omega)
            obtain ⟨u0, _, u1⟩ := hC.2 (k + j)
            have u2 := u1 (Nat.le_refl _)
            have hwm := wrap_u64_id m0 (by omega)
            have hws := wrap_u64_id (x := u (k + j) + dg 65536 A k * dg 65536 B j) (by omega) (by omega)
            have hst := hC.step hlt hjt ⟨b0, b1⟩ ⟨b2, b3⟩
            have HST := Lib.hid hst
            have HY2 := Lib.hid hY
            have HT2 := Lib.hid hT
            have HZ2 := Lib.hid hZ
            clear hC hY hT hZ u1 hst
            go_wp2
            go_roundw
            case rel => exact ⟨j + 1, _, by omega, by go_num, HST.out, HY2.out.other (by first | omega | (simp <;> omega)) _, HT2.out.set (k + j) _, HZ2.out.other (by first | omega | (simp <;> omega)) _, hbel.setCell (by first | omega | (simp <;> omega)) _⟩
            case measure => simp [intOf] <;> omega
          · obtain rfl : j = 17 := by omega
            go_wp2_with fail
            go_roundw
            case rel => exact ⟨k + 1, u, by omega, by go_num, hC.row, hY, hT, hZ, hbel⟩
            case measure => simp [intOf] <;> omega
      · obtain rfl : k = 17 := by omega
        have hsum : sm 65536 t 34 = A * B := by
          rw [hC.1, show sm 65536 (dg 65536 B) 0 = 0 from rfl, sm_dg (by decide), sm_dg (by decide), Int.emod_eq_of_lt HA.out.1 (Int.lt_trans HA.out.2 (by decide)), Int.emod_eq_of_lt HB.out.1 (Int.lt_trans HB.out.2 (by decide)), Int.mul_zero, Int.add_zero]
        have hcol : ∀ k, 0 ≤ t k ∧ t k ≤ 77307052050 := fun k => by
          have h := hC.2 k
          rcases Nat.lt_or_ge k (17 + 0) with h' | h'
          · have := h.2.1 h'; have := h.1; omega
          · have := h.2.2 h'; have := h.1; omega
        have HS := Lib.hid hsum
        have HCOL := Lib.hid hcol
        clear hsum hcol hC hY
        have hT1 := Arr.alloc hT (.cells (arr .u8 68 (fun _ => 0)) 99)
        have hZ1 := Arr.alloc hZ (.cells (arr .u8 68 (fun _ => 0)) 99)
        go_wp2_with (refine load_arr rfl 98 _ rfl .u64 w2.heap.size 34 _ 72 Try.underlying98 Try.size98 rfl hT1 ?_)
        have hb3 := hbel.alloc hbel.size (.cells (arr .u8 68 (fun _ => 0)) 99)
        have hTlt := hT.lt
        have hZlt3 := hZ.lt
        have hs3 := hbel.size
        clear hT hT1 hZ hbel
        go_loopw [13, 45] (fun c i wq => ∃ (k : Nat) (z : Int) (o : Nat → Int), k ≤ 34 ∧ Outs t o k z ∧ c = .int .u64 z ∧ i = .int .i64 k ∧ Arr .u8 wq wr.heap.size 68 o ∧ Arr .u8 wq (w.heap.size + 2) 32 (fun _ => 0) ∧ Below w.heap.size w wq) (fun _ i _ => 34 - (intOf i).toNat)
        case atStart => exact ⟨0, 0, fun _ => 0, Nat.zero_le _, Outs.zero _ _, rfl, rfl, Arr.newAt (n := 68) (f := fun _ => 0) rfl (by rfl), hZ1, hb3⟩
        case round =>
          obtain ⟨k, z, o, hk, hO, rfl, rfl, hR, hZ, hbel⟩ := hrel
          by_cases hlt : k < 34
          · have hix := run_index_arr (f := t) Try.underlying98 Try.underlying72 Try.size72 k hlt
            have e2 := hR.cell (2 * k) (by omega)
            have e3 := hR.cell (2 * k + 1) (by omega)
            have f2 := hR.free (2 * k)
            have f3 := hR.free (2 * k + 1)
            obtain ⟨t0, t1⟩ := HCOL.out k
            obtain ⟨z0, z1⟩ := hO.2.2
            have hst := Outs.step hO (HCOL.out k)
            have HST := Lib.hid hst
            have HR := Lib.hid hR
            have HZ2 := Lib.hid hZ
            have hwn := wrap_u64_id (x := t k + z) (by omega) (by omega)
            clear hst hR hZ hO
            go_wp2
            go_roundw
            case rel => exact ⟨k + 1, _, _, by omega, HST.out, rfl, by go_num, (HR.out.set (2 * k) _).set (2 * k + 1) _, (HZ2.out.other (by first | omega | (simp <;> omega)) _).other (by first | omega | (simp <;> omega)) _, (hbel.setCell (by first | omega | (simp <;> omega)) _).setCell (by first | omega | (simp <;> omega)) _⟩
            case measure => simp [intOf] <;> omega
          · obtain rfl : k = 34 := by omega
            have hob := hO.2.1
            have hX := Outs.done hO HS.out ⟨Int.mul_nonneg HA.out.1 HB.out.1, by
              have h1 := HA.out; have h2 := HB.out
              calc A * B ≤ 256 ^ 32 * 256 ^ 32 := Int.mul_le_mul (Int.le_of_lt h1.2) (Int.le_of_lt h2.2) h2.1 (by decide)
                _ < 65536 ^ 34 := by decide⟩
            have HOB := Lib.hid hob
            have HX := Lib.hid hX
            have HR := Lib.hid hR
            have hRlt := hR.lt
            clear hO hob hX
            go_wp2_with fail
            refine (taken_any _ 68 o _ (HR.out.rd (by decide)) HOB.out (by decide)).mono ?_
            rintro e w4 ⟨rfl, hb4⟩
            rw [HX.out]
            go_wp2_with fail
            refine (bytes_any _ _).mono ?_
            rintro e w5 ⟨rfl, hb5⟩
            have hZ5 := (hZ.kept hb4).kept hb5
            have hb6 := hbel.trans ((hb4.mono hbel.size).trans (hb5.mono (Nat.le_trans hbel.size hb4.size)))
            clear hb4 hb5 hZ hbel
            go_wp2_with (refine store_arr rfl 38 _ _ rfl .u8 (w.heap.size + 2) 32 (fun _ => 0) _ Try.size38 rfl rfl hZ5 ?_)
            refine bodyPost_ret (results_arr rfl _ _ .u8 (w.heap.size + 2) 32 _ 5 rfl (hZ5.setRow _ _) Try.underlying38 Try.size38) rfl ⟨rfl, below_setRow' hb6 (by omega) _⟩
end Go.Proofs.Ytiiafgbdmejcpaa
