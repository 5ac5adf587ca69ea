/-
  sha.Hex: what it answers. Conditions: named in each theorem.
-/
import Derived.Test.YtgobodhcamgidaaSh11
import Derived.Test.YtgobodhcamgidaaStr
set_option linter.unusedVariables false
set_option linter.unusedSimpArgs false
namespace Go.Bas
open Go.RowKit
def hexS : ByteArray := ⟨#[48, 49, 50, 51, 52, 53, 54, 55, 56, 57, 97, 98, 99, 100, 101, 102]⟩
def hexD (d : Int) : Int := strB hexS d.toNat
def hexF (f : Nat → Int) (j : Nat) : Int := if j % 2 = 0 then hexD (f (j / 2) / 16) else hexD (f (j / 2) % 16)
theorem hexF_bound (f : Nat → Int) (j : Nat) : 0 ≤ hexF f j ∧ hexF f j < 256 := by unfold hexF; split <;> exact strB_bound _ _
theorem hexF_0 (f : Nat → Int) (k : Nat) : hexF f (2 * k) = hexD (f k / 16) := by unfold hexF; rw [if_pos (by omega), show 2 * k / 2 = k by omega]
theorem hexF_1 (f : Nat → Int) (k : Nat) : hexF f (2 * k + 1) = hexD (f k % 16) := by unfold hexF; rw [if_neg (by omega), show (2 * k + 1) / 2 = k by omega]
theorem lit2_rd {k : IntKind} {w : World} {T : TypeId} {f : Nat → Int} : Rd k (w.alloc (.cells [Value.int k (f 0), .int k (f 1)].toArray T)) (.slice (some ⟨w.heap.size, 0, none⟩) 2 2) 2 f :=
  lit_rd rfl (by decide) fun i hi => by rcases (by omega : i = 0 ∨ i = 1) with rfl | rfl <;> rfl
theorem shr4 (x : Int) : Int.fdiv x (2 ^ (min (Int.toNat 4) IntKind.u8.bits)) = x / 16 := Int.fdiv_eq_ediv_of_nonneg x (by decide)
theorem Rd.formAt {k : IntKind} {w : World} {a : Option Addr} {n c : Nat} {f : Nat → Int} (h : Rd k w (.slice a n c) n f) (hn : 0 < n) : ∃ b o, a = some ⟨b, o, none⟩ ∧ b < w.heap.size ∧ ∀ i, i < n → w.cell? ⟨b, o + i, none⟩ = some (.int k (f i)) := by
  obtain ⟨a', c', he, _, _, _, h4⟩ := h
  obtain ⟨b, o, rfl, hb, hc⟩ := h4 hn
  simp only [Value.slice.injEq, true_and] at he
  exact ⟨b, o, he.1, hb, hc⟩
theorem and15_u8 {x : Int} (h0 : 0 ≤ x) (h1 : x < 256) : bits .and .u8 x 15 = x % 16 := by
  rw [u8_and _ _ (by omega) (by omega) (by decide) (by decide), show (15 : Int).toNat = 2 ^ 4 - 1 from rfl, Nat.and_two_pow_sub_one_eq_mod]
  omega
end Go.Bas
namespace Go.Proofs.Ytgobodhcamgidaa
open Go.RowKit Go.Bas
attribute [local go_sem ↓] Go.wp_at_zero Go.wp_at_succ
theorem hexS_size : hexS.size = 16 := rfl

set_option maxRecDepth 100000 in
set_option maxHeartbeats 3200000 in
theorem hex_any (v : Value) (n : Nat) (f : Nat → Int) (w : World) (hv : Rd .u8 w v n f) (hn : n ≤ 1000000) (hf : ∀ i, i < n → 0 ≤ f i ∧ f i < 256) :
    Calls Try.prog 18 #[v] w fun e w' => e = .returned (.string (strOf (2 * n) (hexF f))) ∧ Below w.heap.size w w' := by
  have HV := Lib.hid hv
  have HF := Lib.hid hf
  obtain ⟨a, c, rfl, h1, h2, h3, h4⟩ := hv
  clear hf h3 h4
  go_enter Try.func18, Try.ntmps18
  go_wp2
  go_loopw [3, 8] (fun u i wr => ∃ k : Nat, k ≤ n ∧ i = .int .i64 (k : Int) ∧ Go.Bas.Own .u8 5 w.heap.size wr u (2 * k) (hexF f) ∧ Below w.heap.size w wr) (fun _ i _ => n - (intOf i).toNat)
  case atStart => exact ⟨0, Nat.zero_le _, rfl, Go.Bas.Own.nil _ _ _ _ _, Below.refl _ _⟩
  case round =>
    obtain ⟨k, hk, rfl, ho, hbel⟩ := hrel
    have hsl := hbel.size
    by_cases hlt : k < n
    · obtain ⟨x, hx⟩ : ∃ x, x = f k := ⟨_, rfl⟩
      have x01 := HF.out k hlt
      rw [← hx] at x01
      have HX := Lib.hid hx
      obtain ⟨x0, x1⟩ := x01
      obtain ⟨b, o, rfl, hbl, hc⟩ := (HV.out.below hbel).formAt (by omega)
      have hck : wr.cell? ⟨b, o + k, none⟩ = some (.int .u8 x) := by rw [HX.out]; exact hc k hlt
      have HO := Lib.hid ho
      have hL0 : Hid (hexF f (2 * k) = hexD (x / 16)) := by rw [HX.out]; exact hexF_0 f k
      have hL1 : Hid (hexF f (2 * k + 1) = hexD (x % 16)) := by rw [HX.out]; exact hexF_1 f k
      clear hx hc ho
      go_upto_region 5 with (fail)
      clear hck
      refine region_tail (n := 24) 8 (by decide) (by kernel_rfl) (by kernel_rfl) (by kernel_rfl) (by kernel_rfl) rfl
        (fun ii vv ww => (match ii with | 0 => vv = u3 | 1 | 4 => vv = .int .u8 (x) | 2 => vv = .int .u8 (x / 16) | 3 => vv = .int .u8 (hexD (x / 16)) | 5 => vv = .int .u8 (x % 16) | 6 => vv = .int .u8 (hexD (x % 16)) | _ => True) ∧ (ii = 7 → Rd .u8 ww vv 2 (fun i => if i = 0 then hexD (x / 16) else hexD (x % 16))))
        (fun i v w w' h hE => ⟨h.1, fun e => Rd.below (h.2 e) hE⟩) ?_ ?_
      · refine Each.all ?_
        refine ⟨?_, ?_, ?_, ?_, ?_, ?_, ?_, ?_, (fun h => absurd h (by decide)), (fun h => absurd h (by decide)), trivial⟩
        · intro _ a w2 hB hF hd
          rw [if_pos (wanted_none rfl)]
          exact flow_move _ (.inl rfl) (by simp) ⟨(hF.same 3 rfl), fun h => absurd h (by decide)⟩
        · intro _ a w2 hB hF hd
          rw [if_pos (wanted_none rfl)]
          exact flow_move _ (.inl rfl) (by simp) ⟨(hF.same 5 rfl), fun h => absurd h (by decide)⟩
        · intro _ a w2 hB hF hd
          rw [if_pos (wanted_none rfl)]
          exact flow_val (fun h => by cases h) (Go.Bas.run_shr rfl ((hd 1 _ rfl (waits_spec rfl)).1) rfl (by omega)) ⟨(congrArg (Value.int .u8) (shr4 x)), fun h => absurd h (by decide)⟩
        · intro _ a w2 hB hF hd
          rw [if_pos (wanted_none rfl)]
          exact flow_val (fun h => by cases h) (run_index_str (s := hexS) rfl rfl ((hd 2 _ rfl (waits_spec rfl)).1) Try.underlying9 (by omega) (by rw [hexS_size]; omega)) ⟨rfl, fun h => absurd h (by decide)⟩
        · intro _ a w2 hB hF hd
          rw [if_pos (wanted_none rfl)]
          exact flow_move _ (.inl rfl) (by simp) ⟨(hF.same 5 rfl), fun h => absurd h (by decide)⟩
        · intro _ a w2 hB hF hd
          rw [if_pos (wanted_none rfl)]
          exact flow_val (fun h => by cases h) (Go.Bas.run_and rfl ((hd 4 _ rfl (waits_spec rfl)).1) rfl) ⟨(congrArg (Value.int .u8) (and15_u8 x0 x1)), fun h => absurd h (by decide)⟩
        · intro _ a w2 hB hF hd
          rw [if_pos (wanted_none rfl)]
          exact flow_val (fun h => by cases h) (run_index_str (s := hexS) rfl rfl ((hd 5 _ rfl (waits_spec rfl)).1) Try.underlying9 (by omega) (by rw [hexS_size]; omega)) ⟨rfl, fun h => absurd h (by decide)⟩
        · intro _ a w2 hB hF hd
          rw [if_pos (wanted_none rfl)]
          exact flow_lits 22 5 2 _ [.int .u8 (hexD (x / 16)), .int .u8 (hexD (x % 16))] rfl Try.underlying22 (by kernel_rfl) (by kernel_rfl) rfl (by decide) (by decide) (by intro v hv; simp only [List.mem_cons, List.not_mem_nil, or_false] at hv; rcases hv with rfl | rfl <;> rfl) (by simp only [List.map_toArray, List.map_cons, List.map_nil, show a.eval (Operand.tmp 15) = .int .u8 (hexD (x / 16)) from ((hd 3 _ rfl (waits_spec rfl)).1), show a.eval (Operand.tmp 18) = .int .u8 (hexD (x % 16)) from ((hd 6 _ rfl (waits_spec rfl)).1)]; rfl) (by simp) ⟨trivial, fun _ => (lit2_rd (f := fun i => if i = 0 then hexD (x / 16) else hexD (x % 16)))⟩
      · intro a w8 hB hF hS
        obtain ⟨x19, hx19⟩ : ∃ x, x = a.tmps.getD 19 undef := ⟨_, rfl⟩
        have P19 : Rd .u8 w8 x19 2 (fun i => if i = 0 then hexD (x / 16) else hexD (x % 16)) := by rw [hx19]; exact (hS 7 _ rfl (by decide)).2 rfl
        have ha := puts_each rfl rfl hF [_, _, _, _, _, _, _, x19] rfl ⟨(hS 0 _ rfl (by decide)).1, (hS 1 _ rfl (by decide)).1, (hS 2 _ rfl (by decide)).1, (hS 3 _ rfl (by decide)).1, (hS 4 _ rfl (by decide)).1, (hS 5 _ rfl (by decide)).1, (hS 6 _ rfl (by decide)).1, hx19.symm, trivial⟩
        simp only [puts, List.take_succ_cons, List.take_zero, Act.put, List.setIfInBounds_toArray, List.set_cons_succ, List.set_cons_zero] at ha
        subst ha
        change tl _ _ _ (_ :: _ :: []) _ _
        clear hx19
        clear hS hF
        have hO8 := HO.out.below hB
        have hb8 := hbel.trans (hB.mono hsl)
        refine tl_step rfl (wp_append_rd _ _ 22 rfl w.heap.size 5 .u8 1 Try.underlying22 Try.info5 _ (2 * k) (hexF f) hO8 rfl _ 2 _ P19 rfl (fun i hi => by rcases (by omega : i = 0 ∨ i = 1) with rfl | rfl; exact hL0.out; exact hL1.out) (by omega) (by omega) hb8.size ?_)
        intro v' w9 hown hgrow
        refine tl_move rfl _ (.inr rfl) (tl_nil ?_)
        have hb9 := below_grown hb8 hgrow hO8 hb8.size (Nat.le_refl _)
        clear hB hgrow hO8 hb8 P19
        go_wp2
        go_roundw
        case rel => first | exact ⟨k + 1, by omega, by go_num, hown, hb9⟩ | ((repeat apply Exists.intro); exact ⟨⟨k + 1, by omega, by go_num, hown, hb9⟩, rfl⟩)
        case measure => simp [intOf] <;> omega
    · obtain rfl : k = n := by omega
      have HR := Lib.hid ho.rd
      clear ho
      go_wp2_with (refine step_val rfl (run_conv_rd (e := 5) rfl rfl HR.out Try.underlying22 Try.underlying5 Try.underlying9 (fun i _ => hexF_bound f i)) ?_)
      go_ret
      exact ⟨rfl, hbel⟩
end Go.Proofs.Ytgobodhcamgidaa
