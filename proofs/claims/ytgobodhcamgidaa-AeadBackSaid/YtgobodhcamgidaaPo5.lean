/-
  poly: bytes; what a tag is. Conditions: named in each theorem.
-/
import Derived.Test.YtgobodhcamgidaaPo4
set_option linter.unusedVariables false
set_option linter.unusedSimpArgs false
namespace Go.Bas
/-- block j of a text of N bytes, as a number. -/
def blockN (F : Nat → Int) (N j : Nat) : Int := sm 256 (fun i => F (16 * j + i)) (min 16 (N - 16 * j)) + 256 ^ (min 16 (N - 16 * j))
/-- what is gathered of the first blocks. -/
def accN (r : Int) (F : Nat → Int) (N : Nat) : Nat → Int
  | 0 => 0
  | j + 1 => (accN r F N j + blockN F N j) * r % PP
theorem accN_bound (r : Int) (F : Nat → Int) (N : Nat) : ∀ j, 0 ≤ accN r F N j ∧ accN r F N j < PP
  | 0 => ⟨Int.le_refl _, PP_pos⟩
  | _ + 1 => ⟨Int.emod_nonneg _ (by decide), Int.emod_lt_of_pos _ (by decide)⟩
/-- a piece with its 1. -/
theorem piece_dg {f : Nat → Int} {n : Nat} (hn : n ≤ 16) (hf : ∀ i, i < n → 0 ≤ f i ∧ f i < 256) : ∀ i, i < 17 → upd (laid (fun _ => 0) 0 n f) n 1 i = dg 256 (sm 256 f n + 256 ^ n) i := by
  intro i hi
  have e : sm 256 f n + 256 ^ n = sm 256 (fun i => if i < n + 1 then (if i < n then f i else 1) else 0) 17 := by
    rw [sm_short (f := fun i => if i < n then f i else 1) (by omega), sm, if_neg (by omega), Int.one_mul, sm_congr (fun i hi => if_pos hi)]
  rw [e, dg_sm (B := 256) (by decide) (n := 17) (fun i _ => by
    by_cases e : i < n
    · rw [if_pos (by omega), if_pos e]; have := hf i e; omega
    · rw [if_neg e]; split <;> decide) i hi]
  unfold upd laid
  by_cases h : i = n
  · subst h; rw [if_pos rfl, if_pos (by omega), if_neg (by omega)]
  · rw [if_neg h]
    by_cases e : i < n
    · rw [if_pos (by omega), if_pos (by omega), if_pos e]; rfl
    · rw [if_neg (by omega), if_neg (by omega)]
end Go.Bas
namespace Go.Proofs.Ytgobodhcamgidaa
open Go.RowKit Go.Bas
attribute [local go_sem ↓] Go.wp_at_zero Go.wp_at_succ

theorem arr_part {k : IntKind} {w : World} {b n m : Nat} {f : Nat → Int} (h : Arr k w b n f) (hm : m ≤ n) (hn : n ≤ 9223372036854775807) : Rd k w (.slice (some ⟨b, 0, none⟩) m n) m f :=
  ⟨_, _, rfl, hm, hn, (fun h => by cases h), fun _ => ⟨b, 0, rfl, h.lt, fun i hi => by rw [Nat.zero_add]; exact h.cell i (by omega)⟩⟩

set_option maxRecDepth 100000 in
set_option maxHeartbeats 3200000 in
theorem bytes16_any (A : Int) (w : World) :
    Calls Try.prog 91 #[.agg (arr .u32 17 (dg 256 A))] w fun e w' => ∃ v, e = .returned v ∧ Own .u8 5 w.heap.size w' v 16 (dg 256 A) ∧ Below w.heap.size w w' := by
  go_enter Try.func91, Try.ntmps91
  go_wp2_with (refine load_arr rfl 124 _ rfl .u32 w.heap.size 17 _ 97 Try.underlying124 Try.size124 rfl (Arr.newAt rfl rfl) ?_)
  refine (plain_any A _).mono ?_
  rintro e w1 ⟨rfl, hb1⟩
  have hbel : Below w.heap.size w w1 := ((Below.refl _ _).alloc (Nat.le_refl _) _).trans (hb1.mono (by simp))
  have hs := hbel.size
  clear hb1
  go_upto_region 2 with (refine store_arr rfl 120 _ _ rfl .u8 w1.heap.size 17 (fun _ => 0) _ Try.size120 rfl rfl (Arr.newAt rfl rfl) ?_)
  refine wp_world (fun w2 => Arr .u8 w2 w1.heap.size 17 (dg 256 A) ∧ Below w.heap.size w w2)
    ⟨Arr.setRow (Arr.newAt (n := 17) (f := fun _ => 0) rfl rfl) _ _, below_setRow' (hbel.alloc hs _) hs _⟩ ?_
  rintro w2 ⟨hA, hb2⟩
  have hR := Lib.hid (arr_part (m := 16) hA (by decide) (by decide))
  have hs2 := hb2.size
  clear hbel hA
  go_wp2_with (at_builtin; refine append_rd rfl _ _ 22 rfl w.heap.size 5 .u8 1 Try.underlying22 Try.info5 _ 0 (dg 256 A) ?_ rfl _ 16 (dg 256 A) (hR.out.below ((Below.refl _ _).alloc (Nat.le_refl _) _)) rfl (fun i _ => by rw [Nat.zero_add]) (by omega) (by omega) (by simp; omega) ?_; rotate_right; intro v' w3 hown hgrow)
  · go_ret
    rw [Nat.zero_add] at hown
    exact ⟨_, rfl, hown, below_grown (hb2.alloc hs2 _) hgrow (Own.new .u8 5 w2 #[] 0 (dg 256 A) hs2 (by omega) rfl (fun i hi => by omega)) (by simp; omega) (Nat.le_refl _)⟩
  · exact Own.new _ _ _ _ _ _ hs2 (by omega) rfl (fun i hi => by omega)
end Go.Proofs.Ytgobodhcamgidaa
