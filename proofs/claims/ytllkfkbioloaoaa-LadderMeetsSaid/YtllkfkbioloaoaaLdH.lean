/-
  The ladder comes to multiples of a point; the order of two secrets does not matter. No program in sight.
-/
import Derived.Test.YtllkfkbioloaoaaLdG
set_option linter.unusedVariables false
set_option linter.unusedSimpArgs false
namespace Go.Bas
section
variable {K : Kind}
theorem two_pow_ne (n : Nat) : (2 : Fp) ^ n ≠ 0 := by
  induction n with
  | zero => intro h; exact fp_one_ne (by grind)
  | succ n ih => intro h; exact fp_mul_ne ih fp_two_ne (by grind)
theorem pow_ne {x : Fp} (hx : x ≠ 0) : ∀ n : Nat, x ^ n ≠ 0
  | 0 => by intro h; exact fp_one_ne (by grind)
  | n + 1 => by intro h; exact fp_mul_ne (pow_ne hx n) hx (by grind)
theorem eight_ne : (8 : Fp) ≠ 0 := by have h := two_pow_ne 3; intro e; exact h (by grind)
theorem sixteen_ne : (16 : Fp) ≠ 0 := by have h := two_pow_ne 4; intro e; exact h (by grind)
theorem rel_dbl (p : Ed K.E) {X Z : Fp} (h : Rel K.s p.y X Z) : Rel K.s (p.add p).y (fdX X Z) (fdZ K.f X Z) := by
  obtain ⟨l, hl, rfl, rfl⟩ := h
  have hden := dbl_den p
  have hy := dbl_y p.on (p.add_y p)
  have hl4 := pow_ne hl 4
  rcases K.hk with hs | hs
  · obtain ⟨e1, e2⟩ := rel_dbl1 (l := l) (K.h1 hs) hy rfl
    rw [hs]
    exact ⟨_, fp_mul_ne (fp_mul_ne (fp_mul_ne eight_ne hl4) hden) K.hf1, e1, e2⟩
  · obtain ⟨e1, e2⟩ := rel_dbl2 (l := l) (K.h2 hs) hy rfl
    rw [hs]
    exact ⟨_, neg_ne (fp_mul_ne (fp_mul_ne (fp_mul_ne eight_ne hl4) hden) K.hf0), e1, e2⟩
/-- a base: the number u of a point, neither nought nor without end. -/
structure IsBase (K : Kind) (p : Ed K.E) (u : Fp) : Prop where
  hu : K.s * u * (1 - p.y) = 1 + p.y
  hm : 1 - p.y ≠ 0
  hp : 1 + p.y ≠ 0
theorem IsBase.u_ne {p : Ed K.E} {u : Fp} (h : IsBase K p u) : u ≠ 0 := by
  intro e
  have := h.hu
  exact h.hp (by grind)
theorem rel_add (p q b : Ed K.E) {u a z c d : Fp} (hb : IsBase K b u) (hq : q = p.add b) (h1 : Rel K.s p.y a z) (h2 : Rel K.s q.y c d) : Rel K.s (p.add q).y (fsX a z c d) (fsZ u a z c d) := by
  obtain ⟨l, hl, rfl, rfl⟩ := h1
  obtain ⟨m, hm, rfl, rfl⟩ := h2
  have hd : q.add p.neg = b := by rw [hq, Ed.add_comm p b, Ed.add_assoc, Ed.add_neg, Ed.add_zero]
  have ey := p.add_y q
  have e0 : b.y * (1 + K.E.d * (p.x * q.x * (p.y * q.y))) = p.y * q.y - p.x * q.x := by
    have h := q.add_y p.neg
    rw [hd] at h
    exact neg_y h
  have hfrac := diff_frac ey e0 (p.minus_ne q) (p.plus_ne q) (diff_poly p.on q.on)
  obtain ⟨r1, r2, r3⟩ := rel_sum (l := l) (m := m) (y1 := p.y) (y2 := q.y) (yp := (p.add q).y) K.hk hb.hu hl hm hfrac hb.hm
  rw [r1, r2]
  refine rel_of K.hs ?_ r3
  by_cases hs : p.y + q.y = 0
  · right
    refine fp_mul_ne hb.u_ne (fp_mul_ne (fp_mul_ne sixteen_ne (pow_ne (fp_mul_ne hl hm) 2)) (pow_ne ?_ 2))
    intro ht
    obtain ⟨hy1, hy2⟩ := both_zero hs ht
    have o1 := p.on
    have o2 := q.on
    rw [hy1] at o1 e0
    rw [hy2] at o2 e0
    exact fp_mul_ne hb.hm hb.hp (unit_y o1 o2 e0)
  · left
    exact fp_mul_ne (fp_mul_ne sixteen_ne (pow_ne (fp_mul_ne hl hm) 2)) (pow_ne hs 2)
end
theorem toF_dX (x z : Int) : toF (dX x z) = fdX (toF x) (toF z) := by
  unfold dX fdX; simp only [toF_mul, toF_add, toF_sub]
theorem toF_dZ (x z : Int) : toF (dZ x z) = fdZ (toF 121665) (toF x) (toF z) := by
  unfold dZ fdZ; simp only [toF_mul, toF_add, toF_sub]
theorem toF_sX (a b c d : Int) : toF (sX a b c d) = fsX (toF a) (toF b) (toF c) (toF d) := by
  unfold sX fsX; simp only [toF_mul, toF_add, toF_sub]
theorem toF_sZ (u a b c d : Int) : toF (sZ u a b c d) = fsZ (toF u) (toF a) (toF b) (toF c) (toF d) := by
  unfold sZ fsZ; simp only [toF_mul, toF_add, toF_sub]
section
variable {K : Kind}
theorem rel_zero {f : Fp} (hK : K.f = f) : Rel K.s (Ed.zero : Ed K.E).y 1 0 := by
  obtain ⟨w, hw⟩ := fp_inv fp_two_ne
  have hw0 : w ≠ 0 := by intro e; exact fp_one_ne (by grind)
  refine ⟨w, hw0, ?_, ?_⟩
  · show (1 : Fp) = w * (1 + 1); grind
  · show (0 : Fp) = K.s * w * (1 - 1); grind
theorem rel_base {p : Ed K.E} {u : Fp} (h : IsBase K p u) : Rel K.s p.y u 1 := rel_of K.hs (.inr fp_one_ne) (base_rel h.hu)
/-- after k rungs. -/
theorem lad_rel (hf : K.f = toF 121665) (p : Ed K.E) (n : Nat) (hn : n < 2 ^ 255) {u : Int} (hb : IsBase K p (toF u)) : ∀ k, k ≤ 255 →
    Rel K.s (p.mul (n / 2 ^ (255 - k))).y (toF (lad n u k).a) (toF (lad n u k).b) ∧ Rel K.s (p.mul (n / 2 ^ (255 - k) + 1)).y (toF (lad n u k).c) (toF (lad n u k).d)
  | 0, _ => by
    rw [show n / 2 ^ (255 - 0) = 0 by rw [Nat.sub_zero]; exact Nat.div_eq_of_lt hn]
    refine ⟨?_, ?_⟩
    · show Rel K.s (Ed.zero : Ed K.E).y (toF 1) (toF 0)
      rw [toF_one, toF_zero]; exact rel_zero rfl
    · rw [Nat.zero_add, Ed.mul_one]
      show Rel K.s p.y (toF u) (toF 1)
      rw [toF_one]; exact rel_base hb
  | k + 1, hk => by
    obtain ⟨h1, h2⟩ := lad_rel hf p n hn hb k (by omega)
    have hbit : (n : Int) / 2 ^ (254 - k) % 2 = ((n / 2 ^ (254 - k) % 2 : Nat) : Int) := by simp
    have hst : lad n u (k + 1) = (lad n u k).rung u ((n / 2 ^ (254 - k) % 2 : Nat) : Int) := by rw [← hbit]; rfl
    have hN : n / 2 ^ (255 - k) = n / 2 ^ (254 - k) / 2 := by
      rw [show 255 - k = 254 - k + 1 by omega, Nat.pow_succ, Nat.div_div_eq_div_mul]
    rw [show 255 - (k + 1) = 254 - k by omega, hst]
    obtain ⟨N, hNN⟩ : ∃ N, N = n / 2 ^ (254 - k) := ⟨_, rfl⟩
    rw [← hNN] at hN ⊢
    rw [hN] at h1 h2
    obtain ⟨s, hs⟩ : ∃ s, s = lad n u k := ⟨_, rfl⟩
    rw [← hs] at h1 h2 ⊢
    obtain ⟨M, hM⟩ : ∃ M, M = N / 2 := ⟨_, rfl⟩
    rw [← hM] at h1 h2
    have hq : p.mul (M + 1) = (p.mul M).add p := rfl
    have hsum : p.mul (M + (M + 1)) = (p.mul M).add (p.mul (M + 1)) := p.mul_add _ _
    have r1 := rel_add _ _ _ hb hq h1 h2
    rw [← hsum, ← toF_sX, ← toF_sZ] at r1
    rcases (by omega : N % 2 = 0 ∨ N % 2 = 1) with hb0 | hb0
    · rw [hb0]
      have r2 := rel_dbl _ h1
      rw [← p.mul_add, hf, ← toF_dX, ← toF_dZ] at r2
      refine ⟨?_, ?_⟩
      · rw [show N = M + M by omega]; exact r2
      · rw [show N + 1 = M + (M + 1) by omega]; exact r1
    · rw [hb0]
      have r2 := rel_dbl _ h2
      rw [← p.mul_add, hf, ← toF_dX, ← toF_dZ] at r2
      refine ⟨?_, ?_⟩
      · rw [show N = M + (M + 1) by omega]; exact r1
      · rw [show N + 1 = M + 1 + (M + 1) by omega]; exact r2
/-- the number u of a point; nought where there is none. -/
noncomputable def Kind.num (K : Kind) (y : Fp) : Fp := K.s * (1 + y) * inv (1 - y)
theorem ladN_num (hf : K.f = toF 121665) (p : Ed K.E) (n : Nat) (hn : n < 2 ^ 255) {u : Int} (hb : IsBase K p (toF u)) : toF (ladN n u) = K.num (p.mul n).y := by
  obtain ⟨h1, _⟩ := lad_rel hf p n hn hb 255 (Nat.le_refl _)
  rw [Nat.sub_self, Nat.pow_zero, Nat.div_one] at h1
  unfold ladN Kind.num
  rw [toF_mul, toF_inv]
  obtain ⟨l, hl, e1, e2⟩ := h1
  rw [e1, e2]
  generalize (p.mul n).y = y
  have hs := K.hs
  have hs0 : K.s ≠ 0 := by intro e; exact fp_one_ne (by grind)
  by_cases hy : 1 - y = 0
  · rw [hy, show K.s * l * (0 : Fp) = 0 by grind, inv_none]; grind
  · exact num_quot hs (inv_mul (fp_mul_ne (fp_mul_ne hs0 hl) hy)) (inv_mul hy)
/-- a point whose number is that of a multiple. -/
theorem base_mul {p : Ed K.E} (y1 : 1 - p.y ≠ 0) (y2 : 1 + p.y ≠ 0) : IsBase K p (K.num p.y) := by
  exact ⟨num_base K.hs (inv_mul y1), y1, y2⟩
theorem num_zero {p : Ed K.E} (h : K.num p.y = 0) : p.add p = .zero := by
  have hy : (1 + p.y) * (1 - p.y) = 0 := by
    by_cases h1 : 1 - p.y = 0
    · rw [h1]; generalize 1 + p.y = z; grind
    · exact zero_fac K.hs (inv_mul h1) h
  have hx0 := x_zero hy (ed_x2 p) (ed_one_dy p)
  have a1 := p.add_x p
  have a2 := p.add_y p
  rw [hx0] at a1 a2
  obtain ⟨r1, r2⟩ := dbl_zero hy a1 a2
  exact Ed.ext r1 r2
theorem mul_zero_pt : ∀ n : Nat, (Ed.zero : Ed K.E).mul n = .zero
  | 0 => rfl
  | n + 1 => by rw [Ed.mul, mul_zero_pt n, Ed.add_zero]
theorem num_O : K.num (Ed.zero : Ed K.E).y = 0 := by
  unfold Kind.num
  show K.s * (1 + 1) * inv (1 - 1) = 0
  have e : ∀ a : Fp, a - a = 0 := by intro a; grind
  rw [e 1, inv_none]
  generalize K.s * (1 + 1) = z
  grind
end
theorem lad_nought {n : Int} (hn : n / 2 ^ 254 % 2 = 1) : ∀ k, (lad n 0 (k + 1)).a = 0 ∧ (lad n 0 (k + 1)).b = 0 ∧ (lad n 0 (k + 1)).d = 0
  | 0 => by
    have e : lad n 0 1 = (⟨1, 0, 0, 1⟩ : Two).rung 0 (n / 2 ^ 254 % 2) := rfl
    rw [e, hn]
    unfold Two.rung
    rw [if_pos rfl]
    exact ⟨rfl, rfl, rfl⟩
  | k + 1 => by
    obtain ⟨h1, h2, h3⟩ := lad_nought hn k
    have e : lad n 0 (k + 1 + 1) = (lad n 0 (k + 1)).rung 0 (n / 2 ^ (254 - (k + 1)) % 2) := rfl
    rw [e]
    generalize lad n 0 (k + 1) = s at *
    obtain ⟨a, b, c, d⟩ := s
    simp only at h1 h2 h3
    subst h1; subst h2; subst h3
    unfold Two.rung
    split
    · exact ⟨by unfold sX; simp, by unfold sZ; simp, by unfold dZ; simp⟩
    · exact ⟨by unfold dX; simp, by unfold dZ; simp, by unfold sZ; simp⟩
theorem ladN_nought {n : Int} (hn : n / 2 ^ 254 % 2 = 1) {u : Int} (hu : u % Pr = 0) : ladN n u % Pr = 0 := by
  have h := lad_cg (n := n) (u := u) (u' := 0) (show u % Pr = 0 % Pr by rw [hu]; rfl) 255
  have h0 := (lad_nought hn 254).1
  have h1 : Cg (ladN n u) (0 * (lad n u 255).b ^ (PN - 2)) := by
    unfold ladN
    have ha : Cg (lad n u 255).a 0 := h0 ▸ h.1
    exact ha.mul (Cg.refl _)
  rw [Int.zero_mul] at h1
  rw [h1]; rfl
theorem num_ne {K : Kind} {y : Fp} (h : K.num y ≠ 0) : 1 - y ≠ 0 ∧ 1 + y ≠ 0 := by
  constructor
  · intro e
    apply h
    unfold Kind.num
    rw [e, inv_none]; generalize K.s * (1 + y) = z; grind
  · intro e
    apply h
    unfold Kind.num
    rw [e]; generalize inv (1 - y) = z; generalize K.s = s; grind
theorem mul_two_zero {E : NS} {p : Ed E} (h : p.add p = .zero) (t : Nat) : p.mul (2 * t) = .zero := by
  rw [Ed.mul_mul, show p.mul 2 = p.add p by show (p.mul 1).add p = _; rw [Ed.mul_one], h]
  have key : ∀ n : Nat, (Ed.zero : Ed E).mul n = .zero := by
    intro n
    induction n with
    | zero => rfl
    | succ n ih => rw [Ed.mul, ih, Ed.add_zero]
  exact key t
/-- a ladder on a ladder's result. -/
theorem lad_lad {K : Kind} (hf : K.f = toF 121665) (p : Ed K.E) {u : Int} (hb : IsBase K p (toF u)) (m n : Nat) (hm : m < 2 ^ 255) (hn : n < 2 ^ 255) (h2 : m % 2 = 0) (ht : (m : Int) / 2 ^ 254 % 2 = 1) :
    toF (ladN m (ladN n u % Pr)) = K.num (p.mul (n * m)).y := by
  have h1 := ladN_num hf p n hn hb
  have e1 : toF (ladN n u % Pr) = K.num (p.mul n).y := by rw [← h1]; exact toF_eq.2 (Cg.mod _)
  rw [Ed.mul_mul]
  by_cases h0 : K.num (p.mul n).y = 0
  · have hz := num_zero h0
    rw [show m = 2 * (m / 2) by omega, mul_two_zero hz, num_O, ← toF_zero]
    rw [h0, ← toF_zero] at e1
    refine toF_eq.2 ?_
    have : (2 * (m / 2)) = m := by omega
    rw [this]
    exact ladN_nought ht (show ladN n u % Pr % Pr = 0 from toF_eq.1 e1)
  · obtain ⟨y1, y2⟩ := num_ne h0
    have hb' : IsBase K (p.mul n) (toF (ladN n u % Pr)) := by rw [e1]; exact base_mul y1 y2
    exact ladN_num hf (p.mul n) m hm hb'
end Go.Bas
