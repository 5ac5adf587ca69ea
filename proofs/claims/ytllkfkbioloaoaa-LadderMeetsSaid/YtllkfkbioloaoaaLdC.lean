/-
  The ladder modulo the prime: numbers alike; a closed case reckoned. No program in sight.
-/
import Derived.Test.YtllkfkbioloaoaaLdN
set_option linter.unusedVariables false
set_option linter.unusedSimpArgs false
namespace Go.Bas
/-- alike modulo the prime. -/
def Cg (X Y : Int) : Prop := X % Pr = Y % Pr
theorem Cg.refl (X : Int) : Cg X X := rfl
theorem Cg.symm {X Y : Int} (h : Cg X Y) : Cg Y X := Eq.symm h
theorem Cg.trans {X Y Z : Int} (h : Cg X Y) (h' : Cg Y Z) : Cg X Z := Eq.trans h h'
theorem Cg.add {X Y X' Y' : Int} (h : Cg X Y) (h' : Cg X' Y') : Cg (X + X') (Y + Y') := by
  unfold Cg at *; rw [Int.add_emod, h, h', ← Int.add_emod]
theorem Cg.sub {X Y X' Y' : Int} (h : Cg X Y) (h' : Cg X' Y') : Cg (X - X') (Y - Y') := by
  unfold Cg at *; rw [Int.sub_emod, h, h', ← Int.sub_emod]
theorem Cg.mul {X Y X' Y' : Int} (h : Cg X Y) (h' : Cg X' Y') : Cg (X * X') (Y * Y') := by
  unfold Cg at *; rw [Int.mul_emod, h, h', ← Int.mul_emod]
theorem Cg.pow {X Y : Int} (h : Cg X Y) : ∀ n : Nat, Cg (X ^ n) (Y ^ n)
  | 0 => by rw [Int.pow_zero, Int.pow_zero]; exact Cg.refl 1
  | n + 1 => by rw [Int.pow_succ, Int.pow_succ]; exact (Cg.pow h n).mul h
theorem Cg.mod (X : Int) : Cg (X % Pr) X := Int.emod_emod_of_dvd _ (Int.dvd_refl Pr)
theorem Cg.dX {x z x' z' : Int} (h : Cg x x') (h' : Cg z z') : Cg (dX x z) (dX x' z') := ((h.add h').mul (h.add h')).mul ((h.sub h').mul (h.sub h'))
theorem Cg.dZ {x z x' z' : Int} (h : Cg x x') (h' : Cg z z') : Cg (dZ x z) (dZ x' z') :=
  have e := ((h.add h').mul (h.add h')).sub ((h.sub h').mul (h.sub h'))
  e.mul (((h.add h').mul (h.add h')).add ((Cg.refl 121665).mul e))
theorem Cg.sX {a b c d a' b' c' d' : Int} (ha : Cg a a') (hb : Cg b b') (hc : Cg c c') (hd : Cg d d') : Cg (sX a b c d) (sX a' b' c' d') :=
  have e := ((hc.sub hd).mul (ha.add hb)).add ((hc.add hd).mul (ha.sub hb))
  e.mul e
theorem Cg.sZ {u u' a b c d a' b' c' d' : Int} (hu : Cg u u') (ha : Cg a a') (hb : Cg b b') (hc : Cg c c') (hd : Cg d d') : Cg (sZ u a b c d) (sZ u' a' b' c' d') :=
  have e := ((hc.sub hd).mul (ha.add hb)).sub ((hc.add hd).mul (ha.sub hb))
  hu.mul (e.mul e)
def Two.Cg (s t : Two) : Prop := Bas.Cg s.a t.a ∧ Bas.Cg s.b t.b ∧ Bas.Cg s.c t.c ∧ Bas.Cg s.d t.d
theorem Two.Cg.rung {u u' : Int} {s t : Two} (hu : Bas.Cg u u') (h : s.Cg t) (b : Int) : (s.rung u b).Cg (t.rung u' b) := by
  obtain ⟨ha, hb, hc, hd⟩ := h
  unfold Two.rung
  split
  · exact ⟨ha.sX hb hc hd, hu.sZ ha hb hc hd, hc.dX hd, hc.dZ hd⟩
  · exact ⟨ha.dX hb, ha.dZ hb, ha.sX hb hc hd, hu.sZ ha hb hc hd⟩
theorem lad_cg {n u u' : Int} (hu : Cg u u') : ∀ k, (lad n u k).Cg (lad n u' k)
  | 0 => ⟨rfl, rfl, hu, rfl⟩
  | k + 1 => (lad_cg hu k).rung hu _
/-! reckoning with natural numbers -/
def nA (x y : Nat) : Nat := (x + y) % PN
def nS (x y : Nat) : Nat := (x + (PN - y)) % PN
def nM (x y : Nat) : Nat := x * y % PN
/-- a natural number below the prime stands for a number. -/
def Stands (n : Nat) (X : Int) : Prop := n < PN ∧ Cg (n : Int) X
theorem PN_pos : 0 < PN := by decide
theorem cast_mod (n : Nat) : Cg ((n % PN : Nat) : Int) (n : Int) := by rw [Int.natCast_emod, ← Pr_PN]; exact Cg.mod _
theorem Stands.add {m n : Nat} {X Y : Int} (h : Stands m X) (h' : Stands n Y) : Stands (nA m n) (X + Y) :=
  ⟨Nat.mod_lt _ PN_pos, (cast_mod _).trans (by rw [Int.natCast_add]; exact h.2.add h'.2)⟩
theorem Stands.mul {m n : Nat} {X Y : Int} (h : Stands m X) (h' : Stands n Y) : Stands (nM m n) (X * Y) :=
  ⟨Nat.mod_lt _ PN_pos, (cast_mod _).trans (by rw [Int.natCast_mul]; exact h.2.mul h'.2)⟩
theorem Stands.sub {m n : Nat} {X Y : Int} (h : Stands m X) (h' : Stands n Y) : Stands (nS m n) (X - Y) := by
  refine ⟨Nat.mod_lt _ PN_pos, (cast_mod _).trans (Cg.trans (Y := (m : Int) - (n : Int)) ?_ (h.2.sub h'.2))⟩
  have e : ((m + (PN - n) : Nat) : Int) = (m : Int) - (n : Int) + Pr * 1 := by rw [Pr_PN]; have := h'.1; omega
  unfold Cg
  rw [e, Int.add_mul_emod_self_left]
def nD (x z : Nat) : Nat × Nat :=
  let aa := nM (nA x z) (nA x z)
  let bb := nM (nS x z) (nS x z)
  let e := nS aa bb
  (nM aa bb, nM e (nA aa (nM 121665 e)))
def nSum (u a b c d : Nat) : Nat × Nat :=
  let p := nM (nS c d) (nA a b)
  let q := nM (nA c d) (nS a b)
  let s := nA p q
  let t := nS p q
  (nM s s, nM u (nM t t))
def ladE (n u : Nat) : Nat → Nat → Nat → Nat → Nat → Nat × Nat
  | 0, a, b, _, _ => (a, b)
  | k + 1, a, b, c, d => if n / 2 ^ k % 2 = 1 then ladE n u k (nSum u a b c d).1 (nSum u a b c d).2 (nD c d).1 (nD c d).2 else ladE n u k (nD a b).1 (nD a b).2 (nSum u a b c d).1 (nSum u a b c d).2
theorem Stands.nD {x z : Nat} {X Z : Int} (h : Stands x X) (h' : Stands z Z) : Stands (nD x z).1 (Bas.dX X Z) ∧ Stands (Bas.nD x z).2 (Bas.dZ X Z) :=
  have hf : Stands 121665 121665 := ⟨by decide, rfl⟩
  have e := ((h.add h').mul (h.add h')).sub ((h.sub h').mul (h.sub h'))
  ⟨((h.add h').mul (h.add h')).mul ((h.sub h').mul (h.sub h')), e.mul (((h.add h').mul (h.add h')).add (hf.mul e))⟩
theorem Stands.nSum {u a b c d : Nat} {U A B C D : Int} (hu : Stands u U) (ha : Stands a A) (hb : Stands b B) (hc : Stands c C) (hd : Stands d D) : Stands (nSum u a b c d).1 (Bas.sX A B C D) ∧ Stands (Bas.nSum u a b c d).2 (Bas.sZ U A B C D) :=
  have s := ((hc.sub hd).mul (ha.add hb)).add ((hc.add hd).mul (ha.sub hb))
  have t := ((hc.sub hd).mul (ha.add hb)).sub ((hc.add hd).mul (ha.sub hb))
  ⟨s.mul s, hu.mul (t.mul t)⟩
theorem ladE_stands {n u : Nat} {U : Int} (hu : Stands u U) : ∀ (k a b c d : Nat), k ≤ 255 → Stands a (lad n U (255 - k)).a → Stands b (lad n U (255 - k)).b → Stands c (lad n U (255 - k)).c → Stands d (lad n U (255 - k)).d →
    Stands (ladE n u k a b c d).1 (lad n U 255).a ∧ Stands (ladE n u k a b c d).2 (lad n U 255).b
  | 0, _, _, _, _, _, ha, hb, _, _ => ⟨ha, hb⟩
  | k + 1, a, b, c, d, hk, ha, hb, hc, hd => by
    have e : lad n U (255 - k) = (lad n U (255 - (k + 1))).rung U (((n / 2 ^ k % 2 : Nat)) : Int) := by
      rw [show 255 - k = 255 - (k + 1) + 1 by omega]
      show (lad n U (255 - (k + 1))).rung U ((n : Int) / 2 ^ (254 - (255 - (k + 1))) % 2) = _
      rw [show 254 - (255 - (k + 1)) = k by omega]
      simp
    obtain ⟨s, hs⟩ : ∃ s, s = lad n U (255 - (k + 1)) := ⟨_, rfl⟩
    rw [← hs] at e ha hb hc hd
    unfold ladE
    by_cases hb1 : n / 2 ^ k % 2 = 1
    · rw [if_pos hb1]
      rw [hb1] at e
      have e' : lad n U (255 - k) = ⟨sX s.a s.b s.c s.d, sZ U s.a s.b s.c s.d, dX s.c s.d, dZ s.c s.d⟩ := e
      have h1 := hu.nSum ha hb hc hd
      have h2 := hc.nD hd
      refine ladE_stands hu k _ _ _ _ (by omega) ?_ ?_ ?_ ?_ <;> rw [e']
      · exact h1.1
      · exact h1.2
      · exact h2.1
      · exact h2.2
    · rw [if_neg hb1]
      rw [show n / 2 ^ k % 2 = 0 by omega] at e
      have e' : lad n U (255 - k) = ⟨dX s.a s.b, dZ s.a s.b, sX s.a s.b s.c s.d, sZ U s.a s.b s.c s.d⟩ := e
      have h1 := hu.nSum ha hb hc hd
      have h2 := ha.nD hb
      refine ladE_stands hu k _ _ _ _ (by omega) ?_ ?_ ?_ ?_ <;> rw [e']
      · exact h2.1
      · exact h2.2
      · exact h1.1
      · exact h1.2
theorem ladE_start (n u : Nat) (hu : u < PN) : Stands (ladE n u 255 1 0 u 1).1 (lad n u 255).a ∧ Stands (ladE n u 255 1 0 u 1).2 (lad n u 255).b :=
  ladE_stands ⟨hu, rfl⟩ 255 1 0 u 1 (Nat.le_refl _) ⟨by decide, rfl⟩ ⟨by decide, rfl⟩ ⟨hu, rfl⟩ ⟨by decide, rfl⟩
theorem clamp_eight : clampN 8 = ((8 + 2 ^ 254 : Nat) : Int) := by decide +kernel
theorem lad_eight : (ladE (8 + 2 ^ 254) 9 255 1 0 9 1).1 ≠ 0 ∧ (ladE (8 + 2 ^ 254) 9 255 1 0 9 1).2 ≠ 0 := by decide +kernel
theorem Stands.ne {n : Nat} {X : Int} (h : Stands n X) (hn : n ≠ 0) : X % Pr ≠ 0 := by
  rw [← show (n : Int) % Pr = X % Pr from h.2, Pr_PN, ← Int.natCast_emod, Nat.mod_eq_of_lt h.1]
  omega
theorem inv_cg {X : Int} (Y : Int) (h : X % Pr ≠ 0) : Cg ((Y * X) * X ^ (PN - 2)) Y := by
  have h1 := inv_Pr h
  have e : (Y * X) * X ^ (PN - 2) = Y * (X ^ (PN - 2) * X) := by
    generalize X ^ (PN - 2) = I
    grind
  unfold Cg
  rw [e, Int.mul_emod, h1, Int.mul_one, Int.emod_emod_of_dvd _ (Int.dvd_refl Pr)]
theorem quot_ne {A B : Int} (ha : A % Pr ≠ 0) (hb : B % Pr ≠ 0) : A * B ^ (PN - 2) % Pr ≠ 0 := by
  intro h
  apply ha
  have h1 : Cg (A * B * B ^ (PN - 2)) A := inv_cg A hb
  have h2 : A * B * B ^ (PN - 2) = B * (A * B ^ (PN - 2)) := by rw [Int.mul_comm A B, Int.mul_assoc]
  have h3 : Cg (B * (A * B ^ (PN - 2))) (B * 0) := (Cg.refl B).mul (show _ % Pr = 0 % Pr by rw [h]; rfl)
  have h4 := (h1.symm.trans (h2 ▸ h3))
  unfold Cg at h4
  rw [h4, Int.mul_zero]; rfl
/-- the chapter's example has a key. -/
theorem awake_ne : ladN (clampN 8) (9 % 2 ^ 255) % Pr ≠ 0 := by
  have h := ladE_start (8 + 2 ^ 254) 9 (by decide)
  rw [clamp_eight, show (9 : Int) % 2 ^ 255 = ((9 : Nat) : Int) by decide]
  exact quot_ne (h.1.ne lad_eight.1) (h.2.ne lad_eight.2)
end Go.Bas
