/-
  Sums by tables of words and states: a block that is told is checked step by step. No program in sight.
-/
import Derived.Test.YtgobodhcamgidaaSh10
set_option linter.unusedVariables false
set_option linter.unusedSimpArgs false
namespace Go.Bas
def lsI (l : List Int) (i : Nat) : Int := l.getD i 0
def rowI (l : List (List Int)) (t : Nat) (i : Nat) : Int := (l.getD t []).getD i 0
/-- words W, states S that begin with s, the numbers H behind them. -/
def okBlk (s : List Int) (W : List Int) (S : List (List Int)) (H : List Int) : Prop :=
  (∀ k : Fin 64, schW (lsI W k.val) (lsI W (k.val + 1)) (lsI W (k.val + 9)) (lsI W (k.val + 14)) = lsI W (16 + k.val)) ∧
  (∀ t : Fin 80, ∀ i : Fin 8, rdF (rowI S t.val) (kK t.val) (lsI W t.val) i.val = rowI S (t.val + 1) i.val) ∧
  (∀ i : Fin 8, rowI S 0 i.val = lsI s i.val) ∧ (∀ i : Fin 8, (lsI s i.val + rowI S 80 i.val) % M64 = lsI H i.val)
instance (s W : List Int) (S : List (List Int)) (H : List Int) : Decidable (okBlk s W S H) := by unfold okBlk; infer_instance
theorem tab_sch {W : List Int} (hr : ∀ k : Fin 64, schW (lsI W k.val) (lsI W (k.val + 1)) (lsI W (k.val + 9)) (lsI W (k.val + 14)) = lsI W (16 + k.val)) {f : Nat → Int} (h16 : ∀ i, i < 16 → m16 f i = lsI W i) : ∀ k, k ≤ 64 → ∀ i, i < 16 + k → schF (m16 f) 64 i = lsI W i := by
  intro k
  induction k with
  | zero =>
    intro _ i hi
    rw [schF_word _ (by omega)]
    exact h16 i (by omega)
  | succ k ih =>
    intro hk i hi
    by_cases e : i = 16 + k
    · subst e
      rw [schF_rec _ (by omega), ih (by omega) k (by omega), ih (by omega) (k + 1) (by omega), ih (by omega) (k + 9) (by omega), ih (by omega) (k + 14) (by omega)]
      exact hr ⟨k, by omega⟩
    · exact ih (by omega) i (by omega)
theorem tab_cmp {s W : List Int} {S : List (List Int)} {H : List Int} (ok : okBlk s W S H) {u f : Nat → Int} (hs : ∀ i, i < 8 → u i = lsI s i) (h16 : ∀ i, i < 16 → m16 f i = lsI W i) : ∀ i, i < 8 → cmpF u f i = lsI H i := by
  obtain ⟨h1, h2, h3, h4⟩ := ok
  have key : ∀ t, t ≤ 80 → ∀ i, i < 8 → rds64 kK (schF (m16 f) 64) u t i = rowI S t i := by
    intro t
    induction t with
    | zero => exact fun _ i hi => (hs i hi).trans (h3 ⟨i, hi⟩).symm
    | succ t ih =>
      intro ht i hi
      rw [rds64, rdF_congr (ih (by omega)) _ _ i hi, tab_sch h1 h16 64 (Nat.le_refl _) t (by omega)]
      exact h2 ⟨t, by omega⟩ ⟨i, hi⟩
  intro i hi
  unfold cmpF
  rw [hs i hi, key 80 (Nat.le_refl _) i hi]
  exact h4 ⟨i, hi⟩
/-- a sum of two blocks. -/
theorem tab_two {n : Nat} {f : Nat → Int} (hn : msgN n / 128 = 2) {W0 W1 : List Int} {S0 S1 : List (List Int)} {H0 H1 : List Int} (ok0 : okBlk beginL W0 S0 H0) (ok1 : okBlk H0 W1 S1 H1)
    (h0 : ∀ i, i < 16 → m16 (msgF n f) i = lsI W0 i) (h1 : ∀ i, i < 16 → m16 (fun j => msgF n f (128 + j)) i = lsI W1 i) : ∀ i, i < 64 → sumB n f i = lsI H1 (i / 8) / 2 ^ (8 * (7 - i % 8)) % 256 := by
  intro i hi
  unfold sumB
  rw [hn]
  have e0 : ∀ i, i < 8 → hashF (msgF n f) 1 i = lsI H0 i := by
    have := tab_cmp (u := kB) (f := fun j => msgF n f (128 * 0 + j)) ok0 (fun _ _ => rfl) (by simpa using h0)
    exact this
  have e1 : ∀ i, i < 8 → hashF (msgF n f) 2 i = lsI H1 i := tab_cmp (u := hashF (msgF n f) 1) (f := fun j => msgF n f (128 * 1 + j)) ok1 e0 h1
  rw [e1 _ (by omega)]
end Go.Bas
