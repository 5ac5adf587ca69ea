/-
  Lists of rows of cells (slices of structs or arrays), and how an argument that is one is opened. No program in sight.
-/
import Derived.Test.YtlmdgmgbijfaoaaOpenT
import Derived.Deep.Strs
set_option linter.unusedVariables false
set_option linter.unusedSimpArgs false
namespace Go.Bas
open Go.RowKit Go.ChangeShapes Go.WideShapes Go.ChangeAt
/-- v is a list of m rows of c cells: cell i of row j is q j i. -/
def Mat (w : World) (v : Value) (m c : Nat) (q : Nat → Nat → Value) : Prop :=
  ∃ a cap, v = .slice a m cap ∧ m ≤ cap ∧ cap ≤ 9223372036854775807 ∧ (0 < m → ∃ b o, a = some ⟨b, o, none⟩ ∧ b < w.heap.size ∧ ∀ j, j < m → ∀ i, i < c → w.cell? ⟨b, o + j * c + i, none⟩ = some (q j i))
theorem Mat.below {w w' : World} {v : Value} {m c : Nat} {q : Nat → Nat → Value} (h : Mat w v m c q) (hb : Below w.heap.size w w') : Mat w' v m c q := by
  obtain ⟨a, cap, rfl, h1, h2, h3⟩ := h
  refine ⟨a, cap, rfl, h1, h2, fun hm => ?_⟩
  obtain ⟨b, o, rfl, hlt, hc⟩ := h3 hm
  have := hb.size
  exact ⟨b, o, rfl, by omega, fun j hj i hi => (hb.cell (p := ⟨b, o + j * c + i, none⟩) hlt).trans (hc j hj i hi)⟩
section
variable {H : Type} {enc : TypeId × Value → H} {P : Program} {w : World} {base : Nat} {spare : Nat → Bool} {held : Bool}
theorem open_mat {t e : TypeId} {c : Nat} {v : Value} {d : DataW H} {p : List MemPlace} (ht : P.underlying t = some (.slice e)) (hc : P.cellsOf e = c) (hc0 : 0 < c)
    {b0 : Nat} (hv : Value.okWide P w .any b0 t v) (h : DataW.Trod enc P w base spare held t v d p) :
    ∃ m q, Mat w v m c q ∧ ∀ j, j < m → ∃ fuel y, DataW.trod enc P w base spare held fuel e ((List.range c).map (q j)) = some y := by
  obtain ⟨a, len, cap, rfl⟩ := okWide_slice ht hv
  obtain ⟨fuel, hf⟩ := h
  rcases Go.Deep.open_slice ht hf with ⟨hcs, _⟩ | ⟨ad, l, c', m, n, D, Pl, hcs', _, hl, hm, hmm, _, hel⟩
  · simp [Value.cells] at hcs
    obtain ⟨rfl, rfl, rfl⟩ := hcs
    exact ⟨0, fun _ _ => undef, ⟨none, 0, rfl, Nat.le_refl _, by omega, fun h => by omega⟩, fun j hj => by omega⟩
  · simp [Value.cells] at hcs'
    obtain ⟨rfl, rfl, rfl⟩ := hcs'
    unfold maxLen at hm
    have hle : len ≤ m := by rw [hmm]; split <;> omega
    have each : ∀ j, j < len → ∃ cs' : List Value, cs'.length = c ∧ (∀ i, i < c → w.cell? (ad.add (j * c + i)) = cs'[i]?) ∧ ∃ y, DataW.trod enc P w base spare held n e cs' = some y := by
      intro j hj
      obtain ⟨cs', hce, htr⟩ := hel j (by omega)
      rw [hc] at hce
      obtain ⟨_, hl1, hat⟩ := World.cells?_some hce
      refine ⟨cs', hl1, fun i hi => ?_, _, htr⟩
      rw [← hat i hi, Go.Deep.add_add]
    classical
    by_cases hn : 0 < len
    · obtain ⟨c0, hl0, hat0, _⟩ := each 0 hn
      have h0 := hat0 0 hc0
      rw [List.getElem?_eq_getElem (by omega)] at h0
      obtain ⟨b, o, sp⟩ := ad
      have hsp : sp = none := by simpa [Addr.add] using World.cell?_spot h0
      subst hsp
      have hadd : ∀ i, (⟨b, o, none⟩ : Addr).add i = ⟨b, o + i, none⟩ := fun i => by unfold Addr.add; split <;> simp_all
      refine ⟨len, fun j i => if h : j < len then (Classical.choose (each j h)).getD i undef else undef, ⟨_, _, rfl, hl, by omega, fun _ => ⟨b, o, rfl, ?_, fun j hj i hi => ?_⟩⟩, fun j hj => ?_⟩
      · have := World.block_lt_of_cell? w _ h0
        simpa [hadd] using this
      · have hs := Classical.choose_spec (each j hj)
        have h1 := hs.2.1 i hi
        rw [hadd, ← Nat.add_assoc] at h1
        rw [h1]
        dsimp only
        rw [dif_pos hj, List.getD_eq_getElem?_getD, List.getElem?_eq_getElem (by rw [hs.1]; exact hi)]
        rfl
      · have hs := Classical.choose_spec (each j hj)
        obtain ⟨y, hy⟩ := hs.2.2
        refine ⟨n, y, ?_⟩
        rw [← hy]
        congr 1
        apply List.ext_getElem?
        intro i
        by_cases hi : i < c
        · rw [List.getElem?_map, List.getElem?_range hi, Option.map_some]
          dsimp only
          rw [dif_pos hj, List.getD_eq_getElem?_getD, List.getElem?_eq_getElem (by rw [hs.1]; exact hi)]
          rfl
        · rw [List.getElem?_eq_none (by simp; omega), List.getElem?_eq_none (by rw [hs.1]; omega)]
    · obtain rfl : len = 0 := by omega
      exact ⟨0, fun _ _ => undef, ⟨_, _, rfl, by omega, by omega, fun h => absurd h hn⟩, fun j hj => by omega⟩
/-- v is a list of m deeds: kinds, numbers, texts. -/
def Dos (w : World) (v : Value) (m : Nat) (kd nn : Nat → Int) (lens : Nat → Nat) (g : Nat → Nat → Int) : Prop :=
  ∃ q, Mat w v m 3 q ∧ ∀ j, j < m → q j 0 = .int .i64 (kd j) ∧ q j 1 = .int .i64 (nn j) ∧ Rd .u8 w (q j 2) (lens j) (g j)
theorem Dos.below {w w' : World} {v : Value} {m : Nat} {kd nn : Nat → Int} {lens : Nat → Nat} {g : Nat → Nat → Int} (h : Dos w v m kd nn lens g) (hb : Below w.heap.size w w') : Dos w' v m kd nn lens g := by
  obtain ⟨q, h1, h2⟩ := h
  exact ⟨q, h1.below hb, fun j hj => ⟨(h2 j hj).1, (h2 j hj).2.1, (h2 j hj).2.2.below hb⟩⟩
/-- what is asked of a list of deeds' integers. -/
def DosB (m : Nat) (kd nn : Nat → Int) (lens : Nat → Nat) (g : Nat → Nat → Int) : Prop :=
  ∀ j, j < m → (Lit.int .i64 (kd j)).wf = true ∧ (Lit.int .i64 (nn j)).wf = true ∧ ∀ i, i < lens j → (Lit.int .u8 (g j i)).wf = true
theorem open_dos {t e : TypeId} {f0 f1 f2 : Field} {eb : TypeId} {v : Value} {d : DataW H} {p : List MemPlace} (ht : P.underlying t = some (.slice e)) (he : P.underlying e = some (.struct #[f0, f1, f2])) (hc : P.cellsOf e = 3)
    (ho : (f0.offset, f1.offset, f2.offset) = (0, 1, 2)) (hk : (P.cellsOf f0.type, P.cellsOf f1.type, P.cellsOf f2.type) = (1, 1, 1)) (h0 : P.underlying f0.type = some (.int .i64)) (h1 : P.underlying f1.type = some (.int .i64)) (h2 : P.underlying f2.type = some (.slice eb)) (h3 : P.underlying eb = some (.int .u8)) (h4 : P.cellsOf eb = 1)
    {b0 : Nat} (hv : Value.okWide P w .any b0 t v) (h : DataW.Trod enc P w base spare held t v d p) :
    ∃ m kd nn lens g, Dos w v m kd nn lens g ∧ DosB m kd nn lens g := by
  obtain ⟨m, q, hq, htr⟩ := open_mat ht hc (by decide) hv h
  simp only [Prod.mk.injEq] at ho hk
  have each : ∀ j, j < m → ∃ (k n : Int) (l : Nat) (f : Nat → Int), q j 0 = .int .i64 k ∧ q j 1 = .int .i64 n ∧ Rd .u8 w (q j 2) l f ∧ (Lit.int .i64 k).wf = true ∧ (Lit.int .i64 n).wf = true ∧ ∀ i, i < l → (Lit.int .u8 (f i)).wf = true := by
    intro j hj
    obtain ⟨fuel, y, hy⟩ := htr j hj
    obtain ⟨y0, y1, y2, n', _, _, e0, e1, e2⟩ := Go.Deep.trod_struct3 he hy
    rw [ho.1, hk.1] at e0
    rw [ho.2.1, hk.2.1] at e1
    rw [ho.2.2, hk.2.2] at e2
    obtain ⟨k, hk0, _, wk⟩ := DataW.trod_int h0 e0
    obtain ⟨n, hn0, _, wn⟩ := DataW.trod_int h1 e1
    obtain ⟨u, l, f, hu, hr, hb⟩ := trod_rd h2 h3 h4 e2
    simp [List.range_succ] at hk0 hn0 hu
    subst hu
    exact ⟨k, n, l, f, hk0, hn0, hr, wk, wn, hb⟩
  classical
  refine ⟨m, fun j => if h : j < m then Classical.choose (each j h) else 0, fun j => if h : j < m then Classical.choose (Classical.choose_spec (each j h)) else 0, fun j => if h : j < m then Classical.choose (Classical.choose_spec (Classical.choose_spec (each j h))) else 0, fun j => if h : j < m then Classical.choose (Classical.choose_spec (Classical.choose_spec (Classical.choose_spec (each j h)))) else fun _ => 0, ⟨q, hq, fun j hj => ?_⟩, fun j hj => ?_⟩
  · have hs := Classical.choose_spec (Classical.choose_spec (Classical.choose_spec (Classical.choose_spec (each j hj))))
    simp only [dif_pos hj]
    exact ⟨hs.1, hs.2.1, hs.2.2.1⟩
  · have hs := Classical.choose_spec (Classical.choose_spec (Classical.choose_spec (Classical.choose_spec (each j hj))))
    simp only [dif_pos hj]
    exact ⟨hs.2.2.2.1, hs.2.2.2.2.1, hs.2.2.2.2.2⟩
end
end Go.Bas
