/-
  Lists of byte strings (slices of slices) as functions; slice literals and slices of slices in drawn regions. No program in sight.
-/
import Derived.Test.YtpcjekgfnfjbpaaFlow
import Derived.Great.BuildSlice
set_option linter.unusedVariables false
set_option linter.unusedSimpArgs false
namespace Go.Bas
open Go.RowKit
/-- how many bytes the first j texts have. -/
def offs (lens : Nat → Nat) : Nat → Nat
  | 0 => 0
  | j + 1 => offs lens j + lens j
theorem offs_mono (lens : Nat → Nat) {i j : Nat} (h : i ≤ j) : offs lens i ≤ offs lens j := by
  induction j with
  | zero => obtain rfl : i = 0 := by omega
            exact Nat.le_refl _
  | succ j ih =>
    by_cases e : i = j + 1
    · subst e; exact Nat.le_refl _
    · have := ih (by omega); rw [offs]; omega
/-- v is a list of m texts; text j reads as g j 0 .. g j (lens j - 1). -/
def Txt (w : World) (v : Value) (m : Nat) (lens : Nat → Nat) (g : Nat → Nat → Int) : Prop :=
  ∃ a c, v = .slice a m c ∧ m ≤ c ∧ c ≤ 9223372036854775807 ∧ (0 < m → ∃ b o, a = some ⟨b, o, none⟩ ∧ b < w.heap.size ∧ ∀ j, j < m → ∃ u, w.cell? ⟨b, o + j, none⟩ = some u ∧ Rd .u8 w u (lens j) (g j))
theorem Txt.below {w w' : World} {v : Value} {m : Nat} {lens : Nat → Nat} {g : Nat → Nat → Int} (h : Txt w v m lens g) (hb : Below w.heap.size w w') : Txt w' v m lens g := by
  obtain ⟨a, c, rfl, h1, h2, h3⟩ := h
  refine ⟨a, c, rfl, h1, h2, fun hm => ?_⟩
  obtain ⟨b, o, rfl, hlt, hc⟩ := h3 hm
  have := hb.size
  refine ⟨b, o, rfl, by omega, fun j hj => ?_⟩
  obtain ⟨u, hu, hr⟩ := hc j hj
  exact ⟨u, (hb.cell (p := ⟨b, o + j, none⟩) hlt).trans hu, hr.below hb⟩
theorem Txt.nil (w : World) (lens : Nat → Nat) (g : Nat → Nat → Int) : Txt w (.slice none 0 0) 0 lens g :=
  ⟨none, 0, rfl, Nat.le_refl _, by omega, fun h => by omega⟩
theorem Txt.new {w : World} {T : TypeId} {cs : Array Value} {m : Nat} {lens : Nat → Nat} {g : Nat → Nat → Int} (hm : m ≤ 9223372036854775807) (hc : ∀ j, j < m → ∃ u, cs[j]? = some u ∧ Rd .u8 w u (lens j) (g j)) :
    Txt (w.alloc (.cells cs T)) (.slice (some ⟨w.heap.size, 0, none⟩) m m) m lens g := by
  refine ⟨_, _, rfl, Nat.le_refl _, hm, fun _ => ⟨_, 0, rfl, by simp, fun j hj => ?_⟩⟩
  obtain ⟨u, hu, hr⟩ := hc j hj
  exact ⟨u, by rw [Nat.zero_add, cell_of_row _ _ _ cs T (0, 0) (heap_alloc_new w _)]; exact hu, hr.below ((Below.refl _ _).alloc (Nat.le_refl _) _)⟩

section
variable {P : Program} {a : Act} {w : World} {o : Oper}
/-- a literal of values of one cell each. -/
theorem flow_lits {S : Value → World → Prop} {Q : Exit → Act → World → Prop} (T e : TypeId) (n : Nat) (parts : Array (Nat × Operand)) (vs : List Value) (ho : o.op = .buildSlice T n parts)
    (hu : P.underlying T = some (.slice e)) (hsz : (P.info? e).map (·.size) = some 1) (hz : ((P.info? e).bind (·.zero)).isSome = true) (hn : vs.length = n) (hpos : 0 < n) (hsmall : n ≤ 2 ^ 24)
    (hone : ∀ v ∈ vs, v.cells = #[v]) (hparts : (parts.map fun (i, x) => (i, a.eval x)).toList = (vs.zipIdx 0).map fun x => (x.2, x.1)) (hd : o.dst ≠ none)
    (hS : S (.slice (some ⟨w.heap.size, 0, none⟩) n n) (w.alloc (.cells vs.toArray e))) :
    o.wp P a w (fun a' w' => ∃ v, a' = a.put o.dst v ∧ (o.dst = none → v = undef) ∧ S v w' ∧ Below w.heap.size w w') Q := by
  subst hn
  cases hie : P.info? e with
  | none => simp [hie] at hsz
  | some ie =>
    simp only [hie, Option.map_some, Option.some.injEq, Option.bind_some] at hsz hz
    obtain ⟨z, hzz⟩ := Option.isSome_iff_exists.1 hz
    refine wp_buildSlice T e vs.length parts ho vs.toArray ie z hu hie hzz (by rw [hsz]; omega) (by rw [hsz]; omega) ?_ ⟨_, rfl, fun h => absurd h hd, hS, (Below.refl _ _).alloc (Nat.le_refl _) _⟩
    rw [hparts, hsz]
    exact Great.fill_flat _ _ hone (by simp)
/-- a part of a slice. -/
theorem run_slice_part {T : TypeId} {x : Operand} {lo hi mx : Option Operand} {v u : Value} (ho : o.op = .slice T x lo hi mx) (hx : a.eval x = v)
    (h : (Instr.sliceAt T v (lo.map a.eval) (hi.map a.eval) (mx.map a.eval)).run P w = .ok u w) : (execOp a.eval o).run P w = .ok (.value u) w := by
  unfold execOp
  simp only [ho, hx, Sem.run_bind, h, Result.andThen_ok, Sem.run_pure]
/-- 's[:hi]', its value. -/
theorem Rd.head {P : Program} {t e : TypeId} {k : IntKind} {bytes : Nat} (ht : P.underlying t = some (.slice e)) (hinfo : (P.info? e).map (fun i => (i.zero, i.size, i.bytes)) = some (some (.int k 0), 1, bytes))
    (a : Option Addr) (n c hi : Nat) (h2 : hi ≤ n) (h3 : n ≤ c) :
    (∀ w, (Instr.sliceAt t (.slice a n c) none (some (.int .i64 (hi : Int))) none).run P w = .ok (.slice a hi c) w) ∧
      ∀ (w : World) (f : Nat → Int), Rd k w (.slice a n c) n f → Rd k w (.slice a hi c) hi f := by
  have hel := elem_of ht
  have ht' : P.underlying t = some (.slice (P.elem t)) := by rw [hel]; exact ht
  refine ⟨fun w => ?_, fun w f hr => ?_⟩
  · rw [run_sliceAt_slice w t _ _ _ _ ht', run_slice_h w t a n c ht' .i64 hi (by omega) (by omega), hel, run_sizeOf_of hinfo]
    simp [Result.andThen, sliced]
    intro hc
    cases a with
    | none => rfl
    | some x => cases x; simp [Addr.add]
  · obtain ⟨a0, c0, he, l1, l2, l3, l4⟩ := hr
    simp only [Value.slice.injEq, true_and] at he
    obtain ⟨rfl, rfl⟩ := he
    refine ⟨_, _, rfl, by omega, l2, l3, fun hm => ?_⟩
    obtain ⟨b, o, rfl, hlt, hcell⟩ := l4 (by omega)
    exact ⟨b, o, rfl, hlt, fun i hi => hcell i (by omega)⟩
end
def lens3 (i n : Nat) : Nat → Nat := fun j => if j = 0 then i else if j = 1 then 0 else n - i
def text3 (f : Nat → Int) (i : Nat) : Nat → Nat → Int := fun j x => if j = 0 then f x else if j = 1 then 0 else f (i + x)
theorem cut3 {f : Nat → Int} {i n : Nat} (h : i ≤ n) : (∀ j, j < 3 → ∀ x, x < lens3 i n j → f (offs (lens3 i n) j + x) = text3 f i j x) ∧ offs (lens3 i n) 3 = n := by
  constructor
  · intro j hj x hx
    rcases (by omega : j = 0 ∨ j = 1 ∨ j = 2) with rfl | rfl | rfl
    · simp [offs, text3]
    · simp [lens3] at hx
    · simp [offs, lens3, text3]
  · simp [offs, lens3]; omega
theorem cut1 {f : Nat → Int} {n : Nat} : (∀ j, j < 1 → ∀ x, x < (fun _ => n : Nat → Nat) j → f (offs (fun _ => n) j + x) = (fun _ => f : Nat → Nat → Int) j x) ∧ offs (fun _ => n) 1 = n := by
  constructor
  · intro j hj x hx
    obtain rfl : j = 0 := by omega
    simp [offs]
  · simp [offs]
theorem new1 {w w' : World} {v : Value} {n : Nat} {f : Nat → Int} {T : TypeId} (h : Rd .u8 w v n f) (hb : Below w.heap.size w w') : Txt (w'.alloc (.cells [v].toArray T)) (.slice (some ⟨w'.heap.size, 0, none⟩) 1 1) 1 (fun _ => n) (fun _ => f) :=
  Txt.new (by decide) fun j hj => ⟨v, by obtain rfl : j = 0 := by omega
                                         rfl, h.below hb⟩
theorem new3 {w w' : World} {v u : Value} {i n : Nat} {f : Nat → Int} {T : TypeId} (h : Rd .u8 w v i f) (h' : Rd .u8 w u (n - i) (fun x => f (i + x))) (hb : Below w.heap.size w w') : Txt (w'.alloc (.cells [v, .slice none 0 0, u].toArray T)) (.slice (some ⟨w'.heap.size, 0, none⟩) 3 3) 3 (lens3 i n) (text3 f i) :=
  Txt.new (by decide) fun j hj => by
    rcases (by omega : j = 0 ∨ j = 1 ∨ j = 2) with rfl | rfl | rfl
    · exact ⟨v, rfl, h.below hb⟩
    · exact ⟨_, rfl, Rd.nil _ _ _⟩
    · exact ⟨u, rfl, h'.below hb⟩
end Go.Bas
