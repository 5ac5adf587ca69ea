/-
  Graphs as lists of edges: with more edges, or from more nodes, no fewer are reached. No program in sight.
-/
import Derived.Test.YtlmdgmgbijfaoaaGrN
set_option linter.unusedVariables false
set_option linter.unusedSimpArgs false
namespace Go.Bas
section
variable {K : Type} [DecidableEq K] {E E' : List (K × K)} {fr fr' : List K}
theorem srch_mono (hE : ∀ e, e ∈ E → e ∈ E') (hf : ∀ x, x ∈ fr → x ∈ (srch E' fr').1) {x : K} (h : x ∈ (srch E fr).1) : x ∈ (srch E' fr').1 :=
  srch_least (P := fun x => x ∈ (srch E' fr').1) hf (fun _ _ hx he => srch_closed hx (hE _ he)) x h
theorem srch_union {f0 f1 : List K} {x : K} : x ∈ (srch E (f0 ++ f1)).1 ↔ x ∈ (srch E f0).1 ∨ x ∈ (srch E f1).1 := by
  constructor
  · intro h
    refine srch_least (P := fun x => x ∈ (srch E f0).1 ∨ x ∈ (srch E f1).1) (fun x hx => ?_) (fun x y hx he => ?_) x h
    · rw [List.mem_append] at hx
      exact hx.imp srch_from srch_from
    · exact hx.imp (fun h => srch_closed h he) fun h => srch_closed h he
  · rintro (h | h)
    · exact srch_mono (fun _ h => h) (fun x hx => srch_from (List.mem_append_left _ hx)) h
    · exact srch_mono (fun _ h => h) (fun x hx => srch_from (List.mem_append_right _ hx)) h
theorem visL_same (i : Int) (l : List K) (s : List K × List Int) (h : ∀ x, x ∈ l → x ∈ s.1) : l.foldl (vis i) s = s := by
  induction l with
  | nil => rfl
  | cons a l ih =>
    rw [List.foldl_cons, vis_in (h a (List.mem_cons_self ..))]
    exact ih fun x hx => h x (List.mem_cons_of_mem _ hx)
theorem visL_all (i : Int) : ∀ (l : List K) (s : List K × List Int), l.Nodup → (∀ x, x ∈ l → x ∉ s.1) → (l.foldl (vis i) s).1 = s.1 ++ l
  | [], s, _, _ => by simp
  | a :: l, s, hn, hs => by
    rw [List.nodup_cons] at hn
    rw [List.foldl_cons, vis_out (hs a (List.mem_cons_self ..)), visL_all i l _ hn.2 fun x hx hm => ?_]
    · simp
    · rw [List.mem_append, List.mem_singleton] at hm
      rcases hm with hm | rfl
      · exact hs x (List.mem_cons_of_mem _ hx) hm
      · exact hn.1 hx
/-- from what is reached nothing more is reached. -/
theorem srch_again : (srch E (srch E fr).1).1 = (srch E fr).1 := by
  obtain ⟨A, hA⟩ : ∃ A, A = (srch E fr).1 := ⟨_, rfl⟩
  have hn : A.Nodup := by rw [hA]; exact srch_nodup E fr
  have hc : ∀ x y, x ∈ A → (x, y) ∈ E → y ∈ A := fun x y hx he => by rw [hA] at hx ⊢; exact srch_closed hx he
  rw [← hA]
  have key : ∀ i, (seqS E A i).1 = A := by
    intro i
    induction i with
    | zero =>
      have := visL_all (-1) A (([], []) : List K × List Int) hn fun x _ hm => by cases hm
      rw [List.nil_append] at this
      exact this
    | succ i ih =>
      rw [seqS_succ]
      split
      · exact ih
      · rename_i x hx
        rw [visL_same]
        · exact ih
        · intro y hy
          rw [ih] at hx ⊢
          exact hc x y (List.mem_of_getElem? hx) (mem_tgt.1 hy)
  exact key _
theorem mem_addE {e x : K × K} : x ∈ addE E e ↔ x ∈ E ∨ x = e := by
  unfold addE
  split
  · rename_i h
    exact ⟨.inl, fun h' => h'.elim id fun e => e ▸ h⟩
  · rw [List.mem_append, List.mem_singleton]
theorem addL_mem (l : List (K × K)) : ∀ E : List (K × K), (∀ e, e ∈ E → e ∈ l.foldl addE E) := by
  induction l with
  | nil => intro E e h; exact h
  | cons a l ih => intro E e h; exact ih _ e (mem_addE.2 (.inl h))
theorem addL_len (l : List (K × K)) : ∀ E : List (K × K), (l.foldl addE E).length ≤ E.length + l.length := by
  induction l with
  | nil => intro E; exact Nat.le_refl _
  | cons a l ih =>
    intro E
    have h1 := ih (addE E a)
    have h2 : (addE E a).length ≤ E.length + 1 := by
      unfold addE
      split <;> simp
    rw [List.foldl_cons, List.length_cons]
    omega
end
end Go.Bas
