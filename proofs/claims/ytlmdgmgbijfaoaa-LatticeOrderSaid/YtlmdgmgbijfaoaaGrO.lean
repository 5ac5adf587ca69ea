/-
  Graphs as lists of edges: an order in which every node precedes what it leads to. No program in sight.
-/
import Derived.Test.YtlmdgmgbijfaoaaGrN
set_option linter.unusedVariables false
set_option linter.unusedSimpArgs false
namespace Go.Bas
section
variable {K : Type}
/-- the values at places. -/
def atL (f : K → Int) (nd : List K) : Nat → Int := fun m => match nd[m]? with | some z => f z | none => 0
theorem atL_at {f : K → Int} {nd : List K} {m : Nat} {z : K} (h : nd[m]? = some z) : atL f nd m = f z := by unfold atL; rw [h]
end
theorem filter_split {α : Type} (p q r : α → Bool) (h : ∀ e, p e = (q e || r e) ∧ (q e && r e) = false) (E : List α) : (E.filter p).length = (E.filter q).length + (E.filter r).length := by
  induction E with
  | nil => rfl
  | cons e E ih =>
    obtain ⟨h1, h2⟩ := h e
    rw [List.filter_cons, List.filter_cons, List.filter_cons, h1]
    cases hq : q e <;> cases hr : r e
    · simpa using ih
    · simp
      omega
    · simp
      omega
    · rw [hq, hr] at h2
      cases h2
section
variable {K : Type} [DecidableEq K]
/-- z is not placed yet, and all that leads to it is. -/
def freeG (E : List (K × K)) (out : List K) (z : K) : Bool := decide (z ∉ out) && E.all fun e => !decide (e.2 = z) || decide (e.1 ∈ out)
/-- the first i nodes of the order, if there are that many. -/
def ordI (E : List (K × K)) : Nat → Option (List K)
  | 0 => some []
  | i + 1 => match ordI E i with
    | none => none
    | some out => match (nodesL E).find? (freeG E out) with
      | none => none
      | some z => some (out ++ [z])
theorem freeG_iff {E : List (K × K)} {out : List K} {z : K} : freeG E out z = true ↔ z ∉ out ∧ ∀ e, e ∈ E → e.2 = z → e.1 ∈ out := by
  unfold freeG
  simp only [Bool.and_eq_true, decide_eq_true_eq, List.all_eq_true, Bool.or_eq_true, Bool.not_eq_true', decide_eq_false_iff_not]
  constructor
  · rintro ⟨h1, h2⟩
    exact ⟨h1, fun e he h => (h2 e he).resolve_left fun h' => h' h⟩
  · rintro ⟨h1, h2⟩
    refine ⟨h1, fun e he => ?_⟩
    by_cases h : e.2 = z
    · exact .inr (h2 e he h)
    · exact .inl h
theorem ordI_none {E : List (K × K)} {i : Nat} (h : ordI E i = none) (d : Nat) : ordI E (i + d) = none := by
  induction d with
  | zero => exact h
  | succ d ih => rw [← Nat.add_assoc, ordI, ih]
/-- what is placed is closed, has no node twice, and holds nodes. -/
theorem ordI_inv {E : List (K × K)} : ∀ (i : Nat) (out : List K), ordI E i = some out → out.length = i ∧ out.Nodup ∧ (∀ z, z ∈ out → z ∈ nodesL E) ∧ ∀ e, e ∈ E → e.2 ∈ out → e.1 ∈ out := by
  intro i
  induction i with
  | zero => intro out h; cases h; exact ⟨rfl, List.nodup_nil, (fun z hz => by cases hz), fun e _ he => by cases he⟩
  | succ i ih =>
    intro out h
    rw [ordI] at h
    cases ho : ordI E i with
    | none => rw [ho] at h; cases h
    | some o =>
      rw [ho] at h
      cases hf : (nodesL E).find? (freeG E o) with
      | none => simp only [hf] at h; cases h
      | some z =>
        simp only [hf, Option.some.injEq] at h
        subst h
        obtain ⟨h1, h2, h3, h4⟩ := ih o ho
        have hz := freeG_iff.1 (List.find?_some hf)
        have hzm := List.mem_of_find?_eq_some hf
        refine ⟨by simp [h1], ?_, fun y hy => ?_, fun e he hy => ?_⟩
        · rw [List.nodup_append]
          exact ⟨h2, by simp, fun a ha b hb => by simp at hb; subst hb; intro e; subst e; exact hz.1 ha⟩
        · rw [List.mem_append, List.mem_singleton] at hy
          exact hy.elim (h3 y) fun e => e ▸ hzm
        · rw [List.mem_append, List.mem_singleton] at hy
          rw [List.mem_append]
          exact .inl (hy.elim (h4 e he) (hz.2 e he))
/-- of the nodes that lead to z, how many are not placed yet; -1: z is placed. -/
def insO (E : List (K × K)) (out : List K) (z : K) : Int := if z ∈ out then -1 else ((E.filter fun e => decide (e.2 = z) && decide (e.1 ∉ out)).length : Int)
theorem insO_zero {E : List (K × K)} {out : List K} {z : K} : insO E out z = 0 ↔ freeG E out z = true := by
  rw [freeG_iff]
  unfold insO
  by_cases h : z ∈ out
  · rw [if_pos h]
    exact ⟨(fun e => by cases e), fun h' => absurd h h'.1⟩
  · rw [if_neg h]
    constructor
    · intro e
      refine ⟨h, fun e' he hz => ?_⟩
      have h0 : (E.filter fun e => decide (e.2 = z) && decide (e.1 ∉ out)) = [] := List.eq_nil_of_length_eq_zero (by omega)
      by_cases hm : e'.1 ∈ out
      · exact hm
      · have : e' ∈ E.filter fun e => decide (e.2 = z) && decide (e.1 ∉ out) := List.mem_filter.2 ⟨he, by simp [hz, hm]⟩
        rw [h0] at this
        cases this
    · rintro ⟨_, h2⟩
      have h0 : (E.filter fun e => decide (e.2 = z) && decide (e.1 ∉ out)) = [] := by
        apply List.eq_nil_iff_forall_not_mem.2
        intro e he
        have := List.mem_filter.1 he
        simp at this
        exact this.2.2 (h2 e this.1 this.2.1)
      rw [h0]
      rfl
theorem count_tgt (E : List (K × K)) (x z : K) : (tgt E x).count z = (E.filter fun e => decide (e.2 = z) && decide (e.1 = x)).length := by
  induction E using list_snoc with
  | h0 => rfl
  | h1 E e ih =>
    rw [tgt_snoc, List.filter_append, List.length_append]
    by_cases h1 : e.1 = x <;> by_cases h2 : e.2 = z
    · rw [if_pos h1, List.count_append, ih]
      simp [h1, h2]
    · rw [if_pos h1, List.count_append, ih]
      simp [h2, List.count_cons]
    · rw [if_neg h1, ih]
      simp [h1]
    · rw [if_neg h1, ih]
      simp [h1]
/-- x is placed: what it leads to loses as many. -/
theorem insO_step {E : List (K × K)} {out : List K} {x : K} (hx : freeG E out x = true) (hc : ∀ e, e ∈ E → e.2 ∈ out → e.1 ∈ out) (z : K) :
    insO E (out ++ [x]) z = (if z = x then -1 else insO E out z) - ((tgt E x).count z : Int) := by
  have hf := freeG_iff.1 hx
  have hz0 : ∀ z, (z ∈ out ∨ z = x) → (tgt E x).count z = 0 := fun z hz => by
    apply List.count_eq_zero_of_not_mem
    intro hm
    have he := mem_tgt.1 hm
    have h1 : x ∈ out := by
      rcases hz with hz | rfl
      · exact hc _ he hz
      · exact hf.2 _ he rfl
    exact hf.1 h1
  by_cases h1 : z = x
  · subst h1
    rw [if_pos rfl, hz0 z (.inr rfl)]
    unfold insO
    rw [if_pos (by simp)]
    rfl
  · rw [if_neg h1]
    unfold insO
    by_cases h2 : z ∈ out
    · rw [if_pos (by simp [h2]), if_pos h2, hz0 z (.inl h2)]
      rfl
    · rw [if_neg (by simp [h1, h2]), if_neg h2, count_tgt]
      have key := filter_split (fun e : K × K => decide (e.2 = z) && decide (e.1 ∉ out)) (fun e => decide (e.2 = z) && decide (e.1 ∉ out ++ [x])) (fun e => decide (e.2 = z) && decide (e.1 = x)) (fun e => by
        by_cases q1 : e.2 = z
        · by_cases q2 : e.1 = x
          · simp [q1, q2, hf.1]
          · by_cases q3 : e.1 ∈ out <;> simp [q1, q2, q3]
        · simp [q1]) E
      omega
/-- at first: how many lead to a node. -/
theorem count_osW {nd : List K} {E : List (K × K)} (hn : nd.Nodup) (hs : ∀ e, e ∈ E → e.1 ∈ nd ∧ e.2 ∈ nd) {j : Nat} {z : K} (hz : nd[j]? = some z) : ((osW nd E).flatten.count j : Int) = insO E [] z := by
  have e1 : insO E [] z = ((E.filter fun e => decide (e.2 = z)).length : Int) := by
    unfold insO
    rw [if_neg (by simp)]
    simp
  rw [e1]
  have hset : ∀ (os : List (List Nat)) (a : Nat) (l : List Nat) (m : Nat), os[a]? = some l → (os.set a (l ++ [m])).flatten.count j = os.flatten.count j + (if m = j then 1 else 0) := by
    intro os
    induction os with
    | nil => intro a l m h; simp at h
    | cons o os ih =>
      intro a l m h
      cases a with
      | zero =>
        simp at h
        subst h
        simp [List.count_append, List.count_cons]
        omega
      | succ a =>
        simp at h
        simp only [List.set_cons_succ, List.flatten_cons, List.count_append]
        rw [ih a l m h]
        omega
  induction E using list_snoc with
  | h0 =>
    have : (osW nd ([] : List (K × K))).flatten.count j = 0 := by
      apply List.count_eq_zero_of_not_mem
      intro h
      obtain ⟨l, hl, hj⟩ := List.mem_flatten.1 h
      unfold osW at hl
      obtain ⟨z', _, rfl⟩ := List.mem_map.1 hl
      simp [tgt] at hj
    rw [this]
    rfl
  | h1 E e ih =>
    have hs' : ∀ e, e ∈ E → e.1 ∈ nd ∧ e.2 ∈ nd := fun e' he' => hs e' (List.mem_append_left _ he')
    have he := hs e (by simp)
    obtain ⟨x, y⟩ := e
    rw [← osW_link hn he.1, hset _ _ _ _ (osW_at (plc_get he.1))]
    have h2 : insO E [] z = ((E.filter fun e => decide (e.2 = z)).length : Int) := by
      unfold insO
      rw [if_neg (by simp)]
      simp
    have h3 : ((osW nd E).flatten.count j : Int) = ((E.filter fun e => decide (e.2 = z)).length : Int) := ih hs' h2
    clear e1 ih h2
    rw [List.filter_append, List.length_append, Int.natCast_add, Int.natCast_add, h3]
    by_cases q : y = z
    · have q2 : plc nd y = j := by rw [q]; exact plc_at hn hz
      rw [if_pos q2, List.filter_cons_of_pos (by simpa using q)]
      rfl
    · have q2 : ¬ plc nd y = j := fun h => q (by
        have := plc_get he.2
        rw [h, hz] at this
        exact (Option.some.inj this).symm)
      rw [if_neg q2, List.filter_cons_of_neg (by simpa using q)]
      rfl
theorem flatten_len {c : Nat} : ∀ (os : List (List Nat)), (∀ l, l ∈ os → l.length ≤ c) → os.flatten.length ≤ os.length * c
  | [], _ => Nat.zero_le _
  | o :: os, h => by
    have h1 := flatten_len os fun l hl => h l (List.mem_cons_of_mem _ hl)
    have h2 := h o (List.mem_cons_self ..)
    rw [List.flatten_cons, List.length_append, List.length_cons, Nat.succ_mul]
    omega
theorem ord_none {E : List (K × K)} {out : List K} (h : (nodesL E).find? (freeG E out) = none) : fidx ((nodesL E).map (insO E out)) 0 = -1 := by
  unfold fidx
  rw [if_neg]
  intro hm
  obtain ⟨z, hz, e⟩ := List.mem_map.1 hm
  have := List.find?_eq_none.1 h z hz
  exact this (insO_zero.1 e)
theorem ord_some {E : List (K × K)} {out : List K} {z : K} (h : (nodesL E).find? (freeG E out) = some z) : ∃ j : Nat, (nodesL E)[j]? = some z ∧ fidx ((nodesL E).map (insO E out)) 0 = j := by
  have hz := List.mem_of_find?_eq_some h
  have hf := List.find?_some h
  refine ⟨plc (nodesL E) z, plc_get hz, fidx_at (by rw [List.getElem?_map, plc_get hz]; exact congrArg some (insO_zero.2 hf)) fun i hi e => ?_⟩
  rw [List.getElem?_map, Option.map_eq_some_iff] at e
  obtain ⟨y, hy, e2⟩ := e
  have hyf := insO_zero.1 e2
  obtain ⟨_, as, bs, hab, hno⟩ := List.find?_eq_some_iff_append.1 h
  have hn : (nodesL E).Nodup := nodesL_nodup E
  have hp : plc (nodesL E) z = as.length := plc_at hn (by rw [hab]; simp)
  have : y ∈ as := by
    rw [hab, List.getElem?_append_left (by omega)] at hy
    exact List.mem_of_getElem? hy
  have h2 := hno y this
  rw [hyf] at h2
  cases h2
theorem insO_bound (E : List (K × K)) (out : List K) (z : K) : -1 ≤ insO E out z ∧ insO E out z ≤ E.length := by
  unfold insO
  split
  · omega
  · have := List.length_filter_le (fun e : K × K => decide (e.2 = z) && decide (e.1 ∉ out)) E
    omega
end
end Go.Bas
