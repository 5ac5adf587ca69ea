/-
  Graphs as lists of edges: nodes, targets, the search from nodes, paths. No program in sight.
-/
namespace Go.Bas
theorem nodup_inj {K : Type} {l : List K} (h : l.Nodup) {i j : Nat} (hi : i < l.length) (hj : j < l.length) (e : l[i] = l[j]) : i = j := by
  have hp := List.pairwise_iff_getElem.1 h
  rcases Nat.lt_trichotomy i j with h1 | h1 | h1
  · exact absurd e (hp i j hi hj h1)
  · exact h1
  · exact absurd e.symm (hp j i hj hi h1)
section
variable {K : Type} [DecidableEq K]
theorem nodup_len {l m : List K} (hn : l.Nodup) (hs : ∀ x, x ∈ l → x ∈ m) : l.length ≤ m.length := by
  induction l generalizing m with
  | nil => exact Nat.zero_le _
  | cons a l ih =>
    rw [List.nodup_cons] at hn
    have ha : a ∈ m := hs a (List.mem_cons_self ..)
    have h := ih (m := m.erase a) hn.2 fun x hx => (List.mem_erase_of_ne (by rintro rfl; exact hn.1 hx)).2 (hs x (List.mem_cons_of_mem _ hx))
    rw [List.length_erase_of_mem ha] at h
    have : 0 < m.length := List.length_pos_of_mem ha
    simp only [List.length_cons]
    omega
/-- one more node, if it is new. -/
def addN (nd : List K) (x : K) : List K := if x ∈ nd then nd else nd ++ [x]
/-- the nodes of edges, as they are first named. -/
def nodesL (E : List (K × K)) : List K := E.foldl (fun nd e => addN (addN nd e.1) e.2) []
/-- one more edge, if it is new. -/
def addE (E : List (K × K)) (e : K × K) : List (K × K) := if e ∈ E then E else E ++ [e]
/-- edges, each once. -/
def onceL (l : List (K × K)) : List (K × K) := l.foldl addE []
/-- what an edge leads to from x, in order. -/
def tgt (E : List (K × K)) (x : K) : List K := (E.filter fun e => e.1 = x).map (·.2)
theorem mem_addN {nd : List K} {x y : K} : y ∈ addN nd x ↔ y ∈ nd ∨ y = x := by
  unfold addN
  split
  · rename_i h
    exact ⟨.inl, fun h' => h'.elim id fun e => e ▸ h⟩
  · simp
theorem addN_prefix (nd : List K) (x : K) : nd <+: addN nd x := by
  unfold addN
  split
  · exact List.prefix_refl _
  · exact List.prefix_append _ _
theorem addN_nodup {nd : List K} (h : nd.Nodup) (x : K) : (addN nd x).Nodup := by
  unfold addN
  split
  · exact h
  · rename_i hx
    rw [List.nodup_append]
    exact ⟨h, by simp, fun a ha b hb => by simp at hb; subst hb; intro e; subst e; exact hx ha⟩
theorem addN_len (nd : List K) (x : K) : (addN nd x).length ≤ nd.length + 1 := by
  unfold addN
  split <;> simp
theorem addN_same {nd : List K} {x : K} (h : x ∈ nd) : addN nd x = nd := if_pos h
theorem addN_new {nd : List K} {x : K} (h : x ∉ nd) : addN nd x = nd ++ [x] := if_neg h
theorem nodesL_snoc (E : List (K × K)) (e : K × K) : nodesL (E ++ [e]) = addN (addN (nodesL E) e.1) e.2 := by
  unfold nodesL
  rw [List.foldl_append]
  rfl
theorem list_snoc {α : Type} {P : List α → Prop} (h0 : P []) (h1 : ∀ l a, P l → P (l ++ [a])) (l : List α) : P l := by
  have key : ∀ (m : List α), P m.reverse := fun m => by
    induction m with
    | nil => exact h0
    | cons a m ih => rw [List.reverse_cons]; exact h1 _ _ ih
  have := key l.reverse
  rwa [List.reverse_reverse] at this
theorem nodesL_nodup (E : List (K × K)) : (nodesL E).Nodup := by
  induction E using list_snoc with
  | h0 => exact List.nodup_nil
  | h1 E e ih => rw [nodesL_snoc]; exact addN_nodup (addN_nodup ih _) _
theorem nodesL_len (E : List (K × K)) : (nodesL E).length ≤ 2 * E.length := by
  induction E using list_snoc with
  | h0 => exact Nat.le_refl _
  | h1 E e ih =>
    rw [nodesL_snoc]
    have h1 := addN_len (addN (nodesL E) e.1) e.2
    have h2 := addN_len (nodesL E) e.1
    simp only [List.length_append, List.length_singleton]
    omega
theorem mem_nodesL {E : List (K × K)} {x : K} : x ∈ nodesL E ↔ ∃ e ∈ E, e.1 = x ∨ e.2 = x := by
  induction E using list_snoc with
  | h0 => simp [nodesL]
  | h1 E e ih =>
    rw [nodesL_snoc, mem_addN, mem_addN, ih]
    constructor
    · rintro ((⟨e', h1, h2⟩ | h) | h)
      · exact ⟨e', by simp [h1], h2⟩
      · exact ⟨e, by simp, .inl h.symm⟩
      · exact ⟨e, by simp, .inr h.symm⟩
    · rintro ⟨e', h1, h2⟩
      rw [List.mem_append, List.mem_singleton] at h1
      rcases h1 with h1 | rfl
      · exact .inl (.inl ⟨e', h1, h2⟩)
      · rcases h2 with h2 | h2
        · exact .inl (.inr h2.symm)
        · exact .inr h2.symm
theorem mem_tgt {E : List (K × K)} {x y : K} : y ∈ tgt E x ↔ (x, y) ∈ E := by
  unfold tgt
  simp only [List.mem_map, List.mem_filter, decide_eq_true_eq]
  constructor
  · rintro ⟨⟨a, b⟩, ⟨h1, h2⟩, h3⟩
    simp only at h2 h3
    rw [← h2, ← h3]
    exact h1
  · intro h
    exact ⟨(x, y), ⟨h, rfl⟩, rfl⟩
theorem tgt_snoc (E : List (K × K)) (e : K × K) (x : K) : tgt (E ++ [e]) x = if e.1 = x then tgt E x ++ [e.2] else tgt E x := by
  unfold tgt
  rw [List.filter_append, List.map_append]
  by_cases h : e.1 = x <;> simp [h]
theorem tgt_len (E : List (K × K)) (x : K) : (tgt E x).length ≤ E.length := by
  unfold tgt
  rw [List.length_map]
  exact List.length_filter_le _ _
theorem onceL_snoc (l : List (K × K)) (e : K × K) : onceL (l ++ [e]) = addE (onceL l) e := by
  unfold onceL
  rw [List.foldl_append]
  rfl
theorem onceL_len (l : List (K × K)) : (onceL l).length ≤ l.length := by
  induction l using list_snoc with
  | h0 => exact Nat.le_refl _
  | h1 l e ih =>
    rw [onceL_snoc]
    unfold addE
    split <;> simp <;> omega
theorem mem_onceL {l : List (K × K)} : ∀ {e : K × K}, e ∈ onceL l ↔ e ∈ l := by
  induction l using list_snoc with
  | h0 => intro e; simp [onceL]
  | h1 l a ih =>
    intro e
    rw [onceL_snoc]
    unfold addE
    split
    · rename_i h
      rw [ih, List.mem_append, List.mem_singleton]
      rw [ih] at h
      exact ⟨.inl, fun h' => h'.elim id fun e => e ▸ h⟩
    · rw [List.mem_append, ih, List.mem_append]
/-- the place of x. -/
def plc (L : List K) (x : K) : Nat := L.idxOf x
theorem plc_lt {L : List K} {x : K} (h : x ∈ L) : plc L x < L.length := List.idxOf_lt_length_iff.2 h
theorem plc_get {L : List K} {x : K} (h : x ∈ L) : L[plc L x]? = some x := by
  unfold plc
  rw [List.getElem?_eq_getElem (List.idxOf_lt_length_iff.2 h), List.getElem_idxOf]
theorem plc_at {L : List K} (hn : L.Nodup) {j : Nat} {x : K} (h : L[j]? = some x) : plc L x = j := by
  obtain ⟨hj, he⟩ := List.getElem?_eq_some_iff.1 h
  have hm : x ∈ L := List.mem_of_getElem? h
  obtain ⟨h1, h2⟩ := List.getElem?_eq_some_iff.1 (plc_get hm)
  exact nodup_inj hn h1 hj (h2.trans he.symm)
theorem plc_prefix {L M : List K} (hn : M.Nodup) (hp : L <+: M) {x : K} (h : x ∈ L) : plc M x = plc L x := by
  obtain ⟨t, rfl⟩ := hp
  refine plc_at hn ?_
  rw [List.getElem?_append_left (plc_lt h)]
  exact plc_get h
/-- how many nodes an edge would add. -/
def newG (nd : List K) (x y : K) : Int := (if x ∈ nd then 0 else 1) + (if y ∈ nd ∨ y = x then 0 else 1)
/-- is there an edge. -/
def hasG (nd : List K) (os : List (List Nat)) (x y : K) : Prop := x ∈ nd ∧ y ∈ nd ∧ ∃ l, os[plc nd x]? = some l ∧ plc nd y ∈ l
theorem newG_00 {nd : List K} {x y : K} (h1 : x ∈ nd) (h2 : y ∈ nd) : newG nd x y = 0 := by unfold newG; rw [if_pos h1, if_pos (.inl h2)]; rfl
theorem newG_01 {nd : List K} {x y : K} (h1 : x ∈ nd) (h2 : y ∉ nd) : newG nd x y = 1 := by unfold newG; rw [if_pos h1, if_neg (fun h => h.elim h2 fun e => h2 (e ▸ h1))]; rfl
theorem newG_10 {nd : List K} {x y : K} (h1 : x ∉ nd) (h2 : y ∈ nd) : newG nd x y = 1 := by unfold newG; rw [if_neg h1, if_pos (.inl h2)]; rfl
theorem newG_11 {nd : List K} {x y : K} (h1 : x ∉ nd) (h2 : y ∉ nd) (h : y = x) : newG nd x y = 1 := by unfold newG; rw [if_neg h1, if_pos (.inr h)]; rfl
theorem newG_12 {nd : List K} {x y : K} (h1 : x ∉ nd) (h2 : y ∉ nd) (h : y ≠ x) : newG nd x y = 2 := by unfold newG; rw [if_neg h1, if_neg (fun h' => h'.elim h2 h)]; rfl
/-- where x stands, or -1. -/
def fidx (L : List K) (x : K) : Int := if x ∈ L then (L.idxOf x : Int) else -1
theorem fidx_at {L : List K} {x : K} {j : Nat} (h : L[j]? = some x) (hn : ∀ i, i < j → L[i]? ≠ some x) : fidx L x = j := by
  obtain ⟨hj, he⟩ := List.getElem?_eq_some_iff.1 h
  have hm : x ∈ L := List.mem_of_getElem? h
  unfold fidx
  rw [if_pos hm]
  have h1 : L.idxOf x < L.length := List.idxOf_lt_length_iff.2 hm
  have h2 : L[L.idxOf x]? = some x := by rw [List.getElem?_eq_getElem h1, List.getElem_idxOf]
  have h3 : ¬ L.idxOf x < j := fun hl => hn _ hl h2
  have h4 : ¬ j < L.idxOf x := fun hl => by
    have := List.not_of_lt_findIdx (p := fun y => y == x) (xs := L) hl
    simp [he] at this
  omega
theorem prefix_get {α : Type} {l m : List α} (h : l <+: m) {i : Nat} {x : α} (hx : l[i]? = some x) : m[i]? = some x := by
  obtain ⟨t, rfl⟩ := h
  rw [List.getElem?_append_left (List.getElem?_eq_some_iff.1 hx).1]
  exact hx
theorem prefix_mem {α : Type} {l m : List α} (h : l <+: m) {x : α} (hx : x ∈ l) : x ∈ m := by
  obtain ⟨t, rfl⟩ := h
  exact List.mem_append_left _ hx
/-! ### the lists of places -/
/-- what each node leads to, as places. -/
def osW (nd : List K) (E : List (K × K)) : List (List Nat) := nd.map fun z => (tgt E z).map (plc nd)
def osL (E : List (K × K)) : List (List Nat) := osW (nodesL E) E
theorem osW_len (nd : List K) (E : List (K × K)) : (osW nd E).length = nd.length := List.length_map ..
theorem osW_at {nd : List K} {E : List (K × K)} {j : Nat} {z : K} (h : nd[j]? = some z) : (osW nd E)[j]? = some ((tgt E z).map (plc nd)) := by
  unfold osW
  rw [List.getElem?_map, h]
  rfl
theorem tgt_none {E : List (K × K)} {x : K} (h : x ∉ nodesL E) : tgt E x = [] := by
  apply List.eq_nil_iff_forall_not_mem.2
  intro y hy
  exact h (mem_nodesL.2 ⟨_, mem_tgt.1 hy, .inl rfl⟩)
theorem tgt_nodes {E : List (K × K)} {x y : K} (h : y ∈ tgt E x) : y ∈ nodesL E := mem_nodesL.2 ⟨_, mem_tgt.1 h, .inr rfl⟩
/-- one more node, that leads nowhere. -/
theorem osW_addN {nd : List K} {E : List (K × K)} (hn : nd.Nodup) (hs : nodesL E <+: nd) (x : K) (os' : List (List Nat)) (h : (x ∈ nd ∧ os' = osW nd E) ∨ (x ∉ nd ∧ os' = osW nd E ++ [[]])) : os' = osW (addN nd x) E ∧ (addN nd x).Nodup ∧ nodesL E <+: addN nd x := by
  refine ⟨?_, addN_nodup hn x, hs.trans (addN_prefix nd x)⟩
  rcases h with ⟨h1, rfl⟩ | ⟨h1, rfl⟩
  · rw [addN_same h1]
  · have hn2 := addN_nodup hn x
    rw [addN_new h1] at hn2 ⊢
    unfold osW
    rw [List.map_append, List.map_singleton, tgt_none fun h => h1 (prefix_mem hs h)]
    congr 1
    refine List.map_congr_left fun z hz => List.map_congr_left fun y hy => ?_
    exact (plc_prefix hn2 (List.prefix_append _ _) (prefix_mem hs (tgt_nodes hy))).symm
/-- the edge is there. -/
theorem osW_link {nd : List K} {E : List (K × K)} (hn : nd.Nodup) {x y : K} (hx : x ∈ nd) : (osW nd E).set (plc nd x) ((tgt E x).map (plc nd) ++ [plc nd y]) = osW nd (E ++ [(x, y)]) := by
  apply List.ext_getElem?
  intro j
  by_cases hj : j < nd.length
  · obtain ⟨z, hz⟩ : ∃ z, nd[j]? = some z := ⟨_, List.getElem?_eq_getElem hj⟩
    rw [osW_at hz, tgt_snoc]
    by_cases he : plc nd x = j
    · subst he
      rw [plc_get hx] at hz
      cases hz
      rw [if_pos rfl, List.getElem?_set_self (by rw [osW_len]; exact hj), List.map_append]
      rfl
    · rw [List.getElem?_set_ne he, osW_at hz, if_neg]
      rintro rfl
      exact he (plc_at hn hz)
  · rw [List.getElem?_eq_none (by rw [List.length_set, osW_len]; omega), List.getElem?_eq_none (by rw [osW_len]; omega)]
theorem hasG_iff {E : List (K × K)} {x y : K} : hasG (nodesL E) (osL E) x y ↔ (x, y) ∈ E := by
  constructor
  · rintro ⟨hx, hy, l, hl, hm⟩
    unfold osL at hl
    rw [osW_at (plc_get hx)] at hl
    cases hl
    obtain ⟨z, hz, e⟩ := List.mem_map.1 hm
    have h1 := plc_get (tgt_nodes hz)
    rw [e, plc_get hy] at h1
    cases h1
    exact mem_tgt.1 hz
  · intro h
    have hx : x ∈ nodesL E := mem_nodesL.2 ⟨_, h, .inl rfl⟩
    have hy : y ∈ nodesL E := mem_nodesL.2 ⟨_, h, .inr rfl⟩
    exact ⟨hx, hy, _, osW_at (plc_get hx), List.mem_map.2 ⟨y, mem_tgt.2 h, rfl⟩⟩
theorem newG_le (nd : List K) (x y : K) : 0 ≤ newG nd x y ∧ newG nd x y ≤ 2 := by
  unfold newG
  split <;> split <;> omega
/-! ### the search -/
def vis (i : Int) (s : List K × List Int) (k : K) : List K × List Int := if k ∈ s.1 then s else (s.1 ++ [k], s.2 ++ [i])
def seqI (fr : List K) : List K × List Int := fr.foldl (vis (-1)) ([], [])
def seqS (E : List (K × K)) (fr : List K) : Nat → List K × List Int
  | 0 => seqI fr
  | i + 1 => match (seqS E fr i).1[i]? with
    | none => seqS E fr i
    | some x => (tgt E x).foldl (vis i) (seqS E fr i)
/-- all that is come to, and by what. -/
def srch (E : List (K × K)) (fr : List K) : List K × List Int := seqS E fr (fr.length + E.length)
theorem vis_mem (i : Int) (s : List K × List Int) (k x : K) : x ∈ (vis i s k).1 ↔ x ∈ s.1 ∨ x = k := by
  unfold vis
  split
  · rename_i h
    exact ⟨.inl, fun h' => h'.elim id fun e => e ▸ h⟩
  · simp
theorem visL_mem (i : Int) (l : List K) (s : List K × List Int) (x : K) : x ∈ (l.foldl (vis i) s).1 ↔ x ∈ s.1 ∨ x ∈ l := by
  induction l generalizing s with
  | nil => simp
  | cons a l ih => rw [List.foldl_cons, ih, vis_mem, List.mem_cons, or_assoc]
theorem visL_prefix (i : Int) (l : List K) (s : List K × List Int) : s.1 <+: (l.foldl (vis i) s).1 ∧ s.2 <+: (l.foldl (vis i) s).2 := by
  induction l generalizing s with
  | nil => exact ⟨List.prefix_refl _, List.prefix_refl _⟩
  | cons a l ih =>
    rw [List.foldl_cons]
    have h1 : s.1 <+: (vis i s a).1 ∧ s.2 <+: (vis i s a).2 := by
      unfold vis
      split
      · exact ⟨List.prefix_refl _, List.prefix_refl _⟩
      · exact ⟨List.prefix_append _ _, List.prefix_append _ _⟩
    exact ⟨h1.1.trans (ih _).1, h1.2.trans (ih _).2⟩
theorem visL_nodup (i : Int) (l : List K) (s : List K × List Int) (h : s.1.Nodup) : (l.foldl (vis i) s).1.Nodup := by
  induction l generalizing s with
  | nil => exact h
  | cons a l ih =>
    rw [List.foldl_cons]
    refine ih _ ?_
    unfold vis
    split
    · exact h
    · rename_i ha
      rw [List.nodup_append]
      exact ⟨h, by simp, fun x hx b hb => by simp at hb; subst hb; intro e; subst e; exact ha hx⟩
theorem visL_len (i : Int) (l : List K) (s : List K × List Int) (h : s.1.length = s.2.length) : (l.foldl (vis i) s).1.length = (l.foldl (vis i) s).2.length := by
  induction l generalizing s with
  | nil => exact h
  | cons a l ih =>
    rw [List.foldl_cons]
    refine ih _ ?_
    unfold vis
    split
    · exact h
    · simp [h]
theorem visL_bound (i : Int) (l : List K) (s : List K × List Int) : (l.foldl (vis i) s).1.length ≤ s.1.length + l.length := by
  induction l generalizing s with
  | nil => exact Nat.le_refl _
  | cons a l ih =>
    rw [List.foldl_cons]
    have h1 := ih (vis i s a)
    have h2 : (vis i s a).1.length ≤ s.1.length + 1 := by
      unfold vis
      split <;> simp
    simp only [List.length_cons]
    omega
theorem visL_snoc {i : Int} {l : List K} {s : List K × List Int} {k : Nat} {x : K} (hx : l[k]? = some x) : (l.take (k + 1)).foldl (vis i) s = vis i ((l.take k).foldl (vis i) s) x := by
  rw [List.take_add_one, hx, List.foldl_append]
  rfl
theorem vis_in {i : Int} {s : List K × List Int} {x : K} (h : x ∈ s.1) : vis i s x = s := if_pos h
theorem vis_out {i : Int} {s : List K × List Int} {x : K} (h : x ∉ s.1) : vis i s x = (s.1 ++ [x], s.2 ++ [i]) := if_neg h
/-- what is new was put there by i. -/
theorem visL_by (i : Int) (l : List K) (s : List K × List Int) (h : s.1.length = s.2.length) (j : Nat) (b : Int) (x : K) (hb : (l.foldl (vis i) s).2[j]? = some b) (hx : (l.foldl (vis i) s).1[j]? = some x) :
    (s.2[j]? = some b ∧ s.1[j]? = some x) ∨ (s.1.length ≤ j ∧ b = i ∧ x ∈ l) := by
  induction l generalizing s with
  | nil => exact .inl ⟨hb, hx⟩
  | cons a l ih =>
    rw [List.foldl_cons] at hb hx
    by_cases ha : a ∈ s.1
    · have e : vis i s a = s := if_pos ha
      rw [e] at hb hx
      rcases ih s h hb hx with h1 | ⟨h1, h2, h3⟩
      · exact .inl h1
      · exact .inr ⟨h1, h2, List.mem_cons_of_mem _ h3⟩
    · have e : vis i s a = (s.1 ++ [a], s.2 ++ [i]) := if_neg ha
      rw [e] at hb hx
      rcases ih (s.1 ++ [a], s.2 ++ [i]) (by simp [h]) hb hx with ⟨h1, h2⟩ | ⟨h1, h2, h3⟩
      · by_cases hj : j < s.1.length
        · rw [List.getElem?_append_left (by omega)] at h1
          rw [List.getElem?_append_left hj] at h2
          exact .inl ⟨h1, h2⟩
        · rw [List.getElem?_append_right (by omega)] at h1
          rw [List.getElem?_append_right (by omega)] at h2
          have hj0 : j - s.1.length = 0 := by
            have := (List.getElem?_eq_some_iff.1 h2).1
            simp at this
            omega
          rw [show j - s.2.length = 0 by omega] at h1
          rw [hj0] at h2
          simp at h1 h2
          exact .inr ⟨by omega, h1.symm, by rw [← h2]; exact List.mem_cons_self ..⟩
      · refine .inr ⟨?_, h2, List.mem_cons_of_mem _ h3⟩
        simp at h1
        omega
variable {E : List (K × K)} {fr : List K}
theorem seqS_succ (i : Nat) : seqS E fr (i + 1) = match (seqS E fr i).1[i]? with
    | none => seqS E fr i
    | some x => (tgt E x).foldl (vis i) (seqS E fr i) := rfl
theorem seqS_some {i : Nat} {x : K} (h : (seqS E fr i).1[i]? = some x) : seqS E fr (i + 1) = (tgt E x).foldl (vis i) (seqS E fr i) := by rw [seqS_succ, h]
theorem seqS_none {i : Nat} (h : (seqS E fr i).1.length ≤ i) : seqS E fr (i + 1) = seqS E fr i := by rw [seqS_succ, List.getElem?_eq_none h]
theorem seqS_prefix1 (i : Nat) : (seqS E fr i).1 <+: (seqS E fr (i + 1)).1 ∧ (seqS E fr i).2 <+: (seqS E fr (i + 1)).2 := by
  rw [seqS_succ]
  split
  · exact ⟨List.prefix_refl _, List.prefix_refl _⟩
  · exact visL_prefix _ _ _
theorem seqS_prefix (i d : Nat) : (seqS E fr i).1 <+: (seqS E fr (i + d)).1 ∧ (seqS E fr i).2 <+: (seqS E fr (i + d)).2 := by
  induction d with
  | zero => exact ⟨List.prefix_refl _, List.prefix_refl _⟩
  | succ d ih => exact ⟨ih.1.trans (seqS_prefix1 _).1, ih.2.trans (seqS_prefix1 _).2⟩
theorem seqS_nodup (i : Nat) : (seqS E fr i).1.Nodup := by
  induction i with
  | zero => exact visL_nodup _ _ _ List.nodup_nil
  | succ i ih =>
    rw [seqS_succ]
    split
    · exact ih
    · exact visL_nodup _ _ _ ih
theorem seqS_len (i : Nat) : (seqS E fr i).1.length = (seqS E fr i).2.length := by
  induction i with
  | zero => exact visL_len _ _ _ rfl
  | succ i ih =>
    rw [seqS_succ]
    split
    · exact ih
    · exact visL_len _ _ _ ih
theorem seqS_mem (i : Nat) (x : K) (h : x ∈ (seqS E fr i).1) : x ∈ fr ∨ ∃ e ∈ E, e.2 = x := by
  induction i with
  | zero =>
    rcases (visL_mem _ _ _ _).1 h with h | h
    · cases h
    · exact .inl h
  | succ i ih =>
    rw [seqS_succ] at h
    split at h
    · exact ih h
    · rcases (visL_mem _ _ _ _).1 h with h | h
      · exact ih h
      · exact .inr ⟨_, mem_tgt.1 h, rfl⟩
theorem seqS_bound (i : Nat) : (seqS E fr i).1.length ≤ fr.length + E.length := by
  have h := nodup_len (m := fr ++ E.map (·.2)) (seqS_nodup (E := E) (fr := fr) i) fun x hx => by
    rcases seqS_mem i x hx with h | ⟨e, h1, h2⟩
    · exact List.mem_append_left _ h
    · exact List.mem_append_right _ (List.mem_map.2 ⟨e, h1, h2⟩)
  simpa using h
theorem seqS_stop {i : Nat} (h : (seqS E fr i).1.length ≤ i) (d : Nat) : seqS E fr (i + d) = seqS E fr i := by
  induction d with
  | zero => rfl
  | succ d ih =>
    show seqS E fr (i + d + 1) = _
    rw [seqS_none (by rw [ih]; omega), ih]
/-- where the loop ends. -/
theorem seqS_end {i : Nat} (h : (seqS E fr i).1.length = i) : srch E fr = seqS E fr i := by
  have hb := seqS_bound (E := E) (fr := fr) i
  have := seqS_stop (Nat.le_of_eq h) (fr.length + E.length - i)
  unfold srch
  rw [← this]
  congr 1
  omega
theorem seqS_srch (i : Nat) : (seqS E fr i).1 <+: (srch E fr).1 ∧ (seqS E fr i).2 <+: (srch E fr).2 := by
  by_cases h : i ≤ fr.length + E.length
  · have := seqS_prefix (E := E) (fr := fr) i (fr.length + E.length - i)
    rw [show i + (fr.length + E.length - i) = fr.length + E.length by omega] at this
    exact this
  · have h2 := seqS_stop (seqS_bound (E := E) (fr := fr) (fr.length + E.length)) (i - (fr.length + E.length))
    rw [show fr.length + E.length + (i - (fr.length + E.length)) = i by omega] at h2
    rw [h2]
    exact ⟨List.prefix_refl _, List.prefix_refl _⟩
theorem srch_nodup (E : List (K × K)) (fr : List K) : (srch E fr).1.Nodup := seqS_nodup _
theorem srch_len (E : List (K × K)) (fr : List K) : (srch E fr).1.length = (srch E fr).2.length := seqS_len _
theorem srch_bound (E : List (K × K)) (fr : List K) : (srch E fr).1.length ≤ fr.length + E.length := seqS_bound _
/-- the round of a place that is there at last has been gone. -/
theorem srch_round {j : Nat} {x : K} (h : (srch E fr).1[j]? = some x) : (seqS E fr j).1[j]? = some x := by
  have hlt : j < (seqS E fr j).1.length := by
    by_cases hl : j < (seqS E fr j).1.length
    · exact hl
    · exfalso
      have hl' : (seqS E fr j).1.length ≤ j := by omega
      have hj := (List.getElem?_eq_some_iff.1 h).1
      have hb := srch_bound E fr
      have h2 := seqS_stop hl' (fr.length + E.length - j)
      rw [show j + (fr.length + E.length - j) = fr.length + E.length by omega] at h2
      have h3 : srch E fr = seqS E fr j := h2
      rw [h3] at hj
      omega
  have h1 := prefix_get (seqS_srch j).1 (List.getElem?_eq_getElem hlt)
  rw [h] at h1
  rw [List.getElem?_eq_getElem hlt]
  exact h1.symm
/-- all that is led to from there is there. -/
theorem srch_closed {x y : K} (hx : x ∈ (srch E fr).1) (he : (x, y) ∈ E) : y ∈ (srch E fr).1 := by
  obtain ⟨j, hj, rfl⟩ := List.mem_iff_getElem.1 hx
  have h1 := srch_round (List.getElem?_eq_getElem hj)
  have h2 := seqS_some h1
  have h3 : y ∈ (seqS E fr (j + 1)).1 := by
    rw [h2, visL_mem]
    exact .inr (mem_tgt.2 he)
  exact prefix_mem (seqS_srch (j + 1)).1 h3
theorem srch_from {x : K} (hx : x ∈ fr) : x ∈ (srch E fr).1 := by
  refine prefix_mem (seqS_srch 0).1 ?_
  show x ∈ (seqI fr).1
  unfold seqI
  rw [visL_mem]
  exact .inr hx
/-- what every set that holds the nodes and is closed holds. -/
theorem srch_least {P : K → Prop} (h0 : ∀ x, x ∈ fr → P x) (h1 : ∀ x y, P x → (x, y) ∈ E → P y) : ∀ x, x ∈ (srch E fr).1 → P x := by
  have key : ∀ i, ∀ x, x ∈ (seqS E fr i).1 → P x := by
    intro i
    induction i with
    | zero =>
      intro x hx
      rcases (visL_mem _ _ _ _).1 hx with h | h
      · cases h
      · exact h0 x h
    | succ i ih =>
      intro x hx
      rw [seqS_succ] at hx
      split at hx
      · exact ih x hx
      · rename_i y hy
        rcases (visL_mem _ _ _ _).1 hx with h | h
        · exact ih x h
        · exact h1 y x (ih y (List.mem_of_getElem? hy)) (mem_tgt.1 h)
  exact key _
/-- by what a node was come to: from nowhere, or by an edge from an earlier one; and those come in order. -/
theorem seqS_by (i : Nat) : ∀ (j : Nat) (b : Int) (x : K), (seqS E fr i).2[j]? = some b → (seqS E fr i).1[j]? = some x →
    (b = -1 ∧ x ∈ fr) ∨ ∃ a : Nat, b = a ∧ a < j ∧ a < i ∧ ∃ y, (seqS E fr i).1[a]? = some y ∧ (y, x) ∈ E := by
  induction i with
  | zero =>
    intro j b x hb hx
    rcases visL_by (-1) fr ([], []) rfl j b x hb hx with ⟨h1, _⟩ | ⟨_, h2, h3⟩
    · simp at h1
    · exact .inl ⟨h2, h3⟩
  | succ i ih =>
    intro j b x hb hx
    cases hy : (seqS E fr i).1[i]? with
    | none =>
      rw [seqS_none (by rw [List.getElem?_eq_none_iff] at hy; exact hy)] at hb hx ⊢
      rcases ih j b x hb hx with h | ⟨a, h1, h2, h3, h4⟩
      · exact .inl h
      · exact .inr ⟨a, h1, h2, by omega, h4⟩
    | some y =>
      have hp := (seqS_prefix1 (E := E) (fr := fr) i).1
      have hs := seqS_some hy
      rw [hs] at hb hx
      rcases visL_by i (tgt E y) _ (seqS_len i) j b x hb hx with ⟨h1, h2⟩ | ⟨h1, h2, h3⟩
      · rcases ih j b x h1 h2 with h | ⟨a, h3, h4, h5, z, h6, h7⟩
        · exact .inl h
        · exact .inr ⟨a, h3, h4, by omega, z, prefix_get hp h6, h7⟩
      · exact .inr ⟨i, h2, Nat.lt_of_lt_of_le (List.getElem?_eq_some_iff.1 hy).1 h1, by omega, y, prefix_get hp hy, mem_tgt.1 h3⟩
theorem srch_by {j : Nat} {b : Int} {x : K} (hb : (srch E fr).2[j]? = some b) (hx : (srch E fr).1[j]? = some x) :
    (b = -1 ∧ x ∈ fr) ∨ ∃ a : Nat, b = a ∧ a < j ∧ ∃ y, (srch E fr).1[a]? = some y ∧ (y, x) ∈ E := by
  rcases seqS_by _ j b x hb hx with h | ⟨a, h1, h2, _, h4⟩
  · exact .inl h
  · exact .inr ⟨a, h1, h2, h4⟩
theorem seqS_up (i : Nat) : ∀ (j : Nat) (b : Int), (seqS E fr i).2[j]? = some b → b < i := by
  intro j b hb
  have hj : j < (seqS E fr i).1.length := by rw [seqS_len]; exact (List.getElem?_eq_some_iff.1 hb).1
  rcases seqS_by i j b _ hb (List.getElem?_eq_getElem hj) with ⟨h, _⟩ | ⟨a, h1, _, h3, _⟩ <;> omega
theorem seqS_sorted (i : Nat) : ∀ (j j' : Nat) (b b' : Int), j ≤ j' → (seqS E fr i).2[j]? = some b → (seqS E fr i).2[j']? = some b' → b ≤ b' := by
  induction i with
  | zero =>
    intro j j' b b' _ hb hb'
    have key : ∀ (j : Nat) (b : Int), (seqS E fr 0).2[j]? = some b → b = -1 := fun j b hb => by
      have hj : j < (seqS E fr 0).1.length := by rw [seqS_len]; exact (List.getElem?_eq_some_iff.1 hb).1
      rcases seqS_by 0 j b _ hb (List.getElem?_eq_getElem hj) with ⟨h, _⟩ | ⟨a, _, _, h3, _⟩
      · exact h
      · omega
    rw [key j b hb, key j' b' hb']
    exact Int.le_refl _
  | succ i ih =>
    intro j j' b b' hjj hb hb'
    cases hy : (seqS E fr i).1[i]? with
    | none =>
      rw [seqS_none (by rw [List.getElem?_eq_none_iff] at hy; exact hy)] at hb hb'
      exact ih j j' b b' hjj hb hb'
    | some y =>
      have hs := seqS_some hy
      have hj : ∀ (j : Nat) (b : Int), (seqS E fr (i + 1)).2[j]? = some b → ((seqS E fr i).2[j]? = some b) ∨ ((seqS E fr i).1.length ≤ j ∧ b = i) := fun j b hb => by
        have hl : j < (seqS E fr (i + 1)).1.length := by rw [seqS_len]; exact (List.getElem?_eq_some_iff.1 hb).1
        obtain ⟨x, hx⟩ : ∃ x, (seqS E fr (i + 1)).1[j]? = some x := ⟨_, List.getElem?_eq_getElem hl⟩
        rw [hs] at hb hx
        rcases visL_by i (tgt E y) _ (seqS_len i) j b x hb hx with ⟨h1, _⟩ | ⟨h1, h2, _⟩
        · exact .inl h1
        · exact .inr ⟨h1, h2⟩
      rcases hj j b hb with h | ⟨h, h2⟩
      · rcases hj j' b' hb' with h' | ⟨h', h2'⟩
        · exact ih j j' b b' hjj h h'
        · have := seqS_up i j b h; omega
      · rcases hj j' b' hb' with h' | ⟨h', h2'⟩
        · have hl := (List.getElem?_eq_some_iff.1 h').1
          rw [← seqS_len] at hl
          omega
        · omega
theorem srch_sorted {j j' : Nat} {b b' : Int} (h : j ≤ j') (hb : (srch E fr).2[j]? = some b) (hb' : (srch E fr).2[j']? = some b') : b ≤ b' := seqS_sorted _ j j' b b' h hb hb'
/-- what an edge from place r leads to was come to by r at the latest. -/
theorem srch_soon {r t : Nat} {x y : K} {b : Int} (hx : (srch E fr).1[r]? = some x) (hy : (srch E fr).1[t]? = some y) (hb : (srch E fr).2[t]? = some b) (he : (x, y) ∈ E) : b ≤ r := by
  have h1 := srch_round hx
  have h2 := seqS_some h1
  have h3 : y ∈ (seqS E fr (r + 1)).1 := by
    rw [h2, visL_mem]
    exact .inr (mem_tgt.2 he)
  obtain ⟨t', ht', rfl⟩ := List.mem_iff_getElem.1 h3
  have h4 := prefix_get (seqS_srch (r + 1)).1 (List.getElem?_eq_getElem ht')
  have htt : t = t' := by
    obtain ⟨l1, e1⟩ := List.getElem?_eq_some_iff.1 hy
    obtain ⟨l2, e2⟩ := List.getElem?_eq_some_iff.1 h4
    exact nodup_inj (srch_nodup E fr) l1 l2 (e1.trans e2.symm)
  subst htt
  have hl : t < (seqS E fr (r + 1)).2.length := by rw [← seqS_len]; exact ht'
  have h5 := prefix_get (seqS_srch (r + 1)).2 (List.getElem?_eq_getElem hl)
  rw [hb] at h5
  have := seqS_up (r + 1) t b ((List.getElem?_eq_getElem hl).trans h5.symm)
  omega
/-! ### paths -/
/-- the places on the way back. -/
def chn (by_ : List Int) : Nat → Int → List Nat
  | 0, _ => []
  | f + 1, i => if i < 0 then [] else i.toNat :: chn by_ f ((by_[i.toNat]?).getD (-1))
theorem chn_neg (by_ : List Int) (f : Nat) {i : Int} (h : i < 0) : chn by_ f i = [] := by
  cases f with
  | zero => rfl
  | succ f => rw [chn, if_pos h]
theorem chn_step (by_ : List Int) (f i : Nat) : chn by_ (f + 1) i = i :: chn by_ f ((by_[i]?).getD (-1)) := by
  rw [chn, if_neg (by omega)]
  rfl
theorem chn_len (by_ : List Int) : ∀ (f : Nat) (i : Int), (chn by_ f i).length ≤ f
  | 0, _ => Nat.le_refl _
  | f + 1, i => by
    rw [chn]
    split
    · exact Nat.zero_le _
    · simp only [List.length_cons]
      exact Nat.succ_le_succ (chn_len by_ f _)
/-- the places on the way back from place i. -/
def wayI (s : List K × List Int) (i : Nat) : List Nat := chn s.2 (i + 1) i
end
section
variable {K : Type}
/-- the nodes at places. -/
def atP (s : List K × List Int) (l : List Nat) : List K := l.filterMap fun j => s.1[j]?
theorem atP_snoc {s : List K × List Int} {l : List Nat} {j : Nat} {x : K} (h : s.1[j]? = some x) : atP s (l ++ [j]) = atP s l ++ [x] := by
  unfold atP
  rw [List.filterMap_append, List.filterMap_cons, h]
  rfl
theorem atP_len (s : List K × List Int) (l : List Nat) : (atP s l).length ≤ l.length := List.length_filterMap_le _ _
/-- one step back. -/
theorem chn_next {s : List K × List Int} (hs : s.1.length = s.2.length) (hb : ∀ (j : Nat) (b : Int), s.2[j]? = some b → b = -1 ∨ ∃ a : Nat, b = a ∧ a < j) {f c : Nat} (hf : c < f) (hc : c < s.1.length) :
    ∃ f' b, f = f' + 1 ∧ s.2[c]? = some b ∧ chn s.2 f c = c :: chn s.2 f' b ∧ -1 ≤ b ∧ b < f' ∧ b < s.1.length ∧ b < c := by
  obtain ⟨f', rfl⟩ : ∃ f', f = f' + 1 := ⟨f - 1, by omega⟩
  obtain ⟨b, hb2⟩ : ∃ b, s.2[c]? = some b := ⟨_, List.getElem?_eq_getElem (by omega)⟩
  refine ⟨f', b, rfl, hb2, ?_, ?_⟩
  · rw [chn_step, hb2]
    rfl
  · rcases hb c b hb2 with rfl | ⟨a, rfl, ha⟩ <;> omega
end
section
variable {K : Type} [DecidableEq K]
/-- the way to a node. -/
def wayTo (s : List K × List Int) (to : K) : List K := if to ∈ s.1 then (atP s (wayI s (plc s.1 to))).reverse else []
end
end Go.Bas
