/-
  Growing slices that need not begin at their block's head (s = s[k:] and then append). No program in sight.
-/
import Derived.Test.YtgobodhcamgidaaKit
set_option linter.unusedVariables false
set_option linter.unusedSimpArgs false
namespace Go.Bas
open Go.RowKit
/-- v is a slice of the call's own (its block lies from base on): it holds f 0 .. f (n-1), and may be appended to; it may begin anywhere in its block. -/
def OwnAt (k : IntKind) (e : TypeId) (base : Nat) (w : World) (v : Value) (n : Nat) (f : Nat → Int) : Prop :=
  (v = .slice none 0 0 ∧ n = 0) ∨ ∃ g o c cur, v = .slice (some ⟨g, o, none⟩) n c ∧ base ≤ g ∧ w.heap[g]? = some (.cells cur e (0, 0)) ∧ n ≤ c ∧ c ≤ 9223372036854775807 ∧ o + c ≤ cur.size ∧ (cur.toList.drop o).take n = vals k n f
variable {k : IntKind} {e : TypeId} {base : Nat} {w w' : World} {v : Value} {n : Nat} {f g : Nat → Int}
theorem OwnAt.nil (k : IntKind) (e : TypeId) (base : Nat) (w : World) (f : Nat → Int) : OwnAt k e base w (.slice none 0 0) 0 f := .inl ⟨rfl, rfl⟩
theorem OwnAt.of (h : Own k e base w v n f) : OwnAt k e base w v n f := by
  rcases h.2 with ⟨rfl, rfl⟩ | ⟨g, cap, cur, rfl, hb, hg, hn, hc, hs, ht⟩
  · exact .inl ⟨rfl, rfl⟩
  · unfold maxLen at hc
    exact .inr ⟨g, 0, cap, cur, rfl, hb, hg, hn, by omega, by omega, by simpa using ht⟩
theorem OwnAt.rd (h : OwnAt k e base w v n f) : Rd k w v n f := by
  rcases h with ⟨rfl, rfl⟩ | ⟨g, o, c, cur, rfl, hb, hg, hn, hc, hs, ht⟩
  · exact Rd.nil _ _ _
  · refine ⟨_, _, rfl, hn, hc, (fun h => by cases h), fun _ => ⟨g, o, rfl, (Array.getElem?_eq_some_iff.1 hg).1, fun i hi => ?_⟩⟩
    rw [cell_of_row w g (o + i) cur e (0, 0) hg]
    have := vals_get (k := k) (f := f) hi
    rw [← ht, List.getElem?_take, if_pos hi, List.getElem?_drop] at this
    simpa using this
theorem OwnAt.congr (h : OwnAt k e base w v n f) (q : ∀ i, i < n → f i = g i) : OwnAt k e base w v n g := by
  unfold OwnAt at *
  rwa [vals_congr q] at h
theorem OwnAt.mono {base' : Nat} (h : OwnAt k e base w v n f) (hb : base' ≤ base) : OwnAt k e base' w v n f := by
  rcases h with h | ⟨g, o, c, cur, rfl, hb', rest⟩
  · exact .inl h
  · exact .inr ⟨g, o, c, cur, rfl, by omega, rest⟩
theorem OwnAt.lt (h : OwnAt k e base w v n f) : ∀ b, v.ownBlock = some b → base ≤ b ∧ b < w.heap.size := by
  intro b hb
  rcases h with ⟨rfl, _⟩ | ⟨g, o, c, cur, rfl, hb', hg, _⟩
  · simp [Value.ownBlock] at hb
  · simp [Value.ownBlock] at hb
    subst hb
    exact ⟨hb', (Array.getElem?_eq_some_iff.1 hg).1⟩
theorem OwnAt.kept {row : Option Nat} (h : OwnAt k e base w v n f) (hg : w.grownBy w' row) (hne : v.ownBlock = none ∨ v.ownBlock ≠ row) : OwnAt k e base w' v n f := by
  rcases h with h | ⟨g, o, c, cur, rfl, hb, hgg, rest⟩
  · exact .inl h
  · refine .inr ⟨g, o, c, cur, rfl, hb, ?_, rest⟩
    rw [hg.block g (Array.getElem?_eq_some_iff.1 hgg).1 (by simpa [Value.ownBlock] using hne)]
    exact hgg
theorem OwnAt.below (h : OwnAt k e base w v n f) (hb : Below w.heap.size w w') : OwnAt k e base w' v n f := by
  rcases h with h | ⟨g, o, c, cur, rfl, hb', hgg, rest⟩
  · exact .inl h
  · refine .inr ⟨g, o, c, cur, rfl, hb', ?_, rest⟩
    rw [hb.block g (Array.getElem?_eq_some_iff.1 hgg).1]
    exact hgg
theorem OwnAt.alloc (h : OwnAt k e base w v n f) (o : Obj) : OwnAt k e base (w.alloc o) v n f := h.below ((Below.refl _ _).alloc (Nat.le_refl _) _)
theorem OwnAt.box {b : Nat} {x : Value} {T : TypeId} (h : OwnAt k e base w v n f) (hb : w.heap[b]? = some (.cells #[x] T (0, 0))) (hT : T ≠ e) (y : Value) : OwnAt k e base (w.setCell ⟨b, 0, none⟩ y) v n f := by
  rcases h with h | ⟨g, o, c, cur, rfl, hb', hgg, rest⟩
  · exact .inl h
  · refine .inr ⟨g, o, c, cur, rfl, hb', ?_, rest⟩
    rw [Below.heap_setCell _ _ _ g (fun e => by subst e; rw [hb] at hgg; simp at hgg; exact hT hgg.2)]
    exact hgg
theorem vals_drop (k : IntKind) (n lo : Nat) (f : Nat → Int) : (vals k n f).drop lo = vals k (n - lo) (fun i => f (lo + i)) := by
  apply List.ext_getElem?
  intro i
  rw [List.getElem?_drop]
  by_cases hi : lo + i < n
  · rw [vals_get hi, vals_get (by omega)]
  · have h1 : (vals k n f)[lo + i]? = none := by simp; omega
    have h2 : (vals k (n - lo) (fun i => f (lo + i)))[i]? = none := by simp; omega
    rw [h1, h2]
/-- 's = s[lo:]'. -/
theorem OwnAt.cut {b o c : Nat} (h : OwnAt k e base w (.slice (some ⟨b, o, none⟩) n c) n f) (lo : Nat) (hlo : lo ≤ n) :
    OwnAt k e base w (.slice (if c = lo then some ⟨b, o, none⟩ else some ⟨b, o + lo, none⟩) (n - lo) (c - lo)) (n - lo) (fun i => f (lo + i)) := by
  rcases h with ⟨h, _⟩ | ⟨g', o', c', cur, he, hb, hg, hn, hc, hs, ht⟩
  · cases h
  · simp only [Value.slice.injEq, Option.some.injEq, Addr.mk.injEq, and_true, true_and] at he
    obtain ⟨⟨rfl, rfl⟩, rfl⟩ := he
    by_cases hcl : c = lo
    · subst hcl
      obtain rfl : n = c := by omega
      rw [if_pos rfl, Nat.sub_self]
      exact .inr ⟨b, o, 0, cur, rfl, hb, hg, Nat.le_refl _, by omega, by omega, by simp [vals]⟩
    · rw [if_neg hcl]
      refine .inr ⟨b, o + lo, c - lo, cur, rfl, hb, hg, by omega, by omega, by omega, ?_⟩
      rw [← vals_drop, ← ht, List.drop_take, List.drop_drop]
theorem vals_one {x : Value} (h : x ∈ vals k n f) : x.oneCell' = true := by
  obtain ⟨_, _, rfl⟩ := List.mem_map.1 h
  rfl
theorem vals_add {m : Nat} (hf : ∀ i, i < m → f (n + i) = g i) : vals k n f ++ vals k m g = vals k (n + m) f := by
  unfold vals
  rw [List.range_add]
  simp only [List.map_append, List.map_map]
  congr 1
  exact List.map_congr_left fun i hi => by simp [hf i (List.mem_range.1 hi)]
theorem addr_add (b o j : Nat) : (⟨b, o, none⟩ : Addr).add j = ⟨b, o + j, none⟩ := by unfold Addr.add; split <;> simp_all

theorem OwnAt.whole (hb : base ≤ w.heap.size) {m c : Nat} (hmc : m ≤ c) (hc : c ≤ 9223372036854775807) {cur : Array Value} (hs : cur.size = c) (ht : cur.toList.take m = vals k m f) :
    OwnAt k e base (w.drew.alloc (.cells cur e)) (.slice (some ⟨w.heap.size, 0, none⟩) m c) m f :=
  .inr ⟨w.heap.size, 0, c, cur, rfl, hb, heap_alloc_new w.drew _, hmc, hc, by omega, by simpa using ht⟩

theorem run_append_at {P : Program} (w : World) (t ty e : TypeId) (k : IntKind) (bytes : Nat) (h1 : P.underlying t = some (.slice e)) (hinfo : (P.info? e).map (fun i => (i.zero, i.size, i.bytes)) = some (some (.int k 0), 1, bytes))
    (base : Nat) (v : Value) (n : Nat) (f : Nat → Int) (hown : OwnAt k e base w v n f) (u : Value) (m : Nat) (g : Nat → Int) (hrd : Rd k w u m g) (hf : ∀ i, i < m → f (n + i) = g i)
    (b2 : (n + m) * bytes ≤ 140737488355328) (b3 : n + m ≤ 9223372036854775807) (b4 : base ≤ w.heap.size) :
    ∃ v' w', (Builtin.append_ #[t, t] ty #[v, u]).run P w = .ok v' w' ∧ OwnAt k e base w' v' (n + m) f ∧ w.grownBy w' v.ownBlock ∧ (0 < n + m → v' ≠ .slice none 0 0) := by
  obtain ⟨i, hi, hz0, hz1, hz2⟩ := info_parts hinfo
  obtain ⟨ao, c, rfl, l1, l2, l3, l4⟩ := hrd
  have hvm : (vals k m g).length = m * i.size := by rw [hz1]; simp
  by_cases hm : m = 0
  · subst hm
    rcases hown with ⟨rfl, rfl⟩ | ⟨gg, o, c', cur, rfl, hb, hg, hn, hc, hs, ht⟩
    · refine ⟨.slice none 0 0, w, ?_, OwnAt.nil _ _ _ _ _, World.grownBy.refl _ _, fun h => absurd h (by decide)⟩
      cases ao <;> simp [Builtin.append_, run_underlying h1, sizeOf, typeInfo, hi, Builtin.lenOf, Builtin.firstCells, loadCells, loadCellsFrom]
    · refine ⟨.slice (some ⟨gg, o, none⟩) n c', w, ?_, .inr ⟨gg, o, c', cur, rfl, hb, hg, hn, hc, hs, ht⟩, World.grownBy.refl _ _, fun _ h => by cases h⟩
      cases ao <;> simp [Builtin.append_, run_underlying h1, sizeOf, typeInfo, hi, Builtin.lenOf, Builtin.firstCells, loadCells, loadCellsFrom, hn, storeCells]
  · obtain ⟨b, of, rfl, _, hcell⟩ := l4 (by omega)
    have hnews : ∀ j x, (vals k m g)[j]? = some x → w.cell? ((⟨b, of, none⟩ : Addr).add j) = some x := by
      intro j x hx
      have hj : j < m := by
        have := (List.getElem?_eq_some_iff.1 hx).1
        simpa using this
      rw [addr_add, hcell j hj, ← vals_get (k := k) (f := g) hj]
      exact hx
    have hnews1 : ∀ x ∈ vals k m g, x.oneCell' = true := fun x hx => vals_one hx
    rcases hown with ⟨rfl, rfl⟩ | ⟨gg, o, c', cur, rfl, hb, hg, hn, hc, hs, ht⟩
    · have hr := run_append_nil (P := P) w t ty e i _ h1 hi hz0 ⟨b, of, none⟩ m c (vals k m g) hvm hnews (by omega) (by omega) (by rw [hz2]; simp only [Nat.zero_add] at b2; omega)
      have hge := grownCap_ge w m 0 e
      have hcm : grownCap w m 0 e ≤ maxLen := grownCap_le_maxLen w m 0 e (by unfold maxLen; omega)
      unfold maxLen at hcm
      rw [Nat.zero_add]
      refine ⟨_, _, hr, ?_, ⟨rfl, rfl, rfl, by simp, fun q hq _ => ((Below.refl w.heap.size w.drew).alloc (Nat.le_refl _) _).block q hq⟩, fun _ h => by cases h⟩
      refine OwnAt.whole b4 hge (by omega) ?_ ?_
      · have hz : (Value.int k 0).cells = #[.int k 0] := rfl
        simp only [Array.size_append, List.size_toArray, size_zeroCells, hz, vals_length]
        simp; omega
      · rw [Array.toList_append]
        have : vals k m f = vals k m g := vals_congr fun i hi => by have := hf i hi; rwa [Nat.zero_add] at this
        rw [this]
        simp [List.take_append_of_le_length]
    · by_cases hroom : n + m ≤ c'
      · have hfm := run_firstCells_some (P := P) w i.size m ⟨b, of, none⟩ m c (vals k m g) hvm hnews
        have hst := run_storeCells_at P gg (o + n) e (vals k m g) 0 cur w hg (by simp; omega) hnews1
        refine ⟨.slice (some ⟨gg, o, none⟩) (n + m) c', w.setRow gg (cur.toList.take (o + n) ++ vals k m g ++ cur.toList.drop (o + n + (vals k m g).length)).toArray, ?_, ?_, ?_, fun _ h => by cases h⟩
        · simp only [Nat.add_zero] at hst
          simp [Builtin.append_, run_underlying h1, sizeOf, typeInfo, hi, Builtin.lenOf, hroom, hfm, hz1, addr_add]
          simp [hz1] at hfm
          simp [hfm, hst]
        · refine .inr ⟨gg, o, c', _, rfl, hb, setRow_heap w gg cur _ e _ hg, hroom, hc, ?_, ?_⟩
          · simp only [List.size_toArray, List.length_append, List.length_take, List.length_drop, Array.length_toList, vals_length]
            omega
          · rw [← vals_add hf, ← ht, List.append_assoc, List.drop_append_of_le_length (by simp; omega), List.drop_take]
            rw [show o + n - o = n by omega, ← List.append_assoc]
            rw [List.take_append_of_le_length (by simp; omega), List.take_of_length_le (by simp; omega)]
        · exact ⟨rfl, rfl, rfl, by simp, fun k _ hk => setRow_other w gg k _ (fun e => hk (by simp [Value.ownBlock, e]))⟩
      · have holds : ∀ j x, (vals k n f)[j]? = some x → w.cell? ((⟨gg, o, none⟩ : Addr).add j) = some x := by
          intro j x hx
          have hj : j < n := by
            have := (List.getElem?_eq_some_iff.1 hx).1
            simpa using this
          rw [addr_add, cell_of_row w gg (o + j) cur e (0, 0) hg]
          rw [← ht, List.getElem?_take, if_pos hj, List.getElem?_drop] at hx
          simpa using hx
        have hr := run_append_grow (P := P) w t ty e i _ h1 hi hz0 ⟨gg, o, none⟩ n c' (vals k n f) (by rw [hz1]; simp) holds ⟨b, of, none⟩ m c (vals k m g) hvm hnews (by omega) (by omega) (growslice_fits (by omega) (by rw [hz2]; exact b2))
        have hge := grownCap_ge w (n + m) c' e
        have hcm : grownCap w (n + m) c' e ≤ maxLen := grownCap_le_maxLen w (n + m) c' e (by unfold maxLen; omega)
        unfold maxLen at hcm
        refine ⟨_, _, hr, ?_, ⟨rfl, rfl, rfl, by simp, fun q hq _ => ((Below.refl w.heap.size w.drew).alloc (Nat.le_refl _) _).block q hq⟩, fun _ h => by cases h⟩
        refine OwnAt.whole b4 hge (by omega) ?_ ?_
        · have hz : (Value.int k 0).cells = #[.int k 0] := rfl
          simp only [Array.size_append, List.size_toArray, size_zeroCells, hz, vals_length]
          simp; omega
        · rw [Array.toList_append, Array.toList_append, ← vals_add hf]
          rw [List.take_append_of_le_length (by simp), List.take_of_length_le (by simp)]
theorem wp_append_at {P : Program} {w : World} {o : Oper} {a : Act} {K : Act → World → Prop} {Q : Exit → Act → World → Prop}
    (s x : Operand) (t : TypeId) (hop : o.op = .call { callee := .builtin .append, args := #[s, x], argTypes := #[t, t] })
    (base : Nat) (e : TypeId) (k : IntKind) (bytes : Nat)
    (h1 : P.underlying t = some (.slice e)) (hinfo : (P.info? e).map (fun i => (i.zero, i.size, i.bytes)) = some (some (.int k 0), 1, bytes))
    (v : Value) (n : Nat) (f : Nat → Int) (hown : OwnAt k e base w v n f) (hs : a.eval s = v)
    (u : Value) (m : Nat) (g : Nat → Int) (hrd : Rd k w u m g) (hx : a.eval x = u) (hf : ∀ i, i < m → f (n + i) = g i)
    (b2 : (n + m) * bytes ≤ 140737488355328) (b3 : n + m ≤ 9223372036854775807) (b4 : base ≤ w.heap.size)
    (hK : ∀ v' w', OwnAt k e base w' v' (n + m) f → w.grownBy w' v.ownBlock → (0 < n + m → v' ≠ .slice none 0 0) → K (a.put o.dst v') w') :
    o.wp P a w K Q := by
  obtain ⟨v', w', hr, h2, h3, h4⟩ := run_append_at (P := P) w t o.type e k bytes h1 hinfo base v n f hown u m g hrd hf b2 b3 b4
  unfold Oper.wp execOp
  simp only [hop, resolve, invoke, builtin, Sem.run_bind, Sem.run_pure, Result.andThen_ok, List.map_toArray, List.map_cons, List.map_nil, hs, hx, hr]
  exact hK v' w' h2 h3 h4
theorem append_at {P : Program} {w : World} {ops : Array Oper} {rest : List Oper} {o : Oper} {a : Act} {Q : Exit → Act → World → Prop}
    (hg : o.guard = none) (s x : Operand) (t : TypeId) (hop : o.op = .call { callee := .builtin .append, args := #[s, x], argTypes := #[t, t] })
    (base : Nat) (e : TypeId) (k : IntKind) (bytes : Nat)
    (h1 : P.underlying t = some (.slice e)) (hinfo : (P.info? e).map (fun i => (i.zero, i.size, i.bytes)) = some (some (.int k 0), 1, bytes))
    (v : Value) (n : Nat) (f : Nat → Int) (hown : OwnAt k e base w v n f) (hs : a.eval s = v)
    (u : Value) (m : Nat) (g : Nat → Int) (hrd : Rd k w u m g) (hx : a.eval x = u) (hf : ∀ i, i < m → f (n + i) = g i)
    (b2 : (n + m) * bytes ≤ 140737488355328) (b3 : n + m ≤ 9223372036854775807) (b4 : base ≤ w.heap.size)
    (hK : ∀ v' w', OwnAt k e base w' v' (n + m) f → w.grownBy w' v.ownBlock → (0 < n + m → v' ≠ .slice none 0 0) → wpList P ops Q rest (a.put o.dst v') w') :
    wpList P ops Q (o :: rest) a w :=
  wpList_plain hg fun _ hK' => wp_append_at s x t hop base e k bytes h1 hinfo v n f hown hs u m g hrd hx hf b2 b3 b4 fun v' w' q1 q2 q3 => hK' _ _ (hK v' w' q1 q2 q3)
end Go.Bas
