/-
  Two slices of the call's own beside one another: where an append lays its result. No program in sight.
-/
import Derived.Test.YtiiafgbdmejcpaaKit
namespace Go.Bas
open Go.RowKit
/-- u's block is not v's. -/
def Apart (u v : Value) : Prop := u.ownBlock = none ∨ u.ownBlock ≠ v.ownBlock
/-- where v' lies that came of v in the world w: in v's block or in a new one. -/
def Placed (w : World) (v v' : Value) : Prop := v'.ownBlock = v.ownBlock ∨ ∀ b, v'.ownBlock = some b → w.heap.size ≤ b
theorem Apart.nil (v : Value) : Apart (.slice none 0 0) v := .inl rfl
theorem Apart.symm {u v : Value} (h : Apart u v) : Apart v u := by
  rcases h with h | h
  · cases hv : v.ownBlock with
    | none => exact .inl hv
    | some b => exact .inr (by rw [h, hv]; simp)
  · exact .inr fun e => h e.symm
theorem Own.kept {k : IntKind} {e : TypeId} {base : Nat} {w w' : World} {u v : Value} {n : Nat} {f : Nat → Int} (h : Own k e base w u n f) (hg : w.grownBy w' v.ownBlock) (ha : Apart u v) : Own k e base w' u n f := by
  refine World.ownsRow.kept h hg ?_
  rcases ha with h | h
  · exact .inl h
  · exact .inr h
theorem Own.apart {k : IntKind} {e : TypeId} {base : Nat} {w : World} {u v v' : Value} {n : Nat} {f : Nat → Int} (h : Own k e base w u n f) (ha : Apart u v) (hp : Placed w v v') : Apart u v' := by
  cases hu : u.ownBlock with
  | none => exact .inl hu
  | some b =>
    refine .inr ?_
    have hlt := (World.ownsRow.lt h b hu).2
    rcases hp with hp | hp
    · rw [hp, hu]
      rcases ha with ha | ha
      · rw [hu] at ha; cases ha
      · rw [hu] at ha; exact ha
    · intro e2
      rw [hu] at e2
      have := hp b e2.symm
      omega
theorem run_append_place {P : Program} (w : World) (base : Nat) (t ty e : TypeId) (i : TypeInfo) (z : Value) (size bytes : Nat) (ht : P.underlying t = some (.slice e)) (hi : P.info? e = some i) (hz : i.zero = some z)
    (hsize : i.size = size) (hby : i.bytes = bytes) (hzs : z.cells.size = size) (hsz : 0 < size)
    (v : Value) (n : Nat) (xs : List Value) (hown : w.ownsRow base e size v n xs)
    (a : Addr) (m c : Nat) (news : List Value) (hl : news.length = m * size) (hnews : ∀ j u, news[j]? = some u → w.cell? (a.add j) = some u) (h1 : ∀ u ∈ news, u.oneCell' = true)
    (h63 : n + m ≤ maxLen) (hbytes : (n + m) * bytes ≤ 140737488355328) (v' : Value) (w' : World) (hrun : (Builtin.append_ #[t, t] ty #[v, .slice (some a) m c]).run P w = .ok v' w') : Placed w v v' := by
  subst hsize
  subst hby
  have hsmall : n + m ≤ 9223372036854775807 := by simp only [maxLen] at h63; omega
  rcases hown.2 with ⟨rfl, rfl⟩ | ⟨g, cap, cur, rfl, hbg, hg, hnc, hcm, hcs, htake⟩
  · have hx : xs = [] := List.eq_nil_of_length_eq_zero (by simpa using hown.1)
    subst hx
    by_cases hm : m = 0
    · subst hm
      have hn : news = [] := List.eq_nil_of_length_eq_zero (by simpa using hl)
      subst hn
      have hr : (Builtin.append_ #[t, t] ty #[.slice none 0 0, .slice (some a) 0 c]).run P w = .ok (.slice none 0 0) w := by
        simp [Builtin.append_, run_underlying ht, sizeOf, typeInfo, hi, Builtin.lenOf, Builtin.firstCells, loadCells, loadCellsFrom]
      rw [hr] at hrun
      cases hrun
      exact .inl rfl
    · have hr := run_append_nil (P := P) w t ty e i z ht hi hz a m c news hl hnews (by omega) (by omega) (by have hb := hbytes; simp only [Nat.zero_add] at hb; omega)
      rw [hr] at hrun
      cases hrun
      refine .inr fun b hb => ?_
      simp [Value.ownBlock] at hb
      omega
  · by_cases hroom : n + m ≤ cap
    · have hfit : n * i.size + news.length ≤ cur.size := by rw [hl, hcs, ← Nat.add_mul]; exact Nat.mul_le_mul_right _ hroom
      have hr := run_append_room (P := P) w t ty e i ht hi g n cap cur hg a m c news hl hnews h1 hroom hfit
      rw [hr] at hrun
      cases hrun
      exact .inl rfl
    · have holds : ∀ j u, xs[j]? = some u → w.cell? ((⟨g, 0, none⟩ : Addr).add j) = some u := hown.cells (g := g) rfl
      have hr := run_append_grow (P := P) w t ty e i z ht hi hz ⟨g, 0, none⟩ n cap xs hown.1 holds a m c news hl hnews (by omega) (by omega) (growslice_fits (by omega) hbytes)
      rw [hr] at hrun
      cases hrun
      refine .inr fun b hb => ?_
      simp [Value.ownBlock] at hb
      omega

/-- append of what lies in a block that has just been made, with the place. -/
theorem append_new2 {P : Program} {w : World} {ops : Array Oper} {rest : List Oper} {o : Oper} {a : Act} {Q : Exit → Act → World → Prop}
    (hg : o.guard = none) (s x : Operand) (t : TypeId) (hop : o.op = .call { callee := .builtin .append, args := #[s, x], argTypes := #[t, t] })
    (base : Nat) (e : TypeId) (k : IntKind) (bytes : Nat)
    (h1 : P.underlying t = some (.slice e)) (hinfo : (P.info? e).map (fun i => (i.zero, i.size, i.bytes)) = some (some (.int k 0), 1, bytes))
    (v : Value) (n : Nat) (f : Nat → Int) (w0 : World) (cs : Array Value) (hw : w = w0.alloc (.cells cs e)) (hown : Own k e base w0 v n f) (hs : a.eval s = v)
    (m : Nat) (hx : a.eval x = .slice (some ⟨w0.heap.size, 0, none⟩) m m) (hm : cs.size = m) (hc : ∀ i, i < m → cs[i]? = some (.int k (f (n + i))))
    (b2 : (n + m) * bytes ≤ 140737488355328) (b3 : n + m ≤ 9223372036854775807) (b4 : base ≤ w0.heap.size)
    (hK : ∀ v' w', Own k e base w' v' (n + m) f → w.grownBy w' v.ownBlock → Placed w v v' → wpList P ops Q rest (a.put o.dst v') w') :
    wpList P ops Q (o :: rest) a w := by
  subst hw
  obtain ⟨i, hi, hz0, hz1, hz2⟩ := info_parts hinfo
  have hnews : cs.toList = (List.range m).map fun i => Value.int k (f (n + i)) := by
    apply List.ext_getElem?
    intro i
    by_cases h : i < m
    · rw [Array.getElem?_toList, hc i h]; simp [h]
    · rw [Array.getElem?_toList]; simp [h, hm]
  have hv : vals k n f ++ cs.toList = vals k (n + m) f := by
    rw [hnews]
    unfold vals
    rw [List.range_add]
    simp
  have hown' := World.ownsRow.alloc hown (.cells cs e)
  have hl : cs.toList.length = m * 1 := by simp [hm]
  have hn : ∀ j u, cs.toList[j]? = some u → (w0.alloc (.cells cs e)).cell? ((⟨w0.heap.size, 0, none⟩ : Addr).add j) = some u := by
    intro j u hu
    have hadd : (⟨w0.heap.size, 0, none⟩ : Addr).add j = ⟨w0.heap.size, j, none⟩ := by unfold Addr.add; split <;> simp_all
    rw [hadd, cell_of_row (w0.alloc (.cells cs e)) w0.heap.size j cs e (0, 0) (heap_alloc_new w0 _)]
    simpa using hu
  have h1' : ∀ u ∈ cs.toList, u.oneCell' = true := by
    intro u hu
    rw [hnews] at hu
    obtain ⟨_, _, rfl⟩ := List.mem_map.1 hu
    rfl
  obtain ⟨v', w', hr, q1, q2, q3⟩ := run_append_own (P := P) _ base t o.type e i (.int k 0) 1 bytes h1 hi hz0 hz1 hz2 rfl (by decide) v n (vals k n f) hown' ⟨w0.heap.size, 0, none⟩ m m cs.toList hl hn h1' (by unfold maxLen; omega) b2 (by simp; omega)
  have hpl := run_append_place (P := P) _ base t o.type e i (.int k 0) 1 bytes h1 hi hz0 hz1 hz2 rfl (by decide) v n (vals k n f) hown' ⟨w0.heap.size, 0, none⟩ m m cs.toList hl hn h1' (by unfold maxLen; omega) b2 v' w' hr
  refine wpList_plain hg fun _ hK' => ?_
  unfold Oper.wp execOp
  simp only [hop, resolve, invoke, builtin, Sem.run_bind, Sem.run_pure, Result.andThen_ok, List.map_toArray, List.map_cons, List.map_nil, hs, hx, hr]
  exact hK' _ _ (hK v' w' (by unfold Own; rw [← hv]; exact q1) q2 hpl)

/-- append of a slice of integers that can be read, with the place. -/
theorem append_rd2 {P : Program} {w : World} {ops : Array Oper} {rest : List Oper} {o : Oper} {a : Act} {Q : Exit → Act → World → Prop}
    (hg : o.guard = none) (s x : Operand) (t : TypeId) (hop : o.op = .call { callee := .builtin .append, args := #[s, x], argTypes := #[t, t] })
    (base : Nat) (e : TypeId) (k : IntKind) (bytes : Nat)
    (h1 : P.underlying t = some (.slice e)) (hinfo : (P.info? e).map (fun i => (i.zero, i.size, i.bytes)) = some (some (.int k 0), 1, bytes))
    (v : Value) (n : Nat) (f : Nat → Int) (hown : Own k e base w v n f) (hs : a.eval s = v)
    (u : Value) (m : Nat) (g : Nat → Int) (hrd : Rd k w u m g) (hx : a.eval x = u) (hf : ∀ i, i < m → f (n + i) = g i)
    (b2 : (n + m) * bytes ≤ 140737488355328) (b3 : n + m ≤ 9223372036854775807) (b4 : base ≤ w.heap.size)
    (hK : ∀ v' w', Own k e base w' v' (n + m) f → w.grownBy w' v.ownBlock → Placed w v v' → wpList P ops Q rest (a.put o.dst v') w') :
    wpList P ops Q (o :: rest) a w := by
  obtain ⟨i, hi, hz0, hz1, hz2⟩ := info_parts hinfo
  have hv : vals k n f ++ vals k m g = vals k (n + m) f := by
    unfold vals
    rw [List.range_add]
    simp only [List.map_append, List.map_map]
    congr 1
    exact List.map_congr_left fun i hi => by simp [hf i (List.mem_range.1 hi)]
  obtain ⟨ao, c, rfl, l1, l2, l3, l4⟩ := hrd
  refine wpList_plain hg fun _ hK' => ?_
  cases ao with
  | none =>
    have hm : m = 0 := by have := l3 rfl; omega
    subst hm
    have hr := run_append_owned_none (P := P) w base t o.type e i 1 h1 hi v n _ hown
    have hc0 := l3 rfl
    subst hc0
    unfold Oper.wp execOp
    simp only [hop, resolve, invoke, builtin, Sem.run_bind, Sem.run_pure, Result.andThen_ok, List.map_toArray, List.map_cons, List.map_nil, hs, hx, hr]
    exact hK' _ _ (hK v w (by simpa using hown) (World.grownBy.refl _ _) (.inl rfl))
  | some ad =>
    have hn : ∀ j u, (vals k m g)[j]? = some u → w.cell? (ad.add j) = some u := by
      intro j u hu
      have hj : j < m := by
        have := (List.getElem?_eq_some_iff.1 hu).1
        simpa using this
      obtain ⟨b, of, hb, _, hcell⟩ := l4 (by omega)
      obtain rfl := Option.some.inj hb
      have hadd : (⟨b, of, none⟩ : Addr).add j = ⟨b, of + j, none⟩ := by unfold Addr.add; split <;> simp_all
      rw [hadd, hcell j hj, ← vals_get (k := k) (f := g) hj]
      exact hu
    have h1' : ∀ u ∈ vals k m g, u.oneCell' = true := by
      intro u hu
      obtain ⟨_, _, rfl⟩ := List.mem_map.1 hu
      rfl
    obtain ⟨v', w', hr, q1, q2, q3⟩ := run_append_own (P := P) w base t o.type e i (.int k 0) 1 bytes h1 hi hz0 hz1 hz2 rfl (by decide) v n (vals k n f) hown ad m c (vals k m g) (by simp) hn h1' (by unfold maxLen; omega) b2 b4
    have hpl := run_append_place (P := P) w base t o.type e i (.int k 0) 1 bytes h1 hi hz0 hz1 hz2 rfl (by decide) v n (vals k n f) hown ad m c (vals k m g) (by simp) hn h1' (by unfold maxLen; omega) b2 v' w' hr
    unfold Oper.wp execOp
    simp only [hop, resolve, invoke, builtin, Sem.run_bind, Sem.run_pure, Result.andThen_ok, List.map_toArray, List.map_cons, List.map_nil, hs, hx, hr]
    exact hK' _ _ (hK v' w' (by unfold Own; rw [← hv]; exact q1) q2 hpl)
/-- append of a slice of integers that can be read, with the place, as one operation. -/
theorem wp_append_rd2 {P : Program} {w : World} {o : Oper} {a : Act} {K : Act → World → Prop} {Q : Exit → Act → World → Prop}
    (s x : Operand) (t : TypeId) (hop : o.op = .call { callee := .builtin .append, args := #[s, x], argTypes := #[t, t] })
    (base : Nat) (e : TypeId) (k : IntKind) (bytes : Nat)
    (h1 : P.underlying t = some (.slice e)) (hinfo : (P.info? e).map (fun i => (i.zero, i.size, i.bytes)) = some (some (.int k 0), 1, bytes))
    (v : Value) (n : Nat) (f : Nat → Int) (hown : Own k e base w v n f) (hs : a.eval s = v)
    (u : Value) (m : Nat) (g : Nat → Int) (hrd : Rd k w u m g) (hx : a.eval x = u) (hf : ∀ i, i < m → f (n + i) = g i)
    (b2 : (n + m) * bytes ≤ 140737488355328) (b3 : n + m ≤ 9223372036854775807) (b4 : base ≤ w.heap.size)
    (hK : ∀ v' w', Own k e base w' v' (n + m) f → w.grownBy w' v.ownBlock → Placed w v v' → K (a.put o.dst v') w') :
    o.wp P a w K Q := by
  obtain ⟨i, hi, hz0, hz1, hz2⟩ := info_parts hinfo
  have hv : vals k n f ++ vals k m g = vals k (n + m) f := by
    unfold vals
    rw [List.range_add]
    simp only [List.map_append, List.map_map]
    congr 1
    exact List.map_congr_left fun i hi => by simp [hf i (List.mem_range.1 hi)]
  obtain ⟨ao, c, rfl, l1, l2, l3, l4⟩ := hrd
  cases ao with
  | none =>
    have hm : m = 0 := by have := l3 rfl; omega
    subst hm
    have hr := run_append_owned_none (P := P) w base t o.type e i 1 h1 hi v n _ hown
    have hc0 := l3 rfl
    subst hc0
    unfold Oper.wp execOp
    simp only [hop, resolve, invoke, builtin, Sem.run_bind, Sem.run_pure, Result.andThen_ok, List.map_toArray, List.map_cons, List.map_nil, hs, hx, hr]
    exact hK v w (by simpa using hown) (World.grownBy.refl _ _) (.inl rfl)
  | some ad =>
    have hn : ∀ j u, (vals k m g)[j]? = some u → w.cell? (ad.add j) = some u := by
      intro j u hu
      have hj : j < m := by
        have := (List.getElem?_eq_some_iff.1 hu).1
        simpa using this
      obtain ⟨b, of, hb, _, hcell⟩ := l4 (by omega)
      obtain rfl := Option.some.inj hb
      have hadd : (⟨b, of, none⟩ : Addr).add j = ⟨b, of + j, none⟩ := by unfold Addr.add; split <;> simp_all
      rw [hadd, hcell j hj, ← vals_get (k := k) (f := g) hj]
      exact hu
    have h1' : ∀ u ∈ vals k m g, u.oneCell' = true := by
      intro u hu
      obtain ⟨_, _, rfl⟩ := List.mem_map.1 hu
      rfl
    obtain ⟨v', w', hr, q1, q2, q3⟩ := run_append_own (P := P) w base t o.type e i (.int k 0) 1 bytes h1 hi hz0 hz1 hz2 rfl (by decide) v n (vals k n f) hown ad m c (vals k m g) (by simp) hn h1' (by unfold maxLen; omega) b2 b4
    have hpl := run_append_place (P := P) w base t o.type e i (.int k 0) 1 bytes h1 hi hz0 hz1 hz2 rfl (by decide) v n (vals k n f) hown ad m c (vals k m g) (by simp) hn h1' (by unfold maxLen; omega) b2 v' w' hr
    unfold Oper.wp execOp
    simp only [hop, resolve, invoke, builtin, Sem.run_bind, Sem.run_pure, Result.andThen_ok, List.map_toArray, List.map_cons, List.map_nil, hs, hx, hr]
    exact hK v' w' (by unfold Own; rw [← hv]; exact q1) q2 hpl
end Go.Bas
