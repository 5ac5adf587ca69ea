/-
  Small vocabulary for slices and arrays of integers whose contents are told by a function of the index; no program in sight.
-/
import Derived.WalkKit
import Derived.WalkSpells
import Derived.WalkLawsBesides
import Derived.WalkSmall
import Derived.Lib.Hide
import Derived.Deep.QuietTactic
import Derived.BigQuiet
set_option linter.unusedVariables false
set_option linter.unusedSimpArgs false
namespace Go.Bas
open Go.RowKit

/-- v is a slice of n integers (kind k) that read as f 0 .. f (n-1) in the world w. -/
def Rd (k : IntKind) (w : World) (v : Value) (n : Nat) (f : Nat → Int) : Prop :=
  ∃ a c, v = .slice a n c ∧ n ≤ c ∧ c ≤ 9223372036854775807 ∧ (a = none → c = 0) ∧
    (0 < n → ∃ b o, a = some ⟨b, o, none⟩ ∧ b < w.heap.size ∧ ∀ i, i < n → w.cell? ⟨b, o + i, none⟩ = some (.int k (f i)))

theorem Rd.below {k : IntKind} {w w' : World} {v : Value} {n : Nat} {f : Nat → Int} (h : Rd k w v n f) (hb : Below w.heap.size w w') : Rd k w' v n f := by
  obtain ⟨a, c, rfl, h1, h2, h3, h4⟩ := h
  refine ⟨a, c, rfl, h1, h2, h3, fun hn => ?_⟩
  obtain ⟨b, o, rfl, hlt, hc⟩ := h4 hn
  have := hb.size
  exact ⟨b, o, rfl, by omega, fun i hi => (hb.cell (p := ⟨b, o + i, none⟩) hlt).trans (hc i hi)⟩

theorem Rd.congr {k : IntKind} {w : World} {v : Value} {n : Nat} {f g : Nat → Int} (h : Rd k w v n f) (e : ∀ i, i < n → f i = g i) : Rd k w v n g := by
  obtain ⟨a, c, rfl, h1, h2, h3, h4⟩ := h
  refine ⟨a, c, rfl, h1, h2, h3, fun hn => ?_⟩
  obtain ⟨b, o, rfl, hlt, hc⟩ := h4 hn
  exact ⟨b, o, rfl, hlt, fun i hi => by rw [hc i hi, e i hi]⟩

theorem Rd.nil (k : IntKind) (w : World) (f : Nat → Int) : Rd k w (.slice none 0 0) 0 f :=
  ⟨none, 0, rfl, Nat.le_refl _, by omega, fun _ => rfl, fun h => by omega⟩

/-- The first n integers of f, as values. -/
def vals (k : IntKind) (n : Nat) (f : Nat → Int) : List Value := (List.range n).map fun i => .int k (f i)
@[simp] theorem vals_length (k : IntKind) (n : Nat) (f : Nat → Int) : (vals k n f).length = n := by simp [vals]
theorem vals_succ (k : IntKind) (n : Nat) (f : Nat → Int) : vals k (n + 1) f = vals k n f ++ [.int k (f n)] := by simp [vals, List.range_succ]
theorem vals_congr {k : IntKind} {n : Nat} {f g : Nat → Int} (e : ∀ i, i < n → f i = g i) : vals k n f = vals k n g := by
  unfold vals
  exact List.map_congr_left fun i hi => by rw [e i (List.mem_range.1 hi)]
theorem vals_get {k : IntKind} {n : Nat} {f : Nat → Int} {i : Nat} (h : i < n) : (vals k n f)[i]? = some (.int k (f i)) := by
  simp [vals, h]

/-- The first n integers of f, as an array's cells. -/
def arr (k : IntKind) (n : Nat) (f : Nat → Int) : Array Value := (vals k n f).toArray
@[simp] theorem arr_size (k : IntKind) (n : Nat) (f : Nat → Int) : (arr k n f).size = n := by simp [arr]
theorem arr_get {k : IntKind} {n : Nat} {f : Nat → Int} {i : Nat} (h : i < n) : (arr k n f)[i]? = some (.int k (f i)) := by
  simpa [arr] using vals_get h
theorem arr_congr {k : IntKind} {n : Nat} {f g : Nat → Int} (e : ∀ i, i < n → f i = g i) : arr k n f = arr k n g := by rw [arr, arr, vals_congr e]

/-- v is a slice of the call's own (blocks from base on), to which it may append: it holds f 0 .. f (n-1). -/
def Own (k : IntKind) (e : TypeId) (base : Nat) (w : World) (v : Value) (n : Nat) (f : Nat → Int) : Prop :=
  w.ownsRow base e 1 v n (vals k n f)

theorem Own.rd {k : IntKind} {e : TypeId} {base : Nat} {w : World} {v : Value} {n : Nat} {f : Nat → Int} (h : Own k e base w v n f) : Rd k w v n f := by
  obtain ⟨_, h2⟩ := h
  rcases h2 with ⟨rfl, rfl⟩ | ⟨g, cap, cur, rfl, hb, hg, hn, hc, hs, ht⟩
  · exact Rd.nil _ _ _
  · unfold maxLen at hc
    refine ⟨_, _, rfl, hn, by omega, (fun h => by cases h), fun _ => ⟨g, 0, rfl, (Array.getElem?_eq_some_iff.1 hg).1, fun i hi => ?_⟩⟩
    rw [Nat.zero_add, cell_of_row w g i cur e (0, 0) hg]
    have := vals_get (k := k) (f := f) hi
    rw [← ht, List.getElem?_take] at this
    simpa [hi] using this

theorem Own.new (k : IntKind) (e : TypeId) {base : Nat} (w : World) (cs : Array Value) (n : Nat) (f : Nat → Int) (hb : base ≤ w.heap.size) (hn : n ≤ 9223372036854775807) (hs : cs.size = n) (hc : ∀ i, i < n → cs[i]? = some (.int k (f i))) :
    Own k e base (w.alloc (.cells cs e)) (.slice (some ⟨w.heap.size, 0, none⟩) n n) n f := by
  have hl : cs.toList = vals k n f := by
    apply List.ext_getElem?
    intro i
    by_cases h : i < n
    · rw [Array.getElem?_toList, hc i h, vals_get h]
    · rw [Array.getElem?_toList]; simp [h, hs, vals]
  unfold Own
  rw [← hl]
  exact World.ownsRow_lit w cs n hb (by unfold maxLen; omega) (by simp [hs])

theorem Own.congr {k : IntKind} {e : TypeId} {base : Nat} {w : World} {v : Value} {n : Nat} {f g : Nat → Int} (h : Own k e base w v n f) (q : ∀ i, i < n → f i = g i) : Own k e base w v n g := by
  unfold Own at *
  rwa [vals_congr q] at h

theorem Own.nil (k : IntKind) (e : TypeId) (base : Nat) (w : World) (f : Nat → Int) : Own k e base w (.slice none 0 0) 0 f := World.ownsRow_nil _ _ _ _

theorem below_drewN {B : Nat} {a w : World} (h : Below B a w) (n : Nat) : Below B a (w.drewN n) := h.trans ⟨rfl, rfl, rfl, Nat.le_refl _, fun _ _ => rfl⟩


/-! ### a slice of a slice -/
theorem elem_of {P : Program} {t e : TypeId} (ht : P.underlying t = some (.slice e)) : P.elem t = e := by simp [Program.elem, ht]
theorem run_sizeOf_of {P : Program} {e : TypeId} {z : Option Value} {bytes size : Nat} (h : (P.info? e).map (fun i => (i.zero, i.size, i.bytes)) = some (z, size, bytes)) (w : World) : (sizeOf e).run P w = .ok size w := by
  obtain ⟨i, hi, hx⟩ := Option.map_eq_some_iff.1 h
  simp only [Prod.mk.injEq] at hx
  simp [sizeOf, typeInfo, hi, hx.2.1]

/-- The value of 's[lo:hi]': its address under one name. -/
theorem Rd.cut {P : Program} {t e : TypeId} {k : IntKind} {bytes : Nat} (ht : P.underlying t = some (.slice e)) (hinfo : (P.info? e).map (fun i => (i.zero, i.size, i.bytes)) = some (some (.int k 0), 1, bytes))
    (a : Option Addr) (n c lo hi : Nat) (h1 : lo ≤ hi) (h2 : hi ≤ n) (h3 : n ≤ c) :
    ∃ a', (∀ w, (Instr.sliceAt t (.slice a n c) (some (.int .i64 (lo : Int))) (some (.int .i64 (hi : Int))) none).run P w = .ok (.slice a' (hi - lo) (c - lo)) w) ∧
      (∀ w, (Instr.sliceAt t (.slice a n c) (some (.int .i64 (lo : Int))) none none).run P w = .ok (.slice a' (n - lo) (c - lo)) w) ∧
      ∀ (w : World) (f : Nat → Int), Rd k w (.slice a n c) n f → (Rd k w (.slice a' (hi - lo) (c - lo)) (hi - lo) (fun i => f (lo + i)) ∧ Rd k w (.slice a' (n - lo) (c - lo)) (n - lo) (fun i => f (lo + i))) := by
  have hel := elem_of ht
  have ht' : P.underlying t = some (.slice (P.elem t)) := by rw [hel]; exact ht
  refine ⟨if c = lo then a else a.map (·.add (lo * 1)), fun w => ?_, fun w => ?_, fun w f hr => ?_⟩
  · rw [run_sliceAt_slice w t _ _ _ _ ht', run_slice_lh w t a n c ht' .i64 .i64 lo hi (by omega) (by omega) (by omega), hel, run_sizeOf_of hinfo]
    simp [Result.andThen, sliced]
  · rw [run_sliceAt_slice w t _ _ _ _ ht', run_slice_l w t a n c ht' .i64 lo (by omega) (by omega), hel, run_sizeOf_of hinfo]
    simp [Result.andThen, sliced]
  · obtain ⟨a0, c0, he, l1, l2, l3, l4⟩ := hr
    simp only [Value.slice.injEq, true_and] at he
    obtain ⟨rfl, rfl⟩ := he
    have key : ∀ m, m ≤ n - lo → Rd k w (.slice (if c = lo then a else a.map (·.add (lo * 1))) m (c - lo)) m (fun i => f (lo + i)) := by
      intro m hm
      refine ⟨_, _, rfl, by omega, by omega, fun hn => ?_, fun hm0 => ?_⟩
      · by_cases hc : c = lo
        · omega
        · rw [if_neg hc] at hn
          cases a with
          | none => have := l3 rfl; omega
          | some x => simp at hn
      · obtain ⟨b, o, rfl, hlt, hcell⟩ := l4 (by omega)
        rw [if_neg (by omega)]
        have hadd : (⟨b, o, none⟩ : Addr).add (lo * 1) = ⟨b, o + lo, none⟩ := by unfold Addr.add; split <;> simp_all
        refine ⟨b, o + lo, by simpa using hadd, hlt, fun i hi => ?_⟩
        rw [Nat.add_assoc]
        exact hcell _ (by omega)
    exact ⟨key _ (by omega), key _ (Nat.le_refl _)⟩

/-- 's[lo:hi]' as the walk writes it, the address known. -/
theorem Rd.cutAt {k : IntKind} {w : World} {b o n c : Nat} {f : Nat → Int} (h : Rd k w (.slice (some ⟨b, o, none⟩) n c) n f) (lo m : Nat) (hm : lo + m ≤ n) :
    Rd k w (.slice (if c = lo then some ⟨b, o, none⟩ else some ⟨b, o + lo, none⟩) m (c - lo)) m (fun i => f (lo + i)) := by
  obtain ⟨a0, c0, he, l1, l2, l3, l4⟩ := h
  simp only [Value.slice.injEq, true_and] at he
  obtain ⟨rfl, rfl⟩ := he
  refine ⟨_, _, rfl, by omega, by omega, fun hn => ?_, fun hm0 => ?_⟩
  · by_cases hc : c = lo
    · omega
    · rw [if_neg hc] at hn; cases hn
  · obtain ⟨b', o', he, hlt, hcell⟩ := l4 (by omega)
    simp only [Option.some.injEq, Addr.mk.injEq, and_true] at he
    obtain ⟨rfl, rfl⟩ := he
    rw [if_neg (by omega)]
    refine ⟨b, o + lo, rfl, hlt, fun i hi => ?_⟩
    rw [Nat.add_assoc]
    exact hcell _ (by omega)

theorem Rd.cutSome {k : IntKind} {w : World} {b o n c : Nat} {f : Nat → Int} (h : Rd k w (.slice (some ⟨b, o, none⟩) n c) n f) (lo m : Nat) (hm : lo + m ≤ n) :
    Rd k w (.slice (some ⟨b, o + lo, none⟩) m (c - lo)) m (fun i => f (lo + i)) := by
  obtain ⟨a0, c0, he, l1, l2, l3, l4⟩ := h
  simp only [Value.slice.injEq, true_and] at he
  obtain ⟨rfl, rfl⟩ := he
  refine ⟨_, _, rfl, by omega, by omega, (fun hn => by cases hn), fun hm0 => ?_⟩
  obtain ⟨b', o', he, hlt, hcell⟩ := l4 (by omega)
  simp only [Option.some.injEq, Addr.mk.injEq, and_true] at he
  obtain ⟨rfl, rfl⟩ := he
  refine ⟨b, o + lo, rfl, hlt, fun i hi => ?_⟩
  rw [Nat.add_assoc]
  exact hcell _ (by omega)

/-! ### make and append -/
theorem keep_cell {w0 w1 : World} {o : Obj} {row : Option Nat} {p : Addr} {v : Value} (hg : (w0.alloc o).drew.grownBy w1 row) (hne : some p.block ≠ row) (h : w0.cell? p = some v) : w1.cell? p = some v := by
  refine hg.cell ?_ hne
  have hlt := World.block_lt_of_cell? _ _ h
  have : (w0.alloc o).drew.heap[p.block]? = w0.heap[p.block]? := Below.heap_alloc w0 o p.block hlt
  exact (World.cell?_of_block this).trans h
theorem wrap_u32_id {x : Int} (h0 : 0 ≤ x) (h1 : x < 4294967296) : IntKind.u32.wrap x = x := by rw [IntKind.wrap_u32']; omega
theorem wrap_u64_id {x : Int} (h0 : 0 ≤ x) (h1 : x < 18446744073709551616) : IntKind.u64.wrap x = x := by rw [IntKind.wrap_u64]; omega
theorem wrap_i64_id {x : Int} (h0 : -9223372036854775808 ≤ x) (h1 : x < 9223372036854775808) : IntKind.i64.wrap x = x := by rw [IntKind.wrap_i64]; omega
theorem Own.far {k : IntKind} {e : TypeId} {base : Nat} {w : World} {v : Value} {n : Nat} {f : Nat → Int} (h : Own k e base w v n f) {b : Nat} (hb : b < base) : some b ≠ v.ownBlock := fun e => by have := (World.ownsRow.lt h b e.symm).1; omega

theorem one0 {i : Nat} {k : IntKind} {x y : Int} (hi : i < 1) (h : x = y) : (#[Value.int k x])[i]? = some (.int k y) := by
  obtain rfl : i = 0 := by omega
  rw [h]; rfl
theorem one1 {i j : Nat} {f : Nat → Int} (hi : i < 1) : f (j + i) = f j := by
  obtain rfl : i = 0 := by omega
  rfl
theorem vals_const (k : IntKind) (n : Nat) (x : Int) : List.replicate n (Value.int k x) = vals k n (fun _ => x) := by
  apply List.ext_getElem?
  intro i
  by_cases h : i < n
  · rw [vals_get h]; simp [h]
  · simp [h, vals]

theorem make_ints {P : Program} {w : World} {ops : Array Oper} {rest : List Oper} {o : Oper} {a : Act} {Q : Exit → Act → World → Prop}
    (hg : o.guard = none) (l c : Operand) (t : TypeId) (hop : o.op = Op.makeSlice t l c) (base : Nat) (e : TypeId) (k : IntKind) (bytes : Nat)
    (h1 : P.underlying t = some (.slice e)) (hinfo : (P.info? e).map (fun i => (i.zero, i.size, i.bytes)) = some (some (.int k 0), 1, bytes))
    (kl kc : IntKind) (n : Nat) (hl : a.eval l = .int kl (n : Int)) (hc : a.eval c = .int kc (n : Int)) (b2 : bytes * n ≤ 281474976710656) (b3 : n ≤ 9223372036854775807) (b4 : base ≤ w.heap.size)
    (hK : ∀ w', Own k e base w' (.slice (some ⟨w.heap.size, 0, none⟩) n n) n (fun _ => 0) → w.grownBy w' none → wpList P ops Q rest (a.put o.dst (.slice (some ⟨w.heap.size, 0, none⟩) n n)) w') :
    wpList P ops Q (o :: rest) a w := by
  obtain ⟨i, hi, hz0, hz1, hz2⟩ := info_parts hinfo
  refine wpList_make_full w hg l c t hop base e i (.int k 0) 1 h1 hi hz0 hz1 kl kc n n n hl hc rfl rfl (by rw [hz2]; exact b2) (by unfold maxLen; omega) b4 ?_
  intro w' hown hgrow
  refine hK w' ?_ hgrow
  unfold Own
  simpa [toList_madeCells_one, Value.cells, vals_const] using hown

/-- append of what lies in a block that has just been made (append(out, x, y, ..)). -/
theorem append_new {P : Program} {w : World} {ops : Array Oper} {rest : List Oper} {o : Oper} {a : Act} {Q : Exit → Act → World → Prop}
    (hg : o.guard = none) (s x : Operand) (t : TypeId) (hop : o.op = .call { callee := .builtin .append, args := #[s, x], argTypes := #[t, t] })
    (base : Nat) (e : TypeId) (k : IntKind) (bytes : Nat)
    (h1 : P.underlying t = some (.slice e)) (hinfo : (P.info? e).map (fun i => (i.zero, i.size, i.bytes)) = some (some (.int k 0), 1, bytes))
    (v : Value) (n : Nat) (f : Nat → Int) (w0 : World) (cs : Array Value) (hw : w = w0.alloc (.cells cs e)) (hown : Own k e base w0 v n f) (hs : a.eval s = v)
    (m : Nat) (hx : a.eval x = .slice (some ⟨w0.heap.size, 0, none⟩) m m) (hm : cs.size = m) (hc : ∀ i, i < m → cs[i]? = some (.int k (f (n + i))))
    (b2 : (n + m) * bytes ≤ 140737488355328) (b3 : n + m ≤ 9223372036854775807) (b4 : base ≤ w0.heap.size)
    (hK : ∀ v' w', Own k e base w' v' (n + m) f → w.grownBy w' v.ownBlock → wpList P ops Q rest (a.put o.dst v') w') :
    wpList P ops Q (o :: rest) a w := by
  subst hw
  obtain ⟨i, hi, hz0, hz1, hz2⟩ := info_parts hinfo
  have hnews : cs.toList = (List.range m).map fun i => Value.int k (f (n + i)) := by
    apply List.ext_getElem?
    intro i
    by_cases h : i < m
    · rw [Array.getElem?_toList, hc i h]; simp [h]
    · rw [Array.getElem?_toList]; simp [h, hm]
  have hv : vals k n f ++ cs.toList = vals k (n + m) f := by
    rw [hnews]
    unfold vals
    rw [List.range_add]
    simp
  refine wpList_append_own _ hg s x t hop base e i (.int k 0) 1 bytes h1 hi hz0 hz1 hz2 rfl (by decide) v n (vals k n f) hs (World.ownsRow.alloc hown _) ⟨w0.heap.size, 0, none⟩ m m cs.toList hx (by simp [hm]) ?_ ?_ (by unfold maxLen; omega) b2 (by simp; omega) ?_
  · intro j u hu
    have hadd : (⟨w0.heap.size, 0, none⟩ : Addr).add j = ⟨w0.heap.size, j, none⟩ := by unfold Addr.add; split <;> simp_all
    rw [hadd, cell_of_row (w0.alloc (.cells cs e)) w0.heap.size j cs e (0, 0) (heap_alloc_new w0 _)]
    simpa using hu
  · intro u hu
    rw [hnews] at hu
    obtain ⟨_, _, rfl⟩ := List.mem_map.1 hu
    rfl
  · intro v' w' hown' hgrow _
    refine hK v' w' ?_ hgrow
    unfold Own
    rw [← hv]
    exact hown'

/-- append of a slice of integers that can be read. -/
theorem wp_append_rd {P : Program} {w : World} {o : Oper} {a : Act} {K : Act → World → Prop} {Q : Exit → Act → World → Prop}
    (s x : Operand) (t : TypeId) (hop : o.op = .call { callee := .builtin .append, args := #[s, x], argTypes := #[t, t] })
    (base : Nat) (e : TypeId) (k : IntKind) (bytes : Nat)
    (h1 : P.underlying t = some (.slice e)) (hinfo : (P.info? e).map (fun i => (i.zero, i.size, i.bytes)) = some (some (.int k 0), 1, bytes))
    (v : Value) (n : Nat) (f : Nat → Int) (hown : Own k e base w v n f) (hs : a.eval s = v)
    (u : Value) (m : Nat) (g : Nat → Int) (hrd : Rd k w u m g) (hx : a.eval x = u) (hf : ∀ i, i < m → f (n + i) = g i)
    (b2 : (n + m) * bytes ≤ 140737488355328) (b3 : n + m ≤ 9223372036854775807) (b4 : base ≤ w.heap.size)
    (hK : ∀ v' w', Own k e base w' v' (n + m) f → w.grownBy w' v.ownBlock → K (a.put o.dst v') w') :
    o.wp P a w K Q := by
  obtain ⟨i, hi, hz0, hz1, hz2⟩ := info_parts hinfo
  have hv : vals k n f ++ vals k m g = vals k (n + m) f := by
    unfold vals
    rw [List.range_add]
    simp only [List.map_append, List.map_map]
    congr 1
    exact List.map_congr_left fun i hi => by simp [hf i (List.mem_range.1 hi)]
  obtain ⟨ao, c, rfl, l1, l2, l3, l4⟩ := hrd
  cases ao with
  | none =>
    have hm : m = 0 := by have := l3 rfl; omega
    subst hm
    have hr := run_append_owned_none (P := P) w base t o.type e i 1 h1 hi v n _ hown
    have hc0 := l3 rfl
    subst hc0
    unfold Oper.wp execOp
    simp only [hop, resolve, invoke, builtin, Sem.run_bind, Sem.run_pure, Result.andThen_ok, List.map_toArray, List.map_cons, List.map_nil, hs, hx, hr]
    exact hK v w (by simpa using hown) (World.grownBy.refl _ _)
  | some ad =>
    refine wp_append_own w s x t hop base e i (.int k 0) 1 bytes h1 hi hz0 hz1 hz2 rfl (by decide) v n (vals k n f) hs hown ad m c (vals k m g) hx (by simp) ?_ ?_ (by unfold maxLen; omega) b2 b4 ?_
    · intro j u hu
      have hj : j < m := by
        have := (List.getElem?_eq_some_iff.1 hu).1
        simpa using this
      obtain ⟨b, of, hb, _, hcell⟩ := l4 (by omega)
      obtain rfl := Option.some.inj hb
      have hadd : (⟨b, of, none⟩ : Addr).add j = ⟨b, of + j, none⟩ := by unfold Addr.add; split <;> simp_all
      rw [hadd, hcell j hj, ← vals_get (k := k) (f := g) hj]
      exact hu
    · intro u hu
      obtain ⟨_, _, rfl⟩ := List.mem_map.1 hu
      rfl
    · intro v' w' hown' hgrow _
      refine hK v' w' ?_ hgrow
      unfold Own
      rw [← hv]
      exact hown'

theorem append_rd {P : Program} {w : World} {ops : Array Oper} {rest : List Oper} {o : Oper} {a : Act} {Q : Exit → Act → World → Prop}
    (hg : o.guard = none) (s x : Operand) (t : TypeId) (hop : o.op = .call { callee := .builtin .append, args := #[s, x], argTypes := #[t, t] })
    (base : Nat) (e : TypeId) (k : IntKind) (bytes : Nat)
    (h1 : P.underlying t = some (.slice e)) (hinfo : (P.info? e).map (fun i => (i.zero, i.size, i.bytes)) = some (some (.int k 0), 1, bytes))
    (v : Value) (n : Nat) (f : Nat → Int) (hown : Own k e base w v n f) (hs : a.eval s = v)
    (u : Value) (m : Nat) (g : Nat → Int) (hrd : Rd k w u m g) (hx : a.eval x = u) (hf : ∀ i, i < m → f (n + i) = g i)
    (b2 : (n + m) * bytes ≤ 140737488355328) (b3 : n + m ≤ 9223372036854775807) (b4 : base ≤ w.heap.size)
    (hK : ∀ v' w', Own k e base w' v' (n + m) f → w.grownBy w' v.ownBlock → wpList P ops Q rest (a.put o.dst v') w') :
    wpList P ops Q (o :: rest) a w :=
  wpList_plain hg fun _ hK' => wp_append_rd s x t hop base e k bytes h1 hinfo v n f hown hs u m g hrd hx hf b2 b3 b4 fun v' w' q1 q2 => hK' _ _ (hK v' w' q1 q2)

theorem step_append_rd {P : Program} {w : World} {ops : Array Oper} {o : Oper} {a : Act} {K : Act → World → Prop} {Q : Exit → Act → World → Prop} {E : Prop}
    (hg : o.guard = none) (s x : Operand) (t : TypeId) (hop : o.op = .call { callee := .builtin .append, args := #[s, x], argTypes := #[t, t] })
    (base : Nat) (e : TypeId) (k : IntKind) (bytes : Nat)
    (h1 : P.underlying t = some (.slice e)) (hinfo : (P.info? e).map (fun i => (i.zero, i.size, i.bytes)) = some (some (.int k 0), 1, bytes))
    (v : Value) (n : Nat) (f : Nat → Int) (hown : Own k e base w v n f) (hs : a.eval s = v)
    (u : Value) (m : Nat) (g : Nat → Int) (hrd : Rd k w u m g) (hx : a.eval x = u) (hf : ∀ i, i < m → f (n + i) = g i)
    (b2 : (n + m) * bytes ≤ 140737488355328) (b3 : n + m ≤ 9223372036854775807) (b4 : base ≤ w.heap.size)
    (hK : ∀ v' w', Own k e base w' v' (n + m) f → w.grownBy w' v.ownBlock → K (a.put o.dst v') w') :
    if Region.wanted o (yielded ops a.tmps) = true then Oper.wp P o a w K Q else E := by
  have hw : Region.wanted o (yielded ops a.tmps) = true := by simp [Region.wanted, hg]
  rw [if_pos hw]
  exact wp_append_rd s x t hop base e k bytes h1 hinfo v n f hown hs u m g hrd hx hf b2 b3 b4 hK

/-! ### an owned slice is written -/
/-- f with x at place j. -/
def upd (f : Nat → Int) (j : Nat) (x : Int) : Nat → Int := fun i => if i = j then x else f i

theorem div_step (n : Int) (i : Nat) : n / 2 ^ (8 * (i + 1)) = n / 2 ^ (8 * i) / 256 := by
  rw [Int.ediv_ediv_of_nonneg (Int.le_of_lt (Int.pow_pos (by decide))), show 8 * (i + 1) = 8 * i + 8 from rfl, Int.pow_add]
  rfl
theorem div_bound {n : Int} (h : 0 ≤ n) (i : Nat) : 0 ≤ n / 2 ^ i ∧ n / 2 ^ i ≤ n :=
  ⟨Int.ediv_nonneg h (Int.le_of_lt (Int.pow_pos (by decide))), Int.ediv_le_self _ h⟩

/-- the number of the first k bytes, the highest first. -/
def big (f : Nat → Int) : Nat → Int
  | 0 => 0
  | k + 1 => 256 * big f k + f k
theorem big_bound {f : Nat → Int} {n : Nat} (hf : ∀ i, i < n → 0 ≤ f i ∧ f i < 256) : ∀ k, k ≤ n → 0 ≤ big f k ∧ big f k < 256 ^ k := by
  intro k
  induction k with
  | zero => intro _; simp [big]
  | succ k ih =>
    intro hk
    have h1 := ih (by omega)
    have h2 := hf k (by omega)
    rw [big, Int.pow_succ]
    omega
theorem pow_mono (b : Int) (hb : 1 ≤ b) (k m : Nat) (h : k ≤ m) : b ^ k ≤ b ^ m := by
  obtain ⟨d, rfl⟩ := Nat.exists_eq_add_of_le h
  clear h
  induction d with
  | zero => exact Int.le_refl _
  | succ d ih =>
    rw [← Nat.add_assoc, Int.pow_succ]
    have h0 : 0 < b ^ (k + d) := Int.pow_pos (by omega)
    have := Int.mul_le_mul_of_nonneg_left hb (Int.le_of_lt h0)
    omega
theorem big_lt {f : Nat → Int} {n : Nat} (hf : ∀ i, i < n → 0 ≤ f i ∧ f i < 256) (k m : Nat) (hk : k ≤ n) (hm : k ≤ m) : big f k < 256 ^ m :=
  Int.lt_of_lt_of_le (big_bound hf k hk).2 (pow_mono 256 (by decide) k m hm)
/-- what the document says of bytes, the highest first. -/
def getNum (f : Nat → Int) (n : Nat) : Int := if n = 0 ∨ 8 < n ∨ 4611686018427387904 < big f n then 0 else big f n
def getErr (f : Nat → Int) (n : Nat) : Int := if n = 0 then 10 else if 8 < n then 2 else if 4611686018427387904 < big f n then 11 else 0

theorem big_mono {f : Nat → Int} {n : Nat} (hf : ∀ i, i < n → 0 ≤ f i ∧ f i < 256) (k : Nat) (hk : k ≤ n) : ∀ m, k ≤ m → m ≤ n → big f k ≤ big f m := by
  intro m
  induction m with
  | zero => intro h _; obtain rfl : k = 0 := by omega
            exact Int.le_refl _
  | succ m ih =>
    intro h1 h2
    by_cases e : k = m + 1
    · subst e; exact Int.le_refl _
    · have := ih (by omega) (by omega)
      have h0 := (big_bound hf m (by omega)).1
      have h3 := hf m (by omega)
      rw [big]
      omega
theorem getNum_zero {f : Nat → Int} {n : Nat} (h : getErr f n ≠ 0) : getNum f n = 0 := by
  unfold getErr at h
  unfold getNum
  split
  · rfl
  · rename_i h'
    exfalso
    apply h
    rw [if_neg (by omega), if_neg (by omega), if_neg (by omega)]
theorem big_congr {f g : Nat → Int} {n : Nat} (h : ∀ i, i < n → f i = g i) : ∀ k, k ≤ n → big f k = big g k := by
  intro k
  induction k with
  | zero => intro _; rfl
  | succ k ih => intro hk; rw [big, big, ih (by omega), h k (by omega)]
theorem or_u64 {x c : Int} (h0 : 0 ≤ x) (h1 : x < 72057594037927936) (h2 : 0 ≤ c) (h3 : c < 256) : bits .or .u64 (x * 256) c = 256 * x + c := by
  rw [u64_or _ _ (by omega) (by omega) (by omega) (by omega), nat_join 8 _ _ (by omega) (by omega)]
  omega

theorem big_of_bytes {n : Int} {s : Nat} (h : n / 2 ^ (8 * s) = 0) : ∀ k, k ≤ s → big (fun i => n / 2 ^ (8 * (s - 1 - i)) % 256) k = n / 2 ^ (8 * (s - k)) := by
  intro k
  induction k with
  | zero => intro _; rw [Nat.sub_zero, h]; rfl
  | succ k ih =>
    intro hk
    rw [big, ih (by omega), show s - 1 - k = s - (k + 1) by omega, show s - k = s - (k + 1) + 1 by omega, div_step]
    omega
theorem big_div {f : Nat → Int} {n : Nat} (hf : ∀ i, i < n → 0 ≤ f i ∧ f i < 256) : ∀ j k, j + k ≤ n → big f (j + k) / 2 ^ (8 * j) = big f k := by
  intro j
  induction j with
  | zero => intro k _; simp
  | succ j ih =>
    intro k hk
    rw [div_step, show j + 1 + k = j + (k + 1) by omega, ih (k + 1) (by omega), big]
    have := hf k (by omega)
    omega
theorem big_byte {f : Nat → Int} {n : Nat} (hf : ∀ i, i < n → 0 ≤ f i ∧ f i < 256) (i : Nat) (hi : i < n) : big f n / 2 ^ (8 * (n - 1 - i)) % 256 = f i := by
  have h := big_div hf (n - 1 - i) (i + 1) (by omega)
  rw [show n - 1 - i + (i + 1) = n by omega] at h
  rw [h, big]
  have := hf i hi
  omega
theorem big_top {f : Nat → Int} {n : Nat} (hf : ∀ i, i < n → 0 ≤ f i ∧ f i < 256) : big f n / 2 ^ (8 * n) = 0 := by
  have h := big_div hf n 0 (by omega)
  simpa [big] using h

theorem and16_u32 {x : Int} (h0 : 0 ≤ x) (h1 : x < 4294967296) : bits .and .u32 x 65535 = x % 65536 := by
  rw [u32_and _ _ h0 h1 (by decide) (by decide), show (65535 : Int).toNat = 65535 from rfl, nat_mask16]
  omega
theorem or8_u32 {a b : Int} (h0 : 0 ≤ a) (h1 : a < 256) (h2 : 0 ≤ b) (h3 : b < 256) : bits .or .u32 a (b * 256) = a + b * 256 := by
  rw [u32_or a _ h0 (by omega) (by omega) (by omega), Nat.or_comm, nat_join 8 _ _ (by omega) (by omega)]
  omega
theorem or_bit {x c : Int} (h0 : 0 ≤ x) (h1 : x < 2147483648) (h2 : 0 ≤ c) (h3 : c ≤ 1) : bits .or .u32 (x * 2) c = x * 2 + c := by
  rw [u32_or _ _ (by omega) (by omega) (by omega) (by omega), nat_join 1 _ _ (by omega) (by omega)]
  omega

/-- the first j places are done. -/
def upto (j : Nat) (g f : Nat → Int) : Nat → Int := fun i => if i < j then g i else f i
theorem upto_zero (g f : Nat → Int) : upto 0 g f = f := by funext i; simp [upto]
theorem upto_step {j : Nat} {g f : Nat → Int} {x : Int} (h : x = g j) : upd (upto j g f) j x = upto (j + 1) g f := by
  funext i
  unfold upd upto
  by_cases e : i = j
  · subst e; simp [h]
  · by_cases e' : i < j
    · rw [if_neg e, if_pos e', if_pos (by omega)]
    · rw [if_neg e, if_neg e', if_neg (by omega)]
theorem upto_full {j n : Nat} (g f : Nat → Int) (h : n ≤ j) : ∀ i, i < n → upto j g f i = g i := fun i hi => if_pos (by omega)
theorem upto_at {j : Nat} (g f : Nat → Int) : upto j g f j = f j := if_neg (by omega)

theorem Own.form {k : IntKind} {e : TypeId} {base : Nat} {w : World} {v : Value} {n : Nat} {f : Nat → Int} (h : Own k e base w v n f) (hn : 0 < n) :
    ∃ g c, v = .slice (some ⟨g, 0, none⟩) n c ∧ base ≤ g ∧ g < w.heap.size ∧ n ≤ c ∧ c ≤ 9223372036854775807 ∧ (∀ i, i < n → w.cell? ⟨g, i, none⟩ = some (.int k (f i))) ∧ ∀ i, w.frozen? ⟨g, i, none⟩ = false := by
  have hr := h.rd
  have h0 := h
  obtain ⟨_, h2⟩ := h
  rcases h2 with ⟨rfl, rfl⟩ | ⟨g, cap, cur, rfl, hb, hg, hn', hc, hs, ht⟩
  · omega
  · unfold maxLen at hc
    refine ⟨g, cap, rfl, hb, (Array.getElem?_eq_some_iff.1 hg).1, hn', by omega, fun i hi => ?_, fun i => frozen_of_row w g i cur e hg⟩
    obtain ⟨a, c, he, _, _, _, h4⟩ := hr
    obtain ⟨b, o, rfl, _, hcell⟩ := h4 hn
    simp only [Value.slice.injEq, Option.some.injEq, Addr.mk.injEq, and_true, true_and] at he
    obtain ⟨⟨rfl, rfl⟩, _⟩ := he
    simpa using hcell i hi

theorem vals_set {k : IntKind} {n : Nat} {f : Nat → Int} (j : Nat) (x : Int) : (vals k n f).set j (.int k x) = vals k n (upd f j x) := by
  apply List.ext_getElem?
  intro i
  rw [List.getElem?_set]
  by_cases hi : i < n
  · rw [vals_get hi, vals_get hi]
    unfold upd
    by_cases hij : j = i
    · subst hij; simp [hi]
    · rw [if_neg hij, if_neg (fun e => hij e.symm)]
  · have : (vals k n f)[i]? = none := by simp; omega
    rw [this]
    have : (vals k n (upd f j x))[i]? = none := by simp; omega
    rw [this]
    by_cases hij : j = i
    · subst hij; simp; omega
    · simp [hij]

theorem Own.store {k : IntKind} {e : TypeId} {base : Nat} {w : World} {g n c : Nat} {f : Nat → Int} (h : Own k e base w (.slice (some ⟨g, 0, none⟩) n c) n f) (j : Nat) (x : Int) :
    Own k e base (w.setCell ⟨g, j, none⟩ (.int k x)) (.slice (some ⟨g, 0, none⟩) n c) n (upd f j x) := by
  have := (World.ownsRow.stored h j (.int k x)).1
  unfold Own
  rwa [vals_set] at this

theorem Own.alloc {k : IntKind} {e : TypeId} {base : Nat} {w : World} {v : Value} {n : Nat} {f : Nat → Int} (h : Own k e base w v n f) (o : Obj) : Own k e base (w.alloc o) v n f := World.ownsRow.alloc h o

theorem Own.drew {k : IntKind} {e : TypeId} {base : Nat} {w : World} {v : Value} {n : Nat} {f : Nat → Int} (h : Own k e base w v n f) : Own k e base w.drew v n f := h
theorem size_setCell (w : World) (a : Addr) (v : Value) : (w.setCell a v).heap.size = w.heap.size := by simp [World.setCell]

theorem Own.drewN {k : IntKind} {e : TypeId} {base : Nat} {w : World} {v : Value} {n : Nat} {f : Nat → Int} (h : Own k e base w v n f) (m : Nat) : Own k e base (w.drewN m) v n f := h

theorem Own.below {k : IntKind} {e : TypeId} {base : Nat} {w w' : World} {v : Value} {n : Nat} {f : Nat → Int} (h : Own k e base w v n f) (hb : Below w.heap.size w w') : Own k e base w' v n f := by
  refine ⟨h.1, ?_⟩
  rcases h.2 with hn | ⟨g, cap, cur, rfl, hb', hgg, rest⟩
  · exact .inl hn
  · refine .inr ⟨g, cap, cur, rfl, hb', ?_, rest⟩
    rw [hb.block g (Array.getElem?_eq_some_iff.1 hgg).1]
    exact hgg

theorem Own.mono {k : IntKind} {e : TypeId} {base base' : Nat} {w : World} {v : Value} {n : Nat} {f : Nat → Int} (h : Own k e base w v n f) (hb : base' ≤ base) : Own k e base' w v n f := by
  refine ⟨h.1, ?_⟩
  rcases h.2 with hn | ⟨g, cap, cur, rfl, hb', rest⟩
  · exact .inl hn
  · exact .inr ⟨g, cap, cur, rfl, by omega, rest⟩

/-- the block behind an owned slice is at least base. -/
theorem Own.block {k : IntKind} {e : TypeId} {base : Nat} {w : World} {v : Value} {n : Nat} {f : Nat → Int} (h : Own k e base w v n f) : ∀ b, v.ownBlock = some b → base ≤ b :=
  fun b hb => (World.ownsRow.lt h b hb).1

theorem below_grown {B : Nat} {a w w' : World} {k : IntKind} {e : TypeId} {base : Nat} {v : Value} {n : Nat} {f : Nat → Int} {w0 : World} (h : Below B a w) (hg : w.grownBy w' v.ownBlock) (ho : Own k e base w0 v n f) (hB : B ≤ w.heap.size) (hbase : B ≤ base) : Below B a w' :=
  h.grown hg hB fun b hb => Nat.le_trans hbase (ho.block b hb)

theorem below_grown0 {B : Nat} {a w w' : World} (h : Below B a w) (hg : w.grownBy w' none) (hB : B ≤ w.heap.size) : Below B a w' :=
  h.grown hg hB fun b hb => by cases hb

end Go.Bas
