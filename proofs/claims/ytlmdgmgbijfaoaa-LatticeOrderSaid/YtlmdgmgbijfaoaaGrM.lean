/-
  A graph in memory: its map, its nodes, its lists of edges. No program in sight.
-/
import Derived.Test.YtlmdgmgbijfaoaaGrN
import Derived.Test.YtlmdgmgbijfaoaaOwM
import Derived.Test.YtlmdgmgbijfaoaaMpv
import Derived.Test.YtlmdgmgbijfaoaaMat
import Derived.Test.YtlmdgmgbijfaoaaMrow
import Derived.Laws.StructEq
set_option linter.unusedVariables false
set_option linter.unusedSimpArgs false
namespace Go.Bas
open Go.RowKit
open Go.Maps (Keyed)
section
variable {K : Type}
theorem bytesYes {a b : ByteArray} (h : a = b) : (a.toList == b.toList) = true := by subst h; simp
theorem bytesNo {a b : ByteArray} (h : a ≠ b) : (a.toList == b.toList) = false := by
  rw [← beq_toListBytes]
  cases hq : (a == b) with
  | false => rfl
  | true =>
    exfalso
    apply h
    cases a; cases b
    congr 1
    exact eq_of_beq hq
/-- the values of a list. -/
def lv (kv : K → Value) (L : List K) : Nat → Nat → Value := fun j _ => match L[j]? with | some x => kv x | none => undef
theorem lv_at {kv : K → Value} {L : List K} {j i : Nat} {x : K} (h : L[j]? = some x) : lv kv L j i = kv x := by unfold lv; rw [h]
theorem lv_one {kv : K → Value} {L : List K} (h1 : ∀ x, (kv x).oneCell' = true) {j i : Nat} (h : j < L.length) : (lv kv L j i).oneCell' = true := by
  rw [lv_at (List.getElem?_eq_getElem h)]
  exact h1 _
theorem lv_app {kv : K → Value} {L : List K} {x : K} {y : Nat → Nat → Value} (hy : y 0 0 = kv x) : ∀ j, j < L.length + 1 → ∀ i, i < 1 → catM L.length (lv kv L) y j i = lv kv (L ++ [x]) j i := by
  intro j hj i hi
  obtain rfl : i = 0 := by omega
  by_cases h : j < L.length
  · rw [catM_lo h]
    unfold lv
    rw [List.getElem?_append_left h]
  · obtain rfl : j = L.length := by omega
    rw [catM_at, hy, lv_at (x := x) (by simp)]
theorem OwM.mat {e : TypeId} {c n : Nat} {w : World} {v : Value} {q : Nat → Nat → Value} (h : OwM e c w v n q) : Mat w v n c q := by
  rcases h with ⟨rfl, rfl⟩ | ⟨g, cap, rfl, h1, h2, h3, h4⟩
  · exact ⟨none, 0, rfl, Nat.le_refl _, by omega, fun h => by omega⟩
  · unfold maxLen at h3
    exact ⟨_, cap, rfl, h2, by omega, fun _ => ⟨g, 0, rfl, h1.lt, fun j hj i hi => by rw [Nat.zero_add]; exact h4 j hj i hi⟩⟩
theorem Mat.chg {F : Nat → Prop} {w w' : World} {v : Value} {m c : Nat} {q : Nat → Nat → Value} (h : Mat w v m c q) (hc : Chg F w w') (hn : 0 < m → ∀ b, v.ownBlock = some b → ¬ F b) : Mat w' v m c q := by
  obtain ⟨a, cap, rfl, h1, h2, h3⟩ := h
  refine ⟨a, cap, rfl, h1, h2, fun hm => ?_⟩
  obtain ⟨b, o, rfl, hlt, hcc⟩ := h3 hm
  have := hc.size
  exact ⟨b, o, rfl, by omega, fun j hj i hi => (hc.cell (p := ⟨b, o + j * c + i, none⟩) hlt (hn hm b rfl)).trans (hcc j hj i hi)⟩
/-- a cell of a list that can be read. -/
theorem Mat.one {w : World} {v : Value} {n : Nat} {q : Nat → Nat → Value} (h : Mat w v n 1 q) : ∃ a cap, v = .slice a n cap ∧ n ≤ cap ∧ cap ≤ 9223372036854775807 ∧ ∀ j, j < n → ∃ b o, a = some ⟨b, o, none⟩ ∧ b < w.heap.size ∧ w.cell? ⟨b, o + j, none⟩ = some (q j 0) := by
  obtain ⟨a, cap, rfl, h1, h2, h3⟩ := h
  refine ⟨a, cap, rfl, h1, h2, fun j hj => ?_⟩
  obtain ⟨b, o, rfl, hb, hc⟩ := h3 (by omega)
  refine ⟨b, o, rfl, hb, ?_⟩
  have := hc j hj 0 (by decide)
  rwa [show o + j * 1 + 0 = o + j by omega] at this
/-- one own list more. -/
theorem OwM.snoc {e : TypeId} {kv : K → Value} {L : List K} {x : K} {w : World} {v : Value} {y : Nat → Nat → Value} (h : OwM e 1 w v (L.length + 1) (catM L.length (lv kv L) y)) (hy : y 0 0 = kv x) : OwM e 1 w v (L ++ [x]).length (lv kv (L ++ [x])) := by
  rw [List.length_append, List.length_singleton]
  exact h.congr (lv_app hy)
theorem Mpv.chg {P : Program} {k e : TypeId} {w w' : World} {b n : Nat} {key val : Nat → Value} {F : Nat → Prop} (h : Mpv P k e w b n key val) (hc : Chg F w w') (hn : ¬ F b) : Mpv P k e w' b n key val := h.heap (hc.block b h.lt hn)
theorem Mpv.noRow {P : Program} {k e : TypeId} {w : World} {b n : Nat} {key val : Nat → Value} (h : Mpv P k e w b n key val) {t : TypeId} {m : Nat} (hr : RowB w b t m) : False := by
  obtain ⟨D, ⟨es, clock, hb, _⟩, _⟩ := h
  obtain ⟨cur, hc, _⟩ := hr
  rw [hb] at hc
  cases hc
end
section
variable {w : World} {e : TypeId} {c n b : Nat} {v : Value} {q : Nat → Nat → Value}
theorem OwM.rowOf (h : OwM e c w v n q) (hb : v.ownBlock = some b) : ∃ m, RowB w b e m := by
  rcases h with ⟨rfl, _⟩ | ⟨g, cap, rfl, h1, _⟩
  · cases hb
  · cases hb; exact ⟨_, h1⟩
theorem RowB.type {g m m' : Nat} {e e' : TypeId} (h : RowB w g e m) (h' : RowB w g e' m') : e = e' := by
  obtain ⟨c, h, _⟩ := h
  obtain ⟨c', h', _⟩ := h'
  rw [h] at h'
  simp at h'
  exact h'.2
theorem OwM.heap_ne (h : OwM e c w v n q) {e' : TypeId} {m : Nat} (hr : RowB w b e' m) (hne : e' ≠ e) (hb : v.ownBlock = some b) : False := by
  obtain ⟨m', h'⟩ := h.rowOf hb
  exact hne (hr.type h')
theorem OwM.noMap (h : OwM e c w v n q) {P : Program} {k t : TypeId} {n' : Nat} {key val : Nat → Value} (hm : Mpv P k t w b n' key val) (hb : v.ownBlock = some b) : False := by
  obtain ⟨m', h'⟩ := h.rowOf hb
  exact hm.noRow h'
theorem OwM.apartT (h : OwM e c w v n q) {e' : TypeId} {c' n' : Nat} {u : Value} {q' : Nat → Nat → Value} (hu : OwM e' c' w u n' q') (hne : e' ≠ e) (hb : v.ownBlock = some b) (hb' : u.ownBlock = some b) : False := by
  obtain ⟨m', h'⟩ := h.rowOf hb
  obtain ⟨m2, h2⟩ := hu.rowOf hb'
  exact hne (h2.type h')
end
/-- append(v, x): the list of one has just been made. -/
theorem wpList_append_lit {P : Program} {ops : Array Oper} {rest : List Oper} {o : Oper} {a : Act} {w w0 : World} {Q' : Exit → Act → World → Prop} {e t : TypeId} {n : Nat} {v u : Value} {q : Nat → Nat → Value} {bytes : Nat} {z : Value} (hg : o.guard = none) (s x : Operand) (hop : o.op = .call { callee := .builtin .append, args := #[s, x], argTypes := #[t, t] })
    (hs : a.eval s = v) (hw : w = w0.alloc (.cells #[u] e)) (h : OwM e 1 w0 v n q) (h1 : P.underlying t = some (.slice e)) (hinfo : (P.info? e).map (fun i => (i.zero, i.size, i.bytes)) = some (some z, 1, bytes)) (hz : z.cells.size = 1)
    (hx : a.eval x = .slice (some ⟨w0.heap.size, 0, none⟩) 1 1) (hu : u.oneCell' = true)
    (h63 : n + 1 ≤ maxLen) (hb : (n + 1) * bytes ≤ 140737488355328)
    (hK : ∀ v' w', OwM e 1 w' v' (n + 1) (catM n q (fun _ _ => u)) → w.grownBy w' v.ownBlock → Placed w0 v v' → wpList P ops Q' rest (a.put o.dst v') w') : wpList P ops Q' (o :: rest) a w := by
  subst hw
  refine wpList_append_m hg s x hop hs (h.alloc _) (by decide) h1 hinfo hz w0.heap.size 0 1 1 hx (fun _ _ => u) (fun j hj i hi => ⟨?_, hu⟩) h63 hb fun v' w' h1 h2 h3 => hK v' w' h1 h2 ?_
  · obtain rfl : j = 0 := by omega
    obtain rfl : i = 0 := by omega
    rw [cell_of_row _ _ _ _ _ (0, 0) (heap_alloc_new w0 _)]
    rfl
  · rcases h3 with h3 | h3
    · exact .inl h3
    · exact .inr fun b hb => by have := h3 b hb; rw [World.size_alloc] at this; omega
theorem Chg.of_lit {w w' : World} {o : Obj} {row : Option Nat} (h : (w.alloc o).grownBy w' row) : Chg (fun b => row = some b) w w' :=
  (Chg.of_below ((Below.refl w.heap.size w).alloc (Nat.le_refl _) o) _).trans (Chg.of_grown h fun _ hb => hb) fun _ _ h => h
/-- a place, as a value. -/
abbrev natV (n : Nat) : Value := .int .i64 (n : Int)
/-- what is asked of the keys. -/
structure Key (P : Program) (kT mT iT : TypeId) {K : Type} (kv : K → Value) (ok : K → Prop) : Prop where
  keyed : Keyed P kT
  under : P.underlying mT = some (.map kT iT)
  int : P.underlying iT = some (.int .i64)
  zero : ∀ w, (zeroValue iT).run P w = .ok (.int .i64 0) w
  key : ∀ x, ok x → ∃ kl, keyOf P kT (kv x) = some kl
  inj : ∀ x y, kv x = kv y → x = y
  one : ∀ x, (kv x).oneCell' = true
section
variable {K : Type} {P : Program} {kT mT iT : TypeId} {kv : K → Value} {ok : K → Prop} {w w' : World} {mb : Nat} {nd : List K}
/-- the map of nodes. -/
abbrev NdMap (P : Program) (kT iT : TypeId) (kv : K → Value) (w : World) (mb : Nat) (nd : List K) : Prop := Mpv P kT iT w mb nd.length (fun i => lv kv nd i 0) natV
theorem natV_wf {n : Nat} (h : n ≤ 9223372036854775807) : (Lit.int .i64 (n : Int)).wf = true := by
  simp [Lit.wf, IntKind.min, IntKind.max, IntKind.signed, IntKind.bits]
  omega
theorem Key.lookYes [DecidableEq K] (k : Key P kT mT iT kv ok) (h : NdMap P kT iT kv w mb nd) {x : K} (hx : x ∈ nd) : (Instr.lookup mT (.map (some mb)) (kv x) true).run P w = .ok (.tuple #[natV (plc nd x), .bool true]) w := by
  have := (h.look_yes k.keyed k.under (k.zero w) (plainElem_int k.int (by decide)) (plc nd x) (plc_lt hx)).1
  rw [show lv kv nd (plc nd x) 0 = kv x from lv_at (plc_get hx)] at this
  exact this
theorem Key.lookNo (k : Key P kT mT iT kv ok) (h : NdMap P kT iT kv w mb nd) {x : K} (hok : ok x) (hx : x ∉ nd) : (Instr.lookup mT (.map (some mb)) (kv x) true).run P w = .ok (.tuple #[.int .i64 0, .bool false]) w := by
  obtain ⟨kl, hk⟩ := k.key x hok
  refine (h.look_no k.keyed k.under (k.zero w) (plainElem_int k.int (by decide)) hk fun i hi e => hx ?_).1
  rw [lv_at (List.getElem?_eq_getElem hi)] at e
  have := k.inj _ _ e
  rw [← this]
  exact List.getElem_mem hi
theorem Key.put (k : Key P kT mT iT kv ok) (h : NdMap P kT iT kv w mb nd) {x : K} (hok : ok x) (hx : x ∉ nd) (hn : nd.length ≤ 1000000) : ∃ w', (Instr.mapUpdate mT (.map (some mb)) (kv x) (natV nd.length)).run P w = .ok () w' ∧ NdMap P kT iT kv w' mb (nd ++ [x]) ∧ w.grownBy w' (some mb) := by
  obtain ⟨kl, hk⟩ := k.key x hok
  have hput := h.put (key' := fun i => lv kv (nd ++ [x]) i 0) (val' := natV) k.keyed k.under (by unfold maxLen; omega) hk (plainElem_int k.int (natV_wf (by omega)) : plainElem (H := Unit) P iT (natV nd.length) = _) (fun i hi e => hx (by
    rw [lv_at (List.getElem?_eq_getElem hi)] at e
    have := k.inj _ _ e
    rw [← this]
    exact List.getElem_mem hi)) (fun i hi => ⟨by
      show lv kv (nd ++ [x]) i 0 = lv kv nd i 0
      unfold lv
      rw [List.getElem?_append_left hi], rfl⟩) ⟨by
      show lv kv (nd ++ [x]) nd.length 0 = kv x
      exact lv_at (by simp), rfl⟩
  obtain ⟨w', h1, h2, h3⟩ := hput
  refine ⟨w', h1, ?_, h3⟩
  show Mpv P kT iT w' mb (nd ++ [x]).length _ natV
  rw [List.length_append, List.length_singleton]
  exact h2
/-! ### the graph -/
/-- its row. -/
structure GRow (gT : TypeId) (w : World) (p mb : Nat) (vn vo : Value) (ed : Nat) : Prop where
  row : RowB w p gT 4
  c0 : w.cell? ⟨p, 0, none⟩ = some (.map (some mb))
  c1 : w.cell? ⟨p, 1, none⟩ = some vn
  c2 : w.cell? ⟨p, 2, none⟩ = some vo
  c3 : w.cell? ⟨p, 3, none⟩ = some (natV ed)
theorem addrNe {p i j : Nat} (h : i ≠ j) : (⟨p, i, none⟩ : Addr) ≠ ⟨p, j, none⟩ := fun e => h (by cases e; rfl)
section
variable {gT : TypeId} {p : Nat} {vn vo : Value} {ed : Nat} {F : Nat → Prop}
theorem GRow.chg (h : GRow gT w p mb vn vo ed) (hc : Chg F w w') (hn : ¬ F p) : GRow gT w' p mb vn vo ed := by
  have o : ∀ i v, w.cell? ⟨p, i, none⟩ = some v → w'.cell? ⟨p, i, none⟩ = some v := fun i v hv => by rw [hc.cell (p := ⟨p, i, none⟩) h.row.lt hn]; exact hv
  exact ⟨h.row.heap (hc.block p h.row.lt hn), o 0 _ h.c0, o 1 _ h.c1, o 2 _ h.c2, o 3 _ h.c3⟩
theorem GRow.set1 (h : GRow gT w p mb vn vo ed) (v : Value) : GRow gT (w.setCell ⟨p, 1, none⟩ v) p mb v vo ed := by
  have o : ∀ i v', 1 ≠ i → w.cell? ⟨p, i, none⟩ = some v' → (w.setCell ⟨p, 1, none⟩ v).cell? ⟨p, i, none⟩ = some v' := fun i v hi hv => by rw [World.cell?_setCell_other (h := addrNe hi)]; exact hv
  exact ⟨h.row.setCell _ rfl _, o 0 _ (by decide) h.c0, World.cell?_setCell_same _ _ _ h.c1, o 2 _ (by decide) h.c2, o 3 _ (by decide) h.c3⟩
theorem GRow.set2 (h : GRow gT w p mb vn vo ed) (v : Value) : GRow gT (w.setCell ⟨p, 2, none⟩ v) p mb vn v ed := by
  have o : ∀ i v', 2 ≠ i → w.cell? ⟨p, i, none⟩ = some v' → (w.setCell ⟨p, 2, none⟩ v).cell? ⟨p, i, none⟩ = some v' := fun i v hi hv => by rw [World.cell?_setCell_other (h := addrNe hi)]; exact hv
  exact ⟨h.row.setCell _ rfl _, o 0 _ (by decide) h.c0, o 1 _ (by decide) h.c1, World.cell?_setCell_same _ _ _ h.c2, o 3 _ (by decide) h.c3⟩
theorem GRow.set3 (h : GRow gT w p mb vn vo ed) (n : Nat) : GRow gT (w.setCell ⟨p, 3, none⟩ (natV n)) p mb vn vo n := by
  have o : ∀ i v', 3 ≠ i → w.cell? ⟨p, i, none⟩ = some v' → (w.setCell ⟨p, 3, none⟩ (natV n)).cell? ⟨p, i, none⟩ = some v' := fun i v hi hv => by rw [World.cell?_setCell_other (h := addrNe hi)]; exact hv
  exact ⟨h.row.setCell _ rfl _, o 0 _ (by decide) h.c0, o 1 _ (by decide) h.c1, o 2 _ (by decide) h.c2, World.cell?_setCell_same _ _ _ h.c3⟩
end
/-- what the graph writes in. -/
def GF (p mb : Nat) (vn vo : Value) (os : List (List Nat)) (ov : Nat → Value) (b : Nat) : Prop := b = p ∨ b = mb ∨ vn.ownBlock = some b ∨ vo.ownBlock = some b ∨ ∃ j, j < os.length ∧ (ov j).ownBlock = some b
/-- the graph of nodes nd, with the lists os of what each leads to, lies at block p. -/
structure Gph (P : Program) (gT kT iT lT : TypeId) (kv : K → Value) (B : Nat) (w : World) (p mb : Nat) (vn vo : Value) (ov : Nat → Value) (nd : List K) (os : List (List Nat)) (ed : Nat) : Prop where
  row : GRow gT w p mb vn vo ed
  map : NdMap P kT iT kv w mb nd
  nodes : OwM kT 1 w vn nd.length (lv kv nd)
  out : OwM lT 1 w vo os.length (fun j _ => ov j)
  lists : ∀ j l, os[j]? = some l → OwM iT 1 w (ov j) l.length (lv natV l)
  apart : ∀ i j, i < os.length → j < os.length → i ≠ j → ∀ b, (ov i).ownBlock = some b → (ov j).ownBlock ≠ some b
  vap : ∀ j, j < os.length → ∀ b, (ov j).ownBlock = some b → vn.ownBlock ≠ some b
  hi : ∀ b, GF p mb vn vo os ov b → B ≤ b
  same : nd.length = os.length
  few : nd.length ≤ 1000000
  edf : ed ≤ 1000000
  lfew : ∀ l, l ∈ os → l.length ≤ 1000000 ∧ ∀ m, m ∈ l → m < nd.length
  nodup : nd.Nodup
section
variable {gT lT : TypeId} {B p : Nat} {vn vo : Value} {ov : Nat → Value} {os : List (List Nat)} {ed : Nat} {F : Nat → Prop}
theorem Gph.keep (h : Gph P gT kT iT lT kv B w p mb vn vo ov nd os ed) (hc : Chg F w w') (hF : ∀ b, GF p mb vn vo os ov b → ¬ F b) : Gph P gT kT iT lT kv B w' p mb vn vo ov nd os ed :=
  ⟨h.row.chg hc (hF p (.inl rfl)), h.map.chg hc (hF mb (.inr (.inl rfl))), h.nodes.chg hc fun b hb => hF b (.inr (.inr (.inl hb))), h.out.chg hc fun b hb => hF b (.inr (.inr (.inr (.inl hb)))),
    fun j l hj => (h.lists j l hj).chg hc fun b hb => hF b (.inr (.inr (.inr (.inr ⟨j, (List.getElem?_eq_some_iff.1 hj).1, hb⟩)))), h.apart, h.vap, h.hi, h.same, h.few, h.edf, h.lfew, h.nodup⟩
theorem Gph.below (h : Gph P gT kT iT lT kv B w p mb vn vo ov nd os ed) (hb : Below w.heap.size w w') : Gph P gT kT iT lT kv B w' p mb vn vo ov nd os ed := h.keep (.of_below hb fun _ => False) (fun _ _ => id)
theorem Gph.lt (h : Gph P gT kT iT lT kv B w p mb vn vo ov nd os ed) {b : Nat} (hb : GF p mb vn vo os ov b) : b < w.heap.size := by
  rcases hb with rfl | rfl | hb | hb | ⟨j, hj, hb⟩
  · exact h.row.row.lt
  · exact h.map.lt
  · exact h.nodes.lt b hb
  · exact h.out.lt b hb
  · exact (h.lists j _ (List.getElem?_eq_getElem hj)).lt b hb
/-- a new node is there: the map, the nodes, the lists of edges. -/
theorem Gph.grow {vn' vo' : Value} (h : Gph P gT kT iT lT kv B w p mb vn vo ov nd os ed) (hB : B ≤ w.heap.size) {x : K} (hx : x ∉ nd) (hf : nd.length < 1000000)
    (hr : GRow gT w' p mb vn' vo' ed) (hm : NdMap P kT iT kv w' mb (nd ++ [x])) (hn : OwM kT 1 w' vn' (nd ++ [x]).length (lv kv (nd ++ [x])))
    (ho : OwM lT 1 w' vo' (os.length + 1) (fun j _ => if j = os.length then .slice none 0 0 else ov j)) (hc : Chg (fun b => b = p ∨ b = mb ∨ vn.ownBlock = some b ∨ vo.ownBlock = some b) w w')
    (pn : ∀ b, vn'.ownBlock = some b → vn.ownBlock = some b ∨ w.heap.size ≤ b) (po : ∀ b, vo'.ownBlock = some b → vo.ownBlock = some b ∨ w.heap.size ≤ b)
    (hgl : gT ≠ iT) (hll : lT ≠ iT) :
    Gph P gT kT iT lT kv B w' p mb vn' vo' (fun j => if j = os.length then .slice none 0 0 else ov j) (nd ++ [x]) (os ++ [[]]) ed := by
  have hlist : ∀ j l, os[j]? = some l → OwM iT 1 w' (ov j) l.length (lv natV l) := fun j l hj => by
    have hjl := (List.getElem?_eq_some_iff.1 hj).1
    refine (h.lists j l hj).chg hc fun b hb hF => ?_
    rcases hF with rfl | rfl | hF | hF
    · exact (h.lists j l hj).heap_ne h.row.row hgl hb
    · exact (h.lists j l hj).noMap h.map hb
    · exact h.vap j hjl b hb hF
    · exact (h.lists j l hj).apartT h.out hll hb hF
  refine ⟨hr, hm, hn, ?_, fun j l hj => ?_, fun i j hi hj hne b hb hb' => ?_, fun j hj b hb hb' => ?_, fun b hb => ?_, by simp [h.same], by simp; omega, h.edf, fun l hl => ?_, ?_⟩
  · rw [List.length_append, List.length_singleton]
    exact ho
  · by_cases he : j = os.length
    · subst he
      rw [List.getElem?_append_right (Nat.le_refl _), Nat.sub_self] at hj
      simp at hj
      subst hj
      rw [if_pos rfl]
      exact OwM.nil _ _ _ _
    · rw [if_neg he]
      have hl := (List.getElem?_eq_some_iff.1 hj).1
      simp at hl
      rw [List.getElem?_append_left (by omega)] at hj
      exact hlist j l hj
  · simp at hi hj
    by_cases hi' : i = os.length
    · rw [if_pos hi'] at hb; cases hb
    · by_cases hj' : j = os.length
      · rw [if_pos hj'] at hb'; cases hb'
      · rw [if_neg hi'] at hb
        rw [if_neg hj'] at hb'
        exact h.apart i j (by omega) (by omega) hne b hb hb'
  · simp at hj
    by_cases hj' : j = os.length
    · rw [if_pos hj'] at hb; cases hb
    · rw [if_neg hj'] at hb
      rcases pn b hb' with h1 | h1
      · exact h.vap j (by omega) b hb h1
      · have := h.lt (.inr (.inr (.inr (.inr ⟨j, by omega, hb⟩))))
        omega
  · rcases hb with hb | hb | hb | hb | ⟨j, hj, hb⟩
    · exact h.hi b (.inl hb)
    · exact h.hi b (.inr (.inl hb))
    · rcases pn b hb with h1 | h1
      · exact h.hi b (.inr (.inr (.inl h1)))
      · omega
    · rcases po b hb with h1 | h1
      · exact h.hi b (.inr (.inr (.inr (.inl h1))))
      · omega
    · simp at hj
      dsimp only at hb
      by_cases hj' : j = os.length
      · rw [if_pos hj'] at hb; cases hb
      · rw [if_neg hj'] at hb
        exact h.hi b (.inr (.inr (.inr (.inr ⟨j, by omega, hb⟩))))
  · rw [List.mem_append, List.mem_singleton] at hl
    rcases hl with hl | rfl
    · refine ⟨(h.lfew l hl).1, fun m hm => ?_⟩
      have := (h.lfew l hl).2 m hm
      simp
      omega
    · exact ⟨by simp, fun m hm => by cases hm⟩
  · rw [List.nodup_append]
    exact ⟨h.nodup, by simp, fun a ha b hb => by simp at hb; subst hb; intro e; subst e; exact hx ha⟩
/-- one more edge: from node a to node b. -/
theorem Gph.link {v' : Value} {ed' a m : Nat} {l : List Nat} (h : Gph P gT kT iT lT kv B w p mb vn vo ov nd os ed) (hB : B ≤ w.heap.size) (ha : os[a]? = some l) (hm : m < nd.length) (hl : l.length < 1000000) (he : ed' ≤ 1000000)
    (hr : GRow gT w' p mb vn vo ed') (ho : OwM lT 1 w' vo os.length (fun j _ => if j = a then v' else ov j)) (hv : OwM iT 1 w' v' (l ++ [m]).length (lv natV (l ++ [m])))
    (hc : Chg (fun b => b = p ∨ vo.ownBlock = some b ∨ (ov a).ownBlock = some b) w w') (pv : ∀ b, v'.ownBlock = some b → (ov a).ownBlock = some b ∨ w.heap.size ≤ b)
    (hgl : gT ≠ iT) (hll : lT ≠ iT) (hgk : gT ≠ kT) (hlk : lT ≠ kT) :
    Gph P gT kT iT lT kv B w' p mb vn vo (fun j => if j = a then v' else ov j) nd (os.set a (l ++ [m])) ed' := by
  have hal : a < os.length := (List.getElem?_eq_some_iff.1 ha).1
  have hl0 : ∀ b, v'.ownBlock = some b → ∀ j, j < os.length → j ≠ a → (ov j).ownBlock ≠ some b := fun b hb j hj hja hb' => by
    rcases pv b hb with h1 | h1
    · exact h.apart j a hj hal hja b hb' h1
    · have := h.lt (.inr (.inr (.inr (.inr ⟨j, hj, hb'⟩))))
      omega
  refine ⟨hr, h.map.chg hc fun hF => ?_, h.nodes.chg hc fun b hb hF => ?_, ?_, fun j l' hj => ?_, fun i j hi hj hne b hb hb' => ?_, fun j hj b hb hb' => ?_, fun b hb => ?_, by simp [h.same], h.few, he, fun l' hl' => ?_, h.nodup⟩
  · rcases hF with hF | hF | hF
    · exact h.map.noRow (hF ▸ h.row.row)
    · exact h.out.noMap h.map hF
    · exact (h.lists a l ha).noMap h.map hF
  · rcases hF with rfl | hF | hF
    · exact h.nodes.heap_ne h.row.row hgk hb
    · exact h.nodes.apartT h.out hlk hb hF
    · exact h.vap a hal b hF hb
  · rw [List.length_set]
    exact ho
  · by_cases hja : j = a
    · subst hja
      rw [List.getElem?_set_self hal] at hj
      cases hj
      rw [if_pos rfl]
      exact hv
    · rw [if_neg hja]
      rw [List.getElem?_set_ne (Ne.symm hja)] at hj
      have hjl := (List.getElem?_eq_some_iff.1 hj).1
      refine (h.lists j l' hj).chg hc fun b hb hF => ?_
      rcases hF with rfl | hF | hF
      · exact (h.lists j l' hj).heap_ne h.row.row hgl hb
      · exact (h.lists j l' hj).apartT h.out hll hb hF
      · exact h.apart j a hjl hal hja b hb hF
  · rw [List.length_set] at hi hj
    try dsimp only at hb hb'
    by_cases hia : i = a
    · rw [if_pos hia] at hb
      have hja : j ≠ a := fun e => hne (hia.trans e.symm)
      rw [if_neg hja] at hb'
      exact hl0 b hb j hj hja hb'
    · rw [if_neg hia] at hb
      by_cases hja : j = a
      · rw [if_pos hja] at hb'
        exact hl0 b hb' i hi hia hb
      · rw [if_neg hja] at hb'
        exact h.apart i j hi hj hne b hb hb'
  · rw [List.length_set] at hj
    try dsimp only at hb
    by_cases hja : j = a
    · rw [if_pos hja] at hb
      rcases pv b hb with h1 | h1
      · exact h.vap a hal b h1 hb'
      · have := h.lt (.inr (.inr (.inl hb')))
        omega
    · rw [if_neg hja] at hb
      exact h.vap j hj b hb hb'
  · rcases hb with hb | hb | hb | hb | ⟨j, hj, hb⟩
    · exact h.hi b (.inl hb)
    · exact h.hi b (.inr (.inl hb))
    · exact h.hi b (.inr (.inr (.inl hb)))
    · exact h.hi b (.inr (.inr (.inr (.inl hb))))
    · rw [List.length_set] at hj
      try dsimp only at hb
      by_cases hja : j = a
      · rw [if_pos hja] at hb
        rcases pv b hb with h1 | h1
        · exact h.hi b (.inr (.inr (.inr (.inr ⟨a, hal, h1⟩))))
        · omega
      · rw [if_neg hja] at hb
        exact h.hi b (.inr (.inr (.inr (.inr ⟨j, hj, hb⟩))))
  · rcases List.mem_or_eq_of_mem_set hl' with h1 | rfl
    · exact h.lfew l' h1
    · have h2 := h.lfew l (List.mem_of_getElem? ha)
      refine ⟨by simp; omega, fun x hx => ?_⟩
      rw [List.mem_append, List.mem_singleton] at hx
      rcases hx with hx | rfl
      · exact h2.2 x hx
      · exact hm
end
end
/-! ### the search's own lists -/
/-- all that was come to, and by what. -/
structure Sr {K : Type} (P : Program) (kT iT : TypeId) (kv : K → Value) (B : Nat) (w : World) (mb : Nat) (va vb : Value) (s : List K × List Int) : Prop where
  map : NdMap P kT iT kv w mb s.1
  all : OwM kT 1 w va s.1.length (lv kv s.1)
  by_ : OwM iT 1 w vb s.2.length (lv (Value.int .i64) s.2)
  apart : ∀ b, va.ownBlock = some b → vb.ownBlock ≠ some b
  hm : B ≤ mb
  ha : ∀ b, va.ownBlock = some b → B ≤ b
  hb : ∀ b, vb.ownBlock = some b → B ≤ b
section
variable {K : Type} {P : Program} {kT iT : TypeId} {kv : K → Value} {B : Nat} {w w' : World} {mb : Nat} {va vb : Value} {s : List K × List Int}
theorem Sr.below (h : Sr P kT iT kv B w mb va vb s) (hb : Below w.heap.size w w') : Sr P kT iT kv B w' mb va vb s :=
  ⟨h.map.heap (hb.block mb h.map.lt), h.all.below hb, h.by_.below hb, h.apart, h.hm, h.ha, h.hb⟩
theorem Sr.start (hB : B ≤ w.heap.size) : Sr P kT iT kv B (w.alloc (.map #[] 0)) w.heap.size (.slice none 0 0) (.slice none 0 0) (([], []) : List K × List Int) :=
  ⟨Mpv.made P kT iT w (fun i => lv kv [] i 0) natV, OwM.nil _ _ _ _, OwM.nil _ _ _ _, (fun b hb => by cases hb), hB, (fun b hb => by cases hb), fun b hb => by cases hb⟩
theorem Sr.add {k : K} {i : Int} {w1 w2 w3 : World} {o1 o2 : Obj} {va' vb' : Value} {y1 y2 : Nat → Nat → Value} (h : Sr P kT iT kv B w mb va vb s) (hB : B ≤ w.heap.size)
    (hm1 : NdMap P kT iT kv w1 mb (s.1 ++ [k])) (g1 : w.grownBy w1 (some mb))
    (o2' : OwM kT 1 w2 va' (s.1.length + 1) (catM s.1.length (lv kv s.1) y1)) (e1 : y1 0 0 = kv k) (g2 : (w1.alloc o1).grownBy w2 va.ownBlock) (p2 : Placed w1 va va')
    (o3' : OwM iT 1 w3 vb' (s.2.length + 1) (catM s.2.length (lv (Value.int .i64) s.2) y2)) (e2 : y2 0 0 = .int .i64 i) (g3 : (w2.alloc o2).grownBy w3 vb.ownBlock) (p3 : Placed w2 vb vb') :
    Sr P kT iT kv B w3 mb va' vb' (s.1 ++ [k], s.2 ++ [i]) ∧ Below B w w3 := by
  have C1 : Chg (fun b => b = mb) w w1 := Chg.of_grown g1 fun b hb => by cases hb; rfl
  have C2 := Chg.of_lit g2
  have C3 := Chg.of_lit g3
  have s1 := C1.size
  have s2 := C2.size
  have a1 := h.all.chg C1 fun b hb e => h.all.noMap h.map (e ▸ hb)
  have b1 := h.by_.chg C1 fun b hb e => h.by_.noMap h.map (e ▸ hb)
  have m2 := hm1.chg C2 fun e => a1.noMap hm1 e
  have b2 := b1.chg C2 fun b hb e => h.apart b e hb
  have m3 := m2.chg C3 fun e => b2.noMap m2 e
  have hn : ∀ b, va'.ownBlock = some b → vb.ownBlock ≠ some b := fun b hb e => by
    rcases p2 with p2 | p2
    · exact h.apart b (p2 ▸ hb) e
    · have h1 := p2 b hb
      have h2 := h.by_.lt b e
      omega
  have a3 := o2'.chg C3 fun b hb e => hn b hb e
  have va2 : ∀ b, va'.ownBlock = some b → B ≤ b := fun b hb => by
    rcases p2 with p2 | p2
    · exact h.ha b (p2 ▸ hb)
    · have := p2 b hb; omega
  have vb3 : ∀ b, vb'.ownBlock = some b → B ≤ b := fun b hb => by
    rcases p3 with p3 | p3
    · exact h.hb b (p3 ▸ hb)
    · have := p3 b hb; omega
  refine ⟨⟨m3, a3.snoc e1, o3'.snoc e2, fun b hb e => ?_, h.hm, va2, vb3⟩, ?_⟩
  · rcases p3 with p3 | p3
    · exact hn b hb (p3 ▸ e)
    · have h1 := p3 b e
      have h2 := o2'.lt b hb
      omega
  · exact (((C1.mono fun b _ (hb : b = mb) => (show B ≤ b by rw [hb]; exact h.hm)).trans (C2.mono fun b _ hb => h.ha b hb) fun _ _ h => h).trans (C3.mono fun b _ hb => h.hb b hb) fun _ _ h => h).below hB fun _ h => h
end
end Go.Bas
