/-
  Arrays by value inside a longer row: stores into a part, rows of arrays made new. No program in sight.
-/
import Derived.Test.YtgobodhcamgidaaElem
import Derived.Deep.MidRow
set_option linter.unusedVariables false
set_option linter.unusedSimpArgs false
namespace Go.Bas
open Go.RowKit
theorem vals_cons (k : IntKind) (m : Nat) (g : Nat → Int) : vals k (m + 1) g = .int k (g 0) :: vals k m (fun i => g (i + 1)) := by
  unfold vals
  rw [List.range_succ_eq_map]
  simp [Function.comp_def]
theorem Arr.mid {k : IntKind} {b n : Nat} : ∀ (m o : Nat) (g : Nat → Int) (w : World) (f : Nat → Int), Arr k w b n f → Arr k (w.setCells b o (vals k m g)) b n (laid f o m g) := by
  intro m
  induction m with
  | zero =>
    intro o g w f h
    refine (show Arr k (w.setCells b o (vals k 0 g)) b n f from h).congr fun i _ => ?_
    unfold laid
    rw [if_neg (by omega)]
  | succ m ih =>
    intro o g w f h
    rw [vals_cons, World.setCells]
    refine (ih (o + 1) (fun i => g (i + 1)) _ _ (h.set o (g 0))).congr fun i _ => ?_
    unfold laid upd
    by_cases h1 : i = o
    · subst h1
      rw [if_neg (by omega), if_pos rfl, if_pos (by omega), Nat.sub_self]
    · by_cases h2 : o < i ∧ i < o + (m + 1)
      · rw [if_pos (by omega), if_pos (by omega)]
        show g (i - (o + 1) + 1) = g (i - o)
        congr 1; omega
      · rw [if_neg (by omega), if_neg h1, if_neg (by omega)]
theorem Arr.midOther {k : IntKind} {b b' n : Nat} {f : Nat → Int} (hb : b ≠ b') : ∀ (vs : List Value) (o : Nat) (w : World), Arr k w b n f → Arr k (w.setCells b' o vs) b n f
  | [], _, _, h => h
  | v :: r, o, w, h => Arr.midOther hb r (o + 1) _ (h.other (p := ⟨b', o, none⟩) hb v)
theorem below_mid {B b : Nat} {a : World} (hb : B ≤ b) : ∀ (vs : List Value) (o : Nat) (w : World), Below B a w → Below B a (w.setCells b o vs)
  | [], _, _, h => h
  | v :: r, o, w, h => below_mid hb r (o + 1) _ (h.setCell (p := ⟨b, o, none⟩) hb v)
section
variable {P : Program} {ops : Array Oper} {rest : List Oper} {o : Oper} {a : Act} {w : World} {Q : Exit → Act → World → Prop}
/-- an array is stored into a part of a row. -/
theorem wp_store_part {K : Act → World → Prop} (T : TypeId) (x y : Operand) (ho : o.op = .store T x y) (k : IntKind) (b off n m : Nat) (f g : Nat → Int) (hi : (P.info? T).map (·.size) = some m)
    (hx : a.eval x = .pointer (some ⟨b, off, none⟩)) (hy : a.eval y = .agg (arr k m g)) (h : Arr k w b n f) (hm : off + m ≤ n) (hK : K (a.put o.dst undef) (w.setCells b off (vals k m g))) : o.wp P a w K Q := by
  refine wp_store_mid T x y ho b off (arr k m g) hx hy (fun j hj => ⟨?_, h.free _⟩) (by rw [hi, arr_size]) (all_oneCell_arr k m g) ?_
  · rw [arr_size] at hj
    rw [h.cell (off + j) (by omega)]; rfl
  · simpa [arr] using hK
theorem store_part (hg : o.guard = none) (T : TypeId) (x y : Operand) (ho : o.op = .store T x y) (k : IntKind) (b off n m : Nat) (f g : Nat → Int) (hi : (P.info? T).map (·.size) = some m)
    (hx : a.eval x = .pointer (some ⟨b, off, none⟩)) (hy : a.eval y = .agg (arr k m g)) (h : Arr k w b n f) (hm : off + m ≤ n) (hK : wpList P ops Q rest (a.put o.dst undef) (w.setCells b off (vals k m g))) : wpList P ops Q (o :: rest) a w :=
  wpList_plain hg fun _ hK' => wp_store_part T x y ho k b off n m f g hi hx hy h hm (hK' _ _ hK)
theorem made_rows (k : IntKind) {sz : Nat} (h : 0 < sz) (N : Nat) : madeCells (arr k sz (fun _ => 0)) N = arr k N (fun _ => 0) := by
  apply Array.ext
  · rw [size_madeCells, arr_size]
  · intro i h1 h2
    have h3 : (arr k sz (fun _ => 0))[i % sz]? = some (.int k 0) := arr_get (Nat.mod_lt _ h)
    have h4 : (arr k N (fun _ => 0))[i]? = some (.int k 0) := arr_get (by rw [arr_size] at h2; exact h2)
    have h5 : (madeCells (arr k sz (fun _ => 0)) N)[i]? = some (.int k 0) := by
      unfold madeCells
      rw [Array.getElem?_map, Array.getElem?_range]
      rw [size_madeCells] at h1
      rw [if_pos h1]
      simp only [Option.map_some, arr_size]
      rw [getElem!_def, h3]
    rw [Array.getElem?_eq_getElem h1] at h5
    rw [Array.getElem?_eq_getElem h2] at h4
    exact Option.some.inj (h5.trans h4.symm)
/-- a row of arrays is made. -/
theorem make_rows (hg : o.guard = none) (l c : Operand) (t : TypeId) (hop : o.op = .makeSlice t l c) (e : TypeId) (k : IntKind) (sz bytes : Nat) (ht : P.underlying t = some (.slice e))
    (hinfo : (P.info? e).map (fun i => (i.zero, i.size, i.bytes)) = some (some (.agg (arr k sz (fun _ => 0))), sz, bytes)) (hsz : 0 < sz) (kl kc : IntKind) (n : Nat) (hl : a.eval l = .int kl (n : Int)) (hc : a.eval c = .int kc (n : Int)) (b2 : bytes * n ≤ 281474976710656) (b3 : n ≤ 9223372036854775807)
    (hK : wpList P ops Q rest (a.put o.dst (.slice (some ⟨w.heap.size, 0, none⟩) n n)) (w.alloc (.cells (arr k (n * sz) (fun _ => 0)) e))) : wpList P ops Q (o :: rest) a w := by
  obtain ⟨i, hi, hz0, hz1, hz2⟩ := info_parts hinfo
  refine wpList_plain hg fun K hK' => ?_
  have hb : (i.bytes : Int) * (n : Int) ≤ 281474976710656 := by
    rw [hz2]
    have : ((bytes * n : Nat) : Int) ≤ 281474976710656 := by omega
    rwa [Int.natCast_mul] at this
  have hr := run_make (P := P) w t e i _ ht hi hz0 kl kc (n : Int) (n : Int) (by omega) (by omega) hb (by omega)
  simp only [Int.toNat_natCast, hz1] at hr
  have hzc : (Value.agg (arr k sz (fun _ => 0))).cells = arr k sz (fun _ => 0) := rfl
  rw [hzc, made_rows k hsz] at hr
  unfold Oper.wp execOp
  simp only [hop, hl, hc, Sem.run_bind, hr, Result.andThen_ok, Sem.run_pure]
  exact hK' _ _ hK
theorem run_index_rows {T e : TypeId} {x y : Operand} {k : IntKind} {b n c sz i : Nat} (ho : o.op = .indexAddr T x y) (hx : a.eval x = .slice (some ⟨b, 0, none⟩) n c) (hy : a.eval y = .int k (i : Int)) (hu : P.underlying T = some (.slice e)) (hi : (P.info? e).map (·.size) = some sz)
    (h1 : i < n) : (execOp a.eval o).run P w = .ok (.value (.pointer (some ⟨b, i * sz, none⟩))) w := by
  obtain ⟨q, hi1, hi2⟩ := Option.map_eq_some_iff.1 hi
  unfold execOp; simp only [ho, hx, hy]
  simp [Instr.indexAt, asIntOf, run_underlying hu, sizeOf, typeInfo, hi1, hi2, h1, Addr.add]
  exact fun h => h.symm
end
end Go.Bas
