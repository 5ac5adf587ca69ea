/-
  The document's graphs: nodes, search. Conditions: named in each theorem.
-/
import Derived.Test.YtlmdgmgbijfaoaaLtE
set_option linter.unusedVariables false
set_option linter.unusedSimpArgs false
namespace Go.Bas
open Go.RowKit
/-- two lists of one's own that lie apart. -/
structure Sl (iT : TypeId) (B : Nat) (w : World) (va vb : Value) (s : List Int × List Int) : Prop where
  all : OwM iT 1 w va s.1.length (lv (Value.int .i64) s.1)
  by_ : OwM iT 1 w vb s.2.length (lv (Value.int .i64) s.2)
  apart : ∀ b, va.ownBlock = some b → vb.ownBlock ≠ some b
  ha : ∀ b, va.ownBlock = some b → B ≤ b
  hb : ∀ b, vb.ownBlock = some b → B ≤ b
section
variable {iT : TypeId} {B : Nat} {w w' : World} {va vb : Value} {s : List Int × List Int}
theorem Sl.below (h : Sl iT B w va vb s) (hb : Below w.heap.size w w') : Sl iT B w' va vb s := ⟨h.all.below hb, h.by_.below hb, h.apart, h.ha, h.hb⟩
theorem Sl.start : Sl iT B w (.slice none 0 0) (.slice none 0 0) ([], []) :=
  ⟨OwM.nil _ _ _ _, OwM.nil _ _ _ _, (fun b hb => by cases hb), (fun b hb => by cases hb), fun b hb => by cases hb⟩
theorem Sl.add {k : Int} {i : Int} {w2 w3 : World} {o1 o2 : Obj} {va' vb' : Value} {y1 y2 : Nat → Nat → Value} (h : Sl iT B w va vb s) (hB : B ≤ w.heap.size)
    (o2' : OwM iT 1 w2 va' (s.1.length + 1) (catM s.1.length (lv (Value.int .i64) s.1) y1)) (e1 : y1 0 0 = .int .i64 k) (g2 : (w.alloc o1).grownBy w2 va.ownBlock) (p2 : Placed w va va')
    (o3' : OwM iT 1 w3 vb' (s.2.length + 1) (catM s.2.length (lv (Value.int .i64) s.2) y2)) (e2 : y2 0 0 = .int .i64 i) (g3 : (w2.alloc o2).grownBy w3 vb.ownBlock) (p3 : Placed w2 vb vb') :
    Sl iT B w3 va' vb' (s.1 ++ [k], s.2 ++ [i]) ∧ Below B w w3 := by
  have C2 := Chg.of_lit g2
  have C3 := Chg.of_lit g3
  have s2 := C2.size
  have b2 := h.by_.chg C2 fun b hb e => h.apart b e hb
  have hn : ∀ b, va'.ownBlock = some b → vb.ownBlock ≠ some b := fun b hb e => by
    rcases p2 with p2 | p2
    · exact h.apart b (p2 ▸ hb) e
    · have h1 := p2 b hb
      have h2 := h.by_.lt b e
      omega
  have a3 := o2'.chg C3 fun b hb e => hn b hb e
  have va2 : ∀ b, va'.ownBlock = some b → B ≤ b := fun b hb => by
    rcases p2 with p2 | p2
    · exact h.ha b (p2 ▸ hb)
    · have := p2 b hb; omega
  have vb3 : ∀ b, vb'.ownBlock = some b → B ≤ b := fun b hb => by
    rcases p3 with p3 | p3
    · exact h.hb b (p3 ▸ hb)
    · have := p3 b hb; omega
  refine ⟨⟨a3.snoc e1, o3'.snoc e2, fun b hb e => ?_, va2, vb3⟩, ?_⟩
  · rcases p3 with p3 | p3
    · exact hn b hb (p3 ▸ e)
    · have h1 := p3 b e
      have h2 := o2'.lt b hb
      omega
  · exact ((C2.mono fun b _ hb => h.ha b hb).trans (C3.mono fun b _ hb => h.hb b hb) fun _ _ h => h).below hB fun _ h => h
end
/-- the nodes behind j numbers of a pair. -/
def nst (nd : List Int) (x : Int × Int) (j : Nat) : List Int := if j = 0 then nd else if j = 1 then addN nd x.1 else addN (addN nd x.1) x.2
theorem nst_succ {nd : List Int} {x : Int × Int} {j : Nat} (h : j < 2) : nst nd x (j + 1) = addN (nst nd x j) (pf x j) := by
  rcases (by omega : j = 0 ∨ j = 1) with rfl | rfl <;> rfl
theorem nst_len {nd : List Int} {x : Int × Int} {j : Nat} : (nst nd x j).length ≤ nd.length + 2 := by
  unfold nst
  have h1 := addN_len nd x.1
  have h2 := addN_len (addN nd x.1) x.2
  split
  · omega
  · split <;> omega
end Go.Bas
namespace Go.Proofs.Ytlmdgmgbijfaoaa
open Go.RowKit Go.Bas Go.ChangeShapes Go.Maps
attribute [local go_sem ↓] Go.wp_at_zero Go.wp_at_succ
set_option maxRecDepth 100000 in
set_option maxHeartbeats 1600000 in
theorem nodesR_any (L : List (Int × Int)) (v : Value) (w : World) (h : Mat w v L.length 2 (pv L)) (hl : L.length ≤ 1000) : Calls Try.prog 45 #[v] w fun e w' => ∃ u, e = .returned u ∧ OwM 3 1 w' u (nodesL L).length (lv kvI (nodesL L)) ∧ (∀ b, u.ownBlock = some b → w.heap.size ≤ b) ∧ Below w.heap.size w w' := by
  have HLL := Lib.hid hl
  obtain ⟨a, cap, rfl, hcap, hcap2, hcell⟩ := h
  have HC := Lib.hid hcell
  clear hcell hl
  go_enter Try.func45, Try.ntmps45
  go_wp2
  go_loopw [3, 4] (fun out i wr => ∃ k : Nat, k ≤ L.length ∧ i = .int .i64 k ∧ OwM 3 1 wr out (nodesL (L.take k)).length (lv kvI (nodesL (L.take k))) ∧ (∀ b, out.ownBlock = some b → w.heap.size ≤ b) ∧ Below w.heap.size w wr) (fun _ i _ => L.length - (intOf i).toNat)
  case atStart => exact ⟨0, Nat.zero_le _, rfl, OwM.nil _ _ _ _, (fun b hb => by cases hb), Below.refl _ _⟩
  case round =>
    obtain ⟨k, hk, rfl, hO, hH, hBe⟩ := hrel
    have HO := Lib.hid hO
    have HH := Lib.hid hH
    have HBe := Lib.hid hBe
    obtain ⟨D, hD⟩ : ∃ D, D = nodesL (L.take k) := ⟨_, rfl⟩
    have HDL : Hid (D.length ≤ 2000) := Lib.hid (by rw [hD]; exact Nat.le_trans (nodesL_len _) (by have := HLL.out; rw [List.length_take]; omega))
    rw [← hD] at HO
    have HD := Lib.hid hD
    clear hO hH hBe hD
    by_cases hlt : k < L.length
    · obtain ⟨b, o, rfl, hb, hc⟩ := HC.out (by omega)
      obtain ⟨x, hx⟩ : ∃ e, L[k]? = some e := ⟨_, List.getElem?_eq_getElem hlt⟩
      have HCL : Hid (∀ i, i < 2 → wr.cell? ⟨b, o + k * 2 + i, none⟩ = some (.int .i64 (pf x i))) := fun i hi => ((HBe.out.cell (p := ⟨b, o + k * 2 + i, none⟩) hb).trans (hc k hlt i hi)).trans (congrArg some (pv_pf hx))
      have HBW : Hid (b < wr.heap.size) := Lib.hid (Nat.lt_of_lt_of_le hb HBe.out.size)
      have hst : nodesL (L.take (k + 1)) = nst D x 2 := by rw [List.take_add_one, hx, HD.out]; exact nodesL_snoc _ _
      have HST := Lib.hid hst
      have hk9 : (k : Int) < 1000000 := by have := HLL.out; omega
      have HKL := Lib.hid hlt
      clear hc hx hst
      rename World => wo
      go_wp2
      go_loopw [3, 5] (fun out i wq => ∃ j : Nat, j ≤ 2 ∧ i = .int .i64 j ∧ OwM 3 1 wq out (nst D x j).length (lv kvI (nst D x j)) ∧ (∀ b, out.ownBlock = some b → w.heap.size ≤ b) ∧ (∀ i, i < 2 → wq.cell? ⟨b, o + k * 2 + i, none⟩ = some (.int .i64 (pf x i))) ∧ Below w.heap.size w wq) (fun _ i _ => 2 - (intOf i).toNat)
      case atStart => exact ⟨0, Nat.zero_le _, rfl, HO.out, HH.out, HCL.out, HBe.out⟩
      case round =>
        obtain ⟨j, hj, rfl, hO1, hH1, hC1, hBq⟩ := hrel
        have HO1 := Lib.hid hO1
        have HH1 := Lib.hid hH1
        have HC1 := Lib.hid hC1
        have HBq := Lib.hid hBq
        obtain ⟨ao, co, eo, hco, hco2⟩ := hO1.slice
        subst eo
        clear hO1 hH1 hBq hC1
        by_cases hjl : j < 2
        · have hj9 : (j : Int) < 2 := by omega
          have z0 := HC1.out j hjl
          have HZ := Lib.hid z0
          have HNS := Lib.hid (nst_succ (nd := D) (x := x) hjl)
          have HNL : Hid ((nst D x j).length ≤ 3000) := Lib.hid (by have := nst_len (nd := D) (x := x) (j := j); have := HDL.out; omega)
          obtain ⟨S, hS⟩ : ∃ S, S = nst D x j := ⟨_, rfl⟩
          rw [← hS] at HO1 HNS HNL
          rw [← hS] at HH1
          rw [← hS]
          clear hS
          obtain ⟨y, hy⟩ : ∃ y, y = pf x j := ⟨_, rfl⟩
          rw [← hy] at HNS z0
          clear hy
          go_wp2_with fail
          refine (inR_any S _ y _ HO1.out.mat (by have := HNL.out; omega)).mono ?_
          rintro e w3 ⟨rfl, rfl⟩
          by_cases hm : y ∈ S
          · rw [decide_eq_true hm]
            have HN2 : Hid (nst D x (j + 1) = S) := Lib.hid (HNS.out.trans (if_pos hm))
            clear hm
            go_wp2
            go_roundw
            case rel => first | exact ⟨j + 1, by omega, by go_num, by rw [HN2.out]; exact HO1.out, HH1.out, HC1.out, HBq.out⟩ | ((repeat apply Exists.intro); exact ⟨⟨j + 1, by omega, by go_num, by rw [HN2.out]; exact HO1.out, HH1.out, HC1.out, HBq.out⟩, rfl⟩)
            case measure => simp [intOf]; omega
          · rw [decide_eq_false hm]
            have HN2 : Hid (nst D x (j + 1) = S ++ [y]) := Lib.hid (HNS.out.trans (if_neg hm))
            clear hm
            go_wp2_with (refine wpList_append_lit rfl _ _ rfl rfl rfl HO1.out Try.underlying56 Try.info3 rfl rfl rfl (by have := HNL.out; unfold maxLen; omega) (by have := HNL.out; omega) ?_
                         intro v5 w5 ho5 hg5 hp5
                         have O5 := Lib.hid (ho5.snoc (kv := kvI) (x := y) rfl)
                         have B5 := Lib.hid (HBq.out.trans (((Chg.of_lit hg5).below (B := w.heap.size) HBq.out.size HH1.out)))
                         have H5 : Hid (∀ b, v5.ownBlock = some b → w.heap.size ≤ b) := Lib.hid fun b hb => by
                           rcases hp5 with h | h
                           · exact HH1.out b (h ▸ hb)
                           · have h1 := h b hb; have h2 := HBq.out.size; omega
                         have C5 : Hid (∀ i, i < 2 → w5.cell? ⟨b, o + k * 2 + i, none⟩ = some (.int .i64 (pf x i))) := fun i hi => (B5.out.cell (p := ⟨b, o + k * 2 + i, none⟩) hb).trans ((HBq.out.cell (p := ⟨b, o + k * 2 + i, none⟩) hb).symm.trans (HC1.out i hi))
                         rw [← HN2.out] at O5
                         clear ho5 hg5 hp5)
            go_roundw
            case rel => first | exact ⟨j + 1, by omega, by go_num, O5.out, H5.out, C5.out, B5.out⟩ | ((repeat apply Exists.intro); exact ⟨⟨j + 1, by omega, by go_num, O5.out, H5.out, C5.out, B5.out⟩, rfl⟩)
            case measure => simp [intOf]; omega
        · obtain rfl : j = 2 := by omega
          go_wp2
          go_roundw
          case rel => first | exact ⟨k + 1, by have := HKL.out; omega, by go_num, by rw [HST.out]; exact HO1.out, HH1.out, HBq.out⟩ | ((repeat apply Exists.intro); exact ⟨⟨k + 1, by have := HKL.out; omega, by go_num, by rw [HST.out]; exact HO1.out, HH1.out, HBq.out⟩, rfl⟩)
          case measure => have := HKL.out; simp [intOf]; omega
    · obtain rfl : k = L.length := by omega
      have HF : Hid (D = nodesL L) := Lib.hid (by rw [HD.out, List.take_length])
      obtain ⟨ao, co, eo, _⟩ := HO.out.slice
      subst eo
      go_wp2
      go_ret
      rw [← HF.out]
      exact ⟨.slice ao D.length co, rfl, HO.out, HH.out, HBe.out⟩
end Go.Proofs.Ytlmdgmgbijfaoaa
