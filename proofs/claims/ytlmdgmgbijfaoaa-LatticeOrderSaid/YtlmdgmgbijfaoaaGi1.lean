/-
  Graphs of ints: what a graph is in memory; looking for a node. Conditions: named in each theorem.
-/
import Derived.Test.YtlmdgmgbijfaoaaTypes
import Derived.Test.YtlmdgmgbijfaoaaGrM
import Derived.Test.YtlmdgmgbijfaoaaEarly
import Derived.Deep.Cut
import Derived.Great.Walk
set_option linter.unusedVariables false
set_option linter.unusedSimpArgs false
namespace Go.Proofs.Ytlmdgmgbijfaoaa
open Go.RowKit Go.Bas Go.ChangeShapes Go.Maps
attribute [local go_sem ↓] Go.wp_at_zero Go.wp_at_succ
theorem int_wf64 {x : Int} (h0 : -9223372036854775808 ≤ x) (h1 : x ≤ 9223372036854775807) : (Lit.int .i64 x).wf = true := by
  simp [Lit.wf, IntKind.min, IntKind.max, IntKind.signed, IntKind.bits]
  omega
theorem Try.info56 : (Try.prog.info? 56).map (fun i => (i.zero, i.size, i.bytes)) = some (some (.slice none 0 0), 1, 24) := by kernel_rfl
theorem zero_int (w : World) : (zeroValue 3).run Try.prog w = .ok (.int .i64 0) w := by
  obtain ⟨x, h1, h2⟩ := Option.map_eq_some_iff.1 Try.info3
  simp only [Prod.mk.injEq] at h2
  simp [zeroValue, typeInfo, h1, h2.1]
abbrev kvI : Int → Value := Value.int .i64
def okI : Int → Prop := fun x => -9223372036854775808 ≤ x ∧ x ≤ 9223372036854775807
theorem keyI : Key Try.prog 3 152 3 kvI okI :=
  ⟨Go.Maps.int_keyed Try.underlying3, Try.underlying152, Try.underlying3, zero_int, fun x hx => ⟨.int .i64 x, by rw [keyOf_int Try.underlying3]; unfold mapKey; rw [Try.underlying3]; simp [int_wf64 hx.1 hx.2]⟩, fun x y h => by simpa [kvI] using h, fun _ => rfl⟩
/-- the graph of ints. -/
abbrev GI (B : Nat) (w : World) (p mb : Nat) (vn vo : Value) (ov : Nat → Value) (nd : List Int) (os : List (List Nat)) (ed : Nat) : Prop := Gph Try.prog 155 3 3 56 kvI B w p mb vn vo ov nd os ed
set_option maxRecDepth 100000 in
theorem indexI_any (L : List Int) (v : Value) (x : Int) (w : World) (h : Mat w v L.length 1 (lv kvI L)) : Calls Try.prog 90 #[v, kvI x] w fun e w' => e = .returned (.int .i64 (fidx L x)) ∧ w' = w := by
  obtain ⟨a, cap, rfl, hcap, hcap2, hcell⟩ := h.one
  have HC := Lib.hid hcell
  clear h hcell
  obtain ⟨E, hE⟩ : ∃ E, E = fidx L x := ⟨_, rfl⟩
  rw [← hE]
  have HE := Lib.hid hE
  clear hE
  go_enter Try.func90, Try.ntmps90
  go_wp2
  go_loop [8] (fun i => ∃ k : Nat, k ≤ L.length ∧ i = .int .i64 k ∧ ∀ j, j < k → L[j]? ≠ some x) (fun i => L.length - (intOf i).toNat)
  case atStart => exact ⟨0, Nat.zero_le _, rfl, fun j hj => absurd hj (Nat.not_lt_zero _)⟩
  case round =>
    obtain ⟨k, hk, rfl, hno⟩ := hrel
    have HNO := Lib.hid hno
    clear hno
    by_cases hlt : k < L.length
    · obtain ⟨b, o, rfl, _, z0⟩ := HC.out k hlt
      obtain ⟨y, hy⟩ : ∃ y, L[k]? = some y := ⟨_, List.getElem?_eq_getElem hlt⟩
      rw [lv_at hy] at z0
      have HY := Lib.hid hy
      clear hy
      by_cases hxy : x = y
      · have HX := Lib.hid hxy
        have hbq : (x == y) = true := (by simpa using hxy)
        obtain rfl := hxy
        clear hbq
        have HEK : Hid (E = (k : Int)) := HE.out.trans (fidx_at HY.out HNO.out)
        go_wp2
        go_ret
        rw [HEK.out]
        exact ⟨rfl, rfl⟩
      · have hbq : (x == y) = false := (by simpa using hxy)
        have hxy' : ¬ y = x := fun e => hxy e.symm
        have HN2 : Hid (∀ j, j < k + 1 → L[j]? ≠ some x) := fun j hj => by
          by_cases e : j = k
          · subst e
            rw [HY.out]
            intro e2
            exact hxy (Option.some.inj e2).symm
          · exact HNO.out j (by omega)
        go_wp2
        go_round
        case rel => exact ⟨k + 1, by omega, by go_num, HN2.out⟩
        case measure => simp [intOf]; omega
    · obtain rfl : k = L.length := by omega
      have HEK : Hid (E = -1) := by
        have hm : x ∉ L := fun hm => by
          obtain ⟨j, hj, e⟩ := List.mem_iff_getElem.1 hm
          exact HNO.out j hj (by rw [List.getElem?_eq_getElem hj, e])
        rw [HE.out]
        unfold fidx
        rw [if_neg hm]
        exact rfl
      go_wp2
      go_ret
      rw [HEK.out]
      exact ⟨rfl, rfl⟩
section
variable {B : Nat} {w w' : World} {p mb : Nat} {vn vo : Value} {ov : Nat → Value} {nd : List Int} {os : List (List Nat)} {ed : Nat}
set_option maxRecDepth 100000 in
theorem isI_any (h : GI B w p mb vn vo ov nd os ed) : Calls Try.prog 92 #[.pointer (some ⟨p, 0, none⟩)] w fun e w' => e = .returned (.bool true) ∧ w' = w := by
  have c0 := h.row.c0
  have hq := fun w => run_neq_map_nil (P := Try.prog) w 152 3 3 (some mb) Try.underlying152
  clear h
  go_enter Try.func92, Try.ntmps92
  go_wp2
  go_ret
  exact ⟨rfl, rfl⟩
set_option maxRecDepth 100000 in
theorem isI_nil (w : World) : Calls Try.prog 92 #[.pointer none] w fun e w' => e = .returned (.bool false) ∧ w' = w := by
  go_enter Try.func92, Try.ntmps92
  go_wp2
  go_ret
  exact ⟨rfl, rfl⟩
end
end Go.Proofs.Ytlmdgmgbijfaoaa
