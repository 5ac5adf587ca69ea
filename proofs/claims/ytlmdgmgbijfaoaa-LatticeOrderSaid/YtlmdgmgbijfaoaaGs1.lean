/-
  Graphs of strings: what a graph is in memory; looking for a node. Conditions: named in each theorem.
-/
import Derived.Test.YtlmdgmgbijfaoaaGi1
set_option linter.unusedVariables false
set_option linter.unusedSimpArgs false
namespace Go.Proofs.Ytlmdgmgbijfaoaa
open Go.RowKit Go.Bas Go.ChangeShapes Go.Maps
attribute [local go_sem ↓] Go.wp_at_zero Go.wp_at_succ
theorem Try.infoString : (Try.prog.info? 9).map (fun i => (i.zero, i.size, i.bytes)) = some (some (.string .empty), 1, 16) := by kernel_rfl
abbrev kvS : ByteArray → Value := Value.string
def okS : ByteArray → Prop := fun x => x.size ≤ 9223372036854775807
theorem keyS : Key Try.prog 9 157 3 kvS okS :=
  ⟨Go.Maps.string_keyed Try.underlying9, Try.underlying157, Try.underlying3, zero_int, fun x hx => ⟨_, WideMaps.keyOf_string_mk Try.underlying9 (by unfold maxLen; exact hx)⟩, fun x y h => by simpa [kvS] using h, fun _ => rfl⟩
/-- the graph of strings. -/
abbrev GS (B : Nat) (w : World) (p mb : Nat) (vn vo : Value) (ov : Nat → Value) (nd : List ByteArray) (os : List (List Nat)) (ed : Nat) : Prop := Gph Try.prog 159 9 3 56 kvS B w p mb vn vo ov nd os ed
set_option maxRecDepth 100000 in
theorem indexS_any (L : List ByteArray) (v : Value) (x : ByteArray) (w : World) (h : Mat w v L.length 1 (lv kvS L)) : Calls Try.prog 101 #[v, kvS x] w fun e w' => e = .returned (.int .i64 (fidx L x)) ∧ w' = w := by
  obtain ⟨a, cap, rfl, hcap, hcap2, hcell⟩ := h.one
  have HC := Lib.hid hcell
  clear h hcell
  obtain ⟨E, hE⟩ : ∃ E, E = fidx L x := ⟨_, rfl⟩
  rw [← hE]
  have HE := Lib.hid hE
  clear hE
  go_enter Try.func101, Try.ntmps101
  go_wp2
  go_loop [8] (fun i => ∃ k : Nat, k ≤ L.length ∧ i = .int .i64 k ∧ ∀ j, j < k → L[j]? ≠ some x) (fun i => L.length - (intOf i).toNat)
  case atStart => exact ⟨0, Nat.zero_le _, rfl, fun j hj => absurd hj (Nat.not_lt_zero _)⟩
  case round =>
    obtain ⟨k, hk, rfl, hno⟩ := hrel
    have HNO := Lib.hid hno
    clear hno
    by_cases hlt : k < L.length
    · obtain ⟨b, o, rfl, _, z0⟩ := HC.out k hlt
      obtain ⟨y, hy⟩ : ∃ y, L[k]? = some y := ⟨_, List.getElem?_eq_getElem hlt⟩
      rw [lv_at hy] at z0
      have HY := Lib.hid hy
      clear hy
      by_cases hxy : x = y
      · have HX := Lib.hid hxy
        have hbq : (x.toList == y.toList) = true := (bytesYes hxy)
        obtain rfl := hxy
        clear hbq
        have HEK : Hid (E = (k : Int)) := HE.out.trans (fidx_at HY.out HNO.out)
        go_wp2
        go_ret
        rw [HEK.out]
        exact ⟨rfl, rfl⟩
      · have hbq : (x.toList == y.toList) = false := (bytesNo hxy)
        have hxy' : ¬ y = x := fun e => hxy e.symm
        have HN2 : Hid (∀ j, j < k + 1 → L[j]? ≠ some x) := fun j hj => by
          by_cases e : j = k
          · subst e
            rw [HY.out]
            intro e2
            exact hxy (Option.some.inj e2).symm
          · exact HNO.out j (by omega)
        go_wp2
        go_round
        case rel => exact ⟨k + 1, by omega, by go_num, HN2.out⟩
        case measure => simp [intOf]; omega
    · obtain rfl : k = L.length := by omega
      have HEK : Hid (E = -1) := by
        have hm : x ∉ L := fun hm => by
          obtain ⟨j, hj, e⟩ := List.mem_iff_getElem.1 hm
          exact HNO.out j hj (by rw [List.getElem?_eq_getElem hj, e])
        rw [HE.out]
        unfold fidx
        rw [if_neg hm]
        exact rfl
      go_wp2
      go_ret
      rw [HEK.out]
      exact ⟨rfl, rfl⟩
section
variable {B : Nat} {w w' : World} {p mb : Nat} {vn vo : Value} {ov : Nat → Value} {nd : List ByteArray} {os : List (List Nat)} {ed : Nat}
set_option maxRecDepth 100000 in
theorem isS_any (h : GS B w p mb vn vo ov nd os ed) : Calls Try.prog 96 #[.pointer (some ⟨p, 0, none⟩)] w fun e w' => e = .returned (.bool true) ∧ w' = w := by
  have c0 := h.row.c0
  have hq := fun w => run_neq_map_nil (P := Try.prog) w 157 9 3 (some mb) Try.underlying157
  clear h
  go_enter Try.func96, Try.ntmps96
  go_wp2
  go_ret
  exact ⟨rfl, rfl⟩
set_option maxRecDepth 100000 in
theorem isS_nil (w : World) : Calls Try.prog 96 #[.pointer none] w fun e w' => e = .returned (.bool false) ∧ w' = w := by
  go_enter Try.func96, Try.ntmps96
  go_wp2
  go_ret
  exact ⟨rfl, rfl⟩
end
end Go.Proofs.Ytlmdgmgbijfaoaa
