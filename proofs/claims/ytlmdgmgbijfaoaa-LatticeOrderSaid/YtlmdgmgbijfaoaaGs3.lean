/-
  Graphs of strings: a node, made when it is not there. Conditions: named in each theorem.
-/
import Derived.Test.YtlmdgmgbijfaoaaGs2
set_option linter.unusedVariables false
set_option linter.unusedSimpArgs false
namespace Go.Proofs.Ytlmdgmgbijfaoaa
open Go.RowKit Go.Bas Go.ChangeShapes Go.Maps
attribute [local go_sem ↓] Go.wp_at_zero Go.wp_at_succ
section
variable {B : Nat} {w w' : World} {p mb : Nat} {vn vo : Value} {ov : Nat → Value} {nd : List ByteArray} {os : List (List Nat)} {ed : Nat}
set_option maxRecDepth 100000 in
set_option maxHeartbeats 800000 in
theorem nodeS_any (h : GS B w p mb vn vo ov nd os ed) (hB : B ≤ w.heap.size) (x : ByteArray) (hx : okS x) (hf : nd.length < 1000000) : Calls Try.prog 99 #[.pointer (some ⟨p, 0, none⟩), kvS x] w fun e w' => e = .returned (natV (plc (addN nd x) x)) ∧
    ∃ vn' vo' ov' os', GS B w' p mb vn' vo' ov' (addN nd x) os' ed ∧ Chg (GF p mb vn vo os ov) w w' ∧ (∀ b, GF p mb vn' vo' os' ov' b → GF p mb vn vo os ov b ∨ w.heap.size ≤ b) ∧ ((x ∈ nd ∧ os' = os) ∨ (x ∉ nd ∧ os' = os ++ [[]])) := by
  have c0 := h.row.c0
  have HG := Lib.hid h
  have HBB := Lib.hid hB
  have HX := Lib.hid hx
  have HF := Lib.hid hf
  clear h hB hx hf
  by_cases h1 : x ∈ nd
  · have l1 := keyS.lookYes HG.out.map h1
    have H1 := Lib.hid h1
    have hid : Hid (addN nd x = nd) := addN_same h1
    rw [hid.out]
    obtain ⟨X, hX⟩ : ∃ X, X = plc nd x := ⟨_, rfl⟩
    rw [← hX] at l1 ⊢
    clear h1 hX
    go_enter Try.func99, Try.ntmps99
    go_wp2
    go_ret
    exact ⟨rfl, _, _, _, _, HG.out, .refl _ _, fun b hb => .inl hb, .inl ⟨H1.out, rfl⟩⟩
  · have l1 := keyS.lookNo HG.out.map HX.out h1
    have H1 := Lib.hid h1
    have hid : Hid (addN nd x = nd ++ [x]) := addN_new h1
    have hpl : Hid (plc (nd ++ [x]) x = nd.length) := Lib.hid (plc_at (by rw [← hid.out]; exact addN_nodup HG.out.nodup x) (by simp))
    obtain ⟨w1, hrun, hm1, hg1⟩ := keyS.put HG.out.map HX.out h1 (by have := HF.out; omega)
    have HM1 := Lib.hid hm1
    rw [hid.out, hpl.out]
    have k1 := HG.out.row.c1
    obtain ⟨an, cn, en, hcn, hcn2⟩ := HG.out.nodes.slice
    have HEN := Lib.hid en
    rw [en] at k1
    have C1 : Hid (Chg (fun b => b = mb) w w1) := Chg.of_grown hg1 fun b hb => by cases hb; rfl
    have hpm : ¬ p = mb := fun e => HG.out.map.noRow (e ▸ HG.out.row.row)
    have R1 := Lib.hid (HG.out.row.chg C1.out hpm)
    have N1 := Lib.hid (HG.out.nodes.chg C1.out fun b hb e => HG.out.nodes.noMap HG.out.map (e ▸ hb))
    have O1 := Lib.hid (HG.out.out.chg C1.out fun b hb e => HG.out.out.noMap HG.out.map (e ▸ hb))
    clear h1 hm1 hg1 en
    go_enter Try.func99, Try.ntmps99
    go_upto_region 5 with (fail)
    have c1 := R1.out.c1
    rw [HEN.out] at c1
    have hN1 := N1.out
    rw [HEN.out] at hN1
    have HN1 := Lib.hid hN1
    clear hN1 c0 k1 l1 hrun
    go_upto_region 6 with (refine wpList_append_lit rfl _ _ rfl rfl rfl HN1.out Try.underlying83 Try.infoString rfl rfl rfl (by have := HF.out; unfold maxLen; omega) (by have := HF.out; omega) ?_; intro v2 w2 hown hgrow hpl2; have C2 := Lib.hid (Chg.of_lit hgrow); have R2 := Lib.hid (R1.out.chg C2.out (fun e => HN1.out.heap_ne R1.out.row (by decide) e)); have e1 := R2.out.c1; rw [HEN.out] at e1; have f1 := R2.out.row.free 1; have N2 := Lib.hid hown; have PL2 := Lib.hid hpl2; obtain ⟨a2, q2, rfl, _⟩ := hown.slice; clear hown hgrow hpl2)
    have M2 := Lib.hid (HM1.out.chg C2.out fun e => HN1.out.noMap HM1.out e)
    have O2 := Lib.hid (O1.out.chg C2.out fun b hb e => HN1.out.apartT O1.out (by decide) e hb)
    refine wp_world (fun w3 => GRow 159 w3 p mb (.slice a2 (nd.length + 1) q2) vo ed ∧ NdMap Try.prog 9 3 kvS w3 mb (nd ++ [x]) ∧ OwM 9 1 w3 (.slice a2 (nd.length + 1) q2) (nd.length + 1) (catM nd.length (lv kvS nd) (fun _ _ => kvS x)) ∧ OwM 56 1 w3 vo os.length (fun j _ => ov j) ∧ Chg (fun b => b = p) w2 w3) ⟨R2.out.set1 _, M2.out.chg (Chg.set (fun b => b = p) _ ⟨p, 1, none⟩ _ rfl) (fun e => M2.out.noRow (e ▸ R2.out.row)), N2.out.chg (Chg.set (fun b => b = p) _ ⟨p, 1, none⟩ _ rfl) (fun b hb e => N2.out.heap_ne R2.out.row (by decide) (e ▸ hb)), O2.out.chg (Chg.set (fun b => b = p) _ ⟨p, 1, none⟩ _ rfl) (fun b hb e => O2.out.heap_ne R2.out.row (by decide) (e ▸ hb)), Chg.set (fun b => b = p) _ ⟨p, 1, none⟩ _ rfl⟩ ?_
    rintro w3 ⟨r3, m3, n3, o3, c3⟩
    have R3 := Lib.hid r3
    have M3 := Lib.hid m3
    have N3 := Lib.hid n3
    have C3 := Lib.hid c3
    obtain ⟨ao, co, eo, _⟩ := o3.slice
    have HEO := Lib.hid eo
    have O3 := Lib.hid o3
    have c1 := r3.c2
    rw [eo] at c1
    have hO3 := o3
    rw [eo] at hO3
    have HO3 := Lib.hid hO3
    clear r3 m3 n3 o3 c3 eo hO3 e1 f1
    go_upto_region 7 with (refine wpList_append_lit rfl _ _ rfl rfl rfl HO3.out Try.underlying153 Try.info56 rfl rfl rfl (by have := HF.out; have := HG.out.same; unfold maxLen; omega) (by have := HF.out; have := HG.out.same; omega) ?_; intro v4 w4 hown hgrow hpl2; have C4 := Lib.hid (Chg.of_lit hgrow); have R4 := Lib.hid (R3.out.chg C4.out (fun e => HO3.out.heap_ne R3.out.row (by decide) e)); have e1 := R4.out.c2; rw [HEO.out] at e1; have f1 := R4.out.row.free 2; have O4 := Lib.hid hown; have PL4 := Lib.hid hpl2; obtain ⟨a4, q4, rfl, _⟩ := hown.slice; clear hown hgrow hpl2)
    have M4 := Lib.hid (M3.out.chg C4.out fun e => HO3.out.noMap M3.out e)
    have N4 := Lib.hid (N3.out.chg C4.out fun b hb e => HO3.out.apartT N3.out (by decide) e hb)
    have hc5 : Chg (fun b => b = p) w4 (w4.setCell ⟨p, 2, none⟩ (.slice a4 (os.length + 1) q4)) := Chg.set (fun b => b = p) _ ⟨p, 2, none⟩ _ rfl
    have ROW := Lib.hid (R4.out.set2 (.slice a4 (os.length + 1) q4))
    have MAP := Lib.hid (M4.out.chg hc5 (fun e => M4.out.noRow (e ▸ R4.out.row)))
    have NOD := Lib.hid ((N4.out.chg hc5 (fun b hb e => N4.out.heap_ne R4.out.row (by decide) (e ▸ hb))).snoc rfl)
    have OUT := Lib.hid ((O4.out.congr (q' := fun j _ => if j = os.length then .slice none 0 0 else ov j) fun j hj i hi => by
      by_cases e : j = os.length
      · subst e; rw [catM_at, if_pos rfl]
      · rw [catM_lo (by omega), if_neg e]).chg hc5 (fun b hb e => O4.out.heap_ne R4.out.row (by decide) (e ▸ hb)))
    have CHG : Hid (Chg (fun b => b = p ∨ b = mb ∨ vn.ownBlock = some b ∨ vo.ownBlock = some b) w (w4.setCell ⟨p, 2, none⟩ (.slice a4 (os.length + 1) q4))) :=
      (((((C1.out.mono fun _ _ h => .inr (.inl h)).trans (C2.out.mono fun b _ h => .inr (.inr (.inl (HEN.out ▸ h)))) fun _ _ h => h).trans (C3.out.mono fun _ _ h => .inl h) fun _ _ h => h).trans (C4.out.mono fun b _ h => .inr (.inr (.inr (HEO.out ▸ h)))) fun _ _ h => h).trans (hc5.mono fun _ _ h => .inl h) fun _ _ h => h)
    have s1 := C1.out.size
    have s2 := C2.out.size
    have s3 := C3.out.size
    have PN : Hid (∀ b, (Value.slice a2 (nd.length + 1) q2).ownBlock = some b → vn.ownBlock = some b ∨ w.heap.size ≤ b) := fun b hb => by
      rw [HEN.out]
      rcases PL2.out with h | h
      · exact .inl (h ▸ hb)
      · exact .inr (by have := h b hb; omega)
    have PO : Hid (∀ b, (Value.slice a4 (os.length + 1) q4).ownBlock = some b → vo.ownBlock = some b ∨ w.heap.size ≤ b) := fun b hb => by
      rw [HEO.out]
      rcases PL4.out with h | h
      · exact .inl (h ▸ hb)
      · exact .inr (by have := h b hb; omega)
    have FIN := Lib.hid (HG.out.grow HBB.out H1.out HF.out ROW.out MAP.out NOD.out OUT.out CHG.out PN.out PO.out (by decide) (by decide))
    have CH2 : Hid (Chg (GF p mb vn vo os ov) w (w4.setCell ⟨p, 2, none⟩ (.slice a4 (os.length + 1) q4))) := CHG.out.mono fun b _ hb => by
      rcases hb with h | h | h | h
      · exact .inl h
      · exact .inr (.inl h)
      · exact .inr (.inr (.inl h))
      · exact .inr (.inr (.inr (.inl h)))
    have FEET : Hid (∀ b, GF p mb (.slice a2 (nd.length + 1) q2) (.slice a4 (os.length + 1) q4) (os ++ [[]]) (fun j => if j = os.length then .slice none 0 0 else ov j) b → GF p mb vn vo os ov b ∨ w.heap.size ≤ b) := by
      rintro b (h | h | h | h | ⟨j, hj, h⟩)
      · exact .inl (.inl h)
      · exact .inl (.inr (.inl h))
      · exact (PN.out b h).imp (fun h => .inr (.inr (.inl h))) id
      · exact (PO.out b h).imp (fun h => .inr (.inr (.inr (.inl h)))) id
      · simp at hj
        dsimp only at h
        by_cases hjl : j = os.length
        · rw [if_pos hjl] at h; cases h
        · rw [if_neg hjl] at h
          exact .inl (.inr (.inr (.inr (.inr ⟨j, by omega, h⟩))))
    clear hc5 s1 s2 s3 ROW MAP NOD OUT CHG PN PO M4 N4 O4 R4 R3 M3 N3 O3 HO3 HN1 R2 M2 N2 O2 R1 N1 O1
    go_wp2
    go_ret
    exact ⟨rfl, _, _, _, _, FIN.out, CH2.out, FEET.out, .inr ⟨H1.out, rfl⟩⟩
end
end Go.Proofs.Ytlmdgmgbijfaoaa
