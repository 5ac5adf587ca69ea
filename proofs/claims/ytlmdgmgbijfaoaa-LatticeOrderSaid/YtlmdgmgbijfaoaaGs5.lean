/-
  Graphs of strings: the search. Conditions: named in each theorem.
-/
import Derived.Test.YtlmdgmgbijfaoaaGs4
set_option linter.unusedVariables false
set_option linter.unusedSimpArgs false
namespace Go.Proofs.Ytlmdgmgbijfaoaa
open Go.RowKit Go.Bas Go.ChangeShapes Go.Maps
attribute [local go_sem ↓] Go.wp_at_zero Go.wp_at_succ
abbrev SS (B : Nat) (w : World) (mb : Nat) (va vb : Value) (s : List ByteArray × List Int) : Prop := Sr Try.prog 9 3 kvS B w mb va vb s
section
variable {B : Nat} {w w' : World} {p : Nat} {F : Nat → Prop} {E : List (ByteArray × ByteArray)}
set_option maxRecDepth 100000 in
set_option maxHeartbeats 3200000 in
theorem searchS_any (h : GES B w p F E) (fr : List ByteArray) (v : Value) (hv : Mat w v fr.length 1 (lv kvS fr)) (hok : ∀ x, x ∈ fr → okS x) (hfr : fr.length ≤ 1000) (hE : E.length ≤ 1000) : Calls Try.prog 100 #[.pointer (some ⟨p, 0, none⟩), v] w fun e w' => ∃ va vb, e = .returned (.tuple #[va, vb]) ∧ (∃ mbs, SS w.heap.size w' mbs va vb (srch E fr)) ∧ Below w.heap.size w w' := by
  obtain ⟨a, cap, rfl, hcap, hcap2, hcell⟩ := hv.one
  have HC := Lib.hid hcell
  have HGE := Lib.hid h
  obtain ⟨⟨mb, vn, vo, ov, hg, hFF⟩, hokn⟩ := h
  have HG := Lib.hid hg
  have HOKN := Lib.hid hokn
  have HOK := Lib.hid hok
  have HFR := Lib.hid hfr
  have HE := Lib.hid hE
  obtain ⟨B0, hB0⟩ : ∃ x, x = w.heap.size := ⟨_, rfl⟩
  have HB0 := Lib.hid hB0
  rw [← hB0]
  have hfr9 := hfr
  clear hcell hv hg hokn hFF hok hfr hE hB0
  have hmk : ∀ w, (Instr.makeMap 157 none).run Try.prog w = .ok (.map (some w.heap.size)) (w.alloc (.map #[] 0)) := fun w => rfl
  go_enter Try.func100, Try.ntmps100
  go_upto_region 2 with (fail)
  clear hmk
  refine wp_world (fun w1 => ∃ mbs, mbs = w.heap.size ∧ SS B0 w1 mbs (.slice none 0 0) (.slice none 0 0) ([], []) ∧ Below B0 w w1) ⟨w.heap.size, rfl, Sr.start (Nat.le_of_eq HB0.out), (Below.refl _ _).alloc (Nat.le_of_eq HB0.out) _⟩ ?_
  rintro w1 ⟨mbs, hmbs, hs1, hb1⟩
  rw [← hmbs]
  have S0 := Lib.hid hs1
  have B1 := Lib.hid hb1
  clear hmbs hs1 hb1
  go_wp2
  go_loopw [22, 4, 5] (fun i all by_ wr => ∃ k : Nat, k ≤ fr.length ∧ i = .int .i64 k ∧ SS B0 wr mbs all by_ ((fr.take k).foldl (vis (-1)) ([], [])) ∧ Below B0 w wr) (fun i _ _ _ => fr.length - (intOf i).toNat)
  case atStart => exact ⟨0, Nat.zero_le _, rfl, S0.out, B1.out⟩
  case round =>
    obtain ⟨k, hk, rfl, hS, hBe⟩ := hrel
    have HBe := Lib.hid hBe
    have HS := Lib.hid hS
    clear hBe hS
    by_cases hlt : k < fr.length
    · obtain ⟨b, o, rfl, hbl, z0⟩ := HC.out k hlt
      obtain ⟨x, hx⟩ : ∃ x, fr[k]? = some x := ⟨_, List.getElem?_eq_getElem hlt⟩
      rw [lv_at hx] at z0
      have z1 := (HBe.out.cell (p := ⟨b, o + k, none⟩) (HB0.out ▸ hbl)).trans z0
      have hstep := visL_snoc (i := -1) (s := (([], []) : List ByteArray × List Int)) hx
      have HOKX := Lib.hid (HOK.out x (List.mem_of_getElem? hx))
      have hlen := visL_bound (-1) (fr.take k) (([], []) : List ByteArray × List Int)
      have hll := visL_len (-1) (fr.take k) (([], []) : List ByteArray × List Int) rfl
      obtain ⟨s, hs⟩ : ∃ s, s = (fr.take k).foldl (vis (-1)) (([], []) : List ByteArray × List Int) := ⟨_, rfl⟩
      rw [← hs] at HS hstep hlen hll
      have HST := Lib.hid hstep
      have HLEN := Lib.hid (show s.1.length ≤ 3000 by have := HFR.out; rw [List.length_take] at hlen; simp only [List.length_nil] at hlen; omega)
      have HLL := Lib.hid hll
      clear hs hx z0 hstep hlen hll
      by_cases hin : x ∈ s.1
      · have l1 := keyS.lookYes HS.out.map hin
        have HNX := Lib.hid (HST.out.trans (vis_in hin))
        clear hin
        go_wp2
        go_roundw
        case rel => first | exact ⟨k + 1, by omega, by go_num, by rw [HNX.out]; exact HS.out, HBe.out⟩ | ((repeat apply Exists.intro); exact ⟨⟨k + 1, by omega, by go_num, by rw [HNX.out]; exact HS.out, HBe.out⟩, rfl⟩)
        case measure => simp [intOf]; omega
      · have hnot : x ∉ s.1 := hin
        have l1 := keyS.lookNo HS.out.map HOKX.out hin
        have HNX := Lib.hid (HST.out.trans (vis_out hin))
        clear hin
        obtain ⟨wm, hrun, hm1, hg1⟩ := keyS.put HS.out.map HOKX.out hnot (by have := HLEN.out; omega)
        have HM1 := Lib.hid hm1
        have HG1 := Lib.hid hg1
        have A1 := HS.out.all.chg (Chg.of_grown (F := fun b => b = mbs) hg1 fun b hb => by cases hb; rfl) fun b hb e => HS.out.all.noMap HS.out.map (e ▸ hb)
        have Y1 := HS.out.by_.chg (Chg.of_grown (F := fun b => b = mbs) hg1 fun b hb => by cases hb; rfl) fun b hb e => HS.out.by_.noMap HS.out.map (e ▸ hb)
        obtain ⟨aA, cA, eA, _⟩ := A1.slice
        obtain ⟨aY, cY, eY, _⟩ := Y1.slice
        subst eA
        subst eY
        have A1 := Lib.hid A1
        have Y1 := Lib.hid Y1
        have AP := Lib.hid HS.out.apart
        clear hm1 hg1 hnot
        go_wp2_with (first | (refine wpList_append_lit rfl _ _ rfl rfl rfl A1.out Try.underlying83 Try.infoString rfl rfl rfl (by have := HLEN.out; unfold maxLen; omega) (by have := HLEN.out; omega) ?_; intro v2 w2 ho2 hg2 hp2; have Y2 := Lib.hid (Y1.out.chg (Chg.of_lit hg2) fun b hb e => AP.out b e hb); have O2 := Lib.hid ho2; have G2 := Lib.hid hg2; have P2 := Lib.hid hp2; obtain ⟨a2, q2, rfl, _⟩ := ho2.slice; clear ho2 hg2 hp2) | (refine wpList_append_lit rfl _ _ rfl rfl rfl Y2.out Try.underlying56 Try.info3 rfl rfl rfl (by have := HLEN.out; have := HLL.out; unfold maxLen; omega) (by have := HLEN.out; have := HLL.out; omega) ?_; intro v3 w3 ho3 hg3 hp3; have O3 := Lib.hid ho3; have G3 := Lib.hid hg3; have P3 := Lib.hid hp3; obtain ⟨a3, q3, rfl, _⟩ := ho3.slice; clear ho3 hg3 hp3))
        obtain ⟨HS3, HB3⟩ := HS.out.add (k := x) (i := -1) (by have := HBe.out.size; have := HB0.out; omega) HM1.out HG1.out O2.out rfl G2.out P2.out O3.out rfl G3.out P3.out
        have HS3 := Lib.hid HS3
        have HB3 := Lib.hid (HBe.out.trans HB3)
        go_roundw
        case rel => first | exact ⟨k + 1, by omega, by go_num, by rw [HNX.out]; exact HS3.out, HB3.out⟩ | ((repeat apply Exists.intro); exact ⟨⟨k + 1, by omega, by go_num, by rw [HNX.out]; exact HS3.out, HB3.out⟩, rfl⟩)
        case measure => simp [intOf]; omega
    · obtain rfl : k = fr.length := by omega
      have hs1 := HS.out
      rw [List.take_length] at hs1
      have S1 := Lib.hid hs1
      clear hs1 HS S0 B1 hlt
      go_wp2
      go_loopw [11, 4, 5] (fun i all by_ wr => ∃ k : Nat, i = .int .i64 k ∧ k ≤ (seqS E fr k).1.length ∧ SS B0 wr mbs all by_ (seqS E fr k) ∧ Below B0 w wr) (fun i _ _ _ => fr.length + E.length - (intOf i).toNat)
      case atStart => exact ⟨0, rfl, Nat.zero_le _, S1.out, HBe.out⟩
      case round =>
        obtain ⟨k1, rfl, hk1, hS1, hBe1⟩ := hrel
        have HBe := Lib.hid hBe1
        have HS := Lib.hid hS1
        clear hBe1 hS1
        obtain ⟨aA, cA, eA, _⟩ := HS.out.all.slice
        subst eA
        have hbnd := seqS_bound (E := E) (fr := fr) k1
        have hfb := HFR.out
        have heb := HE.out
        have HGw := Lib.hid (HG.out.below (HB0.out ▸ HBe.out))
        by_cases hlt : k1 < (seqS E fr k1).1.length
        · obtain ⟨x, hx⟩ : ∃ x, (seqS E fr k1).1[k1]? = some x := ⟨_, List.getElem?_eq_getElem hlt⟩
          obtain ⟨g0, c0', e0, hr0, _, _, hcell0⟩ := HS.out.all.form (by omega)
          simp only [Value.slice.injEq, true_and] at e0
          obtain ⟨rfl, rfl⟩ := e0
          have z0 := hcell0 k1 hlt 0 (by decide)
          rw [show k1 * 1 + 0 = k1 by omega, lv_at hx] at z0
          have hk9 : (k1 : Int) < ((seqS E fr k1).1.length : Int) := by omega
          have hk8 : (k1 : Int) < 1000000 := by omega
          have HXX := Lib.hid hx
          have HOKX : Hid (okS x) := by
            rcases seqS_mem k1 x (List.mem_of_getElem? hx) with h | ⟨e, he, rfl⟩
            · exact HOK.out x h
            · exact HOKN.out _ (mem_nodesL.2 ⟨e, he, .inr rfl⟩)
          have c0 := HGw.out.row.c0
          have c1 := HGw.out.row.c1
          have c2 := HGw.out.row.c2
          have HLT := Lib.hid hlt
          have HBND := Lib.hid hbnd
          have HFB := Lib.hid hfb
          have HEB := Lib.hid heb
          clear hx hcell0 hr0 hbnd hfb heb hlt
          go_wp2_with fail
          refine (isS_any HGw.out).mono ?_
          rintro e w4 ⟨rfl, rfl⟩
          by_cases hin : x ∈ nodesL E
          · have l1 : ∀ n, (Instr.lookup 157 (.map (some mb)) (kvS x) true).run Try.prog (w4.drewN n) = .ok (.tuple #[natV (plc (nodesL E) x), .bool true]) (w4.drewN n) := fun n => keyS.lookYes (HGw.out.below (Go.Bas.below_drewN (Below.refl _ _) n)).map hin
            have hxn : plc (nodesL E) x < (osL E).length := by rw [← HG.out.same]; exact plc_lt hin
            have hol : (osL E)[plc (nodesL E) x]? = some ((tgt E x).map (plc (nodesL E))) := osW_at (plc_get hin)
            obtain ⟨X, hX⟩ : ∃ X, X = plc (nodesL E) x := ⟨_, rfl⟩
            rw [← hX] at l1 hxn hol
            clear hin hX
            obtain ⟨gg, cg, eg, hrg, _, _, hcg⟩ := HGw.out.out.form (by omega)
            have y0 := hcg X hxn 0 (by decide)
            rw [show X * 1 + 0 = X by omega] at y0
            rw [eg] at c2
            have LI := Lib.hid (HG.out.lists X _ hol)
            obtain ⟨T, hT⟩ : ∃ T, T = tgt E x := ⟨_, rfl⟩
            have hstp := seqS_some HXX.out
            rw [← hT] at LI hstp
            have HSTP := Lib.hid hstp
            have HTT := Lib.hid hT
            obtain ⟨L, hL⟩ : ∃ L, L = T.map (plc (nodesL E)) := ⟨_, rfl⟩
            rw [← hL] at LI
            have hll : L.length = T.length := by rw [hL, List.length_map]
            have HLE := Lib.hid hL
            obtain ⟨al, cl, el, _⟩ := LI.out.slice
            rw [el] at y0
            have HEL := Lib.hid el
            have h9 : (X : Int) < ((osL E).length : Int) := by omega
            have HTL := Lib.hid (show T.length ≤ 1000 by rw [hT]; exact Nat.le_trans (tgt_len E x) HEB.out)
            have HLL2 := Lib.hid hll
            have HSL0 := Lib.hid (seqS_len (E := E) (fr := fr) k1)
            obtain ⟨s, hs⟩ : ∃ s, s = seqS E fr k1 := ⟨_, rfl⟩
            have HSQ := Lib.hid hs
            rw [← hs] at HS hk9 HSTP ⊢
            clear hol hxn hcg hrg eg hT hL hll el hstp hs
            go_wp2
            go_quiet (fail)
            have HS5 := Lib.hid (HS.out.below (Go.Bas.below_drewN (Below.refl _ _) nq))
            have HB5 := Lib.hid (Go.Bas.below_drewN HBe.out nq)
            go_wp2
            go_loopw [78, 4, 5] (fun i all by_ wr => ∃ t : Nat, t ≤ T.length ∧ i = .int .i64 t ∧ SS B0 wr mbs all by_ ((T.take t).foldl (vis k1) s) ∧ Below B0 w wr) (fun i _ _ _ => T.length - (intOf i).toNat)
            case atStart => exact ⟨0, Nat.zero_le _, rfl, HS5.out, HB5.out⟩
            case round =>
              obtain ⟨t, ht, rfl, hS6, hB6⟩ := hrel
              have HBe := Lib.hid hB6
              have HS := Lib.hid hS6
              clear hB6 hS6
              have HGv := Lib.hid (HG.out.below (HB0.out ▸ HBe.out))
              by_cases hltt : t < T.length
              · obtain ⟨y, hy⟩ : ∃ y, T[t]? = some y := ⟨_, List.getElem?_eq_getElem hltt⟩
                have hyn : y ∈ nodesL E := tgt_nodes (x := x) (by rw [← HTT.out]; exact List.mem_of_getElem? hy)
                have hlt' : L[t]? = some (plc (nodesL E) y) := by rw [HLE.out, List.getElem?_map, hy]; rfl
                obtain ⟨gl, cl', e7, _, _, _, hc7⟩ := (LI.out.below (HB0.out ▸ HBe.out)).form (by have := HLL2.out; omega)
                rw [HEL.out] at e7
                simp only [Value.slice.injEq, true_and] at e7
                obtain ⟨rfl, rfl⟩ := e7
                have z7 := hc7 t (by have := HLL2.out; omega) 0 (by decide)
                rw [show t * 1 + 0 = t by omega, lv_at hlt'] at z7
                have hyl : plc (nodesL E) y < (nodesL E).length := plc_lt hyn
                obtain ⟨gn, cn, en, _, _, _, hcn⟩ := HGv.out.nodes.form (by omega)
                have z8 := hcn _ hyl 0 (by decide)
                rw [show plc (nodesL E) y * 1 + 0 = plc (nodesL E) y by omega, lv_at (plc_get hyn)] at z8
                have c1 := HGv.out.row.c1
                rw [en] at c1
                have ht9 : (t : Int) < (L.length : Int) := by have := HLL2.out; omega
                have ht8 : (t : Int) < 1000000 := by have := HTL.out; omega
                have hy9 : ((plc (nodesL E) y : Nat) : Int) < ((nodesL E).length : Int) := by omega
                obtain ⟨Y, hY⟩ : ∃ Y, Y = plc (nodesL E) y := ⟨_, rfl⟩
                rw [← hY] at z7 z8 hy9
                have HOKY := Lib.hid (HOKN.out y hyn)
                have hstep := visL_snoc (i := (k1 : Int)) (s := s) hy
                have hlen := visL_bound (k1 : Int) (T.take t) s
                have hslen := visL_len (k1 : Int) (T.take t) s (by rw [HSQ.out]; exact HSL0.out)
                have hsb : s.1.length ≤ 2000 := by rw [HSQ.out]; have := HBND.out; have := HFB.out; have := HEB.out; omega
                obtain ⟨s', hs'⟩ : ∃ s', s' = (T.take t).foldl (vis (k1 : Int)) s := ⟨_, rfl⟩
                rw [← hs'] at HS hstep hlen hslen
                have HST := Lib.hid hstep
                have HLEN := Lib.hid (show s'.1.length ≤ 3000 by have := HTL.out; rw [List.length_take] at hlen; omega)
                have HLL := Lib.hid hslen
                have HK8 := Lib.hid hk8
                clear hs' hy hyn hlt' hc7 hcn hyl en hY hstep hlen hslen hsb hk9 hk8
                by_cases hin : y ∈ s'.1
                · have l2 := keyS.lookYes HS.out.map hin
                  have HNX := Lib.hid (HST.out.trans (vis_in hin))
                  clear hin
                  go_wp2
                  go_roundw
                  case rel => first | exact ⟨t + 1, by omega, by go_num, by rw [HNX.out]; exact HS.out, HBe.out⟩ | ((repeat apply Exists.intro); exact ⟨⟨t + 1, by omega, by go_num, by rw [HNX.out]; exact HS.out, HBe.out⟩, rfl⟩)
                  case measure => simp [intOf]; omega
                · have hnot : y ∉ s'.1 := hin
                  have l2 := keyS.lookNo HS.out.map HOKY.out hin
                  have HNX := Lib.hid (HST.out.trans (vis_out hin))
                  clear hin
                  obtain ⟨wm, hrun, hm1, hg1⟩ := keyS.put HS.out.map HOKY.out hnot (by have := HLEN.out; omega)
                  have HM1 := Lib.hid hm1
                  have HG1 := Lib.hid hg1
                  have A1 := HS.out.all.chg (Chg.of_grown (F := fun b => b = mbs) hg1 fun b hb => by cases hb; rfl) fun b hb e => HS.out.all.noMap HS.out.map (e ▸ hb)
                  have Y1 := HS.out.by_.chg (Chg.of_grown (F := fun b => b = mbs) hg1 fun b hb => by cases hb; rfl) fun b hb e => HS.out.by_.noMap HS.out.map (e ▸ hb)
                  obtain ⟨aA, cA, eA, _⟩ := A1.slice
                  obtain ⟨aY, cY, eY, _⟩ := Y1.slice
                  subst eA
                  subst eY
                  have A1 := Lib.hid A1
                  have Y1 := Lib.hid Y1
                  have AP := Lib.hid HS.out.apart
                  clear hm1 hg1 hnot
                  go_wp2_with (first | (refine wpList_append_lit rfl _ _ rfl rfl rfl A1.out Try.underlying83 Try.infoString rfl rfl rfl (by have := HLEN.out; unfold maxLen; omega) (by have := HLEN.out; omega) ?_; intro v2 w2 ho2 hg2 hp2; have Y2 := Lib.hid (Y1.out.chg (Chg.of_lit hg2) fun b hb e => AP.out b e hb); have O2 := Lib.hid ho2; have G2 := Lib.hid hg2; have P2 := Lib.hid hp2; obtain ⟨a2, q2, rfl, _⟩ := ho2.slice; clear ho2 hg2 hp2) | (refine wpList_append_lit rfl _ _ rfl rfl rfl Y2.out Try.underlying56 Try.info3 rfl rfl rfl (by have := HLEN.out; have := HLL.out; unfold maxLen; omega) (by have := HLEN.out; have := HLL.out; omega) ?_; intro v3 w3 ho3 hg3 hp3; have O3 := Lib.hid ho3; have G3 := Lib.hid hg3; have P3 := Lib.hid hp3; obtain ⟨a3, q3, rfl, _⟩ := ho3.slice; clear ho3 hg3 hp3))
                  obtain ⟨HS3, HB3⟩ := HS.out.add (k := y) (i := (k1 : Int)) (by have := HBe.out.size; have := HB0.out; omega) HM1.out HG1.out O2.out rfl G2.out P2.out O3.out rfl G3.out P3.out
                  have HS3 := Lib.hid HS3
                  have HB3 := Lib.hid (HBe.out.trans HB3)
                  go_roundw
                  case rel => first | exact ⟨t + 1, by omega, by go_num, by rw [HNX.out]; exact HS3.out, HB3.out⟩ | ((repeat apply Exists.intro); exact ⟨⟨t + 1, by omega, by go_num, by rw [HNX.out]; exact HS3.out, HB3.out⟩, rfl⟩)
                  case measure => simp [intOf]; omega
              · obtain rfl : t = T.length := by omega
                have hfull : Hid (seqS E fr (k1 + 1) = (T.take T.length).foldl (vis k1) s) := by rw [List.take_length]; exact HSTP.out
                have hpre := (seqS_prefix1 (E := E) (fr := fr) k1).1.length_le
                have HPRE := Lib.hid hpre
                have hlen9 : ¬ (T.length : Int) < (L.length : Int) := by have := HLL2.out; omega
                clear hpre hltt
                go_wp2
                go_roundw
                case rel => first | exact ⟨k1 + 1, by go_num, by have := HLT.out; have := HPRE.out; omega, by rw [hfull.out]; exact HS.out, HBe.out⟩ | ((repeat apply Exists.intro); exact ⟨⟨k1 + 1, by go_num, by have := HLT.out; have := HPRE.out; omega, by rw [hfull.out]; exact HS.out, HBe.out⟩, rfl⟩)
                case measure => have := HLT.out; have := HBND.out; simp [intOf]; omega
          · have l1 : ∀ n, (Instr.lookup 157 (.map (some mb)) (kvS x) true).run Try.prog (w4.drewN n) = .ok (.tuple #[.int .i64 0, .bool false]) (w4.drewN n) := fun n => keyS.lookNo (HGw.out.below (Go.Bas.below_drewN (Below.refl _ _) n)).map HOKX.out hin
            have HNX : Hid (seqS E fr (k1 + 1) = seqS E fr k1) := by rw [seqS_some HXX.out, tgt_none hin]; exact rfl
            clear hin
            go_wp2
            go_quiet (fail)
            go_wp2
            have HS5 := Lib.hid (HS.out.below (Go.Bas.below_drewN (Below.refl _ _) nq))
            have HB5 := Lib.hid (Go.Bas.below_drewN HBe.out nq)
            go_roundw
            case rel => first | exact ⟨k1 + 1, by go_num, by rw [HNX.out]; exact HLT.out, by rw [HNX.out]; exact HS5.out, HB5.out⟩ | ((repeat apply Exists.intro); exact ⟨⟨k1 + 1, by go_num, by rw [HNX.out]; exact HLT.out, by rw [HNX.out]; exact HS5.out, HB5.out⟩, rfl⟩)
            case measure => have := HLT.out; have := HBND.out; simp [intOf]; omega
        · have hend : (seqS E fr k1).1.length = k1 := by omega
          have HEND := Lib.hid (seqS_end hend)
          have HEN := Lib.hid hend
          have hk9 : ¬ (k1 : Int) < ((seqS E fr k1).1.length : Int) := by omega
          obtain ⟨aY, cY, eY, _⟩ := HS.out.by_.slice
          subst eY
          have HSF : Hid (SS B0 wr mbs (.slice (aA) (seqS E fr k1).1.length cA) (.slice aY (seqS E fr k1).2.length cY) (srch E fr)) := by
            have key : ∀ s', s' = seqS E fr k1 → SS B0 wr mbs (.slice (aA) (seqS E fr k1).1.length cA) (.slice aY (seqS E fr k1).2.length cY) s' := by rintro _ rfl; exact HS.out
            exact key _ HEND.out
          clear hend hbnd hfb heb hlt
          go_wp2
          go_ret2
          exact ⟨_, _, rfl, ⟨mbs, HSF.out⟩, HBe.out⟩
end
end Go.Proofs.Ytlmdgmgbijfaoaa
