/-
  aead.Seal, bastilleref11.Seal: what each answers. Conditions: named in each theorem.
-/
import Derived.Test.YtgobodhcamgidaaAe3
set_option linter.unusedVariables false
set_option linter.unusedSimpArgs false
namespace Go.Bas
open Go.RowKit
/-- a sealed text. -/
def sealF (key nonce : Nat → Int) (nb : Nat) (fb : Nat → Int) (n : Nat) (f : Nat → Int) (i : Nat) : Int := if i < n then hidB key nonce 1 f i else dg 256 (aTag key nonce nb fb n (hidB key nonce 1 f)) (i - n)
theorem sealF_lo {key nonce : Nat → Int} {nb : Nat} {fb : Nat → Int} {n : Nat} {f : Nat → Int} {i : Nat} (h : i < n) : sealF key nonce nb fb n f i = hidB key nonce 1 f i := if_pos h
theorem sealF_hi {key nonce : Nat → Int} {nb : Nat} {fb : Nat → Int} {n : Nat} {f : Nat → Int} (i : Nat) : sealF key nonce nb fb n f (n + i) = dg 256 (aTag key nonce nb fb n (hidB key nonce 1 f)) i := by
  unfold sealF
  rw [if_neg (by omega), Nat.add_sub_cancel_left]
theorem hidB_bound (key nonce : Nat → Int) (c : Int) (f : Nat → Int) (i : Nat) : 0 ≤ hidB key nonce c f i ∧ hidB key nonce c f i < 256 := xo_bound _ _
end Go.Bas
namespace Go.Proofs.Ytgobodhcamgidaa
open Go.RowKit Go.Bas
attribute [local go_sem ↓] Go.wp_at_zero Go.wp_at_succ

set_option maxRecDepth 100000 in
set_option maxHeartbeats 3200000 in
theorem aSeal_any (key nonce : Nat → Int) (hk : ∀ i, i < 32 → 0 ≤ key i ∧ key i < 256) (hn : ∀ i, i < 12 → 0 ≤ nonce i ∧ nonce i < 256) (vb v : Value) (nb n : Nat) (fb f : Nat → Int) (w : World)
    (hb : Rd .u8 w vb nb fb) (hv : Rd .u8 w v n f) (hfb : ∀ i, i < nb → 0 ≤ fb i ∧ fb i < 256) (l1 : nb ≤ 400000) (l2 : n ≤ 400000) :
    Calls Try.prog 38 #[.agg (arr .u8 32 key), .agg (arr .u8 12 nonce), vb, v] w fun e w' =>
      ∃ v, e = .returned (.tuple #[v, .int .i64 0]) ∧ Go.Bas.Own .u8 5 w.heap.size w' v (n + 16) (sealF key nonce nb fb n f) ∧ Below w.heap.size w w' := by
  have HK := Lib.hid hk
  have HN := Lib.hid hn
  have HFB := Lib.hid hfb
  have HB := Lib.hid hb
  have HV := Lib.hid hv
  obtain ⟨ab, cb, rfl, b1, b2, b3, b4⟩ := hb
  obtain ⟨a1, c1, rfl, h1, h2, h3, h4⟩ := hv
  clear hk hn hfb b3 b4 h3 h4
  go_enter Try.func38, Try.ntmps38
  go_upto_region 1 with (fail)
  refine wp_world (fun w1 => Arr .u8 w1 w.heap.size 32 key ∧ Arr .u8 w1 (w.heap.size + 1) 12 nonce ∧ Below w.heap.size w w1 ∧ w1.heap.size = w.heap.size + 2)
    ⟨Arr.alloc (Arr.newAt rfl rfl) _, Arr.newAt (by simp) rfl, ((Below.refl _ _).alloc (Nat.le_refl _) _).alloc (by simp) _, by simp⟩ ?_
  rintro w1 ⟨hA, hN, hbel, hs⟩
  go_wp2_with (first
    | (refine load_arr rfl 26 _ rfl .u8 w.heap.size 32 _ 5 Try.underlying26 Try.size26 rfl hA ?_)
    | (refine load_arr rfl 64 _ rfl .u8 (w.heap.size + 1) 12 _ 5 Try.underlying64 Try.size64 rfl hN ?_))
  refine (hide_own key nonce 1 HK.out HN.out (by decide) _ n f _ (HV.out.below hbel) (by omega) (by omega)).mono ?_
  rintro e w2 ⟨v2, rfl, hO, hb2⟩
  have hA2 := hA.kept hb2
  have hN2 := hN.kept hb2
  have hbel2 := hbel.trans (hb2.mono hbel.size)
  have HO := Lib.hid hO
  have HR := Lib.hid hO.rd
  have HBW := Lib.hid (HB.out.below hbel2)
  have s1 := hbel2.size
  have s2 := hb2.size
  clear hA hN hbel hb2 hO
  go_wp2_with (first
    | (refine load_arr rfl 26 _ rfl .u8 w.heap.size 32 _ 5 Try.underlying26 Try.size26 rfl hA2 ?_)
    | (refine load_arr rfl 64 _ rfl .u8 (w.heap.size + 1) 12 _ 5 Try.underlying64 Try.size64 rfl hN2 ?_))
  refine (aTag_any key nonce HK.out HN.out _ _ nb n fb (hidB key nonce 1 f) _ HBW.out HR.out HFB.out (fun i _ => hidB_bound _ _ _ _ _) l1 l2).mono ?_
  rintro e w3 ⟨rfl, hb3⟩
  have hbel3 := hbel2.trans (hb3.mono hbel2.size)
  have HO3 := Lib.hid ((HO.out.below hb3).congr (g := sealF key nonce nb fb n f) (fun i hi => (sealF_lo hi).symm))
  have s3 := hb3.size
  clear hA2 hN2 hbel2 hb3 HO
  go_upto_region 7 with (refine store_arr rfl 70 _ _ rfl .u8 w3.heap.size 16 (fun _ => 0) _ Try.size70 rfl rfl (Arr.newAt rfl (by rfl)) ?_)
  refine wp_world (fun w4 => Arr .u8 w4 w3.heap.size 16 (dg 256 (aTag key nonce nb fb n (hidB key nonce 1 f))) ∧ Go.Bas.Own .u8 5 w1.heap.size w4 v2 n (sealF key nonce nb fb n f) ∧ Below w.heap.size w w4)
    ⟨Arr.setRow (Arr.newAt (n := 16) (f := fun _ => 0) rfl (by rfl)) _ _, HO3.out.below (below_setRow' ((Below.refl _ _).alloc (Nat.le_refl _) _) (Nat.le_refl _) _), below_setRow' (hbel3.alloc hbel3.size _) hbel3.size _⟩ ?_
  rintro w4 ⟨hT, hO4, hbel4⟩
  have HO4 := Lib.hid hO4
  have HT := Lib.hid (hT.rd (by decide))
  have hs4 := hT.lt
  clear hO4 hT HO3 hbel3
  simp only [Act.put]
  go_wp2_with (at_builtin; refine append_rd rfl _ _ 22 rfl w1.heap.size 5 .u8 1 Try.underlying22 Try.info5 _ n _ HO4.out rfl _ 16 _ HT.out rfl (fun i _ => sealF_hi i) (by omega) (by omega) (by omega) ?_; intro v5 w5 hown hgr)
  have hb5 := below_grown hbel4 hgr HO4.out hbel4.size (by omega)
  have HO5 := Lib.hid hown
  clear hown hgr
  go_ret2
  exact ⟨_, rfl, HO5.out.mono (by omega), hb5⟩

set_option maxRecDepth 100000 in
set_option maxHeartbeats 3200000 in
theorem rASeal_any (key nonce : Nat → Int) (hk : ∀ i, i < 32 → 0 ≤ key i ∧ key i < 256) (hn : ∀ i, i < 12 → 0 ≤ nonce i ∧ nonce i < 256) (vb v : Value) (nb n : Nat) (fb f : Nat → Int) (w : World)
    (hb : Rd .u8 w vb nb fb) (hv : Rd .u8 w v n f) (hfb : ∀ i, i < nb → 0 ≤ fb i ∧ fb i < 256) (l1 : nb ≤ 400000) (l2 : n ≤ 400000) :
    Calls Try.prog 39 #[.agg (arr .u8 32 key), .agg (arr .u8 12 nonce), vb, v] w fun e w' =>
      ∃ v, e = .returned v ∧ Rd .u8 w' v (n + 16) (sealF key nonce nb fb n f) ∧ Below w.heap.size w w' := by
  have HK := Lib.hid hk
  have HN := Lib.hid hn
  have HFB := Lib.hid hfb
  have HB := Lib.hid hb
  have HV := Lib.hid hv
  obtain ⟨ab, cb, rfl, b1, b2, b3, b4⟩ := hb
  obtain ⟨a1, c1, rfl, h1, h2, h3, h4⟩ := hv
  clear hk hn hfb b3 b4 h3 h4
  go_enter Try.func39, Try.ntmps39
  go_upto_region 1 with (fail)
  refine wp_world (fun w1 => Arr .u8 w1 w.heap.size 32 key ∧ Arr .u8 w1 (w.heap.size + 1) 12 nonce ∧ Below w.heap.size w w1 ∧ w1.heap.size = w.heap.size + 2)
    ⟨Arr.alloc (Arr.newAt rfl rfl) _, Arr.newAt (by simp) rfl, ((Below.refl _ _).alloc (Nat.le_refl _) _).alloc (by simp) _, by simp⟩ ?_
  rintro w1 ⟨hA, hN, hbel, hs⟩
  go_wp2_with (first
    | (refine load_arr rfl 26 _ rfl .u8 w.heap.size 32 _ 5 Try.underlying26 Try.size26 rfl hA ?_)
    | (refine load_arr rfl 64 _ rfl .u8 (w.heap.size + 1) 12 _ 5 Try.underlying64 Try.size64 rfl hN ?_))
  refine (rHide_own key nonce 1 HK.out HN.out (by decide) _ n f _ (HV.out.below hbel) (by omega) (by omega)).mono ?_
  rintro e w2 ⟨v2, rfl, hO, hb2⟩
  have hA2 := hA.kept hb2
  have hN2 := hN.kept hb2
  have hbel2 := hbel.trans (hb2.mono hbel.size)
  have HO := Lib.hid hO
  have HR := Lib.hid hO.rd
  have HBW := Lib.hid (HB.out.below hbel2)
  have s1 := hbel2.size
  have s2 := hb2.size
  clear hA hN hbel hb2 hO
  go_wp2_with (first
    | (refine load_arr rfl 26 _ rfl .u8 w.heap.size 32 _ 5 Try.underlying26 Try.size26 rfl hA2 ?_)
    | (refine load_arr rfl 64 _ rfl .u8 (w.heap.size + 1) 12 _ 5 Try.underlying64 Try.size64 rfl hN2 ?_))
  refine (rATag_any key nonce HK.out HN.out _ _ nb n fb (hidB key nonce 1 f) _ HBW.out HR.out HFB.out (fun i _ => hidB_bound _ _ _ _ _) l1 l2).mono ?_
  rintro e w3 ⟨rfl, hb3⟩
  have hbel3 := hbel2.trans (hb3.mono hbel2.size)
  have HO3 := Lib.hid ((HO.out.below hb3).congr (g := sealF key nonce nb fb n f) (fun i hi => (sealF_lo hi).symm))
  have s3 := hb3.size
  clear hA2 hN2 hbel2 hb3 HO
  go_upto_region 3 with (refine store_arr rfl 70 _ _ rfl .u8 w3.heap.size 16 (fun _ => 0) _ Try.size70 rfl rfl (Arr.newAt rfl (by rfl)) ?_)
  obtain ⟨T, hT⟩ : ∃ T, T = aTag key nonce nb fb n (hidB key nonce 1 f) := ⟨_, rfl⟩
  have HSF : Hid (∀ i, sealF key nonce nb fb n f (n + i) = dg 256 T i) := by rw [hT]; exact fun i => sealF_hi i
  rw [← hT]
  clear hT
  refine wp_world (fun w4 => Arr .u8 w4 w3.heap.size 16 (dg 256 T) ∧ Go.Bas.Own .u8 5 w1.heap.size w4 v2 n (sealF key nonce nb fb n f) ∧ Below w.heap.size w w4)
    ⟨Arr.setRow (Arr.newAt (n := 16) (f := fun _ => 0) rfl (by rfl)) _ _, HO3.out.below (below_setRow' ((Below.refl _ _).alloc (Nat.le_refl _) _) (Nat.le_refl _) _), below_setRow' (hbel3.alloc hbel3.size _) hbel3.size _⟩ ?_
  rintro w4 ⟨hT, hO4, hbel4⟩
  have hv2 : some w3.heap.size ≠ v2.ownBlock := fun e => by have := (World.ownsRow.lt HO3.out _ e.symm).2; omega
  clear HO3 hbel3
  simp only [Act.put]
  go_wp2
  go_loopw [9, 11] (fun v i wr => ∃ k : Nat, k ≤ 16 ∧ i = .int .i64 k ∧ Go.Bas.Own .u8 5 w1.heap.size wr v (n + k) (sealF key nonce nb fb n f) ∧ some w3.heap.size ≠ v.ownBlock ∧ Arr .u8 wr w3.heap.size 16 (dg 256 T) ∧ Below w.heap.size w wr) (fun _ i _ => 16 - (intOf i).toNat)
  case atStart => exact ⟨0, Nat.zero_le _, rfl, hO4, hv2, hT, hbel4⟩
  case round =>
    clear hO4 hv2 hT hbel4
    obtain ⟨k, hk, rfl, hO, hne, hT, hbel⟩ := hrel
    have hsl := hbel.size
    have HO := Lib.hid hO
    have hTl := hT.lt
    clear hO
    by_cases hlt : k < 16
    · have e1 := hT.cell k hlt
      have HT := Lib.hid hT
      clear hT
      go_wp2_with (at_builtin; refine append_new2 rfl _ _ 22 rfl w1.heap.size 5 .u8 1 Try.underlying22 Try.info5 _ (n + k) (sealF key nonce nb fb n f) _ _ rfl HO.out rfl 1 rfl rfl ?_ (by omega) (by omega) (by omega) ?_; rotate_right; intro v' w6 hown hgrow hpl)
      · go_roundw
        case rel => exact ⟨k + 1, by omega, by go_num, hown, (by rcases hpl with h | h; (· rw [h]; exact hne); intro e; have := h _ e.symm; simp at this; omega), (Arr.alloc HT.out _).grown hgrow hne, below_grown (hbel.alloc hsl _) hgrow HO.out (by simp; omega) (by omega)⟩
        case measure => simp [intOf] <;> omega
      · intro i hi
        refine one0 hi ?_
        rw [show n + k + i = n + k by omega, HSF.out]
    · obtain rfl : k = 16 := by omega
      go_wp2
      go_ret
      exact ⟨_, rfl, HO.out.rd, hbel⟩
end Go.Proofs.Ytgobodhcamgidaa
