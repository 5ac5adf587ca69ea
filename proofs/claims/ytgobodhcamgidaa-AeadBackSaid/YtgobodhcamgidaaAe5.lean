/-
  aead.Open: what it answers. Conditions: named in each theorem.
-/
import Derived.Test.YtgobodhcamgidaaAe4
set_option linter.unusedVariables false
set_option linter.unusedSimpArgs false
namespace Go.Bas
open Go.RowKit
/-- does a text open? -/
def opensB (key nonce : Nat → Int) (nb : Nat) (fb : Nat → Int) (n : Nat) (f : Nat → Int) : Bool := sameB 16 (dg 256 (aTag key nonce nb fb n f)) (fun i => f (n + i))
/-- a slice and no error. -/
def TupR (w : World) (v : Value) (n : Nat) (f : Nat → Int) : Prop := ∃ u, v = .tuple #[u, .int .i64 0] ∧ Rd .u8 w u n f
theorem TupR.below {w w' : World} {v : Value} {n : Nat} {f : Nat → Int} (h : TupR w v n f) (hb : Below w.heap.size w w') : TupR w' v n f := by
  obtain ⟨u, h1, h2⟩ := h; exact ⟨u, h1, h2.below hb⟩
/-- what opening answers. -/
def OpR (ok : Bool) (w : World) (v : Value) (n : Nat) (h : Nat → Int) : Prop := (ok = true → TupR w v n h) ∧ (ok = false → v = .tuple #[.slice none 0 0, .int .i64 20])
theorem OpR.yes {w : World} {u : Value} {n : Nat} {h : Nat → Int} (hr : Rd .u8 w u n h) : OpR true w (.tuple #[u, .int .i64 0]) n h := ⟨fun _ => ⟨u, rfl, hr⟩, fun h => Bool.noConfusion h⟩
theorem OpR.no {w : World} {n : Nat} {h : Nat → Int} : OpR false w (.tuple #[.slice none 0 0, .int .i64 20]) n h := ⟨fun h => Bool.noConfusion h, fun _ => rfl⟩
end Go.Bas
namespace Go.Proofs.Ytgobodhcamgidaa
open Go.RowKit Go.Bas
attribute [local go_sem ↓] Go.wp_at_zero Go.wp_at_succ
theorem hide_t (key nonce : Nat → Int) (c : Int) (hk : ∀ i, i < 32 → 0 ≤ key i ∧ key i < 256) (hn : ∀ i, i < 12 → 0 ≤ nonce i ∧ nonce i < 256) (hc : 0 ≤ c ∧ c < 4294967296)
    (v : Value) (n : Nat) (f : Nat → Int) (w : World) (hv : Rd .u8 w v n f) (h1 : n ≤ 1048576) (h2 : ((n + 63) / 64 : Nat) ≤ 4294967296 - c) :
    Calls Try.prog 64 #[.agg (arr .u8 32 key), .agg (arr .u8 12 nonce), .int .u32 c, v] w fun e w' => ∃ u, e = .returned u ∧ TupR w' u n (hidB key nonce c f) ∧ Below w.heap.size w w' :=
  (hide_any key nonce c hk hn hc v n f w hv h1 h2).mono fun _ _ ⟨v, h1, h2, h3⟩ => ⟨_, h1, ⟨v, rfl, h2⟩, h3⟩

set_option maxRecDepth 100000 in
set_option maxHeartbeats 1600000 in
theorem aOpen_short (key nonce : Nat → Int) (vb v : Value) (nb n : Nat) (fb f : Nat → Int) (w : World) (hb : Rd .u8 w vb nb fb) (hv : Rd .u8 w v n f) (l1 : nb ≤ 400000) (l2 : n < 16) :
    Calls Try.prog 43 #[.agg (arr .u8 32 key), .agg (arr .u8 12 nonce), vb, v] w fun e w' => e = .returned (.tuple #[.slice none 0 0, .int .i64 10]) ∧ Below w.heap.size w w' := by
  obtain ⟨ab, cb, rfl, b1, b2, b3, b4⟩ := hb
  obtain ⟨a1, c1, rfl, h1, h2, h3, h4⟩ := hv
  clear b3 b4 h3 h4
  have q1 : ¬ (1048576 : Int) < (n : Int) := by omega
  have q2 : ¬ (1048576 : Int) < (nb : Int) := by omega
  go_enter Try.func43, Try.ntmps43
  go_wp2
  go_ret2
  exact ⟨rfl, ((Below.refl _ _).alloc (Nat.le_refl _) _).alloc (by simp) _⟩

set_option maxRecDepth 100000 in
set_option maxHeartbeats 3200000 in
theorem aOpen_any (key nonce : Nat → Int) (hk : ∀ i, i < 32 → 0 ≤ key i ∧ key i < 256) (hn : ∀ i, i < 12 → 0 ≤ nonce i ∧ nonce i < 256) (vb v : Value) (nb n : Nat) (fb f : Nat → Int) (w : World)
    (hb : Rd .u8 w vb nb fb) (hv : Rd .u8 w v (n + 16) f) (hfb : ∀ i, i < nb → 0 ≤ fb i ∧ fb i < 256) (hf : ∀ i, i < n + 16 → 0 ≤ f i ∧ f i < 256) (l1 : nb ≤ 400000) (l2 : n ≤ 400000) :
    Calls Try.prog 43 #[.agg (arr .u8 32 key), .agg (arr .u8 12 nonce), vb, v] w fun e w' =>
      ∃ v, e = .returned v ∧ OpR (opensB key nonce nb fb n f) w' v n (hidB key nonce 1 f) ∧ Below w.heap.size w w' := by
  have HK := Lib.hid hk
  have HN := Lib.hid hn
  have HFB := Lib.hid hfb
  have HF := Lib.hid hf
  have HB := Lib.hid hb
  have HV := Lib.hid hv
  obtain ⟨T, hT⟩ : ∃ T, T = aTag key nonce nb fb n f := ⟨_, rfl⟩
  obtain ⟨ok, hok⟩ : ∃ ok, ok = opensB key nonce nb fb n f := ⟨_, rfl⟩
  have HOK : Hid (sameB 16 (dg 256 T) (fun i => f (n + i)) = ok) := by rw [hok, hT]; exact rfl
  rw [← hok]
  have HT := Lib.hid hT
  obtain ⟨N, hNn⟩ : ∃ N, N = n + 16 := ⟨_, rfl⟩
  rw [← hNn] at hv HV HF
  obtain ⟨ab, cb, rfl, b1, b2, b3, b4⟩ := hb
  obtain ⟨a1, c1, rfl, h1, h2, h3, h4⟩ := hv
  have G1 := Lib.hid (Rd.head (P := Try.prog) Try.underlying22 Try.info5 a1 N c1 n (by omega) h1)
  obtain ⟨la, k1, k2, k3⟩ := Rd.cut Try.underlying22 Try.info5 a1 N c1 n N (by omega) (Nat.le_refl _) h1
  rw [show N - n = 16 by omega] at k2 k3
  have K2 := Lib.hid k2
  have K3 := Lib.hid (fun w f h => (k3 w f h).2)
  have q0 : (N : Int) - 16 = (n : Int) := by omega
  have q1 : ¬ (1048576 : Int) < (N : Int) := by omega
  have q2 : ¬ (1048576 : Int) < (nb : Int) := by omega
  have q3 : ¬ ((n : Int) < 0) := by omega
  have HNn := Lib.hid hNn
  clear hk hn hfb hf b3 b4 h3 h4 k1 k2 k3 hT hok hNn
  go_enter Try.func43, Try.ntmps43
  go_upto_region 1 with (fail)
  refine wp_world (fun w1 => Arr .u8 w1 w.heap.size 32 key ∧ Arr .u8 w1 (w.heap.size + 1) 12 nonce ∧ Below w.heap.size w w1 ∧ w1.heap.size = w.heap.size + 2)
    ⟨Arr.alloc (Arr.newAt rfl rfl) _, Arr.newAt (by simp) rfl, ((Below.refl _ _).alloc (Nat.le_refl _) _).alloc (by simp) _, by simp⟩ ?_
  rintro w1 ⟨hA, hN, hbel, hs⟩
  have HB1 := Lib.hid (HB.out.below hbel)
  have HV1 := Lib.hid (HV.out.below hbel)
  clear hs
  go_upto_region 6 with (fail)
  clear q0 q1 q2 q3
  refine region_vars (n := 48) (by kernel_rfl) (by kernel_rfl) (by kernel_rfl) rfl
    (isAl [(8, 7)]) (putOf [(8, 7)]) (fun _ => arr .u8 16 (fun _ => 0)) (fun _ => (arr .u8 16 (dg 256 T))) (fun _ => 70) (fun _ => 11)
    (fun ii vv _ => (match ii with | 0 => vv = .agg (arr .u8 32 (key)) | 1 => vv = .agg (arr .u8 12 (nonce)) | 2 => vv = .slice ab nb cb | 3 => vv = .slice a1 N c1 | 4 => vv = .int .i64 ((n : Int)) | 5 => vv = .slice a1 n c1 | 6 => vv = .agg (arr .u8 16 (dg 256 T)) | _ => True)) (fun _ _ => True) (fun _ _ _ => trivial) (fun _ _ _ _ _ _ _ => trivial) (fun _ _ _ _ h _ => h)
    (vs_al rfl) (vs_inj rfl) ?_ ?_ ?_ ?_
  · refine Each.all ?_
    refine ⟨?_, ?_, ?_, ?_, ?_, ?_, ?_, (fun h => by cases h), (fun _ h => by cases h), trivial⟩
    · intro _ _ a w2 hB hF hd
      rw [if_pos (wanted_none rfl)]
      exact flow_val (fun h => by cases h) (run_load_str rfl Try.underlying26 rfl Try.size26 (hF.same 4 rfl) (hA.below hB hA.lt)) rfl
    · intro _ _ a w2 hB hF hd
      rw [if_pos (wanted_none rfl)]
      exact flow_val (fun h => by cases h) (run_load_str rfl Try.underlying64 rfl Try.size64 (hF.same 5 rfl) (hN.below hB hN.lt)) rfl
    · intro _ _ a w2 hB hF hd
      rw [if_pos (wanted_none rfl)]
      exact flow_move _ (.inl rfl) (by simp) (hF.same 2 rfl)
    · intro _ _ a w2 hB hF hd
      rw [if_pos (wanted_none rfl)]
      exact flow_move _ (.inl rfl) (by simp) (hF.same 3 rfl)
    · intro _ _ a w2 hB hF hd
      rw [if_pos (wanted_none rfl)]
      exact flow_move _ (.inl rfl) (by simp) (hF.same 10 rfl)
    · intro _ _ a w2 hB hF hd
      rw [if_pos (wanted_none rfl)]
      exact flow_val (fun h => by cases h) (run_slice_part rfl (hd 3 _ rfl rfl rfl (waits_spec rfl)) (by simp only [Option.map_some, Option.map_none, show a.eval (Operand.tmp 31) = .int .i64 ((n : Int)) from (hd 4 _ rfl rfl rfl (waits_spec rfl))]; exact G1.out.1 _)) rfl
    · intro _ _ a w2 hB hF hd
      rw [if_pos (wanted_none rfl)]
      refine flow_call _ _ _ rfl Try.call40 _ (args4 (hd 0 _ rfl rfl rfl (waits_spec rfl)) (hd 1 _ rfl rfl rfl (waits_spec rfl)) (hd 2 _ rfl rfl rfl (waits_spec rfl)) (hd 5 _ rfl rfl rfl (waits_spec rfl))) (by simp) (((HT.out ▸ aTag_any key nonce HK.out HN.out _ _ nb n fb f _ (HB1.out.below hB) (G1.out.2 _ _ (HV1.out.below hB)) HFB.out (fun i hi => HF.out i (by have := HNn.out; omega)) l1 l2)).mono ?_)
      rintro e w3 ⟨rfl, hb⟩; exact ⟨_, rfl, rfl, hb⟩
  · refine Each.all ?_
    refine ⟨(fun h => by cases h), (fun h => by cases h), (fun h => by cases h), (fun h => by cases h), (fun h => by cases h), (fun h => by cases h), (fun h => by cases h), ?_, (fun h => by cases h), trivial⟩
    · exact fun _ => ⟨rfl, rfl, fun a w2 K h => flow_alloc rfl rfl Try.zeroValue70 (by simp) h⟩
  · refine Each.all ?_
    refine ⟨(fun _ h => by cases h), (fun _ h => by cases h), (fun _ h => by cases h), (fun _ h => by cases h), (fun _ h => by cases h), (fun _ h => by cases h), (fun _ h => by cases h), (fun _ h => by cases h), ?_, trivial⟩
    · intro p hp
      obtain rfl : 7 = p := Option.some.inj hp
      exact ⟨rfl, rfl, ⟨_, rfl⟩, waits_spec rfl, fun a w2 b K hB hF hd hx hb h => flow_put rfl rfl Try.size70 hx (hd 6 _ rfl rfl rfl (waits_spec rfl)) hb h⟩
  · intro a w2 blk hB hF hS hv hfin hdis
    obtain ⟨v7, v7l, v7u⟩ := hv 7 _ rfl rfl
    have ha := puts_each rfl rfl hF [_, _, _, _, _, _, _, _, undef] rfl ⟨hS 0 _ rfl rfl rfl, hS 1 _ rfl rfl rfl, hS 2 _ rfl rfl rfl, hS 3 _ rfl rfl rfl, hS 4 _ rfl rfl rfl, hS 5 _ rfl rfl rfl, hS 6 _ rfl rfl rfl, v7, trivial, trivial⟩
    have f7 := hfin 8 _ 7 rfl rfl
    simp only [puts, Act.put, List.setIfInBounds_toArray, List.set_cons_succ, List.set_cons_zero] at ha
    subst ha
    have V7 : Arr .u8 w2 (blk 7) 16 (dg 256 T) := ⟨_, f7⟩
    clear hS hv hfin hdis hF v7 f7
    have hA2 := hA.kept hB
    have hN2 := hN.kept hB
    have hb2 := hbel.trans (hB.mono hbel.size)
    have HV2 := Lib.hid (HV1.out.below hB)
    obtain ⟨q, hq⟩ : ∃ q, q = blk 7 := ⟨_, rfl⟩
    rw [← hq] at V7 ⊢
    clear hA hN hbel hB hq HB1 HV1
    go_upto_region 7 with (fail)
    refine region_flow (n := 48) (by kernel_rfl) (by kernel_rfl) (by kernel_rfl) rfl
      (fun ii vv _ => (match ii with | 0 => vv = .slice (some ⟨q, 0, none⟩) 16 16 | 1 => vv = .slice a1 N c1 | 2 => vv = .int .i64 ((n : Int)) | 3 => vv = .slice la 16 (c1 - n) | 4 => vv = .bool ok | 5 => vv = .bool (!(ok)) | _ => True))
      (fun w w' => Below w.heap.size w w') (fun _ _ h => h) (fun _ _ _ _ h _ => h) ?_ ?_
    · refine Each.all ?_
      refine ⟨?_, ?_, ?_, ?_, ?_, ?_, trivial⟩
      · intro a w2 hB hF hd
        rw [if_pos (wanted_none rfl)]
        exact flow_val (fun h => by cases h) (run_slice_arr rfl (hF.same 11 rfl) Try.underlying70 (by kernel_rfl)) rfl
      · intro a w2 hB hF hd
        rw [if_pos (wanted_none rfl)]
        exact flow_move _ (.inl rfl) (by simp) (hF.same 3 rfl)
      · intro a w2 hB hF hd
        rw [if_pos (wanted_none rfl)]
        exact flow_move _ (.inl rfl) (by simp) (hF.same 10 rfl)
      · intro a w2 hB hF hd
        rw [if_pos (wanted_none rfl)]
        exact flow_val (fun h => by cases h) (run_slice_part rfl (hd 1 _ rfl (waits_spec rfl)) (by simp only [Option.map_some, Option.map_none, show a.eval (Operand.tmp 36) = .int .i64 ((n : Int)) from (hd 2 _ rfl (waits_spec rfl))]; exact K2.out _)) rfl
      · intro a w2 hB hF hd
        rw [if_pos (wanted_none rfl)]
        refine flow_call _ _ _ rfl Try.call45 _ (args2 (hd 0 _ rfl (waits_spec rfl)) (hd 3 _ rfl (waits_spec rfl))) (by simp) (((HOK.out ▸ aEqual_any _ _ 16 (dg 256 T) (fun i => f (n + i)) _ ((V7.kept hB).rd (by decide)) (K3.out _ _ (HV2.out.below hB)) (fun i _ => dg_bound (by decide) _ _) (fun i hi => HF.out _ (by have := HNn.out; omega)))).mono ?_)
        rintro e w3 ⟨rfl, hb⟩; exact ⟨_, rfl, rfl, hb⟩
      · intro a w2 hB hF hd
        rw [if_pos (wanted_none rfl)]
        exact flow_val (fun h => by cases h) (run_not rfl (hd 4 _ rfl (waits_spec rfl))) rfl
    · intro a w3 hB hF hS
      have ha := puts_each rfl rfl hF [_, _, _, _, _, _] rfl ⟨hS 0 _ rfl, hS 1 _ rfl, hS 2 _ rfl, hS 3 _ rfl, hS 4 _ rfl, hS 5 _ rfl, trivial⟩
      simp only [puts, Act.put, List.setIfInBounds_toArray, List.set_cons_succ, List.set_cons_zero] at ha
      subst ha
      clear hS hF
      have hA3 := hA2.kept hB
      have hN3 := hN2.kept hB
      have hb3 := hb2.trans (hB.mono hb2.size)
      have HV3 := Lib.hid (HV2.out.below hB)
      clear hA2 hN2 hb2 hB V7 HV2
      cases ok with
      | false =>
        go_wp2
        go_ret2
        exact ⟨_, rfl, OpR.no, hb3⟩
      | true =>
        go_upto_region 9 with (fail)
        refine region_flow (n := 48) (by kernel_rfl) (by kernel_rfl) (by kernel_rfl) rfl
          (fun ii vv ww => (match ii with | 0 => vv = .agg (arr .u8 32 (key)) | 1 => vv = .agg (arr .u8 12 (nonce)) | 2 => vv = .slice a1 N c1 | 3 => vv = .int .i64 ((n : Int)) | 4 => vv = .slice a1 n c1 | 7 | 9 => vv = .int .i64 (0) | _ => True) ∧ (ii = 5 → TupR ww vv n (hidB key nonce 1 f)) ∧ (ii = 6 → Rd .u8 ww vv n (hidB key nonce 1 f)) ∧ (ii = 8 → Rd .u8 ww vv n (hidB key nonce 1 f)))
          (fun w w' => Below w.heap.size w w') (fun _ _ h => h) (fun i v w w' h hE => ⟨h.1, fun e => TupR.below (h.2.1 e) hE, fun e => Rd.below (h.2.2.1 e) hE, fun e => Rd.below (h.2.2.2 e) hE⟩) ?_ ?_
        · refine Each.all ?_
          refine ⟨?_, ?_, ?_, ?_, ?_, ?_, ?_, ?_, ?_, ?_, trivial⟩
          · intro a w2 hB hF hd
            rw [if_pos (wanted_none rfl)]
            exact flow_val (fun h => by cases h) (run_load_str rfl Try.underlying26 rfl Try.size26 (hF.same 4 rfl) (hA3.below hB hA3.lt)) ⟨rfl, fun h => absurd h (by decide), fun h => absurd h (by decide), fun h => absurd h (by decide)⟩
          · intro a w2 hB hF hd
            rw [if_pos (wanted_none rfl)]
            exact flow_val (fun h => by cases h) (run_load_str rfl Try.underlying64 rfl Try.size64 (hF.same 5 rfl) (hN3.below hB hN3.lt)) ⟨rfl, fun h => absurd h (by decide), fun h => absurd h (by decide), fun h => absurd h (by decide)⟩
          · intro a w2 hB hF hd
            rw [if_pos (wanted_none rfl)]
            exact flow_move _ (.inl rfl) (by simp) ⟨(hF.same 3 rfl), fun h => absurd h (by decide), fun h => absurd h (by decide), fun h => absurd h (by decide)⟩
          · intro a w2 hB hF hd
            rw [if_pos (wanted_none rfl)]
            exact flow_move _ (.inl rfl) (by simp) ⟨(hF.same 10 rfl), fun h => absurd h (by decide), fun h => absurd h (by decide), fun h => absurd h (by decide)⟩
          · intro a w2 hB hF hd
            rw [if_pos (wanted_none rfl)]
            exact flow_val (fun h => by cases h) (run_slice_part rfl ((hd 2 _ rfl (waits_spec rfl)).1) (by simp only [Option.map_some, Option.map_none, show a.eval (Operand.tmp 43) = .int .i64 ((n : Int)) from ((hd 3 _ rfl (waits_spec rfl)).1)]; exact G1.out.1 _)) ⟨rfl, fun h => absurd h (by decide), fun h => absurd h (by decide), fun h => absurd h (by decide)⟩
          · intro a w2 hB hF hd
            rw [if_pos (wanted_none rfl)]
            refine flow_call _ _ _ rfl Try.call64 _ (args4 ((hd 0 _ rfl (waits_spec rfl)).1) ((hd 1 _ rfl (waits_spec rfl)).1) rfl ((hd 4 _ rfl (waits_spec rfl)).1)) (by simp) ((hide_t key nonce 1 HK.out HN.out (by decide) _ n f _ (G1.out.2 _ _ (HV3.out.below hB)) (by omega) (by omega)).mono ?_)
            rintro e w3 ⟨u, rfl, hr, hb⟩; exact ⟨u, rfl, ⟨trivial, fun _ => hr, fun h => absurd h (by decide), fun h => absurd h (by decide)⟩, hb⟩
          · intro a w2 hB hF hd
            rw [if_pos (wanted_none rfl)]
            obtain ⟨u, hu, hR⟩ := ((hd 5 _ rfl (waits_spec rfl)).2.1 rfl)
            exact flow_val (fun h => by cases h) (run_extract rfl hu rfl) ⟨trivial, fun h => absurd h (by decide), fun _ => hR, fun h => absurd h (by decide)⟩
          · intro a w2 hB hF hd
            rw [if_pos (wanted_none rfl)]
            obtain ⟨u, hu, hR⟩ := ((hd 5 _ rfl (waits_spec rfl)).2.1 rfl)
            exact flow_val (fun h => by cases h) (run_extract rfl hu rfl) ⟨rfl, fun h => absurd h (by decide), fun h => absurd h (by decide), fun h => absurd h (by decide)⟩
          · intro a w2 hB hF hd
            rw [if_pos (wanted_none rfl)]
            exact flow_move _ (.inr rfl) (by simp) ⟨trivial, fun h => absurd h (by decide), fun h => absurd h (by decide), fun _ => ((hd 6 _ rfl (waits_spec rfl)).2.2.1 rfl)⟩
          · intro a w2 hB hF hd
            rw [if_pos (wanted_none rfl)]
            exact flow_move _ (.inr rfl) (by simp) ⟨((hd 7 _ rfl (waits_spec rfl)).1), fun h => absurd h (by decide), fun h => absurd h (by decide), fun h => absurd h (by decide)⟩
        · intro a w4 hB hF hS
          obtain ⟨x45, hx45⟩ : ∃ x, x = a.tmps.getD 45 undef := ⟨_, rfl⟩
          have P45 : TupR w4 x45 n (hidB key nonce 1 f) := by rw [hx45]; exact (hS 5 _ rfl).2.1 rfl
          obtain ⟨x46, hx46⟩ : ∃ x, x = a.tmps.getD 46 undef := ⟨_, rfl⟩
          have P46 : Rd .u8 w4 x46 n (hidB key nonce 1 f) := by rw [hx46]; exact (hS 6 _ rfl).2.2.1 rfl
          obtain ⟨x8, hx8⟩ : ∃ x, x = a.tmps.getD 8 undef := ⟨_, rfl⟩
          have P8 : Rd .u8 w4 x8 n (hidB key nonce 1 f) := by rw [hx8]; exact (hS 8 _ rfl).2.2.2 rfl
          have ha := puts_each rfl rfl hF [_, _, _, _, _, x45, x46, _, x8, _] rfl ⟨(hS 0 _ rfl).1, (hS 1 _ rfl).1, (hS 2 _ rfl).1, (hS 3 _ rfl).1, (hS 4 _ rfl).1, hx45.symm, hx46.symm, (hS 7 _ rfl).1, hx8.symm, (hS 9 _ rfl).1, trivial⟩
          simp only [puts, Act.put, List.setIfInBounds_toArray, List.set_cons_succ, List.set_cons_zero] at ha
          subst ha
          clear hx45 hx46 hx8
          clear hS hF
          have hb4 := hb3.trans (hB.mono hb3.size)
          have HP := Lib.hid P8
          clear P8 P46 P45
          go_wp2
          go_ret2
          exact ⟨_, rfl, OpR.yes HP.out, hb4⟩

set_option maxRecDepth 100000 in
set_option maxHeartbeats 3200000 in
theorem rAOpen_any (key nonce : Nat → Int) (hk : ∀ i, i < 32 → 0 ≤ key i ∧ key i < 256) (hn : ∀ i, i < 12 → 0 ≤ nonce i ∧ nonce i < 256) (vb v : Value) (nb n : Nat) (fb f : Nat → Int) (w : World)
    (hb : Rd .u8 w vb nb fb) (hv : Rd .u8 w v (n + 16) f) (hfb : ∀ i, i < nb → 0 ≤ fb i ∧ fb i < 256) (hf : ∀ i, i < n + 16 → 0 ≤ f i ∧ f i < 256) (l1 : nb ≤ 400000) (l2 : n ≤ 400000) :
    Calls Try.prog 44 #[.agg (arr .u8 32 key), .agg (arr .u8 12 nonce), vb, v] w fun e w' =>
      ∃ v, e = .returned v ∧ OpR (opensB key nonce nb fb n f) w' v n (hidB key nonce 1 f) ∧ Below w.heap.size w w' := by
  have HK := Lib.hid hk
  have HN := Lib.hid hn
  have HFB := Lib.hid hfb
  have HF := Lib.hid hf
  have HB := Lib.hid hb
  have HV := Lib.hid hv
  obtain ⟨T, hT⟩ : ∃ T, T = aTag key nonce nb fb n f := ⟨_, rfl⟩
  obtain ⟨ok, hok⟩ : ∃ ok, ok = opensB key nonce nb fb n f := ⟨_, rfl⟩
  have HOK : Hid (sameB 16 (dg 256 T) (fun i => f (n + i)) = ok) := by rw [hok, hT]; exact rfl
  rw [← hok]
  have HT := Lib.hid hT
  obtain ⟨N, hNn⟩ : ∃ N, N = n + 16 := ⟨_, rfl⟩
  rw [← hNn] at hv HV HF
  obtain ⟨ab, cb, rfl, b1, b2, b3, b4⟩ := hb
  obtain ⟨a1, c1, rfl, h1, h2, h3, h4⟩ := hv
  have G1 := Lib.hid (Rd.head (P := Try.prog) Try.underlying22 Try.info5 a1 N c1 n (by omega) h1)
  obtain ⟨la, k1, k2, k3⟩ := Rd.cut Try.underlying22 Try.info5 a1 N c1 n N (by omega) (Nat.le_refl _) h1
  rw [show N - n = 16 by omega] at k2 k3
  have K2 := Lib.hid k2
  have K3 := Lib.hid (fun w f h => (k3 w f h).2)
  have q0 : (N : Int) - 16 = (n : Int) := by omega
  have q1 : ¬ (1048576 : Int) < (N : Int) := by omega
  have q2 : ¬ (1048576 : Int) < (nb : Int) := by omega
  have q3 : ¬ ((n : Int) < 0) := by omega
  have HNn := Lib.hid hNn
  clear hk hn hfb hf b3 b4 h3 h4 k1 k2 k3 hT hok hNn
  go_enter Try.func44, Try.ntmps44
  go_upto_region 1 with (fail)
  refine wp_world (fun w1 => Arr .u8 w1 w.heap.size 32 key ∧ Arr .u8 w1 (w.heap.size + 1) 12 nonce ∧ Below w.heap.size w w1 ∧ w1.heap.size = w.heap.size + 2)
    ⟨Arr.alloc (Arr.newAt rfl rfl) _, Arr.newAt (by simp) rfl, ((Below.refl _ _).alloc (Nat.le_refl _) _).alloc (by simp) _, by simp⟩ ?_
  rintro w1 ⟨hA, hN, hbel, hs⟩
  have HB1 := Lib.hid (HB.out.below hbel)
  have HV1 := Lib.hid (HV.out.below hbel)
  clear hs
  go_upto_region 4 with (fail)
  clear q0 q1 q2 q3
  refine region_vars (n := 45) (by kernel_rfl) (by kernel_rfl) (by kernel_rfl) rfl
    (isAl [(8, 7)]) (putOf [(8, 7)]) (fun _ => arr .u8 16 (fun _ => 0)) (fun _ => (arr .u8 16 (dg 256 T))) (fun _ => 70) (fun _ => 11)
    (fun ii vv _ => (match ii with | 0 => vv = .agg (arr .u8 32 (key)) | 1 => vv = .agg (arr .u8 12 (nonce)) | 2 => vv = .slice ab nb cb | 3 => vv = .slice a1 N c1 | 4 => vv = .int .i64 ((n : Int)) | 5 => vv = .slice a1 n c1 | 6 => vv = .agg (arr .u8 16 (dg 256 T)) | _ => True)) (fun _ _ => True) (fun _ _ _ => trivial) (fun _ _ _ _ _ _ _ => trivial) (fun _ _ _ _ h _ => h)
    (vs_al rfl) (vs_inj rfl) ?_ ?_ ?_ ?_
  · refine Each.all ?_
    refine ⟨?_, ?_, ?_, ?_, ?_, ?_, ?_, (fun h => by cases h), (fun _ h => by cases h), trivial⟩
    · intro _ _ a w2 hB hF hd
      rw [if_pos (wanted_none rfl)]
      exact flow_val (fun h => by cases h) (run_load_str rfl Try.underlying26 rfl Try.size26 (hF.same 4 rfl) (hA.below hB hA.lt)) rfl
    · intro _ _ a w2 hB hF hd
      rw [if_pos (wanted_none rfl)]
      exact flow_val (fun h => by cases h) (run_load_str rfl Try.underlying64 rfl Try.size64 (hF.same 5 rfl) (hN.below hB hN.lt)) rfl
    · intro _ _ a w2 hB hF hd
      rw [if_pos (wanted_none rfl)]
      exact flow_move _ (.inl rfl) (by simp) (hF.same 2 rfl)
    · intro _ _ a w2 hB hF hd
      rw [if_pos (wanted_none rfl)]
      exact flow_move _ (.inl rfl) (by simp) (hF.same 3 rfl)
    · intro _ _ a w2 hB hF hd
      rw [if_pos (wanted_none rfl)]
      exact flow_move _ (.inl rfl) (by simp) (hF.same 10 rfl)
    · intro _ _ a w2 hB hF hd
      rw [if_pos (wanted_none rfl)]
      exact flow_val (fun h => by cases h) (run_slice_part rfl (hd 3 _ rfl rfl rfl (waits_spec rfl)) (by simp only [Option.map_some, Option.map_none, show a.eval (Operand.tmp 22) = .int .i64 ((n : Int)) from (hd 4 _ rfl rfl rfl (waits_spec rfl))]; exact G1.out.1 _)) rfl
    · intro _ _ a w2 hB hF hd
      rw [if_pos (wanted_none rfl)]
      refine flow_call _ _ _ rfl Try.call41 _ (args4 (hd 0 _ rfl rfl rfl (waits_spec rfl)) (hd 1 _ rfl rfl rfl (waits_spec rfl)) (hd 2 _ rfl rfl rfl (waits_spec rfl)) (hd 5 _ rfl rfl rfl (waits_spec rfl))) (by simp) (((HT.out ▸ rATag_any key nonce HK.out HN.out _ _ nb n fb f _ (HB1.out.below hB) (G1.out.2 _ _ (HV1.out.below hB)) HFB.out (fun i hi => HF.out i (by have := HNn.out; omega)) l1 l2)).mono ?_)
      rintro e w3 ⟨rfl, hb⟩; exact ⟨_, rfl, rfl, hb⟩
  · refine Each.all ?_
    refine ⟨(fun h => by cases h), (fun h => by cases h), (fun h => by cases h), (fun h => by cases h), (fun h => by cases h), (fun h => by cases h), (fun h => by cases h), ?_, (fun h => by cases h), trivial⟩
    · exact fun _ => ⟨rfl, rfl, fun a w2 K h => flow_alloc rfl rfl Try.zeroValue70 (by simp) h⟩
  · refine Each.all ?_
    refine ⟨(fun _ h => by cases h), (fun _ h => by cases h), (fun _ h => by cases h), (fun _ h => by cases h), (fun _ h => by cases h), (fun _ h => by cases h), (fun _ h => by cases h), (fun _ h => by cases h), ?_, trivial⟩
    · intro p hp
      obtain rfl : 7 = p := Option.some.inj hp
      exact ⟨rfl, rfl, ⟨_, rfl⟩, waits_spec rfl, fun a w2 b K hB hF hd hx hb h => flow_put rfl rfl Try.size70 hx (hd 6 _ rfl rfl rfl (waits_spec rfl)) hb h⟩
  · intro a w2 blk hB hF hS hv hfin hdis
    obtain ⟨v7, v7l, v7u⟩ := hv 7 _ rfl rfl
    have ha := puts_each rfl rfl hF [_, _, _, _, _, _, _, _, undef] rfl ⟨hS 0 _ rfl rfl rfl, hS 1 _ rfl rfl rfl, hS 2 _ rfl rfl rfl, hS 3 _ rfl rfl rfl, hS 4 _ rfl rfl rfl, hS 5 _ rfl rfl rfl, hS 6 _ rfl rfl rfl, v7, trivial, trivial⟩
    have f7 := hfin 8 _ 7 rfl rfl
    simp only [puts, Act.put, List.setIfInBounds_toArray, List.set_cons_succ, List.set_cons_zero] at ha
    subst ha
    have V7 : Arr .u8 w2 (blk 7) 16 (dg 256 T) := ⟨_, f7⟩
    clear hS hv hfin hdis hF v7 f7
    have hA2 := hA.kept hB
    have hN2 := hN.kept hB
    have hb2 := hbel.trans (hB.mono hbel.size)
    have HV2 := Lib.hid (HV1.out.below hB)
    obtain ⟨q, hq⟩ : ∃ q, q = blk 7 := ⟨_, rfl⟩
    rw [← hq] at V7 ⊢
    have HQ := Lib.hid V7
    have HC := Lib.hid (K3.out _ _ HV2.out)
    obtain ⟨_, _, _, _, _, _, hcell⟩ := id HV2.out
    have HCL := Lib.hid hcell
    clear hA hN hbel hB hq HB1 HV1 V7 hcell
    go_wp2
    go_loopw [12] (fun i wr => ∃ k : Nat, k ≤ 16 ∧ i = .int .i64 k ∧ Hid (∀ j, j < k → dg 256 T j = f (n + j)) ∧ Below w2.heap.size w2 wr) (fun i _ => 16 - (intOf i).toNat)
    case atStart => exact ⟨0, Nat.zero_le _, rfl, fun j hj => by omega, Below.refl _ _⟩
    case round =>
      obtain ⟨k, hk, rfl, HEQ, hbw⟩ := hrel
      by_cases hlt : k < 16
      · have HQW := (HQ.out.kept hbw)
        have e1 := HQW.cell k hlt
        obtain ⟨b1', o1, rfl, s1, e2⟩ := HCL.out (by have := HNn.out; omega)
        replace e2 := (hbw.cell s1).trans (e2 (n + k) (by have := HNn.out; omega))
        have j1 : (0 : Int) ≤ (n : Int) + (k : Int) := by omega
        have j2 : (n : Int) + (k : Int) < (N : Int) := by have := HNn.out; omega
        by_cases heq : dg 256 T k = f (n + k)
        · have hne : (dg 256 T k != f (n + k)) = false := by simpa using heq
          have HE := Lib.hid heq
          clear heq
          go_wp2
          go_quiet (fail)
          go_wp2
          go_roundw
          case rel => exact ⟨k + 1, by omega, by go_num, (fun j hj => by
            by_cases e : j = k
            · subst e; exact HE.out
            · exact HEQ.out j (by omega)), below_drewN hbw _⟩
          case measure => simp [intOf] <;> omega
        · have hne : (dg 256 T k != f (n + k)) = true := by simpa using heq
          obtain rfl : ok = false := by rw [← HOK.out]; exact sameB_no fun h => heq (h k hlt)
          have hbf := hb2.trans ((below_drewN hbw 0).mono hb2.size)
          clear heq
          go_wp2
          go_quiet (fail)
          go_wp2
          go_ret2
          exact ⟨_, rfl, OpR.no, hb2.trans ((below_drewN hbw _).mono hb2.size)⟩
      · obtain rfl : k = 16 := by omega
        obtain rfl : ok = true := by rw [← HOK.out]; exact sameB_yes HEQ.out
        have hA3 := hA2.kept hbw
        have hN3 := hN2.kept hbw
        have hb3 := hb2.trans (hbw.mono hb2.size)
        have HV3 := Lib.hid (HV2.out.below hbw)
        clear hA2 hN2 hb2 hbw HV2 HQ HC HCL hlt
        go_upto_region 10 with (fail)
        refine region_flow (n := 45) (by kernel_rfl) (by kernel_rfl) (by kernel_rfl) rfl
          (fun ii vv ww => (match ii with | 0 => vv = .agg (arr .u8 32 (key)) | 1 => vv = .agg (arr .u8 12 (nonce)) | 2 => vv = .slice a1 N c1 | 3 => vv = .int .i64 ((n : Int)) | 4 => vv = .slice a1 n c1 | 7 => vv = .int .i64 (0) | _ => True) ∧ (ii = 5 → Rd .u8 ww vv n (hidB key nonce 1 f)) ∧ (ii = 6 → Rd .u8 ww vv n (hidB key nonce 1 f)))
          (fun w w' => Below w.heap.size w w') (fun _ _ h => h) (fun i v w w' h hE => ⟨h.1, fun e => Rd.below (h.2.1 e) hE, fun e => Rd.below (h.2.2 e) hE⟩) ?_ ?_
        · refine Each.all ?_
          refine ⟨?_, ?_, ?_, ?_, ?_, ?_, ?_, ?_, trivial⟩
          · intro a w2 hB hF hd
            rw [if_pos (wanted_none rfl)]
            exact flow_val (fun h => by cases h) (run_load_str rfl Try.underlying26 rfl Try.size26 (hF.same 4 rfl) (hA3.below hB hA3.lt)) ⟨rfl, fun h => absurd h (by decide), fun h => absurd h (by decide)⟩
          · intro a w2 hB hF hd
            rw [if_pos (wanted_none rfl)]
            exact flow_val (fun h => by cases h) (run_load_str rfl Try.underlying64 rfl Try.size64 (hF.same 5 rfl) (hN3.below hB hN3.lt)) ⟨rfl, fun h => absurd h (by decide), fun h => absurd h (by decide)⟩
          · intro a w2 hB hF hd
            rw [if_pos (wanted_none rfl)]
            exact flow_move _ (.inl rfl) (by simp) ⟨(hF.same 3 rfl), fun h => absurd h (by decide), fun h => absurd h (by decide)⟩
          · intro a w2 hB hF hd
            rw [if_pos (wanted_none rfl)]
            exact flow_move _ (.inl rfl) (by simp) ⟨(hF.same 10 rfl), fun h => absurd h (by decide), fun h => absurd h (by decide)⟩
          · intro a w2 hB hF hd
            rw [if_pos (wanted_none rfl)]
            exact flow_val (fun h => by cases h) (run_slice_part rfl ((hd 2 _ rfl (waits_spec rfl)).1) (by simp only [Option.map_some, Option.map_none, show a.eval (Operand.tmp 42) = .int .i64 ((n : Int)) from ((hd 3 _ rfl (waits_spec rfl)).1)]; exact G1.out.1 _)) ⟨rfl, fun h => absurd h (by decide), fun h => absurd h (by decide)⟩
          · intro a w2 hB hF hd
            rw [if_pos (wanted_none rfl)]
            refine flow_call _ _ _ rfl Try.call65 _ (args4 ((hd 0 _ rfl (waits_spec rfl)).1) ((hd 1 _ rfl (waits_spec rfl)).1) rfl ((hd 4 _ rfl (waits_spec rfl)).1)) (by simp) ((rHide_any key nonce 1 HK.out HN.out (by decide) _ n f _ (G1.out.2 _ _ (HV3.out.below hB)) (by omega) (by omega)).mono ?_)
            rintro e w3 ⟨u, rfl, hr, hb⟩; exact ⟨u, rfl, ⟨trivial, fun _ => hr, fun h => absurd h (by decide)⟩, hb⟩
          · intro a w2 hB hF hd
            rw [if_pos (wanted_none rfl)]
            exact flow_move _ (.inr rfl) (by simp) ⟨trivial, fun h => absurd h (by decide), fun _ => ((hd 5 _ rfl (waits_spec rfl)).2.1 rfl)⟩
          · intro a w2 hB hF hd
            rw [if_pos (wanted_none rfl)]
            exact flow_move _ (.inr rfl) (by simp) ⟨rfl, fun h => absurd h (by decide), fun h => absurd h (by decide)⟩
        · intro a w4 hB hF hS
          obtain ⟨x44, hx44⟩ : ∃ x, x = a.tmps.getD 44 undef := ⟨_, rfl⟩
          have P44 : Rd .u8 w4 x44 n (hidB key nonce 1 f) := by rw [hx44]; exact (hS 5 _ rfl).2.1 rfl
          obtain ⟨x8, hx8⟩ : ∃ x, x = a.tmps.getD 8 undef := ⟨_, rfl⟩
          have P8 : Rd .u8 w4 x8 n (hidB key nonce 1 f) := by rw [hx8]; exact (hS 6 _ rfl).2.2 rfl
          have ha := puts_each rfl rfl hF [_, _, _, _, _, x44, x8, _] rfl ⟨(hS 0 _ rfl).1, (hS 1 _ rfl).1, (hS 2 _ rfl).1, (hS 3 _ rfl).1, (hS 4 _ rfl).1, hx44.symm, hx8.symm, (hS 7 _ rfl).1, trivial⟩
          simp only [puts, Act.put, List.setIfInBounds_toArray, List.set_cons_succ, List.set_cons_zero] at ha
          subst ha
          clear hx44 hx8
          clear hS hF
          have hb4 := hb3.trans (hB.mono hb3.size)
          have HP := Lib.hid P8
          clear P8 P44
          go_wp2
          go_ret2
          exact ⟨_, rfl, OpR.yes HP.out, hb4⟩
end Go.Proofs.Ytgobodhcamgidaa
