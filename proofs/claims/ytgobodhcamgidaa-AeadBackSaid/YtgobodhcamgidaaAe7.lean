/-
  The law AeadOpens answers true: its walk. Conditions: named in each theorem.
-/
import Derived.Test.YtgobodhcamgidaaAe6
set_option linter.unusedVariables false
set_option linter.unusedSimpArgs false
namespace Go.Bas
open Go.RowKit
theorem TupR.eq {w : World} {v : Value} {n : Nat} {f : Nat → Int} (h : TupR w v n f) : ∃ a c, v = .tuple #[.slice a n c, .int .i64 0] ∧ Rd .u8 w (.slice a n c) n f := by
  obtain ⟨u, rfl, h2⟩ := h
  obtain ⟨a, c, rfl, _⟩ := id h2
  exact ⟨a, c, rfl, h2⟩
end Go.Bas
namespace Go.Proofs.Ytgobodhcamgidaa
open Go.RowKit Go.Bas
attribute [local go_sem ↓] Go.wp_at_zero Go.wp_at_succ

set_option maxRecDepth 100000 in
set_option maxHeartbeats 1600000 in
theorem rAOpen_short (key nonce : Nat → Int) (vb v : Value) (nb n : Nat) (fb f : Nat → Int) (w : World) (hb : Rd .u8 w vb nb fb) (hv : Rd .u8 w v n f) (l2 : n < 16) :
    Calls Try.prog 44 #[.agg (arr .u8 32 key), .agg (arr .u8 12 nonce), vb, v] w fun e w' => e = .returned (.tuple #[.slice none 0 0, .int .i64 10]) ∧ Below w.heap.size w w' := by
  obtain ⟨a1, c1, rfl, h1, h2, h3, h4⟩ := hv
  clear h3 h4
  go_enter Try.func44, Try.ntmps44
  go_wp2
  go_ret2
  exact ⟨rfl, ((Below.refl _ _).alloc (Nat.le_refl _) _).alloc (by simp) _⟩

set_option maxRecDepth 100000 in
set_option maxHeartbeats 3200000 in
theorem aeadOpens_law (w : World) (key nonce : Nat → Int) (hk : ∀ i, i < 32 → (Lit.int .u8 (key i)).wf = true) (hn : ∀ i, i < 12 → (Lit.int .u8 (nonce i)).wf = true) (x : Value) (nb : Nat) (fb : Nat → Int) (hb : Rd .u8 w x nb fb) (hfb : ∀ i, i < nb → (Lit.int .u8 (fb i)).wf = true)
    (v : Value) (n : Nat) (f : Nat → Int) (hv : Rd .u8 w v n f) (hf : ∀ i, i < n → (Lit.int .u8 (f i)).wf = true) :
    Calls Try.prog 11 #[.agg (caseS key nonce x), v] w fun e w' => e = .returned (.bool true) ∧ Below w.heap.size w w' := by
  have HK := Lib.hid (byteA key 32 hk)
  have HN := Lib.hid (byteA nonce 12 hn)
  have HFB := Lib.hid (byteA fb nb hfb)
  have HF := Lib.hid (byteA f n hf)
  have HB := Lib.hid hb
  have HV := Lib.hid hv
  obtain ⟨ab, cb, rfl, b1, b2, b3, b4⟩ := hb
  obtain ⟨a1, c1, rfl, h1, h2, h3, h4⟩ := hv
  clear hk hn hfb hf b3 b4 h3 h4
  go_enter Try.func11, Try.ntmps11
  have hA1 : CaseSAt (w.alloc (.cells (caseS key nonce (.slice ab nb cb)) 66)) w.heap.size key nonce (.slice ab nb cb) := CaseSAt.new _ _ _ _ _
  have hb1 : Below w.heap.size w (w.alloc (.cells (caseS key nonce (.slice ab nb cb)) 66)) := (Below.refl _ _).alloc (Nat.le_refl _) _
  go_wp2_with fail
  refine (aAwake_any _).mono ?_
  rintro e w2 ⟨rfl, hb2⟩
  have hA2 := hA1.kept hb2
  have hbel := hb1.trans (hb2.mono hb1.size)
  have ec := hA2.last
  have HB2 := Lib.hid (HB.out.below hbel)
  have HV2 := Lib.hid (HV.out.below hbel)
  clear hA1 hb1 hb2 HB HV
  by_cases hlong : 300 < nb
  · go_wp2
    go_ret
    exact ⟨rfl, hbel⟩
  · by_cases hlong2 : 300 < n
    · go_wp2
      go_ret
      exact ⟨rfl, hbel⟩
    · go_wp2_with (first
        | (refine load_part rfl 26 _ rfl .u8 w.heap.size 0 32 key 5 Try.underlying26 Try.size26 rfl hA2.keyAt ?_)
        | (refine load_part rfl 64 _ rfl .u8 w.heap.size 32 12 nonce 5 Try.underlying64 Try.size64 rfl hA2.nonceAt ?_))
      by_cases hsh : n < 16
      · refine (aOpen_short key nonce _ _ nb n fb f _ HB2.out HV2.out (by omega) hsh).mono ?_
        rintro e w3 ⟨rfl, hb3⟩
        have hA3 := hA2.kept hb3
        have ec3 := hA3.last
        have hbel3 := hbel.trans (hb3.mono hbel.size)
        have HB3 := Lib.hid (HB2.out.below hb3)
        have HV3 := Lib.hid (HV2.out.below hb3)
        clear hA2 hb3 hbel ec
        go_wp2_with (first
          | (refine load_part rfl 26 _ rfl .u8 w.heap.size 0 32 key 5 Try.underlying26 Try.size26 rfl hA3.keyAt ?_)
          | (refine load_part rfl 64 _ rfl .u8 w.heap.size 32 12 nonce 5 Try.underlying64 Try.size64 rfl hA3.nonceAt ?_))
        refine (rAOpen_short key nonce _ _ nb n fb f _ HB3.out HV3.out hsh).mono ?_
        rintro e w4 ⟨rfl, hb4⟩
        have hbel4 := hbel3.trans (hb4.mono hbel3.size)
        clear hA3 hb4 hbel3 ec3
        go_upto_region 7 with (fail)
        refine region_flow (n := 50) (by kernel_rfl) (by kernel_rfl) (by kernel_rfl) rfl
          (fun ii vv _ => (match ii with | 0 | 1 => vv = .int .i64 (10) | 2 | 3 | 6 | 7 | 8 => vv = .bool true | 4 | 5 => vv = .slice none 0 0 | _ => True))
          (fun w w' => Below w.heap.size w w') (fun _ _ h => h) (fun _ _ _ _ h _ => h) ?_ ?_
        · refine Each.all ?_
          refine ⟨?_, ?_, ?_, ?_, ?_, ?_, ?_, ?_, ?_, trivial⟩
          · intro a w2 hB hF hd
            rw [if_pos (wanted_none rfl)]
            exact flow_move _ (.inl rfl) (by simp) (hF.same 6 rfl)
          · intro a w2 hB hF hd
            rw [if_pos (wanted_none rfl)]
            exact flow_move _ (.inl rfl) (by simp) (hF.same 8 rfl)
          · intro a w2 hB hF hd
            rw [if_pos (wanted_none rfl)]
            refine flow_val (fun h => by cases h) (Go.Bas.run_eql_int rfl (hd 0 _ rfl (waits_spec rfl)) (hd 1 _ rfl (waits_spec rfl))) ?_
            exact rfl
          · intro a w2 hB hF hd
            rw [if_pos (wanted_none rfl)]
            exact flow_move _ (.inl rfl) (by simp) (hd 2 _ rfl (waits_spec rfl))
          · intro a w2 hB hF hd
            refine flow_wanted (wanted_yes rfl rfl (hd 3 _ rfl (waits_spec rfl)) rfl) ?_
            exact flow_move _ (.inl rfl) (by simp) (hF.same 5 rfl)
          · intro a w2 hB hF hd
            refine flow_wanted (wanted_yes rfl rfl (hd 3 _ rfl (waits_spec rfl)) rfl) ?_
            exact flow_move _ (.inl rfl) (by simp) (hF.same 7 rfl)
          · intro a w2 hB hF hd
            refine flow_wanted (wanted_yes rfl rfl (hd 3 _ rfl (waits_spec rfl)) rfl) ?_
            refine flow_call _ _ _ rfl Try.call17 _ (args2 (hd 4 _ rfl (waits_spec rfl)) (hd 5 _ rfl (waits_spec rfl))) (by simp) ((same_yes _ _ 0 (fun _ => 0) (fun _ => 0) _ (Rd.nil _ _ _) (Rd.nil _ _ _) (fun _ _ => rfl)).mono ?_)
            rintro e w3 ⟨rfl, hb⟩; exact ⟨_, rfl, rfl, hb⟩
          · intro a w2 hB hF hd
            rw [if_pos (wanted_none rfl)]
            exact flow_val (fun h => by cases h) (run_pick rfl (hd 3 _ rfl (waits_spec rfl))) ((hd 6 _ rfl (waits_spec rfl)))
          · intro a w2 hB hF hd
            rw [if_pos (wanted_none rfl)]
            exact flow_move _ (.inr rfl) (by simp) (hd 7 _ rfl (waits_spec rfl))
        · intro a w5 hB hF hS
          have ha := puts_each rfl rfl hF [_, _, _, _, _, _, _, _, _] rfl ⟨hS 0 _ rfl, hS 1 _ rfl, hS 2 _ rfl, hS 3 _ rfl, hS 4 _ rfl, hS 5 _ rfl, hS 6 _ rfl, hS 7 _ rfl, hS 8 _ rfl, trivial⟩
          simp only [puts, Act.put, List.setIfInBounds_toArray, List.set_cons_succ, List.set_cons_zero] at ha
          subst ha
          clear hS hF
          have hb5 := hbel4.trans (hB.mono hbel4.size)
          go_wp2
          go_ret
          exact ⟨rfl, hb5⟩
      · obtain ⟨k, rfl⟩ : ∃ k, n = k + 16 := ⟨n - 16, by omega⟩
        refine (aOpen_any key nonce HK.out HN.out _ _ nb k fb f _ HB2.out HV2.out HFB.out HF.out (by omega) (by omega)).mono ?_
        rintro e w3 ⟨u, rfl, hr, hb3⟩
        obtain ⟨ok, hok⟩ : ∃ ok, ok = opensB key nonce nb fb k f := ⟨_, rfl⟩
        have HOK := Lib.hid hok
        rw [← hok] at hr
        have hA3 := hA2.kept hb3
        have ec3 := hA3.last
        have hbel3 := hbel.trans (hb3.mono hbel.size)
        have HB3 := Lib.hid (HB2.out.below hb3)
        have HV3 := Lib.hid (HV2.out.below hb3)
        clear hA2 hb3 hbel ec hok
        cases ok with
        | false =>
          obtain rfl := hr.2 rfl
          clear hr
          go_wp2_with (first
            | (refine load_part rfl 26 _ rfl .u8 w.heap.size 0 32 key 5 Try.underlying26 Try.size26 rfl hA3.keyAt ?_)
            | (refine load_part rfl 64 _ rfl .u8 w.heap.size 32 12 nonce 5 Try.underlying64 Try.size64 rfl hA3.nonceAt ?_))
          refine (rAOpen_any key nonce HK.out HN.out _ _ nb k fb f _ HB3.out HV3.out HFB.out HF.out (by omega) (by omega)).mono ?_
          rintro e w4 ⟨u, rfl, hr, hb4⟩
          rw [← HOK.out] at hr
          obtain rfl := hr.2 rfl
          have hbel4 := hbel3.trans (hb4.mono hbel3.size)
          clear hA3 hb4 hbel3 ec3 hr
          go_upto_region 7 with (fail)
          refine region_flow (n := 50) (by kernel_rfl) (by kernel_rfl) (by kernel_rfl) rfl
            (fun ii vv _ => (match ii with | 0 | 1 => vv = .int .i64 (20) | 2 | 3 | 6 | 7 | 8 => vv = .bool true | 4 | 5 => vv = .slice none 0 0 | _ => True))
            (fun w w' => Below w.heap.size w w') (fun _ _ h => h) (fun _ _ _ _ h _ => h) ?_ ?_
          · refine Each.all ?_
            refine ⟨?_, ?_, ?_, ?_, ?_, ?_, ?_, ?_, ?_, trivial⟩
            · intro a w2 hB hF hd
              rw [if_pos (wanted_none rfl)]
              exact flow_move _ (.inl rfl) (by simp) (hF.same 6 rfl)
            · intro a w2 hB hF hd
              rw [if_pos (wanted_none rfl)]
              exact flow_move _ (.inl rfl) (by simp) (hF.same 8 rfl)
            · intro a w2 hB hF hd
              rw [if_pos (wanted_none rfl)]
              refine flow_val (fun h => by cases h) (Go.Bas.run_eql_int rfl (hd 0 _ rfl (waits_spec rfl)) (hd 1 _ rfl (waits_spec rfl))) ?_
              exact rfl
            · intro a w2 hB hF hd
              rw [if_pos (wanted_none rfl)]
              exact flow_move _ (.inl rfl) (by simp) (hd 2 _ rfl (waits_spec rfl))
            · intro a w2 hB hF hd
              refine flow_wanted (wanted_yes rfl rfl (hd 3 _ rfl (waits_spec rfl)) rfl) ?_
              exact flow_move _ (.inl rfl) (by simp) (hF.same 5 rfl)
            · intro a w2 hB hF hd
              refine flow_wanted (wanted_yes rfl rfl (hd 3 _ rfl (waits_spec rfl)) rfl) ?_
              exact flow_move _ (.inl rfl) (by simp) (hF.same 7 rfl)
            · intro a w2 hB hF hd
              refine flow_wanted (wanted_yes rfl rfl (hd 3 _ rfl (waits_spec rfl)) rfl) ?_
              refine flow_call _ _ _ rfl Try.call17 _ (args2 (hd 4 _ rfl (waits_spec rfl)) (hd 5 _ rfl (waits_spec rfl))) (by simp) ((same_yes _ _ 0 (fun _ => 0) (fun _ => 0) _ (Rd.nil _ _ _) (Rd.nil _ _ _) (fun _ _ => rfl)).mono ?_)
              rintro e w3 ⟨rfl, hb⟩; exact ⟨_, rfl, rfl, hb⟩
            · intro a w2 hB hF hd
              rw [if_pos (wanted_none rfl)]
              exact flow_val (fun h => by cases h) (run_pick rfl (hd 3 _ rfl (waits_spec rfl))) ((hd 6 _ rfl (waits_spec rfl)))
            · intro a w2 hB hF hd
              rw [if_pos (wanted_none rfl)]
              exact flow_move _ (.inr rfl) (by simp) (hd 7 _ rfl (waits_spec rfl))
          · intro a w5 hB hF hS
            have ha := puts_each rfl rfl hF [_, _, _, _, _, _, _, _, _] rfl ⟨hS 0 _ rfl, hS 1 _ rfl, hS 2 _ rfl, hS 3 _ rfl, hS 4 _ rfl, hS 5 _ rfl, hS 6 _ rfl, hS 7 _ rfl, hS 8 _ rfl, trivial⟩
            simp only [puts, Act.put, List.setIfInBounds_toArray, List.set_cons_succ, List.set_cons_zero] at ha
            subst ha
            clear hS hF
            have hb5 := hbel4.trans (hB.mono hbel4.size)
            go_wp2
            go_ret
            exact ⟨rfl, hb5⟩
        | true =>
          obtain ⟨xa, xc, rfl, hx⟩ := (hr.1 rfl).eq
          have HX := Lib.hid hx
          clear hr hx
          go_wp2_with (first
            | (refine load_part rfl 26 _ rfl .u8 w.heap.size 0 32 key 5 Try.underlying26 Try.size26 rfl hA3.keyAt ?_)
            | (refine load_part rfl 64 _ rfl .u8 w.heap.size 32 12 nonce 5 Try.underlying64 Try.size64 rfl hA3.nonceAt ?_))
          refine (rAOpen_any key nonce HK.out HN.out _ _ nb k fb f _ HB3.out HV3.out HFB.out HF.out (by omega) (by omega)).mono ?_
          rintro e w4 ⟨u, rfl, hr, hb4⟩
          rw [← HOK.out] at hr
          obtain ⟨ya, yc, rfl, hy⟩ := (hr.1 rfl).eq
          have HY := Lib.hid hy
          have HX4 := Lib.hid (HX.out.below hb4)
          have hbel4 := hbel3.trans (hb4.mono hbel3.size)
          clear hA3 hb4 hbel3 ec3 hr hy HX
          go_upto_region 7 with (fail)
          refine region_flow (n := 50) (by kernel_rfl) (by kernel_rfl) (by kernel_rfl) rfl
            (fun ii vv _ => (match ii with | 0 | 1 => vv = .int .i64 (0) | 2 | 3 | 6 | 7 | 8 => vv = .bool true | 4 => vv = .slice xa k xc | 5 => vv = .slice ya k yc | _ => True))
            (fun w w' => Below w.heap.size w w') (fun _ _ h => h) (fun _ _ _ _ h _ => h) ?_ ?_
          · refine Each.all ?_
            refine ⟨?_, ?_, ?_, ?_, ?_, ?_, ?_, ?_, ?_, trivial⟩
            · intro a w2 hB hF hd
              rw [if_pos (wanted_none rfl)]
              exact flow_move _ (.inl rfl) (by simp) (hF.same 6 rfl)
            · intro a w2 hB hF hd
              rw [if_pos (wanted_none rfl)]
              exact flow_move _ (.inl rfl) (by simp) (hF.same 8 rfl)
            · intro a w2 hB hF hd
              rw [if_pos (wanted_none rfl)]
              refine flow_val (fun h => by cases h) (Go.Bas.run_eql_int rfl (hd 0 _ rfl (waits_spec rfl)) (hd 1 _ rfl (waits_spec rfl))) ?_
              exact rfl
            · intro a w2 hB hF hd
              rw [if_pos (wanted_none rfl)]
              exact flow_move _ (.inl rfl) (by simp) (hd 2 _ rfl (waits_spec rfl))
            · intro a w2 hB hF hd
              refine flow_wanted (wanted_yes rfl rfl (hd 3 _ rfl (waits_spec rfl)) rfl) ?_
              exact flow_move _ (.inl rfl) (by simp) (hF.same 5 rfl)
            · intro a w2 hB hF hd
              refine flow_wanted (wanted_yes rfl rfl (hd 3 _ rfl (waits_spec rfl)) rfl) ?_
              exact flow_move _ (.inl rfl) (by simp) (hF.same 7 rfl)
            · intro a w2 hB hF hd
              refine flow_wanted (wanted_yes rfl rfl (hd 3 _ rfl (waits_spec rfl)) rfl) ?_
              refine flow_call _ _ _ rfl Try.call17 _ (args2 (hd 4 _ rfl (waits_spec rfl)) (hd 5 _ rfl (waits_spec rfl))) (by simp) ((same_yes _ _ k _ _ _ (HX4.out.below hB) (HY.out.below hB) (fun _ _ => rfl)).mono ?_)
              rintro e w3 ⟨rfl, hb⟩; exact ⟨_, rfl, rfl, hb⟩
            · intro a w2 hB hF hd
              rw [if_pos (wanted_none rfl)]
              exact flow_val (fun h => by cases h) (run_pick rfl (hd 3 _ rfl (waits_spec rfl))) ((hd 6 _ rfl (waits_spec rfl)))
            · intro a w2 hB hF hd
              rw [if_pos (wanted_none rfl)]
              exact flow_move _ (.inr rfl) (by simp) (hd 7 _ rfl (waits_spec rfl))
          · intro a w5 hB hF hS
            have ha := puts_each rfl rfl hF [_, _, _, _, _, _, _, _, _] rfl ⟨hS 0 _ rfl, hS 1 _ rfl, hS 2 _ rfl, hS 3 _ rfl, hS 4 _ rfl, hS 5 _ rfl, hS 6 _ rfl, hS 7 _ rfl, hS 8 _ rfl, trivial⟩
            simp only [puts, Act.put, List.setIfInBounds_toArray, List.set_cons_succ, List.set_cons_zero] at ha
            subst ha
            clear hS hF
            have hb5 := hbel4.trans (hB.mono hbel4.size)
            go_wp2
            go_ret
            exact ⟨rfl, hb5⟩
end Go.Proofs.Ytgobodhcamgidaa
