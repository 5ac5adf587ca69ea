/-
  The law AeadBack answers true: its walk. Conditions: named in each theorem.
-/
import Derived.Test.YtgobodhcamgidaaAe7
set_option linter.unusedVariables false
set_option linter.unusedSimpArgs false
namespace Go.Bas
open Go.RowKit
theorem xo_back (s : Int) {f : Int} (h : 0 ≤ f ∧ f < 256) : xo s (xo s f) = f := by
  obtain ⟨h0, h1⟩ := h
  have e : ∀ a b : Int, xo a b = ((BitVec.ofInt 8 a ^^^ BitVec.ofInt 8 b).toNat : Int) := fun a b => by
    unfold xo
    show IntKind.u8.wrap (((BitVec.ofInt 8 a ^^^ BitVec.ofInt 8 b).toNat : Nat) : Int) = _
    have := (BitVec.ofInt 8 a ^^^ BitVec.ofInt 8 b).isLt
    rw [IntKind.wrap_u8]; omega
  rw [e, e, BitVec.ofInt_natCast, BitVec.ofNat_toNat, BitVec.setWidth_eq, ← BitVec.xor_assoc, BitVec.xor_self, BitVec.zero_xor, BitVec.toNat_ofInt]
  omega
theorem sealF_bound (key nonce : Nat → Int) (nb : Nat) (fb : Nat → Int) (n : Nat) (f : Nat → Int) (i : Nat) : 0 ≤ sealF key nonce nb fb n f i ∧ sealF key nonce nb fb n f i < 256 := by
  unfold sealF
  split
  · exact hidB_bound _ _ _ _ _
  · exact dg_bound (by decide) _ _
theorem opens_seal {key nonce : Nat → Int} {nb : Nat} {fb : Nat → Int} {n : Nat} {f : Nat → Int} : opensB key nonce nb fb n (sealF key nonce nb fb n f) = true := by
  unfold opensB
  refine sameB_yes fun i hi => ?_
  rw [sealF_hi, aTag_congr (fun _ _ => rfl) (fun i hi => sealF_lo hi)]
theorem open_seal {key nonce : Nat → Int} {nb : Nat} {fb : Nat → Int} {n : Nat} {f : Nat → Int} (hf : ∀ i, i < n → 0 ≤ f i ∧ f i < 256) : ∀ i, i < n → hidB key nonce 1 (sealF key nonce nb fb n f) i = f i := fun i hi => by
  show xo _ (sealF key nonce nb fb n f i) = f i
  rw [sealF_lo hi]
  exact xo_back _ (hf i hi)
theorem seal_open {key nonce : Nat → Int} {nb : Nat} {fb : Nat → Int} {k : Nat} {g : Nat → Int} (hg : ∀ i, i < k + 16 → 0 ≤ g i ∧ g i < 256) (h : opensB key nonce nb fb k g = true) : ∀ i, i < k + 16 → sealF key nonce nb fb k (hidB key nonce 1 g) i = g i := by
  have hh : ∀ i, i < k → hidB key nonce 1 (hidB key nonce 1 g) i = g i := fun i hi => xo_back _ (hg i (by omega))
  have h' := of_decide_eq_true h
  intro i hi
  by_cases hk : i < k
  · rw [sealF_lo hk, hh i hk]
  · obtain ⟨j, rfl⟩ : ∃ j, i = k + j := ⟨i - k, by omega⟩
    rw [sealF_hi, aTag_congr (fun _ _ => rfl) hh]
    exact h' j (by omega)
/-- are two slices' contents the same? -/
def sameQ (n : Nat) (f : Nat → Int) (m : Nat) (g : Nat → Int) : Bool := decide (n = m) && sameB n f g
theorem run_neq_bool {P : Program} {a : Act} {w : World} {o : Oper} {T U : TypeId} {x y : Operand} {p q : Bool} (ho : o.op = .binOp .neq T x y U) (hx : a.eval x = .bool p) (hy : a.eval y = .bool q) (hu : P.underlying T = some .bool) : (execOp a.eval o).run P w = .ok (.value (.bool (!(p == q)))) w := by
  unfold execOp
  simp only [ho, hx, hy]
  have h1 : (eqGuard .neq T x y (.bool p) (.bool q)).run P w = .ok () w := by simp [eqGuard]
  have h2 : (Op.equal T (.bool p) (.bool q)).run P w = .ok (p == q) w := run_equalIn_bool' w 9999 T p q hu
  simp only [Sem.run_bind, h1, h2, Result.andThen_ok, binOp, Sem.run_pure]
end Go.Bas
namespace Go.Proofs.Ytgobodhcamgidaa
open Go.RowKit Go.Bas
attribute [local go_sem ↓] Go.wp_at_zero Go.wp_at_succ
theorem same_q (va vb : Value) (n m : Nat) (f g : Nat → Int) (w : World) (ha : Rd .u8 w va n f) (hb : Rd .u8 w vb m g) :
    Calls Try.prog 17 #[va, vb] w fun e w' => e = .returned (.bool (sameQ n f m g)) ∧ Below w.heap.size w w' := by
  unfold sameQ
  by_cases h : n = m
  · subst h
    rw [decide_eq_true rfl, Bool.true_and]
    by_cases hq : ∀ i, i < n → f i = g i
    · rw [sameB_yes hq]; exact same_yes va vb n f g w ha hb hq
    · rw [sameB_no hq]
      obtain ⟨j, hj⟩ := Classical.not_forall.1 hq
      obtain ⟨h1, h2⟩ := Classical.not_imp.1 hj
      exact same_no va vb n f g w ha hb j h1 h2
  · rw [decide_eq_false h, Bool.false_and]; exact same_len va vb n m f g w ha hb h
theorem aEqual_q (va vb : Value) (n m : Nat) (f g : Nat → Int) (w : World) (ha : Rd .u8 w va n f) (hb : Rd .u8 w vb m g) (hf : ∀ i, i < n → 0 ≤ f i ∧ f i < 256) (hg : ∀ i, i < m → 0 ≤ g i ∧ g i < 256) :
    Calls Try.prog 45 #[va, vb] w fun e w' => e = .returned (.bool (sameQ n f m g)) ∧ Below w.heap.size w w' := by
  unfold sameQ
  by_cases h : n = m
  · subst h
    rw [decide_eq_true rfl, Bool.true_and]
    exact aEqual_any va vb n f g w ha hb hf hg
  · rw [decide_eq_false h, Bool.false_and]; exact aEqual_len va vb n m f g w ha hb h

set_option maxRecDepth 100000 in
set_option maxHeartbeats 3200000 in
theorem aeadBack_law (w : World) (key nonce : Nat → Int) (hk : ∀ i, i < 32 → (Lit.int .u8 (key i)).wf = true) (hn : ∀ i, i < 12 → (Lit.int .u8 (nonce i)).wf = true) (x : Value) (nb : Nat) (fb : Nat → Int) (hb : Rd .u8 w x nb fb) (hfb : ∀ i, i < nb → (Lit.int .u8 (fb i)).wf = true)
    (v : Value) (n : Nat) (f : Nat → Int) (hv : Rd .u8 w v n f) (hf : ∀ i, i < n → (Lit.int .u8 (f i)).wf = true) (v' : Value) (m : Nat) (g : Nat → Int) (hv' : Rd .u8 w v' m g) (hg : ∀ i, i < m → (Lit.int .u8 (g i)).wf = true) :
    Calls Try.prog 12 #[.agg (caseS key nonce x), v, v'] w fun e w' => e = .returned (.bool true) ∧ Below w.heap.size w w' := by
  have HK := Lib.hid (byteA key 32 hk)
  have HN := Lib.hid (byteA nonce 12 hn)
  have HFB := Lib.hid (byteA fb nb hfb)
  have HF := Lib.hid (byteA f n hf)
  have HB := Lib.hid hb
  have HV := Lib.hid hv
  have HG := Lib.hid (byteA g m hg)
  have HS := Lib.hid hv'
  obtain ⟨ab, cb, rfl, b1, b2, b3, b4⟩ := hb
  obtain ⟨a1, c1, rfl, h1, h2, h3, h4⟩ := hv
  obtain ⟨a2, c2, rfl, p1, p2, p3, p4⟩ := hv'
  clear hk hn hfb hf hg p3 p4 b3 b4 h3 h4
  go_enter Try.func12, Try.ntmps12
  have hA1 : CaseSAt (w.alloc (.cells (caseS key nonce (.slice ab nb cb)) 66)) w.heap.size key nonce (.slice ab nb cb) := CaseSAt.new _ _ _ _ _
  have hb1 : Below w.heap.size w (w.alloc (.cells (caseS key nonce (.slice ab nb cb)) 66)) := (Below.refl _ _).alloc (Nat.le_refl _) _
  go_wp2_with fail
  refine (aAwake_any _).mono ?_
  rintro e w2 ⟨rfl, hb2⟩
  have hA2 := hA1.kept hb2
  have hbel := hb1.trans (hb2.mono hb1.size)
  have ec := hA2.last
  have HB2 := Lib.hid (HB.out.below hbel)
  have HV2 := Lib.hid (HV.out.below hbel)
  have HS2 := Lib.hid (HS.out.below hbel)
  clear hA1 hb1 hb2 HB HV HS
  by_cases hlong : 300 < nb
  · go_wp2
    go_ret
    exact ⟨rfl, hbel⟩
  · by_cases hlong2 : 300 < n
    · go_wp2
      go_ret
      exact ⟨rfl, hbel⟩
    · by_cases hlong3 : 300 < m
      · go_wp2
        go_ret
        exact ⟨rfl, hbel⟩
      · go_wp2_with (first
          | (refine load_part rfl 26 _ rfl .u8 w.heap.size 0 32 key 5 Try.underlying26 Try.size26 rfl hA2.keyAt ?_)
          | (refine load_part rfl 64 _ rfl .u8 w.heap.size 32 12 nonce 5 Try.underlying64 Try.size64 rfl hA2.nonceAt ?_))
        refine (aSeal_any key nonce HK.out HN.out _ _ nb n fb f _ HB2.out HV2.out HFB.out (by omega) (by omega)).mono ?_
        rintro e w3 ⟨u, rfl, hO, hb3⟩
        have hR := hO.rd
        obtain ⟨ua, uc, rfl, _⟩ := id hR
        have HU := Lib.hid hR
        have hA3 := hA2.kept hb3
        have ec3 := hA3.last
        have hbel3 := hbel.trans (hb3.mono hbel.size)
        have HB3 := Lib.hid (HB2.out.below hb3)
        have HV3 := Lib.hid (HV2.out.below hb3)
        have HS3 := Lib.hid (HS2.out.below hb3)
        clear hA2 hb3 hbel ec hO hR HB2 HV2 HS2
        go_wp2_with (first
          | (refine load_part rfl 26 _ rfl .u8 w.heap.size 0 32 key 5 Try.underlying26 Try.size26 rfl hA3.keyAt ?_)
          | (refine load_part rfl 64 _ rfl .u8 w.heap.size 32 12 nonce 5 Try.underlying64 Try.size64 rfl hA3.nonceAt ?_))
        refine (aOpen_any key nonce HK.out HN.out _ _ nb n fb (sealF key nonce nb fb n f) _ HB3.out HU.out HFB.out (fun i _ => sealF_bound _ _ _ _ _ _ _) (by omega) (by omega)).mono ?_
        rintro e w4 ⟨u, rfl, hr, hb4⟩
        rw [opens_seal] at hr
        obtain ⟨xa, xc, rfl, hx⟩ := (hr.1 rfl).eq
        have HX := Lib.hid (hx.congr (g := f) (open_seal HF.out))
        have hA4 := hA3.kept hb4
        have ec4 := hA4.last
        have hbel4 := hbel3.trans (hb4.mono hbel3.size)
        have HB4 := Lib.hid (HB3.out.below hb4)
        have HV4 := Lib.hid (HV3.out.below hb4)
        have HS4 := Lib.hid (HS3.out.below hb4)
        have HU4 := Lib.hid (HU.out.below hb4)
        clear hA3 hb4 hbel3 ec3 hr hx HB3 HV3 HS3 HU
        obtain ⟨q, hq⟩ : ∃ q, q = sameQ n f m g := ⟨_, rfl⟩
        have HQ := Lib.hid hq
        clear hq
        go_upto_region 7 with (fail)
        refine region_flow (n := 114) (by kernel_rfl) (by kernel_rfl) (by kernel_rfl) rfl
          (fun ii vv _ => (match ii with | 0 | 3 => vv = .int .i64 (0) | 1 | 2 | 4 | 5 | 6 | 10 | 11 | 12 | 19 | 20 | 21 | 25 | 26 => vv = .bool false | 7 => vv = .slice xa n xc | 8 | 13 | 16 => vv = .slice a1 n c1 | 9 | 24 => vv = .bool true | 14 | 17 => vv = .slice a2 m c2 | 15 | 18 => vv = .bool q | 22 | 23 => vv = .slice ua (n + 16) uc | _ => True))
          (fun w w' => Below w.heap.size w w') (fun _ _ h => h) (fun _ _ _ _ h _ => h) ?_ ?_
        · refine Each.all ?_
          refine ⟨?_, ?_, ?_, ?_, ?_, ?_, ?_, ?_, ?_, ?_, ?_, ?_, ?_, ?_, ?_, ?_, ?_, ?_, ?_, ?_, ?_, ?_, ?_, ?_, ?_, ?_, ?_, trivial⟩
          · intro a w2 hB hF hd
            rw [if_pos (wanted_none rfl)]
            exact flow_move _ (.inl rfl) (by simp) (hF.same 8 rfl)
          · intro a w2 hB hF hd
            rw [if_pos (wanted_none rfl)]
            exact flow_val (fun h => by cases h) (Go.Bas.run_neq_int rfl (hd 0 _ rfl (waits_spec rfl)) rfl) (congrArg Value.bool (rfl))
          · intro a w2 hB hF hd
            rw [if_pos (wanted_none rfl)]
            exact flow_move _ (.inl rfl) (by simp) (hd 1 _ rfl (waits_spec rfl))
          · intro a w2 hB hF hd
            refine flow_wanted (wanted_yes rfl rfl (hd 2 _ rfl (waits_spec rfl)) rfl) ?_
            exact flow_move _ (.inl rfl) (by simp) (hF.same 10 rfl)
          · intro a w2 hB hF hd
            refine flow_wanted (wanted_yes rfl rfl (hd 2 _ rfl (waits_spec rfl)) rfl) ?_
            exact flow_val (fun h => by cases h) (Go.Bas.run_neq_int rfl (hd 3 _ rfl (waits_spec rfl)) rfl) (congrArg Value.bool (rfl))
          · intro a w2 hB hF hd
            rw [if_pos (wanted_none rfl)]
            exact flow_val (fun h => by cases h) (run_pick rfl (hd 2 _ rfl (waits_spec rfl))) ((hd 4 _ rfl (waits_spec rfl)))
          · intro a w2 hB hF hd
            rw [if_pos (wanted_none rfl)]
            exact flow_move _ (.inl rfl) (by simp) (hd 5 _ rfl (waits_spec rfl))
          · intro a w2 hB hF hd
            refine flow_wanted (wanted_yes rfl rfl (hd 6 _ rfl (waits_spec rfl)) rfl) ?_
            exact flow_move _ (.inl rfl) (by simp) (hF.same 9 rfl)
          · intro a w2 hB hF hd
            refine flow_wanted (wanted_yes rfl rfl (hd 6 _ rfl (waits_spec rfl)) rfl) ?_
            exact flow_move _ (.inl rfl) (by simp) (hF.same 1 rfl)
          · intro a w2 hB hF hd
            refine flow_wanted (wanted_yes rfl rfl (hd 6 _ rfl (waits_spec rfl)) rfl) ?_
            refine flow_call _ _ _ rfl Try.call17 _ (args2 (hd 7 _ rfl (waits_spec rfl)) (hd 8 _ rfl (waits_spec rfl))) (by simp) ((same_yes _ _ n _ _ _ (HX.out.below hB) (HV4.out.below hB) (fun _ _ => rfl)).mono ?_)
            rintro e w3 ⟨rfl, hb⟩; exact ⟨_, rfl, rfl, hb⟩
          · intro a w2 hB hF hd
            refine flow_wanted (wanted_yes rfl rfl (hd 6 _ rfl (waits_spec rfl)) rfl) ?_
            exact flow_val (fun h => by cases h) (run_not rfl (hd 9 _ rfl (waits_spec rfl))) rfl
          · intro a w2 hB hF hd
            rw [if_pos (wanted_none rfl)]
            exact flow_val (fun h => by cases h) (run_pick rfl (hd 6 _ rfl (waits_spec rfl))) ((hd 10 _ rfl (waits_spec rfl)))
          · intro a w2 hB hF hd
            rw [if_pos (wanted_none rfl)]
            exact flow_move _ (.inl rfl) (by simp) (hd 11 _ rfl (waits_spec rfl))
          · intro a w2 hB hF hd
            refine flow_wanted (wanted_yes rfl rfl (hd 12 _ rfl (waits_spec rfl)) rfl) ?_
            exact flow_move _ (.inl rfl) (by simp) (hF.same 1 rfl)
          · intro a w2 hB hF hd
            refine flow_wanted (wanted_yes rfl rfl (hd 12 _ rfl (waits_spec rfl)) rfl) ?_
            exact flow_move _ (.inl rfl) (by simp) (hF.same 2 rfl)
          · intro a w2 hB hF hd
            refine flow_wanted (wanted_yes rfl rfl (hd 12 _ rfl (waits_spec rfl)) rfl) ?_
            refine flow_call _ _ _ rfl Try.call45 _ (args2 (hd 13 _ rfl (waits_spec rfl)) (hd 14 _ rfl (waits_spec rfl))) (by simp) (((HQ.out ▸ aEqual_q _ _ n m f g _ (HV4.out.below hB) (HS4.out.below hB) HF.out HG.out)).mono ?_)
            rintro e w3 ⟨rfl, hb⟩; exact ⟨_, rfl, rfl, hb⟩
          · intro a w2 hB hF hd
            refine flow_wanted (wanted_yes rfl rfl (hd 12 _ rfl (waits_spec rfl)) rfl) ?_
            exact flow_move _ (.inl rfl) (by simp) (hF.same 1 rfl)
          · intro a w2 hB hF hd
            refine flow_wanted (wanted_yes rfl rfl (hd 12 _ rfl (waits_spec rfl)) rfl) ?_
            exact flow_move _ (.inl rfl) (by simp) (hF.same 2 rfl)
          · intro a w2 hB hF hd
            refine flow_wanted (wanted_yes rfl rfl (hd 12 _ rfl (waits_spec rfl)) rfl) ?_
            refine flow_call _ _ _ rfl Try.call17 _ (args2 (hd 16 _ rfl (waits_spec rfl)) (hd 17 _ rfl (waits_spec rfl))) (by simp) (((HQ.out ▸ same_q _ _ n m f g _ (HV4.out.below hB) (HS4.out.below hB))).mono ?_)
            rintro e w3 ⟨rfl, hb⟩; exact ⟨_, rfl, rfl, hb⟩
          · intro a w2 hB hF hd
            refine flow_wanted (wanted_yes rfl rfl (hd 12 _ rfl (waits_spec rfl)) rfl) ?_
            exact flow_val (fun h => by cases h) (Go.Bas.run_neq_bool rfl (hd 15 _ rfl (waits_spec rfl)) (hd 18 _ rfl (waits_spec rfl)) Try.underlying4) (congrArg Value.bool (by cases q <;> rfl))
          · intro a w2 hB hF hd
            rw [if_pos (wanted_none rfl)]
            exact flow_val (fun h => by cases h) (run_pick rfl (hd 12 _ rfl (waits_spec rfl))) ((hd 19 _ rfl (waits_spec rfl)))
          · intro a w2 hB hF hd
            rw [if_pos (wanted_none rfl)]
            exact flow_move _ (.inl rfl) (by simp) (hd 20 _ rfl (waits_spec rfl))
          · intro a w2 hB hF hd
            refine flow_wanted (wanted_yes rfl rfl (hd 21 _ rfl (waits_spec rfl)) rfl) ?_
            exact flow_move _ (.inl rfl) (by simp) (hF.same 7 rfl)
          · intro a w2 hB hF hd
            refine flow_wanted (wanted_yes rfl rfl (hd 21 _ rfl (waits_spec rfl)) rfl) ?_
            exact flow_move _ (.inl rfl) (by simp) (hF.same 7 rfl)
          · intro a w2 hB hF hd
            refine flow_wanted (wanted_yes rfl rfl (hd 21 _ rfl (waits_spec rfl)) rfl) ?_
            refine flow_call _ _ _ rfl Try.call45 _ (args2 (hd 22 _ rfl (waits_spec rfl)) (hd 23 _ rfl (waits_spec rfl))) (by simp) ((((sameB_self (n := n + 16) (f := sealF key nonce nb fb n f)) ▸ aEqual_any _ _ (n + 16) _ (sealF key nonce nb fb n f) _ (HU4.out.below hB) (HU4.out.below hB) (fun i _ => sealF_bound _ _ _ _ _ _ _) (fun i _ => sealF_bound _ _ _ _ _ _ _))).mono ?_)
            rintro e w3 ⟨rfl, hb⟩; exact ⟨_, rfl, rfl, hb⟩
          · intro a w2 hB hF hd
            refine flow_wanted (wanted_yes rfl rfl (hd 21 _ rfl (waits_spec rfl)) rfl) ?_
            exact flow_val (fun h => by cases h) (run_not rfl (hd 24 _ rfl (waits_spec rfl))) rfl
          · intro a w2 hB hF hd
            rw [if_pos (wanted_none rfl)]
            exact flow_val (fun h => by cases h) (run_pick rfl (hd 21 _ rfl (waits_spec rfl))) ((hd 25 _ rfl (waits_spec rfl)))
        · intro a w5 hB hF hS
          have ha := puts_each rfl rfl hF [_, _, _, _, _, _, _, _, _, _, _, _, _, _, _, _, _, _, _, _, _, _, _, _, _, _, _] rfl ⟨hS 0 _ rfl, hS 1 _ rfl, hS 2 _ rfl, hS 3 _ rfl, hS 4 _ rfl, hS 5 _ rfl, hS 6 _ rfl, hS 7 _ rfl, hS 8 _ rfl, hS 9 _ rfl, hS 10 _ rfl, hS 11 _ rfl, hS 12 _ rfl, hS 13 _ rfl, hS 14 _ rfl, hS 15 _ rfl, hS 16 _ rfl, hS 17 _ rfl, hS 18 _ rfl, hS 19 _ rfl, hS 20 _ rfl, hS 21 _ rfl, hS 22 _ rfl, hS 23 _ rfl, hS 24 _ rfl, hS 25 _ rfl, hS 26 _ rfl, trivial⟩
          simp only [puts, Act.put, List.setIfInBounds_toArray, List.set_cons_succ, List.set_cons_zero] at ha
          subst ha
          clear hS hF
          have hA5 := hA4.kept hB
          have ec5 := hA5.last
          have hbel5 := hbel4.trans (hB.mono hbel4.size)
          have HB5 := Lib.hid (HB4.out.below hB)
          have HS5 := Lib.hid (HS4.out.below hB)
          clear hA4 ec4 hbel4 hB HB4 HV4 HS4 HU4 HX HQ
          go_wp2_with (first
            | (refine load_part rfl 26 _ rfl .u8 w.heap.size 0 32 key 5 Try.underlying26 Try.size26 rfl hA5.keyAt ?_)
            | (refine load_part rfl 64 _ rfl .u8 w.heap.size 32 12 nonce 5 Try.underlying64 Try.size64 rfl hA5.nonceAt ?_))
          by_cases hsh : m < 16
          · refine (aOpen_short key nonce _ _ nb m fb g _ HB5.out HS5.out (by omega) hsh).mono ?_
            rintro e w6 ⟨rfl, hb6⟩
            have hbel6 := hbel5.trans (hb6.mono hbel5.size)
            clear hA5 ec5 hb6 hbel5
            go_wp2
            go_ret
            exact ⟨rfl, hbel6⟩
          · obtain ⟨k, rfl⟩ : ∃ k, m = k + 16 := ⟨m - 16, by omega⟩
            refine (aOpen_any key nonce HK.out HN.out _ _ nb k fb g _ HB5.out HS5.out HFB.out HG.out (by omega) (by omega)).mono ?_
            rintro e w6 ⟨u, rfl, hr, hb6⟩
            obtain ⟨ok, hok⟩ : ∃ ok, ok = opensB key nonce nb fb k g := ⟨_, rfl⟩
            have HOK := Lib.hid hok
            rw [← hok] at hr
            have hA6 := hA5.kept hb6
            have ec6 := hA6.last
            have hbel6 := hbel5.trans (hb6.mono hbel5.size)
            have HB6 := Lib.hid (HB5.out.below hb6)
            have HS6 := Lib.hid (HS5.out.below hb6)
            clear hA5 ec5 hb6 hbel5 hok HB5 HS5
            cases ok with
            | false =>
              obtain rfl := hr.2 rfl
              clear hr
              go_wp2
              go_ret
              exact ⟨rfl, hbel6⟩
            | true =>
              obtain ⟨ya, yc, rfl, hy⟩ := (hr.1 rfl).eq
              have HY := Lib.hid hy
              have HSS := Lib.hid (seal_open HG.out HOK.out.symm)
              clear hr hy
              go_wp2_with (first
                | (refine load_part rfl 26 _ rfl .u8 w.heap.size 0 32 key 5 Try.underlying26 Try.size26 rfl hA6.keyAt ?_)
                | (refine load_part rfl 64 _ rfl .u8 w.heap.size 32 12 nonce 5 Try.underlying64 Try.size64 rfl hA6.nonceAt ?_))
              refine (aSeal_any key nonce HK.out HN.out _ _ nb k fb (hidB key nonce 1 g) _ HB6.out HY.out HFB.out (by omega) (by omega)).mono ?_
              rintro e w7 ⟨u, rfl, hO, hb7⟩
              have hR := hO.rd
              obtain ⟨za, zc, rfl, _⟩ := id hR
              have HZ := Lib.hid hR
              have hbel7 := hbel6.trans (hb7.mono hbel6.size)
              have HS7 := Lib.hid (HS6.out.below hb7)
              clear hA6 hb7 hbel6 ec6 hO hR HS6
              go_upto_region 13 with (fail)
              refine region_flow (n := 114) (by kernel_rfl) (by kernel_rfl) (by kernel_rfl) rfl
                (fun ii vv _ => (match ii with | 0 => vv = .int .i64 (0) | 1 | 2 | 5 | 6 | 7 => vv = .bool true | 3 => vv = .slice za (k + 16) zc | 4 => vv = .slice a2 (k + 16) c2 | _ => True))
                (fun w w' => Below w.heap.size w w') (fun _ _ h => h) (fun _ _ _ _ h _ => h) ?_ ?_
              · refine Each.all ?_
                refine ⟨?_, ?_, ?_, ?_, ?_, ?_, ?_, ?_, trivial⟩
                · intro a w2 hB hF hd
                  rw [if_pos (wanted_none rfl)]
                  exact flow_move _ (.inl rfl) (by simp) (hF.same 14 rfl)
                · intro a w2 hB hF hd
                  rw [if_pos (wanted_none rfl)]
                  refine flow_val (fun h => by cases h) (Go.Bas.run_eql_int rfl (hd 0 _ rfl (waits_spec rfl)) rfl) ?_
                  exact rfl
                · intro a w2 hB hF hd
                  rw [if_pos (wanted_none rfl)]
                  exact flow_move _ (.inl rfl) (by simp) (hd 1 _ rfl (waits_spec rfl))
                · intro a w2 hB hF hd
                  refine flow_wanted (wanted_yes rfl rfl (hd 2 _ rfl (waits_spec rfl)) rfl) ?_
                  exact flow_move _ (.inl rfl) (by simp) (hF.same 13 rfl)
                · intro a w2 hB hF hd
                  refine flow_wanted (wanted_yes rfl rfl (hd 2 _ rfl (waits_spec rfl)) rfl) ?_
                  exact flow_move _ (.inl rfl) (by simp) (hF.same 2 rfl)
                · intro a w2 hB hF hd
                  refine flow_wanted (wanted_yes rfl rfl (hd 2 _ rfl (waits_spec rfl)) rfl) ?_
                  refine flow_call _ _ _ rfl Try.call17 _ (args2 (hd 3 _ rfl (waits_spec rfl)) (hd 4 _ rfl (waits_spec rfl))) (by simp) ((same_yes _ _ (k + 16) _ _ _ (HZ.out.below hB) (HS7.out.below hB) HSS.out).mono ?_)
                  rintro e w3 ⟨rfl, hb⟩; exact ⟨_, rfl, rfl, hb⟩
                · intro a w2 hB hF hd
                  rw [if_pos (wanted_none rfl)]
                  exact flow_val (fun h => by cases h) (run_pick rfl (hd 2 _ rfl (waits_spec rfl))) ((hd 5 _ rfl (waits_spec rfl)))
                · intro a w2 hB hF hd
                  rw [if_pos (wanted_none rfl)]
                  exact flow_move _ (.inr rfl) (by simp) (hd 6 _ rfl (waits_spec rfl))
              · intro a w8 hB hF hS
                have ha := puts_each rfl rfl hF [_, _, _, _, _, _, _, _] rfl ⟨hS 0 _ rfl, hS 1 _ rfl, hS 2 _ rfl, hS 3 _ rfl, hS 4 _ rfl, hS 5 _ rfl, hS 6 _ rfl, hS 7 _ rfl, trivial⟩
                simp only [puts, Act.put, List.setIfInBounds_toArray, List.set_cons_succ, List.set_cons_zero] at ha
                subst ha
                clear hS hF
                have hbel8 := hbel7.trans (hB.mono hbel7.size)
                go_wp2
                go_ret
                exact ⟨rfl, hbel8⟩
end Go.Proofs.Ytgobodhcamgidaa
