/-
  The law ShaParts answers true: its walk. Conditions: named in each theorem.
-/
import Derived.Test.YtgobodhcamgidaaSh12
import Derived.Test.YtgobodhcamgidaaShSm
set_option linter.unusedVariables false
set_option linter.unusedSimpArgs false
namespace Go.Bas
open Go.RowKit
def lens4 (i k n : Nat) : Nat → Nat := fun j => if j = 0 then i else if j = 1 then k - i else if j = 2 then 0 else n - k
def text4 (f : Nat → Int) (i k : Nat) : Nat → Nat → Int := fun j x => if j = 0 then f x else if j = 1 then f (i + x) else if j = 2 then 0 else f (k + x)
theorem cut4 {f : Nat → Int} {i k n : Nat} (h : i ≤ k) (h' : k ≤ n) : (∀ j, j < 4 → ∀ x, x < lens4 i k n j → f (offs (lens4 i k n) j + x) = text4 f i k j x) ∧ offs (lens4 i k n) 4 = n := by
  constructor
  · intro j hj x hx
    rcases (by omega : j = 0 ∨ j = 1 ∨ j = 2 ∨ j = 3) with rfl | rfl | rfl | rfl
    · simp [offs, text4]
    · simp [offs, lens4, text4]
    · simp [lens4] at hx
    · simp [offs, lens4, text4]; congr 1; omega
  · simp [offs, lens4]; omega
theorem new4 {w w' : World} {v u t : Value} {i k n : Nat} {f : Nat → Int} {T : TypeId} (h : Rd .u8 w v i f) (h' : Rd .u8 w u (k - i) (fun x => f (i + x))) (h2 : Rd .u8 w t (n - k) (fun x => f (k + x))) (hb : Below w.heap.size w w') :
    Txt (w'.alloc (.cells [v, u, .slice none 0 0, t].toArray T)) (.slice (some ⟨w'.heap.size, 0, none⟩) 4 4) 4 (lens4 i k n) (text4 f i k) :=
  Txt.new (by decide) fun j hj => by
    rcases (by omega : j = 0 ∨ j = 1 ∨ j = 2 ∨ j = 3) with rfl | rfl | rfl | rfl
    · exact ⟨v, rfl, h.below hb⟩
    · exact ⟨u, rfl, h'.below hb⟩
    · exact ⟨_, rfl, Rd.nil _ _ _⟩
    · exact ⟨t, rfl, h2.below hb⟩
theorem padN_mod (n : Nat) : (n + padN n) % 128 = 0 := msgN_mod n
end Go.Bas
namespace Go.Proofs.Ytgobodhcamgidaa
open Go.RowKit Go.Bas Go.ChangeShapes
attribute [local go_sem ↓] Go.wp_at_zero Go.wp_at_succ
theorem rPad_rd (n : Nat) (hn : n ≤ 1099511627776) (w : World) :
    Calls Try.prog 20 #[.int .i64 n] w fun e w' => ∃ v, e = .returned v ∧ Rd .u8 w' v (padN n) (padF n) ∧ Below w.heap.size w w' :=
  (rPad_any n hn w).mono fun _ _ ⟨v, h1, h2, h3⟩ => ⟨v, h1, h2.rd, h3⟩

set_option maxRecDepth 100000 in
set_option maxHeartbeats 6400000 in
theorem shaParts_law (w : World) (v : Value) (n : Nat) (f : Nat → Int) (hv : Rd .u8 w v n f) (hf : ∀ i, i < n → (Lit.int .u8 (f i)).wf = true) (fat : Nat → Int) (hat : ∀ i, i < 2 → (Lit.int .u16 (fat i)).wf = true) (m : Int) (hm : (Lit.int .i64 m).wf = true) :
    Calls Try.prog 4 #[v, .agg (arr .u16 2 fat), .int .i64 m] w fun e w' => e = .returned (.bool true) ∧ Below w.heap.size w w' := by
  have HF := Lib.hid (byteB f n hf)
  have HV := Lib.hid hv
  obtain ⟨a1, c1, rfl, h1, h2, h3, h4⟩ := hv
  have mb := bounds_i64 hm
  obtain ⟨m0, m1⟩ := mb
  obtain ⟨p, hp⟩ : ∃ p, p = fat 0 := ⟨_, rfl⟩
  obtain ⟨q, hq⟩ : ∃ q, q = fat 1 := ⟨_, rfl⟩
  have p01 := bounds_u16 (hat 0 (by decide))
  have q01 := bounds_u16 (hat 1 (by decide))
  rw [← hp] at p01
  rw [← hq] at q01
  obtain ⟨p0, p1⟩ := p01
  obtain ⟨q0, q1⟩ := q01
  have HP := Lib.hid hp
  have HQ := Lib.hid hq
  obtain ⟨i, hi⟩ : ∃ i : Nat, (i : Int) = p % ((n : Int) + 1) := ⟨(p % ((n : Int) + 1)).toNat, Int.toNat_of_nonneg (Int.emod_nonneg _ (by omega))⟩
  have hin : i ≤ n := by
    have := Int.emod_lt_of_pos p (show (0 : Int) < (n : Int) + 1 by omega)
    omega
  obtain ⟨d, hd⟩ : ∃ d : Nat, (d : Int) = q % ((n : Int) - (i : Int) + 1) := ⟨(q % ((n : Int) - (i : Int) + 1)).toNat, Int.toNat_of_nonneg (Int.emod_nonneg _ (by omega))⟩
  have hdn : i + d ≤ n := by
    have := Int.emod_lt_of_pos q (show (0 : Int) < (n : Int) - (i : Int) + 1 by omega)
    omega
  obtain ⟨k, hk⟩ : ∃ k, k = i + d := ⟨_, rfl⟩
  rw [← hk] at hdn
  have hik : i ≤ k := by omega
  have hm1 : p.tmod ((n : Int) + 1) = (i : Int) := by rw [Int.tmod_eq_emod_of_nonneg p0, hi]
  have hm2 : p % ((n : Int) + 1) = (i : Int) := hi.symm
  have hm3 : q.tmod ((n : Int) - (i : Int) + 1) = (d : Int) := by rw [Int.tmod_eq_emod_of_nonneg q0, hd]
  have hm4 : q % ((n : Int) - (i : Int) + 1) = (d : Int) := hd.symm
  have hm5 : (i : Int) + (d : Int) = (k : Int) := by omega
  obtain ⟨g1, g2⟩ := Rd.head Try.underlying22 Try.info5 a1 n c1 i hin h1
  obtain ⟨la, k1, k2, k3⟩ := Rd.cut Try.underlying22 Try.info5 a1 n c1 i k hik hdn h1
  obtain ⟨lb, j1, j2, j3⟩ := Rd.cut Try.underlying22 Try.info5 a1 n c1 k n hdn (Nat.le_refl _) h1
  have G1 := Lib.hid g1
  have G2 := Lib.hid g2
  have K1 := Lib.hid k1
  have K3 := Lib.hid k3
  have J2 := Lib.hid j2
  have J3 := Lib.hid j3
  clear hf h3 h4 hat hm hp hq hi hd hk g1 g2 k1 k2 k3 j1 j2 j3
  go_enter Try.func4, Try.ntmps4
  have hA1 : Arr .u16 (w.alloc (.cells (arr .u16 2 fat) 32)) w.heap.size 2 fat := Arr.newAt rfl rfl
  have hb1 : Below w.heap.size w (w.alloc (.cells (arr .u16 2 fat) 32)) := (Below.refl _ _).alloc (Nat.le_refl _) _
  go_wp2_with fail
  refine (shAwake_any _).mono ?_
  rintro e w2 ⟨rfl, hb2⟩
  have hA2 := hA1.kept hb2
  have hbel := hb1.trans (hb2.mono hb1.size)
  have HV2 := Lib.hid (HV.out.below hbel)
  have hc0 : w2.cell? ⟨w.heap.size, 0, none⟩ = some (.int .u16 p) := by rw [HP.out]; exact hA2.cell 0 (by decide)
  have hc1 : w2.cell? ⟨w.heap.size, 1, none⟩ = some (.int .u16 q) := by rw [HQ.out]; exact hA2.cell 1 (by decide)
  clear hA1 hb1 hb2 HV hA2
  by_cases hlong : 600 < n
  · go_wp2
    go_ret
    exact ⟨rfl, hbel⟩
  · go_upto_region 7 with (fail)
    clear hc0 hc1 hm1 hm2 hm3 hm4 hm5
    obtain ⟨SB, hSB⟩ : ∃ SB, SB = sumB n f := ⟨_, rfl⟩
    have HS1 := Lib.hid (fun v w (h : Txt w v 1 (fun _ => n) (fun _ => f)) => sum1_any v n f w h (by omega) HF.out)
    have HS4 := Lib.hid (fun v w (h : Txt w v 4 (lens4 i k n) (text4 f i k)) => sum_any v 4 _ _ n f w h (cut4 (f := f) hik hdn).1 (cut4 (f := f) hik hdn).2 (by omega) HF.out)
    have HX := Lib.hid (fun w (h : Rd .u8 w (.slice a1 n c1) n f) => hex_any _ n f w h (by omega) HF.out)
    rw [← hSB] at HS1 HS4
    clear hSB
    obtain ⟨S, hS⟩ : ∃ S, S = strOf (2 * n) (hexF f) := ⟨_, rfl⟩
    have HSZ : Hid (S.size = 2 * n) := by rw [hS]; exact strOf_size _ _
    have HSB : Hid (∀ j, j < 2 * n → strB S j = hexF f j) := by rw [hS]; exact fun j hj => strB_of hj (hexF_bound f j)
    rw [← hS] at HX
    have T1 := Lib.hid (G2.out _ _ HV2.out)
    have T2 := Lib.hid (K3.out _ _ HV2.out).1
    have T3 := Lib.hid (J3.out _ _ HV2.out).2
    clear hS G2 K3 J3
    refine region_flow (n := 115) (by kernel_rfl) (by kernel_rfl) (by kernel_rfl) rfl
      (fun ii vv ww => (match ii with | 0 | 3 | 7 | 12 => vv = .slice a1 n c1 | 1 | 4 => vv = .int .i64 ((i : Int)) | 2 => vv = .slice a1 i c1 | 5 | 8 => vv = .int .i64 ((k : Int)) | 6 => vv = .slice la (k - i) (c1 - i) | 9 => vv = .slice lb (n - k) (c1 - k) | 11 | 14 => vv = .agg (arr .u8 64 (SB)) | 15 => vv = .bool false | _ => True) ∧ (ii = 10 → Txt ww vv 4 (lens4 i k n) (text4 f i k)) ∧ (ii = 13 → Txt ww vv 1 (fun _ => n) (fun _ => f)))
      (fun w w' => Below w.heap.size w w') (fun _ _ h => h) (fun i v w w' h hE => ⟨h.1, fun e => Txt.below (h.2.1 e) hE, fun e => Txt.below (h.2.2 e) hE⟩) ?_ ?_
    · refine Each.all ?_
      refine ⟨?_, ?_, ?_, ?_, ?_, ?_, ?_, ?_, ?_, ?_, ?_, ?_, ?_, ?_, ?_, ?_, trivial⟩
      · intro a w2 hB hF hd
        rw [if_pos (wanted_none rfl)]
        exact flow_move _ (.inl rfl) (by simp) ⟨(hF.same 0 rfl), fun h => absurd h (by decide), fun h => absurd h (by decide)⟩
      · intro a w2 hB hF hd
        rw [if_pos (wanted_none rfl)]
        exact flow_move _ (.inl rfl) (by simp) ⟨(hF.same 7 rfl), fun h => absurd h (by decide), fun h => absurd h (by decide)⟩
      · intro a w2 hB hF hd
        rw [if_pos (wanted_none rfl)]
        exact flow_val (fun h => by cases h) (run_slice_part rfl ((hd 0 _ rfl (waits_spec rfl)).1) (by simp only [Option.map_some, Option.map_none, show a.eval (Operand.tmp 37) = .int .i64 ((i : Int)) from ((hd 1 _ rfl (waits_spec rfl)).1)]; exact G1.out _)) ⟨rfl, fun h => absurd h (by decide), fun h => absurd h (by decide)⟩
      · intro a w2 hB hF hd
        rw [if_pos (wanted_none rfl)]
        exact flow_move _ (.inl rfl) (by simp) ⟨(hF.same 0 rfl), fun h => absurd h (by decide), fun h => absurd h (by decide)⟩
      · intro a w2 hB hF hd
        rw [if_pos (wanted_none rfl)]
        exact flow_move _ (.inl rfl) (by simp) ⟨(hF.same 7 rfl), fun h => absurd h (by decide), fun h => absurd h (by decide)⟩
      · intro a w2 hB hF hd
        rw [if_pos (wanted_none rfl)]
        exact flow_move _ (.inl rfl) (by simp) ⟨(hF.same 8 rfl), fun h => absurd h (by decide), fun h => absurd h (by decide)⟩
      · intro a w2 hB hF hd
        rw [if_pos (wanted_none rfl)]
        exact flow_val (fun h => by cases h) (run_slice_part rfl ((hd 3 _ rfl (waits_spec rfl)).1) (by simp only [Option.map_some, Option.map_none, show a.eval (Operand.tmp 40) = .int .i64 ((i : Int)) from ((hd 4 _ rfl (waits_spec rfl)).1), show a.eval (Operand.tmp 41) = .int .i64 ((k : Int)) from ((hd 5 _ rfl (waits_spec rfl)).1)]; exact K1.out _)) ⟨rfl, fun h => absurd h (by decide), fun h => absurd h (by decide)⟩
      · intro a w2 hB hF hd
        rw [if_pos (wanted_none rfl)]
        exact flow_move _ (.inl rfl) (by simp) ⟨(hF.same 0 rfl), fun h => absurd h (by decide), fun h => absurd h (by decide)⟩
      · intro a w2 hB hF hd
        rw [if_pos (wanted_none rfl)]
        exact flow_move _ (.inl rfl) (by simp) ⟨(hF.same 8 rfl), fun h => absurd h (by decide), fun h => absurd h (by decide)⟩
      · intro a w2 hB hF hd
        rw [if_pos (wanted_none rfl)]
        exact flow_val (fun h => by cases h) (run_slice_part rfl ((hd 7 _ rfl (waits_spec rfl)).1) (by simp only [Option.map_some, Option.map_none, show a.eval (Operand.tmp 44) = .int .i64 ((k : Int)) from ((hd 8 _ rfl (waits_spec rfl)).1)]; exact J2.out _)) ⟨rfl, fun h => absurd h (by decide), fun h => absurd h (by decide)⟩
      · intro a w2 hB hF hd
        rw [if_pos (wanted_none rfl)]
        exact flow_lits 52 22 4 _ [.slice a1 i c1, .slice la (k - i) (c1 - i), .slice none 0 0, .slice lb (n - k) (c1 - k)] rfl Try.underlying52 (by kernel_rfl) (by kernel_rfl) rfl (by decide) (by decide) (by intro v hv; simp only [List.mem_cons, List.not_mem_nil, or_false] at hv; rcases hv with rfl | rfl | rfl | rfl <;> rfl) (by simp only [List.map_toArray, List.map_cons, List.map_nil, show a.eval (Operand.tmp 38) = .slice a1 i c1 from ((hd 2 _ rfl (waits_spec rfl)).1), show a.eval (Operand.tmp 42) = .slice la (k - i) (c1 - i) from ((hd 6 _ rfl (waits_spec rfl)).1), show a.eval (Operand.const (Value.slice none 0 0)) = .slice none 0 0 from rfl, show a.eval (Operand.tmp 45) = .slice lb (n - k) (c1 - k) from ((hd 9 _ rfl (waits_spec rfl)).1)]; rfl) (by simp) ⟨trivial, fun _ => ((new4 T1.out T2.out T3.out hB)), fun h => absurd h (by decide)⟩
      · intro a w2 hB hF hd
        rw [if_pos (wanted_none rfl)]
        refine flow_call _ _ _ rfl Try.call14 _ (args1 rfl) (by simp) ((HS4.out _ _ ((hd 10 _ rfl (waits_spec rfl)).2.1 rfl)).mono ?_)
        rintro e w3 ⟨rfl, hb⟩; exact ⟨_, rfl, ⟨rfl, fun h => absurd h (by decide), fun h => absurd h (by decide)⟩, hb⟩
      · intro a w2 hB hF hd
        rw [if_pos (wanted_none rfl)]
        exact flow_move _ (.inl rfl) (by simp) ⟨(hF.same 0 rfl), fun h => absurd h (by decide), fun h => absurd h (by decide)⟩
      · intro a w2 hB hF hd
        rw [if_pos (wanted_none rfl)]
        exact flow_lits 52 22 1 _ [.slice a1 n c1] rfl Try.underlying52 (by kernel_rfl) (by kernel_rfl) rfl (by decide) (by decide) (by intro v hv; simp only [List.mem_cons, List.not_mem_nil, or_false] at hv; rcases hv with rfl <;> rfl) (by simp only [List.map_toArray, List.map_cons, List.map_nil, show a.eval (Operand.tmp 48) = .slice a1 n c1 from ((hd 12 _ rfl (waits_spec rfl)).1)]; rfl) (by simp) ⟨trivial, fun h => absurd h (by decide), fun _ => ((new1 HV2.out hB))⟩
      · intro a w2 hB hF hd
        rw [if_pos (wanted_none rfl)]
        refine flow_call _ _ _ rfl Try.call14 _ (args1 rfl) (by simp) ((HS1.out _ _ ((hd 13 _ rfl (waits_spec rfl)).2.2 rfl)).mono ?_)
        rintro e w3 ⟨rfl, hb⟩; exact ⟨_, rfl, ⟨rfl, fun h => absurd h (by decide), fun h => absurd h (by decide)⟩, hb⟩
      · intro a w2 hB hF hd
        rw [if_pos (wanted_none rfl)]
        exact flow_val (fun h => by cases h) (run_neq_arr true rfl ((hd 11 _ rfl (waits_spec rfl)).1) ((hd 14 _ rfl (waits_spec rfl)).1) Try.underlying24 (by kernel_rfl) (by kernel_rfl) (by kernel_rfl) (by kernel_rfl) (by kernel_rfl) sameB_self) ⟨rfl, fun h => absurd h (by decide), fun h => absurd h (by decide)⟩
    · intro a w3 hB hF hS
      obtain ⟨x46, hx46⟩ : ∃ x, x = a.tmps.getD 46 undef := ⟨_, rfl⟩
      obtain ⟨x49, hx49⟩ : ∃ x, x = a.tmps.getD 49 undef := ⟨_, rfl⟩
      have ha := puts_each rfl rfl hF [_, _, _, _, _, _, _, _, _, _, x46, _, _, x49, _, _] rfl ⟨(hS 0 _ rfl).1, (hS 1 _ rfl).1, (hS 2 _ rfl).1, (hS 3 _ rfl).1, (hS 4 _ rfl).1, (hS 5 _ rfl).1, (hS 6 _ rfl).1, (hS 7 _ rfl).1, (hS 8 _ rfl).1, (hS 9 _ rfl).1, hx46.symm, (hS 11 _ rfl).1, (hS 12 _ rfl).1, hx49.symm, (hS 14 _ rfl).1, (hS 15 _ rfl).1, trivial⟩
      simp only [puts, Act.put, List.setIfInBounds_toArray, List.set_cons_succ, List.set_cons_zero] at ha
      subst ha
      clear hx46 hx49
      clear hS hF
      have hb3 := hbel.trans (hB.mono hbel.size)
      have HV3 := Lib.hid (HV2.out.below hB)
      clear hB hbel HV2 T1 T2 T3 G1 K1 J2
      go_wp2_with fail
      refine (HX.out _ HV3.out).mono ?_
      rintro e w4 ⟨rfl, hb4⟩
      have hb := hb3.trans (hb4.mono hb3.size)
      have HV4 := Lib.hid (HV3.out.below hb4)
      have hsz := HSZ.out
      clear hb3 hb4 HV3
      go_upto_region 12 with (fail)
      clear hsz
      have HLEN := Lib.hid (show (S.size : Int) = 2 * n from by have := HSZ.out; omega)
      go_wp2
      go_loopw [62] (fun u wr => ∃ j : Nat, j ≤ n ∧ u = .int .i64 (j : Int) ∧ Below w4.heap.size w4 wr) (fun u _ => n - (intOf u).toNat)
      case atStart => exact ⟨0, Nat.zero_le _, rfl, Below.refl _ _⟩
      case round =>
        obtain ⟨j, hj, rfl, hbw⟩ := hrel
        have hsw := hbw.size
        by_cases hlt : j < n
        · obtain ⟨x, hx⟩ : ∃ x, x = f j := ⟨_, rfl⟩
          have x01 := HF.out j hlt
          rw [← hx] at x01
          have HXX := Lib.hid hx
          obtain ⟨x0, x1⟩ := x01
          obtain ⟨b, o, rfl, hbl, hc⟩ := (HV4.out.below hbw).formAt (by omega)
          have hck : wr.cell? ⟨b, o + j, none⟩ = some (.int .u8 x) := by rw [HXX.out]; exact hc j hlt
          have L0 : Hid (strB S (2 * j) = hexD (x / 16)) := by unfold Hid; rw [HXX.out, HSB.out _ (by omega)]; exact hexF_0 f j
          have L1 : Hid (strB S (2 * j + 1) = hexD (x % 16)) := by unfold Hid; rw [HXX.out, HSB.out _ (by omega)]; exact hexF_1 f j
          have A1 := Lib.hid (show IntKind.i64.wrap (2 * (j : Int)) = ((2 * j : Nat) : Int) from by rw [wrap_i64_id (by omega) (by omega)]; omega)
          have A2 := Lib.hid (show IntKind.i64.wrap (((2 * j : Nat) : Int) + 1) = ((2 * j + 1 : Nat) : Int) from by rw [wrap_i64_id (by omega) (by omega)]; omega)
          have A3 := Lib.hid (show IntKind.u8.wrap (Int.tdiv x 16) = x / 16 from by rw [Int.tdiv_eq_ediv_of_nonneg x0, IntKind.wrap_u8]; omega)
          have A4 := Lib.hid (show Int.tmod x 16 = x % 16 from Int.tmod_eq_emod_of_nonneg x0)
          clear hx hc
          go_upto_region 15 with (fail)
          clear hck
          refine region_flow (n := 115) (by kernel_rfl) (by kernel_rfl) (by kernel_rfl) rfl
            (fun ii vv _ => (match ii with | 0 | 9 => vv = .string S | 1 | 10 => vv = .int .i64 ((j : Int)) | 2 | 11 => vv = .int .i64 (((2 * j : Nat) : Int)) | 3 | 6 => vv = .int .u8 (hexD (x / 16)) | 4 | 14 => vv = .int .u8 (x) | 5 => vv = .int .u8 (x / 16) | 7 | 8 | 17 | 18 => vv = .bool false | 12 => vv = .int .i64 (((2 * j + 1 : Nat) : Int)) | 13 | 16 => vv = .int .u8 (hexD (x % 16)) | 15 => vv = .int .u8 (x % 16) | _ => True))
            (fun w w' => Below w.heap.size w w') (fun _ _ h => h) (fun _ _ _ _ h _ => h) ?_ ?_
          · refine Each.all ?_
            refine ⟨?_, ?_, ?_, ?_, ?_, ?_, ?_, ?_, ?_, ?_, ?_, ?_, ?_, ?_, ?_, ?_, ?_, ?_, ?_, trivial⟩
            · intro a w2 hB hF hd
              rw [if_pos (wanted_none rfl)]
              exact flow_move _ (.inl rfl) (by simp) (hF.same 9 rfl)
            · intro a w2 hB hF hd
              rw [if_pos (wanted_none rfl)]
              exact flow_move _ (.inl rfl) (by simp) (hF.same 10 rfl)
            · intro a w2 hB hF hd
              rw [if_pos (wanted_none rfl)]
              exact flow_val (fun h => by cases h) (Go.Bas.run_mul rfl rfl (hd 1 _ rfl (waits_spec rfl))) (congrArg (Value.int .i64) (A1.out))
            · intro a w2 hB hF hd
              rw [if_pos (wanted_none rfl)]
              exact flow_val (fun h => by cases h) (run_index_str rfl (hd 0 _ rfl (waits_spec rfl)) (hd 2 _ rfl (waits_spec rfl)) Try.underlying9 (by omega) (by have := HLEN.out; omega)) (congrArg (Value.int .u8) L0.out)
            · intro a w2 hB hF hd
              rw [if_pos (wanted_none rfl)]
              exact flow_move _ (.inl rfl) (by simp) (hF.same 11 rfl)
            · intro a w2 hB hF hd
              rw [if_pos (wanted_none rfl)]
              exact flow_val (fun h => by cases h) (Go.Bas.run_quo rfl (hd 4 _ rfl (waits_spec rfl)) rfl (by decide)) (congrArg (Value.int .u8) (A3.out))
            · intro a w2 hB hF hd
              rw [if_pos (wanted_none rfl)]
              exact flow_val (fun h => by cases h) (run_index_str (s := hexS) rfl rfl (hd 5 _ rfl (waits_spec rfl)) Try.underlying9 (by omega) (by rw [hexS_size]; omega)) rfl
            · intro a w2 hB hF hd
              rw [if_pos (wanted_none rfl)]
              exact flow_val (fun h => by cases h) (Go.Bas.run_neq_int rfl (hd 3 _ rfl (waits_spec rfl)) (hd 6 _ rfl (waits_spec rfl))) (congrArg Value.bool (bne_self_eq_false _))
            · intro a w2 hB hF hd
              rw [if_pos (wanted_none rfl)]
              exact flow_move _ (.inl rfl) (by simp) (hd 7 _ rfl (waits_spec rfl))
            · intro a w2 hB hF hd
              refine flow_wanted (wanted_yes rfl rfl (hd 8 _ rfl (waits_spec rfl)) rfl) ?_
              exact flow_move _ (.inl rfl) (by simp) (hF.same 9 rfl)
            · intro a w2 hB hF hd
              refine flow_wanted (wanted_yes rfl rfl (hd 8 _ rfl (waits_spec rfl)) rfl) ?_
              exact flow_move _ (.inl rfl) (by simp) (hF.same 10 rfl)
            · intro a w2 hB hF hd
              refine flow_wanted (wanted_yes rfl rfl (hd 8 _ rfl (waits_spec rfl)) rfl) ?_
              exact flow_val (fun h => by cases h) (Go.Bas.run_mul rfl rfl (hd 10 _ rfl (waits_spec rfl))) (congrArg (Value.int .i64) (A1.out))
            · intro a w2 hB hF hd
              refine flow_wanted (wanted_yes rfl rfl (hd 8 _ rfl (waits_spec rfl)) rfl) ?_
              exact flow_val (fun h => by cases h) (Go.Bas.run_add rfl (hd 11 _ rfl (waits_spec rfl)) rfl) (congrArg (Value.int .i64) (A2.out))
            · intro a w2 hB hF hd
              refine flow_wanted (wanted_yes rfl rfl (hd 8 _ rfl (waits_spec rfl)) rfl) ?_
              exact flow_val (fun h => by cases h) (run_index_str rfl (hd 9 _ rfl (waits_spec rfl)) (hd 12 _ rfl (waits_spec rfl)) Try.underlying9 (by omega) (by have := HLEN.out; omega)) (congrArg (Value.int .u8) L1.out)
            · intro a w2 hB hF hd
              refine flow_wanted (wanted_yes rfl rfl (hd 8 _ rfl (waits_spec rfl)) rfl) ?_
              exact flow_move _ (.inl rfl) (by simp) (hF.same 11 rfl)
            · intro a w2 hB hF hd
              refine flow_wanted (wanted_yes rfl rfl (hd 8 _ rfl (waits_spec rfl)) rfl) ?_
              exact flow_val (fun h => by cases h) (Go.Bas.run_rem rfl (hd 14 _ rfl (waits_spec rfl)) rfl (by decide)) (congrArg (Value.int .u8) (A4.out))
            · intro a w2 hB hF hd
              refine flow_wanted (wanted_yes rfl rfl (hd 8 _ rfl (waits_spec rfl)) rfl) ?_
              exact flow_val (fun h => by cases h) (run_index_str (s := hexS) rfl rfl (hd 15 _ rfl (waits_spec rfl)) Try.underlying9 (by omega) (by rw [hexS_size]; omega)) rfl
            · intro a w2 hB hF hd
              refine flow_wanted (wanted_yes rfl rfl (hd 8 _ rfl (waits_spec rfl)) rfl) ?_
              exact flow_val (fun h => by cases h) (Go.Bas.run_neq_int rfl (hd 13 _ rfl (waits_spec rfl)) (hd 16 _ rfl (waits_spec rfl))) (congrArg Value.bool (bne_self_eq_false _))
            · intro a w2 hB hF hd
              rw [if_pos (wanted_none rfl)]
              exact flow_val (fun h => by cases h) (run_pick rfl (hd 8 _ rfl (waits_spec rfl))) ((hd 17 _ rfl (waits_spec rfl)))
          · intro a w5 hB hF hS
            have ha := puts_each rfl rfl hF [_, _, _, _, _, _, _, _, _, _, _, _, _, _, _, _, _, _, _] rfl ⟨hS 0 _ rfl, hS 1 _ rfl, hS 2 _ rfl, hS 3 _ rfl, hS 4 _ rfl, hS 5 _ rfl, hS 6 _ rfl, hS 7 _ rfl, hS 8 _ rfl, hS 9 _ rfl, hS 10 _ rfl, hS 11 _ rfl, hS 12 _ rfl, hS 13 _ rfl, hS 14 _ rfl, hS 15 _ rfl, hS 16 _ rfl, hS 17 _ rfl, hS 18 _ rfl, trivial⟩
            simp only [puts, Act.put, List.setIfInBounds_toArray, List.set_cons_succ, List.set_cons_zero] at ha
            subst ha
            clear hS hF
            have hb5 := hbw.trans (hB.mono hsw)
            clear hB
            go_wp2
            go_roundw
            case rel => first | exact ⟨j + 1, by omega, by go_num, hb5⟩ | ((repeat apply Exists.intro); exact ⟨⟨j + 1, by omega, by go_num, hb5⟩, rfl⟩)
            case measure => simp [intOf] <;> omega
        · obtain rfl : j = n := by omega
          obtain ⟨w5, hw5⟩ : ∃ w5, w5 = wr := ⟨_, rfl⟩
          subst hw5
          have hb5 := hb.trans (hbw.mono hb.size)
          clear hbw hb HV4
          rcases (by omega : m < 0 ∨ 1099511627776 < m ∨ (0 ≤ m ∧ m ≤ 1099511627776)) with hc | hc | hc
          · go_wp2_with fail
            refine (pad_out m (.inl hc) _).mono ?_
            rintro e w6 ⟨rfl, rfl⟩
            go_upto_region 19 with (fail)
            refine region_flow (n := 115) (by kernel_rfl) (by kernel_rfl) (by kernel_rfl) rfl
              (fun ii vv _ => (match ii with | 0 => vv = .int .i64 (m) | 1 | 2 | 5 => vv = .bool true | 3 | 4 => vv = undef | _ => True))
              (fun w w' => Below w.heap.size w w') (fun _ _ h => h) (fun _ _ _ _ h _ => h) ?_ ?_
            · refine Each.all ?_
              refine ⟨?_, ?_, ?_, ?_, ?_, ?_, trivial⟩
              · intro a w2 hB hF hd
                rw [if_pos (wanted_none rfl)]
                exact flow_move _ (.inl rfl) (by simp) (hF.same 2 rfl)
              · intro a w2 hB hF hd
                rw [if_pos (wanted_none rfl)]
                exact flow_val (fun h => by cases h) (Go.Bas.run_lss rfl (hd 0 _ rfl (waits_spec rfl)) rfl) (congrArg Value.bool (decide_eq_true hc))
              · intro a w2 hB hF hd
                rw [if_pos (wanted_none rfl)]
                exact flow_move _ (.inl rfl) (by simp) (hd 1 _ rfl (waits_spec rfl))
              · intro a w2 hB hF hd
                rw [if_neg (by rw [wanted_some rfl rfl (hd 2 _ rfl (waits_spec rfl))]; decide)]
                exact rfl
              · intro a w2 hB hF hd
                rw [if_neg (by rw [wanted_some rfl rfl (hd 2 _ rfl (waits_spec rfl))]; decide)]
                exact rfl
              · intro a w2 hB hF hd
                rw [if_pos (wanted_none rfl)]
                exact flow_val (fun h => by cases h) (run_pick rfl (hd 2 _ rfl (waits_spec rfl))) (rfl)
            · intro a w6 hB hF hS
              have ha := puts_each rfl rfl hF [_, _, _, _, _, _] rfl ⟨hS 0 _ rfl, hS 1 _ rfl, hS 2 _ rfl, hS 3 _ rfl, hS 4 _ rfl, hS 5 _ rfl, trivial⟩
              simp only [puts, Act.put, List.setIfInBounds_toArray, List.set_cons_succ, List.set_cons_zero] at ha
              subst ha
              clear hS hF
              have hb6 := hb5.trans (hB.mono hb5.size)
              clear hB
              go_wp2
              go_ret
              exact ⟨rfl, hb6⟩
          · go_wp2_with fail
            refine (pad_out m (.inr hc) _).mono ?_
            rintro e w6 ⟨rfl, rfl⟩
            go_upto_region 19 with (fail)
            refine region_flow (n := 115) (by kernel_rfl) (by kernel_rfl) (by kernel_rfl) rfl
              (fun ii vv _ => (match ii with | 0 | 3 => vv = .int .i64 (m) | 1 | 2 => vv = .bool false | 4 | 5 => vv = .bool true | _ => True))
              (fun w w' => Below w.heap.size w w') (fun _ _ h => h) (fun _ _ _ _ h _ => h) ?_ ?_
            · refine Each.all ?_
              refine ⟨?_, ?_, ?_, ?_, ?_, ?_, trivial⟩
              · intro a w2 hB hF hd
                rw [if_pos (wanted_none rfl)]
                exact flow_move _ (.inl rfl) (by simp) (hF.same 2 rfl)
              · intro a w2 hB hF hd
                rw [if_pos (wanted_none rfl)]
                exact flow_val (fun h => by cases h) (Go.Bas.run_lss rfl (hd 0 _ rfl (waits_spec rfl)) rfl) (congrArg Value.bool (decide_eq_false (by omega)))
              · intro a w2 hB hF hd
                rw [if_pos (wanted_none rfl)]
                exact flow_move _ (.inl rfl) (by simp) (hd 1 _ rfl (waits_spec rfl))
              · intro a w2 hB hF hd
                refine flow_wanted (wanted_yes rfl rfl (hd 2 _ rfl (waits_spec rfl)) rfl) ?_
                exact flow_move _ (.inl rfl) (by simp) (hF.same 2 rfl)
              · intro a w2 hB hF hd
                refine flow_wanted (wanted_yes rfl rfl (hd 2 _ rfl (waits_spec rfl)) rfl) ?_
                exact flow_val (fun h => by cases h) (Go.Bas.run_gtr rfl (hd 3 _ rfl (waits_spec rfl)) rfl) (congrArg Value.bool (decide_eq_true hc))
              · intro a w2 hB hF hd
                rw [if_pos (wanted_none rfl)]
                exact flow_val (fun h => by cases h) (run_pick rfl (hd 2 _ rfl (waits_spec rfl))) ((hd 4 _ rfl (waits_spec rfl)))
            · intro a w6 hB hF hS
              have ha := puts_each rfl rfl hF [_, _, _, _, _, _] rfl ⟨hS 0 _ rfl, hS 1 _ rfl, hS 2 _ rfl, hS 3 _ rfl, hS 4 _ rfl, hS 5 _ rfl, trivial⟩
              simp only [puts, Act.put, List.setIfInBounds_toArray, List.set_cons_succ, List.set_cons_zero] at ha
              subst ha
              clear hS hF
              have hb6 := hb5.trans (hB.mono hb5.size)
              clear hB
              go_wp2
              go_ret
              exact ⟨rfl, hb6⟩
          · obtain ⟨hc, hc2⟩ := hc
            obtain ⟨z, rfl⟩ := Int.eq_ofNat_of_zero_le hc
            go_wp2_with fail
            refine (pad_any z (by omega) _).mono ?_
            rintro e w6 ⟨pv, rfl, hp, hb6⟩
            have hpz : 0 < padN z := by unfold padN; omega
            have hpl : padN z ≤ 144 := by unfold padN padZ; omega
            have HMOD := Lib.hid (padN_mod z)
            obtain ⟨PN, hPN⟩ : ∃ PN, PN = padN z := ⟨_, rfl⟩
            obtain ⟨PF, hPF⟩ : ∃ PF, PF = padF z := ⟨_, rfl⟩
            have HRP := Lib.hid (fun w => rPad_rd z (by omega) w)
            rw [← hPN] at hp hpz hpl HMOD HRP
            rw [← hPF] at hp HRP
            obtain ⟨g, cp, rfl, _⟩ := hp.form (by omega)
            have HP6 := Lib.hid hp.rd
            have hb66 := hb5.trans (hb6.mono hb5.size)
            have B1 := Lib.hid (show IntKind.i64.wrap ((z : Int) + (PN : Int)) = ((z + PN : Nat) : Int) from by rw [wrap_i64_id (by omega) (by omega)]; omega)
            have B2 := Lib.hid (show Int.tmod ((z + PN : Nat) : Int) 128 = 0 from by have := HMOD.out; rw [Int.tmod_eq_emod_of_nonneg (by omega)]; omega)
            clear hp hb6 hb5 hPN hPF
            go_upto_region 19 with (fail)
            refine region_flow (n := 115) (by kernel_rfl) (by kernel_rfl) (by kernel_rfl) rfl
              (fun ii vv _ => (match ii with | 0 | 3 => vv = .int .i64 ((z : Int)) | 1 | 2 | 4 | 5 => vv = .bool false | _ => True))
              (fun w w' => Below w.heap.size w w') (fun _ _ h => h) (fun _ _ _ _ h _ => h) ?_ ?_
            · refine Each.all ?_
              refine ⟨?_, ?_, ?_, ?_, ?_, ?_, trivial⟩
              · intro a w2 hB hF hd
                rw [if_pos (wanted_none rfl)]
                exact flow_move _ (.inl rfl) (by simp) (hF.same 2 rfl)
              · intro a w2 hB hF hd
                rw [if_pos (wanted_none rfl)]
                exact flow_val (fun h => by cases h) (Go.Bas.run_lss rfl (hd 0 _ rfl (waits_spec rfl)) rfl) (congrArg Value.bool (decide_eq_false (by omega)))
              · intro a w2 hB hF hd
                rw [if_pos (wanted_none rfl)]
                exact flow_move _ (.inl rfl) (by simp) (hd 1 _ rfl (waits_spec rfl))
              · intro a w2 hB hF hd
                refine flow_wanted (wanted_yes rfl rfl (hd 2 _ rfl (waits_spec rfl)) rfl) ?_
                exact flow_move _ (.inl rfl) (by simp) (hF.same 2 rfl)
              · intro a w2 hB hF hd
                refine flow_wanted (wanted_yes rfl rfl (hd 2 _ rfl (waits_spec rfl)) rfl) ?_
                exact flow_val (fun h => by cases h) (Go.Bas.run_gtr rfl (hd 3 _ rfl (waits_spec rfl)) rfl) (congrArg Value.bool (decide_eq_false (by omega)))
              · intro a w2 hB hF hd
                rw [if_pos (wanted_none rfl)]
                exact flow_val (fun h => by cases h) (run_pick rfl (hd 2 _ rfl (waits_spec rfl))) ((hd 4 _ rfl (waits_spec rfl)))
            · intro a w7 hB hF hS
              have ha := puts_each rfl rfl hF [_, _, _, _, _, _] rfl ⟨hS 0 _ rfl, hS 1 _ rfl, hS 2 _ rfl, hS 3 _ rfl, hS 4 _ rfl, hS 5 _ rfl, trivial⟩
              simp only [puts, Act.put, List.setIfInBounds_toArray, List.set_cons_succ, List.set_cons_zero] at ha
              subst ha
              clear hS hF
              have hb7 := hb66.trans (hB.mono hb66.size)
              have HP7 := Lib.hid (HP6.out.below hB)
              clear hB HP6 hb66
              go_upto_region 21 with (fail)
              refine region_flow (n := 115) (by kernel_rfl) (by kernel_rfl) (by kernel_rfl) rfl
                (fun ii vv ww => (match ii with | 0 | 6 | 13 => vv = .slice (some ⟨g, 0, none⟩) PN cp | 1 | 5 => vv = .int .i64 ((z : Int)) | 3 | 4 | 10 | 11 | 12 | 15 | 16 | 17 => vv = .bool true | 7 | 14 => vv = .int .i64 ((PN : Int)) | 8 => vv = .int .i64 (((z + PN : Nat) : Int)) | 9 => vv = .int .i64 (0) | _ => True) ∧ (ii = 2 → Rd .u8 ww vv PN (PF)))
                (fun w w' => Below w.heap.size w w') (fun _ _ h => h) (fun i v w w' h hE => ⟨h.1, fun e => Rd.below (h.2 e) hE⟩) ?_ ?_
              · refine Each.all ?_
                refine ⟨?_, ?_, ?_, ?_, ?_, ?_, ?_, ?_, ?_, ?_, ?_, ?_, ?_, ?_, ?_, ?_, ?_, ?_, trivial⟩
                · intro a w2 hB hF hd
                  rw [if_pos (wanted_none rfl)]
                  exact flow_move _ (.inl rfl) (by simp) ⟨(hF.same 12 rfl), fun h => absurd h (by decide)⟩
                · intro a w2 hB hF hd
                  rw [if_pos (wanted_none rfl)]
                  exact flow_move _ (.inl rfl) (by simp) ⟨(hF.same 2 rfl), fun h => absurd h (by decide)⟩
                · intro a w2 hB hF hd
                  rw [if_pos (wanted_none rfl)]
                  refine flow_call _ _ _ rfl Try.call20 _ (args1 ((hd 1 _ rfl (waits_spec rfl)).1)) (by simp) ((HRP.out _).mono ?_)
                  rintro e w3 ⟨u, rfl, hr, hb⟩; exact ⟨u, rfl, ⟨trivial, fun _ => hr⟩, hb⟩
                · intro a w2 hB hF hd
                  rw [if_pos (wanted_none rfl)]
                  refine flow_call _ _ _ rfl Try.call17 _ (args2 ((hd 0 _ rfl (waits_spec rfl)).1) rfl) (by simp) ((same_yes _ _ PN PF PF _ (HP7.out.below hB) ((hd 2 _ rfl (waits_spec rfl)).2 rfl) (fun _ _ => rfl)).mono ?_)
                  rintro e w3 ⟨rfl, hb⟩; exact ⟨_, rfl, ⟨rfl, fun h => absurd h (by decide)⟩, hb⟩
                · intro a w2 hB hF hd
                  rw [if_pos (wanted_none rfl)]
                  exact flow_move _ (.inl rfl) (by simp) ⟨((hd 3 _ rfl (waits_spec rfl)).1), fun h => absurd h (by decide)⟩
                · intro a w2 hB hF hd
                  refine flow_wanted (wanted_yes rfl rfl ((hd 4 _ rfl (waits_spec rfl)).1) rfl) ?_
                  exact flow_move _ (.inl rfl) (by simp) ⟨(hF.same 2 rfl), fun h => absurd h (by decide)⟩
                · intro a w2 hB hF hd
                  refine flow_wanted (wanted_yes rfl rfl ((hd 4 _ rfl (waits_spec rfl)).1) rfl) ?_
                  exact flow_move _ (.inl rfl) (by simp) ⟨(hF.same 12 rfl), fun h => absurd h (by decide)⟩
                · intro a w2 hB hF hd
                  refine flow_wanted (wanted_yes rfl rfl ((hd 4 _ rfl (waits_spec rfl)).1) rfl) ?_
                  exact flow_val (fun h => by cases h) (run_len_sl rfl ((hd 6 _ rfl (waits_spec rfl)).1) Try.underlying22) ⟨rfl, fun h => absurd h (by decide)⟩
                · intro a w2 hB hF hd
                  refine flow_wanted (wanted_yes rfl rfl ((hd 4 _ rfl (waits_spec rfl)).1) rfl) ?_
                  exact flow_val (fun h => by cases h) (Go.Bas.run_add rfl ((hd 5 _ rfl (waits_spec rfl)).1) ((hd 7 _ rfl (waits_spec rfl)).1)) ⟨(congrArg (Value.int .i64) (B1.out)), fun h => absurd h (by decide)⟩
                · intro a w2 hB hF hd
                  refine flow_wanted (wanted_yes rfl rfl ((hd 4 _ rfl (waits_spec rfl)).1) rfl) ?_
                  exact flow_val (fun h => by cases h) (Go.Bas.run_rem rfl ((hd 8 _ rfl (waits_spec rfl)).1) rfl (by decide)) ⟨(congrArg (Value.int .i64) (B2.out)), fun h => absurd h (by decide)⟩
                · intro a w2 hB hF hd
                  refine flow_wanted (wanted_yes rfl rfl ((hd 4 _ rfl (waits_spec rfl)).1) rfl) ?_
                  refine flow_val (fun h => by cases h) (Go.Bas.run_eql_int rfl ((hd 9 _ rfl (waits_spec rfl)).1) rfl) ?_
                  exact ⟨rfl, fun h => absurd h (by decide)⟩
                · intro a w2 hB hF hd
                  rw [if_pos (wanted_none rfl)]
                  exact flow_val (fun h => by cases h) (run_pick rfl ((hd 4 _ rfl (waits_spec rfl)).1)) ⟨(((hd 10 _ rfl (waits_spec rfl)).1)), fun h => absurd h (by decide)⟩
                · intro a w2 hB hF hd
                  rw [if_pos (wanted_none rfl)]
                  exact flow_move _ (.inl rfl) (by simp) ⟨((hd 11 _ rfl (waits_spec rfl)).1), fun h => absurd h (by decide)⟩
                · intro a w2 hB hF hd
                  refine flow_wanted (wanted_yes rfl rfl ((hd 12 _ rfl (waits_spec rfl)).1) rfl) ?_
                  exact flow_move _ (.inl rfl) (by simp) ⟨(hF.same 12 rfl), fun h => absurd h (by decide)⟩
                · intro a w2 hB hF hd
                  refine flow_wanted (wanted_yes rfl rfl ((hd 12 _ rfl (waits_spec rfl)).1) rfl) ?_
                  exact flow_val (fun h => by cases h) (run_len_sl rfl ((hd 13 _ rfl (waits_spec rfl)).1) Try.underlying22) ⟨rfl, fun h => absurd h (by decide)⟩
                · intro a w2 hB hF hd
                  refine flow_wanted (wanted_yes rfl rfl ((hd 12 _ rfl (waits_spec rfl)).1) rfl) ?_
                  exact flow_val (fun h => by cases h) (Go.Bas.run_leq rfl ((hd 14 _ rfl (waits_spec rfl)).1) rfl) ⟨(congrArg Value.bool (decide_eq_true (by omega))), fun h => absurd h (by decide)⟩
                · intro a w2 hB hF hd
                  rw [if_pos (wanted_none rfl)]
                  exact flow_val (fun h => by cases h) (run_pick rfl ((hd 12 _ rfl (waits_spec rfl)).1)) ⟨(((hd 15 _ rfl (waits_spec rfl)).1)), fun h => absurd h (by decide)⟩
                · intro a w2 hB hF hd
                  rw [if_pos (wanted_none rfl)]
                  exact flow_move _ (.inr rfl) (by simp) ⟨((hd 16 _ rfl (waits_spec rfl)).1), fun h => absurd h (by decide)⟩
              · intro a w8 hB hF hS
                obtain ⟨x100, hx100⟩ : ∃ x, x = a.tmps.getD 100 undef := ⟨_, rfl⟩
                have ha := puts_each rfl rfl hF [_, _, x100, _, _, _, _, _, _, _, _, _, _, _, _, _, _, _] rfl ⟨(hS 0 _ rfl).1, (hS 1 _ rfl).1, hx100.symm, (hS 3 _ rfl).1, (hS 4 _ rfl).1, (hS 5 _ rfl).1, (hS 6 _ rfl).1, (hS 7 _ rfl).1, (hS 8 _ rfl).1, (hS 9 _ rfl).1, (hS 10 _ rfl).1, (hS 11 _ rfl).1, (hS 12 _ rfl).1, (hS 13 _ rfl).1, (hS 14 _ rfl).1, (hS 15 _ rfl).1, (hS 16 _ rfl).1, (hS 17 _ rfl).1, trivial⟩
                simp only [puts, Act.put, List.setIfInBounds_toArray, List.set_cons_succ, List.set_cons_zero] at ha
                subst ha
                clear hx100
                clear hS hF
                have hb8 := hb7.trans (hB.mono hb7.size)
                clear hB
                go_wp2
                go_ret
                exact ⟨rfl, hb8⟩
end Go.Proofs.Ytgobodhcamgidaa
