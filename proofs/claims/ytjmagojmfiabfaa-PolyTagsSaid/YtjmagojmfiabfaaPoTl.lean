/-
  The law PolyTags answers true.
-/
import Derived.Test.YtjmagojmfiabfaaPoR3
import Derived.Test.YtjmagojmfiabfaaPoA
import Derived.OpenShut
namespace Go.Bas
open Go.RowKit
def lens3 (i n : Nat) : Nat → Nat := fun j => if j = 0 then i else if j = 1 then 0 else n - i
def text3 (f : Nat → Int) (i : Nat) : Nat → Nat → Int := fun j x => if j = 0 then f x else if j = 1 then 0 else f (i + x)
theorem cut3 {f : Nat → Int} {i n : Nat} (h : i ≤ n) : (∀ j, j < 3 → ∀ x, x < lens3 i n j → f (offs (lens3 i n) j + x) = text3 f i j x) ∧ offs (lens3 i n) 3 = n := by
  constructor
  · intro j hj x hx
    rcases (by omega : j = 0 ∨ j = 1 ∨ j = 2) with rfl | rfl | rfl
    · simp [offs, text3]
    · simp [lens3] at hx
    · simp [offs, lens3, text3]
  · simp [offs, lens3]; omega
theorem cut1 {f : Nat → Int} {n : Nat} : (∀ j, j < 1 → ∀ x, x < (fun _ => n : Nat → Nat) j → f (offs (fun _ => n) j + x) = (fun _ => f : Nat → Nat → Int) j x) ∧ offs (fun _ => n) 1 = n := by
  constructor
  · intro j hj x hx
    obtain rfl : j = 0 := by omega
    simp [offs]
  · simp [offs]
theorem new1 {w w' : World} {v : Value} {n : Nat} {f : Nat → Int} {T : TypeId} (h : Rd .u8 w v n f) (hb : Below w.heap.size w w') : Txt (w'.alloc (.cells [v].toArray T)) (.slice (some ⟨w'.heap.size, 0, none⟩) 1 1) 1 (fun _ => n) (fun _ => f) :=
  Txt.new (by decide) fun j hj => ⟨v, by obtain rfl : j = 0 := by omega
                                         rfl, h.below hb⟩
theorem new3 {w w' : World} {v u : Value} {i n : Nat} {f : Nat → Int} {T : TypeId} (h : Rd .u8 w v i f) (h' : Rd .u8 w u (n - i) (fun x => f (i + x))) (hb : Below w.heap.size w w') : Txt (w'.alloc (.cells [v, .slice none 0 0, u].toArray T)) (.slice (some ⟨w'.heap.size, 0, none⟩) 3 3) 3 (lens3 i n) (text3 f i) :=
  Txt.new (by decide) fun j hj => by
    rcases (by omega : j = 0 ∨ j = 1 ∨ j = 2) with rfl | rfl | rfl
    · exact ⟨v, rfl, h.below hb⟩
    · exact ⟨_, rfl, Rd.nil _ _ _⟩
    · exact ⟨u, rfl, h'.below hb⟩
end Go.Bas
namespace Go.Proofs.Ytjmagojmfiabfaa
open Go.RowKit Go.Bas Go.ChangeShapes
attribute [local go_sem ↓] Go.wp_at_zero Go.wp_at_succ

theorem num32' (f : Nat → Int) (h : ∀ i, i < 32 → (Lit.int .u8 (f i)).wf = true) : ∃ X : Int, arr .u8 32 f = arr .u8 32 (dg 256 X) ∧ 0 ≤ X ∧ X < 256 ^ 32 := by
  have h' : ∀ i, i < 32 → 0 ≤ f i ∧ f i < 256 := fun i hi => by have := bounds_u8 (h i hi); omega
  exact ⟨sm 256 f 32, arr_congr fun i hi => (dg_sm (by decide) h' i hi).symm, sm_bound (by decide) h'⟩

set_option maxRecDepth 100000 in
set_option maxHeartbeats 6400000 in
theorem polyTags_law (w : World) (fk : Nat → Int) (hk : ∀ i, i < 32 → (Lit.int .u8 (fk i)).wf = true) (v : Value) (n : Nat) (f : Nat → Int) (hv : Rd .u8 w v n f) (hf : ∀ i, i < n → (Lit.int .u8 (f i)).wf = true) (t : Int) (ht : (Lit.int .u16 t).wf = true) :
    Calls Try.prog 12 #[.agg (arr .u8 32 fk), v, .int .u16 t] w fun e w' => e = .returned (.bool true) ∧ Below w.heap.size w w' := by
  obtain ⟨K, eK, hK⟩ := num32' fk hk
  have hF : ∀ i, i < n → 0 ≤ f i ∧ f i < 256 := fun i hi => by have := bounds_u8 (hf i hi); omega
  have htb : 0 ≤ t ∧ t < 65536 := by have := bounds_u16 ht; omega
  have hx2 := hv
  obtain ⟨a1, c1, rfl, l1, m1, z1, h1⟩ := hx2
  rw [eK]
  have HK := Lib.hid hK
  have HX := Lib.hid hv
  have HF := Lib.hid hF
  obtain ⟨ct, hi⟩ : ∃ ct : Nat, (ct : Int) = t % ((n : Int) + 1) := ⟨(t % ((n : Int) + 1)).toNat, Int.toNat_of_nonneg (Int.emod_nonneg _ (by omega))⟩
  have hin : ct ≤ n := by
    have := Int.emod_lt_of_pos t (show (0 : Int) < (n : Int) + 1 by omega)
    omega
  have hm1 : t.tmod ((n : Int) + 1) = (ct : Int) := by rw [Int.tmod_eq_emod_of_nonneg htb.1, hi]
  have hm2 : t % ((n : Int) + 1) = (ct : Int) := hi.symm
  obtain ⟨t0, t1⟩ := htb
  obtain ⟨g1, g2⟩ := Rd.head Try.underlying50 Try.info5 a1 n c1 ct hin l1
  obtain ⟨la', k1, k2, k3⟩ := Rd.cut Try.underlying50 Try.info5 a1 n c1 ct n hin (Nat.le_refl _) l1
  have G1 := Lib.hid g1
  have G2 := Lib.hid g2
  have K2 := Lib.hid k2
  have K3 := Lib.hid k3
  clear hK hv hf hF hk eK z1 h1 hi ht g1 g2 k1 k2 k3
  go_enter Try.func12, Try.ntmps12
  have hA1 : Arr .u8 (w.alloc (.cells (arr .u8 32 (dg 256 K)) 22)) w.heap.size 32 (dg 256 K) := Arr.newAt rfl rfl
  have hb1 : Below w.heap.size w (w.alloc (.cells (arr .u8 32 (dg 256 K)) 22)) := (Below.refl _ _).alloc (Nat.le_refl _) _
  go_wp2_with fail
  refine (awake_any _).mono ?_
  rintro e w2 ⟨rfl, hb2⟩
  have hA2 := hA1.kept hb2
  have hbel := hb1.trans (hb2.mono hb1.size)
  have HX2 := Lib.hid (HX.out.below hbel)
  clear hA1 hb1 hb2 HX
  by_cases hlong : 400 < n
  · go_wp2
    go_ret
    exact ⟨rfl, hbel⟩
  · go_wp2_with (refine load_arr rfl 22 _ rfl .u8 w.heap.size 32 _ 5 Try.underlying22 Try.size22 rfl hA2 ?_)
    refine (rTag_any K HK.out _ f n _ HX2.out (by omega) HF.out).mono ?_
    rintro e w4 ⟨rfl, hb4⟩
    have hA4 := hA2.kept hb4
    have hbel4 := hbel.trans (hb4.mono hbel.size)
    have HX4 := Lib.hid (HX2.out.below hb4)
    have hA4l := hA4.lt
    clear hA2 hb4 hbel HX2
    go_upto_region 7 with (refine store_arr rfl 82 _ _ rfl .u8 w4.heap.size 16 (fun _ => 0) _ Try.size82 rfl rfl (Arr.newAt rfl rfl) ?_)
    refine wp_world (fun w5 => Arr .u8 w5 w4.heap.size 16 (dg 256 (tagN K f n)) ∧ Arr .u8 w5 w.heap.size 32 (dg 256 K) ∧ Rd .u8 w5 (.slice a1 n c1) n f ∧ Below w.heap.size w w5)
      ⟨Arr.setRow (Arr.newAt (n := 16) (f := fun _ => 0) rfl rfl) _ _, Arr.setRowOther (Arr.alloc hA4 _) _ (by omega) _, HX4.out.below (below_setRow' ((Below.refl _ _).alloc (Nat.le_refl _) _) (Nat.le_refl _) _), below_setRow' (hbel4.alloc hbel4.size _) hbel4.size _⟩ ?_
    rintro w5 ⟨hT5, hA5, hX5, hbel5⟩
    have HX5 := Lib.hid hX5
    have HH := Lib.hid (G2.out _ _ hX5)
    have HC := Lib.hid (K3.out _ _ hX5).2
    clear hA4 hA4l hbel4 hX5 HX4
    simp only [Act.put]
    refine region_flow (n := 42) (by kernel_rfl) (by kernel_rfl) (by kernel_rfl) rfl
      (fun i v w => (match i with | 0 | 7 => v = .agg (arr .u8 32 (dg 256 K)) | 1 | 8 | 11 => v = .slice a1 n c1 | 3 | 4 | 15 | 16 => v = .agg (arr .u8 16 (dg 256 (tagN K f n))) | 5 | 6 | 17 | 18 | 19 => v = .bool true | 9 | 12 => v = .int .i64 ((ct : Int)) | 10 => v = .slice a1 ct c1 | 13 => v = (.slice la' (n - ct) (c1 - ct)) | _ => True) ∧ (i = 2 → Txt w v 1 (fun _ => n) (fun _ => f)) ∧ (i = 14 → Txt w v 3 (lens3 ct n) (text3 f ct)))
      (fun w w' => Below w.heap.size w w') (fun _ _ h => h) (fun i v w w' h hE => ⟨h.1, fun e => Txt.below (h.2.1 e) hE, fun e => Txt.below (h.2.2 e) hE⟩) ?_ ?_
    · refine Each.all ?_
      refine ⟨?_, ?_, ?_, ?_, ?_, ?_, ?_, ?_, ?_, ?_, ?_, ?_, ?_, ?_, ?_, ?_, ?_, ?_, ?_, ?_, trivial⟩
      · intro a w2 hB hF hd
        rw [if_pos (wanted_none rfl)]
        exact flow_val (fun h => by cases h) (run_load_str rfl Try.underlying22 rfl Try.size22 (hF.same 3 rfl) (hA5.below hB hA5.lt)) ⟨rfl, fun h => absurd h (by decide), fun h => absurd h (by decide)⟩
      · intro a w2 hB hF hd
        rw [if_pos (wanted_none rfl)]
        exact flow_move _ (.inl rfl) (by simp) ⟨(hF.same 1 rfl), fun h => absurd h (by decide), fun h => absurd h (by decide)⟩
      · intro a w2 hB hF hd
        rw [if_pos (wanted_none rfl)]
        exact flow_lits 61 50 1 _ [.slice a1 n c1] rfl Try.underlying61 (by kernel_rfl) (by kernel_rfl) rfl (by decide) (by decide) (by intro v hv; simp only [List.mem_cons, List.not_mem_nil, or_false] at hv; rcases hv with rfl <;> rfl) (by simp only [List.map_toArray, List.map_cons, List.map_nil, show a.eval (Operand.tmp 24) = .slice a1 n c1 from ((hd 1 _ rfl (waits_spec rfl)).1)]; rfl) (by simp) ⟨trivial, fun _ => ((new1 HX5.out hB)), fun h => absurd h (by decide)⟩
      · intro a w2 hB hF hd
        rw [if_pos (wanted_none rfl)]
        refine flow_call _ _ _ rfl Try.call59 _ (args2 ((hd 0 _ rfl (waits_spec rfl)).1) rfl) (by simp) ((tag_any K HK.out _ 1 (fun _ => n) (fun _ => f) f n w2 ((hd 2 _ rfl (waits_spec rfl)).2.1 rfl) (cut1 (f := f)).1 (cut1 (f := f)).2 (by omega) HF.out).mono ?_)
        rintro e w3 ⟨rfl, hb⟩; exact ⟨_, rfl, ⟨rfl, fun h => absurd h (by decide), fun h => absurd h (by decide)⟩, hb⟩
      · intro a w2 hB hF hd
        rw [if_pos (wanted_none rfl)]
        exact flow_val (fun h => by cases h) (run_load_str rfl Try.underlying82 rfl Try.size82 (hF.same 8 rfl) (hT5.below hB hT5.lt)) ⟨rfl, fun h => absurd h (by decide), fun h => absurd h (by decide)⟩
      · intro a w2 hB hF hd
        rw [if_pos (wanted_none rfl)]
        exact flow_val (fun h => by cases h) (run_eql_arr true rfl ((hd 3 _ rfl (waits_spec rfl)).1) ((hd 4 _ rfl (waits_spec rfl)).1) Try.underlying82 (by kernel_rfl) (by kernel_rfl) (by kernel_rfl) (by kernel_rfl) (by kernel_rfl) sameB_self) ⟨rfl, fun h => absurd h (by decide), fun h => absurd h (by decide)⟩
      · intro a w2 hB hF hd
        rw [if_pos (wanted_none rfl)]
        exact flow_move _ (.inl rfl) (by simp) ⟨((hd 5 _ rfl (waits_spec rfl)).1), fun h => absurd h (by decide), fun h => absurd h (by decide)⟩
      · intro a w2 hB hF hd
        refine flow_wanted (wanted_yes rfl rfl ((hd 6 _ rfl (waits_spec rfl)).1) rfl) ?_
        exact flow_val (fun h => by cases h) (run_load_str rfl Try.underlying22 rfl Try.size22 (hF.same 3 rfl) (hA5.below hB hA5.lt)) ⟨rfl, fun h => absurd h (by decide), fun h => absurd h (by decide)⟩
      · intro a w2 hB hF hd
        refine flow_wanted (wanted_yes rfl rfl ((hd 6 _ rfl (waits_spec rfl)).1) rfl) ?_
        exact flow_move _ (.inl rfl) (by simp) ⟨(hF.same 1 rfl), fun h => absurd h (by decide), fun h => absurd h (by decide)⟩
      · intro a w2 hB hF hd
        refine flow_wanted (wanted_yes rfl rfl ((hd 6 _ rfl (waits_spec rfl)).1) rfl) ?_
        exact flow_move _ (.inl rfl) (by simp) ⟨(hF.same 7 rfl), fun h => absurd h (by decide), fun h => absurd h (by decide)⟩
      · intro a w2 hB hF hd
        refine flow_wanted (wanted_yes rfl rfl ((hd 6 _ rfl (waits_spec rfl)).1) rfl) ?_
        exact flow_val (fun h => by cases h) (run_slice_part rfl ((hd 8 _ rfl (waits_spec rfl)).1) (by simp only [Option.map_some, Option.map_none, show a.eval (Operand.tmp 32) = .int .i64 ((ct : Int)) from ((hd 9 _ rfl (waits_spec rfl)).1)]; exact G1.out _)) ⟨rfl, fun h => absurd h (by decide), fun h => absurd h (by decide)⟩
      · intro a w2 hB hF hd
        refine flow_wanted (wanted_yes rfl rfl ((hd 6 _ rfl (waits_spec rfl)).1) rfl) ?_
        exact flow_move _ (.inl rfl) (by simp) ⟨(hF.same 1 rfl), fun h => absurd h (by decide), fun h => absurd h (by decide)⟩
      · intro a w2 hB hF hd
        refine flow_wanted (wanted_yes rfl rfl ((hd 6 _ rfl (waits_spec rfl)).1) rfl) ?_
        exact flow_move _ (.inl rfl) (by simp) ⟨(hF.same 7 rfl), fun h => absurd h (by decide), fun h => absurd h (by decide)⟩
      · intro a w2 hB hF hd
        refine flow_wanted (wanted_yes rfl rfl ((hd 6 _ rfl (waits_spec rfl)).1) rfl) ?_
        exact flow_val (fun h => by cases h) (run_slice_part rfl ((hd 11 _ rfl (waits_spec rfl)).1) (by simp only [Option.map_some, Option.map_none, show a.eval (Operand.tmp 35) = .int .i64 ((ct : Int)) from ((hd 12 _ rfl (waits_spec rfl)).1)]; exact K2.out _)) ⟨rfl, fun h => absurd h (by decide), fun h => absurd h (by decide)⟩
      · intro a w2 hB hF hd
        refine flow_wanted (wanted_yes rfl rfl ((hd 6 _ rfl (waits_spec rfl)).1) rfl) ?_
        exact flow_lits 61 50 3 _ [.slice a1 ct c1, .slice none 0 0, (.slice la' (n - ct) (c1 - ct))] rfl Try.underlying61 (by kernel_rfl) (by kernel_rfl) rfl (by decide) (by decide) (by intro v hv; simp only [List.mem_cons, List.not_mem_nil, or_false] at hv; rcases hv with rfl | rfl | rfl <;> rfl) (by simp only [List.map_toArray, List.map_cons, List.map_nil, show a.eval (Operand.tmp 33) = .slice a1 ct c1 from ((hd 10 _ rfl (waits_spec rfl)).1), show a.eval (Operand.const (Value.slice none 0 0)) = .slice none 0 0 from rfl, show a.eval (Operand.tmp 36) = (.slice la' (n - ct) (c1 - ct)) from ((hd 13 _ rfl (waits_spec rfl)).1)]; rfl) (by simp) ⟨trivial, fun h => absurd h (by decide), fun _ => ((new3 HH.out HC.out hB))⟩
      · intro a w2 hB hF hd
        refine flow_wanted (wanted_yes rfl rfl ((hd 6 _ rfl (waits_spec rfl)).1) rfl) ?_
        refine flow_call _ _ _ rfl Try.call59 _ (args2 ((hd 7 _ rfl (waits_spec rfl)).1) rfl) (by simp) ((tag_any K HK.out _ 3 (lens3 ct n) (text3 f ct) f n w2 ((hd 14 _ rfl (waits_spec rfl)).2.2 rfl) (cut3 (f := f) hin).1 (cut3 (f := f) hin).2 (by omega) HF.out).mono ?_)
        rintro e w3 ⟨rfl, hb⟩; exact ⟨_, rfl, ⟨rfl, fun h => absurd h (by decide), fun h => absurd h (by decide)⟩, hb⟩
      · intro a w2 hB hF hd
        refine flow_wanted (wanted_yes rfl rfl ((hd 6 _ rfl (waits_spec rfl)).1) rfl) ?_
        exact flow_val (fun h => by cases h) (run_load_str rfl Try.underlying82 rfl Try.size82 (hF.same 8 rfl) (hT5.below hB hT5.lt)) ⟨rfl, fun h => absurd h (by decide), fun h => absurd h (by decide)⟩
      · intro a w2 hB hF hd
        refine flow_wanted (wanted_yes rfl rfl ((hd 6 _ rfl (waits_spec rfl)).1) rfl) ?_
        exact flow_val (fun h => by cases h) (run_eql_arr true rfl ((hd 15 _ rfl (waits_spec rfl)).1) ((hd 16 _ rfl (waits_spec rfl)).1) Try.underlying82 (by kernel_rfl) (by kernel_rfl) (by kernel_rfl) (by kernel_rfl) (by kernel_rfl) sameB_self) ⟨rfl, fun h => absurd h (by decide), fun h => absurd h (by decide)⟩
      · intro a w2 hB hF hd
        rw [if_pos (wanted_none rfl)]
        exact flow_val (fun h => by cases h) (run_pick rfl ((hd 6 _ rfl (waits_spec rfl)).1)) ⟨(((hd 17 _ rfl (waits_spec rfl)).1)), fun h => absurd h (by decide), fun h => absurd h (by decide)⟩
      · intro a w2 hB hF hd
        rw [if_pos (wanted_none rfl)]
        exact flow_move _ (.inr rfl) (by simp) ⟨((hd 18 _ rfl (waits_spec rfl)).1), fun h => absurd h (by decide), fun h => absurd h (by decide)⟩
    · intro a w6 hB hF hS
      obtain ⟨x25, hx25⟩ : ∃ x, x = a.tmps.getD 25 undef := ⟨_, rfl⟩
      obtain ⟨x37, hx37⟩ : ∃ x, x = a.tmps.getD 37 undef := ⟨_, rfl⟩
      have ha := puts_each rfl rfl hF [_, _, x25, _, _, _, _, _, _, _, _, _, _, _, x37, _, _, _, _, _] rfl ⟨(hS 0 _ rfl).1, (hS 1 _ rfl).1, hx25.symm, (hS 3 _ rfl).1, (hS 4 _ rfl).1, (hS 5 _ rfl).1, (hS 6 _ rfl).1, (hS 7 _ rfl).1, (hS 8 _ rfl).1, (hS 9 _ rfl).1, (hS 10 _ rfl).1, (hS 11 _ rfl).1, (hS 12 _ rfl).1, (hS 13 _ rfl).1, hx37.symm, (hS 15 _ rfl).1, (hS 16 _ rfl).1, (hS 17 _ rfl).1, (hS 18 _ rfl).1, (hS 19 _ rfl).1, trivial⟩
      simp only [puts, Act.put, List.setIfInBounds_toArray, List.set_cons_succ, List.set_cons_zero] at ha
      subst ha
      clear hx25 hx37
      clear hS hF
      have hb6 := hbel5.trans (hB.mono hbel5.size)
      clear hA5 hT5 hbel5 hB
      go_wp2
      go_ret
      exact ⟨rfl, hb6⟩
end Go.Proofs.Ytjmagojmfiabfaa
