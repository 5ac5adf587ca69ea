/-
  Part 22 of the texts that the proof of PointLaws rests on, one after the other. Conditions: named in each theorem.
-/
import Derived.Test.YtdhejcaapdhhfaaPkPointLaws19
import Derived.Test.YtdhejcaapdhhfaaPkPointLaws21
set_option linter.unusedVariables false
set_option linter.unusedSimpArgs false
namespace Go.Bas
theorem and_128p (x : Int) (h0 : 0 ≤ x) (h1 : x < 256) : bits .and .u8 x 128 = x / 128 * 128 := by
  obtain ⟨n, rfl⟩ := Int.eq_ofNat_of_zero_le h0
  have key : ∀ n : Fin 256, bits .and .u8 ((n.val : Nat) : Int) 128 = (n.val : Int) / 128 * 128 := by decide +kernel
  exact key ⟨n, by omega⟩
theorem and_127p (x : Int) (h0 : 0 ≤ x) (h1 : x < 256) : bits .and .u8 x 127 = x % 128 := by
  obtain ⟨n, rfl⟩ := Int.eq_ofNat_of_zero_le h0
  have key : ∀ n : Fin 256, bits .and .u8 ((n.val : Nat) : Int) 127 = (n.val : Int) % 128 := by decide +kernel
  exact key ⟨n, by omega⟩
theorem one_dy0 (o d x : Fp) (ho : o ≠ 0) (hx : x = 0) (h : o + d * (x * x) = 0) : False := by
  have e : o + d * (x * x) = o := by rw [hx]; clear h ho; grind
  exact ho (e.symm.trans h)
theorem one_dy_ne (y : Fp) : 1 + dE * (y * y) ≠ 0 := by
  intro h
  have h1 := fp_one_ne
  have hy : y ≠ 0 := by
    intro hy
    exact one_dy0 1 dE y h1 hy h
  have hi := inv_mul hy
  apply dE_sq (iE * inv y)
  have hs := iE_sq
  generalize dE = d at *
  generalize iE = i at *
  generalize inv y = z at *
  clear h1
  grind
theorem on_of {x y d i : Fp} (h : x * x = (y * y - 1) * i) (hi : (d * (y * y) + 1) * i = 1) : y ^ 2 - x ^ 2 = 1 + d * x ^ 2 * y ^ 2 := by grind
theorem split255 {A : Int} (h0 : 0 ≤ A) (h1 : A < 2 ^ 256) : A = A % 2 ^ 255 + A / 2 ^ 255 * 2 ^ 255 ∧ 0 ≤ A % 2 ^ 255 ∧ A % 2 ^ 255 < 2 ^ 255 ∧ (A / 2 ^ 255 = 0 ∨ A / 2 ^ 255 = 1) := by omega
theorem low255 {A : Int} (h0 : 0 ≤ A) (h1 : A < 2 ^ 256) : ∀ i, i < 32 → upd (dg 256 A) 31 (dg 256 A 31 % 128) i = dg 256 (A % 2 ^ 255) i := by
  intro i hi
  obtain ⟨e, y0, y1, hb⟩ := split255 h0 h1
  obtain ⟨Y, hY⟩ : ∃ Y, Y = A % 2 ^ 255 := ⟨_, rfl⟩
  rw [← hY] at e y0 y1 ⊢
  have ht := top_small Y y0 y1
  rcases hb with hb | hb
  · rw [hb] at e
    have e' : A = Y := by omega
    rw [e']
    unfold upd
    split
    · rename_i h; subst h; omega
    · rfl
  · rw [hb] at e
    have hh := bytes_hi Y y0 y1
    rw [← e] at hh
    have h31 := hh 31 (by decide)
    have hi' := hh i hi
    unfold upd at *
    split
    · rename_i h; subst h
      rw [if_pos rfl] at h31
      omega
    · rename_i h
      rw [if_neg h] at hi'
      exact hi'.symm
theorem top255 {A : Int} (h0 : 0 ≤ A) (h1 : A < 2 ^ 256) : dg 256 A 31 / 128 = A / 2 ^ 255 := by
  show A / 256 ^ 31 % 256 / 128 = A / 2 ^ 255
  omega
end Go.Bas
namespace Go.Proofs.Ytdhejcaapdhhfaa
open Go.RowKit Go.Bas Go.ChangeShapes
attribute [local go_sem ↓] Go.wp_at_zero Go.wp_at_succ
theorem same_less {Y : Int} (h0 : 0 ≤ Y) (h1 : Y < 2 ^ 255) : sameB 32 (dg 256 (Y % Pr)) (dg 256 Y) = decide (Y < Pr) := by
  by_cases h : Y < Pr
  · rw [Int.emod_eq_of_lt h0 h, decide_eq_true h]; exact sameB_self
  · rw [decide_eq_false h]
    refine sameB_no fun e => h ?_
    have h2 := sm_congr (B := 256) (n := 32) e
    rw [sm_dg (by decide), sm_dg (by decide)] at h2
    have hm := modP Y
    have e1 : Y % Pr % 256 ^ 32 = Y % Pr := Int.emod_eq_of_lt hm.1 (by have : Pr < 256 ^ 32 := by decide
                                                                       omega)
    have e2 : Y % 256 ^ 32 = Y := Int.emod_eq_of_lt h0 (by omega)
    rw [e1, e2] at h2
    omega
/-- a point whose first part is a root. -/
theorem fst_point {X Y : Int} (h : X * X % Pr = fstN Y % Pr) : ∃ p : Ed C7, toF X = p.x ∧ toF Y = p.y := by
  have h2 := toF_eq.2 h
  unfold fstN invN at h2
  rw [toF_mul, toF_mul, toF_inv] at h2
  simp only [toF_sub, toF_add, toF_mul, toF_one, toF_dN] at h2
  have hi := inv_mul (x := dE * (toF Y * toF Y) + 1) (by
    have h3 := one_dy_ne (toF Y)
    intro e; apply h3
    generalize toF Y = y at *
    generalize dE = d at *
    grind)
  exact ⟨⟨toF X, toF Y, on_of h2 hi⟩, rfl, rfl⟩
/-- which bytes are a point. -/
def ofOk (A : Int) : Prop := A % 2 ^ 255 < Pr ∧ isSq (fstN (A % 2 ^ 255)) = true ∧ ¬ (fstN (A % 2 ^ 255) % Pr = 0 ∧ A / 2 ^ 255 = 1)
theorem of_bytes {A R Y : Int} (h0 : 0 ≤ A) (h1 : A < 2 ^ 256) (hy : Y = A % 2 ^ 255) (hY : Y < Pr) (hR : R * R % Pr = fstN Y % Pr) (he : R % Pr % 2 = 0) (hz : ¬ (R % Pr = 0 ∧ A / 2 ^ 255 = 1)) :
    ∃ p : Ed C7, toF (if A / 2 ^ 255 = 1 then -R else R) = p.x ∧ toF Y = p.y ∧ bytesN p = A := by
  obtain ⟨e, y0, y1, hb⟩ := split255 h0 h1
  rw [← hy] at e y0 y1
  have hyy : ∀ p : Ed C7, toF Y = p.y → edY p = Y := fun p h => by unfold edY; rw [← h, toF_val]; exact Int.emod_eq_of_lt y0 hY
  have hxx : ∀ (p : Ed C7) (X : Int), toF X = p.x → edX p = X % Pr := fun p X h => by unfold edX; rw [← h, toF_val]
  have hm := modP R
  by_cases ho : A / 2 ^ 255 = 1
  · rw [if_pos ho]
    have hR2 : -R * -R % Pr = fstN Y % Pr := by rw [Int.neg_mul_neg]; exact hR
    obtain ⟨p, hx, hp⟩ := fst_point hR2
    refine ⟨p, hx, hp, ?_⟩
    unfold bytesN
    have e3 : -R % Pr = Pr - R % Pr := by
      have e1 : -R % Pr = (Pr - R % Pr) % Pr := mod_eq_of (c := -(R / Pr) - 1) (by have := Int.emod_add_mul_ediv R Pr; rw [Int.mul_sub, Int.mul_neg]; omega)
      have hn : R % Pr ≠ 0 := fun h => hz ⟨h, ho⟩
      rw [e1]
      exact Int.emod_eq_of_lt (by omega) (by omega)
    rw [hyy p hp, hxx p _ hx, e3]
    have hp2 : Pr % 2 = 1 := by decide
    rw [show (Pr - R % Pr) % 2 = 1 by omega, ← ho]
    omega
  · rw [if_neg ho]
    obtain ⟨p, hx, hp⟩ := fst_point hR
    refine ⟨p, hx, hp, ?_⟩
    unfold bytesN
    rw [hyy p hp, hxx p _ hx, he]
    omega
theorem root_zero {R Y : Int} (hR : R * R % Pr = fstN Y % Pr) : R % Pr = 0 ↔ fstN Y % Pr = 0 := by
  have h2 := toF_eq.2 hR
  constructor
  · intro h
    have h3 : toF R = 0 := by rw [← toF_zero]; exact toF_eq.2 h
    have h4 : toF (fstN Y) = toF 0 := by rw [← h2, toF_mul, h3, toF_zero]; decide
    exact toF_eq.1 h4
  · intro h
    have h3 : toF (fstN Y) = 0 := by rw [← toF_zero]; exact toF_eq.2 h
    rw [h3, toF_mul] at h2
    have h4 : toF R = toF 0 := by rw [toF_zero]; exact (fp_mul_zero h2).elim id id
    exact toF_eq.1 h4
theorem first_any (f : Nat → Int) (Y : Int) (hf : Fe f Y) : ∃ H R, Fe H R ∧ (isSq (fstN Y) = true → R * R % Pr = fstN Y % Pr ∧ R % Pr % 2 = 0) ∧ ∀ w, Calls Try.prog 53 #[El f] w fun e w' => e = .returned (.tuple #[El H, .bool (isSq (fstN Y))]) ∧ Below w.heap.size w w' := by
  cases hq : isSq (fstN Y)
  · exact ⟨fun _ => 0, 0, fe_zero, fun h => (by cases h), fun w => pFirst_no f Y hf hq w⟩
  · obtain ⟨R, h1, h2, h3⟩ := rootF_ok (fe_fst hf) hq
    exact ⟨_, R, h1, fun _ => ⟨h2, h3⟩, fun w => pFirst_yes f Y hf hq w⟩
theorem build_p0 {a : Act} (w : World) : (Instr.build 28 ((#[] : Array (Nat × Operand)).map fun (i, x) => (i, a.eval x))).run Try.prog w = .ok (.agg (arr .i64 64 (fun _ => 0))) w := Go.run_build w _ _ _ (by kernel_rfl)
/-- what Of answers. -/
def OfR (A : Int) (r : Value) (c : Int) : Prop := (c = 0 ∧ ofOk A ∧ ∃ p : Ed C7, NPt r p ∧ bytesN p = A) ∨ (c = 21 ∧ r = .agg (arr .i64 64 (fun _ => 0)) ∧ ¬ ofOk A)

set_option maxRecDepth 100000 in
set_option maxHeartbeats 6400000 in
theorem pOf_any (A : Int) (h0 : 0 ≤ A) (h1 : A < 2 ^ 256) (w : World) :
    Calls Try.prog 22 #[.agg (arr .u8 32 (dg 256 A))] w fun e w' => ∃ r c, e = .returned (.tuple #[r, .int .i64 c]) ∧ OfR A r c ∧ Below w.heap.size w w' := by
  obtain ⟨eA, y0, y1, hb⟩ := split255 h0 h1
  have HL := Lib.hid (low255 h0 h1)
  have HT := Lib.hid (top255 h0 h1)
  have HB := Lib.hid (fun R (hY : A % 2 ^ 255 < Pr) => of_bytes (A := A) (R := R) h0 h1 rfl hY)
  have HOKd : Hid (ofOk A ↔ A % 2 ^ 255 < Pr ∧ isSq (fstN (A % 2 ^ 255)) = true ∧ ¬ (fstN (A % 2 ^ 255) % Pr = 0 ∧ A / 2 ^ 255 = 1)) := Iff.rfl
  obtain ⟨Y, hY⟩ : ∃ Y, Y = A % 2 ^ 255 := ⟨_, rfl⟩
  rw [← hY] at y0 y1 HL HB HOKd
  have HOF : Hid (∀ w, Calls Try.prog 65 #[.agg (arr .u8 32 (dg 256 Y))] w fun e w' => e = .returned (.agg (arr .i64 16 (dg 65536 Y))) ∧ Below w.heap.size w w') := fun w => by
    have h := feOf_any Y w
    rwa [Int.emod_eq_of_lt y0 y1] at h
  have HF : Hid (Fe (dg 65536 Y) Y) := by have h := feOf_fe Y; rwa [Int.emod_eq_of_lt y0 y1] at h
  have HSL := Lib.hid (same_less y0 y1)
  obtain ⟨H, R, hfh, hrt, hfst⟩ := first_any _ Y HF.out
  have HFH := Lib.hid hfh
  have HRT := Lib.hid hrt
  have HFST := Lib.hid hfst
  have HEQ : Hid (∀ w, Calls Try.prog 59 #[.agg (arr .i64 16 H), .agg (arr .i64 16 (smallF 0))] w fun e w' => e = .returned (.bool (eqP R 0)) ∧ Below w.heap.size w w') := fun w => feEqual_any _ _ _ _ HFH.out fe_s0 w
  have HP0 := Lib.hid (fun (a : Act) w => build_p0 (a := a) w)
  obtain ⟨ok, hok⟩ : ∃ ok, ok = isSq (fstN Y) := ⟨_, rfl⟩
  rw [← hok] at HFST HRT HOKd
  obtain ⟨ze, hze⟩ : ∃ ze, ze = eqP R 0 := ⟨_, rfl⟩
  rw [← hze] at HEQ
  obtain ⟨od, hod⟩ : ∃ od, od = decide (A / 2 ^ 255 = 1) := ⟨_, rfl⟩
  obtain ⟨lt, hlt⟩ : ∃ lt, lt = decide (Y < Pr) := ⟨_, rfl⟩
  rw [← hlt] at HSL
  have HZE := Lib.hid hze
  have HOD := Lib.hid hod
  have HLT := Lib.hid hlt
  have HBB := Lib.hid hb
  clear hfh hrt hfst hok hze hod hlt h0 h1 eA hb hY
  obtain ⟨dd, hdd⟩ : ∃ dd, dd = dg 256 A 31 := ⟨_, rfl⟩
  obtain ⟨g0, g1⟩ : 0 ≤ dd ∧ dd < 256 := by rw [hdd]; exact dg_bound (by decide) _ _
  rw [← hdd] at HL HT
  have HDD := Lib.hid hdd
  have hn128 : ((dd / 128 * 128) != 0) = od := by
    rw [HOD.out, HT.out]
    rcases HBB.out with h | h <;> rw [h] <;> decide
  have h128 := and_128p dd g0 g1
  have h127 := and_127p dd g0 g1
  have H128 := Lib.hid h128
  have HN128 := Lib.hid hn128
  clear hdd hn128 h128
  go_enter Try.func22, Try.ntmps22
  go_upto_region 1 with (fail)
  refine wp_world (fun w1 => Arr .u8 w1 w.heap.size 32 (dg 256 A) ∧ Arr .i64 w1 (w.heap.size + 1) 64 (fun _ => 0) ∧ Below w.heap.size w w1) ⟨.alloc (Arr.newAt rfl rfl) _, Arr.newAt (by first | omega | (simp <;> omega)) (by rfl), ((Below.refl _ _).alloc (Nat.le_refl _) _).alloc (by first | omega | (simp <;> omega)) _⟩ ?_
  rintro w1 ⟨h1, h2, hbel⟩
  have c31 := h1.cell 31 (by decide)
  rw [← HDD.out] at c31
  have hl1 := h1.lt
  refine region_flow (n := 48) (by kernel_rfl) (by kernel_rfl) (by kernel_rfl) rfl
    (fun ii vv _ => (match ii with | 0 => vv = .pointer (some ⟨w.heap.size, 31, none⟩) | 1 => vv = .int .u8 (dd) | 2 => vv = .int .u8 (dd / 128 * 128) | 3 | 4 => vv = .bool od | _ => True))
    (fun w w' => Below w.heap.size w w') (fun _ _ h => h) (fun _ _ _ _ h _ => h) ?_ ?_
  · refine Each.all ?_
    refine ⟨?_, ?_, ?_, ?_, ?_, trivial⟩
    · intro a w2 hB hF hd
      rw [if_pos (wanted_none rfl)]
      exact flow_val (fun h => by cases h) (run_index_addr rfl (hF.same 1 rfl) rfl Try.underlying22 (by kernel_rfl) (by decide) (by decide)) rfl
    · intro a w2 hB hF hd
      rw [if_pos (wanted_none rfl)]
      exact flow_val (fun h => by cases h) (run_load_cell rfl (hd 0 _ rfl (waits_spec rfl)) Try.underlying5 ((hB.cell (p := ⟨w.heap.size, 31, none⟩) hl1).trans c31)) rfl
    · intro a w2 hB hF hd
      rw [if_pos (wanted_none rfl)]
      exact flow_val (fun h => by cases h) (Go.Bas.run_and rfl (hd 1 _ rfl (waits_spec rfl)) rfl) (congrArg (Value.int .u8) (H128.out))
    · intro a w2 hB hF hd
      rw [if_pos (wanted_none rfl)]
      exact flow_val (fun h => by cases h) (Go.Bas.run_neq_int rfl (hd 2 _ rfl (waits_spec rfl)) rfl) (congrArg Value.bool (HN128.out))
    · intro a w2 hB hF hd
      rw [if_pos (wanted_none rfl)]
      exact flow_move _ (.inr rfl) (by simp) (hd 3 _ rfl (waits_spec rfl))
  · intro a w2 hB hF hS
    have ha := puts_each rfl rfl hF [_, _, _, _, _] rfl ⟨hS 0 _ rfl, hS 1 _ rfl, hS 2 _ rfl, hS 3 _ rfl, hS 4 _ rfl, trivial⟩
    simp only [puts, Act.put, List.setIfInBounds_toArray, List.set_cons_succ, List.set_cons_zero] at ha
    subst ha
    clear hS hF
    replace h1 := h1.kept hB
    replace h2 := h2.kept hB
    replace hbel := hbel.trans (hB.mono hbel.size)
    have e31 := h1.cell 31 (by decide)
    rw [← HDD.out] at e31
    have f31 := h1.free 31
    clear hB c31 hl1
    go_upto_region 3 with (fail)
    refine wp_world (fun w3 => Arr .u8 w3 w.heap.size 32 (dg 256 Y) ∧ Arr .i64 w3 (w.heap.size + 1) 64 (fun _ => 0) ∧ Below w.heap.size w w3) ⟨(h1.set 31 (dd % 128)).congr HL.out, h2.other (by simp) _, hbel.setCell (Nat.le_refl _) _⟩ ?_
    clear h1 h2 hbel e31 f31 h127 g0 g1
    rintro w3 ⟨h1, h2, hbel⟩
    have hl2 := h2.lt
    try simp only [Act.put, List.setIfInBounds_toArray, List.set_cons_succ, List.set_cons_zero]
    refine region_vars (n := 48) (by kernel_rfl) (by kernel_rfl) (by kernel_rfl) rfl
      (isAl [(3, 2)]) (putOf [(3, 2)]) (fun _ => arr .i64 16 (fun _ => 0)) (fun _ => (arr .i64 16 (dg 65536 Y))) (fun _ => 26) (fun _ => 5)
      (fun ii vv _ => (match ii with | 0 => vv = .agg (arr .u8 32 (dg 256 Y)) | 1 => vv = .agg (arr .i64 16 (dg 65536 Y)) | _ => True)) (fun _ _ => True) (fun _ _ _ => trivial) (fun _ _ _ _ _ _ _ => trivial) (fun _ _ _ _ h _ => h)
      (vs_al rfl) (vs_inj rfl) ?_ ?_ ?_ ?_
    · refine Each.all ?_
      refine ⟨?_, ?_, (fun h => by cases h), (fun _ h => by cases h), trivial⟩
      · intro _ _ a w2 hB hF hd
        rw [if_pos (wanted_none rfl)]
        exact flow_val (fun h => by cases h) (run_load_str rfl Try.underlying22 rfl Try.size22 (hF.same 1 rfl) (h1.below hB h1.lt)) rfl
      · intro _ _ a w2 hB hF hd
        rw [if_pos (wanted_none rfl)]
        refine flow_call _ _ _ rfl Try.call65 _ (args1 (hd 0 _ rfl rfl rfl (waits_spec rfl))) (by simp) ((HOF.out w2).mono ?_)
        rintro e w3 ⟨rfl, hb⟩; exact ⟨_, rfl, rfl, hb⟩
    · refine Each.all ?_
      refine ⟨(fun h => by cases h), (fun h => by cases h), ?_, (fun h => by cases h), trivial⟩
      · exact fun _ => ⟨rfl, rfl, fun a w2 K h => flow_alloc rfl rfl Try.zeroValue26 (by simp) h⟩
    · refine Each.all ?_
      refine ⟨(fun _ h => by cases h), (fun _ h => by cases h), (fun _ h => by cases h), ?_, trivial⟩
      · intro p hp
        obtain rfl : 2 = p := Option.some.inj hp
        exact ⟨rfl, rfl, ⟨_, rfl⟩, waits_spec rfl, fun a w2 b K hB hF hd hx hb h => flow_put rfl rfl Try.size26 hx (hd 1 _ rfl rfl rfl (waits_spec rfl)) hb h⟩
    · intro a w4 blk hB hF hS hv hfin hdis
      obtain ⟨v2, v2l, v2u⟩ := hv 2 _ rfl rfl
      have ha := puts_each rfl rfl hF [_, _, _, undef] rfl ⟨hS 0 _ rfl rfl rfl, hS 1 _ rfl rfl rfl, v2, trivial, trivial⟩
      have f2 := hfin 3 _ 2 rfl rfl
      simp only [puts, Act.put, List.setIfInBounds_toArray, List.set_cons_succ, List.set_cons_zero] at ha
      subst ha
      have V2 : Arr .i64 w4 (blk 2) 16 (dg 65536 Y) := ⟨_, f2⟩
      clear hS hv hfin hdis hF v2 f2
      replace h1 := h1.kept hB
      replace h2 := h2.kept hB
      replace hbel := hbel.trans (hB.mono hbel.size)
      obtain ⟨x5, e5⟩ : ∃ x, x = blk 2 := ⟨_, rfl⟩
      rw [← e5] at V2 v2l ⊢
      have h5 := V2
      have l5 : w.heap.size + 1 < x5 := by omega
      have hl5 := h5.lt
      clear hB v2l v2u V2 e5 hl2
      go_upto_region 4 with (fail)
      refine region_vars (n := 48) (by kernel_rfl) (by kernel_rfl) (by kernel_rfl) rfl
        (isAl [(6, 5)]) (putOf [(6, 5)]) (fun _ => arr .i64 16 (fun _ => 0)) (fun _ => (arr .i64 16 (H))) (fun _ => 26) (fun _ => 6)
        (fun ii vv _ => (match ii with | 0 => vv = .agg (arr .i64 16 (dg 65536 Y)) | 1 | 2 => vv = .tuple #[.agg (arr .i64 16 (H)), .bool ok] | 3 => vv = .agg (arr .i64 16 (H)) | 4 | 7 => vv = .bool ok | _ => True)) (fun _ _ => True) (fun _ _ _ => trivial) (fun _ _ _ _ _ _ _ => trivial) (fun _ _ _ _ h _ => h)
        (vs_al rfl) (vs_inj rfl) ?_ ?_ ?_ ?_
      · refine Each.all ?_
        refine ⟨?_, ?_, ?_, ?_, ?_, (fun h => by cases h), (fun _ h => by cases h), ?_, trivial⟩
        · intro _ _ a w2 hB hF hd
          rw [if_pos (wanted_none rfl)]
          exact flow_val (fun h => by cases h) (run_load_str rfl Try.underlying26 rfl Try.size26 (hF.same 5 rfl) (h5.below hB h5.lt)) rfl
        · intro _ _ a w2 hB hF hd
          rw [if_pos (wanted_none rfl)]
          refine flow_call _ _ _ rfl Try.call53 _ (args1 (hd 0 _ rfl rfl rfl (waits_spec rfl))) (by simp) ((HFST.out w2).mono ?_)
          rintro e w3 ⟨rfl, hb⟩; exact ⟨_, rfl, rfl, hb⟩
        · intro _ _ a w2 hB hF hd
          rw [if_pos (wanted_none rfl)]
          exact flow_move _ (.inl rfl) (by simp) (hd 1 _ rfl rfl rfl (waits_spec rfl))
        · intro _ _ a w2 hB hF hd
          rw [if_pos (wanted_none rfl)]
          exact flow_val (fun h => by cases h) (run_extract rfl (hd 2 _ rfl rfl rfl (waits_spec rfl)) rfl) rfl
        · intro _ _ a w2 hB hF hd
          rw [if_pos (wanted_none rfl)]
          exact flow_val (fun h => by cases h) (run_extract rfl (hd 2 _ rfl rfl rfl (waits_spec rfl)) rfl) rfl
        · intro _ _ a w2 hB hF hd
          rw [if_pos (wanted_none rfl)]
          exact flow_move _ (.inr rfl) (by simp) (hd 4 _ rfl rfl rfl (waits_spec rfl))
      · refine Each.all ?_
        refine ⟨(fun h => by cases h), (fun h => by cases h), (fun h => by cases h), (fun h => by cases h), (fun h => by cases h), ?_, (fun h => by cases h), (fun h => by cases h), trivial⟩
        · exact fun _ => ⟨rfl, rfl, fun a w2 K h => flow_alloc rfl rfl Try.zeroValue26 (by simp) h⟩
      · refine Each.all ?_
        refine ⟨(fun _ h => by cases h), (fun _ h => by cases h), (fun _ h => by cases h), (fun _ h => by cases h), (fun _ h => by cases h), (fun _ h => by cases h), ?_, (fun _ h => by cases h), trivial⟩
        · intro p hp
          obtain rfl : 5 = p := Option.some.inj hp
          exact ⟨rfl, rfl, ⟨_, rfl⟩, waits_spec rfl, fun a w2 b K hB hF hd hx hb h => flow_put rfl rfl Try.size26 hx (hd 3 _ rfl rfl rfl (waits_spec rfl)) hb h⟩
      · intro a w5 blk hB hF hS hv hfin hdis
        obtain ⟨v5, v5l, v5u⟩ := hv 5 _ rfl rfl
        have ha := puts_each rfl rfl hF [_, _, _, _, _, _, undef, _] rfl ⟨hS 0 _ rfl rfl rfl, hS 1 _ rfl rfl rfl, hS 2 _ rfl rfl rfl, hS 3 _ rfl rfl rfl, hS 4 _ rfl rfl rfl, v5, trivial, hS 7 _ rfl rfl rfl, trivial⟩
        have f5 := hfin 6 _ 5 rfl rfl
        simp only [puts, Act.put, List.setIfInBounds_toArray, List.set_cons_succ, List.set_cons_zero] at ha
        subst ha
        have V5 : Arr .i64 w5 (blk 5) 16 (H) := ⟨_, f5⟩
        clear hS hv hfin hdis hF v5 f5
        replace h1 := h1.kept hB
        replace h2 := h2.kept hB
        replace h5 := h5.kept hB
        replace hbel := hbel.trans (hB.mono hbel.size)
        obtain ⟨x6, e6⟩ : ∃ x, x = blk 5 := ⟨_, rfl⟩
        rw [← e6] at V5 v5l ⊢
        have h6 := V5
        have l6 : x5 < x6 := by omega
        clear hB v5l v5u V5 e6 hl5
        go_upto_region 5 with (fail)
        refine region_flow (n := 48) (by kernel_rfl) (by kernel_rfl) (by kernel_rfl) rfl
          (fun ii vv _ => (match ii with | 0 => vv = .agg (arr .i64 16 (H)) | 1 => vv = .agg (arr .i64 16 (smallF 0)) | 2 | 3 => vv = .bool ze | _ => True))
          (fun w w' => Below w.heap.size w w') (fun _ _ h => h) (fun _ _ _ _ h _ => h) ?_ ?_
        · refine Each.all ?_
          refine ⟨?_, ?_, ?_, ?_, trivial⟩
          · intro a w2 hB hF hd
            rw [if_pos (wanted_none rfl)]
            exact flow_val (fun h => by cases h) (run_load_str rfl Try.underlying26 rfl Try.size26 (hF.same 6 rfl) (h6.below hB h6.lt)) rfl
          · intro a w2 hB hF hd
            rw [if_pos (wanted_none rfl)]
            refine flow_call _ _ _ rfl Try.call50 _ (args1 rfl) (by simp) ((feSmall_any 0 w2).mono ?_)
            rintro e w3 ⟨rfl, hb⟩; exact ⟨_, rfl, rfl, hb⟩
          · intro a w2 hB hF hd
            rw [if_pos (wanted_none rfl)]
            refine flow_call _ _ _ rfl Try.call59 _ (args2 (hd 0 _ rfl (waits_spec rfl)) (hd 1 _ rfl (waits_spec rfl))) (by simp) ((HEQ.out w2).mono ?_)
            rintro e w3 ⟨rfl, hb⟩; exact ⟨_, rfl, rfl, hb⟩
          · intro a w2 hB hF hd
            rw [if_pos (wanted_none rfl)]
            exact flow_move _ (.inr rfl) (by simp) (hd 2 _ rfl (waits_spec rfl))
        · intro a w6 hB hF hS
          have ha := puts_each rfl rfl hF [_, _, _, _] rfl ⟨hS 0 _ rfl, hS 1 _ rfl, hS 2 _ rfl, hS 3 _ rfl, trivial⟩
          simp only [puts, Act.put, List.setIfInBounds_toArray, List.set_cons_succ, List.set_cons_zero] at ha
          subst ha
          clear hS hF
          replace h1 := h1.kept hB
          replace h2 := h2.kept hB
          replace h5 := h5.kept hB
          replace h6 := h6.kept hB
          replace hbel := hbel.trans (hB.mono hbel.size)
          clear hB
          go_upto_region 6 with (fail)
          cases ok
          case false =>
            refine region_flow (n := 48) (by kernel_rfl) (by kernel_rfl) (by kernel_rfl) rfl
              (fun ii vv _ => (match ii with | 0 => vv = .bool false | 1 | 2 | 7 | 8 | 13 => vv = .bool true | 3 | 4 | 5 | 6 | 9 | 10 | 11 | 12 => vv = undef | _ => True))
              (fun w w' => Below w.heap.size w w') (fun _ _ h => h) (fun _ _ _ _ h _ => h) ?_ ?_
            · refine Each.all ?_
              refine ⟨?_, ?_, ?_, ?_, ?_, ?_, ?_, ?_, ?_, ?_, ?_, ?_, ?_, ?_, trivial⟩
              · intro a w2 hB hF hd
                rw [if_pos (wanted_none rfl)]
                exact flow_move _ (.inl rfl) (by simp) (hF.same 7 rfl)
              · intro a w2 hB hF hd
                rw [if_pos (wanted_none rfl)]
                exact flow_val (fun h => by cases h) (run_not rfl (hd 0 _ rfl (waits_spec rfl))) rfl
              · intro a w2 hB hF hd
                rw [if_pos (wanted_none rfl)]
                exact flow_move _ (.inl rfl) (by simp) (hd 1 _ rfl (waits_spec rfl))
              · intro a w2 hB hF hd
                rw [if_neg (by rw [wanted_some rfl rfl (hd 2 _ rfl (waits_spec rfl))]; decide)]
                exact rfl
              · intro a w2 hB hF hd
                rw [if_neg (by rw [wanted_some rfl rfl (hd 2 _ rfl (waits_spec rfl))]; decide)]
                exact rfl
              · intro a w2 hB hF hd
                rw [if_neg (by rw [wanted_some rfl rfl (hd 2 _ rfl (waits_spec rfl))]; decide)]
                exact rfl
              · intro a w2 hB hF hd
                rw [if_neg (by rw [wanted_some rfl rfl (hd 2 _ rfl (waits_spec rfl))]; decide)]
                exact rfl
              · intro a w2 hB hF hd
                rw [if_pos (wanted_none rfl)]
                exact flow_val (fun h => by cases h) (run_pick rfl (hd 2 _ rfl (waits_spec rfl))) (rfl)
              · intro a w2 hB hF hd
                rw [if_pos (wanted_none rfl)]
                exact flow_move _ (.inl rfl) (by simp) (hd 7 _ rfl (waits_spec rfl))
              · intro a w2 hB hF hd
                rw [if_neg (by rw [wanted_some rfl rfl (hd 8 _ rfl (waits_spec rfl))]; decide)]
                exact rfl
              · intro a w2 hB hF hd
                rw [if_neg (by rw [wanted_some rfl rfl (hd 8 _ rfl (waits_spec rfl))]; decide)]
                exact rfl
              · intro a w2 hB hF hd
                rw [if_neg (by rw [wanted_undef rfl rfl (hd 10 _ rfl (waits_spec rfl))]; decide)]
                exact rfl
              · intro a w2 hB hF hd
                rw [if_neg (by rw [wanted_some rfl rfl (hd 8 _ rfl (waits_spec rfl))]; decide)]
                exact rfl
              · intro a w2 hB hF hd
                rw [if_pos (wanted_none rfl)]
                exact flow_val (fun h => by cases h) (run_pick rfl (hd 8 _ rfl (waits_spec rfl))) (rfl)
            · intro a w7 hB hF hS
              have ha := puts_each rfl rfl hF [_, _, _, _, _, _, _, _, _, _, _, _, _, _] rfl ⟨hS 0 _ rfl, hS 1 _ rfl, hS 2 _ rfl, hS 3 _ rfl, hS 4 _ rfl, hS 5 _ rfl, hS 6 _ rfl, hS 7 _ rfl, hS 8 _ rfl, hS 9 _ rfl, hS 10 _ rfl, hS 11 _ rfl, hS 12 _ rfl, hS 13 _ rfl, trivial⟩
              simp only [puts, Act.put, List.setIfInBounds_toArray, List.set_cons_succ, List.set_cons_zero] at ha
              subst ha
              clear hS hF
              replace h1 := h1.kept hB
              replace h2 := h2.kept hB
              replace h5 := h5.kept hB
              replace h6 := h6.kept hB
              replace hbel := hbel.trans (hB.mono hbel.size)
              clear hB
              go_wp2_with (first | (refine step_val rfl (run_built rfl (HP0.out _ _)) ?_) | (refine store_arr rfl 28 _ _ rfl .i64 (w.heap.size + 1) 64 (fun _ => 0) (fun _ => 0) Try.size28 rfl rfl h2 ?_))
              exact bodyPost_ret (results_str2 rfl _ _ .i64 (w.heap.size + 1) 64 (fun _ => 0) rfl (h2.setRow _ _) Try.underlying28 rfl Try.size28) rfl ⟨_, _, rfl, .inr ⟨rfl, rfl, fun hh => absurd (HOKd.out.1 hh).2.1 (by decide)⟩, below_setRow' hbel (by omega) _⟩
          case true =>
            cases lt
            case false =>
              refine region_flow (n := 48) (by kernel_rfl) (by kernel_rfl) (by kernel_rfl) rfl
                (fun ii vv _ => (match ii with | 0 | 6 | 7 | 8 | 13 => vv = .bool true | 1 | 2 => vv = .bool false | 3 => vv = .agg (arr .i64 16 (dg 65536 Y)) | 4 => vv = .agg (arr .u8 32 (dg 256 (Y % Pr))) | 5 => vv = .agg (arr .u8 32 (dg 256 Y)) | 9 | 10 | 11 | 12 => vv = undef | _ => True))
                (fun w w' => Below w.heap.size w w') (fun _ _ h => h) (fun _ _ _ _ h _ => h) ?_ ?_
              · refine Each.all ?_
                refine ⟨?_, ?_, ?_, ?_, ?_, ?_, ?_, ?_, ?_, ?_, ?_, ?_, ?_, ?_, trivial⟩
                · intro a w2 hB hF hd
                  rw [if_pos (wanted_none rfl)]
                  exact flow_move _ (.inl rfl) (by simp) (hF.same 7 rfl)
                · intro a w2 hB hF hd
                  rw [if_pos (wanted_none rfl)]
                  exact flow_val (fun h => by cases h) (run_not rfl (hd 0 _ rfl (waits_spec rfl))) rfl
                · intro a w2 hB hF hd
                  rw [if_pos (wanted_none rfl)]
                  exact flow_move _ (.inl rfl) (by simp) (hd 1 _ rfl (waits_spec rfl))
                · intro a w2 hB hF hd
                  refine flow_wanted (wanted_yes rfl rfl (hd 2 _ rfl (waits_spec rfl)) rfl) ?_
                  exact flow_val (fun h => by cases h) (run_load_str rfl Try.underlying26 rfl Try.size26 (hF.same 5 rfl) (h5.below hB h5.lt)) rfl
                · intro a w2 hB hF hd
                  refine flow_wanted (wanted_yes rfl rfl (hd 2 _ rfl (waits_spec rfl)) rfl) ?_
                  refine flow_call _ _ _ rfl Try.call56 _ (args1 (hd 3 _ rfl (waits_spec rfl))) (by simp) ((feBytes_any _ _ HF.out w2).mono ?_)
                  rintro e w3 ⟨rfl, hb⟩; exact ⟨_, rfl, rfl, hb⟩
                · intro a w2 hB hF hd
                  refine flow_wanted (wanted_yes rfl rfl (hd 2 _ rfl (waits_spec rfl)) rfl) ?_
                  exact flow_val (fun h => by cases h) (run_load_str rfl Try.underlying22 rfl Try.size22 (hF.same 1 rfl) (h1.below hB h1.lt)) rfl
                · intro a w2 hB hF hd
                  refine flow_wanted (wanted_yes rfl rfl (hd 2 _ rfl (waits_spec rfl)) rfl) ?_
                  exact flow_val (fun h => by cases h) (run_neq_arr false rfl (hd 4 _ rfl (waits_spec rfl)) (hd 5 _ rfl (waits_spec rfl)) Try.underlying22 (by kernel_rfl) (by kernel_rfl) (by kernel_rfl) (by kernel_rfl) (by kernel_rfl) HSL.out) rfl
                · intro a w2 hB hF hd
                  rw [if_pos (wanted_none rfl)]
                  exact flow_val (fun h => by cases h) (run_pick rfl (hd 2 _ rfl (waits_spec rfl))) ((hd 6 _ rfl (waits_spec rfl)))
                · intro a w2 hB hF hd
                  rw [if_pos (wanted_none rfl)]
                  exact flow_move _ (.inl rfl) (by simp) (hd 7 _ rfl (waits_spec rfl))
                · intro a w2 hB hF hd
                  rw [if_neg (by rw [wanted_some rfl rfl (hd 8 _ rfl (waits_spec rfl))]; decide)]
                  exact rfl
                · intro a w2 hB hF hd
                  rw [if_neg (by rw [wanted_some rfl rfl (hd 8 _ rfl (waits_spec rfl))]; decide)]
                  exact rfl
                · intro a w2 hB hF hd
                  rw [if_neg (by rw [wanted_undef rfl rfl (hd 10 _ rfl (waits_spec rfl))]; decide)]
                  exact rfl
                · intro a w2 hB hF hd
                  rw [if_neg (by rw [wanted_some rfl rfl (hd 8 _ rfl (waits_spec rfl))]; decide)]
                  exact rfl
                · intro a w2 hB hF hd
                  rw [if_pos (wanted_none rfl)]
                  exact flow_val (fun h => by cases h) (run_pick rfl (hd 8 _ rfl (waits_spec rfl))) (rfl)
              · intro a w7 hB hF hS
                have ha := puts_each rfl rfl hF [_, _, _, _, _, _, _, _, _, _, _, _, _, _] rfl ⟨hS 0 _ rfl, hS 1 _ rfl, hS 2 _ rfl, hS 3 _ rfl, hS 4 _ rfl, hS 5 _ rfl, hS 6 _ rfl, hS 7 _ rfl, hS 8 _ rfl, hS 9 _ rfl, hS 10 _ rfl, hS 11 _ rfl, hS 12 _ rfl, hS 13 _ rfl, trivial⟩
                simp only [puts, Act.put, List.setIfInBounds_toArray, List.set_cons_succ, List.set_cons_zero] at ha
                subst ha
                clear hS hF
                replace h1 := h1.kept hB
                replace h2 := h2.kept hB
                replace h5 := h5.kept hB
                replace h6 := h6.kept hB
                replace hbel := hbel.trans (hB.mono hbel.size)
                clear hB
                go_wp2_with (first | (refine step_val rfl (run_built rfl (HP0.out _ _)) ?_) | (refine store_arr rfl 28 _ _ rfl .i64 (w.heap.size + 1) 64 (fun _ => 0) (fun _ => 0) Try.size28 rfl rfl h2 ?_))
                exact bodyPost_ret (results_str2 rfl _ _ .i64 (w.heap.size + 1) 64 (fun _ => 0) rfl (h2.setRow _ _) Try.underlying28 rfl Try.size28) rfl ⟨_, _, rfl, .inr ⟨rfl, rfl, fun hh => absurd (HOKd.out.1 hh).1 (of_decide_eq_false HLT.out.symm)⟩, below_setRow' hbel (by omega) _⟩
            case true =>
              cases ze
              case true =>
                have HRZ : Hid (R % Pr = 0) := by
                  have h : R % Pr = 0 % Pr := of_decide_eq_true HZE.out.symm
                  rw [show (0 : Int) % Pr = 0 by decide] at h
                  exact h
                cases od
                case true =>
                  refine region_flow (n := 48) (by kernel_rfl) (by kernel_rfl) (by kernel_rfl) rfl
                    (fun ii vv _ => (match ii with | 0 | 9 | 10 | 11 | 12 | 13 => vv = .bool true | 1 | 2 | 6 | 7 | 8 => vv = .bool false | 3 => vv = .agg (arr .i64 16 (dg 65536 Y)) | 4 => vv = .agg (arr .u8 32 (dg 256 (Y % Pr))) | 5 => vv = .agg (arr .u8 32 (dg 256 Y)) | _ => True))
                    (fun w w' => Below w.heap.size w w') (fun _ _ h => h) (fun _ _ _ _ h _ => h) ?_ ?_
                  · refine Each.all ?_
                    refine ⟨?_, ?_, ?_, ?_, ?_, ?_, ?_, ?_, ?_, ?_, ?_, ?_, ?_, ?_, trivial⟩
                    · intro a w2 hB hF hd
                      rw [if_pos (wanted_none rfl)]
                      exact flow_move _ (.inl rfl) (by simp) (hF.same 7 rfl)
                    · intro a w2 hB hF hd
                      rw [if_pos (wanted_none rfl)]
                      exact flow_val (fun h => by cases h) (run_not rfl (hd 0 _ rfl (waits_spec rfl))) rfl
                    · intro a w2 hB hF hd
                      rw [if_pos (wanted_none rfl)]
                      exact flow_move _ (.inl rfl) (by simp) (hd 1 _ rfl (waits_spec rfl))
                    · intro a w2 hB hF hd
                      refine flow_wanted (wanted_yes rfl rfl (hd 2 _ rfl (waits_spec rfl)) rfl) ?_
                      exact flow_val (fun h => by cases h) (run_load_str rfl Try.underlying26 rfl Try.size26 (hF.same 5 rfl) (h5.below hB h5.lt)) rfl
                    · intro a w2 hB hF hd
                      refine flow_wanted (wanted_yes rfl rfl (hd 2 _ rfl (waits_spec rfl)) rfl) ?_
                      refine flow_call _ _ _ rfl Try.call56 _ (args1 (hd 3 _ rfl (waits_spec rfl))) (by simp) ((feBytes_any _ _ HF.out w2).mono ?_)
                      rintro e w3 ⟨rfl, hb⟩; exact ⟨_, rfl, rfl, hb⟩
                    · intro a w2 hB hF hd
                      refine flow_wanted (wanted_yes rfl rfl (hd 2 _ rfl (waits_spec rfl)) rfl) ?_
                      exact flow_val (fun h => by cases h) (run_load_str rfl Try.underlying22 rfl Try.size22 (hF.same 1 rfl) (h1.below hB h1.lt)) rfl
                    · intro a w2 hB hF hd
                      refine flow_wanted (wanted_yes rfl rfl (hd 2 _ rfl (waits_spec rfl)) rfl) ?_
                      exact flow_val (fun h => by cases h) (run_neq_arr true rfl (hd 4 _ rfl (waits_spec rfl)) (hd 5 _ rfl (waits_spec rfl)) Try.underlying22 (by kernel_rfl) (by kernel_rfl) (by kernel_rfl) (by kernel_rfl) (by kernel_rfl) HSL.out) rfl
                    · intro a w2 hB hF hd
                      rw [if_pos (wanted_none rfl)]
                      exact flow_val (fun h => by cases h) (run_pick rfl (hd 2 _ rfl (waits_spec rfl))) ((hd 6 _ rfl (waits_spec rfl)))
                    · intro a w2 hB hF hd
                      rw [if_pos (wanted_none rfl)]
                      exact flow_move _ (.inl rfl) (by simp) (hd 7 _ rfl (waits_spec rfl))
                    · intro a w2 hB hF hd
                      refine flow_wanted (wanted_yes rfl rfl (hd 8 _ rfl (waits_spec rfl)) rfl) ?_
                      exact flow_move _ (.inl rfl) (by simp) (hF.same 8 rfl)
                    · intro a w2 hB hF hd
                      refine flow_wanted (wanted_yes rfl rfl (hd 8 _ rfl (waits_spec rfl)) rfl) ?_
                      exact flow_move _ (.inl rfl) (by simp) (hd 9 _ rfl (waits_spec rfl))
                    · intro a w2 hB hF hd
                      refine flow_wanted (wanted_yes rfl rfl (hd 10 _ rfl (waits_spec rfl)) rfl) ?_
                      exact flow_move _ (.inl rfl) (by simp) (hF.same 4 rfl)
                    · intro a w2 hB hF hd
                      refine flow_wanted (wanted_yes rfl rfl (hd 8 _ rfl (waits_spec rfl)) rfl) ?_
                      exact flow_val (fun h => by cases h) (run_pick rfl (hd 10 _ rfl (waits_spec rfl))) ((hd 11 _ rfl (waits_spec rfl)))
                    · intro a w2 hB hF hd
                      rw [if_pos (wanted_none rfl)]
                      exact flow_val (fun h => by cases h) (run_pick rfl (hd 8 _ rfl (waits_spec rfl))) ((hd 12 _ rfl (waits_spec rfl)))
                  · intro a w7 hB hF hS
                    have ha := puts_each rfl rfl hF [_, _, _, _, _, _, _, _, _, _, _, _, _, _] rfl ⟨hS 0 _ rfl, hS 1 _ rfl, hS 2 _ rfl, hS 3 _ rfl, hS 4 _ rfl, hS 5 _ rfl, hS 6 _ rfl, hS 7 _ rfl, hS 8 _ rfl, hS 9 _ rfl, hS 10 _ rfl, hS 11 _ rfl, hS 12 _ rfl, hS 13 _ rfl, trivial⟩
                    simp only [puts, Act.put, List.setIfInBounds_toArray, List.set_cons_succ, List.set_cons_zero] at ha
                    subst ha
                    clear hS hF
                    replace h1 := h1.kept hB
                    replace h2 := h2.kept hB
                    replace h5 := h5.kept hB
                    replace h6 := h6.kept hB
                    replace hbel := hbel.trans (hB.mono hbel.size)
                    clear hB
                    go_wp2_with (first | (refine step_val rfl (run_built rfl (HP0.out _ _)) ?_) | (refine store_arr rfl 28 _ _ rfl .i64 (w.heap.size + 1) 64 (fun _ => 0) (fun _ => 0) Try.size28 rfl rfl h2 ?_))
                    exact bodyPost_ret (results_str2 rfl _ _ .i64 (w.heap.size + 1) 64 (fun _ => 0) rfl (h2.setRow _ _) Try.underlying28 rfl Try.size28) rfl ⟨_, _, rfl, .inr ⟨rfl, rfl, fun hh => (HOKd.out.1 hh).2.2 ⟨(root_zero (HRT.out (by trivial)).1).1 HRZ.out, of_decide_eq_true HOD.out.symm⟩⟩, below_setRow' hbel (by omega) _⟩
                case false =>
                  have HNZ : Hid (¬ (R % Pr = 0 ∧ A / 2 ^ 255 = 1)) := fun h => of_decide_eq_false HOD.out.symm h.2
                  refine region_flow (n := 48) (by kernel_rfl) (by kernel_rfl) (by kernel_rfl) rfl
                    (fun ii vv _ => (match ii with | 0 | 9 | 10 => vv = .bool true | 1 | 2 | 6 | 7 | 8 | 11 | 12 | 13 => vv = .bool false | 3 => vv = .agg (arr .i64 16 (dg 65536 Y)) | 4 => vv = .agg (arr .u8 32 (dg 256 (Y % Pr))) | 5 => vv = .agg (arr .u8 32 (dg 256 Y)) | _ => True))
                    (fun w w' => Below w.heap.size w w') (fun _ _ h => h) (fun _ _ _ _ h _ => h) ?_ ?_
                  · refine Each.all ?_
                    refine ⟨?_, ?_, ?_, ?_, ?_, ?_, ?_, ?_, ?_, ?_, ?_, ?_, ?_, ?_, trivial⟩
                    · intro a w2 hB hF hd
                      rw [if_pos (wanted_none rfl)]
                      exact flow_move _ (.inl rfl) (by simp) (hF.same 7 rfl)
                    · intro a w2 hB hF hd
                      rw [if_pos (wanted_none rfl)]
                      exact flow_val (fun h => by cases h) (run_not rfl (hd 0 _ rfl (waits_spec rfl))) rfl
                    · intro a w2 hB hF hd
                      rw [if_pos (wanted_none rfl)]
                      exact flow_move _ (.inl rfl) (by simp) (hd 1 _ rfl (waits_spec rfl))
                    · intro a w2 hB hF hd
                      refine flow_wanted (wanted_yes rfl rfl (hd 2 _ rfl (waits_spec rfl)) rfl) ?_
                      exact flow_val (fun h => by cases h) (run_load_str rfl Try.underlying26 rfl Try.size26 (hF.same 5 rfl) (h5.below hB h5.lt)) rfl
                    · intro a w2 hB hF hd
                      refine flow_wanted (wanted_yes rfl rfl (hd 2 _ rfl (waits_spec rfl)) rfl) ?_
                      refine flow_call _ _ _ rfl Try.call56 _ (args1 (hd 3 _ rfl (waits_spec rfl))) (by simp) ((feBytes_any _ _ HF.out w2).mono ?_)
                      rintro e w3 ⟨rfl, hb⟩; exact ⟨_, rfl, rfl, hb⟩
                    · intro a w2 hB hF hd
                      refine flow_wanted (wanted_yes rfl rfl (hd 2 _ rfl (waits_spec rfl)) rfl) ?_
                      exact flow_val (fun h => by cases h) (run_load_str rfl Try.underlying22 rfl Try.size22 (hF.same 1 rfl) (h1.below hB h1.lt)) rfl
                    · intro a w2 hB hF hd
                      refine flow_wanted (wanted_yes rfl rfl (hd 2 _ rfl (waits_spec rfl)) rfl) ?_
                      exact flow_val (fun h => by cases h) (run_neq_arr true rfl (hd 4 _ rfl (waits_spec rfl)) (hd 5 _ rfl (waits_spec rfl)) Try.underlying22 (by kernel_rfl) (by kernel_rfl) (by kernel_rfl) (by kernel_rfl) (by kernel_rfl) HSL.out) rfl
                    · intro a w2 hB hF hd
                      rw [if_pos (wanted_none rfl)]
                      exact flow_val (fun h => by cases h) (run_pick rfl (hd 2 _ rfl (waits_spec rfl))) ((hd 6 _ rfl (waits_spec rfl)))
                    · intro a w2 hB hF hd
                      rw [if_pos (wanted_none rfl)]
                      exact flow_move _ (.inl rfl) (by simp) (hd 7 _ rfl (waits_spec rfl))
                    · intro a w2 hB hF hd
                      refine flow_wanted (wanted_yes rfl rfl (hd 8 _ rfl (waits_spec rfl)) rfl) ?_
                      exact flow_move _ (.inl rfl) (by simp) (hF.same 8 rfl)
                    · intro a w2 hB hF hd
                      refine flow_wanted (wanted_yes rfl rfl (hd 8 _ rfl (waits_spec rfl)) rfl) ?_
                      exact flow_move _ (.inl rfl) (by simp) (hd 9 _ rfl (waits_spec rfl))
                    · intro a w2 hB hF hd
                      refine flow_wanted (wanted_yes rfl rfl (hd 10 _ rfl (waits_spec rfl)) rfl) ?_
                      exact flow_move _ (.inl rfl) (by simp) (hF.same 4 rfl)
                    · intro a w2 hB hF hd
                      refine flow_wanted (wanted_yes rfl rfl (hd 8 _ rfl (waits_spec rfl)) rfl) ?_
                      exact flow_val (fun h => by cases h) (run_pick rfl (hd 10 _ rfl (waits_spec rfl))) ((hd 11 _ rfl (waits_spec rfl)))
                    · intro a w2 hB hF hd
                      rw [if_pos (wanted_none rfl)]
                      exact flow_val (fun h => by cases h) (run_pick rfl (hd 8 _ rfl (waits_spec rfl))) ((hd 12 _ rfl (waits_spec rfl)))
                  · intro a w7 hB hF hS
                    have ha := puts_each rfl rfl hF [_, _, _, _, _, _, _, _, _, _, _, _, _, _] rfl ⟨hS 0 _ rfl, hS 1 _ rfl, hS 2 _ rfl, hS 3 _ rfl, hS 4 _ rfl, hS 5 _ rfl, hS 6 _ rfl, hS 7 _ rfl, hS 8 _ rfl, hS 9 _ rfl, hS 10 _ rfl, hS 11 _ rfl, hS 12 _ rfl, hS 13 _ rfl, trivial⟩
                    simp only [puts, Act.put, List.setIfInBounds_toArray, List.set_cons_succ, List.set_cons_zero] at ha
                    subst ha
                    clear hS hF
                    replace h1 := h1.kept hB
                    replace h2 := h2.kept hB
                    replace h5 := h5.kept hB
                    replace h6 := h6.kept hB
                    replace hbel := hbel.trans (hB.mono hbel.size)
                    clear hB
                    go_wp2_with (first | (refine load_str rfl 26 _ rfl .i64 x6 16 H Try.underlying26 rfl Try.size26 rfl h6 ?_) | (refine load_str rfl 26 _ rfl .i64 x5 16 (dg 65536 Y) Try.underlying26 rfl Try.size26 rfl h5 ?_))
                    refine (pnMade_any H (dg 65536 Y) (R) Y HFH.out HF.out _).mono ?_
                    rintro e wm ⟨rfl, hb⟩
                    replace h2 := h2.kept hb
                    replace hbel := hbel.trans (hb.mono hbel.size)
                    clear hb
                    go_wp2_with (refine store_arr rfl 28 _ _ rfl .i64 (w.heap.size + 1) 64 (fun _ => 0) (pt H (dg 65536 Y) (smallF 1) (mulF H (dg 65536 Y))) Try.size28 rfl rfl h2 ?_)
                    have hz : ¬ (R % Pr = 0 ∧ A / 2 ^ 255 = 1) := HNZ.out
                    obtain ⟨hr2, hr3⟩ := HRT.out (by trivial)
                    obtain ⟨p, hx, hy, hbn⟩ := HB.out R (of_decide_eq_true HLT.out.symm) hr2 hr3 hz
                    rw [if_neg (of_decide_eq_false HOD.out.symm)] at hx
                    exact bodyPost_ret (results_str2 rfl _ _ .i64 (w.heap.size + 1) 64 (pt H (dg 65536 Y) (smallF 1) (mulF H (dg 65536 Y))) rfl (h2.setRow _ _) Try.underlying28 rfl Try.size28) rfl ⟨_, _, rfl, .inl ⟨rfl, HOKd.out.2 ⟨of_decide_eq_true HLT.out.symm, (by trivial), fun h => hz ⟨(root_zero hr2).2 h.1, h.2⟩⟩, p, ⟨_, rfl, made_pf HFH.out HF.out hx hy⟩, hbn⟩, below_setRow' hbel (by omega) _⟩
              case false =>
                have HNZ : Hid (¬ (R % Pr = 0 ∧ A / 2 ^ 255 = 1)) := fun h => of_decide_eq_false HZE.out.symm h.1
                refine region_flow (n := 48) (by kernel_rfl) (by kernel_rfl) (by kernel_rfl) rfl
                  (fun ii vv _ => (match ii with | 0 => vv = .bool true | 1 | 2 | 6 | 7 | 8 | 9 | 10 | 12 | 13 => vv = .bool false | 3 => vv = .agg (arr .i64 16 (dg 65536 Y)) | 4 => vv = .agg (arr .u8 32 (dg 256 (Y % Pr))) | 5 => vv = .agg (arr .u8 32 (dg 256 Y)) | 11 => vv = undef | _ => True))
                  (fun w w' => Below w.heap.size w w') (fun _ _ h => h) (fun _ _ _ _ h _ => h) ?_ ?_
                · refine Each.all ?_
                  refine ⟨?_, ?_, ?_, ?_, ?_, ?_, ?_, ?_, ?_, ?_, ?_, ?_, ?_, ?_, trivial⟩
                  · intro a w2 hB hF hd
                    rw [if_pos (wanted_none rfl)]
                    exact flow_move _ (.inl rfl) (by simp) (hF.same 7 rfl)
                  · intro a w2 hB hF hd
                    rw [if_pos (wanted_none rfl)]
                    exact flow_val (fun h => by cases h) (run_not rfl (hd 0 _ rfl (waits_spec rfl))) rfl
                  · intro a w2 hB hF hd
                    rw [if_pos (wanted_none rfl)]
                    exact flow_move _ (.inl rfl) (by simp) (hd 1 _ rfl (waits_spec rfl))
                  · intro a w2 hB hF hd
                    refine flow_wanted (wanted_yes rfl rfl (hd 2 _ rfl (waits_spec rfl)) rfl) ?_
                    exact flow_val (fun h => by cases h) (run_load_str rfl Try.underlying26 rfl Try.size26 (hF.same 5 rfl) (h5.below hB h5.lt)) rfl
                  · intro a w2 hB hF hd
                    refine flow_wanted (wanted_yes rfl rfl (hd 2 _ rfl (waits_spec rfl)) rfl) ?_
                    refine flow_call _ _ _ rfl Try.call56 _ (args1 (hd 3 _ rfl (waits_spec rfl))) (by simp) ((feBytes_any _ _ HF.out w2).mono ?_)
                    rintro e w3 ⟨rfl, hb⟩; exact ⟨_, rfl, rfl, hb⟩
                  · intro a w2 hB hF hd
                    refine flow_wanted (wanted_yes rfl rfl (hd 2 _ rfl (waits_spec rfl)) rfl) ?_
                    exact flow_val (fun h => by cases h) (run_load_str rfl Try.underlying22 rfl Try.size22 (hF.same 1 rfl) (h1.below hB h1.lt)) rfl
                  · intro a w2 hB hF hd
                    refine flow_wanted (wanted_yes rfl rfl (hd 2 _ rfl (waits_spec rfl)) rfl) ?_
                    exact flow_val (fun h => by cases h) (run_neq_arr true rfl (hd 4 _ rfl (waits_spec rfl)) (hd 5 _ rfl (waits_spec rfl)) Try.underlying22 (by kernel_rfl) (by kernel_rfl) (by kernel_rfl) (by kernel_rfl) (by kernel_rfl) HSL.out) rfl
                  · intro a w2 hB hF hd
                    rw [if_pos (wanted_none rfl)]
                    exact flow_val (fun h => by cases h) (run_pick rfl (hd 2 _ rfl (waits_spec rfl))) ((hd 6 _ rfl (waits_spec rfl)))
                  · intro a w2 hB hF hd
                    rw [if_pos (wanted_none rfl)]
                    exact flow_move _ (.inl rfl) (by simp) (hd 7 _ rfl (waits_spec rfl))
                  · intro a w2 hB hF hd
                    refine flow_wanted (wanted_yes rfl rfl (hd 8 _ rfl (waits_spec rfl)) rfl) ?_
                    exact flow_move _ (.inl rfl) (by simp) (hF.same 8 rfl)
                  · intro a w2 hB hF hd
                    refine flow_wanted (wanted_yes rfl rfl (hd 8 _ rfl (waits_spec rfl)) rfl) ?_
                    exact flow_move _ (.inl rfl) (by simp) (hd 9 _ rfl (waits_spec rfl))
                  · intro a w2 hB hF hd
                    rw [if_neg (by rw [wanted_some rfl rfl (hd 10 _ rfl (waits_spec rfl))]; decide)]
                    exact rfl
                  · intro a w2 hB hF hd
                    refine flow_wanted (wanted_yes rfl rfl (hd 8 _ rfl (waits_spec rfl)) rfl) ?_
                    exact flow_val (fun h => by cases h) (run_pick rfl (hd 10 _ rfl (waits_spec rfl))) (rfl)
                  · intro a w2 hB hF hd
                    rw [if_pos (wanted_none rfl)]
                    exact flow_val (fun h => by cases h) (run_pick rfl (hd 8 _ rfl (waits_spec rfl))) ((hd 12 _ rfl (waits_spec rfl)))
                · intro a w7 hB hF hS
                  have ha := puts_each rfl rfl hF [_, _, _, _, _, _, _, _, _, _, _, _, _, _] rfl ⟨hS 0 _ rfl, hS 1 _ rfl, hS 2 _ rfl, hS 3 _ rfl, hS 4 _ rfl, hS 5 _ rfl, hS 6 _ rfl, hS 7 _ rfl, hS 8 _ rfl, hS 9 _ rfl, hS 10 _ rfl, hS 11 _ rfl, hS 12 _ rfl, hS 13 _ rfl, trivial⟩
                  simp only [puts, Act.put, List.setIfInBounds_toArray, List.set_cons_succ, List.set_cons_zero] at ha
                  subst ha
                  clear hS hF
                  replace h1 := h1.kept hB
                  replace h2 := h2.kept hB
                  replace h5 := h5.kept hB
                  replace h6 := h6.kept hB
                  replace hbel := hbel.trans (hB.mono hbel.size)
                  clear hB
                  cases od
                  case true =>
                    go_wp2_with (refine load_str rfl 26 _ rfl .i64 x6 16 H Try.underlying26 rfl Try.size26 rfl h6 ?_)
                    refine (feNeg_any _ _ HFH.out _).mono ?_
                    rintro e wn ⟨rfl, hb⟩
                    replace h2 := h2.kept hb
                    replace h5 := h5.kept hb
                    replace h6 := h6.kept hb
                    replace hbel := hbel.trans (hb.mono hbel.size)
                    clear hb
                    go_upto_region 10 with (refine store_arr rfl 26 _ _ rfl .i64 x6 16 H (negF H) Try.size26 rfl rfl h6 ?_)
                    refine wp_world (fun w9 => Arr .i64 w9 (w.heap.size + 1) 64 (fun _ => 0) ∧ Arr .i64 w9 x5 16 (dg 65536 Y) ∧ Arr .i64 w9 x6 16 (negF H) ∧ Below w.heap.size w w9) ⟨h2.setRowOther _ (by omega) _, h5.setRowOther _ (by omega) _, h6.setRow _ _, below_setRow' hbel (by omega) _⟩ ?_
                    clear h1 h2 h5 h6 hbel
                    rintro w9 ⟨h2, h5, h6, hbel⟩
                    try simp only [Act.put, List.setIfInBounds_toArray, List.set_cons_succ, List.set_cons_zero]
                    go_wp2_with (first | (refine load_str rfl 26 _ rfl .i64 x6 16 (negF H) Try.underlying26 rfl Try.size26 rfl h6 ?_) | (refine load_str rfl 26 _ rfl .i64 x5 16 (dg 65536 Y) Try.underlying26 rfl Try.size26 rfl h5 ?_))
                    refine (pnMade_any (negF H) (dg 65536 Y) (-R) Y HFH.out.negF HF.out _).mono ?_
                    rintro e wm ⟨rfl, hb⟩
                    replace h2 := h2.kept hb
                    replace hbel := hbel.trans (hb.mono hbel.size)
                    clear hb
                    go_wp2_with (refine store_arr rfl 28 _ _ rfl .i64 (w.heap.size + 1) 64 (fun _ => 0) (pt (negF H) (dg 65536 Y) (smallF 1) (mulF (negF H) (dg 65536 Y))) Try.size28 rfl rfl h2 ?_)
                    have hz : ¬ (R % Pr = 0 ∧ A / 2 ^ 255 = 1) := HNZ.out
                    obtain ⟨hr2, hr3⟩ := HRT.out (by trivial)
                    obtain ⟨p, hx, hy, hbn⟩ := HB.out R (of_decide_eq_true HLT.out.symm) hr2 hr3 hz
                    rw [if_pos (of_decide_eq_true HOD.out.symm)] at hx
                    exact bodyPost_ret (results_str2 rfl _ _ .i64 (w.heap.size + 1) 64 (pt (negF H) (dg 65536 Y) (smallF 1) (mulF (negF H) (dg 65536 Y))) rfl (h2.setRow _ _) Try.underlying28 rfl Try.size28) rfl ⟨_, _, rfl, .inl ⟨rfl, HOKd.out.2 ⟨of_decide_eq_true HLT.out.symm, (by trivial), fun h => hz ⟨(root_zero hr2).2 h.1, h.2⟩⟩, p, ⟨_, rfl, made_pf HFH.out.negF HF.out hx hy⟩, hbn⟩, below_setRow' hbel (by omega) _⟩
                  case false =>
                    go_wp2_with (first | (refine load_str rfl 26 _ rfl .i64 x6 16 H Try.underlying26 rfl Try.size26 rfl h6 ?_) | (refine load_str rfl 26 _ rfl .i64 x5 16 (dg 65536 Y) Try.underlying26 rfl Try.size26 rfl h5 ?_))
                    refine (pnMade_any H (dg 65536 Y) (R) Y HFH.out HF.out _).mono ?_
                    rintro e wm ⟨rfl, hb⟩
                    replace h2 := h2.kept hb
                    replace hbel := hbel.trans (hb.mono hbel.size)
                    clear hb
                    go_wp2_with (refine store_arr rfl 28 _ _ rfl .i64 (w.heap.size + 1) 64 (fun _ => 0) (pt H (dg 65536 Y) (smallF 1) (mulF H (dg 65536 Y))) Try.size28 rfl rfl h2 ?_)
                    have hz : ¬ (R % Pr = 0 ∧ A / 2 ^ 255 = 1) := HNZ.out
                    obtain ⟨hr2, hr3⟩ := HRT.out (by trivial)
                    obtain ⟨p, hx, hy, hbn⟩ := HB.out R (of_decide_eq_true HLT.out.symm) hr2 hr3 hz
                    rw [if_neg (of_decide_eq_false HOD.out.symm)] at hx
                    exact bodyPost_ret (results_str2 rfl _ _ .i64 (w.heap.size + 1) 64 (pt H (dg 65536 Y) (smallF 1) (mulF H (dg 65536 Y))) rfl (h2.setRow _ _) Try.underlying28 rfl Try.size28) rfl ⟨_, _, rfl, .inl ⟨rfl, HOKd.out.2 ⟨of_decide_eq_true HLT.out.symm, (by trivial), fun h => hz ⟨(root_zero hr2).2 h.1, h.2⟩⟩, p, ⟨_, rfl, made_pf HFH.out HF.out hx hy⟩, hbn⟩, below_setRow' hbel (by omega) _⟩
end Go.Proofs.Ytdhejcaapdhhfaa

namespace Go.Proofs.Ytdhejcaapdhhfaa
open Go.RowKit Go.Bas Go.ChangeShapes
attribute [local go_sem ↓] Go.wp_at_zero Go.wp_at_succ
theorem bytes_Bp : bytesN Bp = BY := by
  unfold bytesN
  rw [Bp_x, Bp_y, show BX % 2 = 0 by decide]
  omega
theorem BY_0 : dg 256 BY 0 = 88 := by decide +kernel
theorem BY_1 : dg 256 BY 1 = 102 := by decide +kernel
theorem BY_31 : dg 256 BY 31 = 102 := by decide +kernel

set_option maxRecDepth 100000 in
set_option maxHeartbeats 1600000 in
theorem pnAwake_any (w : World) : Calls Try.prog 9 #[] w fun e w' => e = .returned (.bool true) ∧ Below w.heap.size w w' := by
  have HB := Lib.hid (fun w => pBytes_ok pf_base w)
  rw [bytes_Bp] at HB
  have HBB := Lib.hid (fun w => pBase_ok w)
  have D0 := Lib.hid BY_0
  have D1 := Lib.hid BY_1
  have D31 := Lib.hid BY_31
  obtain ⟨N, hN⟩ : ∃ N, N = BY := ⟨_, rfl⟩
  rw [← hN] at HB D0 D1 D31
  obtain ⟨F, hF⟩ : ∃ F, F = baseF := ⟨_, rfl⟩
  rw [← hF] at HB HBB
  clear hN hF
  go_enter Try.func9, Try.ntmps9
  go_wp2_with fail
  refine (HBB.out _).mono ?_
  rintro e w1 ⟨rfl, hb1⟩
  go_wp2_with fail
  refine (HB.out _).mono ?_
  rintro e w2 ⟨rfl, hb2⟩
  have hb3 := hb1.trans (hb2.mono hb1.size)
  clear hb1 hb2
  go_upto_region 2 with (refine store_arr rfl 22 _ _ rfl .u8 w2.heap.size 32 (fun _ => 0) (dg 256 N) Try.size22 rfl rfl (Arr.newAt rfl (by rfl)) ?_)
  refine wp_world (fun w3 => Arr .u8 w3 w2.heap.size 32 (dg 256 N) ∧ Below w.heap.size w w3) ⟨(Arr.newAt rfl (by rfl) : Arr .u8 _ _ 32 (fun _ => 0)).setRow _ _, below_setRow' (hb3.alloc hb3.size _) hb3.size _⟩ ?_
  rintro w3 ⟨hA, hb4⟩
  obtain ⟨q, hq⟩ : ∃ q, q = w2.heap.size := ⟨_, rfl⟩
  rw [← hq] at hA ⊢
  have e0 := hA.cell 0 (by decide)
  have e1 := hA.cell 1 (by decide)
  have e31 := hA.cell 31 (by decide)
  rw [D0.out] at e0
  rw [D1.out] at e1
  rw [D31.out] at e31
  clear hq hb3 hA
  try simp only [Act.put, List.setIfInBounds_toArray, List.set_cons_succ, List.set_cons_zero]
  go_wp2
  go_ret
  exact ⟨rfl, hb4⟩
end Go.Proofs.Ytdhejcaapdhhfaa

namespace Go.Bas
/-- the curve's number, a natural number below the prime. -/
def dNum : Nat := 37095705934669439343138083508754565189542113879843219016388785533085940283555
theorem toF_dNum : toF (dNum : Int) = dE := by
  have h : Cg ((dNum : Int) * 121666) (-121665) := by unfold Cg; decide +kernel
  have h2 := toF_eq.2 h
  rw [toF_mul, toF_neg] at h2
  exact fp_cancel (toF_nz.2 (by decide)) (h2.trans dE_eq.symm)
/-- the sum, reckoned. -/
def nR (x y z u v r : Nat) : Nat × Nat × Nat :=
  let w := nM z r
  let c := nM x u
  let e := nM y v
  let ww := nM w w
  let f := nM dNum (nM c e)
  let l := nS ww f
  let m := nA ww f
  let k := nS (nS (nM (nA x y) (nA u v)) c) e
  (nM w (nM l k), nM w (nM m (nA e c)), nM l m)
/-- three natural numbers are a point's. -/
def SRep (x y z : Nat) (p : Ed C7) : Prop := ∃ X Y Z, Stands x X ∧ Stands y Y ∧ Stands z Z ∧ RRep X Y Z p
theorem SRep.add {x y z u v r : Nat} {p q : Ed C7} (hp : SRep x y z p) (hq : SRep u v r q) : SRep (nR x y z u v r).1 (nR x y z u v r).2.1 (nR x y z u v r).2.2 (p.add q) := by
  obtain ⟨X, Y, Z, hx, hy, hz, h1⟩ := hp
  obtain ⟨U, V, R, hu, hv, hr, h2⟩ := hq
  have hd : Stands dNum dNum := ⟨by decide, rfl⟩
  have w := hz.mul hr
  have c := hx.mul hu
  have e := hy.mul hv
  have f := hd.mul (c.mul e)
  have l := (w.mul w).sub f
  have m := (w.mul w).add f
  have k := (((hx.add hy).mul (hu.add hv)).sub c).sub e
  exact ⟨_, _, _, w.mul (l.mul k), w.mul (m.mul (e.add c)), l.mul m, h1.add h2 toF_dNum⟩
def bX : Nat := 15112221349535400772501151409588531511454012693041857206046113283949847762202
def bY : Nat := 46316835694926478169428394003475163141307993866256225615783033603165251855960
theorem SRep.base : SRep bX bY 1 Bp := by
  refine ⟨BX, BY, 1, ⟨by decide, rfl⟩, ⟨by decide, rfl⟩, ⟨by decide, rfl⟩, ?_, ?_, ?_⟩
  · rw [toF_one]; exact fp_one_ne
  · rw [toF_one]; show toF BX = toF BX * 1; generalize toF BX = x; grind
  · rw [toF_one]; show toF BY = toF BY * 1; generalize toF BY = x; grind
def ordE (n : Nat) : Nat → Nat → Nat → Nat → Nat × Nat × Nat
  | 0, x, y, z => (x, y, z)
  | k + 1, x, y, z => if n / 2 ^ k % 2 = 1 then ordE n k (nR (nR x y z x y z).1 (nR x y z x y z).2.1 (nR x y z x y z).2.2 bX bY 1).1 (nR (nR x y z x y z).1 (nR x y z x y z).2.1 (nR x y z x y z).2.2 bX bY 1).2.1 (nR (nR x y z x y z).1 (nR x y z x y z).2.1 (nR x y z x y z).2.2 bX bY 1).2.2 else ordE n k (nR x y z x y z).1 (nR x y z x y z).2.1 (nR x y z x y z).2.2
theorem SRep.ord {n : Nat} : ∀ (k x y z : Nat), SRep x y z (Bp.mul (n / 2 ^ k)) → SRep (ordE n k x y z).1 (ordE n k x y z).2.1 (ordE n k x y z).2.2 (Bp.mul n)
  | 0, _, _, _, h => by rw [Nat.pow_zero, Nat.div_one] at h; exact h
  | k + 1, x, y, z, h => by
    unfold ordE
    have h2 := h.add h
    rw [← Ed.mul_add] at h2
    have hq : n / 2 ^ (k + 1) = n / 2 ^ k / 2 := by rw [Nat.pow_succ, Nat.div_div_eq_div_mul]
    by_cases hb : n / 2 ^ k % 2 = 1
    · rw [if_pos hb]
      have h3 := h2.add SRep.base
      rw [show (Bp.mul (n / 2 ^ (k + 1) + n / 2 ^ (k + 1))).add Bp = Bp.mul (n / 2 ^ k) by
        rw [← show Bp.mul (n / 2 ^ (k + 1) + n / 2 ^ (k + 1) + 1) = (Bp.mul (n / 2 ^ (k + 1) + n / 2 ^ (k + 1))).add Bp from by rw [Ed.mul_add, Ed.mul_one], show n / 2 ^ (k + 1) + n / 2 ^ (k + 1) + 1 = n / 2 ^ k by omega]] at h3
      exact SRep.ord k _ _ _ h3
    · rw [if_neg hb]
      rw [show n / 2 ^ (k + 1) + n / 2 ^ (k + 1) = n / 2 ^ k by omega] at h2
      exact SRep.ord k _ _ _ h2
def ordN : Nat := 2 ^ 252 + 27742317777372353535851937790883648493
theorem ord_reckoned : (ordE ordN 253 0 1 1).1 = 0 ∧ (ordE ordN 253 0 1 1).2.1 = (ordE ordN 253 0 1 1).2.2 := by decide +kernel
theorem SRep.zero : SRep 0 1 1 .zero := ⟨0, 1, 1, ⟨by decide, rfl⟩, ⟨by decide, rfl⟩, ⟨by decide, rfl⟩, RRep.zero⟩
/-- the order times the base is nought. -/
theorem base_order : Bp.mul ordN = .zero := by
  have h := SRep.ord (n := ordN) 253 0 1 1 (by rw [show ordN / 2 ^ 253 = 0 by decide]; exact SRep.zero)
  obtain ⟨X, Y, Z, hx, hy, hz, h0, h1, h2⟩ := h
  rw [ord_reckoned.1] at hx
  rw [ord_reckoned.2] at hy
  have ex : toF X = 0 := by rw [← toF_zero]; exact toF_eq.2 hx.2.symm
  have ey : toF Y = toF Z := toF_eq.2 (hy.2.symm.trans hz.2)
  rw [ex] at h1
  rw [ey] at h2
  refine Ed.ext ?_ ?_
  · refine fp_cancel h0 ?_
    rw [← h1]; show (0 : Fp) = 0 * toF Z; generalize toF Z = t; grind
  · refine fp_cancel h0 ?_
    rw [← h2]; show toF Z = 1 * toF Z; generalize toF Z = t; grind
end Go.Bas

namespace Go.Bas
theorem neg_neg_pt (p : Ed C7) : p.neg.neg = p := by
  refine Ed.ext ?_ rfl
  show - -p.x = p.x
  generalize p.x = x
  grind
theorem mul_three (p : Ed C7) : p.mul 3 = (p.add p).add p := by
  rw [show (3 : Nat) = 1 + 1 + 1 by decide, Ed.mul_add, Ed.mul_add, Ed.mul_one]
theorem zero_mul (n : Nat) : (Ed.zero : Ed C7).mul n = .zero := by
  induction n with
  | zero => rfl
  | succ n ih => rw [Ed.mul_add, Ed.mul_one, ih]; exact Ed.add_zero _
theorem base_mod (n : Nat) : Bp.mul (n % ordN) = Bp.mul n := by
  have h : Bp.mul n = (Bp.mul (ordN * (n / ordN))).add (Bp.mul (n % ordN)) := by rw [← Ed.mul_add, Nat.div_add_mod]
  rw [h, Ed.mul_mul, base_order, zero_mul, Ed.add_comm, Ed.add_zero]
end Go.Bas
namespace Go.Proofs.Ytdhejcaapdhhfaa
open Go.RowKit Go.Bas Go.ChangeShapes
attribute [local go_sem ↓] Go.wp_at_zero Go.wp_at_succ
theorem qQ_rd (w : World) : Calls Try.prog 38 #[] w fun e w' => ∃ v, e = .returned v ∧ Rd .i64 w' v 16 (dg 65536 Q) ∧ Below w.heap.size w w' :=
  (rQ_any w).mono fun _ _ ⟨v, h1, h2, h3⟩ => ⟨v, h1, h2.rd, h3⟩
theorem Q_ord : Q = (ordN : Int) := by decide
theorem build_three {a : Act} (w : World) : (Instr.build 22 ((#[(0, .const (.int .u8 3))] : Array (Nat × Operand)).map fun (i, x) => (i, a.eval x))).run Try.prog w = .ok (.agg (arr .u8 32 (dg 256 ((3 : Nat) : Int)))) w := Go.run_build w _ _ _ (by kernel_rfl)

set_option maxRecDepth 100000 in
set_option maxHeartbeats 6400000 in
theorem pointLaws_num (A M N : Nat) (hA : A < 2 ^ 256) (hM : M < 2 ^ 256) (hN : N < 2 ^ 256) (w : World) :
    Calls Try.prog 5 #[.agg (arr .u8 32 (dg 256 (A : Int))), .agg (arr .u8 32 (dg 256 (M : Int))), .agg (arr .u8 32 (dg 256 (N : Int)))] w fun e w' => e = .returned (.bool true) ∧ Below w.heap.size w w' := by
  have HA := Lib.hid hA
  have HM := Lib.hid hM
  have HN := Lib.hid hN
  have HBF := Lib.hid pf_base
  have HPB := Lib.hid (fun w => pBase_ok w)
  have HB3 := Lib.hid (fun (a : Act) w => build_three (a := a) w)
  have HAW := Lib.hid (fun w => pnAwake_any w)
  have HPO := Lib.hid (fun w => pOf_any (A : Int) (by omega) (by omega) w)
  have HQA : Hid (∀ w, Calls Try.prog 35 #[.agg (arr .u8 32 (dg 256 (M : Int))), .agg (arr .u8 32 (dg 256 (N : Int)))] w fun e w' => e = .returned (.agg (arr .u8 32 (dg 256 (((M + N) % ordN : Nat) : Int)))) ∧ Below w.heap.size w w') := fun w => by
    have h := qAdd_any (M : Int) (N : Int) w ⟨by omega, by omega⟩ ⟨by omega, by omega⟩
    rw [Q_ord] at h
    rwa [Int.natCast_emod, Int.natCast_add]
  have HQM : Hid (∀ w, Calls Try.prog 36 #[.agg (arr .u8 32 (dg 256 (M : Int))), .agg (arr .u8 32 (dg 256 (N : Int)))] w fun e w' => e = .returned (.agg (arr .u8 32 (dg 256 ((M * N % ordN : Nat) : Int)))) ∧ Below w.heap.size w w') := fun w => by
    have h := qMul_any (M : Int) (N : Int) w ⟨by omega, by omega⟩ ⟨by omega, by omega⟩
    rw [Q_ord] at h
    rwa [Int.natCast_emod, Int.natCast_mul]
  have HBY : Hid (∀ (w : World) (v : Value), Rd .i64 w v 16 (dg 65536 Q) → Calls Try.prog 37 #[v] w fun e w' => e = .returned (.agg (arr .u8 32 (dg 256 ((ordN : Nat) : Int)))) ∧ Below w.heap.size w w') := fun w v h => by
    have h := rBytes_any v Q 16 (by decide) w h
    rwa [Q_ord] at h
  have HOS : Hid (ordN < 2 ^ 256) := by unfold Hid; decide
  have HE1 : Hid (Bp.mul ((M + N) % ordN) = (Bp.mul M).add (Bp.mul N)) := (base_mod _).trans (Ed.mul_add _ _ _)
  have HE2 : Hid ((Bp.mul M).mul N = Bp.mul (M * N % ordN)) := ((base_mod _).trans (Ed.mul_mul _ _ _)).symm
  have HE3 : Hid (Bp.mul ordN = .zero) := base_order
  have HSA : Hid ((M + N) % ordN < 2 ^ 256) := Nat.lt_trans (Nat.mod_lt _ (by decide)) HOS.out
  have HSM : Hid (M * N % ordN < 2 ^ 256) := Nat.lt_trans (Nat.mod_lt _ (by decide)) HOS.out
  have HOR := HOS
  obtain ⟨SA, hSA⟩ : ∃ x, x = (M + N) % ordN := ⟨_, rfl⟩
  obtain ⟨SM, hSM⟩ : ∃ x, x = M * N % ordN := ⟨_, rfl⟩
  obtain ⟨OR, hOR⟩ : ∃ x, x = ordN := ⟨_, rfl⟩
  rw [← hSA] at HE1 HSA HQA
  rw [← hSM] at HE2 HSM HQM
  rw [← hOR] at HE3 HOR HBY
  obtain ⟨F, hF⟩ : ∃ F, F = baseF := ⟨_, rfl⟩
  rw [← hF] at HBF HPB
  clear hA hM hN hF hSA hSM hOR HOS
  go_enter Try.func5, Try.ntmps5
  go_upto_region 1 with (fail)
  refine wp_world (fun w1 => Arr .u8 w1 w.heap.size 32 (dg 256 (A : Int)) ∧ Arr .u8 w1 (w.heap.size + 1) 32 (dg 256 (M : Int)) ∧ Arr .u8 w1 (w.heap.size + 2) 32 (dg 256 (N : Int)) ∧ Below w.heap.size w w1) ⟨.alloc (.alloc (Arr.newAt rfl rfl) _) _, .alloc (Arr.newAt (by first | omega | (simp <;> omega)) rfl) _, Arr.newAt (by first | omega | (simp <;> omega)) rfl, (((Below.refl _ _).alloc (Nat.le_refl _) _).alloc (by first | omega | (simp <;> omega)) _).alloc (by first | omega | (simp <;> omega)) _⟩ ?_
  rintro w1 ⟨h3, h4, h5, hbel⟩
  go_wp2_with fail
  refine (HAW.out _).mono ?_
  rintro e w2 ⟨rfl, hb⟩
  replace h3 := h3.kept hb
  replace h4 := h4.kept hb
  replace h5 := h5.kept hb
  replace hbel := hbel.trans (hb.mono hbel.size)
  clear hb
  go_wp2_with fail
  refine (HPB.out _).mono ?_
  rintro e w3 ⟨rfl, hb⟩
  replace h3 := h3.kept hb
  replace h4 := h4.kept hb
  replace h5 := h5.kept hb
  replace hbel := hbel.trans (hb.mono hbel.size)
  have hl5 := h5.lt
  clear hb
  go_upto_region 4 with (refine store_arr rfl 28 _ _ rfl .i64 w3.heap.size 64 (fun _ => 0) F Try.size28 rfl rfl (Arr.newAt rfl (by rfl)) ?_)
  refine wp_world (fun w5 => Arr .i64 w5 w3.heap.size 64 F ∧ Below w3.heap.size w3 w5) ⟨(Arr.newAt rfl (by rfl) : Arr .i64 _ _ 64 (fun _ => 0)).setRow _ _, below_setRow' ((Below.refl _ _).alloc (Nat.le_refl _) _) (Nat.le_refl _) _⟩ ?_
  rintro w5 ⟨h7, hb⟩
  replace h3 := h3.kept hb
  replace h4 := h4.kept hb
  replace h5 := h5.kept hb
  replace hbel := hbel.trans (hb.mono hbel.size)
  obtain ⟨x7, e7⟩ : ∃ x, x = w3.heap.size := ⟨_, rfl⟩
  rw [← e7] at h7 hl5 ⊢
  clear e7 hb
  try simp only [Act.put, List.setIfInBounds_toArray, List.set_cons_succ, List.set_cons_zero]
  go_wp2_with (refine load_arr rfl 22 _ rfl .u8 w.heap.size 32 (dg 256 (A : Int)) 5 Try.underlying22 Try.size22 rfl h3 ?_)
  refine (HPO.out _).mono ?_
  rintro e w6 ⟨r, c, rfl, hof, hb⟩
  replace h3 := h3.kept hb
  replace h4 := h4.kept hb
  replace h5 := h5.kept hb
  replace h7 := h7.kept hb
  replace hbel := hbel.trans (hb.mono hbel.size)
  have HR : ∃ F8, r = .agg (arr .i64 64 F8) ∧ (c = 0 → ∃ p, PFn F8 p) ∧ (c ≠ 0 → c = 21) := by
    rcases hof with ⟨rfl, _, p, ⟨F8, h8, h9⟩, _⟩ | ⟨rfl, h8, _⟩
    · exact ⟨F8, h8, fun _ => ⟨p, h9⟩, fun h => absurd rfl h⟩
    · exact ⟨_, h8, fun h => absurd h (by decide), fun _ => rfl⟩
  obtain ⟨F8, rfl, hc0, hc1⟩ := HR
  have HC0 := Lib.hid hc0
  have hl7 := h7.lt
  clear hof hb hc0
  go_upto_region 5 with (refine store_arr rfl 28 _ _ rfl .i64 w6.heap.size 64 (fun _ => 0) F8 Try.size28 rfl rfl (Arr.newAt rfl (by rfl)) ?_)
  refine wp_world (fun w7 => Arr .i64 w7 w6.heap.size 64 F8 ∧ Below w6.heap.size w6 w7) ⟨(Arr.newAt rfl (by rfl) : Arr .i64 _ _ 64 (fun _ => 0)).setRow _ _, below_setRow' ((Below.refl _ _).alloc (Nat.le_refl _) _) (Nat.le_refl _) _⟩ ?_
  rintro w7 ⟨h8, hb⟩
  replace h3 := h3.kept hb
  replace h4 := h4.kept hb
  replace h5 := h5.kept hb
  replace h7 := h7.kept hb
  replace hbel := hbel.trans (hb.mono hbel.size)
  obtain ⟨x8, e8⟩ : ∃ x, x = w6.heap.size := ⟨_, rfl⟩
  rw [← e8] at h8 hl7 ⊢
  clear e8 hb
  try simp only [Act.put, List.setIfInBounds_toArray, List.set_cons_succ, List.set_cons_zero]
  by_cases hc : c = 0
  · subst hc
    clear hc1
    obtain ⟨p, hp⟩ := HC0.out rfl
    have H8 := Lib.hid hp
    clear hp HC0
    go_upto_region 7 with (fail)
    refine region_varsS (n := 108) (by kernel_rfl) (by kernel_rfl) (by kernel_rfl) rfl
      (isAl [(4, 3)]) (putOf [(4, 3)]) (fun _ => arr .i64 64 (fun _ => 0))  (fun _ => 28) (fun _ => 10) (fun _ => 2)
      (fun ii vv ww => (match ii with | 0 => vv = .agg (arr .i64 64 (F)) | 1 => vv = .agg (arr .u8 32 (dg 256 (M : Int))) | _ => True) ∧ (ii = 2 → NPt vv ((Bp).mul (M)))) (fun _ _ => True) (fun _ _ _ => trivial) (fun _ _ _ _ _ _ _ => trivial) (fun i v w w' h hE => ⟨h.1, fun e => NPt.keep (h.2 e) hE⟩)
      (vs_al rfl) (src_spec (by kernel_rfl)) (vs_inj rfl) ?_ ?_ ?_ ?_
    · refine Each.all ?_
      refine ⟨?_, ?_, ?_, (fun h => by cases h), (fun _ h => by cases h), trivial⟩
      · intro _ _ a w2 hB hF hd
        rw [if_pos (wanted_none rfl)]
        exact flow_val (fun h => by cases h) (run_load_str rfl Try.underlying28 rfl Try.size28 (hF.same 7 rfl) (h7.below hB h7.lt)) ⟨rfl, fun h => absurd h (by decide)⟩
      · intro _ _ a w2 hB hF hd
        rw [if_pos (wanted_none rfl)]
        exact flow_val (fun h => by cases h) (run_load_str rfl Try.underlying22 rfl Try.size22 (hF.same 4 rfl) (h4.below hB h4.lt)) ⟨rfl, fun h => absurd h (by decide)⟩
      · intro _ _ a w2 hB hF hd
        rw [if_pos (wanted_none rfl)]
        refine flow_call _ _ _ rfl Try.call16 _ (args2 ((hd 0 _ rfl rfl rfl (waits_spec rfl)).1) ((hd 1 _ rfl rfl rfl (waits_spec rfl)).1)) (by simp) ((pMulN _ HM.out w2 ⟨_, rfl, HBF.out⟩).mono ?_)
        rintro e w3 ⟨u, rfl, hr, hb⟩; exact ⟨u, rfl, ⟨trivial, fun _ => hr⟩, hb⟩
    · refine Each.all ?_
      refine ⟨(fun h => by cases h), (fun h => by cases h), (fun h => by cases h), ?_, (fun h => by cases h), trivial⟩
      · exact fun _ => ⟨rfl, rfl, fun a w2 K h => flow_alloc rfl rfl Try.zeroValue28 (by simp) h⟩
    · refine Each.all ?_
      refine ⟨(fun _ h => by cases h), (fun _ h => by cases h), (fun _ h => by cases h), (fun _ h => by cases h), ?_, trivial⟩
      · intro p hp
        obtain rfl : 3 = p := Option.some.inj hp
        exact ⟨rfl, rfl, ⟨_, rfl⟩, waits_spec rfl, fun a w2 b K hB hF hd hx hb h => put_src_N (s := 2) rfl rfl rfl Try.size28 hx rfl ((hd 2 _ rfl rfl rfl (waits_spec rfl)).2 rfl) hb h⟩
    · intro a w7 blk hB hF hS hv hfin hdis
      obtain ⟨v3, v3l, v3u⟩ := hv 3 _ rfl rfl
      obtain ⟨x26, hx26⟩ : ∃ x, x = a.tmps.getD 26 undef := ⟨_, rfl⟩
      have P26 : NPt x26 ((Bp).mul (M)) := by rw [hx26]; exact (hS 2 _ rfl rfl rfl).2 rfl
      have f3 := hfin 4 _ 3 rfl rfl
      obtain ⟨F26, e26, G26⟩ := P26
      have V3 : Arr .i64 w7 (blk 3) 64 F26 := arr_src (s := 2) f3 rfl (hx26.symm.trans e26)
      have ha := puts_each rfl rfl hF [_, _, x26, _, undef] rfl ⟨(hS 0 _ rfl rfl rfl).1, (hS 1 _ rfl rfl rfl).1, hx26.symm, v3, trivial, trivial⟩
      simp only [puts, Act.put, List.setIfInBounds_toArray, List.set_cons_succ, List.set_cons_zero] at ha
      subst ha
      clear hx26
      clear hS hv hfin hdis hF v3 f3
      replace h3 := h3.kept hB
      replace h4 := h4.kept hB
      replace h5 := h5.kept hB
      replace h7 := h7.kept hB
      replace h8 := h8.kept hB
      replace hbel := hbel.trans (hB.mono hbel.size)
      obtain ⟨x10, e10⟩ : ∃ x, x = blk 3 := ⟨_, rfl⟩
      rw [← e10] at V3 ⊢
      have h10 := V3
      have H10 := Lib.hid G26
      clear hB v3l v3u e26 G26 V3 e10
      go_upto_region 8 with (fail)
      refine region_flow (n := 108) (by kernel_rfl) (by kernel_rfl) (by kernel_rfl) rfl
        (fun ii vv ww => (match ii with | 0 | 4 | 9 | 10 | 18 | 21 | 26 | 29 | 34 => vv = .agg (arr .i64 64 (F8)) | 1 | 3 | 35 => vv = .agg (arr .i64 64 (F26)) | 6 | 14 | 22 | 30 | 37 => vv = .bool true | 7 | 8 | 15 | 16 | 17 | 23 | 24 | 25 | 31 | 32 | 33 | 38 | 39 => vv = .bool false | _ => True) ∧ (ii = 2 → NPt vv ((p).add (Bp.mul M))) ∧ (ii = 5 → NPt vv ((Bp.mul M).add (p))) ∧ (ii = 11 → NPt vv ((p).neg)) ∧ (ii = 12 → NPt vv ((p).add ((p).neg))) ∧ (ii = 13 → NPt vv (.zero)) ∧ (ii = 19 → NPt vv (.zero)) ∧ (ii = 20 → NPt vv ((p).add (.zero))) ∧ (ii = 27 → NPt vv ((p).neg)) ∧ (ii = 28 → NPt vv (((p).neg).neg)) ∧ (ii = 36 → NPt vv ((p).add (Bp.mul M))))
        (fun w w' => Below w.heap.size w w') (fun _ _ h => h) (fun i v w w' h hE => ⟨h.1, fun e => NPt.keep (h.2.1 e) hE, fun e => NPt.keep (h.2.2.1 e) hE, fun e => NPt.keep (h.2.2.2.1 e) hE, fun e => NPt.keep (h.2.2.2.2.1 e) hE, fun e => NPt.keep (h.2.2.2.2.2.1 e) hE, fun e => NPt.keep (h.2.2.2.2.2.2.1 e) hE, fun e => NPt.keep (h.2.2.2.2.2.2.2.1 e) hE, fun e => NPt.keep (h.2.2.2.2.2.2.2.2.1 e) hE, fun e => NPt.keep (h.2.2.2.2.2.2.2.2.2.1 e) hE, fun e => NPt.keep (h.2.2.2.2.2.2.2.2.2.2 e) hE⟩) ?_ ?_
      · refine Each.all ?_
        refine ⟨?_, ?_, ?_, ?_, ?_, ?_, ?_, ?_, ?_, ?_, ?_, ?_, ?_, ?_, ?_, ?_, ?_, ?_, ?_, ?_, ?_, ?_, ?_, ?_, ?_, ?_, ?_, ?_, ?_, ?_, ?_, ?_, ?_, ?_, ?_, ?_, ?_, ?_, ?_, ?_, trivial⟩
        · intro a w2 hB hF hd
          rw [if_pos (wanted_none rfl)]
          exact flow_val (fun h => by cases h) (run_load_str rfl Try.underlying28 rfl Try.size28 (hF.same 8 rfl) (h8.below hB h8.lt)) ⟨rfl, fun h => absurd h (by decide), fun h => absurd h (by decide), fun h => absurd h (by decide), fun h => absurd h (by decide), fun h => absurd h (by decide), fun h => absurd h (by decide), fun h => absurd h (by decide), fun h => absurd h (by decide), fun h => absurd h (by decide), fun h => absurd h (by decide)⟩
        · intro a w2 hB hF hd
          rw [if_pos (wanted_none rfl)]
          exact flow_val (fun h => by cases h) (run_load_str rfl Try.underlying28 rfl Try.size28 (hF.same 10 rfl) (h10.below hB h10.lt)) ⟨rfl, fun h => absurd h (by decide), fun h => absurd h (by decide), fun h => absurd h (by decide), fun h => absurd h (by decide), fun h => absurd h (by decide), fun h => absurd h (by decide), fun h => absurd h (by decide), fun h => absurd h (by decide), fun h => absurd h (by decide), fun h => absurd h (by decide)⟩
        · intro a w2 hB hF hd
          rw [if_pos (wanted_none rfl)]
          refine flow_call _ _ _ rfl Try.call18 _ (args2 ((hd 0 _ rfl (waits_spec rfl)).1) ((hd 1 _ rfl (waits_spec rfl)).1)) (by simp) ((pAddN w2 ⟨_, rfl, H8.out⟩ ⟨_, rfl, H10.out⟩).mono ?_)
          rintro e w3 ⟨u, rfl, hr, hb⟩; exact ⟨u, rfl, ⟨trivial, fun _ => hr, fun h => absurd h (by decide), fun h => absurd h (by decide), fun h => absurd h (by decide), fun h => absurd h (by decide), fun h => absurd h (by decide), fun h => absurd h (by decide), fun h => absurd h (by decide), fun h => absurd h (by decide), fun h => absurd h (by decide)⟩, hb⟩
        · intro a w2 hB hF hd
          rw [if_pos (wanted_none rfl)]
          exact flow_val (fun h => by cases h) (run_load_str rfl Try.underlying28 rfl Try.size28 (hF.same 10 rfl) (h10.below hB h10.lt)) ⟨rfl, fun h => absurd h (by decide), fun h => absurd h (by decide), fun h => absurd h (by decide), fun h => absurd h (by decide), fun h => absurd h (by decide), fun h => absurd h (by decide), fun h => absurd h (by decide), fun h => absurd h (by decide), fun h => absurd h (by decide), fun h => absurd h (by decide)⟩
        · intro a w2 hB hF hd
          rw [if_pos (wanted_none rfl)]
          exact flow_val (fun h => by cases h) (run_load_str rfl Try.underlying28 rfl Try.size28 (hF.same 8 rfl) (h8.below hB h8.lt)) ⟨rfl, fun h => absurd h (by decide), fun h => absurd h (by decide), fun h => absurd h (by decide), fun h => absurd h (by decide), fun h => absurd h (by decide), fun h => absurd h (by decide), fun h => absurd h (by decide), fun h => absurd h (by decide), fun h => absurd h (by decide), fun h => absurd h (by decide)⟩
        · intro a w2 hB hF hd
          rw [if_pos (wanted_none rfl)]
          refine flow_call _ _ _ rfl Try.call18 _ (args2 ((hd 3 _ rfl (waits_spec rfl)).1) ((hd 4 _ rfl (waits_spec rfl)).1)) (by simp) ((pAddN w2 ⟨_, rfl, H10.out⟩ ⟨_, rfl, H8.out⟩).mono ?_)
          rintro e w3 ⟨u, rfl, hr, hb⟩; exact ⟨u, rfl, ⟨trivial, fun h => absurd h (by decide), fun _ => hr, fun h => absurd h (by decide), fun h => absurd h (by decide), fun h => absurd h (by decide), fun h => absurd h (by decide), fun h => absurd h (by decide), fun h => absurd h (by decide), fun h => absurd h (by decide), fun h => absurd h (by decide)⟩, hb⟩
        · intro a w2 hB hF hd
          rw [if_pos (wanted_none rfl)]
          refine flow_call _ _ _ rfl Try.call34 _ (args2 rfl rfl) (by simp) ((pEqualN w2 ((hd 2 _ rfl (waits_spec rfl)).2.1 rfl) ((hd 5 _ rfl (waits_spec rfl)).2.2.1 rfl) (Ed.add_comm _ _)).mono ?_)
          rintro e w3 ⟨rfl, hb⟩; exact ⟨_, rfl, ⟨rfl, fun h => absurd h (by decide), fun h => absurd h (by decide), fun h => absurd h (by decide), fun h => absurd h (by decide), fun h => absurd h (by decide), fun h => absurd h (by decide), fun h => absurd h (by decide), fun h => absurd h (by decide), fun h => absurd h (by decide), fun h => absurd h (by decide)⟩, hb⟩
        · intro a w2 hB hF hd
          rw [if_pos (wanted_none rfl)]
          exact flow_val (fun h => by cases h) (run_not rfl ((hd 6 _ rfl (waits_spec rfl)).1)) ⟨rfl, fun h => absurd h (by decide), fun h => absurd h (by decide), fun h => absurd h (by decide), fun h => absurd h (by decide), fun h => absurd h (by decide), fun h => absurd h (by decide), fun h => absurd h (by decide), fun h => absurd h (by decide), fun h => absurd h (by decide), fun h => absurd h (by decide)⟩
        · intro a w2 hB hF hd
          rw [if_pos (wanted_none rfl)]
          exact flow_move _ (.inl rfl) (by simp) ⟨((hd 7 _ rfl (waits_spec rfl)).1), fun h => absurd h (by decide), fun h => absurd h (by decide), fun h => absurd h (by decide), fun h => absurd h (by decide), fun h => absurd h (by decide), fun h => absurd h (by decide), fun h => absurd h (by decide), fun h => absurd h (by decide), fun h => absurd h (by decide), fun h => absurd h (by decide)⟩
        · intro a w2 hB hF hd
          refine flow_wanted (wanted_yes rfl rfl ((hd 8 _ rfl (waits_spec rfl)).1) rfl) ?_
          exact flow_val (fun h => by cases h) (run_load_str rfl Try.underlying28 rfl Try.size28 (hF.same 8 rfl) (h8.below hB h8.lt)) ⟨rfl, fun h => absurd h (by decide), fun h => absurd h (by decide), fun h => absurd h (by decide), fun h => absurd h (by decide), fun h => absurd h (by decide), fun h => absurd h (by decide), fun h => absurd h (by decide), fun h => absurd h (by decide), fun h => absurd h (by decide), fun h => absurd h (by decide)⟩
        · intro a w2 hB hF hd
          refine flow_wanted (wanted_yes rfl rfl ((hd 8 _ rfl (waits_spec rfl)).1) rfl) ?_
          exact flow_val (fun h => by cases h) (run_load_str rfl Try.underlying28 rfl Try.size28 (hF.same 8 rfl) (h8.below hB h8.lt)) ⟨rfl, fun h => absurd h (by decide), fun h => absurd h (by decide), fun h => absurd h (by decide), fun h => absurd h (by decide), fun h => absurd h (by decide), fun h => absurd h (by decide), fun h => absurd h (by decide), fun h => absurd h (by decide), fun h => absurd h (by decide), fun h => absurd h (by decide)⟩
        · intro a w2 hB hF hd
          refine flow_wanted (wanted_yes rfl rfl ((hd 8 _ rfl (waits_spec rfl)).1) rfl) ?_
          refine flow_call _ _ _ rfl Try.call24 _ (args1 ((hd 10 _ rfl (waits_spec rfl)).1)) (by simp) ((pNegN w2 ⟨_, rfl, H8.out⟩).mono ?_)
          rintro e w3 ⟨u, rfl, hr, hb⟩; exact ⟨u, rfl, ⟨trivial, fun h => absurd h (by decide), fun h => absurd h (by decide), fun _ => hr, fun h => absurd h (by decide), fun h => absurd h (by decide), fun h => absurd h (by decide), fun h => absurd h (by decide), fun h => absurd h (by decide), fun h => absurd h (by decide), fun h => absurd h (by decide)⟩, hb⟩
        · intro a w2 hB hF hd
          refine flow_wanted (wanted_yes rfl rfl ((hd 8 _ rfl (waits_spec rfl)).1) rfl) ?_
          refine flow_call _ _ _ rfl Try.call18 _ (args2 ((hd 9 _ rfl (waits_spec rfl)).1) rfl) (by simp) ((pAddN w2 ⟨_, rfl, H8.out⟩ ((hd 11 _ rfl (waits_spec rfl)).2.2.2.1 rfl)).mono ?_)
          rintro e w3 ⟨u, rfl, hr, hb⟩; exact ⟨u, rfl, ⟨trivial, fun h => absurd h (by decide), fun h => absurd h (by decide), fun h => absurd h (by decide), fun _ => hr, fun h => absurd h (by decide), fun h => absurd h (by decide), fun h => absurd h (by decide), fun h => absurd h (by decide), fun h => absurd h (by decide), fun h => absurd h (by decide)⟩, hb⟩
        · intro a w2 hB hF hd
          refine flow_wanted (wanted_yes rfl rfl ((hd 8 _ rfl (waits_spec rfl)).1) rfl) ?_
          refine flow_call _ _ _ rfl Try.call15 _ args0 (by simp) ((pNoughtN w2).mono ?_)
          rintro e w3 ⟨u, rfl, hr, hb⟩; exact ⟨u, rfl, ⟨trivial, fun h => absurd h (by decide), fun h => absurd h (by decide), fun h => absurd h (by decide), fun h => absurd h (by decide), fun _ => hr, fun h => absurd h (by decide), fun h => absurd h (by decide), fun h => absurd h (by decide), fun h => absurd h (by decide), fun h => absurd h (by decide)⟩, hb⟩
        · intro a w2 hB hF hd
          refine flow_wanted (wanted_yes rfl rfl ((hd 8 _ rfl (waits_spec rfl)).1) rfl) ?_
          refine flow_call _ _ _ rfl Try.call34 _ (args2 rfl rfl) (by simp) ((pEqualN w2 ((hd 12 _ rfl (waits_spec rfl)).2.2.2.2.1 rfl) ((hd 13 _ rfl (waits_spec rfl)).2.2.2.2.2.1 rfl) (Ed.add_neg _)).mono ?_)
          rintro e w3 ⟨rfl, hb⟩; exact ⟨_, rfl, ⟨rfl, fun h => absurd h (by decide), fun h => absurd h (by decide), fun h => absurd h (by decide), fun h => absurd h (by decide), fun h => absurd h (by decide), fun h => absurd h (by decide), fun h => absurd h (by decide), fun h => absurd h (by decide), fun h => absurd h (by decide), fun h => absurd h (by decide)⟩, hb⟩
        · intro a w2 hB hF hd
          refine flow_wanted (wanted_yes rfl rfl ((hd 8 _ rfl (waits_spec rfl)).1) rfl) ?_
          exact flow_val (fun h => by cases h) (run_not rfl ((hd 14 _ rfl (waits_spec rfl)).1)) ⟨rfl, fun h => absurd h (by decide), fun h => absurd h (by decide), fun h => absurd h (by decide), fun h => absurd h (by decide), fun h => absurd h (by decide), fun h => absurd h (by decide), fun h => absurd h (by decide), fun h => absurd h (by decide), fun h => absurd h (by decide), fun h => absurd h (by decide)⟩
        · intro a w2 hB hF hd
          rw [if_pos (wanted_none rfl)]
          exact flow_val (fun h => by cases h) (run_pick rfl ((hd 8 _ rfl (waits_spec rfl)).1)) ⟨(((hd 15 _ rfl (waits_spec rfl)).1)), fun h => absurd h (by decide), fun h => absurd h (by decide), fun h => absurd h (by decide), fun h => absurd h (by decide), fun h => absurd h (by decide), fun h => absurd h (by decide), fun h => absurd h (by decide), fun h => absurd h (by decide), fun h => absurd h (by decide), fun h => absurd h (by decide)⟩
        · intro a w2 hB hF hd
          rw [if_pos (wanted_none rfl)]
          exact flow_move _ (.inl rfl) (by simp) ⟨((hd 16 _ rfl (waits_spec rfl)).1), fun h => absurd h (by decide), fun h => absurd h (by decide), fun h => absurd h (by decide), fun h => absurd h (by decide), fun h => absurd h (by decide), fun h => absurd h (by decide), fun h => absurd h (by decide), fun h => absurd h (by decide), fun h => absurd h (by decide), fun h => absurd h (by decide)⟩
        · intro a w2 hB hF hd
          refine flow_wanted (wanted_yes rfl rfl ((hd 17 _ rfl (waits_spec rfl)).1) rfl) ?_
          exact flow_val (fun h => by cases h) (run_load_str rfl Try.underlying28 rfl Try.size28 (hF.same 8 rfl) (h8.below hB h8.lt)) ⟨rfl, fun h => absurd h (by decide), fun h => absurd h (by decide), fun h => absurd h (by decide), fun h => absurd h (by decide), fun h => absurd h (by decide), fun h => absurd h (by decide), fun h => absurd h (by decide), fun h => absurd h (by decide), fun h => absurd h (by decide), fun h => absurd h (by decide)⟩
        · intro a w2 hB hF hd
          refine flow_wanted (wanted_yes rfl rfl ((hd 17 _ rfl (waits_spec rfl)).1) rfl) ?_
          refine flow_call _ _ _ rfl Try.call15 _ args0 (by simp) ((pNoughtN w2).mono ?_)
          rintro e w3 ⟨u, rfl, hr, hb⟩; exact ⟨u, rfl, ⟨trivial, fun h => absurd h (by decide), fun h => absurd h (by decide), fun h => absurd h (by decide), fun h => absurd h (by decide), fun h => absurd h (by decide), fun _ => hr, fun h => absurd h (by decide), fun h => absurd h (by decide), fun h => absurd h (by decide), fun h => absurd h (by decide)⟩, hb⟩
        · intro a w2 hB hF hd
          refine flow_wanted (wanted_yes rfl rfl ((hd 17 _ rfl (waits_spec rfl)).1) rfl) ?_
          refine flow_call _ _ _ rfl Try.call18 _ (args2 ((hd 18 _ rfl (waits_spec rfl)).1) rfl) (by simp) ((pAddN w2 ⟨_, rfl, H8.out⟩ ((hd 19 _ rfl (waits_spec rfl)).2.2.2.2.2.2.1 rfl)).mono ?_)
          rintro e w3 ⟨u, rfl, hr, hb⟩; exact ⟨u, rfl, ⟨trivial, fun h => absurd h (by decide), fun h => absurd h (by decide), fun h => absurd h (by decide), fun h => absurd h (by decide), fun h => absurd h (by decide), fun h => absurd h (by decide), fun _ => hr, fun h => absurd h (by decide), fun h => absurd h (by decide), fun h => absurd h (by decide)⟩, hb⟩
        · intro a w2 hB hF hd
          refine flow_wanted (wanted_yes rfl rfl ((hd 17 _ rfl (waits_spec rfl)).1) rfl) ?_
          exact flow_val (fun h => by cases h) (run_load_str rfl Try.underlying28 rfl Try.size28 (hF.same 8 rfl) (h8.below hB h8.lt)) ⟨rfl, fun h => absurd h (by decide), fun h => absurd h (by decide), fun h => absurd h (by decide), fun h => absurd h (by decide), fun h => absurd h (by decide), fun h => absurd h (by decide), fun h => absurd h (by decide), fun h => absurd h (by decide), fun h => absurd h (by decide), fun h => absurd h (by decide)⟩
        · intro a w2 hB hF hd
          refine flow_wanted (wanted_yes rfl rfl ((hd 17 _ rfl (waits_spec rfl)).1) rfl) ?_
          refine flow_call _ _ _ rfl Try.call34 _ (args2 rfl ((hd 21 _ rfl (waits_spec rfl)).1)) (by simp) ((pEqualN w2 ((hd 20 _ rfl (waits_spec rfl)).2.2.2.2.2.2.2.1 rfl) ⟨_, rfl, H8.out⟩ (Ed.add_zero _)).mono ?_)
          rintro e w3 ⟨rfl, hb⟩; exact ⟨_, rfl, ⟨rfl, fun h => absurd h (by decide), fun h => absurd h (by decide), fun h => absurd h (by decide), fun h => absurd h (by decide), fun h => absurd h (by decide), fun h => absurd h (by decide), fun h => absurd h (by decide), fun h => absurd h (by decide), fun h => absurd h (by decide), fun h => absurd h (by decide)⟩, hb⟩
        · intro a w2 hB hF hd
          refine flow_wanted (wanted_yes rfl rfl ((hd 17 _ rfl (waits_spec rfl)).1) rfl) ?_
          exact flow_val (fun h => by cases h) (run_not rfl ((hd 22 _ rfl (waits_spec rfl)).1)) ⟨rfl, fun h => absurd h (by decide), fun h => absurd h (by decide), fun h => absurd h (by decide), fun h => absurd h (by decide), fun h => absurd h (by decide), fun h => absurd h (by decide), fun h => absurd h (by decide), fun h => absurd h (by decide), fun h => absurd h (by decide), fun h => absurd h (by decide)⟩
        · intro a w2 hB hF hd
          rw [if_pos (wanted_none rfl)]
          exact flow_val (fun h => by cases h) (run_pick rfl ((hd 17 _ rfl (waits_spec rfl)).1)) ⟨(((hd 23 _ rfl (waits_spec rfl)).1)), fun h => absurd h (by decide), fun h => absurd h (by decide), fun h => absurd h (by decide), fun h => absurd h (by decide), fun h => absurd h (by decide), fun h => absurd h (by decide), fun h => absurd h (by decide), fun h => absurd h (by decide), fun h => absurd h (by decide), fun h => absurd h (by decide)⟩
        · intro a w2 hB hF hd
          rw [if_pos (wanted_none rfl)]
          exact flow_move _ (.inl rfl) (by simp) ⟨((hd 24 _ rfl (waits_spec rfl)).1), fun h => absurd h (by decide), fun h => absurd h (by decide), fun h => absurd h (by decide), fun h => absurd h (by decide), fun h => absurd h (by decide), fun h => absurd h (by decide), fun h => absurd h (by decide), fun h => absurd h (by decide), fun h => absurd h (by decide), fun h => absurd h (by decide)⟩
        · intro a w2 hB hF hd
          refine flow_wanted (wanted_yes rfl rfl ((hd 25 _ rfl (waits_spec rfl)).1) rfl) ?_
          exact flow_val (fun h => by cases h) (run_load_str rfl Try.underlying28 rfl Try.size28 (hF.same 8 rfl) (h8.below hB h8.lt)) ⟨rfl, fun h => absurd h (by decide), fun h => absurd h (by decide), fun h => absurd h (by decide), fun h => absurd h (by decide), fun h => absurd h (by decide), fun h => absurd h (by decide), fun h => absurd h (by decide), fun h => absurd h (by decide), fun h => absurd h (by decide), fun h => absurd h (by decide)⟩
        · intro a w2 hB hF hd
          refine flow_wanted (wanted_yes rfl rfl ((hd 25 _ rfl (waits_spec rfl)).1) rfl) ?_
          refine flow_call _ _ _ rfl Try.call24 _ (args1 ((hd 26 _ rfl (waits_spec rfl)).1)) (by simp) ((pNegN w2 ⟨_, rfl, H8.out⟩).mono ?_)
          rintro e w3 ⟨u, rfl, hr, hb⟩; exact ⟨u, rfl, ⟨trivial, fun h => absurd h (by decide), fun h => absurd h (by decide), fun h => absurd h (by decide), fun h => absurd h (by decide), fun h => absurd h (by decide), fun h => absurd h (by decide), fun h => absurd h (by decide), fun _ => hr, fun h => absurd h (by decide), fun h => absurd h (by decide)⟩, hb⟩
        · intro a w2 hB hF hd
          refine flow_wanted (wanted_yes rfl rfl ((hd 25 _ rfl (waits_spec rfl)).1) rfl) ?_
          refine flow_call _ _ _ rfl Try.call24 _ (args1 rfl) (by simp) ((pNegN w2 ((hd 27 _ rfl (waits_spec rfl)).2.2.2.2.2.2.2.2.1 rfl)).mono ?_)
          rintro e w3 ⟨u, rfl, hr, hb⟩; exact ⟨u, rfl, ⟨trivial, fun h => absurd h (by decide), fun h => absurd h (by decide), fun h => absurd h (by decide), fun h => absurd h (by decide), fun h => absurd h (by decide), fun h => absurd h (by decide), fun h => absurd h (by decide), fun h => absurd h (by decide), fun _ => hr, fun h => absurd h (by decide)⟩, hb⟩
        · intro a w2 hB hF hd
          refine flow_wanted (wanted_yes rfl rfl ((hd 25 _ rfl (waits_spec rfl)).1) rfl) ?_
          exact flow_val (fun h => by cases h) (run_load_str rfl Try.underlying28 rfl Try.size28 (hF.same 8 rfl) (h8.below hB h8.lt)) ⟨rfl, fun h => absurd h (by decide), fun h => absurd h (by decide), fun h => absurd h (by decide), fun h => absurd h (by decide), fun h => absurd h (by decide), fun h => absurd h (by decide), fun h => absurd h (by decide), fun h => absurd h (by decide), fun h => absurd h (by decide), fun h => absurd h (by decide)⟩
        · intro a w2 hB hF hd
          refine flow_wanted (wanted_yes rfl rfl ((hd 25 _ rfl (waits_spec rfl)).1) rfl) ?_
          refine flow_call _ _ _ rfl Try.call34 _ (args2 rfl ((hd 29 _ rfl (waits_spec rfl)).1)) (by simp) ((pEqualN w2 ((hd 28 _ rfl (waits_spec rfl)).2.2.2.2.2.2.2.2.2.1 rfl) ⟨_, rfl, H8.out⟩ (neg_neg_pt _)).mono ?_)
          rintro e w3 ⟨rfl, hb⟩; exact ⟨_, rfl, ⟨rfl, fun h => absurd h (by decide), fun h => absurd h (by decide), fun h => absurd h (by decide), fun h => absurd h (by decide), fun h => absurd h (by decide), fun h => absurd h (by decide), fun h => absurd h (by decide), fun h => absurd h (by decide), fun h => absurd h (by decide), fun h => absurd h (by decide)⟩, hb⟩
        · intro a w2 hB hF hd
          refine flow_wanted (wanted_yes rfl rfl ((hd 25 _ rfl (waits_spec rfl)).1) rfl) ?_
          exact flow_val (fun h => by cases h) (run_not rfl ((hd 30 _ rfl (waits_spec rfl)).1)) ⟨rfl, fun h => absurd h (by decide), fun h => absurd h (by decide), fun h => absurd h (by decide), fun h => absurd h (by decide), fun h => absurd h (by decide), fun h => absurd h (by decide), fun h => absurd h (by decide), fun h => absurd h (by decide), fun h => absurd h (by decide), fun h => absurd h (by decide)⟩
        · intro a w2 hB hF hd
          rw [if_pos (wanted_none rfl)]
          exact flow_val (fun h => by cases h) (run_pick rfl ((hd 25 _ rfl (waits_spec rfl)).1)) ⟨(((hd 31 _ rfl (waits_spec rfl)).1)), fun h => absurd h (by decide), fun h => absurd h (by decide), fun h => absurd h (by decide), fun h => absurd h (by decide), fun h => absurd h (by decide), fun h => absurd h (by decide), fun h => absurd h (by decide), fun h => absurd h (by decide), fun h => absurd h (by decide), fun h => absurd h (by decide)⟩
        · intro a w2 hB hF hd
          rw [if_pos (wanted_none rfl)]
          exact flow_move _ (.inl rfl) (by simp) ⟨((hd 32 _ rfl (waits_spec rfl)).1), fun h => absurd h (by decide), fun h => absurd h (by decide), fun h => absurd h (by decide), fun h => absurd h (by decide), fun h => absurd h (by decide), fun h => absurd h (by decide), fun h => absurd h (by decide), fun h => absurd h (by decide), fun h => absurd h (by decide), fun h => absurd h (by decide)⟩
        · intro a w2 hB hF hd
          refine flow_wanted (wanted_yes rfl rfl ((hd 33 _ rfl (waits_spec rfl)).1) rfl) ?_
          exact flow_val (fun h => by cases h) (run_load_str rfl Try.underlying28 rfl Try.size28 (hF.same 8 rfl) (h8.below hB h8.lt)) ⟨rfl, fun h => absurd h (by decide), fun h => absurd h (by decide), fun h => absurd h (by decide), fun h => absurd h (by decide), fun h => absurd h (by decide), fun h => absurd h (by decide), fun h => absurd h (by decide), fun h => absurd h (by decide), fun h => absurd h (by decide), fun h => absurd h (by decide)⟩
        · intro a w2 hB hF hd
          refine flow_wanted (wanted_yes rfl rfl ((hd 33 _ rfl (waits_spec rfl)).1) rfl) ?_
          exact flow_val (fun h => by cases h) (run_load_str rfl Try.underlying28 rfl Try.size28 (hF.same 10 rfl) (h10.below hB h10.lt)) ⟨rfl, fun h => absurd h (by decide), fun h => absurd h (by decide), fun h => absurd h (by decide), fun h => absurd h (by decide), fun h => absurd h (by decide), fun h => absurd h (by decide), fun h => absurd h (by decide), fun h => absurd h (by decide), fun h => absurd h (by decide), fun h => absurd h (by decide)⟩
        · intro a w2 hB hF hd
          refine flow_wanted (wanted_yes rfl rfl ((hd 33 _ rfl (waits_spec rfl)).1) rfl) ?_
          refine flow_call _ _ _ rfl Try.call18 _ (args2 ((hd 34 _ rfl (waits_spec rfl)).1) ((hd 35 _ rfl (waits_spec rfl)).1)) (by simp) ((pAddN w2 ⟨_, rfl, H8.out⟩ ⟨_, rfl, H10.out⟩).mono ?_)
          rintro e w3 ⟨u, rfl, hr, hb⟩; exact ⟨u, rfl, ⟨trivial, fun h => absurd h (by decide), fun h => absurd h (by decide), fun h => absurd h (by decide), fun h => absurd h (by decide), fun h => absurd h (by decide), fun h => absurd h (by decide), fun h => absurd h (by decide), fun h => absurd h (by decide), fun h => absurd h (by decide), fun _ => hr⟩, hb⟩
        · intro a w2 hB hF hd
          refine flow_wanted (wanted_yes rfl rfl ((hd 33 _ rfl (waits_spec rfl)).1) rfl) ?_
          refine flow_call _ _ _ rfl Try.call21 _ (args1 rfl) (by simp) ((pOnN w2 ((hd 36 _ rfl (waits_spec rfl)).2.2.2.2.2.2.2.2.2.2 rfl)).mono ?_)
          rintro e w3 ⟨rfl, hb⟩; exact ⟨_, rfl, ⟨rfl, fun h => absurd h (by decide), fun h => absurd h (by decide), fun h => absurd h (by decide), fun h => absurd h (by decide), fun h => absurd h (by decide), fun h => absurd h (by decide), fun h => absurd h (by decide), fun h => absurd h (by decide), fun h => absurd h (by decide), fun h => absurd h (by decide)⟩, hb⟩
        · intro a w2 hB hF hd
          refine flow_wanted (wanted_yes rfl rfl ((hd 33 _ rfl (waits_spec rfl)).1) rfl) ?_
          exact flow_val (fun h => by cases h) (run_not rfl ((hd 37 _ rfl (waits_spec rfl)).1)) ⟨rfl, fun h => absurd h (by decide), fun h => absurd h (by decide), fun h => absurd h (by decide), fun h => absurd h (by decide), fun h => absurd h (by decide), fun h => absurd h (by decide), fun h => absurd h (by decide), fun h => absurd h (by decide), fun h => absurd h (by decide), fun h => absurd h (by decide)⟩
        · intro a w2 hB hF hd
          rw [if_pos (wanted_none rfl)]
          exact flow_val (fun h => by cases h) (run_pick rfl ((hd 33 _ rfl (waits_spec rfl)).1)) ⟨(((hd 38 _ rfl (waits_spec rfl)).1)), fun h => absurd h (by decide), fun h => absurd h (by decide), fun h => absurd h (by decide), fun h => absurd h (by decide), fun h => absurd h (by decide), fun h => absurd h (by decide), fun h => absurd h (by decide), fun h => absurd h (by decide), fun h => absurd h (by decide), fun h => absurd h (by decide)⟩
      · intro a w8 hB hF hS
        obtain ⟨x29, hx29⟩ : ∃ x, x = a.tmps.getD 29 undef := ⟨_, rfl⟩
        obtain ⟨x32, hx32⟩ : ∃ x, x = a.tmps.getD 32 undef := ⟨_, rfl⟩
        obtain ⟨x38, hx38⟩ : ∃ x, x = a.tmps.getD 38 undef := ⟨_, rfl⟩
        obtain ⟨x39, hx39⟩ : ∃ x, x = a.tmps.getD 39 undef := ⟨_, rfl⟩
        obtain ⟨x40, hx40⟩ : ∃ x, x = a.tmps.getD 40 undef := ⟨_, rfl⟩
        obtain ⟨x46, hx46⟩ : ∃ x, x = a.tmps.getD 46 undef := ⟨_, rfl⟩
        obtain ⟨x47, hx47⟩ : ∃ x, x = a.tmps.getD 47 undef := ⟨_, rfl⟩
        obtain ⟨x54, hx54⟩ : ∃ x, x = a.tmps.getD 54 undef := ⟨_, rfl⟩
        obtain ⟨x55, hx55⟩ : ∃ x, x = a.tmps.getD 55 undef := ⟨_, rfl⟩
        obtain ⟨x63, hx63⟩ : ∃ x, x = a.tmps.getD 63 undef := ⟨_, rfl⟩
        have ha := puts_each rfl rfl hF [_, _, x29, _, _, x32, _, _, _, _, _, x38, x39, x40, _, _, _, _, _, x46, x47, _, _, _, _, _, _, x54, x55, _, _, _, _, _, _, _, x63, _, _, _] rfl ⟨(hS 0 _ rfl).1, (hS 1 _ rfl).1, hx29.symm, (hS 3 _ rfl).1, (hS 4 _ rfl).1, hx32.symm, (hS 6 _ rfl).1, (hS 7 _ rfl).1, (hS 8 _ rfl).1, (hS 9 _ rfl).1, (hS 10 _ rfl).1, hx38.symm, hx39.symm, hx40.symm, (hS 14 _ rfl).1, (hS 15 _ rfl).1, (hS 16 _ rfl).1, (hS 17 _ rfl).1, (hS 18 _ rfl).1, hx46.symm, hx47.symm, (hS 21 _ rfl).1, (hS 22 _ rfl).1, (hS 23 _ rfl).1, (hS 24 _ rfl).1, (hS 25 _ rfl).1, (hS 26 _ rfl).1, hx54.symm, hx55.symm, (hS 29 _ rfl).1, (hS 30 _ rfl).1, (hS 31 _ rfl).1, (hS 32 _ rfl).1, (hS 33 _ rfl).1, (hS 34 _ rfl).1, (hS 35 _ rfl).1, hx63.symm, (hS 37 _ rfl).1, (hS 38 _ rfl).1, (hS 39 _ rfl).1, trivial⟩
        simp only [puts, Act.put, List.setIfInBounds_toArray, List.set_cons_succ, List.set_cons_zero] at ha
        subst ha
        clear hx29 hx32 hx38 hx39 hx40 hx46 hx47 hx54 hx55 hx63
        clear hS hF
        replace h3 := h3.kept hB
        replace h4 := h4.kept hB
        replace h5 := h5.kept hB
        replace h7 := h7.kept hB
        replace h8 := h8.kept hB
        replace h10 := h10.kept hB
        replace hbel := hbel.trans (hB.mono hbel.size)
        clear hB
        go_upto_region 10 with (fail)
        refine region_flow (n := 108) (by kernel_rfl) (by kernel_rfl) (by kernel_rfl) rfl
          (fun ii vv ww => (match ii with | 0 | 6 | 16 => vv = .agg (arr .i64 64 (F)) | 1 | 17 => vv = .agg (arr .u8 32 (dg 256 (M : Int))) | 2 | 7 | 14 | 18 => vv = .agg (arr .u8 32 (dg 256 (N : Int))) | 3 => vv = .agg (arr .u8 32 (dg 256 (SA : Int))) | 5 | 13 => vv = .agg (arr .i64 64 (F26)) | 10 | 21 => vv = .bool true | 11 | 12 | 22 | 23 => vv = .bool false | 19 => vv = .agg (arr .u8 32 (dg 256 (SM : Int))) | _ => True) ∧ (ii = 4 → NPt vv ((Bp).mul (SA))) ∧ (ii = 8 → NPt vv ((Bp).mul (N))) ∧ (ii = 9 → NPt vv ((Bp.mul M).add ((Bp).mul (N)))) ∧ (ii = 15 → NPt vv ((Bp.mul M).mul (N))) ∧ (ii = 20 → NPt vv ((Bp).mul (SM))))
          (fun w w' => Below w.heap.size w w') (fun _ _ h => h) (fun i v w w' h hE => ⟨h.1, fun e => NPt.keep (h.2.1 e) hE, fun e => NPt.keep (h.2.2.1 e) hE, fun e => NPt.keep (h.2.2.2.1 e) hE, fun e => NPt.keep (h.2.2.2.2.1 e) hE, fun e => NPt.keep (h.2.2.2.2.2 e) hE⟩) ?_ ?_
        · refine Each.all ?_
          refine ⟨?_, ?_, ?_, ?_, ?_, ?_, ?_, ?_, ?_, ?_, ?_, ?_, ?_, ?_, ?_, ?_, ?_, ?_, ?_, ?_, ?_, ?_, ?_, ?_, trivial⟩
          · intro a w2 hB hF hd
            rw [if_pos (wanted_none rfl)]
            exact flow_val (fun h => by cases h) (run_load_str rfl Try.underlying28 rfl Try.size28 (hF.same 7 rfl) (h7.below hB h7.lt)) ⟨rfl, fun h => absurd h (by decide), fun h => absurd h (by decide), fun h => absurd h (by decide), fun h => absurd h (by decide), fun h => absurd h (by decide)⟩
          · intro a w2 hB hF hd
            rw [if_pos (wanted_none rfl)]
            exact flow_val (fun h => by cases h) (run_load_str rfl Try.underlying22 rfl Try.size22 (hF.same 4 rfl) (h4.below hB h4.lt)) ⟨rfl, fun h => absurd h (by decide), fun h => absurd h (by decide), fun h => absurd h (by decide), fun h => absurd h (by decide), fun h => absurd h (by decide)⟩
          · intro a w2 hB hF hd
            rw [if_pos (wanted_none rfl)]
            exact flow_val (fun h => by cases h) (run_load_str rfl Try.underlying22 rfl Try.size22 (hF.same 5 rfl) (h5.below hB h5.lt)) ⟨rfl, fun h => absurd h (by decide), fun h => absurd h (by decide), fun h => absurd h (by decide), fun h => absurd h (by decide), fun h => absurd h (by decide)⟩
          · intro a w2 hB hF hd
            rw [if_pos (wanted_none rfl)]
            refine flow_call _ _ _ rfl Try.call35 _ (args2 ((hd 1 _ rfl (waits_spec rfl)).1) ((hd 2 _ rfl (waits_spec rfl)).1)) (by simp) ((HQA.out w2).mono ?_)
            rintro e w3 ⟨rfl, hb⟩; exact ⟨_, rfl, ⟨rfl, fun h => absurd h (by decide), fun h => absurd h (by decide), fun h => absurd h (by decide), fun h => absurd h (by decide), fun h => absurd h (by decide)⟩, hb⟩
          · intro a w2 hB hF hd
            rw [if_pos (wanted_none rfl)]
            refine flow_call _ _ _ rfl Try.call16 _ (args2 ((hd 0 _ rfl (waits_spec rfl)).1) ((hd 3 _ rfl (waits_spec rfl)).1)) (by simp) ((pMulN _ HSA.out w2 ⟨_, rfl, HBF.out⟩).mono ?_)
            rintro e w3 ⟨u, rfl, hr, hb⟩; exact ⟨u, rfl, ⟨trivial, fun _ => hr, fun h => absurd h (by decide), fun h => absurd h (by decide), fun h => absurd h (by decide), fun h => absurd h (by decide)⟩, hb⟩
          · intro a w2 hB hF hd
            rw [if_pos (wanted_none rfl)]
            exact flow_val (fun h => by cases h) (run_load_str rfl Try.underlying28 rfl Try.size28 (hF.same 10 rfl) (h10.below hB h10.lt)) ⟨rfl, fun h => absurd h (by decide), fun h => absurd h (by decide), fun h => absurd h (by decide), fun h => absurd h (by decide), fun h => absurd h (by decide)⟩
          · intro a w2 hB hF hd
            rw [if_pos (wanted_none rfl)]
            exact flow_val (fun h => by cases h) (run_load_str rfl Try.underlying28 rfl Try.size28 (hF.same 7 rfl) (h7.below hB h7.lt)) ⟨rfl, fun h => absurd h (by decide), fun h => absurd h (by decide), fun h => absurd h (by decide), fun h => absurd h (by decide), fun h => absurd h (by decide)⟩
          · intro a w2 hB hF hd
            rw [if_pos (wanted_none rfl)]
            exact flow_val (fun h => by cases h) (run_load_str rfl Try.underlying22 rfl Try.size22 (hF.same 5 rfl) (h5.below hB h5.lt)) ⟨rfl, fun h => absurd h (by decide), fun h => absurd h (by decide), fun h => absurd h (by decide), fun h => absurd h (by decide), fun h => absurd h (by decide)⟩
          · intro a w2 hB hF hd
            rw [if_pos (wanted_none rfl)]
            refine flow_call _ _ _ rfl Try.call16 _ (args2 ((hd 6 _ rfl (waits_spec rfl)).1) ((hd 7 _ rfl (waits_spec rfl)).1)) (by simp) ((pMulN _ HN.out w2 ⟨_, rfl, HBF.out⟩).mono ?_)
            rintro e w3 ⟨u, rfl, hr, hb⟩; exact ⟨u, rfl, ⟨trivial, fun h => absurd h (by decide), fun _ => hr, fun h => absurd h (by decide), fun h => absurd h (by decide), fun h => absurd h (by decide)⟩, hb⟩
          · intro a w2 hB hF hd
            rw [if_pos (wanted_none rfl)]
            refine flow_call _ _ _ rfl Try.call18 _ (args2 ((hd 5 _ rfl (waits_spec rfl)).1) rfl) (by simp) ((pAddN w2 ⟨_, rfl, H10.out⟩ ((hd 8 _ rfl (waits_spec rfl)).2.2.1 rfl)).mono ?_)
            rintro e w3 ⟨u, rfl, hr, hb⟩; exact ⟨u, rfl, ⟨trivial, fun h => absurd h (by decide), fun h => absurd h (by decide), fun _ => hr, fun h => absurd h (by decide), fun h => absurd h (by decide)⟩, hb⟩
          · intro a w2 hB hF hd
            rw [if_pos (wanted_none rfl)]
            refine flow_call _ _ _ rfl Try.call34 _ (args2 rfl rfl) (by simp) ((pEqualN w2 ((hd 4 _ rfl (waits_spec rfl)).2.1 rfl) ((hd 9 _ rfl (waits_spec rfl)).2.2.2.1 rfl) (HE1.out)).mono ?_)
            rintro e w3 ⟨rfl, hb⟩; exact ⟨_, rfl, ⟨rfl, fun h => absurd h (by decide), fun h => absurd h (by decide), fun h => absurd h (by decide), fun h => absurd h (by decide), fun h => absurd h (by decide)⟩, hb⟩
          · intro a w2 hB hF hd
            rw [if_pos (wanted_none rfl)]
            exact flow_val (fun h => by cases h) (run_not rfl ((hd 10 _ rfl (waits_spec rfl)).1)) ⟨rfl, fun h => absurd h (by decide), fun h => absurd h (by decide), fun h => absurd h (by decide), fun h => absurd h (by decide), fun h => absurd h (by decide)⟩
          · intro a w2 hB hF hd
            rw [if_pos (wanted_none rfl)]
            exact flow_move _ (.inl rfl) (by simp) ⟨((hd 11 _ rfl (waits_spec rfl)).1), fun h => absurd h (by decide), fun h => absurd h (by decide), fun h => absurd h (by decide), fun h => absurd h (by decide), fun h => absurd h (by decide)⟩
          · intro a w2 hB hF hd
            refine flow_wanted (wanted_yes rfl rfl ((hd 12 _ rfl (waits_spec rfl)).1) rfl) ?_
            exact flow_val (fun h => by cases h) (run_load_str rfl Try.underlying28 rfl Try.size28 (hF.same 10 rfl) (h10.below hB h10.lt)) ⟨rfl, fun h => absurd h (by decide), fun h => absurd h (by decide), fun h => absurd h (by decide), fun h => absurd h (by decide), fun h => absurd h (by decide)⟩
          · intro a w2 hB hF hd
            refine flow_wanted (wanted_yes rfl rfl ((hd 12 _ rfl (waits_spec rfl)).1) rfl) ?_
            exact flow_val (fun h => by cases h) (run_load_str rfl Try.underlying22 rfl Try.size22 (hF.same 5 rfl) (h5.below hB h5.lt)) ⟨rfl, fun h => absurd h (by decide), fun h => absurd h (by decide), fun h => absurd h (by decide), fun h => absurd h (by decide), fun h => absurd h (by decide)⟩
          · intro a w2 hB hF hd
            refine flow_wanted (wanted_yes rfl rfl ((hd 12 _ rfl (waits_spec rfl)).1) rfl) ?_
            refine flow_call _ _ _ rfl Try.call16 _ (args2 ((hd 13 _ rfl (waits_spec rfl)).1) ((hd 14 _ rfl (waits_spec rfl)).1)) (by simp) ((pMulN _ HN.out w2 ⟨_, rfl, H10.out⟩).mono ?_)
            rintro e w3 ⟨u, rfl, hr, hb⟩; exact ⟨u, rfl, ⟨trivial, fun h => absurd h (by decide), fun h => absurd h (by decide), fun h => absurd h (by decide), fun _ => hr, fun h => absurd h (by decide)⟩, hb⟩
          · intro a w2 hB hF hd
            refine flow_wanted (wanted_yes rfl rfl ((hd 12 _ rfl (waits_spec rfl)).1) rfl) ?_
            exact flow_val (fun h => by cases h) (run_load_str rfl Try.underlying28 rfl Try.size28 (hF.same 7 rfl) (h7.below hB h7.lt)) ⟨rfl, fun h => absurd h (by decide), fun h => absurd h (by decide), fun h => absurd h (by decide), fun h => absurd h (by decide), fun h => absurd h (by decide)⟩
          · intro a w2 hB hF hd
            refine flow_wanted (wanted_yes rfl rfl ((hd 12 _ rfl (waits_spec rfl)).1) rfl) ?_
            exact flow_val (fun h => by cases h) (run_load_str rfl Try.underlying22 rfl Try.size22 (hF.same 4 rfl) (h4.below hB h4.lt)) ⟨rfl, fun h => absurd h (by decide), fun h => absurd h (by decide), fun h => absurd h (by decide), fun h => absurd h (by decide), fun h => absurd h (by decide)⟩
          · intro a w2 hB hF hd
            refine flow_wanted (wanted_yes rfl rfl ((hd 12 _ rfl (waits_spec rfl)).1) rfl) ?_
            exact flow_val (fun h => by cases h) (run_load_str rfl Try.underlying22 rfl Try.size22 (hF.same 5 rfl) (h5.below hB h5.lt)) ⟨rfl, fun h => absurd h (by decide), fun h => absurd h (by decide), fun h => absurd h (by decide), fun h => absurd h (by decide), fun h => absurd h (by decide)⟩
          · intro a w2 hB hF hd
            refine flow_wanted (wanted_yes rfl rfl ((hd 12 _ rfl (waits_spec rfl)).1) rfl) ?_
            refine flow_call _ _ _ rfl Try.call36 _ (args2 ((hd 17 _ rfl (waits_spec rfl)).1) ((hd 18 _ rfl (waits_spec rfl)).1)) (by simp) ((HQM.out w2).mono ?_)
            rintro e w3 ⟨rfl, hb⟩; exact ⟨_, rfl, ⟨rfl, fun h => absurd h (by decide), fun h => absurd h (by decide), fun h => absurd h (by decide), fun h => absurd h (by decide), fun h => absurd h (by decide)⟩, hb⟩
          · intro a w2 hB hF hd
            refine flow_wanted (wanted_yes rfl rfl ((hd 12 _ rfl (waits_spec rfl)).1) rfl) ?_
            refine flow_call _ _ _ rfl Try.call16 _ (args2 ((hd 16 _ rfl (waits_spec rfl)).1) ((hd 19 _ rfl (waits_spec rfl)).1)) (by simp) ((pMulN _ HSM.out w2 ⟨_, rfl, HBF.out⟩).mono ?_)
            rintro e w3 ⟨u, rfl, hr, hb⟩; exact ⟨u, rfl, ⟨trivial, fun h => absurd h (by decide), fun h => absurd h (by decide), fun h => absurd h (by decide), fun h => absurd h (by decide), fun _ => hr⟩, hb⟩
          · intro a w2 hB hF hd
            refine flow_wanted (wanted_yes rfl rfl ((hd 12 _ rfl (waits_spec rfl)).1) rfl) ?_
            refine flow_call _ _ _ rfl Try.call34 _ (args2 rfl rfl) (by simp) ((pEqualN w2 ((hd 15 _ rfl (waits_spec rfl)).2.2.2.2.1 rfl) ((hd 20 _ rfl (waits_spec rfl)).2.2.2.2.2 rfl) (HE2.out)).mono ?_)
            rintro e w3 ⟨rfl, hb⟩; exact ⟨_, rfl, ⟨rfl, fun h => absurd h (by decide), fun h => absurd h (by decide), fun h => absurd h (by decide), fun h => absurd h (by decide), fun h => absurd h (by decide)⟩, hb⟩
          · intro a w2 hB hF hd
            refine flow_wanted (wanted_yes rfl rfl ((hd 12 _ rfl (waits_spec rfl)).1) rfl) ?_
            exact flow_val (fun h => by cases h) (run_not rfl ((hd 21 _ rfl (waits_spec rfl)).1)) ⟨rfl, fun h => absurd h (by decide), fun h => absurd h (by decide), fun h => absurd h (by decide), fun h => absurd h (by decide), fun h => absurd h (by decide)⟩
          · intro a w2 hB hF hd
            rw [if_pos (wanted_none rfl)]
            exact flow_val (fun h => by cases h) (run_pick rfl ((hd 12 _ rfl (waits_spec rfl)).1)) ⟨(((hd 22 _ rfl (waits_spec rfl)).1)), fun h => absurd h (by decide), fun h => absurd h (by decide), fun h => absurd h (by decide), fun h => absurd h (by decide), fun h => absurd h (by decide)⟩
        · intro a w9 hB hF hS
          obtain ⟨x71, hx71⟩ : ∃ x, x = a.tmps.getD 71 undef := ⟨_, rfl⟩
          obtain ⟨x75, hx75⟩ : ∃ x, x = a.tmps.getD 75 undef := ⟨_, rfl⟩
          obtain ⟨x76, hx76⟩ : ∃ x, x = a.tmps.getD 76 undef := ⟨_, rfl⟩
          obtain ⟨x82, hx82⟩ : ∃ x, x = a.tmps.getD 82 undef := ⟨_, rfl⟩
          obtain ⟨x87, hx87⟩ : ∃ x, x = a.tmps.getD 87 undef := ⟨_, rfl⟩
          have ha := puts_each rfl rfl hF [_, _, _, _, x71, _, _, _, x75, x76, _, _, _, _, _, x82, _, _, _, _, x87, _, _, _] rfl ⟨(hS 0 _ rfl).1, (hS 1 _ rfl).1, (hS 2 _ rfl).1, (hS 3 _ rfl).1, hx71.symm, (hS 5 _ rfl).1, (hS 6 _ rfl).1, (hS 7 _ rfl).1, hx75.symm, hx76.symm, (hS 10 _ rfl).1, (hS 11 _ rfl).1, (hS 12 _ rfl).1, (hS 13 _ rfl).1, (hS 14 _ rfl).1, hx82.symm, (hS 16 _ rfl).1, (hS 17 _ rfl).1, (hS 18 _ rfl).1, (hS 19 _ rfl).1, hx87.symm, (hS 21 _ rfl).1, (hS 22 _ rfl).1, (hS 23 _ rfl).1, trivial⟩
          simp only [puts, Act.put, List.setIfInBounds_toArray, List.set_cons_succ, List.set_cons_zero] at ha
          subst ha
          clear hx71 hx75 hx76 hx82 hx87
          clear hS hF
          replace h3 := h3.kept hB
          replace h4 := h4.kept hB
          replace h5 := h5.kept hB
          replace h7 := h7.kept hB
          replace h8 := h8.kept hB
          replace h10 := h10.kept hB
          replace hbel := hbel.trans (hB.mono hbel.size)
          clear hB
          go_upto_region 12 with (fail)
          refine region_flow (n := 108) (by kernel_rfl) (by kernel_rfl) (by kernel_rfl) rfl
            (fun ii vv ww => (match ii with | 0 => vv = .agg (arr .i64 64 (F)) | 2 => vv = .agg (arr .u8 32 (dg 256 (OR : Int))) | 5 | 6 | 15 | 16 | 17 => vv = .bool true | 7 | 10 | 11 | 13 => vv = .agg (arr .i64 64 (F8)) | 8 => vv = .agg (arr .u8 32 (dg 256 ((3 : Nat) : Int))) | _ => True) ∧ (ii = 1 → Rd .i64 ww vv 16 (dg 65536 Q)) ∧ (ii = 3 → NPt vv ((Bp).mul (OR))) ∧ (ii = 4 → NPt vv (.zero)) ∧ (ii = 9 → NPt vv ((p).mul (3))) ∧ (ii = 12 → NPt vv ((p).add (p))) ∧ (ii = 14 → NPt vv (((p).add (p)).add (p))))
            (fun w w' => Below w.heap.size w w') (fun _ _ h => h) (fun i v w w' h hE => ⟨h.1, fun e => Rd.below (h.2.1 e) hE, fun e => NPt.keep (h.2.2.1 e) hE, fun e => NPt.keep (h.2.2.2.1 e) hE, fun e => NPt.keep (h.2.2.2.2.1 e) hE, fun e => NPt.keep (h.2.2.2.2.2.1 e) hE, fun e => NPt.keep (h.2.2.2.2.2.2 e) hE⟩) ?_ ?_
          · refine Each.all ?_
            refine ⟨?_, ?_, ?_, ?_, ?_, ?_, ?_, ?_, ?_, ?_, ?_, ?_, ?_, ?_, ?_, ?_, ?_, ?_, trivial⟩
            · intro a w2 hB hF hd
              rw [if_pos (wanted_none rfl)]
              exact flow_val (fun h => by cases h) (run_load_str rfl Try.underlying28 rfl Try.size28 (hF.same 7 rfl) (h7.below hB h7.lt)) ⟨rfl, fun h => absurd h (by decide), fun h => absurd h (by decide), fun h => absurd h (by decide), fun h => absurd h (by decide), fun h => absurd h (by decide), fun h => absurd h (by decide)⟩
            · intro a w2 hB hF hd
              rw [if_pos (wanted_none rfl)]
              refine flow_call _ _ _ rfl Try.call38 _ args0 (by simp) ((qQ_rd w2).mono ?_)
              rintro e w3 ⟨u, rfl, hr, hb⟩; exact ⟨u, rfl, ⟨trivial, fun _ => hr, fun h => absurd h (by decide), fun h => absurd h (by decide), fun h => absurd h (by decide), fun h => absurd h (by decide), fun h => absurd h (by decide)⟩, hb⟩
            · intro a w2 hB hF hd
              rw [if_pos (wanted_none rfl)]
              refine flow_call _ _ _ rfl Try.call37 _ (args1 rfl) (by simp) ((HBY.out w2 _ ((hd 1 _ rfl (waits_spec rfl)).2.1 rfl)).mono ?_)
              rintro e w3 ⟨rfl, hb⟩; exact ⟨_, rfl, ⟨rfl, fun h => absurd h (by decide), fun h => absurd h (by decide), fun h => absurd h (by decide), fun h => absurd h (by decide), fun h => absurd h (by decide), fun h => absurd h (by decide)⟩, hb⟩
            · intro a w2 hB hF hd
              rw [if_pos (wanted_none rfl)]
              refine flow_call _ _ _ rfl Try.call16 _ (args2 ((hd 0 _ rfl (waits_spec rfl)).1) ((hd 2 _ rfl (waits_spec rfl)).1)) (by simp) ((pMulN _ HOR.out w2 ⟨_, rfl, HBF.out⟩).mono ?_)
              rintro e w3 ⟨u, rfl, hr, hb⟩; exact ⟨u, rfl, ⟨trivial, fun h => absurd h (by decide), fun _ => hr, fun h => absurd h (by decide), fun h => absurd h (by decide), fun h => absurd h (by decide), fun h => absurd h (by decide)⟩, hb⟩
            · intro a w2 hB hF hd
              rw [if_pos (wanted_none rfl)]
              refine flow_call _ _ _ rfl Try.call15 _ args0 (by simp) ((pNoughtN w2).mono ?_)
              rintro e w3 ⟨u, rfl, hr, hb⟩; exact ⟨u, rfl, ⟨trivial, fun h => absurd h (by decide), fun h => absurd h (by decide), fun _ => hr, fun h => absurd h (by decide), fun h => absurd h (by decide), fun h => absurd h (by decide)⟩, hb⟩
            · intro a w2 hB hF hd
              rw [if_pos (wanted_none rfl)]
              refine flow_call _ _ _ rfl Try.call34 _ (args2 rfl rfl) (by simp) ((pEqualN w2 ((hd 3 _ rfl (waits_spec rfl)).2.2.1 rfl) ((hd 4 _ rfl (waits_spec rfl)).2.2.2.1 rfl) (HE3.out)).mono ?_)
              rintro e w3 ⟨rfl, hb⟩; exact ⟨_, rfl, ⟨rfl, fun h => absurd h (by decide), fun h => absurd h (by decide), fun h => absurd h (by decide), fun h => absurd h (by decide), fun h => absurd h (by decide), fun h => absurd h (by decide)⟩, hb⟩
            · intro a w2 hB hF hd
              rw [if_pos (wanted_none rfl)]
              exact flow_move _ (.inl rfl) (by simp) ⟨((hd 5 _ rfl (waits_spec rfl)).1), fun h => absurd h (by decide), fun h => absurd h (by decide), fun h => absurd h (by decide), fun h => absurd h (by decide), fun h => absurd h (by decide), fun h => absurd h (by decide)⟩
            · intro a w2 hB hF hd
              refine flow_wanted (wanted_yes rfl rfl ((hd 6 _ rfl (waits_spec rfl)).1) rfl) ?_
              exact flow_val (fun h => by cases h) (run_load_str rfl Try.underlying28 rfl Try.size28 (hF.same 8 rfl) (h8.below hB h8.lt)) ⟨rfl, fun h => absurd h (by decide), fun h => absurd h (by decide), fun h => absurd h (by decide), fun h => absurd h (by decide), fun h => absurd h (by decide), fun h => absurd h (by decide)⟩
            · intro a w2 hB hF hd
              refine flow_wanted (wanted_yes rfl rfl ((hd 6 _ rfl (waits_spec rfl)).1) rfl) ?_
              exact flow_val (fun h => by cases h) (run_built rfl (HB3.out _ _)) ⟨rfl, fun h => absurd h (by decide), fun h => absurd h (by decide), fun h => absurd h (by decide), fun h => absurd h (by decide), fun h => absurd h (by decide), fun h => absurd h (by decide)⟩
            · intro a w2 hB hF hd
              refine flow_wanted (wanted_yes rfl rfl ((hd 6 _ rfl (waits_spec rfl)).1) rfl) ?_
              refine flow_call _ _ _ rfl Try.call16 _ (args2 ((hd 7 _ rfl (waits_spec rfl)).1) ((hd 8 _ rfl (waits_spec rfl)).1)) (by simp) ((pMulN _ (by decide) w2 ⟨_, rfl, H8.out⟩).mono ?_)
              rintro e w3 ⟨u, rfl, hr, hb⟩; exact ⟨u, rfl, ⟨trivial, fun h => absurd h (by decide), fun h => absurd h (by decide), fun h => absurd h (by decide), fun _ => hr, fun h => absurd h (by decide), fun h => absurd h (by decide)⟩, hb⟩
            · intro a w2 hB hF hd
              refine flow_wanted (wanted_yes rfl rfl ((hd 6 _ rfl (waits_spec rfl)).1) rfl) ?_
              exact flow_val (fun h => by cases h) (run_load_str rfl Try.underlying28 rfl Try.size28 (hF.same 8 rfl) (h8.below hB h8.lt)) ⟨rfl, fun h => absurd h (by decide), fun h => absurd h (by decide), fun h => absurd h (by decide), fun h => absurd h (by decide), fun h => absurd h (by decide), fun h => absurd h (by decide)⟩
            · intro a w2 hB hF hd
              refine flow_wanted (wanted_yes rfl rfl ((hd 6 _ rfl (waits_spec rfl)).1) rfl) ?_
              exact flow_val (fun h => by cases h) (run_load_str rfl Try.underlying28 rfl Try.size28 (hF.same 8 rfl) (h8.below hB h8.lt)) ⟨rfl, fun h => absurd h (by decide), fun h => absurd h (by decide), fun h => absurd h (by decide), fun h => absurd h (by decide), fun h => absurd h (by decide), fun h => absurd h (by decide)⟩
            · intro a w2 hB hF hd
              refine flow_wanted (wanted_yes rfl rfl ((hd 6 _ rfl (waits_spec rfl)).1) rfl) ?_
              refine flow_call _ _ _ rfl Try.call18 _ (args2 ((hd 10 _ rfl (waits_spec rfl)).1) ((hd 11 _ rfl (waits_spec rfl)).1)) (by simp) ((pAddN w2 ⟨_, rfl, H8.out⟩ ⟨_, rfl, H8.out⟩).mono ?_)
              rintro e w3 ⟨u, rfl, hr, hb⟩; exact ⟨u, rfl, ⟨trivial, fun h => absurd h (by decide), fun h => absurd h (by decide), fun h => absurd h (by decide), fun h => absurd h (by decide), fun _ => hr, fun h => absurd h (by decide)⟩, hb⟩
            · intro a w2 hB hF hd
              refine flow_wanted (wanted_yes rfl rfl ((hd 6 _ rfl (waits_spec rfl)).1) rfl) ?_
              exact flow_val (fun h => by cases h) (run_load_str rfl Try.underlying28 rfl Try.size28 (hF.same 8 rfl) (h8.below hB h8.lt)) ⟨rfl, fun h => absurd h (by decide), fun h => absurd h (by decide), fun h => absurd h (by decide), fun h => absurd h (by decide), fun h => absurd h (by decide), fun h => absurd h (by decide)⟩
            · intro a w2 hB hF hd
              refine flow_wanted (wanted_yes rfl rfl ((hd 6 _ rfl (waits_spec rfl)).1) rfl) ?_
              refine flow_call _ _ _ rfl Try.call18 _ (args2 rfl ((hd 13 _ rfl (waits_spec rfl)).1)) (by simp) ((pAddN w2 ((hd 12 _ rfl (waits_spec rfl)).2.2.2.2.2.1 rfl) ⟨_, rfl, H8.out⟩).mono ?_)
              rintro e w3 ⟨u, rfl, hr, hb⟩; exact ⟨u, rfl, ⟨trivial, fun h => absurd h (by decide), fun h => absurd h (by decide), fun h => absurd h (by decide), fun h => absurd h (by decide), fun h => absurd h (by decide), fun _ => hr⟩, hb⟩
            · intro a w2 hB hF hd
              refine flow_wanted (wanted_yes rfl rfl ((hd 6 _ rfl (waits_spec rfl)).1) rfl) ?_
              refine flow_call _ _ _ rfl Try.call34 _ (args2 rfl rfl) (by simp) ((pEqualN w2 ((hd 9 _ rfl (waits_spec rfl)).2.2.2.2.1 rfl) ((hd 14 _ rfl (waits_spec rfl)).2.2.2.2.2.2 rfl) (mul_three _)).mono ?_)
              rintro e w3 ⟨rfl, hb⟩; exact ⟨_, rfl, ⟨rfl, fun h => absurd h (by decide), fun h => absurd h (by decide), fun h => absurd h (by decide), fun h => absurd h (by decide), fun h => absurd h (by decide), fun h => absurd h (by decide)⟩, hb⟩
            · intro a w2 hB hF hd
              rw [if_pos (wanted_none rfl)]
              exact flow_val (fun h => by cases h) (run_pick rfl ((hd 6 _ rfl (waits_spec rfl)).1)) ⟨(((hd 15 _ rfl (waits_spec rfl)).1)), fun h => absurd h (by decide), fun h => absurd h (by decide), fun h => absurd h (by decide), fun h => absurd h (by decide), fun h => absurd h (by decide), fun h => absurd h (by decide)⟩
            · intro a w2 hB hF hd
              rw [if_pos (wanted_none rfl)]
              exact flow_move _ (.inr rfl) (by simp) ⟨((hd 16 _ rfl (waits_spec rfl)).1), fun h => absurd h (by decide), fun h => absurd h (by decide), fun h => absurd h (by decide), fun h => absurd h (by decide), fun h => absurd h (by decide), fun h => absurd h (by decide)⟩
          · intro a w10 hB hF hS
            obtain ⟨x92, hx92⟩ : ∃ x, x = a.tmps.getD 92 undef := ⟨_, rfl⟩
            obtain ⟨x94, hx94⟩ : ∃ x, x = a.tmps.getD 94 undef := ⟨_, rfl⟩
            obtain ⟨x95, hx95⟩ : ∃ x, x = a.tmps.getD 95 undef := ⟨_, rfl⟩
            obtain ⟨x100, hx100⟩ : ∃ x, x = a.tmps.getD 100 undef := ⟨_, rfl⟩
            obtain ⟨x103, hx103⟩ : ∃ x, x = a.tmps.getD 103 undef := ⟨_, rfl⟩
            obtain ⟨x105, hx105⟩ : ∃ x, x = a.tmps.getD 105 undef := ⟨_, rfl⟩
            have ha := puts_each rfl rfl hF [_, x92, _, x94, x95, _, _, _, _, x100, _, _, x103, _, x105, _, _, _] rfl ⟨(hS 0 _ rfl).1, hx92.symm, (hS 2 _ rfl).1, hx94.symm, hx95.symm, (hS 5 _ rfl).1, (hS 6 _ rfl).1, (hS 7 _ rfl).1, (hS 8 _ rfl).1, hx100.symm, (hS 10 _ rfl).1, (hS 11 _ rfl).1, hx103.symm, (hS 13 _ rfl).1, hx105.symm, (hS 15 _ rfl).1, (hS 16 _ rfl).1, (hS 17 _ rfl).1, trivial⟩
            simp only [puts, Act.put, List.setIfInBounds_toArray, List.set_cons_succ, List.set_cons_zero] at ha
            subst ha
            clear hx92 hx94 hx95 hx100 hx103 hx105
            clear hS hF
            have hb9 := hbel.trans (hB.mono hbel.size)
            go_wp2
            go_ret
            exact ⟨rfl, hb9⟩
  · obtain rfl := hc1 hc
    clear hc HC0 hc1
    go_wp2_with (first
      | (refine load_str rfl 28 _ rfl .i64 x7 64 F Try.underlying28 rfl Try.size28 rfl h7 ?_)
      | (refine load_arr rfl 22 _ rfl .u8 w.heap.size 32 (dg 256 (A : Int)) 5 Try.underlying22 Try.size22 rfl h3 ?_))
    refine (pMul_ok HBF.out A HA.out _).mono ?_
    rintro e w8 ⟨G8, rfl, hg, hb⟩
    replace h3 := h3.kept hb
    replace h4 := h4.kept hb
    replace h5 := h5.kept hb
    replace h7 := h7.kept hb
    replace h8 := h8.kept hb
    replace hbel := hbel.trans (hb.mono hbel.size)
    have H8 := Lib.hid hg
    clear hb hg
    go_upto_region 7 with (refine store_arr rfl 28 _ _ rfl .i64 x8 64 F8 G8 Try.size28 rfl rfl h8 ?_)
    refine wp_world (fun w9 => Arr .u8 w9 w.heap.size 32 (dg 256 (A : Int)) ∧ Arr .u8 w9 (w.heap.size + 1) 32 (dg 256 (M : Int)) ∧ Arr .u8 w9 (w.heap.size + 2) 32 (dg 256 (N : Int)) ∧ Arr .i64 w9 x7 64 F ∧ Arr .i64 w9 x8 64 G8 ∧ Below w.heap.size w w9)
      ⟨h3.setRowOther _ (by omega) _, h4.setRowOther _ (by omega) _, h5.setRowOther _ (by omega) _, h7.setRowOther _ (by omega) _, h8.setRow _ _, below_setRow' hbel (by omega) _⟩ ?_
    clear h3 h4 h5 h7 h8 hbel
    rintro w9 ⟨h3, h4, h5, h7, h8, hbel⟩
    try simp only [Act.put, List.setIfInBounds_toArray, List.set_cons_succ, List.set_cons_zero]
    obtain ⟨p, hp⟩ : ∃ p, p = Bp.mul A := ⟨_, rfl⟩
    rw [← hp] at H8
    clear hp
    skip
    refine region_varsS (n := 108) (by kernel_rfl) (by kernel_rfl) (by kernel_rfl) rfl
      (isAl [(4, 3)]) (putOf [(4, 3)]) (fun _ => arr .i64 64 (fun _ => 0))  (fun _ => 28) (fun _ => 10) (fun _ => 2)
      (fun ii vv ww => (match ii with | 0 => vv = .agg (arr .i64 64 (F)) | 1 => vv = .agg (arr .u8 32 (dg 256 (M : Int))) | _ => True) ∧ (ii = 2 → NPt vv ((Bp).mul (M)))) (fun _ _ => True) (fun _ _ _ => trivial) (fun _ _ _ _ _ _ _ => trivial) (fun i v w w' h hE => ⟨h.1, fun e => NPt.keep (h.2 e) hE⟩)
      (vs_al rfl) (src_spec (by kernel_rfl)) (vs_inj rfl) ?_ ?_ ?_ ?_
    · refine Each.all ?_
      refine ⟨?_, ?_, ?_, (fun h => by cases h), (fun _ h => by cases h), trivial⟩
      · intro _ _ a w2 hB hF hd
        rw [if_pos (wanted_none rfl)]
        exact flow_val (fun h => by cases h) (run_load_str rfl Try.underlying28 rfl Try.size28 (hF.same 7 rfl) (h7.below hB h7.lt)) ⟨rfl, fun h => absurd h (by decide)⟩
      · intro _ _ a w2 hB hF hd
        rw [if_pos (wanted_none rfl)]
        exact flow_val (fun h => by cases h) (run_load_str rfl Try.underlying22 rfl Try.size22 (hF.same 4 rfl) (h4.below hB h4.lt)) ⟨rfl, fun h => absurd h (by decide)⟩
      · intro _ _ a w2 hB hF hd
        rw [if_pos (wanted_none rfl)]
        refine flow_call _ _ _ rfl Try.call16 _ (args2 ((hd 0 _ rfl rfl rfl (waits_spec rfl)).1) ((hd 1 _ rfl rfl rfl (waits_spec rfl)).1)) (by simp) ((pMulN _ HM.out w2 ⟨_, rfl, HBF.out⟩).mono ?_)
        rintro e w3 ⟨u, rfl, hr, hb⟩; exact ⟨u, rfl, ⟨trivial, fun _ => hr⟩, hb⟩
    · refine Each.all ?_
      refine ⟨(fun h => by cases h), (fun h => by cases h), (fun h => by cases h), ?_, (fun h => by cases h), trivial⟩
      · exact fun _ => ⟨rfl, rfl, fun a w2 K h => flow_alloc rfl rfl Try.zeroValue28 (by simp) h⟩
    · refine Each.all ?_
      refine ⟨(fun _ h => by cases h), (fun _ h => by cases h), (fun _ h => by cases h), (fun _ h => by cases h), ?_, trivial⟩
      · intro p hp
        obtain rfl : 3 = p := Option.some.inj hp
        exact ⟨rfl, rfl, ⟨_, rfl⟩, waits_spec rfl, fun a w2 b K hB hF hd hx hb h => put_src_N (s := 2) rfl rfl rfl Try.size28 hx rfl ((hd 2 _ rfl rfl rfl (waits_spec rfl)).2 rfl) hb h⟩
    · intro a w7 blk hB hF hS hv hfin hdis
      obtain ⟨v3, v3l, v3u⟩ := hv 3 _ rfl rfl
      obtain ⟨x26, hx26⟩ : ∃ x, x = a.tmps.getD 26 undef := ⟨_, rfl⟩
      have P26 : NPt x26 ((Bp).mul (M)) := by rw [hx26]; exact (hS 2 _ rfl rfl rfl).2 rfl
      have f3 := hfin 4 _ 3 rfl rfl
      obtain ⟨F26, e26, G26⟩ := P26
      have V3 : Arr .i64 w7 (blk 3) 64 F26 := arr_src (s := 2) f3 rfl (hx26.symm.trans e26)
      have ha := puts_each rfl rfl hF [_, _, x26, _, undef] rfl ⟨(hS 0 _ rfl rfl rfl).1, (hS 1 _ rfl rfl rfl).1, hx26.symm, v3, trivial, trivial⟩
      simp only [puts, Act.put, List.setIfInBounds_toArray, List.set_cons_succ, List.set_cons_zero] at ha
      subst ha
      clear hx26
      clear hS hv hfin hdis hF v3 f3
      replace h3 := h3.kept hB
      replace h4 := h4.kept hB
      replace h5 := h5.kept hB
      replace h7 := h7.kept hB
      replace h8 := h8.kept hB
      replace hbel := hbel.trans (hB.mono hbel.size)
      obtain ⟨x10, e10⟩ : ∃ x, x = blk 3 := ⟨_, rfl⟩
      rw [← e10] at V3 ⊢
      have h10 := V3
      have H10 := Lib.hid G26
      clear hB v3l v3u e26 G26 V3 e10
      go_upto_region 8 with (fail)
      refine region_flow (n := 108) (by kernel_rfl) (by kernel_rfl) (by kernel_rfl) rfl
        (fun ii vv ww => (match ii with | 0 | 4 | 9 | 10 | 18 | 21 | 26 | 29 | 34 => vv = .agg (arr .i64 64 (G8)) | 1 | 3 | 35 => vv = .agg (arr .i64 64 (F26)) | 6 | 14 | 22 | 30 | 37 => vv = .bool true | 7 | 8 | 15 | 16 | 17 | 23 | 24 | 25 | 31 | 32 | 33 | 38 | 39 => vv = .bool false | _ => True) ∧ (ii = 2 → NPt vv ((p).add (Bp.mul M))) ∧ (ii = 5 → NPt vv ((Bp.mul M).add (p))) ∧ (ii = 11 → NPt vv ((p).neg)) ∧ (ii = 12 → NPt vv ((p).add ((p).neg))) ∧ (ii = 13 → NPt vv (.zero)) ∧ (ii = 19 → NPt vv (.zero)) ∧ (ii = 20 → NPt vv ((p).add (.zero))) ∧ (ii = 27 → NPt vv ((p).neg)) ∧ (ii = 28 → NPt vv (((p).neg).neg)) ∧ (ii = 36 → NPt vv ((p).add (Bp.mul M))))
        (fun w w' => Below w.heap.size w w') (fun _ _ h => h) (fun i v w w' h hE => ⟨h.1, fun e => NPt.keep (h.2.1 e) hE, fun e => NPt.keep (h.2.2.1 e) hE, fun e => NPt.keep (h.2.2.2.1 e) hE, fun e => NPt.keep (h.2.2.2.2.1 e) hE, fun e => NPt.keep (h.2.2.2.2.2.1 e) hE, fun e => NPt.keep (h.2.2.2.2.2.2.1 e) hE, fun e => NPt.keep (h.2.2.2.2.2.2.2.1 e) hE, fun e => NPt.keep (h.2.2.2.2.2.2.2.2.1 e) hE, fun e => NPt.keep (h.2.2.2.2.2.2.2.2.2.1 e) hE, fun e => NPt.keep (h.2.2.2.2.2.2.2.2.2.2 e) hE⟩) ?_ ?_
      · refine Each.all ?_
        refine ⟨?_, ?_, ?_, ?_, ?_, ?_, ?_, ?_, ?_, ?_, ?_, ?_, ?_, ?_, ?_, ?_, ?_, ?_, ?_, ?_, ?_, ?_, ?_, ?_, ?_, ?_, ?_, ?_, ?_, ?_, ?_, ?_, ?_, ?_, ?_, ?_, ?_, ?_, ?_, ?_, trivial⟩
        · intro a w2 hB hF hd
          rw [if_pos (wanted_none rfl)]
          exact flow_val (fun h => by cases h) (run_load_str rfl Try.underlying28 rfl Try.size28 (hF.same 8 rfl) (h8.below hB h8.lt)) ⟨rfl, fun h => absurd h (by decide), fun h => absurd h (by decide), fun h => absurd h (by decide), fun h => absurd h (by decide), fun h => absurd h (by decide), fun h => absurd h (by decide), fun h => absurd h (by decide), fun h => absurd h (by decide), fun h => absurd h (by decide), fun h => absurd h (by decide)⟩
        · intro a w2 hB hF hd
          rw [if_pos (wanted_none rfl)]
          exact flow_val (fun h => by cases h) (run_load_str rfl Try.underlying28 rfl Try.size28 (hF.same 10 rfl) (h10.below hB h10.lt)) ⟨rfl, fun h => absurd h (by decide), fun h => absurd h (by decide), fun h => absurd h (by decide), fun h => absurd h (by decide), fun h => absurd h (by decide), fun h => absurd h (by decide), fun h => absurd h (by decide), fun h => absurd h (by decide), fun h => absurd h (by decide), fun h => absurd h (by decide)⟩
        · intro a w2 hB hF hd
          rw [if_pos (wanted_none rfl)]
          refine flow_call _ _ _ rfl Try.call18 _ (args2 ((hd 0 _ rfl (waits_spec rfl)).1) ((hd 1 _ rfl (waits_spec rfl)).1)) (by simp) ((pAddN w2 ⟨_, rfl, H8.out⟩ ⟨_, rfl, H10.out⟩).mono ?_)
          rintro e w3 ⟨u, rfl, hr, hb⟩; exact ⟨u, rfl, ⟨trivial, fun _ => hr, fun h => absurd h (by decide), fun h => absurd h (by decide), fun h => absurd h (by decide), fun h => absurd h (by decide), fun h => absurd h (by decide), fun h => absurd h (by decide), fun h => absurd h (by decide), fun h => absurd h (by decide), fun h => absurd h (by decide)⟩, hb⟩
        · intro a w2 hB hF hd
          rw [if_pos (wanted_none rfl)]
          exact flow_val (fun h => by cases h) (run_load_str rfl Try.underlying28 rfl Try.size28 (hF.same 10 rfl) (h10.below hB h10.lt)) ⟨rfl, fun h => absurd h (by decide), fun h => absurd h (by decide), fun h => absurd h (by decide), fun h => absurd h (by decide), fun h => absurd h (by decide), fun h => absurd h (by decide), fun h => absurd h (by decide), fun h => absurd h (by decide), fun h => absurd h (by decide), fun h => absurd h (by decide)⟩
        · intro a w2 hB hF hd
          rw [if_pos (wanted_none rfl)]
          exact flow_val (fun h => by cases h) (run_load_str rfl Try.underlying28 rfl Try.size28 (hF.same 8 rfl) (h8.below hB h8.lt)) ⟨rfl, fun h => absurd h (by decide), fun h => absurd h (by decide), fun h => absurd h (by decide), fun h => absurd h (by decide), fun h => absurd h (by decide), fun h => absurd h (by decide), fun h => absurd h (by decide), fun h => absurd h (by decide), fun h => absurd h (by decide), fun h => absurd h (by decide)⟩
        · intro a w2 hB hF hd
          rw [if_pos (wanted_none rfl)]
          refine flow_call _ _ _ rfl Try.call18 _ (args2 ((hd 3 _ rfl (waits_spec rfl)).1) ((hd 4 _ rfl (waits_spec rfl)).1)) (by simp) ((pAddN w2 ⟨_, rfl, H10.out⟩ ⟨_, rfl, H8.out⟩).mono ?_)
          rintro e w3 ⟨u, rfl, hr, hb⟩; exact ⟨u, rfl, ⟨trivial, fun h => absurd h (by decide), fun _ => hr, fun h => absurd h (by decide), fun h => absurd h (by decide), fun h => absurd h (by decide), fun h => absurd h (by decide), fun h => absurd h (by decide), fun h => absurd h (by decide), fun h => absurd h (by decide), fun h => absurd h (by decide)⟩, hb⟩
        · intro a w2 hB hF hd
          rw [if_pos (wanted_none rfl)]
          refine flow_call _ _ _ rfl Try.call34 _ (args2 rfl rfl) (by simp) ((pEqualN w2 ((hd 2 _ rfl (waits_spec rfl)).2.1 rfl) ((hd 5 _ rfl (waits_spec rfl)).2.2.1 rfl) (Ed.add_comm _ _)).mono ?_)
          rintro e w3 ⟨rfl, hb⟩; exact ⟨_, rfl, ⟨rfl, fun h => absurd h (by decide), fun h => absurd h (by decide), fun h => absurd h (by decide), fun h => absurd h (by decide), fun h => absurd h (by decide), fun h => absurd h (by decide), fun h => absurd h (by decide), fun h => absurd h (by decide), fun h => absurd h (by decide), fun h => absurd h (by decide)⟩, hb⟩
        · intro a w2 hB hF hd
          rw [if_pos (wanted_none rfl)]
          exact flow_val (fun h => by cases h) (run_not rfl ((hd 6 _ rfl (waits_spec rfl)).1)) ⟨rfl, fun h => absurd h (by decide), fun h => absurd h (by decide), fun h => absurd h (by decide), fun h => absurd h (by decide), fun h => absurd h (by decide), fun h => absurd h (by decide), fun h => absurd h (by decide), fun h => absurd h (by decide), fun h => absurd h (by decide), fun h => absurd h (by decide)⟩
        · intro a w2 hB hF hd
          rw [if_pos (wanted_none rfl)]
          exact flow_move _ (.inl rfl) (by simp) ⟨((hd 7 _ rfl (waits_spec rfl)).1), fun h => absurd h (by decide), fun h => absurd h (by decide), fun h => absurd h (by decide), fun h => absurd h (by decide), fun h => absurd h (by decide), fun h => absurd h (by decide), fun h => absurd h (by decide), fun h => absurd h (by decide), fun h => absurd h (by decide), fun h => absurd h (by decide)⟩
        · intro a w2 hB hF hd
          refine flow_wanted (wanted_yes rfl rfl ((hd 8 _ rfl (waits_spec rfl)).1) rfl) ?_
          exact flow_val (fun h => by cases h) (run_load_str rfl Try.underlying28 rfl Try.size28 (hF.same 8 rfl) (h8.below hB h8.lt)) ⟨rfl, fun h => absurd h (by decide), fun h => absurd h (by decide), fun h => absurd h (by decide), fun h => absurd h (by decide), fun h => absurd h (by decide), fun h => absurd h (by decide), fun h => absurd h (by decide), fun h => absurd h (by decide), fun h => absurd h (by decide), fun h => absurd h (by decide)⟩
        · intro a w2 hB hF hd
          refine flow_wanted (wanted_yes rfl rfl ((hd 8 _ rfl (waits_spec rfl)).1) rfl) ?_
          exact flow_val (fun h => by cases h) (run_load_str rfl Try.underlying28 rfl Try.size28 (hF.same 8 rfl) (h8.below hB h8.lt)) ⟨rfl, fun h => absurd h (by decide), fun h => absurd h (by decide), fun h => absurd h (by decide), fun h => absurd h (by decide), fun h => absurd h (by decide), fun h => absurd h (by decide), fun h => absurd h (by decide), fun h => absurd h (by decide), fun h => absurd h (by decide), fun h => absurd h (by decide)⟩
        · intro a w2 hB hF hd
          refine flow_wanted (wanted_yes rfl rfl ((hd 8 _ rfl (waits_spec rfl)).1) rfl) ?_
          refine flow_call _ _ _ rfl Try.call24 _ (args1 ((hd 10 _ rfl (waits_spec rfl)).1)) (by simp) ((pNegN w2 ⟨_, rfl, H8.out⟩).mono ?_)
          rintro e w3 ⟨u, rfl, hr, hb⟩; exact ⟨u, rfl, ⟨trivial, fun h => absurd h (by decide), fun h => absurd h (by decide), fun _ => hr, fun h => absurd h (by decide), fun h => absurd h (by decide), fun h => absurd h (by decide), fun h => absurd h (by decide), fun h => absurd h (by decide), fun h => absurd h (by decide), fun h => absurd h (by decide)⟩, hb⟩
        · intro a w2 hB hF hd
          refine flow_wanted (wanted_yes rfl rfl ((hd 8 _ rfl (waits_spec rfl)).1) rfl) ?_
          refine flow_call _ _ _ rfl Try.call18 _ (args2 ((hd 9 _ rfl (waits_spec rfl)).1) rfl) (by simp) ((pAddN w2 ⟨_, rfl, H8.out⟩ ((hd 11 _ rfl (waits_spec rfl)).2.2.2.1 rfl)).mono ?_)
          rintro e w3 ⟨u, rfl, hr, hb⟩; exact ⟨u, rfl, ⟨trivial, fun h => absurd h (by decide), fun h => absurd h (by decide), fun h => absurd h (by decide), fun _ => hr, fun h => absurd h (by decide), fun h => absurd h (by decide), fun h => absurd h (by decide), fun h => absurd h (by decide), fun h => absurd h (by decide), fun h => absurd h (by decide)⟩, hb⟩
        · intro a w2 hB hF hd
          refine flow_wanted (wanted_yes rfl rfl ((hd 8 _ rfl (waits_spec rfl)).1) rfl) ?_
          refine flow_call _ _ _ rfl Try.call15 _ args0 (by simp) ((pNoughtN w2).mono ?_)
          rintro e w3 ⟨u, rfl, hr, hb⟩; exact ⟨u, rfl, ⟨trivial, fun h => absurd h (by decide), fun h => absurd h (by decide), fun h => absurd h (by decide), fun h => absurd h (by decide), fun _ => hr, fun h => absurd h (by decide), fun h => absurd h (by decide), fun h => absurd h (by decide), fun h => absurd h (by decide), fun h => absurd h (by decide)⟩, hb⟩
        · intro a w2 hB hF hd
          refine flow_wanted (wanted_yes rfl rfl ((hd 8 _ rfl (waits_spec rfl)).1) rfl) ?_
          refine flow_call _ _ _ rfl Try.call34 _ (args2 rfl rfl) (by simp) ((pEqualN w2 ((hd 12 _ rfl (waits_spec rfl)).2.2.2.2.1 rfl) ((hd 13 _ rfl (waits_spec rfl)).2.2.2.2.2.1 rfl) (Ed.add_neg _)).mono ?_)
          rintro e w3 ⟨rfl, hb⟩; exact ⟨_, rfl, ⟨rfl, fun h => absurd h (by decide), fun h => absurd h (by decide), fun h => absurd h (by decide), fun h => absurd h (by decide), fun h => absurd h (by decide), fun h => absurd h (by decide), fun h => absurd h (by decide), fun h => absurd h (by decide), fun h => absurd h (by decide), fun h => absurd h (by decide)⟩, hb⟩
        · intro a w2 hB hF hd
          refine flow_wanted (wanted_yes rfl rfl ((hd 8 _ rfl (waits_spec rfl)).1) rfl) ?_
          exact flow_val (fun h => by cases h) (run_not rfl ((hd 14 _ rfl (waits_spec rfl)).1)) ⟨rfl, fun h => absurd h (by decide), fun h => absurd h (by decide), fun h => absurd h (by decide), fun h => absurd h (by decide), fun h => absurd h (by decide), fun h => absurd h (by decide), fun h => absurd h (by decide), fun h => absurd h (by decide), fun h => absurd h (by decide), fun h => absurd h (by decide)⟩
        · intro a w2 hB hF hd
          rw [if_pos (wanted_none rfl)]
          exact flow_val (fun h => by cases h) (run_pick rfl ((hd 8 _ rfl (waits_spec rfl)).1)) ⟨(((hd 15 _ rfl (waits_spec rfl)).1)), fun h => absurd h (by decide), fun h => absurd h (by decide), fun h => absurd h (by decide), fun h => absurd h (by decide), fun h => absurd h (by decide), fun h => absurd h (by decide), fun h => absurd h (by decide), fun h => absurd h (by decide), fun h => absurd h (by decide), fun h => absurd h (by decide)⟩
        · intro a w2 hB hF hd
          rw [if_pos (wanted_none rfl)]
          exact flow_move _ (.inl rfl) (by simp) ⟨((hd 16 _ rfl (waits_spec rfl)).1), fun h => absurd h (by decide), fun h => absurd h (by decide), fun h => absurd h (by decide), fun h => absurd h (by decide), fun h => absurd h (by decide), fun h => absurd h (by decide), fun h => absurd h (by decide), fun h => absurd h (by decide), fun h => absurd h (by decide), fun h => absurd h (by decide)⟩
        · intro a w2 hB hF hd
          refine flow_wanted (wanted_yes rfl rfl ((hd 17 _ rfl (waits_spec rfl)).1) rfl) ?_
          exact flow_val (fun h => by cases h) (run_load_str rfl Try.underlying28 rfl Try.size28 (hF.same 8 rfl) (h8.below hB h8.lt)) ⟨rfl, fun h => absurd h (by decide), fun h => absurd h (by decide), fun h => absurd h (by decide), fun h => absurd h (by decide), fun h => absurd h (by decide), fun h => absurd h (by decide), fun h => absurd h (by decide), fun h => absurd h (by decide), fun h => absurd h (by decide), fun h => absurd h (by decide)⟩
        · intro a w2 hB hF hd
          refine flow_wanted (wanted_yes rfl rfl ((hd 17 _ rfl (waits_spec rfl)).1) rfl) ?_
          refine flow_call _ _ _ rfl Try.call15 _ args0 (by simp) ((pNoughtN w2).mono ?_)
          rintro e w3 ⟨u, rfl, hr, hb⟩; exact ⟨u, rfl, ⟨trivial, fun h => absurd h (by decide), fun h => absurd h (by decide), fun h => absurd h (by decide), fun h => absurd h (by decide), fun h => absurd h (by decide), fun _ => hr, fun h => absurd h (by decide), fun h => absurd h (by decide), fun h => absurd h (by decide), fun h => absurd h (by decide)⟩, hb⟩
        · intro a w2 hB hF hd
          refine flow_wanted (wanted_yes rfl rfl ((hd 17 _ rfl (waits_spec rfl)).1) rfl) ?_
          refine flow_call _ _ _ rfl Try.call18 _ (args2 ((hd 18 _ rfl (waits_spec rfl)).1) rfl) (by simp) ((pAddN w2 ⟨_, rfl, H8.out⟩ ((hd 19 _ rfl (waits_spec rfl)).2.2.2.2.2.2.1 rfl)).mono ?_)
          rintro e w3 ⟨u, rfl, hr, hb⟩; exact ⟨u, rfl, ⟨trivial, fun h => absurd h (by decide), fun h => absurd h (by decide), fun h => absurd h (by decide), fun h => absurd h (by decide), fun h => absurd h (by decide), fun h => absurd h (by decide), fun _ => hr, fun h => absurd h (by decide), fun h => absurd h (by decide), fun h => absurd h (by decide)⟩, hb⟩
        · intro a w2 hB hF hd
          refine flow_wanted (wanted_yes rfl rfl ((hd 17 _ rfl (waits_spec rfl)).1) rfl) ?_
          exact flow_val (fun h => by cases h) (run_load_str rfl Try.underlying28 rfl Try.size28 (hF.same 8 rfl) (h8.below hB h8.lt)) ⟨rfl, fun h => absurd h (by decide), fun h => absurd h (by decide), fun h => absurd h (by decide), fun h => absurd h (by decide), fun h => absurd h (by decide), fun h => absurd h (by decide), fun h => absurd h (by decide), fun h => absurd h (by decide), fun h => absurd h (by decide), fun h => absurd h (by decide)⟩
        · intro a w2 hB hF hd
          refine flow_wanted (wanted_yes rfl rfl ((hd 17 _ rfl (waits_spec rfl)).1) rfl) ?_
          refine flow_call _ _ _ rfl Try.call34 _ (args2 rfl ((hd 21 _ rfl (waits_spec rfl)).1)) (by simp) ((pEqualN w2 ((hd 20 _ rfl (waits_spec rfl)).2.2.2.2.2.2.2.1 rfl) ⟨_, rfl, H8.out⟩ (Ed.add_zero _)).mono ?_)
          rintro e w3 ⟨rfl, hb⟩; exact ⟨_, rfl, ⟨rfl, fun h => absurd h (by decide), fun h => absurd h (by decide), fun h => absurd h (by decide), fun h => absurd h (by decide), fun h => absurd h (by decide), fun h => absurd h (by decide), fun h => absurd h (by decide), fun h => absurd h (by decide), fun h => absurd h (by decide), fun h => absurd h (by decide)⟩, hb⟩
        · intro a w2 hB hF hd
          refine flow_wanted (wanted_yes rfl rfl ((hd 17 _ rfl (waits_spec rfl)).1) rfl) ?_
          exact flow_val (fun h => by cases h) (run_not rfl ((hd 22 _ rfl (waits_spec rfl)).1)) ⟨rfl, fun h => absurd h (by decide), fun h => absurd h (by decide), fun h => absurd h (by decide), fun h => absurd h (by decide), fun h => absurd h (by decide), fun h => absurd h (by decide), fun h => absurd h (by decide), fun h => absurd h (by decide), fun h => absurd h (by decide), fun h => absurd h (by decide)⟩
        · intro a w2 hB hF hd
          rw [if_pos (wanted_none rfl)]
          exact flow_val (fun h => by cases h) (run_pick rfl ((hd 17 _ rfl (waits_spec rfl)).1)) ⟨(((hd 23 _ rfl (waits_spec rfl)).1)), fun h => absurd h (by decide), fun h => absurd h (by decide), fun h => absurd h (by decide), fun h => absurd h (by decide), fun h => absurd h (by decide), fun h => absurd h (by decide), fun h => absurd h (by decide), fun h => absurd h (by decide), fun h => absurd h (by decide), fun h => absurd h (by decide)⟩
        · intro a w2 hB hF hd
          rw [if_pos (wanted_none rfl)]
          exact flow_move _ (.inl rfl) (by simp) ⟨((hd 24 _ rfl (waits_spec rfl)).1), fun h => absurd h (by decide), fun h => absurd h (by decide), fun h => absurd h (by decide), fun h => absurd h (by decide), fun h => absurd h (by decide), fun h => absurd h (by decide), fun h => absurd h (by decide), fun h => absurd h (by decide), fun h => absurd h (by decide), fun h => absurd h (by decide)⟩
        · intro a w2 hB hF hd
          refine flow_wanted (wanted_yes rfl rfl ((hd 25 _ rfl (waits_spec rfl)).1) rfl) ?_
          exact flow_val (fun h => by cases h) (run_load_str rfl Try.underlying28 rfl Try.size28 (hF.same 8 rfl) (h8.below hB h8.lt)) ⟨rfl, fun h => absurd h (by decide), fun h => absurd h (by decide), fun h => absurd h (by decide), fun h => absurd h (by decide), fun h => absurd h (by decide), fun h => absurd h (by decide), fun h => absurd h (by decide), fun h => absurd h (by decide), fun h => absurd h (by decide), fun h => absurd h (by decide)⟩
        · intro a w2 hB hF hd
          refine flow_wanted (wanted_yes rfl rfl ((hd 25 _ rfl (waits_spec rfl)).1) rfl) ?_
          refine flow_call _ _ _ rfl Try.call24 _ (args1 ((hd 26 _ rfl (waits_spec rfl)).1)) (by simp) ((pNegN w2 ⟨_, rfl, H8.out⟩).mono ?_)
          rintro e w3 ⟨u, rfl, hr, hb⟩; exact ⟨u, rfl, ⟨trivial, fun h => absurd h (by decide), fun h => absurd h (by decide), fun h => absurd h (by decide), fun h => absurd h (by decide), fun h => absurd h (by decide), fun h => absurd h (by decide), fun h => absurd h (by decide), fun _ => hr, fun h => absurd h (by decide), fun h => absurd h (by decide)⟩, hb⟩
        · intro a w2 hB hF hd
          refine flow_wanted (wanted_yes rfl rfl ((hd 25 _ rfl (waits_spec rfl)).1) rfl) ?_
          refine flow_call _ _ _ rfl Try.call24 _ (args1 rfl) (by simp) ((pNegN w2 ((hd 27 _ rfl (waits_spec rfl)).2.2.2.2.2.2.2.2.1 rfl)).mono ?_)
          rintro e w3 ⟨u, rfl, hr, hb⟩; exact ⟨u, rfl, ⟨trivial, fun h => absurd h (by decide), fun h => absurd h (by decide), fun h => absurd h (by decide), fun h => absurd h (by decide), fun h => absurd h (by decide), fun h => absurd h (by decide), fun h => absurd h (by decide), fun h => absurd h (by decide), fun _ => hr, fun h => absurd h (by decide)⟩, hb⟩
        · intro a w2 hB hF hd
          refine flow_wanted (wanted_yes rfl rfl ((hd 25 _ rfl (waits_spec rfl)).1) rfl) ?_
          exact flow_val (fun h => by cases h) (run_load_str rfl Try.underlying28 rfl Try.size28 (hF.same 8 rfl) (h8.below hB h8.lt)) ⟨rfl, fun h => absurd h (by decide), fun h => absurd h (by decide), fun h => absurd h (by decide), fun h => absurd h (by decide), fun h => absurd h (by decide), fun h => absurd h (by decide), fun h => absurd h (by decide), fun h => absurd h (by decide), fun h => absurd h (by decide), fun h => absurd h (by decide)⟩
        · intro a w2 hB hF hd
          refine flow_wanted (wanted_yes rfl rfl ((hd 25 _ rfl (waits_spec rfl)).1) rfl) ?_
          refine flow_call _ _ _ rfl Try.call34 _ (args2 rfl ((hd 29 _ rfl (waits_spec rfl)).1)) (by simp) ((pEqualN w2 ((hd 28 _ rfl (waits_spec rfl)).2.2.2.2.2.2.2.2.2.1 rfl) ⟨_, rfl, H8.out⟩ (neg_neg_pt _)).mono ?_)
          rintro e w3 ⟨rfl, hb⟩; exact ⟨_, rfl, ⟨rfl, fun h => absurd h (by decide), fun h => absurd h (by decide), fun h => absurd h (by decide), fun h => absurd h (by decide), fun h => absurd h (by decide), fun h => absurd h (by decide), fun h => absurd h (by decide), fun h => absurd h (by decide), fun h => absurd h (by decide), fun h => absurd h (by decide)⟩, hb⟩
        · intro a w2 hB hF hd
          refine flow_wanted (wanted_yes rfl rfl ((hd 25 _ rfl (waits_spec rfl)).1) rfl) ?_
          exact flow_val (fun h => by cases h) (run_not rfl ((hd 30 _ rfl (waits_spec rfl)).1)) ⟨rfl, fun h => absurd h (by decide), fun h => absurd h (by decide), fun h => absurd h (by decide), fun h => absurd h (by decide), fun h => absurd h (by decide), fun h => absurd h (by decide), fun h => absurd h (by decide), fun h => absurd h (by decide), fun h => absurd h (by decide), fun h => absurd h (by decide)⟩
        · intro a w2 hB hF hd
          rw [if_pos (wanted_none rfl)]
          exact flow_val (fun h => by cases h) (run_pick rfl ((hd 25 _ rfl (waits_spec rfl)).1)) ⟨(((hd 31 _ rfl (waits_spec rfl)).1)), fun h => absurd h (by decide), fun h => absurd h (by decide), fun h => absurd h (by decide), fun h => absurd h (by decide), fun h => absurd h (by decide), fun h => absurd h (by decide), fun h => absurd h (by decide), fun h => absurd h (by decide), fun h => absurd h (by decide), fun h => absurd h (by decide)⟩
        · intro a w2 hB hF hd
          rw [if_pos (wanted_none rfl)]
          exact flow_move _ (.inl rfl) (by simp) ⟨((hd 32 _ rfl (waits_spec rfl)).1), fun h => absurd h (by decide), fun h => absurd h (by decide), fun h => absurd h (by decide), fun h => absurd h (by decide), fun h => absurd h (by decide), fun h => absurd h (by decide), fun h => absurd h (by decide), fun h => absurd h (by decide), fun h => absurd h (by decide), fun h => absurd h (by decide)⟩
        · intro a w2 hB hF hd
          refine flow_wanted (wanted_yes rfl rfl ((hd 33 _ rfl (waits_spec rfl)).1) rfl) ?_
          exact flow_val (fun h => by cases h) (run_load_str rfl Try.underlying28 rfl Try.size28 (hF.same 8 rfl) (h8.below hB h8.lt)) ⟨rfl, fun h => absurd h (by decide), fun h => absurd h (by decide), fun h => absurd h (by decide), fun h => absurd h (by decide), fun h => absurd h (by decide), fun h => absurd h (by decide), fun h => absurd h (by decide), fun h => absurd h (by decide), fun h => absurd h (by decide), fun h => absurd h (by decide)⟩
        · intro a w2 hB hF hd
          refine flow_wanted (wanted_yes rfl rfl ((hd 33 _ rfl (waits_spec rfl)).1) rfl) ?_
          exact flow_val (fun h => by cases h) (run_load_str rfl Try.underlying28 rfl Try.size28 (hF.same 10 rfl) (h10.below hB h10.lt)) ⟨rfl, fun h => absurd h (by decide), fun h => absurd h (by decide), fun h => absurd h (by decide), fun h => absurd h (by decide), fun h => absurd h (by decide), fun h => absurd h (by decide), fun h => absurd h (by decide), fun h => absurd h (by decide), fun h => absurd h (by decide), fun h => absurd h (by decide)⟩
        · intro a w2 hB hF hd
          refine flow_wanted (wanted_yes rfl rfl ((hd 33 _ rfl (waits_spec rfl)).1) rfl) ?_
          refine flow_call _ _ _ rfl Try.call18 _ (args2 ((hd 34 _ rfl (waits_spec rfl)).1) ((hd 35 _ rfl (waits_spec rfl)).1)) (by simp) ((pAddN w2 ⟨_, rfl, H8.out⟩ ⟨_, rfl, H10.out⟩).mono ?_)
          rintro e w3 ⟨u, rfl, hr, hb⟩; exact ⟨u, rfl, ⟨trivial, fun h => absurd h (by decide), fun h => absurd h (by decide), fun h => absurd h (by decide), fun h => absurd h (by decide), fun h => absurd h (by decide), fun h => absurd h (by decide), fun h => absurd h (by decide), fun h => absurd h (by decide), fun h => absurd h (by decide), fun _ => hr⟩, hb⟩
        · intro a w2 hB hF hd
          refine flow_wanted (wanted_yes rfl rfl ((hd 33 _ rfl (waits_spec rfl)).1) rfl) ?_
          refine flow_call _ _ _ rfl Try.call21 _ (args1 rfl) (by simp) ((pOnN w2 ((hd 36 _ rfl (waits_spec rfl)).2.2.2.2.2.2.2.2.2.2 rfl)).mono ?_)
          rintro e w3 ⟨rfl, hb⟩; exact ⟨_, rfl, ⟨rfl, fun h => absurd h (by decide), fun h => absurd h (by decide), fun h => absurd h (by decide), fun h => absurd h (by decide), fun h => absurd h (by decide), fun h => absurd h (by decide), fun h => absurd h (by decide), fun h => absurd h (by decide), fun h => absurd h (by decide), fun h => absurd h (by decide)⟩, hb⟩
        · intro a w2 hB hF hd
          refine flow_wanted (wanted_yes rfl rfl ((hd 33 _ rfl (waits_spec rfl)).1) rfl) ?_
          exact flow_val (fun h => by cases h) (run_not rfl ((hd 37 _ rfl (waits_spec rfl)).1)) ⟨rfl, fun h => absurd h (by decide), fun h => absurd h (by decide), fun h => absurd h (by decide), fun h => absurd h (by decide), fun h => absurd h (by decide), fun h => absurd h (by decide), fun h => absurd h (by decide), fun h => absurd h (by decide), fun h => absurd h (by decide), fun h => absurd h (by decide)⟩
        · intro a w2 hB hF hd
          rw [if_pos (wanted_none rfl)]
          exact flow_val (fun h => by cases h) (run_pick rfl ((hd 33 _ rfl (waits_spec rfl)).1)) ⟨(((hd 38 _ rfl (waits_spec rfl)).1)), fun h => absurd h (by decide), fun h => absurd h (by decide), fun h => absurd h (by decide), fun h => absurd h (by decide), fun h => absurd h (by decide), fun h => absurd h (by decide), fun h => absurd h (by decide), fun h => absurd h (by decide), fun h => absurd h (by decide), fun h => absurd h (by decide)⟩
      · intro a w8 hB hF hS
        obtain ⟨x29, hx29⟩ : ∃ x, x = a.tmps.getD 29 undef := ⟨_, rfl⟩
        obtain ⟨x32, hx32⟩ : ∃ x, x = a.tmps.getD 32 undef := ⟨_, rfl⟩
        obtain ⟨x38, hx38⟩ : ∃ x, x = a.tmps.getD 38 undef := ⟨_, rfl⟩
        obtain ⟨x39, hx39⟩ : ∃ x, x = a.tmps.getD 39 undef := ⟨_, rfl⟩
        obtain ⟨x40, hx40⟩ : ∃ x, x = a.tmps.getD 40 undef := ⟨_, rfl⟩
        obtain ⟨x46, hx46⟩ : ∃ x, x = a.tmps.getD 46 undef := ⟨_, rfl⟩
        obtain ⟨x47, hx47⟩ : ∃ x, x = a.tmps.getD 47 undef := ⟨_, rfl⟩
        obtain ⟨x54, hx54⟩ : ∃ x, x = a.tmps.getD 54 undef := ⟨_, rfl⟩
        obtain ⟨x55, hx55⟩ : ∃ x, x = a.tmps.getD 55 undef := ⟨_, rfl⟩
        obtain ⟨x63, hx63⟩ : ∃ x, x = a.tmps.getD 63 undef := ⟨_, rfl⟩
        have ha := puts_each rfl rfl hF [_, _, x29, _, _, x32, _, _, _, _, _, x38, x39, x40, _, _, _, _, _, x46, x47, _, _, _, _, _, _, x54, x55, _, _, _, _, _, _, _, x63, _, _, _] rfl ⟨(hS 0 _ rfl).1, (hS 1 _ rfl).1, hx29.symm, (hS 3 _ rfl).1, (hS 4 _ rfl).1, hx32.symm, (hS 6 _ rfl).1, (hS 7 _ rfl).1, (hS 8 _ rfl).1, (hS 9 _ rfl).1, (hS 10 _ rfl).1, hx38.symm, hx39.symm, hx40.symm, (hS 14 _ rfl).1, (hS 15 _ rfl).1, (hS 16 _ rfl).1, (hS 17 _ rfl).1, (hS 18 _ rfl).1, hx46.symm, hx47.symm, (hS 21 _ rfl).1, (hS 22 _ rfl).1, (hS 23 _ rfl).1, (hS 24 _ rfl).1, (hS 25 _ rfl).1, (hS 26 _ rfl).1, hx54.symm, hx55.symm, (hS 29 _ rfl).1, (hS 30 _ rfl).1, (hS 31 _ rfl).1, (hS 32 _ rfl).1, (hS 33 _ rfl).1, (hS 34 _ rfl).1, (hS 35 _ rfl).1, hx63.symm, (hS 37 _ rfl).1, (hS 38 _ rfl).1, (hS 39 _ rfl).1, trivial⟩
        simp only [puts, Act.put, List.setIfInBounds_toArray, List.set_cons_succ, List.set_cons_zero] at ha
        subst ha
        clear hx29 hx32 hx38 hx39 hx40 hx46 hx47 hx54 hx55 hx63
        clear hS hF
        replace h3 := h3.kept hB
        replace h4 := h4.kept hB
        replace h5 := h5.kept hB
        replace h7 := h7.kept hB
        replace h8 := h8.kept hB
        replace h10 := h10.kept hB
        replace hbel := hbel.trans (hB.mono hbel.size)
        clear hB
        go_upto_region 10 with (fail)
        refine region_flow (n := 108) (by kernel_rfl) (by kernel_rfl) (by kernel_rfl) rfl
          (fun ii vv ww => (match ii with | 0 | 6 | 16 => vv = .agg (arr .i64 64 (F)) | 1 | 17 => vv = .agg (arr .u8 32 (dg 256 (M : Int))) | 2 | 7 | 14 | 18 => vv = .agg (arr .u8 32 (dg 256 (N : Int))) | 3 => vv = .agg (arr .u8 32 (dg 256 (SA : Int))) | 5 | 13 => vv = .agg (arr .i64 64 (F26)) | 10 | 21 => vv = .bool true | 11 | 12 | 22 | 23 => vv = .bool false | 19 => vv = .agg (arr .u8 32 (dg 256 (SM : Int))) | _ => True) ∧ (ii = 4 → NPt vv ((Bp).mul (SA))) ∧ (ii = 8 → NPt vv ((Bp).mul (N))) ∧ (ii = 9 → NPt vv ((Bp.mul M).add ((Bp).mul (N)))) ∧ (ii = 15 → NPt vv ((Bp.mul M).mul (N))) ∧ (ii = 20 → NPt vv ((Bp).mul (SM))))
          (fun w w' => Below w.heap.size w w') (fun _ _ h => h) (fun i v w w' h hE => ⟨h.1, fun e => NPt.keep (h.2.1 e) hE, fun e => NPt.keep (h.2.2.1 e) hE, fun e => NPt.keep (h.2.2.2.1 e) hE, fun e => NPt.keep (h.2.2.2.2.1 e) hE, fun e => NPt.keep (h.2.2.2.2.2 e) hE⟩) ?_ ?_
        · refine Each.all ?_
          refine ⟨?_, ?_, ?_, ?_, ?_, ?_, ?_, ?_, ?_, ?_, ?_, ?_, ?_, ?_, ?_, ?_, ?_, ?_, ?_, ?_, ?_, ?_, ?_, ?_, trivial⟩
          · intro a w2 hB hF hd
            rw [if_pos (wanted_none rfl)]
            exact flow_val (fun h => by cases h) (run_load_str rfl Try.underlying28 rfl Try.size28 (hF.same 7 rfl) (h7.below hB h7.lt)) ⟨rfl, fun h => absurd h (by decide), fun h => absurd h (by decide), fun h => absurd h (by decide), fun h => absurd h (by decide), fun h => absurd h (by decide)⟩
          · intro a w2 hB hF hd
            rw [if_pos (wanted_none rfl)]
            exact flow_val (fun h => by cases h) (run_load_str rfl Try.underlying22 rfl Try.size22 (hF.same 4 rfl) (h4.below hB h4.lt)) ⟨rfl, fun h => absurd h (by decide), fun h => absurd h (by decide), fun h => absurd h (by decide), fun h => absurd h (by decide), fun h => absurd h (by decide)⟩
          · intro a w2 hB hF hd
            rw [if_pos (wanted_none rfl)]
            exact flow_val (fun h => by cases h) (run_load_str rfl Try.underlying22 rfl Try.size22 (hF.same 5 rfl) (h5.below hB h5.lt)) ⟨rfl, fun h => absurd h (by decide), fun h => absurd h (by decide), fun h => absurd h (by decide), fun h => absurd h (by decide), fun h => absurd h (by decide)⟩
          · intro a w2 hB hF hd
            rw [if_pos (wanted_none rfl)]
            refine flow_call _ _ _ rfl Try.call35 _ (args2 ((hd 1 _ rfl (waits_spec rfl)).1) ((hd 2 _ rfl (waits_spec rfl)).1)) (by simp) ((HQA.out w2).mono ?_)
            rintro e w3 ⟨rfl, hb⟩; exact ⟨_, rfl, ⟨rfl, fun h => absurd h (by decide), fun h => absurd h (by decide), fun h => absurd h (by decide), fun h => absurd h (by decide), fun h => absurd h (by decide)⟩, hb⟩
          · intro a w2 hB hF hd
            rw [if_pos (wanted_none rfl)]
            refine flow_call _ _ _ rfl Try.call16 _ (args2 ((hd 0 _ rfl (waits_spec rfl)).1) ((hd 3 _ rfl (waits_spec rfl)).1)) (by simp) ((pMulN _ HSA.out w2 ⟨_, rfl, HBF.out⟩).mono ?_)
            rintro e w3 ⟨u, rfl, hr, hb⟩; exact ⟨u, rfl, ⟨trivial, fun _ => hr, fun h => absurd h (by decide), fun h => absurd h (by decide), fun h => absurd h (by decide), fun h => absurd h (by decide)⟩, hb⟩
          · intro a w2 hB hF hd
            rw [if_pos (wanted_none rfl)]
            exact flow_val (fun h => by cases h) (run_load_str rfl Try.underlying28 rfl Try.size28 (hF.same 10 rfl) (h10.below hB h10.lt)) ⟨rfl, fun h => absurd h (by decide), fun h => absurd h (by decide), fun h => absurd h (by decide), fun h => absurd h (by decide), fun h => absurd h (by decide)⟩
          · intro a w2 hB hF hd
            rw [if_pos (wanted_none rfl)]
            exact flow_val (fun h => by cases h) (run_load_str rfl Try.underlying28 rfl Try.size28 (hF.same 7 rfl) (h7.below hB h7.lt)) ⟨rfl, fun h => absurd h (by decide), fun h => absurd h (by decide), fun h => absurd h (by decide), fun h => absurd h (by decide), fun h => absurd h (by decide)⟩
          · intro a w2 hB hF hd
            rw [if_pos (wanted_none rfl)]
            exact flow_val (fun h => by cases h) (run_load_str rfl Try.underlying22 rfl Try.size22 (hF.same 5 rfl) (h5.below hB h5.lt)) ⟨rfl, fun h => absurd h (by decide), fun h => absurd h (by decide), fun h => absurd h (by decide), fun h => absurd h (by decide), fun h => absurd h (by decide)⟩
          · intro a w2 hB hF hd
            rw [if_pos (wanted_none rfl)]
            refine flow_call _ _ _ rfl Try.call16 _ (args2 ((hd 6 _ rfl (waits_spec rfl)).1) ((hd 7 _ rfl (waits_spec rfl)).1)) (by simp) ((pMulN _ HN.out w2 ⟨_, rfl, HBF.out⟩).mono ?_)
            rintro e w3 ⟨u, rfl, hr, hb⟩; exact ⟨u, rfl, ⟨trivial, fun h => absurd h (by decide), fun _ => hr, fun h => absurd h (by decide), fun h => absurd h (by decide), fun h => absurd h (by decide)⟩, hb⟩
          · intro a w2 hB hF hd
            rw [if_pos (wanted_none rfl)]
            refine flow_call _ _ _ rfl Try.call18 _ (args2 ((hd 5 _ rfl (waits_spec rfl)).1) rfl) (by simp) ((pAddN w2 ⟨_, rfl, H10.out⟩ ((hd 8 _ rfl (waits_spec rfl)).2.2.1 rfl)).mono ?_)
            rintro e w3 ⟨u, rfl, hr, hb⟩; exact ⟨u, rfl, ⟨trivial, fun h => absurd h (by decide), fun h => absurd h (by decide), fun _ => hr, fun h => absurd h (by decide), fun h => absurd h (by decide)⟩, hb⟩
          · intro a w2 hB hF hd
            rw [if_pos (wanted_none rfl)]
            refine flow_call _ _ _ rfl Try.call34 _ (args2 rfl rfl) (by simp) ((pEqualN w2 ((hd 4 _ rfl (waits_spec rfl)).2.1 rfl) ((hd 9 _ rfl (waits_spec rfl)).2.2.2.1 rfl) (HE1.out)).mono ?_)
            rintro e w3 ⟨rfl, hb⟩; exact ⟨_, rfl, ⟨rfl, fun h => absurd h (by decide), fun h => absurd h (by decide), fun h => absurd h (by decide), fun h => absurd h (by decide), fun h => absurd h (by decide)⟩, hb⟩
          · intro a w2 hB hF hd
            rw [if_pos (wanted_none rfl)]
            exact flow_val (fun h => by cases h) (run_not rfl ((hd 10 _ rfl (waits_spec rfl)).1)) ⟨rfl, fun h => absurd h (by decide), fun h => absurd h (by decide), fun h => absurd h (by decide), fun h => absurd h (by decide), fun h => absurd h (by decide)⟩
          · intro a w2 hB hF hd
            rw [if_pos (wanted_none rfl)]
            exact flow_move _ (.inl rfl) (by simp) ⟨((hd 11 _ rfl (waits_spec rfl)).1), fun h => absurd h (by decide), fun h => absurd h (by decide), fun h => absurd h (by decide), fun h => absurd h (by decide), fun h => absurd h (by decide)⟩
          · intro a w2 hB hF hd
            refine flow_wanted (wanted_yes rfl rfl ((hd 12 _ rfl (waits_spec rfl)).1) rfl) ?_
            exact flow_val (fun h => by cases h) (run_load_str rfl Try.underlying28 rfl Try.size28 (hF.same 10 rfl) (h10.below hB h10.lt)) ⟨rfl, fun h => absurd h (by decide), fun h => absurd h (by decide), fun h => absurd h (by decide), fun h => absurd h (by decide), fun h => absurd h (by decide)⟩
          · intro a w2 hB hF hd
            refine flow_wanted (wanted_yes rfl rfl ((hd 12 _ rfl (waits_spec rfl)).1) rfl) ?_
            exact flow_val (fun h => by cases h) (run_load_str rfl Try.underlying22 rfl Try.size22 (hF.same 5 rfl) (h5.below hB h5.lt)) ⟨rfl, fun h => absurd h (by decide), fun h => absurd h (by decide), fun h => absurd h (by decide), fun h => absurd h (by decide), fun h => absurd h (by decide)⟩
          · intro a w2 hB hF hd
            refine flow_wanted (wanted_yes rfl rfl ((hd 12 _ rfl (waits_spec rfl)).1) rfl) ?_
            refine flow_call _ _ _ rfl Try.call16 _ (args2 ((hd 13 _ rfl (waits_spec rfl)).1) ((hd 14 _ rfl (waits_spec rfl)).1)) (by simp) ((pMulN _ HN.out w2 ⟨_, rfl, H10.out⟩).mono ?_)
            rintro e w3 ⟨u, rfl, hr, hb⟩; exact ⟨u, rfl, ⟨trivial, fun h => absurd h (by decide), fun h => absurd h (by decide), fun h => absurd h (by decide), fun _ => hr, fun h => absurd h (by decide)⟩, hb⟩
          · intro a w2 hB hF hd
            refine flow_wanted (wanted_yes rfl rfl ((hd 12 _ rfl (waits_spec rfl)).1) rfl) ?_
            exact flow_val (fun h => by cases h) (run_load_str rfl Try.underlying28 rfl Try.size28 (hF.same 7 rfl) (h7.below hB h7.lt)) ⟨rfl, fun h => absurd h (by decide), fun h => absurd h (by decide), fun h => absurd h (by decide), fun h => absurd h (by decide), fun h => absurd h (by decide)⟩
          · intro a w2 hB hF hd
            refine flow_wanted (wanted_yes rfl rfl ((hd 12 _ rfl (waits_spec rfl)).1) rfl) ?_
            exact flow_val (fun h => by cases h) (run_load_str rfl Try.underlying22 rfl Try.size22 (hF.same 4 rfl) (h4.below hB h4.lt)) ⟨rfl, fun h => absurd h (by decide), fun h => absurd h (by decide), fun h => absurd h (by decide), fun h => absurd h (by decide), fun h => absurd h (by decide)⟩
          · intro a w2 hB hF hd
            refine flow_wanted (wanted_yes rfl rfl ((hd 12 _ rfl (waits_spec rfl)).1) rfl) ?_
            exact flow_val (fun h => by cases h) (run_load_str rfl Try.underlying22 rfl Try.size22 (hF.same 5 rfl) (h5.below hB h5.lt)) ⟨rfl, fun h => absurd h (by decide), fun h => absurd h (by decide), fun h => absurd h (by decide), fun h => absurd h (by decide), fun h => absurd h (by decide)⟩
          · intro a w2 hB hF hd
            refine flow_wanted (wanted_yes rfl rfl ((hd 12 _ rfl (waits_spec rfl)).1) rfl) ?_
            refine flow_call _ _ _ rfl Try.call36 _ (args2 ((hd 17 _ rfl (waits_spec rfl)).1) ((hd 18 _ rfl (waits_spec rfl)).1)) (by simp) ((HQM.out w2).mono ?_)
            rintro e w3 ⟨rfl, hb⟩; exact ⟨_, rfl, ⟨rfl, fun h => absurd h (by decide), fun h => absurd h (by decide), fun h => absurd h (by decide), fun h => absurd h (by decide), fun h => absurd h (by decide)⟩, hb⟩
          · intro a w2 hB hF hd
            refine flow_wanted (wanted_yes rfl rfl ((hd 12 _ rfl (waits_spec rfl)).1) rfl) ?_
            refine flow_call _ _ _ rfl Try.call16 _ (args2 ((hd 16 _ rfl (waits_spec rfl)).1) ((hd 19 _ rfl (waits_spec rfl)).1)) (by simp) ((pMulN _ HSM.out w2 ⟨_, rfl, HBF.out⟩).mono ?_)
            rintro e w3 ⟨u, rfl, hr, hb⟩; exact ⟨u, rfl, ⟨trivial, fun h => absurd h (by decide), fun h => absurd h (by decide), fun h => absurd h (by decide), fun h => absurd h (by decide), fun _ => hr⟩, hb⟩
          · intro a w2 hB hF hd
            refine flow_wanted (wanted_yes rfl rfl ((hd 12 _ rfl (waits_spec rfl)).1) rfl) ?_
            refine flow_call _ _ _ rfl Try.call34 _ (args2 rfl rfl) (by simp) ((pEqualN w2 ((hd 15 _ rfl (waits_spec rfl)).2.2.2.2.1 rfl) ((hd 20 _ rfl (waits_spec rfl)).2.2.2.2.2 rfl) (HE2.out)).mono ?_)
            rintro e w3 ⟨rfl, hb⟩; exact ⟨_, rfl, ⟨rfl, fun h => absurd h (by decide), fun h => absurd h (by decide), fun h => absurd h (by decide), fun h => absurd h (by decide), fun h => absurd h (by decide)⟩, hb⟩
          · intro a w2 hB hF hd
            refine flow_wanted (wanted_yes rfl rfl ((hd 12 _ rfl (waits_spec rfl)).1) rfl) ?_
            exact flow_val (fun h => by cases h) (run_not rfl ((hd 21 _ rfl (waits_spec rfl)).1)) ⟨rfl, fun h => absurd h (by decide), fun h => absurd h (by decide), fun h => absurd h (by decide), fun h => absurd h (by decide), fun h => absurd h (by decide)⟩
          · intro a w2 hB hF hd
            rw [if_pos (wanted_none rfl)]
            exact flow_val (fun h => by cases h) (run_pick rfl ((hd 12 _ rfl (waits_spec rfl)).1)) ⟨(((hd 22 _ rfl (waits_spec rfl)).1)), fun h => absurd h (by decide), fun h => absurd h (by decide), fun h => absurd h (by decide), fun h => absurd h (by decide), fun h => absurd h (by decide)⟩
        · intro a w9 hB hF hS
          obtain ⟨x71, hx71⟩ : ∃ x, x = a.tmps.getD 71 undef := ⟨_, rfl⟩
          obtain ⟨x75, hx75⟩ : ∃ x, x = a.tmps.getD 75 undef := ⟨_, rfl⟩
          obtain ⟨x76, hx76⟩ : ∃ x, x = a.tmps.getD 76 undef := ⟨_, rfl⟩
          obtain ⟨x82, hx82⟩ : ∃ x, x = a.tmps.getD 82 undef := ⟨_, rfl⟩
          obtain ⟨x87, hx87⟩ : ∃ x, x = a.tmps.getD 87 undef := ⟨_, rfl⟩
          have ha := puts_each rfl rfl hF [_, _, _, _, x71, _, _, _, x75, x76, _, _, _, _, _, x82, _, _, _, _, x87, _, _, _] rfl ⟨(hS 0 _ rfl).1, (hS 1 _ rfl).1, (hS 2 _ rfl).1, (hS 3 _ rfl).1, hx71.symm, (hS 5 _ rfl).1, (hS 6 _ rfl).1, (hS 7 _ rfl).1, hx75.symm, hx76.symm, (hS 10 _ rfl).1, (hS 11 _ rfl).1, (hS 12 _ rfl).1, (hS 13 _ rfl).1, (hS 14 _ rfl).1, hx82.symm, (hS 16 _ rfl).1, (hS 17 _ rfl).1, (hS 18 _ rfl).1, (hS 19 _ rfl).1, hx87.symm, (hS 21 _ rfl).1, (hS 22 _ rfl).1, (hS 23 _ rfl).1, trivial⟩
          simp only [puts, Act.put, List.setIfInBounds_toArray, List.set_cons_succ, List.set_cons_zero] at ha
          subst ha
          clear hx71 hx75 hx76 hx82 hx87
          clear hS hF
          replace h3 := h3.kept hB
          replace h4 := h4.kept hB
          replace h5 := h5.kept hB
          replace h7 := h7.kept hB
          replace h8 := h8.kept hB
          replace h10 := h10.kept hB
          replace hbel := hbel.trans (hB.mono hbel.size)
          clear hB
          go_upto_region 12 with (fail)
          refine region_flow (n := 108) (by kernel_rfl) (by kernel_rfl) (by kernel_rfl) rfl
            (fun ii vv ww => (match ii with | 0 => vv = .agg (arr .i64 64 (F)) | 2 => vv = .agg (arr .u8 32 (dg 256 (OR : Int))) | 5 | 6 | 15 | 16 | 17 => vv = .bool true | 7 | 10 | 11 | 13 => vv = .agg (arr .i64 64 (G8)) | 8 => vv = .agg (arr .u8 32 (dg 256 ((3 : Nat) : Int))) | _ => True) ∧ (ii = 1 → Rd .i64 ww vv 16 (dg 65536 Q)) ∧ (ii = 3 → NPt vv ((Bp).mul (OR))) ∧ (ii = 4 → NPt vv (.zero)) ∧ (ii = 9 → NPt vv ((p).mul (3))) ∧ (ii = 12 → NPt vv ((p).add (p))) ∧ (ii = 14 → NPt vv (((p).add (p)).add (p))))
            (fun w w' => Below w.heap.size w w') (fun _ _ h => h) (fun i v w w' h hE => ⟨h.1, fun e => Rd.below (h.2.1 e) hE, fun e => NPt.keep (h.2.2.1 e) hE, fun e => NPt.keep (h.2.2.2.1 e) hE, fun e => NPt.keep (h.2.2.2.2.1 e) hE, fun e => NPt.keep (h.2.2.2.2.2.1 e) hE, fun e => NPt.keep (h.2.2.2.2.2.2 e) hE⟩) ?_ ?_
          · refine Each.all ?_
            refine ⟨?_, ?_, ?_, ?_, ?_, ?_, ?_, ?_, ?_, ?_, ?_, ?_, ?_, ?_, ?_, ?_, ?_, ?_, trivial⟩
            · intro a w2 hB hF hd
              rw [if_pos (wanted_none rfl)]
              exact flow_val (fun h => by cases h) (run_load_str rfl Try.underlying28 rfl Try.size28 (hF.same 7 rfl) (h7.below hB h7.lt)) ⟨rfl, fun h => absurd h (by decide), fun h => absurd h (by decide), fun h => absurd h (by decide), fun h => absurd h (by decide), fun h => absurd h (by decide), fun h => absurd h (by decide)⟩
            · intro a w2 hB hF hd
              rw [if_pos (wanted_none rfl)]
              refine flow_call _ _ _ rfl Try.call38 _ args0 (by simp) ((qQ_rd w2).mono ?_)
              rintro e w3 ⟨u, rfl, hr, hb⟩; exact ⟨u, rfl, ⟨trivial, fun _ => hr, fun h => absurd h (by decide), fun h => absurd h (by decide), fun h => absurd h (by decide), fun h => absurd h (by decide), fun h => absurd h (by decide)⟩, hb⟩
            · intro a w2 hB hF hd
              rw [if_pos (wanted_none rfl)]
              refine flow_call _ _ _ rfl Try.call37 _ (args1 rfl) (by simp) ((HBY.out w2 _ ((hd 1 _ rfl (waits_spec rfl)).2.1 rfl)).mono ?_)
              rintro e w3 ⟨rfl, hb⟩; exact ⟨_, rfl, ⟨rfl, fun h => absurd h (by decide), fun h => absurd h (by decide), fun h => absurd h (by decide), fun h => absurd h (by decide), fun h => absurd h (by decide), fun h => absurd h (by decide)⟩, hb⟩
            · intro a w2 hB hF hd
              rw [if_pos (wanted_none rfl)]
              refine flow_call _ _ _ rfl Try.call16 _ (args2 ((hd 0 _ rfl (waits_spec rfl)).1) ((hd 2 _ rfl (waits_spec rfl)).1)) (by simp) ((pMulN _ HOR.out w2 ⟨_, rfl, HBF.out⟩).mono ?_)
              rintro e w3 ⟨u, rfl, hr, hb⟩; exact ⟨u, rfl, ⟨trivial, fun h => absurd h (by decide), fun _ => hr, fun h => absurd h (by decide), fun h => absurd h (by decide), fun h => absurd h (by decide), fun h => absurd h (by decide)⟩, hb⟩
            · intro a w2 hB hF hd
              rw [if_pos (wanted_none rfl)]
              refine flow_call _ _ _ rfl Try.call15 _ args0 (by simp) ((pNoughtN w2).mono ?_)
              rintro e w3 ⟨u, rfl, hr, hb⟩; exact ⟨u, rfl, ⟨trivial, fun h => absurd h (by decide), fun h => absurd h (by decide), fun _ => hr, fun h => absurd h (by decide), fun h => absurd h (by decide), fun h => absurd h (by decide)⟩, hb⟩
            · intro a w2 hB hF hd
              rw [if_pos (wanted_none rfl)]
              refine flow_call _ _ _ rfl Try.call34 _ (args2 rfl rfl) (by simp) ((pEqualN w2 ((hd 3 _ rfl (waits_spec rfl)).2.2.1 rfl) ((hd 4 _ rfl (waits_spec rfl)).2.2.2.1 rfl) (HE3.out)).mono ?_)
              rintro e w3 ⟨rfl, hb⟩; exact ⟨_, rfl, ⟨rfl, fun h => absurd h (by decide), fun h => absurd h (by decide), fun h => absurd h (by decide), fun h => absurd h (by decide), fun h => absurd h (by decide), fun h => absurd h (by decide)⟩, hb⟩
            · intro a w2 hB hF hd
              rw [if_pos (wanted_none rfl)]
              exact flow_move _ (.inl rfl) (by simp) ⟨((hd 5 _ rfl (waits_spec rfl)).1), fun h => absurd h (by decide), fun h => absurd h (by decide), fun h => absurd h (by decide), fun h => absurd h (by decide), fun h => absurd h (by decide), fun h => absurd h (by decide)⟩
            · intro a w2 hB hF hd
              refine flow_wanted (wanted_yes rfl rfl ((hd 6 _ rfl (waits_spec rfl)).1) rfl) ?_
              exact flow_val (fun h => by cases h) (run_load_str rfl Try.underlying28 rfl Try.size28 (hF.same 8 rfl) (h8.below hB h8.lt)) ⟨rfl, fun h => absurd h (by decide), fun h => absurd h (by decide), fun h => absurd h (by decide), fun h => absurd h (by decide), fun h => absurd h (by decide), fun h => absurd h (by decide)⟩
            · intro a w2 hB hF hd
              refine flow_wanted (wanted_yes rfl rfl ((hd 6 _ rfl (waits_spec rfl)).1) rfl) ?_
              exact flow_val (fun h => by cases h) (run_built rfl (HB3.out _ _)) ⟨rfl, fun h => absurd h (by decide), fun h => absurd h (by decide), fun h => absurd h (by decide), fun h => absurd h (by decide), fun h => absurd h (by decide), fun h => absurd h (by decide)⟩
            · intro a w2 hB hF hd
              refine flow_wanted (wanted_yes rfl rfl ((hd 6 _ rfl (waits_spec rfl)).1) rfl) ?_
              refine flow_call _ _ _ rfl Try.call16 _ (args2 ((hd 7 _ rfl (waits_spec rfl)).1) ((hd 8 _ rfl (waits_spec rfl)).1)) (by simp) ((pMulN _ (by decide) w2 ⟨_, rfl, H8.out⟩).mono ?_)
              rintro e w3 ⟨u, rfl, hr, hb⟩; exact ⟨u, rfl, ⟨trivial, fun h => absurd h (by decide), fun h => absurd h (by decide), fun h => absurd h (by decide), fun _ => hr, fun h => absurd h (by decide), fun h => absurd h (by decide)⟩, hb⟩
            · intro a w2 hB hF hd
              refine flow_wanted (wanted_yes rfl rfl ((hd 6 _ rfl (waits_spec rfl)).1) rfl) ?_
              exact flow_val (fun h => by cases h) (run_load_str rfl Try.underlying28 rfl Try.size28 (hF.same 8 rfl) (h8.below hB h8.lt)) ⟨rfl, fun h => absurd h (by decide), fun h => absurd h (by decide), fun h => absurd h (by decide), fun h => absurd h (by decide), fun h => absurd h (by decide), fun h => absurd h (by decide)⟩
            · intro a w2 hB hF hd
              refine flow_wanted (wanted_yes rfl rfl ((hd 6 _ rfl (waits_spec rfl)).1) rfl) ?_
              exact flow_val (fun h => by cases h) (run_load_str rfl Try.underlying28 rfl Try.size28 (hF.same 8 rfl) (h8.below hB h8.lt)) ⟨rfl, fun h => absurd h (by decide), fun h => absurd h (by decide), fun h => absurd h (by decide), fun h => absurd h (by decide), fun h => absurd h (by decide), fun h => absurd h (by decide)⟩
            · intro a w2 hB hF hd
              refine flow_wanted (wanted_yes rfl rfl ((hd 6 _ rfl (waits_spec rfl)).1) rfl) ?_
              refine flow_call _ _ _ rfl Try.call18 _ (args2 ((hd 10 _ rfl (waits_spec rfl)).1) ((hd 11 _ rfl (waits_spec rfl)).1)) (by simp) ((pAddN w2 ⟨_, rfl, H8.out⟩ ⟨_, rfl, H8.out⟩).mono ?_)
              rintro e w3 ⟨u, rfl, hr, hb⟩; exact ⟨u, rfl, ⟨trivial, fun h => absurd h (by decide), fun h => absurd h (by decide), fun h => absurd h (by decide), fun h => absurd h (by decide), fun _ => hr, fun h => absurd h (by decide)⟩, hb⟩
            · intro a w2 hB hF hd
              refine flow_wanted (wanted_yes rfl rfl ((hd 6 _ rfl (waits_spec rfl)).1) rfl) ?_
              exact flow_val (fun h => by cases h) (run_load_str rfl Try.underlying28 rfl Try.size28 (hF.same 8 rfl) (h8.below hB h8.lt)) ⟨rfl, fun h => absurd h (by decide), fun h => absurd h (by decide), fun h => absurd h (by decide), fun h => absurd h (by decide), fun h => absurd h (by decide), fun h => absurd h (by decide)⟩
            · intro a w2 hB hF hd
              refine flow_wanted (wanted_yes rfl rfl ((hd 6 _ rfl (waits_spec rfl)).1) rfl) ?_
              refine flow_call _ _ _ rfl Try.call18 _ (args2 rfl ((hd 13 _ rfl (waits_spec rfl)).1)) (by simp) ((pAddN w2 ((hd 12 _ rfl (waits_spec rfl)).2.2.2.2.2.1 rfl) ⟨_, rfl, H8.out⟩).mono ?_)
              rintro e w3 ⟨u, rfl, hr, hb⟩; exact ⟨u, rfl, ⟨trivial, fun h => absurd h (by decide), fun h => absurd h (by decide), fun h => absurd h (by decide), fun h => absurd h (by decide), fun h => absurd h (by decide), fun _ => hr⟩, hb⟩
            · intro a w2 hB hF hd
              refine flow_wanted (wanted_yes rfl rfl ((hd 6 _ rfl (waits_spec rfl)).1) rfl) ?_
              refine flow_call _ _ _ rfl Try.call34 _ (args2 rfl rfl) (by simp) ((pEqualN w2 ((hd 9 _ rfl (waits_spec rfl)).2.2.2.2.1 rfl) ((hd 14 _ rfl (waits_spec rfl)).2.2.2.2.2.2 rfl) (mul_three _)).mono ?_)
              rintro e w3 ⟨rfl, hb⟩; exact ⟨_, rfl, ⟨rfl, fun h => absurd h (by decide), fun h => absurd h (by decide), fun h => absurd h (by decide), fun h => absurd h (by decide), fun h => absurd h (by decide), fun h => absurd h (by decide)⟩, hb⟩
            · intro a w2 hB hF hd
              rw [if_pos (wanted_none rfl)]
              exact flow_val (fun h => by cases h) (run_pick rfl ((hd 6 _ rfl (waits_spec rfl)).1)) ⟨(((hd 15 _ rfl (waits_spec rfl)).1)), fun h => absurd h (by decide), fun h => absurd h (by decide), fun h => absurd h (by decide), fun h => absurd h (by decide), fun h => absurd h (by decide), fun h => absurd h (by decide)⟩
            · intro a w2 hB hF hd
              rw [if_pos (wanted_none rfl)]
              exact flow_move _ (.inr rfl) (by simp) ⟨((hd 16 _ rfl (waits_spec rfl)).1), fun h => absurd h (by decide), fun h => absurd h (by decide), fun h => absurd h (by decide), fun h => absurd h (by decide), fun h => absurd h (by decide), fun h => absurd h (by decide)⟩
          · intro a w10 hB hF hS
            obtain ⟨x92, hx92⟩ : ∃ x, x = a.tmps.getD 92 undef := ⟨_, rfl⟩
            obtain ⟨x94, hx94⟩ : ∃ x, x = a.tmps.getD 94 undef := ⟨_, rfl⟩
            obtain ⟨x95, hx95⟩ : ∃ x, x = a.tmps.getD 95 undef := ⟨_, rfl⟩
            obtain ⟨x100, hx100⟩ : ∃ x, x = a.tmps.getD 100 undef := ⟨_, rfl⟩
            obtain ⟨x103, hx103⟩ : ∃ x, x = a.tmps.getD 103 undef := ⟨_, rfl⟩
            obtain ⟨x105, hx105⟩ : ∃ x, x = a.tmps.getD 105 undef := ⟨_, rfl⟩
            have ha := puts_each rfl rfl hF [_, x92, _, x94, x95, _, _, _, _, x100, _, _, x103, _, x105, _, _, _] rfl ⟨(hS 0 _ rfl).1, hx92.symm, (hS 2 _ rfl).1, hx94.symm, hx95.symm, (hS 5 _ rfl).1, (hS 6 _ rfl).1, (hS 7 _ rfl).1, (hS 8 _ rfl).1, hx100.symm, (hS 10 _ rfl).1, (hS 11 _ rfl).1, hx103.symm, (hS 13 _ rfl).1, hx105.symm, (hS 15 _ rfl).1, (hS 16 _ rfl).1, (hS 17 _ rfl).1, trivial⟩
            simp only [puts, Act.put, List.setIfInBounds_toArray, List.set_cons_succ, List.set_cons_zero] at ha
            subst ha
            clear hx92 hx94 hx95 hx100 hx103 hx105
            clear hS hF
            have hb9 := hbel.trans (hB.mono hbel.size)
            go_wp2
            go_ret
            exact ⟨rfl, hb9⟩

theorem pointLaws_law (w : World) (fa : Nat → Int) (ha : ∀ i, i < 32 → (Lit.int .u8 (fa i)).wf = true) (fs : Nat → Int) (hs : ∀ i, i < 32 → (Lit.int .u8 (fs i)).wf = true) (fp : Nat → Int) (hp : ∀ i, i < 32 → (Lit.int .u8 (fp i)).wf = true) :
    Calls Try.prog 5 #[.agg (arr .u8 32 fa), .agg (arr .u8 32 fs), .agg (arr .u8 32 fp)] w fun e w' => e = .returned (.bool true) ∧ Below w.heap.size w w' := by
  obtain ⟨A, eA, a0, a1⟩ := num32 fa ha
  obtain ⟨S, eS, s0, s1⟩ := num32 fs hs
  obtain ⟨U, eU, u0, u1⟩ := num32 fp hp
  obtain ⟨L, rfl⟩ := Int.eq_ofNat_of_zero_le a0
  obtain ⟨M, rfl⟩ := Int.eq_ofNat_of_zero_le s0
  obtain ⟨N, rfl⟩ := Int.eq_ofNat_of_zero_le u0
  rw [eA, eS, eU]
  exact pointLaws_num L M N (by omega) (by omega) (by omega) w
end Go.Proofs.Ytdhejcaapdhhfaa
