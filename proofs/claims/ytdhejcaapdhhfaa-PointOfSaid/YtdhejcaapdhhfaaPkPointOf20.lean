/-
  Part 20 of the texts that the proof of PointOf rests on, one after the other. Conditions: named in each theorem.
-/
import Derived.Test.YtdhejcaapdhhfaaPkPointOf19
import Derived.Test.YtdhejcaapdhhfaaPkPointOf12
set_option linter.unusedVariables false
set_option linter.unusedSimpArgs false
namespace Go.Bas
theorem and_128p (x : Int) (h0 : 0 ≤ x) (h1 : x < 256) : bits .and .u8 x 128 = x / 128 * 128 := by
  obtain ⟨n, rfl⟩ := Int.eq_ofNat_of_zero_le h0
  have key : ∀ n : Fin 256, bits .and .u8 ((n.val : Nat) : Int) 128 = (n.val : Int) / 128 * 128 := by decide +kernel
  exact key ⟨n, by omega⟩
theorem and_127p (x : Int) (h0 : 0 ≤ x) (h1 : x < 256) : bits .and .u8 x 127 = x % 128 := by
  obtain ⟨n, rfl⟩ := Int.eq_ofNat_of_zero_le h0
  have key : ∀ n : Fin 256, bits .and .u8 ((n.val : Nat) : Int) 127 = (n.val : Int) % 128 := by decide +kernel
  exact key ⟨n, by omega⟩
theorem one_dy0 (o d x : Fp) (ho : o ≠ 0) (hx : x = 0) (h : o + d * (x * x) = 0) : False := by
  have e : o + d * (x * x) = o := by rw [hx]; clear h ho; grind
  exact ho (e.symm.trans h)
theorem one_dy_ne (y : Fp) : 1 + dE * (y * y) ≠ 0 := by
  intro h
  have h1 := fp_one_ne
  have hy : y ≠ 0 := by
    intro hy
    exact one_dy0 1 dE y h1 hy h
  have hi := inv_mul hy
  apply dE_sq (iE * inv y)
  have hs := iE_sq
  generalize dE = d at *
  generalize iE = i at *
  generalize inv y = z at *
  clear h1
  grind
theorem on_of {x y d i : Fp} (h : x * x = (y * y - 1) * i) (hi : (d * (y * y) + 1) * i = 1) : y ^ 2 - x ^ 2 = 1 + d * x ^ 2 * y ^ 2 := by grind
theorem split255 {A : Int} (h0 : 0 ≤ A) (h1 : A < 2 ^ 256) : A = A % 2 ^ 255 + A / 2 ^ 255 * 2 ^ 255 ∧ 0 ≤ A % 2 ^ 255 ∧ A % 2 ^ 255 < 2 ^ 255 ∧ (A / 2 ^ 255 = 0 ∨ A / 2 ^ 255 = 1) := by omega
theorem low255 {A : Int} (h0 : 0 ≤ A) (h1 : A < 2 ^ 256) : ∀ i, i < 32 → upd (dg 256 A) 31 (dg 256 A 31 % 128) i = dg 256 (A % 2 ^ 255) i := by
  intro i hi
  obtain ⟨e, y0, y1, hb⟩ := split255 h0 h1
  obtain ⟨Y, hY⟩ : ∃ Y, Y = A % 2 ^ 255 := ⟨_, rfl⟩
  rw [← hY] at e y0 y1 ⊢
  have ht := top_small Y y0 y1
  rcases hb with hb | hb
  · rw [hb] at e
    have e' : A = Y := by omega
    rw [e']
    unfold upd
    split
    · rename_i h; subst h; omega
    · rfl
  · rw [hb] at e
    have hh := bytes_hi Y y0 y1
    rw [← e] at hh
    have h31 := hh 31 (by decide)
    have hi' := hh i hi
    unfold upd at *
    split
    · rename_i h; subst h
      rw [if_pos rfl] at h31
      omega
    · rename_i h
      rw [if_neg h] at hi'
      exact hi'.symm
theorem top255 {A : Int} (h0 : 0 ≤ A) (h1 : A < 2 ^ 256) : dg 256 A 31 / 128 = A / 2 ^ 255 := by
  show A / 256 ^ 31 % 256 / 128 = A / 2 ^ 255
  omega
end Go.Bas
namespace Go.Proofs.Ytdhejcaapdhhfaa
open Go.RowKit Go.Bas Go.ChangeShapes
attribute [local go_sem ↓] Go.wp_at_zero Go.wp_at_succ
theorem same_less {Y : Int} (h0 : 0 ≤ Y) (h1 : Y < 2 ^ 255) : sameB 32 (dg 256 (Y % Pr)) (dg 256 Y) = decide (Y < Pr) := by
  by_cases h : Y < Pr
  · rw [Int.emod_eq_of_lt h0 h, decide_eq_true h]; exact sameB_self
  · rw [decide_eq_false h]
    refine sameB_no fun e => h ?_
    have h2 := sm_congr (B := 256) (n := 32) e
    rw [sm_dg (by decide), sm_dg (by decide)] at h2
    have hm := modP Y
    have e1 : Y % Pr % 256 ^ 32 = Y % Pr := Int.emod_eq_of_lt hm.1 (by have : Pr < 256 ^ 32 := by decide
                                                                       omega)
    have e2 : Y % 256 ^ 32 = Y := Int.emod_eq_of_lt h0 (by omega)
    rw [e1, e2] at h2
    omega
/-- a point whose first part is a root. -/
theorem fst_point {X Y : Int} (h : X * X % Pr = fstN Y % Pr) : ∃ p : Ed C7, toF X = p.x ∧ toF Y = p.y := by
  have h2 := toF_eq.2 h
  unfold fstN invN at h2
  rw [toF_mul, toF_mul, toF_inv] at h2
  simp only [toF_sub, toF_add, toF_mul, toF_one, toF_dN] at h2
  have hi := inv_mul (x := dE * (toF Y * toF Y) + 1) (by
    have h3 := one_dy_ne (toF Y)
    intro e; apply h3
    generalize toF Y = y at *
    generalize dE = d at *
    grind)
  exact ⟨⟨toF X, toF Y, on_of h2 hi⟩, rfl, rfl⟩
/-- which bytes are a point. -/
def ofOk (A : Int) : Prop := A % 2 ^ 255 < Pr ∧ isSq (fstN (A % 2 ^ 255)) = true ∧ ¬ (fstN (A % 2 ^ 255) % Pr = 0 ∧ A / 2 ^ 255 = 1)
theorem of_bytes {A R Y : Int} (h0 : 0 ≤ A) (h1 : A < 2 ^ 256) (hy : Y = A % 2 ^ 255) (hY : Y < Pr) (hR : R * R % Pr = fstN Y % Pr) (he : R % Pr % 2 = 0) (hz : ¬ (R % Pr = 0 ∧ A / 2 ^ 255 = 1)) :
    ∃ p : Ed C7, toF (if A / 2 ^ 255 = 1 then -R else R) = p.x ∧ toF Y = p.y ∧ bytesN p = A := by
  obtain ⟨e, y0, y1, hb⟩ := split255 h0 h1
  rw [← hy] at e y0 y1
  have hyy : ∀ p : Ed C7, toF Y = p.y → edY p = Y := fun p h => by unfold edY; rw [← h, toF_val]; exact Int.emod_eq_of_lt y0 hY
  have hxx : ∀ (p : Ed C7) (X : Int), toF X = p.x → edX p = X % Pr := fun p X h => by unfold edX; rw [← h, toF_val]
  have hm := modP R
  by_cases ho : A / 2 ^ 255 = 1
  · rw [if_pos ho]
    have hR2 : -R * -R % Pr = fstN Y % Pr := by rw [Int.neg_mul_neg]; exact hR
    obtain ⟨p, hx, hp⟩ := fst_point hR2
    refine ⟨p, hx, hp, ?_⟩
    unfold bytesN
    have e3 : -R % Pr = Pr - R % Pr := by
      have e1 : -R % Pr = (Pr - R % Pr) % Pr := mod_eq_of (c := -(R / Pr) - 1) (by have := Int.emod_add_mul_ediv R Pr; rw [Int.mul_sub, Int.mul_neg]; omega)
      have hn : R % Pr ≠ 0 := fun h => hz ⟨h, ho⟩
      rw [e1]
      exact Int.emod_eq_of_lt (by omega) (by omega)
    rw [hyy p hp, hxx p _ hx, e3]
    have hp2 : Pr % 2 = 1 := by decide
    rw [show (Pr - R % Pr) % 2 = 1 by omega, ← ho]
    omega
  · rw [if_neg ho]
    obtain ⟨p, hx, hp⟩ := fst_point hR
    refine ⟨p, hx, hp, ?_⟩
    unfold bytesN
    rw [hyy p hp, hxx p _ hx, he]
    omega
theorem root_zero {R Y : Int} (hR : R * R % Pr = fstN Y % Pr) : R % Pr = 0 ↔ fstN Y % Pr = 0 := by
  have h2 := toF_eq.2 hR
  constructor
  · intro h
    have h3 : toF R = 0 := by rw [← toF_zero]; exact toF_eq.2 h
    have h4 : toF (fstN Y) = toF 0 := by rw [← h2, toF_mul, h3, toF_zero]; decide
    exact toF_eq.1 h4
  · intro h
    have h3 : toF (fstN Y) = 0 := by rw [← toF_zero]; exact toF_eq.2 h
    rw [h3, toF_mul] at h2
    have h4 : toF R = toF 0 := by rw [toF_zero]; exact (fp_mul_zero h2).elim id id
    exact toF_eq.1 h4
theorem first_any (f : Nat → Int) (Y : Int) (hf : Fe f Y) : ∃ H R, Fe H R ∧ (isSq (fstN Y) = true → R * R % Pr = fstN Y % Pr ∧ R % Pr % 2 = 0) ∧ ∀ w, Calls Try.prog 53 #[El f] w fun e w' => e = .returned (.tuple #[El H, .bool (isSq (fstN Y))]) ∧ Below w.heap.size w w' := by
  cases hq : isSq (fstN Y)
  · exact ⟨fun _ => 0, 0, fe_zero, fun h => (by cases h), fun w => pFirst_no f Y hf hq w⟩
  · obtain ⟨R, h1, h2, h3⟩ := rootF_ok (fe_fst hf) hq
    exact ⟨_, R, h1, fun _ => ⟨h2, h3⟩, fun w => pFirst_yes f Y hf hq w⟩
theorem build_p0 {a : Act} (w : World) : (Instr.build 28 ((#[] : Array (Nat × Operand)).map fun (i, x) => (i, a.eval x))).run Try.prog w = .ok (.agg (arr .i64 64 (fun _ => 0))) w := Go.run_build w _ _ _ (by kernel_rfl)
/-- what Of answers. -/
def OfR (A : Int) (r : Value) (c : Int) : Prop := (c = 0 ∧ ofOk A ∧ ∃ p : Ed C7, NPt r p ∧ bytesN p = A) ∨ (c = 21 ∧ r = .agg (arr .i64 64 (fun _ => 0)) ∧ ¬ ofOk A)

set_option maxRecDepth 100000 in
set_option maxHeartbeats 6400000 in
theorem pOf_any (A : Int) (h0 : 0 ≤ A) (h1 : A < 2 ^ 256) (w : World) :
    Calls Try.prog 22 #[.agg (arr .u8 32 (dg 256 A))] w fun e w' => ∃ r c, e = .returned (.tuple #[r, .int .i64 c]) ∧ OfR A r c ∧ Below w.heap.size w w' := by
  obtain ⟨eA, y0, y1, hb⟩ := split255 h0 h1
  have HL := Lib.hid (low255 h0 h1)
  have HT := Lib.hid (top255 h0 h1)
  have HB := Lib.hid (fun R (hY : A % 2 ^ 255 < Pr) => of_bytes (A := A) (R := R) h0 h1 rfl hY)
  have HOKd : Hid (ofOk A ↔ A % 2 ^ 255 < Pr ∧ isSq (fstN (A % 2 ^ 255)) = true ∧ ¬ (fstN (A % 2 ^ 255) % Pr = 0 ∧ A / 2 ^ 255 = 1)) := Iff.rfl
  obtain ⟨Y, hY⟩ : ∃ Y, Y = A % 2 ^ 255 := ⟨_, rfl⟩
  rw [← hY] at y0 y1 HL HB HOKd
  have HOF : Hid (∀ w, Calls Try.prog 65 #[.agg (arr .u8 32 (dg 256 Y))] w fun e w' => e = .returned (.agg (arr .i64 16 (dg 65536 Y))) ∧ Below w.heap.size w w') := fun w => by
    have h := feOf_any Y w
    rwa [Int.emod_eq_of_lt y0 y1] at h
  have HF : Hid (Fe (dg 65536 Y) Y) := by have h := feOf_fe Y; rwa [Int.emod_eq_of_lt y0 y1] at h
  have HSL := Lib.hid (same_less y0 y1)
  obtain ⟨H, R, hfh, hrt, hfst⟩ := first_any _ Y HF.out
  have HFH := Lib.hid hfh
  have HRT := Lib.hid hrt
  have HFST := Lib.hid hfst
  have HEQ : Hid (∀ w, Calls Try.prog 59 #[.agg (arr .i64 16 H), .agg (arr .i64 16 (smallF 0))] w fun e w' => e = .returned (.bool (eqP R 0)) ∧ Below w.heap.size w w') := fun w => feEqual_any _ _ _ _ HFH.out fe_s0 w
  have HP0 := Lib.hid (fun (a : Act) w => build_p0 (a := a) w)
  obtain ⟨ok, hok⟩ : ∃ ok, ok = isSq (fstN Y) := ⟨_, rfl⟩
  rw [← hok] at HFST HRT HOKd
  obtain ⟨ze, hze⟩ : ∃ ze, ze = eqP R 0 := ⟨_, rfl⟩
  rw [← hze] at HEQ
  obtain ⟨od, hod⟩ : ∃ od, od = decide (A / 2 ^ 255 = 1) := ⟨_, rfl⟩
  obtain ⟨lt, hlt⟩ : ∃ lt, lt = decide (Y < Pr) := ⟨_, rfl⟩
  rw [← hlt] at HSL
  have HZE := Lib.hid hze
  have HOD := Lib.hid hod
  have HLT := Lib.hid hlt
  have HBB := Lib.hid hb
  clear hfh hrt hfst hok hze hod hlt h0 h1 eA hb hY
  obtain ⟨dd, hdd⟩ : ∃ dd, dd = dg 256 A 31 := ⟨_, rfl⟩
  obtain ⟨g0, g1⟩ : 0 ≤ dd ∧ dd < 256 := by rw [hdd]; exact dg_bound (by decide) _ _
  rw [← hdd] at HL HT
  have HDD := Lib.hid hdd
  have hn128 : ((dd / 128 * 128) != 0) = od := by
    rw [HOD.out, HT.out]
    rcases HBB.out with h | h <;> rw [h] <;> decide
  have h128 := and_128p dd g0 g1
  have h127 := and_127p dd g0 g1
  have H128 := Lib.hid h128
  have HN128 := Lib.hid hn128
  clear hdd hn128 h128
  go_enter Try.func22, Try.ntmps22
  go_upto_region 1 with (fail)
  refine wp_world (fun w1 => Arr .u8 w1 w.heap.size 32 (dg 256 A) ∧ Arr .i64 w1 (w.heap.size + 1) 64 (fun _ => 0) ∧ Below w.heap.size w w1) ⟨.alloc (Arr.newAt rfl rfl) _, Arr.newAt (by first | omega | (simp <;> omega)) (by rfl), ((Below.refl _ _).alloc (Nat.le_refl _) _).alloc (by first | omega | (simp <;> omega)) _⟩ ?_
  rintro w1 ⟨h1, h2, hbel⟩
  have c31 := h1.cell 31 (by decide)
  rw [← HDD.out] at c31
  have hl1 := h1.lt
  refine region_flow (n := 48) (by kernel_rfl) (by kernel_rfl) (by kernel_rfl) rfl
    (fun ii vv _ => (match ii with | 0 => vv = .pointer (some ⟨w.heap.size, 31, none⟩) | 1 => vv = .int .u8 (dd) | 2 => vv = .int .u8 (dd / 128 * 128) | 3 | 4 => vv = .bool od | _ => True))
    (fun w w' => Below w.heap.size w w') (fun _ _ h => h) (fun _ _ _ _ h _ => h) ?_ ?_
  · refine Each.all ?_
    refine ⟨?_, ?_, ?_, ?_, ?_, trivial⟩
    · intro a w2 hB hF hd
      rw [if_pos (wanted_none rfl)]
      exact flow_val (fun h => by cases h) (run_index_addr rfl (hF.same 1 rfl) rfl Try.underlying22 (by kernel_rfl) (by decide) (by decide)) rfl
    · intro a w2 hB hF hd
      rw [if_pos (wanted_none rfl)]
      exact flow_val (fun h => by cases h) (run_load_cell rfl (hd 0 _ rfl (waits_spec rfl)) Try.underlying5 ((hB.cell (p := ⟨w.heap.size, 31, none⟩) hl1).trans c31)) rfl
    · intro a w2 hB hF hd
      rw [if_pos (wanted_none rfl)]
      exact flow_val (fun h => by cases h) (Go.Bas.run_and rfl (hd 1 _ rfl (waits_spec rfl)) rfl) (congrArg (Value.int .u8) (H128.out))
    · intro a w2 hB hF hd
      rw [if_pos (wanted_none rfl)]
      exact flow_val (fun h => by cases h) (Go.Bas.run_neq_int rfl (hd 2 _ rfl (waits_spec rfl)) rfl) (congrArg Value.bool (HN128.out))
    · intro a w2 hB hF hd
      rw [if_pos (wanted_none rfl)]
      exact flow_move _ (.inr rfl) (by simp) (hd 3 _ rfl (waits_spec rfl))
  · intro a w2 hB hF hS
    have ha := puts_each rfl rfl hF [_, _, _, _, _] rfl ⟨hS 0 _ rfl, hS 1 _ rfl, hS 2 _ rfl, hS 3 _ rfl, hS 4 _ rfl, trivial⟩
    simp only [puts, Act.put, List.setIfInBounds_toArray, List.set_cons_succ, List.set_cons_zero] at ha
    subst ha
    clear hS hF
    replace h1 := h1.kept hB
    replace h2 := h2.kept hB
    replace hbel := hbel.trans (hB.mono hbel.size)
    have e31 := h1.cell 31 (by decide)
    rw [← HDD.out] at e31
    have f31 := h1.free 31
    clear hB c31 hl1
    go_upto_region 3 with (fail)
    refine wp_world (fun w3 => Arr .u8 w3 w.heap.size 32 (dg 256 Y) ∧ Arr .i64 w3 (w.heap.size + 1) 64 (fun _ => 0) ∧ Below w.heap.size w w3) ⟨(h1.set 31 (dd % 128)).congr HL.out, h2.other (by simp) _, hbel.setCell (Nat.le_refl _) _⟩ ?_
    clear h1 h2 hbel e31 f31 h127 g0 g1
    rintro w3 ⟨h1, h2, hbel⟩
    have hl2 := h2.lt
    try simp only [Act.put, List.setIfInBounds_toArray, List.set_cons_succ, List.set_cons_zero]
    refine region_vars (n := 48) (by kernel_rfl) (by kernel_rfl) (by kernel_rfl) rfl
      (isAl [(3, 2)]) (putOf [(3, 2)]) (fun _ => arr .i64 16 (fun _ => 0)) (fun _ => (arr .i64 16 (dg 65536 Y))) (fun _ => 26) (fun _ => 5)
      (fun ii vv _ => (match ii with | 0 => vv = .agg (arr .u8 32 (dg 256 Y)) | 1 => vv = .agg (arr .i64 16 (dg 65536 Y)) | _ => True)) (fun _ _ => True) (fun _ _ _ => trivial) (fun _ _ _ _ _ _ _ => trivial) (fun _ _ _ _ h _ => h)
      (vs_al rfl) (vs_inj rfl) ?_ ?_ ?_ ?_
    · refine Each.all ?_
      refine ⟨?_, ?_, (fun h => by cases h), (fun _ h => by cases h), trivial⟩
      · intro _ _ a w2 hB hF hd
        rw [if_pos (wanted_none rfl)]
        exact flow_val (fun h => by cases h) (run_load_str rfl Try.underlying22 rfl Try.size22 (hF.same 1 rfl) (h1.below hB h1.lt)) rfl
      · intro _ _ a w2 hB hF hd
        rw [if_pos (wanted_none rfl)]
        refine flow_call _ _ _ rfl Try.call65 _ (args1 (hd 0 _ rfl rfl rfl (waits_spec rfl))) (by simp) ((HOF.out w2).mono ?_)
        rintro e w3 ⟨rfl, hb⟩; exact ⟨_, rfl, rfl, hb⟩
    · refine Each.all ?_
      refine ⟨(fun h => by cases h), (fun h => by cases h), ?_, (fun h => by cases h), trivial⟩
      · exact fun _ => ⟨rfl, rfl, fun a w2 K h => flow_alloc rfl rfl Try.zeroValue26 (by simp) h⟩
    · refine Each.all ?_
      refine ⟨(fun _ h => by cases h), (fun _ h => by cases h), (fun _ h => by cases h), ?_, trivial⟩
      · intro p hp
        obtain rfl : 2 = p := Option.some.inj hp
        exact ⟨rfl, rfl, ⟨_, rfl⟩, waits_spec rfl, fun a w2 b K hB hF hd hx hb h => flow_put rfl rfl Try.size26 hx (hd 1 _ rfl rfl rfl (waits_spec rfl)) hb h⟩
    · intro a w4 blk hB hF hS hv hfin hdis
      obtain ⟨v2, v2l, v2u⟩ := hv 2 _ rfl rfl
      have ha := puts_each rfl rfl hF [_, _, _, undef] rfl ⟨hS 0 _ rfl rfl rfl, hS 1 _ rfl rfl rfl, v2, trivial, trivial⟩
      have f2 := hfin 3 _ 2 rfl rfl
      simp only [puts, Act.put, List.setIfInBounds_toArray, List.set_cons_succ, List.set_cons_zero] at ha
      subst ha
      have V2 : Arr .i64 w4 (blk 2) 16 (dg 65536 Y) := ⟨_, f2⟩
      clear hS hv hfin hdis hF v2 f2
      replace h1 := h1.kept hB
      replace h2 := h2.kept hB
      replace hbel := hbel.trans (hB.mono hbel.size)
      obtain ⟨x5, e5⟩ : ∃ x, x = blk 2 := ⟨_, rfl⟩
      rw [← e5] at V2 v2l ⊢
      have h5 := V2
      have l5 : w.heap.size + 1 < x5 := by omega
      have hl5 := h5.lt
      clear hB v2l v2u V2 e5 hl2
      go_upto_region 4 with (fail)
      refine region_vars (n := 48) (by kernel_rfl) (by kernel_rfl) (by kernel_rfl) rfl
        (isAl [(6, 5)]) (putOf [(6, 5)]) (fun _ => arr .i64 16 (fun _ => 0)) (fun _ => (arr .i64 16 (H))) (fun _ => 26) (fun _ => 6)
        (fun ii vv _ => (match ii with | 0 => vv = .agg (arr .i64 16 (dg 65536 Y)) | 1 | 2 => vv = .tuple #[.agg (arr .i64 16 (H)), .bool ok] | 3 => vv = .agg (arr .i64 16 (H)) | 4 | 7 => vv = .bool ok | _ => True)) (fun _ _ => True) (fun _ _ _ => trivial) (fun _ _ _ _ _ _ _ => trivial) (fun _ _ _ _ h _ => h)
        (vs_al rfl) (vs_inj rfl) ?_ ?_ ?_ ?_
      · refine Each.all ?_
        refine ⟨?_, ?_, ?_, ?_, ?_, (fun h => by cases h), (fun _ h => by cases h), ?_, trivial⟩
        · intro _ _ a w2 hB hF hd
          rw [if_pos (wanted_none rfl)]
          exact flow_val (fun h => by cases h) (run_load_str rfl Try.underlying26 rfl Try.size26 (hF.same 5 rfl) (h5.below hB h5.lt)) rfl
        · intro _ _ a w2 hB hF hd
          rw [if_pos (wanted_none rfl)]
          refine flow_call _ _ _ rfl Try.call53 _ (args1 (hd 0 _ rfl rfl rfl (waits_spec rfl))) (by simp) ((HFST.out w2).mono ?_)
          rintro e w3 ⟨rfl, hb⟩; exact ⟨_, rfl, rfl, hb⟩
        · intro _ _ a w2 hB hF hd
          rw [if_pos (wanted_none rfl)]
          exact flow_move _ (.inl rfl) (by simp) (hd 1 _ rfl rfl rfl (waits_spec rfl))
        · intro _ _ a w2 hB hF hd
          rw [if_pos (wanted_none rfl)]
          exact flow_val (fun h => by cases h) (run_extract rfl (hd 2 _ rfl rfl rfl (waits_spec rfl)) rfl) rfl
        · intro _ _ a w2 hB hF hd
          rw [if_pos (wanted_none rfl)]
          exact flow_val (fun h => by cases h) (run_extract rfl (hd 2 _ rfl rfl rfl (waits_spec rfl)) rfl) rfl
        · intro _ _ a w2 hB hF hd
          rw [if_pos (wanted_none rfl)]
          exact flow_move _ (.inr rfl) (by simp) (hd 4 _ rfl rfl rfl (waits_spec rfl))
      · refine Each.all ?_
        refine ⟨(fun h => by cases h), (fun h => by cases h), (fun h => by cases h), (fun h => by cases h), (fun h => by cases h), ?_, (fun h => by cases h), (fun h => by cases h), trivial⟩
        · exact fun _ => ⟨rfl, rfl, fun a w2 K h => flow_alloc rfl rfl Try.zeroValue26 (by simp) h⟩
      · refine Each.all ?_
        refine ⟨(fun _ h => by cases h), (fun _ h => by cases h), (fun _ h => by cases h), (fun _ h => by cases h), (fun _ h => by cases h), (fun _ h => by cases h), ?_, (fun _ h => by cases h), trivial⟩
        · intro p hp
          obtain rfl : 5 = p := Option.some.inj hp
          exact ⟨rfl, rfl, ⟨_, rfl⟩, waits_spec rfl, fun a w2 b K hB hF hd hx hb h => flow_put rfl rfl Try.size26 hx (hd 3 _ rfl rfl rfl (waits_spec rfl)) hb h⟩
      · intro a w5 blk hB hF hS hv hfin hdis
        obtain ⟨v5, v5l, v5u⟩ := hv 5 _ rfl rfl
        have ha := puts_each rfl rfl hF [_, _, _, _, _, _, undef, _] rfl ⟨hS 0 _ rfl rfl rfl, hS 1 _ rfl rfl rfl, hS 2 _ rfl rfl rfl, hS 3 _ rfl rfl rfl, hS 4 _ rfl rfl rfl, v5, trivial, hS 7 _ rfl rfl rfl, trivial⟩
        have f5 := hfin 6 _ 5 rfl rfl
        simp only [puts, Act.put, List.setIfInBounds_toArray, List.set_cons_succ, List.set_cons_zero] at ha
        subst ha
        have V5 : Arr .i64 w5 (blk 5) 16 (H) := ⟨_, f5⟩
        clear hS hv hfin hdis hF v5 f5
        replace h1 := h1.kept hB
        replace h2 := h2.kept hB
        replace h5 := h5.kept hB
        replace hbel := hbel.trans (hB.mono hbel.size)
        obtain ⟨x6, e6⟩ : ∃ x, x = blk 5 := ⟨_, rfl⟩
        rw [← e6] at V5 v5l ⊢
        have h6 := V5
        have l6 : x5 < x6 := by omega
        clear hB v5l v5u V5 e6 hl5
        go_upto_region 5 with (fail)
        refine region_flow (n := 48) (by kernel_rfl) (by kernel_rfl) (by kernel_rfl) rfl
          (fun ii vv _ => (match ii with | 0 => vv = .agg (arr .i64 16 (H)) | 1 => vv = .agg (arr .i64 16 (smallF 0)) | 2 | 3 => vv = .bool ze | _ => True))
          (fun w w' => Below w.heap.size w w') (fun _ _ h => h) (fun _ _ _ _ h _ => h) ?_ ?_
        · refine Each.all ?_
          refine ⟨?_, ?_, ?_, ?_, trivial⟩
          · intro a w2 hB hF hd
            rw [if_pos (wanted_none rfl)]
            exact flow_val (fun h => by cases h) (run_load_str rfl Try.underlying26 rfl Try.size26 (hF.same 6 rfl) (h6.below hB h6.lt)) rfl
          · intro a w2 hB hF hd
            rw [if_pos (wanted_none rfl)]
            refine flow_call _ _ _ rfl Try.call50 _ (args1 rfl) (by simp) ((feSmall_any 0 w2).mono ?_)
            rintro e w3 ⟨rfl, hb⟩; exact ⟨_, rfl, rfl, hb⟩
          · intro a w2 hB hF hd
            rw [if_pos (wanted_none rfl)]
            refine flow_call _ _ _ rfl Try.call59 _ (args2 (hd 0 _ rfl (waits_spec rfl)) (hd 1 _ rfl (waits_spec rfl))) (by simp) ((HEQ.out w2).mono ?_)
            rintro e w3 ⟨rfl, hb⟩; exact ⟨_, rfl, rfl, hb⟩
          · intro a w2 hB hF hd
            rw [if_pos (wanted_none rfl)]
            exact flow_move _ (.inr rfl) (by simp) (hd 2 _ rfl (waits_spec rfl))
        · intro a w6 hB hF hS
          have ha := puts_each rfl rfl hF [_, _, _, _] rfl ⟨hS 0 _ rfl, hS 1 _ rfl, hS 2 _ rfl, hS 3 _ rfl, trivial⟩
          simp only [puts, Act.put, List.setIfInBounds_toArray, List.set_cons_succ, List.set_cons_zero] at ha
          subst ha
          clear hS hF
          replace h1 := h1.kept hB
          replace h2 := h2.kept hB
          replace h5 := h5.kept hB
          replace h6 := h6.kept hB
          replace hbel := hbel.trans (hB.mono hbel.size)
          clear hB
          go_upto_region 6 with (fail)
          cases ok
          case false =>
            refine region_flow (n := 48) (by kernel_rfl) (by kernel_rfl) (by kernel_rfl) rfl
              (fun ii vv _ => (match ii with | 0 => vv = .bool false | 1 | 2 | 7 | 8 | 13 => vv = .bool true | 3 | 4 | 5 | 6 | 9 | 10 | 11 | 12 => vv = undef | _ => True))
              (fun w w' => Below w.heap.size w w') (fun _ _ h => h) (fun _ _ _ _ h _ => h) ?_ ?_
            · refine Each.all ?_
              refine ⟨?_, ?_, ?_, ?_, ?_, ?_, ?_, ?_, ?_, ?_, ?_, ?_, ?_, ?_, trivial⟩
              · intro a w2 hB hF hd
                rw [if_pos (wanted_none rfl)]
                exact flow_move _ (.inl rfl) (by simp) (hF.same 7 rfl)
              · intro a w2 hB hF hd
                rw [if_pos (wanted_none rfl)]
                exact flow_val (fun h => by cases h) (run_not rfl (hd 0 _ rfl (waits_spec rfl))) rfl
              · intro a w2 hB hF hd
                rw [if_pos (wanted_none rfl)]
                exact flow_move _ (.inl rfl) (by simp) (hd 1 _ rfl (waits_spec rfl))
              · intro a w2 hB hF hd
                rw [if_neg (by rw [wanted_some rfl rfl (hd 2 _ rfl (waits_spec rfl))]; decide)]
                exact rfl
              · intro a w2 hB hF hd
                rw [if_neg (by rw [wanted_some rfl rfl (hd 2 _ rfl (waits_spec rfl))]; decide)]
                exact rfl
              · intro a w2 hB hF hd
                rw [if_neg (by rw [wanted_some rfl rfl (hd 2 _ rfl (waits_spec rfl))]; decide)]
                exact rfl
              · intro a w2 hB hF hd
                rw [if_neg (by rw [wanted_some rfl rfl (hd 2 _ rfl (waits_spec rfl))]; decide)]
                exact rfl
              · intro a w2 hB hF hd
                rw [if_pos (wanted_none rfl)]
                exact flow_val (fun h => by cases h) (run_pick rfl (hd 2 _ rfl (waits_spec rfl))) (rfl)
              · intro a w2 hB hF hd
                rw [if_pos (wanted_none rfl)]
                exact flow_move _ (.inl rfl) (by simp) (hd 7 _ rfl (waits_spec rfl))
              · intro a w2 hB hF hd
                rw [if_neg (by rw [wanted_some rfl rfl (hd 8 _ rfl (waits_spec rfl))]; decide)]
                exact rfl
              · intro a w2 hB hF hd
                rw [if_neg (by rw [wanted_some rfl rfl (hd 8 _ rfl (waits_spec rfl))]; decide)]
                exact rfl
              · intro a w2 hB hF hd
                rw [if_neg (by rw [wanted_undef rfl rfl (hd 10 _ rfl (waits_spec rfl))]; decide)]
                exact rfl
              · intro a w2 hB hF hd
                rw [if_neg (by rw [wanted_some rfl rfl (hd 8 _ rfl (waits_spec rfl))]; decide)]
                exact rfl
              · intro a w2 hB hF hd
                rw [if_pos (wanted_none rfl)]
                exact flow_val (fun h => by cases h) (run_pick rfl (hd 8 _ rfl (waits_spec rfl))) (rfl)
            · intro a w7 hB hF hS
              have ha := puts_each rfl rfl hF [_, _, _, _, _, _, _, _, _, _, _, _, _, _] rfl ⟨hS 0 _ rfl, hS 1 _ rfl, hS 2 _ rfl, hS 3 _ rfl, hS 4 _ rfl, hS 5 _ rfl, hS 6 _ rfl, hS 7 _ rfl, hS 8 _ rfl, hS 9 _ rfl, hS 10 _ rfl, hS 11 _ rfl, hS 12 _ rfl, hS 13 _ rfl, trivial⟩
              simp only [puts, Act.put, List.setIfInBounds_toArray, List.set_cons_succ, List.set_cons_zero] at ha
              subst ha
              clear hS hF
              replace h1 := h1.kept hB
              replace h2 := h2.kept hB
              replace h5 := h5.kept hB
              replace h6 := h6.kept hB
              replace hbel := hbel.trans (hB.mono hbel.size)
              clear hB
              go_wp2_with (first | (refine step_val rfl (run_built rfl (HP0.out _ _)) ?_) | (refine store_arr rfl 28 _ _ rfl .i64 (w.heap.size + 1) 64 (fun _ => 0) (fun _ => 0) Try.size28 rfl rfl h2 ?_))
              exact bodyPost_ret (results_str2 rfl _ _ .i64 (w.heap.size + 1) 64 (fun _ => 0) rfl (h2.setRow _ _) Try.underlying28 rfl Try.size28) rfl ⟨_, _, rfl, .inr ⟨rfl, rfl, fun hh => absurd (HOKd.out.1 hh).2.1 (by decide)⟩, below_setRow' hbel (by omega) _⟩
          case true =>
            cases lt
            case false =>
              refine region_flow (n := 48) (by kernel_rfl) (by kernel_rfl) (by kernel_rfl) rfl
                (fun ii vv _ => (match ii with | 0 | 6 | 7 | 8 | 13 => vv = .bool true | 1 | 2 => vv = .bool false | 3 => vv = .agg (arr .i64 16 (dg 65536 Y)) | 4 => vv = .agg (arr .u8 32 (dg 256 (Y % Pr))) | 5 => vv = .agg (arr .u8 32 (dg 256 Y)) | 9 | 10 | 11 | 12 => vv = undef | _ => True))
                (fun w w' => Below w.heap.size w w') (fun _ _ h => h) (fun _ _ _ _ h _ => h) ?_ ?_
              · refine Each.all ?_
                refine ⟨?_, ?_, ?_, ?_, ?_, ?_, ?_, ?_, ?_, ?_, ?_, ?_, ?_, ?_, trivial⟩
                · intro a w2 hB hF hd
                  rw [if_pos (wanted_none rfl)]
                  exact flow_move _ (.inl rfl) (by simp) (hF.same 7 rfl)
                · intro a w2 hB hF hd
                  rw [if_pos (wanted_none rfl)]
                  exact flow_val (fun h => by cases h) (run_not rfl (hd 0 _ rfl (waits_spec rfl))) rfl
                · intro a w2 hB hF hd
                  rw [if_pos (wanted_none rfl)]
                  exact flow_move _ (.inl rfl) (by simp) (hd 1 _ rfl (waits_spec rfl))
                · intro a w2 hB hF hd
                  refine flow_wanted (wanted_yes rfl rfl (hd 2 _ rfl (waits_spec rfl)) rfl) ?_
                  exact flow_val (fun h => by cases h) (run_load_str rfl Try.underlying26 rfl Try.size26 (hF.same 5 rfl) (h5.below hB h5.lt)) rfl
                · intro a w2 hB hF hd
                  refine flow_wanted (wanted_yes rfl rfl (hd 2 _ rfl (waits_spec rfl)) rfl) ?_
                  refine flow_call _ _ _ rfl Try.call56 _ (args1 (hd 3 _ rfl (waits_spec rfl))) (by simp) ((feBytes_any _ _ HF.out w2).mono ?_)
                  rintro e w3 ⟨rfl, hb⟩; exact ⟨_, rfl, rfl, hb⟩
                · intro a w2 hB hF hd
                  refine flow_wanted (wanted_yes rfl rfl (hd 2 _ rfl (waits_spec rfl)) rfl) ?_
                  exact flow_val (fun h => by cases h) (run_load_str rfl Try.underlying22 rfl Try.size22 (hF.same 1 rfl) (h1.below hB h1.lt)) rfl
                · intro a w2 hB hF hd
                  refine flow_wanted (wanted_yes rfl rfl (hd 2 _ rfl (waits_spec rfl)) rfl) ?_
                  exact flow_val (fun h => by cases h) (run_neq_arr false rfl (hd 4 _ rfl (waits_spec rfl)) (hd 5 _ rfl (waits_spec rfl)) Try.underlying22 (by kernel_rfl) (by kernel_rfl) (by kernel_rfl) (by kernel_rfl) (by kernel_rfl) HSL.out) rfl
                · intro a w2 hB hF hd
                  rw [if_pos (wanted_none rfl)]
                  exact flow_val (fun h => by cases h) (run_pick rfl (hd 2 _ rfl (waits_spec rfl))) ((hd 6 _ rfl (waits_spec rfl)))
                · intro a w2 hB hF hd
                  rw [if_pos (wanted_none rfl)]
                  exact flow_move _ (.inl rfl) (by simp) (hd 7 _ rfl (waits_spec rfl))
                · intro a w2 hB hF hd
                  rw [if_neg (by rw [wanted_some rfl rfl (hd 8 _ rfl (waits_spec rfl))]; decide)]
                  exact rfl
                · intro a w2 hB hF hd
                  rw [if_neg (by rw [wanted_some rfl rfl (hd 8 _ rfl (waits_spec rfl))]; decide)]
                  exact rfl
                · intro a w2 hB hF hd
                  rw [if_neg (by rw [wanted_undef rfl rfl (hd 10 _ rfl (waits_spec rfl))]; decide)]
                  exact rfl
                · intro a w2 hB hF hd
                  rw [if_neg (by rw [wanted_some rfl rfl (hd 8 _ rfl (waits_spec rfl))]; decide)]
                  exact rfl
                · intro a w2 hB hF hd
                  rw [if_pos (wanted_none rfl)]
                  exact flow_val (fun h => by cases h) (run_pick rfl (hd 8 _ rfl (waits_spec rfl))) (rfl)
              · intro a w7 hB hF hS
                have ha := puts_each rfl rfl hF [_, _, _, _, _, _, _, _, _, _, _, _, _, _] rfl ⟨hS 0 _ rfl, hS 1 _ rfl, hS 2 _ rfl, hS 3 _ rfl, hS 4 _ rfl, hS 5 _ rfl, hS 6 _ rfl, hS 7 _ rfl, hS 8 _ rfl, hS 9 _ rfl, hS 10 _ rfl, hS 11 _ rfl, hS 12 _ rfl, hS 13 _ rfl, trivial⟩
                simp only [puts, Act.put, List.setIfInBounds_toArray, List.set_cons_succ, List.set_cons_zero] at ha
                subst ha
                clear hS hF
                replace h1 := h1.kept hB
                replace h2 := h2.kept hB
                replace h5 := h5.kept hB
                replace h6 := h6.kept hB
                replace hbel := hbel.trans (hB.mono hbel.size)
                clear hB
                go_wp2_with (first | (refine step_val rfl (run_built rfl (HP0.out _ _)) ?_) | (refine store_arr rfl 28 _ _ rfl .i64 (w.heap.size + 1) 64 (fun _ => 0) (fun _ => 0) Try.size28 rfl rfl h2 ?_))
                exact bodyPost_ret (results_str2 rfl _ _ .i64 (w.heap.size + 1) 64 (fun _ => 0) rfl (h2.setRow _ _) Try.underlying28 rfl Try.size28) rfl ⟨_, _, rfl, .inr ⟨rfl, rfl, fun hh => absurd (HOKd.out.1 hh).1 (of_decide_eq_false HLT.out.symm)⟩, below_setRow' hbel (by omega) _⟩
            case true =>
              cases ze
              case true =>
                have HRZ : Hid (R % Pr = 0) := by
                  have h : R % Pr = 0 % Pr := of_decide_eq_true HZE.out.symm
                  rw [show (0 : Int) % Pr = 0 by decide] at h
                  exact h
                cases od
                case true =>
                  refine region_flow (n := 48) (by kernel_rfl) (by kernel_rfl) (by kernel_rfl) rfl
                    (fun ii vv _ => (match ii with | 0 | 9 | 10 | 11 | 12 | 13 => vv = .bool true | 1 | 2 | 6 | 7 | 8 => vv = .bool false | 3 => vv = .agg (arr .i64 16 (dg 65536 Y)) | 4 => vv = .agg (arr .u8 32 (dg 256 (Y % Pr))) | 5 => vv = .agg (arr .u8 32 (dg 256 Y)) | _ => True))
                    (fun w w' => Below w.heap.size w w') (fun _ _ h => h) (fun _ _ _ _ h _ => h) ?_ ?_
                  · refine Each.all ?_
                    refine ⟨?_, ?_, ?_, ?_, ?_, ?_, ?_, ?_, ?_, ?_, ?_, ?_, ?_, ?_, trivial⟩
                    · intro a w2 hB hF hd
                      rw [if_pos (wanted_none rfl)]
                      exact flow_move _ (.inl rfl) (by simp) (hF.same 7 rfl)
                    · intro a w2 hB hF hd
                      rw [if_pos (wanted_none rfl)]
                      exact flow_val (fun h => by cases h) (run_not rfl (hd 0 _ rfl (waits_spec rfl))) rfl
                    · intro a w2 hB hF hd
                      rw [if_pos (wanted_none rfl)]
                      exact flow_move _ (.inl rfl) (by simp) (hd 1 _ rfl (waits_spec rfl))
                    · intro a w2 hB hF hd
                      refine flow_wanted (wanted_yes rfl rfl (hd 2 _ rfl (waits_spec rfl)) rfl) ?_
                      exact flow_val (fun h => by cases h) (run_load_str rfl Try.underlying26 rfl Try.size26 (hF.same 5 rfl) (h5.below hB h5.lt)) rfl
                    · intro a w2 hB hF hd
                      refine flow_wanted (wanted_yes rfl rfl (hd 2 _ rfl (waits_spec rfl)) rfl) ?_
                      refine flow_call _ _ _ rfl Try.call56 _ (args1 (hd 3 _ rfl (waits_spec rfl))) (by simp) ((feBytes_any _ _ HF.out w2).mono ?_)
                      rintro e w3 ⟨rfl, hb⟩; exact ⟨_, rfl, rfl, hb⟩
                    · intro a w2 hB hF hd
                      refine flow_wanted (wanted_yes rfl rfl (hd 2 _ rfl (waits_spec rfl)) rfl) ?_
                      exact flow_val (fun h => by cases h) (run_load_str rfl Try.underlying22 rfl Try.size22 (hF.same 1 rfl) (h1.below hB h1.lt)) rfl
                    · intro a w2 hB hF hd
                      refine flow_wanted (wanted_yes rfl rfl (hd 2 _ rfl (waits_spec rfl)) rfl) ?_
                      exact flow_val (fun h => by cases h) (run_neq_arr true rfl (hd 4 _ rfl (waits_spec rfl)) (hd 5 _ rfl (waits_spec rfl)) Try.underlying22 (by kernel_rfl) (by kernel_rfl) (by kernel_rfl) (by kernel_rfl) (by kernel_rfl) HSL.out) rfl
                    · intro a w2 hB hF hd
                      rw [if_pos (wanted_none rfl)]
                      exact flow_val (fun h => by cases h) (run_pick rfl (hd 2 _ rfl (waits_spec rfl))) ((hd 6 _ rfl (waits_spec rfl)))
                    · intro a w2 hB hF hd
                      rw [if_pos (wanted_none rfl)]
                      exact flow_move _ (.inl rfl) (by simp) (hd 7 _ rfl (waits_spec rfl))
                    · intro a w2 hB hF hd
                      refine flow_wanted (wanted_yes rfl rfl (hd 8 _ rfl (waits_spec rfl)) rfl) ?_
                      exact flow_move _ (.inl rfl) (by simp) (hF.same 8 rfl)
                    · intro a w2 hB hF hd
                      refine flow_wanted (wanted_yes rfl rfl (hd 8 _ rfl (waits_spec rfl)) rfl) ?_
                      exact flow_move _ (.inl rfl) (by simp) (hd 9 _ rfl (waits_spec rfl))
                    · intro a w2 hB hF hd
                      refine flow_wanted (wanted_yes rfl rfl (hd 10 _ rfl (waits_spec rfl)) rfl) ?_
                      exact flow_move _ (.inl rfl) (by simp) (hF.same 4 rfl)
                    · intro a w2 hB hF hd
                      refine flow_wanted (wanted_yes rfl rfl (hd 8 _ rfl (waits_spec rfl)) rfl) ?_
                      exact flow_val (fun h => by cases h) (run_pick rfl (hd 10 _ rfl (waits_spec rfl))) ((hd 11 _ rfl (waits_spec rfl)))
                    · intro a w2 hB hF hd
                      rw [if_pos (wanted_none rfl)]
                      exact flow_val (fun h => by cases h) (run_pick rfl (hd 8 _ rfl (waits_spec rfl))) ((hd 12 _ rfl (waits_spec rfl)))
                  · intro a w7 hB hF hS
                    have ha := puts_each rfl rfl hF [_, _, _, _, _, _, _, _, _, _, _, _, _, _] rfl ⟨hS 0 _ rfl, hS 1 _ rfl, hS 2 _ rfl, hS 3 _ rfl, hS 4 _ rfl, hS 5 _ rfl, hS 6 _ rfl, hS 7 _ rfl, hS 8 _ rfl, hS 9 _ rfl, hS 10 _ rfl, hS 11 _ rfl, hS 12 _ rfl, hS 13 _ rfl, trivial⟩
                    simp only [puts, Act.put, List.setIfInBounds_toArray, List.set_cons_succ, List.set_cons_zero] at ha
                    subst ha
                    clear hS hF
                    replace h1 := h1.kept hB
                    replace h2 := h2.kept hB
                    replace h5 := h5.kept hB
                    replace h6 := h6.kept hB
                    replace hbel := hbel.trans (hB.mono hbel.size)
                    clear hB
                    go_wp2_with (first | (refine step_val rfl (run_built rfl (HP0.out _ _)) ?_) | (refine store_arr rfl 28 _ _ rfl .i64 (w.heap.size + 1) 64 (fun _ => 0) (fun _ => 0) Try.size28 rfl rfl h2 ?_))
                    exact bodyPost_ret (results_str2 rfl _ _ .i64 (w.heap.size + 1) 64 (fun _ => 0) rfl (h2.setRow _ _) Try.underlying28 rfl Try.size28) rfl ⟨_, _, rfl, .inr ⟨rfl, rfl, fun hh => (HOKd.out.1 hh).2.2 ⟨(root_zero (HRT.out (by trivial)).1).1 HRZ.out, of_decide_eq_true HOD.out.symm⟩⟩, below_setRow' hbel (by omega) _⟩
                case false =>
                  have HNZ : Hid (¬ (R % Pr = 0 ∧ A / 2 ^ 255 = 1)) := fun h => of_decide_eq_false HOD.out.symm h.2
                  refine region_flow (n := 48) (by kernel_rfl) (by kernel_rfl) (by kernel_rfl) rfl
                    (fun ii vv _ => (match ii with | 0 | 9 | 10 => vv = .bool true | 1 | 2 | 6 | 7 | 8 | 11 | 12 | 13 => vv = .bool false | 3 => vv = .agg (arr .i64 16 (dg 65536 Y)) | 4 => vv = .agg (arr .u8 32 (dg 256 (Y % Pr))) | 5 => vv = .agg (arr .u8 32 (dg 256 Y)) | _ => True))
                    (fun w w' => Below w.heap.size w w') (fun _ _ h => h) (fun _ _ _ _ h _ => h) ?_ ?_
                  · refine Each.all ?_
                    refine ⟨?_, ?_, ?_, ?_, ?_, ?_, ?_, ?_, ?_, ?_, ?_, ?_, ?_, ?_, trivial⟩
                    · intro a w2 hB hF hd
                      rw [if_pos (wanted_none rfl)]
                      exact flow_move _ (.inl rfl) (by simp) (hF.same 7 rfl)
                    · intro a w2 hB hF hd
                      rw [if_pos (wanted_none rfl)]
                      exact flow_val (fun h => by cases h) (run_not rfl (hd 0 _ rfl (waits_spec rfl))) rfl
                    · intro a w2 hB hF hd
                      rw [if_pos (wanted_none rfl)]
                      exact flow_move _ (.inl rfl) (by simp) (hd 1 _ rfl (waits_spec rfl))
                    · intro a w2 hB hF hd
                      refine flow_wanted (wanted_yes rfl rfl (hd 2 _ rfl (waits_spec rfl)) rfl) ?_
                      exact flow_val (fun h => by cases h) (run_load_str rfl Try.underlying26 rfl Try.size26 (hF.same 5 rfl) (h5.below hB h5.lt)) rfl
                    · intro a w2 hB hF hd
                      refine flow_wanted (wanted_yes rfl rfl (hd 2 _ rfl (waits_spec rfl)) rfl) ?_
                      refine flow_call _ _ _ rfl Try.call56 _ (args1 (hd 3 _ rfl (waits_spec rfl))) (by simp) ((feBytes_any _ _ HF.out w2).mono ?_)
                      rintro e w3 ⟨rfl, hb⟩; exact ⟨_, rfl, rfl, hb⟩
                    · intro a w2 hB hF hd
                      refine flow_wanted (wanted_yes rfl rfl (hd 2 _ rfl (waits_spec rfl)) rfl) ?_
                      exact flow_val (fun h => by cases h) (run_load_str rfl Try.underlying22 rfl Try.size22 (hF.same 1 rfl) (h1.below hB h1.lt)) rfl
                    · intro a w2 hB hF hd
                      refine flow_wanted (wanted_yes rfl rfl (hd 2 _ rfl (waits_spec rfl)) rfl) ?_
                      exact flow_val (fun h => by cases h) (run_neq_arr true rfl (hd 4 _ rfl (waits_spec rfl)) (hd 5 _ rfl (waits_spec rfl)) Try.underlying22 (by kernel_rfl) (by kernel_rfl) (by kernel_rfl) (by kernel_rfl) (by kernel_rfl) HSL.out) rfl
                    · intro a w2 hB hF hd
                      rw [if_pos (wanted_none rfl)]
                      exact flow_val (fun h => by cases h) (run_pick rfl (hd 2 _ rfl (waits_spec rfl))) ((hd 6 _ rfl (waits_spec rfl)))
                    · intro a w2 hB hF hd
                      rw [if_pos (wanted_none rfl)]
                      exact flow_move _ (.inl rfl) (by simp) (hd 7 _ rfl (waits_spec rfl))
                    · intro a w2 hB hF hd
                      refine flow_wanted (wanted_yes rfl rfl (hd 8 _ rfl (waits_spec rfl)) rfl) ?_
                      exact flow_move _ (.inl rfl) (by simp) (hF.same 8 rfl)
                    · intro a w2 hB hF hd
                      refine flow_wanted (wanted_yes rfl rfl (hd 8 _ rfl (waits_spec rfl)) rfl) ?_
                      exact flow_move _ (.inl rfl) (by simp) (hd 9 _ rfl (waits_spec rfl))
                    · intro a w2 hB hF hd
                      refine flow_wanted (wanted_yes rfl rfl (hd 10 _ rfl (waits_spec rfl)) rfl) ?_
                      exact flow_move _ (.inl rfl) (by simp) (hF.same 4 rfl)
                    · intro a w2 hB hF hd
                      refine flow_wanted (wanted_yes rfl rfl (hd 8 _ rfl (waits_spec rfl)) rfl) ?_
                      exact flow_val (fun h => by cases h) (run_pick rfl (hd 10 _ rfl (waits_spec rfl))) ((hd 11 _ rfl (waits_spec rfl)))
                    · intro a w2 hB hF hd
                      rw [if_pos (wanted_none rfl)]
                      exact flow_val (fun h => by cases h) (run_pick rfl (hd 8 _ rfl (waits_spec rfl))) ((hd 12 _ rfl (waits_spec rfl)))
                  · intro a w7 hB hF hS
                    have ha := puts_each rfl rfl hF [_, _, _, _, _, _, _, _, _, _, _, _, _, _] rfl ⟨hS 0 _ rfl, hS 1 _ rfl, hS 2 _ rfl, hS 3 _ rfl, hS 4 _ rfl, hS 5 _ rfl, hS 6 _ rfl, hS 7 _ rfl, hS 8 _ rfl, hS 9 _ rfl, hS 10 _ rfl, hS 11 _ rfl, hS 12 _ rfl, hS 13 _ rfl, trivial⟩
                    simp only [puts, Act.put, List.setIfInBounds_toArray, List.set_cons_succ, List.set_cons_zero] at ha
                    subst ha
                    clear hS hF
                    replace h1 := h1.kept hB
                    replace h2 := h2.kept hB
                    replace h5 := h5.kept hB
                    replace h6 := h6.kept hB
                    replace hbel := hbel.trans (hB.mono hbel.size)
                    clear hB
                    go_wp2_with (first | (refine load_str rfl 26 _ rfl .i64 x6 16 H Try.underlying26 rfl Try.size26 rfl h6 ?_) | (refine load_str rfl 26 _ rfl .i64 x5 16 (dg 65536 Y) Try.underlying26 rfl Try.size26 rfl h5 ?_))
                    refine (pnMade_any H (dg 65536 Y) (R) Y HFH.out HF.out _).mono ?_
                    rintro e wm ⟨rfl, hb⟩
                    replace h2 := h2.kept hb
                    replace hbel := hbel.trans (hb.mono hbel.size)
                    clear hb
                    go_wp2_with (refine store_arr rfl 28 _ _ rfl .i64 (w.heap.size + 1) 64 (fun _ => 0) (pt H (dg 65536 Y) (smallF 1) (mulF H (dg 65536 Y))) Try.size28 rfl rfl h2 ?_)
                    have hz : ¬ (R % Pr = 0 ∧ A / 2 ^ 255 = 1) := HNZ.out
                    obtain ⟨hr2, hr3⟩ := HRT.out (by trivial)
                    obtain ⟨p, hx, hy, hbn⟩ := HB.out R (of_decide_eq_true HLT.out.symm) hr2 hr3 hz
                    rw [if_neg (of_decide_eq_false HOD.out.symm)] at hx
                    exact bodyPost_ret (results_str2 rfl _ _ .i64 (w.heap.size + 1) 64 (pt H (dg 65536 Y) (smallF 1) (mulF H (dg 65536 Y))) rfl (h2.setRow _ _) Try.underlying28 rfl Try.size28) rfl ⟨_, _, rfl, .inl ⟨rfl, HOKd.out.2 ⟨of_decide_eq_true HLT.out.symm, (by trivial), fun h => hz ⟨(root_zero hr2).2 h.1, h.2⟩⟩, p, ⟨_, rfl, made_pf HFH.out HF.out hx hy⟩, hbn⟩, below_setRow' hbel (by omega) _⟩
              case false =>
                have HNZ : Hid (¬ (R % Pr = 0 ∧ A / 2 ^ 255 = 1)) := fun h => of_decide_eq_false HZE.out.symm h.1
                refine region_flow (n := 48) (by kernel_rfl) (by kernel_rfl) (by kernel_rfl) rfl
                  (fun ii vv _ => (match ii with | 0 => vv = .bool true | 1 | 2 | 6 | 7 | 8 | 9 | 10 | 12 | 13 => vv = .bool false | 3 => vv = .agg (arr .i64 16 (dg 65536 Y)) | 4 => vv = .agg (arr .u8 32 (dg 256 (Y % Pr))) | 5 => vv = .agg (arr .u8 32 (dg 256 Y)) | 11 => vv = undef | _ => True))
                  (fun w w' => Below w.heap.size w w') (fun _ _ h => h) (fun _ _ _ _ h _ => h) ?_ ?_
                · refine Each.all ?_
                  refine ⟨?_, ?_, ?_, ?_, ?_, ?_, ?_, ?_, ?_, ?_, ?_, ?_, ?_, ?_, trivial⟩
                  · intro a w2 hB hF hd
                    rw [if_pos (wanted_none rfl)]
                    exact flow_move _ (.inl rfl) (by simp) (hF.same 7 rfl)
                  · intro a w2 hB hF hd
                    rw [if_pos (wanted_none rfl)]
                    exact flow_val (fun h => by cases h) (run_not rfl (hd 0 _ rfl (waits_spec rfl))) rfl
                  · intro a w2 hB hF hd
                    rw [if_pos (wanted_none rfl)]
                    exact flow_move _ (.inl rfl) (by simp) (hd 1 _ rfl (waits_spec rfl))
                  · intro a w2 hB hF hd
                    refine flow_wanted (wanted_yes rfl rfl (hd 2 _ rfl (waits_spec rfl)) rfl) ?_
                    exact flow_val (fun h => by cases h) (run_load_str rfl Try.underlying26 rfl Try.size26 (hF.same 5 rfl) (h5.below hB h5.lt)) rfl
                  · intro a w2 hB hF hd
                    refine flow_wanted (wanted_yes rfl rfl (hd 2 _ rfl (waits_spec rfl)) rfl) ?_
                    refine flow_call _ _ _ rfl Try.call56 _ (args1 (hd 3 _ rfl (waits_spec rfl))) (by simp) ((feBytes_any _ _ HF.out w2).mono ?_)
                    rintro e w3 ⟨rfl, hb⟩; exact ⟨_, rfl, rfl, hb⟩
                  · intro a w2 hB hF hd
                    refine flow_wanted (wanted_yes rfl rfl (hd 2 _ rfl (waits_spec rfl)) rfl) ?_
                    exact flow_val (fun h => by cases h) (run_load_str rfl Try.underlying22 rfl Try.size22 (hF.same 1 rfl) (h1.below hB h1.lt)) rfl
                  · intro a w2 hB hF hd
                    refine flow_wanted (wanted_yes rfl rfl (hd 2 _ rfl (waits_spec rfl)) rfl) ?_
                    exact flow_val (fun h => by cases h) (run_neq_arr true rfl (hd 4 _ rfl (waits_spec rfl)) (hd 5 _ rfl (waits_spec rfl)) Try.underlying22 (by kernel_rfl) (by kernel_rfl) (by kernel_rfl) (by kernel_rfl) (by kernel_rfl) HSL.out) rfl
                  · intro a w2 hB hF hd
                    rw [if_pos (wanted_none rfl)]
                    exact flow_val (fun h => by cases h) (run_pick rfl (hd 2 _ rfl (waits_spec rfl))) ((hd 6 _ rfl (waits_spec rfl)))
                  · intro a w2 hB hF hd
                    rw [if_pos (wanted_none rfl)]
                    exact flow_move _ (.inl rfl) (by simp) (hd 7 _ rfl (waits_spec rfl))
                  · intro a w2 hB hF hd
                    refine flow_wanted (wanted_yes rfl rfl (hd 8 _ rfl (waits_spec rfl)) rfl) ?_
                    exact flow_move _ (.inl rfl) (by simp) (hF.same 8 rfl)
                  · intro a w2 hB hF hd
                    refine flow_wanted (wanted_yes rfl rfl (hd 8 _ rfl (waits_spec rfl)) rfl) ?_
                    exact flow_move _ (.inl rfl) (by simp) (hd 9 _ rfl (waits_spec rfl))
                  · intro a w2 hB hF hd
                    rw [if_neg (by rw [wanted_some rfl rfl (hd 10 _ rfl (waits_spec rfl))]; decide)]
                    exact rfl
                  · intro a w2 hB hF hd
                    refine flow_wanted (wanted_yes rfl rfl (hd 8 _ rfl (waits_spec rfl)) rfl) ?_
                    exact flow_val (fun h => by cases h) (run_pick rfl (hd 10 _ rfl (waits_spec rfl))) (rfl)
                  · intro a w2 hB hF hd
                    rw [if_pos (wanted_none rfl)]
                    exact flow_val (fun h => by cases h) (run_pick rfl (hd 8 _ rfl (waits_spec rfl))) ((hd 12 _ rfl (waits_spec rfl)))
                · intro a w7 hB hF hS
                  have ha := puts_each rfl rfl hF [_, _, _, _, _, _, _, _, _, _, _, _, _, _] rfl ⟨hS 0 _ rfl, hS 1 _ rfl, hS 2 _ rfl, hS 3 _ rfl, hS 4 _ rfl, hS 5 _ rfl, hS 6 _ rfl, hS 7 _ rfl, hS 8 _ rfl, hS 9 _ rfl, hS 10 _ rfl, hS 11 _ rfl, hS 12 _ rfl, hS 13 _ rfl, trivial⟩
                  simp only [puts, Act.put, List.setIfInBounds_toArray, List.set_cons_succ, List.set_cons_zero] at ha
                  subst ha
                  clear hS hF
                  replace h1 := h1.kept hB
                  replace h2 := h2.kept hB
                  replace h5 := h5.kept hB
                  replace h6 := h6.kept hB
                  replace hbel := hbel.trans (hB.mono hbel.size)
                  clear hB
                  cases od
                  case true =>
                    go_wp2_with (refine load_str rfl 26 _ rfl .i64 x6 16 H Try.underlying26 rfl Try.size26 rfl h6 ?_)
                    refine (feNeg_any _ _ HFH.out _).mono ?_
                    rintro e wn ⟨rfl, hb⟩
                    replace h2 := h2.kept hb
                    replace h5 := h5.kept hb
                    replace h6 := h6.kept hb
                    replace hbel := hbel.trans (hb.mono hbel.size)
                    clear hb
                    go_upto_region 10 with (refine store_arr rfl 26 _ _ rfl .i64 x6 16 H (negF H) Try.size26 rfl rfl h6 ?_)
                    refine wp_world (fun w9 => Arr .i64 w9 (w.heap.size + 1) 64 (fun _ => 0) ∧ Arr .i64 w9 x5 16 (dg 65536 Y) ∧ Arr .i64 w9 x6 16 (negF H) ∧ Below w.heap.size w w9) ⟨h2.setRowOther _ (by omega) _, h5.setRowOther _ (by omega) _, h6.setRow _ _, below_setRow' hbel (by omega) _⟩ ?_
                    clear h1 h2 h5 h6 hbel
                    rintro w9 ⟨h2, h5, h6, hbel⟩
                    try simp only [Act.put, List.setIfInBounds_toArray, List.set_cons_succ, List.set_cons_zero]
                    go_wp2_with (first | (refine load_str rfl 26 _ rfl .i64 x6 16 (negF H) Try.underlying26 rfl Try.size26 rfl h6 ?_) | (refine load_str rfl 26 _ rfl .i64 x5 16 (dg 65536 Y) Try.underlying26 rfl Try.size26 rfl h5 ?_))
                    refine (pnMade_any (negF H) (dg 65536 Y) (-R) Y HFH.out.negF HF.out _).mono ?_
                    rintro e wm ⟨rfl, hb⟩
                    replace h2 := h2.kept hb
                    replace hbel := hbel.trans (hb.mono hbel.size)
                    clear hb
                    go_wp2_with (refine store_arr rfl 28 _ _ rfl .i64 (w.heap.size + 1) 64 (fun _ => 0) (pt (negF H) (dg 65536 Y) (smallF 1) (mulF (negF H) (dg 65536 Y))) Try.size28 rfl rfl h2 ?_)
                    have hz : ¬ (R % Pr = 0 ∧ A / 2 ^ 255 = 1) := HNZ.out
                    obtain ⟨hr2, hr3⟩ := HRT.out (by trivial)
                    obtain ⟨p, hx, hy, hbn⟩ := HB.out R (of_decide_eq_true HLT.out.symm) hr2 hr3 hz
                    rw [if_pos (of_decide_eq_true HOD.out.symm)] at hx
                    exact bodyPost_ret (results_str2 rfl _ _ .i64 (w.heap.size + 1) 64 (pt (negF H) (dg 65536 Y) (smallF 1) (mulF (negF H) (dg 65536 Y))) rfl (h2.setRow _ _) Try.underlying28 rfl Try.size28) rfl ⟨_, _, rfl, .inl ⟨rfl, HOKd.out.2 ⟨of_decide_eq_true HLT.out.symm, (by trivial), fun h => hz ⟨(root_zero hr2).2 h.1, h.2⟩⟩, p, ⟨_, rfl, made_pf HFH.out.negF HF.out hx hy⟩, hbn⟩, below_setRow' hbel (by omega) _⟩
                  case false =>
                    go_wp2_with (first | (refine load_str rfl 26 _ rfl .i64 x6 16 H Try.underlying26 rfl Try.size26 rfl h6 ?_) | (refine load_str rfl 26 _ rfl .i64 x5 16 (dg 65536 Y) Try.underlying26 rfl Try.size26 rfl h5 ?_))
                    refine (pnMade_any H (dg 65536 Y) (R) Y HFH.out HF.out _).mono ?_
                    rintro e wm ⟨rfl, hb⟩
                    replace h2 := h2.kept hb
                    replace hbel := hbel.trans (hb.mono hbel.size)
                    clear hb
                    go_wp2_with (refine store_arr rfl 28 _ _ rfl .i64 (w.heap.size + 1) 64 (fun _ => 0) (pt H (dg 65536 Y) (smallF 1) (mulF H (dg 65536 Y))) Try.size28 rfl rfl h2 ?_)
                    have hz : ¬ (R % Pr = 0 ∧ A / 2 ^ 255 = 1) := HNZ.out
                    obtain ⟨hr2, hr3⟩ := HRT.out (by trivial)
                    obtain ⟨p, hx, hy, hbn⟩ := HB.out R (of_decide_eq_true HLT.out.symm) hr2 hr3 hz
                    rw [if_neg (of_decide_eq_false HOD.out.symm)] at hx
                    exact bodyPost_ret (results_str2 rfl _ _ .i64 (w.heap.size + 1) 64 (pt H (dg 65536 Y) (smallF 1) (mulF H (dg 65536 Y))) rfl (h2.setRow _ _) Try.underlying28 rfl Try.size28) rfl ⟨_, _, rfl, .inl ⟨rfl, HOKd.out.2 ⟨of_decide_eq_true HLT.out.symm, (by trivial), fun h => hz ⟨(root_zero hr2).2 h.1, h.2⟩⟩, p, ⟨_, rfl, made_pf HFH.out HF.out hx hy⟩, hbn⟩, below_setRow' hbel (by omega) _⟩
end Go.Proofs.Ytdhejcaapdhhfaa

namespace Go.Proofs.Ytdhejcaapdhhfaa
open Go.RowKit Go.Bas Go.ChangeShapes
attribute [local go_sem ↓] Go.wp_at_zero Go.wp_at_succ
/-- v is limbs of four numbers. -/
def APt (v : Value) : Prop := ∃ f g h e X Y Z T, v = .agg (arr .i64 64 (pt f g h e)) ∧ Fe4P f g h e X Y Z T
/-- v is limbs of four numbers, the third one alike to 0. -/
def ZPt (v : Value) : Prop := ∃ f g h e X Y Z T, v = .agg (arr .i64 64 (pt f g h e)) ∧ Fe4P f g h e X Y Z T ∧ Z % Pr = 0
theorem ZPt.keep {E : Prop} {v : Value} (h : ZPt v) (_ : E) : ZPt v := h
theorem NPt.a {v : Value} {p : Ed C7} (h : NPt v p) : APt v := by
  obtain ⟨F, rfl, f, g, h, e, X, Y, Z, T, rfl, h1, _⟩ := h
  exact ⟨f, g, h, e, X, Y, Z, T, rfl, h1⟩
theorem fe4_zero : Fe4P (fun _ => 0) (fun _ => 0) (fun _ => 0) (fun _ => 0) 0 0 0 0 := ⟨fe_zero, fe_zero, fe_zero, fe_zero⟩
theorem APt.zero : APt (.agg (arr .i64 64 (fun _ => 0))) := ⟨_, _, _, _, 0, 0, 0, 0, congrArg (fun F => Value.agg (arr .i64 64 F)) zero_pt, fe4_zero⟩
theorem ZPt.zero : ZPt (.agg (arr .i64 64 (fun _ => 0))) := ⟨_, _, _, _, 0, 0, 0, 0, congrArg (fun F => Value.agg (arr .i64 64 F)) zero_pt, fe4_zero, by decide⟩
theorem pAddZ {u : Value} (w : World) (hu : APt u) : Calls Try.prog 18 #[.agg (arr .i64 64 (fun _ => 0)), u] w fun e w' => ∃ r, e = .returned r ∧ ZPt r ∧ Below w.heap.size w w' := by
  obtain ⟨f, g, h, e, X, Y, Z, T, rfl, h1⟩ := hu
  have h2 := pnAdd_any _ _ _ _ f g h e _ _ _ _ X Y Z T fe4_zero h1 w
  rw [zero_pt]
  refine h2.mono ?_
  rintro e_ w' ⟨rfl, hb⟩
  refine ⟨_, rfl, ⟨_, _, _, _, _, _, _, _, rfl, Fe4P.sum fe4_zero h1 fe_dd, ?_⟩, hb⟩
  have e1 : smF 0 0 Z T (dN + dN) = 0 := by unfold smF; simp
  rw [e1, Int.zero_mul]; decide
theorem pNegZ (w : World) : Calls Try.prog 24 #[.agg (arr .i64 64 (fun _ => 0))] w fun e w' => ∃ r, e = .returned r ∧ ZPt r ∧ Below w.heap.size w w' := by
  have h2 := pnNeg_any _ _ _ _ _ _ _ _ fe4_zero w
  rw [zero_pt]
  refine h2.mono ?_
  rintro e_ w' ⟨rfl, hb⟩
  exact ⟨_, rfl, ⟨_, _, _, _, _, _, _, _, rfl, ⟨fe_zero.negF, fe_zero, fe_zero, fe_zero.negF⟩, by decide⟩, hb⟩
theorem pBytesZ (w : World) : Calls Try.prog 12 #[.agg (arr .i64 64 (fun _ => 0))] w fun e w' => e = .returned (.agg (arr .u8 32 (dg 256 0))) ∧ Below w.heap.size w w' := by
  have h2 := pBytes_num _ _ _ _ 0 0 0 0 0 0 fe4_zero (by rw [Int.zero_mul]; decide) (by rw [Int.zero_mul]; decide) w
  rw [zero_pt]
  exact h2

set_option maxRecDepth 100000 in
set_option maxHeartbeats 1600000 in
theorem pOnZ {v : Value} (w : World) (hv : ZPt v) : Calls Try.prog 21 #[v] w fun e_ w' => e_ = .returned (.bool false) ∧ Below w.heap.size w w' := by
  obtain ⟨f, g, h, e, X, Y, Z, T, rfl, h1, h2⟩ := hv
  have HP := Lib.hid h1
  have HZ0 : Hid (Z % Pr = 0 % Pr) := by unfold Hid; rw [h2]; decide
  clear h1 h2
  go_enter Try.func21, Try.ntmps21
  go_upto_region 1 with (fail)
  refine wp_world (fun w1 => Arr .i64 w1 w.heap.size 64 (pt f g h e) ∧ Below w.heap.size w w1) ⟨Arr.newAt rfl rfl, (Below.refl _ _).alloc (Nat.le_refl _) _⟩ ?_
  rintro w1 ⟨hA, hbel⟩
  refine region_flow (n := 40) (by kernel_rfl) (by kernel_rfl) (by kernel_rfl) rfl
    (fun ii vv _ => (match ii with | 0 => vv = .pointer (some ⟨w.heap.size, 32, none⟩) | 1 => vv = .agg (arr .i64 16 (h)) | 2 => vv = .agg (arr .i64 16 (smallF 0)) | 3 => vv = .bool true | _ => True))
    (fun w w' => Below w.heap.size w w') (fun _ _ h => h) (fun _ _ _ _ h _ => h) ?_ ?_
  · refine Each.all ?_
    refine ⟨?_, ?_, ?_, ?_, trivial⟩
    · intro a w2 hB hF hd
      rw [if_pos (wanted_none rfl)]
      refine flow_val (fun h => by cases h) (run_field_at (m := 15) (k := 32) rfl (hF.same 1 rfl) (by kernel_rfl)) ?_
      exact rfl
    · intro a w2 hB hF hd
      rw [if_pos (wanted_none rfl)]
      exact flow_val (fun h => by cases h) (run_load_mid rfl (hd 0 _ rfl (waits_spec rfl)) Try.underlying26 rfl Try.size26 (fun i hi => (hB.cell (p := ⟨w.heap.size, 32 + i, none⟩) hA.lt).trans (ptc2 hA i hi))) rfl
    · intro a w2 hB hF hd
      rw [if_pos (wanted_none rfl)]
      refine flow_call _ _ _ rfl Try.call50 _ (args1 rfl) (by simp) ((feSmall_any 0 w2).mono ?_)
      rintro e w3 ⟨rfl, hb⟩; exact ⟨_, rfl, rfl, hb⟩
    · intro a w2 hB hF hd
      rw [if_pos (wanted_none rfl)]
      refine flow_call _ _ _ rfl Try.call59 _ (args2 (hd 1 _ rfl (waits_spec rfl)) (hd 2 _ rfl (waits_spec rfl))) (by simp) ((feEqual_yes _ _ _ _ HP.out.2.2.1 fe_s0 HZ0.out w2).mono ?_)
      rintro e w3 ⟨rfl, hb⟩; exact ⟨_, rfl, rfl, hb⟩
  · intro a w2 hB hF hS
    have ha := puts_each rfl rfl hF [_, _, _, _] rfl ⟨hS 0 _ rfl, hS 1 _ rfl, hS 2 _ rfl, hS 3 _ rfl, trivial⟩
    simp only [puts, Act.put, List.setIfInBounds_toArray, List.set_cons_succ, List.set_cons_zero] at ha
    subst ha
    clear hS hF
    have hb2 := hbel.trans (hB.mono hbel.size)
    go_wp2
    go_ret
    exact ⟨rfl, hb2⟩

set_option maxRecDepth 100000 in
set_option maxHeartbeats 1600000 in
theorem pMulZ (B : Nat → Int) (w : World) : Calls Try.prog 16 #[.agg (arr .i64 64 (fun _ => 0)), .agg (arr .u8 32 B)] w fun e w' => ∃ r, e = .returned r ∧ ZPt r ∧ Below w.heap.size w w' := by
  have HP := Lib.hid fe4_zero
  have HZ0 : Hid ((0 : Int) % Pr = 0 % Pr) := rfl
  have HP0 := Lib.hid (fun (a : Act) w => build_p0 (a := a) w)
  obtain ⟨z, hz⟩ : ∃ z : Nat → Int, z = fun _ => 0 := ⟨_, rfl⟩
  have HZQ : Hid (Arr .i64 w 0 64 (fun _ => 0) → True) := fun _ => trivial
  go_enter Try.func16, Try.ntmps16
  go_upto_region 1 with (fail)
  refine wp_world (fun w1 => Arr .i64 w1 w.heap.size 64 (pt (fun _ => 0) (fun _ => 0) (fun _ => 0) (fun _ => 0)) ∧ Arr .i64 w1 (w.heap.size + 2) 64 (fun _ => 0) ∧ Below w.heap.size w w1)
    ⟨.alloc (.alloc (Arr.newAt rfl (by rw [← zero_pt])) _) _, Arr.newAt (by first | omega | (simp <;> omega)) (by rfl), (((Below.refl _ _).alloc (Nat.le_refl _) _).alloc (by first | omega | (simp <;> omega)) _).alloc (by first | omega | (simp <;> omega)) _⟩ ?_
  rintro w1 ⟨hA, hZ, hbel⟩
  refine region_flow (n := 59) (by kernel_rfl) (by kernel_rfl) (by kernel_rfl) rfl
    (fun ii vv _ => (match ii with | 0 => vv = .pointer (some ⟨w.heap.size, 32, none⟩) | 1 => vv = .agg (arr .i64 16 ((fun _ => 0))) | 2 => vv = .agg (arr .i64 16 (smallF 0)) | 3 => vv = .bool true | _ => True))
    (fun w w' => Below w.heap.size w w') (fun _ _ h => h) (fun _ _ _ _ h _ => h) ?_ ?_
  · refine Each.all ?_
    refine ⟨?_, ?_, ?_, ?_, trivial⟩
    · intro a w2 hB hF hd
      rw [if_pos (wanted_none rfl)]
      refine flow_val (fun h => by cases h) (run_field_at (m := 15) (k := 32) rfl (hF.same 2 rfl) (by kernel_rfl)) ?_
      exact rfl
    · intro a w2 hB hF hd
      rw [if_pos (wanted_none rfl)]
      exact flow_val (fun h => by cases h) (run_load_mid rfl (hd 0 _ rfl (waits_spec rfl)) Try.underlying26 rfl Try.size26 (fun i hi => (hB.cell (p := ⟨w.heap.size, 32 + i, none⟩) hA.lt).trans (ptc2 hA i hi))) rfl
    · intro a w2 hB hF hd
      rw [if_pos (wanted_none rfl)]
      refine flow_call _ _ _ rfl Try.call50 _ (args1 rfl) (by simp) ((feSmall_any 0 w2).mono ?_)
      rintro e w3 ⟨rfl, hb⟩; exact ⟨_, rfl, rfl, hb⟩
    · intro a w2 hB hF hd
      rw [if_pos (wanted_none rfl)]
      refine flow_call _ _ _ rfl Try.call59 _ (args2 (hd 1 _ rfl (waits_spec rfl)) (hd 2 _ rfl (waits_spec rfl))) (by simp) ((feEqual_yes _ _ _ _ HP.out.2.2.1 fe_s0 HZ0.out w2).mono ?_)
      rintro e w3 ⟨rfl, hb⟩; exact ⟨_, rfl, rfl, hb⟩
  · intro a w2 hB hF hS
    have ha := puts_each rfl rfl hF [_, _, _, _] rfl ⟨hS 0 _ rfl, hS 1 _ rfl, hS 2 _ rfl, hS 3 _ rfl, trivial⟩
    simp only [puts, Act.put, List.setIfInBounds_toArray, List.set_cons_succ, List.set_cons_zero] at ha
    subst ha
    clear hS hF
    have hb2 := hbel.trans (hB.mono hbel.size)
    replace hZ := hZ.kept hB
    go_wp2_with (first | (refine step_val rfl (run_built rfl (HP0.out _ _)) ?_) | (refine store_arr rfl 28 _ _ rfl .i64 (w.heap.size + 2) 64 (fun _ => 0) (fun _ => 0) Try.size28 rfl rfl hZ ?_))
    exact bodyPost_ret (results_str rfl _ _ .i64 (w.heap.size + 2) 64 (fun _ => 0) rfl (hZ.setRow _ _) Try.underlying28 rfl Try.size28) rfl ⟨_, rfl, ZPt.zero, below_setRow' hb2 (by omega) _⟩
end Go.Proofs.Ytdhejcaapdhhfaa

namespace Go.Proofs.Ytdhejcaapdhhfaa
open Go.RowKit Go.Bas Go.ChangeShapes
attribute [local go_sem ↓] Go.wp_at_zero Go.wp_at_succ
theorem bytes_Bp : bytesN Bp = BY := by
  unfold bytesN
  rw [Bp_x, Bp_y, show BX % 2 = 0 by decide]
  omega
theorem BY_0 : dg 256 BY 0 = 88 := by decide +kernel
theorem BY_1 : dg 256 BY 1 = 102 := by decide +kernel
theorem BY_31 : dg 256 BY 31 = 102 := by decide +kernel

set_option maxRecDepth 100000 in
set_option maxHeartbeats 1600000 in
theorem pnAwake_any (w : World) : Calls Try.prog 9 #[] w fun e w' => e = .returned (.bool true) ∧ Below w.heap.size w w' := by
  have HB := Lib.hid (fun w => pBytes_ok pf_base w)
  rw [bytes_Bp] at HB
  have HBB := Lib.hid (fun w => pBase_ok w)
  have D0 := Lib.hid BY_0
  have D1 := Lib.hid BY_1
  have D31 := Lib.hid BY_31
  obtain ⟨N, hN⟩ : ∃ N, N = BY := ⟨_, rfl⟩
  rw [← hN] at HB D0 D1 D31
  obtain ⟨F, hF⟩ : ∃ F, F = baseF := ⟨_, rfl⟩
  rw [← hF] at HB HBB
  clear hN hF
  go_enter Try.func9, Try.ntmps9
  go_wp2_with fail
  refine (HBB.out _).mono ?_
  rintro e w1 ⟨rfl, hb1⟩
  go_wp2_with fail
  refine (HB.out _).mono ?_
  rintro e w2 ⟨rfl, hb2⟩
  have hb3 := hb1.trans (hb2.mono hb1.size)
  clear hb1 hb2
  go_upto_region 2 with (refine store_arr rfl 22 _ _ rfl .u8 w2.heap.size 32 (fun _ => 0) (dg 256 N) Try.size22 rfl rfl (Arr.newAt rfl (by rfl)) ?_)
  refine wp_world (fun w3 => Arr .u8 w3 w2.heap.size 32 (dg 256 N) ∧ Below w.heap.size w w3) ⟨(Arr.newAt rfl (by rfl) : Arr .u8 _ _ 32 (fun _ => 0)).setRow _ _, below_setRow' (hb3.alloc hb3.size _) hb3.size _⟩ ?_
  rintro w3 ⟨hA, hb4⟩
  obtain ⟨q, hq⟩ : ∃ q, q = w2.heap.size := ⟨_, rfl⟩
  rw [← hq] at hA ⊢
  have e0 := hA.cell 0 (by decide)
  have e1 := hA.cell 1 (by decide)
  have e31 := hA.cell 31 (by decide)
  rw [D0.out] at e0
  rw [D1.out] at e1
  rw [D31.out] at e31
  clear hq hb3 hA
  try simp only [Act.put, List.setIfInBounds_toArray, List.set_cons_succ, List.set_cons_zero]
  go_wp2
  go_ret
  exact ⟨rfl, hb4⟩
end Go.Proofs.Ytdhejcaapdhhfaa

namespace Go.Proofs.Ytdhejcaapdhhfaa
open Go.RowKit Go.Bas Go.ChangeShapes
attribute [local go_sem ↓] Go.wp_at_zero Go.wp_at_succ
theorem rDigitsO (C : Int) (w : World) : Calls Try.prog 23 #[.agg (arr .u8 32 (dg 256 C))] w fun e w' => ∃ v, e = .returned v ∧ Rd .i64 w' v 16 (dg 65536 C) ∧ Below w.heap.size w w' :=
  (rDigits_any C w).mono fun _ _ ⟨v, h1, h2, h3⟩ => ⟨v, h1, h2.rd, h3⟩
/-- the reference's number for the first part's square. -/
def xxN (Y : Int) : Int := ((Y * Y) - 1) * ((1 + (dR * (Y * Y))) ^ (PN - 2))
theorem xx_fst (Y : Int) : xxN Y % Pr = fstN Y % Pr := by
  refine toF_eq.1 ?_
  unfold xxN fstN invN
  rw [toF_mul, toF_mul, toF_inv, toF_inv]
  simp only [toF_sub, toF_add, toF_mul, toF_one, toF_dN, toF_dR]
  have e : 1 + dE * (toF Y * toF Y) = dE * (toF Y * toF Y) + 1 := by
    generalize dE * (toF Y * toF Y) = a; grind
  rw [e]
theorem isSq_cg {X Y : Int} (h : X % Pr = Y % Pr) : isSq X = isSq Y := by
  have h2 : sqN X % Pr = sqN Y % Pr := Cg.pow h _
  unfold isSq
  rw [h, h2]

set_option maxRecDepth 100000 in
set_option maxHeartbeats 6400000 in
theorem pointOf_num (A : Int) (h0 : 0 ≤ A) (h1 : A < 2 ^ 256) (w : World) :
    Calls Try.prog 4 #[.agg (arr .u8 32 (dg 256 A))] w fun e w' => e = .returned (.bool true) ∧ Below w.heap.size w w' := by
  obtain ⟨eA, y0, y1, hb⟩ := split255 h0 h1
  have HL := Lib.hid (low255 h0 h1)
  have HT := Lib.hid (top255 h0 h1)
  have HAW := Lib.hid (fun w => pnAwake_any w)
  have HPO := Lib.hid (fun w => pOf_any A h0 h1 w)
  have HOKd : Hid (ofOk A ↔ A % 2 ^ 255 < Pr ∧ isSq (fstN (A % 2 ^ 255)) = true ∧ ¬ (fstN (A % 2 ^ 255) % Pr = 0 ∧ A / 2 ^ 255 = 1)) := Iff.rfl
  obtain ⟨Y, hY⟩ : ∃ Y, Y = A % 2 ^ 255 := ⟨_, rfl⟩
  rw [← hY] at y0 y1 HL HOKd
  obtain ⟨od, hod⟩ : ∃ od, od = decide (A / 2 ^ 255 = 1) := ⟨_, rfl⟩
  obtain ⟨al, hal⟩ : ∃ al, al = decide (Pr ≤ Y) := ⟨_, rfl⟩
  obtain ⟨sq, hsq⟩ : ∃ sq, sq = isSq (fstN Y) := ⟨_, rfl⟩
  obtain ⟨zr, hzr⟩ : ∃ zr, zr = decide (fstN Y % Pr = 0) := ⟨_, rfl⟩
  have HAL : Hid (∀ w a b, Rd .i64 w a 16 (dg 65536 Y) → Rd .i64 w b 16 (dg 65536 Pr) → Calls Try.prog 25 #[a, b] w fun e w' => e = .returned (.bool al) ∧ Below w.heap.size w w') := fun w a b ha hb => by
    rw [hal]
    exact rAtLeast_any a b Y Pr 16 16 (Nat.le_refl _) w ha hb ⟨y0, Int.lt_trans y1 (by decide)⟩ (by decide)
  have HSQ : Hid (∀ w a, Rd .i64 w a 16 (dg 65536 (xxN Y % Pr)) → Calls Try.prog 32 #[a] w fun e w' => e = .returned (.bool sq) ∧ Below w.heap.size w w') := fun w a ha => by
    have h := fSquare_any a (xxN Y) w ha
    rwa [isSq_cg (xx_fst Y), ← hsq] at h
  have HZR : Hid (∀ w a, Rd .i64 w a 16 (dg 65536 (xxN Y % Pr)) → Calls Try.prog 33 #[a] w fun e w' => e = .returned (.bool zr) ∧ Below w.heap.size w w') := fun w a ha => by
    rw [hzr]
    by_cases hz : fstN Y % Pr = 0
    · rw [decide_eq_true hz]; exact fZero_yes a (xxN Y) (by rw [xx_fst, hz]) w ha
    · rw [decide_eq_false hz]; exact fZero_no a (xxN Y) (by rw [xx_fst]; exact hz) w ha
  have HB0 := Lib.hid (fun (a : Act) w => build_nil (a := a) w)
  have HBAD : Hid (al = true ∨ sq = false ∨ (zr = true ∧ od = true) → ¬ ofOk A) := fun h hh => by
    obtain ⟨g1, g2, g3⟩ := HOKd.out.1 hh
    rcases h with h | h | ⟨h, h'⟩
    · rw [hal] at h; have := of_decide_eq_true h; omega
    · rw [hsq, g2] at h; cases h
    · rw [hzr] at h; rw [hod] at h'; exact g3 ⟨of_decide_eq_true h, of_decide_eq_true h'⟩
  have HGOOD : Hid (al = false → sq = true → ¬ (zr = true ∧ od = true) → ofOk A) := fun g1 g2 g3 => by
    rw [hal] at g1
    refine HOKd.out.2 ⟨by have := of_decide_eq_false g1; omega, by rw [← hsq]; exact g2, fun h => g3 ⟨?_, ?_⟩⟩
    · rw [hzr]; exact decide_eq_true h.1
    · rw [hod]; exact decide_eq_true h.2
  have HYP : Hid (al = false → Y % Pr = Y) := fun g => Int.emod_eq_of_lt y0 (by rw [hal] at g; have := of_decide_eq_false g; omega)
  have HOD := Lib.hid hod
  have HBB := Lib.hid hb
  clear h0 h1 eA hb hY hod hal hsq hzr HOKd y0 y1
  obtain ⟨dd, hdd⟩ : ∃ dd, dd = dg 256 A 31 := ⟨_, rfl⟩
  obtain ⟨g0, g1⟩ : 0 ≤ dd ∧ dd < 256 := by rw [hdd]; exact dg_bound (by decide) _ _
  rw [← hdd] at HL HT
  have HDD := Lib.hid hdd
  have hge : decide (128 ≤ dd) = od := by
    rw [HOD.out]
    refine decide_eq_decide.2 ?_
    rw [← HT.out]
    omega
  have HGE := Lib.hid hge
  have htm : Int.tmod dd 128 = dd % 128 := Int.tmod_eq_emod_of_nonneg g0
  clear hdd hge
  go_enter Try.func4, Try.ntmps4
  go_upto_region 1 with (fail)
  refine wp_world (fun w1 => Arr .u8 w1 w.heap.size 32 (dg 256 A) ∧ Below w.heap.size w w1) ⟨Arr.newAt rfl rfl, (Below.refl _ _).alloc (Nat.le_refl _) _⟩ ?_
  rintro w1 ⟨h1, hbel⟩
  go_wp2_with fail
  refine (HAW.out _).mono ?_
  rintro e w2 ⟨rfl, hb⟩
  replace h1 := h1.kept hb
  replace hbel := hbel.trans (hb.mono hbel.size)
  clear hb
  go_wp2_with (refine load_arr rfl 22 _ rfl .u8 w.heap.size 32 (dg 256 A) 5 Try.underlying22 Try.size22 rfl h1 ?_)
  refine (HPO.out _).mono ?_
  rintro e w3 ⟨r, c, rfl, hof, hb⟩
  replace h1 := h1.kept hb
  replace hbel := hbel.trans (hb.mono hbel.size)
  have HR : ∃ F3, r = .agg (arr .i64 64 F3) ∧ APt (.agg (arr .i64 64 F3)) ∧ ((c = 0 ∧ ofOk A ∧ ∃ p : Ed C7, PFn F3 p ∧ bytesN p = A) ∨ (c = 21 ∧ (F3 = fun _ => 0) ∧ ¬ ofOk A)) := by
    rcases hof with ⟨rfl, ho, p, ⟨F3, h8, h9⟩, h10⟩ | ⟨rfl, h8, ho⟩
    · exact ⟨F3, h8, NPt.a ⟨F3, rfl, h9⟩, .inl ⟨rfl, ho, p, h9, h10⟩⟩
    · exact ⟨_, h8, APt.zero, .inr ⟨rfl, rfl, ho⟩⟩
  obtain ⟨F3, rfl, hap, hcc⟩ := HR
  have HAP := Lib.hid hap
  have HCC := Lib.hid hcc
  have hl1 := h1.lt
  clear hof hb hap hcc
  go_upto_region 4 with (refine store_arr rfl 28 _ _ rfl .i64 w3.heap.size 64 (fun _ => 0) F3 Try.size28 rfl rfl (Arr.newAt rfl (by rfl)) ?_)
  refine wp_world (fun w5 => Arr .i64 w5 w3.heap.size 64 F3 ∧ Below w3.heap.size w3 w5) ⟨(Arr.newAt rfl (by rfl) : Arr .i64 _ _ 64 (fun _ => 0)).setRow _ _, below_setRow' ((Below.refl _ _).alloc (Nat.le_refl _) _) (Nat.le_refl _) _⟩ ?_
  rintro w5 ⟨h3, hb⟩
  replace h1 := h1.kept hb
  replace hbel := hbel.trans (hb.mono hbel.size)
  obtain ⟨x3, e3⟩ : ∃ x, x = w3.heap.size := ⟨_, rfl⟩
  rw [← e3] at h3 hl1 ⊢
  have hl3 := h3.lt
  have c31 := h1.cell 31 (by decide)
  rw [← HDD.out] at c31
  have hl0 := h1.lt
  clear e3 hb
  try simp only [Act.put, List.setIfInBounds_toArray, List.set_cons_succ, List.set_cons_zero]
  refine region_flow (n := 110) (by kernel_rfl) (by kernel_rfl) (by kernel_rfl) rfl
    (fun ii vv _ => (match ii with | 0 => vv = .pointer (some ⟨w.heap.size, 31, none⟩) | 1 => vv = .int .u8 (dd) | 2 | 3 => vv = .bool od | _ => True))
    (fun w w' => Below w.heap.size w w') (fun _ _ h => h) (fun _ _ _ _ h _ => h) ?_ ?_
  · refine Each.all ?_
    refine ⟨?_, ?_, ?_, ?_, trivial⟩
    · intro a w2 hB hF hd
      rw [if_pos (wanted_none rfl)]
      exact flow_val (fun h => by cases h) (run_index_addr rfl (hF.same 1 rfl) rfl Try.underlying22 (by kernel_rfl) (by decide) (by decide)) rfl
    · intro a w2 hB hF hd
      rw [if_pos (wanted_none rfl)]
      exact flow_val (fun h => by cases h) (run_load_cell rfl (hd 0 _ rfl (waits_spec rfl)) Try.underlying5 ((hB.cell (p := ⟨w.heap.size, 31, none⟩) hl0).trans c31)) rfl
    · intro a w2 hB hF hd
      rw [if_pos (wanted_none rfl)]
      exact flow_val (fun h => by cases h) (Go.Bas.run_geq rfl (hd 1 _ rfl (waits_spec rfl)) rfl) (congrArg Value.bool (HGE.out))
    · intro a w2 hB hF hd
      rw [if_pos (wanted_none rfl)]
      exact flow_move _ (.inr rfl) (by simp) (hd 2 _ rfl (waits_spec rfl))
  · intro a w6 hB hF hS
    have ha := puts_each rfl rfl hF [_, _, _, _] rfl ⟨hS 0 _ rfl, hS 1 _ rfl, hS 2 _ rfl, hS 3 _ rfl, trivial⟩
    simp only [puts, Act.put, List.setIfInBounds_toArray, List.set_cons_succ, List.set_cons_zero] at ha
    subst ha
    clear hS hF
    replace h1 := h1.kept hB
    replace h3 := h3.kept hB
    replace hbel := hbel.trans (hB.mono hbel.size)
    have hl3 := h3.lt
    clear hB c31 hl0
    go_upto_region 6 with (first
      | (refine load_arr rfl 22 _ rfl .u8 w.heap.size 32 (dg 256 A) 5 Try.underlying22 Try.size22 rfl h1 ?_)
      | (refine store_arr rfl 22 _ _ rfl .u8 w6.heap.size 32 (fun _ => 0) (dg 256 A) Try.size22 rfl rfl (Arr.newAt rfl (by rfl)) ?_))
    refine wp_world (fun w7 => Arr .u8 w7 w6.heap.size 32 (dg 256 A) ∧ Below w6.heap.size w6 w7) ⟨(Arr.newAt rfl (by rfl) : Arr .u8 _ _ 32 (fun _ => 0)).setRow _ _, below_setRow' ((Below.refl _ _).alloc (Nat.le_refl _) _) (Nat.le_refl _) _⟩ ?_
    rintro w7 ⟨h6, hb⟩
    replace h1 := h1.kept hb
    replace h3 := h3.kept hb
    replace hbel := hbel.trans (hb.mono hbel.size)
    obtain ⟨x6, e6⟩ : ∃ x, x = w6.heap.size := ⟨_, rfl⟩
    rw [← e6] at h6 hl3 ⊢
    have e31 := h6.cell 31 (by decide)
    rw [← HDD.out] at e31
    have f31 := h6.free 31
    clear e6 hb
    try simp only [Act.put, List.setIfInBounds_toArray, List.set_cons_succ, List.set_cons_zero]
    go_upto_region 7 with (fail)
    refine wp_world (fun w8 => Arr .u8 w8 x6 32 (dg 256 Y) ∧ Arr .u8 w8 w.heap.size 32 (dg 256 A) ∧ Arr .i64 w8 x3 64 F3 ∧ Below w.heap.size w w8) ⟨(h6.set 31 (dd % 128)).congr HL.out, Arr.other (p := ⟨x6, 31, none⟩) h1 (by show w.heap.size ≠ x6; omega) _, Arr.other (p := ⟨x6, 31, none⟩) h3 (by show x3 ≠ x6; omega) _, hbel.setCell (show w.heap.size ≤ x6 by omega) _⟩ ?_
    clear h1 h3 h6 hbel e31 f31 htm g0 g1
    rintro w8 ⟨h6, h1, h3, hbel⟩
    try simp only [Act.put, List.setIfInBounds_toArray, List.set_cons_succ, List.set_cons_zero]
    refine region_flow (n := 110) (by kernel_rfl) (by kernel_rfl) (by kernel_rfl) rfl
      (fun ii vv ww => (match ii with | 0 => vv = .agg (arr .u8 32 (dg 256 Y)) | _ => True) ∧ (ii = 1 → Rd .i64 ww vv 16 (dg 65536 Y)) ∧ (ii = 2 → Rd .i64 ww vv 16 (dg 65536 Y)))
      (fun w w' => Below w.heap.size w w') (fun _ _ h => h) (fun i v w w' h hE => ⟨h.1, fun e => Rd.below (h.2.1 e) hE, fun e => Rd.below (h.2.2 e) hE⟩) ?_ ?_
    · refine Each.all ?_
      refine ⟨?_, ?_, ?_, trivial⟩
      · intro a w2 hB hF hd
        rw [if_pos (wanted_none rfl)]
        exact flow_val (fun h => by cases h) (run_load_str rfl Try.underlying22 rfl Try.size22 (hF.same 6 rfl) (h6.below hB h6.lt)) ⟨rfl, fun h => absurd h (by decide), fun h => absurd h (by decide)⟩
      · intro a w2 hB hF hd
        rw [if_pos (wanted_none rfl)]
        refine flow_call _ _ _ rfl Try.call23 _ (args1 ((hd 0 _ rfl (waits_spec rfl)).1)) (by simp) ((rDigitsO Y w2).mono ?_)
        rintro e w3 ⟨u, rfl, hr, hb⟩; exact ⟨u, rfl, ⟨trivial, fun _ => hr, fun h => absurd h (by decide)⟩, hb⟩
      · intro a w2 hB hF hd
        rw [if_pos (wanted_none rfl)]
        exact flow_move _ (.inr rfl) (by simp) ⟨trivial, fun h => absurd h (by decide), fun _ => ((hd 1 _ rfl (waits_spec rfl)).2.1 rfl)⟩
    · intro a w9 hB hF hS
      obtain ⟨x27, hx27⟩ : ∃ x, x = a.tmps.getD 27 undef := ⟨_, rfl⟩
      have P27 : Rd .i64 w9 x27 16 (dg 65536 Y) := by rw [hx27]; exact (hS 1 _ rfl).2.1 rfl
      obtain ⟨x7, hx7⟩ : ∃ x, x = a.tmps.getD 7 undef := ⟨_, rfl⟩
      have P7 : Rd .i64 w9 x7 16 (dg 65536 Y) := by rw [hx7]; exact (hS 2 _ rfl).2.2 rfl
      have ha := puts_each rfl rfl hF [_, x27, x7] rfl ⟨(hS 0 _ rfl).1, hx27.symm, hx7.symm, trivial⟩
      simp only [puts, Act.put, List.setIfInBounds_toArray, List.set_cons_succ, List.set_cons_zero] at ha
      subst ha
      clear hx27 hx7
      clear hS hF
      replace h1 := h1.kept hB
      replace h3 := h3.kept hB
      replace hbel := hbel.trans (hB.mono hbel.size)
      have HX7 := Lib.hid P7
      have hl3 := h3.lt
      clear hB P7 P27 h6
      go_upto_region 9 with (fail)
      refine wp_world (fun w10 => Arr .i64 w10 w9.heap.size 64 (fun _ => 0) ∧ Below w9.heap.size w9 w10) ⟨Arr.newAt rfl (by rfl), (Below.refl _ _).alloc (Nat.le_refl _) _⟩ ?_
      rintro w10 ⟨h8, hb⟩
      replace h1 := h1.kept hb
      replace h3 := h3.kept hb
      replace hbel := hbel.trans (hb.mono hbel.size)
      replace HX7 := Lib.hid (HX7.out.below hb)
      obtain ⟨x8, e8⟩ : ∃ x, x = w9.heap.size := ⟨_, rfl⟩
      rw [← e8] at h8 ⊢
      clear e8 hb
      refine region_flow (n := 110) (by kernel_rfl) (by kernel_rfl) (by kernel_rfl) rfl
        (fun ii vv ww => (match ii with | 0 | 3 | 9 | 15 | 21 => vv = .agg (arr .i64 64 (fun _ => 0)) | 1 | 2 | 6 | 7 | 8 | 12 | 13 | 14 | 18 | 19 | 20 | 23 | 24 => vv = .bool false | 4 | 5 => vv = .agg (arr .u8 32 (dg 256 0)) | 10 => vv = .agg (arr .i64 64 (F3)) | 16 => vv = .agg (arr .u8 32 (dg 256 A)) | _ => True) ∧ (ii = 11 → ZPt vv) ∧ (ii = 17 → ZPt vv) ∧ (ii = 22 → ZPt vv))
        (fun w w' => Below w.heap.size w w') (fun _ _ h => h) (fun i v w w' h hE => ⟨h.1, fun e => ZPt.keep (h.2.1 e) hE, fun e => ZPt.keep (h.2.2.1 e) hE, fun e => ZPt.keep (h.2.2.2 e) hE⟩) ?_ ?_
      · refine Each.all ?_
        refine ⟨?_, ?_, ?_, ?_, ?_, ?_, ?_, ?_, ?_, ?_, ?_, ?_, ?_, ?_, ?_, ?_, ?_, ?_, ?_, ?_, ?_, ?_, ?_, ?_, ?_, trivial⟩
        · intro a w2 hB hF hd
          rw [if_pos (wanted_none rfl)]
          exact flow_val (fun h => by cases h) (run_load_str rfl Try.underlying28 rfl Try.size28 (hF.same 8 rfl) (h8.below hB h8.lt)) ⟨rfl, fun h => absurd h (by decide), fun h => absurd h (by decide), fun h => absurd h (by decide)⟩
        · intro a w2 hB hF hd
          rw [if_pos (wanted_none rfl)]
          refine flow_call _ _ _ rfl Try.call21 _ (args1 ((hd 0 _ rfl (waits_spec rfl)).1)) (by simp) ((pOnZ w2 ZPt.zero).mono ?_)
          rintro e w3 ⟨rfl, hb⟩; exact ⟨_, rfl, ⟨rfl, fun h => absurd h (by decide), fun h => absurd h (by decide), fun h => absurd h (by decide)⟩, hb⟩
        · intro a w2 hB hF hd
          rw [if_pos (wanted_none rfl)]
          exact flow_move _ (.inl rfl) (by simp) ⟨((hd 1 _ rfl (waits_spec rfl)).1), fun h => absurd h (by decide), fun h => absurd h (by decide), fun h => absurd h (by decide)⟩
        · intro a w2 hB hF hd
          refine flow_wanted (wanted_yes rfl rfl ((hd 2 _ rfl (waits_spec rfl)).1) rfl) ?_
          exact flow_val (fun h => by cases h) (run_load_str rfl Try.underlying28 rfl Try.size28 (hF.same 8 rfl) (h8.below hB h8.lt)) ⟨rfl, fun h => absurd h (by decide), fun h => absurd h (by decide), fun h => absurd h (by decide)⟩
        · intro a w2 hB hF hd
          refine flow_wanted (wanted_yes rfl rfl ((hd 2 _ rfl (waits_spec rfl)).1) rfl) ?_
          refine flow_call _ _ _ rfl Try.call12 _ (args1 ((hd 3 _ rfl (waits_spec rfl)).1)) (by simp) ((pBytesZ w2).mono ?_)
          rintro e w3 ⟨rfl, hb⟩; exact ⟨_, rfl, ⟨rfl, fun h => absurd h (by decide), fun h => absurd h (by decide), fun h => absurd h (by decide)⟩, hb⟩
        · intro a w2 hB hF hd
          refine flow_wanted (wanted_yes rfl rfl ((hd 2 _ rfl (waits_spec rfl)).1) rfl) ?_
          exact flow_val (fun h => by cases h) (run_built rfl (HB0.out _ _)) ⟨rfl, fun h => absurd h (by decide), fun h => absurd h (by decide), fun h => absurd h (by decide)⟩
        · intro a w2 hB hF hd
          refine flow_wanted (wanted_yes rfl rfl ((hd 2 _ rfl (waits_spec rfl)).1) rfl) ?_
          exact flow_val (fun h => by cases h) (run_neq_arr true rfl ((hd 4 _ rfl (waits_spec rfl)).1) ((hd 5 _ rfl (waits_spec rfl)).1) Try.underlying22 (by kernel_rfl) (by kernel_rfl) (by kernel_rfl) (by kernel_rfl) (by kernel_rfl) sameB_self) ⟨rfl, fun h => absurd h (by decide), fun h => absurd h (by decide), fun h => absurd h (by decide)⟩
        · intro a w2 hB hF hd
          rw [if_pos (wanted_none rfl)]
          exact flow_val (fun h => by cases h) (run_pick rfl ((hd 2 _ rfl (waits_spec rfl)).1)) ⟨(((hd 6 _ rfl (waits_spec rfl)).1)), fun h => absurd h (by decide), fun h => absurd h (by decide), fun h => absurd h (by decide)⟩
        · intro a w2 hB hF hd
          rw [if_pos (wanted_none rfl)]
          exact flow_move _ (.inl rfl) (by simp) ⟨((hd 7 _ rfl (waits_spec rfl)).1), fun h => absurd h (by decide), fun h => absurd h (by decide), fun h => absurd h (by decide)⟩
        · intro a w2 hB hF hd
          refine flow_wanted (wanted_yes rfl rfl ((hd 8 _ rfl (waits_spec rfl)).1) rfl) ?_
          exact flow_val (fun h => by cases h) (run_load_str rfl Try.underlying28 rfl Try.size28 (hF.same 8 rfl) (h8.below hB h8.lt)) ⟨rfl, fun h => absurd h (by decide), fun h => absurd h (by decide), fun h => absurd h (by decide)⟩
        · intro a w2 hB hF hd
          refine flow_wanted (wanted_yes rfl rfl ((hd 8 _ rfl (waits_spec rfl)).1) rfl) ?_
          exact flow_val (fun h => by cases h) (run_load_str rfl Try.underlying28 rfl Try.size28 (hF.same 3 rfl) (h3.below hB h3.lt)) ⟨rfl, fun h => absurd h (by decide), fun h => absurd h (by decide), fun h => absurd h (by decide)⟩
        · intro a w2 hB hF hd
          refine flow_wanted (wanted_yes rfl rfl ((hd 8 _ rfl (waits_spec rfl)).1) rfl) ?_
          refine flow_call _ _ _ rfl Try.call18 _ (args2 ((hd 9 _ rfl (waits_spec rfl)).1) ((hd 10 _ rfl (waits_spec rfl)).1)) (by simp) ((pAddZ w2 HAP.out).mono ?_)
          rintro e w3 ⟨u, rfl, hr, hb⟩; exact ⟨u, rfl, ⟨trivial, fun _ => hr, fun h => absurd h (by decide), fun h => absurd h (by decide)⟩, hb⟩
        · intro a w2 hB hF hd
          refine flow_wanted (wanted_yes rfl rfl ((hd 8 _ rfl (waits_spec rfl)).1) rfl) ?_
          refine flow_call _ _ _ rfl Try.call21 _ (args1 rfl) (by simp) ((pOnZ w2 ((hd 11 _ rfl (waits_spec rfl)).2.1 rfl)).mono ?_)
          rintro e w3 ⟨rfl, hb⟩; exact ⟨_, rfl, ⟨rfl, fun h => absurd h (by decide), fun h => absurd h (by decide), fun h => absurd h (by decide)⟩, hb⟩
        · intro a w2 hB hF hd
          rw [if_pos (wanted_none rfl)]
          exact flow_val (fun h => by cases h) (run_pick rfl ((hd 8 _ rfl (waits_spec rfl)).1)) ⟨(((hd 12 _ rfl (waits_spec rfl)).1)), fun h => absurd h (by decide), fun h => absurd h (by decide), fun h => absurd h (by decide)⟩
        · intro a w2 hB hF hd
          rw [if_pos (wanted_none rfl)]
          exact flow_move _ (.inl rfl) (by simp) ⟨((hd 13 _ rfl (waits_spec rfl)).1), fun h => absurd h (by decide), fun h => absurd h (by decide), fun h => absurd h (by decide)⟩
        · intro a w2 hB hF hd
          refine flow_wanted (wanted_yes rfl rfl ((hd 14 _ rfl (waits_spec rfl)).1) rfl) ?_
          exact flow_val (fun h => by cases h) (run_load_str rfl Try.underlying28 rfl Try.size28 (hF.same 8 rfl) (h8.below hB h8.lt)) ⟨rfl, fun h => absurd h (by decide), fun h => absurd h (by decide), fun h => absurd h (by decide)⟩
        · intro a w2 hB hF hd
          refine flow_wanted (wanted_yes rfl rfl ((hd 14 _ rfl (waits_spec rfl)).1) rfl) ?_
          exact flow_val (fun h => by cases h) (run_load_str rfl Try.underlying22 rfl Try.size22 (hF.same 1 rfl) (h1.below hB h1.lt)) ⟨rfl, fun h => absurd h (by decide), fun h => absurd h (by decide), fun h => absurd h (by decide)⟩
        · intro a w2 hB hF hd
          refine flow_wanted (wanted_yes rfl rfl ((hd 14 _ rfl (waits_spec rfl)).1) rfl) ?_
          refine flow_call _ _ _ rfl Try.call16 _ (args2 ((hd 15 _ rfl (waits_spec rfl)).1) ((hd 16 _ rfl (waits_spec rfl)).1)) (by simp) ((pMulZ _ w2).mono ?_)
          rintro e w3 ⟨u, rfl, hr, hb⟩; exact ⟨u, rfl, ⟨trivial, fun h => absurd h (by decide), fun _ => hr, fun h => absurd h (by decide)⟩, hb⟩
        · intro a w2 hB hF hd
          refine flow_wanted (wanted_yes rfl rfl ((hd 14 _ rfl (waits_spec rfl)).1) rfl) ?_
          refine flow_call _ _ _ rfl Try.call21 _ (args1 rfl) (by simp) ((pOnZ w2 ((hd 17 _ rfl (waits_spec rfl)).2.2.1 rfl)).mono ?_)
          rintro e w3 ⟨rfl, hb⟩; exact ⟨_, rfl, ⟨rfl, fun h => absurd h (by decide), fun h => absurd h (by decide), fun h => absurd h (by decide)⟩, hb⟩
        · intro a w2 hB hF hd
          rw [if_pos (wanted_none rfl)]
          exact flow_val (fun h => by cases h) (run_pick rfl ((hd 14 _ rfl (waits_spec rfl)).1)) ⟨(((hd 18 _ rfl (waits_spec rfl)).1)), fun h => absurd h (by decide), fun h => absurd h (by decide), fun h => absurd h (by decide)⟩
        · intro a w2 hB hF hd
          rw [if_pos (wanted_none rfl)]
          exact flow_move _ (.inl rfl) (by simp) ⟨((hd 19 _ rfl (waits_spec rfl)).1), fun h => absurd h (by decide), fun h => absurd h (by decide), fun h => absurd h (by decide)⟩
        · intro a w2 hB hF hd
          refine flow_wanted (wanted_yes rfl rfl ((hd 20 _ rfl (waits_spec rfl)).1) rfl) ?_
          exact flow_val (fun h => by cases h) (run_load_str rfl Try.underlying28 rfl Try.size28 (hF.same 8 rfl) (h8.below hB h8.lt)) ⟨rfl, fun h => absurd h (by decide), fun h => absurd h (by decide), fun h => absurd h (by decide)⟩
        · intro a w2 hB hF hd
          refine flow_wanted (wanted_yes rfl rfl ((hd 20 _ rfl (waits_spec rfl)).1) rfl) ?_
          refine flow_call _ _ _ rfl Try.call24 _ (args1 ((hd 21 _ rfl (waits_spec rfl)).1)) (by simp) ((pNegZ w2).mono ?_)
          rintro e w3 ⟨u, rfl, hr, hb⟩; exact ⟨u, rfl, ⟨trivial, fun h => absurd h (by decide), fun h => absurd h (by decide), fun _ => hr⟩, hb⟩
        · intro a w2 hB hF hd
          refine flow_wanted (wanted_yes rfl rfl ((hd 20 _ rfl (waits_spec rfl)).1) rfl) ?_
          refine flow_call _ _ _ rfl Try.call21 _ (args1 rfl) (by simp) ((pOnZ w2 ((hd 22 _ rfl (waits_spec rfl)).2.2.2 rfl)).mono ?_)
          rintro e w3 ⟨rfl, hb⟩; exact ⟨_, rfl, ⟨rfl, fun h => absurd h (by decide), fun h => absurd h (by decide), fun h => absurd h (by decide)⟩, hb⟩
        · intro a w2 hB hF hd
          rw [if_pos (wanted_none rfl)]
          exact flow_val (fun h => by cases h) (run_pick rfl ((hd 20 _ rfl (waits_spec rfl)).1)) ⟨(((hd 23 _ rfl (waits_spec rfl)).1)), fun h => absurd h (by decide), fun h => absurd h (by decide), fun h => absurd h (by decide)⟩
      · intro a w11 hB hF hS
        obtain ⟨x39, hx39⟩ : ∃ x, x = a.tmps.getD 39 undef := ⟨_, rfl⟩
        have P39 : ZPt x39 := by rw [hx39]; exact (hS 11 _ rfl).2.1 rfl
        obtain ⟨x45, hx45⟩ : ∃ x, x = a.tmps.getD 45 undef := ⟨_, rfl⟩
        have P45 : ZPt x45 := by rw [hx45]; exact (hS 17 _ rfl).2.2.1 rfl
        obtain ⟨x50, hx50⟩ : ∃ x, x = a.tmps.getD 50 undef := ⟨_, rfl⟩
        have P50 : ZPt x50 := by rw [hx50]; exact (hS 22 _ rfl).2.2.2 rfl
        have ha := puts_each rfl rfl hF [_, _, _, _, _, _, _, _, _, _, _, x39, _, _, _, _, _, x45, _, _, _, _, x50, _, _] rfl ⟨(hS 0 _ rfl).1, (hS 1 _ rfl).1, (hS 2 _ rfl).1, (hS 3 _ rfl).1, (hS 4 _ rfl).1, (hS 5 _ rfl).1, (hS 6 _ rfl).1, (hS 7 _ rfl).1, (hS 8 _ rfl).1, (hS 9 _ rfl).1, (hS 10 _ rfl).1, hx39.symm, (hS 12 _ rfl).1, (hS 13 _ rfl).1, (hS 14 _ rfl).1, (hS 15 _ rfl).1, (hS 16 _ rfl).1, hx45.symm, (hS 18 _ rfl).1, (hS 19 _ rfl).1, (hS 20 _ rfl).1, (hS 21 _ rfl).1, hx50.symm, (hS 23 _ rfl).1, (hS 24 _ rfl).1, trivial⟩
        simp only [puts, Act.put, List.setIfInBounds_toArray, List.set_cons_succ, List.set_cons_zero] at ha
        subst ha
        clear hx39 hx45 hx50
        clear hS hF
        replace h1 := h1.kept hB
        replace h3 := h3.kept hB
        replace hbel := hbel.trans (hB.mono hbel.size)
        replace HX7 := Lib.hid (HX7.out.below hB)
        clear hB h8 P39 P45 P50
        go_upto_region 11 with (fail)
        refine region_flow (n := 110) (by kernel_rfl) (by kernel_rfl) (by kernel_rfl) rfl
          (fun ii vv ww => (match ii with | 0 => vv = x7 | 2 => vv = .bool al | _ => True) ∧ (ii = 1 → Rd .i64 ww vv 16 (dg 65536 Pr)))
          (fun w w' => Below w.heap.size w w') (fun _ _ h => h) (fun i v w w' h hE => ⟨h.1, fun e => Rd.below (h.2 e) hE⟩) ?_ ?_
        · refine Each.all ?_
          refine ⟨?_, ?_, ?_, trivial⟩
          · intro a w2 hB hF hd
            rw [if_pos (wanted_none rfl)]
            exact flow_move _ (.inl rfl) (by simp) ⟨(hF.same 7 rfl), fun h => absurd h (by decide)⟩
          · intro a w2 hB hF hd
            rw [if_pos (wanted_none rfl)]
            refine flow_call _ _ _ rfl Try.call26 _ args0 (by simp) ((rPP_rd w2).mono ?_)
            rintro e w3 ⟨u, rfl, hr, hb⟩; exact ⟨u, rfl, ⟨trivial, fun _ => hr⟩, hb⟩
          · intro a w2 hB hF hd
            rw [if_pos (wanted_none rfl)]
            refine flow_call _ _ _ rfl Try.call25 _ (args2 ((hd 0 _ rfl (waits_spec rfl)).1) rfl) (by simp) ((HAL.out w2 _ _ (HX7.out.below hB) ((hd 1 _ rfl (waits_spec rfl)).2 rfl)).mono ?_)
            rintro e w3 ⟨rfl, hb⟩; exact ⟨_, rfl, ⟨rfl, fun h => absurd h (by decide)⟩, hb⟩
        · intro a w12 hB hF hS
          obtain ⟨x54, hx54⟩ : ∃ x, x = a.tmps.getD 54 undef := ⟨_, rfl⟩
          have P54 : Rd .i64 w12 x54 16 (dg 65536 Pr) := by rw [hx54]; exact (hS 1 _ rfl).2 rfl
          have ha := puts_each rfl rfl hF [_, x54, _] rfl ⟨(hS 0 _ rfl).1, hx54.symm, (hS 2 _ rfl).1, trivial⟩
          simp only [puts, Act.put, List.setIfInBounds_toArray, List.set_cons_succ, List.set_cons_zero] at ha
          subst ha
          clear hx54
          clear hS hF
          replace h1 := h1.kept hB
          replace h3 := h3.kept hB
          replace hbel := hbel.trans (hB.mono hbel.size)
          replace HX7 := Lib.hid (HX7.out.below hB)
          clear hB P54
          cases al
          case true =>
            obtain ⟨rfl, rfl, _⟩ := (HCC.out.resolve_left fun h => absurd h.2.1 (HBAD.out (.inl (by trivial))))
            go_upto_region 12 with (fail)
            refine region_flow (n := 110) (by kernel_rfl) (by kernel_rfl) (by kernel_rfl) rfl
              (fun ii vv _ => (match ii with | 0 => vv = .int .i64 (21) | 1 | 2 | 5 | 6 | 7 => vv = .bool true | 3 => vv = .agg (arr .i64 64 (fun _ => 0)) | 4 => vv = .bool false | _ => True))
              (fun w w' => Below w.heap.size w w') (fun _ _ h => h) (fun _ _ _ _ h _ => h) ?_ ?_
            · refine Each.all ?_
              refine ⟨?_, ?_, ?_, ?_, ?_, ?_, ?_, ?_, trivial⟩
              · intro a w2 hB hF hd
                rw [if_pos (wanted_none rfl)]
                exact flow_move _ (.inl rfl) (by simp) (hF.same 4 rfl)
              · intro a w2 hB hF hd
                rw [if_pos (wanted_none rfl)]
                refine flow_val (fun h => by cases h) (Go.Bas.run_eql_int rfl (hd 0 _ rfl (waits_spec rfl)) rfl) ?_
                exact rfl
              · intro a w2 hB hF hd
                rw [if_pos (wanted_none rfl)]
                exact flow_move _ (.inl rfl) (by simp) (hd 1 _ rfl (waits_spec rfl))
              · intro a w2 hB hF hd
                refine flow_wanted (wanted_yes rfl rfl (hd 2 _ rfl (waits_spec rfl)) rfl) ?_
                exact flow_val (fun h => by cases h) (run_load_str rfl Try.underlying28 rfl Try.size28 (hF.same 3 rfl) (h3.below hB h3.lt)) rfl
              · intro a w2 hB hF hd
                refine flow_wanted (wanted_yes rfl rfl (hd 2 _ rfl (waits_spec rfl)) rfl) ?_
                refine flow_call _ _ _ rfl Try.call21 _ (args1 (hd 3 _ rfl (waits_spec rfl))) (by simp) ((pOnZ w2 ZPt.zero).mono ?_)
                rintro e w3 ⟨rfl, hb⟩; exact ⟨_, rfl, rfl, hb⟩
              · intro a w2 hB hF hd
                refine flow_wanted (wanted_yes rfl rfl (hd 2 _ rfl (waits_spec rfl)) rfl) ?_
                exact flow_val (fun h => by cases h) (run_not rfl (hd 4 _ rfl (waits_spec rfl))) rfl
              · intro a w2 hB hF hd
                rw [if_pos (wanted_none rfl)]
                exact flow_val (fun h => by cases h) (run_pick rfl (hd 2 _ rfl (waits_spec rfl))) ((hd 5 _ rfl (waits_spec rfl)))
              · intro a w2 hB hF hd
                rw [if_pos (wanted_none rfl)]
                exact flow_move _ (.inr rfl) (by simp) (hd 6 _ rfl (waits_spec rfl))
            · intro a w13 hB hF hS
              have ha := puts_each rfl rfl hF [_, _, _, _, _, _, _, _] rfl ⟨hS 0 _ rfl, hS 1 _ rfl, hS 2 _ rfl, hS 3 _ rfl, hS 4 _ rfl, hS 5 _ rfl, hS 6 _ rfl, hS 7 _ rfl, trivial⟩
              simp only [puts, Act.put, List.setIfInBounds_toArray, List.set_cons_succ, List.set_cons_zero] at ha
              subst ha
              clear hS hF
              have hb9 := hbel.trans (hB.mono hbel.size)
              go_wp2
              go_ret
              exact ⟨rfl, hb9⟩
          case false =>
            replace HX7 : Hid (Rd .i64 w12 x7 16 (dg 65536 (Y % Pr))) := by unfold Hid; rw [HYP.out (by trivial)]; exact HX7.out
            go_upto_region 13 with (fail)
            refine region_flow (n := 110) (by kernel_rfl) (by kernel_rfl) (by kernel_rfl) rfl
              (fun ii vv ww => (match ii with | 0 | 1 => vv = x7 | _ => True) ∧ (ii = 2 → Rd .i64 ww vv 16 (dg 65536 ((Y * Y) % Pr))) ∧ (ii = 3 → Rd .i64 ww vv 16 (dg 65536 ((Y * Y) % Pr))))
              (fun w w' => Below w.heap.size w w') (fun _ _ h => h) (fun i v w w' h hE => ⟨h.1, fun e => Rd.below (h.2.1 e) hE, fun e => Rd.below (h.2.2 e) hE⟩) ?_ ?_
            · refine Each.all ?_
              refine ⟨?_, ?_, ?_, ?_, trivial⟩
              · intro a w2 hB hF hd
                rw [if_pos (wanted_none rfl)]
                exact flow_move _ (.inl rfl) (by simp) ⟨(hF.same 7 rfl), fun h => absurd h (by decide), fun h => absurd h (by decide)⟩
              · intro a w2 hB hF hd
                rw [if_pos (wanted_none rfl)]
                exact flow_move _ (.inl rfl) (by simp) ⟨(hF.same 7 rfl), fun h => absurd h (by decide), fun h => absurd h (by decide)⟩
              · intro a w2 hB hF hd
                rw [if_pos (wanted_none rfl)]
                refine flow_call _ _ _ rfl Try.call27 _ (args2 ((hd 0 _ rfl (waits_spec rfl)).1) ((hd 1 _ rfl (waits_spec rfl)).1)) (by simp) ((fMul_rd (Y) (Y) _ _ w2 (HX7.out.below hB) (HX7.out.below hB)).mono ?_)
                rintro e w3 ⟨u, rfl, hr, hb⟩; exact ⟨u, rfl, ⟨trivial, fun _ => hr, fun h => absurd h (by decide)⟩, hb⟩
              · intro a w2 hB hF hd
                rw [if_pos (wanted_none rfl)]
                exact flow_move _ (.inr rfl) (by simp) ⟨trivial, fun h => absurd h (by decide), fun _ => ((hd 2 _ rfl (waits_spec rfl)).2.1 rfl)⟩
            · intro a w13 hB hF hS
              obtain ⟨x65, hx65⟩ : ∃ x, x = a.tmps.getD 65 undef := ⟨_, rfl⟩
              have P65 : Rd .i64 w13 x65 16 (dg 65536 ((Y * Y) % Pr)) := by rw [hx65]; exact (hS 2 _ rfl).2.1 rfl
              obtain ⟨x9, hx9⟩ : ∃ x, x = a.tmps.getD 9 undef := ⟨_, rfl⟩
              have P9 : Rd .i64 w13 x9 16 (dg 65536 ((Y * Y) % Pr)) := by rw [hx9]; exact (hS 3 _ rfl).2.2 rfl
              have ha := puts_each rfl rfl hF [_, _, x65, x9] rfl ⟨(hS 0 _ rfl).1, (hS 1 _ rfl).1, hx65.symm, hx9.symm, trivial⟩
              simp only [puts, Act.put, List.setIfInBounds_toArray, List.set_cons_succ, List.set_cons_zero] at ha
              subst ha
              clear hx65 hx9
              clear hS hF
              replace h1 := h1.kept hB
              replace h3 := h3.kept hB
              replace hbel := hbel.trans (hB.mono hbel.size)
              have HX9 := Lib.hid P9
              clear hB P9 P65 HX7
              go_upto_region 14 with (fail)
              refine region_flow (n := 110) (by kernel_rfl) (by kernel_rfl) (by kernel_rfl) rfl
                (fun ii vv ww => (match ii with | 0 | 5 => vv = x9 | _ => True) ∧ (ii = 1 → Rd .i64 ww vv 16 (dg 65536 (1 % Pr))) ∧ (ii = 2 → Rd .i64 ww vv 16 (dg 65536 (((Y * Y) - 1) % Pr))) ∧ (ii = 3 → Rd .i64 ww vv 16 (dg 65536 (1 % Pr))) ∧ (ii = 4 → Rd .i64 ww vv 16 (dg 65536 (dR % Pr))) ∧ (ii = 6 → Rd .i64 ww vv 16 (dg 65536 ((dR * (Y * Y)) % Pr))) ∧ (ii = 7 → Rd .i64 ww vv 16 (dg 65536 ((1 + (dR * (Y * Y))) % Pr))) ∧ (ii = 8 → Rd .i64 ww vv 16 (dg 65536 ((((1 + (dR * (Y * Y)))) ^ (PN - 2)) % Pr))) ∧ (ii = 9 → Rd .i64 ww vv 16 (dg 65536 ((((Y * Y) - 1) * (((1 + (dR * (Y * Y)))) ^ (PN - 2))) % Pr))) ∧ (ii = 10 → Rd .i64 ww vv 16 (dg 65536 ((((Y * Y) - 1) * (((1 + (dR * (Y * Y)))) ^ (PN - 2))) % Pr))))
                (fun w w' => Below w.heap.size w w') (fun _ _ h => h) (fun i v w w' h hE => ⟨h.1, fun e => Rd.below (h.2.1 e) hE, fun e => Rd.below (h.2.2.1 e) hE, fun e => Rd.below (h.2.2.2.1 e) hE, fun e => Rd.below (h.2.2.2.2.1 e) hE, fun e => Rd.below (h.2.2.2.2.2.1 e) hE, fun e => Rd.below (h.2.2.2.2.2.2.1 e) hE, fun e => Rd.below (h.2.2.2.2.2.2.2.1 e) hE, fun e => Rd.below (h.2.2.2.2.2.2.2.2.1 e) hE, fun e => Rd.below (h.2.2.2.2.2.2.2.2.2 e) hE⟩) ?_ ?_
              · refine Each.all ?_
                refine ⟨?_, ?_, ?_, ?_, ?_, ?_, ?_, ?_, ?_, ?_, ?_, trivial⟩
                · intro a w2 hB hF hd
                  rw [if_pos (wanted_none rfl)]
                  exact flow_move _ (.inl rfl) (by simp) ⟨(hF.same 9 rfl), fun h => absurd h (by decide), fun h => absurd h (by decide), fun h => absurd h (by decide), fun h => absurd h (by decide), fun h => absurd h (by decide), fun h => absurd h (by decide), fun h => absurd h (by decide), fun h => absurd h (by decide), fun h => absurd h (by decide)⟩
                · intro a w2 hB hF hd
                  rw [if_pos (wanted_none rfl)]
                  refine flow_call _ _ _ rfl Try.call29 _ (args1 rfl) (by simp) ((smallP_rd 1 (by decide) (by decide) (by decide) w2).mono ?_)
                  rintro e w3 ⟨u, rfl, hr, hb⟩; exact ⟨u, rfl, ⟨trivial, fun _ => hr, fun h => absurd h (by decide), fun h => absurd h (by decide), fun h => absurd h (by decide), fun h => absurd h (by decide), fun h => absurd h (by decide), fun h => absurd h (by decide), fun h => absurd h (by decide), fun h => absurd h (by decide)⟩, hb⟩
                · intro a w2 hB hF hd
                  rw [if_pos (wanted_none rfl)]
                  refine flow_call _ _ _ rfl Try.call28 _ (args2 ((hd 0 _ rfl (waits_spec rfl)).1) rfl) (by simp) ((fSub_rd ((Y * Y)) (1) _ _ w2 (HX9.out.below hB) ((hd 1 _ rfl (waits_spec rfl)).2.1 rfl)).mono ?_)
                  rintro e w3 ⟨u, rfl, hr, hb⟩; exact ⟨u, rfl, ⟨trivial, fun h => absurd h (by decide), fun _ => hr, fun h => absurd h (by decide), fun h => absurd h (by decide), fun h => absurd h (by decide), fun h => absurd h (by decide), fun h => absurd h (by decide), fun h => absurd h (by decide), fun h => absurd h (by decide)⟩, hb⟩
                · intro a w2 hB hF hd
                  rw [if_pos (wanted_none rfl)]
                  refine flow_call _ _ _ rfl Try.call29 _ (args1 rfl) (by simp) ((smallP_rd 1 (by decide) (by decide) (by decide) w2).mono ?_)
                  rintro e w3 ⟨u, rfl, hr, hb⟩; exact ⟨u, rfl, ⟨trivial, fun h => absurd h (by decide), fun h => absurd h (by decide), fun _ => hr, fun h => absurd h (by decide), fun h => absurd h (by decide), fun h => absurd h (by decide), fun h => absurd h (by decide), fun h => absurd h (by decide), fun h => absurd h (by decide)⟩, hb⟩
                · intro a w2 hB hF hd
                  rw [if_pos (wanted_none rfl)]
                  refine flow_call _ _ _ rfl Try.call20 _ args0 (by simp) ((rD_any w2).mono ?_)
                  rintro e w3 ⟨u, rfl, hr, hb⟩; exact ⟨u, rfl, ⟨trivial, fun h => absurd h (by decide), fun h => absurd h (by decide), fun h => absurd h (by decide), fun _ => hr, fun h => absurd h (by decide), fun h => absurd h (by decide), fun h => absurd h (by decide), fun h => absurd h (by decide), fun h => absurd h (by decide)⟩, hb⟩
                · intro a w2 hB hF hd
                  rw [if_pos (wanted_none rfl)]
                  exact flow_move _ (.inl rfl) (by simp) ⟨(hF.same 9 rfl), fun h => absurd h (by decide), fun h => absurd h (by decide), fun h => absurd h (by decide), fun h => absurd h (by decide), fun h => absurd h (by decide), fun h => absurd h (by decide), fun h => absurd h (by decide), fun h => absurd h (by decide), fun h => absurd h (by decide)⟩
                · intro a w2 hB hF hd
                  rw [if_pos (wanted_none rfl)]
                  refine flow_call _ _ _ rfl Try.call27 _ (args2 rfl ((hd 5 _ rfl (waits_spec rfl)).1)) (by simp) ((fMul_rd (dR) ((Y * Y)) _ _ w2 ((hd 4 _ rfl (waits_spec rfl)).2.2.2.2.1 rfl) (HX9.out.below hB)).mono ?_)
                  rintro e w3 ⟨u, rfl, hr, hb⟩; exact ⟨u, rfl, ⟨trivial, fun h => absurd h (by decide), fun h => absurd h (by decide), fun h => absurd h (by decide), fun h => absurd h (by decide), fun _ => hr, fun h => absurd h (by decide), fun h => absurd h (by decide), fun h => absurd h (by decide), fun h => absurd h (by decide)⟩, hb⟩
                · intro a w2 hB hF hd
                  rw [if_pos (wanted_none rfl)]
                  refine flow_call _ _ _ rfl Try.call31 _ (args2 rfl rfl) (by simp) ((fAdd_rd (1) ((dR * (Y * Y))) _ _ w2 ((hd 3 _ rfl (waits_spec rfl)).2.2.2.1 rfl) ((hd 6 _ rfl (waits_spec rfl)).2.2.2.2.2.1 rfl)).mono ?_)
                  rintro e w3 ⟨u, rfl, hr, hb⟩; exact ⟨u, rfl, ⟨trivial, fun h => absurd h (by decide), fun h => absurd h (by decide), fun h => absurd h (by decide), fun h => absurd h (by decide), fun h => absurd h (by decide), fun _ => hr, fun h => absurd h (by decide), fun h => absurd h (by decide), fun h => absurd h (by decide)⟩, hb⟩
                · intro a w2 hB hF hd
                  rw [if_pos (wanted_none rfl)]
                  refine flow_call _ _ _ rfl Try.call30 _ (args1 rfl) (by simp) ((rInv_any _ ((1 + (dR * (Y * Y)))) w2 ((hd 7 _ rfl (waits_spec rfl)).2.2.2.2.2.2.1 rfl)).mono ?_)
                  rintro e w3 ⟨u, rfl, hr, hb⟩; exact ⟨u, rfl, ⟨trivial, fun h => absurd h (by decide), fun h => absurd h (by decide), fun h => absurd h (by decide), fun h => absurd h (by decide), fun h => absurd h (by decide), fun h => absurd h (by decide), fun _ => hr, fun h => absurd h (by decide), fun h => absurd h (by decide)⟩, hb⟩
                · intro a w2 hB hF hd
                  rw [if_pos (wanted_none rfl)]
                  refine flow_call _ _ _ rfl Try.call27 _ (args2 rfl rfl) (by simp) ((fMul_rd (((Y * Y) - 1)) ((((1 + (dR * (Y * Y)))) ^ (PN - 2))) _ _ w2 ((hd 2 _ rfl (waits_spec rfl)).2.2.1 rfl) ((hd 8 _ rfl (waits_spec rfl)).2.2.2.2.2.2.2.1 rfl)).mono ?_)
                  rintro e w3 ⟨u, rfl, hr, hb⟩; exact ⟨u, rfl, ⟨trivial, fun h => absurd h (by decide), fun h => absurd h (by decide), fun h => absurd h (by decide), fun h => absurd h (by decide), fun h => absurd h (by decide), fun h => absurd h (by decide), fun h => absurd h (by decide), fun _ => hr, fun h => absurd h (by decide)⟩, hb⟩
                · intro a w2 hB hF hd
                  rw [if_pos (wanted_none rfl)]
                  exact flow_move _ (.inr rfl) (by simp) ⟨trivial, fun h => absurd h (by decide), fun h => absurd h (by decide), fun h => absurd h (by decide), fun h => absurd h (by decide), fun h => absurd h (by decide), fun h => absurd h (by decide), fun h => absurd h (by decide), fun h => absurd h (by decide), fun _ => ((hd 9 _ rfl (waits_spec rfl)).2.2.2.2.2.2.2.2.1 rfl)⟩
              · intro a w14 hB hF hS
                obtain ⟨x67, hx67⟩ : ∃ x, x = a.tmps.getD 67 undef := ⟨_, rfl⟩
                have P67 : Rd .i64 w14 x67 16 (dg 65536 (1 % Pr)) := by rw [hx67]; exact (hS 1 _ rfl).2.1 rfl
                obtain ⟨x68, hx68⟩ : ∃ x, x = a.tmps.getD 68 undef := ⟨_, rfl⟩
                have P68 : Rd .i64 w14 x68 16 (dg 65536 (((Y * Y) - 1) % Pr)) := by rw [hx68]; exact (hS 2 _ rfl).2.2.1 rfl
                obtain ⟨x69, hx69⟩ : ∃ x, x = a.tmps.getD 69 undef := ⟨_, rfl⟩
                have P69 : Rd .i64 w14 x69 16 (dg 65536 (1 % Pr)) := by rw [hx69]; exact (hS 3 _ rfl).2.2.2.1 rfl
                obtain ⟨x70, hx70⟩ : ∃ x, x = a.tmps.getD 70 undef := ⟨_, rfl⟩
                have P70 : Rd .i64 w14 x70 16 (dg 65536 (dR % Pr)) := by rw [hx70]; exact (hS 4 _ rfl).2.2.2.2.1 rfl
                obtain ⟨x72, hx72⟩ : ∃ x, x = a.tmps.getD 72 undef := ⟨_, rfl⟩
                have P72 : Rd .i64 w14 x72 16 (dg 65536 ((dR * (Y * Y)) % Pr)) := by rw [hx72]; exact (hS 6 _ rfl).2.2.2.2.2.1 rfl
                obtain ⟨x73, hx73⟩ : ∃ x, x = a.tmps.getD 73 undef := ⟨_, rfl⟩
                have P73 : Rd .i64 w14 x73 16 (dg 65536 ((1 + (dR * (Y * Y))) % Pr)) := by rw [hx73]; exact (hS 7 _ rfl).2.2.2.2.2.2.1 rfl
                obtain ⟨x74, hx74⟩ : ∃ x, x = a.tmps.getD 74 undef := ⟨_, rfl⟩
                have P74 : Rd .i64 w14 x74 16 (dg 65536 ((((1 + (dR * (Y * Y)))) ^ (PN - 2)) % Pr)) := by rw [hx74]; exact (hS 8 _ rfl).2.2.2.2.2.2.2.1 rfl
                obtain ⟨x75, hx75⟩ : ∃ x, x = a.tmps.getD 75 undef := ⟨_, rfl⟩
                have P75 : Rd .i64 w14 x75 16 (dg 65536 ((((Y * Y) - 1) * (((1 + (dR * (Y * Y)))) ^ (PN - 2))) % Pr)) := by rw [hx75]; exact (hS 9 _ rfl).2.2.2.2.2.2.2.2.1 rfl
                obtain ⟨x10, hx10⟩ : ∃ x, x = a.tmps.getD 10 undef := ⟨_, rfl⟩
                have P10 : Rd .i64 w14 x10 16 (dg 65536 ((((Y * Y) - 1) * (((1 + (dR * (Y * Y)))) ^ (PN - 2))) % Pr)) := by rw [hx10]; exact (hS 10 _ rfl).2.2.2.2.2.2.2.2.2 rfl
                have ha := puts_each rfl rfl hF [_, x67, x68, x69, x70, _, x72, x73, x74, x75, x10] rfl ⟨(hS 0 _ rfl).1, hx67.symm, hx68.symm, hx69.symm, hx70.symm, (hS 5 _ rfl).1, hx72.symm, hx73.symm, hx74.symm, hx75.symm, hx10.symm, trivial⟩
                simp only [puts, Act.put, List.setIfInBounds_toArray, List.set_cons_succ, List.set_cons_zero] at ha
                subst ha
                clear hx67 hx68 hx69 hx70 hx72 hx73 hx74 hx75 hx10
                clear hS hF
                replace h1 := h1.kept hB
                replace h3 := h3.kept hB
                replace hbel := hbel.trans (hB.mono hbel.size)
                have HX10 : Hid (Rd .i64 w14 x10 16 (dg 65536 (xxN Y % Pr))) := P10
                clear hB P10 P67 P68 P69 P70 P72 P73 P74 P75 HX9
                go_upto_region 15 with (fail)
                cases sq
                case false =>
                  refine region_flow (n := 110) (by kernel_rfl) (by kernel_rfl) (by kernel_rfl) rfl
                    (fun ii vv _ => (match ii with | 0 => vv = x10 | 1 => vv = .bool false | 2 | 3 | 9 => vv = .bool true | 4 | 5 | 6 | 7 | 8 => vv = undef | _ => True))
                    (fun w w' => Below w.heap.size w w') (fun _ _ h => h) (fun _ _ _ _ h _ => h) ?_ ?_
                  · refine Each.all ?_
                    refine ⟨?_, ?_, ?_, ?_, ?_, ?_, ?_, ?_, ?_, ?_, trivial⟩
                    · intro a w2 hB hF hd
                      rw [if_pos (wanted_none rfl)]
                      exact flow_move _ (.inl rfl) (by simp) (hF.same 10 rfl)
                    · intro a w2 hB hF hd
                      rw [if_pos (wanted_none rfl)]
                      refine flow_call _ _ _ rfl Try.call32 _ (args1 (hd 0 _ rfl (waits_spec rfl))) (by simp) ((HSQ.out w2 _ (HX10.out.below hB)).mono ?_)
                      rintro e w3 ⟨rfl, hb⟩; exact ⟨_, rfl, rfl, hb⟩
                    · intro a w2 hB hF hd
                      rw [if_pos (wanted_none rfl)]
                      exact flow_val (fun h => by cases h) (run_not rfl (hd 1 _ rfl (waits_spec rfl))) rfl
                    · intro a w2 hB hF hd
                      rw [if_pos (wanted_none rfl)]
                      exact flow_move _ (.inl rfl) (by simp) (hd 2 _ rfl (waits_spec rfl))
                    · intro a w2 hB hF hd
                      rw [if_neg (by rw [wanted_some rfl rfl (hd 3 _ rfl (waits_spec rfl))]; decide)]
                      exact rfl
                    · intro a w2 hB hF hd
                      rw [if_neg (by rw [wanted_some rfl rfl (hd 3 _ rfl (waits_spec rfl))]; decide)]
                      exact rfl
                    · intro a w2 hB hF hd
                      rw [if_neg (by rw [wanted_some rfl rfl (hd 3 _ rfl (waits_spec rfl))]; decide)]
                      exact rfl
                    · intro a w2 hB hF hd
                      rw [if_neg (by rw [wanted_undef rfl rfl (hd 6 _ rfl (waits_spec rfl))]; decide)]
                      exact rfl
                    · intro a w2 hB hF hd
                      rw [if_neg (by rw [wanted_some rfl rfl (hd 3 _ rfl (waits_spec rfl))]; decide)]
                      exact rfl
                    · intro a w2 hB hF hd
                      rw [if_pos (wanted_none rfl)]
                      exact flow_val (fun h => by cases h) (run_pick rfl (hd 3 _ rfl (waits_spec rfl))) (rfl)
                  · intro a w15 hB hF hS
                    have ha := puts_each rfl rfl hF [_, _, _, _, _, _, _, _, _, _] rfl ⟨hS 0 _ rfl, hS 1 _ rfl, hS 2 _ rfl, hS 3 _ rfl, hS 4 _ rfl, hS 5 _ rfl, hS 6 _ rfl, hS 7 _ rfl, hS 8 _ rfl, hS 9 _ rfl, trivial⟩
                    simp only [puts, Act.put, List.setIfInBounds_toArray, List.set_cons_succ, List.set_cons_zero] at ha
                    subst ha
                    clear hS hF
                    replace h1 := h1.kept hB
                    replace h3 := h3.kept hB
                    replace hbel := hbel.trans (hB.mono hbel.size)
                    clear hB HX10
                    obtain ⟨rfl, rfl, _⟩ := (HCC.out.resolve_left fun h => absurd h.2.1 (HBAD.out (.inr (.inl (by trivial)))))
                    go_upto_region 16 with (fail)
                    refine region_flow (n := 110) (by kernel_rfl) (by kernel_rfl) (by kernel_rfl) rfl
                      (fun ii vv _ => (match ii with | 0 => vv = .int .i64 (21) | 1 | 2 | 5 | 6 | 7 => vv = .bool true | 3 => vv = .agg (arr .i64 64 (fun _ => 0)) | 4 => vv = .bool false | _ => True))
                      (fun w w' => Below w.heap.size w w') (fun _ _ h => h) (fun _ _ _ _ h _ => h) ?_ ?_
                    · refine Each.all ?_
                      refine ⟨?_, ?_, ?_, ?_, ?_, ?_, ?_, ?_, trivial⟩
                      · intro a w2 hB hF hd
                        rw [if_pos (wanted_none rfl)]
                        exact flow_move _ (.inl rfl) (by simp) (hF.same 4 rfl)
                      · intro a w2 hB hF hd
                        rw [if_pos (wanted_none rfl)]
                        refine flow_val (fun h => by cases h) (Go.Bas.run_eql_int rfl (hd 0 _ rfl (waits_spec rfl)) rfl) ?_
                        exact rfl
                      · intro a w2 hB hF hd
                        rw [if_pos (wanted_none rfl)]
                        exact flow_move _ (.inl rfl) (by simp) (hd 1 _ rfl (waits_spec rfl))
                      · intro a w2 hB hF hd
                        refine flow_wanted (wanted_yes rfl rfl (hd 2 _ rfl (waits_spec rfl)) rfl) ?_
                        exact flow_val (fun h => by cases h) (run_load_str rfl Try.underlying28 rfl Try.size28 (hF.same 3 rfl) (h3.below hB h3.lt)) rfl
                      · intro a w2 hB hF hd
                        refine flow_wanted (wanted_yes rfl rfl (hd 2 _ rfl (waits_spec rfl)) rfl) ?_
                        refine flow_call _ _ _ rfl Try.call21 _ (args1 (hd 3 _ rfl (waits_spec rfl))) (by simp) ((pOnZ w2 ZPt.zero).mono ?_)
                        rintro e w3 ⟨rfl, hb⟩; exact ⟨_, rfl, rfl, hb⟩
                      · intro a w2 hB hF hd
                        refine flow_wanted (wanted_yes rfl rfl (hd 2 _ rfl (waits_spec rfl)) rfl) ?_
                        exact flow_val (fun h => by cases h) (run_not rfl (hd 4 _ rfl (waits_spec rfl))) rfl
                      · intro a w2 hB hF hd
                        rw [if_pos (wanted_none rfl)]
                        exact flow_val (fun h => by cases h) (run_pick rfl (hd 2 _ rfl (waits_spec rfl))) ((hd 5 _ rfl (waits_spec rfl)))
                      · intro a w2 hB hF hd
                        rw [if_pos (wanted_none rfl)]
                        exact flow_move _ (.inr rfl) (by simp) (hd 6 _ rfl (waits_spec rfl))
                    · intro a w16 hB hF hS
                      have ha := puts_each rfl rfl hF [_, _, _, _, _, _, _, _] rfl ⟨hS 0 _ rfl, hS 1 _ rfl, hS 2 _ rfl, hS 3 _ rfl, hS 4 _ rfl, hS 5 _ rfl, hS 6 _ rfl, hS 7 _ rfl, trivial⟩
                      simp only [puts, Act.put, List.setIfInBounds_toArray, List.set_cons_succ, List.set_cons_zero] at ha
                      subst ha
                      clear hS hF
                      have hb9 := hbel.trans (hB.mono hbel.size)
                      go_wp2
                      go_ret
                      exact ⟨rfl, hb9⟩
                case true =>
                  cases zr
                  case false =>
                    refine region_flow (n := 110) (by kernel_rfl) (by kernel_rfl) (by kernel_rfl) rfl
                      (fun ii vv _ => (match ii with | 0 | 4 => vv = x10 | 1 => vv = .bool true | 2 | 3 | 5 | 6 | 8 | 9 => vv = .bool false | 7 => vv = undef | _ => True))
                      (fun w w' => Below w.heap.size w w') (fun _ _ h => h) (fun _ _ _ _ h _ => h) ?_ ?_
                    · refine Each.all ?_
                      refine ⟨?_, ?_, ?_, ?_, ?_, ?_, ?_, ?_, ?_, ?_, trivial⟩
                      · intro a w2 hB hF hd
                        rw [if_pos (wanted_none rfl)]
                        exact flow_move _ (.inl rfl) (by simp) (hF.same 10 rfl)
                      · intro a w2 hB hF hd
                        rw [if_pos (wanted_none rfl)]
                        refine flow_call _ _ _ rfl Try.call32 _ (args1 (hd 0 _ rfl (waits_spec rfl))) (by simp) ((HSQ.out w2 _ (HX10.out.below hB)).mono ?_)
                        rintro e w3 ⟨rfl, hb⟩; exact ⟨_, rfl, rfl, hb⟩
                      · intro a w2 hB hF hd
                        rw [if_pos (wanted_none rfl)]
                        exact flow_val (fun h => by cases h) (run_not rfl (hd 1 _ rfl (waits_spec rfl))) rfl
                      · intro a w2 hB hF hd
                        rw [if_pos (wanted_none rfl)]
                        exact flow_move _ (.inl rfl) (by simp) (hd 2 _ rfl (waits_spec rfl))
                      · intro a w2 hB hF hd
                        refine flow_wanted (wanted_yes rfl rfl (hd 3 _ rfl (waits_spec rfl)) rfl) ?_
                        exact flow_move _ (.inl rfl) (by simp) (hF.same 10 rfl)
                      · intro a w2 hB hF hd
                        refine flow_wanted (wanted_yes rfl rfl (hd 3 _ rfl (waits_spec rfl)) rfl) ?_
                        refine flow_call _ _ _ rfl Try.call33 _ (args1 (hd 4 _ rfl (waits_spec rfl))) (by simp) ((HZR.out w2 _ (HX10.out.below hB)).mono ?_)
                        rintro e w3 ⟨rfl, hb⟩; exact ⟨_, rfl, rfl, hb⟩
                      · intro a w2 hB hF hd
                        refine flow_wanted (wanted_yes rfl rfl (hd 3 _ rfl (waits_spec rfl)) rfl) ?_
                        exact flow_move _ (.inl rfl) (by simp) (hd 5 _ rfl (waits_spec rfl))
                      · intro a w2 hB hF hd
                        rw [if_neg (by rw [wanted_some rfl rfl (hd 6 _ rfl (waits_spec rfl))]; decide)]
                        exact rfl
                      · intro a w2 hB hF hd
                        refine flow_wanted (wanted_yes rfl rfl (hd 3 _ rfl (waits_spec rfl)) rfl) ?_
                        exact flow_val (fun h => by cases h) (run_pick rfl (hd 6 _ rfl (waits_spec rfl))) (rfl)
                      · intro a w2 hB hF hd
                        rw [if_pos (wanted_none rfl)]
                        exact flow_val (fun h => by cases h) (run_pick rfl (hd 3 _ rfl (waits_spec rfl))) ((hd 8 _ rfl (waits_spec rfl)))
                    · intro a w15 hB hF hS
                      have ha := puts_each rfl rfl hF [_, _, _, _, _, _, _, _, _, _] rfl ⟨hS 0 _ rfl, hS 1 _ rfl, hS 2 _ rfl, hS 3 _ rfl, hS 4 _ rfl, hS 5 _ rfl, hS 6 _ rfl, hS 7 _ rfl, hS 8 _ rfl, hS 9 _ rfl, trivial⟩
                      simp only [puts, Act.put, List.setIfInBounds_toArray, List.set_cons_succ, List.set_cons_zero] at ha
                      subst ha
                      clear hS hF
                      replace h1 := h1.kept hB
                      replace h3 := h3.kept hB
                      replace hbel := hbel.trans (hB.mono hbel.size)
                      clear hB HX10
                      obtain ⟨rfl, _, p, hpf, hbp⟩ := (HCC.out.resolve_right fun h => h.2.2 (HGOOD.out (by trivial) (by trivial) (by simp)))
                      have HPF := Lib.hid hpf
                      have HBYP : Hid (∀ w, Calls Try.prog 12 #[.agg (arr .i64 64 F3)] w fun e w' => e = .returned (.agg (arr .u8 32 (dg 256 A))) ∧ Below w.heap.size w w') := fun w => by
                        have h := pBytesN w ⟨F3, rfl, HPF.out⟩
                        rwa [hbp] at h
                      clear hpf hbp
                      go_upto_region 17 with (fail)
                      refine region_flow (n := 110) (by kernel_rfl) (by kernel_rfl) (by kernel_rfl) rfl
                        (fun ii vv _ => (match ii with | 0 => vv = .int .i64 (0) | 1 | 2 | 4 | 5 | 6 | 10 | 11 | 12 | 15 | 16 | 17 => vv = .bool true | 3 | 7 | 13 | 14 => vv = .agg (arr .i64 64 (F3)) | 8 | 9 => vv = .agg (arr .u8 32 (dg 256 A)) | _ => True))
                        (fun w w' => Below w.heap.size w w') (fun _ _ h => h) (fun _ _ _ _ h _ => h) ?_ ?_
                      · refine Each.all ?_
                        refine ⟨?_, ?_, ?_, ?_, ?_, ?_, ?_, ?_, ?_, ?_, ?_, ?_, ?_, ?_, ?_, ?_, ?_, ?_, trivial⟩
                        · intro a w2 hB hF hd
                          rw [if_pos (wanted_none rfl)]
                          exact flow_move _ (.inl rfl) (by simp) (hF.same 4 rfl)
                        · intro a w2 hB hF hd
                          rw [if_pos (wanted_none rfl)]
                          refine flow_val (fun h => by cases h) (Go.Bas.run_eql_int rfl (hd 0 _ rfl (waits_spec rfl)) rfl) ?_
                          exact rfl
                        · intro a w2 hB hF hd
                          rw [if_pos (wanted_none rfl)]
                          exact flow_move _ (.inl rfl) (by simp) (hd 1 _ rfl (waits_spec rfl))
                        · intro a w2 hB hF hd
                          refine flow_wanted (wanted_yes rfl rfl (hd 2 _ rfl (waits_spec rfl)) rfl) ?_
                          exact flow_val (fun h => by cases h) (run_load_str rfl Try.underlying28 rfl Try.size28 (hF.same 3 rfl) (h3.below hB h3.lt)) rfl
                        · intro a w2 hB hF hd
                          refine flow_wanted (wanted_yes rfl rfl (hd 2 _ rfl (waits_spec rfl)) rfl) ?_
                          refine flow_call _ _ _ rfl Try.call21 _ (args1 (hd 3 _ rfl (waits_spec rfl))) (by simp) ((pOnN w2 ⟨_, rfl, HPF.out⟩).mono ?_)
                          rintro e w3 ⟨rfl, hb⟩; exact ⟨_, rfl, rfl, hb⟩
                        · intro a w2 hB hF hd
                          rw [if_pos (wanted_none rfl)]
                          exact flow_val (fun h => by cases h) (run_pick rfl (hd 2 _ rfl (waits_spec rfl))) ((hd 4 _ rfl (waits_spec rfl)))
                        · intro a w2 hB hF hd
                          rw [if_pos (wanted_none rfl)]
                          exact flow_move _ (.inl rfl) (by simp) (hd 5 _ rfl (waits_spec rfl))
                        · intro a w2 hB hF hd
                          refine flow_wanted (wanted_yes rfl rfl (hd 6 _ rfl (waits_spec rfl)) rfl) ?_
                          exact flow_val (fun h => by cases h) (run_load_str rfl Try.underlying28 rfl Try.size28 (hF.same 3 rfl) (h3.below hB h3.lt)) rfl
                        · intro a w2 hB hF hd
                          refine flow_wanted (wanted_yes rfl rfl (hd 6 _ rfl (waits_spec rfl)) rfl) ?_
                          refine flow_call _ _ _ rfl Try.call12 _ (args1 (hd 7 _ rfl (waits_spec rfl))) (by simp) ((HBYP.out w2).mono ?_)
                          rintro e w3 ⟨rfl, hb⟩; exact ⟨_, rfl, rfl, hb⟩
                        · intro a w2 hB hF hd
                          refine flow_wanted (wanted_yes rfl rfl (hd 6 _ rfl (waits_spec rfl)) rfl) ?_
                          exact flow_val (fun h => by cases h) (run_load_str rfl Try.underlying22 rfl Try.size22 (hF.same 1 rfl) (h1.below hB h1.lt)) rfl
                        · intro a w2 hB hF hd
                          refine flow_wanted (wanted_yes rfl rfl (hd 6 _ rfl (waits_spec rfl)) rfl) ?_
                          exact flow_val (fun h => by cases h) (run_eql_arr true rfl (hd 8 _ rfl (waits_spec rfl)) (hd 9 _ rfl (waits_spec rfl)) Try.underlying22 (by kernel_rfl) (by kernel_rfl) (by kernel_rfl) (by kernel_rfl) (by kernel_rfl) sameB_self) rfl
                        · intro a w2 hB hF hd
                          rw [if_pos (wanted_none rfl)]
                          exact flow_val (fun h => by cases h) (run_pick rfl (hd 6 _ rfl (waits_spec rfl))) ((hd 10 _ rfl (waits_spec rfl)))
                        · intro a w2 hB hF hd
                          rw [if_pos (wanted_none rfl)]
                          exact flow_move _ (.inl rfl) (by simp) (hd 11 _ rfl (waits_spec rfl))
                        · intro a w2 hB hF hd
                          refine flow_wanted (wanted_yes rfl rfl (hd 12 _ rfl (waits_spec rfl)) rfl) ?_
                          exact flow_val (fun h => by cases h) (run_load_str rfl Try.underlying28 rfl Try.size28 (hF.same 3 rfl) (h3.below hB h3.lt)) rfl
                        · intro a w2 hB hF hd
                          refine flow_wanted (wanted_yes rfl rfl (hd 12 _ rfl (waits_spec rfl)) rfl) ?_
                          exact flow_val (fun h => by cases h) (run_load_str rfl Try.underlying28 rfl Try.size28 (hF.same 3 rfl) (h3.below hB h3.lt)) rfl
                        · intro a w2 hB hF hd
                          refine flow_wanted (wanted_yes rfl rfl (hd 12 _ rfl (waits_spec rfl)) rfl) ?_
                          refine flow_call _ _ _ rfl Try.call34 _ (args2 (hd 13 _ rfl (waits_spec rfl)) (hd 14 _ rfl (waits_spec rfl))) (by simp) ((pEqualN w2 ⟨_, rfl, HPF.out⟩ ⟨_, rfl, HPF.out⟩ rfl).mono ?_)
                          rintro e w3 ⟨rfl, hb⟩; exact ⟨_, rfl, rfl, hb⟩
                        · intro a w2 hB hF hd
                          rw [if_pos (wanted_none rfl)]
                          exact flow_val (fun h => by cases h) (run_pick rfl (hd 12 _ rfl (waits_spec rfl))) ((hd 15 _ rfl (waits_spec rfl)))
                        · intro a w2 hB hF hd
                          rw [if_pos (wanted_none rfl)]
                          exact flow_move _ (.inr rfl) (by simp) (hd 16 _ rfl (waits_spec rfl))
                      · intro a w17 hB hF hS
                        have ha := puts_each rfl rfl hF [_, _, _, _, _, _, _, _, _, _, _, _, _, _, _, _, _, _] rfl ⟨hS 0 _ rfl, hS 1 _ rfl, hS 2 _ rfl, hS 3 _ rfl, hS 4 _ rfl, hS 5 _ rfl, hS 6 _ rfl, hS 7 _ rfl, hS 8 _ rfl, hS 9 _ rfl, hS 10 _ rfl, hS 11 _ rfl, hS 12 _ rfl, hS 13 _ rfl, hS 14 _ rfl, hS 15 _ rfl, hS 16 _ rfl, hS 17 _ rfl, trivial⟩
                        simp only [puts, Act.put, List.setIfInBounds_toArray, List.set_cons_succ, List.set_cons_zero] at ha
                        subst ha
                        clear hS hF
                        have hb9 := hbel.trans (hB.mono hbel.size)
                        go_wp2
                        go_ret
                        exact ⟨rfl, hb9⟩
                  case true =>
                    cases od
                    case false =>
                      refine region_flow (n := 110) (by kernel_rfl) (by kernel_rfl) (by kernel_rfl) rfl
                        (fun ii vv _ => (match ii with | 0 | 4 => vv = x10 | 1 | 5 | 6 => vv = .bool true | 2 | 3 | 7 | 8 | 9 => vv = .bool false | _ => True))
                        (fun w w' => Below w.heap.size w w') (fun _ _ h => h) (fun _ _ _ _ h _ => h) ?_ ?_
                      · refine Each.all ?_
                        refine ⟨?_, ?_, ?_, ?_, ?_, ?_, ?_, ?_, ?_, ?_, trivial⟩
                        · intro a w2 hB hF hd
                          rw [if_pos (wanted_none rfl)]
                          exact flow_move _ (.inl rfl) (by simp) (hF.same 10 rfl)
                        · intro a w2 hB hF hd
                          rw [if_pos (wanted_none rfl)]
                          refine flow_call _ _ _ rfl Try.call32 _ (args1 (hd 0 _ rfl (waits_spec rfl))) (by simp) ((HSQ.out w2 _ (HX10.out.below hB)).mono ?_)
                          rintro e w3 ⟨rfl, hb⟩; exact ⟨_, rfl, rfl, hb⟩
                        · intro a w2 hB hF hd
                          rw [if_pos (wanted_none rfl)]
                          exact flow_val (fun h => by cases h) (run_not rfl (hd 1 _ rfl (waits_spec rfl))) rfl
                        · intro a w2 hB hF hd
                          rw [if_pos (wanted_none rfl)]
                          exact flow_move _ (.inl rfl) (by simp) (hd 2 _ rfl (waits_spec rfl))
                        · intro a w2 hB hF hd
                          refine flow_wanted (wanted_yes rfl rfl (hd 3 _ rfl (waits_spec rfl)) rfl) ?_
                          exact flow_move _ (.inl rfl) (by simp) (hF.same 10 rfl)
                        · intro a w2 hB hF hd
                          refine flow_wanted (wanted_yes rfl rfl (hd 3 _ rfl (waits_spec rfl)) rfl) ?_
                          refine flow_call _ _ _ rfl Try.call33 _ (args1 (hd 4 _ rfl (waits_spec rfl))) (by simp) ((HZR.out w2 _ (HX10.out.below hB)).mono ?_)
                          rintro e w3 ⟨rfl, hb⟩; exact ⟨_, rfl, rfl, hb⟩
                        · intro a w2 hB hF hd
                          refine flow_wanted (wanted_yes rfl rfl (hd 3 _ rfl (waits_spec rfl)) rfl) ?_
                          exact flow_move _ (.inl rfl) (by simp) (hd 5 _ rfl (waits_spec rfl))
                        · intro a w2 hB hF hd
                          refine flow_wanted (wanted_yes rfl rfl (hd 6 _ rfl (waits_spec rfl)) rfl) ?_
                          exact flow_move _ (.inl rfl) (by simp) (hF.same 5 rfl)
                        · intro a w2 hB hF hd
                          refine flow_wanted (wanted_yes rfl rfl (hd 3 _ rfl (waits_spec rfl)) rfl) ?_
                          exact flow_val (fun h => by cases h) (run_pick rfl (hd 6 _ rfl (waits_spec rfl))) ((hd 7 _ rfl (waits_spec rfl)))
                        · intro a w2 hB hF hd
                          rw [if_pos (wanted_none rfl)]
                          exact flow_val (fun h => by cases h) (run_pick rfl (hd 3 _ rfl (waits_spec rfl))) ((hd 8 _ rfl (waits_spec rfl)))
                      · intro a w15 hB hF hS
                        have ha := puts_each rfl rfl hF [_, _, _, _, _, _, _, _, _, _] rfl ⟨hS 0 _ rfl, hS 1 _ rfl, hS 2 _ rfl, hS 3 _ rfl, hS 4 _ rfl, hS 5 _ rfl, hS 6 _ rfl, hS 7 _ rfl, hS 8 _ rfl, hS 9 _ rfl, trivial⟩
                        simp only [puts, Act.put, List.setIfInBounds_toArray, List.set_cons_succ, List.set_cons_zero] at ha
                        subst ha
                        clear hS hF
                        replace h1 := h1.kept hB
                        replace h3 := h3.kept hB
                        replace hbel := hbel.trans (hB.mono hbel.size)
                        clear hB HX10
                        obtain ⟨rfl, _, p, hpf, hbp⟩ := (HCC.out.resolve_right fun h => h.2.2 (HGOOD.out (by trivial) (by trivial) (by simp)))
                        have HPF := Lib.hid hpf
                        have HBYP : Hid (∀ w, Calls Try.prog 12 #[.agg (arr .i64 64 F3)] w fun e w' => e = .returned (.agg (arr .u8 32 (dg 256 A))) ∧ Below w.heap.size w w') := fun w => by
                          have h := pBytesN w ⟨F3, rfl, HPF.out⟩
                          rwa [hbp] at h
                        clear hpf hbp
                        go_upto_region 17 with (fail)
                        refine region_flow (n := 110) (by kernel_rfl) (by kernel_rfl) (by kernel_rfl) rfl
                          (fun ii vv _ => (match ii with | 0 => vv = .int .i64 (0) | 1 | 2 | 4 | 5 | 6 | 10 | 11 | 12 | 15 | 16 | 17 => vv = .bool true | 3 | 7 | 13 | 14 => vv = .agg (arr .i64 64 (F3)) | 8 | 9 => vv = .agg (arr .u8 32 (dg 256 A)) | _ => True))
                          (fun w w' => Below w.heap.size w w') (fun _ _ h => h) (fun _ _ _ _ h _ => h) ?_ ?_
                        · refine Each.all ?_
                          refine ⟨?_, ?_, ?_, ?_, ?_, ?_, ?_, ?_, ?_, ?_, ?_, ?_, ?_, ?_, ?_, ?_, ?_, ?_, trivial⟩
                          · intro a w2 hB hF hd
                            rw [if_pos (wanted_none rfl)]
                            exact flow_move _ (.inl rfl) (by simp) (hF.same 4 rfl)
                          · intro a w2 hB hF hd
                            rw [if_pos (wanted_none rfl)]
                            refine flow_val (fun h => by cases h) (Go.Bas.run_eql_int rfl (hd 0 _ rfl (waits_spec rfl)) rfl) ?_
                            exact rfl
                          · intro a w2 hB hF hd
                            rw [if_pos (wanted_none rfl)]
                            exact flow_move _ (.inl rfl) (by simp) (hd 1 _ rfl (waits_spec rfl))
                          · intro a w2 hB hF hd
                            refine flow_wanted (wanted_yes rfl rfl (hd 2 _ rfl (waits_spec rfl)) rfl) ?_
                            exact flow_val (fun h => by cases h) (run_load_str rfl Try.underlying28 rfl Try.size28 (hF.same 3 rfl) (h3.below hB h3.lt)) rfl
                          · intro a w2 hB hF hd
                            refine flow_wanted (wanted_yes rfl rfl (hd 2 _ rfl (waits_spec rfl)) rfl) ?_
                            refine flow_call _ _ _ rfl Try.call21 _ (args1 (hd 3 _ rfl (waits_spec rfl))) (by simp) ((pOnN w2 ⟨_, rfl, HPF.out⟩).mono ?_)
                            rintro e w3 ⟨rfl, hb⟩; exact ⟨_, rfl, rfl, hb⟩
                          · intro a w2 hB hF hd
                            rw [if_pos (wanted_none rfl)]
                            exact flow_val (fun h => by cases h) (run_pick rfl (hd 2 _ rfl (waits_spec rfl))) ((hd 4 _ rfl (waits_spec rfl)))
                          · intro a w2 hB hF hd
                            rw [if_pos (wanted_none rfl)]
                            exact flow_move _ (.inl rfl) (by simp) (hd 5 _ rfl (waits_spec rfl))
                          · intro a w2 hB hF hd
                            refine flow_wanted (wanted_yes rfl rfl (hd 6 _ rfl (waits_spec rfl)) rfl) ?_
                            exact flow_val (fun h => by cases h) (run_load_str rfl Try.underlying28 rfl Try.size28 (hF.same 3 rfl) (h3.below hB h3.lt)) rfl
                          · intro a w2 hB hF hd
                            refine flow_wanted (wanted_yes rfl rfl (hd 6 _ rfl (waits_spec rfl)) rfl) ?_
                            refine flow_call _ _ _ rfl Try.call12 _ (args1 (hd 7 _ rfl (waits_spec rfl))) (by simp) ((HBYP.out w2).mono ?_)
                            rintro e w3 ⟨rfl, hb⟩; exact ⟨_, rfl, rfl, hb⟩
                          · intro a w2 hB hF hd
                            refine flow_wanted (wanted_yes rfl rfl (hd 6 _ rfl (waits_spec rfl)) rfl) ?_
                            exact flow_val (fun h => by cases h) (run_load_str rfl Try.underlying22 rfl Try.size22 (hF.same 1 rfl) (h1.below hB h1.lt)) rfl
                          · intro a w2 hB hF hd
                            refine flow_wanted (wanted_yes rfl rfl (hd 6 _ rfl (waits_spec rfl)) rfl) ?_
                            exact flow_val (fun h => by cases h) (run_eql_arr true rfl (hd 8 _ rfl (waits_spec rfl)) (hd 9 _ rfl (waits_spec rfl)) Try.underlying22 (by kernel_rfl) (by kernel_rfl) (by kernel_rfl) (by kernel_rfl) (by kernel_rfl) sameB_self) rfl
                          · intro a w2 hB hF hd
                            rw [if_pos (wanted_none rfl)]
                            exact flow_val (fun h => by cases h) (run_pick rfl (hd 6 _ rfl (waits_spec rfl))) ((hd 10 _ rfl (waits_spec rfl)))
                          · intro a w2 hB hF hd
                            rw [if_pos (wanted_none rfl)]
                            exact flow_move _ (.inl rfl) (by simp) (hd 11 _ rfl (waits_spec rfl))
                          · intro a w2 hB hF hd
                            refine flow_wanted (wanted_yes rfl rfl (hd 12 _ rfl (waits_spec rfl)) rfl) ?_
                            exact flow_val (fun h => by cases h) (run_load_str rfl Try.underlying28 rfl Try.size28 (hF.same 3 rfl) (h3.below hB h3.lt)) rfl
                          · intro a w2 hB hF hd
                            refine flow_wanted (wanted_yes rfl rfl (hd 12 _ rfl (waits_spec rfl)) rfl) ?_
                            exact flow_val (fun h => by cases h) (run_load_str rfl Try.underlying28 rfl Try.size28 (hF.same 3 rfl) (h3.below hB h3.lt)) rfl
                          · intro a w2 hB hF hd
                            refine flow_wanted (wanted_yes rfl rfl (hd 12 _ rfl (waits_spec rfl)) rfl) ?_
                            refine flow_call _ _ _ rfl Try.call34 _ (args2 (hd 13 _ rfl (waits_spec rfl)) (hd 14 _ rfl (waits_spec rfl))) (by simp) ((pEqualN w2 ⟨_, rfl, HPF.out⟩ ⟨_, rfl, HPF.out⟩ rfl).mono ?_)
                            rintro e w3 ⟨rfl, hb⟩; exact ⟨_, rfl, rfl, hb⟩
                          · intro a w2 hB hF hd
                            rw [if_pos (wanted_none rfl)]
                            exact flow_val (fun h => by cases h) (run_pick rfl (hd 12 _ rfl (waits_spec rfl))) ((hd 15 _ rfl (waits_spec rfl)))
                          · intro a w2 hB hF hd
                            rw [if_pos (wanted_none rfl)]
                            exact flow_move _ (.inr rfl) (by simp) (hd 16 _ rfl (waits_spec rfl))
                        · intro a w17 hB hF hS
                          have ha := puts_each rfl rfl hF [_, _, _, _, _, _, _, _, _, _, _, _, _, _, _, _, _, _] rfl ⟨hS 0 _ rfl, hS 1 _ rfl, hS 2 _ rfl, hS 3 _ rfl, hS 4 _ rfl, hS 5 _ rfl, hS 6 _ rfl, hS 7 _ rfl, hS 8 _ rfl, hS 9 _ rfl, hS 10 _ rfl, hS 11 _ rfl, hS 12 _ rfl, hS 13 _ rfl, hS 14 _ rfl, hS 15 _ rfl, hS 16 _ rfl, hS 17 _ rfl, trivial⟩
                          simp only [puts, Act.put, List.setIfInBounds_toArray, List.set_cons_succ, List.set_cons_zero] at ha
                          subst ha
                          clear hS hF
                          have hb9 := hbel.trans (hB.mono hbel.size)
                          go_wp2
                          go_ret
                          exact ⟨rfl, hb9⟩
                    case true =>
                      refine region_flow (n := 110) (by kernel_rfl) (by kernel_rfl) (by kernel_rfl) rfl
                        (fun ii vv _ => (match ii with | 0 | 4 => vv = x10 | 1 | 5 | 6 | 7 | 8 | 9 => vv = .bool true | 2 | 3 => vv = .bool false | _ => True))
                        (fun w w' => Below w.heap.size w w') (fun _ _ h => h) (fun _ _ _ _ h _ => h) ?_ ?_
                      · refine Each.all ?_
                        refine ⟨?_, ?_, ?_, ?_, ?_, ?_, ?_, ?_, ?_, ?_, trivial⟩
                        · intro a w2 hB hF hd
                          rw [if_pos (wanted_none rfl)]
                          exact flow_move _ (.inl rfl) (by simp) (hF.same 10 rfl)
                        · intro a w2 hB hF hd
                          rw [if_pos (wanted_none rfl)]
                          refine flow_call _ _ _ rfl Try.call32 _ (args1 (hd 0 _ rfl (waits_spec rfl))) (by simp) ((HSQ.out w2 _ (HX10.out.below hB)).mono ?_)
                          rintro e w3 ⟨rfl, hb⟩; exact ⟨_, rfl, rfl, hb⟩
                        · intro a w2 hB hF hd
                          rw [if_pos (wanted_none rfl)]
                          exact flow_val (fun h => by cases h) (run_not rfl (hd 1 _ rfl (waits_spec rfl))) rfl
                        · intro a w2 hB hF hd
                          rw [if_pos (wanted_none rfl)]
                          exact flow_move _ (.inl rfl) (by simp) (hd 2 _ rfl (waits_spec rfl))
                        · intro a w2 hB hF hd
                          refine flow_wanted (wanted_yes rfl rfl (hd 3 _ rfl (waits_spec rfl)) rfl) ?_
                          exact flow_move _ (.inl rfl) (by simp) (hF.same 10 rfl)
                        · intro a w2 hB hF hd
                          refine flow_wanted (wanted_yes rfl rfl (hd 3 _ rfl (waits_spec rfl)) rfl) ?_
                          refine flow_call _ _ _ rfl Try.call33 _ (args1 (hd 4 _ rfl (waits_spec rfl))) (by simp) ((HZR.out w2 _ (HX10.out.below hB)).mono ?_)
                          rintro e w3 ⟨rfl, hb⟩; exact ⟨_, rfl, rfl, hb⟩
                        · intro a w2 hB hF hd
                          refine flow_wanted (wanted_yes rfl rfl (hd 3 _ rfl (waits_spec rfl)) rfl) ?_
                          exact flow_move _ (.inl rfl) (by simp) (hd 5 _ rfl (waits_spec rfl))
                        · intro a w2 hB hF hd
                          refine flow_wanted (wanted_yes rfl rfl (hd 6 _ rfl (waits_spec rfl)) rfl) ?_
                          exact flow_move _ (.inl rfl) (by simp) (hF.same 5 rfl)
                        · intro a w2 hB hF hd
                          refine flow_wanted (wanted_yes rfl rfl (hd 3 _ rfl (waits_spec rfl)) rfl) ?_
                          exact flow_val (fun h => by cases h) (run_pick rfl (hd 6 _ rfl (waits_spec rfl))) ((hd 7 _ rfl (waits_spec rfl)))
                        · intro a w2 hB hF hd
                          rw [if_pos (wanted_none rfl)]
                          exact flow_val (fun h => by cases h) (run_pick rfl (hd 3 _ rfl (waits_spec rfl))) ((hd 8 _ rfl (waits_spec rfl)))
                      · intro a w15 hB hF hS
                        have ha := puts_each rfl rfl hF [_, _, _, _, _, _, _, _, _, _] rfl ⟨hS 0 _ rfl, hS 1 _ rfl, hS 2 _ rfl, hS 3 _ rfl, hS 4 _ rfl, hS 5 _ rfl, hS 6 _ rfl, hS 7 _ rfl, hS 8 _ rfl, hS 9 _ rfl, trivial⟩
                        simp only [puts, Act.put, List.setIfInBounds_toArray, List.set_cons_succ, List.set_cons_zero] at ha
                        subst ha
                        clear hS hF
                        replace h1 := h1.kept hB
                        replace h3 := h3.kept hB
                        replace hbel := hbel.trans (hB.mono hbel.size)
                        clear hB HX10
                        obtain ⟨rfl, rfl, _⟩ := (HCC.out.resolve_left fun h => absurd h.2.1 (HBAD.out (.inr (.inr ⟨by trivial, by trivial⟩))))
                        go_upto_region 16 with (fail)
                        refine region_flow (n := 110) (by kernel_rfl) (by kernel_rfl) (by kernel_rfl) rfl
                          (fun ii vv _ => (match ii with | 0 => vv = .int .i64 (21) | 1 | 2 | 5 | 6 | 7 => vv = .bool true | 3 => vv = .agg (arr .i64 64 (fun _ => 0)) | 4 => vv = .bool false | _ => True))
                          (fun w w' => Below w.heap.size w w') (fun _ _ h => h) (fun _ _ _ _ h _ => h) ?_ ?_
                        · refine Each.all ?_
                          refine ⟨?_, ?_, ?_, ?_, ?_, ?_, ?_, ?_, trivial⟩
                          · intro a w2 hB hF hd
                            rw [if_pos (wanted_none rfl)]
                            exact flow_move _ (.inl rfl) (by simp) (hF.same 4 rfl)
                          · intro a w2 hB hF hd
                            rw [if_pos (wanted_none rfl)]
                            refine flow_val (fun h => by cases h) (Go.Bas.run_eql_int rfl (hd 0 _ rfl (waits_spec rfl)) rfl) ?_
                            exact rfl
                          · intro a w2 hB hF hd
                            rw [if_pos (wanted_none rfl)]
                            exact flow_move _ (.inl rfl) (by simp) (hd 1 _ rfl (waits_spec rfl))
                          · intro a w2 hB hF hd
                            refine flow_wanted (wanted_yes rfl rfl (hd 2 _ rfl (waits_spec rfl)) rfl) ?_
                            exact flow_val (fun h => by cases h) (run_load_str rfl Try.underlying28 rfl Try.size28 (hF.same 3 rfl) (h3.below hB h3.lt)) rfl
                          · intro a w2 hB hF hd
                            refine flow_wanted (wanted_yes rfl rfl (hd 2 _ rfl (waits_spec rfl)) rfl) ?_
                            refine flow_call _ _ _ rfl Try.call21 _ (args1 (hd 3 _ rfl (waits_spec rfl))) (by simp) ((pOnZ w2 ZPt.zero).mono ?_)
                            rintro e w3 ⟨rfl, hb⟩; exact ⟨_, rfl, rfl, hb⟩
                          · intro a w2 hB hF hd
                            refine flow_wanted (wanted_yes rfl rfl (hd 2 _ rfl (waits_spec rfl)) rfl) ?_
                            exact flow_val (fun h => by cases h) (run_not rfl (hd 4 _ rfl (waits_spec rfl))) rfl
                          · intro a w2 hB hF hd
                            rw [if_pos (wanted_none rfl)]
                            exact flow_val (fun h => by cases h) (run_pick rfl (hd 2 _ rfl (waits_spec rfl))) ((hd 5 _ rfl (waits_spec rfl)))
                          · intro a w2 hB hF hd
                            rw [if_pos (wanted_none rfl)]
                            exact flow_move _ (.inr rfl) (by simp) (hd 6 _ rfl (waits_spec rfl))
                        · intro a w16 hB hF hS
                          have ha := puts_each rfl rfl hF [_, _, _, _, _, _, _, _] rfl ⟨hS 0 _ rfl, hS 1 _ rfl, hS 2 _ rfl, hS 3 _ rfl, hS 4 _ rfl, hS 5 _ rfl, hS 6 _ rfl, hS 7 _ rfl, trivial⟩
                          simp only [puts, Act.put, List.setIfInBounds_toArray, List.set_cons_succ, List.set_cons_zero] at ha
                          subst ha
                          clear hS hF
                          have hb9 := hbel.trans (hB.mono hbel.size)
                          go_wp2
                          go_ret
                          exact ⟨rfl, hb9⟩

theorem pointOf_law (w : World) (fs : Nat → Int) (hs : ∀ i, i < 32 → (Lit.int .u8 (fs i)).wf = true) :
    Calls Try.prog 4 #[.agg (arr .u8 32 fs)] w fun e w' => e = .returned (.bool true) ∧ Below w.heap.size w w' := by
  obtain ⟨S, eS, s0, s1⟩ := num32 fs hs
  rw [eS]
  exact pointOf_num S s0 (by omega) w
end Go.Proofs.Ytdhejcaapdhhfaa
