/-
  What one operation on integers yields: for the flow of drawn regions. No program in sight.
-/
import Derived.Test.YtiiafgbdmejcpaaLast
namespace Go.Bas
open Go.RowKit
section
variable {P : Program} {a : Act} {w : World} {o : Oper} {T U : TypeId} {x y : Operand} {k : IntKind} {p q : Int}

theorem run_add (ho : o.op = .binOp .add T x y U) (hx : a.eval x = .int k p) (hy : a.eval y = .int k q) : (execOp a.eval o).run P w = .ok (.value (.int k (k.wrap (p + q)))) w := by
  unfold execOp; simp only [ho, hx, hy]; simp [go_sem, binOp, Op.intArith, eqGuard]
theorem run_sub (ho : o.op = .binOp .sub T x y U) (hx : a.eval x = .int k p) (hy : a.eval y = .int k q) : (execOp a.eval o).run P w = .ok (.value (.int k (k.wrap (p - q)))) w := by
  unfold execOp; simp only [ho, hx, hy]; simp [go_sem, binOp, Op.intArith, eqGuard]
theorem run_mul (ho : o.op = .binOp .mul T x y U) (hx : a.eval x = .int k p) (hy : a.eval y = .int k q) : (execOp a.eval o).run P w = .ok (.value (.int k (k.wrap (p * q)))) w := by
  unfold execOp; simp only [ho, hx, hy]; simp [go_sem, binOp, Op.intArith, eqGuard]
theorem run_quo (ho : o.op = .binOp .quo T x y U) (hx : a.eval x = .int k p) (hy : a.eval y = .int k q) (hq : q ≠ 0) : (execOp a.eval o).run P w = .ok (.value (.int k (k.wrap (p.tdiv q)))) w := by
  unfold execOp; simp only [ho, hx, hy]; simp [go_sem, binOp, Op.intDiv, eqGuard, hq]
theorem run_rem (ho : o.op = .binOp .rem T x y U) (hx : a.eval x = .int k p) (hy : a.eval y = .int k q) (hq : q ≠ 0) : (execOp a.eval o).run P w = .ok (.value (.int k (p.tmod q))) w := by
  unfold execOp; simp only [ho, hx, hy]; simp [go_sem, binOp, Op.intDiv, eqGuard, hq]
theorem run_and (ho : o.op = .binOp .and T x y U) (hx : a.eval x = .int k p) (hy : a.eval y = .int k q) : (execOp a.eval o).run P w = .ok (.value (.int k (bits .and k p q))) w := by
  unfold execOp; simp only [ho, hx, hy]; simp [go_sem, binOp, Op.intBits, eqGuard, bits]
theorem run_or (ho : o.op = .binOp .or T x y U) (hx : a.eval x = .int k p) (hy : a.eval y = .int k q) : (execOp a.eval o).run P w = .ok (.value (.int k (bits .or k p q))) w := by
  unfold execOp; simp only [ho, hx, hy]; simp [go_sem, binOp, Op.intBits, eqGuard, bits]
theorem run_xor (ho : o.op = .binOp .xor T x y U) (hx : a.eval x = .int k p) (hy : a.eval y = .int k q) : (execOp a.eval o).run P w = .ok (.value (.int k (bits .xor k p q))) w := by
  unfold execOp; simp only [ho, hx, hy]; simp [go_sem, binOp, Op.intBits, eqGuard, bits]
theorem run_shr {j : IntKind} (ho : o.op = .binOp .shr T x y U) (hx : a.eval x = .int k p) (hy : a.eval y = .int j q) (hq : 0 ≤ q) : (execOp a.eval o).run P w = .ok (.value (.int k (p.fdiv (2 ^ min q.toNat k.bits)))) w := by
  unfold execOp; simp only [ho, hx, hy]; simp [go_sem, binOp, Op.shift, eqGuard, show ¬ q < 0 by omega]
theorem run_shl {j : IntKind} (ho : o.op = .binOp .shl T x y U) (hx : a.eval x = .int k p) (hy : a.eval y = .int j q) (hq : 0 ≤ q) : (execOp a.eval o).run P w = .ok (.value (.int k (k.wrap (p * 2 ^ min q.toNat k.bits)))) w := by
  unfold execOp; simp only [ho, hx, hy]; simp [go_sem, binOp, Op.shift, eqGuard, show ¬ q < 0 by omega]
theorem run_lss (ho : o.op = .binOp .lss T x y U) (hx : a.eval x = .int k p) (hy : a.eval y = .int k q) : (execOp a.eval o).run P w = .ok (.value (.bool (decide (p < q)))) w := by
  unfold execOp; simp only [ho, hx, hy]; simp [go_sem, binOp, Op.intCmp, eqGuard]
theorem run_gtr (ho : o.op = .binOp .gtr T x y U) (hx : a.eval x = .int k p) (hy : a.eval y = .int k q) : (execOp a.eval o).run P w = .ok (.value (.bool (decide (q < p)))) w := by
  unfold execOp; simp only [ho, hx, hy]; simp [go_sem, binOp, Op.intCmp, eqGuard]
theorem run_neq_int (ho : o.op = .binOp .neq T x y U) (hx : a.eval x = .int k p) (hy : a.eval y = .int k q) : (execOp a.eval o).run P w = .ok (.value (.bool (p != q))) w := by
  unfold execOp; simp only [ho, hx, hy]; simp [go_sem, binOp, Op.intCmp, eqGuard]
theorem run_conv {j : IntKind} {d : TypeDesc} (ho : o.op = .convert T U x) (hx : a.eval x = .int k p) (hT : P.underlying T = some d) (hU : P.underlying U = some (.int j)) : (execOp a.eval o).run P w = .ok (.value (.int j (j.wrap p))) w := by
  unfold execOp; simp only [ho, hx]
  simp [convert, run_underlying hT, run_underlying hU, Conv.intToInt]
theorem run_index_slice {e : TypeId} {b off n c : Nat} (ho : o.op = .indexAddr T x y) (hx : a.eval x = .slice (some ⟨b, off, none⟩) n c) (hy : a.eval y = .int k p) (hu : P.underlying T = some (.slice e)) (hi : (P.info? e).map (·.size) = some 1)
    (h0 : 0 ≤ p) (h1 : p < n) : (execOp a.eval o).run P w = .ok (.value (.pointer (some ⟨b, off + p.toNat, none⟩))) w := by
  obtain ⟨i, hi1, hi2⟩ := Option.map_eq_some_iff.1 hi
  unfold execOp; simp only [ho, hx, hy]
  simp [Instr.indexAt, asIntOf, run_underlying hu, sizeOf, typeInfo, hi1, hi2, h0, h1, Addr.add]
theorem run_index_addr {e : TypeId} {b n : Nat} (ho : o.op = .indexAddr T x y) (hx : a.eval x = .pointer (some ⟨b, 0, none⟩)) (hy : a.eval y = .int k p) (hu : P.underlying T = some (.array n e)) (hi : (P.info? e).map (·.size) = some 1)
    (h0 : 0 ≤ p) (h1 : p < n) : (execOp a.eval o).run P w = .ok (.value (.pointer (some ⟨b, p.toNat, none⟩))) w := by
  obtain ⟨i, hi1, hi2⟩ := Option.map_eq_some_iff.1 hi
  unfold execOp; simp only [ho, hx, hy]
  simp [Instr.indexAt, Instr.sureAddr, asIntOf, run_underlying hu, sizeOf, typeInfo, hi1, hi2, h0, h1, Addr.add] <;> omega
theorem run_load_cell {b i : Nat} {v : Value} (ho : o.op = .load T x) (hx : a.eval x = .pointer (some ⟨b, i, none⟩)) (hu : P.underlying T = some (.int k)) (hc : w.cell? ⟨b, i, none⟩ = some v) : (execOp a.eval o).run P w = .ok (.value v) w := by
  unfold execOp; simp only [ho, hx]
  simp [Instr.loadAt, Instr.sureAddr, loadVar, isAgg, run_underlying hu, go_sem, hc]
variable {ops : Array Oper}
theorem wanted_yes {j d : Nat} {want b : Bool} (h : o.guard = some (j, want)) (hj : (ops[j]?).bind (·.dst) = some d) (hv : a.tmps.getD d undef = .bool b) (hb : (b == want) = true) : Region.wanted o (yielded ops a.tmps) = true := (wanted_some h hj hv).trans hb
theorem flow_wanted {y : Nat → Option Bool} {X Y : Prop} (h : Region.wanted o y = true) (hx : X) : if Region.wanted o y then X else Y := by rw [if_pos h]; exact hx
end
end Go.Bas
