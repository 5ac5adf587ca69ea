/-
  Part 18 of EscrowTake. Conditions: named in each theorem.
-/
import Derived.Test.YtpcjekgfnfjbpaaGreatPkEscrowTake5
import Derived.Laws.BytesArg
import Derived.Laws.Strings
import Derived.Lib.BufferRead
set_option linter.unusedVariables false
set_option linter.unusedSimpArgs false
namespace Go.aZ
open Go.RowKit
def rH (s:ByteArray) (i:Nat):Int:=((s.data.toList.getD i 0).toNat:Int)
theorem Ki (s:ByteArray) (i:Nat):0<=rH s i/\rH s i<256:=by
 unfold rH;have:=(s.data.toList.getD i 0).toNat_lt;omega
def strOf (n:Nat) (f:Nat->Int):ByteArray:=⟨((List.range n).map fun i=> UInt8.ofNat (f i).toNat).toArray⟩
@[simp] theorem aaF (n:Nat) (f:Nat->Int):(strOf n f).size=n:=by simp [strOf,ByteArray.size]
theorem Kh (n:Nat) (f:Nat->Int):(strOf n f).data.toList=(List.range n).map fun i=> UInt8.ofNat (f i).toNat:=by simp [strOf]
theorem Mx {n:Nat} {f:Nat->Int} {i:Nat} (hi:i<n) (h:0<=f i/\f i<256):rH (strOf n f) i=f i:=by
 unfold rH;rw [Kh,NI,List.getElem?_map,List.getElem?_range hi];simp;omega
variable {P : Program} {a : Act} {w : World} {o : Oper}
theorem wP {x:Operand} {T:TypeId} {s:ByteArray} (ho:o.op=.call { callee:=.builtin .len,args:=#[x],argTypes:=#[T] }) (hx:a.eval x=.string s) (hu:P.underlying T=some .string):
  (execOp a.eval o).run P w=.ok (.value (.int .i64 (s.size:Int))) w:=by
 unfold execOp;simp only [ho,resolve,invoke,builtin,Sem.run_bind,Sem.run_pure,Result.andThen_ok,vg,List.map_cons,List.map_nil,hx,run_len_string w T o.type s hu]
 rfl
theorem wQ {src dst e:TypeId} {x:Operand} {v:Value} {n:Nat} {f:Nat->Int} (ho:o.op=.convert src dst x) (hx:a.eval x=v) (hv:Rd .u8 w v n f) (hs:P.underlying src=some (.slice e)) (he:P.underlying e=some (.int .u8)) (hd:P.underlying dst=some .string) (hb:∀i,i<n->0<=f i/\f i<256):
  (execOp a.eval o).run P w=.ok (.value (.string (strOf n f))) w:=by
 have key:(convert src dst v).run P w=.ok (.string (strOf n f)) w:=by
  obtain ⟨ad,c,rfl,h1,h2,h3,h4⟩:=hv;by_cases hn:n=0
  ·subst hn
   cases ad with
   | none=> rw [Go.Lib.run_convert_nil_bytes w src dst e c hs he hd];rfl
   | some p=>
    have:=Go.run_convert_bytes_back (P:=P) w src dst e p c [] hs he hd (fun j hj=> by simp at hj)
    simpa [strOf] using this
  ·obtain ⟨b,of,rfl,hlt,hc⟩:=h4 (by omega);have:=Go.run_convert_bytes_back (P:=P) w src dst e ⟨b,of,none⟩ c ((List.range n).map fun i=> UInt8.ofNat (f i).toNat) hs he hd (fun j hj=> by
    have hj':j<n:=by simpa using hj
    rw [show (⟨b,of,none⟩:Addr).add j=⟨b,of+j,none⟩ from by unfold Addr.add;split<;> simp_all,hc j hj'];simp;have:=hb j hj';omega)
   simpa [strOf] using this
 unfold execOp;simp only [ho,hx,Sem.run_bind,key,Result.andThen_ok,Sem.run_pure]
theorem MG {T U:TypeId} {x y:Operand} {k:IntKind} {p q:Int} (ho:o.op=.binOp .geq T x y U) (hx:a.eval x=.int k p) (hy:a.eval y=.int k q):(execOp a.eval o).run P w=.ok (.value (.bool (decide (q<=p)))) w:=by
 unfold execOp;simp only [ho,hx,hy];simp [go_sem,binOp,Op.intCmp,eqGuard]
end Go.aZ
