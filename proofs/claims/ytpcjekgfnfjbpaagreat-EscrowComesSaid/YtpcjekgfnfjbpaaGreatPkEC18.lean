/- Part 18 of EscrowComes; conditions: in each theorem. -/
import Derived.Test.YtpcjekgfnfjbpaaGreatPkEC5
import Derived.Laws.BytesArg
import Derived.Laws.Strings
import Derived.Lib.BufferRead
set_option linter.unusedVariables false
set_option linter.unusedSimpArgs false
namespace Go.bI
open Go.RowKit
def pX (s:ByteArray) (i:Nat):Int:=((s.data.toList.getD i 0).toNat:Int)
theorem NV (s:ByteArray) (i:Nat):0<=pX s i/\pX s i<256:=by
 unfold pX;have:=(s.data.toList.getD i 0).toNat_lt;omega
def strOf (n:Nat) (f:Nat->Int):ByteArray:=⟨((List.range n).map fun i=>UInt8.ofNat (f i).toNat).toArray⟩
@[simp] theorem afu (n:Nat) (f:Nat->Int):(strOf n f).size=n:=by simp[strOf,ByteArray.size]
theorem NU (n:Nat) (f:Nat->Int):(strOf n f).data.toList=(List.range n).map fun i=>UInt8.ofNat (f i).toNat:=by simp[strOf]
theorem QG {n:Nat} {f:Nat->Int} {i:Nat} (hi:i<n) (h:0<=f i/\f i<256):pX (strOf n f) i=f i:=by
 unfold pX;rw[NU,Na,List.getElem?_map,List.getElem?_range hi];simp;omega
variable {P : Program} {a : Act} {w : World} {o : Oper}
theorem Et {T:TypeId} {x y:Operand} {s:ByteArray} {k:IntKind} {p:Int} (ho:o.op=.index T x y) (hx:a.eval x=.string s) (hy:a.eval y=.int k p) (hu:P.underlying T=some .string) (h0:0<=p) (h1:p<s.size):
  (execOp a.eval o).run P w=.ok (.value (.int .u8 (pX s p.toNat))) w:=by
 have e:pX s p.toNat=((s[p.toNat]'aH).toNat:Int):=by
  unfold pX;rw[Na,kP (by simpa using (show p.toNat<s.size by omega))]
  rfl
 unfold execOp;simp only[ho,hx,hy,uV,run_index_string w T s k p hu,dif_pos (show 0<=p/\p<s.size from⟨h0,h1⟩),vS,wL];rw[e]
theorem zR {x:Operand} {T:TypeId} {s:ByteArray} (ho:o.op=.call { callee:=.builtin .len,args:=#[x],argTypes:=#[T] }) (hx:a.eval x=.string s) (hu:P.underlying T=some .string):
  (execOp a.eval o).run P w=.ok (.value (.int .i64 (s.size:Int))) w:=by
 unfold execOp;simp only[ho,resolve,invoke,builtin,uV,wL,vS,vT,List.map_cons,List.map_nil,hx,run_len_string w T o.type s hu]
 rfl
theorem sU {src dst e:TypeId} {x:Operand} {v:Value} {n:Nat} {f:Nat->Int} (ho:o.op=.convert src dst x) (hx:a.eval x=v) (hv:Rd .u8 w v n f) (hs:P.underlying src=some (.slice e)) (he:P.underlying e=some (.int .u8)) (hd:P.underlying dst=some .string) (hb:∀i,i<n->0<=f i/\f i<256):
  (execOp a.eval o).run P w=.ok (.value (.string (strOf n f))) w:=by
 have key:(convert src dst v).run P w=.ok (.string (strOf n f)) w:=by
  obtain⟨ad,c,rfl,h1,h2,h3,h4⟩:=hv;by_cases hn:n=0
  ·subst hn
   cases ad with
   | none=>rw[Go.Lib.run_convert_nil_bytes w src dst e c hs he hd];rfl
   | some p=>
    have:=Go.run_convert_bytes_back (P:=P) w src dst e p c [] hs he hd (fun j hj=>by simp at hj)
    simpa [strOf] using this
  ·obtain⟨b,of,rfl,hlt,hc⟩:=h4 aH;have:=Go.run_convert_bytes_back (P:=P) w src dst e ⟨b,of,none⟩ c ((List.range n).map fun i=>UInt8.ofNat (f i).toNat) hs he hd (fun j hj=>by
    have hj':j<n:=by simpa using hj
    rw[show (⟨b,of,none⟩:Addr).add j=⟨b,of+j,none⟩ from by unfold Addr.add;split<;> simp_all,hc j hj'];simp;have:=hb j hj';omega)
   simpa [strOf] using this
 unfold execOp;simp only[ho,hx,uV,key,vS,wL]
theorem QL {T U:TypeId} {x y:Operand} {k:IntKind} {p q:Int} (ho:o.op=.binOp .geq T x y U) (hx:a.eval x=.int k p) (hy:a.eval y=.int k q):(execOp a.eval o).run P w=.ok (.value (.bool (decide (q<=p)))) w:=by
 unfold execOp;simp only[ho,hx,hy];simp[go_sem,binOp,Op.intCmp,eqGuard]
end Go.bI
