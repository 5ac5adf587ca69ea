/-
  Part 16 of the texts that the proof of EscrowWrong rests on, one after the other. Conditions: named in each theorem.
-/
import Derived.Test.YtpcjekgfnfjbpaaGreatPkEscrowWrong4
import Derived.Laws.BytesArg
import Derived.Laws.Strings
import Derived.Lib.BufferRead
set_option linter.unusedVariables false
set_option linter.unusedSimpArgs false
namespace Go.aG
open Go.RowKit
def mD (s:ByteArray) (i:Nat):Int:=((s.data.toList.getD i 0).toNat:Int)
def strOf (n:Nat) (f:Nat→Int):ByteArray:=⟨((List.range n).map fun i=> UInt8.ofNat (f i).toNat).toArray⟩
@[simp] theorem zq (n:Nat) (f:Nat→Int):(strOf n f).size=n:=by simp [strOf,ByteArray.size]
theorem qg (n:Nat) (f:Nat→Int):(strOf n f).data.toList=(List.range n).map fun i=> UInt8.ofNat (f i).toNat:=by simp [strOf]
theorem rA {n:Nat} {f:Nat→Int} {i:Nat} (hi:i<n) (h:0≤f i∧f i<256):mD (strOf n f) i=f i:=by
 unfold mD
 rw [qg,List.getD_eq_getElem?_getD,List.getElem?_map,List.getElem?_range hi]
 simp
 omega
variable {P : Program} {a : Act} {w : World} {o : Oper}
theorem cK {T:TypeId} {x y:Operand} {s:ByteArray} {k:IntKind} {p:Int} (ho:o.op=.index T x y) (hx:a.eval x=.string s) (hy:a.eval y=.int k p) (hu:P.underlying T=some .string) (h0:0≤p) (h1:p<s.size):
  (execOp a.eval o).run P w=.ok (.value (.int .u8 (mD s p.toNat))) w:=by
 have e:mD s p.toNat=((s[p.toNat]'(by omega)).toNat:Int):=by
  unfold mD
  rw [List.getD_eq_getElem?_getD,List.getElem?_eq_getElem (by simpa using (show p.toNat<s.size by omega))]
  rfl
 unfold execOp
 simp only [ho,hx,hy,Sem.run_bind,run_index_string w T s k p hu,dif_pos (show 0≤p∧p<s.size from ⟨h0,h1⟩),Result.andThen_ok,Sem.run_pure]
 rw [e]
theorem fH {src dst e:TypeId} {x:Operand} {v:Value} {n:Nat} {f:Nat→Int} (ho:o.op=.convert src dst x) (hx:a.eval x=v) (hv:Rd .u8 w v n f) (hs:P.underlying src=some (.slice e)) (he:P.underlying e=some (.int .u8)) (hd:P.underlying dst=some .string) (hb:∀i,i<n→0≤f i∧f i<256):
  (execOp a.eval o).run P w=.ok (.value (.string (strOf n f))) w:=by
 have key:(convert src dst v).run P w=.ok (.string (strOf n f)) w:=by
  obtain ⟨ad,c,rfl,h1,h2,h3,h4⟩:=hv
  by_cases hn:n=0
  ·subst hn
   cases ad with
   | none=> rw [Go.Lib.run_convert_nil_bytes w src dst e c hs he hd];rfl
   | some p=>
    have:=Go.run_convert_bytes_back (P:=P) w src dst e p c [] hs he hd (fun j hj=> by simp at hj)
    simpa [strOf] using this
  ·obtain ⟨b,of,rfl,hlt,hc⟩:=h4 (by omega)
   have:=Go.run_convert_bytes_back (P:=P) w src dst e ⟨b,of,none⟩ c ((List.range n).map fun i=> UInt8.ofNat (f i).toNat) hs he hd (fun j hj=> by
    have hj':j<n:=by simpa using hj
    rw [show (⟨b,of,none⟩:Addr).add j=⟨b,of+j,none⟩ from by unfold Addr.add;split<;> simp_all,hc j hj']
    simp
    have:=hb j hj'
    omega)
   simpa [strOf] using this
 unfold execOp
 simp only [ho,hx,Sem.run_bind,key,Result.andThen_ok,Sem.run_pure]
end Go.aG
