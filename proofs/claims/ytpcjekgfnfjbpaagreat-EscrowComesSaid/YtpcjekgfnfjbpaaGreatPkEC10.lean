/- Part 10 of EscrowComes; conditions: in each theorem. -/
import Derived.Test.YtpcjekgfnfjbpaaGreatPkEC7
import Derived.Test.YtpcjekgfnfjbpaaGreatPkEC3
import Derived.Test.YtpcjekgfnfjbpaaGreatPkEC9
set_option linter.unusedVariables false
set_option linter.unusedSimpArgs false
namespace Go.bI
open Go.RowKit Go.ChangeShapes Go.WideShapes Go.ChangeAt
def Rz (P:Program) (S:TypeId) (j:Nat):Option (Nat × Option Nat):=
 match P.underlying S with
 | some (.struct fs)=>(fs[j]?).map fun F=>(F.offset,(P.info? F.type).map (·.size))
 | _=>none
theorem bB {P:Program} {o:Oper} {a:Act} {w:World} {S:TypeId} {x:Operand} {j b off k m:Nat} (ho:o.op=.fieldAddr S x j) (hx:a.eval x=.pointer (some ⟨b,off,none⟩)) (hf:Rz P S j=some (k,some (m+1))):
  (execOp a.eval o).run P w=.ok (.value (.pointer (some ⟨b,off+k,none⟩))) w:=by
 unfold Rz at hf
 split at hf
 ·rename_i fs hu
  cases hF:fs[j]? with
  | none=>simp[hF] at hf
  | some F=>
   simp only[hF,Option.map_some,Zqk,Prod.mk.injEq] at hf;obtain⟨h1,h2⟩:=hf
   cases hq:P.info? F.type with
   | none=>simp[hq] at h2
   | some q=>
    have hs:q.size=m+1:=by simpa [hq] using h2
    unfold execOp;simp only[ho,hx];simp[Instr.fieldAt,Instr.sureAddr,fieldPlace,run_underlying hu,uV,sizeOf,typeInfo,hq,hs,hF,go_sem,Addr.add_mid,h1]
 ·simp at hf
theorem kJ {P:Program} {o:Oper} {a:Act} {w:World} {T e:TypeId} {x:Operand} {k:IntKind} {b off n:Nat} {f:Nat->Int} (ho:o.op=.load T x) (hx:a.eval x=.pointer (some ⟨b,off,none⟩))
  (hu:P.underlying T=some (.array n e)) (hi:(P.info? T).map (·.size)=some n) (hc:∀i,i<n->w.cell? ⟨b,off+i,none⟩=some (.int k (f i))):
  (execOp a.eval o).run P w=.ok (.value (.agg (arr k n f))) w:=by
 unfold execOp;simp only[ho,hx,Instr.loadAt,Instr.sureAddr,uV,wL,vS,run_loadVar_mid (P:=P) w b off T (vals k n f) _ (wh hc) hu rfl (by rw[hi,dH])]
 rfl
section
variable {H : Type} {enc : TypeId × Value -> H} {P : Program} {w : World} {base : Nat} {spare : Nat -> Bool} {held : Bool}
def fieldsB (P:Program) (t:TypeId):Option (List (Nat × TypeId)):=
 match P.underlying t with
 | some (.struct fs)=>some (fs.toList.map fun F=>(F.offset,F.type))
 | _=>none
end
theorem lD {P:Program} {o:Oper} {a:Act} {w:World} {T e:TypeId} {x:Operand} {ad:Option Addr} {n len cap:Nat} (ho:o.op=.sliceToArrayPointer T x) (hx:a.eval x=.slice ad len cap) (hu:P.underlying T=some (.array n e)) (hl:n<=len):
  (execOp a.eval o).run P w=.ok (.value (.pointer ad)) w:=by
 unfold execOp;simp only[ho,hx,uV,lN hu hl,vS,wL]
section
variable {H : Type} {enc : TypeId × Value -> H} {P : Program} {w : World} {base : Nat} {spare : Nat -> Bool} {held : Bool}
theorem XJ {t t1 t2 e:TypeId} {v:Value} {d:DataW H} {p:List MemPlace}
  (hf:fieldsB P t=some [(0,t1),(1,t2)]) (hn:P.cellsOf t=33)
  (h1:P.underlying t1=some .bool) (h2:P.underlying t2=some (.array 32 e)) (he:P.underlying e=some (.int .u8)) (hc:P.cellsOf e=1)
  (n1:P.cellsOf t1=1) (n2:P.cellsOf t2=32)
  {b0:Nat} (hv:Value.okWide P w .any b0 t v) (h:DataW.Trod enc P w base spare held t v d p):
  ∃b f,v=.agg (.bool b::vals .u8 32 f).toArray/\(∀i,i<32->(Lit.int .u8 (f i)).wf=true):=by
 unfold fieldsB at hf
 split at hf
 ·rename_i fs ht
  simp only[Zqk] at hf;have hl2:fs.size=2:=by have:=congrArg List.length hf;simpa using this
  have g:∀j (h:j<fs.size),(fs.toList.map fun F=>(F.offset,F.type))[j]? =some (fs[j].offset,fs[j].type):=fun j h=>by simp[h]
  rw[hf] at g;have o0:=g 0 aH;have o1:=g 1 aH;simp at o0 o1;unfold Value.okWide at hv;simp only[ht] at hv;obtain⟨cs,rfl,_,_⟩:=hv;obtain⟨fuel,hf2⟩:=h;simp only[Value.cells] at hf2;obtain⟨xs,n,rfl,_,hl,hx,hi⟩:=DataW.trod_struct ht hf2;rw[hn] at hl;rw[hl2] at hx;have q0:=hi 0 _ (Array.getElem?_eq_getElem aH);have q1:=hi 1 _ (Array.getElem?_eq_getElem aH);rw[<-o0.1,←o0.2,n1,kP aH] at q0;rw[<-o1.1,←o1.2,n2,kP aH] at q1;obtain⟨f,hk,wk⟩:=BN h2 he hc n2 q1;obtain⟨b,hb,_⟩:=DataW.trod_bool h1 q0;refine⟨b,f,?_,wk⟩
  congr 1
  rw[<-Array.toList_inj];simp only[List.toList_toArray] at *;rw[<-hk]
  generalize cs.toList=l at *
  apply List.ext_getElem?
  intro i
  cases i with
  | zero=>
   have:=congrArg (fun l:List Value=>l[0]?) hb
   simpa [List.getElem?_take,List.getElem?_drop] using this
  | succ i=>
   rw[List.getElem?_cons_succ,List.getElem?_take,List.getElem?_drop];by_cases hi:i<32
   ·rw[if_pos hi,Nat.add_comm]
   ·rw[if_neg hi,List.getElem?_eq_none aH]
 ·simp at hf
end
end Go.bI
