/- Part 14 of EscrowComes; conditions: in each theorem. -/
import Derived.Test.YtpcjekgfnfjbpaaGreatPkEC3
import Derived.Test.YtpcjekgfnfjbpaaGreatPkEC6
import Derived.ChangeMaps5
import Derived.Deep.Slices
import Derived.Deep.Strs
set_option linter.unusedVariables false
set_option linter.unusedSimpArgs false
namespace Go.bI
open Go.RowKit Go.ChangeShapes Go.WideShapes Go.ChangeAt
def Ns (w:World) (v:Value) (m c:Nat) (q:Nat->Nat->Value):Prop:=
 ∃a cap,v=.slice a m cap/\m<=cap/\cap<=9223372036854775807/\(0<m->∃b o,a=some ⟨b,o,none⟩/\b<w.heap.size/\∀j,j<m->∀i,i<c->w.cell? ⟨b,o+j * c+i,none⟩=some (q j i))
theorem Ns.below {w w':World} {v:Value} {m c:Nat} {q:Nat->Nat->Value} (h:Ns w v m c q) (hb:Below w.heap.size w w'):Ns w' v m c q:=by
 obtain⟨a,cap,rfl,h1,h2,h3⟩:=h;refine⟨a,cap,rfl,h1,h2,fun hm=>?_⟩;obtain⟨b,o,rfl,hlt,hc⟩:=h3 hm;have:=hb.size;exact⟨b,o,rfl,by omega,fun j hj i hi=>(hb.cell (p:=⟨b,o+j * c+i,none⟩) hlt).trans (hc j hj i hi)⟩
section
variable {H : Type} {enc : TypeId × Value -> H} {P : Program} {w : World} {base : Nat} {spare : Nat -> Bool} {held : Bool}
theorem XL {t e:TypeId} {c:Nat} {v:Value} {d:DataW H} {p:List MemPlace} (ht:P.underlying t=some (.slice e)) (hc:P.cellsOf e=c) (hc0:0<c)
  {b0:Nat} (hv:Value.okWide P w .any b0 t v) (h:DataW.Trod enc P w base spare held t v d p):
  ∃m q,Ns w v m c q/\∀j,j<m->∃fuel y,DataW.trod enc P w base spare held fuel e ((List.range c).map (q j))=some y:=by
 obtain⟨a,len,cap,rfl⟩:=okWide_slice ht hv;obtain⟨fuel,hf⟩:=h;rcases Go.Deep.open_slice ht hf with⟨hcs,_⟩ | ⟨ad,l,c',m,n,D,Pl,hcs',_,hl,hm,hmm,_,hel⟩
 ·simp[Value.cells] at hcs;obtain⟨rfl,rfl,rfl⟩:=hcs;exact⟨0,fun _ _=>undef,⟨none,0,rfl,bH _,by omega,fun h=>by omega⟩,fun j hj=>by omega⟩
 ·simp[Value.cells] at hcs';obtain⟨rfl,rfl,rfl⟩:=hcs';unfold maxLen at hm;have hle:len<=m:=by rw[hmm];split<;> omega
  have each:∀j,j<len->∃cs':List Value,cs'.length=c/\(∀i,i<c->w.cell? (ad.add (j * c+i))=cs'[i]?)/\∃y,DataW.trod enc P w base spare held n e cs'=some y:=by
   intro j hj;obtain⟨cs',hce,htr⟩:=hel j aH;rw[hc] at hce;obtain⟨_,hl1,hat⟩:=World.cells?_some hce;refine⟨cs',hl1,fun i hi=>?_,_,htr⟩;rw[<-hat i hi,Go.Deep.add_add]
  classical
  by_cases hn:0<len
  ·obtain⟨c0,hl0,apx,_⟩:=each 0 hn;have h0:=apx 0 hc0;rw[kP aH] at h0;obtain⟨b,o,sp⟩:=ad;have hsp:sp=none:=by simpa [Addr.add] using World.cell?_spot h0
   subst hsp;have hadd:∀i,(⟨b,o,none⟩:Addr).add i=⟨b,o+i,none⟩:=fun i=>by unfold Addr.add;split<;> simp_all
   refine⟨len,fun j i=>if h:j<len then (Classical.choose (each j h)).getD i undef else undef,⟨_,_,rfl,hl,by omega,fun _=>⟨b,o,rfl,?_,fun j hj i hi=>?_⟩⟩,fun j hj=>?_⟩
   ·have:=World.block_lt_of_cell? w _ h0
    simpa [hadd] using this
   ·have hs:=Classical.choose_spec (each j hj);have h1:=hs.2.1 i hi;rw[hadd,←Nat.add_assoc] at h1;rw[h1]
    dsimp only
    rw[dif_pos hj,Na,kP (by rw[hs.1];exact hi)]
    rfl
   ·have hs:=Classical.choose_spec (each j hj);obtain⟨y,hy⟩:=hs.2.2;refine⟨n,y,?_⟩;rw[<-hy]
    congr 1
    apply List.ext_getElem?
    intro i;by_cases hi:i<c
    ·rw[List.getElem?_map,List.getElem?_range hi,Option.map_some]
     dsimp only
     rw[dif_pos hj,Na,kP (by rw[hs.1];exact hi)]
     rfl
    ·rw[List.getElem?_eq_none iU,List.getElem?_eq_none (by rw[hs.1];omega)]
  ·obtain rfl:len=0:=by omega
   exact⟨0,fun _ _=>undef,⟨_,_,rfl,by omega,by omega,fun h=>absurd h hn⟩,fun j hj=>by omega⟩
end
end Go.bI
