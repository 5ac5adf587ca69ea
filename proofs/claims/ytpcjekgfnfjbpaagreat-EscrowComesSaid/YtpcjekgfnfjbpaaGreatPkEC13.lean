/- Part 13 of EscrowComes; conditions: in each theorem. -/
import Derived.Test.YtpcjekgfnfjbpaaGreatPkEC2
import Derived.Maps.OwnSet
import Derived.Maps.Views
set_option linter.unusedVariables false
set_option linter.unusedSimpArgs false
namespace Go.bI
open Go.RowKit
open Go.Maps (Keyed)
def uw (P:Program) (k e:TypeId) (w:World) (b n:Nat) (key val:Nat->Value):Prop:=
 ∃D:DataW Unit,w.ownsMap P k (plainElem P e) b n D/\
  (∀i,i<n->∃kl d ps,keyOf P k (key i)=some kl/\plainElem (H:=Unit) P e (val i)=some (d,ps)/\Maps.has D kl=true/\∀z,D.atKey kl z=d)/\
  ∀v kl,keyOf P k v=some kl->(∀i,i<n->key i≠v)->Maps.has D kl=false
variable {P : Program} {k e t : TypeId} {w w' : World} {b n : Nat} {key val : Nat -> Value}
theorem mQ {v v':Value} {d:DataW Unit} {ps ps':List MemPlace} (h:plainElem P e v=some (d,ps)) (h':plainElem P e v'=some (d,ps')):v=v':=by
 unfold plainElem at h h'
 split at h
 ·rename_i he
  rw[he] at h';cases v'<;> simp at h'
  cases h
  obtain⟨h',_⟩:=h';simp at h';rw[h']
 ·rename_i he
  rw[he] at h';cases v'<;> simp at h'
  simp at h;obtain⟨⟨rfl,_⟩,rfl,_⟩:=h;obtain⟨⟨rfl,_⟩,h2,_⟩:=h';simp at h2;rw[h2]
 ·rename_i s he
  rw[he] at h';cases v'<;> simp at h'
  rename_i s'
  simp at h;obtain⟨_,rfl,_⟩:=h;obtain⟨_,h2,_⟩:=h';simp only[DataW.lit.injEq,Lit.string.injEq] at h2;have h3:s'.data=s.data:=Array.toList_inj.1 h2;cases s;cases s';simp at h3;rw[h3]
 ·cases h
theorem uw.lt (h:uw P k e w b n key val):b<w.heap.size:=by obtain⟨D,h,_⟩:=h;exact h.lt
theorem uw.heap (h:uw P k e w b n key val) (hb:w'.heap[b]? =w.heap[b]?):uw P k e w' b n key val:=by
 obtain⟨D,⟨es,clock,h1,h2⟩,h3⟩:=h;exact⟨D,⟨es,clock,hb.trans h1,h2⟩,h3⟩
theorem uw.alloc (h:uw P k e w b n key val) (o:Obj):uw P k e (w.alloc o) b n key val:=h.heap (Below.heap_alloc _ _ _ h.lt)
theorem uw.congr {key' val':Nat->Value} (h:uw P k e w b n key val) (hk:∀i,i<n->key' i=key i/\val' i=val i):uw P k e w b n key' val':=by
 obtain⟨D,h1,h2,h3⟩:=h;refine⟨D,h1,fun i hi=>?_,fun v kl hv gW=>h3 v kl hv fun i hi=>?_⟩
 ·rw[(hk i hi).1,(hk i hi).2];exact h2 i hi
 ·rw[<-(hk i hi).1];exact gW i hi
theorem uw.made (P:Program) (k e:TypeId) (w:World) (key val:Nat->Value):uw P k e (w.alloc (.map #[] 0)) w.heap.size 0 key val:=
 ⟨_,World.ownsMap_made w P k _,fun i hi=>by omega,fun _ _ _ _=>rfl⟩
theorem uw.Lu (h:uw P k e w b n key val) (K:Keyed P k) (ht:P.underlying t=some (.map k e)) {z:Value} (hz:(zeroValue e).run P w=.ok z w) {zd:DataW Unit} {zp:List MemPlace} (hzd:plainElem P e z=some (zd,zp)) (i:Nat) (hi:i<n):
  (Instr.lookup t (.map (some b)) (key i) true).run P w=.ok (.tuple #[val i,.bool true]) w/\(Instr.lookup t (.map (some b)) (key i) false).run P w=.ok (val i) w:=by
 obtain⟨D,h1,h2,_⟩:=h;obtain⟨kl,d,ps,hk,hv,hh,hat⟩:=h2 i hi
 constructor
 ·obtain⟨v,ps',hrun,hR⟩:=h1.look_ok K ht hz hzd hk;rw[hat] at hR;rw[hrun,hh,mQ hR hv]
 ·obtain⟨v,ps',hrun,hR⟩:=h1.lookup K ht hz hzd hk;rw[hat] at hR;rw[hrun,mQ hR hv]
theorem uw.Rj (h:uw P k e w b n key val) (K:Keyed P k) (ht:P.underlying t=some (.map k e)) {z:Value} (hz:(zeroValue e).run P w=.ok z w) {zd:DataW Unit} {zp:List MemPlace} (hzd:plainElem P e z=some (zd,zp)) {v:Value} {kl:Lit} (hk:keyOf P k v=some kl) (gW:∀i,i<n->key i≠v):
  (Instr.lookup t (.map (some b)) v true).run P w=.ok (.tuple #[z,.bool false]) w/\(Instr.lookup t (.map (some b)) v false).run P w=.ok z w:=by
 obtain⟨D,h1,_,h3⟩:=h;have hh:=h3 v kl hk gW
 constructor
 ·obtain⟨u,ps',hrun,hR⟩:=h1.look_ok K ht hz hzd hk;rw[Maps.atKey_of_not_has hh] at hR;rw[hrun,hh,mQ hR hzd]
 ·obtain⟨u,ps',hrun,hR⟩:=h1.lookup K ht hz hzd hk;rw[Maps.atKey_of_not_has hh] at hR;rw[hrun,mQ hR hzd]
theorem uw.put (h:uw P k e w b n key val) (K:Keyed P k) (ht:P.underlying t=some (.map k e)) (hn:n<maxLen) {key' val':Nat->Value} {v u:Value} {kl:Lit} {d:DataW Unit} {ps:List MemPlace} (hk:keyOf P k v=some kl) (hu:plainElem P e u=some (d,ps)) (gW:∀i,i<n->key i≠v)
  (hk':∀i,i<n->key' i=key i/\val' i=val i) (hn':key' n=v/\val' n=u):
  ∃w',(Instr.mapUpdate t (.map (some b)) v u).run P w=.ok () w'/\uw P k e w' b (n+1) key' val'/\w.grownBy w' (some b):=by
 obtain⟨D,h1,h2,h3⟩:=h;obtain⟨w',hrun,r1,r2⟩:=h1.update K ht hn hk hu;have hkey:=K.key hk;have hmap:=h1.isMap;refine⟨w',hrun,⟨_,r1,fun i hi=>?_,fun v' kl' hv' hne'=>?_⟩,r2⟩
 ·by_cases he:i=n
  ·subst he;rw[hn'.1,hn'.2];exact⟨kl,d,ps,hk,hu,Maps.has_put_same hmap hkey d,fun z=>Maps.atKey_put_same hmap hkey d z⟩
  ·have hi':i<n:=by omega
   rw[(hk' i hi').1,(hk' i hi').2];obtain⟨kl2,d2,ps2,q1,q2,q3,q4⟩:=h2 i hi';have hkk:kl2≠kl:=fun e=>by
    subst e;exact gW i hi' (K.inj q1 hk)
   exact⟨kl2,d2,ps2,q1,q2,by rw[Maps.has_put_other hkk];exact q3,fun z=>by rw[Maps.atKey_put_other hkk];exact q4 z⟩
 ·have hkk:kl'≠kl:=fun e=>by
   subst e;exact hne' n aH (hn'.1.trans (K.inj hk hv'))
  rw[Maps.has_put_other hkk];exact h3 v' kl' hv' fun i hi=>by rw[<-(hk' i hi).1];exact hne' i aH
end Go.bI
