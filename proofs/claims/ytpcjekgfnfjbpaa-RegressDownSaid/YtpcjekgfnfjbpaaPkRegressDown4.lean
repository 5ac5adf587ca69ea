/-
  Part 4 of the texts that the proof of RegressDown rests on, one after the other. Conditions: named in each theorem.
-/
import Derived.BigQuiet
import Derived.Deep.QuietTactic
import Derived.Lib.Hide
import Derived.Test.YtpcjekgfnfjbpaaKit
import Derived.WalkKit
import Derived.WalkLawsBesides
import Derived.WalkSmall
import Derived.WalkSpells
set_option linter.unusedVariables false
set_option linter.unusedSimpArgs false
namespace Go.Bas
end Go.Bas
namespace Go.Bas
end Go.Bas
namespace Go.Bas
end Go.Bas
namespace Go.Bas
open Go.RowKit
def Placed (w:World) (v v':Value):Prop:=v'.ownBlock=v.ownBlock∨∀b,v'.ownBlock=some b→w.heap.size≤b
theorem run_append_place {P:Program} (w:World) (base:Nat) (t ty e:TypeId) (i:TypeInfo) (z:Value) (size bytes:Nat) (ht:P.underlying t=some (.slice e)) (hi:P.info? e=some i) (hz:i.zero=some z)
  (hsize:i.size=size) (hby:i.bytes=bytes) (hzs:z.cells.size=size) (hsz:0<size)
  (v:Value) (n:Nat) (xs:List Value) (hown:w.ownsRow base e size v n xs)
  (a:Addr) (m c:Nat) (news:List Value) (hl:news.length=m * size) (hnews:∀j u,news[j]? =some u→w.cell? (a.add j)=some u) (h1:∀u ∈ news,u.oneCell'=true)
  (h63:n+m≤maxLen) (hbytes:(n+m) * bytes≤140737488355328) (v':Value) (w':World) (hrun:(Builtin.append_ #[t,t] ty #[v,.slice (some a) m c]).run P w=.ok v' w'):Placed w v v':=by
 subst hsize
 subst hby
 have hsmall:n+m≤9223372036854775807:=by simp only [maxLen] at h63;omega
 rcases hown.2 with ⟨rfl,rfl⟩ | ⟨g,cap,cur,rfl,hbg,hg,hnc,hcm,hcs,htake⟩
 ·have hx:xs= [] :=List.eq_nil_of_length_eq_zero (by simpa using hown.1)
  subst hx
  by_cases hm:m=0
  ·subst hm
   have hn:news= [] :=List.eq_nil_of_length_eq_zero (by simpa using hl)
   subst hn
   have hr:(Builtin.append_ #[t,t] ty #[.slice none 0 0,.slice (some a) 0 c]).run P w=.ok (.slice none 0 0) w:=by
    simp [Builtin.append_,run_underlying ht,sizeOf,typeInfo,hi,Builtin.lenOf,Builtin.firstCells,loadCells,loadCellsFrom]
   rw [hr] at hrun
   cases hrun
   exact .inl rfl
  ·have hr:=run_append_nil (P:=P) w t ty e i z ht hi hz a m c news hl hnews (by omega) (by omega) (by have hb:=hbytes;simp only [Nat.zero_add] at hb;omega)
   rw [hr] at hrun
   cases hrun
   refine .inr fun b hb=> ?_
   simp [Value.ownBlock] at hb
   omega
 ·by_cases hroom:n+m≤cap
  ·have hfit:n * i.size+news.length≤cur.size:=by rw [hl,hcs,←Nat.add_mul];exact Nat.mul_le_mul_right _ hroom
   have hr:=run_append_room (P:=P) w t ty e i ht hi g n cap cur hg a m c news hl hnews h1 hroom hfit
   rw [hr] at hrun
   cases hrun
   exact .inl rfl
  ·have holds:∀j u,xs[j]? =some u→w.cell? ((⟨g,0,none⟩:Addr).add j)=some u:=hown.cells (g:=g) rfl
   have hr:=run_append_grow (P:=P) w t ty e i z ht hi hz ⟨g,0,none⟩ n cap xs hown.1 holds a m c news hl hnews (by omega) (by omega) (growslice_fits (by omega) hbytes)
   rw [hr] at hrun
   cases hrun
   refine .inr fun b hb=> ?_
   simp [Value.ownBlock] at hb
   omega
end Go.Bas
namespace Go.Bas
end Go.Bas
namespace Go.Bas
open Go.RowKit
def OwnAt (k:IntKind) (e:TypeId) (base:Nat) (w:World) (v:Value) (n:Nat) (f:Nat→Int):Prop:=
 (v=.slice none 0 0∧n=0)∨∃g o c cur,v=.slice (some ⟨g,o,none⟩) n c∧base≤g∧w.heap[g]? =some (.cells cur e (0,0))∧n≤c∧c≤9223372036854775807∧o+c≤cur.size∧(cur.toList.drop o).take n=vals k n f
variable {k : IntKind} {e : TypeId} {base : Nat} {w w' : World} {v : Value} {n : Nat} {f g : Nat → Int}
theorem OwnAt.nil (k:IntKind) (e:TypeId) (base:Nat) (w:World) (f:Nat→Int):OwnAt k e base w (.slice none 0 0) 0 f:=.inl ⟨rfl,rfl⟩
theorem OwnAt.rd (h:OwnAt k e base w v n f):Rd k w v n f:=by
 rcases h with ⟨rfl,rfl⟩ | ⟨g,o,c,cur,rfl,hb,hg,hn,hc,hs,ht⟩
 ·exact Rd.nil _ _ _
 ·refine ⟨_,_,rfl,hn,hc,(fun h=> by cases h),fun _=> ⟨g,o,rfl,(Array.getElem?_eq_some_iff.1 hg).1,fun i hi=> ?_⟩⟩
  rw [cell_of_row w g (o+i) cur e (0,0) hg]
  have:=vals_get (k:=k) (f:=f) hi
  rw [←ht,List.getElem?_take,if_pos hi,List.getElem?_drop] at this
  simpa using this
theorem OwnAt.congr (h:OwnAt k e base w v n f) (q:∀i,i<n→f i=g i):OwnAt k e base w v n g:=by
 unfold OwnAt at *
 rwa [vals_congr q] at h
theorem OwnAt.lt (h:OwnAt k e base w v n f):∀b,v.ownBlock=some b→base≤b∧b<w.heap.size:=by
 intro b hb
 rcases h with ⟨rfl,_⟩ | ⟨g,o,c,cur,rfl,hb',hg,_⟩
 ·simp [Value.ownBlock] at hb
 ·simp [Value.ownBlock] at hb
  subst hb
  exact ⟨hb',(Array.getElem?_eq_some_iff.1 hg).1⟩
theorem OwnAt.below (h:OwnAt k e base w v n f) (hb:Below w.heap.size w w'):OwnAt k e base w' v n f:=by
 rcases h with h | ⟨g,o,c,cur,rfl,hb',hgg,rest⟩
 ·exact .inl h
 ·refine .inr ⟨g,o,c,cur,rfl,hb',?_,rest⟩
  rw [hb.block g (Array.getElem?_eq_some_iff.1 hgg).1]
  exact hgg
theorem vals_drop (k:IntKind) (n lo:Nat) (f:Nat→Int):(vals k n f).drop lo=vals k (n - lo) (fun i=> f (lo+i)):=by
 apply List.ext_getElem?
 intro i
 rw [List.getElem?_drop]
 by_cases hi:lo+i<n
 ·rw [vals_get hi,vals_get (by omega)]
 ·have h1:(vals k n f)[lo+i]? =none:=by simp;omega
  have h2:(vals k (n - lo) (fun i=> f (lo+i)))[i]? =none:=by simp;omega
  rw [h1,h2]
theorem OwnAt.cut {b o c:Nat} (h:OwnAt k e base w (.slice (some ⟨b,o,none⟩) n c) n f) (lo:Nat) (hlo:lo≤n):
  OwnAt k e base w (.slice (if c=lo then some ⟨b,o,none⟩ else some ⟨b,o+lo,none⟩) (n - lo) (c - lo)) (n - lo) (fun i=> f (lo+i)):=by
 rcases h with ⟨h,_⟩ | ⟨g',o',c',cur,he,hb,hg,hn,hc,hs,ht⟩
 ·cases h
 ·simp only [Value.slice.injEq,Option.some.injEq,Addr.mk.injEq,and_true,true_and] at he
  obtain ⟨⟨rfl,rfl⟩,rfl⟩:=he
  by_cases hcl:c=lo
  ·subst hcl
   obtain rfl:n=c:=by omega
   rw [if_pos rfl,Nat.sub_self]
   exact .inr ⟨b,o,0,cur,rfl,hb,hg,Nat.le_refl _,by omega,by omega,by simp [vals]⟩
  ·rw [if_neg hcl]
   refine .inr ⟨b,o+lo,c - lo,cur,rfl,hb,hg,by omega,by omega,by omega,?_⟩
   rw [←vals_drop,←ht,List.drop_take,List.drop_drop]
theorem vals_one {x:Value} (h:x ∈ vals k n f):x.oneCell'=true:=by
 obtain ⟨_,_,rfl⟩:=List.mem_map.1 h
 rfl
theorem vals_add {m:Nat} (hf:∀i,i<m→f (n+i)=g i):vals k n f++vals k m g=vals k (n+m) f:=by
 unfold vals
 rw [List.range_add]
 simp only [List.map_append,List.map_map]
 congr 1
 exact List.map_congr_left fun i hi=> by simp [hf i (List.mem_range.1 hi)]
theorem addr_add (b o j:Nat):(⟨b,o,none⟩:Addr).add j=⟨b,o+j,none⟩:=by unfold Addr.add;split<;> simp_all
theorem OwnAt.whole (hb:base≤w.heap.size) {m c:Nat} (hmc:m≤c) (hc:c≤9223372036854775807) {cur:Array Value} (hs:cur.size=c) (ht:cur.toList.take m=vals k m f):
  OwnAt k e base (w.drew.alloc (.cells cur e)) (.slice (some ⟨w.heap.size,0,none⟩) m c) m f:=
 .inr ⟨w.heap.size,0,c,cur,rfl,hb,heap_alloc_new w.drew _,hmc,hc,by omega,by simpa using ht⟩
theorem run_append_at {P:Program} (w:World) (t ty e:TypeId) (k:IntKind) (bytes:Nat) (h1:P.underlying t=some (.slice e)) (hinfo:(P.info? e).map (fun i=> (i.zero,i.size,i.bytes))=some (some (.int k 0),1,bytes))
  (base:Nat) (v:Value) (n:Nat) (f:Nat→Int) (hown:OwnAt k e base w v n f) (u:Value) (m:Nat) (g:Nat→Int) (hrd:Rd k w u m g) (hf:∀i,i<m→f (n+i)=g i)
  (b2:(n+m) * bytes≤140737488355328) (b3:n+m≤9223372036854775807) (b4:base≤w.heap.size):
  ∃v' w',(Builtin.append_ #[t,t] ty #[v,u]).run P w=.ok v' w'∧OwnAt k e base w' v' (n+m) f∧w.grownBy w' v.ownBlock∧(0<n+m→v'≠.slice none 0 0):=by
 obtain ⟨i,hi,hz0,hz1,hz2⟩:=info_parts hinfo
 obtain ⟨ao,c,rfl,l1,l2,l3,l4⟩:=hrd
 have hvm:(vals k m g).length=m * i.size:=by rw [hz1];simp
 by_cases hm:m=0
 ·subst hm
  rcases hown with ⟨rfl,rfl⟩ | ⟨gg,o,c',cur,rfl,hb,hg,hn,hc,hs,ht⟩
  ·refine ⟨.slice none 0 0,w,?_,OwnAt.nil _ _ _ _ _,World.grownBy.refl _ _,fun h=> absurd h (by decide)⟩
   cases ao<;> simp [Builtin.append_,run_underlying h1,sizeOf,typeInfo,hi,Builtin.lenOf,Builtin.firstCells,loadCells,loadCellsFrom]
  ·refine ⟨.slice (some ⟨gg,o,none⟩) n c',w,?_,.inr ⟨gg,o,c',cur,rfl,hb,hg,hn,hc,hs,ht⟩,World.grownBy.refl _ _,fun _ h=> by cases h⟩
   cases ao<;> simp [Builtin.append_,run_underlying h1,sizeOf,typeInfo,hi,Builtin.lenOf,Builtin.firstCells,loadCells,loadCellsFrom,hn,storeCells]
 ·obtain ⟨b,of,rfl,_,hcell⟩:=l4 (by omega)
  have hnews:∀j x,(vals k m g)[j]? =some x→w.cell? ((⟨b,of,none⟩:Addr).add j)=some x:=by
   intro j x hx
   have hj:j<m:=by
    have:=(List.getElem?_eq_some_iff.1 hx).1
    simpa using this
   rw [addr_add,hcell j hj,←vals_get (k:=k) (f:=g) hj]
   exact hx
  have hnews1:∀x ∈ vals k m g,x.oneCell'=true:=fun x hx=> vals_one hx
  rcases hown with ⟨rfl,rfl⟩ | ⟨gg,o,c',cur,rfl,hb,hg,hn,hc,hs,ht⟩
  ·have hr:=run_append_nil (P:=P) w t ty e i _ h1 hi hz0 ⟨b,of,none⟩ m c (vals k m g) hvm hnews (by omega) (by omega) (by rw [hz2];simp only [Nat.zero_add] at b2;omega)
   have hge:=grownCap_ge w m 0 e
   have hcm:grownCap w m 0 e≤maxLen:=grownCap_le_maxLen w m 0 e (by unfold maxLen;omega)
   unfold maxLen at hcm
   rw [Nat.zero_add]
   refine ⟨_,_,hr,?_,⟨rfl,rfl,rfl,by simp,fun q hq _=> ((Below.refl w.heap.size w.drew).alloc (Nat.le_refl _) _).block q hq⟩,fun _ h=> by cases h⟩
   refine OwnAt.whole b4 hge (by omega) ?_ ?_
   ·have hz:(Value.int k 0).cells=#[.int k 0] :=rfl
    simp only [Array.size_append,List.size_toArray,size_zeroCells,hz,vals_length]
    simp;omega
   ·rw [Array.toList_append]
    have:vals k m f=vals k m g:=vals_congr fun i hi=> by have:=hf i hi;rwa [Nat.zero_add] at this
    rw [this]
    simp [List.take_append_of_le_length]
  ·by_cases hroom:n+m≤c'
   ·have hfm:=run_firstCells_some (P:=P) w i.size m ⟨b,of,none⟩ m c (vals k m g) hvm hnews
    have hst:=run_storeCells_at P gg (o+n) e (vals k m g) 0 cur w hg (by simp;omega) hnews1
    refine ⟨.slice (some ⟨gg,o,none⟩) (n+m) c',w.setRow gg (cur.toList.take (o+n)++vals k m g++cur.toList.drop (o+n+(vals k m g).length)).toArray,?_,?_,?_,fun _ h=> by cases h⟩
    ·simp only [Nat.add_zero] at hst
     simp [Builtin.append_,run_underlying h1,sizeOf,typeInfo,hi,Builtin.lenOf,hroom,hfm,hz1,addr_add]
     simp [hz1] at hfm
     simp [hfm,hst]
    ·refine .inr ⟨gg,o,c',_,rfl,hb,setRow_heap w gg cur _ e _ hg,hroom,hc,?_,?_⟩
     ·simp only [List.size_toArray,List.length_append,List.length_take,List.length_drop,Array.length_toList,vals_length]
      omega
     ·rw [←vals_add hf,←ht,List.append_assoc,List.drop_append_of_le_length (by simp;omega),List.drop_take]
      rw [show o+n - o=n by omega,←List.append_assoc]
      rw [List.take_append_of_le_length (by simp;omega),List.take_of_length_le (by simp;omega)]
    ·exact ⟨rfl,rfl,rfl,by simp,fun k _ hk=> setRow_other w gg k _ (fun e=> hk (by simp [Value.ownBlock,e]))⟩
   ·have holds:∀j x,(vals k n f)[j]? =some x→w.cell? ((⟨gg,o,none⟩:Addr).add j)=some x:=by
     intro j x hx
     have hj:j<n:=by
      have:=(List.getElem?_eq_some_iff.1 hx).1
      simpa using this
     rw [addr_add,cell_of_row w gg (o+j) cur e (0,0) hg]
     rw [←ht,List.getElem?_take,if_pos hj,List.getElem?_drop] at hx
     simpa using hx
    have hr:=run_append_grow (P:=P) w t ty e i _ h1 hi hz0 ⟨gg,o,none⟩ n c' (vals k n f) (by rw [hz1];simp) holds ⟨b,of,none⟩ m c (vals k m g) hvm hnews (by omega) (by omega) (growslice_fits (by omega) (by rw [hz2];exact b2))
    have hge:=grownCap_ge w (n+m) c' e
    have hcm:grownCap w (n+m) c' e≤maxLen:=grownCap_le_maxLen w (n+m) c' e (by unfold maxLen;omega)
    unfold maxLen at hcm
    refine ⟨_,_,hr,?_,⟨rfl,rfl,rfl,by simp,fun q hq _=> ((Below.refl w.heap.size w.drew).alloc (Nat.le_refl _) _).block q hq⟩,fun _ h=> by cases h⟩
    refine OwnAt.whole b4 hge (by omega) ?_ ?_
    ·have hz:(Value.int k 0).cells=#[.int k 0] :=rfl
     simp only [Array.size_append,List.size_toArray,size_zeroCells,hz,vals_length]
     simp;omega
    ·rw [Array.toList_append,Array.toList_append,←vals_add hf]
     rw [List.take_append_of_le_length (by simp),List.take_of_length_le (by simp)]
theorem wp_append_at {P:Program} {w:World} {o:Oper} {a:Act} {K:Act→World→Prop} {Q:Exit→Act→World→Prop}
  (s x:Operand) (t:TypeId) (hop:o.op=.call { callee:=.builtin .append,args:=#[s,x],argTypes:=#[t,t] })
  (base:Nat) (e:TypeId) (k:IntKind) (bytes:Nat)
  (h1:P.underlying t=some (.slice e)) (hinfo:(P.info? e).map (fun i=> (i.zero,i.size,i.bytes))=some (some (.int k 0),1,bytes))
  (v:Value) (n:Nat) (f:Nat→Int) (hown:OwnAt k e base w v n f) (hs:a.eval s=v)
  (u:Value) (m:Nat) (g:Nat→Int) (hrd:Rd k w u m g) (hx:a.eval x=u) (hf:∀i,i<m→f (n+i)=g i)
  (b2:(n+m) * bytes≤140737488355328) (b3:n+m≤9223372036854775807) (b4:base≤w.heap.size)
  (hK:∀v' w',OwnAt k e base w' v' (n+m) f→w.grownBy w' v.ownBlock→(0<n+m→v'≠.slice none 0 0)→K (a.put o.dst v') w'):
  o.wp P a w K Q:=by
 obtain ⟨v',w',hr,h2,h3,h4⟩:=run_append_at (P:=P) w t o.type e k bytes h1 hinfo base v n f hown u m g hrd hf b2 b3 b4
 unfold Oper.wp execOp
 simp only [hop,resolve,invoke,builtin,Sem.run_bind,Sem.run_pure,Result.andThen_ok,List.map_toArray,List.map_cons,List.map_nil,hs,hx,hr]
 exact hK v' w' h2 h3 h4
theorem append_at {P:Program} {w:World} {ops:Array Oper} {rest:List Oper} {o:Oper} {a:Act} {Q:Exit→Act→World→Prop}
  (hg:o.guard=none) (s x:Operand) (t:TypeId) (hop:o.op=.call { callee:=.builtin .append,args:=#[s,x],argTypes:=#[t,t] })
  (base:Nat) (e:TypeId) (k:IntKind) (bytes:Nat)
  (h1:P.underlying t=some (.slice e)) (hinfo:(P.info? e).map (fun i=> (i.zero,i.size,i.bytes))=some (some (.int k 0),1,bytes))
  (v:Value) (n:Nat) (f:Nat→Int) (hown:OwnAt k e base w v n f) (hs:a.eval s=v)
  (u:Value) (m:Nat) (g:Nat→Int) (hrd:Rd k w u m g) (hx:a.eval x=u) (hf:∀i,i<m→f (n+i)=g i)
  (b2:(n+m) * bytes≤140737488355328) (b3:n+m≤9223372036854775807) (b4:base≤w.heap.size)
  (hK:∀v' w',OwnAt k e base w' v' (n+m) f→w.grownBy w' v.ownBlock→(0<n+m→v'≠.slice none 0 0)→wpList P ops Q rest (a.put o.dst v') w'):
  wpList P ops Q (o::rest) a w:=
 wpList_plain hg fun _ hK'=> wp_append_at s x t hop base e k bytes h1 hinfo v n f hown hs u m g hrd hx hf b2 b3 b4 fun v' w' q1 q2 q3=> hK' _ _ (hK v' w' q1 q2 q3)
end Go.Bas
namespace Go.Bas
open Go.RowKit
theorem run_append_made {P:Program} (w:World) (t u ty e:TypeId) (k:IntKind) (bytes:Nat) (h1:P.underlying t=some (.slice e)) (hu:P.underlying u=some (.int .i64)) (hinfo:(P.info? e).map (fun i=> (i.zero,i.size,i.bytes))=some (some (.int k 0),1,bytes))
  (base:Nat) (g n c:Nat) (f:Nat→Int) (hown:Own k e base w (.slice (some ⟨g,0,none⟩) n c) n f) (m:Nat) (hc:c<n+m) (hf:∀i,i<m→f (n+i)=0)
  (b2:(n+m) * bytes≤140737488355328) (b3:n+m≤9223372036854775807) (b4:base≤w.heap.size):
  ∃v' w',(Builtin.append_ #[t,u] ty #[.slice (some ⟨g,0,none⟩) n c,.int .i64 (m:Int)]).run P w=.ok v' w'∧Own k e base w' v' (n+m) f∧w.grownBy w' none:=by
 obtain ⟨i,hi,hz0,hz1,hz2⟩:=info_parts hinfo
 have hcell:=hown.cells (g:=g) rfl
 have hlen:=hown.1
 have hnc:n≤c:=by
  rcases hown.2 with ⟨h,_⟩ | ⟨g',cap,cur,he,_,_,hn,_⟩
  ·cases h
  ·simp only [Value.slice.injEq,true_and] at he
   obtain ⟨_,rfl⟩:=he
   exact hn
 have hm0:0<m:=by omega
 have hn:¬ (n+m≤c):=by omega
 have h63':¬ (9223372036854775807<((n:Int)+(m:Int))):=by omega
 have hfit:Builtin.nextslicecap (n+m) c * i.bytes≤281474976710656:=growslice_fits (by omega) (by rw [hz2];exact b2)
 have h48':¬ (281474976710656<Builtin.nextslicecap (n+m) c * i.bytes):=by omega
 have hfo:=run_firstCells_some (P:=P) w.drew i.size n ⟨g,0,none⟩ n c (vals k n f) (by rw [hz1];simp) (by simpa using hcell)
 have hw:IntKind.i64.wrap (m:Int)=(m:Int):=wrap_i64_id (by omega) (by omega)
 have hneg:¬ ((m:Int)<0):=by omega
 have hmb:m * i.bytes≤140737488355328:=Nat.le_trans (Nat.mul_le_mul_right i.bytes (show m≤n+m by omega)) (by rw [hz2];exact b2)
 have hbig:¬ (281474976710656<(m:Int) * (i.bytes:Int)):=by
  rw [←Int.natCast_mul]
  omega
 have hge:=grownCap_ge w (n+m) c e
 have hcm:grownCap w (n+m) c e≤maxLen:=grownCap_le_maxLen w (n+m) c e (by unfold maxLen;omega)
 have hrun:(Builtin.append_ #[t,u] ty #[.slice (some ⟨g,0,none⟩) n c,.int .i64 (m:Int)]).run P w=
   .ok (.slice (some ⟨w.heap.size,0,none⟩) (n+m) (grownCap w (n+m) c e)) (w.drew.alloc (.cells ((vals k n f).toArray++Builtin.zeroCells (Value.int k 0).cells m++Builtin.zeroCells (Value.int k 0).cells (grownCap w (n+m) c e - (n+m))) e)):=by
  rw [hz1] at hfo
  have hmz:¬ m=0:=by omega
  simp [Builtin.append_,run_underlying h1,run_underlying hu,sizeOf,typeInfo,zeroValue,hi,hz0,hz1,asInt,asIntOf,hw,hneg,hbig,hn,h63',h48',Question.forced,hfo,hmz,newRow,grownCap]
 refine ⟨_,_,hrun,?_,⟨rfl,rfl,rfl,by simp,fun q hq _=> ((Below.refl w.heap.size w.drew).alloc (Nat.le_refl _) _).block q hq⟩⟩
 have hz:(Value.int k 0).cells=#[.int k 0] :=rfl
 have hvz:(Builtin.zeroCells (Value.int k 0).cells m).toList=vals k m (fun _=> 0):=by
  apply List.ext_getElem?
  intro j
  by_cases hj:j<m
  ·rw [vals_get hj];simp [Builtin.zeroCells,hz,hj,Nat.mod_one]
  ·simp [Builtin.zeroCells,hz,hj,vals]
 have hva:vals k n f++vals k m (fun _=> 0)=vals k (n+m) f:=by
  unfold vals
  rw [List.range_add]
  simp only [List.map_append,List.map_map]
  congr 1
  exact List.map_congr_left fun i hi=> by simp [hf i (List.mem_range.1 hi)]
 refine ⟨by simp,.inr ⟨w.heap.size,_,_,rfl,b4,heap_alloc_new w.drew _,hge,hcm,?_,?_⟩⟩
 ·simp only [Array.size_append,List.size_toArray,size_zeroCells,hz,vals_length]
  simp;omega
 ·rw [Array.toList_append,Array.toList_append,hvz,List.append_assoc]
  rw [←List.append_assoc]
  simp only [List.toList_toArray]
  rw [hva,List.take_append_of_le_length (by simp),List.take_of_length_le (by simp)]
theorem append_made {P:Program} {w:World} {ops:Array Oper} {rest:List Oper} {o:Oper} {a:Act} {Q:Exit→Act→World→Prop}
  (hg:o.guard=none) (s x:Operand) (t u:TypeId) (hop:o.op=.call { callee:=.builtin .append,args:=#[s,x],argTypes:=#[t,u] })
  (base:Nat) (e:TypeId) (k:IntKind) (bytes:Nat)
  (h1:P.underlying t=some (.slice e)) (hu:P.underlying u=some (.int .i64)) (hinfo:(P.info? e).map (fun i=> (i.zero,i.size,i.bytes))=some (some (.int k 0),1,bytes))
  (b n c:Nat) (f:Nat→Int) (hown:Own k e base w (.slice (some ⟨b,0,none⟩) n c) n f) (hs:a.eval s=.slice (some ⟨b,0,none⟩) n c) (m:Nat) (hx:a.eval x=.int .i64 (m:Int)) (hc:c<n+m) (hf:∀i,i<m→f (n+i)=0)
  (b2:(n+m) * bytes≤140737488355328) (b3:n+m≤9223372036854775807) (b4:base≤w.heap.size)
  (hK:∀v' w',Own k e base w' v' (n+m) f→w.grownBy w' none→wpList P ops Q rest (a.put o.dst v') w'):
  wpList P ops Q (o::rest) a w:=by
 refine wpList_plain hg fun K hK'=> ?_
 obtain ⟨v',w',hr,h2,h3⟩:=run_append_made (P:=P) w t u o.type e k bytes h1 hu hinfo base b n c f hown m hc hf b2 b3 b4
 unfold Oper.wp execOp
 simp only [hop,resolve,invoke,builtin,Sem.run_bind,Sem.run_pure,Result.andThen_ok,List.map_toArray,List.map_cons,List.map_nil,hs,hx,hr]
 exact hK' _ _ (hK v' w' h2 h3)
end Go.Bas
