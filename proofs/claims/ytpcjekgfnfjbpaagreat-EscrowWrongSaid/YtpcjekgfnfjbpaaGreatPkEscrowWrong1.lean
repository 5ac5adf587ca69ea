/-
  Part 1 of the texts that the proof of EscrowWrong rests on, one after the other. Conditions: named in each theorem.
-/
import Derived.BigQuiet
import Derived.Deep.QuietTactic
import Derived.Lib.Hide
import Derived.WalkKit
import Derived.WalkLawsBesides
import Derived.WalkSmall
import Derived.WalkSpells
set_option linter.unusedVariables false
set_option linter.unusedSimpArgs false
namespace Go.aG
open Go.RowKit
def Rd (k:IntKind) (w:World) (v:Value) (n:Nat) (f:Nat→Int):Prop:=
 ∃a c,v=.slice a n c∧n≤c∧c≤9223372036854775807∧(a=none→c=0)∧
  (0<n→∃b o,a=some ⟨b,o,none⟩∧b<w.heap.size∧∀i,i<n→w.cell? ⟨b,o+i,none⟩=some (.int k (f i)))
theorem Rd.below {k:IntKind} {w w':World} {v:Value} {n:Nat} {f:Nat→Int} (h:Rd k w v n f) (hb:Below w.heap.size w w'):Rd k w' v n f:=by
 obtain ⟨a,c,rfl,h1,h2,h3,h4⟩:=h
 refine ⟨a,c,rfl,h1,h2,h3,fun hn=> ?_⟩
 obtain ⟨b,o,rfl,hlt,hc⟩:=h4 hn
 have:=hb.size
 exact ⟨b,o,rfl,by omega,fun i hi=> (hb.cell (p:=⟨b,o+i,none⟩) hlt).trans (hc i hi)⟩
theorem Rd.congr {k:IntKind} {w:World} {v:Value} {n:Nat} {f g:Nat→Int} (h:Rd k w v n f) (e:∀i,i<n→f i=g i):Rd k w v n g:=by
 obtain ⟨a,c,rfl,h1,h2,h3,h4⟩:=h
 refine ⟨a,c,rfl,h1,h2,h3,fun hn=> ?_⟩
 obtain ⟨b,o,rfl,hlt,hc⟩:=h4 hn
 exact ⟨b,o,rfl,hlt,fun i hi=> by rw [hc i hi,e i hi]⟩
theorem Rd.nil (k:IntKind) (w:World) (f:Nat→Int):Rd k w (.slice none 0 0) 0 f:=
 ⟨none,0,rfl,Nat.le_refl _,by omega,fun _=> rfl,fun h=> by omega⟩
def vals (k:IntKind) (n:Nat) (f:Nat→Int):List Value:=(List.range n).map fun i=> .int k (f i)
@[simp] theorem nP (k:IntKind) (n:Nat) (f:Nat→Int):(vals k n f).length=n:=by simp [vals]
theorem pU {k:IntKind} {n:Nat} {f g:Nat→Int} (e:∀i,i<n→f i=g i):vals k n f=vals k n g:=by
 unfold vals
 exact List.map_congr_left fun i hi=> by rw [e i (List.mem_range.1 hi)]
theorem bG {k:IntKind} {n:Nat} {f:Nat→Int} {i:Nat} (h:i<n):(vals k n f)[i]? =some (.int k (f i)):=by
 simp [vals,h]
def arr (k:IntKind) (n:Nat) (f:Nat→Int):Array Value:=(vals k n f).toArray
@[simp] theorem gY (k:IntKind) (n:Nat) (f:Nat→Int):(arr k n f).size=n:=by simp [arr]
theorem xY {k:IntKind} {n:Nat} {f:Nat→Int} {i:Nat} (h:i<n):(arr k n f)[i]? =some (.int k (f i)):=by
 simpa [arr] using bG h
def Own (k:IntKind) (e:TypeId) (base:Nat) (w:World) (v:Value) (n:Nat) (f:Nat→Int):Prop:=
 w.ownsRow base e 1 v n (vals k n f)
theorem Own.rd {k:IntKind} {e:TypeId} {base:Nat} {w:World} {v:Value} {n:Nat} {f:Nat→Int} (h:Own k e base w v n f):Rd k w v n f:=by
 obtain ⟨_,h2⟩:=h
 rcases h2 with ⟨rfl,rfl⟩ | ⟨g,cap,cur,rfl,hb,hg,hn,hc,hs,ht⟩
 ·exact Rd.nil _ _ _
 ·unfold maxLen at hc
  refine ⟨_,_,rfl,hn,by omega,(fun h=> by cases h),fun _=> ⟨g,0,rfl,(Array.getElem?_eq_some_iff.1 hg).1,fun i hi=> ?_⟩⟩
  rw [Nat.zero_add,cell_of_row w g i cur e (0,0) hg]
  have:=bG (k:=k) (f:=f) hi
  rw [←ht,List.getElem?_take] at this
  simpa [hi] using this
theorem Own.new (k:IntKind) (e:TypeId) {base:Nat} (w:World) (cs:Array Value) (n:Nat) (f:Nat→Int) (hb:base≤w.heap.size) (hn:n≤9223372036854775807) (hs:cs.size=n) (hc:∀i,i<n→cs[i]? =some (.int k (f i))):
  Own k e base (w.alloc (.cells cs e)) (.slice (some ⟨w.heap.size,0,none⟩) n n) n f:=by
 have hl:cs.toList=vals k n f:=by
  apply List.ext_getElem?
  intro i
  by_cases h:i<n
  ·rw [Array.getElem?_toList,hc i h,bG h]
  ·rw [Array.getElem?_toList];simp [h,hs,vals]
 unfold Own
 rw [←hl]
 exact World.ownsRow_lit w cs n hb (by unfold maxLen;omega) (by simp [hs])
theorem Own.congr {k:IntKind} {e:TypeId} {base:Nat} {w:World} {v:Value} {n:Nat} {f g:Nat→Int} (h:Own k e base w v n f) (q:∀i,i<n→f i=g i):Own k e base w v n g:=by
 unfold Own at *
 rwa [pU q] at h
theorem Own.nil (k:IntKind) (e:TypeId) (base:Nat) (w:World) (f:Nat→Int):Own k e base w (.slice none 0 0) 0 f:=World.ownsRow_nil _ _ _ _
theorem below_drewN {B:Nat} {a w:World} (h:Below B a w) (n:Nat):Below B a (w.drewN n):=h.trans ⟨rfl,rfl,rfl,Nat.le_refl _,fun _ _=> rfl⟩
theorem xV {P:Program} {t e:TypeId} (ht:P.underlying t=some (.slice e)):P.elem t=e:=by simp [Program.elem,ht]
theorem fT {P:Program} {e:TypeId} {z:Option Value} {bytes size:Nat} (h:(P.info? e).map (fun i=> (i.zero,i.size,i.bytes))=some (z,size,bytes)) (w:World):(sizeOf e).run P w=.ok size w:=by
 obtain ⟨i,hi,hx⟩:=Option.map_eq_some_iff.1 h
 simp only [Prod.mk.injEq] at hx
 simp [sizeOf,typeInfo,hi,hx.2.1]
theorem Rd.cut {P:Program} {t e:TypeId} {k:IntKind} {bytes:Nat} (ht:P.underlying t=some (.slice e)) (hinfo:(P.info? e).map (fun i=> (i.zero,i.size,i.bytes))=some (some (.int k 0),1,bytes))
  (a:Option Addr) (n c lo hi:Nat) (h1:lo≤hi) (h2:hi≤n) (h3:n≤c):
  ∃a',(∀w,(Instr.sliceAt t (.slice a n c) (some (.int .i64 (lo:Int))) (some (.int .i64 (hi:Int))) none).run P w=.ok (.slice a' (hi - lo) (c - lo)) w)∧
   (∀w,(Instr.sliceAt t (.slice a n c) (some (.int .i64 (lo:Int))) none none).run P w=.ok (.slice a' (n - lo) (c - lo)) w)∧
   ∀(w:World) (f:Nat→Int),Rd k w (.slice a n c) n f→(Rd k w (.slice a' (hi - lo) (c - lo)) (hi - lo) (fun i=> f (lo+i))∧Rd k w (.slice a' (n - lo) (c - lo)) (n - lo) (fun i=> f (lo+i))):=by
 have hel:=xV ht
 have ht':P.underlying t=some (.slice (P.elem t)):=by rw [hel];exact ht
 refine ⟨if c=lo then a else a.map (·.add (lo * 1)),fun w=> ?_,fun w=> ?_,fun w f hr=> ?_⟩
 ·rw [run_sliceAt_slice w t _ _ _ _ ht',run_slice_lh w t a n c ht' .i64 .i64 lo hi (by omega) (by omega) (by omega),hel,fT hinfo]
  simp [Result.andThen,sliced]
 ·rw [run_sliceAt_slice w t _ _ _ _ ht',run_slice_l w t a n c ht' .i64 lo (by omega) (by omega),hel,fT hinfo]
  simp [Result.andThen,sliced]
 ·obtain ⟨a0,c0,he,l1,l2,l3,l4⟩:=hr
  simp only [Value.slice.injEq,true_and] at he
  obtain ⟨rfl,rfl⟩:=he
  have key:∀m,m≤n - lo→Rd k w (.slice (if c=lo then a else a.map (·.add (lo * 1))) m (c - lo)) m (fun i=> f (lo+i)):=by
   intro m hm
   refine ⟨_,_,rfl,by omega,by omega,fun hn=> ?_,fun hm0=> ?_⟩
   ·by_cases hc:c=lo
    ·omega
    ·rw [if_neg hc] at hn
     cases a with
     | none=> have:=l3 rfl;omega
     | some x=> simp at hn
   ·obtain ⟨b,o,rfl,hlt,hcell⟩:=l4 (by omega)
    rw [if_neg (by omega)]
    have hadd:(⟨b,o,none⟩:Addr).add (lo * 1)=⟨b,o+lo,none⟩:=by unfold Addr.add;split<;> simp_all
    refine ⟨b,o+lo,by simpa using hadd,hlt,fun i hi=> ?_⟩
    rw [Nat.add_assoc]
    exact hcell _ (by omega)
  exact ⟨key _ (by omega),key _ (Nat.le_refl _)⟩
theorem nM {x:Int} (h0: -9223372036854775808≤x) (h1:x<9223372036854775808):IntKind.i64.wrap x=x:=by rw [IntKind.wrap_i64];omega
theorem BM {i:Nat} {k:IntKind} {x y:Int} (hi:i<1) (h:x=y):(#[Value.int k x])[i]? =some (.int k y):=by
 obtain rfl:i=0:=by omega
 rw [h];rfl
theorem pR (k:IntKind) (n:Nat) (x:Int):List.replicate n (Value.int k x)=vals k n (fun _=> x):=by
 apply List.ext_getElem?
 intro i
 by_cases h:i<n
 ·rw [bG h];simp [h]
 ·simp [h,vals]
theorem sS {P:Program} {w:World} {ops:Array Oper} {rest:List Oper} {o:Oper} {a:Act} {Q:Exit→Act→World→Prop}
  (hg:o.guard=none) (l c:Operand) (t:TypeId) (hop:o.op=Op.makeSlice t l c) (base:Nat) (e:TypeId) (k:IntKind) (bytes:Nat)
  (h1:P.underlying t=some (.slice e)) (hinfo:(P.info? e).map (fun i=> (i.zero,i.size,i.bytes))=some (some (.int k 0),1,bytes))
  (kl kc:IntKind) (n:Nat) (hl:a.eval l=.int kl (n:Int)) (hc:a.eval c=.int kc (n:Int)) (b2:bytes * n≤281474976710656) (b3:n≤9223372036854775807) (b4:base≤w.heap.size)
  (hK:∀w',Own k e base w' (.slice (some ⟨w.heap.size,0,none⟩) n n) n (fun _=> 0)→w.grownBy w' none→wpList P ops Q rest (a.put o.dst (.slice (some ⟨w.heap.size,0,none⟩) n n)) w'):
  wpList P ops Q (o::rest) a w:=by
 obtain ⟨i,hi,hz0,hz1,hz2⟩:=info_parts hinfo
 refine wpList_make_full w hg l c t hop base e i (.int k 0) 1 h1 hi hz0 hz1 kl kc n n n hl hc rfl rfl (by rw [hz2];exact b2) (by unfold maxLen;omega) b4 ?_
 intro w' hown hgrow
 refine hK w' ?_ hgrow
 unfold Own
 simpa [toList_madeCells_one,Value.cells,pR] using hown
theorem mh {P:Program} {w:World} {o:Oper} {a:Act} {K:Act→World→Prop} {Q:Exit→Act→World→Prop}
  (s x:Operand) (t:TypeId) (hop:o.op=.call { callee:=.builtin .append,args:=#[s,x],argTypes:=#[t,t] })
  (base:Nat) (e:TypeId) (k:IntKind) (bytes:Nat)
  (h1:P.underlying t=some (.slice e)) (hinfo:(P.info? e).map (fun i=> (i.zero,i.size,i.bytes))=some (some (.int k 0),1,bytes))
  (v:Value) (n:Nat) (f:Nat→Int) (hown:Own k e base w v n f) (hs:a.eval s=v)
  (u:Value) (m:Nat) (g:Nat→Int) (hrd:Rd k w u m g) (hx:a.eval x=u) (hf:∀i,i<m→f (n+i)=g i)
  (b2:(n+m) * bytes≤140737488355328) (b3:n+m≤9223372036854775807) (b4:base≤w.heap.size)
  (hK:∀v' w',Own k e base w' v' (n+m) f→w.grownBy w' v.ownBlock→K (a.put o.dst v') w'):
  o.wp P a w K Q:=by
 obtain ⟨i,hi,hz0,hz1,hz2⟩:=info_parts hinfo
 have hv:vals k n f++vals k m g=vals k (n+m) f:=by
  unfold vals
  rw [List.range_add]
  simp only [List.map_append,List.map_map]
  congr 1
  exact List.map_congr_left fun i hi=> by simp [hf i (List.mem_range.1 hi)]
 obtain ⟨ao,c,rfl,l1,l2,l3,l4⟩:=hrd
 cases ao with
 | none=>
  have hm:m=0:=by have:=l3 rfl;omega
  subst hm
  have hr:=run_append_owned_none (P:=P) w base t o.type e i 1 h1 hi v n _ hown
  have hc0:=l3 rfl
  subst hc0
  unfold Oper.wp execOp
  simp only [hop,resolve,invoke,builtin,Sem.run_bind,Sem.run_pure,Result.andThen_ok,List.map_toArray,List.map_cons,List.map_nil,hs,hx,hr]
  exact hK v w (by simpa using hown) (World.grownBy.refl _ _)
 | some ad=>
  refine wp_append_own w s x t hop base e i (.int k 0) 1 bytes h1 hi hz0 hz1 hz2 rfl (by decide) v n (vals k n f) hs hown ad m c (vals k m g) hx (by simp) ?_ ?_ (by unfold maxLen;omega) b2 b4 ?_
  ·intro j u hu
   have hj:j<m:=by
    have:=(List.getElem?_eq_some_iff.1 hu).1
    simpa using this
   obtain ⟨b,of,hb,_,hcell⟩:=l4 (by omega)
   obtain rfl:=Option.some.inj hb
   have hadd:(⟨b,of,none⟩:Addr).add j=⟨b,of+j,none⟩:=by unfold Addr.add;split<;> simp_all
   rw [hadd,hcell j hj,←bG (k:=k) (f:=g) hj]
   exact hu
  ·intro u hu
   obtain ⟨_,_,rfl⟩:=List.mem_map.1 hu
   rfl
  ·intro v' w' hown' hgrow _
   refine hK v' w' ?_ hgrow
   unfold Own
   rw [←hv]
   exact hown'
theorem lW {P:Program} {w:World} {ops:Array Oper} {rest:List Oper} {o:Oper} {a:Act} {Q:Exit→Act→World→Prop}
  (hg:o.guard=none) (s x:Operand) (t:TypeId) (hop:o.op=.call { callee:=.builtin .append,args:=#[s,x],argTypes:=#[t,t] })
  (base:Nat) (e:TypeId) (k:IntKind) (bytes:Nat)
  (h1:P.underlying t=some (.slice e)) (hinfo:(P.info? e).map (fun i=> (i.zero,i.size,i.bytes))=some (some (.int k 0),1,bytes))
  (v:Value) (n:Nat) (f:Nat→Int) (hown:Own k e base w v n f) (hs:a.eval s=v)
  (u:Value) (m:Nat) (g:Nat→Int) (hrd:Rd k w u m g) (hx:a.eval x=u) (hf:∀i,i<m→f (n+i)=g i)
  (b2:(n+m) * bytes≤140737488355328) (b3:n+m≤9223372036854775807) (b4:base≤w.heap.size)
  (hK:∀v' w',Own k e base w' v' (n+m) f→w.grownBy w' v.ownBlock→wpList P ops Q rest (a.put o.dst v') w'):
  wpList P ops Q (o::rest) a w:=
 wpList_plain hg fun _ hK'=> mh s x t hop base e k bytes h1 hinfo v n f hown hs u m g hrd hx hf b2 b3 b4 fun v' w' q1 q2=> hK' _ _ (hK v' w' q1 q2)
def upd (f:Nat→Int) (j:Nat) (x:Int):Nat→Int:=fun i=> if i=j then x else f i
theorem vS (n:Int) (i:Nat):n / 2 ^ (8 * (i+1))=n / 2 ^ (8 * i) / 256:=by
 rw [Int.ediv_ediv_of_nonneg (Int.le_of_lt (Int.pow_pos (by decide))),show 8 * (i+1)=8 * i+8 from rfl,Int.pow_add]
 rfl
def big (f:Nat→Int):Nat→Int
 | 0=> 0
 | k+1=> 256 * big f k+f k
theorem iL {f:Nat→Int} {n:Nat} (hf:∀i,i<n→0≤f i∧f i<256):∀k,k≤n→0≤big f k∧big f k<256 ^ k:=by
 intro k
 induction k with
 | zero=> intro _;simp [big]
 | succ k ih=>
  intro hk
  have h1:=ih (by omega)
  have h2:=hf k (by omega)
  rw [big,Int.pow_succ]
  omega
theorem uH (b:Int) (hb:1≤b) (k m:Nat) (h:k≤m):b ^ k≤b ^ m:=by
 obtain ⟨d,rfl⟩:=Nat.exists_eq_add_of_le h
 clear h
 induction d with
 | zero=> exact Int.le_refl _
 | succ d ih=>
  rw [←Nat.add_assoc,Int.pow_succ]
  have h0:0<b ^ (k+d):=Int.pow_pos (by omega)
  have:=Int.mul_le_mul_of_nonneg_left hb (Int.le_of_lt h0)
  omega
theorem wh {f:Nat→Int} {n:Nat} (hf:∀i,i<n→0≤f i∧f i<256) (k m:Nat) (hk:k≤n) (hm:k≤m):big f k<256 ^ m:=
 Int.lt_of_lt_of_le (iL hf k hk).2 (uH 256 (by decide) k m hm)
def bL (f:Nat→Int) (n:Nat):Int:=if n=0∨8<n∨4611686018427387904<big f n then 0 else big f n
def dM (f:Nat→Int) (n:Nat):Int:=if n=0 then 10 else if 8<n then 2 else if 4611686018427387904<big f n then 11 else 0
theorem zx {x c:Int} (h0:0≤x) (h1:x<72057594037927936) (h2:0≤c) (h3:c<256):bits .or .u64 (x * 256) c=256 * x+c:=by
 rw [u64_or _ _ (by omega) (by omega) (by omega) (by omega),nat_join 8 _ _ (by omega) (by omega)]
 omega
theorem nC {n:Int} {s:Nat} (h:n / 2 ^ (8 * s)=0):∀k,k≤s→big (fun i=> n / 2 ^ (8 * (s - 1 - i)) % 256) k=n / 2 ^ (8 * (s - k)):=by
 intro k
 induction k with
 | zero=> intro _;rw [Nat.sub_zero,h];rfl
 | succ k ih=>
  intro hk
  rw [big,ih (by omega),show s - 1 - k=s - (k+1) by omega,show s - k=s - (k+1)+1 by omega,vS]
  omega
def upto (j:Nat) (g f:Nat→Int):Nat→Int:=fun i=> if i<j then g i else f i
theorem su (g f:Nat→Int):upto 0 g f=f:=by funext i;simp [upto]
theorem sw {j:Nat} {g f:Nat→Int} {x:Int} (h:x=g j):upd (upto j g f) j x=upto (j+1) g f:=by
 funext i
 unfold upd upto
 by_cases e:i=j
 ·subst e;simp [h]
 ·by_cases e':i<j
  ·rw [if_neg e,if_pos e',if_pos (by omega)]
  ·rw [if_neg e,if_neg e',if_neg (by omega)]
theorem sD {j n:Nat} (g f:Nat→Int) (h:n≤j):∀i,i<n→upto j g f i=g i:=fun i hi=> if_pos (by omega)
theorem Own.form {k:IntKind} {e:TypeId} {base:Nat} {w:World} {v:Value} {n:Nat} {f:Nat→Int} (h:Own k e base w v n f) (hn:0<n):
  ∃g c,v=.slice (some ⟨g,0,none⟩) n c∧base≤g∧g<w.heap.size∧n≤c∧c≤9223372036854775807∧(∀i,i<n→w.cell? ⟨g,i,none⟩=some (.int k (f i)))∧∀i,w.frozen? ⟨g,i,none⟩=false:=by
 have hr:=h.rd
 have h0:=h
 obtain ⟨_,h2⟩:=h
 rcases h2 with ⟨rfl,rfl⟩ | ⟨g,cap,cur,rfl,hb,hg,hn',hc,hs,ht⟩
 ·omega
 ·unfold maxLen at hc
  refine ⟨g,cap,rfl,hb,(Array.getElem?_eq_some_iff.1 hg).1,hn',by omega,fun i hi=> ?_,fun i=> frozen_of_row w g i cur e hg⟩
  obtain ⟨a,c,he,_,_,_,h4⟩:=hr
  obtain ⟨b,o,rfl,_,hcell⟩:=h4 hn
  simp only [Value.slice.injEq,Option.some.injEq,Addr.mk.injEq,and_true,true_and] at he
  obtain ⟨⟨rfl,rfl⟩,_⟩:=he
  simpa using hcell i hi
theorem uf {k:IntKind} {n:Nat} {f:Nat→Int} (j:Nat) (x:Int):(vals k n f).set j (.int k x)=vals k n (upd f j x):=by
 apply List.ext_getElem?
 intro i
 rw [List.getElem?_set]
 by_cases hi:i<n
 ·rw [bG hi,bG hi]
  unfold upd
  by_cases hij:j=i
  ·subst hij;simp [hi]
  ·rw [if_neg hij,if_neg (fun e=> hij e.symm)]
 ·have:(vals k n f)[i]? =none:=by simp;omega
  rw [this]
  have:(vals k n (upd f j x))[i]? =none:=by simp;omega
  rw [this]
  by_cases hij:j=i
  ·subst hij;simp;omega
  ·simp [hij]
theorem Own.store {k:IntKind} {e:TypeId} {base:Nat} {w:World} {g n c:Nat} {f:Nat→Int} (h:Own k e base w (.slice (some ⟨g,0,none⟩) n c) n f) (j:Nat) (x:Int):
  Own k e base (w.setCell ⟨g,j,none⟩ (.int k x)) (.slice (some ⟨g,0,none⟩) n c) n (upd f j x):=by
 have:=(World.ownsRow.stored h j (.int k x)).1
 unfold Own
 rwa [uf] at this
theorem Own.drew {k:IntKind} {e:TypeId} {base:Nat} {w:World} {v:Value} {n:Nat} {f:Nat→Int} (h:Own k e base w v n f):Own k e base w.drew v n f:=h
theorem size_setCell (w:World) (a:Addr) (v:Value):(w.setCell a v).heap.size=w.heap.size:=by simp [World.setCell]
theorem Own.mono {k:IntKind} {e:TypeId} {base base':Nat} {w:World} {v:Value} {n:Nat} {f:Nat→Int} (h:Own k e base w v n f) (hb:base'≤base):Own k e base' w v n f:=by
 refine ⟨h.1,?_⟩
 rcases h.2 with hn | ⟨g,cap,cur,rfl,hb',rest⟩
 ·exact .inl hn
 ·exact .inr ⟨g,cap,cur,rfl,by omega,rest⟩
theorem Own.block {k:IntKind} {e:TypeId} {base:Nat} {w:World} {v:Value} {n:Nat} {f:Nat→Int} (h:Own k e base w v n f):∀b,v.ownBlock=some b→base≤b:=
 fun b hb=> (World.ownsRow.lt h b hb).1
theorem below_grown {B:Nat} {a w w':World} {k:IntKind} {e:TypeId} {base:Nat} {v:Value} {n:Nat} {f:Nat→Int} {w0:World} (h:Below B a w) (hg:w.grownBy w' v.ownBlock) (ho:Own k e base w0 v n f) (hB:B≤w.heap.size) (hbase:B≤base):Below B a w':=
 h.grown hg hB fun b hb=> Nat.le_trans hbase (ho.block b hb)
theorem nD {B:Nat} {a w w':World} (h:Below B a w) (hg:w.grownBy w' none) (hB:B≤w.heap.size):Below B a w':=
 h.grown hg hB fun b hb=> by cases hb
end Go.aG
namespace Go.aG
end Go.aG
namespace Go.aG
end Go.aG
namespace Go.aG
end Go.aG
namespace Go.aG
open Go.RowKit
def Placed (w:World) (v v':Value):Prop:=v'.ownBlock=v.ownBlock∨∀b,v'.ownBlock=some b→w.heap.size≤b
theorem iB {P:Program} (w:World) (base:Nat) (t ty e:TypeId) (i:TypeInfo) (z:Value) (size bytes:Nat) (ht:P.underlying t=some (.slice e)) (hi:P.info? e=some i) (hz:i.zero=some z)
  (hsize:i.size=size) (hby:i.bytes=bytes) (hzs:z.cells.size=size) (hsz:0<size)
  (v:Value) (n:Nat) (xs:List Value) (hown:w.ownsRow base e size v n xs)
  (a:Addr) (m c:Nat) (news:List Value) (hl:news.length=m * size) (hnews:∀j u,news[j]? =some u→w.cell? (a.add j)=some u) (h1:∀u ∈ news,u.oneCell'=true)
  (h63:n+m≤maxLen) (hbytes:(n+m) * bytes≤140737488355328) (v':Value) (w':World) (hrun:(Builtin.append_ #[t,t] ty #[v,.slice (some a) m c]).run P w=.ok v' w'):Placed w v v':=by
 subst hsize
 subst hby
 have hsmall:n+m≤9223372036854775807:=by simp only [maxLen] at h63;omega
 rcases hown.2 with ⟨rfl,rfl⟩ | ⟨g,cap,cur,rfl,hbg,hg,hnc,hcm,hcs,htake⟩
 ·have hx:xs= [] :=List.eq_nil_of_length_eq_zero (by simpa using hown.1)
  subst hx
  by_cases hm:m=0
  ·subst hm
   have hn:news= [] :=List.eq_nil_of_length_eq_zero (by simpa using hl)
   subst hn
   have hr:(Builtin.append_ #[t,t] ty #[.slice none 0 0,.slice (some a) 0 c]).run P w=.ok (.slice none 0 0) w:=by
    simp [Builtin.append_,run_underlying ht,sizeOf,typeInfo,hi,Builtin.lenOf,Builtin.firstCells,loadCells,loadCellsFrom]
   rw [hr] at hrun
   cases hrun
   exact .inl rfl
  ·have hr:=run_append_nil (P:=P) w t ty e i z ht hi hz a m c news hl hnews (by omega) (by omega) (by have hb:=hbytes;simp only [Nat.zero_add] at hb;omega)
   rw [hr] at hrun
   cases hrun
   refine .inr fun b hb=> ?_
   simp [Value.ownBlock] at hb
   omega
 ·by_cases hroom:n+m≤cap
  ·have hfit:n * i.size+news.length≤cur.size:=by rw [hl,hcs,←Nat.add_mul];exact Nat.mul_le_mul_right _ hroom
   have hr:=run_append_room (P:=P) w t ty e i ht hi g n cap cur hg a m c news hl hnews h1 hroom hfit
   rw [hr] at hrun
   cases hrun
   exact .inl rfl
  ·have holds:∀j u,xs[j]? =some u→w.cell? ((⟨g,0,none⟩:Addr).add j)=some u:=hown.cells (g:=g) rfl
   have hr:=run_append_grow (P:=P) w t ty e i z ht hi hz ⟨g,0,none⟩ n cap xs hown.1 holds a m c news hl hnews (by omega) (by omega) (growslice_fits (by omega) hbytes)
   rw [hr] at hrun
   cases hrun
   refine .inr fun b hb=> ?_
   simp [Value.ownBlock] at hb
   omega
end Go.aG
namespace Go.aG
end Go.aG
