/-
  Part 1 of the texts that the proof of SuiteOpens rests on, one after the other. Conditions: named in each theorem.
-/
import Derived.BigQuiet
import Derived.Deep.QuietTactic
import Derived.Lib.Hide
import Derived.WalkKit
import Derived.WalkLawsBesides
import Derived.WalkSmall
import Derived.WalkSpells
set_option linter.unusedVariables false
set_option linter.unusedSimpArgs false
namespace Go.aG
open Go.RowKit
def Rd (k:IntKind) (w:World) (v:Value) (n:Nat) (f:Nat→Int):Prop:=
 ∃a c,v=.slice a n c∧n≤c∧c≤9223372036854775807∧(a=none→c=0)∧
  (0<n→∃b o,a=some ⟨b,o,none⟩∧b<w.heap.size∧∀i,i<n→w.cell? ⟨b,o+i,none⟩=some (.int k (f i)))
theorem Rd.below {k:IntKind} {w w':World} {v:Value} {n:Nat} {f:Nat→Int} (h:Rd k w v n f) (hb:Below w.heap.size w w'):Rd k w' v n f:=by
 obtain ⟨a,c,rfl,h1,h2,h3,h4⟩:=h
 refine ⟨a,c,rfl,h1,h2,h3,fun hn=> ?_⟩
 obtain ⟨b,o,rfl,hlt,hc⟩:=h4 hn
 have:=hb.size
 exact ⟨b,o,rfl,by omega,fun i hi=> (hb.cell (p:=⟨b,o+i,none⟩) hlt).trans (hc i hi)⟩
theorem Rd.congr {k:IntKind} {w:World} {v:Value} {n:Nat} {f g:Nat→Int} (h:Rd k w v n f) (e:∀i,i<n→f i=g i):Rd k w v n g:=by
 obtain ⟨a,c,rfl,h1,h2,h3,h4⟩:=h
 refine ⟨a,c,rfl,h1,h2,h3,fun hn=> ?_⟩
 obtain ⟨b,o,rfl,hlt,hc⟩:=h4 hn
 exact ⟨b,o,rfl,hlt,fun i hi=> by rw [hc i hi,e i hi]⟩
theorem Rd.nil (k:IntKind) (w:World) (f:Nat→Int):Rd k w (.slice none 0 0) 0 f:=
 ⟨none,0,rfl,Nat.le_refl _,by omega,fun _=> rfl,fun h=> by omega⟩
def vals (k:IntKind) (n:Nat) (f:Nat→Int):List Value:=(List.range n).map fun i=> .int k (f i)
@[simp] theorem aU (k:IntKind) (n:Nat) (f:Nat→Int):(vals k n f).length=n:=by simp [vals]
theorem fP {k:IntKind} {n:Nat} {f g:Nat→Int} (e:∀i,i<n→f i=g i):vals k n f=vals k n g:=by
 unfold vals
 exact List.map_congr_left fun i hi=> by rw [e i (List.mem_range.1 hi)]
theorem aK {k:IntKind} {n:Nat} {f:Nat→Int} {i:Nat} (h:i<n):(vals k n f)[i]? =some (.int k (f i)):=by
 simp [vals,h]
def arr (k:IntKind) (n:Nat) (f:Nat→Int):Array Value:=(vals k n f).toArray
@[simp] theorem dU (k:IntKind) (n:Nat) (f:Nat→Int):(arr k n f).size=n:=by simp [arr]
theorem qc {k:IntKind} {n:Nat} {f:Nat→Int} {i:Nat} (h:i<n):(arr k n f)[i]? =some (.int k (f i)):=by
 simpa [arr] using aK h
theorem ou {k:IntKind} {n:Nat} {f g:Nat→Int} (e:∀i,i<n→f i=g i):arr k n f=arr k n g:=by rw [arr,arr,fP e]
def Own (k:IntKind) (e:TypeId) (base:Nat) (w:World) (v:Value) (n:Nat) (f:Nat→Int):Prop:=
 w.ownsRow base e 1 v n (vals k n f)
theorem Own.rd {k:IntKind} {e:TypeId} {base:Nat} {w:World} {v:Value} {n:Nat} {f:Nat→Int} (h:Own k e base w v n f):Rd k w v n f:=by
 obtain ⟨_,h2⟩:=h
 rcases h2 with ⟨rfl,rfl⟩ | ⟨g,cap,cur,rfl,hb,hg,hn,hc,hs,ht⟩
 ·exact Rd.nil _ _ _
 ·unfold maxLen at hc
  refine ⟨_,_,rfl,hn,by omega,(fun h=> by cases h),fun _=> ⟨g,0,rfl,(Array.getElem?_eq_some_iff.1 hg).1,fun i hi=> ?_⟩⟩
  rw [Nat.zero_add,cell_of_row w g i cur e (0,0) hg]
  have:=aK (k:=k) (f:=f) hi
  rw [←ht,List.getElem?_take] at this
  simpa [hi] using this
theorem Own.new (k:IntKind) (e:TypeId) {base:Nat} (w:World) (cs:Array Value) (n:Nat) (f:Nat→Int) (hb:base≤w.heap.size) (hn:n≤9223372036854775807) (hs:cs.size=n) (hc:∀i,i<n→cs[i]? =some (.int k (f i))):
  Own k e base (w.alloc (.cells cs e)) (.slice (some ⟨w.heap.size,0,none⟩) n n) n f:=by
 have hl:cs.toList=vals k n f:=by
  apply List.ext_getElem?
  intro i
  by_cases h:i<n
  ·rw [Array.getElem?_toList,hc i h,aK h]
  ·rw [Array.getElem?_toList];simp [h,hs,vals]
 unfold Own
 rw [←hl]
 exact World.ownsRow_lit w cs n hb (by unfold maxLen;omega) (by simp [hs])
theorem Own.congr {k:IntKind} {e:TypeId} {base:Nat} {w:World} {v:Value} {n:Nat} {f g:Nat→Int} (h:Own k e base w v n f) (q:∀i,i<n→f i=g i):Own k e base w v n g:=by
 unfold Own at *
 rwa [fP q] at h
theorem Own.nil (k:IntKind) (e:TypeId) (base:Nat) (w:World) (f:Nat→Int):Own k e base w (.slice none 0 0) 0 f:=World.ownsRow_nil _ _ _ _
theorem below_drewN {B:Nat} {a w:World} (h:Below B a w) (n:Nat):Below B a (w.drewN n):=h.trans ⟨rfl,rfl,rfl,Nat.le_refl _,fun _ _=> rfl⟩
theorem pJ {P:Program} {t e:TypeId} (ht:P.underlying t=some (.slice e)):P.elem t=e:=by simp [Program.elem,ht]
theorem dP {P:Program} {e:TypeId} {z:Option Value} {bytes size:Nat} (h:(P.info? e).map (fun i=> (i.zero,i.size,i.bytes))=some (z,size,bytes)) (w:World):(sizeOf e).run P w=.ok size w:=by
 obtain ⟨i,hi,hx⟩:=Option.map_eq_some_iff.1 h
 simp only [Prod.mk.injEq] at hx
 simp [sizeOf,typeInfo,hi,hx.2.1]
theorem Rd.cut {P:Program} {t e:TypeId} {k:IntKind} {bytes:Nat} (ht:P.underlying t=some (.slice e)) (hinfo:(P.info? e).map (fun i=> (i.zero,i.size,i.bytes))=some (some (.int k 0),1,bytes))
  (a:Option Addr) (n c lo hi:Nat) (h1:lo≤hi) (h2:hi≤n) (h3:n≤c):
  ∃a',(∀w,(Instr.sliceAt t (.slice a n c) (some (.int .i64 (lo:Int))) (some (.int .i64 (hi:Int))) none).run P w=.ok (.slice a' (hi - lo) (c - lo)) w)∧
   (∀w,(Instr.sliceAt t (.slice a n c) (some (.int .i64 (lo:Int))) none none).run P w=.ok (.slice a' (n - lo) (c - lo)) w)∧
   ∀(w:World) (f:Nat→Int),Rd k w (.slice a n c) n f→(Rd k w (.slice a' (hi - lo) (c - lo)) (hi - lo) (fun i=> f (lo+i))∧Rd k w (.slice a' (n - lo) (c - lo)) (n - lo) (fun i=> f (lo+i))):=by
 have hel:=pJ ht
 have ht':P.underlying t=some (.slice (P.elem t)):=by rw [hel];exact ht
 refine ⟨if c=lo then a else a.map (·.add (lo * 1)),fun w=> ?_,fun w=> ?_,fun w f hr=> ?_⟩
 ·rw [run_sliceAt_slice w t _ _ _ _ ht',run_slice_lh w t a n c ht' .i64 .i64 lo hi (by omega) (by omega) (by omega),hel,dP hinfo]
  simp [Result.andThen,sliced]
 ·rw [run_sliceAt_slice w t _ _ _ _ ht',run_slice_l w t a n c ht' .i64 lo (by omega) (by omega),hel,dP hinfo]
  simp [Result.andThen,sliced]
 ·obtain ⟨a0,c0,he,l1,l2,l3,l4⟩:=hr
  simp only [Value.slice.injEq,true_and] at he
  obtain ⟨rfl,rfl⟩:=he
  have key:∀m,m≤n - lo→Rd k w (.slice (if c=lo then a else a.map (·.add (lo * 1))) m (c - lo)) m (fun i=> f (lo+i)):=by
   intro m hm
   refine ⟨_,_,rfl,by omega,by omega,fun hn=> ?_,fun hm0=> ?_⟩
   ·by_cases hc:c=lo
    ·omega
    ·rw [if_neg hc] at hn
     cases a with
     | none=> have:=l3 rfl;omega
     | some x=> simp at hn
   ·obtain ⟨b,o,rfl,hlt,hcell⟩:=l4 (by omega)
    rw [if_neg (by omega)]
    have hadd:(⟨b,o,none⟩:Addr).add (lo * 1)=⟨b,o+lo,none⟩:=by unfold Addr.add;split<;> simp_all
    refine ⟨b,o+lo,by simpa using hadd,hlt,fun i hi=> ?_⟩
    rw [Nat.add_assoc]
    exact hcell _ (by omega)
  exact ⟨key _ (by omega),key _ (Nat.le_refl _)⟩
theorem Rd.cutAt {k:IntKind} {w:World} {b o n c:Nat} {f:Nat→Int} (h:Rd k w (.slice (some ⟨b,o,none⟩) n c) n f) (lo m:Nat) (hm:lo+m≤n):
  Rd k w (.slice (if c=lo then some ⟨b,o,none⟩ else some ⟨b,o+lo,none⟩) m (c - lo)) m (fun i=> f (lo+i)):=by
 obtain ⟨a0,c0,he,l1,l2,l3,l4⟩:=h
 simp only [Value.slice.injEq,true_and] at he
 obtain ⟨rfl,rfl⟩:=he
 refine ⟨_,_,rfl,by omega,by omega,fun hn=> ?_,fun hm0=> ?_⟩
 ·by_cases hc:c=lo
  ·omega
  ·rw [if_neg hc] at hn;cases hn
 ·obtain ⟨b',o',he,hlt,hcell⟩:=l4 (by omega)
  simp only [Option.some.injEq,Addr.mk.injEq,and_true] at he
  obtain ⟨rfl,rfl⟩:=he
  rw [if_neg (by omega)]
  refine ⟨b,o+lo,rfl,hlt,fun i hi=> ?_⟩
  rw [Nat.add_assoc]
  exact hcell _ (by omega)
theorem gM {x:Int} (h0: -9223372036854775808≤x) (h1:x<9223372036854775808):IntKind.i64.wrap x=x:=by rw [IntKind.wrap_i64];omega
theorem xk {i:Nat} {k:IntKind} {x y:Int} (hi:i<1) (h:x=y):(#[Value.int k x])[i]? =some (.int k y):=by
 obtain rfl:i=0:=by omega
 rw [h];rfl
theorem Gt {i j:Nat} {f:Nat→Int} (hi:i<1):f (j+i)=f j:=by
 obtain rfl:i=0:=by omega
 rfl
theorem rY (k:IntKind) (n:Nat) (x:Int):List.replicate n (Value.int k x)=vals k n (fun _=> x):=by
 apply List.ext_getElem?
 intro i
 by_cases h:i<n
 ·rw [aK h];simp [h]
 ·simp [h,vals]
theorem jV {P:Program} {w:World} {ops:Array Oper} {rest:List Oper} {o:Oper} {a:Act} {Q:Exit→Act→World→Prop}
  (hg:o.guard=none) (l c:Operand) (t:TypeId) (hop:o.op=Op.makeSlice t l c) (base:Nat) (e:TypeId) (k:IntKind) (bytes:Nat)
  (h1:P.underlying t=some (.slice e)) (hinfo:(P.info? e).map (fun i=> (i.zero,i.size,i.bytes))=some (some (.int k 0),1,bytes))
  (kl kc:IntKind) (n:Nat) (hl:a.eval l=.int kl (n:Int)) (hc:a.eval c=.int kc (n:Int)) (b2:bytes * n≤281474976710656) (b3:n≤9223372036854775807) (b4:base≤w.heap.size)
  (hK:∀w',Own k e base w' (.slice (some ⟨w.heap.size,0,none⟩) n n) n (fun _=> 0)→w.grownBy w' none→wpList P ops Q rest (a.put o.dst (.slice (some ⟨w.heap.size,0,none⟩) n n)) w'):
  wpList P ops Q (o::rest) a w:=by
 obtain ⟨i,hi,hz0,hz1,hz2⟩:=info_parts hinfo
 refine wpList_make_full w hg l c t hop base e i (.int k 0) 1 h1 hi hz0 hz1 kl kc n n n hl hc rfl rfl (by rw [hz2];exact b2) (by unfold maxLen;omega) b4 ?_
 intro w' hown hgrow
 refine hK w' ?_ hgrow
 unfold Own
 simpa [toList_madeCells_one,Value.cells,rY] using hown
theorem oG {P:Program} {w:World} {o:Oper} {a:Act} {K:Act→World→Prop} {Q:Exit→Act→World→Prop}
  (s x:Operand) (t:TypeId) (hop:o.op=.call { callee:=.builtin .append,args:=#[s,x],argTypes:=#[t,t] })
  (base:Nat) (e:TypeId) (k:IntKind) (bytes:Nat)
  (h1:P.underlying t=some (.slice e)) (hinfo:(P.info? e).map (fun i=> (i.zero,i.size,i.bytes))=some (some (.int k 0),1,bytes))
  (v:Value) (n:Nat) (f:Nat→Int) (hown:Own k e base w v n f) (hs:a.eval s=v)
  (u:Value) (m:Nat) (g:Nat→Int) (hrd:Rd k w u m g) (hx:a.eval x=u) (hf:∀i,i<m→f (n+i)=g i)
  (b2:(n+m) * bytes≤140737488355328) (b3:n+m≤9223372036854775807) (b4:base≤w.heap.size)
  (hK:∀v' w',Own k e base w' v' (n+m) f→w.grownBy w' v.ownBlock→K (a.put o.dst v') w'):
  o.wp P a w K Q:=by
 obtain ⟨i,hi,hz0,hz1,hz2⟩:=info_parts hinfo
 have hv:vals k n f++vals k m g=vals k (n+m) f:=by
  unfold vals
  rw [List.range_add]
  simp only [List.map_append,List.map_map]
  congr 1
  exact List.map_congr_left fun i hi=> by simp [hf i (List.mem_range.1 hi)]
 obtain ⟨ao,c,rfl,l1,l2,l3,l4⟩:=hrd
 cases ao with
 | none=>
  have hm:m=0:=by have:=l3 rfl;omega
  subst hm
  have hr:=run_append_owned_none (P:=P) w base t o.type e i 1 h1 hi v n _ hown
  have hc0:=l3 rfl
  subst hc0
  unfold Oper.wp execOp
  simp only [hop,resolve,invoke,builtin,Sem.run_bind,Sem.run_pure,Result.andThen_ok,List.map_toArray,List.map_cons,List.map_nil,hs,hx,hr]
  exact hK v w (by simpa using hown) (World.grownBy.refl _ _)
 | some ad=>
  refine wp_append_own w s x t hop base e i (.int k 0) 1 bytes h1 hi hz0 hz1 hz2 rfl (by decide) v n (vals k n f) hs hown ad m c (vals k m g) hx (by simp) ?_ ?_ (by unfold maxLen;omega) b2 b4 ?_
  ·intro j u hu
   have hj:j<m:=by
    have:=(List.getElem?_eq_some_iff.1 hu).1
    simpa using this
   obtain ⟨b,of,hb,_,hcell⟩:=l4 (by omega)
   obtain rfl:=Option.some.inj hb
   have hadd:(⟨b,of,none⟩:Addr).add j=⟨b,of+j,none⟩:=by unfold Addr.add;split<;> simp_all
   rw [hadd,hcell j hj,←aK (k:=k) (f:=g) hj]
   exact hu
  ·intro u hu
   obtain ⟨_,_,rfl⟩:=List.mem_map.1 hu
   rfl
  ·intro v' w' hown' hgrow _
   refine hK v' w' ?_ hgrow
   unfold Own
   rw [←hv]
   exact hown'
theorem fM {P:Program} {w:World} {ops:Array Oper} {rest:List Oper} {o:Oper} {a:Act} {Q:Exit→Act→World→Prop}
  (hg:o.guard=none) (s x:Operand) (t:TypeId) (hop:o.op=.call { callee:=.builtin .append,args:=#[s,x],argTypes:=#[t,t] })
  (base:Nat) (e:TypeId) (k:IntKind) (bytes:Nat)
  (h1:P.underlying t=some (.slice e)) (hinfo:(P.info? e).map (fun i=> (i.zero,i.size,i.bytes))=some (some (.int k 0),1,bytes))
  (v:Value) (n:Nat) (f:Nat→Int) (hown:Own k e base w v n f) (hs:a.eval s=v)
  (u:Value) (m:Nat) (g:Nat→Int) (hrd:Rd k w u m g) (hx:a.eval x=u) (hf:∀i,i<m→f (n+i)=g i)
  (b2:(n+m) * bytes≤140737488355328) (b3:n+m≤9223372036854775807) (b4:base≤w.heap.size)
  (hK:∀v' w',Own k e base w' v' (n+m) f→w.grownBy w' v.ownBlock→wpList P ops Q rest (a.put o.dst v') w'):
  wpList P ops Q (o::rest) a w:=
 wpList_plain hg fun _ hK'=> oG s x t hop base e k bytes h1 hinfo v n f hown hs u m g hrd hx hf b2 b3 b4 fun v' w' q1 q2=> hK' _ _ (hK v' w' q1 q2)
def upd (f:Nat→Int) (j:Nat) (x:Int):Nat→Int:=fun i=> if i=j then x else f i
theorem yA (n:Int) (i:Nat):n / 2 ^ (8 * (i+1))=n / 2 ^ (8 * i) / 256:=by
 rw [Int.ediv_ediv_of_nonneg (Int.le_of_lt (Int.pow_pos (by decide))),show 8 * (i+1)=8 * i+8 from rfl,Int.pow_add]
 rfl
def big (f:Nat→Int):Nat→Int
 | 0=> 0
 | k+1=> 256 * big f k+f k
theorem fK {f:Nat→Int} {n:Nat} (hf:∀i,i<n→0≤f i∧f i<256):∀k,k≤n→0≤big f k∧big f k<256 ^ k:=by
 intro k
 induction k with
 | zero=> intro _;simp [big]
 | succ k ih=>
  intro hk
  have h1:=ih (by omega)
  have h2:=hf k (by omega)
  rw [big,Int.pow_succ]
  omega
theorem wU (b:Int) (hb:1≤b) (k m:Nat) (h:k≤m):b ^ k≤b ^ m:=by
 obtain ⟨d,rfl⟩:=Nat.exists_eq_add_of_le h
 clear h
 induction d with
 | zero=> exact Int.le_refl _
 | succ d ih=>
  rw [←Nat.add_assoc,Int.pow_succ]
  have h0:0<b ^ (k+d):=Int.pow_pos (by omega)
  have:=Int.mul_le_mul_of_nonneg_left hb (Int.le_of_lt h0)
  omega
theorem tL {f:Nat→Int} {n:Nat} (hf:∀i,i<n→0≤f i∧f i<256) (k m:Nat) (hk:k≤n) (hm:k≤m):big f k<256 ^ m:=
 Int.lt_of_lt_of_le (fK hf k hk).2 (wU 256 (by decide) k m hm)
def dD (f:Nat→Int) (n:Nat):Int:=if n=0∨8<n∨4611686018427387904<big f n then 0 else big f n
def eO (f:Nat→Int) (n:Nat):Int:=if n=0 then 10 else if 8<n then 2 else if 4611686018427387904<big f n then 11 else 0
theorem wY {x c:Int} (h0:0≤x) (h1:x<72057594037927936) (h2:0≤c) (h3:c<256):bits .or .u64 (x * 256) c=256 * x+c:=by
 rw [u64_or _ _ (by omega) (by omega) (by omega) (by omega),nat_join 8 _ _ (by omega) (by omega)]
 omega
theorem pX {n:Int} {s:Nat} (h:n / 2 ^ (8 * s)=0):∀k,k≤s→big (fun i=> n / 2 ^ (8 * (s - 1 - i)) % 256) k=n / 2 ^ (8 * (s - k)):=by
 intro k
 induction k with
 | zero=> intro _;rw [Nat.sub_zero,h];rfl
 | succ k ih=>
  intro hk
  rw [big,ih (by omega),show s - 1 - k=s - (k+1) by omega,show s - k=s - (k+1)+1 by omega,yA]
  omega
def upto (j:Nat) (g f:Nat→Int):Nat→Int:=fun i=> if i<j then g i else f i
theorem iC (g f:Nat→Int):upto 0 g f=f:=by funext i;simp [upto]
theorem iD {j:Nat} {g f:Nat→Int} {x:Int} (h:x=g j):upd (upto j g f) j x=upto (j+1) g f:=by
 funext i
 unfold upd upto
 by_cases e:i=j
 ·subst e;simp [h]
 ·by_cases e':i<j
  ·rw [if_neg e,if_pos e',if_pos (by omega)]
  ·rw [if_neg e,if_neg e',if_neg (by omega)]
theorem iF {j n:Nat} (g f:Nat→Int) (h:n≤j):∀i,i<n→upto j g f i=g i:=fun i hi=> if_pos (by omega)
theorem upto_at {j:Nat} (g f:Nat→Int):upto j g f j=f j:=if_neg (by omega)
theorem Own.form {k:IntKind} {e:TypeId} {base:Nat} {w:World} {v:Value} {n:Nat} {f:Nat→Int} (h:Own k e base w v n f) (hn:0<n):
  ∃g c,v=.slice (some ⟨g,0,none⟩) n c∧base≤g∧g<w.heap.size∧n≤c∧c≤9223372036854775807∧(∀i,i<n→w.cell? ⟨g,i,none⟩=some (.int k (f i)))∧∀i,w.frozen? ⟨g,i,none⟩=false:=by
 have hr:=h.rd
 have h0:=h
 obtain ⟨_,h2⟩:=h
 rcases h2 with ⟨rfl,rfl⟩ | ⟨g,cap,cur,rfl,hb,hg,hn',hc,hs,ht⟩
 ·omega
 ·unfold maxLen at hc
  refine ⟨g,cap,rfl,hb,(Array.getElem?_eq_some_iff.1 hg).1,hn',by omega,fun i hi=> ?_,fun i=> frozen_of_row w g i cur e hg⟩
  obtain ⟨a,c,he,_,_,_,h4⟩:=hr
  obtain ⟨b,o,rfl,_,hcell⟩:=h4 hn
  simp only [Value.slice.injEq,Option.some.injEq,Addr.mk.injEq,and_true,true_and] at he
  obtain ⟨⟨rfl,rfl⟩,_⟩:=he
  simpa using hcell i hi
theorem qp {k:IntKind} {n:Nat} {f:Nat→Int} (j:Nat) (x:Int):(vals k n f).set j (.int k x)=vals k n (upd f j x):=by
 apply List.ext_getElem?
 intro i
 rw [List.getElem?_set]
 by_cases hi:i<n
 ·rw [aK hi,aK hi]
  unfold upd
  by_cases hij:j=i
  ·subst hij;simp [hi]
  ·rw [if_neg hij,if_neg (fun e=> hij e.symm)]
 ·have:(vals k n f)[i]? =none:=by simp;omega
  rw [this]
  have:(vals k n (upd f j x))[i]? =none:=by simp;omega
  rw [this]
  by_cases hij:j=i
  ·subst hij;simp;omega
  ·simp [hij]
theorem Own.store {k:IntKind} {e:TypeId} {base:Nat} {w:World} {g n c:Nat} {f:Nat→Int} (h:Own k e base w (.slice (some ⟨g,0,none⟩) n c) n f) (j:Nat) (x:Int):
  Own k e base (w.setCell ⟨g,j,none⟩ (.int k x)) (.slice (some ⟨g,0,none⟩) n c) n (upd f j x):=by
 have:=(World.ownsRow.stored h j (.int k x)).1
 unfold Own
 rwa [qp] at this
theorem Own.alloc {k:IntKind} {e:TypeId} {base:Nat} {w:World} {v:Value} {n:Nat} {f:Nat→Int} (h:Own k e base w v n f) (o:Obj):Own k e base (w.alloc o) v n f:=World.ownsRow.alloc h o
theorem Own.drew {k:IntKind} {e:TypeId} {base:Nat} {w:World} {v:Value} {n:Nat} {f:Nat→Int} (h:Own k e base w v n f):Own k e base w.drew v n f:=h
theorem size_setCell (w:World) (a:Addr) (v:Value):(w.setCell a v).heap.size=w.heap.size:=by simp [World.setCell]
theorem Own.below {k:IntKind} {e:TypeId} {base:Nat} {w w':World} {v:Value} {n:Nat} {f:Nat→Int} (h:Own k e base w v n f) (hb:Below w.heap.size w w'):Own k e base w' v n f:=by
 refine ⟨h.1,?_⟩
 rcases h.2 with hn | ⟨g,cap,cur,rfl,hb',hgg,rest⟩
 ·exact .inl hn
 ·refine .inr ⟨g,cap,cur,rfl,hb',?_,rest⟩
  rw [hb.block g (Array.getElem?_eq_some_iff.1 hgg).1]
  exact hgg
theorem Own.mono {k:IntKind} {e:TypeId} {base base':Nat} {w:World} {v:Value} {n:Nat} {f:Nat→Int} (h:Own k e base w v n f) (hb:base'≤base):Own k e base' w v n f:=by
 refine ⟨h.1,?_⟩
 rcases h.2 with hn | ⟨g,cap,cur,rfl,hb',rest⟩
 ·exact .inl hn
 ·exact .inr ⟨g,cap,cur,rfl,by omega,rest⟩
theorem Own.block {k:IntKind} {e:TypeId} {base:Nat} {w:World} {v:Value} {n:Nat} {f:Nat→Int} (h:Own k e base w v n f):∀b,v.ownBlock=some b→base≤b:=
 fun b hb=> (World.ownsRow.lt h b hb).1
theorem below_grown {B:Nat} {a w w':World} {k:IntKind} {e:TypeId} {base:Nat} {v:Value} {n:Nat} {f:Nat→Int} {w0:World} (h:Below B a w) (hg:w.grownBy w' v.ownBlock) (ho:Own k e base w0 v n f) (hB:B≤w.heap.size) (hbase:B≤base):Below B a w':=
 h.grown hg hB fun b hb=> Nat.le_trans hbase (ho.block b hb)
theorem bW {B:Nat} {a w w':World} (h:Below B a w) (hg:w.grownBy w' none) (hB:B≤w.heap.size):Below B a w':=
 h.grown hg hB fun b hb=> by cases hb
end Go.aG
namespace Go.aG
end Go.aG
namespace Go.aG
end Go.aG
namespace Go.aG
end Go.aG
namespace Go.aG
open Go.RowKit
def Placed (w:World) (v v':Value):Prop:=v'.ownBlock=v.ownBlock∨∀b,v'.ownBlock=some b→w.heap.size≤b
theorem fF {P:Program} (w:World) (base:Nat) (t ty e:TypeId) (i:TypeInfo) (z:Value) (size bytes:Nat) (ht:P.underlying t=some (.slice e)) (hi:P.info? e=some i) (hz:i.zero=some z)
  (hsize:i.size=size) (hby:i.bytes=bytes) (hzs:z.cells.size=size) (hsz:0<size)
  (v:Value) (n:Nat) (xs:List Value) (hown:w.ownsRow base e size v n xs)
  (a:Addr) (m c:Nat) (news:List Value) (hl:news.length=m * size) (hnews:∀j u,news[j]? =some u→w.cell? (a.add j)=some u) (h1:∀u ∈ news,u.oneCell'=true)
  (h63:n+m≤maxLen) (hbytes:(n+m) * bytes≤140737488355328) (v':Value) (w':World) (hrun:(Builtin.append_ #[t,t] ty #[v,.slice (some a) m c]).run P w=.ok v' w'):Placed w v v':=by
 subst hsize
 subst hby
 have hsmall:n+m≤9223372036854775807:=by simp only [maxLen] at h63;omega
 rcases hown.2 with ⟨rfl,rfl⟩ | ⟨g,cap,cur,rfl,hbg,hg,hnc,hcm,hcs,htake⟩
 ·have hx:xs= [] :=List.eq_nil_of_length_eq_zero (by simpa using hown.1)
  subst hx
  by_cases hm:m=0
  ·subst hm
   have hn:news= [] :=List.eq_nil_of_length_eq_zero (by simpa using hl)
   subst hn
   have hr:(Builtin.append_ #[t,t] ty #[.slice none 0 0,.slice (some a) 0 c]).run P w=.ok (.slice none 0 0) w:=by
    simp [Builtin.append_,run_underlying ht,sizeOf,typeInfo,hi,Builtin.lenOf,Builtin.firstCells,loadCells,loadCellsFrom]
   rw [hr] at hrun
   cases hrun
   exact .inl rfl
  ·have hr:=run_append_nil (P:=P) w t ty e i z ht hi hz a m c news hl hnews (by omega) (by omega) (by have hb:=hbytes;simp only [Nat.zero_add] at hb;omega)
   rw [hr] at hrun
   cases hrun
   refine .inr fun b hb=> ?_
   simp [Value.ownBlock] at hb
   omega
 ·by_cases hroom:n+m≤cap
  ·have hfit:n * i.size+news.length≤cur.size:=by rw [hl,hcs,←Nat.add_mul];exact Nat.mul_le_mul_right _ hroom
   have hr:=run_append_room (P:=P) w t ty e i ht hi g n cap cur hg a m c news hl hnews h1 hroom hfit
   rw [hr] at hrun
   cases hrun
   exact .inl rfl
  ·have holds:∀j u,xs[j]? =some u→w.cell? ((⟨g,0,none⟩:Addr).add j)=some u:=hown.cells (g:=g) rfl
   have hr:=run_append_grow (P:=P) w t ty e i z ht hi hz ⟨g,0,none⟩ n cap xs hown.1 holds a m c news hl hnews (by omega) (by omega) (growslice_fits (by omega) hbytes)
   rw [hr] at hrun
   cases hrun
   refine .inr fun b hb=> ?_
   simp [Value.ownBlock] at hb
   omega
end Go.aG
namespace Go.aG
end Go.aG
namespace Go.aG
open Go.RowKit
def OwnAt (k:IntKind) (e:TypeId) (base:Nat) (w:World) (v:Value) (n:Nat) (f:Nat→Int):Prop:=
 (v=.slice none 0 0∧n=0)∨∃g o c cur,v=.slice (some ⟨g,o,none⟩) n c∧base≤g∧w.heap[g]? =some (.cells cur e (0,0))∧n≤c∧c≤9223372036854775807∧o+c≤cur.size∧(cur.toList.drop o).take n=vals k n f
variable {k : IntKind} {e : TypeId} {base : Nat} {w w' : World} {v : Value} {n : Nat} {f g : Nat → Int}
theorem OwnAt.nil (k:IntKind) (e:TypeId) (base:Nat) (w:World) (f:Nat→Int):OwnAt k e base w (.slice none 0 0) 0 f:=.inl ⟨rfl,rfl⟩
theorem OwnAt.rd (h:OwnAt k e base w v n f):Rd k w v n f:=by
 rcases h with ⟨rfl,rfl⟩ | ⟨g,o,c,cur,rfl,hb,hg,hn,hc,hs,ht⟩
 ·exact Rd.nil _ _ _
 ·refine ⟨_,_,rfl,hn,hc,(fun h=> by cases h),fun _=> ⟨g,o,rfl,(Array.getElem?_eq_some_iff.1 hg).1,fun i hi=> ?_⟩⟩
  rw [cell_of_row w g (o+i) cur e (0,0) hg]
  have:=aK (k:=k) (f:=f) hi
  rw [←ht,List.getElem?_take,if_pos hi,List.getElem?_drop] at this
  simpa using this
theorem OwnAt.congr (h:OwnAt k e base w v n f) (q:∀i,i<n→f i=g i):OwnAt k e base w v n g:=by
 unfold OwnAt at *
 rwa [fP q] at h
theorem OwnAt.lt (h:OwnAt k e base w v n f):∀b,v.ownBlock=some b→base≤b∧b<w.heap.size:=by
 intro b hb
 rcases h with ⟨rfl,_⟩ | ⟨g,o,c,cur,rfl,hb',hg,_⟩
 ·simp [Value.ownBlock] at hb
 ·simp [Value.ownBlock] at hb
  subst hb
  exact ⟨hb',(Array.getElem?_eq_some_iff.1 hg).1⟩
theorem OwnAt.below (h:OwnAt k e base w v n f) (hb:Below w.heap.size w w'):OwnAt k e base w' v n f:=by
 rcases h with h | ⟨g,o,c,cur,rfl,hb',hgg,rest⟩
 ·exact .inl h
 ·refine .inr ⟨g,o,c,cur,rfl,hb',?_,rest⟩
  rw [hb.block g (Array.getElem?_eq_some_iff.1 hgg).1]
  exact hgg
theorem uV (k:IntKind) (n lo:Nat) (f:Nat→Int):(vals k n f).drop lo=vals k (n - lo) (fun i=> f (lo+i)):=by
 apply List.ext_getElem?
 intro i
 rw [List.getElem?_drop]
 by_cases hi:lo+i<n
 ·rw [aK hi,aK (by omega)]
 ·have h1:(vals k n f)[lo+i]? =none:=by simp;omega
  have h2:(vals k (n - lo) (fun i=> f (lo+i)))[i]? =none:=by simp;omega
  rw [h1,h2]
theorem OwnAt.cut {b o c:Nat} (h:OwnAt k e base w (.slice (some ⟨b,o,none⟩) n c) n f) (lo:Nat) (hlo:lo≤n):
  OwnAt k e base w (.slice (if c=lo then some ⟨b,o,none⟩ else some ⟨b,o+lo,none⟩) (n - lo) (c - lo)) (n - lo) (fun i=> f (lo+i)):=by
 rcases h with ⟨h,_⟩ | ⟨g',o',c',cur,he,hb,hg,hn,hc,hs,ht⟩
 ·cases h
 ·simp only [Value.slice.injEq,Option.some.injEq,Addr.mk.injEq,and_true,true_and] at he
  obtain ⟨⟨rfl,rfl⟩,rfl⟩:=he
  by_cases hcl:c=lo
  ·subst hcl
   obtain rfl:n=c:=by omega
   rw [if_pos rfl,Nat.sub_self]
   exact .inr ⟨b,o,0,cur,rfl,hb,hg,Nat.le_refl _,by omega,by omega,by simp [vals]⟩
  ·rw [if_neg hcl]
   refine .inr ⟨b,o+lo,c - lo,cur,rfl,hb,hg,by omega,by omega,by omega,?_⟩
   rw [←uV,←ht,List.drop_take,List.drop_drop]
theorem wD {x:Value} (h:x ∈ vals k n f):x.oneCell'=true:=by
 obtain ⟨_,_,rfl⟩:=List.mem_map.1 h
 rfl
theorem qw {m:Nat} (hf:∀i,i<m→f (n+i)=g i):vals k n f++vals k m g=vals k (n+m) f:=by
 unfold vals
 rw [List.range_add]
 simp only [List.map_append,List.map_map]
 congr 1
 exact List.map_congr_left fun i hi=> by simp [hf i (List.mem_range.1 hi)]
theorem addr_add (b o j:Nat):(⟨b,o,none⟩:Addr).add j=⟨b,o+j,none⟩:=by unfold Addr.add;split<;> simp_all
theorem OwnAt.whole (hb:base≤w.heap.size) {m c:Nat} (hmc:m≤c) (hc:c≤9223372036854775807) {cur:Array Value} (hs:cur.size=c) (ht:cur.toList.take m=vals k m f):
  OwnAt k e base (w.drew.alloc (.cells cur e)) (.slice (some ⟨w.heap.size,0,none⟩) m c) m f:=
 .inr ⟨w.heap.size,0,c,cur,rfl,hb,heap_alloc_new w.drew _,hmc,hc,by omega,by simpa using ht⟩
theorem nD {P:Program} (w:World) (t ty e:TypeId) (k:IntKind) (bytes:Nat) (h1:P.underlying t=some (.slice e)) (hinfo:(P.info? e).map (fun i=> (i.zero,i.size,i.bytes))=some (some (.int k 0),1,bytes))
  (base:Nat) (v:Value) (n:Nat) (f:Nat→Int) (hown:OwnAt k e base w v n f) (u:Value) (m:Nat) (g:Nat→Int) (hrd:Rd k w u m g) (hf:∀i,i<m→f (n+i)=g i)
  (b2:(n+m) * bytes≤140737488355328) (b3:n+m≤9223372036854775807) (b4:base≤w.heap.size):
  ∃v' w',(Builtin.append_ #[t,t] ty #[v,u]).run P w=.ok v' w'∧OwnAt k e base w' v' (n+m) f∧w.grownBy w' v.ownBlock∧(0<n+m→v'≠.slice none 0 0):=by
 obtain ⟨i,hi,hz0,hz1,hz2⟩:=info_parts hinfo
 obtain ⟨ao,c,rfl,l1,l2,l3,l4⟩:=hrd
 have Gy:(vals k m g).length=m * i.size:=by rw [hz1];simp
 by_cases hm:m=0
 ·subst hm
  rcases hown with ⟨rfl,rfl⟩ | ⟨gg,o,c',cur,rfl,hb,hg,hn,hc,hs,ht⟩
  ·refine ⟨.slice none 0 0,w,?_,OwnAt.nil _ _ _ _ _,World.grownBy.refl _ _,fun h=> absurd h (by decide)⟩
   cases ao<;> simp [Builtin.append_,run_underlying h1,sizeOf,typeInfo,hi,Builtin.lenOf,Builtin.firstCells,loadCells,loadCellsFrom]
  ·refine ⟨.slice (some ⟨gg,o,none⟩) n c',w,?_,.inr ⟨gg,o,c',cur,rfl,hb,hg,hn,hc,hs,ht⟩,World.grownBy.refl _ _,fun _ h=> by cases h⟩
   cases ao<;> simp [Builtin.append_,run_underlying h1,sizeOf,typeInfo,hi,Builtin.lenOf,Builtin.firstCells,loadCells,loadCellsFrom,hn,storeCells]
 ·obtain ⟨b,of,rfl,_,hcell⟩:=l4 (by omega)
  have hnews:∀j x,(vals k m g)[j]? =some x→w.cell? ((⟨b,of,none⟩:Addr).add j)=some x:=by
   intro j x hx
   have hj:j<m:=by
    have:=(List.getElem?_eq_some_iff.1 hx).1
    simpa using this
   rw [addr_add,hcell j hj,←aK (k:=k) (f:=g) hj]
   exact hx
  have hnews1:∀x ∈ vals k m g,x.oneCell'=true:=fun x hx=> wD hx
  rcases hown with ⟨rfl,rfl⟩ | ⟨gg,o,c',cur,rfl,hb,hg,hn,hc,hs,ht⟩
  ·have hr:=run_append_nil (P:=P) w t ty e i _ h1 hi hz0 ⟨b,of,none⟩ m c (vals k m g) Gy hnews (by omega) (by omega) (by rw [hz2];simp only [Nat.zero_add] at b2;omega)
   have hge:=grownCap_ge w m 0 e
   have hcm:grownCap w m 0 e≤maxLen:=grownCap_le_maxLen w m 0 e (by unfold maxLen;omega)
   unfold maxLen at hcm
   rw [Nat.zero_add]
   refine ⟨_,_,hr,?_,⟨rfl,rfl,rfl,by simp,fun q hq _=> ((Below.refl w.heap.size w.drew).alloc (Nat.le_refl _) _).block q hq⟩,fun _ h=> by cases h⟩
   refine OwnAt.whole b4 hge (by omega) ?_ ?_
   ·have hz:(Value.int k 0).cells=#[.int k 0] :=rfl
    simp only [Array.size_append,List.size_toArray,size_zeroCells,hz,aU]
    simp;omega
   ·rw [Array.toList_append]
    have:vals k m f=vals k m g:=fP fun i hi=> by have:=hf i hi;rwa [Nat.zero_add] at this
    rw [this]
    simp [List.take_append_of_le_length]
  ·by_cases hroom:n+m≤c'
   ·have hfm:=run_firstCells_some (P:=P) w i.size m ⟨b,of,none⟩ m c (vals k m g) Gy hnews
    have hst:=run_storeCells_at P gg (o+n) e (vals k m g) 0 cur w hg (by simp;omega) hnews1
    refine ⟨.slice (some ⟨gg,o,none⟩) (n+m) c',w.setRow gg (cur.toList.take (o+n)++vals k m g++cur.toList.drop (o+n+(vals k m g).length)).toArray,?_,?_,?_,fun _ h=> by cases h⟩
    ·simp only [Nat.add_zero] at hst
     simp [Builtin.append_,run_underlying h1,sizeOf,typeInfo,hi,Builtin.lenOf,hroom,hfm,hz1,addr_add]
     simp [hz1] at hfm
     simp [hfm,hst]
    ·refine .inr ⟨gg,o,c',_,rfl,hb,setRow_heap w gg cur _ e _ hg,hroom,hc,?_,?_⟩
     ·simp only [List.size_toArray,List.length_append,List.length_take,List.length_drop,Array.length_toList,aU]
      omega
     ·rw [←qw hf,←ht,List.append_assoc,List.drop_append_of_le_length (by simp;omega),List.drop_take]
      rw [show o+n - o=n by omega,←List.append_assoc]
      rw [List.take_append_of_le_length (by simp;omega),List.take_of_length_le (by simp;omega)]
    ·exact ⟨rfl,rfl,rfl,by simp,fun k _ hk=> setRow_other w gg k _ (fun e=> hk (by simp [Value.ownBlock,e]))⟩
   ·have holds:∀j x,(vals k n f)[j]? =some x→w.cell? ((⟨gg,o,none⟩:Addr).add j)=some x:=by
     intro j x hx
     have hj:j<n:=by
      have:=(List.getElem?_eq_some_iff.1 hx).1
      simpa using this
     rw [addr_add,cell_of_row w gg (o+j) cur e (0,0) hg]
     rw [←ht,List.getElem?_take,if_pos hj,List.getElem?_drop] at hx
     simpa using hx
    have hr:=run_append_grow (P:=P) w t ty e i _ h1 hi hz0 ⟨gg,o,none⟩ n c' (vals k n f) (by rw [hz1];simp) holds ⟨b,of,none⟩ m c (vals k m g) Gy hnews (by omega) (by omega) (growslice_fits (by omega) (by rw [hz2];exact b2))
    have hge:=grownCap_ge w (n+m) c' e
    have hcm:grownCap w (n+m) c' e≤maxLen:=grownCap_le_maxLen w (n+m) c' e (by unfold maxLen;omega)
    unfold maxLen at hcm
    refine ⟨_,_,hr,?_,⟨rfl,rfl,rfl,by simp,fun q hq _=> ((Below.refl w.heap.size w.drew).alloc (Nat.le_refl _) _).block q hq⟩,fun _ h=> by cases h⟩
    refine OwnAt.whole b4 hge (by omega) ?_ ?_
    ·have hz:(Value.int k 0).cells=#[.int k 0] :=rfl
     simp only [Array.size_append,List.size_toArray,size_zeroCells,hz,aU]
     simp;omega
    ·rw [Array.toList_append,Array.toList_append,←qw hf]
     rw [List.take_append_of_le_length (by simp),List.take_of_length_le (by simp)]
theorem oH {P:Program} {w:World} {o:Oper} {a:Act} {K:Act→World→Prop} {Q:Exit→Act→World→Prop}
  (s x:Operand) (t:TypeId) (hop:o.op=.call { callee:=.builtin .append,args:=#[s,x],argTypes:=#[t,t] })
  (base:Nat) (e:TypeId) (k:IntKind) (bytes:Nat)
  (h1:P.underlying t=some (.slice e)) (hinfo:(P.info? e).map (fun i=> (i.zero,i.size,i.bytes))=some (some (.int k 0),1,bytes))
  (v:Value) (n:Nat) (f:Nat→Int) (hown:OwnAt k e base w v n f) (hs:a.eval s=v)
  (u:Value) (m:Nat) (g:Nat→Int) (hrd:Rd k w u m g) (hx:a.eval x=u) (hf:∀i,i<m→f (n+i)=g i)
  (b2:(n+m) * bytes≤140737488355328) (b3:n+m≤9223372036854775807) (b4:base≤w.heap.size)
  (hK:∀v' w',OwnAt k e base w' v' (n+m) f→w.grownBy w' v.ownBlock→(0<n+m→v'≠.slice none 0 0)→K (a.put o.dst v') w'):
  o.wp P a w K Q:=by
 obtain ⟨v',w',hr,h2,h3,h4⟩:=nD (P:=P) w t o.type e k bytes h1 hinfo base v n f hown u m g hrd hf b2 b3 b4
 unfold Oper.wp execOp
 simp only [hop,resolve,invoke,builtin,Sem.run_bind,Sem.run_pure,Result.andThen_ok,List.map_toArray,List.map_cons,List.map_nil,hs,hx,hr]
 exact hK v' w' h2 h3 h4
theorem vZ {P:Program} {w:World} {ops:Array Oper} {rest:List Oper} {o:Oper} {a:Act} {Q:Exit→Act→World→Prop}
  (hg:o.guard=none) (s x:Operand) (t:TypeId) (hop:o.op=.call { callee:=.builtin .append,args:=#[s,x],argTypes:=#[t,t] })
  (base:Nat) (e:TypeId) (k:IntKind) (bytes:Nat)
  (h1:P.underlying t=some (.slice e)) (hinfo:(P.info? e).map (fun i=> (i.zero,i.size,i.bytes))=some (some (.int k 0),1,bytes))
  (v:Value) (n:Nat) (f:Nat→Int) (hown:OwnAt k e base w v n f) (hs:a.eval s=v)
  (u:Value) (m:Nat) (g:Nat→Int) (hrd:Rd k w u m g) (hx:a.eval x=u) (hf:∀i,i<m→f (n+i)=g i)
  (b2:(n+m) * bytes≤140737488355328) (b3:n+m≤9223372036854775807) (b4:base≤w.heap.size)
  (hK:∀v' w',OwnAt k e base w' v' (n+m) f→w.grownBy w' v.ownBlock→(0<n+m→v'≠.slice none 0 0)→wpList P ops Q rest (a.put o.dst v') w'):
  wpList P ops Q (o::rest) a w:=
 wpList_plain hg fun _ hK'=> oH s x t hop base e k bytes h1 hinfo v n f hown hs u m g hrd hx hf b2 b3 b4 fun v' w' q1 q2 q3=> hK' _ _ (hK v' w' q1 q2 q3)
end Go.aG
namespace Go.aG
open Go.RowKit
theorem kY {P:Program} (w:World) (t u ty e:TypeId) (k:IntKind) (bytes:Nat) (h1:P.underlying t=some (.slice e)) (hu:P.underlying u=some (.int .i64)) (hinfo:(P.info? e).map (fun i=> (i.zero,i.size,i.bytes))=some (some (.int k 0),1,bytes))
  (base:Nat) (g n c:Nat) (f:Nat→Int) (hown:Own k e base w (.slice (some ⟨g,0,none⟩) n c) n f) (m:Nat) (hc:c<n+m) (hf:∀i,i<m→f (n+i)=0)
  (b2:(n+m) * bytes≤140737488355328) (b3:n+m≤9223372036854775807) (b4:base≤w.heap.size):
  ∃v' w',(Builtin.append_ #[t,u] ty #[.slice (some ⟨g,0,none⟩) n c,.int .i64 (m:Int)]).run P w=.ok v' w'∧Own k e base w' v' (n+m) f∧w.grownBy w' none:=by
 obtain ⟨i,hi,hz0,hz1,hz2⟩:=info_parts hinfo
 have hcell:=hown.cells (g:=g) rfl
 have hlen:=hown.1
 have hnc:n≤c:=by
  rcases hown.2 with ⟨h,_⟩ | ⟨g',cap,cur,he,_,_,hn,_⟩
  ·cases h
  ·simp only [Value.slice.injEq,true_and] at he
   obtain ⟨_,rfl⟩:=he
   exact hn
 have hm0:0<m:=by omega
 have hn:¬ (n+m≤c):=by omega
 have h63':¬ (9223372036854775807<((n:Int)+(m:Int))):=by omega
 have hfit:Builtin.nextslicecap (n+m) c * i.bytes≤281474976710656:=growslice_fits (by omega) (by rw [hz2];exact b2)
 have h48':¬ (281474976710656<Builtin.nextslicecap (n+m) c * i.bytes):=by omega
 have hfo:=run_firstCells_some (P:=P) w.drew i.size n ⟨g,0,none⟩ n c (vals k n f) (by rw [hz1];simp) (by simpa using hcell)
 have hw:IntKind.i64.wrap (m:Int)=(m:Int):=gM (by omega) (by omega)
 have hneg:¬ ((m:Int)<0):=by omega
 have hmb:m * i.bytes≤140737488355328:=Nat.le_trans (Nat.mul_le_mul_right i.bytes (show m≤n+m by omega)) (by rw [hz2];exact b2)
 have hbig:¬ (281474976710656<(m:Int) * (i.bytes:Int)):=by
  rw [←Int.natCast_mul]
  omega
 have hge:=grownCap_ge w (n+m) c e
 have hcm:grownCap w (n+m) c e≤maxLen:=grownCap_le_maxLen w (n+m) c e (by unfold maxLen;omega)
 have hrun:(Builtin.append_ #[t,u] ty #[.slice (some ⟨g,0,none⟩) n c,.int .i64 (m:Int)]).run P w=
   .ok (.slice (some ⟨w.heap.size,0,none⟩) (n+m) (grownCap w (n+m) c e)) (w.drew.alloc (.cells ((vals k n f).toArray++Builtin.zeroCells (Value.int k 0).cells m++Builtin.zeroCells (Value.int k 0).cells (grownCap w (n+m) c e - (n+m))) e)):=by
  rw [hz1] at hfo
  have hmz:¬ m=0:=by omega
  simp [Builtin.append_,run_underlying h1,run_underlying hu,sizeOf,typeInfo,zeroValue,hi,hz0,hz1,asInt,asIntOf,hw,hneg,hbig,hn,h63',h48',Question.forced,hfo,hmz,newRow,grownCap]
 refine ⟨_,_,hrun,?_,⟨rfl,rfl,rfl,by simp,fun q hq _=> ((Below.refl w.heap.size w.drew).alloc (Nat.le_refl _) _).block q hq⟩⟩
 have hz:(Value.int k 0).cells=#[.int k 0] :=rfl
 have LM:(Builtin.zeroCells (Value.int k 0).cells m).toList=vals k m (fun _=> 0):=by
  apply List.ext_getElem?
  intro j
  by_cases hj:j<m
  ·rw [aK hj];simp [Builtin.zeroCells,hz,hj,Nat.mod_one]
  ·simp [Builtin.zeroCells,hz,hj,vals]
 have hva:vals k n f++vals k m (fun _=> 0)=vals k (n+m) f:=by
  unfold vals
  rw [List.range_add]
  simp only [List.map_append,List.map_map]
  congr 1
  exact List.map_congr_left fun i hi=> by simp [hf i (List.mem_range.1 hi)]
 refine ⟨by simp,.inr ⟨w.heap.size,_,_,rfl,b4,heap_alloc_new w.drew _,hge,hcm,?_,?_⟩⟩
 ·simp only [Array.size_append,List.size_toArray,size_zeroCells,hz,aU]
  simp;omega
 ·rw [Array.toList_append,Array.toList_append,LM,List.append_assoc]
  rw [←List.append_assoc]
  simp only [List.toList_toArray]
  rw [hva,List.take_append_of_le_length (by simp),List.take_of_length_le (by simp)]
theorem rO {P:Program} {w:World} {ops:Array Oper} {rest:List Oper} {o:Oper} {a:Act} {Q:Exit→Act→World→Prop}
  (hg:o.guard=none) (s x:Operand) (t u:TypeId) (hop:o.op=.call { callee:=.builtin .append,args:=#[s,x],argTypes:=#[t,u] })
  (base:Nat) (e:TypeId) (k:IntKind) (bytes:Nat)
  (h1:P.underlying t=some (.slice e)) (hu:P.underlying u=some (.int .i64)) (hinfo:(P.info? e).map (fun i=> (i.zero,i.size,i.bytes))=some (some (.int k 0),1,bytes))
  (b n c:Nat) (f:Nat→Int) (hown:Own k e base w (.slice (some ⟨b,0,none⟩) n c) n f) (hs:a.eval s=.slice (some ⟨b,0,none⟩) n c) (m:Nat) (hx:a.eval x=.int .i64 (m:Int)) (hc:c<n+m) (hf:∀i,i<m→f (n+i)=0)
  (b2:(n+m) * bytes≤140737488355328) (b3:n+m≤9223372036854775807) (b4:base≤w.heap.size)
  (hK:∀v' w',Own k e base w' v' (n+m) f→w.grownBy w' none→wpList P ops Q rest (a.put o.dst v') w'):
  wpList P ops Q (o::rest) a w:=by
 refine wpList_plain hg fun K hK'=> ?_
 obtain ⟨v',w',hr,h2,h3⟩:=kY (P:=P) w t u o.type e k bytes h1 hu hinfo base b n c f hown m hc hf b2 b3 b4
 unfold Oper.wp execOp
 simp only [hop,resolve,invoke,builtin,Sem.run_bind,Sem.run_pure,Result.andThen_ok,List.map_toArray,List.map_cons,List.map_nil,hs,hx,hr]
 exact hK' _ _ (hK v' w' h2 h3)
end Go.aG
