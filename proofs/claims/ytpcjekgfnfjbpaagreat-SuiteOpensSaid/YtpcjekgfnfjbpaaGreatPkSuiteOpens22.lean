/-
  Part 22 of the texts that the proof of SuiteOpens rests on, one after the other. Conditions: named in each theorem.
-/
import Derived.Test.YtpcjekgfnfjbpaaGreatPkSuiteOpens20
import Derived.Test.YtpcjekgfnfjbpaaGreatPkSuiteOpens21
import Derived.StillTailTactics
set_option linter.unusedVariables false
set_option linter.unusedSimpArgs false
set_option maxRecDepth 100000
set_option maxHeartbeats 3200000
namespace Go.aG
open Go.RowKit
def bC (S:TS) (n:Int):List Int × Bool:=if aY S.l n 9=true then (S.tx.getD (bF S.l n.toNat).2.1.toNat [],true) else ([],false)
end Go.aG
namespace Go.Proofs.YtpcjekgfnfjbpaaGreat
open Go.RowKit Go.aG Go.ChangeShapes Go.Maps
attribute [local go_sem ↓] Go.wp_at_zero Go.wp_at_succ
section
variable {B : Nat} {w w' : World} {p mb mt : Nat} {vl vb : Value} {tv : Nat → Value} {S : TS}
theorem uY (h:lC B w p mb mt vl vb tv S) (n:Int) (hn:aY S.l n 9=false):Calls Tryz.prog 62 #[.pointer (some ⟨p,0,none⟩),.int .i64 n] w fun e w'=> e=.returned (.tuple #[.slice none 0 0,.bool false])∧w'=w:=by
 have H:=Lib.hid h
 have HN:=Lib.hid hn
 clear h hn
 go_enter Tryz.func62,Tryz.ntmps62
 go_wp2_with fail
 refine (fU H.out).mono ?_
 rintro e w1' ⟨rfl,rfl⟩
 go_wp2_with fail
 refine (bn H.out n 9).mono ?_
 rintro e w2 ⟨rfl,rfl⟩
 rw [HN.out]
 go_wp2
 go_ret2
 exact ⟨rfl,rfl⟩
theorem sD (h:lC B w p mb mt vl vb tv S) (a j:Nat) (b:List Int) (z:Int) (ha:S.l[a]? =some (9,(j:Int),z)) (hb:S.tx[j]? =some b) (hl:S.l.length≤1000) (hx:S.tx.length≤1000):
  Calls Tryz.prog 62 #[.pointer (some ⟨p,0,none⟩),.int .i64 (a:Int)] w fun e w'=> ∃v,e=.returned (.tuple #[v,.bool true])∧Rd .u8 w' v b.length (bf b)∧Below w.heap.size w w':=by
 have H:=Lib.hid h
 have HN:Hid (aY S.l (a:Int) 9=true):=Lib.hid (eH.2 ⟨a,rfl,_,ha,.inr rfl⟩)
 have c0:=h.c0
 have c3:=h.c3
 have hla:=(List.getElem?_eq_some_iff.1 ha).1
 have hlb:=(List.getElem?_eq_some_iff.1 hb).1
 obtain ⟨g,cap,ev,_,_,_,hc⟩:=h.ls.form (by omega)
 obtain ⟨g2,cap2,Ke,_,_,_,hc2⟩:=h.bs.form (by omega)
 have HO:=Lib.hid (h.bt j b hb)
 obtain ⟨au,cu,eu,_⟩:=(h.bt j b hb).kZ.slice
 have c1:w.cell? ⟨g,a * 3+1,none⟩=some (.int .i64 (j:Int)):=(hc a hla 1 (by decide)).trans (congrArg some (oK ha))
 have c2:w.cell? ⟨g2,j,none⟩=some (.slice au b.length cu):=by
  have:=hc2 j hlb 0 (by decide)
  rw [Nat.mul_one,Nat.add_zero,eu] at this
  exact this
 rw [eu] at HO
 rw [ev] at c0
 rw [Ke] at c3
 have h1:(a:Int)<(S.l.length:Int):=by omega
 have h2:(j:Int)<(S.tx.length:Int):=by omega
 have h3:(a:Int)<1000000:=by omega
 have h4:(j:Int)<1000000:=by omega
 have Fp:Hid (b.length≤1048576):=Lib.hid (h.Aq b (List.mem_of_getElem? hb)).2
 clear h ha hb hc hc2 ev Ke eu hl hx
 go_enter Tryz.func62,Tryz.ntmps62
 go_wp2_with fail
 refine (fU H.out).mono ?_
 rintro e w1' ⟨rfl,rfl⟩
 go_wp2_with fail
 refine (bn H.out a 9).mono ?_
 rintro e w2 ⟨rfl,rfl⟩
 rw [HN.out]
 go_upto_region 3 with (fail)
 apply bJ (n:=30) [.e,.e,.e,.e,.e,.e,.e,.e,.e,.e,.e,.e,.e,.e,.c,.c,.e] 2 (by kernel_rfl) (by kernel_rfl) (by kernel_rfl) rfl
 ·intro w5 zT
  have d0:=(zT.cell (p:=⟨p,0,none⟩) (World.block_lt_of_cell? _ _ c0)).trans c0
  have d3:=(zT.cell (p:=⟨p,3,none⟩) (World.block_lt_of_cell? _ _ c3)).trans c3
  have d1:=(zT.cell (p:=⟨g,a * 3+1,none⟩) (World.block_lt_of_cell? _ _ c1)).trans c1
  have d2:=(zT.cell (p:=⟨g2,j,none⟩) (World.block_lt_of_cell? _ _ c2)).trans c2
  simp only [aM,Cl.qh,cond_true,cond_false]
  repeat still_step
  exact wpStill_nil rfl
 ·intro w5
  simp only [aM,Cl.yV,cond_true,cond_false]
  repeat still_step
  exact wpStill_nil rfl
 ·simp only [aM,Cl.fH,cond_true,cond_false]
  refine fJ ((Below.refl _ _).drew) (fun K hK=> ?_)
  go_simp
  refine (jZ _ _ _ _ ((HO.out.below ((Below.refl w2.heap.size w2).drew)).rd) (by have:=Fp.out;omega)).mono ?_
  rintro e w5 ⟨u,rfl,hu,b5⟩
  have uQ:Below w2.heap.size w2 w5:=((Below.refl w2.heap.size w2).drew).trans b5
  refine hK _ _ uQ ?_
  clear hK K
  have HU:=Lib.hid hu.rd
  obtain ⟨a5,c5,e5,_⟩:=hu.kZ.slice
  subst e5
  refine fJ uQ (fun K hK=> ?_)
  go_simp
  refine hK _ _ uQ (fI ?_)
  clear hK K
  go_wp2
  refine oh ?_
  go_wp2
  go_ret2
  exact ⟨_,rfl,HU.out,uQ⟩
end
end Go.Proofs.YtpcjekgfnfjbpaaGreat
namespace Go.aG
open Go.RowKit
def mV (n:Nat) (f:Nat→Int):List Int:=(List.range n).map f
@[simp] theorem jc (n:Nat) (f:Nat→Int):(mV n f).length=n:=by simp [mV]
theorem tN {n i:Nat} {f:Nat→Int} (h:i<n):bf (mV n f) i=f i:=by
 unfold bf mV
 rw [List.getD_eq_getElem?_getD,List.getElem?_map,List.getElem?_range h]
 rfl
theorem lJ {n:Nat} {f:Nat→Int} (h:∀i,i<n→0≤f i∧f i<256):okB (mV n f):=by
 intro x hx
 obtain ⟨i,hi,rfl⟩:=List.mem_map.1 hx
 exact h i (List.mem_range.1 hi)
theorem xK (l:List Int):mV l.length (bf l)=l:=by
 apply List.ext_getElem?
 intro i
 by_cases h:i<l.length
 ·unfold mV bf
  rw [List.getElem?_map,List.getElem?_range h,List.getElem?_eq_getElem h]
  simp [List.getD_eq_getElem?_getD,List.getElem?_eq_getElem h]
 ·rw [List.getElem?_eq_none (by simpa using h),List.getElem?_eq_none (by omega)]
theorem vP {n:Nat} {f g:Nat→Int} (h:∀i,i<n→f i=g i):mV n f=mV n g:=List.map_congr_left fun i hi=> h i (List.mem_range.1 hi)
theorem Rd.mV {k:IntKind} {w:World} {v:Value} {n:Nat} {f:Nat→Int} (h:Rd k w v n f):Rd k w v (Go.aG.mV n f).length (bf (Go.aG.mV n f)):=by
 rw [jc]
 exact h.congr fun i hi=> (tN hi).symm
def jS (n:Int) (i:Nat):Int:=n / 2 ^ (8 * (8 - 1 - i)) % 256
theorem mo (n:Int) (i:Nat):0≤jS n i∧jS n i<256:=by unfold jS;omega
theorem yI {n:Int} (h0:0≤n) (h1:n<2 ^ 64):big (jS n) 8=n:=by
 have:=pX (n:=n) (s:=8) (by omega) 8 (Nat.le_refl _)
 rw [show (8:Nat) * (8 - 8)=0 from rfl,Int.pow_zero,Int.ediv_one] at this
 exact this
def bD (n:Int):List Int:=mV 9 (gF 1 (fun _=> 247) (jS n))
theorem bN (n:Int):(bD n).length=9:=jc _ _
theorem wE (n:Int):okB (bD n):=lJ (bT (n:=1) (m:=8) (fun _ _=> by decide) fun i _=> mo n i)
theorem Bc (n:Int):bf (bD n) 0=247:=tN (by decide)
theorem Bb (n:Int) (i:Nat) (h:i<8):bf (bD n) (1+i)=jS n i:=(tN (by omega)).trans pV
def uo (l:List Int) (i:Nat):Int:=bf l (1+i)
def bA (S:TS) (l:List Int):Option Nat:=if l.length=9∧bf l 0=247∧eO (uo l) 8=0∧dD (uo l) 8<S.l.length then some (dD (uo l) 8).toNat else none
theorem mM {f g:Nat→Int}:∀k:Nat,(∀i,i<k→f i=g i)→big f k=big g k
 | 0,_=> rfl
 | k+1,h=> by rw [big,big,mM k fun i hi=> h i (by omega),h k (by omega)]
theorem wF {n:Int} (h0:0≤n) (h1:n≤4611686018427387904):eO (uo (bD n)) 8=0∧dD (uo (bD n)) 8=n:=by
 have e:big (uo (bD n)) 8=n:=(mM 8 fun i hi=> Bb n i hi).trans (yI h0 (by omega))
 unfold eO dD
 rw [e,if_neg (by decide),if_neg (by decide),if_neg (by omega),if_neg (by omega)]
 exact ⟨rfl,rfl⟩
theorem oo {S:TS} {n:Nat} (h:n<S.l.length) (hl:S.l.length≤4611686018427387904):bA S (bD n)=some n:=by
 obtain ⟨h1,h2⟩:=wF (n:=(n:Int)) (by omega) (by omega)
 unfold bA
 rw [if_pos ⟨bN _,Bc _,h1,by rw [h2];omega⟩,h2,Int.toNat_natCast]
theorem mK {f:Nat→Int}:∀k,(∀i,i<k→0≤f i)→0≤big f k
 | 0,_=> Int.le_refl _
 | k+1,h=> by have:=mK k fun i hi=> h i (by omega);have:=h k (by omega);rw [big];omega
theorem iN {f:Nat→Int} {k:Nat} (h:∀i,i<k→0≤f i):0≤dD f k:=by
 unfold dD
 split
 ·exact Int.le_refl _
 ·exact mK k h
theorem bV {S:TS} {l:List Int} {n:Nat} (hb:okB l) (h:bA S l=some n):n<S.l.length:=by
 unfold bA at h
 split at h
 ·rename_i h'
  have h0:0≤dD (uo l) 8:=iN fun i hi=> (hb.at _ (by omega)).1
  obtain rfl:=Option.some.inj h
  have:=h'.2.2.2
  omega
 ·cases h
theorem dS (S:TS):bA S [] =none:=by unfold bA;rw [if_neg (fun h=> by simp at h)]
def TS.few (S:TS):Prop:=∀s,jJ S.l s≤S.l.length
theorem TS.few.nil:TS.few ⟨[], []⟩:=fun s=> Int.le_refl _
theorem TS.few.add {S:TS} (h:S.few) {t:Tm} (ht:t.1=1→t.2.2≤S.l.length):(S.add t).few:=fun s=> by
 have:=h s
 rw [qd]
 show jJ (S.l++ [t]) s≤_
 rw [gZ]
 split
 ·rename_i h'
  have:=ht h'.1
  unfold eU
  omega
 ·omega
theorem TS.few.put {S:TS} (h:S.few) {t:Tm} (ht:t.1≠1):(S.put t).few:=by
 unfold TS.put
 split
 ·exact h.add fun e=> absurd e ht
 ·exact h
theorem TS.few.draw {S:TS} (h:S.few) (s:Int):(S.draw s).few:=by
 unfold TS.draw
 split
 ·exact h.add fun _=> h s
 ·exact h
theorem TS.few.text {S:TS} (h:S.few) (b:List Int):(S.text b).few:=by
 unfold TS.text
 split
 ·exact h
 ·exact fun s=> by
   have:=(h.add (t:=((9,(S.tx.length:Int),0):Tm)) (fun e=> absurd e (by simp))) s
   exact this
abbrev TA:Type:=List Int × Int × TS
def dJ (k:Int) (S:TS) (l:List Int):TA:=match bA S l with
 | some n=> (bD (dW S (k,n,0)).1,0,S.put (k,n,0))
 | none=> ([],11,S)
def kN (S:TS) (n:Nat):Int:=(bF S.l n).1
def fQ (k:Int) (S:TS) (a b:List Int):TA:=match bA S a,bA S b with
 | some n,some m=> if k=4∧kN S n≠2 then ([],11,S) else (bD (dW S (k,n,m)).1,0,S.put (k,n,m))
 | _,_=> ([],11,S)
def gI (S:TS) (s:Int):TA:=if isSort s=true then (bD S.l.length,0,S.draw s) else ([],2,S)
def kE (S:TS) (a x:List Int):TA:=match bA S a with
 | some n=> (bD (dW (S.text x) (8,n,fD S x)).1,0,(S.text x).put (8,n,fD S x))
 | none=> ([],11,S)
def gB (S:TS) (x:List Int):TA:=(bD (dW (S.text x) (10,fD S x,0)).1,0,(S.text x).put (10,fD S x,0))
def mJ (S:TS) (x:List Int):TA:=(bD (fD S x),0,S.text x)
end Go.aG
namespace Go.Proofs.YtpcjekgfnfjbpaaGreat
open Go.RowKit Go.aG
def dM (S:TS) (a b:List Int):List Int × Int:=match bA S a,bA S b with
 | some n,some m=> if kN S m=4∧(jG S (bF S.l m).2.1).1.2.1=n then (bD (bF S.l m).2.2,0) else ([],20)
 | _,_=> ([],11)
def dN (S:TS) (a b:List Int):List Int × Int:=match bA S a,bA S b with
 | some n,some m=> if kN S m=5∧(bF S.l m).2.1=n then (bD (bF S.l m).2.2,0) else ([],20)
 | _,_=> ([],11)
def gD (S:TS) (v x g:List Int):Int:=match bA S v,bA S g with
 | some n,some m=> if kN S m=8∧kN S n=3∧(bF S.l n).2.1=(bF S.l m).2.1∧bC S (bF S.l m).2.2=(x,true) then 0 else 22
 | _,_=> 11
end Go.Proofs.YtpcjekgfnfjbpaaGreat
namespace Go.Proofs.YtpcjekgfnfjbpaaGreat
open Go.RowKit Go.aG Go.ChangeShapes Go.Maps
attribute [local go_sem ↓] Go.wp_at_zero Go.wp_at_succ
theorem wH (w:World):Calls Tryz.prog 106 #[] w fun e w'=> ∃p F,e=.returned (.pointer (some ⟨p,0,none⟩))∧jK w.heap.size w' p F ⟨[], []⟩∧Below w.heap.size w w':=by
 have HM:=Lib.hid (jL.made Tryz.prog 96 3 w (fun i=> lv sj [] i 0) (fun i=> match ([] :List Tm)[i]? with | some x=> jD (nH [] x) | none=> undef))
 have Nn:=Lib.hid (jL.made Tryz.prog 9 3 (w.alloc (.map #[] 0)) (fun i=> lv Bd [] i 0) (fun i=> match ([] :List (List Int))[i]? with | some x=> jD (qy ⟨[], []⟩ x) | none=> undef))
 have hmk:∀w,(Instr.makeMap 160 none).run Tryz.prog w=.ok (.map (some w.heap.size)) (w.alloc (.map #[] 0)):=fun w=> rfl
 have LY:∀w,(Instr.makeMap 161 none).run Tryz.prog w=.ok (.map (some w.heap.size)) (w.alloc (.map #[] 0)):=fun w=> rfl
 go_enter Tryz.func106,Tryz.ntmps106
 go_wp2
 go_ret
 obtain ⟨W2,hW2⟩:∃W2,(w.alloc (.map #[] 0)).alloc (.map #[] 0)=W2:=⟨_,rfl⟩
 have b1:Below w.heap.size w W2:=by rw [←hW2];exact ((Below.refl _ _).alloc (Nat.le_refl _) _).alloc (by simp) _
 have hs:W2.heap.size=w.heap.size+1+1:=by rw [←hW2];simp
 have m1:=(HM.out.alloc (.map #[] 0))
 have m2:=Nn.out
 rw [hW2] at m1 m2
 rw [World.size_alloc] at m2
 rw [hW2,←hs]
 obtain ⟨O,hO⟩:∃O,O=Obj.cells #[.slice none 0 0,.map (some w.heap.size),.map (some (w.heap.size+1)),.slice none 0 0,.int .i64 0,.int .i64 0,.int .i64 0,.int .i64 0,.int .i64 0] 164:=⟨_,rfl⟩
 have hb:=heap_alloc_new W2 (.cells #[.slice none 0 0,.map (some w.heap.size),.map (some (w.heap.size+1)),.slice none 0 0,.int .i64 0,.int .i64 0,.int .i64 0,.int .i64 0,.int .i64 0] 164)
 have hc:=fun i=> cell_of_row _ _ i _ _ (0,0) hb
 refine ⟨W2.heap.size,_,rfl,⟨w.heap.size,w.heap.size+1,.slice none 0 0,.slice none 0 0,fun _=> .slice none 0 0,⟨⟨⟨_,hb,rfl⟩,hc 0,hc 1,hc 2,hc 3,fun k hk=> ?_,cO.nil _ _ _ _,m1.alloc _,m2.alloc _,cO.nil _ _ _ _,fun j b hj=> (by simp at hj),by omega,by omega,Nat.le_refl _,by omega,fun b hb=> (by cases hb),fun b hb=> (by cases hb)⟩,List.nodup_nil,List.nodup_nil,fun j hj=> absurd hj (Nat.not_lt_zero _),fun t ht=> (by cases ht),fun b hb=> (by cases hb)⟩,TS.Ok.empty,fun b=> Iff.rfl⟩,b1.alloc b1.size _⟩
 rcases (by omega:k=0∨k=1∨k=2∨k=3∨k=4) with rfl | rfl | rfl | rfl | rfl<;> exact hc _
theorem wP {B:Nat} {w:World} {p:Nat} {F:Nat→Prop} {S:TS} (h:jK B w p F S):Calls Tryz.prog 115 #[.pointer (some ⟨p,0,none⟩)] w fun e w'=> e=.returned (jD S.l.length)∧w'=w:=by
 obtain ⟨mb,mt,vl,vb,tv,h1,_,_⟩:=h
 exact wJ h1
theorem lY {B:Nat} {w:World} {p:Nat} {F:Nat→Prop} {S:TS} (h:jK B w p F S) (n:Int) (hl:S.l.length≤1000) (hx:S.tx.length≤1000):Calls Tryz.prog 62 #[.pointer (some ⟨p,0,none⟩),.int .i64 n] w fun e w'=> ∃v,e=.returned (.tuple #[v,.bool (bC S n).2])∧Rd .u8 w' v (bC S n).1.length (bf (bC S n).1)∧Below w.heap.size w w':=by
 obtain ⟨mb,mt,vl,vb,tv,h1,h2,_⟩:=h
 unfold bC
 by_cases hn:aY S.l n 9=true
 ·rw [if_pos hn]
  obtain ⟨a,rfl,⟨k,A,z⟩,ht,hk⟩:=eH.1 hn
  have FE:k=9:=hk.elim (fun h=> absurd h (by decide)) id
  subst FE
  obtain ⟨j,rfl,hj⟩:∃j:Nat,A=j∧j<S.tx.length:=by
   rcases h2.ok a _ ht with ⟨h1,_⟩ | ⟨h1,_⟩ | ⟨h1,_⟩ | ⟨h1,_⟩ | ⟨h1,_⟩ | ⟨_,⟨j,h1,h2⟩,_⟩ | ⟨h1,_⟩
   ·simp only at h1;omega
   ·simp only at h1;omega
   ·simp only at h1;omega
   ·simp only at h1;omega
   ·simp only at h1;omega
   ·exact ⟨j,h1,h2⟩
   ·simp only at h1;omega
  have e:=sD h1 a j S.tx[j] z ht (List.getElem?_eq_getElem hj) hl hx
  rw [Int.toNat_natCast,oL ht]
  show Calls _ _ _ _ fun e w'=> ∃v,e=.returned (.tuple #[v,.bool true])∧Rd .u8 w' v (S.tx.getD j []).length (bf (S.tx.getD j []))∧_
  rw [List.getD_eq_getElem?_getD,List.getElem?_eq_getElem hj]
  exact e
 ·rw [if_neg hn]
  refine (uY h1 n (by simpa using hn)).mono ?_
  rintro e w' ⟨rfl,rfl⟩
  exact ⟨_,rfl,(Go.aG.Own.nil .u8 5 0 w' (bf [])).rd,Below.refl _ _⟩
end Go.Proofs.YtpcjekgfnfjbpaaGreat
namespace Go.aG
open Go.RowKit
structure bg (F:Nat→Prop) (w:World) (v:Value) (l:List Int):Prop where
 ok:okB l
 rd:Rd .u8 w v l.length (bf l)
 off:0<l.length→∀b,v.ownBlock=some b→¬ F b
section
variable {F F' G : Nat → Prop} {w w' : World} {v : Value} {l : List Int}
theorem Rd.pW {k:IntKind} {n:Nat} {f:Nat→Int} (h:Rd k w v n f) (hn:0<n) {b:Nat} (hb:v.ownBlock=some b):b<w.heap.size:=by
 obtain ⟨a,c,rfl,_,_,_,h4⟩:=h
 obtain ⟨g,o,rfl,hlt,_⟩:=h4 hn
 obtain rfl:g=b:=by simpa [Value.ownBlock] using hb
 exact hlt
theorem bg.below (h:bg F w v l) (hb:Below w.heap.size w w'):bg F w' v l:=⟨h.ok,h.rd.below hb,h.off⟩
theorem bg.keep (h:bg F w v l) (hc:aZ G w w') (hG:∀b,G b→F b) (hF:∀b,F' b→F b∨w.heap.size≤b):bg F' w' v l:=by
 refine ⟨h.ok,h.rd.zZ hc fun hn b hb hg=> h.off hn b hb (hG b hg),fun hn b hb hf=> ?_⟩
 rcases hF b hf with h1 | h1
 ·exact h.off hn b hb h1
 ·have:=h.rd.pW hn hb;omega
structure rT (p:Nat) (F:Nat→Prop) (w w':World):Prop where
 jh:aZ (fun b=> b=p∨F b) w w'
 u8:∀b,b<w.heap.size→¬ F b→∀i x,w.cell? ⟨b,i,none⟩=some (.int .u8 x)→w'.cell? ⟨b,i,none⟩=some (.int .u8 x)
theorem rT.of_below {p:Nat} (h:Below w.heap.size w w') (F:Nat→Prop):rT p F w w':=⟨.of_below h _,fun b hb _ i x hx=> (h.cell (p:=⟨b,i,none⟩) hb).trans hx⟩
theorem rT.trans {p:Nat} {w'':World} (h:rT p F w w') (h':rT p F' w' w'') (hF:∀b,F' b→F b∨w.heap.size≤b):rT p F w w'':=
 ⟨h.jh.trans h'.jh fun b hb h1=> h1.imp id fun h2=> (hF b h2).elim id fun h3=> by omega,fun b hb hn i x hx=> h'.u8 b (Nat.lt_of_lt_of_le hb h.jh.size) (fun h2=> (hF b h2).elim hn fun h3=> by omega) i x (h.u8 b hb hn i x hx)⟩
theorem rT.Br {p:Nat} (h:aZ F w w'):rT p F w w':=⟨h.mono fun b _ hb=> .inr hb,fun b hb hn i x hx=> (h.cell (p:=⟨b,i,none⟩) hb hn).trans hx⟩
theorem Rd.Mv {p n:Nat} {f:Nat→Int} (h:Rd .u8 w v n f) (hc:rT p F w w') (hne:0<n→∀b,v.ownBlock=some b→¬ F b):Rd .u8 w' v n f:=by
 obtain ⟨a,c,rfl,h1,h2,h3,h4⟩:=h
 refine ⟨a,c,rfl,h1,h2,h3,fun hn=> ?_⟩
 obtain ⟨b,o,rfl,hlt,hcell⟩:=h4 hn
 have:=hc.jh.size
 exact ⟨b,o,rfl,by omega,fun i hi=> hc.u8 b hlt (hne hn b rfl) _ _ (hcell i hi)⟩
theorem bg.nil (F:Nat→Prop) (w:World):bg F w (.slice none 0 0) [] :=⟨(fun _ h=> by cases h),Rd.nil _ _ _,fun h=> absurd h (by decide)⟩
theorem bg.own {e:TypeId} {N n:Nat} {f:Nat→Int} (h:Own .u8 e N w v n f) (hf:∀i,i<n→0≤f i∧f i<256) (hF:∀b,F b→b<N):bg F w v (mV n f):=
 ⟨lJ hf,h.rd.mV,fun _ b hb Mj=> by have:=h.block b hb;have:=hF b Mj;omega⟩
end
end Go.aG
namespace Go.Proofs.YtpcjekgfnfjbpaaGreat
open Go.RowKit Go.aG Go.ChangeShapes Go.Maps
attribute [local go_sem ↓] Go.wp_at_zero Go.wp_at_succ
structure dH (w:World) (p:Nat) (kd:Int) (sd:Nat→Int) (n:Int) (s:Value):Prop where
 row:dY w p 105 35
 ck:w.cell? ⟨p,0,none⟩=some (.int .i64 kd)
 cs:∀i,i<32→w.cell? ⟨p,1+i,none⟩=some (.int .u8 (sd i))
 cn:w.cell? ⟨p,33,none⟩=some (.int .i64 n)
 cp:w.cell? ⟨p,34,none⟩=some s
section
variable {B : Nat} {w w' : World} {p q : Nat} {F G G' : Nat → Prop} {S S' : TS} {kd n : Int} {sd : Nat → Int} {s : Value}
theorem dH.keep (h:dH w p kd sd n s) (hc:aZ F w w') (hF:¬ F p):dH w' p kd sd n s:=
 have hl:=h.row.lt
 ⟨h.row.heap (hc.block p hl hF),(hc.cell (p:=⟨p,0,none⟩) hl hF).trans h.ck,fun i hi=> (hc.cell (p:=⟨p,1+i,none⟩) hl hF).trans (h.cs i hi),(hc.cell (p:=⟨p,33,none⟩) hl hF).trans h.cn,(hc.cell (p:=⟨p,34,none⟩) hl hF).trans h.cp⟩
theorem dH.below (h:dH w p kd sd n s) (hb:Below w.heap.size w w'):dH w' p kd sd n s:=h.keep (.of_below hb fun _=> False) id
theorem dH.rd (h:dH w p kd sd n s):Rd .u8 w (.slice (some ⟨p,1,none⟩) 32 32) 32 sd:=⟨_,_,rfl,Nat.le_refl _,by decide,(fun h=> by cases h),fun _=> ⟨p,1,rfl,h.row.lt,h.cs⟩⟩
structure uR (B:Nat) (w:World) (p q:Nat) (G:Nat→Prop) (S:TS):Prop where
 r:dH w p 2 (fun _=> 0) 0 (.pointer (some ⟨q,0,none⟩))
 st:jK B w q G S
 few:S.few
 hp:B≤p
 np:¬ G p
def fO (B:Nat) (w:World) (p:Nat) (F:Nat→Prop) (S:TS):Prop:=∃q G,uR B w p q G S∧∀b,F b ↔ b=p∨G b
theorem uR.below (h:uR B w p q G S) (hb:Below w.heap.size w w'):uR B w' p q G S:=⟨h.r.below hb,h.st.below hb,h.few,h.hp,h.np⟩
theorem uR.hB (h:uR B w p q G S):B≤w.heap.size:=Nat.le_trans h.hp (Nat.le_of_lt h.r.row.lt)
theorem uR.lt (h:uR B w p q G S) {b:Nat} (hb:b=p∨G b):b<w.heap.size:=by
 rcases hb with rfl | hb
 ·exact h.r.row.lt
 ·exact h.st.lt hb
theorem uR.put (h:uR B w p q G S) (h1:jK B w' q G' S') (hc:aZ G w w') (hf:∀b,G' b→G b∨w.heap.size≤b) (hw:S'.few):uR B w' p q G' S':=
 ⟨h.r.keep hc h.np,h1,hw,h.hp,fun hb=> (hf p hb).elim h.np fun h'=> by have:=h.r.row.lt;omega⟩
theorem fO.below (h:fO B w p F S) (hb:Below w.heap.size w w'):fO B w' p F S:=by obtain ⟨q,G,h,hF⟩:=h;exact ⟨q,G,h.below hb,hF⟩
theorem fO.hi (h:fO B w p F S) {b:Nat} (hb:F b):B≤b:=by
 obtain ⟨q,G,h,hF⟩:=h
 rcases (hF b).1 hb with rfl | hb
 ·exact h.hp
 ·exact h.st.hi hb
theorem fO.lt (h:fO B w p F S) {b:Nat} (hb:F b):b<w.heap.size:=by
 obtain ⟨q,G,h,hF⟩:=h
 exact h.lt ((hF b).1 hb)
theorem fO.ok (h:fO B w p F S):S.Ok:=by obtain ⟨q,G,h,hF⟩:=h;exact h.st.ok
theorem fO.keep {H:Nat→Prop} (h:fO B w p F S) (hc:aZ H w w') (hF:∀b,F b→¬ H b):fO B w' p F S:=by
 obtain ⟨q,G,h,hG⟩:=h
 exact ⟨q,G,⟨h.r.keep hc (hF p ((hG p).2 (.inl rfl))),h.st.keep hc fun b hb=> hF b ((hG b).2 (.inr hb)),h.few,h.hp,h.np⟩,hG⟩
def fB (B:Nat) (w:World) (p:Nat) (F:Nat→Prop) (v:Value) (r:TA) (w':World):Prop:=∃F',fO B w' p F' r.2.2∧bg F' w' v r.1∧aZ F w w'∧∀b,F' b→F b∨w.heap.size≤b
def dF (S:TS) (l:List Int):Int × Bool:=match bA S l with | some n=> ((n:Int),true) | none=> (0,false)
def kM (S:TS) (l:List Int):Int × Tm × Int:=match bA S l with | some n=> ((n:Int),bF S.l n,0) | none=> (0,(0,0,0),11)
theorem aQ (h:dH w p kd sd n s):Calls Tryz.prog 63 #[.pointer (some ⟨p,0,none⟩)] w fun e w'=> e=.returned (.int .i64 kd)∧w'=w:=by
 have ck:=h.ck
 clear h
 go_enter Tryz.func63,Tryz.ntmps63
 go_wp2
 go_ret
 exact ⟨rfl,rfl⟩
theorem bP (n:Int) (h0:0≤n) (h1:n≤4611686018427387904) (w:World):Calls Tryz.prog 77 #[.int .i64 n,.int .i64 0] w fun e w'=> ∃v,e=.returned (.tuple #[v,.int .i64 0])∧Go.aG.Own .u8 5 w.heap.size w' v 9 (gF 1 (fun _=> 247) (jS n))∧Below w.heap.size w w':=by
 have HP:=Lib.hid (fun w=> sP n 8 w (by decide) (by decide) h0 h1 (fun h=> absurd h (by decide)))
 clear h0 h1
 go_enter Tryz.func77,Tryz.ntmps77
 go_wp2_with fail
 refine (HP.out _).mono ?_
 rintro e w1 ⟨u,rfl,hu,b1⟩
 have HU:=Lib.hid (hu.rd)
 have B1:=Lib.hid b1
 obtain ⟨au,cu,rfl,_⟩:=hu.rd
 clear hu b1
 go_wp2_with (at_builtin;refine fM rfl _ _ 23 rfl w.heap.size 5 .u8 1 Tryz.underlying23 Tryz.info5 _ 1 (gF 1 (fun _=> 247) (jS n)) (Go.aG.Own.new .u8 _ w1 _ 1 _ B1.out.size (by decide) rfl (fun i hi=> xk hi (by obtain rfl:i=0:=(by omega);rfl))) rfl _ 8 (jS n) (HU.out.below ((Below.refl _ _).alloc (Nat.le_refl _) _)) rfl (fun i _=> pV) (by decide) (by decide) (by have:=B1.out.size;rw [World.size_alloc];omega) ?_;intro v5 w5 hown hgr)
 have HO:=Lib.hid hown
 have B5:Hid (Below w.heap.size w w5):=Lib.hid (below_grown (B1.out.alloc B1.out.size _) hgr (Go.aG.Own.new .u8 5 (base:=w.heap.size) w1 #[.int .u8 247] 1 (fun _=> 247) B1.out.size (by decide) rfl (fun i hi=> xk hi rfl)) (by have:=B1.out.size;rw [World.size_alloc];omega) (Nat.le_refl _))
 go_ret2
 exact ⟨_,rfl,HO.out,B5.out⟩
end
end Go.Proofs.YtpcjekgfnfjbpaaGreat
namespace Go.Proofs.YtpcjekgfnfjbpaaGreat
open Go.RowKit Go.aG Go.ChangeShapes Go.Maps
attribute [local go_sem ↓] Go.wp_at_zero Go.wp_at_succ
section
variable {B : Nat} {w w' : World} {p q : Nat} {F G G' : Nat → Prop} {S S' : TS} {kd n : Int} {sd : Nat → Int} {s : Value} {v : Value} {l : List Int}
theorem dh (h:fO B w p F S) (hb:bg F w v l) (hl:S.l.length≤1000):Calls Tryz.prog 59 #[.pointer (some ⟨p,0,none⟩),v] w fun e w'=> e=.returned (.tuple #[.int .i64 (dF S l).1,.bool (dF S l).2])∧Below w.heap.size w w':=by
 obtain ⟨q,G,hq,hF⟩:=h
 have HW:=Lib.hid (aQ hq.r)
 have HB:=Lib.hid hb.rd
 have HL:=Lib.hid hl
 obtain ⟨N,hN⟩:∃x,x=dF S l:=⟨_,rfl⟩
 rw [←hN]
 have HN:=Lib.hid hN
 by_cases h9:l.length=9
 ·rw [h9] at HB
  obtain ⟨av,cv,rfl,hc1,hc2,_,hc⟩:=HB.out
  obtain ⟨b,o,rfl,hblt,hcell⟩:=hc (by decide)
  have c0:=hcell 0 (by decide)
  rw [Nat.add_zero] at c0
  by_cases h0:bf l 0=247
  ·rw [h0] at c0
   obtain ⟨a',_,hr,hrd⟩:=Rd.cut (P:=Tryz.prog) Tryz.underlying23 Tryz.info5 (some ⟨b,o,none⟩) 9 cv 1 9 (by decide) (Nat.le_refl _) hc1
   have HT:Hid (Rd .u8 w (.slice a' 8 (cv - 1)) 8 (uo l)):=Lib.hid ((hrd w _ HB.out).2)
   have hr:∀w,(Instr.sliceAt 23 (.slice (some ⟨b,o,none⟩) 9 cv) (some (.int .i64 1)) none none).run Tryz.prog w=.ok (.slice a' 8 (cv - 1)) w:=hr
   obtain ⟨C,hC⟩:∃C,C=cv - 1:=⟨_,rfl⟩
   rw [←hC] at HT hr
   have tZ:=Lib.hid hr
   have yQ:Hid (∀i,i<8→0≤uo l i∧uo l i<256):=Lib.hid fun i hi=> hb.ok.at _ (by omega)
   obtain ⟨E,hE⟩:∃x,x=eO (uo l) 8:=⟨_,rfl⟩
   obtain ⟨X,hX⟩:∃x,x=dD (uo l) 8:=⟨_,rfl⟩
   have HG:=Lib.hid (fun w1 h=> zU (.slice a' 8 C) 8 (uo l) w1 h yQ.out)
   rw [←hE,←hX] at HG
   have HST:=Lib.hid hq.st
   have cp:=hq.r.cp
   have HR:=Lib.hid hq.r
   have hne:((247:Int) !=247)=false:=rfl
   have hE0:N=if E=0∧X<S.l.length then (X,true) else (0,false):=by
    rw [hN]
    unfold dF bA
    by_cases hc:E=0∧X<S.l.length
    ·have h0':0≤dD (uo l) 8:=iN fun i hi=> (yQ.out i hi).1
     rw [if_pos ⟨h9,h0,hE▸hc.1,hX▸hc.2⟩,if_pos hc]
     simp only [hX]
     rw [Int.toNat_of_nonneg h0']
    ·rw [if_neg (fun h=> hc ⟨hE.trans h.2.2.1,by rw [hX];exact h.2.2.2⟩),if_neg hc]
   have ji:=Lib.hid hE0
   have hr:=tZ.out
   clear hE0 hE hX hC hrd hc hcell hN hF hq hb hl h0
   go_enter Tryz.func59,Tryz.ntmps59
   go_wp2_with fail
   refine HW.out.mono ?_
   rintro e w1 ⟨rfl,rfl⟩
   go_wp2_with fail
   refine (HG.out _ HT.out).mono ?_
   rintro e w2 ⟨rfl,b2⟩
   have Iq:=Lib.hid (HST.out.below b2)
   have cp:=(HR.out.below b2).cp
   have B2:=Lib.hid b2
   clear b2
   by_cases e0:E=0
   ·subst e0
    have hz:((0:Int) !=0)=false:=rfl
    go_wp2_with fail
    refine (wP Iq.out).mono ?_
    rintro e w3 ⟨rfl,rfl⟩
    by_cases hx:X<S.l.length
    ·have hg:decide ((S.l.length:Int)≤X)=false:=decide_eq_false (by omega)
     have HE:Hid (N=(X,true)):=Lib.hid (by rw [ji.out,if_pos ⟨by trivial,hx⟩])
     clear hx
     go_wp2
     go_ret2
     rw [HE.out]
     exact ⟨rfl,B2.out⟩
    ·have hg:decide ((S.l.length:Int)≤X)=true:=decide_eq_true (by omega)
     have HE:Hid (N=(0,false)):=Lib.hid (by rw [ji.out,if_neg (fun h=> hx h.2)])
     clear hx
     go_wp2
     go_ret2
     rw [HE.out]
     exact ⟨rfl,B2.out⟩
   ·have hz:(E !=0)=true:=by simpa using e0
    have HE:Hid (N=(0,false)):=Lib.hid (by rw [ji.out,if_neg (fun h=> e0 h.1)])
    clear e0
    go_wp2
    go_ret2
    rw [HE.out]
    exact ⟨rfl,B2.out⟩
  ·have HE:Hid (N=(0,false)):=Lib.hid (by rw [HN.out];unfold dF bA;rw [if_neg (fun h=> h0 h.2.1)])
   have hne:((bf l 0) !=247)=true:=by simpa using h0
   clear hc hcell hN hF hq hb hl h0
   go_enter Tryz.func59,Tryz.ntmps59
   go_wp2_with fail
   refine HW.out.mono ?_
   rintro e w1 ⟨rfl,rfl⟩
   go_wp2
   go_ret2
   rw [HE.out]
   exact ⟨rfl,Below.refl _ _⟩
 ·have HE:Hid (N=(0,false)):=Lib.hid (by rw [HN.out];unfold dF bA;rw [if_neg (fun h=> h9 h.1)])
  obtain ⟨av,cv,rfl,hc1,hc2,_,hc⟩:=HB.out
  have Oe:((l.length:Int) !=9)=true:=by simp;omega
  clear hc hN hF hq hb hl h9
  go_enter Tryz.func59,Tryz.ntmps59
  go_wp2_with fail
  refine HW.out.mono ?_
  rintro e w1 ⟨rfl,rfl⟩
  go_wp2
  go_ret2
  rw [HE.out]
  exact ⟨rfl,Below.refl _ _⟩
theorem Ba {P:Program} {o:Oper} {a:Act} {w:World} {K:Act→World→Prop} {Q:Exit→Act→World→Prop} (x:Operand) (d:Nat) (hop:o.op=.assign x) (hd:o.dst=some d) (h:K (a.put (some d) (a.eval x)) w):o.wp P a w K Q:=by
 rw [←hd] at h
 unfold Oper.wp execOp
 simp only [hop]
 exact h
theorem kI {P:Program} {fn:Func} {p q r:Tmp} {T:TypeId} (h:fn.results=#[.tmp p,.cell q T,.tmp r]) (tmps:Array Value) (w:World) (k:IntKind) (b n:Nat) (f:Nat→Int) {d:TypeDesc}
  (hp:tmps.getD q undef=.pointer (some ⟨b,0,none⟩)) (ha:aI k w b n f) (hu:P.underlying T=some d) (hd:CB d=true) (hi:(P.info? T).map (·.size)=some n):
  (results fn tmps).run P w=.ok (.tuple #[tmps.getD p undef,.agg (arr k n f),tmps.getD r undef]) w:=by
 obtain ⟨t,ht⟩:=ha
 have hp':tmps[q]?.getD undef=.pointer (some ⟨b,0,none⟩):=by simpa using hp
 simp [results,h,hp',asAddr,run_loadVar_row w b t T (arr k n f) (0,0) _ ht hu (by cases d<;> first | rfl | cases hd) (by rw [hi,dU])]
theorem gP {l:List Tm} {n:Nat} (h:n<l.length):l[n]? =some (bF l n):=by
 unfold bF
 rw [List.getD_eq_getElem?_getD,List.getElem?_eq_getElem h]
 rfl
theorem yj {S:TS} {l:List Int} {n:Nat} (hb:okB l) (h:bA S l=some n):jG S (n:Int)=(bF S.l n,true):=jF (gP (bV hb h))
theorem Tryz.size96:(Tryz.prog.info? 96).map (·.size)=some 3:=Tryz.sizeTm
theorem bY (h:fO B w p F S) (hb:bg F w v l) (hl:S.l.length≤1000):Calls Tryz.prog 76 #[.pointer (some ⟨p,0,none⟩),v] w fun e w'=> e=.returned (.tuple #[.int .i64 (kM S l).1,sj (kM S l).2.1,.int .i64 (kM S l).2.2])∧Below w.heap.size w w':=by
 have Ni:=Lib.hid (fun w1 (b1:Below w.heap.size w w1)=> dh (h.below b1) (hb.below b1) hl)
 have kr:=Lib.hid hb.ok
 obtain ⟨q,G,hq,hF⟩:=h
 have HQ:=Lib.hid hq
 obtain ⟨N,hN⟩:∃x,x=kM S l:=⟨_,rfl⟩
 rw [←hN]
 have HN:=Lib.hid hN
 obtain ⟨av,cv,rfl,_⟩:=hb.rd
 clear hN hq hF hb hl
 go_enter Tryz.func76,Tryz.ntmps76
 go_upto_region 1 with (fail)
 refine aD (fun w1=> aI .i64 w1 w.heap.size 3 (fun _=> 0)∧Below w.heap.size w w1) ⟨aI.newAt rfl (by rfl),(Below.refl _ _).alloc (Nat.le_refl _) _⟩ ?_
 rintro w1 ⟨hA1,b1⟩
 go_wp2_with fail
 refine (Ni.out w1 b1).mono ?_
 rintro e w2 ⟨rfl,b2⟩
 replace hA1:=hA1.kept b2
 replace b1:=b1.trans (b2.mono b1.size)
 clear b2
 cases hm:bA S l with
 | none=>
  have HE:Hid (N=(0,(0,0,0),11)):=Lib.hid (by rw [HN.out];unfold kM;rw [hm])
  rw [show dF S l=(0,false) from by unfold dF;rw [hm]]
  clear hm
  have HA:=Lib.hid hA1
  have B1:=Lib.hid b1
  clear hA1 b1
  go_wp2_with (refine bE rfl 96 _ _ rfl .i64 w.heap.size 3 (fun _=> 0) (tf (0,0,0)) Tryz.sizeTm rfl rfl HA.out ?_)
  rw [HE.out]
  exact bodyPost_ret (kI rfl _ _ .i64 w.heap.size 3 _ rfl (HA.out.setRow _ _) Tryz.underlying96 rfl Tryz.sizeTm) rfl ⟨rfl,aF B1.out (Nat.le_refl _) _⟩
 | some n=>
  have HE:Hid (N=((n:Int),bF S.l n,0)):=Lib.hid (by rw [HN.out];unfold kM;rw [hm])
  have HG:=Lib.hid (yj kr.out hm)
  rw [show dF S l=((n:Int),true) from by unfold dF;rw [hm]]
  clear hm
  have HA:=Lib.hid hA1
  have B1:=Lib.hid b1
  have HST:=Lib.hid (HQ.out.st.below b1)
  have cp:=(HQ.out.r.below b1).cp
  clear hA1 b1
  go_wp2_with fail
  refine (gU HST.out n).mono ?_
  rw [HG.out]
  rintro e w3 ⟨rfl,b3⟩
  have HA:=Lib.hid (HA.out.kept b3)
  have B3:=Lib.hid (B1.out.trans (b3.mono B1.out.size))
  clear b3 cp
  obtain ⟨t,ht⟩:∃t,t=bF S.l n:=⟨_,rfl⟩
  rw [←ht] at HE ⊢
  clear ht
  have uT:Hid (w.heap.size<w3.heap.size):=Lib.hid HA.out.lt
  go_upto_region 5 with (refine bE rfl 96 _ _ rfl .i64 w3.heap.size 3 (fun _=> 0) (tf t) Tryz.sizeTm rfl rfl (aI.newAt rfl (by rfl)) ?_)
  refine aD (fun w4=> aI .i64 w4 w.heap.size 3 (fun _=> 0)∧aI .i64 w4 w3.heap.size 3 (tf t)∧Below w.heap.size w w4) ⟨(HA.out.alloc _).bG _ (Nat.ne_of_lt uT.out) _,(show aI .i64 (w3.alloc (.cells #[.int .i64 0,.int .i64 0,.int .i64 0] 96)) w3.heap.size 3 (fun _=> 0) from aI.newAt rfl (by rfl)).setRow 3 (tf t),aF (B3.out.alloc B3.out.size _) B3.out.size _⟩ ?_
  rintro w4 ⟨h4,h5,hbel⟩
  have hlt:=uT.out
  obtain ⟨N3,JV⟩:∃x,x=w3.heap.size:=⟨_,rfl⟩
  rw [←JV] at hlt h5 ⊢
  clear JV
  refine nE (n:=31) 4 rfl (by decide) (by kernel_rfl) (by kernel_rfl) (by kernel_rfl) (by kernel_rfl) rfl
   (fun ii vv ww=> (match ii with | 0 | 2=> vv=.int .i64 ((n:Int)) | 1=> vv=.agg (arr .i64 3 (tf t)) | _=> True)∧(ii=3→aI .i64 ww (w.heap.size) 3 (tf t))) 3
   (fun b ww=> (aI .i64 ww (N3) 3 (tf t)∧Below w.heap.size w ww)∧(b=false→aI .i64 ww ((w.heap.size)) 3 (fun _=> 0))) ⟨⟨h5.drew,hbel.drew⟩,fun _=> h4.drew⟩
   (fun i ww w'=> match i with | 3=> ((aI .i64 ww (N3) 3 (tf t)∧Below w.heap.size w ww)→(aI .i64 w' (N3) 3 (tf t)∧Below w.heap.size w w')) | _=> Below ww.heap.size ww w') ?_ ?_ ?_ ?_ rfl ?_ ?_
  ·intro i ww;(try dsimp only);split
   ·exact id
   ·exact Below.refl _ _
  ·intro i b ww w' hi hR hE
   have hE':Below ww.heap.size ww w':=by (try dsimp only at hE);split at hE;(· exact absurd rfl hi);exact hE
   obtain ⟨⟨q0,qb⟩,sO⟩:=hR
   exact ⟨⟨q0.kept hE',qb.trans (hE'.mono qb.size)⟩,fun hb=> (sO hb).kept hE'⟩
  ·intro ww w' hR hE
   exact ⟨hE hR.1,fun h=> by cases h⟩
  ·intro i j b v ww w' hij hjb hR hS hE
   refine ⟨hS.1,fun e=> ?_⟩
   subst e
   have hE':Below ww.heap.size ww w':=by (try dsimp only at hE);split at hE;(· exact absurd rfl hij);exact hE
   exact (hS.2 rfl).kept hE'
  ·refine Each.all ?_
   refine ⟨?_,?_,?_,?_,(fun h=> absurd rfl h),trivial⟩
   ·intro _ b a w2 hcb hB0 hF hd
    obtain ⟨⟨h5,hbel⟩,sO⟩:=hB0
    have hB:=Below.refl w2.heap.size w2
    rw [if_pos (ah rfl)]
    exact aA _ (.inl rfl) (by simp) ⟨(hF.same 7 rfl),fun h=> absurd h (by decide)⟩
   ·intro _ b a w2 hcb hB0 hF hd
    obtain ⟨⟨h5,hbel⟩,sO⟩:=hB0
    have hB:=Below.refl w2.heap.size w2
    rw [if_pos (ah rfl)]
    exact ak (fun h=> by cases h) (gq rfl Tryz.underlying96 rfl Tryz.size96 (hF.same 9 rfl) (h5.below hB h5.lt)) ⟨rfl,fun h=> absurd h (by decide)⟩
   ·intro _ b a w2 hcb hB0 hF hd
    obtain ⟨⟨h5,hbel⟩,sO⟩:=hB0
    have hB:=Below.refl w2.heap.size w2
    rw [if_pos (ah rfl)]
    exact aA _ (.inr rfl) (by simp) ⟨((hd 0 _ rfl (aj rfl)).1),fun h=> absurd h (by decide)⟩
   ·intro _ b a w2 hcb hB0 hF hd
    obtain ⟨⟨h5,hbel⟩,sO⟩:=hB0
    have hB:=Below.refl w2.heap.size w2
    rw [if_pos (ah rfl)]
    refine aT 96 _ _ rfl .i64 ((w.heap.size)) 3 (fun _=> 0) (tf t) Tryz.size96 (hF.same 5 rfl) ((hd 1 _ rfl (aj rfl)).1) (sO (hcb rfl)) ?_
    exact ⟨_,rfl,fun _=> rfl,⟨trivial,fun _=> (sO (hcb rfl)).setRow _ _⟩,fun ⟨p0,p1⟩=> ⟨p0.bG _ (by omega) _,aF p1 (by omega) _⟩⟩
  ·intro b a w5 hB0 hF hS
   have V3:=(hS 3 _ rfl (by decide)).2 rfl
   obtain ⟨⟨h5,hbel⟩,_⟩:=hB0
   obtain ⟨xl,hxl⟩:∃x,x=a.tmps.getD 6 undef:=⟨_,rfl⟩
   have ha:=aH rfl rfl hF [_,_,_,undef,xl] rfl ⟨(hS 0 _ rfl (by decide)).1,(hS 1 _ rfl (by decide)).1,(hS 2 _ rfl (by decide)).1,trivial,hxl.symm,trivial⟩
   simp only [puts,Act.put,List.setIfInBounds_toArray,List.set_cons_succ,List.set_cons_zero] at ha
   subst ha
   clear hS hF hxl
   refine Ba (.const (.int .i64 (0))) 6 rfl rfl ?_
   simp only [Act.put,List.setIfInBounds_toArray,List.set_cons_succ,List.set_cons_zero]
   have hb:=hbel
   go_wp2
   rw [HE.out]
   exact bodyPost_ret (kI rfl _ _ .i64 w.heap.size 3 _ rfl V3 Tryz.underlying96 rfl Tryz.sizeTm) rfl ⟨rfl,hb⟩
end
end Go.Proofs.YtpcjekgfnfjbpaaGreat
namespace Go.Proofs.YtpcjekgfnfjbpaaGreat
open Go.RowKit Go.aG Go.ChangeShapes Go.Maps
attribute [local go_sem ↓] Go.wp_at_zero Go.wp_at_succ
section
variable {B : Nat} {w w' w1 w2 w3 : World} {p q : Nat} {F G G' : Nat → Prop} {S S' : TS} {kd n : Int} {sd : Nat → Int} {s : Value} {v u : Value} {l : List Int}
theorem iU (h:uR B w p q G S) (hF:∀b,F b ↔ b=p∨G b) (hb:Below w.heap.size w w') (er:Int):fB B w p F (.slice none 0 0) ([],er,S) w':=
 ⟨F,⟨q,G,h.below hb,hF⟩,bg.nil _ _,.of_below hb _,fun b hb=> .inl hb⟩
theorem jO (h:uR B w p q G S) (hF:∀b,F b ↔ b=p∨G b) (hb:Below w.heap.size w w1) (h1:jK B w2 q G' S') (hc:aZ G w1 w2) (hf:∀b,G' b→G b∨w1.heap.size≤b) (hw:S'.few)
  {e:TypeId} (ho:Go.aG.Own .u8 e w2.heap.size w3 u 9 (gF 1 (fun _=> 247) (jS n))) (hb3:Below w2.heap.size w2 w3) (er:Int):fB B w p F u (bD n,er,S') w3:=by
 have hQ:=(h.below hb).put h1 hc hf hw
 refine ⟨fun b=> b=p∨G' b,⟨q,G',hQ.below hb3,fun _=> Iff.rfl⟩,bg.own ho (bT (n:=1) (m:=8) (fun _ _=> by decide) fun i _=> mo n i) fun b hb=> hQ.lt hb,?_,fun b hb'=> ?_⟩
 ·exact ((aZ.of_below hb F).trans (hc.mono (G:=F) fun b _ hg=> (hF b).2 (.inr hg)) fun _ _ h=> h).trans (aZ.of_below hb3 F) fun _ _ h=> h
 ·rcases hb' with rfl | hb'
  ·exact .inl ((hF b).2 (.inl rfl))
  ·exact (hf b hb').imp (fun h=> (hF b).2 (.inr h)) fun h'=> Nat.le_trans hb.size h'
theorem kS {S:TS} {n:Nat} (h:n<S.l.length):aY S.l (n:Int) 0=true:=eH.2 ⟨n,rfl,_,List.getElem?_eq_getElem h,.inl rfl⟩
theorem BF {S:TS} {k:Int} (hk:k=2∨k=3∨k=6∨k=7) {n:Nat} (h:n<S.l.length):dK S (k,(n:Int),0)=true:=by
 rcases hk with rfl | rfl | rfl | rfl
 ·rw [xD,kS h];rfl
 ·rw [xC,kS h];rfl
 ·rw [xw,kS h];rfl
 ·rw [xu,kS h];rfl
theorem lH {S:TS} {t:Tm} (h:dK S t=true):(dW S t).2=0∧0≤(dW S t).1∧(dW S t).1≤S.l.length:=by
 unfold dW
 rw [if_pos h]
 refine ⟨rfl,?_⟩
 split
 ·rename_i hin
  have:=iZ hin
  simp only
  omega
 ·simp only
  omega
theorem lI {k n m:Int} (hk:0≤k∧k≤10) (hn:0≤n∧n≤1000000) (hm:0≤m∧m≤1000000):jT (k,n,m):=⟨⟨by simp only;omega,by simp only;omega⟩,⟨by simp only;omega,by simp only;omega⟩,⟨by simp only;omega,by simp only;omega⟩⟩
theorem iG (h:fO B w p F S) (k:Int) (hk:k=2∨k=3∨k=6∨k=7) (hb:bg F w v l) (hl:S.l.length≤900):Calls Tryz.prog 91 #[.pointer (some ⟨p,0,none⟩),.int .i64 k,v] w fun e w'=> ∃u,e=.returned (.tuple #[u,.int .i64 (dJ k S l).2.1])∧fB B w p F u (dJ k S l) w':=by
 have HO:=Lib.hid (bY h hb (by omega))
 have kr:=Lib.hid hb.ok
 obtain ⟨q,G,hq,hF⟩:=h
 have HQ:=Lib.hid hq
 have HF:=Lib.hid hF
 have HK:=Lib.hid hk
 have HL:=Lib.hid hl
 obtain ⟨R,hR⟩:∃x,x=dJ k S l:=⟨_,rfl⟩
 rw [←hR]
 have HR:=Lib.hid hR
 obtain ⟨av,cv,rfl,_⟩:=hb.rd
 clear hR hq hF hb hl hk
 go_enter Tryz.func91,Tryz.ntmps91
 go_wp2_with fail
 refine HO.out.mono ?_
 rintro e w1 ⟨rfl,b1⟩
 have B1:=Lib.hid b1
 clear b1
 obtain ⟨A,hA⟩:∃x,x=kM S l:=⟨_,rfl⟩
 rw [←hA]
 have HA:=Lib.hid hA
 clear hA
 go_upto_region 2 with (fail)
 refine aD (fun w2=> Below w.heap.size w w2) (B1.out.alloc B1.out.size _) ?_
 rintro w2 b2
 have B2:=Lib.hid b2
 clear b2
 cases hm:bA S l with
 | none=>
  have HE:Hid (R=([],11,S)):=Lib.hid (by rw [HR.out];unfold dJ;rw [hm])
  obtain rfl:A=(0,(0,0,0),11):=by rw [HA.out];unfold kM;rw [hm]
  clear hm HA
  go_wp2
  go_ret2
  rw [HE.out]
  exact ⟨_,rfl,iU HQ.out HF.out B2.out 11⟩
 | some m=>
  have HN:=Lib.hid (bV kr.out hm)
  have HE:Hid (R=(bD (dW S (k,m,0)).1,0,S.put (k,m,0))):=Lib.hid (by rw [HR.out];unfold dJ;rw [hm])
  obtain ⟨t,ht⟩:∃t,t=bF S.l m:=⟨_,rfl⟩
  obtain rfl:A=((m:Int),t,0):=by rw [HA.out,ht];unfold kM;rw [hm]
  clear hm HA ht
  have HP:=Lib.hid (lH (BF HK.out HN.out))
  have rR:Hid (jT (k,(m:Int),0)):=Lib.hid (lI (by have:=HK.out;omega) (by have:=HN.out;have:=HL.out;omega) (by omega))
  have cp:=(HQ.out.r.below B2.out).cp
  go_wp2_with fail
  refine (jo (HQ.out.st.below B2.out) (HQ.out.below B2.out).hB _ rR.out (by have:=HL.out;omega)).mono ?_
  rintro e w3 ⟨rfl,G3,h3,c3,f3⟩
  rw [HP.out.1]
  obtain ⟨X,hX⟩:∃X,X=(dW S (k,(m:Int),0)).1:=⟨_,rfl⟩
  rw [←hX] at HP HE ⊢
  have HX:=Lib.hid HP.out.2
  have H3:=Lib.hid h3
  have C3:=Lib.hid c3
  have F3:=Lib.hid f3
  have HW:Hid ((S.put (k,(m:Int),0)).few):=Lib.hid (HQ.out.few.put (by have:=HK.out;simp only;omega))
  clear hX h3 c3 f3 cp HP
  go_wp2_with fail
  refine (bP X HX.out.1 (by have:=HX.out.2;have:=HL.out;omega) w3).mono ?_
  rintro e w4 ⟨u,rfl,hu,b4⟩
  have HD:=Lib.hid (jO HQ.out HF.out B2.out H3.out C3.out F3.out HW.out hu b4 0)
  clear hu b4
  go_wp2
  go_ret2
  rw [HE.out]
  exact ⟨_,rfl,HD.out⟩
theorem xW {S:TS} {n:Nat} {k:Int} (h:n<S.l.length) (hk:kN S n=k):aY S.l (n:Int) k=true:=eH.2 ⟨n,rfl,_,gP h,.inr hk⟩
theorem Bz {S:TS} {k:Int} {n m:Nat} (hk:(k=4∧kN S n=2)∨k=5) (h:n<S.l.length) (h':m<S.l.length):dK S (k,(n:Int),(m:Int))=true:=by
 rcases hk with ⟨rfl,h2⟩ | rfl
 ·rw [xB,xW h h2,kS h'];rfl
 ·rw [xA,kS h,kS h'];rfl
theorem nV {v':Value} {l':List Int} (h:fO B w p F S) (k:Int) (hk:k=4∨k=5) (hb:bg F w v l) (hb':bg F w v' l') (hl:S.l.length≤900):Calls Tryz.prog 67 #[.pointer (some ⟨p,0,none⟩),.int .i64 k,v,v'] w fun e w'=> ∃u,e=.returned (.tuple #[u,.int .i64 (fQ k S l l').2.1])∧fB B w p F u (fQ k S l l') w':=by
 have HO:=Lib.hid (bY h hb (by omega))
 have CP:=Lib.hid (fun w1 (b1:Below w.heap.size w w1)=> bY (h.below b1) (hb'.below b1) (by omega))
 have kr:=Lib.hid hb.ok
 have uf:=Lib.hid hb'.ok
 obtain ⟨q,G,hq,hF⟩:=h
 have HQ:=Lib.hid hq
 have HF:=Lib.hid hF
 have HK:=Lib.hid hk
 have HL:=Lib.hid hl
 obtain ⟨R,hR⟩:∃x,x=fQ k S l l':=⟨_,rfl⟩
 rw [←hR]
 have HR:=Lib.hid hR
 obtain ⟨av,cv,rfl,_⟩:=hb.rd
 obtain ⟨AL,cv',rfl,_⟩:=hb'.rd
 clear hR hq hF hb hb' hl hk
 go_enter Tryz.func67,Tryz.ntmps67
 go_wp2_with fail
 refine HO.out.mono ?_
 rintro e w1 ⟨rfl,b1⟩
 have B1:=Lib.hid b1
 clear b1
 obtain ⟨A,hA⟩:∃x,x=kM S l:=⟨_,rfl⟩
 rw [←hA]
 have HA:=Lib.hid hA
 clear hA
 go_upto_region 2 with (fail)
 refine aD (fun w2=> w2.cell? ⟨w1.heap.size,0,none⟩=some (.int .i64 A.2.1.1)∧Below w.heap.size w w2) ⟨cell_of_row _ _ 0 _ _ (0,0) (heap_alloc_new w1 _),B1.out.alloc B1.out.size _⟩ ?_
 rintro w2 ⟨c0,b2⟩
 have B2:=Lib.hid b2
 clear b2
 cases hm:bA S l with
 | none=>
  have HE:Hid (R=([],11,S)):=Lib.hid (by rw [HR.out];unfold fQ;rw [hm])
  obtain rfl:A=(0,(0,0,0),11):=by rw [HA.out];unfold kM;rw [hm]
  clear hm HA
  go_wp2
  go_ret2
  rw [HE.out]
  exact ⟨_,rfl,iU HQ.out HF.out B2.out 11⟩
 | some n=>
  have HN:=Lib.hid (bV kr.out hm)
  have HM:=Lib.hid hm
  obtain ⟨t,ht⟩:∃t,t=bF S.l n:=⟨_,rfl⟩
  obtain rfl:A=((n:Int),t,0):=by rw [HA.out,ht];unfold kM;rw [hm]
  have HT:=Lib.hid ht
  have Gc:Hid (kN S n=t.1):=Lib.hid (by rw [ht];rfl)
  clear hm HA ht
  by_cases hbad:k=4∧t.1≠2
  ·obtain ⟨rfl,h2⟩:=hbad
   have HE:Hid (R=([],11,S)):=Lib.hid (by
    rw [HR.out];unfold fQ;rw [HM.out]
    cases bA S l' with
    | none=> rfl
    | some m=> exact if_pos ⟨rfl,by rw [Gc.out];exact h2⟩)
   have h2':(t.1 !=2)=true:=by simpa using h2
   clear h2
   go_wp2
   go_ret2
   rw [HE.out]
   exact ⟨_,rfl,iU HQ.out HF.out B2.out 11⟩
  ·have hc:(k=4∧(t.1 !=2)=false)∨(k=5∧((5:Int)==4)=false):=by
    rcases HK.out with rfl | rfl
    ·exact .inl ⟨rfl,by by_cases e:t.1=2;(· simpa using e);exact absurd ⟨rfl,e⟩ hbad⟩
    ·exact .inr ⟨rfl,rfl⟩
   have HKK:Hid ((k=4∧kN S n=2)∨k=5):=Lib.hid (hc.imp (fun h=> ⟨h.1,by rw [Gc.out];simpa using h.2⟩) fun h=> h.1)
   have yR:Hid (∀m:Nat,m<S.l.length→dK S (k,(n:Int),(m:Int))=true):=Lib.hid fun m hm=> Bz HKK.out HN.out hm
   have Ir:Hid (∀m:Nat,bA S l'=some m→R=(bD (dW S (k,n,m)).1,0,S.put (k,n,m))):=Lib.hid fun m hm=> by
    rw [HR.out];unfold fQ;rw [HM.out,hm]
    exact if_neg (by rw [Gc.out];exact hbad)
   have rR:Hid (∀m:Nat,m<S.l.length→jT (k,(n:Int),(m:Int))):=Lib.hid fun m hm=> lI (by have:=HK.out;omega) (by have:=HN.out;have:=HL.out;omega) (by have:=HL.out;omega)
   have IG:Hid (k≠1):=Lib.hid (by have:=HK.out;omega)
   have Nj:Hid (bA S l'=none→R=([],11,S)):=Lib.hid fun hm=> by rw [HR.out];unfold fQ;rw [HM.out,hm]
   clear hbad HKK HK HR Gc
   rcases hc with ⟨rfl,h2⟩ | ⟨rfl,h2⟩
   all_goals
    go_wp2_with fail
    refine (CP.out w2 B2.out).mono ?_
    rintro e w3 ⟨rfl,b3⟩
    have B3:=Lib.hid (B2.out.trans (b3.mono B2.out.size))
    clear b3 c0 h2
    obtain ⟨A,hA⟩:∃x,x=kM S l':=⟨_,rfl⟩
    rw [←hA]
    have HA:=Lib.hid hA
    clear hA
    go_upto_region 5 with (fail)
    refine aD (fun w4=> Below w.heap.size w w4) (B3.out.alloc B3.out.size _) ?_
    rintro w4 b4
    have B4:=Lib.hid b4
    clear b4
    cases hm:bA S l' with
    | none=>
     have HE:Hid (R=([],11,S)):=Lib.hid (Nj.out hm)
     obtain rfl:A=(0,(0,0,0),11):=by rw [HA.out];unfold kM;rw [hm]
     clear hm HA
     go_wp2
     go_ret2
     rw [HE.out]
     exact ⟨_,rfl,iU HQ.out HF.out B4.out 11⟩
    | some m=>
     have HE:=Lib.hid (Ir.out m hm)
     have Aj:=Lib.hid (bV uf.out hm)
     have rR:=Lib.hid (rR.out m Aj.out)
     have HP:=Lib.hid (lH (yR.out m Aj.out))
     obtain ⟨t',ht'⟩:∃t,t=bF S.l m:=⟨_,rfl⟩
     obtain rfl:A=((m:Int),t',0):=by rw [HA.out,ht'];unfold kM;rw [hm]
     clear hm HA ht'
     have cp:=(HQ.out.r.below B4.out).cp
     go_wp2_with fail
     refine (jo (HQ.out.st.below B4.out) (HQ.out.below B4.out).hB _ rR.out (by have:=HL.out;omega)).mono ?_
     rintro e w5 ⟨rfl,G3,h3,c3,f3⟩
     rw [HP.out.1]
     have HW:=Lib.hid (HQ.out.few.put (t:=(_,(n:Int),(m:Int))) IG.out)
     have HX:=Lib.hid HP.out.2
     have H3:=Lib.hid h3
     have C3:=Lib.hid c3
     have F3:=Lib.hid f3
     clear HP h3 c3 f3 cp
     generalize dW S (_,(n:Int),(m:Int))=PA at HX HE ⊢
     obtain ⟨X,er⟩:=PA
     simp only at HX HE ⊢
     go_wp2_with fail
     refine (bP X HX.out.1 (by have:=HX.out.2;have:=HL.out;omega) w5).mono ?_
     rintro e w6 ⟨u,rfl,hu,b4⟩
     have HD:=Lib.hid (jO HQ.out HF.out B4.out H3.out C3.out F3.out HW.out hu b4 0)
     clear hu b4
     go_wp2
     go_ret2
     rw [HE.out]
     exact ⟨_,rfl,HD.out⟩
end
end Go.Proofs.YtpcjekgfnfjbpaaGreat
namespace Go.Proofs.YtpcjekgfnfjbpaaGreat
open Go.RowKit Go.aG Go.ChangeShapes Go.Maps
attribute [local go_sem ↓] Go.wp_at_zero Go.wp_at_succ
section
variable {B : Nat} {w w' w1 w2 w3 : World} {p q : Nat} {F G G' : Nat → Prop} {S S' : TS} {kd n : Int} {sd : Nat → Int} {s : Value} {v u v' : Value} {l l' : List Int}
theorem nW (h:fO B w p F S) (s:Int) (hl:S.l.length≤900):Calls Tryz.prog 26 #[.pointer (some ⟨p,0,none⟩),.int .i64 s] w fun e w'=> ∃u,e=.returned (.tuple #[u,.int .i64 (gI S s).2.1])∧fB B w p F u (gI S s) w':=by
 obtain ⟨q,G,hq,hF⟩:=h
 have HQ:=Lib.hid hq
 have HF:=Lib.hid hF
 have HL:=Lib.hid hl
 have HW:=Lib.hid (aQ hq.r)
 obtain ⟨R,hR⟩:∃x,x=gI S s:=⟨_,rfl⟩
 rw [←hR]
 have HR:=Lib.hid hR
 have ck:=hq.r.ck
 have cp:=hq.r.cp
 clear hR hq hF hl
 by_cases hs:1≤s∧s≤4
 ·have HS:Hid (isSort s=true):=Lib.hid (by unfold isSort;rw [decide_eq_true hs.1,decide_eq_true hs.2];rfl)
  have HN:Hid (jJ S.l s≤eU):=Lib.hid (by have:=HQ.out.few s;have:=HL.out;unfold eU;omega)
  have HE:Hid (R=(bD S.l.length,0,S.draw s)):=Lib.hid (by rw [HR.out];unfold gI;rw [if_pos HS.out])
  have HA:Hid (kU S s=((S.l.length:Int),0)):=Lib.hid (by unfold kU;rw [if_pos HS.out,if_pos HN.out])
  have h1:decide (s<1)=false:=decide_eq_false (by omega)
  have h2:decide (4<s)=false:=decide_eq_false (by omega)
  clear hs
  go_enter Tryz.func26,Tryz.ntmps26
  go_wp2_with fail
  refine HW.out.mono ?_
  rintro e w1 ⟨rfl,rfl⟩
  go_wp2_with fail
  refine (uX HQ.out.st HQ.out.hB s (by have:=HL.out;omega)).mono ?_
  rw [HA.out]
  rintro e w2 ⟨rfl,G3,h3,c3,f3⟩
  have H3:=Lib.hid h3
  have C3:=Lib.hid c3
  have F3:=Lib.hid f3
  clear h3 c3 f3 ck cp
  go_wp2_with fail
  refine (bP (S.l.length:Int) (by omega) (by have:=HL.out;omega) w2).mono ?_
  rintro e w4 ⟨u,rfl,hu,b4⟩
  have HD:=Lib.hid (jO HQ.out HF.out (Below.refl _ _) H3.out C3.out F3.out (HQ.out.few.draw s) hu b4 0)
  clear hu b4
  go_wp2
  go_ret2
  rw [HE.out]
  exact ⟨_,rfl,HD.out⟩
 ·have HE:Hid (R=([],2,S)):=Lib.hid (by
   rw [HR.out];unfold gI;rw [if_neg]
   intro h
   simp only [isSort,Bool.and_eq_true,decide_eq_true_eq] at h
   exact hs h)
  by_cases h1:s<1
  ·have h1':decide (s<1)=true:=decide_eq_true h1
   clear hs h1 cp
   go_enter Tryz.func26,Tryz.ntmps26
   go_wp2_with fail
   refine HW.out.mono ?_
   rintro e w1 ⟨rfl,rfl⟩
   go_wp2
   go_ret2
   rw [HE.out]
   exact ⟨_,rfl,iU HQ.out HF.out (Below.refl _ _) 2⟩
  ·have h1':decide (s<1)=false:=decide_eq_false h1
   have h2':decide (4<s)=true:=decide_eq_true (by omega)
   clear hs h1 cp
   go_enter Tryz.func26,Tryz.ntmps26
   go_wp2_with fail
   refine HW.out.mono ?_
   rintro e w1 ⟨rfl,rfl⟩
   go_wp2
   go_ret2
   rw [HE.out]
   exact ⟨_,rfl,iU HQ.out HF.out (Below.refl _ _) 2⟩
theorem qE (h:fO B w p F S) (hb:bg F w v l) (hl:S.l.length≤900):Calls Tryz.prog 33 #[.pointer (some ⟨p,0,none⟩),v] w fun e w'=> ∃u,e=.returned (.tuple #[u,.int .i64 (dJ 2 S l).2.1])∧fB B w p F u (dJ 2 S l) w':=by
 have HC:=Lib.hid (iG h 2 (by decide) hb hl)
 have HW:Hid (Calls Tryz.prog 63 #[.pointer (some ⟨p,0,none⟩)] w fun e w'=> e=.returned (.int .i64 2)∧w'=w):=Lib.hid (by obtain ⟨q,G,hq,_⟩:=h;exact aQ hq.r)
 obtain ⟨R,hR⟩:∃x,x=dJ 2 S l:=⟨_,rfl⟩
 rw [←hR] at HC ⊢
 obtain ⟨av,cv,rfl,_⟩:=hb.rd
 clear hR h hb hl
 go_enter Tryz.func33,Tryz.ntmps33
 go_wp2_with fail
 refine HW.out.mono ?_
 rintro e w1 ⟨rfl,rfl⟩
 go_wp2_with fail
 refine HC.out.mono ?_
 rintro e w2 ⟨u,rfl,hR⟩
 have HR:=Lib.hid hR
 clear hR
 go_wp2
 go_ret2
 exact ⟨u,rfl,HR.out⟩
theorem nu (h:fO B w p F S) (hb:bg F w v l) (hl:S.l.length≤900):Calls Tryz.prog 34 #[.pointer (some ⟨p,0,none⟩),v] w fun e w'=> ∃u,e=.returned (.tuple #[u,.int .i64 (dJ 3 S l).2.1])∧fB B w p F u (dJ 3 S l) w':=by
 have HC:=Lib.hid (iG h 3 (by decide) hb hl)
 have HW:Hid (Calls Tryz.prog 63 #[.pointer (some ⟨p,0,none⟩)] w fun e w'=> e=.returned (.int .i64 2)∧w'=w):=Lib.hid (by obtain ⟨q,G,hq,_⟩:=h;exact aQ hq.r)
 obtain ⟨R,hR⟩:∃x,x=dJ 3 S l:=⟨_,rfl⟩
 rw [←hR] at HC ⊢
 obtain ⟨av,cv,rfl,_⟩:=hb.rd
 clear hR h hb hl
 go_enter Tryz.func34,Tryz.ntmps34
 go_wp2_with fail
 refine HW.out.mono ?_
 rintro e w1 ⟨rfl,rfl⟩
 go_wp2_with fail
 refine HC.out.mono ?_
 rintro e w2 ⟨u,rfl,hR⟩
 have HR:=Lib.hid hR
 clear hR
 go_wp2
 go_ret2
 exact ⟨u,rfl,HR.out⟩
theorem vw (h:fO B w p F S) (hb:bg F w v l) (hl:S.l.length≤900):Calls Tryz.prog 35 #[.pointer (some ⟨p,0,none⟩),v] w fun e w'=> ∃u,e=.returned (.tuple #[u,.int .i64 (dJ 6 S l).2.1])∧fB B w p F u (dJ 6 S l) w':=by
 have HC:=Lib.hid (iG h 6 (by decide) hb hl)
 have HW:Hid (Calls Tryz.prog 63 #[.pointer (some ⟨p,0,none⟩)] w fun e w'=> e=.returned (.int .i64 2)∧w'=w):=Lib.hid (by obtain ⟨q,G,hq,_⟩:=h;exact aQ hq.r)
 obtain ⟨R,hR⟩:∃x,x=dJ 6 S l:=⟨_,rfl⟩
 rw [←hR] at HC ⊢
 obtain ⟨av,cv,rfl,_⟩:=hb.rd
 clear hR h hb hl
 go_enter Tryz.func35,Tryz.ntmps35
 go_wp2_with fail
 refine HW.out.mono ?_
 rintro e w1 ⟨rfl,rfl⟩
 go_wp2_with fail
 refine HC.out.mono ?_
 rintro e w2 ⟨u,rfl,hR⟩
 have HR:=Lib.hid hR
 clear hR
 go_wp2
 go_ret2
 exact ⟨u,rfl,HR.out⟩
theorem vC (h:fO B w p F S) (hb:bg F w v l) (hl:S.l.length≤900):Calls Tryz.prog 36 #[.pointer (some ⟨p,0,none⟩),v] w fun e w'=> ∃u,e=.returned (.tuple #[u,.int .i64 (dJ 7 S l).2.1])∧fB B w p F u (dJ 7 S l) w':=by
 have HC:=Lib.hid (iG h 7 (by decide) hb hl)
 have HW:Hid (Calls Tryz.prog 63 #[.pointer (some ⟨p,0,none⟩)] w fun e w'=> e=.returned (.int .i64 2)∧w'=w):=Lib.hid (by obtain ⟨q,G,hq,_⟩:=h;exact aQ hq.r)
 obtain ⟨R,hR⟩:∃x,x=dJ 7 S l:=⟨_,rfl⟩
 rw [←hR] at HC ⊢
 obtain ⟨av,cv,rfl,_⟩:=hb.rd
 clear hR h hb hl
 go_enter Tryz.func36,Tryz.ntmps36
 go_wp2_with fail
 refine HW.out.mono ?_
 rintro e w1 ⟨rfl,rfl⟩
 go_wp2_with fail
 refine HC.out.mono ?_
 rintro e w2 ⟨u,rfl,hR⟩
 have HR:=Lib.hid hR
 clear hR
 go_wp2
 go_ret2
 exact ⟨u,rfl,HR.out⟩
theorem uZ (h:fO B w p F S) (hb:bg F w v l) (hb':bg F w v' l') (hl:S.l.length≤900):Calls Tryz.prog 13 #[.pointer (some ⟨p,0,none⟩),v,v'] w fun e w'=> ∃u,e=.returned (.tuple #[u,.int .i64 (fQ 4 S l l').2.1])∧fB B w p F u (fQ 4 S l l') w':=by
 have HC:=Lib.hid (nV h 4 (by decide) hb hb' hl)
 have HW:Hid (Calls Tryz.prog 63 #[.pointer (some ⟨p,0,none⟩)] w fun e w'=> e=.returned (.int .i64 2)∧w'=w):=Lib.hid (by obtain ⟨q,G,hq,_⟩:=h;exact aQ hq.r)
 obtain ⟨R,hR⟩:∃x,x=fQ 4 S l l':=⟨_,rfl⟩
 rw [←hR] at HC ⊢
 obtain ⟨av,cv,rfl,_⟩:=hb.rd
 obtain ⟨AL,cv',rfl,_⟩:=hb'.rd
 clear hR h hb hb' hl
 go_enter Tryz.func13,Tryz.ntmps13
 go_wp2_with fail
 refine HW.out.mono ?_
 rintro e w1 ⟨rfl,rfl⟩
 go_wp2_with fail
 refine HC.out.mono ?_
 rintro e w2 ⟨u,rfl,hR⟩
 have HR:=Lib.hid hR
 clear hR
 go_wp2
 go_ret2
 exact ⟨u,rfl,HR.out⟩
theorem vB (h:fO B w p F S) (hb:bg F w v l) (hb':bg F w v' l') (hl:S.l.length≤900):Calls Tryz.prog 16 #[.pointer (some ⟨p,0,none⟩),v,v'] w fun e w'=> ∃u,e=.returned (.tuple #[u,.int .i64 (fQ 5 S l l').2.1])∧fB B w p F u (fQ 5 S l l') w':=by
 have HC:=Lib.hid (nV h 5 (by decide) hb hb' hl)
 have HW:Hid (Calls Tryz.prog 63 #[.pointer (some ⟨p,0,none⟩)] w fun e w'=> e=.returned (.int .i64 2)∧w'=w):=Lib.hid (by obtain ⟨q,G,hq,_⟩:=h;exact aQ hq.r)
 obtain ⟨R,hR⟩:∃x,x=fQ 5 S l l':=⟨_,rfl⟩
 rw [←hR] at HC ⊢
 obtain ⟨av,cv,rfl,_⟩:=hb.rd
 obtain ⟨AL,cv',rfl,_⟩:=hb'.rd
 clear hR h hb hb' hl
 go_enter Tryz.func16,Tryz.ntmps16
 go_wp2_with fail
 refine HW.out.mono ?_
 rintro e w1 ⟨rfl,rfl⟩
 go_wp2_with fail
 refine HC.out.mono ?_
 rintro e w2 ⟨u,rfl,hR⟩
 have HR:=Lib.hid hR
 clear hR
 go_wp2
 go_ret2
 exact ⟨u,rfl,HR.out⟩
end
end Go.Proofs.YtpcjekgfnfjbpaaGreat
namespace Go.Proofs.YtpcjekgfnfjbpaaGreat
open Go.RowKit Go.aG Go.ChangeShapes Go.Maps
attribute [local go_sem ↓] Go.wp_at_zero Go.wp_at_succ
section
variable {B : Nat} {w w' w1 w2 w3 : World} {p q : Nat} {F G G' : Nat → Prop} {S S' : TS} {kd n : Int} {sd : Nat → Int} {s : Value} {v u v' : Value} {l l' : List Int}
theorem fO.which (h:fO B w p F S):Calls Tryz.prog 63 #[.pointer (some ⟨p,0,none⟩)] w fun e w'=> e=.returned (.int .i64 2)∧w'=w:=by obtain ⟨q,G,hq,_⟩:=h;exact aQ hq.r
theorem pE (h:S.Ok) {m:Nat} (hm:m<S.l.length) (hk:kN S m=4∨kN S m=5∨kN S m=8):∃b:Nat,(bF S.l m).2.2=b∧b<m:=by
 have:=h.ok m _ (gP hm)
 unfold kN at hk
 rcases this with h | h | ⟨_,_,b,h1,h2⟩ | ⟨_,_,b,h1,h2⟩ | ⟨_,_,b,h1,h2,_⟩ | h | h
 ·omega
 ·omega
 ·exact ⟨b,h1,h2⟩
 ·exact ⟨b,h1,h2⟩
 ·exact ⟨b,h1,h2⟩
 ·omega
 ·omega
theorem eF (h:bA S l=none):kM S l=(0,(0,0,0),11):=by unfold kM;rw [h]
theorem eD {n:Nat} (h:bA S l=some n):kM S l=((n:Int),bF S.l n,0):=by unfold kM;rw [h]
theorem qD (h:fO B w p F S) (hb:bg F w v l) (hb':bg F w v' l') (hl:S.l.length≤1000):Calls Tryz.prog 23 #[.pointer (some ⟨p,0,none⟩),v,v'] w fun e w'=> ∃u,e=.returned (.tuple #[u,.int .i64 (dN S l l').2])∧bg F w' u (dN S l l').1∧Below w.heap.size w w':=by
 have HW:=Lib.hid h.which
 have HO:=Lib.hid (bY h hb (by omega))
 have CP:=Lib.hid (fun w1 (b1:Below w.heap.size w w1)=> bY (h.below b1) (hb'.below b1) (by omega))
 have kr:=Lib.hid hb.ok
 have uf:=Lib.hid hb'.ok
 have uS:=Lib.hid h.ok
 have uT:Hid (∀b,F b→b<w.heap.size):=Lib.hid fun b hb=> h.lt hb
 have HL:=Lib.hid hl
 obtain ⟨R,hR⟩:∃x,x=dN S l l':=⟨_,rfl⟩
 rw [←hR]
 have HR:=Lib.hid hR
 obtain ⟨av,cv,rfl,_⟩:=hb.rd
 obtain ⟨AL,cv',rfl,_⟩:=hb'.rd
 clear hR h hb hb' hl
 go_enter Tryz.func23,Tryz.ntmps23
 go_wp2_with fail
 refine HW.out.mono ?_
 rintro e w0 ⟨rfl,rfl⟩
 go_wp2_with fail
 refine HO.out.mono ?_
 rintro e w1 ⟨rfl,b1⟩
 have B1:=Lib.hid b1
 clear b1
 obtain ⟨A,hA⟩:∃x,x=kM S l:=⟨_,rfl⟩
 rw [←hA]
 have HA:=Lib.hid hA
 clear hA
 go_upto_region 11 with (fail)
 refine aD (fun w2=> Below w0.heap.size w0 w2) (B1.out.alloc B1.out.size _) ?_
 rintro w2 b2
 have B2:=Lib.hid b2
 clear b2
 go_wp2_with fail
 refine (CP.out w2 B2.out).mono ?_
 rintro e w3 ⟨rfl,b3⟩
 have B3:=Lib.hid (B2.out.trans (b3.mono B2.out.size))
 clear b3
 obtain ⟨C,hC⟩:∃x,x=kM S l':=⟨_,rfl⟩
 rw [←hC]
 have HC:=Lib.hid hC
 clear hC
 go_upto_region 12 with (fail)
 refine aD (fun w4=> w4.cell? ⟨w3.heap.size,0,none⟩=some (.int .i64 C.2.1.1)∧w4.cell? ⟨w3.heap.size,1,none⟩=some (.int .i64 C.2.1.2.1)∧w4.cell? ⟨w3.heap.size,2,none⟩=some (.int .i64 C.2.1.2.2)∧Below w0.heap.size w0 w4) ⟨cell_of_row _ _ 0 _ _ (0,0) (heap_alloc_new w3 _),cell_of_row _ _ 1 _ _ (0,0) (heap_alloc_new w3 _),cell_of_row _ _ 2 _ _ (0,0) (heap_alloc_new w3 _),B3.out.alloc B3.out.size _⟩ ?_
 rintro w4 ⟨c0,c1,c2,b4⟩
 have B4:=Lib.hid b4
 clear b4
 cases hm:bA S l with
 | none=>
  have HE:Hid (R=([],11)):=Lib.hid (by rw [HR.out];unfold dN;rw [hm])
  obtain rfl:A=(0,(0,0,0),11):=HA.out.trans (eF hm)
  clear hm HA c0 c1 c2
  go_wp2
  go_ret2
  rw [HE.out]
  exact ⟨_,rfl,bg.nil _ _,B4.out⟩
 | some n=>
  have HM:=Lib.hid hm
  have HN:=Lib.hid (bV kr.out hm)
  obtain ⟨t,ht⟩:∃t,t=bF S.l n:=⟨_,rfl⟩
  obtain rfl:A=((n:Int),t,0):=HA.out.trans (ht▸eD hm)
  clear hm HA ht
  cases hm:bA S l' with
  | none=>
   have HE:Hid (R=([],11)):=Lib.hid (by rw [HR.out];unfold dN;rw [HM.out,hm])
   obtain rfl:C=(0,(0,0,0),11):=HC.out.trans (eF hm)
   clear hm HC c0 c1 c2
   go_wp2
   go_ret2
   rw [HE.out]
   exact ⟨_,rfl,bg.nil _ _,B4.out⟩
  | some m=>
   have Aj:=Lib.hid (bV uf.out hm)
   have ji:Hid (R=if kN S m=5∧(bF S.l m).2.1=n then (bD (bF S.l m).2.2,0) else ([],20)):=Lib.hid (by rw [HR.out];unfold dN;rw [HM.out,hm])
   have HB:=Lib.hid (fun hk=> pE uS.out Aj.out hk)
   obtain rfl:C=((m:Int),bF S.l m,0):=HC.out.trans (eD hm)
   have hkd:kN S m=(bF S.l m).1:=rfl
   rw [hkd] at ji HB
   obtain ⟨u,hu⟩:∃t,t=bF S.l m:=⟨_,rfl⟩
   rw [←hu] at ji HB c0 c1 c2 ⊢
   clear hm HC hkd hu
   by_cases hk:u.1=5
   ·have hk':(u.1 !=5)=false:=by simpa using hk
    by_cases hn:u.2.1=n
    ·have hn':(u.2.1 !=(n:Int))=false:=by simpa using hn
     obtain ⟨b,hb1,hb2⟩:=HB.out (.inr (.inl hk))
     have Fp:=Lib.hid hb2
     have HE:Hid (R=(bD (b:Int),0)):=Lib.hid (by rw [ji.out,if_pos ⟨hk,hn⟩,hb1])
     rw [hb1] at c2
     clear hk hn hb1 hb2
     go_wp2_with fail
     refine (bP (b:Int) (by omega) (by have:=Fp.out;have:=Aj.out;have:=HL.out;omega) w4).mono ?_
     rintro e w6 ⟨x,rfl,hx,b6⟩
     have HX:=Lib.hid (bg.own hx (bT (n:=1) (m:=8) (fun _ _=> by decide) fun i _=> mo _ i) fun b hb=> Nat.lt_of_lt_of_le (uT.out b hb) B4.out.size)
     have B6:=Lib.hid (B4.out.trans (b6.mono B4.out.size))
     clear hx b6
     go_wp2
     go_ret2
     rw [HE.out]
     exact ⟨_,rfl,HX.out,B6.out⟩
    ·have hn':(u.2.1 !=(n:Int))=true:=by simpa using hn
     have HE:Hid (R=([],20)):=Lib.hid (by rw [ji.out,if_neg (fun h=> hn h.2)])
     clear hk hn
     go_wp2
     go_ret2
     rw [HE.out]
     exact ⟨_,rfl,bg.nil _ _,B4.out⟩
   ·have hk':(u.1 !=5)=true:=by simpa using hk
    have HE:Hid (R=([],20)):=Lib.hid (by rw [ji.out,if_neg (fun h=> hk h.1)])
    clear hk
    go_wp2
    go_ret2
    rw [HE.out]
    exact ⟨_,rfl,bg.nil _ _,B4.out⟩
end
end Go.Proofs.YtpcjekgfnfjbpaaGreat
