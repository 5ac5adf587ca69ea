/- Part 23 of EscrowComes; conditions: in each theorem. -/
import Derived.Test.YtpcjekgfnfjbpaaGreatPkEC22
import Derived.Test.YtpcjekgfnfjbpaaGreatPkEC9
import Derived.StillTailTactics
set_option linter.unusedVariables false
set_option linter.unusedSimpArgs false
set_option maxRecDepth 100000
set_option maxHeartbeats 3200000
namespace Go.bI
open Go.RowKit
def qE (n:Nat) (f:Nat->Int):List Int:=(List.range n).map f
@[simp] theorem mH (n:Nat) (f:Nat->Int):(qE n f).length=n:=by simp[qE]
theorem Dx {n i:Nat} {f:Nat->Int} (h:i<n):bf (qE n f) i=f i:=by
 unfold bf qE;rw[Na,List.getElem?_map,List.getElem?_range h]
 rfl
theorem Bf {n:Nat} {f:Nat->Int} (h:∀i,i<n->0<=f i/\f i<256):okB (qE n f):=by
 intro x hx;obtain⟨i,hi,rfl⟩:=List.mem_map.1 hx;exact h i (List.mem_range.1 hi)
theorem Yl (l:List Int):qE l.length (bf l)=l:=by
 apply List.ext_getElem?
 intro i;by_cases h:i<l.length
 ·unfold qE bf;rw[List.getElem?_map,List.getElem?_range h,kP h];simp[Na,kP h]
 ·rw[List.getElem?_eq_none (by simpa using h),List.getElem?_eq_none aH]
theorem TR {n:Nat} {f g:Nat->Int} (h:∀i,i<n->f i=g i):qE n f=qE n g:=List.map_congr_left fun i hi=>h i (List.mem_range.1 hi)
theorem Rd.qE {k:IntKind} {w:World} {v:Value} {n:Nat} {f:Nat->Int} (h:Rd k w v n f):Rd k w v (Go.bI.qE n f).length (bf (Go.bI.qE n f)):=by
 rw[mH];exact h.congr fun i hi=>(Dx hi).symm
def yX (n:Int) (i:Nat):Int:=n / 2 ^ (8 * (8 - 1 - i)) % 256
theorem Oi (n:Int) (i:Nat):0<=yX n i/\yX n i<256:=by unfold yX;omega
theorem aah {n:Int} (h0:0<=n) (h1:n<2 ^ 64):big (yX n) 8=n:=by
 have:=Jd (n:=n) (s:=8) aH 8 (bH _);rw[show (8:Nat) * (8 - 8)=0 from rfl,Int.pow_zero,Int.ediv_one] at this;exact this
def eP (n:Int):List Int:=qE 9 (nN 1 (fun _=>247) (yX n))
theorem jL (n:Int):(eP n).length=9:=mH _ _
theorem aeZ (n:Int):bf (eP n) 0=247:=Dx aM
theorem aeY (n:Int) (i:Nat) (h:i<8):bf (eP n) (1+i)=yX n i:=(Dx aH).trans Bt
def QE (l:List Int) (i:Nat):Int:=bf l (1+i)
def lS (S:TS) (l:List Int):Option Nat:=if l.length=9/\bf l 0=247/\oO (QE l) 8=0/\lJ (QE l) 8<S.l.length then some (lJ (QE l) 8).toNat else none
theorem Dw {f g:Nat->Int}:∀k:Nat,(∀i,i<k->f i=g i)->big f k=big g k
 | 0,_=>rfl
 | k+1,h=>by rw[big,big,Dw k fun i hi=>h i aH,h k aH]
theorem BK {n:Int} (h0:0<=n) (h1:n<=4611686018427387904):oO (QE (eP n)) 8=0/\lJ (QE (eP n)) 8=n:=by
 have e:big (QE (eP n)) 8=n:=(Dw 8 fun i hi=>aeY n i hi).trans (aah h0 aH);unfold oO lJ;rw[e,if_neg aM,if_neg aM,if_neg aH,if_neg aH];exact⟨rfl,rfl⟩
theorem kV {S:TS} {n:Nat} (h:n<S.l.length) (hl:S.l.length<=4611686018427387904):lS S (eP n)=some n:=by
 obtain⟨h1,h2⟩:=BK (n:=(n:Int)) aH aH;unfold lS;rw[if_pos ⟨jL _,aeZ _,h1,by rw[h2];omega⟩,h2,MZ]
theorem Dv {f:Nat->Int}:∀k,(∀i,i<k->0<=f i)->0<=big f k
 | 0,_=>Int.le_refl _
 | k+1,h=>by have:=Dv k fun i hi=>h i aH;have:=h k aH;rw[big];omega
theorem vP {f:Nat->Int} {k:Nat} (h:∀i,i<k->0<=f i):0<=lJ f k:=by
 unfold lJ
 split
 ·exact Int.le_refl _
 ·exact Dv k h
theorem uK {S:TS} {l:List Int} {n:Nat} (hb:okB l) (h:lS S l=some n):n<S.l.length:=by
 unfold lS at h
 split at h
 ·rename_i h'
  have h0:0<=lJ (QE l) 8:=vP fun i hi=>(hb.at _ aH).1;obtain rfl:=gJ h;have:=h'.2.2.2;omega
 ·cases h
def TS.few (S:TS):Prop:=∀s,zY S.l s<=S.l.length
theorem TS.few.nil:TS.few ⟨[], []⟩:=fun s=>Int.le_refl _
theorem TS.few.add {S:TS} (h:S.few) {t:Tm} (ht:t.1=1->t.2.2<=S.l.length):(S.add t).few:=fun s=>by
 have:=h s;rw[yF];show zY (S.l++ [t]) s<=_;rw[Cz]
 split
 ·rename_i h'
  have:=ht h'.1;unfold pz;omega
 ·omega
theorem TS.few.put {S:TS} (h:S.few) {t:Tm} (ht:t.1≠1):(S.put t).few:=by
 unfold TS.put
 split
 ·exact h.add fun e=>absurd e ht
 ·exact h
theorem TS.few.draw {S:TS} (h:S.few) (s:Int):(S.draw s).few:=by
 unfold TS.draw
 split
 ·exact h.add fun _=>h s
 ·exact h
abbrev TA:Type:=List Int × Int × TS
def iB (k:Int) (S:TS) (l:List Int):TA:=match lS S l with
 | some n=>(eP (nU S (k,n,0)).1,0,S.put (k,n,0))
 | none=>([],11,S)
def Nq (S:TS) (n:Nat):Int:=(pE S.l n).1
def lQ (k:Int) (S:TS) (a b:List Int):TA:=match lS S a,lS S b with
 | some n,some m=>if k=4/\Nq S n≠2 then ([],11,S) else (eP (nU S (k,n,m)).1,0,S.put (k,n,m))
 | _,_=>([],11,S)
def kX (S:TS) (s:Int):TA:=if isSort s=true then (eP S.l.length,0,S.draw s) else ([],2,S)
structure eG (F:Nat->Prop) (w:World) (v:Value) (l:List Int):Prop where
 ok:okB l
 rd:Rd .u8 w v l.length (bf l)
 off:0<l.length->∀b,v.ownBlock=some b->¬ F b
section
variable {F F' G : Nat -> Prop} {w w' : World} {v : Value} {l : List Int}
theorem Rd.ads {k:IntKind} {n:Nat} {f:Nat->Int} (h:Rd k w v n f) (hn:0<n) {b:Nat} (hb:v.ownBlock=some b):b<w.heap.size:=by
 obtain⟨a,c,rfl,_,_,_,h4⟩:=h;obtain⟨g,o,rfl,hlt,_⟩:=h4 hn;obtain rfl:g=b:=by simpa [Value.ownBlock] using hb
 exact hlt
theorem eG.below (h:eG F w v l) (hb:Below w.heap.size w w'):eG F w' v l:=⟨h.ok,h.rd.below hb,h.off⟩
structure lg (p:Nat) (F:Nat->Prop) (w w':World):Prop where
 gL:fV (fun b=>b=p\/F b) w w'
 u8:∀b,b<w.heap.size->¬ F b->∀i x,w.cell? ⟨b,i,none⟩=some (.int .u8 x)->w'.cell? ⟨b,i,none⟩=some (.int .u8 x)
theorem lg.of_below {p:Nat} (h:Below w.heap.size w w') (F:Nat->Prop):lg p F w w':=⟨.of_below h _,fun b hb _ i x hx=>(h.cell (p:=⟨b,i,none⟩) hb).trans hx⟩
theorem lg.refl (p:Nat) (F:Nat->Prop) (w:World):lg p F w w:=.of_below (bT _ _) F
theorem lg.trans {p:Nat} {w'':World} (h:lg p F w w') (h':lg p F' w' w'') (hF:∀b,F' b->F b\/w.heap.size<=b):lg p F w w'':=
 ⟨h.gL.trans h'.gL fun b hb h1=>h1.imp id fun h2=>(hF b h2).elim id fun h3=>by omega,fun b hb hn i x hx=>h'.u8 b (qZ hb h.gL.size) (fun h2=>(hF b h2).elim hn fun h3=>by omega) i x (h.u8 b hb hn i x hx)⟩
theorem lg.OA {p:Nat} (h:fV F w w'):lg p F w w':=⟨h.mono fun b _ hb=>.inr hb,fun b hb hn i x hx=>(h.cell (p:=⟨b,i,none⟩) hb hn).trans hx⟩
theorem Rd.Ah {p n:Nat} {f:Nat->Int} (h:Rd .u8 w v n f) (hc:lg p F w w') (gW:0<n->∀b,v.ownBlock=some b->¬ F b):Rd .u8 w' v n f:=by
 obtain⟨a,c,rfl,h1,h2,h3,h4⟩:=h;refine⟨a,c,rfl,h1,h2,h3,fun hn=>?_⟩;obtain⟨b,o,rfl,hlt,hcell⟩:=h4 hn;have:=hc.gL.size;exact⟨b,o,rfl,by omega,fun i hi=>hc.u8 b hlt (gW hn b rfl) _ _ (hcell i hi)⟩
theorem eG.Ah {p:Nat} (h:eG F w v l) (hc:lg p F w w') (hF:∀b,F' b->F b\/w.heap.size<=b):eG F' w' v l:=by
 refine⟨h.ok,h.rd.Ah hc h.off,fun hn b hb hf=>?_⟩;rcases hF b hf with h1 | h1
 ·exact h.off hn b hb h1
 ·have:=h.rd.ads hn hb;omega
theorem eG.nil (F:Nat->Prop) (w:World):eG F w (.slice none 0 0) [] :=⟨(fun _ h=>by cases h),Rd.nil _ _ _,aP⟩
theorem eG.own {e:TypeId} {N n:Nat} {f:Nat->Int} (h:Own .u8 e N w v n f) (hf:∀i,i<n->0<=f i/\f i<256) (hF:∀b,F b->b<N):eG F w v (qE n f):=
 ⟨Bf hf,h.rd.qE,fun _ b hb hFb=>by have:=h.block b hb;have:=hF b hFb;omega⟩
theorem eG.slice (h:eG F w v l):∃a c,v=.slice a l.length c:=by obtain⟨a,c,e,_⟩:=h.rd;exact⟨a,c,e⟩
end
end Go.bI
namespace Go.Proofs.YtpcjekgfnfjbpaaGreat
open Go.RowKit Go.bI
def eF (S:TS) (a b:List Int):List Int × Int:=match lS S a,lS S b with
 | some n,some m=>if Nq S m=4/\(Az S (pE S.l m).2.1).1.2.1=n then (eP (pE S.l m).2.2,0) else ([],20)
 | _,_=>([],11)
end Go.Proofs.YtpcjekgfnfjbpaaGreat
namespace Go.Proofs.YtpcjekgfnfjbpaaGreat
open Go.RowKit Go.bI Go.ChangeShapes Go.Maps
attribute [local go_sem ↓] Go.wp_at_zero Go.wp_at_succ
theorem WK (w:World):Calls Tryz.prog 106 #[] w fun e w'=> ∃p F,e=.returned (.pointer (some ⟨p,0,none⟩))/\zH w.heap.size w' p F ⟨[], []⟩/\Below w.heap.size w w':=by
 have HM:=ay (uw.made Tryz.prog 96 3 w (fun i=>lv NJ [] i 0) (fun i=>match ([] :List Tm)[i]? with | some x=>kF (kQ [] x) | none=>undef));have HM2:=ay (uw.made Tryz.prog 9 3 (w.alloc (.map #[] 0)) (fun i=>lv txV [] i 0) (fun i=>match ([] :List (List Int))[i]? with | some x=>kF (txN ⟨[], []⟩ x) | none=>undef));have hmk:∀w,(Instr.makeMap 160 none).run Tryz.prog w=.ok (.map (some w.heap.size)) (w.alloc (.map #[] 0)):=fun w=>rfl;have awm:∀w,(Instr.makeMap 161 none).run Tryz.prog w=.ok (.map (some w.heap.size)) (w.alloc (.map #[] 0)):=fun w=>rfl
 go_enter Tryz.func106,Tryz.ntmps106
 go_wp2;go_ret;obtain⟨W2,hW2⟩:∃W2,(w.alloc (.map #[] 0)).alloc (.map #[] 0)=W2:=⟨_,rfl⟩
 have b1:Below w.heap.size w W2:=by rw[<-hW2];exact((bT _ _).alloc (bH _) _).alloc aR _
 have hs:W2.heap.size=w.heap.size+1+1:=by rw[<-hW2];simp
 have m1:=(HM.out.alloc (.map #[] 0))
 have m2:=HM2.out;rw[hW2] at m1 m2;rw[World.size_alloc] at m2;rw[hW2,←hs];obtain⟨O,hO⟩:∃O,O=Obj.cells #[.slice none 0 0,.map (some w.heap.size),.map (some (w.heap.size+1)),.slice none 0 0,.int .i64 0,.int .i64 0,.int .i64 0,.int .i64 0,.int .i64 0] 164:=⟨_,rfl⟩
 have hb:=heap_alloc_new W2 (.cells #[.slice none 0 0,.map (some w.heap.size),.map (some (w.heap.size+1)),.slice none 0 0,.int .i64 0,.int .i64 0,.int .i64 0,.int .i64 0,.int .i64 0] 164);have hc:=fun i=>cell_of_row _ _ i _ _ (0,0) hb;refine⟨W2.heap.size,_,rfl,⟨w.heap.size,w.heap.size+1,.slice none 0 0,.slice none 0 0,fun _=>.slice none 0 0,⟨⟨⟨_,hb,rfl⟩,hc 0,hc 1,hc 2,hc 3,fun k hk=>?_,iA.nil _ _ _ _,m1.alloc _,m2.alloc _,iA.nil _ _ _ _,fun j b hj=>(by simp at hj),by omega,by omega,bH _,by omega,fun b hb=>(by cases hb),fun b hb=>(by cases hb)⟩,List.nodup_nil,List.nodup_nil,fun j hj=>absurd hj (Nat.not_lt_zero _),fun t ht=>(by cases ht),fun b hb=>(by cases hb)⟩,TS.Ok.empty,fun b=>Iff.rfl⟩,b1.alloc b1.size _⟩;rcases(by omega:k=0\/k=1\/k=2\/k=3\/k=4) with rfl | rfl | rfl | rfl | rfl<;> exact hc _
theorem Xa {B:Nat} {w:World} {p:Nat} {F:Nat->Prop} {S:TS} (h:zH B w p F S):Calls Tryz.prog 115 #[.pointer (some ⟨p,0,none⟩)] w fun e w'=>e=.returned (kF S.l.length)/\w'=w:=by
 obtain⟨mb,mt,vl,vb,tv,h1,_,_⟩:=h;exact WO h1
structure mq (w:World) (p:Nat) (kd:Int) (sd:Nat->Int) (n:Int) (s:Value):Prop where
 row:lX w p 105 35
 ck:w.cell? ⟨p,0,none⟩=some (.int .i64 kd)
 cs:∀i,i<32->w.cell? ⟨p,1+i,none⟩=some (.int .u8 (sd i))
 cn:w.cell? ⟨p,33,none⟩=some (.int .i64 n)
 cp:w.cell? ⟨p,34,none⟩=some s
section
variable {B : Nat} {w w' : World} {p q : Nat} {F G G' : Nat -> Prop} {S S' : TS} {kd n : Int} {sd : Nat -> Int} {s : Value}
theorem mq.keep (h:mq w p kd sd n s) (hc:fV F w w') (hF:¬ F p):mq w' p kd sd n s:=
 have hl:=h.row.lt
 ⟨h.row.heap (hc.block p hl hF),(hc.cell (p:=⟨p,0,none⟩) hl hF).trans h.ck,fun i hi=>(hc.cell (p:=⟨p,1+i,none⟩) hl hF).trans (h.cs i hi),(hc.cell (p:=⟨p,33,none⟩) hl hF).trans h.cn,(hc.cell (p:=⟨p,34,none⟩) hl hF).trans h.cp⟩
theorem mq.below (h:mq w p kd sd n s) (hb:Below w.heap.size w w'):mq w' p kd sd n s:=h.keep (.of_below hb fun _=>False) id
theorem mq.rd (h:mq w p kd sd n s):Rd .u8 w (.slice (some ⟨p,1,none⟩) 32 32) 32 sd:=⟨_,_,rfl,bH _,by decide,(fun h=>by cases h),fun _=>⟨p,1,rfl,h.row.lt,h.cs⟩⟩
structure Vl (B:Nat) (w:World) (p q:Nat) (G:Nat->Prop) (S:TS):Prop where
 r:mq w p 2 (fun _=>0) 0 (.pointer (some ⟨q,0,none⟩))
 st:zH B w q G S
 few:S.few
 hp:B<=p
 np:¬ G p
def pF (B:Nat) (w:World) (p:Nat) (F:Nat->Prop) (S:TS):Prop:=∃q G,Vl B w p q G S/\∀b,F b ↔ b=p\/G b
theorem Vl.below (h:Vl B w p q G S) (hb:Below w.heap.size w w'):Vl B w' p q G S:=⟨h.r.below hb,h.st.below hb,h.few,h.hp,h.np⟩
theorem Vl.hB (h:Vl B w p q G S):B<=w.heap.size:=iw h.hp (Nat.le_of_lt h.r.row.lt)
theorem Vl.lt (h:Vl B w p q G S) {b:Nat} (hb:b=p\/G b):b<w.heap.size:=by
 rcases hb with rfl | hb
 ·exact h.r.row.lt
 ·exact h.st.lt hb
theorem Vl.put (h:Vl B w p q G S) (h1:zH B w' q G' S') (hc:fV G w w') (hf:∀b,G' b->G b\/w.heap.size<=b) (hw:S'.few):Vl B w' p q G' S':=
 ⟨h.r.keep hc h.np,h1,hw,h.hp,fun hb=>(hf p hb).elim h.np fun h'=>by have:=h.r.row.lt;omega⟩
theorem pF.below (h:pF B w p F S) (hb:Below w.heap.size w w'):pF B w' p F S:=by obtain⟨q,G,h,hF⟩:=h;exact⟨q,G,h.below hb,hF⟩
theorem pF.hi (h:pF B w p F S) {b:Nat} (hb:F b):B<=b:=by
 obtain⟨q,G,h,hF⟩:=h;rcases(hF b).1 hb with rfl | hb
 ·exact h.hp
 ·exact h.st.hi hb
theorem pF.lt (h:pF B w p F S) {b:Nat} (hb:F b):b<w.heap.size:=by
 obtain⟨q,G,h,hF⟩:=h;exact h.lt ((hF b).1 hb)
theorem pF.ok (h:pF B w p F S):S.Ok:=by obtain⟨q,G,h,hF⟩:=h;exact h.st.ok
theorem pF.keep {H:Nat->Prop} (h:pF B w p F S) (hc:fV H w w') (hF:∀b,F b->¬ H b):pF B w' p F S:=by
 obtain⟨q,G,h,hG⟩:=h;exact⟨q,G,⟨h.r.keep hc (hF p ((hG p).2 (.inl rfl))),h.st.keep hc fun b hb=>hF b ((hG b).2 (.inr hb)),h.few,h.hp,h.np⟩,hG⟩
def AU (B:Nat) (w:World) (p:Nat) (F:Nat->Prop) (v:Value) (r:TA) (w':World):Prop:=∃F',pF B w' p F' r.2.2/\eG F' w' v r.1/\fV F w w'/\∀b,F' b->F b\/w.heap.size<=b
def EC (S:TS) (l:List Int):Int × Bool:=match lS S l with | some n=>((n:Int),true) | none=>(0,false)
def EB (S:TS) (l:List Int):Int × Tm × Int:=match lS S l with | some n=>((n:Int),pE S.l n,0) | none=>(0,(0,0,0),11)
theorem gF (h:mq w p kd sd n s):Calls Tryz.prog 63 #[.pointer (some ⟨p,0,none⟩)] w fun e w'=>e=.returned (.int .i64 kd)/\w'=w:=by
 have ck:=h.ck;clear h
 go_enter Tryz.func63,Tryz.ntmps63
 go_wp2;go_ret;exact⟨rfl,rfl⟩
theorem rD (n:Int) (h0:0<=n) (h1:n<=4611686018427387904) (w:World):Calls Tryz.prog 77 #[.int .i64 n,.int .i64 0] w fun e w'=> ∃v,e=.returned (.tuple #[v,.int .i64 0])/\Go.bI.Own .u8 5 w.heap.size w' v 9 (nN 1 (fun _=>247) (yX n))/\Below w.heap.size w w':=by
 have HP:=ay (fun w=>Oh n 8 w aM aM h0 h1 (aP));clear h0 h1
 go_enter Tryz.func77,Tryz.ntmps77
 go_wp2_with fail;refine(HP.out _).mono ?_;rintro e w1 ⟨u,rfl,hu,b1⟩;have HU:=ay (hu.rd);have B1:=ay b1;obtain⟨au,cu,rfl,_⟩:=hu.rd;clear hu b1;go_wp2_with (at_builtin;refine jE rfl _ _ 23 rfl w.heap.size 5 .u8 1 mo yL _ 1 (nN 1 (fun _=>247) (yX n)) (Go.bI.Own.new .u8 _ w1 _ 1 _ B1.out.size aM rfl (fun i hi=>Tw hi (by obtain rfl:i=0:=aH;rfl))) rfl _ 8 (yX n) (HU.out.below ((bT _ _).alloc (bH _) _)) rfl (fun i _=>Bt) aM aM (by have:=B1.out.size;rw[World.size_alloc];omega) ?_;intro v5 w5 cK hgr);have HO:=ay cK;have B5:Hid (Below w.heap.size w w5):=ay (below_grown (B1.out.alloc B1.out.size _) hgr (Go.bI.Own.new .u8 5 (base:=w.heap.size) w1 #[.int .u8 247] 1 (fun _=>247) B1.out.size aM rfl (fun i hi=>Tw hi rfl)) (by have:=B1.out.size;rw[World.size_alloc];omega) (bH _));go_ret2;exact⟨_,rfl,HO.out,B5.out⟩
end
section
variable {B : Nat} {w w' : World} {p q : Nat} {F G G' : Nat -> Prop} {S S' : TS} {kd n : Int} {sd : Nat -> Int} {s : Value} {v : Value} {l : List Int}
theorem GJ (h:pF B w p F S) (hb:eG F w v l) (hl:S.l.length<=1000):Calls Tryz.prog 59 #[.pointer (some ⟨p,0,none⟩),v] w fun e w'=>e=.returned (.tuple #[.int .i64 (EC S l).1,.bool (EC S l).2])/\Below w.heap.size w w':=by
 obtain⟨q,G,hq,hF⟩:=h;have HW:=ay (gF hq.r);have HB:=ay hb.rd;have HL:=ay hl;obtain⟨N,hN⟩:∃x,x=EC S l:=⟨_,rfl⟩
 rw[<-hN];have HN:=ay hN;by_cases h9:l.length=9
 ·rw[h9] at HB;obtain⟨av,cv,rfl,hc1,hc2,_,hc⟩:=HB.out;obtain⟨b,o,rfl,hblt,hcell⟩:=hc aM;have c0:=hcell 0 aM;rw[Nat.add_zero] at c0;by_cases h0:bf l 0=247
  ·rw[h0] at c0;obtain⟨a',_,hr,hrd⟩:=Rd.cut (P:=Tryz.prog) mo yL (some ⟨b,o,none⟩) 9 cv 1 9 aM (bH _) hc1;have HT:Hid (Rd .u8 w (.slice a' 8 (cv - 1)) 8 (QE l)):=ay ((hrd w _ HB.out).2);have hr:∀w,(Instr.sliceAt 23 (.slice (some ⟨b,o,none⟩) 9 cv) (some (.int .i64 1)) none none).run Tryz.prog w=.ok (.slice a' 8 (cv - 1)) w:=hr;obtain⟨C,hC⟩:∃C,C=cv - 1:=⟨_,rfl⟩
   rw[<-hC] at HT hr;have aaz:=ay hr;have ami:Hid (∀i,i<8->0<=QE l i/\QE l i<256):=ay fun i hi=>hb.ok.at _ aH;obtain⟨E,hE⟩:∃x,x=oO (QE l) 8:=⟨_,rfl⟩
   obtain⟨X,hX⟩:∃x,x=lJ (QE l) 8:=⟨_,rfl⟩
   have HG:=ay (fun w1 h=>acX (.slice a' 8 C) 8 (QE l) w1 h ami.out);rw[<-hE,←hX] at HG;have HST:=ay hq.st;have cp:=hq.r.cp;have HR:=ay hq.r;have gW:((247:Int) !=247)=false:=rfl;have hE0:N=if E=0/\X<S.l.length then (X,true) else (0,false):=by
    rw[hN];unfold EC lS;by_cases hc:E=0/\X<S.l.length
    ·have h0':0<=lJ (QE l) 8:=vP fun i hi=>(ami.out i hi).1;rw[if_pos ⟨h9,h0,hE▸hc.1,hX▸hc.2⟩,if_pos hc];simp only[hX];rw[Int.toNat_of_nonneg h0']
    ·rw[if_neg (fun h=>hc ⟨hE.trans h.2.2.1,by rw[hX];exact h.2.2.2⟩),if_neg hc]
   have Vx:=ay hE0;have hr:=aaz.out;clear hE0 hE hX hC hrd hc hcell hN hF hq hb hl h0
   go_enter Tryz.func59,Tryz.ntmps59
   go_wp2_with fail;refine HW.out.mono ?_;rintro e w1 ⟨rfl,rfl⟩;go_wp2_with fail;refine(HG.out _ HT.out).mono ?_;rintro e w2 ⟨rfl,b2⟩;have aqL:=ay (HST.out.below b2);have cp:=(HR.out.below b2).cp;have B2:=ay b2;clear b2;by_cases e0:E=0
   ·subst e0;have hz:((0:Int) !=0)=false:=rfl;go_wp2_with fail;refine(Xa aqL.out).mono ?_;rintro e w3 ⟨rfl,rfl⟩;by_cases hx:X<S.l.length
    ·have hg:decide ((S.l.length:Int)<=X)=false:=decide_eq_false aH;have HE:Hid (N=(X,true)):=ay (by rw[Vx.out,if_pos ⟨by trivial,hx⟩]);clear hx;go_wp2;go_ret2;rw[HE.out];exact⟨rfl,B2.out⟩
    ·have hg:decide ((S.l.length:Int)<=X)=true:=decide_eq_true aH;have HE:Hid (N=(0,false)):=ay (by rw[Vx.out,if_neg (fun h=>hx h.2)]);clear hx;go_wp2;go_ret2;rw[HE.out];exact⟨rfl,B2.out⟩
   ·have hz:(E !=0)=true:=by simpa using e0
    have HE:Hid (N=(0,false)):=ay (by rw[Vx.out,if_neg (fun h=>e0 h.1)]);clear e0;go_wp2;go_ret2;rw[HE.out];exact⟨rfl,B2.out⟩
  ·have HE:Hid (N=(0,false)):=ay (by rw[HN.out];unfold EC lS;rw[if_neg (fun h=>h0 h.2.1)]);have gW:((bf l 0) !=247)=true:=by simpa using h0
   clear hc hcell hN hF hq hb hl h0
   go_enter Tryz.func59,Tryz.ntmps59
   go_wp2_with fail;refine HW.out.mono ?_;rintro e w1 ⟨rfl,rfl⟩;go_wp2;go_ret2;rw[HE.out];exact⟨rfl,bT _ _⟩
 ·have HE:Hid (N=(0,false)):=ay (by rw[HN.out];unfold EC lS;rw[if_neg (fun h=>h9 h.1)]);obtain⟨av,cv,rfl,hc1,hc2,_,hc⟩:=HB.out;have h9':((l.length:Int) !=9)=true:=by simp;omega
  clear hc hN hF hq hb hl h9
  go_enter Tryz.func59,Tryz.ntmps59
  go_wp2_with fail;refine HW.out.mono ?_;rintro e w1 ⟨rfl,rfl⟩;go_wp2;go_ret2;rw[HE.out];exact⟨rfl,bT _ _⟩
theorem aeV {P:Program} {o:Oper} {a:Act} {w:World} {K:Act->World->Prop} {Q:Exit->Act->World->Prop} (x:Operand) (d:Nat) (hop:o.op=.assign x) (hd:o.dst=some d) (h:K (a.put (some d) (a.eval x)) w):o.wp P a w K Q:=by
 rw[<-hd] at h;unfold Oper.wp execOp;simp only[hop];exact h
theorem zS {P:Program} {fn:Func} {p q r:Tmp} {T:TypeId} (h:fn.results=#[.tmp p,.cell q T,.tmp r]) (tmps:Array Value) (w:World) (k:IntKind) (b n:Nat) (f:Nat->Int) {d:TypeDesc}
  (hp:tmps.getD q undef=.pointer (some ⟨b,0,none⟩)) (ha:aK k w b n f) (hu:P.underlying T=some d) (hd:EL d=true) (hi:(P.info? T).map (·.size)=some n):
  (results fn tmps).run P w=.ok (.tuple #[tmps.getD p undef,.agg (arr k n f),tmps.getD r undef]) w:=by
 obtain⟨t,ht⟩:=ha;have hp':tmps[q]?.getD undef=.pointer (some ⟨b,0,none⟩):=by simpa using hp
 simp[results,h,hp',asAddr,run_loadVar_row w b t T (arr k n f) (0,0) _ ht hu (by cases d<;> first | rfl | cases hd) (by rw[hi,iZ])]
theorem BO {l:List Tm} {n:Nat} (h:n<l.length):l[n]? =some (pE l n):=by
 unfold pE;rw[Na,kP h]
 rfl
theorem YV {S:TS} {l:List Int} {n:Nat} (hb:okB l) (h:lS S l=some n):Az S (n:Int)=(pE S.l n,true):=CX (BO (uK hb h))
theorem Tryz.size96:(Tryz.prog.info? 96).map (·.size)=some 3:=Tryz.sizeTm
theorem sK (h:pF B w p F S) (hb:eG F w v l) (hl:S.l.length<=1000):Calls Tryz.prog 76 #[.pointer (some ⟨p,0,none⟩),v] w fun e w'=>e=.returned (.tuple #[.int .i64 (EB S l).1,NJ (EB S l).2.1,.int .i64 (EB S l).2.2])/\Below w.heap.size w w':=by
 have HNU:=ay (fun w1 (b1:Below w.heap.size w w1)=>GJ (h.below b1) (hb.below b1) hl);have yM:=ay hb.ok;obtain⟨q,G,hq,hF⟩:=h;have HQ:=ay hq;obtain⟨N,hN⟩:∃x,x=EB S l:=⟨_,rfl⟩
 rw[<-hN];have HN:=ay hN;obtain⟨av,cv,rfl,_⟩:=hb.rd;clear hN hq hF hb hl
 go_enter Tryz.func76,Tryz.ntmps76
 go_upto_region 1 with(fail);refine aJ (fun w1=>aK .i64 w1 w.heap.size 3 (fun _=>0)/\Below w.heap.size w w1) ⟨cB rfl (by rfl),(bT _ _).alloc (bH _) _⟩ ?_;rintro w1 ⟨vO,b1⟩;go_wp2_with fail;refine(HNU.out w1 b1).mono ?_;rintro e w2 ⟨rfl,b2⟩;replace vO:=vO.kept b2;replace b1:=b1.trans (b2.mono b1.size);clear b2
 cases hm:lS S l with
 | none=>
  have HE:Hid (N=(0,(0,0,0),11)):=ay (by rw[HN.out];unfold EB;rw[hm]);rw[show EC S l=(0,false) from by unfold EC;rw[hm]];clear hm;have HA:=ay vO;have B1:=ay b1;clear vO b1;go_wp2_with (refine aL rfl 96 _ _ rfl .i64 w.heap.size 3 (fun _=>0) (tf (0,0,0)) Tryz.sizeTm rfl rfl HA.out ?_);rw[HE.out];exact bodyPost_ret (zS rfl _ _ .i64 w.heap.size 3 _ rfl (HA.out.setRow _ _) Tryz.underlying96 rfl Tryz.sizeTm) rfl ⟨rfl,aB B1.out (bH _) _⟩
 | some n=>
  have HE:Hid (N=((n:Int),pE S.l n,0)):=ay (by rw[HN.out];unfold EB;rw[hm]);have HG:=ay (YV yM.out hm);rw[show EC S l=((n:Int),true) from by unfold EC;rw[hm]];clear hm;have HA:=ay vO;have B1:=ay b1;have HST:=ay (HQ.out.st.below b1);have cp:=(HQ.out.r.below b1).cp;clear vO b1;go_wp2_with fail;refine(JV HST.out n).mono ?_;rw[HG.out];rintro e w3 ⟨rfl,b3⟩;have HA:=ay (HA.out.kept b3);have B3:=ay (B1.out.trans (b3.mono B1.out.size));clear b3 cp;obtain⟨t,ht⟩:∃t,t=pE S.l n:=⟨_,rfl⟩
  rw[<-ht] at HE ⊢;clear ht;have wN:Hid (w.heap.size<w3.heap.size):=ay HA.out.lt;go_upto_region 5 with(refine aL rfl 96 _ _ rfl .i64 w3.heap.size 3 (fun _=>0) (tf t) Tryz.sizeTm rfl rfl (cB rfl (by rfl)) ?_);refine aJ (fun w4=>aK .i64 w4 w.heap.size 3 (fun _=>0)/\aK .i64 w4 w3.heap.size 3 (tf t)/\Below w.heap.size w w4) ⟨(HA.out.alloc _).aC _ (Nat.ne_of_lt wN.out) _,(show aK .i64 (w3.alloc (.cells #[.int .i64 0,.int .i64 0,.int .i64 0] 96)) w3.heap.size 3 (fun _=>0) from cB rfl (by rfl)).setRow 3 (tf t),aB (B3.out.alloc B3.out.size _) B3.out.size _⟩ ?_;rintro w4 ⟨h4,h5,aD⟩;have hlt:=wN.out;obtain⟨N3,hN3⟩:∃x,x=w3.heap.size:=⟨_,rfl⟩
  rw[<-hN3] at hlt h5 ⊢;clear hN3
  refine qc (n:=31) 4 rfl aM aQ aQ aQ aQ rfl
   (fun ii vv ww=>(match ii with | 0 | 2=>vv=.int .i64 ((n:Int)) | 1=>vv=.agg (arr .i64 3 (tf t)) | _=>True)/\(ii=3->aK .i64 ww (w.heap.size) 3 (tf t))) 3
   (fun b ww=>(aK .i64 ww (N3) 3 (tf t)/\Below w.heap.size w ww)/\(b=false->aK .i64 ww ((w.heap.size)) 3 (fun _=>0))) ⟨⟨h5.drew,aD.drew⟩,fun _=>h4.drew⟩
   (fun i ww w'=>match i with | 3=>((aK .i64 ww (N3) 3 (tf t)/\Below w.heap.size w ww)->(aK .i64 w' (N3) 3 (tf t)/\Below w.heap.size w w')) | _=>Below ww.heap.size ww w') ?_ ?_ ?_ ?_ rfl ?_ ?_
  ·intro i ww;(try dsimp only);split
   ·exact id
   ·exact bT _ _
  ·intro i b ww w' hi hR hE;have hE':Below ww.heap.size ww w':=by(try dsimp only at hE);split at hE;(· exact absurd rfl hi);exact hE
   obtain⟨⟨q0,qb⟩,nH⟩:=hR;exact⟨⟨q0.kept hE',qb.trans (hE'.mono qb.size)⟩,fun hb=>(nH hb).kept hE'⟩
  ·intro ww w' hR hE;exact⟨hE hR.1,fun h=>by cases h⟩
  ·intro i j b v ww w' gI hjb hR hS hE;refine⟨hS.1,fun e=>?_⟩;subst e;have hE':Below ww.heap.size ww w':=by(try dsimp only at hE);split at hE;(· exact absurd rfl gI);exact hE
   exact(hS.2 rfl).kept hE'
  ·refine dG ?_;refine⟨?_,?_,?_,?_,(fun h=>absurd rfl h),trivial⟩
   ·intro _ b a w2 hcb hB0 hF hd;obtain⟨⟨h5,aD⟩,nH⟩:=hB0;have hB:=bT w2.heap.size w2;exact aN <| aG _ (.inl rfl) aR ⟨(hF.same 7 rfl),aP⟩
   ·intro _ b a w2 hcb hB0 hF hd;obtain⟨⟨h5,aD⟩,nH⟩:=hB0;have hB:=bT w2.heap.size w2;exact aN <| aW (aF rfl Tryz.underlying96 rfl Tryz.size96 (hF.same 9 rfl) (h5.below hB h5.lt)) ⟨rfl,aP⟩
   ·intro _ b a w2 hcb hB0 hF hd;obtain⟨⟨h5,aD⟩,nH⟩:=hB0;have hB:=bT w2.heap.size w2;exact aN <| aG _ (.inr rfl) aR ⟨((hd 0 _ rfl (aj rfl)).1),aP⟩
   ·intro _ b a w2 hcb hB0 hF hd;obtain⟨⟨h5,aD⟩,nH⟩:=hB0;have hB:=bT w2.heap.size w2;refine aN <| bG 96 _ _ rfl .i64 ((w.heap.size)) 3 (fun _=>0) (tf t) Tryz.size96 (hF.same 5 rfl) ((hd 1 _ rfl (aj rfl)).1) (nH (hcb rfl)) ?_;exact⟨_,rfl,fun _=>rfl,⟨trivial,fun _=>(nH (hcb rfl)).setRow _ _⟩,fun⟨p0,p1⟩=>⟨p0.aC _ aH _,aB p1 aH _⟩⟩
  ·intro b a w5 hB0 hF hS;have V3:=(hS 3 _ rfl aM).2 rfl;obtain⟨⟨h5,aD⟩,_⟩:=hB0;obtain⟨xl,hxl⟩:∃x,x=a.tmps.getD 6 undef:=⟨_,rfl⟩
   have ha:=aO rfl rfl hF [_,_,_,undef,xl] rfl ⟨(hS 0 _ rfl aM).1,(hS 1 _ rfl aM).1,(hS 2 _ rfl aM).1,trivial,hxl.symm,trivial⟩;simp only[puts,Act.put,fB,fD,fF] at ha;subst ha;clear hS hF hxl;refine aeV (.const (.int .i64 (0))) 6 rfl rfl ?_;simp only[Act.put,fB,fD,fF];have hb:=aD;go_wp2;rw[HE.out];exact bodyPost_ret (zS rfl _ _ .i64 w.heap.size 3 _ rfl V3 Tryz.underlying96 rfl Tryz.sizeTm) rfl ⟨rfl,hb⟩
end
section
variable {B : Nat} {w w' w1 w2 w3 : World} {p q : Nat} {F G G' : Nat -> Prop} {S S' : TS} {kd n : Int} {sd : Nat -> Int} {s : Value} {v u : Value} {l : List Int}
theorem yR (h:Vl B w p q G S) (hF:∀b,F b ↔ b=p\/G b) (hb:Below w.heap.size w w') (er:Int):AU B w p F (.slice none 0 0) ([],er,S) w':=
 ⟨F,⟨q,G,h.below hb,hF⟩,eG.nil _ _,.of_below hb _,fun b hb=>.inl hb⟩
theorem NR (h:Vl B w p q G S) (hF:∀b,F b ↔ b=p\/G b) (hb:Below w.heap.size w w1) (h1:zH B w2 q G' S') (hc:fV G w1 w2) (hf:∀b,G' b->G b\/w1.heap.size<=b) (hw:S'.few)
  {e:TypeId} (ho:Go.bI.Own .u8 e w2.heap.size w3 u 9 (nN 1 (fun _=>247) (yX n))) (ji:Below w2.heap.size w2 w3) (er:Int):AU B w p F u (eP n,er,S') w3:=by
 have hQ:=(h.below hb).put h1 hc hf hw;refine⟨fun b=>b=p\/G' b,⟨q,G',hQ.below ji,fun _=>Iff.rfl⟩,eG.own ho (mJ (n:=1) (m:=8) (fun _ _=>by decide) fun i _=>Oi n i) fun b hb=>hQ.lt hb,?_,fun b hb'=>?_⟩
 ·exact((fV.of_below hb F).trans (hc.mono (G:=F) fun b _ hg=>(hF b).2 (.inr hg)) fun _ _ h=>h).trans (fV.of_below ji F) fun _ _ h=>h
 ·rcases hb' with rfl | hb'
  ·exact .inl ((hF b).2 (.inl rfl))
  ·exact(hf b hb').imp (fun h=>(hF b).2 (.inr h)) fun h'=>iw hb.size h'
theorem CV {S:TS} {n:Nat} (h:n<S.l.length):jg S.l (n:Int) 0=true:=xX.2 ⟨n,rfl,_,kP h,.inl rfl⟩
theorem OJ {S:TS} {k:Int} (hk:k=2\/k=3\/k=6\/k=7) {n:Nat} (h:n<S.l.length):nV S (k,(n:Int),0)=true:=by
 rcases hk with rfl | rfl | rfl | rfl
 ·rw[Yg,CV h];rfl
 ·rw[Yf,CV h];rfl
 ·rw[Yc,CV h];rfl
 ·rw[Yb,CV h];rfl
theorem QV {S:TS} {t:Tm} (h:nV S t=true):(nU S t).2=0/\0<=(nU S t).1/\(nU S t).1<=S.l.length:=by
 unfold nU;rw[if_pos h];refine⟨rfl,?_⟩
 split
 ·rename_i hin
  have:=qh hin;simp only;omega
 ·simp only;omega
theorem Ra {k n m:Int} (hk:0<=k/\k<=10) (hn:0<=n/\n<=1000000) (hm:0<=m/\m<=1000000):Cy (k,n,m):=⟨⟨by simp only;omega,by simp only;omega⟩,⟨by simp only;omega,by simp only;omega⟩,⟨by simp only;omega,by simp only;omega⟩⟩
theorem Fu (h:pF B w p F S) (k:Int) (hk:k=2\/k=3\/k=6\/k=7) (hb:eG F w v l) (hl:S.l.length<=900):Calls Tryz.prog 91 #[.pointer (some ⟨p,0,none⟩),.int .i64 k,v] w fun e w'=> ∃u,e=.returned (.tuple #[u,.int .i64 (iB k S l).2.1])/\AU B w p F u (iB k S l) w':=by
 have HO:=ay (sK h hb aH);have yM:=ay hb.ok;obtain⟨q,G,hq,hF⟩:=h;have HQ:=ay hq;have HF:=ay hF;have HK:=ay hk;have HL:=ay hl;obtain⟨R,hR⟩:∃x,x=iB k S l:=⟨_,rfl⟩
 rw[<-hR];have HR:=ay hR;obtain⟨av,cv,rfl,_⟩:=hb.rd;clear hR hq hF hb hl hk
 go_enter Tryz.func91,Tryz.ntmps91
 go_wp2_with fail;refine HO.out.mono ?_;rintro e w1 ⟨rfl,b1⟩;have B1:=ay b1;clear b1;obtain⟨A,hA⟩:∃x,x=EB S l:=⟨_,rfl⟩
 rw[<-hA];have HA:=ay hA;clear hA;go_upto_region 2 with(fail);refine aJ (fun w2=>Below w.heap.size w w2) (B1.out.alloc B1.out.size _) ?_;rintro w2 b2;have B2:=ay b2;clear b2
 cases hm:lS S l with
 | none=>
  have HE:Hid (R=([],11,S)):=ay (by rw[HR.out];unfold iB;rw[hm]);obtain rfl:A=(0,(0,0,0),11):=by rw[HA.out];unfold EB;rw[hm]
  clear hm HA;go_wp2;go_ret2;rw[HE.out];exact⟨_,rfl,yR HQ.out HF.out B2.out 11⟩
 | some m=>
  have HN:=ay (uK yM.out hm);have HE:Hid (R=(eP (nU S (k,m,0)).1,0,S.put (k,m,0))):=ay (by rw[HR.out];unfold iB;rw[hm]);obtain⟨t,ht⟩:∃t,t=pE S.l m:=⟨_,rfl⟩
  obtain rfl:A=((m:Int),t,0):=by rw[HA.out,ht];unfold EB;rw[hm]
  clear hm HA ht;have HP:=ay (QV (OJ HK.out HN.out));have Vo:Hid (Cy (k,(m:Int),0)):=ay (Ra (by have:=HK.out;omega) (by have:=HN.out;have:=HL.out;omega) aH);have cp:=(HQ.out.r.below B2.out).cp;go_wp2_with fail;refine(JU (HQ.out.st.below B2.out) (HQ.out.below B2.out).hB _ Vo.out (by have:=HL.out;omega)).mono ?_;rintro e w3 ⟨rfl,G3,h3,c3,f3⟩;rw[HP.out.1];obtain⟨X,hX⟩:∃X,X=(nU S (k,(m:Int),0)).1:=⟨_,rfl⟩
  rw[<-hX] at HP HE ⊢;have HX:=ay HP.out.2;have H3:=ay h3;have C3:=ay c3;have F3:=ay f3;have HW:Hid ((S.put (k,(m:Int),0)).few):=ay (HQ.out.few.put (by have:=HK.out;simp only;omega));clear hX h3 c3 f3 cp HP;go_wp2_with fail;refine(rD X HX.out.1 (by have:=HX.out.2;have:=HL.out;omega) w3).mono ?_;rintro e w4 ⟨u,rfl,hu,b4⟩;have HD:=ay (NR HQ.out HF.out B2.out H3.out C3.out F3.out HW.out hu b4 0);clear hu b4;go_wp2;go_ret2;rw[HE.out];exact⟨_,rfl,HD.out⟩
theorem akX {S:TS} {n:Nat} {k:Int} (h:n<S.l.length) (hk:Nq S n=k):jg S.l (n:Int) k=true:=xX.2 ⟨n,rfl,_,BO h,.inr hk⟩
theorem Ya {S:TS} {k:Int} {n m:Nat} (hk:(k=4/\Nq S n=2)\/k=5) (h:n<S.l.length) (h':m<S.l.length):nV S (k,(n:Int),(m:Int))=true:=by
 rcases hk with⟨rfl,h2⟩ | rfl
 ·rw[Ye,akX h h2,CV h'];rfl
 ·rw[Yd,CV h,CV h'];rfl
theorem SE {v':Value} {l':List Int} (h:pF B w p F S) (k:Int) (hk:k=4\/k=5) (hb:eG F w v l) (hb':eG F w v' l') (hl:S.l.length<=900):Calls Tryz.prog 67 #[.pointer (some ⟨p,0,none⟩),.int .i64 k,v,v'] w fun e w'=> ∃u,e=.returned (.tuple #[u,.int .i64 (lQ k S l l').2.1])/\AU B w p F u (lQ k S l l') w':=by
 have HO:=ay (sK h hb aH);have HO':=ay (fun w1 (b1:Below w.heap.size w w1)=>sK (h.below b1) (hb'.below b1) aH);have yM:=ay hb.ok;have ain:=ay hb'.ok;obtain⟨q,G,hq,hF⟩:=h;have HQ:=ay hq;have HF:=ay hF;have HK:=ay hk;have HL:=ay hl;obtain⟨R,hR⟩:∃x,x=lQ k S l l':=⟨_,rfl⟩
 rw[<-hR];have HR:=ay hR;obtain⟨av,cv,rfl,_⟩:=hb.rd;obtain⟨av',cv',rfl,_⟩:=hb'.rd;clear hR hq hF hb hb' hl hk
 go_enter Tryz.func67,Tryz.ntmps67
 go_wp2_with fail;refine HO.out.mono ?_;rintro e w1 ⟨rfl,b1⟩;have B1:=ay b1;clear b1;obtain⟨A,hA⟩:∃x,x=EB S l:=⟨_,rfl⟩
 rw[<-hA];have HA:=ay hA;clear hA;go_upto_region 2 with(fail);refine aJ (fun w2=>w2.cell? ⟨w1.heap.size,0,none⟩=some (.int .i64 A.2.1.1)/\Below w.heap.size w w2) ⟨cell_of_row _ _ 0 _ _ (0,0) (heap_alloc_new w1 _),B1.out.alloc B1.out.size _⟩ ?_;rintro w2 ⟨c0,b2⟩;have B2:=ay b2;clear b2
 cases hm:lS S l with
 | none=>
  have HE:Hid (R=([],11,S)):=ay (by rw[HR.out];unfold lQ;rw[hm]);obtain rfl:A=(0,(0,0,0),11):=by rw[HA.out];unfold EB;rw[hm]
  clear hm HA;go_wp2;go_ret2;rw[HE.out];exact⟨_,rfl,yR HQ.out HF.out B2.out 11⟩
 | some n=>
  have HN:=ay (uK yM.out hm);have HM:=ay hm;obtain⟨t,ht⟩:∃t,t=pE S.l n:=⟨_,rfl⟩
  obtain rfl:A=((n:Int),t,0):=by rw[HA.out,ht];unfold EB;rw[hm]
  have HT:=ay ht;have HKD:Hid (Nq S n=t.1):=ay (by rw[ht];rfl);clear hm HA ht;by_cases hbad:k=4/\t.1≠2
  ·obtain⟨rfl,h2⟩:=hbad;have HE:Hid (R=([],11,S)):=ay (by
    rw[HR.out];unfold lQ;rw[HM.out]
    cases lS S l' with
    | none=>rfl
    | some m=>exact if_pos ⟨rfl,by rw[HKD.out];exact h2⟩)
   have h2':(t.1 !=2)=true:=by simpa using h2
   clear h2;go_wp2;go_ret2;rw[HE.out];exact⟨_,rfl,yR HQ.out HF.out B2.out 11⟩
  ·have hc:(k=4/\(t.1 !=2)=false)\/(k=5/\((5:Int)==4)=false):=by
    rcases HK.out with rfl | rfl
    ·exact .inl ⟨rfl,by by_cases e:t.1=2;(· simpa using e);exact absurd ⟨rfl,e⟩ hbad⟩
    ·exact .inr ⟨rfl,rfl⟩
   have HKK:Hid ((k=4/\Nq S n=2)\/k=5):=ay (hc.imp (fun h=>⟨h.1,by rw[HKD.out];simpa using h.2⟩) fun h=>h.1);have ard:Hid (∀m:Nat,m<S.l.length->nV S (k,(n:Int),(m:Int))=true):=ay fun m hm=>Ya HKK.out HN.out hm;have aqS:Hid (∀m:Nat,lS S l'=some m->R=(eP (nU S (k,n,m)).1,0,S.put (k,n,m))):=ay fun m hm=>by
    rw[HR.out];unfold lQ;rw[HM.out,hm];exact if_neg (by rw[HKD.out];exact hbad)
   have Vo:Hid (∀m:Nat,m<S.l.length->Cy (k,(n:Int),(m:Int))):=ay fun m hm=>Ra (by have:=HK.out;omega) (by have:=HN.out;have:=HL.out;omega) (by have:=HL.out;omega);have HK1:Hid (k≠1):=ay (by have:=HK.out;omega);have Jp:Hid (lS S l'=none->R=([],11,S)):=ay fun hm=>by rw[HR.out];unfold lQ;rw[HM.out,hm]
   clear hbad HKK HK HR HKD;rcases hc with⟨rfl,h2⟩ | ⟨rfl,h2⟩
   all_goals
    go_wp2_with fail;refine(HO'.out w2 B2.out).mono ?_;rintro e w3 ⟨rfl,b3⟩;have B3:=ay (B2.out.trans (b3.mono B2.out.size));clear b3 c0 h2;obtain⟨A,hA⟩:∃x,x=EB S l':=⟨_,rfl⟩
    rw[<-hA];have HA:=ay hA;clear hA;go_upto_region 5 with(fail);refine aJ (fun w4=>Below w.heap.size w w4) (B3.out.alloc B3.out.size _) ?_;rintro w4 b4;have B4:=ay b4;clear b4
    cases hm:lS S l' with
    | none=>
     have HE:Hid (R=([],11,S)):=ay (Jp.out hm);obtain rfl:A=(0,(0,0,0),11):=by rw[HA.out];unfold EB;rw[hm]
     clear hm HA;go_wp2;go_ret2;rw[HE.out];exact⟨_,rfl,yR HQ.out HF.out B4.out 11⟩
    | some m=>
     have HE:=ay (aqS.out m hm);have HN':=ay (uK ain.out hm);have Vo:=ay (Vo.out m HN'.out);have HP:=ay (QV (ard.out m HN'.out));obtain⟨t',ht'⟩:∃t,t=pE S.l m:=⟨_,rfl⟩
     obtain rfl:A=((m:Int),t',0):=by rw[HA.out,ht'];unfold EB;rw[hm]
     clear hm HA ht';have cp:=(HQ.out.r.below B4.out).cp;go_wp2_with fail;refine(JU (HQ.out.st.below B4.out) (HQ.out.below B4.out).hB _ Vo.out (by have:=HL.out;omega)).mono ?_;rintro e w5 ⟨rfl,G3,h3,c3,f3⟩;rw[HP.out.1];have HW:=ay (HQ.out.few.put (t:=(_,(n:Int),(m:Int))) HK1.out);have HX:=ay HP.out.2;have H3:=ay h3;have C3:=ay c3;have F3:=ay f3;clear HP h3 c3 f3 cp
     generalize nU S (_,(n:Int),(m:Int))=PA at HX HE ⊢
     obtain⟨X,er⟩:=PA;simp only at HX HE ⊢;go_wp2_with fail;refine(rD X HX.out.1 (by have:=HX.out.2;have:=HL.out;omega) w5).mono ?_;rintro e w6 ⟨u,rfl,hu,b4⟩;have HD:=ay (NR HQ.out HF.out B4.out H3.out C3.out F3.out HW.out hu b4 0);clear hu b4;go_wp2;go_ret2;rw[HE.out];exact⟨_,rfl,HD.out⟩
end
section
variable {B : Nat} {w w' w1 w2 w3 : World} {p q : Nat} {F G G' : Nat -> Prop} {S S' : TS} {kd n : Int} {sd : Nat -> Int} {s : Value} {v u v' : Value} {l l' : List Int}
theorem Fv (h:pF B w p F S) (s:Int) (hl:S.l.length<=900):Calls Tryz.prog 26 #[.pointer (some ⟨p,0,none⟩),.int .i64 s] w fun e w'=> ∃u,e=.returned (.tuple #[u,.int .i64 (kX S s).2.1])/\AU B w p F u (kX S s) w':=by
 obtain⟨q,G,hq,hF⟩:=h;have HQ:=ay hq;have HF:=ay hF;have HL:=ay hl;have HW:=ay (gF hq.r);obtain⟨R,hR⟩:∃x,x=kX S s:=⟨_,rfl⟩
 rw[<-hR];have HR:=ay hR;have ck:=hq.r.ck;have cp:=hq.r.cp;clear hR hq hF hl;by_cases hs:1<=s/\s<=4
 ·have HS:Hid (isSort s=true):=ay (by unfold isSort;rw[decide_eq_true hs.1,decide_eq_true hs.2];rfl);have HN:Hid (zY S.l s<=pz):=ay (by have:=HQ.out.few s;have:=HL.out;unfold pz;omega);have HE:Hid (R=(eP S.l.length,0,S.draw s)):=ay (by rw[HR.out];unfold kX;rw[if_pos HS.out]);have HA:Hid (Ae S s=((S.l.length:Int),0)):=ay (by unfold Ae;rw[if_pos HS.out,if_pos HN.out]);have h1:decide (s<1)=false:=decide_eq_false aH;have h2:decide (4<s)=false:=decide_eq_false aH;clear hs
  go_enter Tryz.func26,Tryz.ntmps26
  go_wp2_with fail;refine HW.out.mono ?_;rintro e w1 ⟨rfl,rfl⟩;go_wp2_with fail;refine(Sy HQ.out.st HQ.out.hB s (by have:=HL.out;omega)).mono ?_;rw[HA.out];rintro e w2 ⟨rfl,G3,h3,c3,f3⟩;have H3:=ay h3;have C3:=ay c3;have F3:=ay f3;clear h3 c3 f3 ck cp;go_wp2_with fail;refine(rD (S.l.length:Int) aH (by have:=HL.out;omega) w2).mono ?_;rintro e w4 ⟨u,rfl,hu,b4⟩;have HD:=ay (NR HQ.out HF.out (bT _ _) H3.out C3.out F3.out (HQ.out.few.draw s) hu b4 0);clear hu b4;go_wp2;go_ret2;rw[HE.out];exact⟨_,rfl,HD.out⟩
 ·have HE:Hid (R=([],2,S)):=ay (by
   rw[HR.out];unfold kX;rw[if_neg];intro h;simp only[isSort,Jg,decide_eq_true_eq] at h;exact hs h)
  by_cases h1:s<1
  ·have h1':decide (s<1)=true:=decide_eq_true h1;clear hs h1 cp
   go_enter Tryz.func26,Tryz.ntmps26
   go_wp2_with fail;refine HW.out.mono ?_;rintro e w1 ⟨rfl,rfl⟩;go_wp2;go_ret2;rw[HE.out];exact⟨_,rfl,yR HQ.out HF.out (bT _ _) 2⟩
  ·have h1':decide (s<1)=false:=decide_eq_false h1;have h2':decide (4<s)=true:=decide_eq_true aH;clear hs h1 cp
   go_enter Tryz.func26,Tryz.ntmps26
   go_wp2_with fail;refine HW.out.mono ?_;rintro e w1 ⟨rfl,rfl⟩;go_wp2;go_ret2;rw[HE.out];exact⟨_,rfl,yR HQ.out HF.out (bT _ _) 2⟩
theorem zO (h:pF B w p F S) (hb:eG F w v l) (hl:S.l.length<=900):Calls Tryz.prog 33 #[.pointer (some ⟨p,0,none⟩),v] w fun e w'=> ∃u,e=.returned (.tuple #[u,.int .i64 (iB 2 S l).2.1])/\AU B w p F u (iB 2 S l) w':=by
 have HC:=ay (Fu h 2 aM hb hl);have HW:Hid (Calls Tryz.prog 63 #[.pointer (some ⟨p,0,none⟩)] w fun e w'=>e=.returned (.int .i64 2)/\w'=w):=ay (by obtain⟨q,G,hq,_⟩:=h;exact gF hq.r);obtain⟨R,hR⟩:∃x,x=iB 2 S l:=⟨_,rfl⟩
 rw[<-hR] at HC ⊢;obtain⟨av,cv,rfl,_⟩:=hb.rd;clear hR h hb hl
 go_enter Tryz.func33,Tryz.ntmps33
 go_wp2_with fail;refine HW.out.mono ?_;rintro e w1 ⟨rfl,rfl⟩;go_wp2_with fail;refine HC.out.mono ?_;rintro e w2 ⟨u,rfl,hR⟩;have HR:=ay hR;clear hR;go_wp2;go_ret2;exact⟨u,rfl,HR.out⟩
theorem vF (h:pF B w p F S) (hb:eG F w v l) (hl:S.l.length<=900):Calls Tryz.prog 34 #[.pointer (some ⟨p,0,none⟩),v] w fun e w'=> ∃u,e=.returned (.tuple #[u,.int .i64 (iB 3 S l).2.1])/\AU B w p F u (iB 3 S l) w':=by
 have HC:=ay (Fu h 3 aM hb hl);have HW:Hid (Calls Tryz.prog 63 #[.pointer (some ⟨p,0,none⟩)] w fun e w'=>e=.returned (.int .i64 2)/\w'=w):=ay (by obtain⟨q,G,hq,_⟩:=h;exact gF hq.r);obtain⟨R,hR⟩:∃x,x=iB 3 S l:=⟨_,rfl⟩
 rw[<-hR] at HC ⊢;obtain⟨av,cv,rfl,_⟩:=hb.rd;clear hR h hb hl
 go_enter Tryz.func34,Tryz.ntmps34
 go_wp2_with fail;refine HW.out.mono ?_;rintro e w1 ⟨rfl,rfl⟩;go_wp2_with fail;refine HC.out.mono ?_;rintro e w2 ⟨u,rfl,hR⟩;have HR:=ay hR;clear hR;go_wp2;go_ret2;exact⟨u,rfl,HR.out⟩
theorem Fq (h:pF B w p F S) (hb:eG F w v l) (hb':eG F w v' l') (hl:S.l.length<=900):Calls Tryz.prog 13 #[.pointer (some ⟨p,0,none⟩),v,v'] w fun e w'=> ∃u,e=.returned (.tuple #[u,.int .i64 (lQ 4 S l l').2.1])/\AU B w p F u (lQ 4 S l l') w':=by
 have HC:=ay (SE h 4 aM hb hb' hl);have HW:Hid (Calls Tryz.prog 63 #[.pointer (some ⟨p,0,none⟩)] w fun e w'=>e=.returned (.int .i64 2)/\w'=w):=ay (by obtain⟨q,G,hq,_⟩:=h;exact gF hq.r);obtain⟨R,hR⟩:∃x,x=lQ 4 S l l':=⟨_,rfl⟩
 rw[<-hR] at HC ⊢;obtain⟨av,cv,rfl,_⟩:=hb.rd;obtain⟨av',cv',rfl,_⟩:=hb'.rd;clear hR h hb hb' hl
 go_enter Tryz.func13,Tryz.ntmps13
 go_wp2_with fail;refine HW.out.mono ?_;rintro e w1 ⟨rfl,rfl⟩;go_wp2_with fail;refine HC.out.mono ?_;rintro e w2 ⟨u,rfl,hR⟩;have HR:=ay hR;clear hR;go_wp2;go_ret2;exact⟨u,rfl,HR.out⟩
end
section
variable {B : Nat} {w w' w1 w2 w3 : World} {p q : Nat} {F G G' : Nat -> Prop} {S S' : TS} {kd n : Int} {sd : Nat -> Int} {s : Value} {v u v' : Value} {l l' : List Int}
theorem pF.which (h:pF B w p F S):Calls Tryz.prog 63 #[.pointer (some ⟨p,0,none⟩)] w fun e w'=>e=.returned (.int .i64 2)/\w'=w:=by obtain⟨q,G,hq,_⟩:=h;exact gF hq.r
theorem ach (h:S.Ok) {m:Nat} (hm:m<S.l.length) (hk:Nq S m=4\/Nq S m=5\/Nq S m=8):∃b:Nat,(pE S.l m).2.2=b/\b<m:=by
 have:=h.ok m _ (BO hm);unfold Nq at hk;rcases this with h | h | ⟨_,_,b,h1,h2⟩ | ⟨_,_,b,h1,h2⟩ | ⟨_,_,b,h1,h2,_⟩ | h | h
 ·omega
 ·omega
 ·exact⟨b,h1,h2⟩
 ·exact⟨b,h1,h2⟩
 ·exact⟨b,h1,h2⟩
 ·omega
 ·omega
theorem Le (h:lS S l=none):EB S l=(0,(0,0,0),11):=by unfold EB;rw[h]
theorem Ld {n:Nat} (h:lS S l=some n):EB S l=((n:Int),pE S.l n,0):=by unfold EB;rw[h]
end
end Go.Proofs.YtpcjekgfnfjbpaaGreat
