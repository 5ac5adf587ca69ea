/-
  Part 23 of EscrowTake. Conditions: named in each theorem.
-/
import Derived.Test.YtpcjekgfnfjbpaaGreatPkEscrowTake22
import Derived.Test.YtpcjekgfnfjbpaaGreatPkEscrowTake10
import Derived.StillTailTactics
set_option linter.unusedVariables false
set_option linter.unusedSimpArgs false
set_option maxRecDepth 100000
set_option maxHeartbeats 3200000
namespace Go.aZ
open Go.RowKit
def nu (n:Nat) (f:Nat->Int):List Int:=(List.range n).map f
@[simp] theorem kF (n:Nat) (f:Nat->Int):(nu n f).length=n:=by simp [nu]
theorem Ak {n i:Nat} {f:Nat->Int} (h:i<n):bf (nu n f) i=f i:=by
 unfold bf nu;rw [NI,List.getElem?_map,List.getElem?_range h]
 rfl
theorem yw {n:Nat} {f:Nat->Int} (h:∀i,i<n->0<=f i/\f i<256):okB (nu n f):=by
 intro x hx;obtain ⟨i,hi,rfl⟩:=List.mem_map.1 hx;exact h i (List.mem_range.1 hi)
theorem Tn (l:List Int):nu l.length (bf l)=l:=by
 apply List.ext_getElem?
 intro i;by_cases h:i<l.length
 ·unfold nu bf;rw [List.getElem?_map,List.getElem?_range h,oG h];simp [NI,oG h]
 ·rw [List.getElem?_eq_none (by simpa using h),List.getElem?_eq_none (by omega)]
theorem OY {n:Nat} {f g:Nat->Int} (h:∀i,i<n->f i=g i):nu n f=nu n g:=List.map_congr_left fun i hi=> h i (List.mem_range.1 hi)
theorem Rd.nu {k:IntKind} {w:World} {v:Value} {n:Nat} {f:Nat->Int} (h:Rd k w v n f):Rd k w v (Go.aZ.nu n f).length (bf (Go.aZ.nu n f)):=by
 rw [kF];exact h.congr fun i hi=> (Ak hi).symm
def vL (n:Int) (i:Nat):Int:=n / 2 ^ (8 * (8 - 1 - i)) % 256
theorem Kt (n:Int) (i:Nat):0<=vL n i/\vL n i<256:=by unfold vL;omega
theorem VD {n:Int} (h0:0<=n) (h1:n<2 ^ 64):big (vL n) 8=n:=by
 have:=EU (n:=n) (s:=8) (by omega) 8 (bA _);rw [show (8:Nat) * (8 - 8)=0 from rfl,Int.pow_zero,Int.ediv_one] at this;exact this
def dO (n:Int):List Int:=nu 9 (lH 1 (fun _=> 247) (vL n))
theorem iK (n:Int):(dO n).length=9:=kF _ _
theorem aal (n:Int):bf (dO n) 0=247:=Ak (by decide)
theorem aak (n:Int) (i:Nat) (h:i<8):bf (dO n) (1+i)=vL n i:=(Ak (by omega)).trans yF
def Mv (l:List Int) (i:Nat):Int:=bf l (1+i)
def jV (S:TS) (l:List Int):Option Nat:=if l.length=9/\bf l 0=247/\mJ (Mv l) 8=0/\jR (Mv l) 8<S.l.length then some (jR (Mv l) 8).toNat else none
theorem Aj {f g:Nat->Int}:∀k:Nat,(∀i,i<k->f i=g i)->big f k=big g k
 | 0,_=> rfl
 | k+1,h=> by rw [big,big,Aj k fun i hi=> h i (by omega),h k (by omega)]
theorem yO {n:Int} (h0:0<=n) (h1:n<=4611686018427387904):mJ (Mv (dO n)) 8=0/\jR (Mv (dO n)) 8=n:=by
 have e:big (Mv (dO n)) 8=n:=(Aj 8 fun i hi=> aak n i hi).trans (VD h0 (by omega));unfold mJ jR;rw [e,if_neg (by decide),if_neg (by decide),if_neg (by omega),if_neg (by omega)];exact ⟨rfl,rfl⟩
theorem lX {S:TS} {n:Nat} (h:n<S.l.length) (hl:S.l.length<=4611686018427387904):jV S (dO n)=some n:=by
 obtain ⟨h1,h2⟩:=yO (n:=(n:Int)) (by omega) (by omega);unfold jV;rw [if_pos ⟨iK _,aal _,h1,by rw [h2];omega⟩,h2,Jt]
theorem Ai {f:Nat->Int}:∀k,(∀i,i<k->0<=f i)->0<=big f k
 | 0,_=> Int.le_refl _
 | k+1,h=> by have:=Ai k fun i hi=> h i (by omega);have:=h k (by omega);rw [big];omega
theorem sF {f:Nat->Int} {k:Nat} (h:∀i,i<k->0<=f i):0<=jR f k:=by
 unfold jR
 split
 ·exact Int.le_refl _
 ·exact Ai k h
theorem qY {S:TS} {l:List Int} {n:Nat} (hb:okB l) (h:jV S l=some n):n<S.l.length:=by
 unfold jV at h
 split at h
 ·rename_i h'
  have h0:0<=jR (Mv l) 8:=sF fun i hi=> (hb.at _ (by omega)).1;obtain rfl:=fO h;have:=h'.2.2.2;omega
 ·cases h
def TS.few (S:TS):Prop:=∀s,wY S.l s<=S.l.length
theorem TS.few.nil:TS.few ⟨[], []⟩:=fun s=> Int.le_refl _
theorem TS.few.add {S:TS} (h:S.few) {t:Tm} (ht:t.1=1->t.2.2<=S.l.length):(S.add t).few:=fun s=> by
 have:=h s;rw [uZ];show wY (S.l++ [t]) s<=_;rw [zC]
 split
 ·rename_i h'
  have:=ht h'.1;unfold mU;omega
 ·omega
theorem TS.few.put {S:TS} (h:S.few) {t:Tm} (ht:t.1≠1):(S.put t).few:=by
 unfold TS.put
 split
 ·exact h.add fun e=> absurd e ht
 ·exact h
theorem TS.few.draw {S:TS} (h:S.few) (s:Int):(S.draw s).few:=by
 unfold TS.draw
 split
 ·exact h.add fun _=> h s
 ·exact h
abbrev TA:Type:=List Int × Int × TS
def gW (k:Int) (S:TS) (l:List Int):TA:=match jV S l with
 | some n=> (dO (mW S (k,n,0)).1,0,S.put (k,n,0))
 | none=> ([],11,S)
def JG (S:TS) (n:Nat):Int:=(mV S.l n).1
def mR (k:Int) (S:TS) (a b:List Int):TA:=match jV S a,jV S b with
 | some n,some m=> if k=4/\JG S n≠2 then ([],11,S) else (dO (mW S (k,n,m)).1,0,S.put (k,n,m))
 | _,_=> ([],11,S)
def jE (S:TS) (s:Int):TA:=if isSort s=true then (dO S.l.length,0,S.draw s) else ([],2,S)
structure dK (F:Nat->Prop) (w:World) (v:Value) (l:List Int):Prop where
 ok:okB l
 rd:Rd .u8 w v l.length (bf l)
 off:0<l.length->∀b,v.ownBlock=some b->¬ F b
section
variable {F F' G : Nat -> Prop} {w w' : World} {v : Value} {l : List Int}
theorem Rd.YE {k:IntKind} {n:Nat} {f:Nat->Int} (h:Rd k w v n f) (hn:0<n) {b:Nat} (hb:v.ownBlock=some b):b<w.heap.size:=by
 obtain ⟨a,c,rfl,_,_,_,h4⟩:=h;obtain ⟨g,o,rfl,hlt,_⟩:=h4 hn;obtain rfl:g=b:=by simpa [Value.ownBlock] using hb
 exact hlt
theorem dK.below (h:dK F w v l) (hb:Below w.heap.size w w'):dK F w' v l:=⟨h.ok,h.rd.below hb,h.off⟩
structure ku (p:Nat) (F:Nat->Prop) (w w':World):Prop where
 kV:gY (fun b=> b=p\/F b) w w'
 u8:∀b,b<w.heap.size->¬ F b->∀i x,w.cell? ⟨b,i,none⟩=some (.int .u8 x)->w'.cell? ⟨b,i,none⟩=some (.int .u8 x)
theorem ku.of_below {p:Nat} (h:Below w.heap.size w w') (F:Nat->Prop):ku p F w w':=⟨.of_below h _,fun b hb _ i x hx=> (h.cell (p:=⟨b,i,none⟩) hb).trans hx⟩
theorem ku.refl (p:Nat) (F:Nat->Prop) (w:World):ku p F w w:=.of_below (bN _ _) F
theorem ku.trans {p:Nat} {w'':World} (h:ku p F w w') (h':ku p F' w' w'') (hF:∀b,F' b->F b\/w.heap.size<=b):ku p F w w'':=
 ⟨h.kV.trans h'.kV fun b hb h1=> h1.imp id fun h2=> (hF b h2).elim id fun h3=> by omega,fun b hb hn i x hx=> h'.u8 b (pJ hb h.kV.size) (fun h2=> (hF b h2).elim hn fun h3=> by omega) i x (h.u8 b hb hn i x hx)⟩
theorem ku.KI {p:Nat} (h:gY F w w'):ku p F w w':=⟨h.mono fun b _ hb=> .inr hb,fun b hb hn i x hx=> (h.cell (p:=⟨b,i,none⟩) hb hn).trans hx⟩
theorem Rd.xD {p n:Nat} {f:Nat->Int} (h:Rd .u8 w v n f) (hc:ku p F w w') (hne:0<n->∀b,v.ownBlock=some b->¬ F b):Rd .u8 w' v n f:=by
 obtain ⟨a,c,rfl,h1,h2,h3,h4⟩:=h;refine ⟨a,c,rfl,h1,h2,h3,fun hn=> ?_⟩;obtain ⟨b,o,rfl,hlt,hcell⟩:=h4 hn;have:=hc.kV.size;exact ⟨b,o,rfl,by omega,fun i hi=> hc.u8 b hlt (hne hn b rfl) _ _ (hcell i hi)⟩
theorem dK.xD {p:Nat} (h:dK F w v l) (hc:ku p F w w') (hF:∀b,F' b->F b\/w.heap.size<=b):dK F' w' v l:=by
 refine ⟨h.ok,h.rd.xD hc h.off,fun hn b hb hf=> ?_⟩;rcases hF b hf with h1 | h1
 ·exact h.off hn b hb h1
 ·have:=h.rd.YE hn hb;omega
theorem dK.nil (F:Nat->Prop) (w:World):dK F w (.slice none 0 0) [] :=⟨(fun _ h=> by cases h),Rd.nil _ _ _,aJ⟩
theorem dK.own {e:TypeId} {N n:Nat} {f:Nat->Int} (h:Own .u8 e N w v n f) (hf:∀i,i<n->0<=f i/\f i<256) (hF:∀b,F b->b<N):dK F w v (nu n f):=
 ⟨yw hf,h.rd.nu,fun _ b hb hFb=> by have:=h.block b hb;have:=hF b hFb;omega⟩
theorem dK.slice (h:dK F w v l):∃a c,v=.slice a l.length c:=by obtain ⟨a,c,e,_⟩:=h.rd;exact ⟨a,c,e⟩
end
end Go.aZ
namespace Go.Proofs.YtpcjekgfnfjbpaaGreat
open Go.RowKit Go.aZ
def cB (S:TS) (a b:List Int):List Int × Int:=match jV S a,jV S b with
 | some n,some m=> if JG S m=4/\(xW S (mV S.l m).2.1).1.2.1=n then (dO (mV S.l m).2.2,0) else ([],20)
 | _,_=> ([],11)
end Go.Proofs.YtpcjekgfnfjbpaaGreat
namespace Go.Proofs.YtpcjekgfnfjbpaaGreat
open Go.RowKit Go.aZ Go.ChangeShapes Go.Maps
attribute [local go_sem ↓] Go.wp_at_zero Go.wp_at_succ
theorem Rn (w:World):Calls Tryz.prog 106 #[] w fun e w'=> ∃p F,e=.returned (.pointer (some ⟨p,0,none⟩))/\wG w.heap.size w' p F ⟨[], []⟩/\Below w.heap.size w w':=by
 have HM:=ak (vD.made Tryz.prog 96 3 w (fun i=> lv JW [] i 0) (fun i=> match ([] :List Tm)[i]? with | some x=> xU (Ee [] x) | none=> undef));have HM2:=ak (vD.made Tryz.prog 9 3 (w.alloc (.map #[] 0)) (fun i=> lv txV [] i 0) (fun i=> match ([] :List (List Int))[i]? with | some x=> xU (txN ⟨[], []⟩ x) | none=> undef));have hmk:∀w,(Instr.makeMap 160 none).run Tryz.prog w=.ok (.map (some w.heap.size)) (w.alloc (.map #[] 0)):=fun w=> rfl;have apl:∀w,(Instr.makeMap 161 none).run Tryz.prog w=.ok (.map (some w.heap.size)) (w.alloc (.map #[] 0)):=fun w=> rfl
 go_enter Tryz.func106,Tryz.ntmps106
 go_wp2;go_ret;obtain ⟨W2,hW2⟩:∃W2,(w.alloc (.map #[] 0)).alloc (.map #[] 0)=W2:=⟨_,rfl⟩
 have b1:Below w.heap.size w W2:=by rw [<-hW2];exact ((bN _ _).alloc (bA _) _).alloc (by simp) _
 have hs:W2.heap.size=w.heap.size+1+1:=by rw [<-hW2];simp
 have m1:=(HM.out.alloc (.map #[] 0))
 have m2:=HM2.out;rw [hW2] at m1 m2;rw [World.size_alloc] at m2;rw [hW2,←hs];obtain ⟨O,hO⟩:∃O,O=Obj.cells #[.slice none 0 0,.map (some w.heap.size),.map (some (w.heap.size+1)),.slice none 0 0,.int .i64 0,.int .i64 0,.int .i64 0,.int .i64 0,.int .i64 0] 164:=⟨_,rfl⟩
 have hb:=heap_alloc_new W2 (.cells #[.slice none 0 0,.map (some w.heap.size),.map (some (w.heap.size+1)),.slice none 0 0,.int .i64 0,.int .i64 0,.int .i64 0,.int .i64 0,.int .i64 0] 164);have hc:=fun i=> cell_of_row _ _ i _ _ (0,0) hb;refine ⟨W2.heap.size,_,rfl,⟨w.heap.size,w.heap.size+1,.slice none 0 0,.slice none 0 0,fun _=> .slice none 0 0,⟨⟨⟨_,hb,rfl⟩,hc 0,hc 1,hc 2,hc 3,fun k hk=> ?_,jH.nil _ _ _ _,m1.alloc _,m2.alloc _,jH.nil _ _ _ _,fun j b hj=> (by simp at hj),by omega,by omega,bA _,by omega,fun b hb=> (by cases hb),fun b hb=> (by cases hb)⟩,List.nodup_nil,List.nodup_nil,fun j hj=> absurd hj (Nat.not_lt_zero _),fun t ht=> (by cases ht),fun b hb=> (by cases hb)⟩,TS.Ok.empty,fun b=> Iff.rfl⟩,b1.alloc b1.size _⟩;rcases (by omega:k=0\/k=1\/k=2\/k=3\/k=4) with rfl | rfl | rfl | rfl | rfl<;> exact hc _
theorem RD {B:Nat} {w:World} {p:Nat} {F:Nat->Prop} {S:TS} (h:wG B w p F S):Calls Tryz.prog 115 #[.pointer (some ⟨p,0,none⟩)] w fun e w'=> e=.returned (xU S.l.length)/\w'=w:=by
 obtain ⟨mb,mt,vl,vb,tv,h1,_,_⟩:=h;exact Rp h1
structure kg (w:World) (p:Nat) (kd:Int) (sd:Nat->Int) (n:Int) (s:Value):Prop where
 row:kL w p 105 35
 ck:w.cell? ⟨p,0,none⟩=some (.int .i64 kd)
 cs:∀i,i<32->w.cell? ⟨p,1+i,none⟩=some (.int .u8 (sd i))
 cn:w.cell? ⟨p,33,none⟩=some (.int .i64 n)
 cp:w.cell? ⟨p,34,none⟩=some s
section
variable {B : Nat} {w w' : World} {p q : Nat} {F G G' : Nat -> Prop} {S S' : TS} {kd n : Int} {sd : Nat -> Int} {s : Value}
theorem kg.keep (h:kg w p kd sd n s) (hc:gY F w w') (hF:¬ F p):kg w' p kd sd n s:=
 have hl:=h.row.lt
 ⟨h.row.heap (hc.block p hl hF),(hc.cell (p:=⟨p,0,none⟩) hl hF).trans h.ck,fun i hi=> (hc.cell (p:=⟨p,1+i,none⟩) hl hF).trans (h.cs i hi),(hc.cell (p:=⟨p,33,none⟩) hl hF).trans h.cn,(hc.cell (p:=⟨p,34,none⟩) hl hF).trans h.cp⟩
theorem kg.below (h:kg w p kd sd n s) (hb:Below w.heap.size w w'):kg w' p kd sd n s:=h.keep (.of_below hb fun _=> False) id
theorem kg.rd (h:kg w p kd sd n s):Rd .u8 w (.slice (some ⟨p,1,none⟩) 32 32) 32 sd:=⟨_,_,rfl,bA _,by decide,(fun h=> by cases h),fun _=> ⟨p,1,rfl,h.row.lt,h.cs⟩⟩
structure Qs (B:Nat) (w:World) (p q:Nat) (G:Nat->Prop) (S:TS):Prop where
 r:kg w p 2 (fun _=> 0) 0 (.pointer (some ⟨q,0,none⟩))
 st:wG B w q G S
 few:S.few
 hp:B<=p
 np:¬ G p
def mX (B:Nat) (w:World) (p:Nat) (F:Nat->Prop) (S:TS):Prop:=∃q G,Qs B w p q G S/\∀b,F b ↔ b=p\/G b
theorem Qs.below (h:Qs B w p q G S) (hb:Below w.heap.size w w'):Qs B w' p q G S:=⟨h.r.below hb,h.st.below hb,h.few,h.hp,h.np⟩
theorem Qs.hB (h:Qs B w p q G S):B<=w.heap.size:=gQ h.hp (Nat.le_of_lt h.r.row.lt)
theorem Qs.lt (h:Qs B w p q G S) {b:Nat} (hb:b=p\/G b):b<w.heap.size:=by
 rcases hb with rfl | hb
 ·exact h.r.row.lt
 ·exact h.st.lt hb
theorem Qs.put (h:Qs B w p q G S) (h1:wG B w' q G' S') (hc:gY G w w') (hf:∀b,G' b->G b\/w.heap.size<=b) (hw:S'.few):Qs B w' p q G' S':=
 ⟨h.r.keep hc h.np,h1,hw,h.hp,fun hb=> (hf p hb).elim h.np fun h'=> by have:=h.r.row.lt;omega⟩
theorem mX.below (h:mX B w p F S) (hb:Below w.heap.size w w'):mX B w' p F S:=by obtain ⟨q,G,h,hF⟩:=h;exact ⟨q,G,h.below hb,hF⟩
theorem mX.hi (h:mX B w p F S) {b:Nat} (hb:F b):B<=b:=by
 obtain ⟨q,G,h,hF⟩:=h;rcases (hF b).1 hb with rfl | hb
 ·exact h.hp
 ·exact h.st.hi hb
theorem mX.lt (h:mX B w p F S) {b:Nat} (hb:F b):b<w.heap.size:=by
 obtain ⟨q,G,h,hF⟩:=h;exact h.lt ((hF b).1 hb)
theorem mX.ok (h:mX B w p F S):S.Ok:=by obtain ⟨q,G,h,hF⟩:=h;exact h.st.ok
theorem mX.keep {H:Nat->Prop} (h:mX B w p F S) (hc:gY H w w') (hF:∀b,F b->¬ H b):mX B w' p F S:=by
 obtain ⟨q,G,h,hG⟩:=h;exact ⟨q,G,⟨h.r.keep hc (hF p ((hG p).2 (.inl rfl))),h.st.keep hc fun b hb=> hF b ((hG b).2 (.inr hb)),h.few,h.hp,h.np⟩,hG⟩
def yg (B:Nat) (w:World) (p:Nat) (F:Nat->Prop) (v:Value) (r:TA) (w':World):Prop:=∃F',mX B w' p F' r.2.2/\dK F' w' v r.1/\gY F w w'/\∀b,F' b->F b\/w.heap.size<=b
def Bu (S:TS) (l:List Int):Int × Bool:=match jV S l with | some n=> ((n:Int),true) | none=> (0,false)
def Bt (S:TS) (l:List Int):Int × Tm × Int:=match jV S l with | some n=> ((n:Int),mV S.l n,0) | none=> (0,(0,0,0),11)
theorem fG (h:kg w p kd sd n s):Calls Tryz.prog 63 #[.pointer (some ⟨p,0,none⟩)] w fun e w'=> e=.returned (.int .i64 kd)/\w'=w:=by
 have ck:=h.ck;clear h
 go_enter Tryz.func63,Tryz.ntmps63
 go_wp2;go_ret;exact ⟨rfl,rfl⟩
theorem oL (n:Int) (h0:0<=n) (h1:n<=4611686018427387904) (w:World):Calls Tryz.prog 77 #[.int .i64 n,.int .i64 0] w fun e w'=> ∃v,e=.returned (.tuple #[v,.int .i64 0])/\Go.aZ.Own .u8 5 w.heap.size w' v 9 (lH 1 (fun _=> 247) (vL n))/\Below w.heap.size w w':=by
 have HP:=ak (fun w=> Kr n 8 w (by decide) (by decide) h0 h1 (aJ));clear h0 h1
 go_enter Tryz.func77,Tryz.ntmps77
 go_wp2_with fail;refine (HP.out _).mono ?_;rintro e w1 ⟨u,rfl,hu,b1⟩;have HU:=ak (hu.rd);have B1:=ak b1;obtain ⟨au,cu,rfl,_⟩:=hu.rd;clear hu b1;go_wp2_with (at_builtin;refine iF rfl _ _ 23 rfl w.heap.size 5 .u8 1 jI vB _ 1 (lH 1 (fun _=> 247) (vL n)) (Go.aZ.Own.new .u8 _ w1 _ 1 _ B1.out.size (by decide) rfl (fun i hi=> OJ hi (by obtain rfl:i=0:=(by omega);rfl))) rfl _ 8 (vL n) (HU.out.below ((bN _ _).alloc (bA _) _)) rfl (fun i _=> yF) (by decide) (by decide) (by have:=B1.out.size;rw [World.size_alloc];omega) ?_;intro v5 w5 hown hgr);have HO:=ak hown;have B5:Hid (Below w.heap.size w w5):=ak (below_grown (B1.out.alloc B1.out.size _) hgr (Go.aZ.Own.new .u8 5 (base:=w.heap.size) w1 #[.int .u8 247] 1 (fun _=> 247) B1.out.size (by decide) rfl (fun i hi=> OJ hi rfl)) (by have:=B1.out.size;rw [World.size_alloc];omega) (bA _));go_ret2;exact ⟨_,rfl,HO.out,B5.out⟩
end
section
variable {B : Nat} {w w' : World} {p q : Nat} {F G G' : Nat -> Prop} {S S' : TS} {kd n : Int} {sd : Nat -> Int} {s : Value} {v : Value} {l : List Int}
theorem Dx (h:mX B w p F S) (hb:dK F w v l) (hl:S.l.length<=1000):Calls Tryz.prog 59 #[.pointer (some ⟨p,0,none⟩),v] w fun e w'=> e=.returned (.tuple #[.int .i64 (Bu S l).1,.bool (Bu S l).2])/\Below w.heap.size w w':=by
 obtain ⟨q,G,hq,hF⟩:=h;have HW:=ak (fG hq.r);have HB:=ak hb.rd;have HL:=ak hl;obtain ⟨N,hN⟩:∃x,x=Bu S l:=⟨_,rfl⟩
 rw [<-hN];have HN:=ak hN;by_cases h9:l.length=9
 ·rw [h9] at HB;obtain ⟨av,cv,rfl,hc1,hc2,_,hc⟩:=HB.out;obtain ⟨b,o,rfl,hblt,hcell⟩:=hc (by decide);have c0:=hcell 0 (by decide);rw [Nat.add_zero] at c0;by_cases h0:bf l 0=247
  ·rw [h0] at c0;obtain ⟨a',_,hr,hrd⟩:=Rd.cut (P:=Tryz.prog) jI vB (some ⟨b,o,none⟩) 9 cv 1 9 (by decide) (bA _) hc1;have HT:Hid (Rd .u8 w (.slice a' 8 (cv - 1)) 8 (Mv l)):=ak ((hrd w _ HB.out).2);have hr:∀w,(Instr.sliceAt 23 (.slice (some ⟨b,o,none⟩) 9 cv) (some (.int .i64 1)) none none).run Tryz.prog w=.ok (.slice a' 8 (cv - 1)) w:=hr;obtain ⟨C,hC⟩:∃C,C=cv - 1:=⟨_,rfl⟩
   rw [<-hC] at HT hr;have Wd:=ak hr;have agR:Hid (∀i,i<8->0<=Mv l i/\Mv l i<256):=ak fun i hi=> hb.ok.at _ (by omega);obtain ⟨E,hE⟩:∃x,x=mJ (Mv l) 8:=⟨_,rfl⟩
   obtain ⟨X,hX⟩:∃x,x=jR (Mv l) 8:=⟨_,rfl⟩
   have HG:=ak (fun w1 h=> Yk (.slice a' 8 C) 8 (Mv l) w1 h agR.out);rw [<-hE,←hX] at HG;have HST:=ak hq.st;have cp:=hq.r.cp;have HR:=ak hq.r;have hne:((247:Int) !=247)=false:=rfl;have hE0:N=if E=0/\X<S.l.length then (X,true) else (0,false):=by
    rw [hN];unfold Bu jV;by_cases hc:E=0/\X<S.l.length
    ·have h0':0<=jR (Mv l) 8:=sF fun i hi=> (agR.out i hi).1;rw [if_pos ⟨h9,h0,hE▸hc.1,hX▸hc.2⟩,if_pos hc];simp only [hX];rw [Int.toNat_of_nonneg h0']
    ·rw [if_neg (fun h=> hc ⟨hE.trans h.2.2.1,by rw [hX];exact h.2.2.2⟩),if_neg hc]
   have Wy:=ak hE0;have hr:=Wd.out;clear hE0 hE hX hC hrd hc hcell hN hF hq hb hl h0
   go_enter Tryz.func59,Tryz.ntmps59
   go_wp2_with fail;refine HW.out.mono ?_;rintro e w1 ⟨rfl,rfl⟩;go_wp2_with fail;refine (HG.out _ HT.out).mono ?_;rintro e w2 ⟨rfl,b2⟩;have akC:=ak (HST.out.below b2);have cp:=(HR.out.below b2).cp;have B2:=ak b2;clear b2;by_cases e0:E=0
   ·subst e0;have hz:((0:Int) !=0)=false:=rfl;go_wp2_with fail;refine (RD akC.out).mono ?_;rintro e w3 ⟨rfl,rfl⟩;by_cases hx:X<S.l.length
    ·have hg:decide ((S.l.length:Int)<=X)=false:=decide_eq_false (by omega);have HE:Hid (N=(X,true)):=ak (by rw [Wy.out,if_pos ⟨by trivial,hx⟩]);clear hx;go_wp2;go_ret2;rw [HE.out];exact ⟨rfl,B2.out⟩
    ·have hg:decide ((S.l.length:Int)<=X)=true:=decide_eq_true (by omega);have HE:Hid (N=(0,false)):=ak (by rw [Wy.out,if_neg (fun h=> hx h.2)]);clear hx;go_wp2;go_ret2;rw [HE.out];exact ⟨rfl,B2.out⟩
   ·have hz:(E !=0)=true:=by simpa using e0
    have HE:Hid (N=(0,false)):=ak (by rw [Wy.out,if_neg (fun h=> e0 h.1)]);clear e0;go_wp2;go_ret2;rw [HE.out];exact ⟨rfl,B2.out⟩
  ·have HE:Hid (N=(0,false)):=ak (by rw [HN.out];unfold Bu jV;rw [if_neg (fun h=> h0 h.2.1)]);have hne:((bf l 0) !=247)=true:=by simpa using h0
   clear hc hcell hN hF hq hb hl h0
   go_enter Tryz.func59,Tryz.ntmps59
   go_wp2_with fail;refine HW.out.mono ?_;rintro e w1 ⟨rfl,rfl⟩;go_wp2;go_ret2;rw [HE.out];exact ⟨rfl,bN _ _⟩
 ·have HE:Hid (N=(0,false)):=ak (by rw [HN.out];unfold Bu jV;rw [if_neg (fun h=> h9 h.1)]);obtain ⟨av,cv,rfl,hc1,hc2,_,hc⟩:=HB.out;have h9':((l.length:Int) !=9)=true:=by simp;omega
  clear hc hN hF hq hb hl h9
  go_enter Tryz.func59,Tryz.ntmps59
  go_wp2_with fail;refine HW.out.mono ?_;rintro e w1 ⟨rfl,rfl⟩;go_wp2;go_ret2;rw [HE.out];exact ⟨rfl,bN _ _⟩
theorem aai {P:Program} {o:Oper} {a:Act} {w:World} {K:Act->World->Prop} {Q:Exit->Act->World->Prop} (x:Operand) (d:Nat) (hop:o.op=.assign x) (hd:o.dst=some d) (h:K (a.put (some d) (a.eval x)) w):o.wp P a w K Q:=by
 rw [<-hd] at h;unfold Oper.wp execOp;simp only [hop];exact h
theorem wR {P:Program} {fn:Func} {p q r:Tmp} {T:TypeId} (h:fn.results=#[.tmp p,.cell q T,.tmp r]) (tmps:Array Value) (w:World) (k:IntKind) (b n:Nat) (f:Nat->Int) {d:TypeDesc}
  (hp:tmps.getD q undef=.pointer (some ⟨b,0,none⟩)) (ha:aF k w b n f) (hu:P.underlying T=some d) (hd:BH d=true) (hi:(P.info? T).map (·.size)=some n):
  (results fn tmps).run P w=.ok (.tuple #[tmps.getD p undef,.agg (arr k n f),tmps.getD r undef]) w:=by
 obtain ⟨t,ht⟩:=ha;have hp':tmps[q]?.getD undef=.pointer (some ⟨b,0,none⟩):=by simpa using hp
 simp [results,h,hp',asAddr,run_loadVar_row w b t T (arr k n f) (0,0) _ ht hu (by cases d<;> first | rfl | cases hd) (by rw [hi,gN])]
theorem yS {l:List Tm} {n:Nat} (h:n<l.length):l[n]? =some (mV l n):=by
 unfold mV;rw [NI,oG h]
 rfl
theorem Uj {S:TS} {l:List Int} {n:Nat} (hb:okB l) (h:jV S l=some n):xW S (n:Int)=(mV S.l n,true):=zO (yS (qY hb h))
theorem Tryz.size96:(Tryz.prog.info? 96).map (·.size)=some 3:=Tryz.sizeTm
theorem pW (h:mX B w p F S) (hb:dK F w v l) (hl:S.l.length<=1000):Calls Tryz.prog 76 #[.pointer (some ⟨p,0,none⟩),v] w fun e w'=> e=.returned (.tuple #[.int .i64 (Bt S l).1,JW (Bt S l).2.1,.int .i64 (Bt S l).2.2])/\Below w.heap.size w w':=by
 have HNU:=ak (fun w1 (b1:Below w.heap.size w w1)=> Dx (h.below b1) (hb.below b1) hl);have Fj:=ak hb.ok;obtain ⟨q,G,hq,hF⟩:=h;have HQ:=ak hq;obtain ⟨N,hN⟩:∃x,x=Bt S l:=⟨_,rfl⟩
 rw [<-hN];have HN:=ak hN;obtain ⟨av,cv,rfl,_⟩:=hb.rd;clear hN hq hF hb hl
 go_enter Tryz.func76,Tryz.ntmps76
 go_upto_region 1 with (fail);refine aD (fun w1=> aF .i64 w1 w.heap.size 3 (fun _=> 0)/\Below w.heap.size w w1) ⟨bM rfl (by rfl),(bN _ _).alloc (bA _) _⟩ ?_;rintro w1 ⟨hA1,b1⟩;go_wp2_with fail;refine (HNU.out w1 b1).mono ?_;rintro e w2 ⟨rfl,b2⟩;replace hA1:=hA1.kept b2;replace b1:=b1.trans (b2.mono b1.size);clear b2
 cases hm:jV S l with
 | none=>
  have HE:Hid (N=(0,(0,0,0),11)):=ak (by rw [HN.out];unfold Bt;rw [hm]);rw [show Bu S l=(0,false) from by unfold Bu;rw [hm]];clear hm;have HA:=ak hA1;have B1:=ak b1;clear hA1 b1;go_wp2_with (refine aG rfl 96 _ _ rfl .i64 w.heap.size 3 (fun _=> 0) (tf (0,0,0)) Tryz.sizeTm rfl rfl HA.out ?_);rw [HE.out];exact bodyPost_ret (wR rfl _ _ .i64 w.heap.size 3 _ rfl (HA.out.setRow _ _) Tryz.underlying96 rfl Tryz.sizeTm) rfl ⟨rfl,ay B1.out (bA _) _⟩
 | some n=>
  have HE:Hid (N=((n:Int),mV S.l n,0)):=ak (by rw [HN.out];unfold Bt;rw [hm]);have HG:=ak (Uj Fj.out hm);rw [show Bu S l=((n:Int),true) from by unfold Bu;rw [hm]];clear hm;have HA:=ak hA1;have B1:=ak b1;have HST:=ak (HQ.out.st.below b1);have cp:=(HQ.out.r.below b1).cp;clear hA1 b1;go_wp2_with fail;refine (FT HST.out n).mono ?_;rw [HG.out];rintro e w3 ⟨rfl,b3⟩;have HA:=ak (HA.out.kept b3);have B3:=ak (B1.out.trans (b3.mono B1.out.size));clear b3 cp;obtain ⟨t,ht⟩:∃t,t=mV S.l n:=⟨_,rfl⟩
  rw [<-ht] at HE ⊢;clear ht;have YX:Hid (w.heap.size<w3.heap.size):=ak HA.out.lt;go_upto_region 5 with (refine aG rfl 96 _ _ rfl .i64 w3.heap.size 3 (fun _=> 0) (tf t) Tryz.sizeTm rfl rfl (bM rfl (by rfl)) ?_);refine aD (fun w4=> aF .i64 w4 w.heap.size 3 (fun _=> 0)/\aF .i64 w4 w3.heap.size 3 (tf t)/\Below w.heap.size w w4) ⟨(HA.out.alloc _).aA _ (Nat.ne_of_lt YX.out) _,(show aF .i64 (w3.alloc (.cells #[.int .i64 0,.int .i64 0,.int .i64 0] 96)) w3.heap.size 3 (fun _=> 0) from bM rfl (by rfl)).setRow 3 (tf t),ay (B3.out.alloc B3.out.size _) B3.out.size _⟩ ?_;rintro w4 ⟨h4,h5,hbel⟩;have hlt:=YX.out;obtain ⟨N3,ZA⟩:∃x,x=w3.heap.size:=⟨_,rfl⟩
  rw [<-ZA] at hlt h5 ⊢;clear ZA
  refine nH (n:=31) 4 rfl (by decide) (by kernel_rfl) (by kernel_rfl) (by kernel_rfl) (by kernel_rfl) rfl
   (fun ii vv ww=> (match ii with | 0 | 2=> vv=.int .i64 ((n:Int)) | 1=> vv=.agg (arr .i64 3 (tf t)) | _=> True)/\(ii=3->aF .i64 ww (w.heap.size) 3 (tf t))) 3
   (fun b ww=> (aF .i64 ww (N3) 3 (tf t)/\Below w.heap.size w ww)/\(b=false->aF .i64 ww ((w.heap.size)) 3 (fun _=> 0))) ⟨⟨h5.drew,hbel.drew⟩,fun _=> h4.drew⟩
   (fun i ww w'=> match i with | 3=> ((aF .i64 ww (N3) 3 (tf t)/\Below w.heap.size w ww)->(aF .i64 w' (N3) 3 (tf t)/\Below w.heap.size w w')) | _=> Below ww.heap.size ww w') ?_ ?_ ?_ ?_ rfl ?_ ?_
  ·intro i ww;(try dsimp only);split
   ·exact id
   ·exact bN _ _
  ·intro i b ww w' hi hR hE;have hE':Below ww.heap.size ww w':=by (try dsimp only at hE);split at hE;(· exact absurd rfl hi);exact hE
   obtain ⟨⟨q0,qb⟩,lC⟩:=hR;exact ⟨⟨q0.kept hE',qb.trans (hE'.mono qb.size)⟩,fun hb=> (lC hb).kept hE'⟩
  ·intro ww w' hR hE;exact ⟨hE hR.1,fun h=> by cases h⟩
  ·intro i j b v ww w' hij hjb hR hS hE;refine ⟨hS.1,fun e=> ?_⟩;subst e;have hE':Below ww.heap.size ww w':=by (try dsimp only at hE);split at hE;(· exact absurd rfl hij);exact hE
   exact (hS.2 rfl).kept hE'
  ·refine cO ?_;refine ⟨?_,?_,?_,?_,(fun h=> absurd rfl h),trivial⟩
   ·intro _ b a w2 hcb hB0 hF hd;obtain ⟨⟨h5,hbel⟩,lC⟩:=hB0;have hB:=bN w2.heap.size w2;exact aH <| dJ rfl ⟨(hF.same 7 rfl),aJ⟩
   ·intro _ b a w2 hcb hB0 hF hd;obtain ⟨⟨h5,hbel⟩,lC⟩:=hB0;have hB:=bN w2.heap.size w2;exact aH <| aP (aB rfl Tryz.underlying96 rfl Tryz.size96 (hF.same 9 rfl) (h5.below hB h5.lt)) ⟨rfl,aJ⟩
   ·intro _ b a w2 hcb hB0 hF hd;obtain ⟨⟨h5,hbel⟩,lC⟩:=hB0;have hB:=bN w2.heap.size w2;exact aH <| mH rfl ⟨((hd 0 _ rfl (aj rfl)).1),aJ⟩
   ·intro _ b a w2 hcb hB0 hF hd;obtain ⟨⟨h5,hbel⟩,lC⟩:=hB0;have hB:=bN w2.heap.size w2;refine aH <| aX 96 _ _ rfl .i64 ((w.heap.size)) 3 (fun _=> 0) (tf t) Tryz.size96 (hF.same 5 rfl) ((hd 1 _ rfl (aj rfl)).1) (lC (hcb rfl)) ?_;exact ⟨_,rfl,fun _=> rfl,⟨trivial,fun _=> (lC (hcb rfl)).setRow _ _⟩,fun ⟨p0,p1⟩=> ⟨p0.aA _ (by omega) _,ay p1 (by omega) _⟩⟩
  ·intro b a w5 hB0 hF hS;have V3:=(hS 3 _ rfl (by decide)).2 rfl;obtain ⟨⟨h5,hbel⟩,_⟩:=hB0;obtain ⟨xl,hxl⟩:∃x,x=a.tmps.getD 6 undef:=⟨_,rfl⟩
   have ha:=aI rfl rfl hF [_,_,_,undef,xl] rfl ⟨(hS 0 _ rfl (by decide)).1,(hS 1 _ rfl (by decide)).1,(hS 2 _ rfl (by decide)).1,trivial,hxl.symm,trivial⟩;simp only [puts,Act.put,dQ,dR,dS] at ha;subst ha;clear hS hF hxl;refine aai (.const (.int .i64 (0))) 6 rfl rfl ?_;simp only [Act.put,dQ,dR,dS];have hb:=hbel;go_wp2;rw [HE.out];exact bodyPost_ret (wR rfl _ _ .i64 w.heap.size 3 _ rfl V3 Tryz.underlying96 rfl Tryz.sizeTm) rfl ⟨rfl,hb⟩
end
section
variable {B : Nat} {w w' w1 w2 w3 : World} {p q : Nat} {F G G' : Nat -> Prop} {S S' : TS} {kd n : Int} {sd : Nat -> Int} {s : Value} {v u : Value} {l : List Int}
theorem vF (h:Qs B w p q G S) (hF:∀b,F b ↔ b=p\/G b) (hb:Below w.heap.size w w') (er:Int):yg B w p F (.slice none 0 0) ([],er,S) w':=
 ⟨F,⟨q,G,h.below hb,hF⟩,dK.nil _ _,.of_below hb _,fun b hb=> .inl hb⟩
theorem Ke (h:Qs B w p q G S) (hF:∀b,F b ↔ b=p\/G b) (hb:Below w.heap.size w w1) (h1:wG B w2 q G' S') (hc:gY G w1 w2) (hf:∀b,G' b->G b\/w1.heap.size<=b) (hw:S'.few)
  {e:TypeId} (ho:Go.aZ.Own .u8 e w2.heap.size w3 u 9 (lH 1 (fun _=> 247) (vL n))) (hb3:Below w2.heap.size w2 w3) (er:Int):yg B w p F u (dO n,er,S') w3:=by
 have hQ:=(h.below hb).put h1 hc hf hw;refine ⟨fun b=> b=p\/G' b,⟨q,G',hQ.below hb3,fun _=> Iff.rfl⟩,dK.own ho (kH (n:=1) (m:=8) (fun _ _=> by decide) fun i _=> Kt n i) fun b hb=> hQ.lt hb,?_,fun b hb'=> ?_⟩
 ·exact ((gY.of_below hb F).trans (hc.mono (G:=F) fun b _ hg=> (hF b).2 (.inr hg)) fun _ _ h=> h).trans (gY.of_below hb3 F) fun _ _ h=> h
 ·rcases hb' with rfl | hb'
  ·exact .inl ((hF b).2 (.inl rfl))
  ·exact (hf b hb').imp (fun h=> (hF b).2 (.inr h)) fun h'=> gQ hb.size h'
theorem zN {S:TS} {n:Nat} (h:n<S.l.length):gU S.l (n:Int) 0=true:=uP.2 ⟨n,rfl,_,oG h,.inl rfl⟩
theorem KO {S:TS} {k:Int} (hk:k=2\/k=3\/k=6\/k=7) {n:Nat} (h:n<S.l.length):lM S (k,(n:Int),0)=true:=by
 rcases hk with rfl | rfl | rfl | rfl
 ·rw [Te,zN h];rfl
 ·rw [Td,zN h];rfl
 ·rw [SY,zN h];rfl
 ·rw [SX,zN h];rfl
theorem MO {S:TS} {t:Tm} (h:lM S t=true):(mW S t).2=0/\0<=(mW S t).1/\(mW S t).1<=S.l.length:=by
 unfold mW;rw [if_pos h];refine ⟨rfl,?_⟩
 split
 ·rename_i hin
  have:=zy hin;simp only;omega
 ·simp only;omega
theorem MU {k n m:Int} (hk:0<=k/\k<=10) (hn:0<=n/\n<=1000000) (hm:0<=m/\m<=1000000):zB (k,n,m):=⟨⟨by simp only;omega,by simp only;omega⟩,⟨by simp only;omega,by simp only;omega⟩,⟨by simp only;omega,by simp only;omega⟩⟩
theorem Ca (h:mX B w p F S) (k:Int) (hk:k=2\/k=3\/k=6\/k=7) (hb:dK F w v l) (hl:S.l.length<=900):Calls Tryz.prog 91 #[.pointer (some ⟨p,0,none⟩),.int .i64 k,v] w fun e w'=> ∃u,e=.returned (.tuple #[u,.int .i64 (gW k S l).2.1])/\yg B w p F u (gW k S l) w':=by
 have HO:=ak (pW h hb (by omega));have Fj:=ak hb.ok;obtain ⟨q,G,hq,hF⟩:=h;have HQ:=ak hq;have HF:=ak hF;have HK:=ak hk;have HL:=ak hl;obtain ⟨R,hR⟩:∃x,x=gW k S l:=⟨_,rfl⟩
 rw [<-hR];have HR:=ak hR;obtain ⟨av,cv,rfl,_⟩:=hb.rd;clear hR hq hF hb hl hk
 go_enter Tryz.func91,Tryz.ntmps91
 go_wp2_with fail;refine HO.out.mono ?_;rintro e w1 ⟨rfl,b1⟩;have B1:=ak b1;clear b1;obtain ⟨A,hA⟩:∃x,x=Bt S l:=⟨_,rfl⟩
 rw [<-hA];have HA:=ak hA;clear hA;go_upto_region 2 with (fail);refine aD (fun w2=> Below w.heap.size w w2) (B1.out.alloc B1.out.size _) ?_;rintro w2 b2;have B2:=ak b2;clear b2
 cases hm:jV S l with
 | none=>
  have HE:Hid (R=([],11,S)):=ak (by rw [HR.out];unfold gW;rw [hm]);obtain rfl:A=(0,(0,0,0),11):=by rw [HA.out];unfold Bt;rw [hm]
  clear hm HA;go_wp2;go_ret2;rw [HE.out];exact ⟨_,rfl,vF HQ.out HF.out B2.out 11⟩
 | some m=>
  have HN:=ak (qY Fj.out hm);have HE:Hid (R=(dO (mW S (k,m,0)).1,0,S.put (k,m,0))):=ak (by rw [HR.out];unfold gW;rw [hm]);obtain ⟨t,ht⟩:∃t,t=mV S.l m:=⟨_,rfl⟩
  obtain rfl:A=((m:Int),t,0):=by rw [HA.out,ht];unfold Bt;rw [hm]
  clear hm HA ht;have HP:=ak (MO (KO HK.out HN.out));have Qu:Hid (zB (k,(m:Int),0)):=ak (MU (by have:=HK.out;omega) (by have:=HN.out;have:=HL.out;omega) (by omega));have cp:=(HQ.out.r.below B2.out).cp;go_wp2_with fail;refine (FR (HQ.out.st.below B2.out) (HQ.out.below B2.out).hB _ Qu.out (by have:=HL.out;omega)).mono ?_;rintro e w3 ⟨rfl,G3,h3,c3,f3⟩;rw [HP.out.1];obtain ⟨X,hX⟩:∃X,X=(mW S (k,(m:Int),0)).1:=⟨_,rfl⟩
  rw [<-hX] at HP HE ⊢;have HX:=ak HP.out.2;have H3:=ak h3;have C3:=ak c3;have F3:=ak f3;have HW:Hid ((S.put (k,(m:Int),0)).few):=ak (HQ.out.few.put (by have:=HK.out;simp only;omega));clear hX h3 c3 f3 cp HP;go_wp2_with fail;refine (oL X HX.out.1 (by have:=HX.out.2;have:=HL.out;omega) w3).mono ?_;rintro e w4 ⟨u,rfl,hu,b4⟩;have HD:=ak (Ke HQ.out HF.out B2.out H3.out C3.out F3.out HW.out hu b4 0);clear hu b4;go_wp2;go_ret2;rw [HE.out];exact ⟨_,rfl,HD.out⟩
theorem afM {S:TS} {n:Nat} {k:Int} (h:n<S.l.length) (hk:JG S n=k):gU S.l (n:Int) k=true:=uP.2 ⟨n,rfl,_,yS h,.inr hk⟩
theorem SV {S:TS} {k:Int} {n m:Nat} (hk:(k=4/\JG S n=2)\/k=5) (h:n<S.l.length) (h':m<S.l.length):lM S (k,(n:Int),(m:Int))=true:=by
 rcases hk with ⟨rfl,h2⟩ | rfl
 ·rw [Tc,afM h h2,zN h'];rfl
 ·rw [Ta,zN h,zN h'];rfl
theorem Od {v':Value} {l':List Int} (h:mX B w p F S) (k:Int) (hk:k=4\/k=5) (hb:dK F w v l) (hb':dK F w v' l') (hl:S.l.length<=900):Calls Tryz.prog 67 #[.pointer (some ⟨p,0,none⟩),.int .i64 k,v,v'] w fun e w'=> ∃u,e=.returned (.tuple #[u,.int .i64 (mR k S l l').2.1])/\yg B w p F u (mR k S l l') w':=by
 have HO:=ak (pW h hb (by omega));have HO':=ak (fun w1 (b1:Below w.heap.size w w1)=> pW (h.below b1) (hb'.below b1) (by omega));have Fj:=ak hb.ok;have ads:=ak hb'.ok;obtain ⟨q,G,hq,hF⟩:=h;have HQ:=ak hq;have HF:=ak hF;have HK:=ak hk;have HL:=ak hl;obtain ⟨R,hR⟩:∃x,x=mR k S l l':=⟨_,rfl⟩
 rw [<-hR];have HR:=ak hR;obtain ⟨av,cv,rfl,_⟩:=hb.rd;obtain ⟨av',cv',rfl,_⟩:=hb'.rd;clear hR hq hF hb hb' hl hk
 go_enter Tryz.func67,Tryz.ntmps67
 go_wp2_with fail;refine HO.out.mono ?_;rintro e w1 ⟨rfl,b1⟩;have B1:=ak b1;clear b1;obtain ⟨A,hA⟩:∃x,x=Bt S l:=⟨_,rfl⟩
 rw [<-hA];have HA:=ak hA;clear hA;go_upto_region 2 with (fail);refine aD (fun w2=> w2.cell? ⟨w1.heap.size,0,none⟩=some (.int .i64 A.2.1.1)/\Below w.heap.size w w2) ⟨cell_of_row _ _ 0 _ _ (0,0) (heap_alloc_new w1 _),B1.out.alloc B1.out.size _⟩ ?_;rintro w2 ⟨c0,b2⟩;have B2:=ak b2;clear b2
 cases hm:jV S l with
 | none=>
  have HE:Hid (R=([],11,S)):=ak (by rw [HR.out];unfold mR;rw [hm]);obtain rfl:A=(0,(0,0,0),11):=by rw [HA.out];unfold Bt;rw [hm]
  clear hm HA;go_wp2;go_ret2;rw [HE.out];exact ⟨_,rfl,vF HQ.out HF.out B2.out 11⟩
 | some n=>
  have HN:=ak (qY Fj.out hm);have HM:=ak hm;obtain ⟨t,ht⟩:∃t,t=mV S.l n:=⟨_,rfl⟩
  obtain rfl:A=((n:Int),t,0):=by rw [HA.out,ht];unfold Bt;rw [hm]
  have HT:=ak ht;have HKD:Hid (JG S n=t.1):=ak (by rw [ht];rfl);clear hm HA ht;by_cases hbad:k=4/\t.1≠2
  ·obtain ⟨rfl,h2⟩:=hbad;have HE:Hid (R=([],11,S)):=ak (by
    rw [HR.out];unfold mR;rw [HM.out]
    cases jV S l' with
    | none=> rfl
    | some m=> exact if_pos ⟨rfl,by rw [HKD.out];exact h2⟩)
   have h2':(t.1 !=2)=true:=by simpa using h2
   clear h2;go_wp2;go_ret2;rw [HE.out];exact ⟨_,rfl,vF HQ.out HF.out B2.out 11⟩
  ·have hc:(k=4/\(t.1 !=2)=false)\/(k=5/\((5:Int)==4)=false):=by
    rcases HK.out with rfl | rfl
    ·exact .inl ⟨rfl,by by_cases e:t.1=2;(· simpa using e);exact absurd ⟨rfl,e⟩ hbad⟩
    ·exact .inr ⟨rfl,rfl⟩
   have HKK:Hid ((k=4/\JG S n=2)\/k=5):=ak (hc.imp (fun h=> ⟨h.1,by rw [HKD.out];simpa using h.2⟩) fun h=> h.1);have akP:Hid (∀m:Nat,m<S.l.length->lM S (k,(n:Int),(m:Int))=true):=ak fun m hm=> SV HKK.out HN.out hm;have akG:Hid (∀m:Nat,jV S l'=some m->R=(dO (mW S (k,n,m)).1,0,S.put (k,n,m))):=ak fun m hm=> by
    rw [HR.out];unfold mR;rw [HM.out,hm];exact if_neg (by rw [HKD.out];exact hbad)
   have Qu:Hid (∀m:Nat,m<S.l.length->zB (k,(n:Int),(m:Int))):=ak fun m hm=> MU (by have:=HK.out;omega) (by have:=HN.out;have:=HL.out;omega) (by have:=HL.out;omega);have HK1:Hid (k≠1):=ak (by have:=HK.out;omega);have HNO:Hid (jV S l'=none->R=([],11,S)):=ak fun hm=> by rw [HR.out];unfold mR;rw [HM.out,hm]
   clear hbad HKK HK HR HKD;rcases hc with ⟨rfl,h2⟩ | ⟨rfl,h2⟩
   all_goals
    go_wp2_with fail;refine (HO'.out w2 B2.out).mono ?_;rintro e w3 ⟨rfl,b3⟩;have B3:=ak (B2.out.trans (b3.mono B2.out.size));clear b3 c0 h2;obtain ⟨A,hA⟩:∃x,x=Bt S l':=⟨_,rfl⟩
    rw [<-hA];have HA:=ak hA;clear hA;go_upto_region 5 with (fail);refine aD (fun w4=> Below w.heap.size w w4) (B3.out.alloc B3.out.size _) ?_;rintro w4 b4;have B4:=ak b4;clear b4
    cases hm:jV S l' with
    | none=>
     have HE:Hid (R=([],11,S)):=ak (HNO.out hm);obtain rfl:A=(0,(0,0,0),11):=by rw [HA.out];unfold Bt;rw [hm]
     clear hm HA;go_wp2;go_ret2;rw [HE.out];exact ⟨_,rfl,vF HQ.out HF.out B4.out 11⟩
    | some m=>
     have HE:=ak (akG.out m hm);have HN':=ak (qY ads.out hm);have Qu:=ak (Qu.out m HN'.out);have HP:=ak (MO (akP.out m HN'.out));obtain ⟨t',ht'⟩:∃t,t=mV S.l m:=⟨_,rfl⟩
     obtain rfl:A=((m:Int),t',0):=by rw [HA.out,ht'];unfold Bt;rw [hm]
     clear hm HA ht';have cp:=(HQ.out.r.below B4.out).cp;go_wp2_with fail;refine (FR (HQ.out.st.below B4.out) (HQ.out.below B4.out).hB _ Qu.out (by have:=HL.out;omega)).mono ?_;rintro e w5 ⟨rfl,G3,h3,c3,f3⟩;rw [HP.out.1];have HW:=ak (HQ.out.few.put (t:=(_,(n:Int),(m:Int))) HK1.out);have HX:=ak HP.out.2;have H3:=ak h3;have C3:=ak c3;have F3:=ak f3;clear HP h3 c3 f3 cp
     generalize mW S (_,(n:Int),(m:Int))=PA at HX HE ⊢
     obtain ⟨X,er⟩:=PA;simp only at HX HE ⊢;go_wp2_with fail;refine (oL X HX.out.1 (by have:=HX.out.2;have:=HL.out;omega) w5).mono ?_;rintro e w6 ⟨u,rfl,hu,b4⟩;have HD:=ak (Ke HQ.out HF.out B4.out H3.out C3.out F3.out HW.out hu b4 0);clear hu b4;go_wp2;go_ret2;rw [HE.out];exact ⟨_,rfl,HD.out⟩
end
section
variable {B : Nat} {w w' w1 w2 w3 : World} {p q : Nat} {F G G' : Nat -> Prop} {S S' : TS} {kd n : Int} {sd : Nat -> Int} {s : Value} {v u v' : Value} {l l' : List Int}
theorem Cb (h:mX B w p F S) (s:Int) (hl:S.l.length<=900):Calls Tryz.prog 26 #[.pointer (some ⟨p,0,none⟩),.int .i64 s] w fun e w'=> ∃u,e=.returned (.tuple #[u,.int .i64 (jE S s).2.1])/\yg B w p F u (jE S s) w':=by
 obtain ⟨q,G,hq,hF⟩:=h;have HQ:=ak hq;have HF:=ak hF;have HL:=ak hl;have HW:=ak (fG hq.r);obtain ⟨R,hR⟩:∃x,x=jE S s:=⟨_,rfl⟩
 rw [<-hR];have HR:=ak hR;have ck:=hq.r.ck;have cp:=hq.r.cp;clear hR hq hF hl;by_cases hs:1<=s/\s<=4
 ·have HS:Hid (isSort s=true):=ak (by unfold isSort;rw [decide_eq_true hs.1,decide_eq_true hs.2];rfl);have HN:Hid (wY S.l s<=mU):=ak (by have:=HQ.out.few s;have:=HL.out;unfold mU;omega);have HE:Hid (R=(dO S.l.length,0,S.draw s)):=ak (by rw [HR.out];unfold jE;rw [if_pos HS.out]);have HA:Hid (xA S s=((S.l.length:Int),0)):=ak (by unfold xA;rw [if_pos HS.out,if_pos HN.out]);have h1:decide (s<1)=false:=decide_eq_false (by omega);have h2:decide (4<s)=false:=decide_eq_false (by omega);clear hs
  go_enter Tryz.func26,Tryz.ntmps26
  go_wp2_with fail;refine HW.out.mono ?_;rintro e w1 ⟨rfl,rfl⟩;go_wp2_with fail;refine (NZ HQ.out.st HQ.out.hB s (by have:=HL.out;omega)).mono ?_;rw [HA.out];rintro e w2 ⟨rfl,G3,h3,c3,f3⟩;have H3:=ak h3;have C3:=ak c3;have F3:=ak f3;clear h3 c3 f3 ck cp;go_wp2_with fail;refine (oL (S.l.length:Int) (by omega) (by have:=HL.out;omega) w2).mono ?_;rintro e w4 ⟨u,rfl,hu,b4⟩;have HD:=ak (Ke HQ.out HF.out (bN _ _) H3.out C3.out F3.out (HQ.out.few.draw s) hu b4 0);clear hu b4;go_wp2;go_ret2;rw [HE.out];exact ⟨_,rfl,HD.out⟩
 ·have HE:Hid (R=([],2,S)):=ak (by
   rw [HR.out];unfold jE;rw [if_neg];intro h;simp only [isSort,EY,decide_eq_true_eq] at h;exact hs h)
  by_cases h1:s<1
  ·have h1':decide (s<1)=true:=decide_eq_true h1;clear hs h1 cp
   go_enter Tryz.func26,Tryz.ntmps26
   go_wp2_with fail;refine HW.out.mono ?_;rintro e w1 ⟨rfl,rfl⟩;go_wp2;go_ret2;rw [HE.out];exact ⟨_,rfl,vF HQ.out HF.out (bN _ _) 2⟩
  ·have h1':decide (s<1)=false:=decide_eq_false h1;have h2':decide (4<s)=true:=decide_eq_true (by omega);clear hs h1 cp
   go_enter Tryz.func26,Tryz.ntmps26
   go_wp2_with fail;refine HW.out.mono ?_;rintro e w1 ⟨rfl,rfl⟩;go_wp2;go_ret2;rw [HE.out];exact ⟨_,rfl,vF HQ.out HF.out (bN _ _) 2⟩
theorem wM (h:mX B w p F S) (hb:dK F w v l) (hl:S.l.length<=900):Calls Tryz.prog 33 #[.pointer (some ⟨p,0,none⟩),v] w fun e w'=> ∃u,e=.returned (.tuple #[u,.int .i64 (gW 2 S l).2.1])/\yg B w p F u (gW 2 S l) w':=by
 have HC:=ak (Ca h 2 (by decide) hb hl);have HW:Hid (Calls Tryz.prog 63 #[.pointer (some ⟨p,0,none⟩)] w fun e w'=> e=.returned (.int .i64 2)/\w'=w):=ak (by obtain ⟨q,G,hq,_⟩:=h;exact fG hq.r);obtain ⟨R,hR⟩:∃x,x=gW 2 S l:=⟨_,rfl⟩
 rw [<-hR] at HC ⊢;obtain ⟨av,cv,rfl,_⟩:=hb.rd;clear hR h hb hl
 go_enter Tryz.func33,Tryz.ntmps33
 go_wp2_with fail;refine HW.out.mono ?_;rintro e w1 ⟨rfl,rfl⟩;go_wp2_with fail;refine HC.out.mono ?_;rintro e w2 ⟨u,rfl,hR⟩;have HR:=ak hR;clear hR;go_wp2;go_ret2;exact ⟨u,rfl,HR.out⟩
theorem rU (h:mX B w p F S) (hb:dK F w v l) (hl:S.l.length<=900):Calls Tryz.prog 34 #[.pointer (some ⟨p,0,none⟩),v] w fun e w'=> ∃u,e=.returned (.tuple #[u,.int .i64 (gW 3 S l).2.1])/\yg B w p F u (gW 3 S l) w':=by
 have HC:=ak (Ca h 3 (by decide) hb hl);have HW:Hid (Calls Tryz.prog 63 #[.pointer (some ⟨p,0,none⟩)] w fun e w'=> e=.returned (.int .i64 2)/\w'=w):=ak (by obtain ⟨q,G,hq,_⟩:=h;exact fG hq.r);obtain ⟨R,hR⟩:∃x,x=gW 3 S l:=⟨_,rfl⟩
 rw [<-hR] at HC ⊢;obtain ⟨av,cv,rfl,_⟩:=hb.rd;clear hR h hb hl
 go_enter Tryz.func34,Tryz.ntmps34
 go_wp2_with fail;refine HW.out.mono ?_;rintro e w1 ⟨rfl,rfl⟩;go_wp2_with fail;refine HC.out.mono ?_;rintro e w2 ⟨u,rfl,hR⟩;have HR:=ak hR;clear hR;go_wp2;go_ret2;exact ⟨u,rfl,HR.out⟩
theorem BZ (h:mX B w p F S) (hb:dK F w v l) (hb':dK F w v' l') (hl:S.l.length<=900):Calls Tryz.prog 13 #[.pointer (some ⟨p,0,none⟩),v,v'] w fun e w'=> ∃u,e=.returned (.tuple #[u,.int .i64 (mR 4 S l l').2.1])/\yg B w p F u (mR 4 S l l') w':=by
 have HC:=ak (Od h 4 (by decide) hb hb' hl);have HW:Hid (Calls Tryz.prog 63 #[.pointer (some ⟨p,0,none⟩)] w fun e w'=> e=.returned (.int .i64 2)/\w'=w):=ak (by obtain ⟨q,G,hq,_⟩:=h;exact fG hq.r);obtain ⟨R,hR⟩:∃x,x=mR 4 S l l':=⟨_,rfl⟩
 rw [<-hR] at HC ⊢;obtain ⟨av,cv,rfl,_⟩:=hb.rd;obtain ⟨av',cv',rfl,_⟩:=hb'.rd;clear hR h hb hb' hl
 go_enter Tryz.func13,Tryz.ntmps13
 go_wp2_with fail;refine HW.out.mono ?_;rintro e w1 ⟨rfl,rfl⟩;go_wp2_with fail;refine HC.out.mono ?_;rintro e w2 ⟨u,rfl,hR⟩;have HR:=ak hR;clear hR;go_wp2;go_ret2;exact ⟨u,rfl,HR.out⟩
end
section
variable {B : Nat} {w w' w1 w2 w3 : World} {p q : Nat} {F G G' : Nat -> Prop} {S S' : TS} {kd n : Int} {sd : Nat -> Int} {s : Value} {v u v' : Value} {l l' : List Int}
theorem mX.which (h:mX B w p F S):Calls Tryz.prog 63 #[.pointer (some ⟨p,0,none⟩)] w fun e w'=> e=.returned (.int .i64 2)/\w'=w:=by obtain ⟨q,G,hq,_⟩:=h;exact fG hq.r
theorem XD (h:S.Ok) {m:Nat} (hm:m<S.l.length) (hk:JG S m=4\/JG S m=5\/JG S m=8):∃b:Nat,(mV S.l m).2.2=b/\b<m:=by
 have:=h.ok m _ (yS hm);unfold JG at hk;rcases this with h | h | ⟨_,_,b,h1,h2⟩ | ⟨_,_,b,h1,h2⟩ | ⟨_,_,b,h1,h2,_⟩ | h | h
 ·omega
 ·omega
 ·exact ⟨b,h1,h2⟩
 ·exact ⟨b,h1,h2⟩
 ·exact ⟨b,h1,h2⟩
 ·omega
 ·omega
theorem Hl (h:jV S l=none):Bt S l=(0,(0,0,0),11):=by unfold Bt;rw [h]
theorem Hg {n:Nat} (h:jV S l=some n):Bt S l=((n:Int),mV S.l n,0):=by unfold Bt;rw [h]
end
end Go.Proofs.YtpcjekgfnfjbpaaGreat
