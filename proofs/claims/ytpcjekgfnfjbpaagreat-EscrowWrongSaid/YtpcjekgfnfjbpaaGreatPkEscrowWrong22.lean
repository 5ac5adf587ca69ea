/-
  Part 22 of the texts that the proof of EscrowWrong rests on, one after the other. Conditions: named in each theorem.
-/
import Derived.Test.YtpcjekgfnfjbpaaGreatPkEscrowWrong20
import Derived.Test.YtpcjekgfnfjbpaaGreatPkEscrowWrong21
import Derived.StillTailTactics
set_option linter.unusedVariables false
set_option linter.unusedSimpArgs false
set_option maxRecDepth 100000
set_option maxHeartbeats 3200000
namespace Go.aG
open Go.RowKit
def je (n:Nat) (f:Nat→Int):List Int:=(List.range n).map f
@[simp] theorem dL (n:Nat) (f:Nat→Int):(je n f).length=n:=by simp [je]
theorem qK {n i:Nat} {f:Nat→Int} (h:i<n):bf (je n f) i=f i:=by
 unfold bf je
 rw [List.getD_eq_getElem?_getD,List.getElem?_map,List.getElem?_range h]
 rfl
theorem mQ {n:Nat} {f:Nat→Int} (h:∀i,i<n→0≤f i∧f i<256):okB (je n f):=by
 intro x hx
 obtain ⟨i,hi,rfl⟩:=List.mem_map.1 hx
 exact h i (List.mem_range.1 hi)
theorem qA (l:List Int):je l.length (bf l)=l:=by
 apply List.ext_getElem?
 intro i
 by_cases h:i<l.length
 ·unfold je bf
  rw [List.getElem?_map,List.getElem?_range h,List.getElem?_eq_getElem h]
  simp [List.getD_eq_getElem?_getD,List.getElem?_eq_getElem h]
 ·rw [List.getElem?_eq_none (by simpa using h),List.getElem?_eq_none (by omega)]
theorem sU {n:Nat} {f g:Nat→Int} (h:∀i,i<n→f i=g i):je n f=je n g:=List.map_congr_left fun i hi=> h i (List.mem_range.1 hi)
theorem Rd.je {k:IntKind} {w:World} {v:Value} {n:Nat} {f:Nat→Int} (h:Rd k w v n f):Rd k w v (Go.aG.je n f).length (bf (Go.aG.je n f)):=by
 rw [dL]
 exact h.congr fun i hi=> (qK hi).symm
def kQ (n:Int) (i:Nat):Int:=n / 2 ^ (8 * (8 - 1 - i)) % 256
theorem qx (n:Int) (i:Nat):0≤kQ n i∧kQ n i<256:=by unfold kQ;omega
theorem vZ {n:Int} (h0:0≤n) (h1:n<2 ^ 64):big (kQ n) 8=n:=by
 have:=nC (n:=n) (s:=8) (by omega) 8 (Nat.le_refl _)
 rw [show (8:Nat) * (8 - 8)=0 from rfl,Int.pow_zero,Int.ediv_one] at this
 exact this
def aR (n:Int):List Int:=je 9 (nA 1 (fun _=> 247) (kQ n))
theorem aP (n:Int):(aR n).length=9:=dL _ _
theorem nQ (n:Int):okB (aR n):=mQ (gH (n:=1) (m:=8) (fun _ _=> by decide) fun i _=> qx n i)
theorem zi (n:Int):bf (aR n) 0=247:=qK (by decide)
theorem zh (n:Int) (i:Nat) (h:i<8):bf (aR n) (1+i)=kQ n i:=(qK (by omega)).trans rY
def pG (l:List Int) (i:Nat):Int:=bf l (1+i)
def bC (S:TS) (l:List Int):Option Nat:=if l.length=9∧bf l 0=247∧dM (pG l) 8=0∧bL (pG l) 8<S.l.length then some (bL (pG l) 8).toNat else none
theorem kg {f g:Nat→Int}:∀k:Nat,(∀i,i<k→f i=g i)→big f k=big g k
 | 0,_=> rfl
 | k+1,h=> by rw [big,big,kg k fun i hi=> h i (by omega),h k (by omega)]
theorem jB {n:Int} (h0:0≤n) (h1:n≤4611686018427387904):dM (pG (aR n)) 8=0∧bL (pG (aR n)) 8=n:=by
 have e:big (pG (aR n)) 8=n:=(kg 8 fun i hi=> zh n i hi).trans (vZ h0 (by omega))
 unfold dM bL
 rw [e,if_neg (by decide),if_neg (by decide),if_neg (by omega),if_neg (by omega)]
 exact ⟨rfl,rfl⟩
theorem bZ {S:TS} {n:Nat} (h:n<S.l.length) (hl:S.l.length≤4611686018427387904):bC S (aR n)=some n:=by
 obtain ⟨h1,h2⟩:=jB (n:=(n:Int)) (by omega) (by omega)
 unfold bC
 rw [if_pos ⟨aP _,zi _,h1,by rw [h2];omega⟩,h2,Int.toNat_natCast]
theorem jZ {f:Nat→Int}:∀k,(∀i,i<k→0≤f i)→0≤big f k
 | 0,_=> Int.le_refl _
 | k+1,h=> by have:=jZ k fun i hi=> h i (by omega);have:=h k (by omega);rw [big];omega
theorem dY {f:Nat→Int} {k:Nat} (h:∀i,i<k→0≤f i):0≤bL f k:=by
 unfold bL
 split
 ·exact Int.le_refl _
 ·exact jZ k h
theorem cZ {S:TS} {l:List Int} {n:Nat} (hb:okB l) (h:bC S l=some n):n<S.l.length:=by
 unfold bC at h
 split at h
 ·rename_i h'
  have h0:0≤bL (pG l) 8:=dY fun i hi=> (hb.at _ (by omega)).1
  obtain rfl:=Option.some.inj h
  have:=h'.2.2.2
  omega
 ·cases h
theorem sP {S:TS} {l:List Int} {n:Nat} (hb:okB l) (h:bC S l=some n):bL (pG l) 8=(n:Int):=by
 unfold bC at h
 split at h
 ·rename_i h'
  have h0:0≤bL (pG l) 8:=dY fun i hi=> (hb.at _ (by omega)).1
  obtain rfl:=Option.some.inj h
  omega
 ·cases h
def TS.few (S:TS):Prop:=∀s,iV S.l s≤S.l.length
theorem TS.few.nil:TS.few ⟨[], []⟩:=fun s=> Int.le_refl _
theorem TS.few.add {S:TS} (h:S.few) {t:Tm} (ht:t.1=1→t.2.2≤S.l.length):(S.add t).few:=fun s=> by
 have:=h s
 rw [gZ]
 show iV (S.l++ [t]) s≤_
 rw [jP]
 split
 ·rename_i h'
  have:=ht h'.1
  unfold dO
  omega
 ·omega
theorem TS.few.put {S:TS} (h:S.few) {t:Tm} (ht:t.1≠1):(S.put t).few:=by
 unfold TS.put
 split
 ·exact h.add fun e=> absurd e ht
 ·exact h
theorem TS.few.draw {S:TS} (h:S.few) (s:Int):(S.draw s).few:=by
 unfold TS.draw
 split
 ·exact h.add fun _=> h s
 ·exact h
abbrev TA:Type:=List Int × Int × TS
def dJ (k:Int) (S:TS) (l:List Int):TA:=match bC S l with
 | some n=> (aR (dP S (k,n,0)).1,0,S.put (k,n,0))
 | none=> ([],11,S)
def lQ (S:TS) (n:Nat):Int:=(dx S.l n).1
def fO (k:Int) (S:TS) (a b:List Int):TA:=match bC S a,bC S b with
 | some n,some m=> if k=4∧lQ S n≠2 then ([],11,S) else (aR (dP S (k,n,m)).1,0,S.put (k,n,m))
 | _,_=> ([],11,S)
def fJ (S:TS) (s:Int):TA:=if isSort s=true then (aR S.l.length,0,S.draw s) else ([],2,S)
end Go.aG
namespace Go.Proofs.YtpcjekgfnfjbpaaGreat
open Go.RowKit Go.aG
def aO (S:TS) (a b:List Int):List Int × Int:=match bC S a,bC S b with
 | some n,some m=> if lQ S m=4∧(jh S (dx S.l m).2.1).1.2.1=n then (aR (dx S.l m).2.2,0) else ([],20)
 | _,_=> ([],11)
end Go.Proofs.YtpcjekgfnfjbpaaGreat
namespace Go.Proofs.YtpcjekgfnfjbpaaGreat
open Go.RowKit Go.aG Go.ChangeShapes Go.Maps
attribute [local go_sem ↓] Go.wp_at_zero Go.wp_at_succ
theorem uo (w:World):Calls Tryz.prog 106 #[] w fun e w'=> ∃p F,e=.returned (.pointer (some ⟨p,0,none⟩))∧jw w.heap.size w' p F ⟨[], []⟩∧Below w.heap.size w w':=by
 have HM:=Lib.hid (iy.made Tryz.prog 96 3 w (fun i=> lv pX [] i 0) (fun i=> match ([] :List Tm)[i]? with | some x=> jd (mP [] x) | none=> undef))
 have Kq:=Lib.hid (iy.made Tryz.prog 9 3 (w.alloc (.map #[] 0)) (fun i=> lv Ba [] i 0) (fun i=> match ([] :List (List Int))[i]? with | some x=> jd (Bb ⟨[], []⟩ x) | none=> undef))
 have hmk:∀w,(Instr.makeMap 160 none).run Tryz.prog w=.ok (.map (some w.heap.size)) (w.alloc (.map #[] 0)):=fun w=> rfl
 have Jo:∀w,(Instr.makeMap 161 none).run Tryz.prog w=.ok (.map (some w.heap.size)) (w.alloc (.map #[] 0)):=fun w=> rfl
 go_enter Tryz.func106,Tryz.ntmps106
 go_wp2
 go_ret
 obtain ⟨W2,hW2⟩:∃W2,(w.alloc (.map #[] 0)).alloc (.map #[] 0)=W2:=⟨_,rfl⟩
 have b1:Below w.heap.size w W2:=by rw [←hW2];exact ((Below.refl _ _).alloc (Nat.le_refl _) _).alloc (by simp) _
 have hs:W2.heap.size=w.heap.size+1+1:=by rw [←hW2];simp
 have m1:=(HM.out.alloc (.map #[] 0))
 have m2:=Kq.out
 rw [hW2] at m1 m2
 rw [World.size_alloc] at m2
 rw [hW2,←hs]
 obtain ⟨O,hO⟩:∃O,O=Obj.cells #[.slice none 0 0,.map (some w.heap.size),.map (some (w.heap.size+1)),.slice none 0 0,.int .i64 0,.int .i64 0,.int .i64 0,.int .i64 0,.int .i64 0] 164:=⟨_,rfl⟩
 have hb:=heap_alloc_new W2 (.cells #[.slice none 0 0,.map (some w.heap.size),.map (some (w.heap.size+1)),.slice none 0 0,.int .i64 0,.int .i64 0,.int .i64 0,.int .i64 0,.int .i64 0] 164)
 have hc:=fun i=> cell_of_row _ _ i _ _ (0,0) hb
 refine ⟨W2.heap.size,_,rfl,⟨w.heap.size,w.heap.size+1,.slice none 0 0,.slice none 0 0,fun _=> .slice none 0 0,⟨⟨⟨_,hb,rfl⟩,hc 0,hc 1,hc 2,hc 3,fun k hk=> ?_,bP.nil _ _ _ _,m1.alloc _,m2.alloc _,bP.nil _ _ _ _,fun j b hj=> (by simp at hj),by omega,by omega,Nat.le_refl _,by omega,fun b hb=> (by cases hb),fun b hb=> (by cases hb)⟩,List.nodup_nil,List.nodup_nil,fun j hj=> absurd hj (Nat.not_lt_zero _),fun t ht=> (by cases ht),fun b hb=> (by cases hb)⟩,TS.Ok.empty,fun b=> Iff.rfl⟩,b1.alloc b1.size _⟩
 rcases (by omega:k=0∨k=1∨k=2∨k=3∨k=4) with rfl | rfl | rfl | rfl | rfl<;> exact hc _
theorem uE {B:Nat} {w:World} {p:Nat} {F:Nat→Prop} {S:TS} (h:jw B w p F S):Calls Tryz.prog 115 #[.pointer (some ⟨p,0,none⟩)] w fun e w'=> e=.returned (jd S.l.length)∧w'=w:=by
 obtain ⟨mb,mt,vl,vb,tv,h1,_,_⟩:=h
 exact uw h1
end Go.Proofs.YtpcjekgfnfjbpaaGreat
namespace Go.aG
open Go.RowKit
structure aT (F:Nat→Prop) (w:World) (v:Value) (l:List Int):Prop where
 ok:okB l
 rd:Rd .u8 w v l.length (bf l)
 off:0<l.length→∀b,v.ownBlock=some b→¬ F b
section
variable {F F' G : Nat → Prop} {w w' : World} {v : Value} {l : List Int}
theorem Rd.rZ {k:IntKind} {n:Nat} {f:Nat→Int} (h:Rd k w v n f) (hn:0<n) {b:Nat} (hb:v.ownBlock=some b):b<w.heap.size:=by
 obtain ⟨a,c,rfl,_,_,_,h4⟩:=h
 obtain ⟨g,o,rfl,hlt,_⟩:=h4 hn
 obtain rfl:g=b:=by simpa [Value.ownBlock] using hb
 exact hlt
theorem aT.below (h:aT F w v l) (hb:Below w.heap.size w w'):aT F w' v l:=⟨h.ok,h.rd.below hb,h.off⟩
structure dV (p:Nat) (F:Nat→Prop) (w w':World):Prop where
 dz:bB (fun b=> b=p∨F b) w w'
 u8:∀b,b<w.heap.size→¬ F b→∀i x,w.cell? ⟨b,i,none⟩=some (.int .u8 x)→w'.cell? ⟨b,i,none⟩=some (.int .u8 x)
theorem dV.of_below {p:Nat} (h:Below w.heap.size w w') (F:Nat→Prop):dV p F w w':=⟨.of_below h _,fun b hb _ i x hx=> (h.cell (p:=⟨b,i,none⟩) hb).trans hx⟩
theorem dV.refl (p:Nat) (F:Nat→Prop) (w:World):dV p F w w:=.of_below (Below.refl _ _) F
theorem dV.trans {p:Nat} {w'':World} (h:dV p F w w') (h':dV p F' w' w'') (hF:∀b,F' b→F b∨w.heap.size≤b):dV p F w w'':=
 ⟨h.dz.trans h'.dz fun b hb h1=> h1.imp id fun h2=> (hF b h2).elim id fun h3=> by omega,fun b hb hn i x hx=> h'.u8 b (Nat.lt_of_lt_of_le hb h.dz.size) (fun h2=> (hF b h2).elim hn fun h3=> by omega) i x (h.u8 b hb hn i x hx)⟩
theorem dV.zC {p:Nat} (h:bB F w w'):dV p F w w':=⟨h.mono fun b _ hb=> .inr hb,fun b hb hn i x hx=> (h.cell (p:=⟨b,i,none⟩) hb hn).trans hx⟩
theorem Rd.iY {p n:Nat} {f:Nat→Int} (h:Rd .u8 w v n f) (hc:dV p F w w') (hne:0<n→∀b,v.ownBlock=some b→¬ F b):Rd .u8 w' v n f:=by
 obtain ⟨a,c,rfl,h1,h2,h3,h4⟩:=h
 refine ⟨a,c,rfl,h1,h2,h3,fun hn=> ?_⟩
 obtain ⟨b,o,rfl,hlt,hcell⟩:=h4 hn
 have:=hc.dz.size
 exact ⟨b,o,rfl,by omega,fun i hi=> hc.u8 b hlt (hne hn b rfl) _ _ (hcell i hi)⟩
theorem aT.iY {p:Nat} (h:aT F w v l) (hc:dV p F w w') (hF:∀b,F' b→F b∨w.heap.size≤b):aT F' w' v l:=by
 refine ⟨h.ok,h.rd.iY hc h.off,fun hn b hb hf=> ?_⟩
 rcases hF b hf with h1 | h1
 ·exact h.off hn b hb h1
 ·have:=h.rd.rZ hn hb;omega
theorem aT.nil (F:Nat→Prop) (w:World):aT F w (.slice none 0 0) [] :=⟨(fun _ h=> by cases h),Rd.nil _ _ _,fun h=> absurd h (by decide)⟩
theorem aT.own {e:TypeId} {N n:Nat} {f:Nat→Int} (h:Own .u8 e N w v n f) (hf:∀i,i<n→0≤f i∧f i<256) (hF:∀b,F b→b<N):aT F w v (je n f):=
 ⟨mQ hf,h.rd.je,fun _ b hb Jr=> by have:=h.block b hb;have:=hF b Jr;omega⟩
theorem aT.slice (h:aT F w v l):∃a c,v=.slice a l.length c:=by obtain ⟨a,c,e,_⟩:=h.rd;exact ⟨a,c,e⟩
end
end Go.aG
namespace Go.Proofs.YtpcjekgfnfjbpaaGreat
open Go.RowKit Go.aG Go.ChangeShapes Go.Maps
attribute [local go_sem ↓] Go.wp_at_zero Go.wp_at_succ
structure fM (w:World) (p:Nat) (kd:Int) (sd:Nat→Int) (n:Int) (s:Value):Prop where
 row:cB w p 105 35
 ck:w.cell? ⟨p,0,none⟩=some (.int .i64 kd)
 cs:∀i,i<32→w.cell? ⟨p,1+i,none⟩=some (.int .u8 (sd i))
 cn:w.cell? ⟨p,33,none⟩=some (.int .i64 n)
 cp:w.cell? ⟨p,34,none⟩=some s
section
variable {B : Nat} {w w' : World} {p q : Nat} {F G G' : Nat → Prop} {S S' : TS} {kd n : Int} {sd : Nat → Int} {s : Value}
theorem fM.keep (h:fM w p kd sd n s) (hc:bB F w w') (hF:¬ F p):fM w' p kd sd n s:=
 have hl:=h.row.lt
 ⟨h.row.heap (hc.block p hl hF),(hc.cell (p:=⟨p,0,none⟩) hl hF).trans h.ck,fun i hi=> (hc.cell (p:=⟨p,1+i,none⟩) hl hF).trans (h.cs i hi),(hc.cell (p:=⟨p,33,none⟩) hl hF).trans h.cn,(hc.cell (p:=⟨p,34,none⟩) hl hF).trans h.cp⟩
theorem fM.below (h:fM w p kd sd n s) (hb:Below w.heap.size w w'):fM w' p kd sd n s:=h.keep (.of_below hb fun _=> False) id
structure tC (B:Nat) (w:World) (p q:Nat) (G:Nat→Prop) (S:TS):Prop where
 r:fM w p 2 (fun _=> 0) 0 (.pointer (some ⟨q,0,none⟩))
 st:jw B w q G S
 few:S.few
 hp:B≤p
 np:¬ G p
def fA (B:Nat) (w:World) (p:Nat) (F:Nat→Prop) (S:TS):Prop:=∃q G,tC B w p q G S∧∀b,F b ↔ b=p∨G b
theorem tC.below (h:tC B w p q G S) (hb:Below w.heap.size w w'):tC B w' p q G S:=⟨h.r.below hb,h.st.below hb,h.few,h.hp,h.np⟩
theorem tC.hB (h:tC B w p q G S):B≤w.heap.size:=Nat.le_trans h.hp (Nat.le_of_lt h.r.row.lt)
theorem tC.lt (h:tC B w p q G S) {b:Nat} (hb:b=p∨G b):b<w.heap.size:=by
 rcases hb with rfl | hb
 ·exact h.r.row.lt
 ·exact h.st.lt hb
theorem tC.put (h:tC B w p q G S) (h1:jw B w' q G' S') (hc:bB G w w') (hf:∀b,G' b→G b∨w.heap.size≤b) (hw:S'.few):tC B w' p q G' S':=
 ⟨h.r.keep hc h.np,h1,hw,h.hp,fun hb=> (hf p hb).elim h.np fun h'=> by have:=h.r.row.lt;omega⟩
theorem fA.below (h:fA B w p F S) (hb:Below w.heap.size w w'):fA B w' p F S:=by obtain ⟨q,G,h,hF⟩:=h;exact ⟨q,G,h.below hb,hF⟩
theorem fA.hi (h:fA B w p F S) {b:Nat} (hb:F b):B≤b:=by
 obtain ⟨q,G,h,hF⟩:=h
 rcases (hF b).1 hb with rfl | hb
 ·exact h.hp
 ·exact h.st.hi hb
theorem fA.lt (h:fA B w p F S) {b:Nat} (hb:F b):b<w.heap.size:=by
 obtain ⟨q,G,h,hF⟩:=h
 exact h.lt ((hF b).1 hb)
theorem fA.ok (h:fA B w p F S):S.Ok:=by obtain ⟨q,G,h,hF⟩:=h;exact h.st.ok
theorem fA.keep {H:Nat→Prop} (h:fA B w p F S) (hc:bB H w w') (hF:∀b,F b→¬ H b):fA B w' p F S:=by
 obtain ⟨q,G,h,hG⟩:=h
 exact ⟨q,G,⟨h.r.keep hc (hF p ((hG p).2 (.inl rfl))),h.st.keep hc fun b hb=> hF b ((hG b).2 (.inr hb)),h.few,h.hp,h.np⟩,hG⟩
def kW (B:Nat) (w:World) (p:Nat) (F:Nat→Prop) (v:Value) (r:TA) (w':World):Prop:=∃F',fA B w' p F' r.2.2∧aT F' w' v r.1∧bB F w w'∧∀b,F' b→F b∨w.heap.size≤b
def kS (S:TS) (l:List Int):Int × Bool:=match bC S l with | some n=> ((n:Int),true) | none=> (0,false)
def kR (S:TS) (l:List Int):Int × Tm × Int:=match bC S l with | some n=> ((n:Int),dx S.l n,0) | none=> (0,(0,0,0),11)
theorem bQ (h:fM w p kd sd n s):Calls Tryz.prog 63 #[.pointer (some ⟨p,0,none⟩)] w fun e w'=> e=.returned (.int .i64 kd)∧w'=w:=by
 have ck:=h.ck
 clear h
 go_enter Tryz.func63,Tryz.ntmps63
 go_wp2
 go_ret
 exact ⟨rfl,rfl⟩
theorem eO (n:Int) (h0:0≤n) (h1:n≤4611686018427387904) (w:World):Calls Tryz.prog 77 #[.int .i64 n,.int .i64 0] w fun e w'=> ∃v,e=.returned (.tuple #[v,.int .i64 0])∧Go.aG.Own .u8 5 w.heap.size w' v 9 (nA 1 (fun _=> 247) (kQ n))∧Below w.heap.size w w':=by
 have HP:=Lib.hid (fun w=> zu n 8 w (by decide) (by decide) h0 h1 (fun h=> absurd h (by decide)))
 clear h0 h1
 go_enter Tryz.func77,Tryz.ntmps77
 go_wp2_with fail
 refine (HP.out _).mono ?_
 rintro e w1 ⟨u,rfl,hu,b1⟩
 have HU:=Lib.hid (hu.rd)
 have B1:=Lib.hid b1
 obtain ⟨au,cu,rfl,_⟩:=hu.rd
 clear hu b1
 go_wp2_with (at_builtin;refine lW rfl _ _ 23 rfl w.heap.size 5 .u8 1 Tryz.underlying23 Tryz.info5 _ 1 (nA 1 (fun _=> 247) (kQ n)) (Go.aG.Own.new .u8 _ w1 _ 1 _ B1.out.size (by decide) rfl (fun i hi=> BM hi (by obtain rfl:i=0:=(by omega);rfl))) rfl _ 8 (kQ n) (HU.out.below ((Below.refl _ _).alloc (Nat.le_refl _) _)) rfl (fun i _=> rY) (by decide) (by decide) (by have:=B1.out.size;rw [World.size_alloc];omega) ?_;intro v5 w5 hown hgr)
 have HO:=Lib.hid hown
 have B5:Hid (Below w.heap.size w w5):=Lib.hid (below_grown (B1.out.alloc B1.out.size _) hgr (Go.aG.Own.new .u8 5 (base:=w.heap.size) w1 #[.int .u8 247] 1 (fun _=> 247) B1.out.size (by decide) rfl (fun i hi=> BM hi rfl)) (by have:=B1.out.size;rw [World.size_alloc];omega) (Nat.le_refl _))
 go_ret2
 exact ⟨_,rfl,HO.out,B5.out⟩
end
end Go.Proofs.YtpcjekgfnfjbpaaGreat
namespace Go.Proofs.YtpcjekgfnfjbpaaGreat
open Go.RowKit Go.aG Go.ChangeShapes Go.Maps
attribute [local go_sem ↓] Go.wp_at_zero Go.wp_at_succ
section
variable {B : Nat} {w w' : World} {p q : Nat} {F G G' : Nat → Prop} {S S' : TS} {kd n : Int} {sd : Nat → Int} {s : Value} {v : Value} {l : List Int}
theorem mo (h:fA B w p F S) (hb:aT F w v l) (hl:S.l.length≤1000):Calls Tryz.prog 59 #[.pointer (some ⟨p,0,none⟩),v] w fun e w'=> e=.returned (.tuple #[.int .i64 (kS S l).1,.bool (kS S l).2])∧Below w.heap.size w w':=by
 obtain ⟨q,G,hq,hF⟩:=h
 have HW:=Lib.hid (bQ hq.r)
 have HB:=Lib.hid hb.rd
 have HL:=Lib.hid hl
 obtain ⟨N,hN⟩:∃x,x=kS S l:=⟨_,rfl⟩
 rw [←hN]
 have HN:=Lib.hid hN
 by_cases h9:l.length=9
 ·rw [h9] at HB
  obtain ⟨av,cv,rfl,hc1,hc2,_,hc⟩:=HB.out
  obtain ⟨b,o,rfl,hblt,hcell⟩:=hc (by decide)
  have c0:=hcell 0 (by decide)
  rw [Nat.add_zero] at c0
  by_cases h0:bf l 0=247
  ·rw [h0] at c0
   obtain ⟨a',_,hr,hrd⟩:=Rd.cut (P:=Tryz.prog) Tryz.underlying23 Tryz.info5 (some ⟨b,o,none⟩) 9 cv 1 9 (by decide) (Nat.le_refl _) hc1
   have HT:Hid (Rd .u8 w (.slice a' 8 (cv - 1)) 8 (pG l)):=Lib.hid ((hrd w _ HB.out).2)
   have hr:∀w,(Instr.sliceAt 23 (.slice (some ⟨b,o,none⟩) 9 cv) (some (.int .i64 1)) none none).run Tryz.prog w=.ok (.slice a' 8 (cv - 1)) w:=hr
   obtain ⟨C,hC⟩:∃C,C=cv - 1:=⟨_,rfl⟩
   rw [←hC] at HT hr
   have Av:=Lib.hid hr
   have Dc:Hid (∀i,i<8→0≤pG l i∧pG l i<256):=Lib.hid fun i hi=> hb.ok.at _ (by omega)
   obtain ⟨E,hE⟩:∃x,x=dM (pG l) 8:=⟨_,rfl⟩
   obtain ⟨X,hX⟩:∃x,x=bL (pG l) 8:=⟨_,rfl⟩
   have HG:=Lib.hid (fun w1 h=> xQ (.slice a' 8 C) 8 (pG l) w1 h Dc.out)
   rw [←hE,←hX] at HG
   have HST:=Lib.hid hq.st
   have cp:=hq.r.cp
   have HR:=Lib.hid hq.r
   have hne:((247:Int) !=247)=false:=rfl
   have hE0:N=if E=0∧X<S.l.length then (X,true) else (0,false):=by
    rw [hN]
    unfold kS bC
    by_cases hc:E=0∧X<S.l.length
    ·have h0':0≤bL (pG l) 8:=dY fun i hi=> (Dc.out i hi).1
     rw [if_pos ⟨h9,h0,hE▸hc.1,hX▸hc.2⟩,if_pos hc]
     simp only [hX]
     rw [Int.toNat_of_nonneg h0']
    ·rw [if_neg (fun h=> hc ⟨hE.trans h.2.2.1,by rw [hX];exact h.2.2.2⟩),if_neg hc]
   have wX:=Lib.hid hE0
   have hr:=Av.out
   clear hE0 hE hX hC hrd hc hcell hN hF hq hb hl h0
   go_enter Tryz.func59,Tryz.ntmps59
   go_wp2_with fail
   refine HW.out.mono ?_
   rintro e w1 ⟨rfl,rfl⟩
   go_wp2_with fail
   refine (HG.out _ HT.out).mono ?_
   rintro e w2 ⟨rfl,b2⟩
   have FM:=Lib.hid (HST.out.below b2)
   have cp:=(HR.out.below b2).cp
   have B2:=Lib.hid b2
   clear b2
   by_cases e0:E=0
   ·subst e0
    have hz:((0:Int) !=0)=false:=rfl
    go_wp2_with fail
    refine (uE FM.out).mono ?_
    rintro e w3 ⟨rfl,rfl⟩
    by_cases hx:X<S.l.length
    ·have hg:decide ((S.l.length:Int)≤X)=false:=decide_eq_false (by omega)
     have HE:Hid (N=(X,true)):=Lib.hid (by rw [wX.out,if_pos ⟨by trivial,hx⟩])
     clear hx
     go_wp2
     go_ret2
     rw [HE.out]
     exact ⟨rfl,B2.out⟩
    ·have hg:decide ((S.l.length:Int)≤X)=true:=decide_eq_true (by omega)
     have HE:Hid (N=(0,false)):=Lib.hid (by rw [wX.out,if_neg (fun h=> hx h.2)])
     clear hx
     go_wp2
     go_ret2
     rw [HE.out]
     exact ⟨rfl,B2.out⟩
   ·have hz:(E !=0)=true:=by simpa using e0
    have HE:Hid (N=(0,false)):=Lib.hid (by rw [wX.out,if_neg (fun h=> e0 h.1)])
    clear e0
    go_wp2
    go_ret2
    rw [HE.out]
    exact ⟨rfl,B2.out⟩
  ·have HE:Hid (N=(0,false)):=Lib.hid (by rw [HN.out];unfold kS bC;rw [if_neg (fun h=> h0 h.2.1)])
   have hne:((bf l 0) !=247)=true:=by simpa using h0
   clear hc hcell hN hF hq hb hl h0
   go_enter Tryz.func59,Tryz.ntmps59
   go_wp2_with fail
   refine HW.out.mono ?_
   rintro e w1 ⟨rfl,rfl⟩
   go_wp2
   go_ret2
   rw [HE.out]
   exact ⟨rfl,Below.refl _ _⟩
 ·have HE:Hid (N=(0,false)):=Lib.hid (by rw [HN.out];unfold kS bC;rw [if_neg (fun h=> h9 h.1)])
  obtain ⟨av,cv,rfl,hc1,hc2,_,hc⟩:=HB.out
  have KP:((l.length:Int) !=9)=true:=by simp;omega
  clear hc hN hF hq hb hl h9
  go_enter Tryz.func59,Tryz.ntmps59
  go_wp2_with fail
  refine HW.out.mono ?_
  rintro e w1 ⟨rfl,rfl⟩
  go_wp2
  go_ret2
  rw [HE.out]
  exact ⟨rfl,Below.refl _ _⟩
theorem ze {P:Program} {o:Oper} {a:Act} {w:World} {K:Act→World→Prop} {Q:Exit→Act→World→Prop} (x:Operand) (d:Nat) (hop:o.op=.assign x) (hd:o.dst=some d) (h:K (a.put (some d) (a.eval x)) w):o.wp P a w K Q:=by
 rw [←hd] at h
 unfold Oper.wp execOp
 simp only [hop]
 exact h
theorem iU {P:Program} {fn:Func} {p q r:Tmp} {T:TypeId} (h:fn.results=#[.tmp p,.cell q T,.tmp r]) (tmps:Array Value) (w:World) (k:IntKind) (b n:Nat) (f:Nat→Int) {d:TypeDesc}
  (hp:tmps.getD q undef=.pointer (some ⟨b,0,none⟩)) (ha:dH k w b n f) (hu:P.underlying T=some d) (hd:xZ d=true) (hi:(P.info? T).map (·.size)=some n):
  (results fn tmps).run P w=.ok (.tuple #[tmps.getD p undef,.agg (arr k n f),tmps.getD r undef]) w:=by
 obtain ⟨t,ht⟩:=ha
 have hp':tmps[q]?.getD undef=.pointer (some ⟨b,0,none⟩):=by simpa using hp
 simp [results,h,hp',asAddr,run_loadVar_row w b t T (arr k n f) (0,0) _ ht hu (by cases d<;> first | rfl | cases hd) (by rw [hi,gY])]
theorem dw {l:List Tm} {n:Nat} (h:n<l.length):l[n]? =some (dx l n):=by
 unfold dx
 rw [List.getD_eq_getElem?_getD,List.getElem?_eq_getElem h]
 rfl
theorem vF {S:TS} {l:List Int} {n:Nat} (hb:okB l) (h:bC S l=some n):jh S (n:Int)=(dx S.l n,true):=gV (dw (cZ hb h))
theorem Tryz.size96:(Tryz.prog.info? 96).map (·.size)=some 3:=Tryz.sizeTm
theorem fG (h:fA B w p F S) (hb:aT F w v l) (hl:S.l.length≤1000):Calls Tryz.prog 76 #[.pointer (some ⟨p,0,none⟩),v] w fun e w'=> e=.returned (.tuple #[.int .i64 (kR S l).1,pX (kR S l).2.1,.int .i64 (kR S l).2.2])∧Below w.heap.size w w':=by
 have Km:=Lib.hid (fun w1 (b1:Below w.heap.size w w1)=> mo (h.below b1) (hb.below b1) hl)
 have qO:=Lib.hid hb.ok
 obtain ⟨q,G,hq,hF⟩:=h
 have HQ:=Lib.hid hq
 obtain ⟨N,hN⟩:∃x,x=kR S l:=⟨_,rfl⟩
 rw [←hN]
 have HN:=Lib.hid hN
 obtain ⟨av,cv,rfl,_⟩:=hb.rd
 clear hN hq hF hb hl
 go_enter Tryz.func76,Tryz.ntmps76
 go_upto_region 1 with (fail)
 refine aI (fun w1=> dH .i64 w1 w.heap.size 3 (fun _=> 0)∧Below w.heap.size w w1) ⟨dH.newAt rfl (by rfl),(Below.refl _ _).alloc (Nat.le_refl _) _⟩ ?_
 rintro w1 ⟨hA1,b1⟩
 go_wp2_with fail
 refine (Km.out w1 b1).mono ?_
 rintro e w2 ⟨rfl,b2⟩
 replace hA1:=hA1.kept b2
 replace b1:=b1.trans (b2.mono b1.size)
 clear b2
 cases hm:bC S l with
 | none=>
  have HE:Hid (N=(0,(0,0,0),11)):=Lib.hid (by rw [HN.out];unfold kR;rw [hm])
  rw [show kS S l=(0,false) from by unfold kS;rw [hm]]
  clear hm
  have HA:=Lib.hid hA1
  have B1:=Lib.hid b1
  clear hA1 b1
  go_wp2_with (refine lG rfl 96 _ _ rfl .i64 w.heap.size 3 (fun _=> 0) (tf (0,0,0)) Tryz.sizeTm rfl rfl HA.out ?_)
  rw [HE.out]
  exact bodyPost_ret (iU rfl _ _ .i64 w.heap.size 3 _ rfl (HA.out.setRow _ _) Tryz.underlying96 rfl Tryz.sizeTm) rfl ⟨rfl,aH B1.out (Nat.le_refl _) _⟩
 | some n=>
  have HE:Hid (N=((n:Int),dx S.l n,0)):=Lib.hid (by rw [HN.out];unfold kR;rw [hm])
  have HG:=Lib.hid (vF qO.out hm)
  rw [show kS S l=((n:Int),true) from by unfold kS;rw [hm]]
  clear hm
  have HA:=Lib.hid hA1
  have B1:=Lib.hid b1
  have HST:=Lib.hid (HQ.out.st.below b1)
  have cp:=(HQ.out.r.below b1).cp
  clear hA1 b1
  go_wp2_with fail
  refine (nV HST.out n).mono ?_
  rw [HG.out]
  rintro e w3 ⟨rfl,b3⟩
  have HA:=Lib.hid (HA.out.kept b3)
  have B3:=Lib.hid (B1.out.trans (b3.mono B1.out.size))
  clear b3 cp
  obtain ⟨t,ht⟩:∃t,t=dx S.l n:=⟨_,rfl⟩
  rw [←ht] at HE ⊢
  clear ht
  have eB:Hid (w.heap.size<w3.heap.size):=Lib.hid HA.out.lt
  go_upto_region 5 with (refine lG rfl 96 _ _ rfl .i64 w3.heap.size 3 (fun _=> 0) (tf t) Tryz.sizeTm rfl rfl (dH.newAt rfl (by rfl)) ?_)
  refine aI (fun w4=> dH .i64 w4 w.heap.size 3 (fun _=> 0)∧dH .i64 w4 w3.heap.size 3 (tf t)∧Below w.heap.size w w4) ⟨(HA.out.alloc _).iN _ (Nat.ne_of_lt eB.out) _,(show dH .i64 (w3.alloc (.cells #[.int .i64 0,.int .i64 0,.int .i64 0] 96)) w3.heap.size 3 (fun _=> 0) from dH.newAt rfl (by rfl)).setRow 3 (tf t),aH (B3.out.alloc B3.out.size _) B3.out.size _⟩ ?_
  rintro w4 ⟨h4,h5,hbel⟩
  have hlt:=eB.out
  obtain ⟨N3,Hr⟩:∃x,x=w3.heap.size:=⟨_,rfl⟩
  rw [←Hr] at hlt h5 ⊢
  clear Hr
  refine kP (n:=31) 4 rfl (by decide) (by kernel_rfl) (by kernel_rfl) (by kernel_rfl) (by kernel_rfl) rfl
   (fun ii vv ww=> (match ii with | 0 | 2=> vv=.int .i64 ((n:Int)) | 1=> vv=.agg (arr .i64 3 (tf t)) | _=> True)∧(ii=3→dH .i64 ww (w.heap.size) 3 (tf t))) 3
   (fun b ww=> (dH .i64 ww (N3) 3 (tf t)∧Below w.heap.size w ww)∧(b=false→dH .i64 ww ((w.heap.size)) 3 (fun _=> 0))) ⟨⟨h5.drew,hbel.drew⟩,fun _=> h4.drew⟩
   (fun i ww w'=> match i with | 3=> ((dH .i64 ww (N3) 3 (tf t)∧Below w.heap.size w ww)→(dH .i64 w' (N3) 3 (tf t)∧Below w.heap.size w w')) | _=> Below ww.heap.size ww w') ?_ ?_ ?_ ?_ rfl ?_ ?_
  ·intro i ww;(try dsimp only);split
   ·exact id
   ·exact Below.refl _ _
  ·intro i b ww w' hi hR hE
   have hE':Below ww.heap.size ww w':=by (try dsimp only at hE);split at hE;(· exact absurd rfl hi);exact hE
   obtain ⟨⟨q0,qb⟩,qw⟩:=hR
   exact ⟨⟨q0.kept hE',qb.trans (hE'.mono qb.size)⟩,fun hb=> (qw hb).kept hE'⟩
  ·intro ww w' hR hE
   exact ⟨hE hR.1,fun h=> by cases h⟩
  ·intro i j b v ww w' hij hjb hR hS hE
   refine ⟨hS.1,fun e=> ?_⟩
   subst e
   have hE':Below ww.heap.size ww w':=by (try dsimp only at hE);split at hE;(· exact absurd rfl hij);exact hE
   exact (hS.2 rfl).kept hE'
  ·refine Each.all ?_
   refine ⟨?_,?_,?_,?_,(fun h=> absurd rfl h),trivial⟩
   ·intro _ b a w2 hcb hB0 hF hd
    obtain ⟨⟨h5,hbel⟩,qw⟩:=hB0
    have hB:=Below.refl w2.heap.size w2
    rw [if_pos (ay rfl)]
    exact aD _ (.inl rfl) (by simp) ⟨(hF.same 7 rfl),fun h=> absurd h (by decide)⟩
   ·intro _ b a w2 hcb hB0 hF hd
    obtain ⟨⟨h5,hbel⟩,qw⟩:=hB0
    have hB:=Below.refl w2.heap.size w2
    rw [if_pos (ay rfl)]
    exact aA (fun h=> by cases h) (mI rfl Tryz.underlying96 rfl Tryz.size96 (hF.same 9 rfl) (h5.below hB h5.lt)) ⟨rfl,fun h=> absurd h (by decide)⟩
   ·intro _ b a w2 hcb hB0 hF hd
    obtain ⟨⟨h5,hbel⟩,qw⟩:=hB0
    have hB:=Below.refl w2.heap.size w2
    rw [if_pos (ay rfl)]
    exact aD _ (.inr rfl) (by simp) ⟨((hd 0 _ rfl (aj rfl)).1),fun h=> absurd h (by decide)⟩
   ·intro _ b a w2 hcb hB0 hF hd
    obtain ⟨⟨h5,hbel⟩,qw⟩:=hB0
    have hB:=Below.refl w2.heap.size w2
    rw [if_pos (ay rfl)]
    refine eH 96 _ _ rfl .i64 ((w.heap.size)) 3 (fun _=> 0) (tf t) Tryz.size96 (hF.same 5 rfl) ((hd 1 _ rfl (aj rfl)).1) (qw (hcb rfl)) ?_
    exact ⟨_,rfl,fun _=> rfl,⟨trivial,fun _=> (qw (hcb rfl)).setRow _ _⟩,fun ⟨p0,p1⟩=> ⟨p0.iN _ (by omega) _,aH p1 (by omega) _⟩⟩
  ·intro b a w5 hB0 hF hS
   have V3:=(hS 3 _ rfl (by decide)).2 rfl
   obtain ⟨⟨h5,hbel⟩,_⟩:=hB0
   obtain ⟨xl,hxl⟩:∃x,x=a.tmps.getD 6 undef:=⟨_,rfl⟩
   have ha:=aX rfl rfl hF [_,_,_,undef,xl] rfl ⟨(hS 0 _ rfl (by decide)).1,(hS 1 _ rfl (by decide)).1,(hS 2 _ rfl (by decide)).1,trivial,hxl.symm,trivial⟩
   simp only [puts,Act.put,List.setIfInBounds_toArray,List.set_cons_succ,List.set_cons_zero] at ha
   subst ha
   clear hS hF hxl
   refine ze (.const (.int .i64 (0))) 6 rfl rfl ?_
   simp only [Act.put,List.setIfInBounds_toArray,List.set_cons_succ,List.set_cons_zero]
   have hb:=hbel
   go_wp2
   rw [HE.out]
   exact bodyPost_ret (iU rfl _ _ .i64 w.heap.size 3 _ rfl V3 Tryz.underlying96 rfl Tryz.sizeTm) rfl ⟨rfl,hb⟩
end
end Go.Proofs.YtpcjekgfnfjbpaaGreat
namespace Go.Proofs.YtpcjekgfnfjbpaaGreat
open Go.RowKit Go.aG Go.ChangeShapes Go.Maps
attribute [local go_sem ↓] Go.wp_at_zero Go.wp_at_succ
section
variable {B : Nat} {w w' w1 w2 w3 : World} {p q : Nat} {F G G' : Nat → Prop} {S S' : TS} {kd n : Int} {sd : Nat → Int} {s : Value} {v u : Value} {l : List Int}
theorem iA (h:tC B w p q G S) (hF:∀b,F b ↔ b=p∨G b) (hb:Below w.heap.size w w') (er:Int):kW B w p F (.slice none 0 0) ([],er,S) w':=
 ⟨F,⟨q,G,h.below hb,hF⟩,aT.nil _ _,.of_below hb _,fun b hb=> .inl hb⟩
theorem qc (h:tC B w p q G S) (hF:∀b,F b ↔ b=p∨G b) (hb:Below w.heap.size w w1) (h1:jw B w2 q G' S') (hc:bB G w1 w2) (hf:∀b,G' b→G b∨w1.heap.size≤b) (hw:S'.few)
  {e:TypeId} (ho:Go.aG.Own .u8 e w2.heap.size w3 u 9 (nA 1 (fun _=> 247) (kQ n))) (hb3:Below w2.heap.size w2 w3) (er:Int):kW B w p F u (aR n,er,S') w3:=by
 have hQ:=(h.below hb).put h1 hc hf hw
 refine ⟨fun b=> b=p∨G' b,⟨q,G',hQ.below hb3,fun _=> Iff.rfl⟩,aT.own ho (gH (n:=1) (m:=8) (fun _ _=> by decide) fun i _=> qx n i) fun b hb=> hQ.lt hb,?_,fun b hb'=> ?_⟩
 ·exact ((bB.of_below hb F).trans (hc.mono (G:=F) fun b _ hg=> (hF b).2 (.inr hg)) fun _ _ h=> h).trans (bB.of_below hb3 F) fun _ _ h=> h
 ·rcases hb' with rfl | hb'
  ·exact .inl ((hF b).2 (.inl rfl))
  ·exact (hf b hb').imp (fun h=> (hF b).2 (.inr h)) fun h'=> Nat.le_trans hb.size h'
theorem jR {S:TS} {n:Nat} (h:n<S.l.length):bA S.l (n:Int) 0=true:=gU.2 ⟨n,rfl,_,List.getElem?_eq_getElem h,.inl rfl⟩
theorem qz {S:TS} {k:Int} (hk:k=2∨k=3∨k=6∨k=7) {n:Nat} (h:n<S.l.length):dF S (k,(n:Int),0)=true:=by
 rcases hk with rfl | rfl | rfl | rfl
 ·rw [uT,jR h];rfl
 ·rw [uS,jR h];rfl
 ·rw [uP,jR h];rfl
 ·rw [uO,jR h];rfl
theorem rE {S:TS} {t:Tm} (h:dF S t=true):(dP S t).2=0∧0≤(dP S t).1∧(dP S t).1≤S.l.length:=by
 unfold dP
 rw [if_pos h]
 refine ⟨rfl,?_⟩
 split
 ·rename_i hin
  have:=jL hin
  simp only
  omega
 ·simp only
  omega
theorem rJ {k n m:Int} (hk:0≤k∧k≤10) (hn:0≤n∧n≤1000000) (hm:0≤m∧m≤1000000):jN (k,n,m):=⟨⟨by simp only;omega,by simp only;omega⟩,⟨by simp only;omega,by simp only;omega⟩,⟨by simp only;omega,by simp only;omega⟩⟩
theorem lF (h:fA B w p F S) (k:Int) (hk:k=2∨k=3∨k=6∨k=7) (hb:aT F w v l) (hl:S.l.length≤900):Calls Tryz.prog 91 #[.pointer (some ⟨p,0,none⟩),.int .i64 k,v] w fun e w'=> ∃u,e=.returned (.tuple #[u,.int .i64 (dJ k S l).2.1])∧kW B w p F u (dJ k S l) w':=by
 have HO:=Lib.hid (fG h hb (by omega))
 have qO:=Lib.hid hb.ok
 obtain ⟨q,G,hq,hF⟩:=h
 have HQ:=Lib.hid hq
 have HF:=Lib.hid hF
 have HK:=Lib.hid hk
 have HL:=Lib.hid hl
 obtain ⟨R,hR⟩:∃x,x=dJ k S l:=⟨_,rfl⟩
 rw [←hR]
 have HR:=Lib.hid hR
 obtain ⟨av,cv,rfl,_⟩:=hb.rd
 clear hR hq hF hb hl hk
 go_enter Tryz.func91,Tryz.ntmps91
 go_wp2_with fail
 refine HO.out.mono ?_
 rintro e w1 ⟨rfl,b1⟩
 have B1:=Lib.hid b1
 clear b1
 obtain ⟨A,hA⟩:∃x,x=kR S l:=⟨_,rfl⟩
 rw [←hA]
 have HA:=Lib.hid hA
 clear hA
 go_upto_region 2 with (fail)
 refine aI (fun w2=> Below w.heap.size w w2) (B1.out.alloc B1.out.size _) ?_
 rintro w2 b2
 have B2:=Lib.hid b2
 clear b2
 cases hm:bC S l with
 | none=>
  have HE:Hid (R=([],11,S)):=Lib.hid (by rw [HR.out];unfold dJ;rw [hm])
  obtain rfl:A=(0,(0,0,0),11):=by rw [HA.out];unfold kR;rw [hm]
  clear hm HA
  go_wp2
  go_ret2
  rw [HE.out]
  exact ⟨_,rfl,iA HQ.out HF.out B2.out 11⟩
 | some m=>
  have HN:=Lib.hid (cZ qO.out hm)
  have HE:Hid (R=(aR (dP S (k,m,0)).1,0,S.put (k,m,0))):=Lib.hid (by rw [HR.out];unfold dJ;rw [hm])
  obtain ⟨t,ht⟩:∃t,t=dx S.l m:=⟨_,rfl⟩
  obtain rfl:A=((m:Int),t,0):=by rw [HA.out,ht];unfold kR;rw [hm]
  clear hm HA ht
  have HP:=Lib.hid (rE (qz HK.out HN.out))
  have tJ:Hid (jN (k,(m:Int),0)):=Lib.hid (rJ (by have:=HK.out;omega) (by have:=HN.out;have:=HL.out;omega) (by omega))
  have cp:=(HQ.out.r.below B2.out).cp
  go_wp2_with fail
  refine (nU (HQ.out.st.below B2.out) (HQ.out.below B2.out).hB _ tJ.out (by have:=HL.out;omega)).mono ?_
  rintro e w3 ⟨rfl,G3,h3,c3,f3⟩
  rw [HP.out.1]
  obtain ⟨X,hX⟩:∃X,X=(dP S (k,(m:Int),0)).1:=⟨_,rfl⟩
  rw [←hX] at HP HE ⊢
  have HX:=Lib.hid HP.out.2
  have H3:=Lib.hid h3
  have C3:=Lib.hid c3
  have F3:=Lib.hid f3
  have HW:Hid ((S.put (k,(m:Int),0)).few):=Lib.hid (HQ.out.few.put (by have:=HK.out;simp only;omega))
  clear hX h3 c3 f3 cp HP
  go_wp2_with fail
  refine (eO X HX.out.1 (by have:=HX.out.2;have:=HL.out;omega) w3).mono ?_
  rintro e w4 ⟨u,rfl,hu,b4⟩
  have HD:=Lib.hid (qc HQ.out HF.out B2.out H3.out C3.out F3.out HW.out hu b4 0)
  clear hu b4
  go_wp2
  go_ret2
  rw [HE.out]
  exact ⟨_,rfl,HD.out⟩
theorem Ct {S:TS} {n:Nat} {k:Int} (h:n<S.l.length) (hk:lQ S n=k):bA S.l (n:Int) k=true:=gU.2 ⟨n,rfl,_,dw h,.inr hk⟩
theorem uN {S:TS} {k:Int} {n m:Nat} (hk:(k=4∧lQ S n=2)∨k=5) (h:n<S.l.length) (h':m<S.l.length):dF S (k,(n:Int),(m:Int))=true:=by
 rcases hk with ⟨rfl,h2⟩ | rfl
 ·rw [uR,Ct h h2,jR h'];rfl
 ·rw [uQ,jR h,jR h'];rfl
theorem sI {v':Value} {l':List Int} (h:fA B w p F S) (k:Int) (hk:k=4∨k=5) (hb:aT F w v l) (hb':aT F w v' l') (hl:S.l.length≤900):Calls Tryz.prog 67 #[.pointer (some ⟨p,0,none⟩),.int .i64 k,v,v'] w fun e w'=> ∃u,e=.returned (.tuple #[u,.int .i64 (fO k S l l').2.1])∧kW B w p F u (fO k S l l') w':=by
 have HO:=Lib.hid (fG h hb (by omega))
 have Df:=Lib.hid (fun w1 (b1:Below w.heap.size w w1)=> fG (h.below b1) (hb'.below b1) (by omega))
 have qO:=Lib.hid hb.ok
 have Aw:=Lib.hid hb'.ok
 obtain ⟨q,G,hq,hF⟩:=h
 have HQ:=Lib.hid hq
 have HF:=Lib.hid hF
 have HK:=Lib.hid hk
 have HL:=Lib.hid hl
 obtain ⟨R,hR⟩:∃x,x=fO k S l l':=⟨_,rfl⟩
 rw [←hR]
 have HR:=Lib.hid hR
 obtain ⟨av,cv,rfl,_⟩:=hb.rd
 obtain ⟨DY,cv',rfl,_⟩:=hb'.rd
 clear hR hq hF hb hb' hl hk
 go_enter Tryz.func67,Tryz.ntmps67
 go_wp2_with fail
 refine HO.out.mono ?_
 rintro e w1 ⟨rfl,b1⟩
 have B1:=Lib.hid b1
 clear b1
 obtain ⟨A,hA⟩:∃x,x=kR S l:=⟨_,rfl⟩
 rw [←hA]
 have HA:=Lib.hid hA
 clear hA
 go_upto_region 2 with (fail)
 refine aI (fun w2=> w2.cell? ⟨w1.heap.size,0,none⟩=some (.int .i64 A.2.1.1)∧Below w.heap.size w w2) ⟨cell_of_row _ _ 0 _ _ (0,0) (heap_alloc_new w1 _),B1.out.alloc B1.out.size _⟩ ?_
 rintro w2 ⟨c0,b2⟩
 have B2:=Lib.hid b2
 clear b2
 cases hm:bC S l with
 | none=>
  have HE:Hid (R=([],11,S)):=Lib.hid (by rw [HR.out];unfold fO;rw [hm])
  obtain rfl:A=(0,(0,0,0),11):=by rw [HA.out];unfold kR;rw [hm]
  clear hm HA
  go_wp2
  go_ret2
  rw [HE.out]
  exact ⟨_,rfl,iA HQ.out HF.out B2.out 11⟩
 | some n=>
  have HN:=Lib.hid (cZ qO.out hm)
  have HM:=Lib.hid hm
  obtain ⟨t,ht⟩:∃t,t=dx S.l n:=⟨_,rfl⟩
  obtain rfl:A=((n:Int),t,0):=by rw [HA.out,ht];unfold kR;rw [hm]
  have HT:=Lib.hid ht
  have Ef:Hid (lQ S n=t.1):=Lib.hid (by rw [ht];rfl)
  clear hm HA ht
  by_cases hbad:k=4∧t.1≠2
  ·obtain ⟨rfl,h2⟩:=hbad
   have HE:Hid (R=([],11,S)):=Lib.hid (by
    rw [HR.out];unfold fO;rw [HM.out]
    cases bC S l' with
    | none=> rfl
    | some m=> exact if_pos ⟨rfl,by rw [Ef.out];exact h2⟩)
   have h2':(t.1 !=2)=true:=by simpa using h2
   clear h2
   go_wp2
   go_ret2
   rw [HE.out]
   exact ⟨_,rfl,iA HQ.out HF.out B2.out 11⟩
  ·have hc:(k=4∧(t.1 !=2)=false)∨(k=5∧((5:Int)==4)=false):=by
    rcases HK.out with rfl | rfl
    ·exact .inl ⟨rfl,by by_cases e:t.1=2;(· simpa using e);exact absurd ⟨rfl,e⟩ hbad⟩
    ·exact .inr ⟨rfl,rfl⟩
   have HKK:Hid ((k=4∧lQ S n=2)∨k=5):=Lib.hid (hc.imp (fun h=> ⟨h.1,by rw [Ef.out];simpa using h.2⟩) fun h=> h.1)
   have FY:Hid (∀m:Nat,m<S.l.length→dF S (k,(n:Int),(m:Int))=true):=Lib.hid fun m hm=> uN HKK.out HN.out hm
   have FP:Hid (∀m:Nat,bC S l'=some m→R=(aR (dP S (k,n,m)).1,0,S.put (k,n,m))):=Lib.hid fun m hm=> by
    rw [HR.out];unfold fO;rw [HM.out,hm]
    exact if_neg (by rw [Ef.out];exact hbad)
   have tJ:Hid (∀m:Nat,m<S.l.length→jN (k,(n:Int),(m:Int))):=Lib.hid fun m hm=> rJ (by have:=HK.out;omega) (by have:=HN.out;have:=HL.out;omega) (by have:=HL.out;omega)
   have FZ:Hid (k≠1):=Lib.hid (by have:=HK.out;omega)
   have Iy:Hid (bC S l'=none→R=([],11,S)):=Lib.hid fun hm=> by rw [HR.out];unfold fO;rw [HM.out,hm]
   clear hbad HKK HK HR Ef
   rcases hc with ⟨rfl,h2⟩ | ⟨rfl,h2⟩
   all_goals
    go_wp2_with fail
    refine (Df.out w2 B2.out).mono ?_
    rintro e w3 ⟨rfl,b3⟩
    have B3:=Lib.hid (B2.out.trans (b3.mono B2.out.size))
    clear b3 c0 h2
    obtain ⟨A,hA⟩:∃x,x=kR S l':=⟨_,rfl⟩
    rw [←hA]
    have HA:=Lib.hid hA
    clear hA
    go_upto_region 5 with (fail)
    refine aI (fun w4=> Below w.heap.size w w4) (B3.out.alloc B3.out.size _) ?_
    rintro w4 b4
    have B4:=Lib.hid b4
    clear b4
    cases hm:bC S l' with
    | none=>
     have HE:Hid (R=([],11,S)):=Lib.hid (Iy.out hm)
     obtain rfl:A=(0,(0,0,0),11):=by rw [HA.out];unfold kR;rw [hm]
     clear hm HA
     go_wp2
     go_ret2
     rw [HE.out]
     exact ⟨_,rfl,iA HQ.out HF.out B4.out 11⟩
    | some m=>
     have HE:=Lib.hid (FP.out m hm)
     have Dl:=Lib.hid (cZ Aw.out hm)
     have tJ:=Lib.hid (tJ.out m Dl.out)
     have HP:=Lib.hid (rE (FY.out m Dl.out))
     obtain ⟨t',ht'⟩:∃t,t=dx S.l m:=⟨_,rfl⟩
     obtain rfl:A=((m:Int),t',0):=by rw [HA.out,ht'];unfold kR;rw [hm]
     clear hm HA ht'
     have cp:=(HQ.out.r.below B4.out).cp
     go_wp2_with fail
     refine (nU (HQ.out.st.below B4.out) (HQ.out.below B4.out).hB _ tJ.out (by have:=HL.out;omega)).mono ?_
     rintro e w5 ⟨rfl,G3,h3,c3,f3⟩
     rw [HP.out.1]
     have HW:=Lib.hid (HQ.out.few.put (t:=(_,(n:Int),(m:Int))) FZ.out)
     have HX:=Lib.hid HP.out.2
     have H3:=Lib.hid h3
     have C3:=Lib.hid c3
     have F3:=Lib.hid f3
     clear HP h3 c3 f3 cp
     generalize dP S (_,(n:Int),(m:Int))=PA at HX HE ⊢
     obtain ⟨X,er⟩:=PA
     simp only at HX HE ⊢
     go_wp2_with fail
     refine (eO X HX.out.1 (by have:=HX.out.2;have:=HL.out;omega) w5).mono ?_
     rintro e w6 ⟨u,rfl,hu,b4⟩
     have HD:=Lib.hid (qc HQ.out HF.out B4.out H3.out C3.out F3.out HW.out hu b4 0)
     clear hu b4
     go_wp2
     go_ret2
     rw [HE.out]
     exact ⟨_,rfl,HD.out⟩
end
end Go.Proofs.YtpcjekgfnfjbpaaGreat
namespace Go.Proofs.YtpcjekgfnfjbpaaGreat
open Go.RowKit Go.aG Go.ChangeShapes Go.Maps
attribute [local go_sem ↓] Go.wp_at_zero Go.wp_at_succ
section
variable {B : Nat} {w w' w1 w2 w3 : World} {p q : Nat} {F G G' : Nat → Prop} {S S' : TS} {kd n : Int} {sd : Nat → Int} {s : Value} {v u v' : Value} {l l' : List Int}
theorem sJ (h:fA B w p F S) (s:Int) (hl:S.l.length≤900):Calls Tryz.prog 26 #[.pointer (some ⟨p,0,none⟩),.int .i64 s] w fun e w'=> ∃u,e=.returned (.tuple #[u,.int .i64 (fJ S s).2.1])∧kW B w p F u (fJ S s) w':=by
 obtain ⟨q,G,hq,hF⟩:=h
 have HQ:=Lib.hid hq
 have HF:=Lib.hid hF
 have HL:=Lib.hid hl
 have HW:=Lib.hid (bQ hq.r)
 obtain ⟨R,hR⟩:∃x,x=fJ S s:=⟨_,rfl⟩
 rw [←hR]
 have HR:=Lib.hid hR
 have ck:=hq.r.ck
 have cp:=hq.r.cp
 clear hR hq hF hl
 by_cases hs:1≤s∧s≤4
 ·have HS:Hid (isSort s=true):=Lib.hid (by unfold isSort;rw [decide_eq_true hs.1,decide_eq_true hs.2];rfl)
  have HN:Hid (iV S.l s≤dO):=Lib.hid (by have:=HQ.out.few s;have:=HL.out;unfold dO;omega)
  have HE:Hid (R=(aR S.l.length,0,S.draw s)):=Lib.hid (by rw [HR.out];unfold fJ;rw [if_pos HS.out])
  have HA:Hid (iW S s=((S.l.length:Int),0)):=Lib.hid (by unfold iW;rw [if_pos HS.out,if_pos HN.out])
  have h1:decide (s<1)=false:=decide_eq_false (by omega)
  have h2:decide (4<s)=false:=decide_eq_false (by omega)
  clear hs
  go_enter Tryz.func26,Tryz.ntmps26
  go_wp2_with fail
  refine HW.out.mono ?_
  rintro e w1 ⟨rfl,rfl⟩
  go_wp2_with fail
  refine (sG HQ.out.st HQ.out.hB s (by have:=HL.out;omega)).mono ?_
  rw [HA.out]
  rintro e w2 ⟨rfl,G3,h3,c3,f3⟩
  have H3:=Lib.hid h3
  have C3:=Lib.hid c3
  have F3:=Lib.hid f3
  clear h3 c3 f3 ck cp
  go_wp2_with fail
  refine (eO (S.l.length:Int) (by omega) (by have:=HL.out;omega) w2).mono ?_
  rintro e w4 ⟨u,rfl,hu,b4⟩
  have HD:=Lib.hid (qc HQ.out HF.out (Below.refl _ _) H3.out C3.out F3.out (HQ.out.few.draw s) hu b4 0)
  clear hu b4
  go_wp2
  go_ret2
  rw [HE.out]
  exact ⟨_,rfl,HD.out⟩
 ·have HE:Hid (R=([],2,S)):=Lib.hid (by
   rw [HR.out];unfold fJ;rw [if_neg]
   intro h
   simp only [isSort,Bool.and_eq_true,decide_eq_true_eq] at h
   exact hs h)
  by_cases h1:s<1
  ·have h1':decide (s<1)=true:=decide_eq_true h1
   clear hs h1 cp
   go_enter Tryz.func26,Tryz.ntmps26
   go_wp2_with fail
   refine HW.out.mono ?_
   rintro e w1 ⟨rfl,rfl⟩
   go_wp2
   go_ret2
   rw [HE.out]
   exact ⟨_,rfl,iA HQ.out HF.out (Below.refl _ _) 2⟩
  ·have h1':decide (s<1)=false:=decide_eq_false h1
   have h2':decide (4<s)=true:=decide_eq_true (by omega)
   clear hs h1 cp
   go_enter Tryz.func26,Tryz.ntmps26
   go_wp2_with fail
   refine HW.out.mono ?_
   rintro e w1 ⟨rfl,rfl⟩
   go_wp2
   go_ret2
   rw [HE.out]
   exact ⟨_,rfl,iA HQ.out HF.out (Below.refl _ _) 2⟩
theorem nX (h:fA B w p F S) (hb:aT F w v l) (hl:S.l.length≤900):Calls Tryz.prog 33 #[.pointer (some ⟨p,0,none⟩),v] w fun e w'=> ∃u,e=.returned (.tuple #[u,.int .i64 (dJ 2 S l).2.1])∧kW B w p F u (dJ 2 S l) w':=by
 have HC:=Lib.hid (lF h 2 (by decide) hb hl)
 have HW:Hid (Calls Tryz.prog 63 #[.pointer (some ⟨p,0,none⟩)] w fun e w'=> e=.returned (.int .i64 2)∧w'=w):=Lib.hid (by obtain ⟨q,G,hq,_⟩:=h;exact bQ hq.r)
 obtain ⟨R,hR⟩:∃x,x=dJ 2 S l:=⟨_,rfl⟩
 rw [←hR] at HC ⊢
 obtain ⟨av,cv,rfl,_⟩:=hb.rd
 clear hR h hb hl
 go_enter Tryz.func33,Tryz.ntmps33
 go_wp2_with fail
 refine HW.out.mono ?_
 rintro e w1 ⟨rfl,rfl⟩
 go_wp2_with fail
 refine HC.out.mono ?_
 rintro e w2 ⟨u,rfl,hR⟩
 have HR:=Lib.hid hR
 clear hR
 go_wp2
 go_ret2
 exact ⟨u,rfl,HR.out⟩
theorem kL (h:fA B w p F S) (hb:aT F w v l) (hl:S.l.length≤900):Calls Tryz.prog 34 #[.pointer (some ⟨p,0,none⟩),v] w fun e w'=> ∃u,e=.returned (.tuple #[u,.int .i64 (dJ 3 S l).2.1])∧kW B w p F u (dJ 3 S l) w':=by
 have HC:=Lib.hid (lF h 3 (by decide) hb hl)
 have HW:Hid (Calls Tryz.prog 63 #[.pointer (some ⟨p,0,none⟩)] w fun e w'=> e=.returned (.int .i64 2)∧w'=w):=Lib.hid (by obtain ⟨q,G,hq,_⟩:=h;exact bQ hq.r)
 obtain ⟨R,hR⟩:∃x,x=dJ 3 S l:=⟨_,rfl⟩
 rw [←hR] at HC ⊢
 obtain ⟨av,cv,rfl,_⟩:=hb.rd
 clear hR h hb hl
 go_enter Tryz.func34,Tryz.ntmps34
 go_wp2_with fail
 refine HW.out.mono ?_
 rintro e w1 ⟨rfl,rfl⟩
 go_wp2_with fail
 refine HC.out.mono ?_
 rintro e w2 ⟨u,rfl,hR⟩
 have HR:=Lib.hid hR
 clear hR
 go_wp2
 go_ret2
 exact ⟨u,rfl,HR.out⟩
theorem sH (h:fA B w p F S) (hb:aT F w v l) (hb':aT F w v' l') (hl:S.l.length≤900):Calls Tryz.prog 13 #[.pointer (some ⟨p,0,none⟩),v,v'] w fun e w'=> ∃u,e=.returned (.tuple #[u,.int .i64 (fO 4 S l l').2.1])∧kW B w p F u (fO 4 S l l') w':=by
 have HC:=Lib.hid (sI h 4 (by decide) hb hb' hl)
 have HW:Hid (Calls Tryz.prog 63 #[.pointer (some ⟨p,0,none⟩)] w fun e w'=> e=.returned (.int .i64 2)∧w'=w):=Lib.hid (by obtain ⟨q,G,hq,_⟩:=h;exact bQ hq.r)
 obtain ⟨R,hR⟩:∃x,x=fO 4 S l l':=⟨_,rfl⟩
 rw [←hR] at HC ⊢
 obtain ⟨av,cv,rfl,_⟩:=hb.rd
 obtain ⟨DY,cv',rfl,_⟩:=hb'.rd
 clear hR h hb hb' hl
 go_enter Tryz.func13,Tryz.ntmps13
 go_wp2_with fail
 refine HW.out.mono ?_
 rintro e w1 ⟨rfl,rfl⟩
 go_wp2_with fail
 refine HC.out.mono ?_
 rintro e w2 ⟨u,rfl,hR⟩
 have HR:=Lib.hid hR
 clear hR
 go_wp2
 go_ret2
 exact ⟨u,rfl,HR.out⟩
end
end Go.Proofs.YtpcjekgfnfjbpaaGreat
namespace Go.Proofs.YtpcjekgfnfjbpaaGreat
open Go.RowKit Go.aG Go.ChangeShapes Go.Maps
attribute [local go_sem ↓] Go.wp_at_zero Go.wp_at_succ
section
variable {B : Nat} {w w' w1 w2 w3 : World} {p q : Nat} {F G G' : Nat → Prop} {S S' : TS} {kd n : Int} {sd : Nat → Int} {s : Value} {v u v' : Value} {l l' : List Int}
theorem fA.which (h:fA B w p F S):Calls Tryz.prog 63 #[.pointer (some ⟨p,0,none⟩)] w fun e w'=> e=.returned (.int .i64 2)∧w'=w:=by obtain ⟨q,G,hq,_⟩:=h;exact bQ hq.r
theorem rO (h:S.Ok) {m:Nat} (hm:m<S.l.length) (hk:lQ S m=4∨lQ S m=5∨lQ S m=8):∃b:Nat,(dx S.l m).2.2=b∧b<m:=by
 have:=h.ok m _ (dw hm)
 unfold lQ at hk
 rcases this with h | h | ⟨_,_,b,h1,h2⟩ | ⟨_,_,b,h1,h2⟩ | ⟨_,_,b,h1,h2,_⟩ | h | h
 ·omega
 ·omega
 ·exact ⟨b,h1,h2⟩
 ·exact ⟨b,h1,h2⟩
 ·exact ⟨b,h1,h2⟩
 ·omega
 ·omega
theorem oJ (h:bC S l=none):kR S l=(0,(0,0,0),11):=by unfold kR;rw [h]
theorem oI {n:Nat} (h:bC S l=some n):kR S l=((n:Int),dx S.l n,0):=by unfold kR;rw [h]
end
end Go.Proofs.YtpcjekgfnfjbpaaGreat
