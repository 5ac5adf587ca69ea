/-
  Part 19 of the texts that the proof of EscrowWrong rests on, one after the other. Conditions: named in each theorem.
-/
import Derived.Test.YtpcjekgfnfjbpaaGreatPkEscrowWrong17
import Derived.Test.YtpcjekgfnfjbpaaGreatPkEscrowWrong18
set_option linter.unusedVariables false
set_option linter.unusedSimpArgs false
set_option maxRecDepth 100000
set_option maxHeartbeats 1600000
namespace Go.Proofs.YtpcjekgfnfjbpaaGreat
open Go.RowKit Go.aG Go.ChangeShapes Go.Maps
attribute [local go_sem ↓] Go.wp_at_zero Go.wp_at_succ
section
variable {B : Nat} {w w' : World} {p mb mt : Nat} {vl vb : Value} {tv : Nat → Value} {S : TS}
theorem sG {F:Nat→Prop} (h:jw B w p F S) (hB:B≤w.heap.size) (s:Int) (hl:S.l.length≤1000):
  Calls Tryz.prog 79 #[.pointer (some ⟨p,0,none⟩),.int .i64 s] w fun e w'=> e=.returned (.tuple #[.int .i64 (iW S s).1,.int .i64 (iW S s).2])∧∃F',jw B w' p F' (S.draw s)∧bB F w w'∧∀b,F' b→F b∨w.heap.size≤b:=by
 obtain ⟨mb,mt,vl,vb,tv,h1,h2,h3⟩:=h
 have H:=Lib.hid h1
 have qO:=Lib.hid h2
 have tN:=Lib.hid h3
 have DF:=Lib.hid hB
 have HL:=Lib.hid hl
 obtain ⟨PA,qH⟩:∃x,x=iW S s:=⟨_,rfl⟩
 obtain ⟨SP,hSP⟩:∃x,x=S.draw s:=⟨_,rfl⟩
 rw [←qH,←hSP]
 have qN:=Lib.hid qH
 have Aq:=Lib.hid hSP
 clear h1 h2 h3 hB hl qH hSP
 go_enter Tryz.func79,Tryz.ntmps79
 go_wp2_with fail
 refine (jm H.out).mono ?_
 rintro e w1' ⟨rfl,rfl⟩
 go_wp2_with fail
 refine (lD s _).mono ?_
 rintro e w1 ⟨rfl,rfl⟩
 cases hm:isSort s with
 | false=>
  have E1:Hid (PA=(0,2)):=Lib.hid (by rw [qN.out];unfold iW;rw [if_neg (by rw [hm];decide)])
  have E2:Hid (SP=S):=Lib.hid (by rw [Aq.out];unfold TS.draw;rw [if_neg (fun h=> by rw [hm] at h;cases h.1)])
  clear hm
  go_wp2
  go_ret2
  rw [E1.out,E2.out]
  exact ⟨rfl,F,⟨mb,mt,vl,vb,tv,H.out,qO.out,tN.out⟩,.refl _ _,fun b hb=> .inl hb⟩
 | true=>
  have hs:=hm
  simp only [isSort,Bool.and_eq_true,decide_eq_true_eq] at hs
  obtain ⟨k,rfl⟩:=Int.eq_ofNat_of_zero_le (show 0≤s by omega)
  have hk5:k<5:=by omega
  have GU:(k:Int)<5:=by omega
  have z0:=H.out.nx k hk5
  have JZ:=Lib.hid (xG S.l k)
  have Bp:=Lib.hid (jQ S.l k)
  by_cases hx:iV S.l k≤dO
  ·have E1:Hid (PA=((S.l.length:Int),0)):=Lib.hid (by rw [qN.out];unfold iW;rw [if_pos hm,if_pos hx])
   have E2:Hid (SP=S.add (1,(k:Int),iV S.l k)):=Lib.hid (by rw [Aq.out];unfold TS.draw;rw [if_pos ⟨hm,hx⟩])
   have Ay:=Lib.hid (rQ hx)
   have Ea:Hid ((S.add (1,(k:Int),iV S.l k)).Ok):=Lib.hid (qO.out.add Ay.out (.inl ⟨rfl,hs,Bp.out⟩))
   have HS:=Lib.hid hs
   have hgt:¬ (4611686018427387904:Int)<iV S.l k:=by unfold dO at hx;omega
   obtain ⟨X,hX⟩:∃X,X=iV S.l k:=⟨_,rfl⟩
   have Ik:Hid (0≤X∧X≤4611686018427387904):=Lib.hid (by rw [hX];exact ⟨Bp.out,by unfold dO at hx;exact hx⟩)
   rw [←hX] at z0 E2 Ay Ea hgt
   clear hm hs hx hX
   go_wp2_with fail
   refine (nW H.out DF.out (1,(k:Int),X) ⟨⟨by simp,by simp⟩,⟨by simp only;omega,by simp only;omega⟩,⟨by simp only;have:=Ik.out;omega,by simp only;have:=Ik.out;omega⟩⟩ Ay.out (fun _=> HS.out) HL.out).mono ?_
   rintro e w4 ⟨rfl,pF,h4,hc4,Cq⟩
   have S4:Hid (jw B w4 p (TF p mb mt pF vb S.tx.length tv) (S.add (1,(k:Int),X))):=Lib.hid ⟨mb,mt,pF,vb,tv,h4,Ea.out,fun b=> Iff.rfl⟩
   have C4:Hid (bB F w1 w4):=Lib.hid (hc4.mono (G:=F) fun b _ hb=> (tN.out b).2 (by
    rcases hb with h | h | h
    ·exact .inl h
    ·exact .inr (.inl h)
    ·exact .inr (.inr (.inr (.inl h)))))
   have F4:Hid (∀b,TF p mb mt pF vb S.tx.length tv b→F b∨w1.heap.size≤b):=Lib.hid fun b hb=> (TF.add (N:=w1.heap.size) Cq b hb).imp (tN.out b).2 id
   clear h4 hc4 Cq
   go_wp2
   go_ret2
   rw [E1.out,E2.out]
   exact ⟨rfl,_,S4.out,C4.out,F4.out⟩
  ·have E1:Hid (PA=(0,3)):=Lib.hid (by rw [qN.out];unfold iW;rw [if_pos hm,if_neg hx])
   have E2:Hid (SP=S):=Lib.hid (by rw [Aq.out];unfold TS.draw;rw [if_neg (fun h=> hx h.2)])
   have hgt:(4611686018427387904:Int)<iV S.l k:=by unfold dO at hx;omega
   clear hm hs hx
   go_wp2
   go_ret2
   rw [E1.out,E2.out]
   exact ⟨rfl,F,⟨mb,mt,vl,vb,tv,H.out,qO.out,tN.out⟩,.refl _ _,fun b hb=> .inl hb⟩
end
section
variable {B : Nat} {w w' : World} {p : Nat} {F : Nat → Prop} {S : TS}
def jh (S:TS) (n:Int):Tm × Bool:=if 0≤n then (match S.l[n.toNat]? with | some t=> (t,true) | none=> ((0,0,0),false)) else ((0,0,0),false)
theorem gV {n:Nat} {t:Tm} (h:S.l[n]? =some t):jh S n=(t,true):=by
 unfold jh
 rw [if_pos (by omega),Int.toNat_natCast,h]
theorem xR {n:Int} (h:bA S.l n 0=false):jh S n=((0,0,0),false):=by
 unfold jh
 split
 ·rename_i h0
  split
  ·rename_i t ht
   obtain ⟨a,rfl⟩:=Int.eq_ofNat_of_zero_le h0
   rw [Int.toNat_natCast] at ht
   rw [gU.2 ⟨a,rfl,t,ht,.inl rfl⟩] at h
   cases h
  ·rfl
 ·rfl
theorem nV (h:jw B w p F S) (n:Int):Calls Tryz.prog 61 #[.pointer (some ⟨p,0,none⟩),.int .i64 n] w fun e w'=> e=.returned (.tuple #[pX (jh S n).1,.bool (jh S n).2])∧Below w.heap.size w w':=by
 obtain ⟨mb,mt,vl,vb,tv,h1,h2,h3⟩:=h
 have H:=Lib.hid h1
 obtain ⟨G,hG⟩:∃x,x=jh S n:=⟨_,rfl⟩
 rw [←hG]
 have HG:=Lib.hid hG
 clear h1 h2 h3 hG
 go_enter Tryz.func61,Tryz.ntmps61
 go_upto_region 1 with (fail)
 refine aI (fun w1=> dH .i64 w1 w.heap.size 3 (fun _=> 0)∧Below w.heap.size w w1) ⟨dH.newAt rfl rfl,(Below.refl _ _).alloc (Nat.le_refl _) _⟩ ?_
 rintro w1 ⟨hA1,bb1⟩
 have HA1:=Lib.hid hA1
 have B1:=Lib.hid bb1
 have H1:=Lib.hid (H.out.below bb1)
 clear hA1 bb1
 go_wp2_with fail
 refine (jm H1.out).mono ?_
 rintro e w1' ⟨rfl,rfl⟩
 go_wp2_with fail
 refine (bF H1.out n 0).mono ?_
 rintro e w2 ⟨rfl,rfl⟩
 cases hm:bA S.l n 0 with
 | false=>
  have E1:Hid (G=((0,0,0),false)):=Lib.hid (HG.out.trans (xR hm))
  obtain ⟨t1,ht1⟩:=HA1.out
  have HT1:=Lib.hid ht1
  clear hm ht1
  go_wp2_with (refine aU rfl 96 _ _ rfl w.heap.size 3 (fun i=> .int .i64 (tf (0,0,0) i)) _ t1 HT1.out rfl Tryz.sizeTm rfl rfl (fun i _=> rfl) ?_)
  have HA2:Hid (dH .i64 (w2.setRow w.heap.size (aW 3 fun i=> .int .i64 (tf (0,0,0) i))) w.heap.size 3 (tf (0,0,0))):=Lib.hid (HA1.out.setRow 3 (tf (0,0,0)))
  have B2:Hid (Below w.heap.size w (w2.setRow w.heap.size (aW 3 fun i=> .int .i64 (tf (0,0,0) i)))):=Lib.hid (aH B1.out (Nat.le_refl _) _)
  rw [E1.out]
  refine bodyPost_ret (gM rfl _ _ .i64 w.heap.size 3 _ rfl HA2.out Tryz.underlying96 rfl Tryz.sizeTm) rfl ?_
  exact ⟨rfl,B2.out⟩
 | true=>
  obtain ⟨a,rfl,ha,_⟩:=dG hm
  obtain ⟨t,ht⟩:∃t,S.l[a]? =some t:=⟨_,List.getElem?_eq_getElem ha⟩
  have E1:Hid (G=(t,true)):=Lib.hid (HG.out.trans (gV ht))
  obtain ⟨t1,ht1⟩:=HA1.out
  have HT1:=Lib.hid ht1
  have c0:=H1.out.c0
  obtain ⟨g,cap,ev,_,_,_,hc⟩:=H1.out.ls.form (by omega)
  have HC:Hid (∀i,i<3→w2.cell? ⟨g,a * 3+i,none⟩=some (.int .i64 (tf t i))):=Lib.hid fun i hi=> (hc a ha i hi).trans (congrArg some (pW ht))
  rw [ev] at c0
  have h9:(a:Int)<(S.l.length:Int):=by omega
  clear hm ht1 ha ht hc ev
  go_wp2_with (first
   | (refine aZ (y:=fun i=> .int .i64 (tf t i)) rfl rfl rfl Tryz.underlying96 rfl Tryz.sizeTm HC.out ?_)
   | (refine aU rfl 96 _ _ rfl w.heap.size 3 (fun i=> .int .i64 (tf t i)) _ t1 HT1.out rfl Tryz.sizeTm rfl rfl (fun i _=> rfl) ?_))
  have HA2:Hid (dH .i64 (w2.setRow w.heap.size (aW 3 fun i=> .int .i64 (tf t i))) w.heap.size 3 (tf t)):=Lib.hid (HA1.out.setRow 3 (tf t))
  have B2:Hid (Below w.heap.size w (w2.setRow w.heap.size (aW 3 fun i=> .int .i64 (tf t i)))):=Lib.hid (aH B1.out (Nat.le_refl _) _)
  rw [E1.out]
  refine bodyPost_ret (gM rfl _ _ .i64 w.heap.size 3 _ rfl HA2.out Tryz.underlying96 rfl Tryz.sizeTm) rfl ?_
  exact ⟨rfl,B2.out⟩
end
end Go.Proofs.YtpcjekgfnfjbpaaGreat
namespace Go.aG
open Go.RowKit
theorem Rd.CB {F:Nat→Prop} {w w':World} {k:IntKind} {v:Value} {n:Nat} {f:Nat→Int} (h:Rd k w v n f) (hg:bB F w w') (hne:0<n→∀b,v.ownBlock=some b→¬ F b):Rd k w' v n f:=by
 obtain ⟨a,c,rfl,h1,h2,h3,h4⟩:=h
 refine ⟨a,c,rfl,h1,h2,h3,fun hn=> ?_⟩
 obtain ⟨b,o,rfl,hlt,hc⟩:=h4 hn
 have:=hg.size
 exact ⟨b,o,rfl,by omega,fun i hi=> (hg.cell (p:=⟨b,o+i,none⟩) hlt (hne hn b rfl)).trans (hc i hi)⟩
end Go.aG
namespace Go.Proofs.YtpcjekgfnfjbpaaGreat
open Go.RowKit Go.aG Go.ChangeShapes Go.Maps
attribute [local go_sem ↓] Go.wp_at_zero Go.wp_at_succ
section
variable {B : Nat} {w w' : World} {p mb mt : Nat} {vl vb : Value} {tv : Nat → Value} {S : TS}
end
end Go.Proofs.YtpcjekgfnfjbpaaGreat
