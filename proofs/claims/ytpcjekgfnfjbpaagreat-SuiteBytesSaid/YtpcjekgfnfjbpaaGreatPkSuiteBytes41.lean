/- Part 41 of SuiteBytes; conditions: in each theorem. -/
import Derived.Test.YtpcjekgfnfjbpaaGreatPkSuiteBytes17
import Derived.Test.YtpcjekgfnfjbpaaGreatPkSuiteBytes25
set_option linter.unusedVariables false
set_option linter.unusedSimpArgs false
namespace Go.bC
open Go.RowKit
def pt (f g h e:Nat->Int) (i:Nat):Int:=if i<16 then f i else if i<32 then g (i - 16) else if i<48 then h (i - 32) else e (i - 48)
theorem Gv {w:World} {b:Nat} {f g h e:Nat->Int} (H:aQ .i64 w b 64 (pt f g h e)) (i:Nat) (hi:i<16):w.cell? ⟨b,0+i,none⟩=some (.int .i64 (f i)):=by
 rw[H.cell _ aH];unfold pt;rw[if_pos aH,oD]
theorem JI {w:World} {b:Nat} {f g h e:Nat->Int} (H:aQ .i64 w b 64 (pt f g h e)) (i:Nat) (hi:i<16):w.cell? ⟨b,16+i,none⟩=some (.int .i64 (g i)):=by
 rw[H.cell _ aH];unfold pt;rw[if_neg aH,if_pos aH,WQ]
theorem Ml {w:World} {b:Nat} {f g h e:Nat->Int} (H:aQ .i64 w b 64 (pt f g h e)) (i:Nat) (hi:i<16):w.cell? ⟨b,32+i,none⟩=some (.int .i64 (h i)):=by
 rw[H.cell _ aH];unfold pt;rw[if_neg aH,if_neg aH,if_pos aH,WQ]
theorem TQ {w:World} {b:Nat} {f g h e:Nat->Int} (H:aQ .i64 w b 64 (pt f g h e)) (i:Nat) (hi:i<16):w.cell? ⟨b,48+i,none⟩=some (.int .i64 (e i)):=by
 rw[H.cell _ aH];unfold pt;rw[if_neg aH,if_neg aH,if_neg aH,WQ]
section
variable {P : Program} {o : Oper} {a : Act} {w : World}
theorem bR {T:TypeId} {d:TypeDesc} {x:Operand} {k:IntKind} {b off n:Nat} {f:Nat->Int} (ho:o.op=.load T x) (hx:a.eval x=.pointer (some ⟨b,off,none⟩))
  (hu:P.underlying T=some d) (hd:Cr d=true) (hi:(P.info? T).map (·.size)=some n) (hc:∀i,i<n->w.cell? ⟨b,off+i,none⟩=some (.int k (f i))):
  (execOp a.eval o).run P w=.ok (.value (.agg (arr k n f))) w:=by
 unfold execOp;simp only[ho,hx,Instr.loadAt,Instr.sureAddr,uD,xI,vG,run_loadVar_mid (P:=P) w b off T (vals k n f) _ (uV hc) hu (by cases d<;> first | rfl | cases hd) (by rw[hi,dO])]
 rfl
end
def tV (f g h e:Nat->Int) (X Y Z T:Int):Prop:=Fe f X/\Fe g Y/\Fe h Z/\Fe e T
def smE (X Y U V:Int):Int:=(Y+X) * (V+U) - (Y - X) * (V - U)
def smH (X Y U V:Int):Int:=(Y+X) * (V+U)+(Y - X) * (V - U)
def smF (Z T W S D:Int):Int:=(Z * W+Z * W) - T * S * D
def smG (Z T W S D:Int):Int:=(Z * W+Z * W)+T * S * D
def xM (X Y Z T:Int) (p:Ed C7):Prop:=toF Z≠0/\toF X=p.x * toF Z/\toF Y=p.y * toF Z/\toF T=p.x * p.y * toF Z
theorem PL {x1 y1 z1 x2 y2 z2 d sx sy A B C D:Fp} (hB:B=1+d * (x1 * x2 * (y1 * y2))) (hD:D=1 - d * (x1 * x2 * (y1 * y2))) (hA:A=x1 * y2+x2 * y1) (hC:C=y1 * y2+x1 * x2) (hsx:sx * B=A) (hsy:sy * D=C):
  let E:=(y1 * z1+x1 * z1) * (y2 * z2+x2 * z2) - (y1 * z1 - x1 * z1) * (y2 * z2 - x2 * z2)
  let H:=(y1 * z1+x1 * z1) * (y2 * z2+x2 * z2)+(y1 * z1 - x1 * z1) * (y2 * z2 - x2 * z2)
  let F:=(z1 * z2+z1 * z2) - (x1 * y1 * z1) * (x2 * y2 * z2) * (d+d)
  let G:=(z1 * z2+z1 * z2)+(x1 * y1 * z1) * (x2 * y2 * z2) * (d+d)
  E * F=sx * (F * G)/\G * H=sy * (F * G)/\E * H=sx * sy * (F * G)/\F=2 * (z1 * z2) * D/\G=2 * (z1 * z2) * B:=by
 intro E H F G;have hE:E=2 * (z1 * z2) * A:=by show _= _;rw[hA];grind
 have hH:H=2 * (z1 * z2) * C:=by show _= _;rw[hC];grind
 have hF:F=2 * (z1 * z2) * D:=by show _= _;rw[hD];grind
 have hG:G=2 * (z1 * z2) * B:=by show _= _;rw[hB];grind
 clear hB hD hA hC;rw[hE,hH,hF,hG];clear hE hH hF hG E H F G;subst hsx;subst hsy;refine⟨by grind,by grind,by grind,rfl,rfl⟩
theorem xM.sum {X Y Z T U V W S D:Int} {p q:Ed C7} (hp:xM X Y Z T p) (hq:xM U V W S q) (hD:toF D=dE+dE):
  xM (smE X Y U V * smF Z T W S D) (smG Z T W S D * smH X Y U V) (smF Z T W S D * smG Z T W S D) (smE X Y U V * smH X Y U V) (p.add q):=by
 obtain⟨h0,h1,h2,h3⟩:=hp;obtain⟨k0,k1,k2,k3⟩:=hq;have hm:=p.jh q;have hpl:=p.jZ q;obtain⟨r1,r2,r3,r4,r5⟩:=PL (z1:=toF Z) (z2:=toF W) (d:=dE) rfl rfl rfl rfl (p.nu q) (p.ni q);unfold xM smE smF smG smH;simp only[fG,oH,tY,h1,h2,h3,k1,k2,k3,hD];refine⟨?_,r1,r2,r3⟩;rw[r4,r5];have hz:(2:Fp) * (toF Z * toF W)≠0:=eX Fb (eX h0 k0);exact eX (eX hz hm) (eX hz hpl)
theorem Pw (k:IntKind) (m:Nat) (g:Nat->Int):vals k (m+1) g=.int k (g 0)::vals k m (fun i=>g (i+1)):=by
 unfold vals;rw[List.range_succ_eq_map];simp[Function.comp_def]
theorem aQ.mid {k:IntKind} {b n:Nat}:∀(m o:Nat) (g:Nat->Int) (w:World) (f:Nat->Int),aQ k w b n f->aQ k (w.setCells b o (vals k m g)) b n (laid f o m g):=by
 intro m
 induction m with
 | zero=>
  intro o g w f h;refine(show aQ k (w.setCells b o (vals k 0 g)) b n f from h).congr fun i _=>?_;unfold laid;rw[if_neg aH]
 | succ m ih=>
  intro o g w f h;rw[Pw,World.setCells];refine(ih (o+1) (fun i=>g (i+1)) _ _ (h.set o (g 0))).congr fun i _=>?_;unfold laid upd;by_cases h1:i=o
  ·subst h1;rw[if_neg aH,if_pos rfl,if_pos aH,Nat.sub_self]
  ·by_cases h2:o<i/\i<o+(m+1)
   ·rw[if_pos aH,if_pos aH];show g (i - (o+1)+1)=g (i - o)
    congr 1;omega
   ·rw[if_neg aH,if_neg h1,if_neg aH]
theorem aQ.eH {k:IntKind} {b b' n:Nat} {f:Nat->Int} (hb:b≠b'):∀(vs:List Value) (o:Nat) (w:World),aQ k w b n f->aQ k (w.setCells b' o vs) b n f
 | [],_,_,h=>h
 | v::r,o,w,h=>aQ.eH hb r (o+1) _ (h.other (p:=⟨b',o,none⟩) hb v)
theorem jR {B b:Nat} {a:World} (hb:B<=b):∀(vs:List Value) (o:Nat) (w:World),Below B a w->Below B a (w.setCells b o vs)
 | [],_,_,h=>h
 | v::r,o,w,h=>jR hb r (o+1) _ (h.setCell (p:=⟨b,o,none⟩) hb v)
section
variable {P : Program} {ops : Array Oper} {rest : List Oper} {o : Oper} {a : Act} {w : World} {Q : Exit -> Act -> World -> Prop}
end
end Go.bC
