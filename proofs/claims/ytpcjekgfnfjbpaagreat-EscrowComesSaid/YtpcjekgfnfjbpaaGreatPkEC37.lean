/- Part 37 of EscrowComes; conditions: in each theorem. -/
import Derived.Test.YtpcjekgfnfjbpaaGreatPkEC20
import Derived.Test.YtpcjekgfnfjbpaaGreatPkEC7
set_option linter.unusedVariables false
set_option linter.unusedSimpArgs false
namespace Go.bI
open Go.RowKit
theorem Sm (k:IntKind) (m:Nat) (g:Nat->Int):vals k (m+1) g=.int k (g 0)::vals k m (fun i=>g (i+1)):=by
 unfold vals;rw[List.range_succ_eq_map];simp[Function.comp_def]
theorem aK.mid {k:IntKind} {b n:Nat}:∀(m o:Nat) (g:Nat->Int) (w:World) (f:Nat->Int),aK k w b n f->aK k (w.setCells b o (vals k m g)) b n (laid f o m g):=by
 intro m
 induction m with
 | zero=>
  intro o g w f h;refine(show aK k (w.setCells b o (vals k 0 g)) b n f from h).congr fun i _=>?_;unfold laid;rw[if_neg aH]
 | succ m ih=>
  intro o g w f h;rw[Sm,World.setCells];refine(ih (o+1) (fun i=>g (i+1)) _ _ (h.set o (g 0))).congr fun i _=>?_;unfold laid upd;by_cases h1:i=o
  ·subst h1;rw[if_neg aH,if_pos rfl,if_pos aH,Nat.sub_self]
  ·by_cases h2:o<i/\i<o+(m+1)
   ·rw[if_pos aH,if_pos aH];show g (i - (o+1)+1)=g (i - o)
    congr 1;omega
   ·rw[if_neg aH,if_neg h1,if_neg aH]
theorem aK.eD {k:IntKind} {b b' n:Nat} {f:Nat->Int} (hb:b≠b'):∀(vs:List Value) (o:Nat) (w:World),aK k w b n f->aK k (w.setCells b' o vs) b n f
 | [],_,_,h=>h
 | v::r,o,w,h=>aK.eD hb r (o+1) _ (h.other (p:=⟨b',o,none⟩) hb v)
theorem kD {B b:Nat} {a:World} (hb:B<=b):∀(vs:List Value) (o:Nat) (w:World),Below B a w->Below B a (w.setCells b o vs)
 | [],_,_,h=>h
 | v::r,o,w,h=>kD hb r (o+1) _ (h.setCell (p:=⟨b,o,none⟩) hb v)
section
variable {P : Program} {ops : Array Oper} {rest : List Oper} {o : Oper} {a : Act} {w : World} {Q : Exit -> Act -> World -> Prop}
theorem cO {T e:TypeId} {x y:Operand} {k:IntKind} {b n c sz i:Nat} (ho:o.op=.indexAddr T x y) (hx:a.eval x=.slice (some ⟨b,0,none⟩) n c) (hy:a.eval y=.int k (i:Int)) (hu:P.underlying T=some (.slice e)) (hi:(P.info? e).map (·.size)=some sz)
  (h1:i<n):(execOp a.eval o).run P w=.ok (.value (.pointer (some ⟨b,i * sz,none⟩))) w:=by
 obtain⟨q,hi1,hi2⟩:=Option.map_eq_some_iff.1 hi;unfold execOp;simp only[ho,hx,hy];simp[Instr.indexAt,asIntOf,run_underlying hu,sizeOf,typeInfo,hi1,hi2,h1,Addr.add];exact fun h=>h.symm
end
def pt (f g h e:Nat->Int) (i:Nat):Int:=if i<16 then f i else if i<32 then g (i - 16) else if i<48 then h (i - 32) else e (i - 48)
theorem KC {w:World} {b:Nat} {f g h e:Nat->Int} (H:aK .i64 w b 64 (pt f g h e)) (i:Nat) (hi:i<16):w.cell? ⟨b,0+i,none⟩=some (.int .i64 (f i)):=by
 rw[H.cell _ aH];unfold pt;rw[if_pos aH,qY]
theorem Ol {w:World} {b:Nat} {f g h e:Nat->Int} (H:aK .i64 w b 64 (pt f g h e)) (i:Nat) (hi:i<16):w.cell? ⟨b,16+i,none⟩=some (.int .i64 (g i)):=by
 rw[H.cell _ aH];unfold pt;rw[if_neg aH,if_pos aH,Vi]
theorem Tf {w:World} {b:Nat} {f g h e:Nat->Int} (H:aK .i64 w b 64 (pt f g h e)) (i:Nat) (hi:i<16):w.cell? ⟨b,32+i,none⟩=some (.int .i64 (h i)):=by
 rw[H.cell _ aH];unfold pt;rw[if_neg aH,if_neg aH,if_pos aH,Vi]
theorem abP {w:World} {b:Nat} {f g h e:Nat->Int} (H:aK .i64 w b 64 (pt f g h e)) (i:Nat) (hi:i<16):w.cell? ⟨b,48+i,none⟩=some (.int .i64 (e i)):=by
 rw[H.cell _ aH];unfold pt;rw[if_neg aH,if_neg aH,if_neg aH,Vi]
section
variable {P : Program} {o : Oper} {a : Act} {w : World}
theorem bW {T:TypeId} {d:TypeDesc} {x:Operand} {k:IntKind} {b off n:Nat} {f:Nat->Int} (ho:o.op=.load T x) (hx:a.eval x=.pointer (some ⟨b,off,none⟩))
  (hu:P.underlying T=some d) (hd:EL d=true) (hi:(P.info? T).map (·.size)=some n) (hc:∀i,i<n->w.cell? ⟨b,off+i,none⟩=some (.int k (f i))):
  (execOp a.eval o).run P w=.ok (.value (.agg (arr k n f))) w:=by
 unfold execOp;simp only[ho,hx,Instr.loadAt,Instr.sureAddr,uV,wL,vS,run_loadVar_mid (P:=P) w b off T (vals k n f) _ (wh hc) hu (by cases d<;> first | rfl | cases hd) (by rw[hi,dH])]
 rfl
end
def zJ (f g h e:Nat->Int) (X Y Z T:Int):Prop:=Fe f X/\Fe g Y/\Fe h Z/\Fe e T
def smE (X Y U V:Int):Int:=(Y+X) * (V+U) - (Y - X) * (V - U)
def smH (X Y U V:Int):Int:=(Y+X) * (V+U)+(Y - X) * (V - U)
def smF (Z T W S D:Int):Int:=(Z * W+Z * W) - T * S * D
def smG (Z T W S D:Int):Int:=(Z * W+Z * W)+T * S * D
def DU (X Y Z T:Int) (p:Ed C7):Prop:=toF Z≠0/\toF X=p.x * toF Z/\toF Y=p.y * toF Z/\toF T=p.x * p.y * toF Z
theorem Sz {x1 y1 z1 x2 y2 z2 d sx sy A B C D:Fp} (hB:B=1+d * (x1 * x2 * (y1 * y2))) (hD:D=1 - d * (x1 * x2 * (y1 * y2))) (hA:A=x1 * y2+x2 * y1) (hC:C=y1 * y2+x1 * x2) (hsx:sx * B=A) (hsy:sy * D=C):
  let E:=(y1 * z1+x1 * z1) * (y2 * z2+x2 * z2) - (y1 * z1 - x1 * z1) * (y2 * z2 - x2 * z2)
  let H:=(y1 * z1+x1 * z1) * (y2 * z2+x2 * z2)+(y1 * z1 - x1 * z1) * (y2 * z2 - x2 * z2)
  let F:=(z1 * z2+z1 * z2) - (x1 * y1 * z1) * (x2 * y2 * z2) * (d+d)
  let G:=(z1 * z2+z1 * z2)+(x1 * y1 * z1) * (x2 * y2 * z2) * (d+d)
  E * F=sx * (F * G)/\G * H=sy * (F * G)/\E * H=sx * sy * (F * G)/\F=2 * (z1 * z2) * D/\G=2 * (z1 * z2) * B:=by
 intro E H F G;have hE:E=2 * (z1 * z2) * A:=by show _= _;rw[hA];grind
 have hH:H=2 * (z1 * z2) * C:=by show _= _;rw[hC];grind
 have hF:F=2 * (z1 * z2) * D:=by show _= _;rw[hD];grind
 have hG:G=2 * (z1 * z2) * B:=by show _= _;rw[hB];grind
 clear hB hD hA hC;rw[hE,hH,hF,hG];clear hE hH hF hG E H F G;subst hsx;subst hsy;refine⟨by grind,by grind,by grind,rfl,rfl⟩
theorem DU.sum {X Y Z T U V W S D:Int} {p q:Ed C7} (hp:DU X Y Z T p) (hq:DU U V W S q) (hD:toF D=dE+dE):
  DU (smE X Y U V * smF Z T W S D) (smG Z T W S D * smH X Y U V) (smF Z T W S D * smG Z T W S D) (smE X Y U V * smH X Y U V) (p.add q):=by
 obtain⟨h0,h1,h2,h3⟩:=hp;obtain⟨k0,k1,k2,k3⟩:=hq;have hm:=p.iX q;have hpl:=p.kg q;obtain⟨r1,r2,r3,r4,r5⟩:=Sz (z1:=toF Z) (z2:=toF W) (d:=dE) rfl rfl rfl rfl (p.nE q) (p.kY q);unfold DU smE smF smG smH;simp only[dK,gq,lu,h1,h2,h3,k1,k2,k3,hD];refine⟨?_,r1,r2,r3⟩;rw[r4,r5];have hz:(2:Fp) * (toF Z * toF W)≠0:=bE iO (bE h0 k0);exact bE (bE hz hm) (bE hz hpl)
end Go.bI
