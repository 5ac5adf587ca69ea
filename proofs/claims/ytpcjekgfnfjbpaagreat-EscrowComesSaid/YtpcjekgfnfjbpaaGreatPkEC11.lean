/- Part 11 of EscrowComes; conditions: in each theorem. -/
import Derived.Test.YtpcjekgfnfjbpaaGreatPkEC2
import Derived.Test.YtpcjekgfnfjbpaaGreatRows
set_option linter.unusedVariables false
set_option linter.unusedSimpArgs false
set_option maxRecDepth 100000
set_option maxHeartbeats 400000
namespace Go.Proofs.YtpcjekgfnfjbpaaGreat
theorem Tryz.info5:(Tryz.prog.info? 5).map (fun i=>(i.zero,i.size,i.bytes))=some (some (.int .u8 0),1,1):=by kernel_rfl
theorem Tryz.size5:(Tryz.prog.info? 5).map (·.size)=some 1:=by kernel_rfl
theorem Tryz.info3:(Tryz.prog.info? 3).map (fun i=>(i.zero,i.size,i.bytes))=some (some (.int .i64 0),1,8):=by kernel_rfl
theorem Tryz.info117:(Tryz.prog.info? 117).map (fun i=>(i.zero,i.size,i.bytes))=some (some (.int .u32 0),1,4):=by kernel_rfl
theorem Tryz.size117:(Tryz.prog.info? 117).map (·.size)=some 1:=by kernel_rfl
theorem Tryz.info132:(Tryz.prog.info? 132).map (fun i=>(i.zero,i.size,i.bytes))=some (some (.int .u64 0),1,8):=by kernel_rfl
theorem Tryz.size132:(Tryz.prog.info? 132).map (·.size)=some 1:=by kernel_rfl
theorem Tryz.size2:(Tryz.prog.info? 2).map (·.size)=some 1:=by kernel_rfl
theorem Tryz.size22:(Tryz.prog.info? 22).map (·.size)=some 32:=by kernel_rfl
theorem Tryz.size35:(Tryz.prog.info? 35).map (·.size)=some 12:=by kernel_rfl
theorem Tryz.size262:(Tryz.prog.info? 262).map (·.size)=some 16:=by kernel_rfl
theorem Tryz.size47:(Tryz.prog.info? 47).map (·.size)=some 64:=by kernel_rfl
theorem Tryz.size189:(Tryz.prog.info? 189).map (·.size)=some 16:=by kernel_rfl
theorem Tryz.size191:(Tryz.prog.info? 191).map (·.size)=some 16:=by kernel_rfl
theorem _root_.bP:type_of% @Tryz.size191:=@Tryz.size191
theorem _root_.dB:type_of% @Tryz.underlying191:=@Tryz.underlying191
theorem _root_.fZ:type_of% @Tryz.size22:=@Tryz.size22
theorem _root_.iL:type_of% @Tryz.underlying22:=@Tryz.underlying22
theorem _root_.mo:type_of% @Tryz.underlying23:=@Tryz.underlying23
theorem _root_.yG:type_of% @Tryz.underlying9:=@Tryz.underlying9
theorem _root_.yL:type_of% @Tryz.info5:=@Tryz.info5
theorem _root_.AL:type_of% @Tryz.underlying229:=@Tryz.underlying229
theorem _root_.Bv:type_of% @Tryz.underlying132:=@Tryz.underlying132
theorem _root_.DN:type_of% @Tryz.underlying271:=@Tryz.underlying271
theorem _root_.Jj:type_of% @Tryz.underlying193:=@Tryz.underlying193
end Go.Proofs.YtpcjekgfnfjbpaaGreat
namespace Go.Proofs.YtpcjekgfnfjbpaaGreat
open Go.RowKit Go.bI
theorem Yi (n:Int) (s:Nat) (w:World) (h1:1<=s) (h2:s<=8) (h3:0<=n) (h4:n<=4611686018427387904) (h5:s<8->(n / 2 ^ (8 * s) !=0)=false):
  Calls Tryz.prog 173 #[.int .i64 n,.int .i64 s] w fun e w'=> ∃v,e=.returned (.tuple #[v,.int .i64 0])/\Own .u8 5 w.heap.size w' v s (fun i=>n / 2 ^ (8 * i) % 256)/\Below w.heap.size w w':=by
 by_cases h8:s<8
 all_goals
  first | have h6:=h5 h8 | skip
  go_enter Tryz.func173,Tryz.ntmps173
  go_wp2_with (at_make;refine uN rfl _ _ 23 rfl w.heap.size 5 .u8 1 mo yL .i64 .i64 s rfl rfl aH aH aH ?_;intro w1 cK dL);have hb0:Below w.heap.size w w1:=iq (bT _ _) dL (bH _);clear dL
  go_loopw [38] (fun i wr=> ∃k:Nat,k<=s/\i=.int .i64 k/\Own .u8 5 w.heap.size wr (.slice (some ⟨w.heap.size,0,none⟩) s s) s (upto k (fun i=>n / 2 ^ (8 * i) % 256) (fun _=>0))/\Below w.heap.size w wr) (fun i _=>s - (intOf i).toNat)
  case atStart=>exact⟨0,jm _,rfl,by rw[dR];exact cK,hb0⟩
  case round=>
   obtain⟨k,hk,rfl,ho,aD⟩:=hrel;by_cases hlt:k<s
   ·obtain⟨g,c,hv,_,hg,_,_,hcell,hfr⟩:=ho.form aH;simp only[VQ,Zqk,Addr.mk.injEq,and_true,true_and] at hv;obtain⟨rfl,_⟩:=hv;replace hcell:=hcell k hlt;replace hfr:=hfr k;have HO:=ay ho;clear ho;go_wp2;go_roundw
    case rel=>exact⟨k+1,by omega,by go_num,by rw[<-dh rfl];exact HO.out.store k _,aD.setCell (bH _) _⟩
    case measure=>simp[intOf] <;> omega
   ·go_wp2;go_ret2;exact⟨_,rfl,ho.congr (fJ _ _ aH),aD⟩
theorem FZ (va:Value) (n:Nat) (f:Nat->Int) (w:World) (ha:Rd .u8 w va n f) (hn:n<=140737488355328):
  Calls Tryz.prog 107 #[va] w fun e w'=> ∃v,e=.returned v/\Own .u8 5 w.heap.size w' v n f/\Below w.heap.size w w':=by
 have hrd:=ay ha;obtain⟨a1,c1,rfl,l1,m1,z1,h1⟩:=ha;clear h1;have hnil:=fun(w:World) (a:Option Addr) (n c:Nat)=>Lib.run_eql_slice_nil (P:=Tryz.prog) w 23 5 a n c 0 0 mo
 cases a1 with
 | none=>
  obtain rfl:c1=0:=z1 rfl;obtain rfl:n=0:=by omega
  clear z1
  go_enter Tryz.func107,Tryz.ntmps107
  go_wp2;go_ret;exact⟨_,rfl,Own.nil _ _ _ _ _,bT _ _⟩
 | some a=>
  clear z1
  go_enter Tryz.func107,Tryz.ntmps107
  go_wp2_with (at_builtin;refine jE rfl _ _ 23 rfl w.heap.size 5 .u8 1 mo yL _ 0 f ?_ rfl _ n f (hrd.out.below ((bT _ _).alloc (bH _) _)) rfl (fun i _=>by rw[qY]) aH aH aR ?_;rotate_right;intro v' w1 cK dL)
  ·go_ret;rw[qY] at cK;exact⟨_,rfl,cK,below_grown ((bT _ _).alloc (bH _) _) dL (Own.new .u8 5 w #[] 0 f (bH _) aH rfl (fun i hi=>by omega)) aR (bH _)⟩
  ·exact Own.new _ _ _ _ _ _ (bH _) aH rfl (fun i hi=>by omega)
def rev (n j:Nat) (f:Nat->Int):Nat->Int:=fun i=>if i<j\/n - 1 - i<j then f (n - 1 - i) else f i
theorem rev_zero (n:Nat) (f:Nat->Int):rev n 0 f=f:=by funext i;simp[rev]
theorem Xe {n m p:Nat} {f:Nat->Int} (h:m<p) (h1:m+p+1<=n) (h2:n<=m+p+1):∀i,i<n->upd (upd (rev n m f) m (f p)) p (f m) i=rev n (m+1) f i:=by
 intro i hi;unfold upd rev;by_cases e1:i=p
 ·subst e1;rw[if_pos rfl,if_pos aH]
  congr 1;omega
 ·rw[if_neg e1];by_cases e2:i=m
  ·subst e2;rw[if_pos rfl,if_pos aH]
   congr 1;omega
  ·rw[if_neg e2];by_cases e3:i<m\/n - 1 - i<m
   ·rw[if_pos e3,if_pos aH]
   ·rw[if_neg e3,if_neg aH]
theorem Xf {n j:Nat} {f:Nat->Int} (h:n<=2 * j+1):∀i,i<n->rev n j f i=f (n - 1 - i):=by
 intro i hi;unfold rev;by_cases e:i<j\/n - 1 - i<j
 ·rw[if_pos e]
 ·rw[if_neg e];congr 1;omega
theorem Kt (va:Value) (n base:Nat) (f:Nat->Int) (w:World) (ha:Own .u8 5 base w va n f):
  Calls Tryz.prog 225 #[va] w fun e w'=>e=.returned (.tuple #[])/\Own .u8 5 base w' va n (fun i=>f (n - 1 - i))/\Below base w w'/\w'.heap.size=w.heap.size:=by
 by_cases hn:n=0
 ·subst hn;obtain⟨a1,c1,rfl,l1,m1,z1,h1⟩:=ha.rd;have HA:=ay ha;clear ha h1 z1
  go_enter Tryz.func225,Tryz.ntmps225
  go_wp2
  go_loop [2,3] (fun i j=>i=.int .i64 0/\j=.int .i64 (-1)) (fun _ _=>0)
  case atStart=>exact⟨rfl,rfl⟩
  case round=>
   obtain⟨rfl,rfl⟩:=hrel;go_wp2
   go_end0
   exact⟨rfl,HA.out.congr (fun i hi=>by omega),bT _ _,rfl⟩
 ·obtain⟨g,c,rfl,hbg,hg,hnc,hc9,hcell,hfr⟩:=ha.form aH;clear hcell hfr;have HA:=ay ha;clear ha
  go_enter Tryz.func225,Tryz.ntmps225
  go_wp2
  go_loopw [2,3] (fun i j wr=> ∃m p:Nat,m+p+1<=n/\n<=m+p+1/\m<=p+1/\i=.int .i64 m/\j=.int .i64 p/\Own .u8 5 base wr (.slice (some ⟨g,0,none⟩) n c) n (rev n m f)/\Below base w wr/\wr.heap.size=w.heap.size) (fun i _ _=>n - (intOf i).toNat)
  case atStart=>exact⟨0,n - 1,by omega,by omega,by omega,rfl,by congr 1;omega,by rw[rev_zero];exact HA.out,bT _ _,rfl⟩
  case round=>
   obtain⟨m,p,hm1,hm2,hm3,rfl,rfl,ho,aD,gP⟩:=hrel;have HS:=ay gP;clear gP;by_cases hlt:m<p
   ·obtain⟨g',c',hv,_,_,_,_,hcell,hfr⟩:=ho.form aH;simp only[VQ,Zqk,Addr.mk.injEq,and_true,true_and] at hv;obtain⟨rfl,rfl⟩:=hv;have e1:=hcell m aH;have e2:=hcell p aH;rw[show rev n m f m=f m by unfold rev;rw[if_neg aH]] at e1;rw[show rev n m f p=f p by unfold rev;rw[if_neg aH]] at e2;have f1:=hfr m;have f2:=hfr p;have HO:=ay ho;clear hcell hfr ho;go_wp2
    go_region
    all_goals
     go_wp2;go_roundw
     case rel=>refine⟨m+1,p - 1,by omega,by omega,by omega,by go_num,by go_num,(((HO.out.store m _).store p _).congr (Xe hlt hm1 hm2)).drew,(((aD.setCell hbg _).setCell hbg _)).drew,(size_setCell _ _ _).trans ((size_setCell _ _ _).trans HS.out)⟩
     case measure=>simp[intOf] <;> omega
   ·go_wp2
    go_end0
    exact⟨rfl,ho.congr (Xf aH),aD,HS.out⟩
theorem NG (va:Value) (n:Nat) (f:Nat->Int) (w:World) (ha:Rd .u8 w va n f) (hn:n<=140737488355328):
  Calls Tryz.prog 174 #[va] w fun e w'=> ∃v,e=.returned v/\Own .u8 5 w.heap.size w' v n (fun i=>f (n - 1 - i))/\Below w.heap.size w w':=by
 have HA:=ay ha;clear ha
 go_enter Tryz.func174,Tryz.ntmps174
 go_wp2_with fail;refine(FZ _ n f _ HA.out hn).mono ?_;rintro e w1 ⟨v,rfl,cK,aD⟩;have HO:=ay cK;clear cK;go_wp2_with fail;refine(Kt _ n _ f _ HO.out).mono ?_;rintro e w2 ⟨rfl,hown2,dV,gP⟩;have HS:=ay gP;clear gP;go_wp2_with fail;go_ret;exact⟨_,rfl,hown2,aD.trans dV⟩
theorem Oh (n:Int) (s:Nat) (w:World) (h1:1<=s) (h2:s<=8) (h3:0<=n) (h4:n<=4611686018427387904) (h5:s<8->(n / 2 ^ (8 * s) !=0)=false):
  Calls Tryz.prog 119 #[.int .i64 n,.int .i64 s] w fun e w'=> ∃v,e=.returned (.tuple #[v,.int .i64 0])/\Own .u8 5 w.heap.size w' v s (fun i=>n / 2 ^ (8 * (s - 1 - i)) % 256)/\Below w.heap.size w w':=by
 have H:=ay (Yi n s w h1 h2 h3 h4 h5);clear h1 h3 h4 h5
 go_enter Tryz.func119,Tryz.ntmps119
 go_wp2_with fail;refine H.out.mono ?_;rintro e w1 ⟨v,rfl,cK,aD⟩;have HO:=ay cK;clear cK;go_wp2_with fail;refine(NG _ s _ _ HO.out.rd aH).mono ?_;rintro e w2 ⟨v2,rfl,hown2,dV⟩;go_wp2_with fail;go_ret2;exact⟨_,rfl,hown2.mono aD.size,aD.trans (dV.mono aD.size)⟩
theorem YU (va:Value) (n:Nat) (f:Nat->Int) (w:World) (ha:Rd .u8 w va n f) (h0:1<=n) (h8:n<=8) (hf:∀i,i<n->0<=f i/\f i<256):
  Calls Tryz.prog 114 #[va] w fun e w'=>e=.returned (.tuple #[.int .i64 (lJ f n),.int .i64 (oO f n)])/\Below w.heap.size w w':=by
 obtain⟨a1,c1,rfl,l1,m1,z1,h1⟩:=ha;obtain⟨b,o,rfl,hs,hc⟩:=h1 aH;have HC:=ay hc;have HF:=ay hf;clear z1 hc hf h1
 go_enter Tryz.func114,Tryz.ntmps114
 go_wp2
 go_loopw [4,17] (fun x i wr=> ∃k:Nat,k<=n/\x=.int .u64 (big f k)/\i=.int .i64 k/\Below w.heap.size w wr) (fun _ i _=>n - (intOf i).toNat)
 case atStart=>exact⟨0,jm _,rfl,rfl,bT _ _⟩
 case round=>
  obtain⟨k,hk,rfl,rfl,aD⟩:=hrel;by_cases hlt:k<n
  ·have e1:=(aD.cell (p:=⟨b,o+k,none⟩) hs).trans (HC.out k hlt);obtain⟨f0,f1⟩:=HF.out k hlt;have b0:=(qW HF.out k hk).1;have b2:big f k<72057594037927936:=Qe HF.out k 7 hk aH;go_wp2;go_roundw
   case rel=>exact⟨k+1,by omega,by rw[XI b0 b2 f0 f1];rfl,by go_num,aD⟩
   case measure=>simp[intOf] <;> omega
  ·obtain rfl:k=n:=by omega
   have b0:=(qW HF.out k hk).1;have b2:big f k<18446744073709551616:=Qe HF.out k 8 hk aH;by_cases hle:big f k<=4611686018427387904
   ·have h1:lJ f k=big f k:=if_neg aH;have h2:oO f k=0:=by simp[oO,show k≠0 by omega,show ¬ 8<k by omega,show ¬ 4611686018427387904<big f k by omega]
    have H1:=ay h1;have H2:=ay h2;clear h1 h2;go_wp2;go_ret2;exact⟨by rw[H1.out,H2.out];rfl,aD⟩
   ·have h1:lJ f k=0:=if_pos aH;have h2:oO f k=11:=by simp[oO,show k≠0 by omega,show ¬ 8<k by omega,show 4611686018427387904<big f k by omega]
    have H1:=ay h1;have H2:=ay h2;clear h1 h2;go_wp2;go_ret2;exact⟨by rw[H1.out,H2.out];rfl,aD⟩
theorem get_nil (va:Value) (f:Nat->Int) (w:World) (ha:Rd .u8 w va 0 f):
  Calls Tryz.prog 114 #[va] w fun e w'=>Below w.heap.size w w'/\e=.returned (.tuple #[.int .i64 0,.int .i64 10]):=by
 obtain⟨a1,c1,rfl,l1,m1,z1,h1⟩:=ha;clear h1 z1
 go_enter Tryz.func114,Tryz.ntmps114
 go_wp2;go_ret2;exact⟨bT _ _,rfl⟩
theorem YT (va:Value) (n:Nat) (f:Nat->Int) (w:World) (ha:Rd .u8 w va n f) (h:8<n):
  Calls Tryz.prog 114 #[va] w fun e w'=>Below w.heap.size w w'/\e=.returned (.tuple #[.int .i64 0,.int .i64 2]):=by
 obtain⟨a1,c1,rfl,l1,m1,z1,h1⟩:=ha;clear h1 z1;have hz:((n:Int)==0)=false:=by simp;omega
 have hz':(8:Int)<n:=by omega
 go_enter Tryz.func114,Tryz.ntmps114
 go_wp2;go_ret2;exact⟨bT _ _,rfl⟩
theorem acX (va:Value) (n:Nat) (f:Nat->Int) (w:World) (ha:Rd .u8 w va n f) (hf:∀i,i<n->0<=f i/\f i<256):
  Calls Tryz.prog 114 #[va] w fun e w'=>e=.returned (.tuple #[.int .i64 (lJ f n),.int .i64 (oO f n)])/\Below w.heap.size w w':=by
 by_cases h0:n=0
 ·subst h0;exact(get_nil va f w ha).mono fun e w' ⟨h1,h2⟩=>⟨by rw[h2];rfl,h1⟩
 by_cases h8:8<n
 ·exact(YT va n f w ha h8).mono fun e w' ⟨h1,h2⟩=>⟨by rw[h2];simp[lJ,oO,h0,h8],h1⟩
 exact YU va n f w ha aH aH hf
theorem WZ (va vb:Value) (n m:Nat) (f g:Nat->Int) (w:World) (ha:Rd .u8 w va n f) (hb:Rd .u8 w vb m g) (h:n≠m):
  Calls Tryz.prog 19 #[va,vb] w fun e w'=>e=.returned (.bool false)/\Below w.heap.size w w':=by
 obtain⟨a1,c1,rfl,l1,m1,z1,h1⟩:=ha;obtain⟨a2,c2,rfl,l2,m2,z2,h2⟩:=hb;clear h1 h2 z1 z2;have hl':((n:Int) !=(m:Int))=true:=by simp;omega
 go_enter Tryz.func19,Tryz.ntmps19
 go_wp2;go_ret;exact⟨rfl,bT _ _⟩
theorem Ci (va vb:Value) (n:Nat) (f g:Nat->Int) (w:World) (ha:Rd .u8 w va n f) (hb:Rd .u8 w vb n g) (h:∀i,i<n->f i=g i):
  Calls Tryz.prog 19 #[va,vb] w fun e w'=>e=.returned (.bool true)/\Below w.heap.size w w':=by
 obtain⟨a1,c1,rfl,l1,m1,z1,h1⟩:=ha;obtain⟨a2,c2,rfl,l2,m2,z2,h2⟩:=hb;have H:=ay h;have H1:=ay h1;have H2:=ay h2;clear h1 h2 z1 z2 h
 go_enter Tryz.func19,Tryz.ntmps19
 go_wp2
 go_loopw [5] (fun i wr=> ∃k:Nat,k<=n/\i=.int .i64 k/\Below w.heap.size w wr) (fun i _=>n - (intOf i).toNat)
 case atStart=>exact⟨0,jm _,rfl,bT _ _⟩
 case round=>
  obtain⟨k,hk,rfl,hnx⟩:=hrel;by_cases hlt:k<n
  ·obtain⟨b1,o1,rfl,s1,e1⟩:=H1.out aH;obtain⟨b2,o2,rfl,s2,e2⟩:=H2.out aH;replace e1:=(hnx.cell s1).trans (e1 k hlt);replace e2:=(hnx.cell s2).trans (e2 k hlt);have hb:(f k !=g k)=false:=by simpa using H.out k hlt
   go_wp2
   go_quiet (fail)
   go_wp2;go_roundw
   case rel=>exact⟨k+1,by omega,by go_num,below_drewN hnx _⟩
   case measure=>simp[intOf] <;> omega
  ·go_wp2;go_ret;exact⟨rfl,hnx⟩
theorem abC (va vb:Value) (n:Nat) (f g:Nat->Int) (w:World) (ha:Rd .u8 w va n f) (hb:Rd .u8 w vb n g) (j:Nat) (hj:j<n) (h:f j≠g j):
  Calls Tryz.prog 19 #[va,vb] w fun e w'=>e=.returned (.bool false)/\Below w.heap.size w w':=by
 obtain⟨a1,c1,rfl,l1,m1,z1,h1⟩:=ha;obtain⟨a2,c2,rfl,l2,m2,z2,h2⟩:=hb;have H:=ay h;have H1:=ay h1;have H2:=ay h2;clear h1 h2 z1 z2 h
 go_enter Tryz.func19,Tryz.ntmps19
 go_wp2
 go_loopw [5] (fun i wr=> ∃k:Nat,k<=j/\i=.int .i64 k/\Below w.heap.size w wr) (fun i _=>n - (intOf i).toNat)
 case atStart=>exact⟨0,jm _,rfl,bT _ _⟩
 case round=>
  obtain⟨k,hk,rfl,hnx⟩:=hrel;have hlt:k<n:=by omega
  obtain⟨b1,o1,rfl,s1,e1⟩:=H1.out aH;obtain⟨b2,o2,rfl,s2,e2⟩:=H2.out aH;replace e1:=(hnx.cell s1).trans (e1 k hlt);replace e2:=(hnx.cell s2).trans (e2 k hlt);by_cases hfg:f k=g k
  ·have hb:(f k !=g k)=false:=by simpa using hfg
   have hkj:k≠j:=fun e=>H.out (e▸hfg);clear hfg;go_wp2
   go_quiet (fail)
   go_wp2;go_roundw
   case rel=>exact⟨k+1,by omega,by go_num,below_drewN hnx _⟩
   case measure=>simp[intOf] <;> omega
  ·have hb:(f k !=g k)=true:=by simpa using hfg
   clear hfg;go_wp2
   go_quiet (fail)
   go_wp2;go_ret;exact⟨rfl,below_drewN hnx _⟩
end Go.Proofs.YtpcjekgfnfjbpaaGreat
