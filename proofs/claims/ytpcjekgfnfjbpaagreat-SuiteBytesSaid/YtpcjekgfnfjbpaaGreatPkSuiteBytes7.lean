/- Part 7 of SuiteBytes; conditions: in each theorem. -/
import Derived.Test.YtpcjekgfnfjbpaaGreatPkSuiteBytes2
import Derived.Test.YtpcjekgfnfjbpaaGreatRows
set_option linter.unusedVariables false
set_option linter.unusedSimpArgs false
set_option maxRecDepth 100000
set_option maxHeartbeats 400000
namespace Go.Proofs.YtpcjekgfnfjbpaaGreat
theorem Tryz.info5:(Tryz.prog.info? 5).map (fun i=>(i.zero,i.size,i.bytes))=some (some (.int .u8 0),1,1):=by kernel_rfl
theorem Tryz.size5:(Tryz.prog.info? 5).map (·.size)=some 1:=by kernel_rfl
theorem Tryz.info3:(Tryz.prog.info? 3).map (fun i=>(i.zero,i.size,i.bytes))=some (some (.int .i64 0),1,8):=by kernel_rfl
theorem Tryz.size117:(Tryz.prog.info? 117).map (·.size)=some 1:=by kernel_rfl
theorem Tryz.info132:(Tryz.prog.info? 132).map (fun i=>(i.zero,i.size,i.bytes))=some (some (.int .u64 0),1,8):=by kernel_rfl
theorem Tryz.size132:(Tryz.prog.info? 132).map (·.size)=some 1:=by kernel_rfl
theorem Tryz.size2:(Tryz.prog.info? 2).map (·.size)=some 1:=by kernel_rfl
theorem Tryz.size22:(Tryz.prog.info? 22).map (·.size)=some 32:=by kernel_rfl
theorem Tryz.size251:(Tryz.prog.info? 251).map (·.size)=some 17:=by kernel_rfl
theorem Tryz.size296:(Tryz.prog.info? 296).map (·.size)=some 34:=by kernel_rfl
theorem Tryz.size47:(Tryz.prog.info? 47).map (·.size)=some 64:=by kernel_rfl
theorem Tryz.size189:(Tryz.prog.info? 189).map (·.size)=some 16:=by kernel_rfl
theorem Tryz.size191:(Tryz.prog.info? 191).map (·.size)=some 16:=by kernel_rfl
theorem _root_.bQ:type_of% @Tryz.size191:=@Tryz.size191
theorem _root_.dh:type_of% @Tryz.size22:=@Tryz.size22
theorem _root_.cZ:type_of% @Tryz.underlying191:=@Tryz.underlying191
theorem _root_.dY:type_of% @Tryz.underlying22:=@Tryz.underlying22
theorem _root_.lK:type_of% @Tryz.underlying23:=@Tryz.underlying23
theorem _root_.pI:type_of% @Tryz.info5:=@Tryz.info5
theorem _root_.rC:type_of% @Tryz.underlying132:=@Tryz.underlying132
theorem _root_.uP:type_of% @Tryz.underlying142:=@Tryz.underlying142
theorem _root_.vI:type_of% @Tryz.size251:=@Tryz.size251
theorem _root_.vH:type_of% @Tryz.underlying193:=@Tryz.underlying193
theorem _root_.xJ:type_of% @Tryz.info3:=@Tryz.info3
theorem _root_.zy:type_of% @Tryz.size47:=@Tryz.size47
theorem _root_.zP:type_of% @Tryz.underlying229:=@Tryz.underlying229
theorem _root_.DY:type_of% @Tryz.underlying129:=@Tryz.underlying129
theorem _root_.DX:type_of% @Tryz.underlying251:=@Tryz.underlying251
theorem _root_.FD:type_of% @Tryz.underlying47:=@Tryz.underlying47
end Go.Proofs.YtpcjekgfnfjbpaaGreat
namespace Go.Proofs.YtpcjekgfnfjbpaaGreat
open Go.RowKit Go.bC
theorem abX (n:Int) (s:Nat) (w:World) (h1:1<=s) (h2:s<=8) (h3:0<=n) (h4:n<=4611686018427387904) (h5:s<8->(n / 2 ^ (8 * s) !=0)=false):
  Calls Tryz.prog 173 #[.int .i64 n,.int .i64 s] w fun e w'=> ∃v,e=.returned (.tuple #[v,.int .i64 0])/\Own .u8 5 w.heap.size w' v s (fun i=>n / 2 ^ (8 * i) % 256)/\Below w.heap.size w w':=by
 by_cases h8:s<8
 all_goals
  first | have h6:=h5 h8 | skip
  go_enter Tryz.func173,Tryz.ntmps173
  go_wp2_with (at_make;refine iB rfl _ _ 23 rfl w.heap.size 5 .u8 1 lK pI .i64 .i64 s rfl rfl aH aH aH ?_;intro w1 bM bA);have hb0:Below w.heap.size w w1:=dW (bT _ _) bA (bB _);clear bA
  go_loopw [38] (fun i wr=> ∃k:Nat,k<=s/\i=.int .i64 k/\Own .u8 5 w.heap.size wr (.slice (some ⟨w.heap.size,0,none⟩) s s) s (upto k (fun i=>n / 2 ^ (8 * i) % 256) (fun _=>0))/\Below w.heap.size w wr) (fun i _=>s - (intOf i).toNat)
  case atStart=>exact⟨0,gX _,rfl,by rw[dH];exact bM,hb0⟩
  case round=>
   obtain⟨k,hk,rfl,ho,aA⟩:=hrel;by_cases hlt:k<s
   ·obtain⟨g,c,hv,_,hg,_,_,hcell,hfr⟩:=ho.form aH;simp only[DV,CO,Addr.mk.injEq,and_true,true_and] at hv;obtain⟨rfl,_⟩:=hv;replace hcell:=hcell k hlt;replace hfr:=hfr k;have HO:=ak ho;clear ho;go_wp2;go_roundw
    case rel=>exact⟨k+1,by omega,by go_num,by rw[<-bW rfl];exact HO.out.store k _,aA.setCell (bB _) _⟩
    case measure=>simp[intOf] <;> omega
   ·go_wp2;go_ret2;exact⟨_,rfl,ho.congr (dQ _ _ aH),aA⟩
theorem yI (va:Value) (n:Nat) (f:Nat->Int) (w:World) (ha:Rd .u8 w va n f) (hn:n<=140737488355328):
  Calls Tryz.prog 107 #[va] w fun e w'=> ∃v,e=.returned v/\Own .u8 5 w.heap.size w' v n f/\Below w.heap.size w w':=by
 have hrd:=ak ha;obtain⟨a1,c1,rfl,l1,m1,z1,h1⟩:=ha;clear h1;have hnil:=fun(w:World) (a:Option Addr) (n c:Nat)=>Lib.run_eql_slice_nil (P:=Tryz.prog) w 23 5 a n c 0 0 lK
 cases a1 with
 | none=>
  obtain rfl:c1=0:=z1 rfl;obtain rfl:n=0:=by omega
  clear z1
  go_enter Tryz.func107,Tryz.ntmps107
  go_wp2;go_ret;exact⟨_,rfl,Own.nil _ _ _ _ _,bT _ _⟩
 | some a=>
  clear z1
  go_enter Tryz.func107,Tryz.ntmps107
  go_wp2_with (at_builtin;refine fH rfl _ _ 23 rfl w.heap.size 5 .u8 1 lK pI _ 0 f ?_ rfl _ n f (hrd.out.below ((bT _ _).alloc (bB _) _)) rfl (fun i _=>by rw[oD]) aH aH aR ?_;rotate_right;intro v' w1 bM bA)
  ·go_ret;rw[oD] at bM;exact⟨_,rfl,bM,below_grown ((bT _ _).alloc (bB _) _) bA (Own.new .u8 5 w #[] 0 f (bB _) aH rfl (fun i hi=>by omega)) aR (bB _)⟩
  ·exact Own.new _ _ _ _ _ _ (bB _) aH rfl (fun i hi=>by omega)
def rev (n j:Nat) (f:Nat->Int):Nat->Int:=fun i=>if i<j\/n - 1 - i<j then f (n - 1 - i) else f i
theorem rev_zero (n:Nat) (f:Nat->Int):rev n 0 f=f:=by funext i;simp[rev]
theorem Tv {n m p:Nat} {f:Nat->Int} (h:m<p) (h1:m+p+1<=n) (h2:n<=m+p+1):∀i,i<n->upd (upd (rev n m f) m (f p)) p (f m) i=rev n (m+1) f i:=by
 intro i hi;unfold upd rev;by_cases e1:i=p
 ·subst e1;rw[if_pos rfl,if_pos aH]
  congr 1;omega
 ·rw[if_neg e1];by_cases e2:i=m
  ·subst e2;rw[if_pos rfl,if_pos aH]
   congr 1;omega
  ·rw[if_neg e2];by_cases e3:i<m\/n - 1 - i<m
   ·rw[if_pos e3,if_pos aH]
   ·rw[if_neg e3,if_neg aH]
theorem Tw {n j:Nat} {f:Nat->Int} (h:n<=2 * j+1):∀i,i<n->rev n j f i=f (n - 1 - i):=by
 intro i hi;unfold rev;by_cases e:i<j\/n - 1 - i<j
 ·rw[if_pos e]
 ·rw[if_neg e];congr 1;omega
theorem JD (va:Value) (n base:Nat) (f:Nat->Int) (w:World) (ha:Own .u8 5 base w va n f):
  Calls Tryz.prog 225 #[va] w fun e w'=>e=.returned (.tuple #[])/\Own .u8 5 base w' va n (fun i=>f (n - 1 - i))/\Below base w w'/\w'.heap.size=w.heap.size:=by
 by_cases hn:n=0
 ·subst hn;obtain⟨a1,c1,rfl,l1,m1,z1,h1⟩:=ha.rd;have HA:=ak ha;clear ha h1 z1
  go_enter Tryz.func225,Tryz.ntmps225
  go_wp2
  go_loop [2,3] (fun i j=>i=.int .i64 0/\j=.int .i64 (-1)) (fun _ _=>0)
  case atStart=>exact⟨rfl,rfl⟩
  case round=>
   obtain⟨rfl,rfl⟩:=hrel;go_wp2
   go_end0
   exact⟨rfl,HA.out.congr (fun i hi=>by omega),bT _ _,rfl⟩
 ·obtain⟨g,c,rfl,hbg,hg,hnc,hc9,hcell,hfr⟩:=ha.form aH;clear hcell hfr;have HA:=ak ha;clear ha
  go_enter Tryz.func225,Tryz.ntmps225
  go_wp2
  go_loopw [2,3] (fun i j wr=> ∃m p:Nat,m+p+1<=n/\n<=m+p+1/\m<=p+1/\i=.int .i64 m/\j=.int .i64 p/\Own .u8 5 base wr (.slice (some ⟨g,0,none⟩) n c) n (rev n m f)/\Below base w wr/\wr.heap.size=w.heap.size) (fun i _ _=>n - (intOf i).toNat)
  case atStart=>exact⟨0,n - 1,by omega,by omega,by omega,rfl,by congr 1;omega,by rw[rev_zero];exact HA.out,bT _ _,rfl⟩
  case round=>
   obtain⟨m,p,hm1,hm2,hm3,rfl,rfl,ho,aA,fD⟩:=hrel;have HS:=ak fD;clear fD;by_cases hlt:m<p
   ·obtain⟨g',c',hv,_,_,_,_,hcell,hfr⟩:=ho.form aH;simp only[DV,CO,Addr.mk.injEq,and_true,true_and] at hv;obtain⟨rfl,rfl⟩:=hv;have e1:=hcell m aH;have e2:=hcell p aH;rw[show rev n m f m=f m by unfold rev;rw[if_neg aH]] at e1;rw[show rev n m f p=f p by unfold rev;rw[if_neg aH]] at e2;have f1:=hfr m;have f2:=hfr p;have HO:=ak ho;clear hcell hfr ho;go_wp2
    go_region
    all_goals
     go_wp2;go_roundw
     case rel=>refine⟨m+1,p - 1,by omega,by omega,by omega,by go_num,by go_num,(((HO.out.store m _).store p _).congr (Tv hlt hm1 hm2)).drew,(((aA.setCell hbg _).setCell hbg _)).drew,(size_setCell _ _ _).trans ((size_setCell _ _ _).trans HS.out)⟩
     case measure=>simp[intOf] <;> omega
   ·go_wp2
    go_end0
    exact⟨rfl,ho.congr (Tw aH),aA,HS.out⟩
theorem Lx (va:Value) (n:Nat) (f:Nat->Int) (w:World) (ha:Rd .u8 w va n f) (hn:n<=140737488355328):
  Calls Tryz.prog 174 #[va] w fun e w'=> ∃v,e=.returned v/\Own .u8 5 w.heap.size w' v n (fun i=>f (n - 1 - i))/\Below w.heap.size w w':=by
 have HA:=ak ha;clear ha
 go_enter Tryz.func174,Tryz.ntmps174
 go_wp2_with fail;refine(yI _ n f _ HA.out hn).mono ?_;rintro e w1 ⟨v,rfl,bM,aA⟩;have HO:=ak bM;clear bM;go_wp2_with fail;refine(JD _ n _ f _ HO.out).mono ?_;rintro e w2 ⟨rfl,hown2,gu,fD⟩;have HS:=ak fD;clear fD;go_wp2_with fail;go_ret;exact⟨_,rfl,hown2,aA.trans gu⟩
theorem Mj (n:Int) (s:Nat) (w:World) (h1:1<=s) (h2:s<=8) (h3:0<=n) (h4:n<=4611686018427387904) (h5:s<8->(n / 2 ^ (8 * s) !=0)=false):
  Calls Tryz.prog 119 #[.int .i64 n,.int .i64 s] w fun e w'=> ∃v,e=.returned (.tuple #[v,.int .i64 0])/\Own .u8 5 w.heap.size w' v s (fun i=>n / 2 ^ (8 * (s - 1 - i)) % 256)/\Below w.heap.size w w':=by
 have H:=ak (abX n s w h1 h2 h3 h4 h5);clear h1 h3 h4 h5
 go_enter Tryz.func119,Tryz.ntmps119
 go_wp2_with fail;refine H.out.mono ?_;rintro e w1 ⟨v,rfl,bM,aA⟩;have HO:=ak bM;clear bM;go_wp2_with fail;refine(Lx _ s _ _ HO.out.rd aH).mono ?_;rintro e w2 ⟨v2,rfl,hown2,gu⟩;go_wp2_with fail;go_ret2;exact⟨_,rfl,hown2.mono aA.size,aA.trans (gu.mono aA.size)⟩
theorem Vw (va:Value) (n:Nat) (f:Nat->Int) (w:World) (ha:Rd .u8 w va n f) (h0:1<=n) (h8:n<=8) (hf:∀i,i<n->0<=f i/\f i<256):
  Calls Tryz.prog 114 #[va] w fun e w'=>e=.returned (.tuple #[.int .i64 (mV f n),.int .i64 (qR f n)])/\Below w.heap.size w w':=by
 obtain⟨a1,c1,rfl,l1,m1,z1,h1⟩:=ha;obtain⟨b,o,rfl,hs,hc⟩:=h1 aH;have HC:=ak hc;have HF:=ak hf;clear z1 hc hf h1
 go_enter Tryz.func114,Tryz.ntmps114
 go_wp2
 go_loopw [4,17] (fun x i wr=> ∃k:Nat,k<=n/\x=.int .u64 (big f k)/\i=.int .i64 k/\Below w.heap.size w wr) (fun _ i _=>n - (intOf i).toNat)
 case atStart=>exact⟨0,gX _,rfl,rfl,bT _ _⟩
 case round=>
  obtain⟨k,hk,rfl,rfl,aA⟩:=hrel;by_cases hlt:k<n
  ·have e1:=(aA.cell (p:=⟨b,o+k,none⟩) hs).trans (HC.out k hlt);obtain⟨f0,f1⟩:=HF.out k hlt;have b0:=(nQ HF.out k hk).1;have b2:big f k<72057594037927936:=Il HF.out k 7 hk aH;go_wp2;go_roundw
   case rel=>exact⟨k+1,by omega,by rw[TW b0 b2 f0 f1];rfl,by go_num,aA⟩
   case measure=>simp[intOf] <;> omega
  ·obtain rfl:k=n:=by omega
   have b0:=(nQ HF.out k hk).1;have b2:big f k<18446744073709551616:=Il HF.out k 8 hk aH;by_cases hle:big f k<=4611686018427387904
   ·have h1:mV f k=big f k:=if_neg aH;have h2:qR f k=0:=by simp[qR,show k≠0 by omega,show ¬ 8<k by omega,show ¬ 4611686018427387904<big f k by omega]
    have H1:=ak h1;have H2:=ak h2;clear h1 h2;go_wp2;go_ret2;exact⟨by rw[H1.out,H2.out];rfl,aA⟩
   ·have h1:mV f k=0:=if_pos aH;have h2:qR f k=11:=by simp[qR,show k≠0 by omega,show ¬ 8<k by omega,show 4611686018427387904<big f k by omega]
    have H1:=ak h1;have H2:=ak h2;clear h1 h2;go_wp2;go_ret2;exact⟨by rw[H1.out,H2.out];rfl,aA⟩
theorem get_nil (va:Value) (f:Nat->Int) (w:World) (ha:Rd .u8 w va 0 f):
  Calls Tryz.prog 114 #[va] w fun e w'=>Below w.heap.size w w'/\e=.returned (.tuple #[.int .i64 0,.int .i64 10]):=by
 obtain⟨a1,c1,rfl,l1,m1,z1,h1⟩:=ha;clear h1 z1
 go_enter Tryz.func114,Tryz.ntmps114
 go_wp2;go_ret2;exact⟨bT _ _,rfl⟩
theorem Vv (va:Value) (n:Nat) (f:Nat->Int) (w:World) (ha:Rd .u8 w va n f) (h:8<n):
  Calls Tryz.prog 114 #[va] w fun e w'=>Below w.heap.size w w'/\e=.returned (.tuple #[.int .i64 0,.int .i64 2]):=by
 obtain⟨a1,c1,rfl,l1,m1,z1,h1⟩:=ha;clear h1 z1;have hz:((n:Int)==0)=false:=by simp;omega
 have hz':(8:Int)<n:=by omega
 go_enter Tryz.func114,Tryz.ntmps114
 go_wp2;go_ret2;exact⟨bT _ _,rfl⟩
theorem Zf (va:Value) (n:Nat) (f:Nat->Int) (w:World) (ha:Rd .u8 w va n f) (hf:∀i,i<n->0<=f i/\f i<256):
  Calls Tryz.prog 114 #[va] w fun e w'=>e=.returned (.tuple #[.int .i64 (mV f n),.int .i64 (qR f n)])/\Below w.heap.size w w':=by
 by_cases h0:n=0
 ·subst h0;exact(get_nil va f w ha).mono fun e w' ⟨h1,h2⟩=>⟨by rw[h2];rfl,h1⟩
 by_cases h8:8<n
 ·exact(Vv va n f w ha h8).mono fun e w' ⟨h1,h2⟩=>⟨by rw[h2];simp[mV,qR,h0,h8],h1⟩
 exact Vw va n f w ha aH aH hf
theorem Tn (va vb:Value) (n m:Nat) (f g:Nat->Int) (w:World) (ha:Rd .u8 w va n f) (hb:Rd .u8 w vb m g) (h:n≠m):
  Calls Tryz.prog 19 #[va,vb] w fun e w'=>e=.returned (.bool false)/\Below w.heap.size w w':=by
 obtain⟨a1,c1,rfl,l1,m1,z1,h1⟩:=ha;obtain⟨a2,c2,rfl,l2,m2,z2,h2⟩:=hb;clear h1 h2 z1 z2;have hl':((n:Int) !=(m:Int))=true:=by simp;omega
 go_enter Tryz.func19,Tryz.ntmps19
 go_wp2;go_ret;exact⟨rfl,bT _ _⟩
theorem jC (va vb:Value) (n:Nat) (f g:Nat->Int) (w:World) (ha:Rd .u8 w va n f) (hb:Rd .u8 w vb n g) (h:∀i,i<n->f i=g i):
  Calls Tryz.prog 19 #[va,vb] w fun e w'=>e=.returned (.bool true)/\Below w.heap.size w w':=by
 obtain⟨a1,c1,rfl,l1,m1,z1,h1⟩:=ha;obtain⟨a2,c2,rfl,l2,m2,z2,h2⟩:=hb;have H:=ak h;have H1:=ak h1;have H2:=ak h2;clear h1 h2 z1 z2 h
 go_enter Tryz.func19,Tryz.ntmps19
 go_wp2
 go_loopw [5] (fun i wr=> ∃k:Nat,k<=n/\i=.int .i64 k/\Below w.heap.size w wr) (fun i _=>n - (intOf i).toNat)
 case atStart=>exact⟨0,gX _,rfl,bT _ _⟩
 case round=>
  obtain⟨k,hk,rfl,hnx⟩:=hrel;by_cases hlt:k<n
  ·obtain⟨b1,o1,rfl,s1,e1⟩:=H1.out aH;obtain⟨b2,o2,rfl,s2,e2⟩:=H2.out aH;replace e1:=(hnx.cell s1).trans (e1 k hlt);replace e2:=(hnx.cell s2).trans (e2 k hlt);have hb:(f k !=g k)=false:=by simpa using H.out k hlt
   go_wp2
   go_quiet (fail)
   go_wp2;go_roundw
   case rel=>exact⟨k+1,by omega,by go_num,below_drewN hnx _⟩
   case measure=>simp[intOf] <;> omega
  ·go_wp2;go_ret;exact⟨rfl,hnx⟩
theorem XU (va vb:Value) (n:Nat) (f g:Nat->Int) (w:World) (ha:Rd .u8 w va n f) (hb:Rd .u8 w vb n g) (j:Nat) (hj:j<n) (h:f j≠g j):
  Calls Tryz.prog 19 #[va,vb] w fun e w'=>e=.returned (.bool false)/\Below w.heap.size w w':=by
 obtain⟨a1,c1,rfl,l1,m1,z1,h1⟩:=ha;obtain⟨a2,c2,rfl,l2,m2,z2,h2⟩:=hb;have H:=ak h;have H1:=ak h1;have H2:=ak h2;clear h1 h2 z1 z2 h
 go_enter Tryz.func19,Tryz.ntmps19
 go_wp2
 go_loopw [5] (fun i wr=> ∃k:Nat,k<=j/\i=.int .i64 k/\Below w.heap.size w wr) (fun i _=>n - (intOf i).toNat)
 case atStart=>exact⟨0,gX _,rfl,bT _ _⟩
 case round=>
  obtain⟨k,hk,rfl,hnx⟩:=hrel;have hlt:k<n:=by omega
  obtain⟨b1,o1,rfl,s1,e1⟩:=H1.out aH;obtain⟨b2,o2,rfl,s2,e2⟩:=H2.out aH;replace e1:=(hnx.cell s1).trans (e1 k hlt);replace e2:=(hnx.cell s2).trans (e2 k hlt);by_cases hfg:f k=g k
  ·have hb:(f k !=g k)=false:=by simpa using hfg
   have hkj:k≠j:=fun e=>H.out (e▸hfg);clear hfg;go_wp2
   go_quiet (fail)
   go_wp2;go_roundw
   case rel=>exact⟨k+1,by omega,by go_num,below_drewN hnx _⟩
   case measure=>simp[intOf] <;> omega
  ·have hb:(f k !=g k)=true:=by simpa using hfg
   clear hfg;go_wp2
   go_quiet (fail)
   go_wp2;go_ret;exact⟨rfl,below_drewN hnx _⟩
theorem NP (va:Value) (n:Nat) (f:Nat->Int) (w:World) (ha:Rd .u8 w va n f) (hn:n<=140737488355328):
  Calls Tryz.prog 134 #[va] w fun e w'=> ∃v,e=.returned v/\Own .u8 5 w.heap.size w' v n (fun i=>f (n - 1 - i))/\Below w.heap.size w w':=by
 obtain⟨a1,c1,rfl,l1,m1,z1,h1⟩:=ha;have H1:=ak h1;clear h1 z1
 go_enter Tryz.func134,Tryz.ntmps134
 go_wp2
 go_loopw [3,4] (fun v i wr=> ∃(j:Nat) (x:Int),j<=n/\x=(j:Int) - 1/\i=.int .i64 x/\Own .u8 5 w.heap.size wr v (n - j) (fun i=>f (n - 1 - i))/\Below w.heap.size w wr) (fun _ i _=>(intOf i+1).toNat)
 case atStart=>exact⟨n,_,bB _,rfl,rfl,by rw[Nat.sub_self];exact Own.nil _ _ _ _ _,bT _ _⟩
 case round=>
  obtain⟨j,x,hj,hx,rfl,ho,aA⟩:=hrel;rcases j with _ | m
  ·obtain rfl:x= -1:=by omega
   clear hx;go_wp2;go_ret;exact⟨_,rfl,ho,aA⟩
  ·obtain rfl:x=(m:Int):=by omega
   clear hx;obtain⟨b,o,rfl,hs,hc⟩:=H1.out aH;have e1:=(aA.cell (p:=⟨b,o+m,none⟩) hs).trans (hc m aH);clear hc;have HO:=ak ho;clear ho;have fD:=aA.size;go_wp2_with (at_builtin;refine cO rfl _ _ 23 rfl w.heap.size 5 .u8 1 lK pI _ (n - (m+1)) (fun i=>f (n - 1 - i)) wr _ rfl HO.out rfl 1 rfl rfl ?_ aH aH fD ?_;rotate_right;intro v' w1 bM bA)
   ·go_roundw
    case rel=>exact⟨m,_,by omega,rfl,rfl,by rw[show n - m=n - (m+1)+1 by omega];exact bM,below_grown ((aA.alloc fD _)) bA HO.out (by simp;omega) (bB _)⟩
    case measure=>simp[intOf] <;> omega
   ·intro i hi;obtain rfl:i=0:=by omega
    simp
    congr 1;omega
theorem ZB (n:Int) (s:Nat) (w:World) (h1:1<=s) (h2:s<=8) (h3:0<=n) (h4:n<=4611686018427387904):
  Calls Tryz.prog 133 #[.int .i64 n,.int .i64 s] w fun e w'=> ∃v,Own .u8 5 w.heap.size w' v s (fun i=>n / 2 ^ (8 * i) % 256)/\Below w.heap.size w w'/\
   ((n / 2 ^ (8 * s)=0->e=.returned (.tuple #[v,.int .i64 0]))/\(n / 2 ^ (8 * s)≠0->e=.returned (.tuple #[.slice none 0 0,.int .i64 2]))):=by
 have h1':(1:Int)<=s:=by omega
 have h2':(s:Int)<=8:=by omega
 go_enter Tryz.func133,Tryz.ntmps133
 go_wp2
 go_loopw [0,6,7] (fun x v i wr=> ∃(k:Nat) (q:Int),k<=s/\q=n / 2 ^ (8 * k)/\x=.int .i64 q/\i=.int .i64 k/\Own .u8 5 w.heap.size wr v k (fun i=>n / 2 ^ (8 * i) % 256)/\Below w.heap.size w wr) (fun _ _ i _=>s - (intOf i).toNat)
 case atStart=>exact⟨0,_,gX _,by simp,rfl,rfl,Own.nil _ _ _ _ _,bT _ _⟩
 case round=>
  obtain⟨k,q,hk,hq,rfl,rfl,ho,aA⟩:=hrel;have hqb:=Rb h3 (8 * k);rw[<-hq] at hqb;obtain⟨hq0,hq1⟩:=hqb;have HQ:=ak hq;have HO:=ak ho;have fD:=aA.size;clear hq ho;by_cases hlt:k<s
  ·go_wp2_with (at_builtin;refine cO rfl _ _ 23 rfl w.heap.size 5 .u8 1 lK pI _ k (fun i=>n / 2 ^ (8 * i) % 256) wr _ rfl HO.out rfl 1 rfl rfl ?_ aH aH fD ?_;rotate_right;intro v' w1 bM bA)
   ·go_roundw
    case rel=>exact⟨k+1,_,by omega,by rw[VO,←HQ.out],rfl,by go_num,bM,below_grown (aA.alloc fD _) bA HO.out (by simp;omega) (bB _)⟩
    case measure=>simp[intOf] <;> omega
   ·intro i hi;obtain rfl:i=0:=by omega
    simp;rw[<-HQ.out]
  ·obtain rfl:k=s:=by omega
   by_cases hz:q=0
   ·have hz':¬ 0<q:=by omega
    have HZ:=ak hz;clear hz;go_wp2;go_ret2;exact⟨_,HO.out,aA,fun _=>rfl,fun h=>absurd (HQ.out.symm.trans HZ.out) h⟩
   ·have hz':0<q:=by omega
    have HZ:=ak hz;clear hz;go_wp2;go_ret2;exact⟨_,HO.out,aA,fun h=>absurd (HQ.out.trans h) HZ.out,fun _=>rfl⟩
theorem WT (n:Int) (s:Nat) (w:World) (h1:1<=s) (h2:s<=8) (h3:0<=n) (h4:n<=4611686018427387904) (h5:n / 2 ^ (8 * s)=0):
  Calls Tryz.prog 72 #[.int .i64 n,.int .i64 s] w fun e w'=> ∃v,e=.returned (.tuple #[v,.int .i64 0])/\Own .u8 5 w.heap.size w' v s (fun i=>n / 2 ^ (8 * (s - 1 - i)) % 256)/\Below w.heap.size w w':=by
 have H:=ak (ZB n s w h1 h2 h3 h4);have H5:=ak h5;clear h1 h3 h4 h5
 go_enter Tryz.func72,Tryz.ntmps72
 go_wp2_with fail;refine H.out.mono ?_;rintro e w1 ⟨v,bM,aA,he,_⟩;obtain rfl:=he H5.out;have HO:=ak bM;clear bM he;go_wp2_with fail;refine(NP _ s _ _ HO.out.rd aH).mono ?_;rintro e w2 ⟨v2,rfl,hown2,gu⟩;go_wp2_with fail;go_ret2;exact⟨_,rfl,hown2.mono aA.size,aA.trans (gu.mono aA.size)⟩
end Go.Proofs.YtpcjekgfnfjbpaaGreat
