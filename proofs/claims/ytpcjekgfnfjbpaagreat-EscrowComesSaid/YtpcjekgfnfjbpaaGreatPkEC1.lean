/- Part 1 of EscrowComes; conditions: in each theorem. -/

set_option linter.unusedVariables false
set_option linter.unusedSimpArgs false
namespace Go.bI
theorem TI {K:Type} {l:List K} (h:l.Nodup) {i j:Nat} (hi:i<l.length) (hj:j<l.length) (e:l[i] =l[j]):i=j:=by
 have hp:=List.pairwise_iff_getElem.1 h;rcases Nat.lt_trichotomy i j with h1 | h1 | h1
 ·exact absurd e (hp i j hi hj h1)
 ·exact h1
 ·exact absurd e.symm (hp j i hj hi h1)
section
variable {K : Type} [DecidableEq K]
theorem TH {l m:List K} (hn:l.Nodup) (hs:∀x,x ∈ l->x ∈ m):l.length<=m.length:=by
 induction l generalizing m with
 | nil=>exact Nat.zero_le _
 | cons a l ih=>
  rw[List.nodup_cons] at hn;have ha:a ∈ m:=hs a (List.mem_cons_self ..);have h:=ih (m:=m.erase a) hn.2 fun x hx=>(List.mem_erase_of_ne (by rintro rfl;exact hn.1 hx)).2 (hs x (List.mem_cons_of_mem _ hx));rw[List.length_erase_of_mem ha] at h;have:0<m.length:=List.length_pos_of_mem ha;simp only[List.length_cons];omega
def addN (nd:List K) (x:K):List K:=if x ∈ nd then nd else nd++ [x]
def cZ (E:List (K × K)):List K:=E.foldl (fun nd e=>addN (addN nd e.1) e.2) []
def Qk (E:List (K × K)) (e:K × K):List (K × K):=if e ∈ E then E else E++ [e]
def je (l:List (K × K)):List (K × K):=l.foldl Qk []
def tgt (E:List (K × K)) (x:K):List K:=(E.filter fun e=>e.1=x).map (·.2)
theorem lI {nd:List K} {x y:K}:y ∈ addN nd x ↔ y ∈ nd\/y=x:=by
 unfold addN
 split
 ·rename_i h
  exact⟨.inl,fun h'=>h'.elim id fun e=>e▸h⟩
 ·simp
theorem um (nd:List K) (x:K):nd <+:addN nd x:=by
 unfold addN
 split
 ·exact List.prefix_refl _
 ·exact List.prefix_append _ _
theorem oQ {nd:List K} (h:nd.Nodup) (x:K):(addN nd x).Nodup:=by
 unfold addN
 split
 ·exact h
 ·rename_i hx
  rw[List.nodup_append];exact⟨h,by simp,fun a ha b hb=>by simp at hb;subst hb;intro e;subst e;exact hx ha⟩
theorem DI (nd:List K) (x:K):(addN nd x).length<=nd.length+1:=by
 unfold addN
 split<;> simp
theorem Gh {nd:List K} {x:K} (h:x ∈ nd):addN nd x=nd:=if_pos h
theorem MV {nd:List K} {x:K} (h:x ∉ nd):addN nd x=nd++ [x] :=if_neg h
theorem ni (E:List (K × K)) (e:K × K):cZ (E++ [e])=addN (addN (cZ E) e.1) e.2:=by
 unfold cZ;rw[List.foldl_append]
 rfl
theorem uO {α:Type} {P:List α->Prop} (h0:P []) (h1:∀l a,P l->P (l++ [a])) (l:List α):P l:=by
 have key:∀(m:List α),P m.reverse:=fun m=>by
  induction m with
  | nil=>exact h0
  | cons a m ih=>rw[List.reverse_cons];exact h1 _ _ ih
 have:=key l.reverse
 rwa [List.reverse_reverse] at this
theorem Ie (E:List (K × K)):(cZ E).Nodup:=by
 induction E using uO with
 | h0=>exact List.nodup_nil
 | h1 E e ih=>rw[ni];exact oQ (oQ ih _) _
theorem OD (E:List (K × K)):(cZ E).length<=2 * E.length:=by
 induction E using uO with
 | h0=>exact Nat.le_refl _
 | h1 E e ih=>
  rw[ni];have h1:=DI (addN (cZ E) e.1) e.2;have h2:=DI (cZ E) e.1;simp only[List.length_append,List.length_singleton];omega
theorem oL {E:List (K × K)} {x:K}:x ∈ cZ E ↔ ∃e ∈ E,e.1=x\/e.2=x:=by
 induction E using uO with
 | h0=>simp[cZ]
 | h1 E e ih=>
  rw[ni,lI,lI,ih]
  constructor
  ·rintro((⟨e',h1,h2⟩ | h) | h)
   ·exact⟨e',by simp[h1],h2⟩
   ·exact⟨e,by simp,.inl h.symm⟩
   ·exact⟨e,by simp,.inr h.symm⟩
  ·rintro⟨e',h1,h2⟩;rw[List.mem_append,List.mem_singleton] at h1;rcases h1 with h1 | rfl
   ·exact .inl (.inl ⟨e',h1,h2⟩)
   ·rcases h2 with h2 | h2
    ·exact .inl (.inr h2.symm)
    ·exact .inr h2.symm
theorem uM {E:List (K × K)} {x y:K}:y ∈ tgt E x ↔ (x,y) ∈ E:=by
 unfold tgt;simp only[List.mem_map,List.mem_filter,decide_eq_true_eq]
 constructor
 ·rintro⟨⟨a,b⟩,⟨h1,h2⟩,h3⟩;simp only at h2 h3;rw[<-h2,←h3];exact h1
 ·intro h;exact⟨(x,y),⟨h,rfl⟩,rfl⟩
theorem JL (E:List (K × K)) (e:K × K) (x:K):tgt (E++ [e]) x=if e.1=x then tgt E x++ [e.2] else tgt E x:=by
 unfold tgt;rw[List.filter_append,List.map_append];by_cases h:e.1=x<;> simp[h]
theorem QF (E:List (K × K)) (x:K):(tgt E x).length<=E.length:=by
 unfold tgt;rw[List.length_map];exact List.length_filter_le _ _
theorem wC (l:List (K × K)) (e:K × K):je (l++ [e])=Qk (je l) e:=by
 unfold je;rw[List.foldl_append]
 rfl
theorem qM (l:List (K × K)):(je l).length<=l.length:=by
 induction l using uO with
 | h0=>exact Nat.le_refl _
 | h1 l e ih=>
  rw[wC];unfold Qk
  split<;> simp<;> omega
def kQ (L:List K) (x:K):Nat:=L.idxOf x
theorem qh {L:List K} {x:K} (h:x ∈ L):kQ L x<L.length:=List.idxOf_lt_length_iff.2 h
theorem jH {L:List K} {x:K} (h:x ∈ L):L[kQ L x]? =some x:=by
 unfold kQ;rw[List.getElem?_eq_getElem (List.idxOf_lt_length_iff.2 h),List.getElem_idxOf]
theorem za {L:List K} (hn:L.Nodup) {j:Nat} {x:K} (h:L[j]? =some x):kQ L x=j:=by
 obtain⟨hj,he⟩:=List.getElem?_eq_some_iff.1 h;have hm:x ∈ L:=List.mem_of_getElem? h;obtain⟨h1,h2⟩:=List.getElem?_eq_some_iff.1 (jH hm);exact TI hn h1 hj (h2.trans he.symm)
theorem rH {L M:List K} (hn:M.Nodup) (hp:L <+:M) {x:K} (h:x ∈ L):kQ M x=kQ L x:=by
 obtain⟨t,rfl⟩:=hp;refine za hn ?_;rw[List.getElem?_append_left (qh h)];exact jH h
def newG (nd:List K) (x y:K):Int:=(if x ∈ nd then 0 else 1)+(if y ∈ nd\/y=x then 0 else 1)
def ahf (nd:List K) (os:List (List Nat)) (x y:K):Prop:=x ∈ nd/\y ∈ nd/\∃l,os[kQ nd x]? =some l/\kQ nd y ∈ l
theorem acv {nd:List K} {x y:K} (h1:x ∈ nd) (h2:y ∈ nd):newG nd x y=0:=by unfold newG;rw[if_pos h1,if_pos (.inl h2)];rfl
theorem acu {nd:List K} {x y:K} (h1:x ∈ nd) (h2:y ∉ nd):newG nd x y=1:=by unfold newG;rw[if_pos h1,if_neg (fun h=>h.elim h2 fun e=>h2 (e▸h1))];rfl
theorem acs {nd:List K} {x y:K} (h1:x ∉ nd) (h2:y ∈ nd):newG nd x y=1:=by unfold newG;rw[if_neg h1,if_pos (.inl h2)];rfl
theorem acr {nd:List K} {x y:K} (h1:x ∉ nd) (h2:y ∉ nd) (h:y=x):newG nd x y=1:=by unfold newG;rw[if_neg h1,if_pos (.inr h)];rfl
theorem acp {nd:List K} {x y:K} (h1:x ∉ nd) (h2:y ∉ nd) (h:y≠x):newG nd x y=2:=by unfold newG;rw[if_neg h1,if_neg (fun h'=>h'.elim h2 h)];rfl
def fidx (L:List K) (x:K):Int:=if x ∈ L then (L.idxOf x:Int) else -1
theorem ade {L:List K} {x:K} {j:Nat} (h:L[j]? =some x) (hn:∀i,i<j->L[i]?≠some x):fidx L x=j:=by
 obtain⟨hj,he⟩:=List.getElem?_eq_some_iff.1 h;have hm:x ∈ L:=List.mem_of_getElem? h;unfold fidx;rw[if_pos hm];have h1:L.idxOf x<L.length:=List.idxOf_lt_length_iff.2 hm;have h2:L[L.idxOf x]? =some x:=by rw[List.getElem?_eq_getElem h1,List.getElem_idxOf]
 have h3:¬ L.idxOf x<j:=fun hl=>hn _ hl h2;have h4:¬ j<L.idxOf x:=fun hl=>by
  have:=List.not_of_lt_findIdx (p:=fun y=>y==x) (xs:=L) hl;simp[he] at this
 omega
theorem Oq {α:Type} {l m:List α} (h:l <+:m) {i:Nat} {x:α} (hx:l[i]? =some x):m[i]? =some x:=by
 obtain⟨t,rfl⟩:=h;rw[List.getElem?_append_left (List.getElem?_eq_some_iff.1 hx).1];exact hx
theorem Cu {α:Type} {l m:List α} (h:l <+:m) {x:α} (hx:x ∈ l):x ∈ m:=by
 obtain⟨t,rfl⟩:=h;exact List.mem_append_left _ hx
def KV (nd:List K) (E:List (K × K)):List (List Nat):=nd.map fun z=>(tgt E z).map (kQ nd)
def VJ (E:List (K × K)):List (List Nat):=KV (cZ E) E
theorem Ib (nd:List K) (E:List (K × K)):(KV nd E).length=nd.length:=List.length_map ..
theorem ze {nd:List K} {E:List (K × K)} {j:Nat} {z:K} (h:nd[j]? =some z):(KV nd E)[j]? =some ((tgt E z).map (kQ nd)):=by
 unfold KV;rw[List.getElem?_map,h]
 rfl
theorem JM {E:List (K × K)} {x:K} (h:x ∉ cZ E):tgt E x= [] :=by
 apply List.eq_nil_iff_forall_not_mem.2
 intro y hy;exact h (oL.2 ⟨_,uM.1 hy,.inl rfl⟩)
theorem yQ {E:List (K × K)} {x y:K} (h:y ∈ tgt E x):y ∈ cZ E:=oL.2 ⟨_,uM.1 h,.inr rfl⟩
theorem KU {nd:List K} {E:List (K × K)} (hn:nd.Nodup) (hs:cZ E <+:nd) (x:K) (os':List (List Nat)) (h:(x ∈ nd/\os'=KV nd E)\/(x ∉ nd/\os'=KV nd E++ [[]])):os'=KV (addN nd x) E/\(addN nd x).Nodup/\cZ E <+:addN nd x:=by
 refine⟨?_,oQ hn x,hs.trans (um nd x)⟩;rcases h with⟨h1,rfl⟩ | ⟨h1,rfl⟩
 ·rw[Gh h1]
 ·have hn2:=oQ hn x;rw[MV h1] at hn2 ⊢;unfold KV;rw[List.map_append,List.map_singleton,JM fun h=>h1 (Cu hs h)]
  congr 1
  refine List.map_congr_left fun z hz=>List.map_congr_left fun y hy=>?_;exact(rH hn2 (List.prefix_append _ _) (Cu hs (yQ hy))).symm
theorem XH {nd:List K} {E:List (K × K)} (hn:nd.Nodup) {x y:K} (hx:x ∈ nd):(KV nd E).set (kQ nd x) ((tgt E x).map (kQ nd)++ [kQ nd y])=KV nd (E++ [(x,y)]):=by
 apply List.ext_getElem?
 intro j;by_cases hj:j<nd.length
 ·obtain⟨z,hz⟩:∃z,nd[j]? =some z:=⟨_,List.getElem?_eq_getElem hj⟩
  rw[ze hz,JL];by_cases he:kQ nd x=j
  ·subst he;rw[jH hx] at hz;cases hz
   rw[if_pos rfl,List.getElem?_set_self (by rw[Ib];exact hj),List.map_append]
   rfl
  ·rw[List.getElem?_set_ne he,ze hz,if_neg];rintro rfl;exact he (za hn hz)
 ·rw[List.getElem?_eq_none (by rw[List.length_set,Ib];omega),List.getElem?_eq_none (by rw[Ib];omega)]
theorem LW {E:List (K × K)} {x y:K}:ahf (cZ E) (VJ E) x y ↔ (x,y) ∈ E:=by
 constructor
 ·rintro⟨hx,hy,l,hl,hm⟩;unfold VJ at hl;rw[ze (jH hx)] at hl;cases hl
  obtain⟨z,hz,e⟩:=List.mem_map.1 hm;have h1:=jH (yQ hz);rw[e,jH hy] at h1;cases h1
  exact uM.1 hz
 ·intro h;have hx:x ∈ cZ E:=oL.2 ⟨_,h,.inl rfl⟩;have hy:y ∈ cZ E:=oL.2 ⟨_,h,.inr rfl⟩;exact⟨hx,hy,_,ze (jH hx),List.mem_map.2 ⟨y,uM.2 h,rfl⟩⟩
theorem aco (nd:List K) (x y:K):0<=newG nd x y/\newG nd x y<=2:=by
 unfold newG
 split<;> split<;> omega
def vis (i:Int) (s:List K × List Int) (k:K):List K × List Int:=if k ∈ s.1 then s else (s.1++ [k],s.2++ [i])
def ajG (fr:List K):List K × List Int:=fr.foldl (vis (-1)) ([], [])
def gK (E:List (K × K)) (fr:List K):Nat->List K × List Int
 | 0=>ajG fr
 | i+1=>match (gK E fr i).1[i]? with
  | none=>gK E fr i
  | some x=>(tgt E x).foldl (vis i) (gK E fr i)
def sM (E:List (K × K)) (fr:List K):List K × List Int:=gK E fr (fr.length+E.length)
theorem abg (i:Int) (s:List K × List Int) (k x:K):x ∈ (vis i s k).1 ↔ x ∈ s.1\/x=k:=by
 unfold vis
 split
 ·rename_i h
  exact⟨.inl,fun h'=>h'.elim id fun e=>e▸h⟩
 ·simp
theorem JE (i:Int) (l:List K) (s:List K × List Int) (x:K):x ∈ (l.foldl (vis i) s).1 ↔ x ∈ s.1\/x ∈ l:=by
 induction l generalizing s with
 | nil=>simp
 | cons a l ih=>rw[List.foldl_cons,ih,abg,List.mem_cons,or_assoc]
theorem JD (i:Int) (l:List K) (s:List K × List Int):s.1 <+:(l.foldl (vis i) s).1/\s.2 <+:(l.foldl (vis i) s).2:=by
 induction l generalizing s with
 | nil=>exact⟨List.prefix_refl _,List.prefix_refl _⟩
 | cons a l ih=>
  rw[List.foldl_cons];have h1:s.1 <+:(vis i s a).1/\s.2 <+:(vis i s a).2:=by
   unfold vis
   split
   ·exact⟨List.prefix_refl _,List.prefix_refl _⟩
   ·exact⟨List.prefix_append _ _,List.prefix_append _ _⟩
  exact⟨h1.1.trans (ih _).1,h1.2.trans (ih _).2⟩
theorem BH (i:Int) (l:List K) (s:List K × List Int) (h:s.1.Nodup):(l.foldl (vis i) s).1.Nodup:=by
 induction l generalizing s with
 | nil=>exact h
 | cons a l ih=>
  rw[List.foldl_cons];refine ih _ ?_;unfold vis
  split
  ·exact h
  ·rename_i ha
   rw[List.nodup_append];exact⟨h,by simp,fun x hx b hb=>by simp at hb;subst hb;intro e;subst e;exact ha hx⟩
theorem wU (i:Int) (l:List K) (s:List K × List Int) (h:s.1.length=s.2.length):(l.foldl (vis i) s).1.length=(l.foldl (vis i) s).2.length:=by
 induction l generalizing s with
 | nil=>exact h
 | cons a l ih=>
  rw[List.foldl_cons];refine ih _ ?_;unfold vis
  split
  ·exact h
  ·simp[h]
theorem BI (i:Int) (l:List K) (s:List K × List Int):(l.foldl (vis i) s).1.length<=s.1.length+l.length:=by
 induction l generalizing s with
 | nil=>exact Nat.le_refl _
 | cons a l ih=>
  rw[List.foldl_cons];have h1:=ih (vis i s a);have h2:(vis i s a).1.length<=s.1.length+1:=by
   unfold vis
   split<;> simp
  simp only[List.length_cons];omega
theorem EX {i:Int} {l:List K} {s:List K × List Int} {k:Nat} {x:K} (hx:l[k]? =some x):(l.take (k+1)).foldl (vis i) s=vis i ((l.take k).foldl (vis i) s) x:=by
 rw[List.take_add_one,hx,List.foldl_append]
 rfl
theorem Wn {i:Int} {s:List K × List Int} {x:K} (h:x ∈ s.1):vis i s x=s:=if_pos h
theorem Qz {i:Int} {s:List K × List Int} {x:K} (h:x ∉ s.1):vis i s x=(s.1++ [x],s.2++ [i]):=if_neg h
variable {E : List (K × K)} {fr : List K}
theorem oh (i:Nat):gK E fr (i+1)=match (gK E fr i).1[i]? with
  | none=>gK E fr i
  | some x=>(tgt E x).foldl (vis i) (gK E fr i):=rfl
theorem yS {i:Nat} {x:K} (h:(gK E fr i).1[i]? =some x):gK E fr (i+1)=(tgt E x).foldl (vis i) (gK E fr i):=by rw[oh,h]
theorem Fz {i:Nat} (h:(gK E fr i).1.length<=i):gK E fr (i+1)=gK E fr i:=by rw[oh,List.getElem?_eq_none h]
theorem GQ (i:Nat):(gK E fr i).1 <+:(gK E fr (i+1)).1/\(gK E fr i).2 <+:(gK E fr (i+1)).2:=by
 rw[oh]
 split
 ·exact⟨List.prefix_refl _,List.prefix_refl _⟩
 ·exact JD _ _ _
theorem NZ (i:Nat):(gK E fr i).1.Nodup:=by
 induction i with
 | zero=>exact BH _ _ _ List.nodup_nil
 | succ i ih=>
  rw[oh]
  split
  ·exact ih
  ·exact BH _ _ _ ih
theorem WX (i:Nat):(gK E fr i).1.length=(gK E fr i).2.length:=by
 induction i with
 | zero=>exact wU _ _ _ rfl
 | succ i ih=>
  rw[oh]
  split
  ·exact ih
  ·exact wU _ _ _ ih
theorem Kk (i:Nat) (x:K) (h:x ∈ (gK E fr i).1):x ∈ fr\/∃e ∈ E,e.2=x:=by
 induction i with
 | zero=>
  rcases(JE _ _ _ _).1 h with h | h
  ·cases h
  ·exact .inl h
 | succ i ih=>
  rw[oh] at h
  split at h
  ·exact ih h
  ·rcases(JE _ _ _ _).1 h with h | h
   ·exact ih h
   ·exact .inr ⟨_,uM.1 h,rfl⟩
theorem rE (i:Nat):(gK E fr i).1.length<=fr.length+E.length:=by
 have h:=TH (m:=fr++E.map (·.2)) (NZ (E:=E) (fr:=fr) i) fun x hx=>by
  rcases Kk i x hx with h | ⟨e,h1,h2⟩
  ·exact List.mem_append_left _ h
  ·exact List.mem_append_right _ (List.mem_map.2 ⟨e,h1,h2⟩)
 simpa using h
theorem SN {i:Nat} (h:(gK E fr i).1.length<=i) (d:Nat):gK E fr (i+d)=gK E fr i:=by
 induction d with
 | zero=>rfl
 | succ d ih=>
  show gK E fr (i+d+1)= _;rw[Fz (by rw[ih];omega),ih]
theorem Cc {i:Nat} (h:(gK E fr i).1.length=i):sM E fr=gK E fr i:=by
 have hb:=rE (E:=E) (fr:=fr) i;have:=SN (Nat.le_of_eq h) (fr.length+E.length - i);unfold sM;rw[<-this]
 congr 1
 omega
theorem BZ (E:List (K × K)) (fr:List K):(sM E fr).1.length<=fr.length+E.length:=rE _
end
section
variable {K : Type}
end
section
variable {K : Type} [DecidableEq K]
end
abbrev Tm:=Int × Int × Int
structure TS where
 l:List Tm
 tx:List (List Int)
def pz:Int:=4611686018427387904
def Im (l:List Tm) (n kind:Int):Bool:=match l[n.toNat]? with | some t=>decide (t.1=kind) | none=>false
def jg (l:List Tm) (n kind:Int):Bool:=(decide (0<=n) && decide (n<l.length)) && (decide (kind=0) || Im l n kind)
def nV (S:TS) (t:Tm):Bool:=
 if t.1=1 then (decide (1<=t.2.1) && decide (t.2.1<=4)) && decide (0<=t.2.2)
 else if t.1=2\/t.1=3\/t.1=6\/t.1=7 then jg S.l t.2.1 0 && decide (t.2.2=0)
 else if t.1=4 then jg S.l t.2.1 2 && jg S.l t.2.2 0
 else if t.1=5 then jg S.l t.2.1 0 && jg S.l t.2.2 0
 else if t.1=8 then jg S.l t.2.1 0 && jg S.l t.2.2 9
 else if t.1=9 then (decide (0<=t.2.1) && decide (t.2.1<S.tx.length)) && decide (t.2.2=0)
 else if t.1=10 then jg S.l t.2.1 9 && decide (t.2.2=0)
 else false
def zY (l:List Tm) (s:Int):Int:=l.foldl (fun b t=>if t.1=1/\t.2.1=s then max b (min t.2.2 pz+1) else b) 0
def TS.add (S:TS) (t:Tm):TS:=⟨S.l++ [t],S.tx⟩
def TS.put (S:TS) (t:Tm):TS:=if nV S t=true/\t ∉ S.l then S.add t else S
def nU (S:TS) (t:Tm):Int × Int:=if nV S t=true then (if t ∈ S.l then (kQ S.l t:Int) else (S.l.length:Int),0) else (0,2)
def isSort (s:Int):Bool:=decide (1<=s) && decide (s<=4)
def TS.draw (S:TS) (s:Int):TS:=if isSort s=true/\zY S.l s<=pz then S.add (1,s,zY S.l s) else S
def Ae (S:TS) (s:Int):Int × Int:=if isSort s=true then (if zY S.l s<=pz then ((S.l.length:Int),0) else (0,3)) else (0,2)
def okT (l:List Tm) (n i:Nat) (t:Tm):Prop:=
 (t.1=1/\(1<=t.2.1/\t.2.1<=4)/\0<=t.2.2)\/
 ((t.1=2\/t.1=3\/t.1=6\/t.1=7)/\(∃a:Nat,t.2.1=a/\a<i)/\t.2.2=0)\/
 (t.1=4/\(∃a:Nat,t.2.1=a/\a<i/\∃u,l[a]? =some u/\u.1=2)/\∃b:Nat,t.2.2=b/\b<i)\/
 (t.1=5/\(∃a:Nat,t.2.1=a/\a<i)/\∃b:Nat,t.2.2=b/\b<i)\/
 (t.1=8/\(∃a:Nat,t.2.1=a/\a<i)/\∃b:Nat,t.2.2=b/\b<i/\∃u,l[b]? =some u/\u.1=9)\/
 (t.1=9/\(∃a:Nat,t.2.1=a/\a<n)/\t.2.2=0)\/
 (t.1=10/\(∃a:Nat,t.2.1=a/\a<i/\∃u,l[a]? =some u/\u.1=9)/\t.2.2=0)
structure TS.Ok (S:TS):Prop where
 nd:S.l.Nodup
 ok:∀i t,S.l[i]? =some t->okT S.l S.tx.length i t
 all:∀j,j<S.tx.length->((9,(j:Int),0):Tm) ∈ S.l
 txn:S.tx.Nodup
theorem xX {l:List Tm} {n kind:Int}:jg l n kind=true ↔ ∃a:Nat,n=a/\∃t,l[a]? =some t/\(kind=0\/t.1=kind):=by
 unfold jg Im
 constructor
 ·intro h;simp only[Bool.and_eq_true,decide_eq_true_eq,Bool.or_eq_true] at h;obtain⟨⟨h1,h2⟩,h3⟩:=h;obtain⟨a,rfl⟩:=Int.eq_ofNat_of_zero_le h1;have hl:a<l.length:=by omega
  refine⟨a,rfl,l[a],List.getElem?_eq_getElem hl,?_⟩;rw[Int.toNat_natCast,List.getElem?_eq_getElem hl] at h3
  simpa using h3
 ·rintro⟨a,rfl,t,h1,h2⟩;have hl:a<l.length:=(List.getElem?_eq_some_iff.1 h1).1;rw[Int.toNat_natCast,h1];simp only[Bool.and_eq_true,decide_eq_true_eq,Bool.or_eq_true];exact⟨⟨by omega,by omega⟩,h2⟩
theorem Lb {l l':List Tm} {n n' i:Nat} {t:Tm} (hl:l <+:l') (hn:n<=n') (h:okT l n i t):okT l' n' i t:=by
 have up:∀{a:Nat} {k:Int},(∃u,l[a]? =some u/\u.1=k)->∃u,l'[a]? =some u/\u.1=k:=fun⟨u,h1,h2⟩=>⟨u,Oq hl h1,h2⟩
 rcases h with h | h | ⟨h,⟨a,h1,h2,h3⟩,h4⟩ | h | ⟨h,h1,b,h2,h3,h4⟩ | ⟨h,⟨a,h1,h2⟩,h3⟩ | ⟨h,⟨a,h1,h2,h3⟩,h4⟩
 ·exact .inl h
 ·exact .inr (.inl h)
 ·exact .inr (.inr (.inl ⟨h,⟨a,h1,h2,up h3⟩,h4⟩))
 ·exact .inr (.inr (.inr (.inl h)))
 ·exact .inr (.inr (.inr (.inr (.inl ⟨h,h1,b,h2,h3,up h4⟩))))
 ·exact .inr (.inr (.inr (.inr (.inr (.inl ⟨h,⟨a,h1,by omega⟩,h3⟩)))))
 ·exact .inr (.inr (.inr (.inr (.inr (.inr ⟨h,⟨a,h1,h2,up h3⟩,h4⟩)))))
theorem nX {l:List Tm} {n kind:Int} (h:jg l n kind=true):∃a:Nat,n=a/\a<l.length/\(kind≠0->∃u,l[a]? =some u/\u.1=kind):=by
 obtain⟨a,h1,t,h2,h3⟩:=xX.1 h;exact⟨a,h1,(List.getElem?_eq_some_iff.1 h2).1,fun hk=>⟨t,h2,h3.resolve_left hk⟩⟩
theorem Ri {S:TS} {t:Tm} (h:nV S t=true):okT S.l S.tx.length S.l.length t:=by
 unfold nV at h
 split at h
 ·rename_i h1
  simp only[Bool.and_eq_true,decide_eq_true_eq] at h;exact .inl ⟨h1,h.1,h.2⟩
 split at h
 ·rename_i h1
  simp only[Bool.and_eq_true,decide_eq_true_eq] at h;obtain⟨a,e1,e2,_⟩:=nX h.1;exact .inr (.inl ⟨h1,⟨a,e1,e2⟩,h.2⟩)
 split at h
 ·rename_i h1
  simp only[Bool.and_eq_true] at h;obtain⟨a,e1,e2,e3⟩:=nX h.1;obtain⟨b,f1,f2,_⟩:=nX h.2;exact .inr (.inr (.inl ⟨h1,⟨a,e1,e2,e3 (by decide)⟩,b,f1,f2⟩))
 split at h
 ·rename_i h1
  simp only[Bool.and_eq_true] at h;obtain⟨a,e1,e2,_⟩:=nX h.1;obtain⟨b,f1,f2,_⟩:=nX h.2;exact .inr (.inr (.inr (.inl ⟨h1,⟨a,e1,e2⟩,b,f1,f2⟩)))
 split at h
 ·rename_i h1
  simp only[Bool.and_eq_true] at h;obtain⟨a,e1,e2,_⟩:=nX h.1;obtain⟨b,f1,f2,f3⟩:=nX h.2;exact .inr (.inr (.inr (.inr (.inl ⟨h1,⟨a,e1,e2⟩,b,f1,f2,f3 (by decide)⟩))))
 split at h
 ·rename_i h1
  simp only[Bool.and_eq_true,decide_eq_true_eq] at h;obtain⟨a,ha⟩:=Int.eq_ofNat_of_zero_le h.1.1;exact .inr (.inr (.inr (.inr (.inr (.inl ⟨h1,⟨a,ha,by omega⟩,h.2⟩)))))
 split at h
 ·rename_i h1
  simp only[Bool.and_eq_true,decide_eq_true_eq] at h;obtain⟨a,e1,e2,e3⟩:=nX h.1;exact .inr (.inr (.inr (.inr (.inr (.inr ⟨h1,⟨a,e1,e2,e3 (by decide)⟩,h.2⟩)))))
 ·cases h
theorem TS.Ok.empty:TS.Ok ⟨[], []⟩:=⟨List.nodup_nil,(fun i t h=>by simp at h),(fun j hj=>absurd hj (Nat.not_lt_zero _)),List.nodup_nil⟩
theorem oK {α:Type} {l:List α} {x:α} (h:l.Nodup) (hx:x ∉ l):(l++ [x]).Nodup:=by
 rw[List.nodup_append];exact⟨h,by simp,fun a ha b hb=>by simp at hb;subst hb;intro e;subst e;exact hx ha⟩
theorem TS.Ok.add {S:TS} {t:Tm} (h:S.Ok) (ht:t ∉ S.l) (ho:okT S.l S.tx.length S.l.length t):(S.add t).Ok:=by
 refine⟨oK h.nd ht,fun i u hu=>?_,fun j hj=>List.mem_append.2 (.inl (h.all j hj)),h.txn⟩;have hp:S.l <+:S.l++ [t] :=List.prefix_append _ _;have hu:(S.l++ [t])[i]? =some u:=hu;by_cases hi:i<S.l.length
 ·rw[List.getElem?_append_left hi] at hu;exact Lb hp (Nat.le_refl _) (h.ok i u hu)
 ·have hl:=(List.getElem?_eq_some_iff.1 hu).1;rw[List.length_append,List.length_singleton] at hl;obtain rfl:i=S.l.length:=by omega
  rw[List.getElem?_append_right (Nat.le_refl _),Nat.sub_self] at hu;cases hu
  exact Lb hp (Nat.le_refl _) ho
theorem TS.Ok.put {S:TS} (h:S.Ok) (t:Tm):(S.put t).Ok:=by
 unfold TS.put
 split
 ·rename_i hp
  exact h.add hp.2 (Ri hp.1)
 ·exact h
theorem FH (s:Int):∀(l:List Tm) (b:Int),b<=l.foldl (fun b t=>if t.1=1/\t.2.1=s then max b (min t.2.2 pz+1) else b) b/\
  ∀t,t ∈ l->t.1=1->t.2.1=s->min t.2.2 pz+1<=l.foldl (fun b t=>if t.1=1/\t.2.1=s then max b (min t.2.2 pz+1) else b) b:=by
 intro l
 induction l with
 | nil=>intro b;exact⟨Int.le_refl _,fun t h=>by cases h⟩
 | cons a l ih=>
  intro b;rw[List.foldl_cons];obtain⟨h1,h2⟩:=ih (if a.1=1/\a.2.1=s then max b (min a.2.2 pz+1) else b);refine⟨Int.le_trans ?_ h1,fun t ht hk hs=>?_⟩
  ·split<;> omega
  ·rcases List.mem_cons.1 ht with rfl | ht
   ·refine Int.le_trans ?_ h1;rw[if_pos ⟨hk,hs⟩];omega
   ·exact h2 t ht hk hs
theorem afT {l:List Tm} {s:Int} {t:Tm} (ht:t ∈ l) (hk:t.1=1) (hs:t.2.1=s):min t.2.2 pz+1<=zY l s:=(FH s l 0).2 t ht hk hs
theorem CB (l:List Tm) (s:Int):0<=zY l s:=(FH s l 0).1
theorem Cz (l:List Tm) (t:Tm) (s:Int):zY (l++ [t]) s=if t.1=1/\t.2.1=s then max (zY l s) (min t.2.2 pz+1) else zY l s:=by
 unfold zY;rw[List.foldl_append]
 rfl
theorem afU (s:Int):∀(l:List Tm) (b:Int),b<=pz+1->l.foldl (fun b t=>if t.1=1/\t.2.1=s then max b (min t.2.2 pz+1) else b) b<=pz+1:=by
 intro l
 induction l with
 | nil=>intro b h;exact h
 | cons a l ih=>
  intro b h;rw[List.foldl_cons];refine ih _ ?_
  split<;> omega
theorem acj (l:List Tm) (s:Int):zY l s<=pz+1:=afU s l 0 (by unfold pz;omega)
theorem Rf {l:List Tm} {s:Int} (h:zY l s<=pz):((1,s,zY l s):Tm) ∉ l:=fun hm=>by
 have:=afT hm rfl rfl;simp only at this;omega
theorem TS.Ok.draw {S:TS} (h:S.Ok) (s:Int):(S.draw s).Ok:=by
 unfold TS.draw
 split
 ·rename_i hp
  have h1:=hp.1;simp only[isSort,Bool.and_eq_true,decide_eq_true_eq] at h1;exact h.add (Rf hp.2) (.inl ⟨rfl,h1,CB _ _⟩)
 ·exact h
def Rb (x:Int):Prop:= -9223372036854775808<=x/\x<=9223372036854775807
def Cy (t:Tm):Prop:=Rb t.1/\Rb t.2.1/\Rb t.2.2
theorem yF (S:TS) (t:Tm):(S.add t).l.length=S.l.length+1:=by simp[TS.add]
theorem xG (S:TS) (t:Tm):(S.put t).l.length<=S.l.length+1/\(S.put t).tx=S.tx:=by
 unfold TS.put
 split
 ·exact⟨by rw[yF];omega,rfl⟩
 ·exact⟨by omega,rfl⟩
def dx (n:Nat):Prop:=2<=n/\∀d,d ∣ n->d=1\/d=n
theorem dx.coprime {p a:Nat} (hp:dx p) (h:¬ p ∣ a):Nat.Coprime p a:=by
 rcases hp.2 (Nat.gcd p a) (Nat.gcd_dvd_left p a) with h1 | h1
 ·exact h1
 ·exact absurd (by rw[<-h1];exact Nat.gcd_dvd_right p a) h
theorem dx.dvd_mul {p a b:Nat} (hp:dx p) (h:p ∣ a * b):p ∣ a\/p ∣ b:=by
 by_cases ha:p ∣ a
 ·exact .inl ha
 ·exact .inr ((hp.coprime ha).dvd_of_dvd_mul_left h)
theorem dx.Lg {p:Nat} (hp:dx p):¬ p ∣ 1:=fun h=>by have:=Nat.le_of_dvd (by decide) h;have:=hp.1;omega
def ch:Nat->Nat->Nat
 | _,0=>1
 | 0,_+1=>0
 | n+1,k+1=>ch n k+ch n (k+1)
theorem Br (n:Nat):ch n 0=1:=by cases n<;> rfl
theorem uS (n k:Nat):ch (n+1) (k+1)=ch n k+ch n (k+1):=rfl
theorem uT:∀n k,n<k->ch n k=0
 | 0,k+1,_=>rfl
 | n+1,k+1,h=>by rw[uS,uT n k (by omega),uT n (k+1) (by omega)]
theorem RN:∀n,ch n n=1
 | 0=>rfl
 | n+1=>by rw[uS,RN n,uT n (n+1) (by omega)]
theorem ahT:∀n k,(k+1) * ch (n+1) (k+1)=(n+1) * ch n k:=by
 intro n
 induction n with
 | zero=>
  intro k
  cases k with
  | zero=>rfl
  | succ k=>rw[uS,uT 0 (k+1) (by omega),uT 0 (k+1+1) (by omega)];simp
 | succ n ih=>
  intro k;rw[uS (n+1) k,Nat.mul_add,ih k]
  cases k with
  | zero=>rw[Br,Br];omega
  | succ j=>
   have h1:=ih j;have h2:=uS n j;have h3:(n+1+1) * ch (n+1) (j+1)=(n+1) * (ch n j+ch n (j+1))+ch (n+1) (j+1):=by rw[<-h2,Nat.succ_mul]
   rw[h3,Nat.mul_add];have h4:(j+1+1) * ch (n+1) (j+1)=(j+1) * ch (n+1) (j+1)+ch (n+1) (j+1):=Nat.succ_mul _ _;omega
theorem dx.ahA {p k:Nat} (hp:dx p) (h0:0<k) (h1:k<p):p ∣ ch p k:=by
 obtain⟨j,rfl⟩:∃j,k=j+1:=⟨k - 1,by omega⟩
 obtain⟨n,rfl⟩:∃n,p=n+1:=⟨p - 1,by omega⟩
 have h:=ahT n j;have hd:n+1 ∣ (j+1) * ch (n+1) (j+1):=⟨_,h⟩
 rcases hp.dvd_mul hd with h2 | h2
 ·have:=Nat.le_of_dvd (by omega) h2;omega
 ·exact h2
def jY (f:Nat->Nat):Nat->Nat
 | 0=>0
 | n+1=>jY f n+f n
theorem BR {f g:Nat->Nat} {n:Nat} (h:∀k,k<n->f k=g k):jY f n=jY g n:=by
 induction n with
 | zero=>rfl
 | succ n ih=>rw[jY,jY,ih fun k hk=>h k (by omega),h n (by omega)]
theorem Ka (f g:Nat->Nat):∀n,jY (fun k=>f k+g k) n=jY f n+jY g n
 | 0=>rfl
 | n+1=>by rw[jY,jY,jY,Ka f g n];omega
theorem JY (a:Nat) (f:Nat->Nat):∀n,jY (fun k=>a * f k) n=a * jY f n
 | 0=>rfl
 | n+1=>by rw[jY,jY,JY a f n,Nat.mul_add]
theorem uD (f:Nat->Nat):∀n,jY f (n+1)=f 0+jY (fun k=>f (k+1)) n
 | 0=>by simp[jY]
 | n+1=>by rw[jY,uD f n,jY];omega
theorem JZ {p:Nat} {f:Nat->Nat}:∀n,(∀k,k<n->p ∣ f k)->p ∣ jY f n
 | 0,_=>⟨0,rfl⟩
 | n+1,h=>Nat.dvd_add (JZ n fun k hk=>h k (by omega)) (h n (by omega))
theorem aeE (a:Nat):∀n,(a+1) ^ n=jY (fun k=>ch n k * a ^ k) (n+1)
 | 0=>rfl
 | n+1=>by
  rw[Nat.pow_succ,aeE a n,Nat.mul_add,Nat.mul_one];have e1:jY (fun k=>ch (n+1) k * a ^ k) (n+1+1)=1+jY (fun k=>ch n k * a ^ k * a+ch n (k+1) * a ^ (k+1)) (n+1):=by
   rw[uD]
   congr 1
   exact BR fun k _=>by rw[uS,Nat.add_mul,Nat.pow_succ,Nat.mul_assoc]
  rw[e1,Ka];have e2:jY (fun k=>ch n k * a ^ k * a) (n+1)=jY (fun k=>ch n k * a ^ k) (n+1) * a:=by
   rw[Nat.mul_comm,←JY];exact BR fun k _=>by rw[Nat.mul_comm]
  have e3:jY (fun k=>ch n k * a ^ k) (n+1)=1+jY (fun k=>ch n (k+1) * a ^ (k+1)) (n+1):=by
   have h1:=uD (fun k=>ch n k * a ^ k) n;have h2:jY (fun k=>ch n (k+1) * a ^ (k+1)) (n+1)=jY (fun k=>ch n (k+1) * a ^ (k+1)) n:=by
    rw[jY,uT n (n+1) (by omega)];simp
   rw[h2,h1,Br];simp
  rw[e2];omega
theorem dx.Zf {p:Nat} (hp:dx p):∀a:Nat,a ^ p % p=a % p
 | 0=>by rw[Nat.zero_pow (by have:=hp.1;omega)]
 | a+1=>by
  have ih:=hp.Zf a;have h0:=hp.1;have e:(a+1) ^ p=1+jY (fun k=>ch p (k+1) * a ^ (k+1)) (p - 1)+a ^ p:=by
   rw[aeE];obtain⟨n,rfl⟩:∃n,p=n+1:=⟨p - 1,by omega⟩
   rw[uD,jY,Br,RN];simp;omega
  have hd:p ∣ jY (fun k=>ch p (k+1) * a ^ (k+1)) (p - 1):=JZ _ fun k hk=>Nat.dvd_trans (hp.ahA (by omega) (by omega)) (Nat.dvd_mul_right _ _);obtain⟨c,hc⟩:=hd;rw[e,hc,show 1+p * c+a ^ p=(1+a ^ p)+p * c by omega,Nat.add_mul_mod_self_left,Nat.add_mod,ih,←Nat.add_mod,Nat.add_comm]
theorem dx.IC {p:Nat} (hp:dx p) {a:Nat} (ha:¬ p ∣ a):a ^ (p - 1) % p=1:=by
 have h:=hp.Zf a;have h0:=hp.1;have h1:a ^ p=a * a ^ (p - 1):=by
  obtain⟨n,rfl⟩:∃n,p=n+1:=⟨p - 1,by omega⟩
  rw[Nat.pow_succ,Nat.mul_comm];rfl
 have hpos:0<a ^ (p - 1):=Nat.pow_pos (by rcases Nat.eq_zero_or_pos a with h2 | h2;(subst h2;exact absurd ⟨0,rfl⟩ ha);exact h2);have h2:p ∣ a * (a ^ (p - 1) - 1):=by
  rw[Nat.mul_sub,Nat.mul_one,←h1];exact Nat.dvd_of_mod_eq_zero (Nat.sub_mod_eq_zero_of_mod_eq h)
 rcases hp.dvd_mul h2 with h3 | h3
 ·exact absurd h3 ha
 ·obtain⟨c,hc⟩:=h3;have:a ^ (p - 1)=1+p * c:=by omega
  rw[this,Nat.add_mul_mod_self_left];exact Nat.mod_eq_of_lt (by omega)
theorem xS (n:Nat) (h:2<=n):∃r,dx r/\r ∣ n/\(r=n\/r * r<=n):=by
 have key:∀k:Nat,(∃d,2<=d/\d ∣ n/\d<=k)->∃r,2<=r/\r ∣ n/\∀d,2<=d->d ∣ n->r<=d:=by
  intro k
  induction k with
  | zero=>rintro⟨d,h1,_,h3⟩;omega
  | succ k ih=>
   rintro⟨d,h1,h2,h3⟩;by_cases hk:∃d,2<=d/\d ∣ n/\d<=k
   ·exact ih hk
   ·refine⟨d,h1,h2,fun e he1 he2=>?_⟩;rcases Nat.lt_or_ge k e with h4 | h4
    ·omega
    ·exact absurd ⟨e,he1,he2,h4⟩ hk
 obtain⟨r,h1,h2,h3⟩:=key n ⟨n,h,Nat.dvd_refl n,Nat.le_refl n⟩;refine⟨r,⟨h1,fun d hd=>?_⟩,h2,?_⟩
 ·have hd0:d≠0:=by rintro rfl;have:=Nat.eq_zero_of_zero_dvd hd;omega
  by_cases e:d=1
  ·exact .inl e
  ·have h4:=h3 d (by omega) (Nat.dvd_trans hd h2);have h5:=Nat.le_of_dvd (by omega) hd;exact .inr (by omega)
 ·obtain⟨e,he⟩:=h2;by_cases e1:e=1
  ·subst e1;left;omega
  ·right
   have e0:e≠0:=by rintro rfl;omega
   have h4:=h3 e (by omega) ⟨r,by rw[he,Nat.mul_comm]⟩;rw[he];exact Nat.mul_le_mul_left r h4
theorem abQ {r b:Nat} (hr:2<=r) (m n:Nat) (h1:b ^ m % r=1) (h2:b ^ n % r=1):b ^ Nat.gcd m n % r=1:=by
 induction m,n using Nat.gcd.induction with
 | H0 n=>rwa [Nat.gcd_zero_left]
 | H1 m n hm ih=>
  rw[Nat.gcd_rec];refine ih ?_ h1;have e:b ^ n=(b ^ m) ^ (n / m) * b ^ (n % m):=by rw[<-Nat.pow_mul,←Nat.pow_add,Nat.div_add_mod]
  have h3:(b ^ m) ^ (n / m) % r=1:=by rw[Nat.pow_mod,h1,Nat.one_pow];exact Nat.mod_eq_of_lt (by omega)
  rw[e,Nat.mul_mod,h3,Nat.one_mul,Nat.mod_mod] at h2;exact h2
theorem XA {n f a:Nat} (hf:dx f) (h1:a ^ (n - 1) % n=1) (hd:f ∣ n - 1) (hg:Nat.gcd (a ^ ((n - 1) / f) % n+(n - 1)) n=1) {r:Nat} (hr:dx r) (hrn:r ∣ n) (hn:2<=n):f ∣ r - 1:=by
 have r2:=hr.1;obtain⟨c,hc⟩:=hrn;have m1:a ^ (n - 1) % r=1:=by
  rw[<-Nat.mod_mod_of_dvd _ ⟨c,hc⟩,h1];exact Nat.mod_eq_of_lt (by omega)
 obtain⟨g,hgf⟩:=hd;have e1:(n - 1) / f=g:=by rw[hgf];exact Nat.mul_div_cancel_left _ (by have:=hf.1;omega)
 rw[e1] at hg;have hbf:(a ^ g) ^ f % r=1:=by rw[<-Nat.pow_mul,Nat.mul_comm,←hgf];exact m1
 have hra:¬ r ∣ a ^ g:=by
  intro h;have h2:r ∣ (a ^ g) ^ f:=Nat.dvd_trans h (by have:=Nat.pow_dvd_pow (a ^ g) (show 1<=f by have:=hf.1;omega);rwa [Nat.pow_one] at this);have:=Nat.mod_eq_zero_of_dvd h2;omega
 have hbr:(a ^ g) ^ (r - 1) % r=1:=hr.IC hra;by_cases hfr:f ∣ r - 1
 ·exact hfr
 ·exfalso
  have h2:=abQ r2 f (r - 1) hbf hbr;rw[hf.coprime hfr,Nat.pow_one] at h2;have h3:r ∣ a ^ g % n+(n - 1):=by
   have h4:(a ^ g % n) % r=1:=by rw[Nat.mod_mod_of_dvd _ ⟨c,hc⟩];exact h2
   have h5:=Nat.div_add_mod (a ^ g % n) r;rw[h4] at h5;have h6:a ^ g % n+(n - 1)=r * (a ^ g % n / r)+n:=by omega
   rw[h6];exact Nat.dvd_add (Nat.dvd_mul_right _ _) ⟨c,hc⟩
  have h4:r ∣ Nat.gcd (a ^ g % n+(n - 1)) n:=Nat.dvd_gcd h3 ⟨c,hc⟩;rw[hg] at h4;exact hr.Lg h4
theorem Ey {n F:Nat} (hn:2<=n) (hF:n<(F+1) * (F+1)) (hdvd:∀r,dx r->r ∣ n->F ∣ r - 1):dx n:=by
 obtain⟨r,hr,hrn,h⟩:=xS n hn;rcases h with h | h
 ·rw[<-h];exact hr
 ·exfalso
  have h1:=hdvd r hr hrn;have h2:=Nat.le_of_dvd (by have:=hr.1;omega) h1;have h4:=hr.1;have h3:(F+1) * (F+1)<=r * r:=Nat.mul_le_mul (by omega) (by omega);omega
def nI (n:Nat):Nat->Nat->Nat->Nat->Nat
 | 0,_,_,acc=>acc
 | k+1,b,e,acc=>nI n k (b * b % n) (e / 2) (if e % 2=1 then acc * b % n else acc)
theorem oq (n:Nat):∀k b e acc,e<2 ^ k->nI n k b e acc % n=acc * b ^ e % n
 | 0,b,e,acc,h=>by
  have:e=0:=by simpa using h
  subst this;simp[nI]
 | k+1,b,e,acc,h=>by
  rw[nI,oq n k _ _ _ (by rw[Nat.pow_succ] at h;omega)];have e1:b ^ e=(b * b) ^ (e / 2) * b ^ (e % 2):=by rw[<-Nat.pow_two,←Nat.pow_mul,←Nat.pow_add,Nat.div_add_mod]
  have e2:(b * b % n) ^ (e / 2) % n=(b * b) ^ (e / 2) % n:=(Nat.pow_mod _ _ _).symm;rw[e1]
  split
  ·rename_i h1
   rw[h1,Nat.pow_one,Nat.mul_mod,e2,Nat.mod_mod,←Nat.mul_mod,Nat.mul_assoc,Nat.mul_comm b]
  ·have h1:e % 2=0:=by omega
   rw[h1,Nat.pow_zero,Nat.mul_one,Nat.mul_mod,e2,←Nat.mul_mod]
def xO (n:Nat):Nat->Nat->Bool
 | 0,_=>true
 | k+1,d=>n % d !=0 && xO n k (d+1)
theorem vN {n:Nat}:∀k d,xO n k d=true->∀e,d<=e->e<d+k->¬ e ∣ n
 | 0,d,_,e,h1,h2=>by omega
 | k+1,d,h,e,h1,h2=>by
  unfold xO at h;rw[Bool.and_eq_true] at h;by_cases he:e=d
  ·subst he;intro hd;have:=Nat.mod_eq_zero_of_dvd hd;simp[this] at h
  ·exact vN k (d+1) h.2 e (by omega) (by omega)
theorem jk {n:Nat} (k:Nat) (hn:2<=n) (hk:n<(k+2) * (k+2)) (h:xO n k 2=true):dx n:=by
 obtain⟨r,hr,hrn,h1⟩:=xS n hn;rcases h1 with h1 | h1
 ·rw[<-h1];exact hr
 ·exfalso
  have hlt:r<k+2:=by
   rcases Nat.lt_or_ge r (k+2) with h2 | h2
   ·exact h2
   ·have:=Nat.mul_le_mul h2 h2;omega
  exact vN k 2 h r hr.1 (by omega) hrn
theorem gN {n f:Nat} (a k:Nat) (hn:2<=n) (hf:dx f) (hk:n - 1<2 ^ k) (h1:nI n k a (n - 1) 1 % n=1) (hd:f ∣ n - 1) (hg:Nat.gcd (nI n k a ((n - 1) / f) 1 % n+(n - 1)) n=1):∀r,dx r->r ∣ n->f ∣ r - 1:=by
 intro r hr hrn;rw[oq n k a _ 1 hk,Nat.one_mul] at h1;rw[oq n k a _ 1 (Nat.lt_of_le_of_lt (Nat.div_le_self _ _) hk),Nat.one_mul] at hg;exact XA hf h1 hd hg hr hrn hn
theorem yj {f g m:Nat} (hf:dx f) (hfg:¬ f ∣ g) (h1:f ∣ m) (h2:g ∣ m):f * g ∣ m:=(hf.coprime hfg).mul_dvd_of_dvd_of_dvd h1 h2
theorem Tk:dx 127:=jk 11 (by decide) (by decide) (by decide+kernel)
theorem KJ:dx 75707:=jk 275 (by decide) (by decide) (by decide+kernel)
theorem Ew:dx 1923133:=jk 1386 (by decide) (by decide) (by decide+kernel)
theorem vK:dx 8574133:=jk 2928 (by decide) (by decide) (by decide+kernel)
theorem KG:dx 1919519569386763:=Ey (F:=8574133 * 127) (by decide) (by decide) fun r hr hrn=>
 yj vK (by decide) (gN 2 64 (by decide) vK (by decide) (by decide+kernel) (by decide) (by decide+kernel) r hr hrn) (gN 2 64 (by decide) Tk (by decide) (by decide+kernel) (by decide) (by decide+kernel) r hr hrn)
theorem KH:dx 75445702479781427272750846543864801:=Ey (F:=1919519569386763 * 75707) (by decide) (by decide) fun r hr hrn=>
 yj KG (by decide) (gN 2 128 (by decide) KG (by decide) (by decide+kernel) (by decide) (by decide+kernel) r hr hrn) (gN 2 128 (by decide) KJ (by decide) (by decide+kernel) (by decide) (by decide+kernel) r hr hrn)
theorem Xu:dx 74058212732561358302231226437062788676166966415465897661863160754340907:=Ey (F:=75445702479781427272750846543864801 * 1923133) (by decide) (by decide) fun r hr hrn=>
 yj KH (by decide) (gN 2 256 (by decide) KH (by decide) (by decide+kernel) (by decide) (by decide+kernel) r hr hrn) (gN 2 256 (by decide) Ew (by decide) (by decide+kernel) (by decide) (by decide+kernel) r hr hrn)
def PN:Nat:=57896044618658097711785492504343953926634992332820282019728792003956564819949
theorem KI:dx PN:=Ey (F:=74058212732561358302231226437062788676166966415465897661863160754340907) (by decide) (by decide) fun r hr hrn=>
 gN 2 256 (by decide) Xu (by decide) (by decide+kernel) (by decide) (by decide+kernel) r hr hrn
theorem vL:dx 1224481:=jk 1106 (by decide) (by decide) (by decide+kernel)
theorem Hu:dx 531581:=jk 729 (by decide) (by decide) (by decide+kernel)
theorem Xv:dx 1257559732178653:=Ey (F:=1224481 * 531581) (by decide) (by decide) fun r hr hrn=>
 yj vL (by decide) (gN 2 64 (by decide) vL (by decide) (by decide+kernel) (by decide) (by decide+kernel) r hr hrn) (gN 2 64 (by decide) Hu (by decide) (by decide+kernel) (by decide) (by decide+kernel) r hr hrn)
theorem Xw:dx 4434155615661930479:=Ey (F:=1257559732178653) (by decide) (by decide) fun r hr hrn=>
 gN 2 64 (by decide) Xv (by decide) (by decide+kernel) (by decide) (by decide+kernel) r hr hrn
theorem Xx:dx 172054593956031949258510691:=Ey (F:=4434155615661930479) (by decide) (by decide) fun r hr hrn=>
 gN 2 128 (by decide) Xw (by decide) (by decide+kernel) (by decide) (by decide+kernel) r hr hrn
theorem Xy:dx 19757330305831588566944191468367130476339:=Ey (F:=172054593956031949258510691) (by decide) (by decide) fun r hr hrn=>
 gN 2 256 (by decide) Xx (by decide) (by decide+kernel) (by decide) (by decide+kernel) r hr hrn
theorem Xz:dx 276602624281642239937218680557139826668747:=Ey (F:=19757330305831588566944191468367130476339) (by decide) (by decide) fun r hr hrn=>
 gN 2 256 (by decide) Xy (by decide) (by decide+kernel) (by decide) (by decide+kernel) r hr hrn
theorem QW:dx 7237005577332262213973186563042994240857116359379907606001950938285454250989:=Ey (F:=276602624281642239937218680557139826668747) (by decide) (by decide) fun r hr hrn=>
 gN 2 256 (by decide) Xz (by decide) (by decide+kernel) (by decide) (by decide+kernel) r hr hrn
end Go.bI
