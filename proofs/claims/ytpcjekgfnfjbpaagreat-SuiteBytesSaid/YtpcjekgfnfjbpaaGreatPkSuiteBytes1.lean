/- Part 1 of SuiteBytes; conditions: in each theorem. -/

set_option linter.unusedVariables false
set_option linter.unusedSimpArgs false
namespace Go.bC
theorem Qw {K:Type} {l:List K} (h:l.Nodup) {i j:Nat} (hi:i<l.length) (hj:j<l.length) (e:l[i] =l[j]):i=j:=by
 have hp:=List.pairwise_iff_getElem.1 h;rcases Nat.lt_trichotomy i j with h1 | h1 | h1
 ·exact absurd e (hp i j hi hj h1)
 ·exact h1
 ·exact absurd e.symm (hp j i hj hi h1)
section
variable {K : Type} [DecidableEq K]
theorem Qv {l m:List K} (hn:l.Nodup) (hs:∀x,x ∈ l->x ∈ m):l.length<=m.length:=by
 induction l generalizing m with
 | nil=>exact Nat.zero_le _
 | cons a l ih=>
  rw[List.nodup_cons] at hn;have ha:a ∈ m:=hs a (List.mem_cons_self ..);have h:=ih (m:=m.erase a) hn.2 fun x hx=>(List.mem_erase_of_ne (by rintro rfl;exact hn.1 hx)).2 (hs x (List.mem_cons_of_mem _ hx));rw[List.length_erase_of_mem ha] at h;have:0<m.length:=List.length_pos_of_mem ha;simp only[List.length_cons];omega
def DC (L:List K) (x:K):Nat:=L.idxOf x
theorem uY {L:List K} {x:K} (h:x ∈ L):DC L x<L.length:=List.idxOf_lt_length_iff.2 h
theorem wN {L:List K} {x:K} (h:x ∈ L):L[DC L x]? =some x:=by
 unfold DC;rw[List.getElem?_eq_getElem (List.idxOf_lt_length_iff.2 h),List.getElem_idxOf]
theorem Gz {L:List K} (hn:L.Nodup) {j:Nat} {x:K} (h:L[j]? =some x):DC L x=j:=by
 obtain⟨hj,he⟩:=List.getElem?_eq_some_iff.1 h;have hm:x ∈ L:=List.mem_of_getElem? h;obtain⟨h1,h2⟩:=List.getElem?_eq_some_iff.1 (wN hm);exact Qw hn h1 hj (h2.trans he.symm)
theorem uX {L M:List K} (hn:M.Nodup) (hp:L <+:M) {x:K} (h:x ∈ L):DC M x=DC L x:=by
 obtain⟨t,rfl⟩:=hp;refine Gz hn ?_;rw[List.getElem?_append_left (uY h)];exact wN h
theorem Mq {α:Type} {l m:List α} (h:l <+:m) {i:Nat} {x:α} (hx:l[i]? =some x):m[i]? =some x:=by
 obtain⟨t,rfl⟩:=h;rw[List.getElem?_append_left (List.getElem?_eq_some_iff.1 hx).1];exact hx
variable {E : List (K × K)} {fr : List K}
end
section
variable {K : Type}
end
section
variable {K : Type} [DecidableEq K]
end
abbrev Tm:=Int × Int × Int
structure TS where
 l:List Tm
 tx:List (List Int)
def oz:Int:=4611686018427387904
def GQ (l:List Tm) (n kind:Int):Bool:=match l[n.toNat]? with | some t=>decide (t.1=kind) | none=>false
def ig (l:List Tm) (n kind:Int):Bool:=(decide (0<=n) && decide (n<l.length)) && (decide (kind=0) || GQ l n kind)
def nY (S:TS) (t:Tm):Bool:=
 if t.1=1 then (decide (1<=t.2.1) && decide (t.2.1<=4)) && decide (0<=t.2.2)
 else if t.1=2\/t.1=3\/t.1=6\/t.1=7 then ig S.l t.2.1 0 && decide (t.2.2=0)
 else if t.1=4 then ig S.l t.2.1 2 && ig S.l t.2.2 0
 else if t.1=5 then ig S.l t.2.1 0 && ig S.l t.2.2 0
 else if t.1=8 then ig S.l t.2.1 0 && ig S.l t.2.2 9
 else if t.1=9 then (decide (0<=t.2.1) && decide (t.2.1<S.tx.length)) && decide (t.2.2=0)
 else if t.1=10 then ig S.l t.2.1 9 && decide (t.2.2=0)
 else false
def xR (l:List Tm) (s:Int):Int:=l.foldl (fun b t=>if t.1=1/\t.2.1=s then max b (min t.2.2 oz+1) else b) 0
def TS.add (S:TS) (t:Tm):TS:=⟨S.l++ [t],S.tx⟩
def TS.put (S:TS) (t:Tm):TS:=if nY S t=true/\t ∉ S.l then S.add t else S
def rQ (S:TS) (t:Tm):Int × Int:=if nY S t=true then (if t ∈ S.l then (DC S.l t:Int) else (S.l.length:Int),0) else (0,2)
def isSort (s:Int):Bool:=decide (1<=s) && decide (s<=4)
def TS.draw (S:TS) (s:Int):TS:=if isSort s=true/\xR S.l s<=oz then S.add (1,s,xR S.l s) else S
def zo (S:TS) (s:Int):Int × Int:=if isSort s=true then (if xR S.l s<=oz then ((S.l.length:Int),0) else (0,3)) else (0,2)
def TS.text (S:TS) (b:List Int):TS:=if b ∈ S.tx then S else ⟨S.l++ [(9,(S.tx.length:Int),0)],S.tx++ [b]⟩
def yQ (S:TS) (b:List Int):Int:=if b ∈ S.tx then (DC S.l (9,(DC S.tx b:Int),0):Int) else S.l.length
def okT (l:List Tm) (n i:Nat) (t:Tm):Prop:=
 (t.1=1/\(1<=t.2.1/\t.2.1<=4)/\0<=t.2.2)\/
 ((t.1=2\/t.1=3\/t.1=6\/t.1=7)/\(∃a:Nat,t.2.1=a/\a<i)/\t.2.2=0)\/
 (t.1=4/\(∃a:Nat,t.2.1=a/\a<i/\∃u,l[a]? =some u/\u.1=2)/\∃b:Nat,t.2.2=b/\b<i)\/
 (t.1=5/\(∃a:Nat,t.2.1=a/\a<i)/\∃b:Nat,t.2.2=b/\b<i)\/
 (t.1=8/\(∃a:Nat,t.2.1=a/\a<i)/\∃b:Nat,t.2.2=b/\b<i/\∃u,l[b]? =some u/\u.1=9)\/
 (t.1=9/\(∃a:Nat,t.2.1=a/\a<n)/\t.2.2=0)\/
 (t.1=10/\(∃a:Nat,t.2.1=a/\a<i/\∃u,l[a]? =some u/\u.1=9)/\t.2.2=0)
structure TS.Ok (S:TS):Prop where
 nd:S.l.Nodup
 ok:∀i t,S.l[i]? =some t->okT S.l S.tx.length i t
 all:∀j,j<S.tx.length->((9,(j:Int),0):Tm) ∈ S.l
 txn:S.tx.Nodup
theorem qj {l:List Tm} {n kind:Int}:ig l n kind=true ↔ ∃a:Nat,n=a/\∃t,l[a]? =some t/\(kind=0\/t.1=kind):=by
 unfold ig GQ
 constructor
 ·intro h;simp only[Bool.and_eq_true,decide_eq_true_eq,Bool.or_eq_true] at h;obtain⟨⟨h1,h2⟩,h3⟩:=h;obtain⟨a,rfl⟩:=Int.eq_ofNat_of_zero_le h1;have hl:a<l.length:=by omega
  refine⟨a,rfl,l[a],List.getElem?_eq_getElem hl,?_⟩;rw[Int.toNat_natCast,List.getElem?_eq_getElem hl] at h3
  simpa using h3
 ·rintro⟨a,rfl,t,h1,h2⟩;have hl:a<l.length:=(List.getElem?_eq_some_iff.1 h1).1;rw[Int.toNat_natCast,h1];simp only[Bool.and_eq_true,decide_eq_true_eq,Bool.or_eq_true];exact⟨⟨by omega,by omega⟩,h2⟩
theorem Bl {l l':List Tm} {n n' i:Nat} {t:Tm} (hl:l <+:l') (hn:n<=n') (h:okT l n i t):okT l' n' i t:=by
 have up:∀{a:Nat} {k:Int},(∃u,l[a]? =some u/\u.1=k)->∃u,l'[a]? =some u/\u.1=k:=fun⟨u,h1,h2⟩=>⟨u,Mq hl h1,h2⟩
 rcases h with h | h | ⟨h,⟨a,h1,h2,h3⟩,h4⟩ | h | ⟨h,h1,b,h2,h3,h4⟩ | ⟨h,⟨a,h1,h2⟩,h3⟩ | ⟨h,⟨a,h1,h2,h3⟩,h4⟩
 ·exact .inl h
 ·exact .inr (.inl h)
 ·exact .inr (.inr (.inl ⟨h,⟨a,h1,h2,up h3⟩,h4⟩))
 ·exact .inr (.inr (.inr (.inl h)))
 ·exact .inr (.inr (.inr (.inr (.inl ⟨h,h1,b,h2,h3,up h4⟩))))
 ·exact .inr (.inr (.inr (.inr (.inr (.inl ⟨h,⟨a,h1,by omega⟩,h3⟩)))))
 ·exact .inr (.inr (.inr (.inr (.inr (.inr ⟨h,⟨a,h1,h2,up h3⟩,h4⟩)))))
theorem nG {l:List Tm} {n kind:Int} (h:ig l n kind=true):∃a:Nat,n=a/\a<l.length/\(kind≠0->∃u,l[a]? =some u/\u.1=kind):=by
 obtain⟨a,h1,t,h2,h3⟩:=qj.1 h;exact⟨a,h1,(List.getElem?_eq_some_iff.1 h2).1,fun hk=>⟨t,h2,h3.resolve_left hk⟩⟩
theorem YC {S:TS} {t:Tm} (h:nY S t=true):okT S.l S.tx.length S.l.length t:=by
 unfold nY at h
 split at h
 ·rename_i h1
  simp only[Bool.and_eq_true,decide_eq_true_eq] at h;exact .inl ⟨h1,h.1,h.2⟩
 split at h
 ·rename_i h1
  simp only[Bool.and_eq_true,decide_eq_true_eq] at h;obtain⟨a,e1,e2,_⟩:=nG h.1;exact .inr (.inl ⟨h1,⟨a,e1,e2⟩,h.2⟩)
 split at h
 ·rename_i h1
  simp only[Bool.and_eq_true] at h;obtain⟨a,e1,e2,e3⟩:=nG h.1;obtain⟨b,f1,f2,_⟩:=nG h.2;exact .inr (.inr (.inl ⟨h1,⟨a,e1,e2,e3 (by decide)⟩,b,f1,f2⟩))
 split at h
 ·rename_i h1
  simp only[Bool.and_eq_true] at h;obtain⟨a,e1,e2,_⟩:=nG h.1;obtain⟨b,f1,f2,_⟩:=nG h.2;exact .inr (.inr (.inr (.inl ⟨h1,⟨a,e1,e2⟩,b,f1,f2⟩)))
 split at h
 ·rename_i h1
  simp only[Bool.and_eq_true] at h;obtain⟨a,e1,e2,_⟩:=nG h.1;obtain⟨b,f1,f2,f3⟩:=nG h.2;exact .inr (.inr (.inr (.inr (.inl ⟨h1,⟨a,e1,e2⟩,b,f1,f2,f3 (by decide)⟩))))
 split at h
 ·rename_i h1
  simp only[Bool.and_eq_true,decide_eq_true_eq] at h;obtain⟨a,ha⟩:=Int.eq_ofNat_of_zero_le h.1.1;exact .inr (.inr (.inr (.inr (.inr (.inl ⟨h1,⟨a,ha,by omega⟩,h.2⟩)))))
 split at h
 ·rename_i h1
  simp only[Bool.and_eq_true,decide_eq_true_eq] at h;obtain⟨a,e1,e2,e3⟩:=nG h.1;exact .inr (.inr (.inr (.inr (.inr (.inr ⟨h1,⟨a,e1,e2,e3 (by decide)⟩,h.2⟩)))))
 ·cases h
theorem TS.Ok.empty:TS.Ok ⟨[], []⟩:=⟨List.nodup_nil,(fun i t h=>by simp at h),(fun j hj=>absurd hj (Nat.not_lt_zero _)),List.nodup_nil⟩
theorem gH {α:Type} {l:List α} {x:α} (h:l.Nodup) (hx:x ∉ l):(l++ [x]).Nodup:=by
 rw[List.nodup_append];exact⟨h,by simp,fun a ha b hb=>by simp at hb;subst hb;intro e;subst e;exact hx ha⟩
theorem TS.Ok.add {S:TS} {t:Tm} (h:S.Ok) (ht:t ∉ S.l) (ho:okT S.l S.tx.length S.l.length t):(S.add t).Ok:=by
 refine⟨gH h.nd ht,fun i u hu=>?_,fun j hj=>List.mem_append.2 (.inl (h.all j hj)),h.txn⟩;have hp:S.l <+:S.l++ [t] :=List.prefix_append _ _;have hu:(S.l++ [t])[i]? =some u:=hu;by_cases hi:i<S.l.length
 ·rw[List.getElem?_append_left hi] at hu;exact Bl hp (Nat.le_refl _) (h.ok i u hu)
 ·have hl:=(List.getElem?_eq_some_iff.1 hu).1;rw[List.length_append,List.length_singleton] at hl;obtain rfl:i=S.l.length:=by omega
  rw[List.getElem?_append_right (Nat.le_refl _),Nat.sub_self] at hu;cases hu
  exact Bl hp (Nat.le_refl _) ho
theorem EJ (s:Int):∀(l:List Tm) (b:Int),b<=l.foldl (fun b t=>if t.1=1/\t.2.1=s then max b (min t.2.2 oz+1) else b) b/\
  ∀t,t ∈ l->t.1=1->t.2.1=s->min t.2.2 oz+1<=l.foldl (fun b t=>if t.1=1/\t.2.1=s then max b (min t.2.2 oz+1) else b) b:=by
 intro l
 induction l with
 | nil=>intro b;exact⟨Int.le_refl _,fun t h=>by cases h⟩
 | cons a l ih=>
  intro b;rw[List.foldl_cons];obtain⟨h1,h2⟩:=ih (if a.1=1/\a.2.1=s then max b (min a.2.2 oz+1) else b);refine⟨Int.le_trans ?_ h1,fun t ht hk hs=>?_⟩
  ·split<;> omega
  ·rcases List.mem_cons.1 ht with rfl | ht
   ·refine Int.le_trans ?_ h1;rw[if_pos ⟨hk,hs⟩];omega
   ·exact h2 t ht hk hs
theorem abP {l:List Tm} {s:Int} {t:Tm} (ht:t ∈ l) (hk:t.1=1) (hs:t.2.1=s):min t.2.2 oz+1<=xR l s:=(EJ s l 0).2 t ht hk hs
theorem Mw (l:List Tm) (s:Int):0<=xR l s:=(EJ s l 0).1
theorem sQ (l:List Tm) (t:Tm) (s:Int):xR (l++ [t]) s=if t.1=1/\t.2.1=s then max (xR l s) (min t.2.2 oz+1) else xR l s:=by
 unfold xR;rw[List.foldl_append]
 rfl
theorem abQ (s:Int):∀(l:List Tm) (b:Int),b<=oz+1->l.foldl (fun b t=>if t.1=1/\t.2.1=s then max b (min t.2.2 oz+1) else b) b<=oz+1:=by
 intro l
 induction l with
 | nil=>intro b h;exact h
 | cons a l ih=>
  intro b h;rw[List.foldl_cons];refine ih _ ?_
  split<;> omega
theorem Yr (l:List Tm) (s:Int):xR l s<=oz+1:=abQ s l 0 (by unfold oz;omega)
theorem Yt {l:List Tm} {s:Int} (h:xR l s<=oz):((1,s,xR l s):Tm) ∉ l:=fun hm=>by
 have:=abP hm rfl rfl;simp only at this;omega
theorem TS.Ok.Vz {S:TS} (h:S.Ok):((9,(S.tx.length:Int),0):Tm) ∉ S.l:=fun hm=>by
 obtain⟨j,hj,e⟩:=List.mem_iff_getElem.1 hm;have:=h.ok j _ (by rw[List.getElem?_eq_getElem hj,e]);rcases this with⟨h,_⟩ | ⟨h,_⟩ | ⟨h,_⟩ | ⟨h,_⟩ | ⟨h,_⟩ | ⟨_,⟨a,h1,h2⟩,_⟩ | ⟨h,_⟩
 ·exact absurd h (by show ¬ _;simp)
 ·exact absurd h (by show ¬ _;simp)
 ·exact absurd h (by show ¬ _;simp)
 ·exact absurd h (by show ¬ _;simp)
 ·exact absurd h (by show ¬ _;simp)
 ·simp only at h1;omega
 ·exact absurd h (by show ¬ _;simp)
theorem TS.Ok.text {S:TS} (h:S.Ok) (b:List Int):(S.text b).Ok:=by
 unfold TS.text
 split
 ·exact h
 ·rename_i hb
  have hp:S.l <+:S.l++ [((9,(S.tx.length:Int),0):Tm)] :=List.prefix_append _ _;refine⟨gH h.nd h.Vz,fun i u hu=>?_,fun j hj=>?_,gH h.txn hb⟩
  ·have hu:(S.l++ [((9,(S.tx.length:Int),0):Tm)])[i]? =some u:=hu;show okT (S.l++ [((9,(S.tx.length:Int),0):Tm)]) (S.tx++ [b]).length i u;rw[List.length_append,List.length_singleton];by_cases hi:i<S.l.length
   ·rw[List.getElem?_append_left hi] at hu;exact Bl hp (by omega) (h.ok i u hu)
   ·have hl:=(List.getElem?_eq_some_iff.1 hu).1;rw[List.length_append,List.length_singleton] at hl;obtain rfl:i=S.l.length:=by omega
    rw[List.getElem?_append_right (Nat.le_refl _),Nat.sub_self] at hu;cases hu
    exact .inr (.inr (.inr (.inr (.inr (.inl ⟨rfl,⟨S.tx.length,rfl,by omega⟩,rfl⟩)))))
  ·have hj:j<(S.tx++ [b]).length:=hj;rw[List.length_append,List.length_singleton] at hj;show _ ∈ S.l++_;rw[List.mem_append,List.mem_singleton];by_cases h':j<S.tx.length
   ·exact .inl (h.all j h')
   ·exact .inr (by rw[show j=S.tx.length by omega])
def Ox (x:Int):Prop:= -9223372036854775808<=x/\x<=9223372036854775807
def Bj (t:Tm):Prop:=Ox t.1/\Ox t.2.1/\Ox t.2.2
theorem Zx (S:TS) (t:Tm):(S.add t).l.length=S.l.length+1:=by simp[TS.add]
theorem SN (S:TS) (b:List Int):(S.text b).l.length<=S.l.length+1/\(S.text b).tx.length<=S.tx.length+1:=by
 unfold TS.text
 split
 ·exact⟨by omega,by omega⟩
 ·simp
def eU (n:Nat):Prop:=2<=n/\∀d,d ∣ n->d=1\/d=n
theorem eU.coprime {p a:Nat} (hp:eU p) (h:¬ p ∣ a):Nat.Coprime p a:=by
 rcases hp.2 (Nat.gcd p a) (Nat.gcd_dvd_left p a) with h1 | h1
 ·exact h1
 ·exact absurd (by rw[<-h1];exact Nat.gcd_dvd_right p a) h
theorem eU.dvd_mul {p a b:Nat} (hp:eU p) (h:p ∣ a * b):p ∣ a\/p ∣ b:=by
 by_cases ha:p ∣ a
 ·exact .inl ha
 ·exact .inr ((hp.coprime ha).dvd_of_dvd_mul_left h)
theorem eU.JX {p:Nat} (hp:eU p):¬ p ∣ 1:=fun h=>by have:=Nat.le_of_dvd (by decide) h;have:=hp.1;omega
def ch:Nat->Nat->Nat
 | _,0=>1
 | 0,_+1=>0
 | n+1,k+1=>ch n k+ch n (k+1)
theorem Af (n:Nat):ch n 0=1:=by cases n<;> rfl
theorem um (n k:Nat):ch (n+1) (k+1)=ch n k+ch n (k+1):=rfl
theorem uo:∀n k,n<k->ch n k=0
 | 0,k+1,_=>rfl
 | n+1,k+1,h=>by rw[um,uo n k (by omega),uo n (k+1) (by omega)]
theorem OY:∀n,ch n n=1
 | 0=>rfl
 | n+1=>by rw[um,OY n,uo n (n+1) (by omega)]
theorem adE:∀n k,(k+1) * ch (n+1) (k+1)=(n+1) * ch n k:=by
 intro n
 induction n with
 | zero=>
  intro k
  cases k with
  | zero=>rfl
  | succ k=>rw[um,uo 0 (k+1) (by omega),uo 0 (k+1+1) (by omega)];simp
 | succ n ih=>
  intro k;rw[um (n+1) k,Nat.mul_add,ih k]
  cases k with
  | zero=>rw[Af,Af];omega
  | succ j=>
   have h1:=ih j;have h2:=um n j;have h3:(n+1+1) * ch (n+1) (j+1)=(n+1) * (ch n j+ch n (j+1))+ch (n+1) (j+1):=by rw[<-h2,Nat.succ_mul]
   rw[h3,Nat.mul_add];have h4:(j+1+1) * ch (n+1) (j+1)=(j+1) * ch (n+1) (j+1)+ch (n+1) (j+1):=Nat.succ_mul _ _;omega
theorem eU.ady {p k:Nat} (hp:eU p) (h0:0<k) (h1:k<p):p ∣ ch p k:=by
 obtain⟨j,rfl⟩:∃j,k=j+1:=⟨k - 1,by omega⟩
 obtain⟨n,rfl⟩:∃n,p=n+1:=⟨p - 1,by omega⟩
 have h:=adE n j;have hd:n+1 ∣ (j+1) * ch (n+1) (j+1):=⟨_,h⟩
 rcases hp.dvd_mul hd with h2 | h2
 ·have:=Nat.le_of_dvd (by omega) h2;omega
 ·exact h2
def jI (f:Nat->Nat):Nat->Nat
 | 0=>0
 | n+1=>jI f n+f n
theorem Ao {f g:Nat->Nat} {n:Nat} (h:∀k,k<n->f k=g k):jI f n=jI g n:=by
 induction n with
 | zero=>rfl
 | succ n ih=>rw[jI,jI,ih fun k hk=>h k (by omega),h n (by omega)]
theorem Jh (f g:Nat->Nat):∀n,jI (fun k=>f k+g k) n=jI f n+jI g n
 | 0=>rfl
 | n+1=>by rw[jI,jI,jI,Jh f g n];omega
theorem Jf (a:Nat) (f:Nat->Nat):∀n,jI (fun k=>a * f k) n=a * jI f n
 | 0=>rfl
 | n+1=>by rw[jI,jI,Jf a f n,Nat.mul_add]
theorem tZ (f:Nat->Nat):∀n,jI f (n+1)=f 0+jI (fun k=>f (k+1)) n
 | 0=>by simp[jI]
 | n+1=>by rw[jI,tZ f n,jI];omega
theorem Jg {p:Nat} {f:Nat->Nat}:∀n,(∀k,k<n->p ∣ f k)->p ∣ jI f n
 | 0,_=>⟨0,rfl⟩
 | n+1,h=>Nat.dvd_add (Jg n fun k hk=>h k (by omega)) (h n (by omega))
theorem aaG (a:Nat):∀n,(a+1) ^ n=jI (fun k=>ch n k * a ^ k) (n+1)
 | 0=>rfl
 | n+1=>by
  rw[Nat.pow_succ,aaG a n,Nat.mul_add,Nat.mul_one];have e1:jI (fun k=>ch (n+1) k * a ^ k) (n+1+1)=1+jI (fun k=>ch n k * a ^ k * a+ch n (k+1) * a ^ (k+1)) (n+1):=by
   rw[tZ]
   congr 1
   exact Ao fun k _=>by rw[um,Nat.add_mul,Nat.pow_succ,Nat.mul_assoc]
  rw[e1,Jh];have e2:jI (fun k=>ch n k * a ^ k * a) (n+1)=jI (fun k=>ch n k * a ^ k) (n+1) * a:=by
   rw[Nat.mul_comm,←Jf];exact Ao fun k _=>by rw[Nat.mul_comm]
  have e3:jI (fun k=>ch n k * a ^ k) (n+1)=1+jI (fun k=>ch n (k+1) * a ^ (k+1)) (n+1):=by
   have h1:=tZ (fun k=>ch n k * a ^ k) n;have h2:jI (fun k=>ch n (k+1) * a ^ (k+1)) (n+1)=jI (fun k=>ch n (k+1) * a ^ (k+1)) n:=by
    rw[jI,uo n (n+1) (by omega)];simp
   rw[h2,h1,Af];simp
  rw[e2];omega
theorem eU.VG {p:Nat} (hp:eU p):∀a:Nat,a ^ p % p=a % p
 | 0=>by rw[Nat.zero_pow (by have:=hp.1;omega)]
 | a+1=>by
  have ih:=hp.VG a;have h0:=hp.1;have e:(a+1) ^ p=1+jI (fun k=>ch p (k+1) * a ^ (k+1)) (p - 1)+a ^ p:=by
   rw[aaG];obtain⟨n,rfl⟩:∃n,p=n+1:=⟨p - 1,by omega⟩
   rw[tZ,jI,Af,OY];simp;omega
  have hd:p ∣ jI (fun k=>ch p (k+1) * a ^ (k+1)) (p - 1):=Jg _ fun k hk=>Nat.dvd_trans (hp.ady (by omega) (by omega)) (Nat.dvd_mul_right _ _);obtain⟨c,hc⟩:=hd;rw[e,hc,show 1+p * c+a ^ p=(1+a ^ p)+p * c by omega,Nat.add_mul_mod_self_left,Nat.add_mod,ih,←Nat.add_mod,Nat.add_comm]
theorem eU.OQ {p:Nat} (hp:eU p) {a:Nat} (ha:¬ p ∣ a):a ^ (p - 1) % p=1:=by
 have h:=hp.VG a;have h0:=hp.1;have h1:a ^ p=a * a ^ (p - 1):=by
  obtain⟨n,rfl⟩:∃n,p=n+1:=⟨p - 1,by omega⟩
  rw[Nat.pow_succ,Nat.mul_comm];rfl
 have hpos:0<a ^ (p - 1):=Nat.pow_pos (by rcases Nat.eq_zero_or_pos a with h2 | h2;(subst h2;exact absurd ⟨0,rfl⟩ ha);exact h2);have h2:p ∣ a * (a ^ (p - 1) - 1):=by
  rw[Nat.mul_sub,Nat.mul_one,←h1];exact Nat.dvd_of_mod_eq_zero (Nat.sub_mod_eq_zero_of_mod_eq h)
 rcases hp.dvd_mul h2 with h3 | h3
 ·exact absurd h3 ha
 ·obtain⟨c,hc⟩:=h3;have:a ^ (p - 1)=1+p * c:=by omega
  rw[this,Nat.add_mul_mod_self_left];exact Nat.mod_eq_of_lt (by omega)
theorem wW (n:Nat) (h:2<=n):∃r,eU r/\r ∣ n/\(r=n\/r * r<=n):=by
 have key:∀k:Nat,(∃d,2<=d/\d ∣ n/\d<=k)->∃r,2<=r/\r ∣ n/\∀d,2<=d->d ∣ n->r<=d:=by
  intro k
  induction k with
  | zero=>rintro⟨d,h1,_,h3⟩;omega
  | succ k ih=>
   rintro⟨d,h1,h2,h3⟩;by_cases hk:∃d,2<=d/\d ∣ n/\d<=k
   ·exact ih hk
   ·refine⟨d,h1,h2,fun e he1 he2=>?_⟩;rcases Nat.lt_or_ge k e with h4 | h4
    ·omega
    ·exact absurd ⟨e,he1,he2,h4⟩ hk
 obtain⟨r,h1,h2,h3⟩:=key n ⟨n,h,Nat.dvd_refl n,Nat.le_refl n⟩;refine⟨r,⟨h1,fun d hd=>?_⟩,h2,?_⟩
 ·have hd0:d≠0:=by rintro rfl;have:=Nat.eq_zero_of_zero_dvd hd;omega
  by_cases e:d=1
  ·exact .inl e
  ·have h4:=h3 d (by omega) (Nat.dvd_trans hd h2);have h5:=Nat.le_of_dvd (by omega) hd;exact .inr (by omega)
 ·obtain⟨e,he⟩:=h2;by_cases e1:e=1
  ·subst e1;left;omega
  ·right
   have e0:e≠0:=by rintro rfl;omega
   have h4:=h3 e (by omega) ⟨r,by rw[he,Nat.mul_comm]⟩;rw[he];exact Nat.mul_le_mul_left r h4
theorem Yf {r b:Nat} (hr:2<=r) (m n:Nat) (h1:b ^ m % r=1) (h2:b ^ n % r=1):b ^ Nat.gcd m n % r=1:=by
 induction m,n using Nat.gcd.induction with
 | H0 n=>rwa [Nat.gcd_zero_left]
 | H1 m n hm ih=>
  rw[Nat.gcd_rec];refine ih ?_ h1;have e:b ^ n=(b ^ m) ^ (n / m) * b ^ (n % m):=by rw[<-Nat.pow_mul,←Nat.pow_add,Nat.div_add_mod]
  have h3:(b ^ m) ^ (n / m) % r=1:=by rw[Nat.pow_mod,h1,Nat.one_pow];exact Nat.mod_eq_of_lt (by omega)
  rw[e,Nat.mul_mod,h3,Nat.one_mul,Nat.mod_mod] at h2;exact h2
theorem TU {n f a:Nat} (hf:eU f) (h1:a ^ (n - 1) % n=1) (hd:f ∣ n - 1) (hg:Nat.gcd (a ^ ((n - 1) / f) % n+(n - 1)) n=1) {r:Nat} (hr:eU r) (hrn:r ∣ n) (hn:2<=n):f ∣ r - 1:=by
 have r2:=hr.1;obtain⟨c,hc⟩:=hrn;have m1:a ^ (n - 1) % r=1:=by
  rw[<-Nat.mod_mod_of_dvd _ ⟨c,hc⟩,h1];exact Nat.mod_eq_of_lt (by omega)
 obtain⟨g,hgf⟩:=hd;have e1:(n - 1) / f=g:=by rw[hgf];exact Nat.mul_div_cancel_left _ (by have:=hf.1;omega)
 rw[e1] at hg;have hbf:(a ^ g) ^ f % r=1:=by rw[<-Nat.pow_mul,Nat.mul_comm,←hgf];exact m1
 have hra:¬ r ∣ a ^ g:=by
  intro h;have h2:r ∣ (a ^ g) ^ f:=Nat.dvd_trans h (by have:=Nat.pow_dvd_pow (a ^ g) (show 1<=f by have:=hf.1;omega);rwa [Nat.pow_one] at this);have:=Nat.mod_eq_zero_of_dvd h2;omega
 have hbr:(a ^ g) ^ (r - 1) % r=1:=hr.OQ hra;by_cases hfr:f ∣ r - 1
 ·exact hfr
 ·exfalso
  have h2:=Yf r2 f (r - 1) hbf hbr;rw[hf.coprime hfr,Nat.pow_one] at h2;have h3:r ∣ a ^ g % n+(n - 1):=by
   have h4:(a ^ g % n) % r=1:=by rw[Nat.mod_mod_of_dvd _ ⟨c,hc⟩];exact h2
   have h5:=Nat.div_add_mod (a ^ g % n) r;rw[h4] at h5;have h6:a ^ g % n+(n - 1)=r * (a ^ g % n / r)+n:=by omega
   rw[h6];exact Nat.dvd_add (Nat.dvd_mul_right _ _) ⟨c,hc⟩
  have h4:r ∣ Nat.gcd (a ^ g % n+(n - 1)) n:=Nat.dvd_gcd h3 ⟨c,hc⟩;rw[hg] at h4;exact hr.JX h4
theorem Yh {n F:Nat} (hn:2<=n) (hF:n<(F+1) * (F+1)) (hdvd:∀r,eU r->r ∣ n->F ∣ r - 1):eU n:=by
 obtain⟨r,hr,hrn,h⟩:=wW n hn;rcases h with h | h
 ·rw[<-h];exact hr
 ·exfalso
  have h1:=hdvd r hr hrn;have h2:=Nat.le_of_dvd (by have:=hr.1;omega) h1;have h4:=hr.1;have h3:(F+1) * (F+1)<=r * r:=Nat.mul_le_mul (by omega) (by omega);omega
def uW (n:Nat):Nat->Nat->Nat->Nat->Nat
 | 0,_,_,acc=>acc
 | k+1,b,e,acc=>uW n k (b * b % n) (e / 2) (if e % 2=1 then acc * b % n else acc)
theorem pY (n:Nat):∀k b e acc,e<2 ^ k->uW n k b e acc % n=acc * b ^ e % n
 | 0,b,e,acc,h=>by
  have:e=0:=by simpa using h
  subst this;simp[uW]
 | k+1,b,e,acc,h=>by
  rw[uW,pY n k _ _ _ (by rw[Nat.pow_succ] at h;omega)];have e1:b ^ e=(b * b) ^ (e / 2) * b ^ (e % 2):=by rw[<-Nat.pow_two,←Nat.pow_mul,←Nat.pow_add,Nat.div_add_mod]
  have e2:(b * b % n) ^ (e / 2) % n=(b * b) ^ (e / 2) % n:=(Nat.pow_mod _ _ _).symm;rw[e1]
  split
  ·rename_i h1
   rw[h1,Nat.pow_one,Nat.mul_mod,e2,Nat.mod_mod,←Nat.mul_mod,Nat.mul_assoc,Nat.mul_comm b]
  ·have h1:e % 2=0:=by omega
   rw[h1,Nat.pow_zero,Nat.mul_one,Nat.mul_mod,e2,←Nat.mul_mod]
def wT (n:Nat):Nat->Nat->Bool
 | 0,_=>true
 | k+1,d=>n % d !=0 && wT n k (d+1)
theorem uM {n:Nat}:∀k d,wT n k d=true->∀e,d<=e->e<d+k->¬ e ∣ n
 | 0,d,_,e,h1,h2=>by omega
 | k+1,d,h,e,h1,h2=>by
  unfold wT at h;rw[Bool.and_eq_true] at h;by_cases he:e=d
  ·subst he;intro hd;have:=Nat.mod_eq_zero_of_dvd hd;simp[this] at h
  ·exact uM k (d+1) h.2 e (by omega) (by omega)
theorem kV {n:Nat} (k:Nat) (hn:2<=n) (hk:n<(k+2) * (k+2)) (h:wT n k 2=true):eU n:=by
 obtain⟨r,hr,hrn,h1⟩:=wW n hn;rcases h1 with h1 | h1
 ·rw[<-h1];exact hr
 ·exfalso
  have hlt:r<k+2:=by
   rcases Nat.lt_or_ge r (k+2) with h2 | h2
   ·exact h2
   ·have:=Nat.mul_le_mul h2 h2;omega
  exact uM k 2 h r hr.1 (by omega) hrn
theorem lH {n f:Nat} (a k:Nat) (hn:2<=n) (hf:eU f) (hk:n - 1<2 ^ k) (h1:uW n k a (n - 1) 1 % n=1) (hd:f ∣ n - 1) (hg:Nat.gcd (uW n k a ((n - 1) / f) 1 % n+(n - 1)) n=1):∀r,eU r->r ∣ n->f ∣ r - 1:=by
 intro r hr hrn;rw[pY n k a _ 1 hk,Nat.one_mul] at h1;rw[pY n k a _ 1 (Nat.lt_of_le_of_lt (Nat.div_le_self _ _) hk),Nat.one_mul] at hg;exact TU hf h1 hd hg hr hrn hn
theorem BS {f g m:Nat} (hf:eU f) (hfg:¬ f ∣ g) (h1:f ∣ m) (h2:g ∣ m):f * g ∣ m:=(hf.coprime hfg).mul_dvd_of_dvd_of_dvd h1 h2
theorem Ql:eU 127:=kV 11 (by decide) (by decide) (by decide+kernel)
theorem JM:eU 75707:=kV 275 (by decide) (by decide) (by decide+kernel)
theorem Dy:eU 1923133:=kV 1386 (by decide) (by decide) (by decide+kernel)
theorem uK:eU 8574133:=kV 2928 (by decide) (by decide) (by decide+kernel)
theorem JJ:eU 1919519569386763:=Yh (F:=8574133 * 127) (by decide) (by decide) fun r hr hrn=>
 BS uK (by decide) (lH 2 64 (by decide) uK (by decide) (by decide+kernel) (by decide) (by decide+kernel) r hr hrn) (lH 2 64 (by decide) Ql (by decide) (by decide+kernel) (by decide) (by decide+kernel) r hr hrn)
theorem JK:eU 75445702479781427272750846543864801:=Yh (F:=1919519569386763 * 75707) (by decide) (by decide) fun r hr hrn=>
 BS JJ (by decide) (lH 2 128 (by decide) JJ (by decide) (by decide+kernel) (by decide) (by decide+kernel) r hr hrn) (lH 2 128 (by decide) JM (by decide) (by decide+kernel) (by decide) (by decide+kernel) r hr hrn)
theorem TR:eU 74058212732561358302231226437062788676166966415465897661863160754340907:=Yh (F:=75445702479781427272750846543864801 * 1923133) (by decide) (by decide) fun r hr hrn=>
 BS JK (by decide) (lH 2 256 (by decide) JK (by decide) (by decide+kernel) (by decide) (by decide+kernel) r hr hrn) (lH 2 256 (by decide) Dy (by decide) (by decide+kernel) (by decide) (by decide+kernel) r hr hrn)
def PN:Nat:=57896044618658097711785492504343953926634992332820282019728792003956564819949
theorem JL:eU PN:=Yh (F:=74058212732561358302231226437062788676166966415465897661863160754340907) (by decide) (by decide) fun r hr hrn=>
 lH 2 256 (by decide) TR (by decide) (by decide+kernel) (by decide) (by decide+kernel) r hr hrn
end Go.bC
