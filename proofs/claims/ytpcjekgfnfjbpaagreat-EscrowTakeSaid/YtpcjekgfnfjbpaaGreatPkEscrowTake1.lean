/-
  Part 1 of EscrowTake. Conditions: named in each theorem.
-/

set_option linter.unusedVariables false
set_option linter.unusedSimpArgs false
namespace Go.aZ
theorem OP {K:Type} {l:List K} (h:l.Nodup) {i j:Nat} (hi:i<l.length) (hj:j<l.length) (e:l[i] =l[j]):i=j:=by
 have hp:=List.pairwise_iff_getElem.1 h;rcases Nat.lt_trichotomy i j with h1 | h1 | h1
 ·exact absurd e (hp i j hi hj h1)
 ·exact h1
 ·exact absurd e.symm (hp j i hj hi h1)
section
variable {K : Type} [DecidableEq K]
def Ee (L:List K) (x:K):Nat:=L.idxOf x
theorem zy {L:List K} {x:K} (h:x ∈ L):Ee L x<L.length:=List.idxOf_lt_length_iff.2 h
theorem uD {L:List K} {x:K} (h:x ∈ L):L[Ee L x]? =some x:=by
 unfold Ee;rw [List.getElem?_eq_getElem (List.idxOf_lt_length_iff.2 h),List.getElem_idxOf]
theorem Ec {L:List K} (hn:L.Nodup) {j:Nat} {x:K} (h:L[j]? =some x):Ee L x=j:=by
 obtain ⟨hj,he⟩:=List.getElem?_eq_some_iff.1 h;have hm:x ∈ L:=List.mem_of_getElem? h;obtain ⟨h1,h2⟩:=List.getElem?_eq_some_iff.1 (uD hm);exact OP hn h1 hj (h2.trans he.symm)
theorem zx {L M:List K} (hn:M.Nodup) (hp:L <+:M) {x:K} (h:x ∈ L):Ee M x=Ee L x:=by
 obtain ⟨t,rfl⟩:=hp;refine Ec hn ?_;rw [List.getElem?_append_left (zy h)];exact uD h
theorem Kz {α:Type} {l m:List α} (h:l <+:m) {i:Nat} {x:α} (hx:l[i]? =some x):m[i]? =some x:=by
 obtain ⟨t,rfl⟩:=h;rw [List.getElem?_append_left (List.getElem?_eq_some_iff.1 hx).1];exact hx
variable {E : List (K × K)} {fr : List K}
end
section
variable {K : Type}
end
section
variable {K : Type} [DecidableEq K]
end
abbrev Tm:=Int × Int × Int
structure TS where
 l:List Tm
 tx:List (List Int)
def mU:Int:=4611686018427387904
def Es (l:List Tm) (n kind:Int):Bool:=match l[n.toNat]? with | some t=> decide (t.1=kind) | none=> false
def gU (l:List Tm) (n kind:Int):Bool:=(decide (0<=n) && decide (n<l.length)) && (decide (kind=0) || Es l n kind)
def lM (S:TS) (t:Tm):Bool:=
 if t.1=1 then (decide (1<=t.2.1) && decide (t.2.1<=4)) && decide (0<=t.2.2)
 else if t.1=2\/t.1=3\/t.1=6\/t.1=7 then gU S.l t.2.1 0 && decide (t.2.2=0)
 else if t.1=4 then gU S.l t.2.1 2 && gU S.l t.2.2 0
 else if t.1=5 then gU S.l t.2.1 0 && gU S.l t.2.2 0
 else if t.1=8 then gU S.l t.2.1 0 && gU S.l t.2.2 9
 else if t.1=9 then (decide (0<=t.2.1) && decide (t.2.1<S.tx.length)) && decide (t.2.2=0)
 else if t.1=10 then gU S.l t.2.1 9 && decide (t.2.2=0)
 else false
def wY (l:List Tm) (s:Int):Int:=l.foldl (fun b t=> if t.1=1/\t.2.1=s then max b (min t.2.2 mU+1) else b) 0
def TS.add (S:TS) (t:Tm):TS:=⟨S.l++ [t],S.tx⟩
def TS.put (S:TS) (t:Tm):TS:=if lM S t=true/\t ∉ S.l then S.add t else S
def mW (S:TS) (t:Tm):Int × Int:=if lM S t=true then (if t ∈ S.l then (Ee S.l t:Int) else (S.l.length:Int),0) else (0,2)
def isSort (s:Int):Bool:=decide (1<=s) && decide (s<=4)
def TS.draw (S:TS) (s:Int):TS:=if isSort s=true/\wY S.l s<=mU then S.add (1,s,wY S.l s) else S
def xA (S:TS) (s:Int):Int × Int:=if isSort s=true then (if wY S.l s<=mU then ((S.l.length:Int),0) else (0,3)) else (0,2)
def okT (l:List Tm) (n i:Nat) (t:Tm):Prop:=
 (t.1=1/\(1<=t.2.1/\t.2.1<=4)/\0<=t.2.2)\/
 ((t.1=2\/t.1=3\/t.1=6\/t.1=7)/\(∃a:Nat,t.2.1=a/\a<i)/\t.2.2=0)\/
 (t.1=4/\(∃a:Nat,t.2.1=a/\a<i/\∃u,l[a]? =some u/\u.1=2)/\∃b:Nat,t.2.2=b/\b<i)\/
 (t.1=5/\(∃a:Nat,t.2.1=a/\a<i)/\∃b:Nat,t.2.2=b/\b<i)\/
 (t.1=8/\(∃a:Nat,t.2.1=a/\a<i)/\∃b:Nat,t.2.2=b/\b<i/\∃u,l[b]? =some u/\u.1=9)\/
 (t.1=9/\(∃a:Nat,t.2.1=a/\a<n)/\t.2.2=0)\/
 (t.1=10/\(∃a:Nat,t.2.1=a/\a<i/\∃u,l[a]? =some u/\u.1=9)/\t.2.2=0)
structure TS.Ok (S:TS):Prop where
 nd:S.l.Nodup
 ok:∀i t,S.l[i]? =some t->okT S.l S.tx.length i t
 all:∀j,j<S.tx.length->((9,(j:Int),0):Tm) ∈ S.l
 txn:S.tx.Nodup
theorem uP {l:List Tm} {n kind:Int}:gU l n kind=true ↔ ∃a:Nat,n=a/\∃t,l[a]? =some t/\(kind=0\/t.1=kind):=by
 unfold gU Es
 constructor
 ·intro h;simp only [Bool.and_eq_true,decide_eq_true_eq,Bool.or_eq_true] at h;obtain ⟨⟨h1,h2⟩,h3⟩:=h;obtain ⟨a,rfl⟩:=Int.eq_ofNat_of_zero_le h1;have hl:a<l.length:=by omega
  refine ⟨a,rfl,l[a],List.getElem?_eq_getElem hl,?_⟩;rw [Int.toNat_natCast,List.getElem?_eq_getElem hl] at h3
  simpa using h3
 ·rintro ⟨a,rfl,t,h1,h2⟩;have hl:a<l.length:=(List.getElem?_eq_some_iff.1 h1).1;rw [Int.toNat_natCast,h1];simp only [Bool.and_eq_true,decide_eq_true_eq,Bool.or_eq_true];exact ⟨⟨by omega,by omega⟩,h2⟩
theorem He {l l':List Tm} {n n' i:Nat} {t:Tm} (hl:l <+:l') (hn:n<=n') (h:okT l n i t):okT l' n' i t:=by
 have up:∀{a:Nat} {k:Int},(∃u,l[a]? =some u/\u.1=k)->∃u,l'[a]? =some u/\u.1=k:=fun ⟨u,h1,h2⟩=> ⟨u,Kz hl h1,h2⟩
 rcases h with h | h | ⟨h,⟨a,h1,h2,h3⟩,h4⟩ | h | ⟨h,h1,b,h2,h3,h4⟩ | ⟨h,⟨a,h1,h2⟩,h3⟩ | ⟨h,⟨a,h1,h2,h3⟩,h4⟩
 ·exact .inl h
 ·exact .inr (.inl h)
 ·exact .inr (.inr (.inl ⟨h,⟨a,h1,h2,up h3⟩,h4⟩))
 ·exact .inr (.inr (.inr (.inl h)))
 ·exact .inr (.inr (.inr (.inr (.inl ⟨h,h1,b,h2,h3,up h4⟩))))
 ·exact .inr (.inr (.inr (.inr (.inr (.inl ⟨h,⟨a,h1,by omega⟩,h3⟩)))))
 ·exact .inr (.inr (.inr (.inr (.inr (.inr ⟨h,⟨a,h1,h2,up h3⟩,h4⟩)))))
theorem lQ {l:List Tm} {n kind:Int} (h:gU l n kind=true):∃a:Nat,n=a/\a<l.length/\(kind≠0->∃u,l[a]? =some u/\u.1=kind):=by
 obtain ⟨a,h1,t,h2,h3⟩:=uP.1 h;exact ⟨a,h1,(List.getElem?_eq_some_iff.1 h2).1,fun hk=> ⟨t,h2,h3.resolve_left hk⟩⟩
theorem MZ {S:TS} {t:Tm} (h:lM S t=true):okT S.l S.tx.length S.l.length t:=by
 unfold lM at h
 split at h
 ·rename_i h1
  simp only [Bool.and_eq_true,decide_eq_true_eq] at h;exact .inl ⟨h1,h.1,h.2⟩
 split at h
 ·rename_i h1
  simp only [Bool.and_eq_true,decide_eq_true_eq] at h;obtain ⟨a,e1,e2,_⟩:=lQ h.1;exact .inr (.inl ⟨h1,⟨a,e1,e2⟩,h.2⟩)
 split at h
 ·rename_i h1
  simp only [Bool.and_eq_true] at h;obtain ⟨a,e1,e2,e3⟩:=lQ h.1;obtain ⟨b,f1,f2,_⟩:=lQ h.2;exact .inr (.inr (.inl ⟨h1,⟨a,e1,e2,e3 (by decide)⟩,b,f1,f2⟩))
 split at h
 ·rename_i h1
  simp only [Bool.and_eq_true] at h;obtain ⟨a,e1,e2,_⟩:=lQ h.1;obtain ⟨b,f1,f2,_⟩:=lQ h.2;exact .inr (.inr (.inr (.inl ⟨h1,⟨a,e1,e2⟩,b,f1,f2⟩)))
 split at h
 ·rename_i h1
  simp only [Bool.and_eq_true] at h;obtain ⟨a,e1,e2,_⟩:=lQ h.1;obtain ⟨b,f1,f2,f3⟩:=lQ h.2;exact .inr (.inr (.inr (.inr (.inl ⟨h1,⟨a,e1,e2⟩,b,f1,f2,f3 (by decide)⟩))))
 split at h
 ·rename_i h1
  simp only [Bool.and_eq_true,decide_eq_true_eq] at h;obtain ⟨a,ha⟩:=Int.eq_ofNat_of_zero_le h.1.1;exact .inr (.inr (.inr (.inr (.inr (.inl ⟨h1,⟨a,ha,by omega⟩,h.2⟩)))))
 split at h
 ·rename_i h1
  simp only [Bool.and_eq_true,decide_eq_true_eq] at h;obtain ⟨a,e1,e2,e3⟩:=lQ h.1;exact .inr (.inr (.inr (.inr (.inr (.inr ⟨h1,⟨a,e1,e2,e3 (by decide)⟩,h.2⟩)))))
 ·cases h
theorem TS.Ok.empty:TS.Ok ⟨[], []⟩:=⟨List.nodup_nil,(fun i t h=> by simp at h),(fun j hj=> absurd hj (Nat.not_lt_zero _)),List.nodup_nil⟩
theorem mG {α:Type} {l:List α} {x:α} (h:l.Nodup) (hx:x ∉ l):(l++ [x]).Nodup:=by
 rw [List.nodup_append];exact ⟨h,by simp,fun a ha b hb=> by simp at hb;subst hb;intro e;subst e;exact hx ha⟩
theorem TS.Ok.add {S:TS} {t:Tm} (h:S.Ok) (ht:t ∉ S.l) (ho:okT S.l S.tx.length S.l.length t):(S.add t).Ok:=by
 refine ⟨mG h.nd ht,fun i u hu=> ?_,fun j hj=> List.mem_append.2 (.inl (h.all j hj)),h.txn⟩;have hp:S.l <+:S.l++ [t] :=List.prefix_append _ _;have hu:(S.l++ [t])[i]? =some u:=hu;by_cases hi:i<S.l.length
 ·rw [List.getElem?_append_left hi] at hu;exact He hp (Nat.le_refl _) (h.ok i u hu)
 ·have hl:=(List.getElem?_eq_some_iff.1 hu).1;rw [List.length_append,List.length_singleton] at hl;obtain rfl:i=S.l.length:=by omega
  rw [List.getElem?_append_right (Nat.le_refl _),Nat.sub_self] at hu;cases hu
  exact He hp (Nat.le_refl _) ho
theorem TS.Ok.put {S:TS} (h:S.Ok) (t:Tm):(S.put t).Ok:=by
 unfold TS.put
 split
 ·rename_i hp
  exact h.add hp.2 (MZ hp.1)
 ·exact h
theorem Cn (s:Int):∀(l:List Tm) (b:Int),b<=l.foldl (fun b t=> if t.1=1/\t.2.1=s then max b (min t.2.2 mU+1) else b) b/\
  ∀t,t ∈ l->t.1=1->t.2.1=s->min t.2.2 mU+1<=l.foldl (fun b t=> if t.1=1/\t.2.1=s then max b (min t.2.2 mU+1) else b) b:=by
 intro l
 induction l with
 | nil=> intro b;exact ⟨Int.le_refl _,fun t h=> by cases h⟩
 | cons a l ih=>
  intro b;rw [List.foldl_cons];obtain ⟨h1,h2⟩:=ih (if a.1=1/\a.2.1=s then max b (min a.2.2 mU+1) else b);refine ⟨Int.le_trans ?_ h1,fun t ht hk hs=> ?_⟩
  ·split<;> omega
  ·rcases List.mem_cons.1 ht with rfl | ht
   ·refine Int.le_trans ?_ h1;rw [if_pos ⟨hk,hs⟩];omega
   ·exact h2 t ht hk hs
theorem aaZ {l:List Tm} {s:Int} {t:Tm} (ht:t ∈ l) (hk:t.1=1) (hs:t.2.1=s):min t.2.2 mU+1<=wY l s:=(Cn s l 0).2 t ht hk hs
theorem zD (l:List Tm) (s:Int):0<=wY l s:=(Cn s l 0).1
theorem zC (l:List Tm) (t:Tm) (s:Int):wY (l++ [t]) s=if t.1=1/\t.2.1=s then max (wY l s) (min t.2.2 mU+1) else wY l s:=by
 unfold wY;rw [List.foldl_append]
 rfl
theorem abb (s:Int):∀(l:List Tm) (b:Int),b<=mU+1->l.foldl (fun b t=> if t.1=1/\t.2.1=s then max b (min t.2.2 mU+1) else b) b<=mU+1:=by
 intro l
 induction l with
 | nil=> intro b h;exact h
 | cons a l ih=>
  intro b h;rw [List.foldl_cons];refine ih _ ?_
  split<;> omega
theorem XF (l:List Tm) (s:Int):wY l s<=mU+1:=abb s l 0 (by unfold mU;omega)
theorem MX {l:List Tm} {s:Int} (h:wY l s<=mU):((1,s,wY l s):Tm) ∉ l:=fun hm=> by
 have:=aaZ hm rfl rfl;simp only at this;omega
theorem TS.Ok.draw {S:TS} (h:S.Ok) (s:Int):(S.draw s).Ok:=by
 unfold TS.draw
 split
 ·rename_i hp
  have h1:=hp.1;simp only [isSort,Bool.and_eq_true,decide_eq_true_eq] at h1;exact h.add (MX hp.2) (.inl ⟨rfl,h1,zD _ _⟩)
 ·exact h
def MV (x:Int):Prop:= -9223372036854775808<=x/\x<=9223372036854775807
def zB (t:Tm):Prop:=MV t.1/\MV t.2.1/\MV t.2.2
theorem uZ (S:TS) (t:Tm):(S.add t).l.length=S.l.length+1:=by simp [TS.add]
theorem uy (S:TS) (t:Tm):(S.put t).l.length<=S.l.length+1/\(S.put t).tx=S.tx:=by
 unfold TS.put
 split
 ·exact ⟨by rw [uZ];omega,rfl⟩
 ·exact ⟨by omega,rfl⟩
def bW (n:Nat):Prop:=2<=n/\∀d,d ∣ n->d=1\/d=n
theorem bW.coprime {p a:Nat} (hp:bW p) (h:¬ p ∣ a):Nat.Coprime p a:=by
 rcases hp.2 (Nat.gcd p a) (Nat.gcd_dvd_left p a) with h1 | h1
 ·exact h1
 ·exact absurd (by rw [<-h1];exact Nat.gcd_dvd_right p a) h
theorem bW.dvd_mul {p a b:Nat} (hp:bW p) (h:p ∣ a * b):p ∣ a\/p ∣ b:=by
 by_cases ha:p ∣ a
 ·exact .inl ha
 ·exact .inr ((hp.coprime ha).dvd_of_dvd_mul_left h)
theorem bW.Hq {p:Nat} (hp:bW p):¬ p ∣ 1:=fun h=> by have:=Nat.le_of_dvd (by decide) h;have:=hp.1;omega
def ch:Nat->Nat->Nat
 | _,0=> 1
 | 0,_+1=> 0
 | n+1,k+1=> ch n k+ch n (k+1)
theorem yD (n:Nat):ch n 0=1:=by cases n<;> rfl
theorem rD (n k:Nat):ch (n+1) (k+1)=ch n k+ch n (k+1):=rfl
theorem rE:∀n k,n<k->ch n k=0
 | 0,k+1,_=> rfl
 | n+1,k+1,h=> by rw [rD,rE n k (by omega),rE n (k+1) (by omega)]
theorem NC:∀n,ch n n=1
 | 0=> rfl
 | n+1=> by rw [rD,NC n,rE n (n+1) (by omega)]
theorem adg:∀n k,(k+1) * ch (n+1) (k+1)=(n+1) * ch n k:=by
 intro n
 induction n with
 | zero=>
  intro k
  cases k with
  | zero=> rfl
  | succ k=> rw [rD,rE 0 (k+1) (by omega),rE 0 (k+1+1) (by omega)];simp
 | succ n ih=>
  intro k;rw [rD (n+1) k,Nat.mul_add,ih k]
  cases k with
  | zero=> rw [yD,yD];omega
  | succ j=>
   have h1:=ih j;have h2:=rD n j;have h3:(n+1+1) * ch (n+1) (j+1)=(n+1) * (ch n j+ch n (j+1))+ch (n+1) (j+1):=by rw [<-h2,Nat.succ_mul]
   rw [h3,Nat.mul_add];have h4:(j+1+1) * ch (n+1) (j+1)=(j+1) * ch (n+1) (j+1)+ch (n+1) (j+1):=Nat.succ_mul _ _;omega
theorem bW.acN {p k:Nat} (hp:bW p) (h0:0<k) (h1:k<p):p ∣ ch p k:=by
 obtain ⟨j,rfl⟩:∃j,k=j+1:=⟨k - 1,by omega⟩
 obtain ⟨n,rfl⟩:∃n,p=n+1:=⟨p - 1,by omega⟩
 have h:=adg n j;have hd:n+1 ∣ (j+1) * ch (n+1) (j+1):=⟨_,h⟩
 rcases hp.dvd_mul hd with h2 | h2
 ·have:=Nat.le_of_dvd (by omega) h2;omega
 ·exact h2
def je (f:Nat->Nat):Nat->Nat
 | 0=> 0
 | n+1=> je f n+f n
theorem yU {f g:Nat->Nat} {n:Nat} (h:∀k,k<n->f k=g k):je f n=je g n:=by
 induction n with
 | zero=> rfl
 | succ n ih=> rw [je,je,ih fun k hk=> h k (by omega),h n (by omega)]
theorem FY (f g:Nat->Nat):∀n,je (fun k=> f k+g k) n=je f n+je g n
 | 0=> rfl
 | n+1=> by rw [je,je,je,FY f g n];omega
theorem FW (a:Nat) (f:Nat->Nat):∀n,je (fun k=> a * f k) n=a * je f n
 | 0=> rfl
 | n+1=> by rw [je,je,FW a f n,Nat.mul_add]
theorem qP (f:Nat->Nat):∀n,je f (n+1)=f 0+je (fun k=> f (k+1)) n
 | 0=> by simp [je]
 | n+1=> by rw [je,qP f n,je];omega
theorem FX {p:Nat} {f:Nat->Nat}:∀n,(∀k,k<n->p ∣ f k)->p ∣ je f n
 | 0,_=> ⟨0,rfl⟩
 | n+1,h=> Nat.dvd_add (FX n fun k hk=> h k (by omega)) (h n (by omega))
theorem ZL (a:Nat):∀n,(a+1) ^ n=je (fun k=> ch n k * a ^ k) (n+1)
 | 0=> rfl
 | n+1=> by
  rw [Nat.pow_succ,ZL a n,Nat.mul_add,Nat.mul_one];have e1:je (fun k=> ch (n+1) k * a ^ k) (n+1+1)=1+je (fun k=> ch n k * a ^ k * a+ch n (k+1) * a ^ (k+1)) (n+1):=by
   rw [qP]
   congr 1
   exact yU fun k _=> by rw [rD,Nat.add_mul,Nat.pow_succ,Nat.mul_assoc]
  rw [e1,FY];have e2:je (fun k=> ch n k * a ^ k * a) (n+1)=je (fun k=> ch n k * a ^ k) (n+1) * a:=by
   rw [Nat.mul_comm,←FW];exact yU fun k _=> by rw [Nat.mul_comm]
  have e3:je (fun k=> ch n k * a ^ k) (n+1)=1+je (fun k=> ch n (k+1) * a ^ (k+1)) (n+1):=by
   have h1:=qP (fun k=> ch n k * a ^ k) n;have h2:je (fun k=> ch n (k+1) * a ^ (k+1)) (n+1)=je (fun k=> ch n (k+1) * a ^ (k+1)) n:=by
    rw [je,rE n (n+1) (by omega)];simp
   rw [h2,h1,yD];simp
  rw [e2];omega
theorem bW.Ut {p:Nat} (hp:bW p):∀a:Nat,a ^ p % p=a % p
 | 0=> by rw [Nat.zero_pow (by have:=hp.1;omega)]
 | a+1=> by
  have ih:=hp.Ut a;have h0:=hp.1;have e:(a+1) ^ p=1+je (fun k=> ch p (k+1) * a ^ (k+1)) (p - 1)+a ^ p:=by
   rw [ZL];obtain ⟨n,rfl⟩:∃n,p=n+1:=⟨p - 1,by omega⟩
   rw [qP,je,yD,NC];simp;omega
  have hd:p ∣ je (fun k=> ch p (k+1) * a ^ (k+1)) (p - 1):=FX _ fun k hk=> Nat.dvd_trans (hp.acN (by omega) (by omega)) (Nat.dvd_mul_right _ _);obtain ⟨c,hc⟩:=hd;rw [e,hc,show 1+p * c+a ^ p=(1+a ^ p)+p * c by omega,Nat.add_mul_mod_self_left,Nat.add_mod,ih,←Nat.add_mod,Nat.add_comm]
theorem bW.ED {p:Nat} (hp:bW p) {a:Nat} (ha:¬ p ∣ a):a ^ (p - 1) % p=1:=by
 have h:=hp.Ut a;have h0:=hp.1;have h1:a ^ p=a * a ^ (p - 1):=by
  obtain ⟨n,rfl⟩:∃n,p=n+1:=⟨p - 1,by omega⟩
  rw [Nat.pow_succ,Nat.mul_comm];rfl
 have hpos:0<a ^ (p - 1):=Nat.pow_pos (by rcases Nat.eq_zero_or_pos a with h2 | h2;(subst h2;exact absurd ⟨0,rfl⟩ ha);exact h2);have h2:p ∣ a * (a ^ (p - 1) - 1):=by
  rw [Nat.mul_sub,Nat.mul_one,←h1];exact Nat.dvd_of_mod_eq_zero (Nat.sub_mod_eq_zero_of_mod_eq h)
 rcases hp.dvd_mul h2 with h3 | h3
 ·exact absurd h3 ha
 ·obtain ⟨c,hc⟩:=h3;have:a ^ (p - 1)=1+p * c:=by omega
  rw [this,Nat.add_mul_mod_self_left];exact Nat.mod_eq_of_lt (by omega)
theorem uL (n:Nat) (h:2<=n):∃r,bW r/\r ∣ n/\(r=n\/r * r<=n):=by
 have key:∀k:Nat,(∃d,2<=d/\d ∣ n/\d<=k)->∃r,2<=r/\r ∣ n/\∀d,2<=d->d ∣ n->r<=d:=by
  intro k
  induction k with
  | zero=> rintro ⟨d,h1,_,h3⟩;omega
  | succ k ih=>
   rintro ⟨d,h1,h2,h3⟩;by_cases hk:∃d,2<=d/\d ∣ n/\d<=k
   ·exact ih hk
   ·refine ⟨d,h1,h2,fun e he1 he2=> ?_⟩;rcases Nat.lt_or_ge k e with h4 | h4
    ·omega
    ·exact absurd ⟨e,he1,he2,h4⟩ hk
 obtain ⟨r,h1,h2,h3⟩:=key n ⟨n,h,Nat.dvd_refl n,Nat.le_refl n⟩;refine ⟨r,⟨h1,fun d hd=> ?_⟩,h2,?_⟩
 ·have hd0:d≠0:=by rintro rfl;have:=Nat.eq_zero_of_zero_dvd hd;omega
  by_cases e:d=1
  ·exact .inl e
  ·have h4:=h3 d (by omega) (Nat.dvd_trans hd h2);have h5:=Nat.le_of_dvd (by omega) hd;exact .inr (by omega)
 ·obtain ⟨e,he⟩:=h2;by_cases e1:e=1
  ·subst e1;left;omega
  ·right
   have e0:e≠0:=by rintro rfl;omega
   have h4:=h3 e (by omega) ⟨r,by rw [he,Nat.mul_comm]⟩;rw [he];exact Nat.mul_le_mul_left r h4
theorem Xo {r b:Nat} (hr:2<=r) (m n:Nat) (h1:b ^ m % r=1) (h2:b ^ n % r=1):b ^ Nat.gcd m n % r=1:=by
 induction m,n using Nat.gcd.induction with
 | H0 n=> rwa [Nat.gcd_zero_left]
 | H1 m n hm ih=>
  rw [Nat.gcd_rec];refine ih ?_ h1;have e:b ^ n=(b ^ m) ^ (n / m) * b ^ (n % m):=by rw [<-Nat.pow_mul,←Nat.pow_add,Nat.div_add_mod]
  have h3:(b ^ m) ^ (n / m) % r=1:=by rw [Nat.pow_mod,h1,Nat.one_pow];exact Nat.mod_eq_of_lt (by omega)
  rw [e,Nat.mul_mod,h3,Nat.one_mul,Nat.mod_mod] at h2;exact h2
theorem Sn {n f a:Nat} (hf:bW f) (h1:a ^ (n - 1) % n=1) (hd:f ∣ n - 1) (hg:Nat.gcd (a ^ ((n - 1) / f) % n+(n - 1)) n=1) {r:Nat} (hr:bW r) (hrn:r ∣ n) (hn:2<=n):f ∣ r - 1:=by
 have r2:=hr.1;obtain ⟨c,hc⟩:=hrn;have m1:a ^ (n - 1) % r=1:=by
  rw [<-Nat.mod_mod_of_dvd _ ⟨c,hc⟩,h1];exact Nat.mod_eq_of_lt (by omega)
 obtain ⟨g,hgf⟩:=hd;have e1:(n - 1) / f=g:=by rw [hgf];exact Nat.mul_div_cancel_left _ (by have:=hf.1;omega)
 rw [e1] at hg;have hbf:(a ^ g) ^ f % r=1:=by rw [<-Nat.pow_mul,Nat.mul_comm,←hgf];exact m1
 have hra:¬ r ∣ a ^ g:=by
  intro h;have h2:r ∣ (a ^ g) ^ f:=Nat.dvd_trans h (by have:=Nat.pow_dvd_pow (a ^ g) (show 1<=f by have:=hf.1;omega);rwa [Nat.pow_one] at this);have:=Nat.mod_eq_zero_of_dvd h2;omega
 have hbr:(a ^ g) ^ (r - 1) % r=1:=hr.ED hra;by_cases hfr:f ∣ r - 1
 ·exact hfr
 ·exfalso
  have h2:=Xo r2 f (r - 1) hbf hbr;rw [hf.coprime hfr,Nat.pow_one] at h2;have h3:r ∣ a ^ g % n+(n - 1):=by
   have h4:(a ^ g % n) % r=1:=by rw [Nat.mod_mod_of_dvd _ ⟨c,hc⟩];exact h2
   have h5:=Nat.div_add_mod (a ^ g % n) r;rw [h4] at h5;have h6:a ^ g % n+(n - 1)=r * (a ^ g % n / r)+n:=by omega
   rw [h6];exact Nat.dvd_add (Nat.dvd_mul_right _ _) ⟨c,hc⟩
  have h4:r ∣ Nat.gcd (a ^ g % n+(n - 1)) n:=Nat.dvd_gcd h3 ⟨c,hc⟩;rw [hg] at h4;exact hr.Hq h4
theorem Bo {n F:Nat} (hn:2<=n) (hF:n<(F+1) * (F+1)) (hdvd:∀r,bW r->r ∣ n->F ∣ r - 1):bW n:=by
 obtain ⟨r,hr,hrn,h⟩:=uL n hn;rcases h with h | h
 ·rw [<-h];exact hr
 ·exfalso
  have h1:=hdvd r hr hrn;have h2:=Nat.le_of_dvd (by have:=hr.1;omega) h1;have h4:=hr.1;have h3:(F+1) * (F+1)<=r * r:=Nat.mul_le_mul (by omega) (by omega);omega
def lD (n:Nat):Nat->Nat->Nat->Nat->Nat
 | 0,_,_,acc=> acc
 | k+1,b,e,acc=> lD n k (b * b % n) (e / 2) (if e % 2=1 then acc * b % n else acc)
theorem lW (n:Nat):∀k b e acc,e<2 ^ k->lD n k b e acc % n=acc * b ^ e % n
 | 0,b,e,acc,h=> by
  have:e=0:=by simpa using h
  subst this;simp [lD]
 | k+1,b,e,acc,h=> by
  rw [lD,lW n k _ _ _ (by rw [Nat.pow_succ] at h;omega)];have e1:b ^ e=(b * b) ^ (e / 2) * b ^ (e % 2):=by rw [<-Nat.pow_two,←Nat.pow_mul,←Nat.pow_add,Nat.div_add_mod]
  have e2:(b * b % n) ^ (e / 2) % n=(b * b) ^ (e / 2) % n:=(Nat.pow_mod _ _ _).symm;rw [e1]
  split
  ·rename_i h1
   rw [h1,Nat.pow_one,Nat.mul_mod,e2,Nat.mod_mod,←Nat.mul_mod,Nat.mul_assoc,Nat.mul_comm b]
  ·have h1:e % 2=0:=by omega
   rw [h1,Nat.pow_zero,Nat.mul_one,Nat.mul_mod,e2,←Nat.mul_mod]
def uI (n:Nat):Nat->Nat->Bool
 | 0,_=> true
 | k+1,d=> n % d !=0 && uI n k (d+1)
theorem sj {n:Nat}:∀k d,uI n k d=true->∀e,d<=e->e<d+k->¬ e ∣ n
 | 0,d,_,e,h1,h2=> by omega
 | k+1,d,h,e,h1,h2=> by
  unfold uI at h;rw [Bool.and_eq_true] at h;by_cases he:e=d
  ·subst he;intro hd;have:=Nat.mod_eq_zero_of_dvd hd;simp [this] at h
  ·exact sj k (d+1) h.2 e (by omega) (by omega)
theorem gV {n:Nat} (k:Nat) (hn:2<=n) (hk:n<(k+2) * (k+2)) (h:uI n k 2=true):bW n:=by
 obtain ⟨r,hr,hrn,h1⟩:=uL n hn;rcases h1 with h1 | h1
 ·rw [<-h1];exact hr
 ·exfalso
  have hlt:r<k+2:=by
   rcases Nat.lt_or_ge r (k+2) with h2 | h2
   ·exact h2
   ·have:=Nat.mul_le_mul h2 h2;omega
  exact sj k 2 h r hr.1 (by omega) hrn
theorem fK {n f:Nat} (a k:Nat) (hn:2<=n) (hf:bW f) (hk:n - 1<2 ^ k) (h1:lD n k a (n - 1) 1 % n=1) (hd:f ∣ n - 1) (hg:Nat.gcd (lD n k a ((n - 1) / f) 1 % n+(n - 1)) n=1):∀r,bW r->r ∣ n->f ∣ r - 1:=by
 intro r hr hrn;rw [lW n k a _ 1 hk,Nat.one_mul] at h1;rw [lW n k a _ 1 (Nat.lt_of_le_of_lt (Nat.div_le_self _ _) hk),Nat.one_mul] at hg;exact Sn hf h1 hd hg hr hrn hn
theorem uT {f g m:Nat} (hf:bW f) (hfg:¬ f ∣ g) (h1:f ∣ m) (h2:g ∣ m):f * g ∣ m:=(hf.coprime hfg).mul_dvd_of_dvd_of_dvd h1 h2
theorem OC:bW 127:=gV 11 (by decide) (by decide) (by decide+kernel)
theorem GH:bW 75707:=gV 275 (by decide) (by decide) (by decide+kernel)
theorem Bn:bW 1923133:=gV 1386 (by decide) (by decide) (by decide+kernel)
theorem rY:bW 8574133:=gV 2928 (by decide) (by decide) (by decide+kernel)
theorem Gz:bW 1919519569386763:=Bo (F:=8574133 * 127) (by decide) (by decide) fun r hr hrn=>
 uT rY (by decide) (fK 2 64 (by decide) rY (by decide) (by decide+kernel) (by decide) (by decide+kernel) r hr hrn) (fK 2 64 (by decide) OC (by decide) (by decide+kernel) (by decide) (by decide+kernel) r hr hrn)
theorem GA:bW 75445702479781427272750846543864801:=Bo (F:=1919519569386763 * 75707) (by decide) (by decide) fun r hr hrn=>
 uT Gz (by decide) (fK 2 128 (by decide) Gz (by decide) (by decide+kernel) (by decide) (by decide+kernel) r hr hrn) (fK 2 128 (by decide) GH (by decide) (by decide+kernel) (by decide) (by decide+kernel) r hr hrn)
theorem Sg:bW 74058212732561358302231226437062788676166966415465897661863160754340907:=Bo (F:=75445702479781427272750846543864801 * 1923133) (by decide) (by decide) fun r hr hrn=>
 uT GA (by decide) (fK 2 256 (by decide) GA (by decide) (by decide+kernel) (by decide) (by decide+kernel) r hr hrn) (fK 2 256 (by decide) Bn (by decide) (by decide+kernel) (by decide) (by decide+kernel) r hr hrn)
def PN:Nat:=57896044618658097711785492504343953926634992332820282019728792003956564819949
theorem GD:bW PN:=Bo (F:=74058212732561358302231226437062788676166966415465897661863160754340907) (by decide) (by decide) fun r hr hrn=>
 fK 2 256 (by decide) Sg (by decide) (by decide+kernel) (by decide) (by decide+kernel) r hr hrn
theorem rZ:bW 1224481:=gV 1106 (by decide) (by decide) (by decide+kernel)
theorem DZ:bW 531581:=gV 729 (by decide) (by decide) (by decide+kernel)
theorem Si:bW 1257559732178653:=Bo (F:=1224481 * 531581) (by decide) (by decide) fun r hr hrn=>
 uT rZ (by decide) (fK 2 64 (by decide) rZ (by decide) (by decide+kernel) (by decide) (by decide+kernel) r hr hrn) (fK 2 64 (by decide) DZ (by decide) (by decide+kernel) (by decide) (by decide+kernel) r hr hrn)
theorem Sj:bW 4434155615661930479:=Bo (F:=1257559732178653) (by decide) (by decide) fun r hr hrn=>
 fK 2 64 (by decide) Si (by decide) (by decide+kernel) (by decide) (by decide+kernel) r hr hrn
theorem Sk:bW 172054593956031949258510691:=Bo (F:=4434155615661930479) (by decide) (by decide) fun r hr hrn=>
 fK 2 128 (by decide) Sj (by decide) (by decide+kernel) (by decide) (by decide+kernel) r hr hrn
theorem Sl:bW 19757330305831588566944191468367130476339:=Bo (F:=172054593956031949258510691) (by decide) (by decide) fun r hr hrn=>
 fK 2 256 (by decide) Sk (by decide) (by decide+kernel) (by decide) (by decide+kernel) r hr hrn
theorem Sm:bW 276602624281642239937218680557139826668747:=Bo (F:=19757330305831588566944191468367130476339) (by decide) (by decide) fun r hr hrn=>
 fK 2 256 (by decide) Sl (by decide) (by decide+kernel) (by decide) (by decide+kernel) r hr hrn
theorem MP:bW 7237005577332262213973186563042994240857116359379907606001950938285454250989:=Bo (F:=276602624281642239937218680557139826668747) (by decide) (by decide) fun r hr hrn=>
 fK 2 256 (by decide) Sm (by decide) (by decide+kernel) (by decide) (by decide+kernel) r hr hrn
end Go.aZ
