/-
  Part 7 of the texts that the proof of EscrowWrong rests on, one after the other. Conditions: named in each theorem.
-/

set_option linter.unusedVariables false
set_option linter.unusedSimpArgs false
namespace Go.aG
theorem sQ {K:Type} {l:List K} (h:l.Nodup) {i j:Nat} (hi:i<l.length) (hj:j<l.length) (e:l[i] =l[j]):i=j:=by
 have hp:=List.pairwise_iff_getElem.1 h
 rcases Nat.lt_trichotomy i j with h1 | h1 | h1
 ·exact absurd e (hp i j hi hj h1)
 ·exact h1
 ·exact absurd e.symm (hp j i hj hi h1)
section
variable {K : Type} [DecidableEq K]
def mP (L:List K) (x:K):Nat:=L.idxOf x
theorem jL {L:List K} {x:K} (h:x ∈ L):mP L x<L.length:=List.idxOf_lt_length_iff.2 h
theorem gP {L:List K} {x:K} (h:x ∈ L):L[mP L x]? =some x:=by
 unfold mP
 rw [List.getElem?_eq_getElem (List.idxOf_lt_length_iff.2 h),List.getElem_idxOf]
theorem mO {L:List K} (hn:L.Nodup) {j:Nat} {x:K} (h:L[j]? =some x):mP L x=j:=by
 obtain ⟨hj,he⟩:=List.getElem?_eq_some_iff.1 h
 have hm:x ∈ L:=List.mem_of_getElem? h
 obtain ⟨h1,h2⟩:=List.getElem?_eq_some_iff.1 (gP hm)
 exact sQ hn h1 hj (h2.trans he.symm)
theorem jK {L M:List K} (hn:M.Nodup) (hp:L <+:M) {x:K} (h:x ∈ L):mP M x=mP L x:=by
 obtain ⟨t,rfl⟩:=hp
 refine mO hn ?_
 rw [List.getElem?_append_left (jL h)]
 exact gP h
theorem qy {α:Type} {l m:List α} (h:l <+:m) {i:Nat} {x:α} (hx:l[i]? =some x):m[i]? =some x:=by
 obtain ⟨t,rfl⟩:=h
 rw [List.getElem?_append_left (List.getElem?_eq_some_iff.1 hx).1]
 exact hx
variable {E : List (K × K)} {fr : List K}
end
section
variable {K : Type}
end
section
variable {K : Type} [DecidableEq K]
end
end Go.aG
namespace Go.aG
abbrev Tm:=Int × Int × Int
structure TS where
 l:List Tm
 tx:List (List Int)
def dO:Int:=4611686018427387904
def mR (l:List Tm) (n kind:Int):Bool:=match l[n.toNat]? with | some t=> decide (t.1=kind) | none=> false
def bA (l:List Tm) (n kind:Int):Bool:=(decide (0≤n) && decide (n<l.length)) && (decide (kind=0) || mR l n kind)
def dF (S:TS) (t:Tm):Bool:=
 if t.1=1 then (decide (1≤t.2.1) && decide (t.2.1≤4)) && decide (0≤t.2.2)
 else if t.1=2∨t.1=3∨t.1=6∨t.1=7 then bA S.l t.2.1 0 && decide (t.2.2=0)
 else if t.1=4 then bA S.l t.2.1 2 && bA S.l t.2.2 0
 else if t.1=5 then bA S.l t.2.1 0 && bA S.l t.2.2 0
 else if t.1=8 then bA S.l t.2.1 0 && bA S.l t.2.2 9
 else if t.1=9 then (decide (0≤t.2.1) && decide (t.2.1<S.tx.length)) && decide (t.2.2=0)
 else if t.1=10 then bA S.l t.2.1 9 && decide (t.2.2=0)
 else false
def iV (l:List Tm) (s:Int):Int:=l.foldl (fun b t=> if t.1=1∧t.2.1=s then max b (min t.2.2 dO+1) else b) 0
def TS.add (S:TS) (t:Tm):TS:=⟨S.l++ [t],S.tx⟩
def TS.put (S:TS) (t:Tm):TS:=if dF S t=true∧t ∉ S.l then S.add t else S
def dP (S:TS) (t:Tm):Int × Int:=if dF S t=true then (if t ∈ S.l then (mP S.l t:Int) else (S.l.length:Int),0) else (0,2)
def isSort (s:Int):Bool:=decide (1≤s) && decide (s≤4)
def TS.draw (S:TS) (s:Int):TS:=if isSort s=true∧iV S.l s≤dO then S.add (1,s,iV S.l s) else S
def iW (S:TS) (s:Int):Int × Int:=if isSort s=true then (if iV S.l s≤dO then ((S.l.length:Int),0) else (0,3)) else (0,2)
def BO (l:List Tm) (n i:Nat) (t:Tm):Prop:=
 (t.1=1∧(1≤t.2.1∧t.2.1≤4)∧0≤t.2.2)∨
 ((t.1=2∨t.1=3∨t.1=6∨t.1=7)∧(∃a:Nat,t.2.1=a∧a<i)∧t.2.2=0)∨
 (t.1=4∧(∃a:Nat,t.2.1=a∧a<i∧∃u,l[a]? =some u∧u.1=2)∧∃b:Nat,t.2.2=b∧b<i)∨
 (t.1=5∧(∃a:Nat,t.2.1=a∧a<i)∧∃b:Nat,t.2.2=b∧b<i)∨
 (t.1=8∧(∃a:Nat,t.2.1=a∧a<i)∧∃b:Nat,t.2.2=b∧b<i∧∃u,l[b]? =some u∧u.1=9)∨
 (t.1=9∧(∃a:Nat,t.2.1=a∧a<n)∧t.2.2=0)∨
 (t.1=10∧(∃a:Nat,t.2.1=a∧a<i∧∃u,l[a]? =some u∧u.1=9)∧t.2.2=0)
structure TS.Ok (S:TS):Prop where
 nd:S.l.Nodup
 ok:∀i t,S.l[i]? =some t→BO S.l S.tx.length i t
 all:∀j,j<S.tx.length→((9,(j:Int),0):Tm) ∈ S.l
 txn:S.tx.Nodup
theorem gU {l:List Tm} {n kind:Int}:bA l n kind=true ↔ ∃a:Nat,n=a∧∃t,l[a]? =some t∧(kind=0∨t.1=kind):=by
 unfold bA mR
 constructor
 ·intro h
  simp only [Bool.and_eq_true,decide_eq_true_eq,Bool.or_eq_true] at h
  obtain ⟨⟨h1,h2⟩,h3⟩:=h
  obtain ⟨a,rfl⟩:=Int.eq_ofNat_of_zero_le h1
  have hl:a<l.length:=by omega
  refine ⟨a,rfl,l[a],List.getElem?_eq_getElem hl,?_⟩
  rw [Int.toNat_natCast,List.getElem?_eq_getElem hl] at h3
  simpa using h3
 ·rintro ⟨a,rfl,t,h1,h2⟩
  have hl:a<l.length:=(List.getElem?_eq_some_iff.1 h1).1
  rw [Int.toNat_natCast,h1]
  simp only [Bool.and_eq_true,decide_eq_true_eq,Bool.or_eq_true]
  exact ⟨⟨by omega,by omega⟩,h2⟩
theorem oH {l l':List Tm} {n n' i:Nat} {t:Tm} (hl:l <+:l') (hn:n≤n') (h:BO l n i t):BO l' n' i t:=by
 have up:∀{a:Nat} {k:Int},(∃u,l[a]? =some u∧u.1=k)→∃u,l'[a]? =some u∧u.1=k:=fun ⟨u,h1,h2⟩=> ⟨u,qy hl h1,h2⟩
 rcases h with h | h | ⟨h,⟨a,h1,h2,h3⟩,h4⟩ | h | ⟨h,h1,b,h2,h3,h4⟩ | ⟨h,⟨a,h1,h2⟩,h3⟩ | ⟨h,⟨a,h1,h2,h3⟩,h4⟩
 ·exact .inl h
 ·exact .inr (.inl h)
 ·exact .inr (.inr (.inl ⟨h,⟨a,h1,h2,up h3⟩,h4⟩))
 ·exact .inr (.inr (.inr (.inl h)))
 ·exact .inr (.inr (.inr (.inr (.inl ⟨h,h1,b,h2,h3,up h4⟩))))
 ·exact .inr (.inr (.inr (.inr (.inr (.inl ⟨h,⟨a,h1,by omega⟩,h3⟩)))))
 ·exact .inr (.inr (.inr (.inr (.inr (.inr ⟨h,⟨a,h1,h2,up h3⟩,h4⟩)))))
theorem dG {l:List Tm} {n kind:Int} (h:bA l n kind=true):∃a:Nat,n=a∧a<l.length∧(kind≠0→∃u,l[a]? =some u∧u.1=kind):=by
 obtain ⟨a,h1,t,h2,h3⟩:=gU.1 h
 exact ⟨a,h1,(List.getElem?_eq_some_iff.1 h2).1,fun hk=> ⟨t,h2,h3.resolve_left hk⟩⟩
theorem rT {S:TS} {t:Tm} (h:dF S t=true):BO S.l S.tx.length S.l.length t:=by
 unfold dF at h
 split at h
 ·rename_i h1
  simp only [Bool.and_eq_true,decide_eq_true_eq] at h
  exact .inl ⟨h1,h.1,h.2⟩
 split at h
 ·rename_i h1
  simp only [Bool.and_eq_true,decide_eq_true_eq] at h
  obtain ⟨a,e1,e2,_⟩:=dG h.1
  exact .inr (.inl ⟨h1,⟨a,e1,e2⟩,h.2⟩)
 split at h
 ·rename_i h1
  simp only [Bool.and_eq_true] at h
  obtain ⟨a,e1,e2,e3⟩:=dG h.1
  obtain ⟨b,f1,f2,_⟩:=dG h.2
  exact .inr (.inr (.inl ⟨h1,⟨a,e1,e2,e3 (by decide)⟩,b,f1,f2⟩))
 split at h
 ·rename_i h1
  simp only [Bool.and_eq_true] at h
  obtain ⟨a,e1,e2,_⟩:=dG h.1
  obtain ⟨b,f1,f2,_⟩:=dG h.2
  exact .inr (.inr (.inr (.inl ⟨h1,⟨a,e1,e2⟩,b,f1,f2⟩)))
 split at h
 ·rename_i h1
  simp only [Bool.and_eq_true] at h
  obtain ⟨a,e1,e2,_⟩:=dG h.1
  obtain ⟨b,f1,f2,f3⟩:=dG h.2
  exact .inr (.inr (.inr (.inr (.inl ⟨h1,⟨a,e1,e2⟩,b,f1,f2,f3 (by decide)⟩))))
 split at h
 ·rename_i h1
  simp only [Bool.and_eq_true,decide_eq_true_eq] at h
  obtain ⟨a,ha⟩:=Int.eq_ofNat_of_zero_le h.1.1
  exact .inr (.inr (.inr (.inr (.inr (.inl ⟨h1,⟨a,ha,by omega⟩,h.2⟩)))))
 split at h
 ·rename_i h1
  simp only [Bool.and_eq_true,decide_eq_true_eq] at h
  obtain ⟨a,e1,e2,e3⟩:=dG h.1
  exact .inr (.inr (.inr (.inr (.inr (.inr ⟨h1,⟨a,e1,e2,e3 (by decide)⟩,h.2⟩)))))
 ·cases h
theorem TS.Ok.empty:TS.Ok ⟨[], []⟩:=⟨List.nodup_nil,(fun i t h=> by simp at h),(fun j hj=> absurd hj (Nat.not_lt_zero _)),List.nodup_nil⟩
theorem dK {α:Type} {l:List α} {x:α} (h:l.Nodup) (hx:x ∉ l):(l++ [x]).Nodup:=by
 rw [List.nodup_append]
 exact ⟨h,by simp,fun a ha b hb=> by simp at hb;subst hb;intro e;subst e;exact hx ha⟩
theorem TS.Ok.add {S:TS} {t:Tm} (h:S.Ok) (ht:t ∉ S.l) (ho:BO S.l S.tx.length S.l.length t):(S.add t).Ok:=by
 refine ⟨dK h.nd ht,fun i u hu=> ?_,fun j hj=> List.mem_append.2 (.inl (h.all j hj)),h.txn⟩
 have hp:S.l <+:S.l++ [t] :=List.prefix_append _ _
 have hu:(S.l++ [t])[i]? =some u:=hu
 by_cases hi:i<S.l.length
 ·rw [List.getElem?_append_left hi] at hu
  exact oH hp (Nat.le_refl _) (h.ok i u hu)
 ·have hl:=(List.getElem?_eq_some_iff.1 hu).1
  rw [List.length_append,List.length_singleton] at hl
  obtain rfl:i=S.l.length:=by omega
  rw [List.getElem?_append_right (Nat.le_refl _),Nat.sub_self] at hu
  cases hu
  exact oH hp (Nat.le_refl _) ho
theorem TS.Ok.put {S:TS} (h:S.Ok) (t:Tm):(S.put t).Ok:=by
 unfold TS.put
 split
 ·rename_i hp
  exact h.add hp.2 (rT hp.1)
 ·exact h
theorem lK (s:Int):∀(l:List Tm) (b:Int),b≤l.foldl (fun b t=> if t.1=1∧t.2.1=s then max b (min t.2.2 dO+1) else b) b∧
  ∀t,t ∈ l→t.1=1→t.2.1=s→min t.2.2 dO+1≤l.foldl (fun b t=> if t.1=1∧t.2.1=s then max b (min t.2.2 dO+1) else b) b:=by
 intro l
 induction l with
 | nil=> intro b;exact ⟨Int.le_refl _,fun t h=> by cases h⟩
 | cons a l ih=>
  intro b
  rw [List.foldl_cons]
  obtain ⟨h1,h2⟩:=ih (if a.1=1∧a.2.1=s then max b (min a.2.2 dO+1) else b)
  refine ⟨Int.le_trans ?_ h1,fun t ht hk hs=> ?_⟩
  ·split<;> omega
  ·rcases List.mem_cons.1 ht with rfl | ht
   ·refine Int.le_trans ?_ h1
    rw [if_pos ⟨hk,hs⟩]
    omega
   ·exact h2 t ht hk hs
theorem zD {l:List Tm} {s:Int} {t:Tm} (ht:t ∈ l) (hk:t.1=1) (hs:t.2.1=s):min t.2.2 dO+1≤iV l s:=(lK s l 0).2 t ht hk hs
theorem jQ (l:List Tm) (s:Int):0≤iV l s:=(lK s l 0).1
theorem jP (l:List Tm) (t:Tm) (s:Int):iV (l++ [t]) s=if t.1=1∧t.2.1=s then max (iV l s) (min t.2.2 dO+1) else iV l s:=by
 unfold iV
 rw [List.foldl_append]
 rfl
theorem zF (s:Int):∀(l:List Tm) (b:Int),b≤dO+1→l.foldl (fun b t=> if t.1=1∧t.2.1=s then max b (min t.2.2 dO+1) else b) b≤dO+1:=by
 intro l
 induction l with
 | nil=> intro b h;exact h
 | cons a l ih=>
  intro b h
  rw [List.foldl_cons]
  refine ih _ ?_
  split<;> omega
theorem xG (l:List Tm) (s:Int):iV l s≤dO+1:=zF s l 0 (by unfold dO;omega)
theorem rQ {l:List Tm} {s:Int} (h:iV l s≤dO):((1,s,iV l s):Tm) ∉ l:=fun hm=> by
 have:=zD hm rfl rfl
 simp only at this
 omega
theorem TS.Ok.draw {S:TS} (h:S.Ok) (s:Int):(S.draw s).Ok:=by
 unfold TS.draw
 split
 ·rename_i hp
  have h1:=hp.1
  simp only [isSort,Bool.and_eq_true,decide_eq_true_eq] at h1
  exact h.add (rQ hp.2) (.inl ⟨rfl,h1,jQ _ _⟩)
 ·exact h
def rM (x:Int):Prop:= -9223372036854775808≤x∧x≤9223372036854775807
def jN (t:Tm):Prop:=rM t.1∧rM t.2.1∧rM t.2.2
theorem gZ (S:TS) (t:Tm):(S.add t).l.length=S.l.length+1:=by simp [TS.add]
theorem gN (S:TS) (t:Tm):(S.put t).l.length≤S.l.length+1∧(S.put t).tx=S.tx:=by
 unfold TS.put
 split
 ·exact ⟨by rw [gZ];omega,rfl⟩
 ·exact ⟨by omega,rfl⟩
end Go.aG
