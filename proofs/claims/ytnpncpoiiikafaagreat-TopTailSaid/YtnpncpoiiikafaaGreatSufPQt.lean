/- SufP -/
import Derived.Test.YtnpncpoiiikafaaGreatMemQt
set_option linter.unusedVariables false
set_option linter.unusedSimpArgs false
set_option linter.unnecessarySimpa false
set_option maxRecDepth 100000
set_option maxHeartbeats 32000000
namespace Go.Proofs.YtnpncpoiiikafaaGreat
namespace SufW
def leL:List Nat → List Nat → Bool
 | [],_=>true
 | _ :: _,[]=>false
 | a :: x,b :: y=>decide (a < b) || (decide (a = b) && leL x y)
theorem leL_refl (x:List Nat):leL x x = true:=by induction x <;> simp [leL, *]
theorem leL_anti:∀ x y:List Nat,leL x y = true → leL y x = true → x = y
 | [],[],_,_=>rfl
 | [],_ :: _,_,h=>by simp [leL] at h
 | _ :: _,[],h,_=>by simp [leL] at h
 | a :: x,b :: y,h1,h2=>by
  simp only [leL,Bool.or_eq_true,Bool.and_eq_true,decide_eq_true_eq] at h1 h2
  have e:a = b:=by omega
  subst e
  rcases h1 with h1 | ⟨_,h1⟩
  ·omega
  ·rcases h2 with h2 | ⟨_,h2⟩
   ·omega
   ·rw [leL_anti x y h1 h2]
theorem leL_app:∀ (L:Nat) (x y x' y':List Nat),x.length≤L → y.length≤L → (x.length < L → x' = []) → (y.length < L → y' = []) →
 (leL (x ++ x') (y ++ y') = true ↔ (leL x y = true∧x ≠ y) ∨ (x = y∧leL x' y' = true))
 | L,[],[],x',y',_,_,_,_=>by simp
 | L,[],b :: y,x',y',h1,h2,h3,h4=>by
  have:x' = []:=h3 (by simp at h2 ⊢;omega)
  subst this
  simp [leL]
 | L,a :: x,[],x',y',h1,h2,h3,h4=>by
  have:y' = []:=h4 (by simp at h1 ⊢;omega)
  subst this
  simp [leL]
 | 0,a :: x,b :: y,x',y',h1,_,_,_=>by simp at h1
 | L + 1,a :: x,b :: y,x',y',h1,h2,h3,h4=>by
  have ih:=leL_app L x y x' y' (by simp at h1;omega) (by simp at h2;omega) (fun h=>h3 (by simp;omega)) (fun h=>h4 (by simp;omega))
  simp only [List.cons_append,leL,Bool.or_eq_true,Bool.and_eq_true,decide_eq_true_eq,ih,List.cons.injEq,ne_eq]
  constructor
  ·rintro (h | ⟨e,h | h⟩)
   ·exact .inl ⟨.inl h,fun he=>by omega⟩
   ·exact .inl ⟨.inr ⟨e,h.1⟩,fun he=>h.2 he.2⟩
   ·exact .inr ⟨⟨e,h.1⟩,h.2⟩
  ·rintro (⟨h | ⟨e,h⟩,hn⟩ | ⟨⟨e,h⟩,h'⟩)
   ·exact .inl h
   ·exact .inr ⟨e,.inl ⟨h,fun hx=>hn ⟨e,hx⟩⟩⟩
   ·exact .inr ⟨e,.inr ⟨h,h'⟩⟩
def csort (key:Nat → Nat) (most:Nat) (l:List Nat):List Nat:=(List.range (most + 1)).flatMap fun k=>l.filter fun p=>key p == k
theorem csort_mem {key:Nat → Nat} {most:Nat} {l:List Nat} (h:∀ p ∈ l,key p≤most) (p:Nat):p ∈ csort key most l ↔ p ∈ l:=by
 simp only [csort,List.mem_flatMap,List.mem_range,List.mem_filter,beq_iff_eq]
 constructor
 ·rintro ⟨k,_,hp,_⟩;exact hp
 ·intro hp;exact ⟨key p,by have:=h p hp;omega,hp,rfl⟩
theorem csort_pw {key:Nat → Nat} {most:Nat} {l:List Nat} {R:Nat → Nat → Prop} (h:l.Pairwise R):(csort key most l).Pairwise fun p q=>key p < key q ∨ (key p = key q∧R p q):=by
 unfold csort
 rw [List.pairwise_flatMap]
 refine ⟨fun k _=>?_,?_⟩
 ·refine (h.sublist List.filter_sublist).imp_of_mem ?_
  intro p q hp hq hr
  simp only [List.mem_filter,beq_iff_eq] at hp hq
  exact .inr ⟨by omega,hr⟩
 ·refine (List.pairwise_lt_range).imp ?_
  intro a b hab p hp q hq
  simp only [List.mem_filter,beq_iff_eq] at hp hq
  exact .inl (by omega)
theorem csort_nodup {key:Nat → Nat} {most:Nat} {l:List Nat} (h:l.Nodup):(csort key most l).Nodup:=by
 have:=csort_pw (key:=key) (most:=most) h
 refine this.imp ?_
 rintro p q (h | h)
 ·intro e;subst e;omega
 ·exact h.2
theorem csort_count (key:Nat → Nat) (l:List Nat) (f:Nat → Bool):∀ most,(∀ p ∈ l,key p≤most) → (csort key most l).countP f = l.countP f:=by
 intro most h
 have e:∀ m,(csort key m l).countP f = l.countP fun p=>f p && decide (key p≤m):=by
  intro m
  unfold csort
  induction m with
  | zero =>
   simp only [List.range_succ,List.range_zero,List.nil_append,List.flatMap_cons,List.flatMap_nil,List.append_nil,List.countP_filter]
   congr 1
   funext p
   have:(key p == 0) = decide (key p≤0):=by rw [Bool.eq_iff_iff];simp
   rw [this]
  | succ m ih =>
   rw [List.range_succ,List.flatMap_append,List.countP_append,ih]
   simp only [List.flatMap_cons,List.flatMap_nil,List.append_nil,List.countP_filter]
   clear ih h
   induction l with
   | nil=>rfl
   | cons a l ih =>
    simp only [List.countP_cons]
    have:(if (f a && decide (key a≤m)) = true then 1 else 0) + (if (f a && key a == m + 1) = true then 1 else 0) = if (f a && decide (key a≤m + 1)) = true then 1 else 0:=by
     cases f a
     ·simp
     ·simp only [Bool.true_and,decide_eq_true_eq,beq_iff_eq]
      split <;> split <;> split <;> omega
    omega
 rw [e]
 clear e
 induction l with
 | nil=>rfl
 | cons a l ih =>
  simp only [List.countP_cons]
  have:=h a (by simp)
  rw [ih (fun p hp=>h p (by simp [hp])),decide_eq_true this,Bool.and_true]
theorem csort_len (key:Nat → Nat) (l:List Nat) (most:Nat) (h:∀ p ∈ l,key p≤most):(csort key most l).length = l.length:=by
 have:=csort_count key l (fun _=>true) most h
 simpa using this
def pre (T:List Nat) (L p:Nat):List Nat:=(T.drop p).take L
theorem pre_len (T:List Nat) (L p:Nat):(pre T L p).length = min L (T.length - p):=by simp [pre]
theorem pre_two (T:List Nat) (L p:Nat):pre T (L + L) p = pre T L p ++ pre T L (p + L):=by
 unfold pre
 rw [List.take_add,List.drop_drop]
theorem pre_short (T:List Nat) (L p:Nat) (h:(pre T L p).length < L):pre T L (p + L) = []:=by
 rw [pre_len] at h
 unfold pre
 rw [List.drop_eq_nil_of_le (by omega)]
 simp
theorem leL_two (T:List Nat) (L p q:Nat):leL (pre T (L + L) p) (pre T (L + L) q) = true ↔ (leL (pre T L p) (pre T L q) = true∧pre T L p ≠ pre T L q) ∨ (pre T L p = pre T L q∧leL (pre T L (p + L)) (pre T L (q + L)) = true):=by
 rw [pre_two,pre_two]
 exact leL_app L _ _ _ _ (by rw [pre_len];omega) (by rw [pre_len];omega) (pre_short T L p) (pre_short T L q)
def RankOf (T:List Nat) (L:Nat) (rk:Nat → Nat):Prop:=(∀ p,p < T.length → rk p < T.length)∧∀ p q,p < T.length → q < T.length → (rk p≤rk q ↔ leL (pre T L p) (pre T L q) = true)
theorem RankOf.eq {T:List Nat} {L:Nat} {rk:Nat → Nat} (h:RankOf T L rk) {p q:Nat} (hp:p < T.length) (hq:q < T.length):rk p = rk q ↔ pre T L p = pre T L q:=by
 have h1:=h.2 p q hp hq
 have h2:=h.2 q p hq hp
 constructor
 ·intro e;exact leL_anti _ _ (h1.1 (by omega)) (h2.1 (by omega))
 ·intro e
  rw [e] at h1 h2
  have:=h1.2 (leL_refl _)
  have:=h2.2 (leL_refl _)
  omega
theorem RankOf.lt {T:List Nat} {L:Nat} {rk:Nat → Nat} (h:RankOf T L rk) {p q:Nat} (hp:p < T.length) (hq:q < T.length):rk p < rk q ↔ leL (pre T L p) (pre T L q) = true∧pre T L p ≠ pre T L q:=by
 have h1:=h.2 p q hp hq
 have h2:=h.eq hp hq
 rw [← h1,ne_eq,← h2]
 omega
def second (n L:Nat) (rk:Nat → Nat) (p:Nat):Nat:=if p + L < n then rk (p + L) + 1 else 0
theorem second_le {T:List Nat} {L:Nat} {rk:Nat → Nat} (h:RankOf T L rk) (hL:1≤L) (p q:Nat):second T.length L rk p≤second T.length L rk q ↔ leL (pre T L (p + L)) (pre T L (q + L)) = true:=by
 unfold second
 by_cases h1:p + L < T.length
 ·rw [if_pos h1]
  by_cases h2:q + L < T.length
  ·rw [if_pos h2,← h.2 _ _ h1 h2];omega
  ·rw [if_neg h2]
   have e:pre T L (q + L) = []:=by unfold pre;rw [List.drop_eq_nil_of_le (by omega)];simp
   have e2:pre T L (p + L) ≠ []:=by intro e;have:=congrArg List.length e;rw [pre_len] at this;simp at this;omega
   rw [e]
   cases hc:pre T L (p + L) with
   | nil=>exact absurd hc e2
   | cons a x=>simp [leL]
 ·rw [if_neg h1]
  have e:pre T L (p + L) = []:=by unfold pre;rw [List.drop_eq_nil_of_le (by omega)];simp
  rw [e]
  simp [leL]
structure Arr (T:List Nat) (L:Nat) (A:List Nat):Prop where
 len:A.length = T.length
 nodup:A.Nodup
 mem:∀ p,p ∈ A ↔ p < T.length
 pw:A.Pairwise fun p q=>leL (pre T L p) (pre T L q) = true
theorem arr_next {T:List Nat} {L:Nat} {rk:Nat → Nat} {A:List Nat} (hL:1≤L) (hr:RankOf T L rk) (hA:A.length = T.length) (hn:A.Nodup) (hm:∀ p,p ∈ A ↔ p < T.length) :
 Arr T (L + L) (csort rk T.length (csort (second T.length L rk) (T.length + 1) A)):=by
 have b2:∀ p ∈ A,second T.length L rk p≤T.length + 1:=by
  intro p hp
  unfold second
  split
  ·next h=>have:=hr.1 _ h;omega
  ·omega
 have m2:=csort_mem (l:=A) b2
 have b1:∀ p ∈ csort (second T.length L rk) (T.length + 1) A,rk p≤T.length:=by
  intro p hp
  have:=hr.1 p ((hm p).1 ((m2 p).1 hp))
  omega
 have m1:=csort_mem b1
 refine ⟨by rw [csort_len _ _ _ b1,csort_len _ _ _ b2,hA],csort_nodup (csort_nodup hn),fun p=>by rw [m1,m2,hm],?_⟩
 have pw2:(csort (second T.length L rk) (T.length + 1) A).Pairwise fun p q=>second T.length L rk p≤second T.length L rk q:=by
  refine (csort_pw (R:=fun _ _=>True) (l:=A) (List.pairwise_of_forall (fun _ _=>trivial))).imp ?_
  rintro p q (h | h) <;> omega
 refine (csort_pw (key:=rk) (most:=T.length) pw2).imp_of_mem ?_
 intro p q hp hq h
 have hp':=(hm p).1 ((m2 p).1 ((m1 p).1 hp))
 have hq':=(hm q).1 ((m2 q).1 ((m1 q).1 hq))
 rw [leL_two]
 rcases h with h | ⟨h,h'⟩
 ·exact .inl ((hr.lt hp' hq').1 h)
 ·exact .inr ⟨(hr.eq hp' hq').1 h,(second_le hr hL p q).1 h'⟩
def drank (d:Nat → Nat → Bool) (A:List Nat):Nat → Nat
 | 0=>0
 | i + 1=>drank d A i + if d (A[i]?.getD 0) (A[i + 1]?.getD 0) then 1 else 0
theorem drank_le (d:Nat → Nat → Bool) (A:List Nat) (i:Nat):drank d A i≤i:=by
 induction i with
 | zero=>simp [drank]
 | succ i ih=>rw [drank];split <;> omega
theorem drank_up (d:Nat → Nat → Bool) (A:List Nat) (i k:Nat):drank d A i≤drank d A (i + k):=by
 induction k with
 | zero=>simp
 | succ k ih=>rw [← Nat.add_assoc,drank];omega
theorem drank_all (d:Nat → Nat → Bool) (A:List Nat) (m:Nat) (h:drank d A m = m):∀ i,i < m → d (A[i]?.getD 0) (A[i + 1]?.getD 0) = true:=by
 induction m with
 | zero=>intro i hi;omega
 | succ m ih =>
  rw [drank] at h
  have:=drank_le d A m
  intro i hi
  by_cases hd:d (A[m]?.getD 0) (A[m + 1]?.getD 0) = true
  ·rw [if_pos hd] at h
   by_cases e:i = m
   ·subst e;exact hd
   ·exact ih (by omega) i (by omega)
  ·rw [if_neg hd] at h;omega
theorem rank_next {T:List Nat} {L:Nat} {A:List Nat} {d:Nat → Nat → Bool} (hA:Arr T L A) (hd:∀ p q,p < T.length → q < T.length → (d p q = true ↔ pre T L p ≠ pre T L q)) (nx:Nat → Nat)
 (hx:∀ i (h:i < A.length),nx A[i] = drank d A i):RankOf T L nx:=by
 have hlt:∀ i (h:i < A.length),A[i] < T.length:=fun i h=>(hA.mem _).1 (List.getElem_mem h)
 have hpl:∀ p,p < T.length → ∃ i,∃ h:i < A.length,A[i] = p:=fun p hp=>List.getElem_of_mem ((hA.mem p).2 hp)
 have hpw:∀ i j (hi:i < A.length) (hj:j < A.length),i < j → leL (pre T L A[i]) (pre T L A[j]) = true:=fun i j hi hj h=>List.pairwise_iff_getElem.1 hA.pw i j hi hj h
 have hg:∀ i (h:i < A.length),A[i]?.getD 0 = A[i]:=fun i h=>by rw [List.getElem?_eq_getElem h];rfl
 have heq:∀ k i (h:i + k < A.length),drank d A i = drank d A (i + k) → pre T L (A[i]'(by omega)) = pre T L A[i + k]:=by
  intro k
  induction k with
  | zero=>intro i h _;rfl
  | succ k ih =>
   intro i h e
   have u:=drank_up d A i k
   have hs:drank d A (i + (k + 1)) = drank d A (i + k) + if d (A[i + k]?.getD 0) (A[i + (k + 1)]?.getD 0) then 1 else 0:=rfl
   rw [hg _ (by omega),hg _ h] at hs
   by_cases c:d A[i + k] A[i + (k + 1)] = true
   ·rw [if_pos c] at hs;omega
   ·rw [if_neg c] at hs
    rw [ih i (by omega) (by omega)]
    have:=hd _ _ (hlt (i + k) (by omega)) (hlt (i + (k + 1)) h)
    exact Classical.byContradiction fun hc=>c (this.2 hc)
 have hne:∀ k i (h:i + k < A.length),drank d A i < drank d A (i + k) → pre T L (A[i]'(by omega)) ≠ pre T L A[i + k]:=by
  intro k
  induction k with
  | zero=>intro i h e;simp at e
  | succ k ih =>
   intro i h e he
   have hs:drank d A (i + (k + 1)) = drank d A (i + k) + if d (A[i + k]?.getD 0) (A[i + (k + 1)]?.getD 0) then 1 else 0:=rfl
   rw [hg _ (by omega),hg _ h] at hs
   have l1:leL (pre T L (A[i]'(by omega))) (pre T L A[i + k]) = true:=by
    by_cases k0:k = 0
    ·subst k0;exact leL_refl _
    ·exact hpw i (i + k) (by omega) (by omega) (by omega)
   have l2:=hpw (i + k) (i + (k + 1)) (by omega) h (by omega)
   rw [← he] at l2
   have e1:=leL_anti _ _ l1 l2
   have c:¬ d A[i + k] A[i + (k + 1)] = true:=by
    rw [hd _ _ (hlt (i + k) (by omega)) (hlt (i + (k + 1)) h)]
    intro hc
    exact hc (by rw [← e1,he])
   rw [if_neg c] at hs
   exact ih i (by omega) (by omega) e1
 refine ⟨fun p hp=>?_,fun p q hp hq=>?_⟩
 ·obtain ⟨i,hi,rfl⟩:=hpl p hp
  rw [hx i hi]
  have:=drank_le d A i
  have:=hA.len
  omega
 ·obtain ⟨i,hi,rfl⟩:=hpl p hp
  obtain ⟨j,hj,rfl⟩:=hpl q hq
  rw [hx i hi,hx j hj]
  rcases Nat.lt_or_ge i j with h | h
  ·have:=drank_up d A i (j - i)
   rw [show i + (j - i) = j by omega] at this
   exact ⟨fun _=>hpw i j hi hj h,fun _=>this⟩
  ·have u:=drank_up d A j (i - j)
   rw [show j + (i - j) = i by omega] at u
   constructor
   ·intro e
    have:=heq (i - j) j (by omega) (by rw [show j + (i - j) = i by omega];omega)
    have e2:pre T L A[j] = pre T L A[i]:=by simpa [show j + (i - j) = i by omega] using this
    rw [e2];exact leL_refl _
   ·intro e
    apply Classical.byContradiction
    intro hc
    have n:=hne (i - j) j (by omega) (by rw [show j + (i - j) = i by omega];omega)
    have n2:pre T L A[j] ≠ pre T L A[i]:=by simpa [show j + (i - j) = i by omega] using n
    by_cases hij:i = j
    ·subst hij;exact n2 rfl
    ·exact n2 (leL_anti _ _ (hpw j i hj hi (by omega)) e)
structure Sa (T:List Nat) (A:List Nat):Prop where
 len:A.length = T.length
 nodup:A.Nodup
 mem:∀ p,p ∈ A ↔ p < T.length
 pw:A.Pairwise fun p q=>leL (T.drop p) (T.drop q) = true
theorem leL_take (L:Nat) (X Y:List Nat) (h:leL (X.take L) (Y.take L) = true) (hn:X.take L ≠ Y.take L):leL X Y = true:=by
 have e1:=List.take_append_drop L X
 have e2:=List.take_append_drop L Y
 have:=leL_app L (X.take L) (Y.take L) (X.drop L) (Y.drop L) (by simp only [List.length_take];omega) (by simp only [List.length_take];omega)
  (by simp only [List.length_take];intro h;exact List.drop_eq_nil_of_le (by omega)) (by simp only [List.length_take];intro h;exact List.drop_eq_nil_of_le (by omega))
 rw [e1,e2] at this
 exact this.2 (.inl ⟨h,hn⟩)
theorem arr_done {T:List Nat} {L:Nat} {A:List Nat} {d:Nat → Nat → Bool} (hA:Arr T L A) (hd:∀ p q,p < T.length → q < T.length → (d p q = true ↔ pre T L p ≠ pre T L q))
 (h:drank d A (T.length - 1) = T.length - 1):Sa T A:=by
 refine ⟨hA.len,hA.nodup,hA.mem,?_⟩
 have hall:=drank_all d A _ h
 have hlt:∀ i (h:i < A.length),A[i] < T.length:=fun i h=>(hA.mem _).1 (List.getElem_mem h)
 have hpw:∀ i j (hi:i < A.length) (hj:j < A.length),i < j → leL (pre T L A[i]) (pre T L A[j]) = true:=fun i j hi hj h=>List.pairwise_iff_getElem.1 hA.pw i j hi hj h
 have hl:=hA.len
 rw [List.pairwise_iff_getElem]
 intro i j hi hj hij
 have e1:=hpw i j hi hj hij
 refine leL_take L _ _ e1 ?_
 intro he
 have c:=hall i (by omega)
 rw [List.getElem?_eq_getElem hi,List.getElem?_eq_getElem (show i + 1 < A.length by omega)] at c
 have c2:=(hd _ _ (hlt i hi) (hlt (i + 1) (by omega))).1 c
 have a1:=hpw i (i + 1) hi (by omega) (by omega)
 have a2:leL (pre T L A[i + 1]) (pre T L A[i]) = true:=by
  have he':pre T L A[i] = pre T L A[j]:=he
  rw [he']
  by_cases e:i + 1 = j
  ·subst e;exact leL_refl _
  ·exact hpw (i + 1) j (by omega) hj (by omega)
 exact c2 (leL_anti _ _ a1 a2)
theorem drank_full (d:Nat → Nat → Bool) (A:List Nat) (m:Nat) (h:∀ i,i < m → d (A[i]?.getD 0) (A[i + 1]?.getD 0) = true):drank d A m = m:=by
 induction m with
 | zero=>rfl
 | succ m ih=>rw [drank,ih (fun i hi=>h i (by omega)),if_pos (h m (by omega))]
theorem arr_more {T:List Nat} {L:Nat} {A:List Nat} {d:Nat → Nat → Bool} (hA:Arr T L A) (hd:∀ p q,p < T.length → q < T.length → (d p q = true ↔ pre T L p ≠ pre T L q))
 (h:drank d A (T.length - 1) ≠ T.length - 1):L < T.length:=by
 apply Classical.byContradiction
 intro hc
 apply h
 apply drank_full
 intro i hi
 have hl:=hA.len
 rw [List.getElem?_eq_getElem (show i < A.length by omega),List.getElem?_eq_getElem (show i + 1 < A.length by omega)]
 have l1:=(hA.mem _).1 (List.getElem_mem (show i < A.length by omega))
 have l2:=(hA.mem _).1 (List.getElem_mem (show i + 1 < A.length by omega))
 refine (hd _ _ l1 l2).2 ?_
 intro e
 have:=congrArg List.length e
 simp only [pre_len] at this
 have e2:A[i]'(by omega) = A[i + 1]'(by omega):=by omega
 have:=(List.getElem_inj hA.nodup).1 e2
 omega
def letters (s:List UInt8):List Nat:=s.map (fun b=>b.toNat + 1) ++ [0]
theorem letters_len (s:List UInt8):(letters s).length = s.length + 1:=by simp [letters]
theorem letters_drop (s:List UInt8) (p:Nat) (h:p < s.length):(letters s).drop p = (s[p].toNat + 1) :: (letters s).drop (p + 1):=by
 have hl:=letters_len s
 rw [List.drop_eq_getElem_cons (by omega)]
 congr 1
 simp [letters,h]
theorem letters_end (s:List UInt8):(letters s).drop s.length = [0]:=by simp [letters]
def ltB (T:List Nat) (q p:Nat):Bool:=leL (T.drop q) (T.drop p) && q != p
theorem Sa.place {T A:List Nat} (h:Sa T A) (i:Nat) (hi:i < A.length):A.countP (fun q=>ltB T q A[i]) = i:=by
 have hpw:=List.pairwise_iff_getElem.1 h.pw
 have e:A = A.take i ++ A.drop i:=(List.take_append_drop i A).symm
 have c1:(A.take i).countP (fun q=>ltB T q A[i]) = i:=by
  rw [List.countP_eq_length.2]
  ·simp only [List.length_take];omega
  ·intro q hq
   obtain ⟨j,hj,rfl⟩:=List.getElem_of_mem hq
   simp only [List.length_take] at hj
   rw [List.getElem_take]
   unfold ltB
   rw [hpw j i (by omega) hi (by omega),Bool.true_and,bne_iff_ne]
   intro e
   have:=(List.getElem_inj h.nodup).1 e
   omega
 have c2:(A.drop i).countP (fun q=>ltB T q A[i]) = 0:=by
  rw [List.countP_eq_zero]
  intro q hq
  obtain ⟨j,hj,rfl⟩:=List.getElem_of_mem hq
  simp only [List.length_drop] at hj
  rw [List.getElem_drop]
  unfold ltB
  simp only [Bool.and_eq_true,bne_iff_ne,ne_eq,not_and,Classical.not_not]
  intro hle
  by_cases hj0:j = 0
  ·subst hj0;simp
  ·have:=hpw i (i + j) hi (by omega) (by omega)
   have e2:=leL_anti _ _ hle this
   have:=congrArg List.length e2
   simp only [List.length_drop] at this
   have m1:=(h.mem _).1 (List.getElem_mem (show i + j < A.length by omega))
   have m2:=(h.mem _).1 (List.getElem_mem hi)
   omega
 have:A.countP (fun q=>ltB T q A[i]) = (A.take i ++ A.drop i).countP (fun q=>ltB T q A[i]):=by rw [List.take_append_drop]
 rw [this,List.countP_append,c1,c2]
 omega
theorem Sa.perm {T A:List Nat} (h:Sa T A):A.Perm (List.range T.length):=by
 rw [List.perm_ext_iff_of_nodup h.nodup List.nodup_range]
 intro p
 rw [h.mem,List.mem_range]
theorem ltB_step (s:List UInt8) (q p:Nat) (hq:q < s.length) (hp:p < s.length) :
 ltB (letters s) q p = (decide (s[q].toNat < s[p].toNat) || (decide (s[q] = s[p]) && ltB (letters s) (q + 1) (p + 1))):=by
 unfold ltB
 rw [letters_drop s q hq,letters_drop s p hp,leL]
 by_cases e:s[q] = s[p]
 ·rw [e]
  simp
 ·have ne:s[q].toNat ≠ s[p].toNat:=fun h=>e (UInt8.toNat_inj.1 h)
  have hqp:q ≠ p:=by intro h;subst h;exact e rfl
  simp [e,ne,hqp]
theorem countP_two {α:Type} (l:List α) (f g:α → Bool) (h:∀ a ∈ l,¬ (f a = true∧g a = true)):l.countP (fun a=>f a || g a) = l.countP f + l.countP g:=by
 induction l with
 | nil=>rfl
 | cons a l ih =>
  have h0:=h a (by simp)
  rw [List.countP_cons,List.countP_cons,List.countP_cons,ih (fun b hb=>h b (by simp [hb]))]
  cases hf:f a <;> cases hg:g a <;> simp_all <;> omega
theorem range_one (n:Nat):List.range (n + 1) = 0 :: (List.range n).map (· + 1):=by
 rw [List.range_succ_eq_map]
theorem countP_get (s:List UInt8) (f:UInt8 → Bool):(List.range s.length).countP (fun q=>f (s[q]?.getD 0)) = s.countP f:=by
 induction s with
 | nil=>rfl
 | cons b s ih =>
  rw [List.length_cons,range_one,List.countP_cons,List.countP_map,List.countP_cons,← ih]
  rfl
theorem ahead (s:List UInt8) (A:List Nat) (hA:Sa (letters s) A) (p:Nat) (hp:p < s.length) (i:Nat) (hi:i < A.length) (hAi:A[i] = p + 1) :
 A.countP (fun q=>ltB (letters s) q p) = 1 + s.countP (fun b=>decide (b.toNat < s[p].toNat)) + (A.take i).countP (fun q=>decide (q ≠ 0) && decide (s[q - 1]?.getD 0 = s[p])):=by
 have hn:=letters_len s
 have hlen:=hA.len
 rw [hA.perm.countP_eq,hn,List.range_succ,List.countP_append]
 have h1:[s.length].countP (fun q=>ltB (letters s) q p) = 1:=by
  have:ltB (letters s) s.length p = true:=by
   unfold ltB
   rw [letters_end,letters_drop s p hp]
   simp [leL]
   omega
  simp [this]
 have h2:(List.range s.length).countP (fun q=>ltB (letters s) q p) =
  (List.range s.length).countP (fun q=>decide ((s[q]?.getD 0).toNat < s[p].toNat)) + (List.range s.length).countP (fun q=>decide (s[q]?.getD 0 = s[p]) && ltB (letters s) (q + 1) (p + 1)):=by
  rw [← countP_two]
  ·refine List.countP_congr ?_
   intro q hq
   have hq:=List.mem_range.1 hq
   rw [ltB_step s q p hq hp,List.getElem?_eq_getElem hq]
   simp
  ·intro q hq h
   simp only [decide_eq_true_eq,Bool.and_eq_true] at h
   have:=h.1
   rw [h.2.1] at this
   omega
 have h3:(List.range s.length).countP (fun q=>decide ((s[q]?.getD 0).toNat < s[p].toNat)) = s.countP (fun b=>decide (b.toNat < s[p].toNat)):=countP_get s (fun b=>decide (b.toNat < s[p].toNat))
 have h4:(List.range s.length).countP (fun q=>decide (s[q]?.getD 0 = s[p]) && ltB (letters s) (q + 1) (p + 1)) = A.countP (fun q=>(decide (q ≠ 0) && decide (s[q - 1]?.getD 0 = s[p])) && ltB (letters s) q (p + 1)):=by
  rw [hA.perm.countP_eq,hn,range_one,List.countP_cons,List.countP_map]
  simp only [ne_eq,not_true_eq_false,decide_false,Bool.false_and,Bool.false_eq_true,if_false,Nat.add_zero]
  refine List.countP_congr ?_
  intro q hq
  simp
 have h5:A.countP (fun q=>(decide (q ≠ 0) && decide (s[q - 1]?.getD 0 = s[p])) && ltB (letters s) q (p + 1)) = (A.take i).countP (fun q=>decide (q ≠ 0) && decide (s[q - 1]?.getD 0 = s[p])):=by
  have hp1:=hA.place i hi
  rw [hAi] at hp1
  have c:A.countP (fun q=>ltB (letters s) q (p + 1)) = (A.take i).countP (fun q=>ltB (letters s) q (p + 1)) + (A.drop i).countP (fun q=>ltB (letters s) q (p + 1)):=by
   rw [← List.countP_append,List.take_append_drop]
  have hpw:=List.pairwise_iff_getElem.1 hA.pw
  have t1:∀ q ∈ A.take i,ltB (letters s) q (p + 1) = true:=by
   intro q hq
   obtain ⟨j,hj,rfl⟩:=List.getElem_of_mem hq
   simp only [List.length_take] at hj
   rw [List.getElem_take]
   unfold ltB
   rw [← hAi,hpw j i (by omega) hi (by omega),Bool.true_and,bne_iff_ne]
   intro e
   have:=(List.getElem_inj hA.nodup).1 e
   omega
  have c1:(A.take i).countP (fun q=>ltB (letters s) q (p + 1)) = (A.take i).length:=List.countP_eq_length.2 t1
  simp only [List.length_take] at c1
  have c2:(A.drop i).countP (fun q=>ltB (letters s) q (p + 1)) = 0:=by omega
  rw [List.countP_eq_zero] at c2
  rw [show A.countP (fun q=>(decide (q ≠ 0) && decide (s[q - 1]?.getD 0 = s[p])) && ltB (letters s) q (p + 1)) = (A.take i ++ A.drop i).countP (fun q=>(decide (q ≠ 0) && decide (s[q - 1]?.getD 0 = s[p])) && ltB (letters s) q (p + 1)) by rw [List.take_append_drop]]
  rw [List.countP_append]
  have d2:(A.drop i).countP (fun q=>(decide (q ≠ 0) && decide (s[q - 1]?.getD 0 = s[p])) && ltB (letters s) q (p + 1)) = 0:=by
   rw [List.countP_eq_zero]
   intro q hq
   have:=c2 q hq
   simp only [Bool.and_eq_true,not_and]
   intro _
   exact this
  rw [d2,Nat.add_zero]
  refine List.countP_congr ?_
  intro q hq
  rw [t1 q hq,Bool.and_true]
 rw [h1,h2,h3,h4,h5]
 omega
def bwtL (s:List UInt8) (A:List Nat):List UInt8:=(A.filter (fun p=>decide (p ≠ 0))).map fun p=>s[p - 1]?.getD 0
def atB (L:List UInt8) (pr row:Nat):UInt8:=L[if pr < row then row - 1 else row]?.getD 0
def startB (L:List UInt8) (b:UInt8):Nat:=1 + L.countP (fun x=>decide (x.toNat < b.toNat))
def seenB (L:List UInt8) (pr row:Nat) (b:UInt8):Nat:=(List.range row).countP fun r=>decide (r ≠ pr) && decide (atB L pr r = b)
def stepB (L:List UInt8) (pr row:Nat):Nat:=if row = pr then 0 else startB L (atB L pr row) + seenB L pr row (atB L pr row)
theorem bwt_len (s:List UInt8) (A:List Nat) (hA:Sa (letters s) A):(bwtL s A).length = s.length:=by
 unfold bwtL
 rw [List.length_map,← List.countP_eq_length_filter,hA.perm.countP_eq,letters_len,range_one,List.countP_cons,List.countP_map]
 simp only [ne_eq,not_true_eq_false,decide_false,Bool.false_eq_true,if_false,Nat.add_zero]
 rw [List.countP_eq_length.2 (by intro q _;simp)]
 simp
theorem bwt_count (s:List UInt8) (A:List Nat) (hA:Sa (letters s) A) (f:UInt8 → Bool):(bwtL s A).countP f = s.countP f:=by
 unfold bwtL
 rw [List.countP_map,List.countP_filter,hA.perm.countP_eq,letters_len,range_one,List.countP_cons,List.countP_map,← countP_get]
 simp only [ne_eq,not_true_eq_false,decide_false,Bool.and_false,Bool.false_eq_true,if_false,Nat.add_zero]
 refine List.countP_congr ?_
 intro q _
 simp
theorem bwt_at (s:List UInt8) (A:List Nat) (hA:Sa (letters s) A) (pr:Nat) (hpr:A[pr]? = some 0) (row:Nat) (hr:row < A.length) (hne:row ≠ pr):A[row] ≠ 0∧atB (bwtL s A) pr row = s[A[row] - 1]?.getD 0:=by
 obtain ⟨hp,h0⟩:=List.getElem?_eq_some_iff.1 hpr
 have hz:A[row] ≠ 0:=by
  intro e
  have:A[row] = A[pr]:=by rw [e,h0]
  have:=(List.getElem_inj hA.nodup).1 this
  exact hne this
 refine ⟨hz,?_⟩
 have hf:A.filter (fun p=>decide (p ≠ 0)) = A.eraseIdx pr:=by
  have e1:A.filter (fun p=>decide (p ≠ 0)) = A.erase 0:=by
   rw [hA.nodup.erase_eq_filter]
   refine List.filter_congr ?_
   intro x _
   by_cases h:x = 0 <;> simp [h]
  have e2:A.idxOf 0 = pr:=by
   have:=hA.nodup.idxOf_getElem pr hp
   rwa [h0] at this
  rw [e1,List.erase_eq_eraseIdx_of_idxOf e2]
 unfold atB bwtL
 rw [hf,List.getElem?_map]
 have hg:(A.eraseIdx pr)[if pr < row then row - 1 else row]? = some A[row]:=by
  rw [List.getElem?_eraseIdx]
  by_cases c:pr < row
  ·rw [if_pos c,if_neg (by omega),show row - 1 + 1 = row by omega,List.getElem?_eq_getElem hr]
  ·rw [if_neg c,if_pos (by omega),List.getElem?_eq_getElem hr]
 rw [hg]
 rfl
theorem step_row (s:List UInt8) (A:List Nat) (hA:Sa (letters s) A) (pr:Nat) (hpr:A[pr]? = some 0) (row:Nat) (hr:row < A.length) (hne:row ≠ pr) :
 stepB (bwtL s A) pr row < A.length∧A[stepB (bwtL s A) pr row]? = some (A[row] - 1):=by
 obtain ⟨hz,hat⟩:=bwt_at s A hA pr hpr row hr hne
 have hn:=letters_len s
 have hlen:=hA.len
 have hm:=(hA.mem _).1 (List.getElem_mem hr)
 obtain ⟨p,hp⟩:∃ p,A[row] = p + 1:=⟨A[row] - 1,by omega⟩
 have hps:p < s.length:=by omega
 obtain ⟨i,hi,hip⟩:=List.getElem_of_mem ((hA.mem p).2 (by omega))
 have hpl:=hA.place i hi
 rw [hip,ahead s A hA p hps row hr hp] at hpl
 have hb:atB (bwtL s A) pr row = s[p]:=by rw [hat,hp,Nat.add_sub_cancel,List.getElem?_eq_getElem hps];rfl
 have hs:seenB (bwtL s A) pr row (s[p]) = (A.take row).countP (fun q=>decide (q ≠ 0) && decide (s[q - 1]?.getD 0 = s[p])):=by
  unfold seenB
  have e:A.take row = (List.range row).map fun r=>A[r]?.getD 0:=by
   apply List.ext_getElem
   ·simp;omega
   ·intro k h1 h2
    simp at h1
    rw [List.getElem_take,List.getElem_map,List.getElem_range,List.getElem?_eq_getElem (by omega)]
    rfl
  rw [e,List.countP_map]
  refine List.countP_congr ?_
  intro r hr2
  have hr2:=List.mem_range.1 hr2
  by_cases c:r = pr
  ·subst c
   simp [hpr]
  ·obtain ⟨z,za⟩:=bwt_at s A hA pr hpr r (by omega) c
   simp only [Function.comp,za,List.getElem?_eq_getElem (show r < A.length by omega),Option.getD_some]
   simp [c,z]
 have hst:stepB (bwtL s A) pr row = i:=by
  unfold stepB
  rw [if_neg hne,hb,hs]
  unfold startB
  rw [bwt_count s A hA]
  exact hpl
 rw [hst,List.getElem?_eq_getElem hi,hip,hp]
 exact ⟨hi,rfl⟩
theorem row_first (s:List UInt8) (A:List Nat) (hA:Sa (letters s) A):A[0]? = some s.length:=by
 have hn:=letters_len s
 have hlen:=hA.len
 obtain ⟨i,hi,hip⟩:=List.getElem_of_mem ((hA.mem s.length).2 (by omega))
 have hpl:=hA.place i hi
 have:A.countP (fun q=>ltB (letters s) q A[i]) = 0:=by
  rw [List.countP_eq_zero]
  intro q hq
  rw [hip]
  have hq:=(hA.mem q).1 hq
  unfold ltB
  rw [letters_end]
  by_cases c:q < s.length
  ·rw [letters_drop s q c];simp [leL]
  ·have:q = s.length:=by omega
   subst this;simp
 have:i = 0:=by omega
 subst this
 rw [List.getElem?_eq_getElem hi,hip]
def idxB (pr row:Nat):Nat:=if pr < row then row - 1 else row
theorem atB_idx (L:List UInt8) (pr row:Nat):atB L pr row = L[idxB pr row]?.getD 0:=rfl
theorem idx_lt {n pr row:Nat} (h:row≤n) (hn:row ≠ pr) (hp:pr≤n):idxB pr row < n:=by unfold idxB;split <;> omega
theorem seen_take (L:List UInt8) (pr:Nat) (b:UInt8):∀ row,row≤L.length + 1 → pr≤L.length → seenB L pr row b = (L.take (idxB pr row)).countP (fun x=>decide (x = b)):=by
 intro row
 induction row with
 | zero=>intro _ _;simp [seenB,idxB]
 | succ row ih =>
  intro h hp
  have e:seenB L pr (row + 1) b = seenB L pr row b + if (decide (row ≠ pr) && decide (atB L pr row = b)) = true then 1 else 0:=by
   unfold seenB
   rw [List.range_succ,List.countP_append,List.countP_singleton]
  rw [e,ih (by omega) hp]
  by_cases c:row = pr
  ·subst c
   simp [idxB]
  ·have hi:=idx_lt (show row≤L.length by omega) c hp
   have hi2:idxB pr (row + 1) = idxB pr row + 1:=by unfold idxB;split <;> split <;> omega
   rw [hi2,List.take_succ_eq_append_getElem hi,List.countP_append,List.countP_singleton,atB_idx,List.getElem?_eq_getElem hi]
   simp [c]
theorem step_lt (L:List UInt8) (pr row:Nat) (hr:row≤L.length) (hp:pr≤L.length):stepB L pr row≤L.length:=by
 unfold stepB
 split
 ·omega
 ·next c =>
  have hi:=idx_lt hr c hp
  rw [seen_take L pr _ row (by omega) hp]
  have hb:atB L pr row = L[idxB pr row]:=by rw [atB_idx,List.getElem?_eq_getElem hi];rfl
  rw [hb]
  generalize hbb:L[idxB pr row] = b
  have h1:(L.take (idxB pr row + 1)).countP (fun x=>decide (x = b)) = (L.take (idxB pr row)).countP (fun x=>decide (x = b)) + 1:=by
   rw [List.take_succ_eq_append_getElem hi,List.countP_append,hbb];simp
  have h2:(L.take (idxB pr row + 1)).countP (fun x=>decide (x = b))≤L.countP (fun x=>decide (x = b)):=(List.take_sublist _ _).countP_le
  have h3:L.countP (fun x=>decide (x.toNat < b.toNat)) + L.countP (fun x=>decide (x = b))≤L.length:=by
   rw [← countP_two]
   ·exact List.countP_le_length
   ·intro a _ h
    simp only [decide_eq_true_eq] at h
    have:=h.1
    rw [h.2] at this
    omega
  unfold startB
  omega
def invGo (L:List UInt8) (pr:Nat):Nat → Nat → List UInt8 → Option (List UInt8)
 | 0,row,acc=>if row = pr then some acc else none
 | i + 1,row,acc=>if row = pr then none else invGo L pr i (stepB L pr row) (atB L pr row :: acc)
theorem inv_back (s:List UInt8) (A:List Nat) (hA:Sa (letters s) A) (pr:Nat) (hpr:A[pr]? = some 0):∀ (i row:Nat) (acc:List UInt8),A[row]? = some i → invGo (bwtL s A) pr i row acc = some (s.take i ++ acc):=by
 have h0:=List.getElem?_eq_some_iff.1 hpr
 obtain ⟨hp,hp0⟩:=h0
 intro i
 induction i with
 | zero =>
  intro row acc h
  obtain ⟨hr,hr0⟩:=List.getElem?_eq_some_iff.1 h
  have:row = pr:=(List.getElem_inj hA.nodup).1 (by rw [hr0,hp0])
  subst this
  simp [invGo]
 | succ i ih =>
  intro row acc h
  obtain ⟨hr,hr0⟩:=List.getElem?_eq_some_iff.1 h
  have hne:row ≠ pr:=by intro e;subst e;omega
  obtain ⟨_,hs⟩:=step_row s A hA pr hpr row hr hne
  obtain ⟨_,ha⟩:=bwt_at s A hA pr hpr row hr hne
  have hi:i < s.length:=by have:=(hA.mem _).1 (List.getElem_mem hr);rw [letters_len] at this;omega
  rw [hr0,Nat.add_sub_cancel] at hs ha
  rw [invGo,if_neg hne,ih _ _ hs,ha,List.getElem?_eq_getElem hi,List.take_succ_eq_append_getElem hi,List.append_assoc]
  rfl
theorem bwt_back (s:List UInt8) (A:List Nat) (hA:Sa (letters s) A) (pr:Nat) (hpr:A[pr]? = some 0):invGo (bwtL s A) pr s.length 0 [] = some s:=by
 rw [inv_back s A hA pr hpr s.length 0 [] (row_first s A hA)]
 simp
theorem prim_in (s:List UInt8) (A:List Nat) (hA:Sa (letters s) A) (pr:Nat) (hpr:A[pr]? = some 0):pr≤s.length∧(s = [] → pr = 0)∧(s ≠ [] → 1≤pr):=by
 obtain ⟨hp,hp0⟩:=List.getElem?_eq_some_iff.1 hpr
 have hl:=hA.len
 rw [letters_len] at hl
 refine ⟨by omega,fun h=>?_,fun h=>?_⟩
 ·subst h;simp at hl;omega
 ·rcases Nat.eq_zero_or_pos pr with e | e
  ·subst e
   have:=row_first s A hA
   rw [hpr] at this
   simp at this
   exact absurd (List.eq_nil_of_length_eq_zero this.symm) h
  ·exact e
end SufW
end Go.Proofs.YtnpncpoiiikafaaGreat
