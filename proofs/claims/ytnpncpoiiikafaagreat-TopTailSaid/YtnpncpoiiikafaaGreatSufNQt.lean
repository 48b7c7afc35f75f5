/- SufN -/
import Derived.Test.YtnpncpoiiikafaaGreatSufPQt
set_option linter.unusedVariables false
set_option linter.unusedSimpArgs false
set_option linter.unnecessarySimpa false
set_option maxRecDepth 100000
set_option maxHeartbeats 32000000
namespace Go.Proofs.YtnpncpoiiikafaaGreat
namespace SufW
structure NxI (d:Nat → Nat → Bool) (A N:List Nat) (i:Nat):Prop where
 len:N.length = A.length
 at_:∀ j,j < i → ∀ h:j < A.length,N[A[j]]? = some (drank d A j)
theorem nx_zero (d:Nat → Nat → Bool) (A:List Nat) (hlt:∀ p ∈ A,p < A.length):NxI d A (List.replicate A.length 0) 1:=by
 refine ⟨by simp,fun j hj h=>?_⟩
 obtain rfl:j = 0:=by omega
 have:=hlt _ (List.getElem_mem h)
 rw [List.getElem?_replicate,if_pos this]
 rfl
theorem nx_step {d:Nat → Nat → Bool} {A N:List Nat} {i:Nat} (hn:A.Nodup) (hlt:∀ p ∈ A,p < A.length) (h:NxI d A N i) (hi:i < A.length) (v:Nat) (hv:v = drank d A i):NxI d A (N.set A[i] v) (i + 1):=by
 refine ⟨by rw [List.length_set,h.len],fun j hj hjl=>?_⟩
 rw [List.getElem?_set]
 by_cases e:i = j
 ·subst e
  rw [if_pos rfl,if_pos (by rw [h.len];exact hlt _ (List.getElem_mem hi)),hv]
 ·have:A[i] ≠ A[j]:=fun he=>e ((List.getElem_inj hn).1 he)
  rw [if_neg this]
  exact h.at_ j (by omega) hjl
theorem drank_step (d:Nat → Nat → Bool) (A:List Nat) (i:Nat) (h1:1≤i) (hi:i < A.length):drank d A i = drank d A (i - 1) + if d (A[i - 1]'(by omega)) A[i] = true then 1 else 0:=by
 obtain ⟨k,rfl⟩:∃ k,i = k + 1:=⟨i - 1,by omega⟩
 rw [drank,List.getElem?_eq_getElem (by omega),List.getElem?_eq_getElem hi]
 rfl
def rkOf (R:List Nat) (p:Nat):Nat:=R[p]?.getD 0
theorem nx_rank {T:List Nat} {L:Nat} {A N:List Nat} {d:Nat → Nat → Bool} (hA:Arr T L A) (hd:∀ p q,p < T.length → q < T.length → (d p q = true ↔ pre T L p ≠ pre T L q)) (h:NxI d A N A.length):RankOf T L (rkOf N):=by
 refine rank_next hA hd (rkOf N) fun i hi=>?_
 rw [rkOf,h.at_ i hi hi]
 rfl
def dTwo (n L:Nat) (rk:Nat → Nat) (p q:Nat):Bool:=decide (rk p ≠ rk q) || decide (second n L rk p ≠ second n L rk q)
theorem second_eq {T:List Nat} {L:Nat} {rk:Nat → Nat} (h:RankOf T L rk) (hL:1≤L) (p q:Nat):second T.length L rk p = second T.length L rk q ↔ pre T L (p + L) = pre T L (q + L):=by
 have h1:=second_le h hL p q
 have h2:=second_le h hL q p
 constructor
 ·intro e;exact leL_anti _ _ (h1.1 (by omega)) (h2.1 (by omega))
 ·intro e
  rw [e] at h1 h2
  have:=h1.2 (leL_refl _)
  have:=h2.2 (leL_refl _)
  omega
theorem dTwo_iff {T:List Nat} {L:Nat} {rk:Nat → Nat} (h:RankOf T L rk) (hL:1≤L):∀ p q,p < T.length → q < T.length → (dTwo T.length L rk p q = true ↔ pre T (L + L) p ≠ pre T (L + L) q):=by
 intro p q hp hq
 have e1:=h.eq hp hq
 have e2:=second_eq h hL p q
 simp only [dTwo,Bool.or_eq_true,decide_eq_true_eq]
 rw [pre_two,pre_two]
 have:(pre T L p ++ pre T L (p + L) = pre T L q ++ pre T L (q + L)) ↔ (pre T L p = pre T L q∧pre T L (p + L) = pre T L (q + L)):=by
  constructor
  ·intro e
   have hlen:(pre T L p).length = (pre T L q).length:=by
    have l:=congrArg List.length e
    simp only [List.length_append] at l
    have a1:=pre_len T L p
    have a2:=pre_len T L q
    have a3:=pre_len T L (p + L)
    have a4:=pre_len T L (q + L)
    omega
   exact List.append_inj e hlen
  ·rintro ⟨a,b⟩;rw [a,b]
 refine Iff.trans ?_ (not_congr this).symm
 constructor
 ·rintro (c | c) ⟨a,b⟩
  ·exact c (e1.2 a)
  ·exact c (e2.2 b)
 ·intro c
  by_cases x:rk p = rk q
  ·right;intro y;exact c ⟨e1.1 x,e2.1 y⟩
  ·exact .inl x
theorem arr_two {T:List Nat} {L:Nat} {rk:Nat → Nat} {A:List Nat} (hL:1≤L) (hr:RankOf T L rk) (hA:Arr T L A):Arr T (L + L) (csort rk T.length (csort (second T.length L rk) (T.length + 1) A)) :=
 arr_next hL hr hA.len hA.nodup hA.mem
def dOne (T:List Nat) (p q:Nat):Bool:=decide (T[p]?.getD 0 ≠ T[q]?.getD 0)
theorem pre_one (T:List Nat) (p:Nat) (h:p < T.length):pre T 1 p = [T[p]?.getD 0]:=by
 unfold pre
 rw [List.drop_eq_getElem_cons h,List.getElem?_eq_getElem h]
 rfl
theorem dOne_iff (T:List Nat):∀ p q,p < T.length → q < T.length → (dOne T p q = true ↔ pre T 1 p ≠ pre T 1 q):=by
 intro p q hp hq
 rw [pre_one T p hp,pre_one T q hq]
 simp [dOne]
theorem arr_one (T:List Nat) (most:Nat) (hT:∀ x ∈ T,x≤most):Arr T 1 (csort (fun p=>T[p]?.getD 0) most (List.range T.length)):=by
 have hb:∀ p ∈ List.range T.length,T[p]?.getD 0≤most:=by
  intro p hp
  have hp:=List.mem_range.1 hp
  rw [List.getElem?_eq_getElem hp]
  exact hT _ (List.getElem_mem hp)
 have hm:=csort_mem (key:=fun p=>T[p]?.getD 0) hb
 refine ⟨by rw [csort_len _ _ _ hb,List.length_range],csort_nodup List.nodup_range,fun p=>by rw [hm,List.mem_range],?_⟩
 refine (csort_pw (key:=fun p=>T[p]?.getD 0) (most:=most) (R:=fun _ _=>True) (l:=List.range T.length) (List.pairwise_of_forall (fun _ _=>trivial))).imp_of_mem ?_
 intro p q hp hq h
 have hp:=List.mem_range.1 ((hm p).1 hp)
 have hq:=List.mem_range.1 ((hm q).1 hq)
 rw [pre_one T p hp,pre_one T q hq]
 simp only [leL,Bool.or_eq_true,Bool.and_eq_true,decide_eq_true_eq,Bool.and_true]
 omega
end SufW
end Go.Proofs.YtnpncpoiiikafaaGreat
