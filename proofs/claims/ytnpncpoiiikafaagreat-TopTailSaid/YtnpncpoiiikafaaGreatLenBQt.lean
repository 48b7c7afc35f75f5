/- LenB -/
import Derived.Test.YtnpncpoiiikafaaGreatFrontWQt
import Derived.Test.YtnpncpoiiikafaaGreatAppQt
import Derived.Test.YtnpncpoiiikafaaGreatZruPQt
import Derived.Lib.SliceRun
set_option linter.unusedVariables false
set_option linter.unusedSimpArgs false
set_option linter.unnecessarySimpa false
set_option maxRecDepth 100000
set_option maxHeartbeats 32000000
namespace Go.Proofs.YtnpncpoiiikafaaGreat
open Go.RowKit
namespace LenW
def insW (x:Int × Int):List (Int × Int) → List (Int × Int)
 | []=>[x]
 | y :: r=>if x.1 < y.1 then x :: y :: r else y :: insW x r
def sortW (l:List (Int × Int)):List (Int × Int):=l.foldl (fun a x=>insW x a) []
theorem insW_len (x:Int × Int) (l:List (Int × Int)):(insW x l).length = l.length + 1:=by
 induction l with
 | nil=>rfl
 | cons y r ih =>
  unfold insW
  split
  ·rfl
  ·simp only [List.length_cons,ih]
theorem sortW_snoc (l:List (Int × Int)) (x:Int × Int):sortW (l ++ [x]) = insW x (sortW l):=by simp [sortW]
theorem sortW_len (l:List (Int × Int)):(sortW l).length = l.length:=by
 suffices ∀ n (l:List (Int × Int)),l.length = n → (sortW l).length = n from this l.length l rfl
 intro n
 induction n with
 | zero=>intro l h;obtain rfl:=List.length_eq_zero_iff.1 h;rfl
 | succ n ih =>
  intro l h
  obtain ⟨a,x,rfl⟩:∃ a x,l = a ++ [x]:=⟨l.dropLast,l.getLast (by intro e;subst e;simp at h),(List.dropLast_concat_getLast _).symm⟩
  rw [sortW_snoc,insW_len,ih a (by simpa using h)]
def upW (l:List (Int × Int)):Prop:=l.Pairwise fun a b=>a.1≤b.1
theorem insW_mem {x y:Int × Int} {l:List (Int × Int)} (h:y ∈ insW x l):y = x ∨ y ∈ l:=by
 induction l with
 | nil=>simp [insW] at h;exact .inl h
 | cons z r ih =>
  unfold insW at h
  split at h
  ·rcases List.mem_cons.1 h with h | h
   ·exact .inl h
   ·exact .inr h
  ·rcases List.mem_cons.1 h with h | h
   ·exact .inr (by rw [h];simp)
   ·rcases ih h with h | h
    ·exact .inl h
    ·exact .inr (by simp [h])
theorem insW_up (x:Int × Int) (l:List (Int × Int)) (h:upW l):upW (insW x l):=by
 induction l with
 | nil=>simp [insW,upW]
 | cons y r ih =>
  unfold upW at h ih ⊢
  rw [List.pairwise_cons] at h
  unfold insW
  split
  ·rename_i hlt
   rw [List.pairwise_cons]
   refine ⟨fun b hb=>?_,by rw [List.pairwise_cons];exact h⟩
   rcases List.mem_cons.1 hb with rfl | hb
   ·omega
   ·have:=h.1 b hb;omega
  ·rename_i hlt
   rw [List.pairwise_cons]
   refine ⟨fun b hb=>?_,ih h.2⟩
   rcases insW_mem hb with rfl | hb
   ·omega
   ·exact h.1 b hb
theorem sortW_up (l:List (Int × Int)):upW (sortW l):=by
 suffices ∀ n (l:List (Int × Int)),l.length = n → upW (sortW l) from this l.length l rfl
 intro n
 induction n with
 | zero=>intro l h;obtain rfl:=List.length_eq_zero_iff.1 h;exact List.Pairwise.nil
 | succ n ih =>
  intro l h
  obtain ⟨a,x,rfl⟩:∃ a x,l = a ++ [x]:=⟨l.dropLast,l.getLast (by intro e;subst e;simp at h),(List.dropLast_concat_getLast _).symm⟩
  rw [sortW_snoc]
  exact insW_up _ _ (ih a (by simpa using h))
theorem insW_split (x:Int × Int) (A B:List (Int × Int)) (hA:∀ a ∈ A,a.1≤x.1) (hB:∀ b,B.head? = some b → x.1 < b.1):insW x (A ++ B) = A ++ x :: B:=by
 induction A with
 | nil =>
  cases B with
  | nil=>rfl
  | cons b B =>
   have:=hB b rfl
   show insW x (b :: B) = _
   rw [insW,if_pos this]
   rfl
 | cons a A ih =>
  have ha:=hA a (by simp)
  rw [List.cons_append,insW,if_neg (by omega),ih (fun b hb=>hA b (by simp [hb]))]
  rfl
def lvsK (l:List Int) (k:Nat):List (Int × Int):=(List.range k).filterMap fun i:Nat=>if 0 < l[i]?.getD 0 then some (l[i]?.getD 0,(i:Int)) else none
theorem lvsK_succ (l:List Int) (k:Nat) (h:k < l.length):lvsK l (k + 1) = lvsK l k ++ (if 0 < l[k] then [(l[k],(k:Int))] else []):=by
 unfold lvsK
 rw [List.range_succ,List.filterMap_append]
 congr 1
 simp only [List.filterMap_cons,List.filterMap_nil,List.getElem?_eq_getElem h,Option.getD_some]
 split
 ·rename_i h2
  split at h2
  ·simp at h2
  ·rename_i h3;rw [if_neg h3]
 ·rename_i y h2
  split at h2
  ·rename_i h3;rw [if_pos h3];simp at h2;rw [h2]
  ·simp at h2
theorem lvsK_len (l:List Int) (k:Nat) (h:k≤l.length):(lvsK l k).length = usedL (l.take k):=by
 induction k with
 | zero=>simp [lvsK,usedL]
 | succ k ih =>
  rw [lvsK_succ l k h,List.length_append,ih (by omega),usedL_snoc l k h]
  split <;> rfl
def lvs (l:List Int):List (Int × Int):=sortW (lvsK l l.length)
theorem lvs_len (l:List Int):(lvs l).length = usedL l:=by
 unfold lvs
 rw [sortW_len,lvsK_len l _ (Nat.le_refl _),List.take_length]
def pkgs:Nat → List (Int × Int) → List (Int × Int)
 | i,a :: b :: r=>(a.1 + b.1,-1 - (i:Int)) :: pkgs (i + 1) r
 | _,_=>[]
theorem pkgs_len (l:List (Int × Int)):∀ i,(pkgs i l).length = l.length / 2:=by
 suffices ∀ n (l:List (Int × Int)),l.length≤n → ∀ i,(pkgs i l).length = l.length / 2 from this l.length l (Nat.le_refl _)
 intro n
 induction n with
 | zero=>intro l h i;obtain rfl:=List.length_eq_zero_iff.1 (Nat.le_zero.1 h);simp [pkgs]
 | succ n ih =>
  intro l h i
  match l with
  | []=>simp [pkgs]
  | [a]=>simp [pkgs]
  | a :: b :: r =>
   simp only [List.length_cons] at h
   rw [pkgs]
   simp only [List.length_cons]
   rw [ih r (by omega)]
   omega
def mrgIn (x:Int × Int) (f:List (Int × Int) → List (Int × Int)):List (Int × Int) → List (Int × Int)
 | []=>x :: f []
 | y :: b=>if x.1≤y.1 then x :: f (y :: b) else y :: mrgIn x f b
def mrg:List (Int × Int) → List (Int × Int) → List (Int × Int)
 | []=>fun b=>b
 | x :: a=>mrgIn x (mrg a)
theorem mrg_nil (b:List (Int × Int)):mrg [] b = b:=rfl
theorem mrg_cons (x y:Int × Int) (a b:List (Int × Int)):mrg (x :: a) (y :: b) = if x.1≤y.1 then x :: mrg a (y :: b) else y :: mrg (x :: a) b:=rfl
theorem mrg_right (a:List (Int × Int)):mrg a [] = a:=by
 induction a with
 | nil=>rfl
 | cons x a ih=>show x :: mrg a [] = x :: a;rw [ih]
theorem mrg_len (a b:List (Int × Int)):(mrg a b).length = a.length + b.length:=by
 suffices ∀ n (a b:List (Int × Int)),a.length + b.length≤n → (mrg a b).length = a.length + b.length from this _ a b (Nat.le_refl _)
 intro n
 induction n with
 | zero =>
  intro a b h
  obtain rfl:=List.length_eq_zero_iff.1 (show a.length = 0 by omega)
  simp [mrg]
 | succ n ih =>
  intro a b h
  match a,b with
  | [],b=>simp [mrg]
  | x :: a,[]=>rw [mrg_right];simp
  | x :: a,y :: b =>
   simp only [List.length_cons] at h
   rw [mrg_cons]
   split
   ·simp only [List.length_cons]
    rw [ih a (y :: b) (by simp only [List.length_cons];omega)]
    simp only [List.length_cons];omega
   ·simp only [List.length_cons]
    rw [ih (x :: a) b (by simp only [List.length_cons];omega)]
    simp only [List.length_cons];omega
def rowW (first:List (Int × Int)):Nat → List (Int × Int)
 | 0=>first
 | m + 1=>mrg first (pkgs 0 (rowW first m))
theorem rowW_len (first:List (Int × Int)) (m:Nat):(rowW first (m + 1)).length = first.length + (rowW first m).length / 2:=by rw [rowW,mrg_len,pkgs_len]
theorem rowW_room (first:List (Int × Int)) (most:Nat) (h:first.length≤2 ^ most):∀ m,m < most → 2 * first.length≤(rowW first m).length + 2 ^ (most - m):=by
 intro m
 induction m with
 | zero=>intro _;show 2 * first.length≤first.length + _;rw [Nat.sub_zero];omega
 | succ m ih =>
  intro hm
  have h1:=ih (by omega)
  rw [rowW_len]
  rw [show most - m = (most - (m + 1)) + 1 by omega,Nat.pow_succ] at h1
  omega
theorem rowW_le (first:List (Int × Int)) (m:Nat):(rowW first m).length≤2 * first.length:=by
 induction m with
 | zero=>show first.length≤_;omega
 | succ m ih=>rw [rowW_len];omega
def bumpL (L:List Int) (x:Int × Int):List Int:=if x.2 < 0 then L else L.set x.2.toNat (L[x.2.toNat]?.getD 0 + 1)
def packsW (l:List (Int × Int)):Nat:=(l.filter fun x=>decide (x.2 < 0)).length
def takenW (first:List (Int × Int)):Nat → Nat → List Int → List Int
 | 0,_,L=>L
 | i + 1,n,L=>if n = 0 then L else takenW first i (2 * packsW ((rowW first i).take n)) (((rowW first i).take n).foldl bumpL L)
def bestW (l:List Int) (most:Nat):List Int :=
 if usedL l < 2 then (lvs l).foldl (fun L x=>L.set x.2.toNat 1) (List.replicate l.length 0)
 else takenW (lvs l) most (2 * usedL l - 2) (List.replicate l.length 0)
def refuseW (l:List Int) (most:Int):Int :=
 if 257 < l.length then 3 else if most < 1 ∨ 15 < most ∨ l.any (fun n=>decide (n < 0) || decide (1000000 < n)) = true then 2 else if 2 ^ most.toNat < usedL l then 3 else 0
example:bestW [1,1,2,4] 15 = [3,3,2,1]:=by decide +kernel
example:bestW [1,1,2,4] 2 = [2,2,2,2]:=by decide +kernel
end LenW
end Go.Proofs.YtnpncpoiiikafaaGreat
namespace Go.Proofs.YtnpncpoiiikafaaGreat
open Go.RowKit
namespace LenW
def cntL (l:List Int) (n:Nat):Nat:=(l.filter fun x:Int=>decide (0 < x) && decide (x = (n:Int))).length
def plcL (l:List Int) (n:Nat):Nat:=(l.filter fun x:Int=>decide (0 < x) && decide (x < (n:Int))).length
def fstL (l:List Int):Nat → Nat
 | 0=>0
 | n + 1=>2 * (fstL l n + cntL l n)
theorem cntL_zero (l:List Int):cntL l 0 = 0:=by
 unfold cntL
 rw [List.filter_eq_nil_iff.2]
 ·rfl
 ·intro x _
  simp
  omega
theorem plcL_zero (l:List Int):plcL l 0 = 0:=by
 unfold plcL
 rw [List.filter_eq_nil_iff.2]
 ·rfl
 ·intro x _
  simp
  omega
theorem plcL_succ (l:List Int) (n:Nat):plcL l (n + 1) = plcL l n + cntL l n:=by
 unfold plcL cntL
 induction l with
 | nil=>rfl
 | cons a l ih =>
  by_cases h0:0 < a
  ·by_cases h1:a < n
   ·rw [List.filter_cons_of_pos (by simp;omega),List.filter_cons_of_pos (by simp;omega),List.filter_cons_of_neg (by simp;omega)]
    simp only [List.length_cons];omega
   ·by_cases h2:a = n
    ·rw [List.filter_cons_of_pos (by simp;omega),List.filter_cons_of_neg (by simp;omega),List.filter_cons_of_pos (by simp;omega)]
     simp only [List.length_cons];omega
    ·rw [List.filter_cons_of_neg (by simp;omega),List.filter_cons_of_neg (by simp;omega),List.filter_cons_of_neg (by simp;omega)]
     exact ih
  ·rw [List.filter_cons_of_neg (by simp;omega),List.filter_cons_of_neg (by simp;omega),List.filter_cons_of_neg (by simp;omega)]
   exact ih
theorem plcL_le (l:List Int) (n:Nat):plcL l n≤usedL l:=by
 unfold plcL usedL
 induction l with
 | nil=>simp
 | cons a l ih =>
  by_cases h0:0 < a
  ·rw [List.filter_cons_of_pos (p:=fun x=>decide (0 < x)) (by simpa using h0)]
   by_cases h1:a < n
   ·rw [List.filter_cons_of_pos (by simp;omega)];simp only [List.length_cons];omega
   ·rw [List.filter_cons_of_neg (by simp;omega)];simp only [List.length_cons];omega
  ·rw [List.filter_cons_of_neg (by simp;omega),List.filter_cons_of_neg (by simp;omega)]
   exact ih
theorem cntL_le (l:List Int) (n:Nat):cntL l n≤l.length:=List.length_filter_le _ _
theorem cntL_snoc (l:List Int) (k n:Nat) (h:k < l.length):cntL (l.take (k + 1)) n = cntL (l.take k) n + (if 0 < l[k]∧l[k] = n then 1 else 0):=by
 unfold cntL
 rw [List.take_succ_eq_append_getElem h,List.filter_append,List.length_append]
 by_cases h1:0 < l[k]∧l[k] = n
 ·rw [if_pos h1,List.filter_cons_of_pos (by simpa using h1)];simp
 ·rw [if_neg h1,List.filter_cons_of_neg (by simpa using h1)];simp
theorem cntL_take (l:List Int) (k n:Nat):cntL (l.take k) n≤cntL l n:=by
 unfold cntL
 exact (List.Sublist.filter _ (List.take_sublist k l)).length_le
theorem fstL_le (l:List Int) (n:Nat):fstL l n + 2 * l.length≤2 * l.length * 2 ^ n:=by
 induction n with
 | zero=>simp [fstL]
 | succ n ih =>
  have:=cntL_le l n
  unfold fstL
  rw [Nat.pow_succ,← Nat.mul_assoc]
  omega
def wordF (l:List Int) (s:Nat):Int × Int:=match l[s]? with | some n=>if 0 < n then (((fstL l n.toNat + cntL (l.take s) n.toNat:Nat):Int),n) else (0,0) | none=>(0,0)
def wordsF (l:List Int):List (Int × Int):=(List.range l.length).map (wordF l)
def wordsK (l:List Int) (k:Nat):List (Int × Int):=(List.range k).map (wordF l) ++ List.replicate (l.length - k) (0,0)
def sortK (l:List Int):Nat → List Int
 | 0=>List.replicate (usedL l) 0
 | k + 1=>match l[k]? with | some n=>if 0 < n then (sortK l k).set (plcL l n.toNat + cntL (l.take k) n.toNat) k else sortK l k | none=>sortK l k
def sortF (l:List Int):List Int:=sortK l l.length
theorem sortK_len (l:List Int) (k:Nat):(sortK l k).length = usedL l:=by
 induction k with
 | zero=>simp [sortK]
 | succ k ih =>
  unfold sortK
  split
  ·split
   ·rw [List.length_set];exact ih
   ·exact ih
  ·exact ih
theorem wordsK_zero (l:List Int):wordsK l 0 = List.replicate l.length (0,0):=by simp [wordsK]
theorem wordsK_all (l:List Int):wordsK l l.length = wordsF l:=by simp [wordsK,wordsF]
theorem wordsK_len (l:List Int) (k:Nat) (h:k≤l.length):(wordsK l k).length = l.length:=by simp [wordsK];omega
theorem wordsK_succ (l:List Int) (k:Nat) (h:k < l.length):wordsK l (k + 1) = (wordsK l k).set k (wordF l k):=by
 unfold wordsK
 obtain ⟨m,hm⟩:∃ m,l.length - k = m + 1:=⟨l.length - k - 1,by omega⟩
 rw [hm,show l.length - (k + 1) = m from by omega,List.range_succ,List.map_append,List.replicate_succ,List.set_append_right _ _ (by simp)]
 simp
theorem word_at (l:List Int) (k:Nat) (h:k < l.length) (hp:0 < l[k]):wordF l k = (((fstL l l[k].toNat + cntL (l.take k) l[k].toNat:Nat):Int),l[k]):=by
 unfold wordF
 rw [List.getElem?_eq_getElem h]
 dsimp only
 rw [if_pos hp]
theorem word_no (l:List Int) (k:Nat) (h:k < l.length) (hp:¬ 0 < l[k]):wordF l k = (0,0):=by
 unfold wordF
 rw [List.getElem?_eq_getElem h]
 dsimp only
 rw [if_neg hp]
theorem wordsK_skip (l:List Int) (k:Nat) (h:k < l.length) (hp:¬ 0 < l[k]):wordsK l (k + 1) = wordsK l k:=by
 rw [wordsK_succ l k h,word_no l k h hp]
 apply List.ext_getElem
 ·simp
 ·intro i h1 h2
  rw [List.getElem_set]
  split
  ·rename_i he
   subst he
   simp [wordsK]
  ·rfl
theorem sortK_at (l:List Int) (k:Nat) (h:k < l.length) (hp:0 < l[k]):sortK l (k + 1) = (sortK l k).set (plcL l l[k].toNat + cntL (l.take k) l[k].toNat) k:=by
 rw [sortK,List.getElem?_eq_getElem h]
 dsimp only
 rw [if_pos hp]
theorem sortK_skip (l:List Int) (k:Nat) (h:k < l.length) (hp:¬ 0 < l[k]):sortK l (k + 1) = sortK l k:=by
 rw [sortK,List.getElem?_eq_getElem h]
 dsimp only
 rw [if_neg hp]
theorem place_lt (l:List Int) (k:Nat) (h:k < l.length) (hp:0 < l[k]):plcL l l[k].toNat + cntL (l.take k) l[k].toNat < usedL l:=by
 have h1:=plcL_succ l l[k].toNat
 have h2:=plcL_le l (l[k].toNat + 1)
 have h3:=cntL_snoc l k l[k].toNat h
 rw [if_pos ⟨hp,by omega⟩] at h3
 have h4:=cntL_take l (k + 1) l[k].toNat
 omega
end LenW
end Go.Proofs.YtnpncpoiiikafaaGreat
namespace Go.Proofs.YtnpncpoiiikafaaGreat
open Go.RowKit
namespace LenW
theorem cntL_cons (a:Int) (l:List Int) (n:Nat):cntL (a :: l) n = (if 0 < a∧a = n then 1 else 0) + cntL l n:=by
 unfold cntL
 by_cases h1:0 < a∧a = n
 ·rw [if_pos h1,List.filter_cons_of_pos (by simpa using h1)];simp only [List.length_cons];omega
 ·rw [if_neg h1,List.filter_cons_of_neg (by simpa using h1)];simp
def psumL (l:List Int) (n:Nat):Nat:=(l.map fun x:Int=>if 0 < x∧x≤(n:Int) then partL x else 0).sum
theorem psum_zero (l:List Int):psumL l 0 = 0:=by
 unfold psumL
 induction l with
 | nil=>rfl
 | cons a l ih =>
  simp only [List.map_cons,List.sum_cons,ih]
  rw [if_neg (by omega)]
theorem psum_succ (l:List Int) (n:Nat):psumL l (n + 1) = psumL l n + cntL l (n + 1) * 2 ^ (15 - (n + 1)):=by
 induction l with
 | nil=>simp [psumL,cntL]
 | cons a l ih =>
  unfold psumL at ih ⊢
  simp only [List.map_cons,List.sum_cons,ih,cntL_cons]
  by_cases h1:0 < a∧a = ((n + 1:Nat):Int)
  ·rw [if_pos (by omega),if_neg (by omega),if_pos h1,Nat.add_mul]
   have:partL a = 2 ^ (15 - (n + 1)):=by
    unfold partL
    rw [if_pos h1.1,show a.toNat = n + 1 from by omega]
   rw [this]
   omega
  ·rw [if_neg h1,Nat.zero_add]
   by_cases h2:0 < a∧a≤(n:Int)
   ·rw [if_pos (by omega),if_pos h2];omega
   ·rw [if_neg (by omega),if_neg h2];omega
theorem psum_le (l:List Int) (n:Nat):psumL l n≤sumL l:=by
 unfold psumL sumL
 induction l with
 | nil=>simp
 | cons a l ih =>
  simp only [List.map_cons,List.sum_cons]
  split <;> omega
theorem kraft (l:List Int) (n:Nat) (h:n≤15):(fstL l n + cntL l n) * 2 ^ (15 - n) = psumL l n:=by
 induction n with
 | zero=>simp [fstL,cntL_zero,psum_zero]
 | succ n ih =>
  rw [psum_succ,← ih (by omega),fstL,show 15 - n = (15 - (n + 1)) + 1 from by omega,Nat.pow_succ,Nat.add_mul]
  congr 1
  rw [Nat.mul_comm 2,Nat.mul_assoc,Nat.mul_comm 2]
theorem room (l:List Int) (n:Nat) (h:n≤15) (hs:sumL l≤32768):fstL l n + cntL l n≤2 ^ n:=by
 have h1:=kraft l n h
 have h2:=psum_le l n
 have h3:2 ^ n * 2 ^ (15 - n) = 32768:=by rw [← Nat.pow_add,show n + (15 - n) = 15 from by omega]
 refine Nat.le_of_mul_le_mul_right (c:=2 ^ (15 - n)) ?_ (Nat.pow_pos (by omega))
 omega
theorem chkL_cases (l:List Int):(chkL l = 3∧257 < l.length) ∨ (chkL l = 80∧l.length≤257∧okL l = false) ∨ (chkL l = 80∧l.length≤257∧okL l = true∧¬ (sumL l = 0 ∨ sumL l = 32768 ∨ (usedL l = 1∧sumL l = 16384))) ∨
 (chkL l = 0∧l.length≤257∧okL l = true∧(sumL l = 0 ∨ sumL l = 32768 ∨ (usedL l = 1∧sumL l = 16384))):=by
 unfold chkL
 by_cases h1:257 < l.length
 ·rw [if_pos h1];exact .inl ⟨rfl,h1⟩
 ·rw [if_neg h1]
  by_cases h2:okL l = false
  ·rw [if_pos h2];exact .inr (.inl ⟨rfl,by omega,h2⟩)
  ·rw [if_neg h2]
   have h2':okL l = true:=by simpa using h2
   by_cases h3:sumL l = 0 ∨ sumL l = 32768 ∨ (usedL l = 1∧sumL l = 16384)
   ·rw [if_pos h3];exact .inr (.inr (.inr ⟨rfl,by omega,h2',h3⟩))
   ·rw [if_neg h3];exact .inr (.inr (.inl ⟨rfl,by omega,h2',h3⟩))
theorem chk0 {l:List Int} (h:chkL l = 0):l.length≤257∧okL l = true∧sumL l≤32768:=by
 rcases chkL_cases l with ⟨h1,_⟩ | ⟨h1,_⟩ | ⟨h1,_⟩ | ⟨_,h2,h3,h4⟩
 ·omega
 ·omega
 ·omega
 ·exact ⟨h2,h3,by omega⟩
end LenW
end Go.Proofs.YtnpncpoiiikafaaGreat
namespace Go.Proofs.YtnpncpoiiikafaaGreat
open Go.RowKit
namespace LenW
theorem used_any (A:Option Addr) (n c:Nat) (l:List Int) (w:World) (h:Rd w w.heap.size 1 A n (ints l)) (hn:n≤1000000) (v:Nat) (hv:usedL l = v) :
 Calls Tryz.prog 173 #[.slice A n c] w fun e w'=>e = .returned (.int .i64 v)∧w' = w:=by
 have hl:l.length = n:=rd_len h
 have hl1:l.length≤n:=by omega
 have hl2:n≤l.length:=by omega
 have HV:=Lib.hid hv
 clear hl hv
 go_enter Tryz.func173,Tryz.ntmps173
 go_wp2_with fail
 go_loopw [3,8] (fun u i wr=>∃ k:Nat,i = .int .i64 k∧k≤n∧u = .int .i64 (usedL (l.take k))∧wr = w) (fun _ i _=>n - (intOf i).toNat)
 case atStart=>exact ⟨0,rfl,by omega,by simp [usedL],rfl⟩
 case round =>
  obtain ⟨k,rfl,hk,rfl,rfl⟩:=hrel
  have hki0:(0:Int)≤(k:Int):=by omega
  by_cases hlt:k < n
  ·have hkl:k < l.length:=by omega
   obtain ⟨b,o,rfl,hb,hc⟩:=rd_ints h (by omega)
   have d0:wr.cell? ⟨b,o + k,none⟩ = some (.int .i64 l[k]):=hc k hkl
   have hs:=usedL_snoc l k hkl
   have hle:=usedL_le (l.take k)
   rw [List.length_take] at hle
   have hle:usedL (l.take k)≤1000000:=by omega
   have HS:=Lib.hid hs
   generalize usedL (l.take k) = u at *
   generalize hx:l[k] = x at *
   have hki:(k:Int) < (n:Int):=by omega
   have hw1:wrap64 ((k:Int) + 1) = (k:Int) + 1:=(w64 (by omega) (by omega)).trans (by omega)
   have hw2:wrap64 ((u:Int) + 1) = (u:Int) + 1:=(w64 (by omega) (by omega)).trans (by omega)
   clear hc hs hx
   by_cases hp:0 < x
   ·go_wp2_with fail
    go_roundw
    case rel=>exact ⟨k + 1,by go_num,by omega,by rw [HS.out,if_pos hp];go_num,trivial⟩
    case measure=>simp [intOf];omega
   ·go_wp2_with fail
    go_roundw
    case rel=>exact ⟨k + 1,by go_num,by omega,by rw [HS.out,if_neg hp];rfl,trivial⟩
    case measure=>simp [intOf];omega
  ·have hz:=Lib.hid (show l.take k = l from List.take_of_length_le (by omega))
   rw [hz.out,HV.out]
   go_wp2_with fail
   go_ret
   exact ⟨rfl,rfl⟩
end LenW
end Go.Proofs.YtnpncpoiiikafaaGreat
namespace Go.Proofs.YtnpncpoiiikafaaGreat
open Go.RowKit
namespace LenW
theorem check_any (A:Option Addr) (n c:Nat) (l:List Int) (w:World) (h:Rd w w.heap.size 1 A n (ints l)) (hn:n≤1000000) (v:Int) (hv:chkL l = v) :
 Calls Tryz.prog 135 #[.slice A n c] w fun e w'=>e = .returned (.int .i64 v)∧w' = w:=by
 have hl:l.length = n:=rd_len h
 have hl1:l.length≤n:=by omega
 have hl2:n≤l.length:=by omega
 by_cases hbig:257 < n
 ·have:v = 3:=by rw [← hv];unfold chkL;rw [if_pos (by omega)]
  subst this
  have hbI:(257:Int) < (n:Int):=by omega
  go_enter Tryz.func135,Tryz.ntmps135
  go_wp2_with fail
  go_ret
  exact ⟨rfl,rfl⟩
 ·have hbI:¬ (257:Int) < (n:Int):=by omega
  have hno:¬ 257 < l.length:=by omega
  have HBAD:=Lib.hid (fun (hb:okL l = false)=>show (80:Int) = v from by
   have e:chkL l = 80:=by unfold chkL;rw [if_neg hno,if_pos hb]
   exact e.symm.trans hv)
  have HV:=Lib.hid (fun (hb:okL l = true)=>show (if sumL l = 0 ∨ sumL l = 32768 ∨ (usedL l = 1∧sumL l = 16384) then (0:Int) else 80) = v from by
   have e:chkL l = (if sumL l = 0 ∨ sumL l = 32768 ∨ (usedL l = 1∧sumL l = 16384) then (0:Int) else 80):=by unfold chkL;rw [if_neg hno,if_neg (by simp [hb])]
   exact e.symm.trans hv)
  clear hno
  have CU:=used_any A n c l w h hn _ rfl
  have hsl:=sumL_le l
  generalize usedL l = us at *
  clear hl hv
  go_enter Tryz.func135,Tryz.ntmps135
  go_wp2_with fail
  go_loopw [3,12] (fun u i wr=>∃ k:Nat,i = .int .i64 k∧k≤n∧u = .int .i64 (sumL (l.take k))∧okL (l.take k) = true∧wr = w) (fun _ i _=>n - (intOf i).toNat)
  case atStart=>exact ⟨0,rfl,by omega,by simp [sumL],rfl,rfl⟩
  case round =>
   obtain ⟨k,rfl,hk,rfl,hok,rfl⟩:=hrel
   have hki0:(0:Int)≤(k:Int):=by omega
   by_cases hlt:k < n
   ·have hkl:k < l.length:=by omega
    obtain ⟨b,o,rfl,hb,hc⟩:=rd_ints h (by omega)
    have d0:wr.cell? ⟨b,o + k,none⟩ = some (.int .i64 l[k]):=hc k hkl
    have hs:=sumL_snoc l k hkl
    have ho:=okL_snoc l k hkl
    have hle:=sumL_le (l.take k)
    rw [List.length_take] at hle
    have hle:sumL (l.take k)≤32768 * 257:=by omega
    have HNO:=Lib.hid (okL_no l k hkl)
    have HS:=Lib.hid hs
    rw [hok] at ho
    have HO:=Lib.hid ho
    generalize sumL (l.take k) = u at *
    generalize hx:l[k] = x at *
    have hki:(k:Int) < (n:Int):=by omega
    have hw1:wrap64 ((k:Int) + 1) = (k:Int) + 1:=(w64 (by omega) (by omega)).trans (by omega)
    clear hc hs ho hx CU
    by_cases h0:x < 0
    ·have hbad:=HBAD.out (HNO.out (by omega))
     subst hbad
     go_wp2_with fail
     go_ret
     exact ⟨rfl,rfl⟩
    ·by_cases h15:15 < x
     ·have hbad:=HBAD.out (HNO.out (by omega))
      subst hbad
      go_wp2_with fail
      go_ret
      exact ⟨rfl,rfl⟩
     ·have hok2:=Lib.hid (show okL (l.take (k + 1)) = true by rw [HO.out];simp;omega)
      by_cases hp:0 < x
      ·obtain ⟨y,rfl⟩:=Int.eq_ofNat_of_zero_le (show 0≤x by omega)
       have hy:y≤15:=by omega
       have hy0:0 < y:=by omega
       have hpl:=partL_le (y:Int)
       have hpe:partL (y:Int) = 2 ^ (15 - y):=by unfold partL;rw [if_pos hp];simp
       have hw3:wrap64 (15 - (y:Int)) = ((15 - y:Nat):Int):=(w64 (by omega) (by omega)).trans (by omega)
       have hp2:2 ^ (15 - y)≤32768:=by rw [← hpe];exact hpl
       have hpw:(2:Int) ^ (15 - y) = ((2 ^ (15 - y):Nat):Int):=by push_cast;rfl
       have hsh:wrap64 ((u:Int) + wrap64 (2 ^ (15 - y))) = ((u + 2 ^ (15 - y):Nat):Int):=by
        rw [hpw]
        generalize 2 ^ (15 - y) = z at hp2
        rw [w64 (x:=(z:Int)) (by omega) (by omega),w64 (by omega) (by omega)]
        omega
       have HSH:=Lib.hid hsh
       have HPE:=Lib.hid hpe
       clear hsh hpw hp2 hpe hpl
       go_wp2_with fail
       go_roundw
       case rel=>exact ⟨k + 1,by go_num,by omega,by rw [HSH.out,HS.out,HPE.out],hok2.out,trivial⟩
       case measure=>simp [intOf];omega
      ·have hpe:partL x = 0:=by unfold partL;rw [if_neg hp]
       have HPE:=Lib.hid hpe
       go_wp2_with fail
       go_roundw
       case rel=>exact ⟨k + 1,by go_num,by omega,by rw [HS.out,HPE.out];rfl,hok2.out,trivial⟩
       case measure=>simp [intOf];omega
   ·have hz:=show l.take k = l from List.take_of_length_le (by omega)
    rw [hz] at hok
    have hv:=HV.out hok
    rw [hz]
    generalize sumL l = sm at *
    have HVV:=Lib.hid hv
    clear hz hok HV HBAD hv
    go_wp2_with fail
    refine CU.mono ?_
    rintro e w1 ⟨rfl,rfl⟩
    have HVV2:=HVV.out
    by_cases h1:us = 1
    ·subst h1
     by_cases h2:sm = 16384
     ·subst h2
      rw [if_pos (by omega)] at HVV2
      subst HVV2
      go_wp2_with fail
      go_ret
      exact ⟨rfl,rfl⟩
     ·have q2:((sm:Int) == 16384) = false:=by simp;omega
      have q2d:decide ((sm:Int) = 16384) = false:=by simp;omega
      by_cases h3:sm = 0
      ·subst h3
       rw [if_pos (by omega)] at HVV2
       subst HVV2
       go_wp2_with fail
       go_ret
       exact ⟨rfl,rfl⟩
      ·have q3:((sm:Int) != 0) = true:=by simp;omega
       by_cases h4:sm = 32768
       ·subst h4
        rw [if_pos (by omega)] at HVV2
        subst HVV2
        go_wp2_with fail
        go_ret
        exact ⟨rfl,rfl⟩
       ·have q4:((sm:Int) != 32768) = true:=by simp;omega
        rw [if_neg (by omega)] at HVV2
        subst HVV2
        go_wp2_with fail
        go_ret
        exact ⟨rfl,rfl⟩
    ·have q1:((us:Int) == 1) = false:=by simp;omega
     have q1d:decide ((us:Int) = 1) = false:=by simp;omega
     by_cases h3:sm = 0
     ·subst h3
      rw [if_pos (by omega)] at HVV2
      subst HVV2
      go_wp2_with fail
      go_ret
      exact ⟨rfl,rfl⟩
     ·have q3:((sm:Int) != 0) = true:=by simp;omega
      by_cases h4:sm = 32768
      ·subst h4
       rw [if_pos (by omega)] at HVV2
       subst HVV2
       go_wp2_with fail
       go_ret
       exact ⟨rfl,rfl⟩
      ·have q4:((sm:Int) != 32768) = true:=by simp;omega
       rw [if_neg (by omega)] at HVV2
       subst HVV2
       go_wp2_with fail
       go_ret
       exact ⟨rfl,rfl⟩
end LenW
end Go.Proofs.YtnpncpoiiikafaaGreat
namespace Go.Proofs.YtnpncpoiiikafaaGreat
open Go.RowKit
namespace LenW
end LenW
end Go.Proofs.YtnpncpoiiikafaaGreat
namespace Go.Proofs.YtnpncpoiiikafaaGreat
open Go.RowKit
section
variable {P:Program} {ops:Array Oper} {Q:Exit → Act → World → Prop} {md:Region.Mode} {S:World → Prop} {fuel:Nat} {listed:Array Bool} {tmps:Array Value} {defers:List Deferred} {w:World}
theorem take_calli (i:Nat) (f:FuncId) (args:Array Value) (op:Op) (ty:TypeId) {oi:Oper} {d:Nat} (hd:oi.dst = some d) (hop:oi.op = op) (hty:oi.type = ty)
 (hg:Region.wanted oi (yielded ops tmps) = true)
 (he : (execOp (Act.mk tmps defers).eval { dst := some d, op := op, type := ty, pos := "", after := #[], guard := none }).run P w = .ok (.enter f args) w) {K' : Act → World → Prop}
 (h:Calls P f args w fun e w'=>∃ v,e = .returned v∧K' ⟨tmps.setIfInBounds d v,defers⟩ w') {E:Prop} :
 if Region.wanted oi (yielded ops tmps) = true then Oper.wp P oi ⟨tmps,defers⟩ w K' Q else E:=by
 rw [if_pos hg]
 unfold Oper.wp
 rw [execOp_same _ oi { dst := some d, op := op, type := ty, pos := "", after := #[], guard := none } hop hty, he]
 refine h.mono ?_
 rintro e w' ⟨v,rfl,hn⟩
 show K' (Act.put _ oi.dst v) w'
 rw [hd]
 exact hn
theorem take_store (i:Nat) (op:Op) (ty:TypeId) {oi:Oper} (hd:oi.dst = none) (hop:oi.op = op) (hty:oi.type = ty)
 (hg:Region.wanted oi (yielded ops tmps) = true) {w':World}
 (he : (execOp (Act.mk tmps defers).eval { dst := none, op := op, type := ty, pos := "", after := #[], guard := none }).run P w = .ok .skip w')
 {K':Act → World → Prop} (h:K' ⟨tmps,defers⟩ w') {E:Prop} :
 if Region.wanted oi (yielded ops tmps) = true then Oper.wp P oi ⟨tmps,defers⟩ w K' Q else E:=by
 rw [if_pos hg]
 unfold Oper.wp
 rw [execOp_same _ oi { dst := none, op := op, type := ty, pos := "", after := #[], guard := none } hop hty, he]
 show K' (Act.put _ oi.dst undef) w'
 rw [hd]
 exact h
end
end Go.Proofs.YtnpncpoiiikafaaGreat
namespace Go.Proofs.YtnpncpoiiikafaaGreat
open Go.RowKit
theorem Own.set {w:World} {base e size g n c k:Nat} {xs:List Value} (h:Own w base e size (some ⟨g,0,none⟩) n c xs) (u:Value):Own (w.setCell ⟨g,k,none⟩ u) base e size (some ⟨g,0,none⟩) n c (xs.set k u):=by
 refine ⟨by rw [List.length_set];exact h.1,?_⟩
 rcases h.2 with ⟨hv,_⟩ | ⟨g',cap,cur,hv,hb,hg,hnc,hcm,hcs,htake⟩
 ·simp at hv
 ·simp only [Value.slice.injEq,Option.some.injEq,Addr.mk.injEq,and_true] at hv
  obtain ⟨rfl,_,rfl⟩:=hv
  refine .inr ⟨g,c,cur.setIfInBounds k u,rfl,hb,Blk.set (t:=e) hg k u,hnc,hcm,by simpa using hcs,?_⟩
  subst htake
  simp [List.take_set]
theorem own_thaw {w:World} {base e size g n c:Nat} {xs:List Value} (h:Own w base e size (some ⟨g,0,none⟩) n c xs):∀ k,w.frozen? ⟨g,k,none⟩ = false:=by
 intro k
 rcases h.2 with ⟨hv,_⟩ | ⟨g',cap,cur,hv,hb,hg,_⟩
 ·simp at hv
 ·simp only [Value.slice.injEq,Option.some.injEq,Addr.mk.injEq,and_true] at hv
  obtain ⟨rfl,_,_⟩:=hv
  exact Blk.frozen (t:=e) hg k
theorem grown_set {w w':World} {g k:Nat} (h:w.grownBy w' (some g)) (u:Value):w.grownBy (w'.setCell ⟨g,k,none⟩ u) (some g) :=
 ⟨h.os,h.tape,h.output,by simpa [World.setCell] using h.size,fun j hj hne=>(Below.heap_setCell w' ⟨g,k,none⟩ u j (fun e=>hne (by rw [e]))).trans (h.block j hj hne)⟩
theorem grown_below {w a b:World} {row:Option Nat} (h:w.grownBy a row) (hb:Below a.heap.size a b):w.grownBy b row :=
 ⟨hb.os.trans h.os,hb.tape.trans h.tape,hb.output.trans h.output,Nat.le_trans h.size hb.size,fun k hk hne=>(hb.block k (Nat.lt_of_lt_of_le hk h.size)).trans (h.block k hk hne)⟩
theorem Rd.apart {w:World} {B size n:Nat} {A:Option Addr} {xs:List Value} (h:Rd w B size A n xs) {p:Addr} (hp:∀ k,blkOf A = some k → k ≠ p.block) (u:Value):Rd (w.setCell p u) B size A n xs:=by
 refine ⟨h.len,fun hn=>?_⟩
 obtain ⟨b,o,rfl,hb,hc⟩:=h.at_ hn
 refine ⟨b,o,rfl,hb,fun j hj=>?_⟩
 rw [World.cell?_setCell_other _ _ _ _ (fun e=>hp b rfl (by rw [e]))]
 exact hc j hj
theorem Rd.apart0 {w:World} {B size n:Nat} {A:Option Addr} {xs:List Value} (h:Rd w B size A n xs) {p:Addr} (hp:0 < n → ∀ k,blkOf A = some k → k ≠ p.block) (u:Value):Rd (w.setCell p u) B size A n xs:=by
 rcases Nat.eq_zero_or_pos n with rfl | hn
 ·exact ⟨h.len,fun h0=>absurd h0 (by omega)⟩
 ·exact h.apart (hp hn) u
end Go.Proofs.YtnpncpoiiikafaaGreat
