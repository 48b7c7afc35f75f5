/- LenJ -/
import Derived.Test.YtnpncpoiiikafaaGreatDoorLenHQs
set_option linter.unusedVariables false
set_option linter.unusedSimpArgs false
set_option linter.unnecessarySimpa false
namespace Go.Proofs.YtnpncpoiiikafaaGreatDoor
open Go.RowKit
namespace LenW
theorem insW_perm (x:Int × Int) (l:List (Int × Int)):(insW x l).Perm (x :: l):=by
  induction l with
  | nil=>exact List.Perm.refl _
  | cons y r ih =>
    unfold insW
    split
    · exact List.Perm.refl _
    · exact (ih.cons y).trans (List.Perm.swap x y r)
theorem sortW_perm (l:List (Int × Int)):(sortW l).Perm l:=by
  suffices ∀ n (l:List (Int × Int)),l.length = n → (sortW l).Perm l from this l.length l rfl
  intro n
  induction n with
  | zero=>intro l h;obtain rfl:=List.length_eq_zero_iff.1 h;exact List.Perm.refl _
  | succ n ih =>
    intro l h
    obtain ⟨a,x,rfl⟩:∃ a x,l = a ++ [x]:=⟨l.dropLast,l.getLast (by intro e;subst e;simp at h),(List.dropLast_concat_getLast _).symm⟩
    rw [sortW_snoc]
    refine (insW_perm x _).trans (((ih a (by simpa using h)).cons x).trans ?_)
    exact (List.perm_append_comm (l₁:=[x]) (l₂:=a))
theorem lvsK_mem (l:List Int) (k:Nat) (hk:k≤l.length) (x:Int × Int) (h:x ∈ lvsK l k):∃ i,∃ hi:i < l.length,x = (l[i],(i:Int))∧0 < l[i]:=by
  unfold lvsK at h
  obtain ⟨i,hi,he⟩:=List.mem_filterMap.1 h
  have hil:i < l.length:=by have:=List.mem_range.1 hi;omega
  rw [List.getElem?_eq_getElem hil] at he
  simp only [Option.getD_some] at he
  split at he
  · rename_i hp
    exact ⟨i,hil,(Option.some.inj he).symm,hp⟩
  · cases he
theorem lvs_mem (l:List Int) (x:Int × Int) (h:x ∈ lvs l):∃ i,∃ hi:i < l.length,x = (l[i],(i:Int))∧0 < l[i] :=
  lvsK_mem l _ (Nat.le_refl _) x ((sortW_perm _).mem_iff.1 h)
theorem lvs_what (l:List Int):∀ x ∈ lvs l,0≤x.2∧x.2 < (l.length:Int):=by
  intro x hx
  obtain ⟨i,hi,rfl,_⟩:=lvs_mem l x hx
  dsimp only
  omega
theorem lvs_weight (l:List Int) (hb:l.any badN = false):∀ x ∈ lvs l,0≤x.1∧x.1≤1000000:=by
  intro x hx
  obtain ⟨i,hi,rfl,hp⟩:=lvs_mem l x hx
  have:=(List.any_eq_false.1 hb) _ (List.getElem_mem hi)
  simp [badN] at this
  dsimp only
  omega
theorem pkgs_weight (B:Int) (r:List (Int × Int)) (hB:∀ x ∈ r,0≤x.1∧x.1≤B):∀ i,∀ x ∈ pkgs i r,0≤x.1∧x.1≤2 * B:=by
  suffices ∀ n (r:List (Int × Int)),r.length≤n → (∀ x ∈ r,0≤x.1∧x.1≤B) → ∀ i,∀ x ∈ pkgs i r,0≤x.1∧x.1≤2 * B from this _ r (Nat.le_refl _) hB
  intro n
  induction n with
  | zero=>intro r h _ i x hx;obtain rfl:=List.length_eq_zero_iff.1 (Nat.le_zero.1 h);simp [pkgs] at hx
  | succ n ih =>
    intro r h hB i x hx
    match r with
    | []=>simp [pkgs] at hx
    | [a]=>simp [pkgs] at hx
    | a :: b :: r =>
      simp only [List.length_cons] at h
      rw [pkgs] at hx
      rcases List.mem_cons.1 hx with rfl | hx
      · have h1:=hB a (by simp)
        have h2:=hB b (by simp)
        dsimp only;omega
      · exact ih r (by omega) (fun y hy=>hB y (by simp [hy])) _ x hx
theorem rowW_weight (F:List (Int × Int)) (hF:∀ x ∈ F,0≤x.1∧x.1≤1000000) (k:Nat):∀ x ∈ rowW F k,0≤x.1∧x.1≤1000000 * 2 ^ k:=by
  induction k with
  | zero=>intro x hx;have:=hF x hx;omega
  | succ k ih =>
    intro x hx
    rcases List.mem_append.1 ((mrg_perm _ _).mem_iff.1 hx) with h | h
    · have h1:=hF x h
      have h2:(0:Int) < 2 ^ (k + 1):=Int.pow_pos (by omega)
      generalize (2:Int) ^ (k + 1) = z at *
      omega
    · have:=pkgs_weight _ _ ih 0 x h
      rw [Int.pow_succ]
      omega
theorem pow_small {k:Nat} (h:k≤15):1000000 * (2:Int) ^ k≤1000000000000000:=by
  have h1:(2:Nat) ^ k≤32768:=Nat.pow_le_pow_right (n:=2) (by omega) h
  have h2:(2:Int) ^ k = ((2 ^ k:Nat):Int):=by push_cast;rfl
  rw [h2]
  generalize (2:Nat) ^ k = z at *
  omega
def oneW (L:List Int) (x:Int × Int):List Int:=L.set x.2.toNat 1
theorem ones_len (l:List (Int × Int)):∀ (L:List Int),(l.foldl oneW L).length = L.length:=by
  induction l with
  | nil=>intro L;rfl
  | cons x l ih=>intro L;rw [List.foldl_cons,ih];simp [oneW]
theorem ones_snoc (l:List (Int × Int)) (j:Nat) (h:j < l.length) (L:List Int):(l.take (j + 1)).foldl oneW L = oneW ((l.take j).foldl oneW L) l[j]:=by rw [take_snoc l j h,List.foldl_append];rfl
theorem bestW_few (l:List Int) (m:Nat) (h:usedL l < 2):bestW l m = (lvs l).foldl oneW (List.replicate l.length 0):=by unfold bestW;rw [if_pos h];rfl
theorem bestW_many (l:List Int) (m:Nat) (h:¬ usedL l < 2):bestW l m = takenW (lvs l) m (2 * usedL l - 2) (List.replicate l.length 0):=by unfold bestW;rw [if_neg h]
theorem takenW_len (F:List (Int × Int)):∀ k n L,(takenW F k n L).length = L.length:=by
  intro k
  induction k with
  | zero=>intro n L;rfl
  | succ k ih =>
    intro n L
    rw [takenW]
    split
    · rfl
    · rw [ih,bumps_len]
theorem bestW_len (l:List Int) (m:Nat):(bestW l m).length = l.length:=by
  by_cases h:usedL l < 2
  · rw [bestW_few l m h,ones_len];simp
  · rw [bestW_many l m h,takenW_len];simp
theorem rowsOk_of {w:World} {base g m c:Nat} {A:Option Addr} {vs:List Value} {X:Option Nat} {F:List (Int × Int)} (ho:Own w base 190 1 A m c vs) (hp:Parts fcells 193 2 w base X none vs ((List.range m).map (rowW F))) (hg:g < base):RowsOk w g A m F:=by
  intro hm
  obtain ⟨g5,rfl⟩:∃ g5,A = some ⟨g5,0,none⟩:=by
    rcases ho.shape with ⟨_,h0,_⟩ | ⟨g5,e,_⟩
    · omega
    · exact ⟨g5,e⟩
  have hb5:=(ho.blk g5 rfl).1
  refine ⟨g5,0,rfl,fun i hi=>?_⟩
  have hi2:i < ((List.range m).map (rowW F)).length:=by simpa using hi
  have hi1:i < vs.length:=by rw [hp.1];exact hi2
  obtain ⟨A',n',c',hv,ho',_⟩:=hp.2 i hi1 hi2
  simp only [List.getElem_map,List.getElem_range] at ho'
  refine ⟨A',n',c',ho'.cap,ho'.capm,fun w' hw'=>⟨?_,?_⟩⟩
  · refine own_cell (ho.grown hw' (.inr ?_)) (0 + i) ?_
    · simp [blkOf];omega
    · rw [Nat.zero_add,List.getElem?_eq_getElem hi1,hv]
  · refine (ho'.grown hw' ?_).rd
    cases hA:blkOf A' with
    | none=>exact .inl rfl
    | some k=>have:=(ho'.blk k hA).1;exact .inr (by simp;omega)
theorem made_ints (n:Nat):madeCells #[.int .i64 0] n = (ints (List.replicate n 0)).toArray:=by
  apply Array.ext
  · simp [madeCells,ints]
  · intro i h1 h2
    simp only [madeCells,Array.getElem_map,Array.getElem_range,ints,List.getElem_toArray,List.getElem_map,List.getElem_replicate]
    simp [Nat.mod_one]
theorem refuseW_ok {l:List Int} {most:Int} (h:refuseW l most = 0):l.length≤257∧1≤most∧most≤15∧l.any badN = false∧usedL l≤2 ^ most.toNat:=by
  unfold refuseW at h
  split at h
  · cases h
  · rename_i h1
    rw [refuseW_any] at h
    split at h
    · cases h
    · rename_i h2
      split at h
      · cases h
      · rename_i h3
        refine ⟨by omega,?_,?_,?_,by omega⟩
        · exact Int.not_lt.1 (fun h=>h2 (.inl h))
        · exact Int.not_lt.1 (fun h=>h2 (.inr (.inl h)))
        · exact Bool.eq_false_iff.2 (fun h=>h2 (.inr (.inr h)))
end LenW
end Go.Proofs.YtnpncpoiiikafaaGreatDoor
