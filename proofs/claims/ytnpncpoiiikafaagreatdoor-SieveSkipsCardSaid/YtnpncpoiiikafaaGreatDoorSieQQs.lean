/- SieQ -/
import Derived.Test.YtnpncpoiiikafaaGreatDoorSiePQs
import Derived.Test.YtnpncpoiiikafaaGreatDoorSieEQs
import Derived.Test.YtnpncpoiiikafaaGreatDoorKmpPQs
import Derived.Test.YtnpncpoiiikafaaGreatDoorWanGQs
set_option linter.unusedVariables false
set_option linter.unusedSimpArgs false
set_option linter.unnecessarySimpa false
namespace Go.Proofs.YtnpncpoiiikafaaGreatDoor
open Go.RowKit
namespace SieW
mutual
def meetN (q t:Int) (d:List UInt8):Nd → Bool
  | .within k lo hi=>SpanW.hasB lo hi (if k = 0 then q else if k = 1 then t else (d.length:Int))
  | .has s=>KmpW.kin s d
  | .all=>true
  | .not n=>!meetN q t d n
  | .row o l=>meetL q t d o l
def meetL (q t:Int) (d:List UInt8) (o:Bool):List Nd → Bool
  | []=>!o
  | a :: l=>if meetN q t d a = o then o else meetL q t d o l
end
def alikeW (a b:List UInt8):Prop:=∀ o,(a = byW o ↔ b = byW o)
theorem alikeW.refl (a:List UInt8):alikeW a a:=fun _=>Iff.rfl
def Pre (en en':Int) (k:Nat) (l l':List Wd):Prop:=k≤l.length∧k≤l'.length∧(∀ j,j < k → (hdW en (l.drop j)).1 = (hdW en' (l'.drop j)).1)∧alikeW (hdW en (l.drop k)).1 (hdW en' (l'.drop k)).1
theorem Pre.fst {en en':Int} {k:Nat} {l l':List Wd} (h:Pre en en' k l l') (j:Nat) (hj:j < k):(hdW en (l.drop j)).1 = (hdW en' (l'.drop j)).1:=h.2.2.1 j hj
theorem Pre.any {en en':Int} {k:Nat} {l l':List Wd} (h:Pre en en' k l l') (j:Nat) (hj:j≤k):alikeW (hdW en (l.drop j)).1 (hdW en' (l'.drop j)).1:=by
  rcases Nat.lt_or_ge j k with h1 | h1
  · rw [h.fst j h1];exact alikeW.refl _
  · have:j = k:=by omega
    subst this;exact h.2.2.2
theorem Pre.cut {en en':Int} {k:Nat} {l l':List Wd} (h:Pre en en' k l l') (j:Nat) (hj:j≤k):Pre en en' (k - j) (l.drop j) (l'.drop j):=by
  obtain ⟨h1,h2,h3,h4⟩:=h
  refine ⟨by simp only [List.length_drop];omega,by simp only [List.length_drop];omega,fun i hi=>?_,?_⟩
  · rw [List.drop_drop,List.drop_drop];exact h3 _ (by omega)
  · rw [List.drop_drop,List.drop_drop,show j + (k - j) = k by omega];exact h4
theorem Pre.less {en en':Int} {k:Nat} {l l':List Wd} (h:Pre en en' k l l') (j:Nat) (hj:j≤k):Pre en en' j l l' :=
  ⟨by have:=h.1;omega,by have:=h.2.1;omega,fun i hi=>h.fst i (by omega),h.any j hj⟩
theorem parse_ok {s:List UInt8} {n:Nd} {z:Nat} {p e:Int} (h:parseP s = (some (n,z),p,e)):∃ d,pM s.length 2 [] (wordsP s) 0 0 = .ok n [] z d∧s.length≤1000∧p = s.length∧e = 0:=by
  rw [parse_pM] at h
  split at h
  · cases h
  · split at h
    · next n' l' z' d' e' =>
      split at h
      · next hl=>subst hl;cases h;exact ⟨d',e',by omega,rfl,rfl⟩
      · cases h
    · cases h
    · cases h
end SieW
end Go.Proofs.YtnpncpoiiikafaaGreatDoor
namespace Go.Proofs.YtnpncpoiiikafaaGreatDoor
open Go.RowKit
namespace SieW
open WanW
def rngL (a b:Int):List UInt8:=decL a.toNat ++ (45 :: decL b.toNat)
theorem dig_dec (n:Nat) (h:n < 10):decB (UInt8.ofNat (48 + n)) = true:=by
  unfold decB
  rw [dig_nat n h]
  simp
  omega
theorem decL_all (n:Nat):(decL n).all decB = true:=by
  induction n using Nat.strongRecOn with
  | ind n ih =>
    rw [decL]
    split
    · rw [List.all_cons,dig_dec n (by assumption)];rfl
    · rw [List.all_append,ih (n / 10) (by omega)]
      rw [List.all_cons,dig_dec (n % 10) (by omega)];rfl
theorem decL_num (n:Nat):numN (decL n) = n:=by
  induction n using Nat.strongRecOn with
  | ind n ih =>
    rw [decL]
    split
    · have:=dig_nat n (by assumption)
      show 10 * 0 + ((UInt8.ofNat (48 + n)).toNat - 48) = n
      omega
    · rw [numN_snoc,ih (n / 10) (by omega),dig_nat _ (by omega)]
      omega
theorem decL_pos (n:Nat):0 < (decL n).length:=by
  rw [decL]
  split <;> simp
theorem decL_head (n:Nat) (h:0 < n):(decL n)[0]?.getD 0 ≠ 48:=by
  induction n using Nat.strongRecOn with
  | ind n ih =>
    rw [decL]
    split
    · intro e
      have h2:=congrArg UInt8.toNat e
      have h3:=dig_nat n (by assumption)
      simp at h2
      rw [UInt8.toNat_ofNat'] at h3
      omega
    · have hp:=decL_pos (n / 10)
      rw [List.getElem?_append_left hp]
      exact ih (n / 10) (by omega) (by omega)
theorem decL_small (n:Nat) (h:n < 10):(decL n).length = 1:=by rw [decL,dif_pos h];rfl
theorem num_dec (n:Nat) (h:n≤1000000001):numV (decL n) = ((n:Int),true):=by
  have hl:=decL_len n 9 (by omega)
  have hp:=decL_pos n
  have ha:=decL_all n
  have hn:=decL_num n
  rw [numV_yes,hn]
  rintro (e | e | ⟨e1,e2⟩ | e | e)
  · omega
  · omega
  · by_cases h10:n < 10
    · rw [decL_small n h10] at e1;omega
    · exact decL_head n (by omega) e2
  · rw [ha] at e;cases e
  · omega
end SieW
end Go.Proofs.YtnpncpoiiikafaaGreatDoor
namespace Go.Proofs.YtnpncpoiiikafaaGreatDoor
open Go.RowKit
namespace SieW
open WanW (hexL decB hexB numV bef aft)
def sepW (o:Bool):List UInt8:=32 :: (byW o ++ [32])
mutual
def shN:Nat → Nd → List UInt8
  | _,.within k lo hi=>kwS k ++ 32 :: rngL lo hi
  | _,.has s=>sHas ++ 32 :: hexL s
  | _,.all=>sAll
  | _,.not n=>sNot ++ 32 :: shN 2 n
  | _,.row _ []=>[]
  | s,.row o (a :: l)=>if ownS o < s then 40 :: (shN (ownS o) a ++ (shR o l ++ [41])) else shN (ownS o) a ++ shR o l
def shR (o:Bool):List Nd → List UInt8
  | []=>[]
  | a :: l=>sepW o ++ (shN (ownS o) a ++ shR o l)
end
def stopS (s:Nat) (R:List (List UInt8)):Prop:=∀ o,s≤ownS o → R.head?.getD [] ≠ byW o
theorem stopS.up {s s':Nat} {R:List (List UInt8)} (h:stopS s R) (hs:s≤s'):stopS s' R:=fun o ho=>h o (by omega)
theorem flat_not (o:Bool) (n:Nd) (h:notRow o n):flat o n = [n]:=by
  cases n with
  | row o2 l=>rw [flat,if_neg h]
  | _=>rfl
end SieW
end Go.Proofs.YtnpncpoiiikafaaGreatDoor
