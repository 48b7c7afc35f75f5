/- SieP -/
import Derived.Test.YtnpncpoiiikafaaGreatDoorWanGQs
set_option linter.unusedVariables false
set_option linter.unusedSimpArgs false
set_option linter.unnecessarySimpa false
namespace Go.Proofs.YtnpncpoiiikafaaGreatDoor
open Go.RowKit
namespace SieW
open WanW (bef aft)
abbrev Wd:=List UInt8 × Int
def shut (s:List UInt8) (o:List Wd) (fr:Int) (i:Nat):List Wd:=if 0≤fr then o ++ [((s.take i).drop fr.toNat,fr)] else o
def wst (s:List UInt8):Nat → List Wd × Int
  | 0=>([],-1)
  | i + 1=>if s[i]?.getD 0 = 32 then (shut s (wst s i).1 (wst s i).2 i,-1)
    else if s[i]?.getD 0 = 40 ∨ s[i]?.getD 0 = 41 then (shut s (wst s i).1 (wst s i).2 i ++ [([s[i]?.getD 0],(i:Int))],-1)
    else ((wst s i).1,if (wst s i).2 < 0 then (i:Int) else (wst s i).2)
def wordsP (s:List UInt8):List Wd:=shut s (wst s s.length).1 (wst s s.length).2 s.length
inductive Nd where
  | within (k:Nat) (lo hi:Int)
  | has (s:List UInt8)
  | all
  | not (n:Nd)
  | row (o:Bool) (l:List Nd)
inductive PR where
  | ok (n:Nd) (l:List Wd) (sz dp:Nat)
  | err (e at_:Int)
  | out
def hdW (en:Int) (l:List Wd):Wd:=l.head?.getD ([],en)
def byW (o:Bool):List UInt8:=if o then [111,114] else [97,110,100]
def sSeq:List UInt8:=[115,101,113]
def sTick:List UInt8:=[116,105,99,107]
def sSize:List UInt8:=[115,105,122,101]
def kwS (k:Nat):List UInt8:=if k = 0 then sSeq else if k = 1 then sTick else sSize
def sHas:List UInt8:=[104,97,115]
def sAll:List UInt8:=[97,108,108]
def sNot:List UInt8:=[110,111,116]
def flat (o:Bool):Nd → List Nd
  | .row o2 l=>if o2 = o then l else [.row o2 l]
  | n=>[n]
def mkN (o:Bool):List Nd → Nd
  | [x]=>x
  | l=>.row o l
def numsP (s:List UInt8):Option (Int × Int) :=
  if s.contains 45 = true∧(WanW.numV (bef 45 s)).2 = true∧(WanW.numV (aft 45 s)).2 = true then some ((WanW.numV (bef 45 s)).1,(WanW.numV (aft 45 s)).1) else none
def bytesP (s:List UInt8):Option (List UInt8):=if (WanW.unhexV s).2 = true∧(WanW.unhexV s).1 ≠ [] then some (WanW.unhexV s).1 else none
def kindP (s:List UInt8):Option Nat:=if s = sSeq then some 0 else if s = sTick then some 1 else if s = sSize then some 2 else none
def facS (en:Int) (fn fs:List Wd → Nat → Nat → PR) (l:List Wd) (sz dp:Nat):PR :=
  match kindP (hdW en l).1 with
  | some k=>if 100≤sz then .err 3 (hdW en l).2 else
    match numsP (hdW en l.tail).1 with
    | some (a,b)=>.ok (.within k a b) l.tail.tail (sz + 1) dp
    | none=>.err 380 (hdW en l.tail).2
  | none =>
    if (hdW en l).1 = sHas then (if 100≤sz then .err 3 (hdW en l).2 else
      match bytesP (hdW en l.tail).1 with
      | some b=>.ok (.has b) l.tail.tail (sz + 1) dp
      | none=>.err 380 (hdW en l.tail).2)
    else if (hdW en l).1 = sAll then (if 100≤sz then .err 3 (hdW en l).2 else .ok .all l.tail (sz + 1) dp)
    else if (hdW en l).1 = sNot then (if 100≤sz then .err 3 (hdW en l).2 else
      match fn l.tail (sz + 1) dp with
      | .ok n l2 s2 d2=>.ok (.not n) l2 s2 d2
      | x=>x)
    else if (hdW en l).1 = [40] then (if 20≤dp then .err 3 (hdW en l).2 else
      match fs l.tail sz (dp + 1) with
      | .ok n l2 s2 d2=>if (hdW en l2).1 = [41] then .ok n l2.tail s2 (d2 - 1) else .err 380 (hdW en l2).2
      | x=>x)
    else .err 380 (hdW en l).2
def pG (en:Int):Nat → Nat → List Nd → List Wd → Nat → Nat → PR
  | 0,_,_,_,_,_=>.out
  | f + 1,0,_,l,sz,dp=>facS en (fun l sz dp=>pG en f 0 [] l sz dp) (fun l sz dp=>pG en f 2 [] l sz dp) l sz dp
  | f + 1,m + 1,acc,l,sz,dp =>
    match pG en f m [] l sz dp with
    | .ok n l2 s2 d2=>if (hdW en l2).1 = byW (decide (m = 1)) then pG en f (m + 1) (acc ++ flat (decide (m = 1)) n) l2.tail s2 d2 else .ok (mkN (decide (m = 1)) (acc ++ flat (decide (m = 1)) n)) l2 s2 d2
    | x=>x
def parseP (s:List UInt8):Option (Nd × Nat) × Int × Int :=
  if 1000 < s.length then (none,0,3) else
  match pG s.length (3 * (wordsP s).length + 3) 2 [] (wordsP s) 0 0 with
  | .ok n l sz _=>if l = [] then (some (n,sz),s.length,0) else (none,(hdW s.length l).2,380)
  | .err e a=>(none,a,e)
  | .out=>(none,0,0)
theorem facS_ok {en:Int} {fn fs:List Wd → Nat → Nat → PR} {l:List Wd} {sz dp:Nat} {n:Nd} {l2:List Wd} {s2 d2:Nat} (h:facS en fn fs l sz dp = .ok n l2 s2 d2) :
    (∃ k a b,kindP (hdW en l).1 = some k∧sz < 100∧numsP (hdW en l.tail).1 = some (a,b)∧n = .within k a b∧l2 = l.tail.tail∧s2 = sz + 1∧d2 = dp) ∨
    ((hdW en l).1 = sHas∧sz < 100∧∃ b,bytesP (hdW en l.tail).1 = some b∧n = .has b∧l2 = l.tail.tail∧s2 = sz + 1∧d2 = dp) ∨
    ((hdW en l).1 = sAll∧sz < 100∧n = .all∧l2 = l.tail∧s2 = sz + 1∧d2 = dp) ∨
    ((hdW en l).1 = sNot∧sz < 100∧∃ n',fn l.tail (sz + 1) dp = .ok n' l2 s2 d2∧n = .not n') ∨
    ((hdW en l).1 = [40]∧dp < 20∧∃ l3 d3,fs l.tail sz (dp + 1) = .ok n l3 s2 d3∧(hdW en l3).1 = [41]∧l2 = l3.tail∧d2 = d3 - 1):=by
  unfold facS at h
  split at h
  · next k hk =>
    split at h
    · cases h
    · split at h
      · next a b hn=>cases h;exact .inl ⟨k,a,b,hk,by omega,hn,rfl,rfl,rfl,rfl⟩
      · cases h
  · split at h
    · next h1 =>
      split at h
      · cases h
      · split at h
        · next b hb=>cases h;exact .inr (.inl ⟨h1,by omega,b,hb,rfl,rfl,rfl,rfl⟩)
        · cases h
    · split at h
      · next h1 =>
        split at h
        · cases h
        · cases h;exact .inr (.inr (.inl ⟨h1,by omega,rfl,rfl,rfl,rfl⟩))
      · split at h
        · next h1 =>
          split at h
          · cases h
          · split at h
            · next n' l' s' d' e=>cases h;exact .inr (.inr (.inr (.inl ⟨h1,by omega,n',e,rfl⟩)))
            · next hx=>exact (hx _ _ _ _ h).elim
        · split at h
          · next h1 =>
            split at h
            · cases h
            · split at h
              · next n' l' s' d' e =>
                split at h
                · next h2=>cases h;exact .inr (.inr (.inr (.inr ⟨h1,by omega,l',d',e,h2,rfl,rfl⟩)))
                · cases h
              · next hx=>exact (hx _ _ _ _ h).elim
          · cases h
theorem pG_ok {en:Int} {f m:Nat} {acc:List Nd} {l:List Wd} {sz dp:Nat} {n:Nd} {l2:List Wd} {s2 d2:Nat} (h:pG en (f + 1) (m + 1) acc l sz dp = .ok n l2 s2 d2) :
    ∃ n1 l1 s1 d1,pG en f m [] l sz dp = .ok n1 l1 s1 d1 ∧
      (((hdW en l1).1 = byW (decide (m = 1))∧pG en f (m + 1) (acc ++ flat (decide (m = 1)) n1) l1.tail s1 d1 = .ok n l2 s2 d2) ∨
       ((hdW en l1).1 ≠ byW (decide (m = 1))∧n = mkN (decide (m = 1)) (acc ++ flat (decide (m = 1)) n1)∧l2 = l1∧s2 = s1∧d2 = d1)):=by
  rw [pG] at h
  split at h
  · next n1 l1 s1 d1 e =>
    refine ⟨n1,l1,s1,d1,e,?_⟩
    split at h
    · next hb=>exact .inl ⟨hb,h⟩
    · next hb=>cases h;exact .inr ⟨hb,rfl,rfl,rfl,rfl⟩
  · next hx=>exact (hx _ _ _ _ h).elim
theorem hd_ne {en:Int} {l:List Wd} {x:List UInt8} (h:(hdW en l).1 = x) (hx:x ≠ []):l ≠ []:=by
  rintro rfl;exact hx h.symm
theorem byW_ne (o:Bool):byW o ≠ []:=by cases o <;> decide
theorem kind_ne {x:List UInt8} {k:Nat} (h:kindP x = some k):x ≠ []:=by rintro rfl;simp [kindP,sSeq,sTick,sSize] at h
theorem nums_ne {x:List UInt8} {v:Int × Int} (h:numsP x = some v):x ≠ []:=by rintro rfl;simp [numsP] at h
theorem bytes_ne {x:List UInt8} {v:List UInt8} (h:bytesP x = some v):x ≠ []:=by
  rintro rfl
  have e:(WanW.unhexV []).1 = []:=by decide
  simp [bytesP,e] at h
theorem tail_drop (l:List Wd):l.tail = l.drop 1:=by simp
theorem pG_left (en:Int):∀ (f m:Nat) (acc:List Nd) (l:List Wd) (sz dp:Nat) (n:Nd) (l2:List Wd) (s2 d2:Nat),pG en f m acc l sz dp = .ok n l2 s2 d2 →
    ∃ k,1≤k∧k≤l.length∧l2 = l.drop k∧d2 = dp∧sz≤s2∧(sz≤100 → s2≤100):=by
  intro f
  induction f with
  | zero=>intro m acc l sz dp n l2 s2 d2 h;rw [pG] at h;cases h
  | succ f ih =>
    intro m acc l sz dp n l2 s2 d2 h
    cases m with
    | zero =>
      rw [pG] at h
      rcases facS_ok h with ⟨k,a,b,h1,hs,h2,rfl,rfl,rfl,rfl⟩ | ⟨h1,hs,b,h2,rfl,rfl,rfl,rfl⟩ | ⟨h1,hs,rfl,rfl,rfl,rfl⟩ | ⟨h1,hs,n',e,rfl⟩ | ⟨h1,hd,l3,d3,e,h2,rfl,rfl⟩
      · have hl:=List.length_pos_iff.2 (hd_ne rfl (kind_ne h1))
        have hl2:=List.length_pos_iff.2 (hd_ne (en:=en) rfl (nums_ne h2))
        simp only [tail_drop,List.length_drop,List.drop_drop] at hl2 ⊢
        exact ⟨2,by omega,by omega,rfl,trivial,by omega,by omega⟩
      · have hl:=List.length_pos_iff.2 (hd_ne h1 (by decide))
        have hl2:=List.length_pos_iff.2 (hd_ne (en:=en) rfl (bytes_ne h2))
        simp only [tail_drop,List.length_drop,List.drop_drop] at hl2 ⊢
        exact ⟨2,by omega,by omega,rfl,trivial,by omega,by omega⟩
      · have hl:=List.length_pos_iff.2 (hd_ne h1 (by decide))
        exact ⟨1,by omega,by omega,tail_drop l,rfl,by omega,by omega⟩
      · have hl:=List.length_pos_iff.2 (hd_ne h1 (by decide))
        obtain ⟨k,k1,k2,rfl,rfl,hs',hs2⟩:=ih _ _ _ _ _ _ _ _ _ e
        simp only [tail_drop,List.length_drop,List.drop_drop] at k2 ⊢
        exact ⟨1 + k,by omega,by omega,rfl,trivial,by omega,fun _=>hs2 (by omega)⟩
      · have hl:=List.length_pos_iff.2 (hd_ne h1 (by decide))
        obtain ⟨k,k1,k2,rfl,rfl,hs',hs2⟩:=ih _ _ _ _ _ _ _ _ _ e
        have hl2:=List.length_pos_iff.2 (hd_ne h2 (by decide))
        simp only [tail_drop,List.length_drop,List.drop_drop] at k2 hl2 ⊢
        exact ⟨1 + (k + 1),by omega,by omega,by rw [Nat.add_assoc],by omega,hs',hs2⟩
    | succ m =>
      obtain ⟨n1,l1,s1,d1,e,hh⟩:=pG_ok h
      obtain ⟨k,k1,k2,rfl,rfl,hs,hs2⟩:=ih _ _ _ _ _ _ _ _ _ e
      rcases hh with ⟨hb,e2⟩ | ⟨hb,rfl,rfl,rfl,rfl⟩
      · have hne:=hd_ne hb (byW_ne _)
        obtain ⟨k',k3,k4,rfl,rfl,hs',hs2'⟩:=ih _ _ _ _ _ _ _ _ _ e2
        have hl:k < l.length:=by
          rcases Nat.lt_or_ge k l.length with h | h
          · exact h
          · exact absurd (List.drop_eq_nil_of_le h) hne
        simp only [tail_drop,List.length_drop,List.drop_drop] at k4 ⊢
        exact ⟨k + 1 + k',by omega,by omega,rfl,trivial,by omega,fun h=>hs2' (hs2 h)⟩
      · exact ⟨k,k1,k2,rfl,rfl,hs,hs2⟩
theorem pG_enough (en:Int):∀ (f m:Nat) (acc:List Nd) (l:List Wd) (sz dp:Nat),3 * l.length + m + 1≤f → m≤2 → pG en f m acc l sz dp ≠ .out:=by
  intro f
  induction f with
  | zero=>intro m acc l sz dp h;omega
  | succ f ih =>
    intro m acc l sz dp h hm
    cases m with
    | zero =>
      rw [pG]
      unfold facS
      split
      · split
        · exact PR.noConfusion
        · split <;> exact PR.noConfusion
      · split
        · split
          · exact PR.noConfusion
          · split <;> exact PR.noConfusion
        · split
          · split <;> exact PR.noConfusion
          · split
            · next h1 =>
              have hl:=List.length_pos_iff.2 (hd_ne h1 (by decide))
              split
              · exact PR.noConfusion
              · split
                · exact PR.noConfusion
                · exact ih 0 [] _ _ _ (by simp only [List.length_tail];omega) (by omega)
            · split
              · next h1 =>
                have hl:=List.length_pos_iff.2 (hd_ne h1 (by decide))
                split
                · exact PR.noConfusion
                · split
                  · split <;> exact PR.noConfusion
                  · exact ih 2 [] _ _ _ (by simp only [List.length_tail];omega) (by omega)
              · exact PR.noConfusion
    | succ m =>
      rw [pG]
      split
      · next n1 l1 s1 d1 e =>
        obtain ⟨k,k1,k2,rfl,rfl,hs,hs2⟩:=pG_left en _ _ _ _ _ _ _ _ _ _ e
        split
        · exact ih (m + 1) _ _ _ _ (by simp only [List.length_tail,List.length_drop];omega) hm
        · exact PR.noConfusion
      · exact ih m [] l sz dp (by omega) (by omega)
theorem facS_mono {en:Int} {fn fs fn' fs':List Wd → Nat → Nat → PR} (h1:∀ l sz dp,fn l sz dp ≠ .out → fn' l sz dp = fn l sz dp) (h2:∀ l sz dp,fs l sz dp ≠ .out → fs' l sz dp = fs l sz dp)
    (l:List Wd) (sz dp:Nat) (h:facS en fn fs l sz dp ≠ .out):facS en fn' fs' l sz dp = facS en fn fs l sz dp:=by
  unfold facS at h ⊢
  cases hk:kindP (hdW en l).1 with
  | some k=>rfl
  | none =>
    simp only [hk] at h ⊢
    by_cases a1:(hdW en l).1 = sHas
    · simp only [if_pos a1]
    by_cases a2:(hdW en l).1 = sAll
    · simp only [if_neg a1,if_pos a2]
    by_cases a3:(hdW en l).1 = sNot
    · simp only [if_neg a1,if_neg a2,if_pos a3] at h ⊢
      by_cases a4:100≤sz
      · simp only [if_pos a4]
      · simp only [if_neg a4] at h ⊢
        rw [h1 _ _ _ (by intro e;rw [e] at h;exact h rfl)]
    by_cases a5:(hdW en l).1 = [40]
    · simp only [if_neg a1,if_neg a2,if_neg a3,if_pos a5] at h ⊢
      by_cases a4:20≤dp
      · simp only [if_pos a4]
      · simp only [if_neg a4] at h ⊢
        rw [h2 _ _ _ (by intro e;rw [e] at h;exact h rfl)]
    · simp only [if_neg a1,if_neg a2,if_neg a3,if_neg a5]
theorem pG_mono (en:Int):∀ (f m:Nat) (acc:List Nd) (l:List Wd) (sz dp:Nat),pG en f m acc l sz dp ≠ .out → pG en (f + 1) m acc l sz dp = pG en f m acc l sz dp:=by
  intro f
  induction f with
  | zero=>intro m acc l sz dp h;exact absurd (by rw [pG]) h
  | succ f ih =>
    intro m acc l sz dp h
    cases m with
    | zero =>
      rw [pG] at h
      rw [pG,pG]
      exact facS_mono (fun l sz dp=>ih 0 [] l sz dp) (fun l sz dp=>ih 2 [] l sz dp) l sz dp h
    | succ m =>
      have h1:pG en f m [] l sz dp ≠ .out:=by
        intro e
        rw [pG,e] at h
        exact h rfl
      have e1:=ih _ _ _ _ _ h1
      rw [pG] at h
      rw [pG,e1]
      conv=>rhs;rw [pG]
      split
      · next n1 l1 s1 d1 e =>
        rw [e] at h
        simp only at h
        split
        · next hb=>rw [if_pos hb] at h;exact ih _ _ _ _ _ h
        · rfl
      · rfl
theorem pG_more (en:Int) (f f' m:Nat) (acc:List Nd) (l:List Wd) (sz dp:Nat) (hf:f≤f') (h:pG en f m acc l sz dp ≠ .out):pG en f' m acc l sz dp = pG en f m acc l sz dp:=by
  obtain ⟨k,rfl⟩:=Nat.le.dest hf
  clear hf
  induction k with
  | zero=>rfl
  | succ k ih=>rw [← Nat.add_assoc,pG_mono en _ _ _ _ _ _ (by rw [ih];exact h),ih]
def pM (en:Int) (m:Nat) (acc:List Nd) (l:List Wd) (sz dp:Nat):PR:=pG en (3 * l.length + m + 1) m acc l sz dp
theorem pM_of {en:Int} {f m:Nat} {acc:List Nd} {l:List Wd} {sz dp:Nat} (hm:m≤2) (h:3 * l.length + m + 1≤f):pG en f m acc l sz dp = pM en m acc l sz dp :=
  pG_more en _ _ m acc l sz dp h (pG_enough en _ m acc l sz dp (Nat.le_refl _) hm)
theorem pM_out (en:Int) (m:Nat) (acc:List Nd) (l:List Wd) (sz dp:Nat) (hm:m≤2):pM en m acc l sz dp ≠ .out:=pG_enough en _ m acc l sz dp (Nat.le_refl _) hm
theorem pM_left {en:Int} {m:Nat} {acc:List Nd} {l:List Wd} {sz dp:Nat} {n:Nd} {l2:List Wd} {s2 d2:Nat} (h:pM en m acc l sz dp = .ok n l2 s2 d2) :
    ∃ k,1≤k∧k≤l.length∧l2 = l.drop k∧d2 = dp∧sz≤s2∧(sz≤100 → s2≤100):=pG_left en _ _ _ _ _ _ _ _ _ _ h
theorem parse_pM (s:List UInt8):parseP s = if 1000 < s.length then (none,(0:Int),(3:Int)) else
  match pM s.length 2 [] (wordsP s) 0 0 with
  | .ok n l sz _=>if l = [] then (some (n,sz),(s.length:Int),(0:Int)) else (none,(hdW s.length l).2,(380:Int))
  | .err e a=>(none,a,e)
  | .out=>(none,(0:Int),(0:Int)):=by
  unfold parseP
  rw [pM_of (by omega) (by omega)]
def fl (c:List UInt8):List (List UInt8):=if c = [] then [] else [c]
def toks:List UInt8 → List UInt8 → List (List UInt8)
  | [],c=>fl c
  | b :: s,c=>if b = 32 then fl c ++ toks s [] else if b = 40 ∨ b = 41 then fl c ++ [b] :: toks s [] else toks s (c ++ [b])
def curW (s:List UInt8) (i:Nat):List UInt8:=if (wst s i).2 < 0 then [] else (s.take i).drop (wst s i).2.toNat
theorem wst_fr (s:List UInt8):∀ i,i≤s.length → (wst s i).2 = -1 ∨ (0≤(wst s i).2∧(wst s i).2 < i):=by
  intro i
  induction i with
  | zero=>intro _;exact .inl rfl
  | succ i ih =>
    intro hi
    have:=ih (by omega)
    rw [wst]
    split
    · exact .inl rfl
    · split
      · exact .inl rfl
      · simp only
        split <;> omega
theorem shut_fl (s:List UInt8) (o:List Wd) (i:Nat) (hi:i≤s.length):(shut s o (wst s i).2 i).map (·.1) = o.map (·.1) ++ fl (curW s i):=by
  have h:=wst_fr s i hi
  unfold shut curW fl
  rcases h with h | ⟨h1,h2⟩
  · simp [h]
  · have hn:¬ (wst s i).2 < 0:=by omega
    have:¬ ((s.take i).drop (wst s i).2.toNat = []):=by
      intro e
      have:=congrArg List.length e
      simp only [List.length_drop,List.length_take,List.length_nil] at this
      omega
    rw [if_pos h1,if_neg hn,if_neg this]
    simp
theorem wst_toks (s:List UInt8):∀ i,i≤s.length → (wst s i).1.map (·.1) ++ toks (s.drop i) (curW s i) = toks s []:=by
  intro i
  induction i with
  | zero=>intro _;simp [wst,curW]
  | succ i ih =>
    intro hi
    rw [← ih (by omega)]
    have hfr:=wst_fr s i (by omega)
    have hd:s.drop i = s[i] :: s.drop (i + 1):=List.drop_eq_getElem_cons (by omega)
    have hg:s[i]?.getD 0 = s[i]:=by rw [List.getElem?_eq_getElem (by omega)];rfl
    have hs:=shut_fl s (wst s i).1 i (by omega)
    rw [hd,toks]
    have hc:curW s (i + 1) = if (wst s (i + 1)).2 < 0 then [] else (s.take (i + 1)).drop (wst s (i + 1)).2.toNat:=rfl
    rw [hc,wst,hg]
    split
    · simp only [hs]
      simp
    · split
      · simp only [List.map_append,hs]
        simp
      · simp only
        congr 1
        congr 1
        have ht:s.take (i + 1) = s.take i ++ [s[i]]:=List.take_succ_eq_append_getElem (by omega)
        rcases hfr with h | ⟨h1,h2⟩
        · unfold curW
          have a1:(wst s i).2 < 0:=by omega
          have a2:¬ ((i:Int) < 0):=by omega
          simp only [if_pos a1,if_neg a2,ht,Int.toNat_natCast]
          rw [List.drop_append_of_le_length (by simp only [List.length_take];omega),List.drop_eq_nil_of_le (by simp only [List.length_take];omega)]
        · unfold curW
          have a1:¬ (wst s i).2 < 0:=by omega
          simp only [if_neg a1]
          rw [ht,List.drop_append_of_le_length (by simp only [List.length_take];omega)]
theorem words_toks (s:List UInt8):(wordsP s).map (·.1) = toks s []:=by
  unfold wordsP
  rw [shut_fl s _ _ (Nat.le_refl _),← wst_toks s s.length (Nat.le_refl _)]
  simp [toks]
theorem toks_len (s:List UInt8):∀ c,(toks s c).length≤s.length + (fl c).length:=by
  induction s with
  | nil=>intro c;simp [toks]
  | cons b s ih =>
    intro c
    rw [toks]
    have h0:=ih []
    have h1:=ih (c ++ [b])
    have f0:(fl []).length = 0:=rfl
    have f1:(fl (c ++ [b])).length = 1:=by simp [fl]
    split
    · simp only [List.length_append,List.length_cons];omega
    · split
      · simp only [List.length_append,List.length_cons];omega
      · simp only [List.length_cons];omega
theorem toks_each (s:List UInt8):∀ c,∀ x ∈ toks s c,x.length≤s.length + c.length:=by
  induction s with
  | nil=>intro c x hx;simp [toks,fl] at hx;simp;rw [hx.2];exact Nat.le_refl _
  | cons b s ih =>
    intro c x hx
    have hf:∀ y ∈ fl c,y.length≤c.length:=by
      intro y hy;unfold fl at hy;split at hy
      · cases hy
      · simp at hy;rw [hy];exact Nat.le_refl _
    rw [toks] at hx
    simp only [List.length_cons]
    split at hx
    · rcases List.mem_append.1 hx with h | h
      · have:=hf x h;omega
      · have:=ih [] x h;simp at this;omega
    · split at hx
      · rcases List.mem_append.1 hx with h | h
        · have:=hf x h;omega
        · rcases List.mem_cons.1 h with h | h
          · subst h;simp only [List.length_singleton];omega
          · have:=ih [] x h;simp at this;omega
      · have:=ih _ x hx;simp at this;omega
theorem words_len (s:List UInt8):(wordsP s).length≤s.length:=by
  have h:=toks_len s []
  rw [← words_toks] at h
  simpa [fl] using h
theorem words_each (s:List UInt8):∀ x ∈ wordsP s,x.1.length≤s.length:=by
  intro x hx
  have:=toks_each s [] x.1 (by rw [← words_toks];exact List.mem_map_of_mem hx)
  simpa using this
mutual
def szN:Nd → Nat
  | .within _ _ _=>1
  | .has _=>1
  | .all=>1
  | .not n=>szN n + 1
  | .row _ l=>szL l
def szL:List Nd → Nat
  | []=>0
  | a :: l=>szN a + szL l
end
theorem szL_app (a b:List Nd):szL (a ++ b) = szL a + szL b:=by
  induction a with
  | nil=>simp [szL]
  | cons x a ih=>simp only [List.cons_append,szL,ih];omega
theorem szL_flat (o:Bool) (n:Nd):szL (flat o n) = szN n:=by
  cases n with
  | row o2 l=>rw [flat];split <;> simp [szN,szL]
  | _=>simp [flat,szL]
theorem szN_mk (o:Bool) (l:List Nd):szN (mkN o l) = szL l:=by
  unfold mkN
  split <;> simp [szN,szL]
def notRow (o:Bool):Nd → Prop
  | .row o2 _=>o2 ≠ o
  | _=>True
mutual
def wfN:Nd → Prop
  | .within k lo hi=>k≤2∧0≤lo∧lo≤1000000001∧0≤hi∧hi≤1000000001
  | .has s=>s ≠ []∧s.length≤1000
  | .all=>True
  | .not n=>wfN n
  | .row o l=>2≤l.length∧wfL o l
def wfL (o:Bool):List Nd → Prop
  | []=>True
  | a :: l=>wfN a∧notRow o a∧wfL o l
end
theorem wfL_app (o:Bool) (a b:List Nd):wfL o (a ++ b) ↔ wfL o a∧wfL o b:=by
  induction a with
  | nil=>simp [wfL]
  | cons x a ih=>simp only [List.cons_append,wfL,ih,and_assoc]
theorem wfL_flat (o:Bool) (n:Nd) (h:wfN n):wfL o (flat o n):=by
  cases n with
  | row o2 l =>
    rw [flat]
    split
    · next e=>subst e;exact h.2
    · next e=>exact ⟨h,e,trivial⟩
  | _=>exact ⟨h,trivial,trivial⟩
theorem flat_pos (o:Bool) (n:Nd) (h:wfN n):1≤(flat o n).length:=by
  cases n with
  | row o2 l =>
    rw [flat]
    split
    · have:=h.1;omega
    · simp
  | _=>simp [flat]
theorem wfN_mk (o:Bool) (l:List Nd) (h:wfL o l) (hl:1≤l.length):wfN (mkN o l):=by
  unfold mkN
  split
  · exact h.1
  · next hx =>
    refine ⟨?_,h⟩
    match l,hl,hx with
    | [x],_,hx=>exact absurd rfl (hx x)
    | a :: b :: l,_,_=>simp
def ownS (o:Bool):Nat:=if o then 0 else 1
mutual
def ndN:Nat → Nd → Nat
  | _,.within _ _ _=>0
  | _,.has _=>0
  | _,.all=>0
  | _,.not n=>ndN 2 n
  | s,.row o l=>(if ownS o < s then 1 else 0) + ndL (ownS o) l
def ndL (s:Nat):List Nd → Nat
  | []=>0
  | a :: l=>max (ndN s a) (ndL s l)
end
theorem ndL_le (s k:Nat) (l:List Nd):ndL s l≤k ↔ ∀ x ∈ l,ndN s x≤k:=by
  induction l with
  | nil=>simp [ndL]
  | cons a l ih=>simp only [ndL,List.mem_cons,forall_eq_or_imp,← ih];exact Nat.max_le
theorem ndN_up (s s':Nat) (n:Nd) (h:s≤s'):ndN s n≤ndN s' n:=by
  cases n <;> simp only [ndN] <;> try omega
  split <;> split <;> omega
theorem ndN_br (n:Nd) (s:Nat):ndN s n≤ndN 0 n + 1:=by
  cases n <;> simp only [ndN] <;> try omega
  split <;> split <;> omega
theorem nd_flat (o:Bool) (n:Nd) (k:Nat) (h:ndN (ownS o + 1) n≤k):∀ x ∈ flat o n,ndN (ownS o) x≤k:=by
  intro x hx
  cases n with
  | row o2 l =>
    rw [flat] at hx
    split at hx
    · next e =>
      subst e
      rw [ndN,if_pos (by omega)] at h
      have:=(ndL_le (ownS o2) k l).1 (by omega) x hx
      exact this
    · simp at hx;subst hx;have:=ndN_up (ownS o) (ownS o + 1) (.row o2 l) (by omega);omega
  | _=>simp [flat] at hx;subst hx;simpa [ndN] using h
theorem nd_mk (o:Bool) (l:List Nd) (k:Nat) (h:∀ x ∈ l,ndN (ownS o) x≤k):ndN (ownS o) (mkN o l)≤k:=by
  unfold mkN
  split
  · exact h _ (by simp)
  · rw [ndN,if_neg (by omega)]
    have:=(ndL_le (ownS o) k l).2 h
    omega
theorem own_m (m:Nat) (hm:m≤1):ownS (decide (m = 1)) = 1 - m:=by
  have:m = 0 ∨ m = 1:=by omega
  rcases this with rfl | rfl <;> rfl
theorem numV_in (s:List UInt8):0≤(WanW.numV s).1∧(WanW.numV s).1≤1000000001:=by
  unfold WanW.numV
  split <;> simp <;> omega
theorem unpair_le:∀ (n:Nat) (s:List UInt8),s.length≤n → (WanW.unpair s).length≤s.length
  | 0,s,h=>by
    have:s = []:=List.eq_nil_of_length_eq_zero (by omega)
    subst this;simp [WanW.unpair]
  | n + 1,[],h=>by simp [WanW.unpair]
  | n + 1,[a],h=>by simp [WanW.unpair]
  | n + 1,a :: b :: s,h=>by
    have:=unpair_le n s (by simp at h;omega)
    simp only [WanW.unpair,List.length_cons];omega
theorem unhex_le (s:List UInt8):(WanW.unhexV s).1.length≤s.length:=by
  unfold WanW.unhexV
  split
  · simp
  · exact unpair_le _ s (Nat.le_refl _)
theorem nums_in {s:List UInt8} {a b:Int} (h:numsP s = some (a,b)):0≤a∧a≤1000000001∧0≤b∧b≤1000000001:=by
  unfold numsP at h
  split at h
  · simp only [Option.some.injEq,Prod.mk.injEq] at h
    obtain ⟨rfl,rfl⟩:=h
    have:=numV_in (WanW.bef 45 s)
    have:=numV_in (WanW.aft 45 s)
    omega
  · cases h
theorem kind_le {s:List UInt8} {k:Nat} (h:kindP s = some k):k≤2:=by
  unfold kindP at h
  split at h
  · cases h;omega
  · split at h
    · cases h;omega
    · split at h <;> cases h;omega
mutual
theorem szN_pos:∀ n:Nd,wfN n → 1≤szN n
  | .within _ _ _,_=>by simp [szN]
  | .has _,_=>by simp [szN]
  | .all,_=>by simp [szN]
  | .not n,h=>by simp [szN]
  | .row o l,h=>by have:=len_sz o l h.2;have:=h.1;simp only [szN];omega
theorem len_sz (o:Bool):∀ l:List Nd,wfL o l → l.length≤szL l
  | [],_=>by simp
  | a :: l,h=>by have:=szN_pos a h.1;have:=len_sz o l h.2.2;simp only [szL,List.length_cons];omega
end
def Few (l:List Wd):Prop:=∀ x ∈ l,x.1.length≤1000
theorem Few.drop {l:List Wd} (h:Few l) (k:Nat):Few (l.drop k):=fun x hx=>h x (List.mem_of_mem_drop hx)
theorem Few.hd {l:List Wd} (h:Few l) (en:Int):(hdW en l).1.length≤1000:=by
  cases l with
  | nil=>simp [hdW]
  | cons a l=>exact h a (by simp)
theorem pG_wf (en:Int):∀ (f m:Nat) (acc:List Nd) (l:List Wd) (sz dp:Nat) (n:Nd) (l2:List Wd) (s2 d2:Nat),m≤2 → dp≤20 → Few l → (m = 0 → acc = []) →
    wfL (decide (m = 2)) acc → (∀ x ∈ acc,ndN (2 - m) x≤20 - dp) → pG en f m acc l sz dp = .ok n l2 s2 d2 →
    wfN n∧ndN (2 - m) n≤20 - dp∧s2 + szL acc = sz + szN n:=by
  intro f
  induction f with
  | zero=>intro m acc l sz dp n l2 s2 d2 hm hd hF ha hw hn h;rw [pG] at h;cases h
  | succ f ih =>
    intro m acc l sz dp n l2 s2 d2 hm hd hF ha hw hn h
    cases m with
    | zero =>
      have:=ha rfl
      subst this
      rw [pG] at h
      have hF1:Few l.tail:=by rw [tail_drop];exact hF.drop 1
      rcases facS_ok h with ⟨k,a,b,h1,hs,h2,rfl,rfl,rfl,rfl⟩ | ⟨h1,hs,b,h2,rfl,rfl,rfl,rfl⟩ | ⟨h1,hs,rfl,rfl,rfl,rfl⟩ | ⟨h1,hs,n',e,rfl⟩ | ⟨h1,hd',l3,d3,e,h2,rfl,rfl⟩
      · exact ⟨⟨kind_le h1,nums_in h2⟩,by simp [ndN],by simp [szL,szN]⟩
      · refine ⟨?_,by simp [ndN],by simp [szL,szN]⟩
        unfold bytesP at h2
        split at h2
        · next hb =>
          simp only [Option.some.injEq] at h2
          subst h2
          exact ⟨hb.2,Nat.le_trans (unhex_le _) (hF1.hd en)⟩
        · cases h2
      · exact ⟨trivial,by simp [ndN],by simp [szL,szN]⟩
      · obtain ⟨w1,w2,w3⟩:=ih 0 [] _ _ _ _ _ _ _ (by omega) hd hF1 (fun _=>rfl) trivial (by simp) e
        refine ⟨w1,by simpa [ndN] using w2,?_⟩
        simp only [szL,szN] at w3 ⊢
        omega
      · obtain ⟨w1,w2,w3⟩:=ih 2 [] _ _ _ _ _ _ _ (by omega) (by omega) hF1 (by simp) trivial (by simp) e
        refine ⟨w1,?_,w3⟩
        have:=ndN_br n 2
        simp only [Nat.sub_self] at w2
        show ndN 2 n≤20 - dp
        omega
    | succ m =>
      obtain ⟨n1,l1,s1,d1,e,hh⟩:=pG_ok h
      obtain ⟨k,k1,k2,rfl,rfl,hs,hs2⟩:=pG_left en _ _ _ _ _ _ _ _ _ _ e
      obtain ⟨w1,w2,w3⟩:=ih m [] _ _ _ _ _ _ _ (by omega) hd hF (fun _=>rfl) trivial (by simp) e
      have e2:decide (m + 1 = 2) = decide (m = 1):=by simp
      have e3:2 - (m + 1) = ownS (decide (m = 1)):=by rw [own_m m (by omega)];omega
      have e4:2 - m = ownS (decide (m = 1)) + 1:=by rw [own_m m (by omega)];omega
      rw [e2] at hw
      rw [e3] at hn ⊢
      rw [e4] at w2
      have hw':wfL (decide (m = 1)) (acc ++ flat (decide (m = 1)) n1):=(wfL_app _ _ _).2 ⟨hw,wfL_flat _ _ w1⟩
      have hn':∀ x ∈ acc ++ flat (decide (m = 1)) n1,ndN (ownS (decide (m = 1))) x≤20 - d1:=by
        intro x hx
        rcases List.mem_append.1 hx with h | h
        · exact hn x h
        · exact nd_flat _ n1 _ w2 x h
      have hz:szL (acc ++ flat (decide (m = 1)) n1) = szL acc + szN n1:=by rw [szL_app,szL_flat]
      rcases hh with ⟨hb,e5⟩ | ⟨hb,rfl,rfl,rfl,rfl⟩
      · obtain ⟨x1,x2,x3⟩:=ih (m + 1) _ _ _ _ _ _ _ _ hm hd (by rw [tail_drop];exact (hF.drop k).drop 1) (by simp) (by rw [e2];exact hw') (by rw [e3];exact hn') e5
        rw [e3] at x2
        simp only [szL] at w3
        exact ⟨x1,x2,by omega⟩
      · refine ⟨wfN_mk _ _ hw' ?_,nd_mk _ _ _ hn',?_⟩
        · have:=flat_pos (decide (m = 1)) n1 w1
          simp only [List.length_append];omega
        · rw [szN_mk,hz]
          simp only [szL] at w3
          omega
end SieW
end Go.Proofs.YtnpncpoiiikafaaGreatDoor
