/- Plain: sentences: what was read, written, is read as the same. -/
import Derived.Test.YtdeiehgghhiijaaDoorSieQ
import Derived.Test.YtdeiehgghhiijaaDoorSieT
namespace Go.Proofs.YtdeiehgghhiijaaDoor
set_option linter.unusedVariables false
set_option linter.unusedSimpArgs false
set_option linter.unnecessarySimpa false
open Go.RowKit
namespace SieW
open WanW (hexL decB hexB ok2 numV bef aft)
def sepW (o : Bool) : List UInt8 := 32 :: (byW o ++ [32])
mutual
/-- How a part is written, with this strength around it. -/
def shN : Nat → Nd → List UInt8
  | _, .within k lo hi => kwS k ++ 32 :: rngL lo hi
  | _, .has s => sHas ++ 32 :: hexL s
  | _, .all => sAll
  | _, .not n => sNot ++ 32 :: shN 2 n
  | _, .row _ [] => []
  | s, .row o (a :: l) => if ownS o < s then 40 :: (shN (ownS o) a ++ (shR o l ++ [41])) else shN (ownS o) a ++ shR o l
def shR (o : Bool) : List Nd → List UInt8
  | [] => []
  | a :: l => sepW o ++ (shN (ownS o) a ++ shR o l)
end
mutual
/-- Its words. -/
def tkN : Nat → Nd → List (List UInt8)
  | _, .within k lo hi => [kwS k, rngL lo hi]
  | _, .has s => [sHas, hexL s]
  | _, .all => [sAll]
  | _, .not n => sNot :: tkN 2 n
  | _, .row _ [] => []
  | s, .row o (a :: l) => if ownS o < s then [40] :: (tkN (ownS o) a ++ (tkR o l ++ [[41]])) else tkN (ownS o) a ++ tkR o l
def tkR (o : Bool) : List Nd → List (List UInt8)
  | [] => []
  | a :: l => byW o :: (tkN (ownS o) a ++ tkR o l)
end
def dlm (b : UInt8) : Bool := b == 32 || b == 40 || b == 41
def endsW (r : List UInt8) : Prop := ∀ b ∈ r.head?, dlm b = true
def cleanW (x : List UInt8) : Prop := x ≠ [] ∧ ∀ b ∈ x, dlm b = false
theorem toks_end (c r : List UInt8) (h : endsW r) : toks r c = fl c ++ toks r [] := by
  cases r with
  | nil => simp [toks, fl]
  | cons b r =>
    have hb : dlm b = true := h b rfl
    simp only [dlm, Bool.or_eq_true, beq_iff_eq] at hb
    by_cases h1 : b = 32
    · simp [toks, h1, fl]
    · have h2 : b = 40 ∨ b = 41 := by rcases hb with (h | h) | h <;> simp_all
      simp only [toks, if_neg h1, if_pos h2]
      simp [fl]
theorem toks_in (x r : List UInt8) (hx : ∀ b ∈ x, dlm b = false) (h : endsW r) : ∀ c, toks (x ++ r) c = fl (c ++ x) ++ toks r [] := by
  induction x with
  | nil => intro c; rw [List.nil_append, List.append_nil, toks_end c r h]
  | cons b x ih =>
    intro c
    have hb := hx b (by simp)
    simp only [dlm, Bool.or_eq_false_iff, beq_eq_false_iff_ne] at hb
    rw [List.cons_append, toks, if_neg hb.1.1, if_neg (by simp [hb]), ih (fun y hy => hx y (by simp [hy]))]
    simp
theorem toks_word {x : List UInt8} (hx : cleanW x) (r : List UInt8) (h : endsW r) : toks (x ++ r) [] = x :: toks r [] := by
  rw [toks_in x r hx.2 h, List.nil_append, fl, if_neg hx.1]
  rfl
theorem toks_sp0 (r : List UInt8) : toks (32 :: r) [] = toks r [] := by have := toks_sp [] r []; simpa [toks, fl] using this
theorem toks_d0 (r : List UInt8) (b : UInt8) (hb : b = 40 ∨ b = 41) : toks (b :: r) [] = [b] :: toks r [] := by have := toks_delim [] r b hb []; simpa [toks, fl] using this
theorem ends_sp (r : List UInt8) : endsW (32 :: r) := by intro b hb; simp at hb; subst hb; rfl
theorem ends_cl (r : List UInt8) : endsW (41 :: r) := by intro b hb; simp at hb; subst hb; rfl
theorem dig_clean (b : UInt8) (h : dlm b = true) : decB b = false ∧ hexB b = false ∧ b ≠ 45 := by
  simp only [dlm, Bool.or_eq_true, beq_iff_eq] at h
  rcases h with (rfl | rfl) | rfl <;> decide
theorem all_clean {s : List UInt8} {f : UInt8 → Bool} (h : s.all f = true) (hf : ∀ b, dlm b = true → f b = false) : ∀ b ∈ s, dlm b = false := by
  intro b hb
  have := List.all_eq_true.1 h b hb
  cases e : dlm b
  · rfl
  · rw [hf b e] at this; cases this
theorem rng_clean (a b : Int) : cleanW (rngL a b) := by
  refine ⟨by simp [rngL], fun x hx => ?_⟩
  unfold rngL at hx
  rcases List.mem_append.1 hx with h | h
  · exact all_clean (decL_all _) (fun b hb => (dig_clean b hb).1) x h
  · rcases List.mem_cons.1 h with rfl | h
    · rfl
    · exact all_clean (decL_all _) (fun b hb => (dig_clean b hb).1) x h
theorem hex_clean (s : List UInt8) (h : s ≠ []) : cleanW (hexL s) := by
  refine ⟨?_, all_clean (hexL_all s) (fun b hb => (dig_clean b hb).2.1)⟩
  cases s with
  | nil => exact absurd rfl h
  | cons a s => simp [hexL]
theorem rng_nums (a b : Int) (h : 0 ≤ a ∧ a ≤ 1000000001 ∧ 0 ≤ b ∧ b ≤ 1000000001) : numsP (rngL a b) = some (a, b) := by
  obtain ⟨h1, h2, h3⟩ := rng_back a b h.1 h.2.1 h.2.2.1 h.2.2.2
  simp only [ok2, Bool.and_eq_true] at h1
  unfold numsP
  rw [if_pos ⟨h1.1, h1.2.1, h1.2.2⟩]
  have e1 : (numV (bef 45 (rngL a b))).1 = a := h2
  have e2 : (numV (aft 45 (rngL a b))).1 = b := h3
  rw [e1, e2]
theorem hex_bytes (s : List UInt8) (h : s ≠ []) : bytesP (hexL s) = some s := by
  unfold bytesP
  rw [hex_back, if_pos ⟨rfl, h⟩]
theorem kw_clean (k : Nat) : cleanW (kwS k) := by
  unfold kwS
  split
  · exact ⟨by decide, by decide⟩
  · split <;> exact ⟨by decide, by decide⟩
theorem by_clean (o : Bool) : cleanW (byW o) := by cases o <;> exact ⟨by decide, by decide⟩
mutual
theorem toks_N : ∀ (n : Nd) (s : Nat) (r : List UInt8), wfN n → endsW r → toks (shN s n ++ r) [] = tkN s n ++ toks r []
  | .within k lo hi, s, r, hw, he => by
    simp only [shN, tkN, List.append_assoc, List.cons_append]
    rw [toks_word (kw_clean k) _ (ends_sp _), toks_sp0, toks_word (rng_clean lo hi) _ he]
    rfl
  | .has x, s, r, hw, he => by
    simp only [shN, tkN, List.append_assoc, List.cons_append]
    rw [toks_word ⟨by decide, by decide⟩ _ (ends_sp _), toks_sp0, toks_word (hex_clean x hw.1) _ he]
    rfl
  | .all, s, r, hw, he => by
    simp only [shN, tkN]
    rw [toks_word ⟨by decide, by decide⟩ _ he]
    rfl
  | .not n, s, r, hw, he => by
    simp only [shN, tkN, List.append_assoc, List.cons_append]
    rw [toks_word ⟨by decide, by decide⟩ _ (ends_sp _), toks_sp0, toks_N n 2 r hw he]
  | .row o [], s, r, hw, he => by simp [shN, tkN]
  | .row o (a :: l), s, r, hw, he => by
    have hw1 : wfN a := hw.2.1
    have hw2 : wfL o l := hw.2.2.2
    simp only [shN, tkN]
    split
    · simp only [List.cons_append, List.append_assoc]
      rw [toks_d0 _ 40 (.inl rfl), toks_N a _ _ hw1 (ends_R o l _ (ends_cl _)), toks_R o l _ hw2 (ends_cl _)]
      simp only [List.nil_append]
      rw [toks_d0 _ 41 (.inr rfl)]
    · simp only [List.append_assoc]
      rw [toks_N a _ _ hw1 (ends_R o l _ he), toks_R o l _ hw2 he]
theorem toks_R (o : Bool) : ∀ (l : List Nd) (r : List UInt8), wfL o l → endsW r → toks (shR o l ++ r) [] = tkR o l ++ toks r []
  | [], r, hw, he => by simp [shR, tkR]
  | a :: l, r, hw, he => by
    simp only [shR, tkR, sepW, List.append_assoc, List.cons_append, List.nil_append]
    rw [toks_sp0, toks_word (by_clean o) _ (ends_sp _), toks_sp0, toks_N a _ _ hw.1 (ends_R o l r he), toks_R o l r hw.2.2 he]
theorem ends_R (o : Bool) : ∀ (l : List Nd) (r : List UInt8), endsW r → endsW (shR o l ++ r)
  | [], r, he => by simpa [shR] using he
  | a :: l, r, he => by simp only [shR, sepW, List.cons_append]; exact ends_sp _
end
/-- What stands behind a part that is written with this strength around it. -/
def stopS (s : Nat) (R : List (List UInt8)) : Prop := ∀ o, s ≤ ownS o → R.head?.getD [] ≠ byW o
theorem stopS.up {s s' : Nat} {R : List (List UInt8)} (h : stopS s R) (hs : s ≤ s') : stopS s' R := fun o ho => h o (by omega)
def ParsesN (n : Nd) : Prop := ∀ (s : Nat) (en : Int) (l : List Wd) (R : List (List UInt8)) (sz dp : Nat), s ≤ 2 → wfN n → l.map (·.1) = tkN s n ++ R → ndN s n + dp ≤ 20 → sz + szN n ≤ 100 → stopS s R →
  pM en (2 - s) [] l sz dp = .ok n (l.drop (tkN s n).length) (sz + szN n) dp
def ParsesR (L : List Nd) : Prop := ∀ (o : Bool) (a : Nd) (acc : List Nd) (en : Int) (l : List Wd) (R : List (List UInt8)) (sz dp : Nat), ParsesN a → wfL o (a :: L) → l.map (·.1) = tkN (ownS o) a ++ (tkR o L ++ R) →
  ndN (ownS o) a + dp ≤ 20 → ndL (ownS o) L + dp ≤ 20 → sz + szN a + szL L ≤ 100 → stopS (ownS o) R →
  pM en (2 - ownS o) acc l sz dp = .ok (mkN o (acc ++ a :: L)) (l.drop ((tkN (ownS o) a).length + (tkR o L).length)) (sz + szN a + szL L) dp
theorem tk_same (o : Bool) (a : Nd) (h : notRow o a) : tkN (ownS o + 1) a = tkN (ownS o) a ∧ ndN (ownS o + 1) a = ndN (ownS o) a := by
  cases a with
  | row o2 l =>
    have h2 : o2 ≠ o := h
    have : ownS o2 ≠ ownS o := by revert h2; cases o2 <;> cases o <;> decide
    have e : (ownS o2 < ownS o + 1) = (ownS o2 < ownS o) := by rw [eq_iff_iff]; omega
    cases l with
    | nil => simp only [tkN, ndN, e]; exact ⟨trivial, trivial⟩
    | cons x l => simp only [tkN, ndN, e]; exact ⟨trivial, trivial⟩
  | _ => simp [tkN, ndN]
theorem hd_map (en : Int) (l : List Wd) (T R : List (List UInt8)) (h : l.map (·.1) = T ++ R) (j : Nat) (hj : j = T.length) : (hdW en (l.drop j)).1 = R.head?.getD [] := by
  rw [hd_fst, h, hj, List.getElem?_append_right (Nat.le_refl _), Nat.sub_self, List.head?_eq_getElem?]
theorem own_two (o : Bool) : 2 - ownS o = (if o then 1 else 0) + 1 ∧ decide ((if o then 1 else 0) = 1) = o ∧ (if o then 1 else 0) = 2 - (ownS o + 1) := by cases o <;> decide
theorem flat_not (o : Bool) (n : Nd) (h : notRow o n) : flat o n = [n] := by
  cases n with
  | row o2 l => rw [flat, if_neg h]
  | _ => rfl
theorem by_other (o o' : Bool) (h : ownS o + 1 ≤ ownS o') : byW o ≠ byW o' := by cases o <;> cases o' <;> first | decide | (exact absurd h (by decide))
/-- A part of one strength, where none of its word stands behind it, is one of the strength below. -/
theorem lift_pM {en : Int} (o : Bool) {l l2 : List Wd} {sz dp s2 d2 : Nat} {n : Nd} (h : pM en (2 - (ownS o + 1)) [] l sz dp = .ok n l2 s2 d2) (hb : (hdW en l2).1 ≠ byW o) (hn : notRow o n) :
    pM en (2 - ownS o) [] l sz dp = .ok n l2 s2 d2 := by
  obtain ⟨e1, e2, e3⟩ := own_two o
  rw [e1, pM1 en _ (by split <;> omega), e3, h]
  rw [← e3]
  simp only [e2, if_neg hb, flat_not o n hn, List.nil_append, mkN]
theorem lift_all {en : Int} {l l2 : List Wd} {sz dp s2 d2 : Nat} {n : Nd} (s : Nat) (hs : s ≤ 2) (h : pM en 0 [] l sz dp = .ok n l2 s2 d2) (hb : ∀ o, s ≤ ownS o → (hdW en l2).1 ≠ byW o) (h1 : notRow false n) (h2 : notRow true n) :
    pM en (2 - s) [] l sz dp = .ok n l2 s2 d2 := by
  have : s = 0 ∨ s = 1 ∨ s = 2 := by omega
  rcases this with rfl | rfl | rfl
  · exact lift_pM true (lift_pM false h (hb false (by decide)) h1) (hb true (by decide)) h2
  · exact lift_pM false h (hb false (by decide)) h1
  · exact h
mutual
theorem parses_N : ∀ n : Nd, ParsesN n
  | .within k lo hi => by
    intro s en l R sz dp hs hw hl hn hz hst
    have h0 : (hdW en l).1 = kwS k := by have := hd_fst en l 0; rw [hl] at this; simpa [tkN] using this
    have h1 : (hdW en l.tail).1 = rngL lo hi := by have := hd_fst en l 1; rw [hl] at this; rw [tail_drop]; simpa [tkN] using this
    have hk : kindP (kwS k) = some k := by
      have : k = 0 ∨ k = 1 ∨ k = 2 := by have := hw.1; omega
      rcases this with rfl | rfl | rfl <;> decide
    have hz' : ¬ 100 ≤ sz := by simp only [szN] at hz; omega
    have z : pM en 0 [] l sz dp = .ok (.within k lo hi) (l.drop 2) (sz + 1) dp := by
      rw [pM0, facS, h0, hk]
      simp only [if_neg hz', h1, rng_nums lo hi hw.2]
      rw [tail_drop, tail_drop, List.drop_drop]
    exact lift_all s hs z (by rw [hd_map en l _ R hl _ rfl]; exact hst) trivial trivial
  | .has x => by
    intro s en l R sz dp hs hw hl hn hz hst
    have h0 : (hdW en l).1 = sHas := by have := hd_fst en l 0; rw [hl] at this; simpa [tkN] using this
    have h1 : (hdW en l.tail).1 = hexL x := by have := hd_fst en l 1; rw [hl] at this; rw [tail_drop]; simpa [tkN] using this
    have hk : kindP sHas = none := by decide
    have hz' : ¬ 100 ≤ sz := by simp only [szN] at hz; omega
    have z : pM en 0 [] l sz dp = .ok (.has x) (l.drop 2) (sz + 1) dp := by
      rw [pM0, facS, h0, hk]
      simp only [if_neg hz', if_true, h1, hex_bytes x hw.1]
      rw [tail_drop, tail_drop, List.drop_drop]
    exact lift_all s hs z (by rw [hd_map en l _ R hl _ rfl]; exact hst) trivial trivial
  | .all => by
    intro s en l R sz dp hs hw hl hn hz hst
    have h0 : (hdW en l).1 = sAll := by have := hd_fst en l 0; rw [hl] at this; simpa [tkN] using this
    have hk : kindP sAll = none := by decide
    have hk1 : sAll ≠ sHas := by decide
    have hz' : ¬ 100 ≤ sz := by simp only [szN] at hz; omega
    have z : pM en 0 [] l sz dp = .ok .all (l.drop 1) (sz + 1) dp := by
      rw [pM0, facS, h0, hk]
      simp only [if_neg hk1, if_neg hz', if_true]
      simp
    exact lift_all s hs z (by rw [hd_map en l _ R hl _ rfl]; exact hst) trivial trivial
  | .not n => by
    intro s en l R sz dp hs hw hl hn hz hst
    have h0 : (hdW en l).1 = sNot := by have := hd_fst en l 0; rw [hl] at this; simpa [tkN] using this
    have hk : kindP sNot = none := by decide
    have hk1 : sNot ≠ sHas := by decide
    have hk2 : sNot ≠ sAll := by decide
    simp only [szN] at hz
    have hz' : ¬ 100 ≤ sz := by omega
    have hl' : (l.drop 1).map (·.1) = tkN 2 n ++ R := by rw [List.map_drop, hl]; rfl
    have ih := parses_N n 2 en (l.drop 1) R (sz + 1) dp (Nat.le_refl _) hw hl' (by simpa [ndN] using hn) (by omega) (fun o ho => by cases o <;> exact absurd ho (by decide))
    have z : pM en 0 [] l sz dp = .ok (.not n) (l.drop (tkN s (.not n)).length) (sz + szN (.not n)) dp := by
      rw [pM0, facS, h0, hk]
      simp only [if_neg hk1, if_neg hk2, if_neg hz', if_true, tail_drop]
      simp only [Nat.sub_self] at ih
      rw [ih]
      simp only [List.drop_drop, tkN, szN, List.length_cons]
      rw [Nat.add_comm 1, show sz + 1 + szN n = sz + (szN n + 1) by omega]
    exact lift_all s hs z (by rw [hd_map en l _ R hl _ rfl]; exact hst) trivial trivial
  | .row o [] => by
    intro s en l R sz dp hs hw
    exact absurd hw.1 (by simp)
  | .row o (a :: L) => by
    have ihA := parses_N a
    have ihL := parses_R L
    intro s en l R sz dp hs hw hl hn hz hst
    have hlen : 2 ≤ (a :: L).length := hw.1
    have hmk : mkN o ([] ++ a :: L) = .row o (a :: L) := by
      cases L with
      | nil => simp at hlen
      | cons b L => rfl
    simp only [szN, szL] at hz
    by_cases hb : ownS o < s
    · simp only [tkN, if_pos hb] at hl ⊢
      simp only [ndN, if_pos hb, ndL] at hn
      have hn1 := Nat.le_max_left (ndN (ownS o) a) (ndL (ownS o) L)
      have hn2 := Nat.le_max_right (ndN (ownS o) a) (ndL (ownS o) L)
      have h0 : (hdW en l).1 = [40] := by have := hd_fst en l 0; rw [hl] at this; simpa using this
      have hl' : (l.drop 1).map (·.1) = tkN (ownS o) a ++ (tkR o L ++ ([41] :: R)) := by rw [List.map_drop, hl]; simp
      have hc : ∀ o', ([41] :: R).head?.getD [] ≠ byW o' := by intro o'; show [41] ≠ byW o'; cases o' <;> decide
      have r0 := ihL o a [] en (l.drop 1) ([41] :: R) sz (dp + 1) ihA hw.2 hl' (by omega) (by omega) (by omega) (fun o' _ => hc o')
      rw [hmk] at r0
      have hd1 := hd_map en (l.drop 1) (tkN (ownS o) a ++ tkR o L) ([41] :: R) (by rw [hl']; simp) _ rfl
      have r1 : pM en 2 [] (l.drop 1) sz (dp + 1) = .ok (.row o (a :: L)) ((l.drop 1).drop ((tkN (ownS o) a).length + (tkR o L).length)) (sz + szN a + szL L) (dp + 1) := by
        cases o with
        | true => exact r0
        | false =>
          refine lift_pM true r0 ?_ (show false ≠ true by decide)
          rw [List.length_append] at hd1
          rw [hd1]
          exact hc true
      have z : pM en 0 [] l sz dp = .ok (.row o (a :: L)) (l.drop (tkN s (.row o (a :: L))).length) (sz + szN (.row o (a :: L))) dp := by
        rw [pM_br [] h0 (by omega), tail_drop, r1]
        have h41 : (hdW en ((l.drop 1).drop ((tkN (ownS o) a).length + (tkR o L).length))).1 = [41] := by rw [List.length_append] at hd1; rw [hd1]; rfl
        simp only [if_pos h41]
        simp only [tail_drop, List.drop_drop, tkN, if_pos hb, szN, szL, List.length_cons, List.length_append, List.length_nil]
        rw [show 1 + ((tkN (ownS o) a).length + (tkR o L).length) + 1 = (tkN (ownS o) a).length + ((tkR o L).length + (0 + 1)) + 1 by omega, show sz + szN a + szL L = sz + (szN a + szL L) by omega, show dp + 1 - 1 = dp by omega]
      have hz2 : (tkN s (.row o (a :: L))).length = ([40] :: (tkN (ownS o) a ++ (tkR o L ++ [[41]]))).length := by simp only [tkN, if_pos hb]
      rw [hz2] at z
      have hst' : stopS s R := hst
      have hs12 : s = 2 ∨ (s = 1 ∧ o = true) := by
        cases o with
        | true =>
          simp only [ownS, if_true] at hb
          have : s = 1 ∨ s = 2 := by omega
          rcases this with h | h
          · exact .inr ⟨h, by trivial⟩
          · exact .inl h
        | false => simp only [ownS, Bool.false_eq_true, if_false] at hb; exact .inl (by omega)
      rcases hs12 with rfl | ⟨rfl, rfl⟩
      · exact z
      · refine lift_pM false z ?_ (show true ≠ false by decide)
        rw [hd_map en l _ R hl _ rfl]
        exact hst' false (by decide)
    · simp only [tkN, if_neg hb] at hl ⊢
      simp only [ndN, if_neg hb, ndL] at hn
      have hn1 := Nat.le_max_left (ndN (ownS o) a) (ndL (ownS o) L)
      have hn2 := Nat.le_max_right (ndN (ownS o) a) (ndL (ownS o) L)
      rw [List.append_assoc] at hl
      have r0 := ihL o a [] en l R sz dp ihA hw.2 hl (by omega) (by omega) (by omega) (hst.up (by omega))
      rw [hmk, Nat.add_assoc sz] at r0
      rw [List.length_append]
      simp only [szN, szL]
      have hs12 : s = ownS o ∨ (s = 0 ∧ o = false) := by
        cases o with
        | true => simp only [ownS, if_true] at hb ⊢; exact .inl (by omega)
        | false =>
          simp only [ownS, Bool.false_eq_true, if_false] at hb ⊢
          have : s = 1 ∨ s = 0 := by omega
          rcases this with h | h
          · exact .inl h
          · exact .inr ⟨h, by trivial⟩
      rcases hs12 with rfl | ⟨rfl, rfl⟩
      · exact r0
      · refine lift_pM true r0 ?_ (show false ≠ true by decide)
        rw [← List.append_assoc] at hl
        have := hd_map en l _ R hl _ rfl
        rw [List.length_append] at this
        rw [this]
        exact hst true (by decide)
theorem parses_R : ∀ L : List Nd, ParsesR L
  | [] => by
    intro o a acc en l R sz dp ihA hw hl hn hnL hz hst
    simp only [tkR, List.nil_append, szL] at *
    obtain ⟨w1, w2, _⟩ := hw
    obtain ⟨t1, t2⟩ := tk_same o a w2
    obtain ⟨e1, e2, e3⟩ := own_two o
    have h := ihA (ownS o + 1) en l R sz dp (by cases o <;> decide) w1 (by rw [t1]; exact hl) (by rw [t2]; exact hn) (by omega) (hst.up (by omega))
    rw [e1, pM1 en _ (by split <;> omega), e3, h, ← e3, t1]
    have hb : (hdW en (l.drop (tkN (ownS o) a).length)).1 ≠ byW o := by rw [hd_map en l _ R hl _ rfl]; exact hst o (Nat.le_refl _)
    simp only [e2, if_neg hb, flat_not o a w2, List.length_nil, Nat.add_zero]
  | b :: L => by
    have ihB := parses_N b
    have ihL := parses_R L
    intro o a acc en l R sz dp ihA hw hl hn hnL hz hst
    simp only [szL, ndL, tkR] at *
    have hn1 := Nat.le_max_left (ndN (ownS o) b) (ndL (ownS o) L)
    have hn2 := Nat.le_max_right (ndN (ownS o) b) (ndL (ownS o) L)
    obtain ⟨w1, w2, w3⟩ := hw
    obtain ⟨t1, t2⟩ := tk_same o a w2
    obtain ⟨e1, e2, e3⟩ := own_two o
    have h := ihA (ownS o + 1) en l (byW o :: (tkN (ownS o) b ++ (tkR o L ++ R))) sz dp (by cases o <;> decide) w1 (by rw [t1, hl]; simp) (by rw [t2]; exact hn) (by omega) (fun o' ho' => by_other o o' ho')
    rw [t1] at h
    have hb : (hdW en (l.drop (tkN (ownS o) a).length)).1 = byW o := by rw [hd_map en l _ (byW o :: (tkN (ownS o) b ++ (tkR o L ++ R))) (by rw [hl]; simp) _ rfl]; rfl
    have hl' : (l.drop ((tkN (ownS o) a).length + 1)).map (·.1) = tkN (ownS o) b ++ (tkR o L ++ R) := by
      rw [List.map_drop, hl, ← List.drop_drop, List.drop_left]; simp
    have r0 := ihL o b (acc ++ [a]) en (l.drop ((tkN (ownS o) a).length + 1)) R (sz + szN a) dp ihB w3 hl' (by omega) (by omega) (by omega) hst
    rw [e1, pM1 en _ (by split <;> omega), e3, h, ← e3]
    simp only [e2, if_pos hb, flat_not o a w2, tail_drop, List.drop_drop]
    rw [← e1, r0]
    simp only [List.append_assoc, List.cons_append, List.nil_append, List.drop_drop, List.length_cons, List.length_append]
    rw [show (tkN (ownS o) a).length + 1 + ((tkN (ownS o) b).length + (tkR o L).length) = (tkN (ownS o) a).length + ((tkN (ownS o) b).length + (tkR o L).length + 1) by omega, show sz + szN a + szN b + szL L = sz + szN a + (szN b + szL L) by omega]
end
/-- What was read, written, is read as the same. -/
theorem parse_show {s : List UInt8} {n : Nd} {z : Nat} {p e : Int} (h : parseP s = (some (n, z), p, e)) (hl : (shN 0 n).length ≤ 1000) :
    parseP (shN 0 n) = (some (n, z), ((shN 0 n).length : Int), 0) := by
  obtain ⟨d, hp, hs, _, _⟩ := parse_ok h
  have hF : Few (wordsP s) := fun x hx => by have := words_each s x hx; omega
  obtain ⟨w1, w2, w3⟩ := pG_wf _ _ 2 [] _ _ _ _ _ _ _ (by omega) (by omega) hF (fun _ => rfl) trivial (by simp) hp
  obtain ⟨_, _, _, _, _, _, hz⟩ := pM_left hp
  have hz := hz (by omega)
  simp only [szL, Nat.add_zero, Nat.zero_add, Nat.sub_zero, Nat.sub_self] at w2 w3
  have ht : (wordsP (shN 0 n)).map (·.1) = tkN 0 n ++ [] := by
    have := toks_N n 0 [] w1 (by intro b hb; cases hb)
    rw [List.append_nil] at this
    rw [words_toks, this]; rfl
  have hr := parses_N n 0 ((shN 0 n).length : Int) (wordsP (shN 0 n)) [] 0 0 (by omega) w1 ht (by omega) (by omega) (fun o _ => by cases o <;> decide)
  have hlen : (wordsP (shN 0 n)).length = (tkN 0 n).length := by have := congrArg List.length ht; simpa using this
  rw [List.drop_eq_nil_of_le (by omega)] at hr
  rw [parse_pM, if_neg (by omega)]
  simp only [Nat.sub_zero, Nat.zero_add] at hr
  rw [hr]
  simp only [if_true, w3]
end SieW
end Go.Proofs.YtdeiehgghhiijaaDoor
