/- Package lens and its reference, plainly: both rows are the same; both take the same. -/
import Derived.Test.YtpnccehaomikbaaLfF
namespace Go.Proofs.Ytpnccehaomikbaa
set_option linter.unusedVariables false
set_option linter.unusedSimpArgs false
set_option linter.unnecessarySimpa false
open Go.RowKit
namespace LenW

/-- A thing's symbols. -/
def symW (G : List (Int × Int)) : Nat → (Int × Int) → List Int
  | 0, x => [x.2]
  | m + 1, x => if x.2 < 0 then symW G m ((rowW G m).getD (2 * (-1 - x.2).toNat) (0, 0)) ++ symW G m ((rowW G m).getD (2 * (-1 - x.2).toNat + 1) (0, 0)) else [x.2]
def hW (G : List (Int × Int)) (m : Nat) (x : Int × Int) : PT := (x.1, symW G m x, decide (0 ≤ x.2))
theorem sym_leaf (G : List (Int × Int)) (m : Nat) (x : Int × Int) (h : 0 ≤ x.2) : symW G m x = [x.2] := by
  cases m with
  | zero => rfl
  | succ m => rw [symW, if_neg (by omega)]
theorem h_leaf (G : List (Int × Int)) (m : Nat) (x : Int × Int) (h : 0 ≤ x.2) : hW G m x = leafP x := by
  unfold hW leafP
  rw [sym_leaf G m x h]
  simp [h]
theorem mrg_up {a b : List (Int × Int)} (ha : upW a) (hb : upW b) : upW (mrg a b) := by
  suffices ∀ n (a b : List (Int × Int)), a.length + b.length ≤ n → upW a → upW b → upW (mrg a b) from this _ a b (Nat.le_refl _) ha hb
  intro n
  induction n with
  | zero =>
    intro a b h _ hb
    obtain rfl := List.length_eq_zero_iff.1 (show a.length = 0 by omega)
    exact hb
  | succ n ih =>
    intro a b h ha hb
    match a, b with
    | [], b => exact hb
    | x :: a, [] => rw [mrg_right]; exact ha
    | x :: a, y :: b =>
      simp only [List.length_cons] at h
      rw [mrg_cons]
      obtain ⟨a1, a2⟩ := List.pairwise_cons.1 ha
      obtain ⟨b1, b2⟩ := List.pairwise_cons.1 hb
      split
      · rename_i hle
        refine List.pairwise_cons.2 ⟨fun z hz => ?_, ih a (y :: b) (by simp only [List.length_cons]; omega) a2 hb⟩
        rcases List.mem_append.1 ((mrg_perm _ _).mem_iff.1 hz) with h | h
        · exact a1 z h
        · rcases List.mem_cons.1 h with rfl | h
          · exact hle
          · exact Int.le_trans hle (b1 z h)
      · rename_i hle
        refine List.pairwise_cons.2 ⟨fun z hz => ?_, ih (x :: a) b (by simp only [List.length_cons]; omega) ha b2⟩
        rcases List.mem_append.1 ((mrg_perm _ _).mem_iff.1 hz) with h | h
        · rcases List.mem_cons.1 h with rfl | h
          · omega
          · have := a1 z h; omega
        · exact b1 z h
theorem pkgs_up {r : List (Int × Int)} (h : upW r) : upW (pkgs 0 r) := by
  refine List.pairwise_iff_getElem.2 (fun i j hi hj hij => ?_)
  have hl := pkgs_len r 0
  have e1 := pkgs_get r 0 i (by omega)
  have e2 := pkgs_get r 0 j (by omega)
  rw [List.getElem?_eq_getElem hi] at e1
  rw [List.getElem?_eq_getElem hj] at e2
  rw [Option.some.inj e1, Option.some.inj e2]
  have h1 := up_get h (2 * i) (2 * j) (by omega) (by omega)
  have h2 := up_get h (2 * i + 1) (2 * j + 1) (by omega) (by omega)
  dsimp only
  omega
theorem rowW_up {G : List (Int × Int)} (h : upW G) (m : Nat) : upW (rowW G m) := by
  induction m with
  | zero => exact h
  | succ m ih => exact mrg_up h (pkgs_up ih)
theorem pks_h (G : List (Int × Int)) (m : Nat) : pksP ((rowW G m).map (hW G m)) = (pkgs 0 (rowW G m)).map (hW G (m + 1)) := by
  refine List.ext_getElem? (fun k => ?_)
  have l1 := pksP_len ((rowW G m).map (hW G m))
  have l2 := pkgs_len (rowW G m) 0
  rw [List.length_map] at l1
  rcases Nat.lt_or_ge (2 * k + 1) (rowW G m).length with h | h
  · rw [pksP_get _ k (by rw [List.length_map]; exact h), List.getElem?_map, pkgs_get _ 0 k h]
    simp only [List.getElem_map, Option.map_some]
    congr 1
    unfold hW
    rw [symW, if_pos (by dsimp only; omega)]
    have e : (-1 - (-1 - ((0 + k : Nat) : Int))).toNat = k := by omega
    dsimp only
    rw [e, List.getD_eq_getElem?_getD, List.getD_eq_getElem?_getD, List.getElem?_eq_getElem (show 2 * k < (rowW G m).length by omega), List.getElem?_eq_getElem h]
    have e2 : decide ((0 : Int) ≤ -1 - ((0 + k : Nat) : Int)) = false := by simp; omega
    rw [e2]
    rfl
  · rw [List.getElem?_eq_none (by omega), List.getElem?_eq_none (by rw [List.length_map]; omega)]
theorem puts_end (P : List PT) : ∀ D : List PT, (∀ d ∈ D, ∀ x ∈ P, goesP d x = true) → P.Pairwise (fun a b => goesP a b = true) → putsP P D = D ++ P := by
  induction P with
  | nil => intro D _ _; simp [putsP]
  | cons x P ih =>
    intro D h1 h2
    obtain ⟨p1, p2⟩ := List.pairwise_cons.1 h2
    have e : ∀ D : List PT, (∀ d ∈ D, goesP d x = true) → putP x D = D ++ [x] := by
      intro D
      induction D with
      | nil => intro _; rfl
      | cons d D ihD => intro h; rw [putP, if_pos (h d (by simp)), ihD (fun d hd => h d (by simp [hd]))]; rfl
    show putsP P (putP x D) = _
    rw [e D (fun d hd => h1 d hd x (by simp)), ih _ (fun d hd z hz => ?_) p2]
    · simp
    · rcases List.mem_append.1 hd with h | h
      · exact h1 d h z (by simp [hz])
      · simp at h; subst h; exact p1 z hz
/-- A leaf is put: ahead of packages that weigh as much. -/
def putW (x : Int × Int) : List (Int × Int) → List (Int × Int)
  | [] => [x]
  | y :: r => if y.1 < x.1 ∨ (y.1 = x.1 ∧ 0 ≤ y.2) then y :: putW x r else x :: y :: r
theorem put_h (G : List (Int × Int)) (m : Nat) (x : Int × Int) (hx : 0 ≤ x.2) (r : List (Int × Int)) : putP (hW G m x) (r.map (hW G m)) = (putW x r).map (hW G m) := by
  induction r with
  | nil => rfl
  | cons y r ih =>
    have e : goesP (hW G m y) (hW G m x) = decide (y.1 < x.1 ∨ (y.1 = x.1 ∧ 0 ≤ y.2)) := by
      rw [Bool.eq_iff_iff]
      simp [goesP, hW, hx]
    rw [List.map_cons, putP, putW, e]
    by_cases h : y.1 < x.1 ∨ (y.1 = x.1 ∧ 0 ≤ y.2)
    · rw [if_pos (by simpa using h), if_pos h, List.map_cons, ih]
    · rw [if_neg (by simpa using h), if_neg h]; rfl
theorem putW_all (x : Int × Int) (l : List (Int × Int)) (h : ∀ y ∈ l, y.1 ≤ x.1 ∧ 0 ≤ y.2) : putW x l = l ++ [x] := by
  induction l with
  | nil => rfl
  | cons y r ih =>
    have := h y (by simp)
    rw [putW, if_pos (by omega), ih (fun y hy => h y (by simp [hy]))]
    rfl
theorem mrg_one (x : Int × Int) (P : List (Int × Int)) (hP : ∀ y ∈ P, y.2 < 0) : mrg [x] P = putW x P := by
  induction P with
  | nil => rfl
  | cons y P ih =>
    have := hP y (by simp)
    rw [mrg_cons, putW]
    by_cases h : x.1 ≤ y.1
    · rw [if_pos h, if_neg (by omega)]; rfl
    · rw [if_neg h, if_pos (by omega), ih (fun y hy => hP y (by simp [hy]))]
theorem mrg_snoc (x : Int × Int) (L : List (Int × Int)) : ∀ (P : List (Int × Int)), (∀ y ∈ L, y.1 ≤ x.1 ∧ 0 ≤ y.2) → (∀ y ∈ P, y.2 < 0) → mrg (L ++ [x]) P = putW x (mrg L P) := by
  induction L with
  | nil => intro P _ hP; exact mrg_one x P hP
  | cons a L ihL =>
    intro P
    induction P with
    | nil => intro hL _; rw [mrg_right, mrg_right, putW_all x _ hL]
    | cons y P ihP =>
      intro hL hP
      have ha := hL a (by simp)
      have hy := hP y (by simp)
      rw [List.cons_append, mrg_cons, mrg_cons]
      by_cases h : a.1 ≤ y.1
      · rw [if_pos h, if_pos h, putW, if_pos (by omega), ihL (y :: P) (fun z hz => hL z (by simp [hz])) hP]
      · rw [if_neg h, if_neg h, putW, if_pos (by omega), ← ihP hL (fun z hz => hP z (by simp [hz]))]
        rfl
theorem puts_mrg (G : List (Int × Int)) (m : Nat) (P : List (Int × Int)) (hP : ∀ y ∈ P, y.2 < 0) (L : List (Int × Int)) : upW L → (∀ y ∈ L, 0 ≤ y.2) → putsP (L.map (hW G m)) (P.map (hW G m)) = (mrg L P).map (hW G m) := by
  suffices ∀ n (L : List (Int × Int)), L.length = n → upW L → (∀ y ∈ L, 0 ≤ y.2) → putsP (L.map (hW G m)) (P.map (hW G m)) = (mrg L P).map (hW G m) from this _ L rfl
  intro n
  induction n with
  | zero => intro L h _ _; obtain rfl := List.length_eq_zero_iff.1 h; rfl
  | succ n ih =>
    intro L h hu hl
    obtain ⟨a, x, rfl⟩ : ∃ a x, L = a ++ [x] := ⟨L.dropLast, L.getLast (by intro e; subst e; simp at h), (List.dropLast_concat_getLast _).symm⟩
    have hq := (List.pairwise_append.1 hu)
    rw [List.map_append, List.map_singleton, putsP_snoc, ih a (by simpa using h) hq.1 (fun y hy => hl y (by simp [hy])), put_h G m x (hl x (by simp)),
      mrg_snoc x a P (fun y hy => ⟨hq.2.2 y hy x (by simp), hl y (by simp [hy])⟩) hP]
theorem row_h {G : List (Int × Int)} (hu : upW G) (hl : ∀ y ∈ G, 0 ≤ y.2) (m : Nat) : rowP (G.map leafP) m = (rowW G m).map (hW G m) := by
  have eF : ∀ m, G.map leafP = G.map (hW G m) := fun m => List.map_congr_left (fun x hx => (h_leaf G m x (hl x hx)).symm)
  induction m with
  | zero => exact eF 0
  | succ m ih =>
    have hP0 : putsP ((pkgs 0 (rowW G m)).map (hW G (m + 1))) [] = (pkgs 0 (rowW G m)).map (hW G (m + 1)) := by
      refine puts_end _ [] (fun d hd => by simp at hd) ?_
      have hp := pkgs_up (rowW_up hu m)
      have hn := pkgs_neg (rowW G m) 0
      refine List.pairwise_map.2 (List.Pairwise.imp_of_mem (fun {a b} ha hb hab => ?_) hp)
      have h1 := hn a ha
      have h2 := hn b hb
      have e1 : ¬ (0 : Int) ≤ b.2 := by omega
      have e2 : ¬ (0 : Int) ≤ a.2 := by omega
      simp only [goesP, hW, Bool.or_eq_true, Bool.and_eq_true, decide_eq_true_eq, e1, e2, decide_false, Bool.not_false, or_true, and_true]
      omega
    rw [rowP, ih, nextP, pks_h, eF (m + 1), hP0, puts_mrg G (m + 1) _ (pkgs_neg _ 0) G hu hl]
    rfl
theorem incL_comm (L : List Int) (a b : Int) : incL (incL L a) b = incL (incL L b) a := by
  unfold incL
  by_cases h : a.toNat = b.toNat
  · rw [h]
  · rw [List.getElem?_set_ne h, List.getElem?_set_ne (fun e => h e.symm), List.set_comm _ _ h]
theorem incs_perm {S T : List Int} (h : S.Perm T) : ∀ L : List Int, S.foldl incL L = T.foldl incL L := by
  induction h with
  | nil => intro L; rfl
  | cons x _ ih => intro L; exact ih _
  | swap x y l => intro L; show List.foldl incL (incL (incL L y) x) l = List.foldl incL (incL (incL L x) y) l; rw [incL_comm]
  | trans _ _ ih1 ih2 => intro L; rw [ih1, ih2]
theorem sums_flat (ts : List PT) : ∀ L : List Int, sumsP ts L = (ts.flatMap (·.2.1)).foldl incL L := by
  induction ts with
  | nil => intro L; rfl
  | cons t ts ih => intro L; show sumsP ts (t.2.1.foldl incL L) = _; rw [ih, List.flatMap_cons, List.foldl_append]
theorem bump_flat (l : List (Int × Int)) : ∀ L : List Int, l.foldl bumpL L = ((l.filter fun x => !decide (x.2 < 0)).map (·.2)).foldl incL L := by
  induction l with
  | nil => intro L; rfl
  | cons x l ih =>
    intro L
    rw [List.foldl_cons, ih, List.filter_cons]
    by_cases h : x.2 < 0
    · rw [bumpL, if_pos h]; simp [h]
    · rw [bumpL, if_neg h]; simp [h]; rfl
theorem flat_parts (f : Int × Int → List Int) (l : List (Int × Int)) : (l.flatMap f).Perm ((l.filter fun x => !decide (x.2 < 0)).flatMap f ++ (l.filter fun x => decide (x.2 < 0)).flatMap f) := by
  induction l with
  | nil => exact List.Perm.refl _
  | cons x l ih =>
    rw [List.filter_cons, List.filter_cons, List.flatMap_cons]
    by_cases h : x.2 < 0
    · simp only [h, decide_true, Bool.not_true, Bool.false_eq_true, if_false, if_true, List.flatMap_cons]
      refine (ih.append_left _).trans ?_
      rw [← List.append_assoc, ← List.append_assoc]
      exact List.Perm.append_right _ List.perm_append_comm
    · simp only [h, decide_false, Bool.not_false, if_true, Bool.false_eq_true, if_false, List.flatMap_cons]
      rw [List.append_assoc]
      exact ih.append_left _
theorem leaf_flat (G : List (Int × Int)) (m : Nat) (l : List (Int × Int)) : (l.filter fun x => !decide (x.2 < 0)).flatMap (symW G m) = (l.filter fun x => !decide (x.2 < 0)).map (·.2) := by
  induction l with
  | nil => rfl
  | cons x l ih =>
    rw [List.filter_cons]
    by_cases h : x.2 < 0
    · simp only [h, decide_true, Bool.not_true, Bool.false_eq_true, if_false]; exact ih
    · simp only [h, decide_false, Bool.not_false, if_true, List.flatMap_cons, List.map_cons, ih]
      rw [sym_leaf G m x (by omega)]
      rfl
theorem mrg_packs (a b : List (Int × Int)) (ha : ∀ y ∈ a, 0 ≤ y.2) (hb : ∀ y ∈ b, y.2 < 0) : (mrg a b).filter (fun x => decide (x.2 < 0)) = b := by
  suffices ∀ n (a b : List (Int × Int)), a.length + b.length ≤ n → (∀ y ∈ a, 0 ≤ y.2) → (∀ y ∈ b, y.2 < 0) → (mrg a b).filter (fun x => decide (x.2 < 0)) = b from this _ a b (Nat.le_refl _) ha hb
  have full : ∀ b : List (Int × Int), (∀ y ∈ b, y.2 < 0) → b.filter (fun x => decide (x.2 < 0)) = b := fun b hb => List.filter_eq_self.2 (fun x hx => by simpa using hb x hx)
  have none : ∀ a : List (Int × Int), (∀ y ∈ a, 0 ≤ y.2) → a.filter (fun x => decide (x.2 < 0)) = [] := fun a ha => List.filter_eq_nil_iff.2 (fun x hx => by have := ha x hx; simp; omega)
  intro n
  induction n with
  | zero =>
    intro a b h ha hb
    obtain rfl := List.length_eq_zero_iff.1 (show a.length = 0 by omega)
    exact full b hb
  | succ n ih =>
    intro a b h ha hb
    match a, b with
    | [], b => exact full b hb
    | x :: a, [] => rw [mrg_right]; exact none _ ha
    | x :: a, y :: b =>
      simp only [List.length_cons] at h
      have hx := ha x (by simp)
      have hy := hb y (by simp)
      rw [mrg_cons]
      split
      · rw [List.filter_cons, if_neg (by simp; omega), ih a (y :: b) (by simp only [List.length_cons]; omega) (fun z hz => ha z (by simp [hz])) hb]
      · rw [List.filter_cons, if_pos (by simpa using hy), ih (x :: a) b (by simp only [List.length_cons]; omega) ha (fun z hz => hb z (by simp [hz]))]
theorem take_filter (p : Int × Int → Bool) (l : List (Int × Int)) (n : Nat) : (l.take n).filter p = (l.filter p).take ((l.take n).filter p).length := by
  have e : l.filter p = (l.take n).filter p ++ (l.drop n).filter p := by rw [← List.filter_append, List.take_append_drop]
  rw [e, List.take_left']
  rfl
theorem pkgs_flat (G : List (Int × Int)) (m : Nat) : ∀ p, 2 * p ≤ (rowW G m).length → ((pkgs 0 (rowW G m)).take p).flatMap (symW G (m + 1)) = ((rowW G m).take (2 * p)).flatMap (symW G m) := by
  intro p
  induction p with
  | zero => intro _; rfl
  | succ p ih =>
    intro h
    have hp : 2 * p + 1 < (rowW G m).length := by omega
    rw [pkgs_take _ p hp, List.flatMap_append, ih (by omega), show 2 * (p + 1) = 2 * p + 1 + 1 by omega, List.take_succ_eq_append_getElem hp, List.take_succ_eq_append_getElem (show 2 * p < (rowW G m).length by omega)]
    rw [List.flatMap_append, List.flatMap_append, List.append_assoc]
    congr 1
    simp only [List.flatMap_cons, List.flatMap_nil, List.append_nil]
    rw [symW, if_pos (by dsimp only; omega)]
    have e : (-1 - (-1 - (p : Int))).toNat = p := by omega
    dsimp only
    rw [e, List.getD_eq_getElem?_getD, List.getD_eq_getElem?_getD, List.getElem?_eq_getElem (show 2 * p < (rowW G m).length by omega), List.getElem?_eq_getElem hp]
    rfl
theorem taken_flat {G : List (Int × Int)} (hl : ∀ y ∈ G, 0 ≤ y.2) (i : Nat) : ∀ (n : Nat) (L : List Int), (((rowW G i).take n).flatMap (symW G i)).foldl incL L = takenW G (i + 1) n L := by
  induction i with
  | zero =>
    intro n L
    rw [takenW]
    have hpk : packsW ((rowW G 0).take n) = 0 := packsW_pos _ (fun x hx => hl x (List.mem_of_mem_take hx))
    by_cases h0 : n = 0
    · rw [if_pos h0, h0]; rfl
    · rw [if_neg h0, incs_perm (flat_parts _ _), List.foldl_append, leaf_flat, ← bump_flat]
      have hnone : (((rowW G 0).take n).filter fun x => decide (x.2 < 0)) = [] := List.eq_nil_of_length_eq_zero hpk
      rw [hnone]
      rfl
  | succ i ih =>
    intro n L
    rw [takenW]
    by_cases h0 : n = 0
    · rw [if_pos h0, h0]; rfl
    · rw [if_neg h0, incs_perm (flat_parts _ _), List.foldl_append, leaf_flat, ← bump_flat, take_filter]
      have e : (rowW G (i + 1)).filter (fun x => decide (x.2 < 0)) = pkgs 0 (rowW G i) := mrg_packs _ _ hl (pkgs_neg _ 0)
      rw [e]
      show List.foldl incL _ (List.flatMap _ (List.take (packsW (List.take n (rowW G (i + 1)))) (pkgs 0 (rowW G i)))) = _
      rw [pkgs_flat G i _ (rowW_packs G hl i n), ih]
theorem best_same (l : List Int) (m : Nat) (h : ¬ usedL l < 2) : sumsP ((rowP (firstP l l.length) m).take (2 * usedL l - 2)) (List.replicate l.length 0) = bestW l (m + 1) := by
  have hu : upW (lvs l) := sortW_up _
  have hl : ∀ y ∈ lvs l, 0 ≤ y.2 := fun y hy => (lvs_what l y hy).1
  rw [bestW_many l _ h, firstP_all, row_h hu hl, sums_flat, ← List.map_take, List.flatMap_map, ← taken_flat hl]
  rfl
end LenW
end Go.Proofs.Ytpnccehaomikbaa
