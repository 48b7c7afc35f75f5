/- Plain: the runs of lengths, their bits, and what stands at a bit. No program is named here. -/
import Derived.Test.YtedoeplhjmkllaaCanQ
import Derived.Test.YtedoeplhjmkllaaBitJ
namespace Go.Proofs.Ytedoeplhjmkllaa
set_option linter.unusedVariables false
set_option linter.unusedSimpArgs false
set_option linter.unnecessarySimpa false
open Go.RowKit
namespace TabW
open LenW (okL okL_at chkL chk0)
open BitW (gam blen ungB ung_at gam_len blen_facts cut cut_len cut_lt cut_app cut_one nz nz_le)

/-- A number behind runs. -/
def addR : List (Int × Int) → Int → List (Int × Int)
  | [], x => [(x, 1)]
  | [(y, k)], x => if y = x then [(y, k + 1)] else [(y, k), (x, 1)]
  | p :: q :: r, x => p :: addR (q :: r) x
/-- The runs of numbers. -/
def rle : List Int → List (Int × Int)
  | [] => []
  | x :: l => match rle l with
    | [] => [(x, 1)]
    | (y, k) :: r => if x = y then (y, k + 1) :: r else (x, 1) :: (y, k) :: r
def conR (x : Int) : List (Int × Int) → List (Int × Int)
  | [] => [(x, 1)]
  | (y, k) :: r => if x = y then (y, k + 1) :: r else (x, 1) :: (y, k) :: r
theorem con_cons (x y k : Int) (r : List (Int × Int)) : conR x ((y, k) :: r) = if x = y then (y, k + 1) :: r else (x, 1) :: (y, k) :: r := rfl
theorem rle_cons (x : Int) (l : List Int) : rle (x :: l) = conR x (rle l) := by
  rw [rle]
  cases rle l with
  | nil => rfl
  | cons p r => rfl
theorem con_add (a x : Int) (R : List (Int × Int)) : conR a (addR R x) = addR (conR a R) x := by
  match R with
  | [] =>
    by_cases h : a = x
    · simp [addR, conR, h]
    · simp [addR, conR, h]
  | [(y, k)] =>
    by_cases h : y = x
    · subst h
      by_cases h2 : a = y
      · subst h2; simp [addR, conR]
      · simp [addR, conR, h2]
    · by_cases h2 : a = y
      · subst h2; simp [addR, conR, h]
      · simp [addR, conR, h, h2]
  | (y, k) :: q :: r =>
    by_cases h2 : a = y
    · subst h2; simp [addR, conR]
    · simp [addR, conR, h2]
theorem rle_snoc (l : List Int) (x : Int) : rle (l ++ [x]) = addR (rle l) x := by
  induction l with
  | nil => rfl
  | cons a l ih => rw [List.cons_append, rle_cons, ih, con_add, ← rle_cons]
theorem addR_last {R : List (Int × Int)} {j : Nat} {x k : Int} (hj : R.length = j + 1) (h : R[j]'(by omega) = (x, k)) : addR R x = R.set j (x, k + 1) := by
  induction R generalizing j with
  | nil => simp at hj
  | cons p R ih =>
    cases R with
    | nil =>
      obtain rfl : j = 0 := by simpa using hj
      simp at h
      subst h
      simp [addR]
    | cons q r =>
      obtain ⟨i, rfl⟩ : ∃ i, j = i + 1 := ⟨j - 1, by simp only [List.length_cons] at hj; omega⟩
      rw [addR, ih (j := i) (by simpa using hj) (by simpa using h)]
      rfl
theorem addR_new {R : List (Int × Int)} {x : Int} (h : ∀ (j : Nat) (hj : R.length = j + 1), (R[j]'(by omega)).1 ≠ x) : addR R x = R ++ [(x, 1)] := by
  induction R with
  | nil => rfl
  | cons p R ih =>
    cases R with
    | nil =>
      obtain ⟨y, k⟩ := p
      have : y ≠ x := h 0 rfl
      simp [addR, this]
    | cons q r =>
      rw [addR, ih (fun j hj => by have := h (j + 1) (by simpa using hj); simpa using this)]
      rfl
/-- What runs are the runs of. -/
def expR (R : List (Int × Int)) : List Int := R.flatMap fun r => List.replicate r.2.toNat r.1
theorem expR_con (x : Int) (R : List (Int × Int)) (h : ∀ r ∈ R, 0 < r.2) : expR (conR x R) = x :: expR R := by
  cases R with
  | nil => rfl
  | cons p r =>
    obtain ⟨y, k⟩ := p
    have hk : 0 < k := h (y, k) (by simp)
    by_cases hx : x = y
    · subst hx
      simp only [conR, if_pos, expR, List.flatMap_cons]
      rw [show (k + 1).toNat = k.toNat + 1 by omega, List.replicate_succ]
      rfl
    · simp only [conR, if_neg hx, expR, List.flatMap_cons]
      rfl
theorem con_pos (x : Int) (R : List (Int × Int)) (h : ∀ r ∈ R, 0 < r.2) : ∀ r ∈ conR x R, 0 < r.2 := by
  cases R with
  | nil => intro r hr; simp [conR] at hr; subst hr; show (0 : Int) < 1; decide
  | cons p R =>
    obtain ⟨y, k⟩ := p
    have hk : 0 < k := h (y, k) (by simp)
    have hR : ∀ r ∈ R, 0 < r.2 := fun r hr => h r (by simp [hr])
    intro r hr
    rw [con_cons] at hr
    by_cases h2 : x = y
    · rw [if_pos h2] at hr
      rcases List.mem_cons.1 hr with rfl | hr
      · show 0 < k + 1; omega
      · exact hR r hr
    · rw [if_neg h2] at hr
      rcases List.mem_cons.1 hr with rfl | hr
      · show (0 : Int) < 1; decide
      · exact h r hr
theorem rle_pos (l : List Int) : ∀ r ∈ rle l, 0 < r.2 := by
  induction l with
  | nil => intro r hr; simp [rle] at hr
  | cons x l ih => rw [rle_cons]; exact con_pos x _ ih
theorem exp_rle (l : List Int) : expR (rle l) = l := by
  induction l with
  | nil => rfl
  | cons x l ih => rw [rle_cons, expR_con x _ (rle_pos l), ih]
theorem rle_mem (l : List Int) : ∀ r ∈ rle l, r.1 ∈ l ∧ r.2 ≤ l.length := by
  intro r hr
  have hp := rle_pos l r hr
  have h1 : ∀ y ∈ List.replicate r.2.toNat r.1, y ∈ expR (rle l) := fun y hy => List.mem_flatMap.2 ⟨r, hr, hy⟩
  rw [exp_rle] at h1
  refine ⟨h1 _ (by simp; omega), ?_⟩
  have h2 : (List.replicate r.2.toNat r.1).Sublist (expR (rle l)) := by
    obtain ⟨a, b, hab⟩ := List.append_of_mem hr
    rw [hab]
    unfold expR
    rw [List.flatMap_append, List.flatMap_cons]
    exact (List.sublist_append_left _ _).trans (List.sublist_append_right _ _)
  rw [exp_rle] at h2
  have := h2.length_le
  rw [List.length_replicate] at this
  omega
theorem con_len (x : Int) (R : List (Int × Int)) : (conR x R).length ≤ R.length + 1 := by
  cases R with
  | nil => exact Nat.le_refl _
  | cons p R =>
    obtain ⟨y, k⟩ := p
    rw [con_cons]
    by_cases h : x = y
    · rw [if_pos h]; simp
    · rw [if_neg h]; simp
theorem rle_len (l : List Int) : (rle l).length ≤ l.length := by
  induction l with
  | nil => exact Nat.le_refl _
  | cons x l ih =>
    rw [rle_cons, List.length_cons]
    have := con_len x (rle l)
    omega
/-- Neighbours among runs differ. -/
def apartR : List (Int × Int) → Prop
  | p :: q :: r => p.1 ≠ q.1 ∧ apartR (q :: r)
  | _ => True
theorem con_apart (x : Int) (R : List (Int × Int)) (h : apartR R) : apartR (conR x R) := by
  match R with
  | [] => trivial
  | [(y, k)] =>
    by_cases hx : x = y
    · simp [conR, hx, apartR]
    · simp [conR, hx, apartR]
  | (y, k) :: q :: r =>
    by_cases hx : x = y
    · simp [conR, hx, apartR] at h ⊢; exact h
    · simp [conR, hx, apartR] at h ⊢; exact h
theorem rle_apart (l : List Int) : apartR (rle l) := by
  induction l with
  | nil => trivial
  | cons x l ih => rw [rle_cons]; exact con_apart x _ ih
theorem apart_app {A : List (Int × Int)} {p q : Int × Int} {B : List (Int × Int)} (h : apartR (A ++ p :: q :: B)) : p.1 ≠ q.1 := by
  induction A with
  | nil => exact h.1
  | cons a A ih =>
    cases A with
    | nil => exact ih h.2
    | cons b A => exact ih h.2
theorem rle_app (l : List Int) (x : Int) (m : Nat) (h : ∀ (j : Nat) (hj : (rle l).length = j + 1), ((rle l)[j]'(by omega)).1 ≠ x) : rle (l ++ List.replicate (m + 1) x) = rle l ++ [(x, ((m + 1 : Nat) : Int))] := by
  induction m with
  | zero =>
    rw [show List.replicate (0 + 1) x = [x] from rfl, rle_snoc, addR_new h]
    rfl
  | succ m ih =>
    rw [List.replicate_succ', ← List.append_assoc, rle_snoc, ih]
    rw [addR_last (j := (rle l).length) (x := x) (k := ((m + 1 : Nat) : Int)) (by simp) (by simp)]
    rw [List.set_append_right _ _ (Nat.le_refl _)]
    simp
theorem rle_span (x : Int) (m : Nat) (rest : List Int) (h : ∀ y, rest.head? = some y → y ≠ x) : rle (List.replicate (m + 1) x ++ rest) = (x, ((m + 1 : Nat) : Int)) :: rle rest := by
  induction m with
  | zero =>
    rw [show List.replicate (0 + 1) x ++ rest = x :: rest from rfl, rle_cons]
    cases rest with
    | nil => rfl
    | cons y r =>
      have hy : y ≠ x := h y rfl
      have hh : ∃ k R, rle (y :: r) = (y, k) :: R := by
        rw [rle_cons]
        cases rle r with
        | nil => exact ⟨_, _, rfl⟩
        | cons p R =>
          obtain ⟨z, k⟩ := p
          by_cases hz : y = z
          · subst hz; exact ⟨k + 1, R, by simp [conR]⟩
          · exact ⟨1, (z, k) :: R, by simp [conR, hz]⟩
      obtain ⟨k, R, hR⟩ := hh
      rw [hR, conR, if_neg (fun e => hy e.symm)]
      rfl
  | succ m ih =>
    rw [List.replicate_succ, List.cons_append, rle_cons, ih, conR, if_pos rfl]
    simp
/-- The bits of runs. -/
def runB (r : Int × Int) : List Nat := dg 4 r.1.toNat ++ gam r.2.toNat
def runsB (R : List (Int × Int)) : List Nat := R.flatMap runB
def tabB (l : List Int) : List Nat := runsB (rle l)
theorem runsB_app (a b : List (Int × Int)) : runsB (a ++ b) = runsB a ++ runsB b := by simp [runsB]
theorem runsB_snoc (R : List (Int × Int)) (k : Nat) (h : k < R.length) : runsB (R.take (k + 1)) = runsB (R.take k) ++ runB R[k] := by
  rw [List.take_succ_eq_append_getElem h, runsB_app]
  simp [runsB]
theorem gam_lt2 (n : Nat) : ∀ d ∈ gam n, d < 2 := by
  intro d hd
  unfold gam at hd
  rw [List.mem_append] at hd
  exact hd.elim (dg_lt _ _ d) (dg_lt _ _ d)
theorem runsB_lt (R : List (Int × Int)) : ∀ d ∈ runsB R, d < 2 := by
  intro d hd
  obtain ⟨r, _, hd⟩ := List.mem_flatMap.1 hd
  unfold runB at hd
  rw [List.mem_append] at hd
  exact hd.elim (dg_lt _ _ d) (gam_lt2 _ d)
/-- A run that a code's lengths may have. -/
def goodR (r : Int × Int) : Prop := 0 ≤ r.1 ∧ r.1 ≤ 15 ∧ 1 ≤ r.2 ∧ r.2 ≤ 257
theorem rle_good {l : List Int} (hk : chkL l = 0) : ∀ r ∈ rle l, goodR r := by
  intro r hr
  obtain ⟨h257, hok, _⟩ := chk0 hk
  obtain ⟨h1, h2⟩ := rle_mem l r hr
  have h3 := rle_pos l r hr
  obtain ⟨i, hi, he⟩ := List.getElem_of_mem h1
  have := okL_at l i hi hok
  rw [he] at this
  exact ⟨this.1, this.2, by omega, by omega⟩
theorem runB_len {r : Int × Int} (h : goodR r) : (runB r).length ≤ 67 := by
  obtain ⟨h1, h2, h3, h4⟩ := h
  have := gam_len (x := r.2.toNat) (by omega) (by omega)
  unfold runB
  rw [List.length_append, dg_len]
  omega
theorem runsB_len (R : List (Int × Int)) (h : ∀ r ∈ R, goodR r) : (runsB R).length ≤ 67 * R.length := by
  induction R with
  | nil => simp [runsB]
  | cons r R ih =>
    have h1 := runB_len (h r (by simp))
    have h2 := ih (fun r hr => h r (by simp [hr]))
    have e : runsB (r :: R) = runB r ++ runsB R := by simp [runsB]
    rw [e, List.length_append, List.length_cons]
    omega
end TabW
end Go.Proofs.Ytedoeplhjmkllaa
