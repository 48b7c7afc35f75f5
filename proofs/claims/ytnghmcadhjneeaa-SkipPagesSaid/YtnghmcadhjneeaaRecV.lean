/- Plain: what stands at a place as a record. -/
import Derived.Test.YtnghmcadhjneeaaVarQ
import Derived.Test.YtnghmcadhjneeaaRecP
namespace Go.Proofs.Ytnghmcadhjneeaa
set_option linter.unusedVariables false
set_option linter.unusedSimpArgs false
set_option linter.unnecessarySimpa false

abbrev zeroR : Rc := (0, 0, [])
/-- A record from a place on, the place behind it, the error. -/
def getR (s : List UInt8) (a : Int) : Rc × Int × Int :=
  if (getV s a).2.2 = 0 then
    if (getV s (getV s a).2.1).2.2 = 0 then
      if (getV s (getV s (getV s a).2.1).2.1).2.2 = 0 then
        if (getV s a).1 < 1 ∨ 1000000000 < (getV s a).1 ∨ 1000000000 < (getV s (getV s a).2.1).1 ∨ 2000 < (getV s (getV s (getV s a).2.1).2.1).1 then (zeroR, 0, 150)
        else if (s.length : Int) < (getV s (getV s (getV s a).2.1).2.1).2.1 + (getV s (getV s (getV s a).2.1).2.1).1 then (zeroR, 0, 4)
        else (((getV s a).1, (getV s (getV s a).2.1).1, (s.drop (getV s (getV s (getV s a).2.1).2.1).2.1.toNat).take (getV s (getV s (getV s a).2.1).2.1).1.toNat), (getV s (getV s (getV s a).2.1).2.1).2.1 + (getV s (getV s (getV s a).2.1).2.1).1, 0)
      else (zeroR, 0, (getV s (getV s (getV s a).2.1).2.1).2.2)
    else (zeroR, 0, (getV s (getV s a).2.1).2.2)
  else (zeroR, 0, (getV s a).2.2)
theorem getR_1 {s : List UInt8} {a : Int} {x : Int × Int × Int} (hx : getV s a = x) (h : x.2.2 ≠ 0) : getR s a = (zeroR, 0, x.2.2) := by
  unfold getR; rw [hx, if_neg h]
theorem getR_2 {s : List UInt8} {a : Int} {x y : Int × Int × Int} (hx : getV s a = x) (h : x.2.2 = 0) (hy : getV s x.2.1 = y) (h2 : y.2.2 ≠ 0) : getR s a = (zeroR, 0, y.2.2) := by
  unfold getR; rw [hx, if_pos h, hy, if_neg h2]
theorem getR_3 {s : List UInt8} {a : Int} {x y u : Int × Int × Int} (hx : getV s a = x) (h : x.2.2 = 0) (hy : getV s x.2.1 = y) (h2 : y.2.2 = 0) (hu : getV s y.2.1 = u) (h3 : u.2.2 ≠ 0) : getR s a = (zeroR, 0, u.2.2) := by
  unfold getR; rw [hx, if_pos h, hy, if_pos h2, hu, if_neg h3]
theorem getR_4 {s : List UInt8} {a : Int} {x y u : Int × Int × Int} (hx : getV s a = x) (h : x.2.2 = 0) (hy : getV s x.2.1 = y) (h2 : y.2.2 = 0) (hu : getV s y.2.1 = u) (h3 : u.2.2 = 0)
    (h4 : x.1 < 1 ∨ 1000000000 < x.1 ∨ 1000000000 < y.1 ∨ 2000 < u.1) : getR s a = (zeroR, 0, 150) := by
  unfold getR; rw [hx, if_pos h, hy, if_pos h2, hu, if_pos h3, if_pos h4]
theorem getR_5 {s : List UInt8} {a : Int} {x y u : Int × Int × Int} (hx : getV s a = x) (h : x.2.2 = 0) (hy : getV s x.2.1 = y) (h2 : y.2.2 = 0) (hu : getV s y.2.1 = u) (h3 : u.2.2 = 0)
    (h4 : ¬ (x.1 < 1 ∨ 1000000000 < x.1 ∨ 1000000000 < y.1 ∨ 2000 < u.1)) (h5 : (s.length : Int) < u.2.1 + u.1) : getR s a = (zeroR, 0, 4) := by
  unfold getR; rw [hx, if_pos h, hy, if_pos h2, hu, if_pos h3, if_neg h4, if_pos h5]
theorem getR_6 {s : List UInt8} {a : Int} {x y u : Int × Int × Int} (hx : getV s a = x) (h : x.2.2 = 0) (hy : getV s x.2.1 = y) (h2 : y.2.2 = 0) (hu : getV s y.2.1 = u) (h3 : u.2.2 = 0)
    (h4 : ¬ (x.1 < 1 ∨ 1000000000 < x.1 ∨ 1000000000 < y.1 ∨ 2000 < u.1)) (h5 : ¬ (s.length : Int) < u.2.1 + u.1) : getR s a = ((x.1, y.1, (s.drop u.2.1.toNat).take u.1.toNat), u.2.1 + u.1, 0) := by
  unfold getR; rw [hx, if_pos h, hy, if_pos h2, hu, if_pos h3, if_neg h4, if_neg h5]
theorem getR_ok {s : List UInt8} {a : Int} (h : (getR s a).2.2 = 0) : 0 ≤ a ∧ a < (getR s a).2.1 ∧ (getR s a).2.1 ≤ s.length ∧ okR (getR s a).1 = true := by
  obtain ⟨x, hx⟩ : ∃ x, getV s a = x := ⟨_, rfl⟩
  by_cases h1 : x.2.2 = 0
  · obtain ⟨y, hy⟩ : ∃ y, getV s x.2.1 = y := ⟨_, rfl⟩
    have k1 := getV_ok (s := s) (a := a) (by rw [hx]; exact h1)
    rw [hx] at k1
    by_cases h2 : y.2.2 = 0
    · obtain ⟨u, hu⟩ : ∃ u, getV s y.2.1 = u := ⟨_, rfl⟩
      have k2 := getV_ok (s := s) (a := x.2.1) (by rw [hy]; exact h2)
      rw [hy] at k2
      by_cases h3 : u.2.2 = 0
      · have k3 := getV_ok (s := s) (a := y.2.1) (by rw [hu]; exact h3)
        rw [hu] at k3
        by_cases h4 : x.1 < 1 ∨ 1000000000 < x.1 ∨ 1000000000 < y.1 ∨ 2000 < u.1
        · rw [getR_4 hx h1 hy h2 hu h3 h4] at h; simp at h
        · by_cases h5 : (s.length : Int) < u.2.1 + u.1
          · rw [getR_5 hx h1 hy h2 hu h3 h4 h5] at h; simp at h
          · rw [getR_6 hx h1 hy h2 hu h3 h4 h5, okR_iff]
            dsimp only
            refine ⟨k1.1, by omega, by omega, by omega, by omega, by omega, by omega, ?_⟩
            rw [List.length_take]
            omega
      · rw [getR_3 hx h1 hy h2 hu h3] at h; exact absurd h h3
    · rw [getR_2 hx h1 hy h2] at h; exact absurd h h2
  · rw [getR_1 hx h1] at h; exact absurd h h1
end Go.Proofs.Ytnghmcadhjneeaa
