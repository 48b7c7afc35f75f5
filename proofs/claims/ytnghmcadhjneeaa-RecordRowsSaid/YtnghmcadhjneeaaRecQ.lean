/- Plain: records come back of their bytes, bytes of their records; two rows are one. -/
import Derived.Test.YtnghmcadhjneeaaRecJ
namespace Go.Proofs.Ytnghmcadhjneeaa
set_option linter.unusedVariables false
set_option linter.unusedSimpArgs false
set_option linter.unnecessarySimpa false
open VarW

/-- A record is taken as it was put. -/
theorem getR_put (p r : List UInt8) (x : Rc) (h : okR x = true) : getR (p ++ (putR x ++ r)) (p.length : Nat) = (x, ((p.length + (putR x).length : Nat) : Int), 0) := by
  obtain ⟨h1, h2, h3, h4, h5⟩ := (okR_iff x).1 h
  obtain ⟨a, b, d⟩ := x
  dsimp only at h1 h2 h3 h4 h5
  obtain ⟨a, rfl⟩ := Int.eq_ofNat_of_zero_le (show 0 ≤ a by omega)
  obtain ⟨b, rfl⟩ := Int.eq_ofNat_of_zero_le h3
  have e0 : putR ((a : Int), (b : Int), d) = vbytes a ++ (vbytes b ++ (vbytes d.length ++ d)) := rfl
  have hl : (putR ((a : Int), (b : Int), d)).length = vlen a + (vlen b + (vlen d.length + d.length)) := by rw [e0]; simp [vbytes_len]
  have s0 : p ++ (putR ((a : Int), (b : Int), d) ++ r) = p ++ (vbytes a ++ (vbytes b ++ (vbytes d.length ++ (d ++ r)))) := by rw [e0]; simp
  have g1 : getV (p ++ (putR ((a : Int), (b : Int), d) ++ r)) (p.length : Nat) = ((a : Int), ((p.length + vlen a : Nat) : Int), 0) := by rw [s0]; exact getV_put _ _ a (by omega)
  have s1 : p ++ (putR ((a : Int), (b : Int), d) ++ r) = (p ++ vbytes a) ++ (vbytes b ++ (vbytes d.length ++ (d ++ r))) := by rw [s0]; simp
  have l1 : (p ++ vbytes a).length = p.length + vlen a := by simp [vbytes_len]
  have g2 : getV (p ++ (putR ((a : Int), (b : Int), d) ++ r)) ((p.length + vlen a : Nat) : Int) = ((b : Int), ((p.length + vlen a + vlen b : Nat) : Int), 0) := by
    rw [s1, ← l1, getV_put _ _ b (by omega)]
  have s2 : p ++ (putR ((a : Int), (b : Int), d) ++ r) = (p ++ vbytes a ++ vbytes b) ++ (vbytes d.length ++ (d ++ r)) := by rw [s0]; simp
  have l2 : (p ++ vbytes a ++ vbytes b).length = p.length + vlen a + vlen b := by simp [vbytes_len]; omega
  have g3 : getV (p ++ (putR ((a : Int), (b : Int), d) ++ r)) ((p.length + vlen a + vlen b : Nat) : Int) = ((d.length : Int), ((p.length + vlen a + vlen b + vlen d.length : Nat) : Int), 0) := by
    rw [s2, ← l2, getV_put _ _ d.length (by omega)]
  have s3 : p ++ (putR ((a : Int), (b : Int), d) ++ r) = (p ++ vbytes a ++ vbytes b ++ vbytes d.length) ++ (d ++ r) := by rw [s0]; simp
  have l3 : (p ++ vbytes a ++ vbytes b ++ vbytes d.length).length = p.length + vlen a + vlen b + vlen d.length := by simp [vbytes_len]; omega
  rw [getR_6 g1 rfl g2 rfl g3 rfl (by dsimp only; omega) (by rw [List.length_append, List.length_append, hl]; dsimp only; omega)]
  dsimp only
  rw [Int.toNat_natCast, Int.toNat_natCast, s3, ← l3, List.drop_left, List.take_left, l3, hl]
  refine Prod.ext rfl (Prod.ext ?_ rfl)
  dsimp only
  omega
theorem take_cut (s : List UInt8) (a b c : Nat) (h : a ≤ b) (h2 : b ≤ c) : (s.drop a).take (b - a) ++ (s.drop b).take (c - b) = (s.drop a).take (c - a) := by
  rw [show c - a = (b - a) + (c - b) from by omega, List.take_add, List.drop_drop, show a + (b - a) = b from by omega]
/-- What was taken as a record, put, is those bytes. -/
theorem getR_inv {s : List UInt8} {a : Nat} (h : (getR s a).2.2 = 0) : putR (getR s a).1 = (s.drop a).take ((getR s a).2.1.toNat - a) := by
  obtain ⟨x, hx⟩ : ∃ x, getV s a = x := ⟨_, rfl⟩
  by_cases h1 : x.2.2 = 0
  · obtain ⟨y, hy⟩ : ∃ y, getV s x.2.1 = y := ⟨_, rfl⟩
    have k1 := getV_ok (s := s) (a := a) (by rw [hx]; exact h1)
    have i1 := getV_inv (s := s) (a := a) (by rw [hx]; exact h1)
    rw [hx] at k1 i1
    by_cases h2 : y.2.2 = 0
    · obtain ⟨u, hu⟩ : ∃ u, getV s y.2.1 = u := ⟨_, rfl⟩
      have k2 := getV_ok (s := s) (a := x.2.1) (by rw [hy]; exact h2)
      have i2 := getV_inv (s := s) (a := x.2.1) (by rw [hy]; exact h2)
      rw [hy] at k2 i2
      by_cases h3 : u.2.2 = 0
      · have k3 := getV_ok (s := s) (a := y.2.1) (by rw [hu]; exact h3)
        have i3 := getV_inv (s := s) (a := y.2.1) (by rw [hu]; exact h3)
        rw [hu] at k3 i3
        by_cases h4 : x.1 < 1 ∨ 1000000000 < x.1 ∨ 1000000000 < y.1 ∨ 2000 < u.1
        · rw [getR_4 hx h1 hy h2 hu h3 h4] at h; simp at h
        · by_cases h5 : (s.length : Int) < u.2.1 + u.1
          · rw [getR_5 hx h1 hy h2 hu h3 h4 h5] at h; simp at h
          · rw [getR_6 hx h1 hy h2 hu h3 h4 h5]
            clear hx hy hu h
            obtain ⟨x0, x1, x2⟩ := x; obtain ⟨y0, y1, y2⟩ := y; obtain ⟨u0, u1, u2⟩ := u
            dsimp only at k1 k2 k3 i1 i2 i3 h4 h5 ⊢
            obtain ⟨x1, rfl⟩ := Int.eq_ofNat_of_zero_le (show 0 ≤ x1 by omega)
            obtain ⟨y1, rfl⟩ := Int.eq_ofNat_of_zero_le (show 0 ≤ y1 by omega)
            obtain ⟨u1, rfl⟩ := Int.eq_ofNat_of_zero_le (show 0 ≤ u1 by omega)
            obtain ⟨u0, rfl⟩ := Int.eq_ofNat_of_zero_le (show 0 ≤ u0 by omega)
            simp only [Int.toNat_natCast] at i1 i2 i3 ⊢
            rw [show ((x1 : Int) - (a : Int)).toNat = x1 - a from by omega] at i1
            rw [show ((y1 : Int) - (x1 : Int)).toNat = y1 - x1 from by omega] at i2
            rw [show ((u1 : Int) - (y1 : Int)).toNat = u1 - y1 from by omega] at i3
            have hlen : ((s.drop u1).take u0).length = u0 := by rw [List.length_take, List.length_drop]; omega
            show vbytes x0.toNat ++ (vbytes y0.toNat ++ (vbytes ((s.drop u1).take u0).length ++ (s.drop u1).take u0)) = _
            rw [hlen, i1, i2, i3, show ((u1 : Int) + (u0 : Int)).toNat = u1 + u0 from by omega]
            have e3 : (s.drop y1).take (u1 - y1) ++ (s.drop u1).take u0 = (s.drop y1).take (u1 + u0 - y1) := by
              have := take_cut s y1 u1 (u1 + u0) (by omega) (by omega)
              rwa [show u1 + u0 - u1 = u0 from by omega] at this
            rw [e3, take_cut s x1 y1 (u1 + u0) (by omega) (by omega), take_cut s a x1 (u1 + u0) (by omega) (by omega)]
      · rw [getR_3 hx h1 hy h2 hu h3] at h; exact absurd h h3
    · rw [getR_2 hx h1 hy h2] at h; exact absurd h h2
  · rw [getR_1 hx h1] at h; exact absurd h h1

theorem flatR_cons (x : Rc) (l : List Rc) : flatR (x :: l) = putR x ++ flatR l := rfl
theorem splitF_put (l : List Rc) (hok : ∀ r ∈ l, okR r = true) : ∀ (p : List UInt8) (f : Nat), (p ++ flatR l).length < p.length + f → splitF (p ++ flatR l) f (p.length : Nat) = (l, 0) := by
  induction l with
  | nil => intro p f _; rw [splitF_end (by simp [flatR])]
  | cons x l ih =>
    intro p f hf
    have hx := hok x (by simp)
    have hl := putR_len hx
    obtain ⟨f, rfl⟩ : ∃ g, f = g + 1 := ⟨f - 1, by simp [flatR] at hf; omega⟩
    have hg := getR_put p (flatR l) x hx
    rw [flatR_cons] at hf ⊢
    have hlt : (p.length : Int) < ((p ++ (putR x ++ flatR l)).length : Int) := by simp only [List.length_append]; omega
    rw [splitF_yes (by exact_mod_cast hlt) (by rw [hg]), hg]
    dsimp only
    have e : p ++ (putR x ++ flatR l) = (p ++ putR x) ++ flatR l := by simp
    have := ih (fun r hr => hok r (by simp [hr])) (p ++ putR x) f (by simp only [List.length_append] at hf ⊢; omega)
    rw [List.length_append] at this
    rw [e, this]
theorem joinV_cases (l : List Rc) : (joinV l = (flatR l, 0) ∧ rowN l = 0 ∧ (flatR l).length ≤ 20000) ∨ ((joinV l).2 ≠ 0 ∧ (joinV l).1 = []) := by
  by_cases h : rowN l = 0
  · by_cases h2 : 20000 < (flatR l).length
    · rw [joinV_big h h2]; exact .inr ⟨by simp, rfl⟩
    · rw [joinV_yes h h2]; exact .inl ⟨rfl, h, by omega⟩
  · rw [joinV_bad h]; exact .inr ⟨h, rfl⟩
/-- Records come back of their bytes. -/
theorem split_join {l : List Rc} (h : (joinV l).2 = 0) : splitV (joinV l).1 = (l, 0) := by
  rcases joinV_cases l with ⟨h1, h2, h3⟩ | ⟨h1, _⟩
  · rw [h1]
    dsimp only
    unfold splitV
    rw [if_neg (by omega)]
    have := splitF_put l (rowFrom_ok h2) [] ((flatR l).length + 1) (by simp)
    simp only [List.nil_append, List.length_nil] at this
    rw [show ((0 : Nat) : Int) = 0 from rfl] at this
    rw [this]
    unfold splitR
    rw [if_pos rfl, if_pos h2]
  · exact absurd h h1
theorem splitF_inv (s : List UInt8) (f : Nat) : ∀ (a : Nat), a ≤ s.length → s.length < a + f → (splitF s f a).2 = 0 → flatR (splitF s f a).1 = s.drop a := by
  induction f with
  | zero => intro a h1 h2; omega
  | succ f ih =>
    intro a h1 h2 h
    by_cases hlt : (a : Int) < (s.length : Int)
    · by_cases h0 : (getR s a).2.2 = 0
      · rw [splitF_yes hlt h0] at h ⊢
        have hok := getR_ok h0
        have hinv := getR_inv h0
        obtain ⟨to, hto⟩ := Int.eq_ofNat_of_zero_le (show 0 ≤ (getR s a).2.1 by omega)
        rw [hto] at hok hinv h ⊢
        dsimp only at h ⊢
        rw [Int.toNat_natCast] at hinv
        rw [flatR_cons, hinv, ih to (by omega) (by omega) h]
        have := List.take_append_drop (to - a) (s.drop a)
        rwa [List.drop_drop, show a + (to - a) = to from by omega] at this
      · rw [splitF_no hlt h0] at h
        exact absurd h h0
    · rw [splitF_end hlt, List.drop_of_length_le (by omega)]
      rfl
/-- Bytes come back of their records. -/
theorem join_split {s : List UInt8} (h : (splitV s).2 = 0) : joinV (splitV s).1 = (s, 0) := by
  unfold splitV at h ⊢
  by_cases h1 : 20000 < s.length
  · rw [if_pos h1] at h; cases h
  · rw [if_neg h1] at h ⊢
    have hi := splitF_inv s (s.length + 1) 0 (by omega) (by omega)
    rw [show ((0 : Nat) : Int) = 0 from rfl] at hi
    generalize splitF s (s.length + 1) 0 = q at *
    unfold splitR at h ⊢
    by_cases h2 : q.2 = 0
    · rw [if_pos h2] at h ⊢
      by_cases h3 : rowN q.1 = 0
      · rw [if_pos h3] at h ⊢
        dsimp only
        have := hi h2
        rw [List.drop_zero] at this
        rw [joinV_yes h3 (by rw [this]; exact h1), this]
      · rw [if_neg h3] at h
        exact absurd h h3
    · rw [if_neg h2] at h
      exact absurd h h2
theorem split_bad {s : List UInt8} (h : (splitV s).2 ≠ 0) : (splitV s).1 = [] := by
  unfold splitV at h ⊢
  by_cases h1 : 20000 < s.length
  · rw [if_pos h1]
  · rw [if_neg h1] at h ⊢
    generalize splitF s (s.length + 1) 0 = q at *
    unfold splitR at h ⊢
    by_cases h2 : q.2 = 0
    · rw [if_pos h2] at h ⊢
      by_cases h3 : rowN q.1 = 0
      · rw [if_pos h3] at h; exact absurd rfl h
      · rw [if_neg h3]
    · rw [if_neg h2]
end Go.Proofs.Ytnghmcadhjneeaa
