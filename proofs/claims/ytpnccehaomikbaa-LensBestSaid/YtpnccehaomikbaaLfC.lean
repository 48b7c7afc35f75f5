/- The walks of the reference of package lens: rows of things that carry their symbols; the first row. -/
import Derived.Test.YtpnccehaomikbaaLfB
namespace Go.Proofs.Ytpnccehaomikbaa
set_option linter.unusedVariables false
set_option linter.unusedSimpArgs false
set_option linter.unnecessarySimpa false
open Go.RowKit
namespace LenW

/-- Plainly. -/
abbrev PT := Int × List Int × Bool
def TT.abs (t : TT) : PT := (t.w, t.s, t.l)
def goesP (y x : PT) : Bool := decide (y.1 < x.1) || (decide (y.1 = x.1) && (y.2.2 || !x.2.2))
def putP (x : PT) : List PT → List PT
  | [] => [x]
  | y :: r => if goesP y x then y :: putP x r else x :: y :: r
theorem put_abs (x : TT) (ts : List TT) : (putT x ts).map TT.abs = putP x.abs (ts.map TT.abs) := by
  induction ts with
  | nil => rfl
  | cons y r ih =>
    rw [putT, List.map_cons, putP]
    show _ = if goesT y x then _ else _
    split
    · rw [List.map_cons, ih]
    · rfl
theorem putT_mem {x z : TT} {ts : List TT} (h : z ∈ putT x ts) : z = x ∨ z ∈ ts := by
  induction ts with
  | nil => simp [putT] at h; exact .inl h
  | cons y r ih =>
    unfold putT at h
    split at h
    · rcases List.mem_cons.1 h with rfl | h
      · exact .inr (by simp)
      · rcases ih h with h | h
        · exact .inl h
        · exact .inr (by simp [h])
    · rcases List.mem_cons.1 h with rfl | h
      · exact .inl rfl
      · exact .inr h
/-- A thing's symbols lie where X allows. -/
structure SymX (X : Nat → Prop) (w : World) (t : TT) : Prop where
  rd : Rd w w.heap.size 1 t.A t.n (ints t.s)
  cap : t.n ≤ t.c
  blk : ∀ k, blkOf t.A = some k → k < w.heap.size ∧ X k
structure RowX (X : Nat → Prop) (w : World) (A : Option Addr) (n c : Nat) (ts : List TT) : Prop where
  rd : Rd w w.heap.size 3 A n (tcells ts)
  cap : n ≤ c
  blk : ∀ k, blkOf A = some k → k < w.heap.size ∧ X k
  sym : ∀ t ∈ ts, SymX X w t
theorem SymX.below {X : Nat → Prop} {w w' : World} {t : TT} (h : SymX X w t) (hb : Below w.heap.size w w') : SymX X w' t :=
  ⟨(h.rd.below hb).more hb.size, h.cap, fun k hk => ⟨Nat.lt_of_lt_of_le (h.blk k hk).1 hb.size, (h.blk k hk).2⟩⟩
theorem RowX.below {X : Nat → Prop} {w w' : World} {A : Option Addr} {n c : Nat} {ts : List TT} (h : RowX X w A n c ts) (hb : Below w.heap.size w w') : RowX X w' A n c ts :=
  ⟨(h.rd.below hb).more hb.size, h.cap, fun k hk => ⟨Nat.lt_of_lt_of_le (h.blk k hk).1 hb.size, (h.blk k hk).2⟩, fun t ht => (h.sym t ht).below hb⟩
theorem RowX.nil (X : Nat → Prop) (w : World) : RowX X w none 0 0 [] := ⟨Rd.nil _ _ _ _, Nat.le_refl _, fun k hk => by simp [blkOf] at hk, fun t ht => by simp at ht⟩
theorem SymX.turn {X Y : Nat → Prop} {w : World} {t : TT} (h : SymX X w t) (hy : ∀ k, k < w.heap.size → X k → Y k) : SymX Y w t := ⟨h.rd, h.cap, fun k hk => ⟨(h.blk k hk).1, hy k (h.blk k hk).1 (h.blk k hk).2⟩⟩
theorem RowX.turn {X Y : Nat → Prop} {w : World} {A : Option Addr} {n c : Nat} {ts : List TT} (h : RowX X w A n c ts) (hy : ∀ k, k < w.heap.size → X k → Y k) : RowX Y w A n c ts :=
  ⟨h.rd, h.cap, fun k hk => ⟨(h.blk k hk).1, hy k (h.blk k hk).1 (h.blk k hk).2⟩, fun t ht => (h.sym t ht).turn hy⟩
theorem rd_off {w w' : World} {B size n g : Nat} {A : Option Addr} {xs : List Value} (h : Rd w B size A n xs) (hB : B ≤ w.heap.size) (hg : w.grownBy w' (some g)) (hA : ∀ k, blkOf A = some k → k ≠ g) : Rd w' B size A n xs := by
  refine ⟨h.len, fun hn => ?_⟩
  obtain ⟨b, o, rfl, hb, hc⟩ := h.at_ hn
  refine ⟨b, o, rfl, hb, fun j hj => ?_⟩
  rw [← hc j hj]
  exact World.cell?_of_block (w := w) (hg.block b (by omega) (by have := hA b rfl; simpa using this))
theorem SymX.grown {X : Nat → Prop} {w w' : World} {t : TT} {g : Nat} (h : SymX X w t) (hg : w.grownBy w' (some g)) (hX : ∀ k, X k → k ≠ g) : SymX X w' t :=
  ⟨(rd_off h.rd (Nat.le_refl _) hg (fun k hk => hX k (h.blk k hk).2)).more hg.size, h.cap, fun k hk => ⟨Nat.lt_of_lt_of_le (h.blk k hk).1 hg.size, (h.blk k hk).2⟩⟩
theorem RowX.grown {X : Nat → Prop} {w w' : World} {A : Option Addr} {n c : Nat} {ts : List TT} {g : Nat} (h : RowX X w A n c ts) (hg : w.grownBy w' (some g)) (hX : ∀ k, X k → k ≠ g) : RowX X w' A n c ts :=
  ⟨(rd_off h.rd (Nat.le_refl _) hg (fun k hk => hX k (h.blk k hk).2)).more hg.size, h.cap, fun k hk => ⟨Nat.lt_of_lt_of_le (h.blk k hk).1 hg.size, (h.blk k hk).2⟩, fun t ht => (h.sym t ht).grown hg hX⟩
theorem put_row (X : Nat → Prop) (A : Option Addr) (n c : Nat) (ts : List TT) (x : TT) (w : World) (h : RowX X w A n c ts) (hx : SymX X w x) (hX : ∀ k, w.heap.size ≤ k → X k) (hn : n ≤ 1000) :
    Calls Try.prog 31 #[.slice A n c, x.val] w fun e w' => ∃ A2 c2, e = .returned (.slice A2 (n + 1) c2) ∧ RowX X w' A2 (n + 1) c2 (putT x ts) ∧ Below w.heap.size w w' := by
  refine (put_any A n c ts x w h.rd hn h.cap).mono ?_
  rintro e w' ⟨A2, c2, rfl, o, hb⟩
  refine ⟨A2, c2, rfl, ⟨o.rd, o.cap, fun k hk => ⟨(o.blk k hk).2, hX k (o.blk k hk).1⟩, fun t ht => ?_⟩, hb⟩
  rcases putT_mem ht with rfl | ht
  · exact hx.below hb
  · exact (h.sym t ht).below hb
/-- The first row, of the first k symbols. -/
def firstP (l : List Int) : Nat → List PT
  | 0 => []
  | k + 1 => if 0 < l[k]?.getD 0 then putP (l[k]?.getD 0, [(k : Int)], true) (firstP l k) else firstP l k
theorem putP_len (x : PT) (l : List PT) : (putP x l).length = l.length + 1 := by
  induction l with
  | nil => rfl
  | cons y r ih => unfold putP; split <;> simp [ih]
theorem firstP_len (l : List Int) (k : Nat) (h : k ≤ l.length) : (firstP l k).length = usedL (l.take k) := by
  induction k with
  | zero => simp [firstP, usedL]
  | succ k ih =>
    rw [firstP, usedL_snoc l k h, List.getElem?_eq_getElem h, Option.getD_some]
    split
    · rw [putP_len, ih (by omega)]
    · rw [ih (by omega)]; rfl
set_option maxRecDepth 100000 in
set_option maxHeartbeats 8000000 in
theorem first_any (A : Option Addr) (n c : Nat) (l : List Int) (w : World) (h : Rd w w.heap.size 1 A n (ints l)) (hn : n ≤ 300) :
    Calls Try.prog 23 #[.slice A n c] w fun e w' => ∃ A2 c2 ts, e = .returned (.slice A2 (usedL l) c2) ∧ RowX (fun _ => True) w' A2 (usedL l) c2 ts ∧ ts.map TT.abs = firstP l l.length ∧ Below w.heap.size w w' := by
  have hl : l.length = n := rd_len h
  have HLV := Lib.hid (show (firstP l n).length = usedL l by rw [← hl, firstP_len l _ (Nat.le_refl _), List.take_length])
  have HLS := Lib.hid hl
  go_enter Try.func23, Try.ntmps23
  go_wp2_with fail
  go_loopw [3, 4] (fun out i wr => ∃ (k j c2 : Nat) (A2 : Option Addr) (ts : List TT), i = .int .i64 k ∧ out = .slice A2 j c2 ∧ k ≤ n ∧ j ≤ k ∧ RowX (fun _ => True) wr A2 j c2 ts ∧ ts.map TT.abs = firstP l k ∧ Below w.heap.size w wr) (fun _ i _ => n - (intOf i).toNat)
  case atStart => exact ⟨0, 0, 0, none, [], rfl, rfl, by omega, by omega, RowX.nil _ _, rfl, Below.refl _ _⟩
  case round =>
    obtain ⟨k, j, c2, A2, ts, rfl, rfl, hk, hj, hR, hT, hbw⟩ := hrel
    have HT := Lib.hid hT
    have hsz := hbw.size
    clear hT
    by_cases hlt : k < n
    · have hkl : k < l.length := by omega
      obtain ⟨b, o, rfl, hb, hc⟩ := rd_ints (h.below hbw) (by omega)
      have d0 : wr.cell? ⟨b, o + k, none⟩ = some (.int .i64 l[k]) := hc k hkl
      have HS := Lib.hid (show firstP l (k + 1) = if 0 < l[k] then putP (l[k], [(k : Int)], true) (firstP l k) else firstP l k by rw [firstP, List.getElem?_eq_getElem hkl]; rfl)
      obtain ⟨x, hx⟩ : ∃ x, l[k] = x := ⟨_, rfl⟩
      rw [hx] at d0 HS
      have hkI : (k : Int) < (n : Int) := by omega
      have hk0 : (0 : Int) ≤ (k : Int) := by omega
      have hadd : IntKind.i64.wrap ((k : Int) + 1) = (k : Int) + 1 := w64k (by omega) (by omega)
      clear hc hx
      by_cases hx0 : 0 < x
      · have HA := Lib.hid (show firstP l (k + 1) = putP (x, [(k : Int)], true) (firstP l k) by rw [HS.out, if_pos hx0])
        have hrn : Rd (wr.alloc (.cells (ints [(k : Int)]).toArray 3)) (wr.heap.size + 1) 1 (some ⟨wr.heap.size, 0, none⟩) 1 (ints [(k : Int)]) := rd_new (W0 := wr) (t := 3) (cs := ints [(k : Int)]) (size := 1) (m := 1) rfl rfl
        have HB1 := (Below.refl wr.heap.size wr).alloc (Nat.le_refl _) (.cells (ints [(k : Int)]).toArray 3)
        have hSx : SymX (fun _ => True) (wr.alloc (.cells (ints [(k : Int)]).toArray 3)) ⟨x, some ⟨wr.heap.size, 0, none⟩, 1, 1, true, [(k : Int)]⟩ := ⟨hrn.more (by simp), Nat.le_refl _, fun k' hk' => by simp [blkOf] at hk'; subst hk'; simp⟩
        have C := put_row (fun _ => True) A2 j c2 ts ⟨x, some ⟨wr.heap.size, 0, none⟩, 1, 1, true, [(k : Int)]⟩ _ (hR.below HB1) hSx (fun _ _ => trivial) (by omega)
        unfold TT.val at C
        dsimp only at C
        have HC := Lib.hid C
        clear C hrn hSx
        go_wp2_with fail
        refine HC.out.mono ?_
        rintro e w4 ⟨A4, c4, rfl, R4, hb4⟩
        have HB4 := hbw.trans ((HB1.trans (hb4.mono HB1.size)).mono hsz)
        go_wp2_with fail
        go_roundw
        case rel => exact ⟨k + 1, j + 1, c4, A4, _, by go_num, rfl, by omega, by omega, R4, by rw [put_abs, HT.out, HA.out]; rfl, HB4⟩
        case measure => simp [intOf]; omega
      · have HA := Lib.hid (show firstP l (k + 1) = firstP l k by rw [HS.out, if_neg hx0])
        go_wp2_with fail
        go_roundw
        case rel => exact ⟨k + 1, j, c2, A2, ts, by go_num, rfl, by omega, by omega, hR, by rw [HT.out, HA.out], hbw⟩
        case measure => simp [intOf]; omega
    · have hkI : ¬ (k : Int) < (n : Int) := by omega
      obtain rfl : k = n := by omega
      obtain rfl : j = usedL l := by
        have e := congrArg List.length HT.out
        rw [List.length_map, HLV.out] at e
        have := rd_tlen hR.rd
        omega
      have HT2 := Lib.hid (show ts.map TT.abs = firstP l l.length by rw [HT.out, HLS.out])
      clear hl
      go_wp2_with fail
      try rw [Exit.noGoto_ret]
      go_ret
      first | exact ⟨A2, c2, rfl, ts, hR, HT2.out, hbw⟩ | exact ⟨A2, c2, rfl, ⟨ts, hR, HT2.out⟩, hbw⟩
end LenW
end Go.Proofs.Ytpnccehaomikbaa
