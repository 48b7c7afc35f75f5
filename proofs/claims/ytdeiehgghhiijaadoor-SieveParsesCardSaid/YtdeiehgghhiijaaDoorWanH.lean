/- The walks of package want: bytes that are read in the base 16. -/
import Derived.Test.YtdeiehgghhiijaaDoorWanG
import Derived.Lib.OthersKept
namespace Go.Proofs.YtdeiehgghhiijaaDoor
set_option linter.unusedVariables false
set_option linter.unusedSimpArgs false
set_option linter.unnecessarySimpa false
open Go.RowKit
namespace WanW

/-- What a letter is worth as a digit. -/
def dg (b : UInt8) : Nat := (digV (b.toNat : Int)).toNat
def hexB (b : UInt8) : Bool := decide (0 ≤ digV (b.toNat : Int))
/-- Letters, two by two. -/
def unpair : List UInt8 → List UInt8
  | a :: b :: r => UInt8.ofNat (16 * dg a + dg b) :: unpair r
  | _ => []
theorem unpair_app : ∀ (n : Nat) (l : List UInt8) (a b : UInt8), l.length = 2 * n → unpair (l ++ [a, b]) = unpair l ++ [UInt8.ofNat (16 * dg a + dg b)] := by
  intro n
  induction n with
  | zero => intro l a b h; obtain rfl := List.length_eq_zero_iff.1 (by simpa using h); rfl
  | succ n ih =>
    intro l a b h
    match l, h with
    | x :: y :: l, h =>
      show UInt8.ofNat (16 * dg x + dg y) :: unpair (l ++ [a, b]) = _
      rw [ih l a b (by simp at h; omega)]
      rfl
theorem unpair_len : ∀ (n : Nat) (l : List UInt8), l.length = 2 * n → (unpair l).length = n := by
  intro n
  induction n with
  | zero => intro l h; obtain rfl := List.length_eq_zero_iff.1 (by simpa using h); rfl
  | succ n ih =>
    intro l h
    match l, h with
    | x :: y :: l, h =>
      show (unpair l).length + 1 = _
      rw [ih l (by simp at h; omega)]
theorem digV_lt (r : Int) : digV r < 16 := by unfold digV; split <;> (try split) <;> omega
theorem dg_lt (b : UInt8) : dg b < 16 := by have := digV_lt (b.toNat : Int); unfold dg; omega
/-- Bytes that are read in the base 16, if they are. -/
def unhexV (s : List UInt8) : List UInt8 × Bool := if s.length % 2 = 1 ∨ s.all hexB = false then ([], false) else (unpair s, true)
theorem unhexV_no {s : List UInt8} (h : s.length % 2 = 1 ∨ s.all hexB = false) : unhexV s = ([], false) := by rw [unhexV, if_pos h]
theorem unhexV_yes {s : List UInt8} (h : ¬ (s.length % 2 = 1 ∨ s.all hexB = false)) : unhexV s = (unpair s, true) := by rw [unhexV, if_neg h]
theorem all_no (s : List UInt8) (f : UInt8 → Bool) (k : Nat) (hk : k < s.length) (h : f s[k] = false) : s.all f = false := by
  rw [Bool.eq_false_iff]
  intro hh
  rw [List.all_eq_true.1 hh _ (List.getElem_mem hk)] at h
  cases h
theorem run_made0 {P : Program} (t e : TypeId) (z : Value) (size bytes : Nat) (ht : P.underlying t = some (.slice e)) (hinfo : (P.info? e).map (fun i => (i.zero, i.size, i.bytes)) = some (some z, size, bytes))
    (c : Nat) (hbytes : bytes * c ≤ 281474976710656) (h63 : c ≤ 9223372036854775807) (w : World) :
    (Instr.makeSlice t (.int .i64 0) (.int .i64 (c : Int))).run P w = .ok (.slice (some ⟨w.heap.size, 0, none⟩) 0 c) (w.alloc (.cells (madeCells z.cells (c * size)) e)) := by
  obtain ⟨i, hi, hzz⟩ := Option.map_eq_some_iff.1 hinfo
  simp only [Prod.mk.injEq] at hzz
  obtain ⟨hz, hs, hb⟩ := hzz
  have hb' : (i.bytes : Int) * (c : Int) ≤ 281474976710656 := by
    have h : ((i.bytes * c : Nat) : Int) ≤ 281474976710656 := by rw [hb]; omega
    rwa [Int.natCast_mul] at h
  have hr := run_make (P := P) w t e i z ht hi hz .i64 .i64 0 c (by omega) (by omega) hb' (by omega)
  simp only [Int.toNat_natCast, hs, Int.toNat_zero] at hr
  exact hr
theorem own_ne_iter {w : World} {base e size n c k pos : Nat} {A : Option Addr} {xs : List Value} {S : ByteArray} (h : Own w base e size A n c xs) (hk : w.heap[k]? = some (.stringIter S pos)) : blkOf A ≠ some k := by
  rcases h.2 with ⟨hv, _⟩ | ⟨g, cap, cur, hv, _, hg, _⟩
  · simp only [Value.slice.injEq] at hv
    obtain ⟨rfl, _⟩ := hv
    simp [blkOf]
  · simp only [Value.slice.injEq] at hv
    obtain ⟨rfl, _⟩ := hv
    intro e
    simp only [blkOf, Option.map_some, Option.some.injEq] at e
    subst e
    rw [hg] at hk
    cases hk
theorem grown_iterAt (w : World) (k : Nat) (S : ByteArray) (pos : Nat) : w.grownBy (w.iterAt k S pos) (some k) :=
  ⟨rfl, rfl, rfl, by rw [Lib.iterAt_size]; exact Nat.le_refl _, fun j _ hne => Lib.iterAt_other w k j S pos (fun e => hne (by rw [e]))⟩
set_option maxRecDepth 100000 in
set_option maxHeartbeats 4000000 in
theorem unhex_any (s : List UInt8) (w : World) (v : List UInt8) (b : Bool) (hv : unhexV s = (v, b)) (hs : s.length ≤ 100000) : Calls Tryd.prog 64 #[str s] w fun e w' => e = .returned (.tuple #[str v, .bool b]) ∧ Below w.heap.size w w' := by
  have HNO := Lib.hid (fun h => (unhexV_no (s := s) h).symm.trans hv)
  have HYES := Lib.hid (fun h => (unhexV_yes (s := s) h).symm.trans hv)
  clear hv
  obtain ⟨S, hS⟩ : ∃ S : ByteArray, (⟨s.toArray⟩ : ByteArray) = S := ⟨_, rfl⟩
  have HS := Lib.hid hS
  have hsz : S.size = s.length := by rw [← hS]; simp [ByteArray.size]
  by_cases ho : s.length % 2 = 1
  · obtain ⟨rfl, rfl⟩ := Prod.mk.inj (HNO.out (.inl ho))
    have t1 : Int.tmod (s.length : Int) 2 = 1 := by rw [Int.tmod_eq_emod_of_nonneg (by omega)]; omega
    go_enter Tryd.func64, Tryd.ntmps64
    go_wp2_with fail
    go_ret2
    exact ⟨rfl, Below.refl _ _⟩
  · obtain ⟨h2, hh2⟩ : ∃ h2, s.length / 2 = h2 := ⟨_, rfl⟩
    have t1 : Int.tmod (s.length : Int) 2 = 0 := by rw [Int.tmod_eq_emod_of_nonneg (by omega)]; omega
    have t2 : Int.tdiv (s.length : Int) 2 = (h2 : Int) := by rw [Int.tdiv_eq_ediv_of_nonneg (by omega)]; omega
    have t3 : IntKind.i64.wrap (h2 : Int) = (h2 : Int) := w64k (by omega) (by omega)
    have hmk := run_made0 (P := Tryd.prog) 94 5 (.int .u8 0) 1 1 Tryd.underlying94 (by kernel_rfl) h2 (by omega) (by omega) w
    have HB0 := (Below.refl w.heap.size w).alloc (Nat.le_refl _) (.cells (madeCells (Value.int .u8 0).cells (h2 * 1)) 5)
    have HO0 := own_made (W0 := w) (t := 5) (base := w.heap.size) (g := w.heap.size) (n := 0) (c := h2) (size := 1) (cs := madeCells (Value.int .u8 0).cells (h2 * 1)) rfl (by omega) (by simp [madeCells]) (Nat.le_refl _) (by unfold maxLen; omega)
    obtain ⟨w0, hw0⟩ : ∃ w0, w.alloc (.cells (madeCells (Value.int .u8 0).cells (h2 * 1)) 5) = w0 := ⟨_, rfl⟩
    have hsz0 : w0.heap.size = w.heap.size + 1 := by rw [← hw0]; simp
    rw [hw0] at hmk HB0 HO0
    clear hw0
    go_enter Tryd.func64, Tryd.ntmps64
    go_wp2_with fail
    go_loopw [4, 5] (fun o4 o5 wr => ∃ (k c2 q d : Nat) (A2 : Option Addr), o4 = .slice A2 q c2 ∧ o5 = .int .i64 (d : Int) ∧ d < 16 ∧ q ≤ k ∧ k ≤ s.length ∧ Own wr w.heap.size 5 1 A2 q c2 (byts (unpair (s.take (2 * (k / 2))))) ∧ (s.take k).all hexB = true ∧ (k % 2 = 1 → dg (s[k - 1]?.getD 0) = d) ∧ wr.heap[w.heap.size + 1]? = some (.stringIter S k) ∧ Below w.heap.size w wr) (fun _ _ wr => s.length - wr.iterPos (w.heap.size + 1))
    case atStart => exact ⟨0, h2, 0, 0, _, rfl, rfl, by omega, by omega, by omega, by have := HO0.alloc (.stringIter S 0); simp [unpair, byts] at this ⊢; exact this, rfl, by simp, by rw [← hsz0]; exact heap_alloc_new w0 _, HB0.alloc (by omega) _⟩
    case round =>
      obtain ⟨k, c2, q, d, A2, rfl, rfl, hd16, hqk, hk, ho2, hall, hdg, hit, HB⟩ := hrel
      have HALL := Lib.hid hall
      have HDG := Lib.hid hdg
      clear hall hdg HO0 HB0 hmk
      have hsz1 := HB.size
      have hit1 : w.heap.size + 1 < wr.heap.size := (Array.getElem?_eq_some_iff.1 hit).1
      have hne := own_ne_iter ho2 hit
      by_cases hlt : k < s.length
      · have hkS : k < S.size := by rw [hsz]; exact hlt
        obtain ⟨x, hx⟩ : ∃ x, S[k] = x := ⟨_, rfl⟩
        have hx2 : s[k] = x := by
          rw [← hx]
          subst hS
          rfl
        obtain ⟨m, hm⟩ : ∃ m : Nat, x.toNat = m := ⟨_, rfl⟩
        have HDN := Lib.hid (fun hd : hexB x = false => HNO.out (.inr (all_no s hexB k hlt (by rw [hx2]; exact hd))))
        by_cases ha : m < 128
        · have hnx := fun ty => Lib.run_next_ascii_at (P := Tryd.prog) wr (w.heap.size + 1) S k ty hit hkS (by rw [hx, hm]; exact ha)
          rw [hx, hm] at hnx
          have hit2 := Lib.iterAt_heap wr (w.heap.size + 1) S k (k + 1) hit
          have HB2 := Lib.below_iterAt HB (k := w.heap.size + 1) (by omega) S (k + 1)
          have ho3 := ho2.grown (grown_iterAt wr (w.heap.size + 1) S (k + 1)) (.inr hne)
          have hszw : wr.heap.size ≤ (wr.iterAt (w.heap.size + 1) S (k + 1)).heap.size := Nat.le_of_eq (Lib.iterAt_size _ _ _ _).symm
          obtain ⟨w1, hw1⟩ : ∃ w1, wr.iterAt (w.heap.size + 1) S (k + 1) = w1 := ⟨_, rfl⟩
          rw [hw1] at hnx hit2 HB2 ho3 hszw
          have HX2 := Lib.hid hx2
          have hit0 := Lib.hid hit
          clear hx hx2 hw1 ho2 hit
          obtain ⟨z, hz⟩ : ∃ z, digV (m : Int) = z := ⟨_, rfl⟩
          have hzlt : z < 16 := by rw [← hz]; exact digV_lt _
          have C := fun w => digit_any (m : Int) (by omega) (by omega) w z hz
          by_cases q1 : z < 0
          · obtain ⟨rfl, rfl⟩ := Prod.mk.inj (HDN.out (by simp only [hexB, hm, hz]; simp; omega))
            go_wp2_with (go_at_call 74; refine (C _).mono ?_; rintro e w2 ⟨rfl, hq⟩; subst w2)
            try rw [Exit.noGoto_ret]
            go_ret2
            exact ⟨rfl, HB2⟩
          · obtain ⟨zn, rfl⟩ : ∃ zn : Nat, z = (zn : Int) := ⟨z.toNat, by omega⟩
            have HDX := Lib.hid (show dg x = zn by unfold dg; rw [hm, hz]; omega)
            have HA := Lib.hid (show (s.take (k + 1)).all hexB = true by rw [List.take_succ_eq_append_getElem hlt, List.all_append, HALL.out, HX2.out]; simp [hexB, hm, hz])
            have HD1 := Lib.hid (show dg (s[k + 1 - 1]?.getD 0) = zn by rw [show k + 1 - 1 = k by omega, List.getElem?_eq_getElem hlt, Option.getD_some, HX2.out]; exact HDX.out)
            rcases Nat.mod_two_eq_zero_or_one k with he | he
            · have t4 : Int.tmod (k : Int) 2 = 0 := by rw [Int.tmod_eq_emod_of_nonneg (by omega)]; omega
              go_wp2_with (go_at_call 74; refine (C _).mono ?_; rintro e w2 ⟨rfl, hq⟩; subst w2)
              go_roundw
              case rel => exact ⟨k + 1, c2, q, zn, A2, rfl, rfl, by omega, by omega, by omega, by rw [show (k + 1) / 2 = k / 2 by omega]; exact ho3, HA.out, fun _ => HD1.out, hit2, HB2⟩
              case measure => simp only [World.iterPos, hit2, hit0.out]; omega
            · have t4 : Int.tmod (k : Int) 2 = 1 := by rw [Int.tmod_eq_emod_of_nonneg (by omega)]; omega
              have t5 : IntKind.i64.wrap (16 * (d : Int)) = 16 * (d : Int) := w64k (by omega) (by omega)
              have t6 : IntKind.i64.wrap (16 * (d : Int) + (zn : Int)) = 16 * (d : Int) + (zn : Int) := w64k (by omega) (by omega)
              have t7 : IntKind.u8.wrap (16 * (d : Int) + (zn : Int)) = 16 * (d : Int) + (zn : Int) := by rw [IntKind.wrap_u8]; omega
              have hrd : Rd (w1.alloc (.cells [Value.int .u8 (16 * (d : Int) + (zn : Int))].toArray 5)) (w1.heap.size + 1) 1 (some ⟨w1.heap.size, 0, none⟩) 1 [.int .u8 (16 * (d : Int) + (zn : Int))] := rd_new rfl rfl
              have hal := ho3.alloc (.cells #[.int .u8 (16 * (d : Int) + (zn : Int))] 5)
              have hone : ∀ u ∈ [Value.int .u8 (16 * (d : Int) + (zn : Int))], u.oneCell' = true := by intro u hu; rw [List.mem_singleton.1 hu]; rfl
              have HU := Lib.hid (show byts (unpair (s.take (2 * ((k + 1) / 2)))) = byts (unpair (s.take (2 * (k / 2)))) ++ [.int .u8 (16 * (d : Int) + (zn : Int))] by
                have e1 : 2 * ((k + 1) / 2) = k - 1 + 1 + 1 := by omega
                have e2 : 2 * (k / 2) = k - 1 := by omega
                have e3 : s.take (k - 1 + 1 + 1) = s.take (k - 1) ++ [s[k - 1]'(by omega), x] := by
                  rw [List.take_succ_eq_append_getElem (by omega), List.take_succ_eq_append_getElem (by omega), List.append_assoc]
                  simp only [show k - 1 + 1 = k by omega, HX2.out, List.singleton_append]
                rw [e1, e2, e3, unpair_app (k / 2) _ _ _ (by rw [List.length_take]; omega)]
                have e4 : dg (s[k - 1]'(by omega)) = d := by
                  have := HDG.out he
                  rwa [List.getElem?_eq_getElem (by omega), Option.getD_some] at this
                rw [e4, HDX.out]
                simp only [byts, List.map_append, List.map_cons, List.map_nil, byt]
                congr 2
                rw [UInt8.toNat_ofNat']
                congr 1)
              go_wp2_with (first | (go_at_call 74; refine (C _).mono ?_; rintro e w2 ⟨rfl, hq⟩; subst w2) | (at_builtin; (refine wp_append El_u8 rfl rfl rfl hal rfl hrd hone (by unfold maxLen; omega) (by omega) (by simp; omega) ?_; intro A' c' w2 ho4 hg2 at2)))
              have hg3 := (World.grownBy_alloc w1 (.cells #[.int .u8 (16 * (d : Int) + (zn : Int))] 5) (blkOf A2)).trans hg2
              rw [← HU.out] at ho4
              have hit3 : w2.heap[w.heap.size + 1]? = some (.stringIter S (k + 1)) := by rw [hg3.block _ (by omega) (fun e => hne e.symm)]; exact hit2
              have HB3 := below_grown HB2 hg3 ho3 (Nat.le_refl _)
              clear hg2 at2 hal hrd
              go_wp2_with fail
              go_roundw
              case rel => exact ⟨k + 1, c', q + 1, zn, A', rfl, rfl, by omega, by omega, by omega, ho4, HA.out, fun _ => HD1.out, hit3, HB3⟩
              case measure => simp only [World.iterPos, hit3, hit0.out]; omega
        · have hnx := fun ty => Lib.run_next_any_at (P := Tryd.prog) wr (w.heap.size + 1) S k ty hit hkS
          obtain ⟨hd1, -⟩ := decode_high S k hkS (by rw [hx, hm]; omega)
          have hd2 := decode_le S k
          have HB2 := Lib.below_iterAt HB (k := w.heap.size + 1) (by omega) S (k + (Utf8.decode S k).2)
          obtain ⟨w1, hw1⟩ : ∃ w1, wr.iterAt (w.heap.size + 1) S (k + (Utf8.decode S k).2) = w1 := ⟨_, rfl⟩
          rw [hw1] at hnx HB2
          clear hw1
          obtain ⟨r, hr⟩ : ∃ r, (Utf8.decode S k).1 = r := ⟨_, rfl⟩
          rw [hr] at hnx hd1 hd2
          have C := fun w => digit_any (r : Int) (by omega) (by omega) w (-1) (by unfold digV; rw [if_neg (by omega), if_neg (by omega)])
          obtain ⟨rfl, rfl⟩ := Prod.mk.inj (HDN.out (by unfold hexB digV; rw [hm, if_neg (by omega), if_neg (by omega)]; rfl))
          clear hx hx2 hr ho2 hit
          go_wp2_with (go_at_call 74; refine (C _).mono ?_; rintro e w2 ⟨rfl, hq⟩; subst w2)
          try rw [Exit.noGoto_ret]
          go_ret2
          exact ⟨rfl, HB2⟩
      · have hnx := fun ty => Lib.run_next_end_at (P := Tryd.prog) wr (w.heap.size + 1) S k ty hit (by rw [hsz]; exact hlt)
        have e2 := HALL.out
        rw [List.take_of_length_le (by omega)] at e2
        rw [List.take_of_length_le (by omega)] at ho2
        obtain ⟨rfl, rfl⟩ := Prod.mk.inj (HYES.out (by rintro (hh | hh); exact ho hh; rw [e2] at hh; cases hh))
        have hcv := run_bytes_str (P := Tryd.prog) wr Tryd.underlying94 Tryd.underlying5 Tryd.underlying9 (c := c2) ho2.rd
        clear e2 ho2
        go_wp2_with fail
        go_ret2
        exact ⟨rfl, HB⟩
end WanW
end Go.Proofs.YtdeiehgghhiijaaDoor
