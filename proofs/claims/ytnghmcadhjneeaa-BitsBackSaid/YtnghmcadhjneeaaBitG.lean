/- The law of package bits on what comes back: its walk. -/
import Derived.Test.YtnghmcadhjneeaaBitF
import Derived.Test.YtnghmcadhjneeaaBitE
namespace Go.Proofs.Ytnghmcadhjneeaa
set_option linter.unusedVariables false
set_option linter.unusedSimpArgs false
set_option linter.unnecessarySimpa false
open Go.RowKit Go.ChangeShapes Go.WideShapes Go.Deep
namespace BitW

theorem seven8 (q : Nat) (hq : q ≤ 40000) : (wrap64 ((q : Int) + 7)) = ((q + 7 : Nat) : Int) := by unfold wrap64; omega
theorem ints_take (l : List (Int × Int)) (k : Nat) (h : k < l.length) (x : Int) (hx : l[k].2 = x) : ints ((l.take k).map (·.2)) ++ ints [x] = ints ((l.take (k + 1)).map (·.2)) := by
  rw [List.take_succ_eq_append_getElem h]
  rw [List.map_append]
  simp only [ints, List.map_append, List.map_cons, List.map_nil, hx]

set_option maxRecDepth 100000 in
set_option maxHeartbeats 4000000 in
theorem back_law (A : Option Addr) (n c : Nat) (l : List (Int × Int)) (w : World)
    (h : Rd w w.heap.size 2 A n (fcells l)) (h64 : ∀ x ∈ l, I64 x.1 ∧ I64 x.2) (hn : n ≤ maxLen) :
    Calls Try.prog 6 #[.slice A n c] w fun e w' => e = .returned (.bool true) ∧ Below w.heap.size w w' := by
  unfold maxLen at hn
  by_cases h1 : (1000 : Int) < n
  · clear h h64
    go_enter Try.func6, Try.ntmps6
    go_wp2_with fail
    refine (awake_any _).mono ?_
    rintro e w7 ⟨rfl, hb7⟩
    go_wp2_with fail
    go_ret
    exact ⟨rfl, hb7⟩
  have hl := rd_flen h
  have hl1 : l.length ≤ n := by omega
  have hl2 : n ≤ l.length := by omega
  have hn3 : n ≤ 1000 := by omega
  have C1 := pack_any A n c l w h h64 (by omega) _ rfl
  clear hl h64
  rcases packV_cases l with hp | ⟨hp, hall⟩
  · rw [hp] at C1
    clear hp h
    go_enter Try.func6, Try.ntmps6
    go_wp2_with fail
    refine C1.mono ?_
    clear C1
    rintro e w1 ⟨rfl, HB⟩
    go_wp2_with fail
    refine (awake_any _).mono ?_
    rintro e w7 ⟨rfl, hb7⟩
    go_wp2_with fail
    go_ret
    exact ⟨rfl, HB.trans (hb7.mono HB.size)⟩
  · rw [hp] at C1
    have HA := Lib.hid hall
    have HT := Lib.hid (textB_len (fieldsB l))
    have HU := Lib.hid (back_plain hall)
    have HFL := Lib.hid (fieldsB_len hall)
    obtain ⟨tx, htx⟩ : ∃ t, textB (fieldsB l) = t := ⟨_, rfl⟩
    rw [htx] at C1 HT HU
    clear hp htx hall
    go_enter Try.func6, Try.ntmps6
    go_wp2_with fail
    refine C1.mono ?_
    clear C1
    rintro e w1 ⟨rfl, hb1⟩
    have r1 := (h.below hb1).more hb1.size
    clear h
    dsimp only
    go_wp2_with fail
    go_loopw [5, 6, 7] (fun out nn i wr => ∃ (k q c2 : Nat) (A2 : Option Addr), i = .int .i64 k ∧ nn = .int .i64 q ∧ out = .slice A2 k c2 ∧ k ≤ n ∧ q ≤ 32 * k ∧ q = (fieldsB (l.take k)).length ∧ Own wr w1.heap.size 3 1 A2 k c2 (ints ((l.take k).map (·.2))) ∧ Below w1.heap.size w1 wr) (fun _ _ i _ => n - (intOf i).toNat)
    case atStart => exact ⟨0, 0, 0, none, rfl, rfl, rfl, by omega, by omega, rfl, Own.nil _ _ _ _, Below.refl _ _⟩
    case round =>
      obtain ⟨k, q, c2, A2, rfl, rfl, rfl, hk, hq, hqe, o2, hbw⟩ := hrel
      have HQ := Lib.hid hqe
      clear hqe
      have hsz := hbw.size
      by_cases hlt : k < n
      · have hkl : k < l.length := by omega
        obtain ⟨b, o, rfl, hb, hc⟩ := rd_fcells r1 (by omega)
        have d1' := (hc k hkl).2
        have d1 := (hbw.cell (p := ⟨b, o + k * 2 + 1, none⟩) hb).trans d1'
        have HS := Lib.hid (fieldsB_snoc l k hkl)
        obtain ⟨x, kk, e1, e2, hkk, hx⟩ := fitsB_yes (HA.out l[k] (List.getElem_mem hkl))
        rw [e2] at d1 d1'
        have HL : Hid ((fieldB l[k]).length = kk) := Lib.hid (by rw [fieldB, dg_len, e2]; simp)
        have HI := Lib.hid (ints_take l k hkl kk e2)
        have hne : ∀ b, b < w1.heap.size → some b ≠ blkOf A2 := fun b hb e => by have := (o2.blk b e.symm).1; omega
        have hrn : Rd (wr.alloc (.cells #[.int .i64 kk] 3)) (wr.heap.size + 1) 1 (some ⟨wr.heap.size, 0, none⟩) 1 (ints [(kk : Int)]) := rd_new (W0 := wr) (t := 3) (cs := ints [(kk : Int)]) (size := 1) (m := 1) rfl rfl
        have hw : wrap64 ((q : Int) + (kk : Int)) = ((q + kk : Nat) : Int) := by unfold wrap64; omega
        clear hc e1 e2 hx
        go_wp2_with (at_builtin; with_reducible refine wp_append El_int2 rfl (s := .tmp 34) (x := .tmp 40) rfl rfl (o2.alloc _) rfl hrn (ints_one _) (by unfold maxLen; omega) (by omega) (by simp only [World.size_alloc]; omega) ?_; intro A4 c4 w4 o4 hg4 hat4; clear hrn; have hbX := below_grown (hbw.alloc hsz (.cells #[.int .i64 kk] 3)) hg4 (o2.alloc _) (Nat.le_refl _); have d9 := (hbX.cell (p := ⟨b, o + k * 2 + 1, none⟩) hb).trans d1'; clear d1 d1')
        rw [HI.out] at o4
        go_roundw
        case rel => exact ⟨k + 1, q + kk, c4, A4, by go_num, by first | rfl | (rw [hw]; rfl), rfl, by omega, by omega, by rw [HS.out, List.length_append, HL.out, ← HQ.out], o4, hbX⟩
        case measure => simp [intOf]; omega
      · have hz := Lib.hid (show l.take k = l from List.take_of_length_le (by omega))
        obtain rfl : k = n := by omega
        rw [hz.out] at o2
        have hql : q = (fieldsB l).length := by rw [HQ.out, hz.out]
        have HT2 : tx.length = (q + 7) / 8 := by rw [hql]; exact HT.out
        have hq32 : q ≤ 32000 := by omega
        have C2 := unpack_any tx A2 k c2 _ wr o2.rd (by omega) (by omega) _ HU.out
        have HT3 : (tx.length : Int) = ((q : Int) + 7) / 8 := by omega
        rw [← hql] at C2
        clear HT2 hql
        dsimp only at C2
        have hw7 := seven8 q (by omega)
        have HT4 : (tx.length : Int) = (((q + 7 : Nat) : Int)) / 8 := by omega
        have hbx := hb1.trans (hbw.mono hb1.size)
        clear HT3
        go_wp2_with fail
        refine C2.mono ?_
        clear C2
        rintro e w2 ⟨A3, n3, c3, rfl, hc3, r3, hb2⟩
        have hl3 := rd_len r3
        rw [List.length_map] at hl3
        obtain rfl : k = n3 := by omega
        have r2 := ((r1.below hbw).more hsz).below hb2
        have hr2 := hb2.size
        have HB := hbx.trans (hb2.mono hbx.size)
        clear r1 hl3 hb2 hbw hbx o2
        go_wp2_with fail
        go_loopw [11] (fun i wr => ∃ (j nq : Nat), j ≤ k ∧ i = .int .i64 j ∧ wr = w2.drewN nq) (fun i _ => k - (intOf i).toNat)
        case atStart => exact ⟨0, 0, by omega, rfl, rfl⟩
        case round =>
          obtain ⟨j, nq, hj, rfl, rfl⟩ := hrel
          by_cases hlt : j < k
          · have hjl : j < l.length := by omega
            obtain ⟨b1, o1, rfl, hb1', hc1⟩ := rd_fcells r2 (by omega)
            obtain ⟨b3, o3, rfl, hb3, hc3⟩ := rd_ints r3 (by omega)
            have d1 := (hc1 j hjl).1
            have d3 := hc3 j (by rw [List.length_map]; omega)
            rw [List.getElem_map] at d3
            have hji : (j : Int) < (k : Int) := by omega
            have hj0 : (0 : Int) ≤ (j : Int) := by omega
            obtain ⟨y, hy⟩ : ∃ y, l[j].1 = y := ⟨_, rfl⟩
            rw [hy] at d1 d3
            clear hc1 hc3 r2 r3 hy
            go_wp2_with fail
            go_quiet (fail)
            go_wp2
            go_roundw
            case rel => exact ⟨j + 1, _, by omega, by go_num, rfl⟩
            case measure => simp [intOf]; omega
          · clear r2 r3
            go_wp2_with fail
            refine (awake_any _).mono ?_
            rintro e w7 ⟨rfl, hb7⟩
            go_wp2_with fail
            go_ret
            exact ⟨rfl, (HB.drewN_ nq).trans (hb7.mono (HB.drewN_ nq).size)⟩
end BitW
end Go.Proofs.Ytnghmcadhjneeaa
