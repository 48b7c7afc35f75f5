/- The walks of package lens: Best. The walks of package lens and its reference: what lengths cost. The walks of the reference of package lens: what lengths cost. -/
import Derived.Test.YtdfclgpkhfpkhaaLenJ
import Derived.Deep.OwnRows
namespace Go.Proofs.Ytdfclgpkhfpkhaa
set_option linter.unusedVariables false
set_option linter.unusedSimpArgs false
set_option linter.unnecessarySimpa false
open Go.RowKit
namespace LenW

theorem El_rows : El Try.prog 65 61 1 24 := El.mk' Try.underlying65 (z := .slice none 0 0) (by kernel_rfl) rfl (by decide)
set_option maxRecDepth 100000 in
theorem best_no (A : Option Addr) (n c : Nat) (l : List Int) (most : Int) (w : World) (h : Rd w w.heap.size 1 A n (ints l)) (hn : n ≤ 1000000) (v : Int) (hv : refuseW l most = v) (h0 : ¬ v = 0) :
    Calls Try.prog 16 #[.slice A n c, .int .i64 most] w fun e w' => e = .returned (.tuple #[.slice none 0 0, .int .i64 v]) ∧ Below w.heap.size w w' := by
  have C := refused_any A n c l most w h hn v hv
  have hd : (v != 0) = true := by simp [h0]
  clear hv
  go_enter Try.func16, Try.ntmps16
  go_wp2_with fail
  refine C.mono ?_
  rintro e w1 ⟨rfl, hb1⟩
  go_wp2_with fail
  go_ret2
  exact ⟨rfl, hb1⟩
set_option maxRecDepth 100000 in
set_option maxHeartbeats 8000000 in
theorem best_yes (A : Option Addr) (n c : Nat) (l : List Int) (most : Int) (w : World) (h : Rd w w.heap.size 1 A n (ints l)) (hv : refuseW l most = 0) (hS : SortOk (usedL l)) :
    Calls Try.prog 16 #[.slice A n c, .int .i64 most] w fun e w' => ∃ g, w.heap.size ≤ g ∧ g < w'.heap.size ∧ e = .returned (.tuple #[.slice (some ⟨g, 0, none⟩) n n, .int .i64 0]) ∧ Blk w' g 3 (ints (bestW l most.toNat)).toArray ∧ Below w.heap.size w w' := by
  have hl : l.length = n := rd_len h
  obtain ⟨hl257, hm1, hm15, hbad, hroom⟩ := refuseW_ok hv
  have hn : n ≤ 257 := by omega
  have C := refused_any A n c l most w h (by omega) 0 hv
  have HW2 := Lib.hid (lvs_what l)
  rw [hl] at HW2
  have HW1 := Lib.hid (lvs_weight l hbad)
  have HFL := Lib.hid (lvs_len l)
  have HFEW := Lib.hid (bestW_few l most.toNat)
  have HMANY := Lib.hid (bestW_many l most.toNat)
  rw [hl] at HFEW HMANY
  have hu1 := usedL_le l
  have HRM := Lib.hid hroom
  obtain ⟨mm, rfl⟩ : ∃ mm : Nat, most = ((mm + 1 : Nat) : Int) := ⟨(most - 1).toNat, by omega⟩
  rw [Int.toNat_natCast] at HRM HFEW HMANY
  have hmm : mm ≤ 14 := by omega
  clear hroom hv hbad
  go_enter Try.func16, Try.ntmps16
  go_wp2_with fail
  refine C.mono ?_
  rintro e w1 ⟨rfl, hb1⟩
  have h1 := (h.below hb1)
  have hz1 := hb1.size
  have hmk : (Instr.makeSlice 22 (.int .i64 n) (.int .i64 n)).run Try.prog w1 = .ok (.slice (some ⟨w1.heap.size, 0, none⟩) n n) (w1.alloc (.cells (madeCells #[.int .i64 0] n) 3)) :=
    run_make_row' 22 3 (.int .i64 0) 8 Try.underlying22 (by kernel_rfl) rfl .i64 .i64 n (by omega) (by omega) w1
  rw [made_ints] at hmk
  have bg := Blk.new w1 3 (ints (List.replicate n 0)).toArray
  have hbW := hb1.alloc hz1 (.cells (ints (List.replicate n 0)).toArray 3)
  clear h C
  go_wp2_with fail
  clear hmk
  obtain ⟨W, hW⟩ : ∃ W, w1.alloc (.cells (ints (List.replicate n 0)).toArray 3) = W := ⟨_, rfl⟩
  have hWs : W.heap.size = w1.heap.size + 1 := by rw [← hW]; simp
  have h2 : Rd W W.heap.size 1 A n (ints l) := by rw [hWs]; exact (((h1.below ((Below.refl _ _).alloc hz1 _)).more (by omega)) : Rd (w1.alloc (.cells (ints (List.replicate n 0)).toArray 3)) _ 1 A n (ints l)) |> (hW ▸ ·)
  rw [hW] at bg hbW ⊢
  obtain ⟨g, hg⟩ : ∃ g, w1.heap.size = g := ⟨_, rfl⟩
  rw [hg] at bg hWs hz1 ⊢
  clear h1 hb1 hW hg
  refine (leaves_any A n c l W h2 (by omega) hS).mono ?_
  rintro e w2 ⟨A2, c2, rfl, o2, hb2⟩
  have bg2 := bg.below hb2 (by omega)
  have HB2 := hbW.trans (hb2.mono hbW.size)
  have hz2 := HB2.size
  have hz3 := hb2.size
  obtain ⟨F, hF⟩ : ∃ F, lvs l = F := ⟨_, rfl⟩
  obtain ⟨f, hf⟩ : ∃ f, usedL l = f := ⟨_, rfl⟩
  rw [hF] at o2 HW1 HW2 HFL HFEW HMANY
  rw [hf] at o2 HFL HFEW HMANY HRM hu1 ⊢
  clear hF hf h2 bg hbW hb2 hS
  have hfl := HFL.out
  by_cases hfew : f < 2
  · have hfI : (f : Int) < 2 := by omega
    have HE := Lib.hid (HFEW.out hfew)
    go_wp2_with fail
    go_loopw [28] (fun s wr => ∃ j : Nat, s = .int .i64 j ∧ j ≤ f ∧ Blk wr g 3 (ints ((F.take j).foldl oneW (List.replicate n 0))).toArray ∧ w2.grownBy wr (some g)) (fun s _ => f - (intOf s).toNat)
    case atStart => exact ⟨0, rfl, by omega, bg2, World.grownBy.refl _ _⟩
    case round =>
      clear bg2
      obtain ⟨j, rfl, hj, bg3, hgr⟩ := hrel
      have hgs := hgr.size
      have HL3 := Lib.hid (show ((F.take j).foldl oneW (List.replicate n 0)).length = n by rw [ones_len]; simp)
      by_cases hlt : j < f
      · have hjF : j < F.length := by omega
        have o3 : Own wr W.heap.size 64 2 A2 f c2 (fcells F) := o2.grown hgr (by
          cases hA : blkOf A2 with
          | none => exact .inl rfl
          | some k => have := (o2.blk k hA).1; exact .inr (by simp; omega))
        obtain ⟨b', o', rfl, hb', hc'⟩ := rd_fcells o3.rd (by omega)
        obtain ⟨e1, e2⟩ := hc' j hjF
        have HS := Lib.hid (ones_snoc F j hjF (List.replicate n 0))
        have hwh := HW2.out _ (List.getElem_mem hjF)
        obtain ⟨x, hx⟩ : ∃ x, F[j] = x := ⟨_, rfl⟩
        rw [hx] at e1 e2 HS hwh
        obtain ⟨x1, x2⟩ := x
        dsimp only at e1 e2 HS hwh
        obtain ⟨y, rfl⟩ := Int.eq_ofNat_of_zero_le hwh.1
        have hyn : (y : Int) < (n : Int) := hwh.2
        obtain ⟨L2, hL2⟩ : ∃ L2, (F.take j).foldl oneW (List.replicate n 0) = L2 := ⟨_, rfl⟩
        rw [hL2] at bg3 HS HL3
        have hy2 : y < L2.length := by rw [HL3.out]; omega
        have b3 := bg3.alloc (.cells #[.int .i64 x1, .int .i64 y] 64)
        obtain ⟨u, hu⟩ : ∃ u, (ints L2).toArray[y]? = some u := ⟨_, by simp [ints, List.getElem?_eq_getElem hy2]; rfl⟩
        have e5 := b3.cell_ y hu
        have f5 := b3.frozen y
        have hg3 := grown_below hgr ((Below.refl wr.heap.size wr).alloc (Nat.le_refl _) (.cells #[.int .i64 x1, .int .i64 y] 64))
        have B3 := Lib.hid b3
        have HFF := Lib.hid (show L2.set y 1 = (F.take (j + 1)).foldl oneW (List.replicate n 0) by rw [HS.out]; unfold oneW; rw [Int.toNat_natCast])
        have hjI : (j : Int) < (f : Int) := by omega
        clear hc' hx hwh hL2 hu hy2 b3 o3 bg3
        go_wp2_with fail
        go_roundw
        case rel => exact ⟨j + 1, by go_num, by omega, blk_eq (B3.out.set y _) (by rw [ints_set, HFF.out]), grown_set hg3 _⟩
        case measure => simp [intOf]; omega
      · have hjI : ¬ (j : Int) < (f : Int) := by omega
        have e1 : (F.take j).foldl oneW (List.replicate n 0) = bestW l (mm + 1) := by rw [HE.out, List.take_of_length_le (by omega)]
        rw [e1] at bg3
        have HB3 := Below.grown HB2 hgr hz2 (fun k hk => by simp at hk; omega)
        go_wp2_with fail
        go_ret2
        exact ⟨g, hz1, by omega, rfl, bg3, HB3⟩
  · have hfI : ¬ (f : Int) < 2 := by omega
    have HE := Lib.hid (HMANY.out hfew)
    go_wp2_with fail
    have hba := o2.blk
    have o5i : Own (w2.alloc (.cells #[.slice A2 f c2] 61)) W.heap.size 61 1 (some ⟨w2.heap.size, 0, none⟩) 1 1 [.slice A2 f c2] := own_new (W0 := w2) (t := 61) (base := W.heap.size) (n := 1) (size := 1) (cs := [.slice A2 f c2]) rfl rfl hz3 (by unfold maxLen; omega)
    have o2i := o2.alloc (.cells #[.slice A2 f c2] 61)
    have hdi : ∀ k, blkOf A2 = some k → blkOf (some (⟨w2.heap.size, 0, none⟩ : Addr)) ≠ some k := by
      intro k hk e
      simp only [blkOf, Option.map_some, Option.some.injEq] at e hk
      have := (hba k hk).2
      omega
    have hpi : Parts fcells 64 2 (w2.alloc (.cells #[.slice A2 f c2] 61)) W.heap.size (blkOf (some (⟨w2.heap.size, 0, none⟩ : Addr))) none [.slice A2 f c2] ((List.range 1).map (rowW F)) := by
      have := (Parts.nil (f := fcells) (e := 64) (size := 2) (w2.alloc (.cells #[.slice A2 f c2] 61)) W.heap.size (blkOf (some (⟨w2.heap.size, 0, none⟩ : Addr))) none).snoc o2i (x := F) (fun k hk => ⟨hdi k hk, by simp⟩)
      simpa [rowW] using this
    have HBi := HB2.alloc hz2 (.cells #[.slice A2 f c2] 61)
    have bgi := bg2.alloc (.cells #[.slice A2 f c2] 61)
    have hzi : W.heap.size ≤ (w2.alloc (.cells #[.slice A2 f c2] 61)).heap.size := by rw [World.size_alloc]; omega
    go_loopw [11, 42] (fun s11 s42 wr => ∃ (k c5 : Nat) (A5 : Option Addr) (vs : List Value), s42 = .int .i64 k ∧ s11 = .slice A5 (k + 1) c5 ∧ k ≤ mm ∧ Own wr W.heap.size 61 1 A5 (k + 1) c5 vs ∧ Parts fcells 64 2 wr W.heap.size (blkOf A5) none vs ((List.range (k + 1)).map (rowW F)) ∧ Own wr W.heap.size 64 2 A2 f c2 (fcells F) ∧ (∀ k, blkOf A2 = some k → blkOf A5 ≠ some k) ∧ Blk wr g 3 (ints (List.replicate n 0)).toArray ∧ Below w.heap.size w wr ∧ W.heap.size ≤ wr.heap.size) (fun _ s42 _ => mm - (intOf s42).toNat)
    case atStart => exact ⟨0, 1, _, _, rfl, rfl, by omega, o5i, hpi, o2i, hdi, bgi, HBi, hzi⟩
    case round =>
      clear o5i o2i hdi hpi HBi bgi hzi o2 bg2 HB2 hz2 hba
      obtain ⟨k, c5, A5, vs, rfl, rfl, hk, o5, hp, o2, hd, bg, HB, hz⟩ := hrel
      have hzw := HB.size
      by_cases hlt : k < mm
      · have hkI : (k : Int) < (mm : Int) := by omega
        obtain ⟨g5, rfl⟩ : ∃ g5, A5 = some ⟨g5, 0, none⟩ := by
          rcases o5.shape with ⟨_, h0, _⟩ | ⟨g5, e, _⟩
          · omega
          · exact ⟨g5, e⟩
        have hi2 : k < ((List.range (k + 1)).map (rowW F)).length := by simp
        have hi1 : k < vs.length := by rw [hp.1]; exact hi2
        obtain ⟨A', n', c', hv, ho', _⟩ := hp.2 k hi1 hi2
        simp only [List.getElem_map, List.getElem_range] at ho'
        have d0 := own_cell o5 k (by rw [List.getElem?_eq_getElem hi1, hv])
        have hcap' := ho'.cap
        have hn' : n' ≤ 600 := by
          have h1 := rowW_le F k
          have h2 : (rowW F k).length = n' := rd_flen ho'.rd
          omega
        have CP := packages_any A' n' c' (rowW F k) (1000000 * 2 ^ k) wr ho'.rd (by omega) (rowW_weight F HW1.out k) (pow_small (by omega))
        have hk1 : (k : Int) < (k : Int) + 1 := by omega
        have hk2 : IntKind.i64.wrap ((k : Int) + 1 - 1) = (k : Int) := (w64k (by omega) (by omega)).trans (by omega)
        have hk3 : IntKind.i64.wrap ((k : Int) + 1) = (k : Int) + 1 := w64k (by omega) (by omega)
        have hk0 : (0 : Int) ≤ (k : Int) := by omega
        clear hv hi1 hi2 ho'
        go_wp2_with fail
        refine CP.mono ?_
        rintro e w6 ⟨A6, c6, rfl, o6, hb6⟩
        clear CP d0
        have z6 := hb6.size
        have o56 := o5.below hb6
        have hp6 := hp.below hb6
        have o26 := o2.below hb6
        have bg6 := bg.below hb6 (by omega)
        have HB6 := HB.trans (hb6.mono hzw)
        have CM := merged_any A2 A6 f c2 (n' / 2) c6 F (pkgs 0 (rowW F k)) w6 o26.rd o6.rd (by omega) (by omega) o26.cap o6.cap
        have hbb5 := o5.blk g5 rfl
        clear o5 hp o2 bg HB hb6 o6
        go_wp2_with fail
        refine CM.mono ?_
        rintro e w7 ⟨A7, c7, rfl, o7, hb7⟩
        clear CM
        have z7 := hb7.size
        have o57 := o56.below hb7
        have hp7 := hp6.below hb7
        have o27 := o26.below hb7
        have bg7 := bg6.below hb7 (by omega)
        have HB7 := HB6.trans (hb7.mono (by omega))
        have o7' := o7.base_le (base' := W.heap.size) (by omega)
        have hd7 : ∀ k, blkOf A7 = some k → blkOf (some (⟨g5, 0, none⟩ : Addr)) ≠ some k := by
          intro k hk e
          simp only [blkOf, Option.map_some, Option.some.injEq] at e hk
          have := (o7.blk k hk).1
          omega
        have hz7 : W.heap.size ≤ w7.heap.size := by omega
        clear o56 hp6 o26 bg6 HB6 hb7 o7
        go_wp2_with (at_builtin; with_reducible refine wp_append El_rows rfl (s := .tmp 44) (x := .tmp 54) rfl rfl (o57.alloc _) rfl (rd_new (cs := [.slice A7 (f + n' / 2) c7]) (m := 1) rfl rfl) (by simp [Value.oneCell']) (by unfold maxLen; omega) (by omega) (by simp; omega) ?_; intro A8 c8 w8 o8 hg8 hat8)
        have hg78 := grown_alloc hg8
        have hp8 := hp7.push (x := rowW F (k + 1)) o7' hd7 hg78 (hat8.imp id fun h => ⟨_, h, by simp⟩)
        rw [show (List.range (k + 1)).map (rowW F) ++ [rowW F (k + 1)] = (List.range (k + 1 + 1)).map (rowW F) by rw [List.range_succ (n := k + 1), List.map_append]; rfl] at hp8
        have o28 : Own w8 W.heap.size 64 2 A2 f c2 (fcells F) := o27.other hg78 (fun k hk => hd k hk)
        have hd8 : ∀ k, blkOf A2 = some k → blkOf A8 ≠ some k := by
          intro k hk e
          rw [e] at hat8
          rcases hat8 with h | h
          · exact hd k hk h.symm
          · have := (o27.blk k hk).2
            rw [World.size_alloc] at h
            simp only [Option.some.injEq] at h
            omega
        have bg8 := bg7.grown hg78 (by simp [blkOf]; omega)
        have HB8 := below_grown HB7 hg78 o57 (by omega)
        have z8 := hg78.size
        go_roundw
        case rel => exact ⟨k + 1, c8, A8, vs ++ [.slice A7 (f + n' / 2) c7], by go_num, rfl, by omega, o8, hp8, o28, hd8, bg8, HB8, by omega⟩
        case measure => simp [intOf]; omega
      · have hkI : ¬ (k : Int) < (mm : Int) := by omega
        obtain rfl : k = mm := by omega
        have HRO := rowsOk_of o5 hp (show g < W.heap.size by omega)
        have hrr := rowW_room F (k + 1) (by rw [hfl]; exact HRM.out) k (by omega)
        rw [hfl, show k + 1 - k = 1 by omega] at hrr
        obtain ⟨q, hq⟩ : ∃ q, 2 * f - 2 = q := ⟨_, rfl⟩
        have hq1 : q + 2 = 2 * f := by omega
        rw [hq] at HE
        have CT := taken_any A5 (k + 1) c5 F q g n n (List.replicate n 0) wr HRO bg (by simp) (by omega) HW2.out (by omega) (fun i e => by obtain rfl : i = k := (by omega); omega) (fun v hv => (List.mem_replicate.1 hv).2)
        have hw1 : IntKind.i64.wrap (2 * (f : Int)) = 2 * (f : Int) := w64k (by omega) (by omega)
        have hw2 : IntKind.i64.wrap (2 * (f : Int) - 2) = (q : Int) := (w64k (by omega) (by omega)).trans (by omega)
        have HQ := Lib.hid hq1
        clear hq hq1 hrr HRO HMANY HFEW HRM
        go_wp2_with fail
        refine CT.mono ?_
        rintro e w9 ⟨rfl, b9, hg9⟩
        have HB9 := Below.grown HB hg9 hzw (fun k hk => by simp at hk; omega)
        have z9 := hg9.size
        rw [← HE.out] at b9
        go_wp2_with fail
        go_ret2
        exact ⟨g, hz1, by omega, rfl, b9, HB9⟩
end LenW
end Go.Proofs.Ytdfclgpkhfpkhaa

namespace Go.Proofs.Ytdfclgpkhfpkhaa
set_option linter.unusedVariables false
set_option linter.unusedSimpArgs false
set_option linter.unnecessarySimpa false
open Go.RowKit
namespace LenW

def winW (n t : Int) : Int := if n < 0 ∨ t < n then 0 else n
theorem winW_le (n t : Int) (h : 0 ≤ t) : 0 ≤ winW n t ∧ winW n t ≤ t := by unfold winW; split <;> omega
def costK (a l : List Int) : Nat → Int
  | 0 => 0
  | k + 1 => costK a l k + winW (a[k]?.getD 0) 1000000 * winW (l[k]?.getD 0) 15
theorem costK_le (a l : List Int) (k : Nat) : 0 ≤ costK a l k ∧ costK a l k ≤ 15000000 * (k : Int) := by
  induction k with
  | zero => simp [costK]
  | succ k ih =>
    rw [costK]
    have h1 := winW_le (a[k]?.getD 0) 1000000 (by omega)
    have h2 := winW_le (l[k]?.getD 0) 15 (by omega)
    have h3 := Int.mul_nonneg h1.1 h2.1
    have h4 := Int.mul_le_mul h1.2 h2.2 h2.1 (by omega)
    omega
/-- How many count. -/
def costN (n1 n2 : Nat) : Nat := min (min n1 n2) 257
def costW (a l : List Int) : Int := costK a l (costN a.length l.length)
theorem within_any (n t : Int) (w : World) (v : Int) (hv : winW n t = v) : Calls Try.prog 40 #[.int .i64 n, .int .i64 t] w fun e w' => e = .returned (.int .i64 v) ∧ Below w.heap.size w w' := by
  by_cases h1 : n < 0
  · obtain rfl : v = 0 := by rw [← hv, winW, if_pos (.inl h1)]
    clear hv
    go_enter Try.func40, Try.ntmps40
    go_wp2_with fail
    go_ret
    exact ⟨rfl, Below.refl _ _⟩
  · by_cases h2 : t < n
    · obtain rfl : v = 0 := by rw [← hv, winW, if_pos (.inr h2)]
      clear hv
      go_enter Try.func40, Try.ntmps40
      go_wp2_with fail
      go_ret
      exact ⟨rfl, Below.refl _ _⟩
    · obtain rfl : v = n := by rw [← hv, winW, if_neg (by omega)]
      clear hv
      go_enter Try.func40, Try.ntmps40
      go_wp2_with fail
      go_ret
      exact ⟨rfl, Below.refl _ _⟩
def Case1 (p : Nat) : Prop := p ≤ 257
def Case2 (p : Nat) : Prop := 257 < p
theorem caseA1 {p : Nat} (h : Case1 p) : (p : Int) ≤ 257 := by unfold Case1 at h; omega
theorem caseA2 {p : Nat} (h : Case2 p) : ¬ (p : Int) ≤ 257 := by unfold Case2 at h; omega
theorem caseB1 {p : Nat} (h : Case1 p) : ¬ (257 : Int) < (p : Int) := by unfold Case1 at h; omega
theorem caseB2 {p : Nat} (h : Case2 p) : (257 : Int) < (p : Int) := by unfold Case2 at h; omega
theorem caseC1 {p m : Nat} (h : Case1 p) (H : (p ≤ 257 → (p : Int) = (m : Int)) ∧ (257 < p → (257 : Int) = (m : Int))) : (p : Int) = (m : Int) := H.1 h
theorem caseC2 {p m : Nat} (h : Case2 p) (H : (p ≤ 257 → (p : Int) = (m : Int)) ∧ (257 < p → (257 : Int) = (m : Int))) : (257 : Int) = (m : Int) := H.2 h
set_option maxRecDepth 100000 in
set_option maxHeartbeats 4000000 in
theorem cost1_any (A1 A2 : Option Addr) (n1 c1 n2 c2 : Nat) (a l : List Int) (w : World) (h1 : Rd w w.heap.size 1 A1 n1 (ints a)) (h2 : Rd w w.heap.size 1 A2 n2 (ints l)) (hn1 : n1 ≤ 1000000) (hn2 : n2 ≤ 1000000) (v : Int) (hv : costW a l = v) (hcs : Case1 (min n1 n2)) :
    Calls Try.prog 18 #[.slice A1 n1 c1, .slice A2 n2 c2] w fun e w' => e = .returned (.int .i64 v) ∧ Below w.heap.size w w' := by
  have hl1 : a.length = n1 := rd_len h1
  have hl2 : l.length = n2 := rd_len h2
  have HV := Lib.hid (show costK a l (costN n1 n2) = v by rw [← hv, costW, hl1, hl2])
  obtain ⟨m, hm⟩ : ∃ m, costN n1 n2 = m := ⟨_, rfl⟩
  rw [hm] at HV
  have hm1 : m ≤ n1 ∧ m ≤ n2 ∧ m ≤ 257 ∧ (m = n1 ∨ m = n2 ∨ m = 257) := by unfold costN at hm; omega
  clear hv hm
  obtain ⟨p, hp⟩ : ∃ p : Nat, p = min n1 n2 := ⟨_, rfl⟩
  have hpn : (if n2 < n1 then (n2 : Int) else (n1 : Int)) = (p : Int) := by split <;> omega
  have HM := Lib.hid (show (p ≤ 257 → (p : Int) = (m : Int)) ∧ (257 < p → (257 : Int) = (m : Int)) by omega)
  have HM1 := Lib.hid hm1
  rw [← hp] at hcs
  clear hp hm1
  have hp7I := caseA1 hcs
  have hp7J := caseB1 hcs
  go_enter Try.func18, Try.ntmps18
  go_wp2_with fail
  rw [caseC1 hcs HM.out]
  have hm1 := HM1.out.1
  have hm2 := HM1.out.2.1
  have hm3 := HM1.out.2.2.1
  clear hpn HM HM1 hp7I hp7J hcs
  go_loopw [5, 12] (fun u i wr => ∃ k : Nat, i = .int .i64 k ∧ k ≤ m ∧ u = .int .i64 (costK a l k) ∧ Below w.heap.size w wr) (fun _ i _ => m - (intOf i).toNat)
  case atStart => exact ⟨0, rfl, by omega, rfl, Below.refl _ _⟩
  case round =>
    obtain ⟨k, rfl, hk, rfl, HB⟩ := hrel
    have hz := HB.size
    by_cases hlt : k < m
    · have hkl1 : k < a.length := by omega
      have hkl2 : k < l.length := by omega
      obtain ⟨b1, o1, rfl, hb1, hc1⟩ := rd_ints h1 (by omega)
      obtain ⟨b2, o2, rfl, hb2, hc2⟩ := rd_ints h2 (by omega)
      have e1 : w.cell? ⟨b1, o1 + k, none⟩ = some (.int .i64 a[k]) := hc1 k hkl1
      have e2 : w.cell? ⟨b2, o2 + k, none⟩ = some (.int .i64 l[k]) := hc2 k hkl2
      have HS := Lib.hid (show costK a l (k + 1) = costK a l k + winW a[k] 1000000 * winW l[k] 15 by rw [costK, List.getElem?_eq_getElem hkl1, List.getElem?_eq_getElem hkl2]; rfl)
      have hcl := costK_le a l k
      obtain ⟨u, hu⟩ : ∃ u, costK a l k = u := ⟨_, rfl⟩
      obtain ⟨x, hx⟩ : ∃ x, a[k] = x := ⟨_, rfl⟩
      obtain ⟨y, hy⟩ : ∃ y, l[k] = y := ⟨_, rfl⟩
      obtain ⟨x', hx'⟩ : ∃ x', winW x 1000000 = x' := ⟨_, rfl⟩
      obtain ⟨y', hy'⟩ : ∃ y', winW y 15 = y' := ⟨_, rfl⟩
      have q1 := winW_le x 1000000 (by omega)
      have q2 := winW_le y 15 (by omega)
      rw [hx, hy, hx', hy', hu] at HS
      rw [hx] at e1
      rw [hy] at e2
      rw [hx'] at q1
      rw [hy'] at q2
      rw [hu] at hcl ⊢
      have q3 := Int.mul_nonneg q1.1 q2.1
      have q4 := Int.mul_le_mul q1.2 q2.2 q2.1 (by omega)
      have E1 := Lib.hid e1
      have E2 := Lib.hid e2
      have HX := Lib.hid hx'
      have HY := Lib.hid hy'
      have hmul : IntKind.i64.wrap (x' * y') = x' * y' := w64k (by omega) (by omega)
      have hadd : IntKind.i64.wrap (u + x' * y') = u + x' * y' := w64k (by omega) (by omega)
      have hkI : (k : Int) < (m : Int) := by omega
      have hk0 : (0 : Int) ≤ (k : Int) := by omega
      have hkn1 : (k : Int) < (n1 : Int) := by omega
      have hkn2 : (k : Int) < (n2 : Int) := by omega
      have HN := Lib.hid hm3
      clear hc1 hc2 hu hx hy hx' hy' e1 e2 q1 q2 q3 q4 hcl
      go_wp2_with fail
      refine wp_region_held_drew (S := (fun w' => w'.cell? ⟨b1, o1 + k, none⟩ = some (.int .i64 x) ∧ w'.cell? ⟨b2, o2 + k, none⟩ = some (.int .i64 y))) (by kernel_rfl) ?_ (fun hHeld => ?_)
      · replace HB := Below.drew HB; (try dsimp only); exact ⟨(HB.cell hb1).trans E1.out, (HB.cell hb2).trans E2.out⟩
      replace HB := Below.drew HB
      have zHB := HB.size
      refine take_movev (v := ?vu1x0) 0 (Operand.tmp 5) rfl rfl (by first | exact .inl rfl | exact .inr rfl) rfl (by kernel_rfl) (by kernel_rfl) (by kernel_rfl) (fun _ _ _ h => h) (by assumption) ?yu1x0 ?ru1x0
      case yu1x0 => (go_simp; try (with_reducible rfl))
      simp only [List.setIfInBounds_toArray, List.set_cons_zero, List.set_cons_succ]
      refine take_movev (v := ?vu1x1) 1 (Operand.tmp 0) rfl rfl (by first | exact .inl rfl | exact .inr rfl) rfl (by kernel_rfl) (by kernel_rfl) (by kernel_rfl) (fun _ _ _ h => h) (by assumption) ?yu1x1 ?ru1x1
      case yu1x1 => (go_simp; try (with_reducible rfl))
      simp only [List.setIfInBounds_toArray, List.set_cons_zero, List.set_cons_succ]
      refine take_movev (v := ?vu1x2) 2 (Operand.tmp 6) rfl rfl (by first | exact .inl rfl | exact .inr rfl) rfl (by kernel_rfl) (by kernel_rfl) (by kernel_rfl) (fun _ _ _ h => h) (by assumption) ?yu1x2 ?ru1x2
      case yu1x2 => (go_simp; try (with_reducible rfl))
      simp only [List.setIfInBounds_toArray, List.set_cons_zero, List.set_cons_succ]
      refine take_op (v := ?vu1x3) 3 (Op.indexAddr 22 (Operand.tmp 16) (Operand.tmp 17)) 0 rfl rfl rfl rfl rfl (by kernel_rfl) (by kernel_rfl) (by kernel_rfl) (fun _ _ _ h => h) ?yu1x3 (by assumption) ?ru1x3
      case yu1x3 => (intro w' hSw; (try dsimp only at hSw); go_simp; try (with_reducible rfl))
      simp only [List.setIfInBounds_toArray, List.set_cons_zero, List.set_cons_succ]
      refine take_op (v := ?vu1x4) 4 (Op.load 3 (Operand.tmp 18)) 3 rfl rfl rfl rfl rfl (by kernel_rfl) (by kernel_rfl) (by kernel_rfl) (fun _ _ _ h => h) ?yu1x4 (by assumption) ?ru1x4
      case yu1x4 => (intro w' hSw; (try dsimp only at hSw); go_simp; try (with_reducible rfl))
      simp only [List.setIfInBounds_toArray, List.set_cons_zero, List.set_cons_succ]
      refine take_movev (v := ?vu1x6) 6 (Operand.tmp 1) rfl rfl (by first | exact .inl rfl | exact .inr rfl) rfl (by kernel_rfl) (by kernel_rfl) (by kernel_rfl) (fun _ _ _ h => h) (by assumption) ?yu1x6 ?ru1x6
      case yu1x6 => (go_simp; try (with_reducible rfl))
      simp only [List.setIfInBounds_toArray, List.set_cons_zero, List.set_cons_succ]
      refine take_movev (v := ?vu1x7) 7 (Operand.tmp 6) rfl rfl (by first | exact .inl rfl | exact .inr rfl) rfl (by kernel_rfl) (by kernel_rfl) (by kernel_rfl) (fun _ _ _ h => h) (by assumption) ?yu1x7 ?ru1x7
      case yu1x7 => (go_simp; try (with_reducible rfl))
      simp only [List.setIfInBounds_toArray, List.set_cons_zero, List.set_cons_succ]
      refine take_op (v := ?vu1x8) 8 (Op.indexAddr 22 (Operand.tmp 21) (Operand.tmp 22)) 0 rfl rfl rfl rfl rfl (by kernel_rfl) (by kernel_rfl) (by kernel_rfl) (fun _ _ _ h => h) ?yu1x8 (by assumption) ?ru1x8
      case yu1x8 => (intro w' hSw; (try dsimp only at hSw); go_simp; try (with_reducible rfl))
      simp only [List.setIfInBounds_toArray, List.set_cons_zero, List.set_cons_succ]
      refine take_op (v := ?vu1x9) 9 (Op.load 3 (Operand.tmp 23)) 3 rfl rfl rfl rfl rfl (by kernel_rfl) (by kernel_rfl) (by kernel_rfl) (fun _ _ _ h => h) ?yu1x9 (by assumption) ?ru1x9
      case yu1x9 => (intro w' hSw; (try dsimp only at hSw); go_simp; try (with_reducible rfl))
      simp only [List.setIfInBounds_toArray, List.set_cons_zero, List.set_cons_succ]
      refine wpAnyH_ready (rs := [5]) (by kernel_rfl) (by simp) (AllReadyH.cons rfl (fun K5 hK5 => ?ku1x5) AllReadyH.nil)
      refine take_calls 5 40 [Operand.tmp 19, Operand.const (Value.int IntKind.i64 1000000)] #[3, 3] rfl rfl (by kernel_rfl) (fun args w => run_enter Try.func40 (by kernel_rfl) rfl args w) ?_
      refine (within_any x 1000000 _ x' HX.out).mono ?_
      rintro e w5 ⟨rfl, hb5⟩
      refine ⟨_, rfl, ?_⟩
      have z5 := hb5.size
      try simp only [World.size_drew] at z5
      replace HB := HB.trans (hb5.mono (by first | exact HB.size | omega))
      have zHB5 := HB.size
      refine hK5.out _ _ ?su1x5 (fun hHeld => ?ru1x5)
      case su1x5 => ((try dsimp only); exact ⟨(HB.cell hb1).trans E1.out, (HB.cell hb2).trans E2.out⟩)
      try simp only [List.setIfInBounds_toArray, List.set_cons_zero, List.set_cons_succ]
      refine wpAnyH_ready (rs := [10]) (by kernel_rfl) (by simp) (AllReadyH.cons rfl (fun K10 hK10 => ?ku1x10) AllReadyH.nil)
      refine take_calls 10 40 [Operand.tmp 24, Operand.const (Value.int IntKind.i64 15)] #[3, 3] rfl rfl (by kernel_rfl) (fun args w => run_enter Try.func40 (by kernel_rfl) rfl args w) ?_
      refine (within_any y 15 _ y' HY.out).mono ?_
      rintro e w10 ⟨rfl, hb10⟩
      refine ⟨_, rfl, ?_⟩
      have z10 := hb10.size
      try simp only [World.size_drew] at z10
      replace HB := HB.trans (hb10.mono (by first | exact HB.size | omega))
      have zHB10 := HB.size
      refine hK10.out _ _ ?su1x10 (fun hHeld => ?ru1x10)
      case su1x10 => ((try dsimp only); exact ⟨(HB.cell hb1).trans E1.out, (HB.cell hb2).trans E2.out⟩)
      try simp only [List.setIfInBounds_toArray, List.set_cons_zero, List.set_cons_succ]
      refine take_op (v := ?vu1x11) 11 (Op.binOp BinOp.mul 3 (Operand.tmp 20) (Operand.tmp 25) 3) 3 rfl rfl rfl rfl rfl (by kernel_rfl) (by kernel_rfl) (by kernel_rfl) (fun _ _ _ h => h) ?yu1x11 (by assumption) ?ru1x11
      case yu1x11 => (intro w' hSw; (try dsimp only at hSw); go_simp; try (with_reducible rfl))
      simp only [List.setIfInBounds_toArray, List.set_cons_zero, List.set_cons_succ]
      refine take_op (v := ?vu1x12) 12 (Op.binOp BinOp.add 3 (Operand.tmp 15) (Operand.tmp 26) 3) 3 rfl rfl rfl rfl rfl (by kernel_rfl) (by kernel_rfl) (by kernel_rfl) (fun _ _ _ h => h) ?yu1x12 (by assumption) ?ru1x12
      case yu1x12 => (intro w' hSw; (try dsimp only at hSw); go_simp; try (with_reducible rfl))
      simp only [List.setIfInBounds_toArray, List.set_cons_zero, List.set_cons_succ]
      refine take_op (v := ?vu1x13) 13 (Op.assign (Operand.tmp 27)) 3 rfl rfl rfl rfl rfl (by kernel_rfl) (by kernel_rfl) (by kernel_rfl) (fun _ _ _ h => h) ?yu1x13 (by assumption) ?ru1x13
      case yu1x13 => (intro w' hSw; (try dsimp only at hSw); go_simp; try (with_reducible rfl))
      simp only [List.setIfInBounds_toArray, List.set_cons_zero, List.set_cons_succ]
      refine wpAnyH_done (by kernel_rfl) ?_ _
      clear hHeld
      go_wp2_with fail
      go_roundw
      case rel => exact ⟨k + 1, by go_num, by omega, by rw [HS.out], HB⟩
      case measure => simp [intOf]; omega
    · have hkI : ¬ (k : Int) < (m : Int) := by omega
      obtain rfl : k = m := by omega
      have HV2 := HV.out
      rw [HV2]
      clear HV2
      go_wp2_with fail
      try rw [Exit.noGoto_ret]
      go_ret
      exact ⟨rfl, HB⟩
set_option maxRecDepth 100000 in
set_option maxHeartbeats 4000000 in
theorem cost2_any (A1 A2 : Option Addr) (n1 c1 n2 c2 : Nat) (a l : List Int) (w : World) (h1 : Rd w w.heap.size 1 A1 n1 (ints a)) (h2 : Rd w w.heap.size 1 A2 n2 (ints l)) (hn1 : n1 ≤ 1000000) (hn2 : n2 ≤ 1000000) (v : Int) (hv : costW a l = v) (hcs : Case2 (min n1 n2)) :
    Calls Try.prog 18 #[.slice A1 n1 c1, .slice A2 n2 c2] w fun e w' => e = .returned (.int .i64 v) ∧ Below w.heap.size w w' := by
  have hl1 : a.length = n1 := rd_len h1
  have hl2 : l.length = n2 := rd_len h2
  have HV := Lib.hid (show costK a l (costN n1 n2) = v by rw [← hv, costW, hl1, hl2])
  obtain ⟨m, hm⟩ : ∃ m, costN n1 n2 = m := ⟨_, rfl⟩
  rw [hm] at HV
  have hm1 : m ≤ n1 ∧ m ≤ n2 ∧ m ≤ 257 ∧ (m = n1 ∨ m = n2 ∨ m = 257) := by unfold costN at hm; omega
  clear hv hm
  obtain ⟨p, hp⟩ : ∃ p : Nat, p = min n1 n2 := ⟨_, rfl⟩
  have hpn : (if n2 < n1 then (n2 : Int) else (n1 : Int)) = (p : Int) := by split <;> omega
  have HM := Lib.hid (show (p ≤ 257 → (p : Int) = (m : Int)) ∧ (257 < p → (257 : Int) = (m : Int)) by omega)
  have HM1 := Lib.hid hm1
  rw [← hp] at hcs
  clear hp hm1
  have hp7I := caseA2 hcs
  have hp7J := caseB2 hcs
  go_enter Try.func18, Try.ntmps18
  go_wp2_with fail
  rw [caseC2 hcs HM.out]
  have hm1 := HM1.out.1
  have hm2 := HM1.out.2.1
  have hm3 := HM1.out.2.2.1
  clear hpn HM HM1 hp7I hp7J hcs
  go_loopw [5, 12] (fun u i wr => ∃ k : Nat, i = .int .i64 k ∧ k ≤ m ∧ u = .int .i64 (costK a l k) ∧ Below w.heap.size w wr) (fun _ i _ => m - (intOf i).toNat)
  case atStart => exact ⟨0, rfl, by omega, rfl, Below.refl _ _⟩
  case round =>
    obtain ⟨k, rfl, hk, rfl, HB⟩ := hrel
    have hz := HB.size
    by_cases hlt : k < m
    · have hkl1 : k < a.length := by omega
      have hkl2 : k < l.length := by omega
      obtain ⟨b1, o1, rfl, hb1, hc1⟩ := rd_ints h1 (by omega)
      obtain ⟨b2, o2, rfl, hb2, hc2⟩ := rd_ints h2 (by omega)
      have e1 : w.cell? ⟨b1, o1 + k, none⟩ = some (.int .i64 a[k]) := hc1 k hkl1
      have e2 : w.cell? ⟨b2, o2 + k, none⟩ = some (.int .i64 l[k]) := hc2 k hkl2
      have HS := Lib.hid (show costK a l (k + 1) = costK a l k + winW a[k] 1000000 * winW l[k] 15 by rw [costK, List.getElem?_eq_getElem hkl1, List.getElem?_eq_getElem hkl2]; rfl)
      have hcl := costK_le a l k
      obtain ⟨u, hu⟩ : ∃ u, costK a l k = u := ⟨_, rfl⟩
      obtain ⟨x, hx⟩ : ∃ x, a[k] = x := ⟨_, rfl⟩
      obtain ⟨y, hy⟩ : ∃ y, l[k] = y := ⟨_, rfl⟩
      obtain ⟨x', hx'⟩ : ∃ x', winW x 1000000 = x' := ⟨_, rfl⟩
      obtain ⟨y', hy'⟩ : ∃ y', winW y 15 = y' := ⟨_, rfl⟩
      have q1 := winW_le x 1000000 (by omega)
      have q2 := winW_le y 15 (by omega)
      rw [hx, hy, hx', hy', hu] at HS
      rw [hx] at e1
      rw [hy] at e2
      rw [hx'] at q1
      rw [hy'] at q2
      rw [hu] at hcl ⊢
      have q3 := Int.mul_nonneg q1.1 q2.1
      have q4 := Int.mul_le_mul q1.2 q2.2 q2.1 (by omega)
      have E1 := Lib.hid e1
      have E2 := Lib.hid e2
      have HX := Lib.hid hx'
      have HY := Lib.hid hy'
      have hmul : IntKind.i64.wrap (x' * y') = x' * y' := w64k (by omega) (by omega)
      have hadd : IntKind.i64.wrap (u + x' * y') = u + x' * y' := w64k (by omega) (by omega)
      have hkI : (k : Int) < (m : Int) := by omega
      have hk0 : (0 : Int) ≤ (k : Int) := by omega
      have hkn1 : (k : Int) < (n1 : Int) := by omega
      have hkn2 : (k : Int) < (n2 : Int) := by omega
      have HN := Lib.hid hm3
      clear hc1 hc2 hu hx hy hx' hy' e1 e2 q1 q2 q3 q4 hcl
      go_wp2_with fail
      refine wp_region_held_drew (S := (fun w' => w'.cell? ⟨b1, o1 + k, none⟩ = some (.int .i64 x) ∧ w'.cell? ⟨b2, o2 + k, none⟩ = some (.int .i64 y))) (by kernel_rfl) ?_ (fun hHeld => ?_)
      · replace HB := Below.drew HB; (try dsimp only); exact ⟨(HB.cell hb1).trans E1.out, (HB.cell hb2).trans E2.out⟩
      replace HB := Below.drew HB
      have zHB := HB.size
      refine take_movev (v := ?vu2x0) 0 (Operand.tmp 5) rfl rfl (by first | exact .inl rfl | exact .inr rfl) rfl (by kernel_rfl) (by kernel_rfl) (by kernel_rfl) (fun _ _ _ h => h) (by assumption) ?yu2x0 ?ru2x0
      case yu2x0 => (go_simp; try (with_reducible rfl))
      simp only [List.setIfInBounds_toArray, List.set_cons_zero, List.set_cons_succ]
      refine take_movev (v := ?vu2x1) 1 (Operand.tmp 0) rfl rfl (by first | exact .inl rfl | exact .inr rfl) rfl (by kernel_rfl) (by kernel_rfl) (by kernel_rfl) (fun _ _ _ h => h) (by assumption) ?yu2x1 ?ru2x1
      case yu2x1 => (go_simp; try (with_reducible rfl))
      simp only [List.setIfInBounds_toArray, List.set_cons_zero, List.set_cons_succ]
      refine take_movev (v := ?vu2x2) 2 (Operand.tmp 6) rfl rfl (by first | exact .inl rfl | exact .inr rfl) rfl (by kernel_rfl) (by kernel_rfl) (by kernel_rfl) (fun _ _ _ h => h) (by assumption) ?yu2x2 ?ru2x2
      case yu2x2 => (go_simp; try (with_reducible rfl))
      simp only [List.setIfInBounds_toArray, List.set_cons_zero, List.set_cons_succ]
      refine take_op (v := ?vu2x3) 3 (Op.indexAddr 22 (Operand.tmp 16) (Operand.tmp 17)) 0 rfl rfl rfl rfl rfl (by kernel_rfl) (by kernel_rfl) (by kernel_rfl) (fun _ _ _ h => h) ?yu2x3 (by assumption) ?ru2x3
      case yu2x3 => (intro w' hSw; (try dsimp only at hSw); go_simp; try (with_reducible rfl))
      simp only [List.setIfInBounds_toArray, List.set_cons_zero, List.set_cons_succ]
      refine take_op (v := ?vu2x4) 4 (Op.load 3 (Operand.tmp 18)) 3 rfl rfl rfl rfl rfl (by kernel_rfl) (by kernel_rfl) (by kernel_rfl) (fun _ _ _ h => h) ?yu2x4 (by assumption) ?ru2x4
      case yu2x4 => (intro w' hSw; (try dsimp only at hSw); go_simp; try (with_reducible rfl))
      simp only [List.setIfInBounds_toArray, List.set_cons_zero, List.set_cons_succ]
      refine take_movev (v := ?vu2x6) 6 (Operand.tmp 1) rfl rfl (by first | exact .inl rfl | exact .inr rfl) rfl (by kernel_rfl) (by kernel_rfl) (by kernel_rfl) (fun _ _ _ h => h) (by assumption) ?yu2x6 ?ru2x6
      case yu2x6 => (go_simp; try (with_reducible rfl))
      simp only [List.setIfInBounds_toArray, List.set_cons_zero, List.set_cons_succ]
      refine take_movev (v := ?vu2x7) 7 (Operand.tmp 6) rfl rfl (by first | exact .inl rfl | exact .inr rfl) rfl (by kernel_rfl) (by kernel_rfl) (by kernel_rfl) (fun _ _ _ h => h) (by assumption) ?yu2x7 ?ru2x7
      case yu2x7 => (go_simp; try (with_reducible rfl))
      simp only [List.setIfInBounds_toArray, List.set_cons_zero, List.set_cons_succ]
      refine take_op (v := ?vu2x8) 8 (Op.indexAddr 22 (Operand.tmp 21) (Operand.tmp 22)) 0 rfl rfl rfl rfl rfl (by kernel_rfl) (by kernel_rfl) (by kernel_rfl) (fun _ _ _ h => h) ?yu2x8 (by assumption) ?ru2x8
      case yu2x8 => (intro w' hSw; (try dsimp only at hSw); go_simp; try (with_reducible rfl))
      simp only [List.setIfInBounds_toArray, List.set_cons_zero, List.set_cons_succ]
      refine take_op (v := ?vu2x9) 9 (Op.load 3 (Operand.tmp 23)) 3 rfl rfl rfl rfl rfl (by kernel_rfl) (by kernel_rfl) (by kernel_rfl) (fun _ _ _ h => h) ?yu2x9 (by assumption) ?ru2x9
      case yu2x9 => (intro w' hSw; (try dsimp only at hSw); go_simp; try (with_reducible rfl))
      simp only [List.setIfInBounds_toArray, List.set_cons_zero, List.set_cons_succ]
      refine wpAnyH_ready (rs := [5]) (by kernel_rfl) (by simp) (AllReadyH.cons rfl (fun K5 hK5 => ?ku2x5) AllReadyH.nil)
      refine take_calls 5 40 [Operand.tmp 19, Operand.const (Value.int IntKind.i64 1000000)] #[3, 3] rfl rfl (by kernel_rfl) (fun args w => run_enter Try.func40 (by kernel_rfl) rfl args w) ?_
      refine (within_any x 1000000 _ x' HX.out).mono ?_
      rintro e w5 ⟨rfl, hb5⟩
      refine ⟨_, rfl, ?_⟩
      have z5 := hb5.size
      try simp only [World.size_drew] at z5
      replace HB := HB.trans (hb5.mono (by first | exact HB.size | omega))
      have zHB5 := HB.size
      refine hK5.out _ _ ?su2x5 (fun hHeld => ?ru2x5)
      case su2x5 => ((try dsimp only); exact ⟨(HB.cell hb1).trans E1.out, (HB.cell hb2).trans E2.out⟩)
      try simp only [List.setIfInBounds_toArray, List.set_cons_zero, List.set_cons_succ]
      refine wpAnyH_ready (rs := [10]) (by kernel_rfl) (by simp) (AllReadyH.cons rfl (fun K10 hK10 => ?ku2x10) AllReadyH.nil)
      refine take_calls 10 40 [Operand.tmp 24, Operand.const (Value.int IntKind.i64 15)] #[3, 3] rfl rfl (by kernel_rfl) (fun args w => run_enter Try.func40 (by kernel_rfl) rfl args w) ?_
      refine (within_any y 15 _ y' HY.out).mono ?_
      rintro e w10 ⟨rfl, hb10⟩
      refine ⟨_, rfl, ?_⟩
      have z10 := hb10.size
      try simp only [World.size_drew] at z10
      replace HB := HB.trans (hb10.mono (by first | exact HB.size | omega))
      have zHB10 := HB.size
      refine hK10.out _ _ ?su2x10 (fun hHeld => ?ru2x10)
      case su2x10 => ((try dsimp only); exact ⟨(HB.cell hb1).trans E1.out, (HB.cell hb2).trans E2.out⟩)
      try simp only [List.setIfInBounds_toArray, List.set_cons_zero, List.set_cons_succ]
      refine take_op (v := ?vu2x11) 11 (Op.binOp BinOp.mul 3 (Operand.tmp 20) (Operand.tmp 25) 3) 3 rfl rfl rfl rfl rfl (by kernel_rfl) (by kernel_rfl) (by kernel_rfl) (fun _ _ _ h => h) ?yu2x11 (by assumption) ?ru2x11
      case yu2x11 => (intro w' hSw; (try dsimp only at hSw); go_simp; try (with_reducible rfl))
      simp only [List.setIfInBounds_toArray, List.set_cons_zero, List.set_cons_succ]
      refine take_op (v := ?vu2x12) 12 (Op.binOp BinOp.add 3 (Operand.tmp 15) (Operand.tmp 26) 3) 3 rfl rfl rfl rfl rfl (by kernel_rfl) (by kernel_rfl) (by kernel_rfl) (fun _ _ _ h => h) ?yu2x12 (by assumption) ?ru2x12
      case yu2x12 => (intro w' hSw; (try dsimp only at hSw); go_simp; try (with_reducible rfl))
      simp only [List.setIfInBounds_toArray, List.set_cons_zero, List.set_cons_succ]
      refine take_op (v := ?vu2x13) 13 (Op.assign (Operand.tmp 27)) 3 rfl rfl rfl rfl rfl (by kernel_rfl) (by kernel_rfl) (by kernel_rfl) (fun _ _ _ h => h) ?yu2x13 (by assumption) ?ru2x13
      case yu2x13 => (intro w' hSw; (try dsimp only at hSw); go_simp; try (with_reducible rfl))
      simp only [List.setIfInBounds_toArray, List.set_cons_zero, List.set_cons_succ]
      refine wpAnyH_done (by kernel_rfl) ?_ _
      clear hHeld
      go_wp2_with fail
      go_roundw
      case rel => exact ⟨k + 1, by go_num, by omega, by rw [HS.out], HB⟩
      case measure => simp [intOf]; omega
    · have hkI : ¬ (k : Int) < (m : Int) := by omega
      obtain rfl : k = m := by omega
      have HV2 := HV.out
      rw [HV2]
      clear HV2
      go_wp2_with fail
      try rw [Exit.noGoto_ret]
      go_ret
      exact ⟨rfl, HB⟩
theorem cost_any (A1 A2 : Option Addr) (n1 c1 n2 c2 : Nat) (a l : List Int) (w : World) (h1 : Rd w w.heap.size 1 A1 n1 (ints a)) (h2 : Rd w w.heap.size 1 A2 n2 (ints l)) (hn1 : n1 ≤ 1000000) (hn2 : n2 ≤ 1000000) (v : Int) (hv : costW a l = v) :
    Calls Try.prog 18 #[.slice A1 n1 c1, .slice A2 n2 c2] w fun e w' => e = .returned (.int .i64 v) ∧ Below w.heap.size w w' := by
  by_cases h : min n1 n2 ≤ 257
  · exact cost1_any A1 A2 n1 c1 n2 c2 a l w h1 h2 hn1 hn2 v hv h
  · exact cost2_any A1 A2 n1 c1 n2 c2 a l w h1 h2 hn1 hn2 v hv (by unfold Case2; omega)
end LenW
end Go.Proofs.Ytdfclgpkhfpkhaa

namespace Go.Proofs.Ytdfclgpkhfpkhaa
set_option linter.unusedVariables false
set_option linter.unusedSimpArgs false
set_option linter.unnecessarySimpa false
open Go.RowKit
namespace LenW

theorem winW_no (n t : Int) (h : n < 0 ∨ t < n) : winW n t = 0 := by rw [winW, if_pos h]
theorem winW_ok (n t : Int) (h : 0 ≤ n) (h2 : n ≤ t) : winW n t = n := by rw [winW, if_neg (by omega)]
end LenW
end Go.Proofs.Ytdfclgpkhfpkhaa
