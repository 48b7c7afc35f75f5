/- Walk of the statement on contraries and rows of sentences (SieveNot). Walk of the statement on sentences that were written (SieveBack). -/
import Derived.Test.YtdeiehgghhiijaaDoorSieJ
namespace Go.Proofs.YtdeiehgghhiijaaDoor
set_option linter.unusedVariables false
set_option linter.unusedSimpArgs false
set_option linter.unnecessarySimpa false
open Go.RowKit
namespace SieW
open WanW (w64k str_cat)

theorem facS_err {en : Int} {fn fs : List Wd → Nat → Nat → PR} {l : List Wd} {sz dp : Nat} {e a : Int} (hn : ∀ l sz dp e a, fn l sz dp = .err e a → e = 3 ∨ e = 380) (hs : ∀ l sz dp e a, fs l sz dp = .err e a → e = 3 ∨ e = 380)
    (h : facS en fn fs l sz dp = .err e a) : e = 3 ∨ e = 380 := by
  unfold facS at h
  split at h
  · split at h
    · cases h; exact .inl rfl
    · split at h
      · cases h
      · cases h; exact .inr rfl
  · split at h
    · split at h
      · cases h; exact .inl rfl
      · split at h
        · cases h
        · cases h; exact .inr rfl
    · split at h
      · split at h
        · cases h; exact .inl rfl
        · cases h
      · split at h
        · split at h
          · cases h; exact .inl rfl
          · split at h
            · cases h
            · exact hn _ _ _ _ _ h
        · split at h
          · split at h
            · cases h; exact .inl rfl
            · split at h
              · split at h
                · cases h
                · cases h; exact .inr rfl
              · exact hs _ _ _ _ _ h
          · cases h; exact .inr rfl
theorem pG_err (en : Int) : ∀ (f m : Nat) (acc : List Nd) (l : List Wd) (sz dp : Nat) (e a : Int), pG en f m acc l sz dp = .err e a → e = 3 ∨ e = 380
  | 0, _, _, _, _, _, _, _, h => by simp [pG] at h
  | f + 1, 0, acc, l, sz, dp, e, a, h => by
    rw [pG] at h
    exact facS_err (fun l sz dp e a => pG_err en f 0 [] l sz dp e a) (fun l sz dp e a => pG_err en f 2 [] l sz dp e a) h
  | f + 1, m + 1, acc, l, sz, dp, e, a, h => by
    rw [pG] at h
    split at h
    · split at h
      · exact pG_err en f (m + 1) _ _ _ _ _ _ h
      · cases h
    · exact pG_err en f m _ _ _ _ _ _ h
theorem parse_err {s : List UInt8} {p e : Int} (h : parseP s = (none, p, e)) : e = 3 ∨ e = 380 := by
  rw [parse_pM] at h
  split at h
  · cases h; exact .inl rfl
  · split at h
    · split at h
      · cases h
      · cases h; exact .inr rfl
    · next h1 => cases h; exact pG_err _ _ _ _ _ _ _ _ _ h1
    · next h1 => exact absurd h1 (pM_out _ _ _ _ _ _ (by omega))
theorem parse_fine {s : List UInt8} {n : Nd} {z : Nat} {p e : Int} (h : parseP s = (some (n, z), p, e)) : e = 0 := by
  rw [parse_pM] at h
  split at h
  · cases h
  · split at h
    · split at h
      · cases h; rfl
      · cases h
    · cases h
    · cases h
/-- Parse's answer, whatever the text. -/
theorem parse_some (s : List UInt8) (w : World) (hW : WanW.Wo w) (hs : s.length ≤ 100000) (p e : Int) (hp : (parseP s).2 = (p, e)) :
    Calls Tryd.prog 8 #[str s] w fun r w' => ∃ x, r = .returned (.tuple #[.pointer x, .int .i64 p, .int .i64 e]) ∧ Below w.heap.size w w' := by
  obtain ⟨⟨n, p', e'⟩, h⟩ : ∃ r, parseP s = r := ⟨_, rfl⟩
  rw [h] at hp; cases hp
  cases n with
  | none => exact (parse_no_any h w hW hs).mono fun r w' ⟨h1, h2⟩ => ⟨_, h1, h2⟩
  | some nz => obtain ⟨n, z⟩ := nz; exact (parse_sv_any h w hW hs).mono fun r w' ⟨g, h1, h2, h3⟩ => ⟨_, h1, h3⟩

theorem joined_any (o : Bool) {a b : List UInt8} {n1 n2 : Nd} {z1 z2 : Nat} {p1 p2 e1 e2 : Int} (h1 : parseP a = (some (n1, z1), p1, e1)) (h2 : parseP b = (some (n2, z2), p2, e2)) (hab : a.length + b.length ≤ 900) (w : World) (hW : WanW.Wo w) :
    Calls Tryd.prog 8 #[str (joinT o a b)] w fun r w' => ∃ (x : Option Addr) (e p : Int), r = .returned (.tuple #[.pointer x, .int .i64 p, .int .i64 e]) ∧
      (e = 3 ∨ (e = 0 ∧ ∃ g n z, x = some ⟨g, 0, none⟩ ∧ Sv w' g n z ∧ ∀ q t d, meetN q t d n = if o = true then (meetN q t d n1 || meetN q t d n2) else (meetN q t d n1 && meetN q t d n2))) ∧ Below w.heap.size w w' := by
  have hT : (joinT o a b).length ≤ 1000 := by cases o <;> simp [joinT] <;> omega
  rcases join_parse o a b n1 n2 z1 z2 p1 p2 e1 e2 h1 h2 hab with ⟨p, h⟩ | ⟨n, z, h, hm⟩
  · exact (parse_no_any h w hW (by omega)).mono fun r w' ⟨h1, h2⟩ => ⟨_, _, _, h1, .inl rfl, h2⟩
  · exact (parse_sv_any h w hW (by omega)).mono fun r w' ⟨g, h1, h2, h3⟩ => ⟨_, _, _, h1, .inr ⟨rfl, g, n, z, rfl, h2, hm⟩, h3⟩

set_option maxRecDepth 100000 in
set_option maxHeartbeats 16000000 in
theorem not_law (a b : List UInt8) (q t : Int) (d : List UInt8) (w : World) (hW : WanW.Wo w) (ha : a.length ≤ 140737488355328) (hb : b.length ≤ 140737488355328) :
    Calls Tryd.prog 6 #[str a, str b, rcv q t d] w fun e w' => e = .returned (.bool true) ∧ Below w.heap.size w w' := by
  have HB1 := (Below.refl w.heap.size w).alloc (Nat.le_refl _) (.cells #[.int .i64 q, .int .i64 t, str d] 37)
  have b1 := Blk.new w 37 #[.int .i64 q, .int .i64 t, str d]
  obtain ⟨p0, hp0⟩ : ∃ p, w.heap.size = p := ⟨_, rfl⟩
  obtain ⟨w1, hw1⟩ : ∃ w1, w.alloc (.cells #[.int .i64 q, .int .i64 t, str d] 37) = w1 := ⟨_, rfl⟩
  have hW1 := hW.below HB1
  rw [hw1] at HB1 b1 hW1
  rw [hp0] at b1
  have hH1 := HB1.size
  obtain ⟨c0, c1, c2, _⟩ := blk3 b1
  have hadd : IntKind.i64.wrap ((a.length : Int) + (b.length : Int)) = (a.length : Int) + (b.length : Int) := w64k (by omega) (by omega)
  by_cases hl : 900 < a.length + b.length
  · have hI : (900 : Int) < (a.length : Int) + (b.length : Int) := by omega
    have AW := sawake_any _ hW1
    clear hl
    go_enter Tryd.func6, Tryd.ntmps6
    go_wp2_with fail
    refine AW.mono ?_
    clear AW
    rintro e w2 ⟨rfl, hb1⟩
    go_wp2_with fail
    go_ret
    exact ⟨rfl, HB1.trans (hb1.mono HB1.size)⟩
  have hI : ¬ (900 : Int) < (a.length : Int) + (b.length : Int) := by omega
  by_cases hd : 1000 < d.length
  · have hdI : (1000 : Int) < (d.length : Int) := by omega
    have AW := sawake_any _ hW1
    clear hl hd
    go_enter Tryd.func6, Tryd.ntmps6
    go_wp2_with fail
    refine AW.mono ?_
    clear AW
    rintro e w2 ⟨rfl, hb1⟩
    go_wp2_with fail
    go_ret
    exact ⟨rfl, HB1.trans (hb1.mono HB1.size)⟩
  have hdI : ¬ (1000 : Int) < (d.length : Int) := by omega
  obtain ⟨⟨r1, p1, e1⟩, h1⟩ : ∃ r, parseP a = r := ⟨_, rfl⟩
  obtain ⟨⟨r2, p2, e2⟩, h2⟩ : ∃ r, parseP b = r := ⟨_, rfl⟩
  have hla : a.length ≤ 900 := by omega
  have hlb : b.length ≤ 900 := by omega
  have hd1 : d.length ≤ 100000 := by omega
  have HA := Lib.hid (fun w h => sawake_any w h)
  cases r1 with
  | none =>
    have he : ¬ e1 = 0 := by rcases parse_err h1 with h | h <;> omega
    have C1 := parse_some a w1 hW1 (by omega) p1 e1 (by rw [h1])
    have HC2 := Lib.hid (fun w h => parse_some b w h (by omega) p2 e2 (by rw [h2]))
    clear h1 h2 hl hd hla hlb
    go_enter Tryd.func6, Tryd.ntmps6
    go_wp2_with fail
    refine C1.mono ?_
    clear C1
    rintro e w2 ⟨x1, rfl, hb2⟩
    have HB2 := HB1.trans (hb2.mono HB1.size)
    have hW2 := hW1.below hb2
    clear c0 c1 c2 hb2 HB1
    go_wp2_with fail
    refine (HC2.out w2 hW2).mono ?_
    rintro e w3 ⟨x2, rfl, hb3⟩
    have HB3 := HB2.trans (hb3.mono HB2.size)
    have hW3 := hW2.below hb3
    clear hb3 HB2
    go_wp2_with fail
    refine (HA.out w3 hW3).mono ?_
    rintro e w4 ⟨rfl, hb4⟩
    go_wp2_with fail
    go_ret
    exact ⟨rfl, HB3.trans (hb4.mono HB3.size)⟩
  | some nz1 =>
  cases r2 with
  | none =>
    obtain ⟨n1, za⟩ := nz1
    obtain rfl := parse_fine h1
    have he : ¬ e2 = 0 := by rcases parse_err h2 with h | h <;> omega
    have C1 := parse_some a w1 hW1 (by omega) p1 0 (by rw [h1])
    have HC2 := Lib.hid (fun w h => parse_some b w h (by omega) p2 e2 (by rw [h2]))
    clear h1 h2 hl hd hla hlb
    go_enter Tryd.func6, Tryd.ntmps6
    go_wp2_with fail
    refine C1.mono ?_
    clear C1
    rintro e w2 ⟨x1, rfl, hb2⟩
    have HB2 := HB1.trans (hb2.mono HB1.size)
    have hW2 := hW1.below hb2
    clear c0 c1 c2 hb2 HB1
    go_wp2_with fail
    refine (HC2.out w2 hW2).mono ?_
    rintro e w3 ⟨x2, rfl, hb3⟩
    have HB3 := HB2.trans (hb3.mono HB2.size)
    have hW3 := hW2.below hb3
    clear hb3 HB2
    go_wp2_with fail
    refine (HA.out w3 hW3).mono ?_
    rintro e w4 ⟨rfl, hb4⟩
    go_wp2_with fail
    go_ret
    exact ⟨rfl, HB3.trans (hb4.mono HB3.size)⟩
  | some nz2 =>
  obtain ⟨n1, za⟩ := nz1
  obtain ⟨n2, zb⟩ := nz2
  obtain rfl := parse_fine h1
  obtain rfl := parse_fine h2
  obtain ⟨f1, k1, m1⟩ := parse_sv h1
  have C1 := parse_sv_any h1 w1 hW1 (by omega)
  have HC2 := Lib.hid (fun w h => parse_sv_any h2 w h (by omega))
  have HC3 := Lib.hid (fun w h => joined_any false h1 h2 (by omega) w h)
  have HC4 := Lib.hid (fun w h => joined_any true h1 h2 (by omega) w h)
  have s0 : ¬ 9223372036854775807 < 1 + a.length := by omega
  obtain ⟨u0, hu0⟩ : ∃ u, 40 :: a = u := ⟨_, rfl⟩
  have t0 : (⟨#[40]⟩ : ByteArray) ++ ⟨a.toArray⟩ = ⟨u0.toArray⟩ := by rw [← hu0]; exact str_cat [40] _
  have l0 : u0.length = a.length + 1 := by rw [← hu0]; simp
  have s1 : ¬ 9223372036854775807 < u0.length + 7 := by omega
  obtain ⟨u1, hu1⟩ : ∃ u, u0 ++ [41, 32, 97, 110, 100, 32, 40] = u := ⟨_, rfl⟩
  have t1 : (⟨u0.toArray⟩ : ByteArray) ++ ⟨#[41, 32, 97, 110, 100, 32, 40]⟩ = ⟨u1.toArray⟩ := by rw [← hu1]; exact str_cat _ _
  have l1 : u1.length = u0.length + 7 := by rw [← hu1]; simp
  have s1b : ¬ 9223372036854775807 < u1.length + b.length := by omega
  obtain ⟨u2, hu2⟩ : ∃ u, u1 ++ b = u := ⟨_, rfl⟩
  have t2 : (⟨u1.toArray⟩ : ByteArray) ++ ⟨b.toArray⟩ = ⟨u2.toArray⟩ := by rw [← hu2]; exact str_cat _ _
  have l2 : u2.length = u1.length + b.length := by rw [← hu2]; simp
  have s2b : ¬ 9223372036854775807 < u2.length + 1 := by omega
  obtain ⟨j1, hj1⟩ : ∃ u, joinT false a b = u := ⟨_, rfl⟩
  have t2b : (⟨u2.toArray⟩ : ByteArray) ++ ⟨#[41]⟩ = ⟨j1.toArray⟩ := by rw [← hj1, ← hu2, ← hu1, ← hu0, str_cat]; simp [joinT]
  have s3 : ¬ 9223372036854775807 < u0.length + 4 := by omega
  obtain ⟨u3, hu3⟩ : ∃ u, u0 ++ [41, 111, 114, 40] = u := ⟨_, rfl⟩
  have t3 : (⟨u0.toArray⟩ : ByteArray) ++ ⟨#[41, 111, 114, 40]⟩ = ⟨u3.toArray⟩ := by rw [← hu3]; exact str_cat _ _
  have l3 : u3.length = u0.length + 4 := by rw [← hu3]; simp
  have s3b : ¬ 9223372036854775807 < u3.length + b.length := by omega
  obtain ⟨u4, hu4⟩ : ∃ u, u3 ++ b = u := ⟨_, rfl⟩
  have t4 : (⟨u3.toArray⟩ : ByteArray) ++ ⟨b.toArray⟩ = ⟨u4.toArray⟩ := by rw [← hu4]; exact str_cat _ _
  have l4 : u4.length = u3.length + b.length := by rw [← hu4]; simp
  have s4b : ¬ 9223372036854775807 < u4.length + 1 := by omega
  obtain ⟨j2, hj2⟩ : ∃ u, joinT true a b = u := ⟨_, rfl⟩
  have t4b : (⟨u4.toArray⟩ : ByteArray) ++ ⟨#[41]⟩ = ⟨j2.toArray⟩ := by rw [← hj2, ← hu4, ← hu3, ← hu0, str_cat]; simp [joinT]
  rw [hj1] at HC3
  rw [hj2] at HC4
  clear h1 h2 hl hd hla hlb hj1 hj2 hu0 hu1 hu2 hu3 hu4 l0 l1 l2 l3 l4
  obtain ⟨y1, hy1⟩ : ∃ y, meetN q t d n1 = y := ⟨_, rfl⟩
  obtain ⟨y2, hy2⟩ : ∃ y, meetN q t d n2 = y := ⟨_, rfl⟩
  by_cases hz : za < 100
  · have hzI : (za : Int) < 100 := by omega
    go_enter Tryd.func6, Tryd.ntmps6
    go_wp2_with fail
    refine C1.mono ?_
    clear C1
    rintro e w2 ⟨g1, rfl, SA2, hb2⟩
    have HB2 := HB1.trans (hb2.mono HB1.size)
    have hW2 := hW1.below hb2
    have b2 := b1.below hb2 b1.lt
    clear c0 c1 c2 hb2 HB1 b1
    go_wp2_with fail
    refine (HC2.out w2 hW2).mono ?_
    rintro e w3 ⟨g2, rfl, SB3, hb3⟩
    have HB3 := HB2.trans (hb3.mono HB2.size)
    have hW3 := hW2.below hb3
    have b3 := b2.below hb3 b2.lt
    have SA3 := SA2.below hb3
    clear hb3 HB2 b2 SA2
    go_wp2_with fail
    refine (Not_yes w3 g1 n1 za SA3 hz (by omega)).mono ?_
    rintro e w4 ⟨g5, rfl, SN4, hb4⟩
    have HB4 := HB3.trans (hb4.mono HB3.size)
    have hW4 := hW3.below hb4
    have b4 := b3.below hb4 b3.lt
    have SA4 := SA3.below hb4
    have SB4 := SB3.below hb4
    clear hb4 HB3 b3 SA3 SB3
    obtain ⟨c0, c1, c2, _⟩ := blk3 b4
    have HN := Lib.hid (fun w' hb => Meets_yes w' g5 (.not n1) (za + 1) (SN4.below (w' := w') hb) q t d hd1 (!y1) (by rw [meetN, hy1]))
    have HM := Lib.hid (fun w' hb => Meets_yes w' g1 n1 za (SA4.below (w' := w') hb) q t d hd1 y1 hy1)
    have HS := Lib.hid (fun w' hb => size_yes w' g5 (.not n1) (za + 1) (SN4.below (w' := w') hb))
    have HZ := Lib.hid (fun w' hb => size_yes w' g1 n1 za (SA4.below (w' := w') hb))
    have hbn : ((!y1) == y1) = false := by cases y1 <;> rfl
    have hza : IntKind.i64.wrap ((za : Int) + 1) = (za : Int) + 1 := w64k (by omega) (by omega)
    have HR := Below.refl w4.heap.size w4
    go_wp2_with fail
    refine wp_region_held_drew (S := (fun w' => w'.cell? ⟨p0, 0, none⟩ = some (.int .i64 q) ∧ w'.cell? ⟨p0, 1, none⟩ = some (.int .i64 t) ∧ w'.cell? ⟨p0, 2, none⟩ = some (str d))) (by kernel_rfl) ?_ (fun hHeld => ?_)
    · replace b4 := Blk.drew b4; replace HR := Below.drew HR; (try dsimp only); exact ⟨b4.cell_ 0 rfl, b4.cell_ 1 rfl, b4.cell_ 2 rfl⟩
    replace b4 := Blk.drew b4
    replace HR := Below.drew HR
    have zHR := HR.size
    refine take_movev (v := ?vu10x0) 0 (Operand.tmp 13) rfl rfl (by first | exact .inl rfl | exact .inr rfl) rfl (by kernel_rfl) (by kernel_rfl) (by kernel_rfl) (fun _ _ _ h => h) (by assumption) ?yu10x0 ?ru10x0
    case yu10x0 => (go_simp; try (with_reducible rfl))
    simp only [List.setIfInBounds_toArray, List.set_cons_zero, List.set_cons_succ]
    refine take_op (v := ?vu10x1) 1 (Op.load 37 (Operand.tmp 5)) 37 rfl rfl rfl rfl rfl (by kernel_rfl) (by kernel_rfl) (by kernel_rfl) (fun _ _ _ h => h) ?yu10x1 (by assumption) ?ru10x1
    case yu10x1 => (intro w' hSw; (try dsimp only at hSw); go_simp; try (with_reducible rfl))
    simp only [List.setIfInBounds_toArray, List.set_cons_zero, List.set_cons_succ]
    refine take_movev (v := ?vu10x3) 3 (Operand.tmp 7) rfl rfl (by first | exact .inl rfl | exact .inr rfl) rfl (by kernel_rfl) (by kernel_rfl) (by kernel_rfl) (fun _ _ _ h => h) (by assumption) ?yu10x3 ?ru10x3
    case yu10x3 => (go_simp; try (with_reducible rfl))
    simp only [List.setIfInBounds_toArray, List.set_cons_zero, List.set_cons_succ]
    refine take_op (v := ?vu10x4) 4 (Op.load 37 (Operand.tmp 5)) 37 rfl rfl rfl rfl rfl (by kernel_rfl) (by kernel_rfl) (by kernel_rfl) (fun _ _ _ h => h) ?yu10x4 (by assumption) ?ru10x4
    case yu10x4 => (intro w' hSw; (try dsimp only at hSw); go_simp; try (with_reducible rfl))
    simp only [List.setIfInBounds_toArray, List.set_cons_zero, List.set_cons_succ]
    refine wpAnyH_ready (rs := [2]) (by kernel_rfl) (by simp) (AllReadyH.cons rfl (fun K2 hK2 => ?ku10x2) AllReadyH.nil)
    refine take_calls 2 14 [Operand.tmp 60, Operand.tmp 61] #[23, 37] rfl rfl (by kernel_rfl) (fun args w => run_enter Tryd.func14 (by kernel_rfl) rfl args w) ?_
    refine (HN.out _ HR).mono ?_
    rintro e w2 ⟨rfl, hb2⟩
    refine ⟨_, rfl, ?_⟩
    have z2 := hb2.size
    try simp only [World.size_drew] at z2
    replace b4 := Blk.below b4 hb2 (by first | exact Nat.le_refl _ | (simp only [World.size_alloc, World.size_setCell, World.size_drew] at *; omega) | omega)
    replace HR := HR.trans (hb2.mono (by first | exact HR.size | omega))
    have zHR2 := HR.size
    refine hK2.out _ _ ?su10x2 (fun hHeld => ?ru10x2)
    case su10x2 => ((try dsimp only); exact ⟨b4.cell_ 0 rfl, b4.cell_ 1 rfl, b4.cell_ 2 rfl⟩)
    try simp only [List.setIfInBounds_toArray, List.set_cons_zero, List.set_cons_succ]
    refine wpAnyH_ready (rs := [5]) (by kernel_rfl) (by simp) (AllReadyH.cons rfl (fun K5 hK5 => ?ku10x5) AllReadyH.nil)
    refine take_calls 5 14 [Operand.tmp 63, Operand.tmp 64] #[23, 37] rfl rfl (by kernel_rfl) (fun args w => run_enter Tryd.func14 (by kernel_rfl) rfl args w) ?_
    refine (HM.out _ HR).mono ?_
    rintro e w5 ⟨rfl, hb5⟩
    refine ⟨_, rfl, ?_⟩
    have z5 := hb5.size
    try simp only [World.size_drew] at z5
    replace b4 := Blk.below b4 hb5 (by first | exact Nat.le_refl _ | (simp only [World.size_alloc, World.size_setCell, World.size_drew] at *; omega) | omega)
    replace HR := HR.trans (hb5.mono (by first | exact HR.size | omega))
    have zHR5 := HR.size
    refine hK5.out _ _ ?su10x5 (fun hHeld => ?ru10x5)
    case su10x5 => ((try dsimp only); exact ⟨b4.cell_ 0 rfl, b4.cell_ 1 rfl, b4.cell_ 2 rfl⟩)
    try simp only [List.setIfInBounds_toArray, List.set_cons_zero, List.set_cons_succ]
    refine take_op (v := ?vu10x6) 6 (Op.binOp BinOp.eql 4 (Operand.tmp 62) (Operand.tmp 65) 4) 4 rfl rfl rfl rfl rfl (by kernel_rfl) (by kernel_rfl) (by kernel_rfl) (fun _ _ _ h => h) ?yu10x6 (by assumption) ?ru10x6
    case yu10x6 => (intro w' hSw; (try dsimp only at hSw); go_simp; try (with_reducible rfl))
    simp only [List.setIfInBounds_toArray, List.set_cons_zero, List.set_cons_succ]
    refine take_movev (v := ?vu10x7) 7 (Operand.tmp 66) rfl rfl (by first | exact .inl rfl | exact .inr rfl) rfl (by kernel_rfl) (by kernel_rfl) (by kernel_rfl) (fun _ _ _ h => h) (by assumption) ?yu10x7 ?ru10x7
    case yu10x7 => (go_simp; try (with_reducible rfl))
    simp only [List.setIfInBounds_toArray, List.set_cons_zero, List.set_cons_succ]
    refine take_movev (v := ?vu10x8) 8 (Operand.tmp 13) rfl rfl (by first | exact .inl rfl | exact .inr rfl) rfl (by kernel_rfl) (by kernel_rfl) (by kernel_rfl) (fun _ _ _ h => h) (by assumption) ?yu10x8 ?ru10x8
    case yu10x8 => (go_simp; try (with_reducible rfl))
    simp only [List.setIfInBounds_toArray, List.set_cons_zero, List.set_cons_succ]
    refine take_movev (v := ?vu10x10) 10 (Operand.tmp 7) rfl rfl (by first | exact .inl rfl | exact .inr rfl) rfl (by kernel_rfl) (by kernel_rfl) (by kernel_rfl) (fun _ _ _ h => h) (by assumption) ?yu10x10 ?ru10x10
    case yu10x10 => (go_simp; try (with_reducible rfl))
    simp only [List.setIfInBounds_toArray, List.set_cons_zero, List.set_cons_succ]
    refine wpAnyH_ready (rs := [9]) (by kernel_rfl) (by simp) (AllReadyH.cons rfl (fun K9 hK9 => ?ku10x9) AllReadyH.nil)
    refine take_calls 9 12 [Operand.tmp 68] #[23] rfl rfl (by kernel_rfl) (fun args w => run_enter Tryd.func12 (by kernel_rfl) rfl args w) ?_
    refine (HS.out _ HR).mono ?_
    rintro e w9 ⟨rfl, hb9⟩
    refine ⟨_, rfl, ?_⟩
    have z9 := hb9.size
    try simp only [World.size_drew] at z9
    replace b4 := Blk.below b4 hb9 (by first | exact Nat.le_refl _ | (simp only [World.size_alloc, World.size_setCell, World.size_drew] at *; omega) | omega)
    replace HR := HR.trans (hb9.mono (by first | exact HR.size | omega))
    have zHR9 := HR.size
    refine hK9.out _ _ ?su10x9 (fun hHeld => ?ru10x9)
    case su10x9 => ((try dsimp only); exact ⟨b4.cell_ 0 rfl, b4.cell_ 1 rfl, b4.cell_ 2 rfl⟩)
    try simp only [List.setIfInBounds_toArray, List.set_cons_zero, List.set_cons_succ]
    refine wpAnyH_ready (rs := [11]) (by kernel_rfl) (by simp) (AllReadyH.cons rfl (fun K11 hK11 => ?ku10x11) AllReadyH.nil)
    refine take_calls 11 12 [Operand.tmp 70] #[23] rfl rfl (by kernel_rfl) (fun args w => run_enter Tryd.func12 (by kernel_rfl) rfl args w) ?_
    refine (HZ.out _ HR).mono ?_
    rintro e w11 ⟨rfl, hb11⟩
    refine ⟨_, rfl, ?_⟩
    have z11 := hb11.size
    try simp only [World.size_drew] at z11
    replace b4 := Blk.below b4 hb11 (by first | exact Nat.le_refl _ | (simp only [World.size_alloc, World.size_setCell, World.size_drew] at *; omega) | omega)
    replace HR := HR.trans (hb11.mono (by first | exact HR.size | omega))
    have zHR11 := HR.size
    refine hK11.out _ _ ?su10x11 (fun hHeld => ?ru10x11)
    case su10x11 => ((try dsimp only); exact ⟨b4.cell_ 0 rfl, b4.cell_ 1 rfl, b4.cell_ 2 rfl⟩)
    try simp only [List.setIfInBounds_toArray, List.set_cons_zero, List.set_cons_succ]
    refine take_op (v := ?vu10x12) 12 (Op.binOp BinOp.add 3 (Operand.tmp 71) (Operand.const (Value.int IntKind.i64 1)) 3) 3 rfl rfl rfl rfl rfl (by kernel_rfl) (by kernel_rfl) (by kernel_rfl) (fun _ _ _ h => h) ?yu10x12 (by assumption) ?ru10x12
    case yu10x12 => (intro w' hSw; (try dsimp only at hSw); go_simp; try (with_reducible rfl))
    simp only [List.setIfInBounds_toArray, List.set_cons_zero, List.set_cons_succ]
    refine take_op (v := ?vu10x13) 13 (Op.binOp BinOp.neq 3 (Operand.tmp 69) (Operand.tmp 72) 3) 4 rfl rfl rfl rfl rfl (by kernel_rfl) (by kernel_rfl) (by kernel_rfl) (fun _ _ _ h => h) ?yu10x13 (by assumption) ?ru10x13
    case yu10x13 => (intro w' hSw; (try dsimp only at hSw); go_simp; try (with_reducible rfl))
    simp only [List.setIfInBounds_toArray, List.set_cons_zero, List.set_cons_succ]
    refine take_op (v := ?vu10x14) 14 (Op.pick (Operand.tmp 67) (Operand.const (Value.bool true)) (Operand.tmp 73)) 4 rfl rfl rfl rfl rfl (by kernel_rfl) (by kernel_rfl) (by kernel_rfl) (fun _ _ _ h => h) ?yu10x14 (by assumption) ?ru10x14
    case yu10x14 => (intro w' hSw; (try dsimp only at hSw); go_simp; try (with_reducible rfl))
    simp only [List.setIfInBounds_toArray, List.set_cons_zero, List.set_cons_succ]
    refine wpAnyH_done (by kernel_rfl) ?_ _
    have HB5 := HB4.trans (HR.mono HB4.size)
    have hW5 := hW4.below HR
    have b5 := b4
    have SA5 := SA4.below HR
    have SB5 := SB4.below HR
    clear HB4 b4 SA4 SB4 HN HM HS HZ SN4
    go_wp2_with fail
    refine (HC3.out _ hW5).mono ?_
    rintro e w6 ⟨x3, e3, p3, rfl, J3, hb6⟩
    have HB6 := HB5.trans (hb6.mono HB5.size)
    have hW6 := hW5.below hb6
    have b6 := b5.below hb6 b5.lt
    have SA6 := SA5.below hb6
    have SB6 := SB5.below hb6
    clear HB5 b5 SA5 SB5
    go_wp2_with fail
    refine (HC4.out w6 hW6).mono ?_
    rintro e w7 ⟨x4, e4, p4, rfl, J4, hb7⟩
    have HB7 := HB6.trans (hb7.mono HB6.size)
    have hW7 := hW6.below hb7
    have b7 := b6.below hb7 b6.lt
    have SA7 := SA6.below hb7
    have SB7 := SB6.below hb7
    clear HB6 b6 SA6 SB6
    rcases J3 with rfl | ⟨rfl, g3, n3, zc, rfl, S3, M3⟩
    · clear J4
      go_wp2_with fail
      refine (HA.out w7 hW7).mono ?_
      rintro e w8 ⟨rfl, hb8⟩
      go_wp2_with fail
      go_ret
      exact ⟨rfl, HB7.trans (hb8.mono HB7.size)⟩
    rcases J4 with rfl | ⟨rfl, g4, n4, zd, rfl, S4, M4⟩
    · go_wp2_with fail
      refine (HA.out w7 hW7).mono ?_
      rintro e w8 ⟨rfl, hb8⟩
      go_wp2_with fail
      go_ret
      exact ⟨rfl, HB7.trans (hb8.mono HB7.size)⟩
    have S3' := S3.below hb7
    have N3 := M3 q t d
    have N4 := M4 q t d
    rw [hy1, hy2] at N3 N4
    have SM1 := Lib.hid (fun w' hb => Meets_yes w' g1 n1 za (SA7.below (w' := w') hb) q t d hd1 y1 hy1)
    have SM2 := Lib.hid (fun w' hb => Meets_yes w' g2 n2 zb (SB7.below (w' := w') hb) q t d hd1 y2 hy2)
    have SM3 := Lib.hid (fun w' hb => Meets_yes w' g3 n3 zc (S3'.below (w' := w') hb) q t d hd1 _ N3)
    have SM4 := Lib.hid (fun w' hb => Meets_yes w' g4 n4 zd (S4.below (w' := w') hb) q t d hd1 _ N4)
    have HAW := Lib.hid (fun w' hb => sawake_any w' (hW7.below (w' := w') hb))
    clear hy1 hy2 N3 N4 SA7 SB7 S3 S3' S4 M3 M4 hb6 hb7
    have HR := Below.refl w7.heap.size w7
    obtain ⟨c0, c1, c2, _⟩ := blk3 b7
    cases y1 <;> cases y2
    · simp only [if_true, if_false, Bool.false_eq_true, Bool.and_true, Bool.and_false, Bool.or_true, Bool.or_false, Bool.and_self, Bool.or_self] at SM3 SM4
      go_wp2_with fail
      refine wp_region_held_drew (S := (fun w' => w'.cell? ⟨p0, 0, none⟩ = some (.int .i64 q) ∧ w'.cell? ⟨p0, 1, none⟩ = some (.int .i64 t) ∧ w'.cell? ⟨p0, 2, none⟩ = some (str d))) (by kernel_rfl) ?_ (fun hHeld => ?_)
      · replace b7 := Blk.drew b7; replace HR := Below.drew HR; (try dsimp only); exact ⟨b7.cell_ 0 rfl, b7.cell_ 1 rfl, b7.cell_ 2 rfl⟩
      replace b7 := Blk.drew b7
      replace HR := Below.drew HR
      have zHR := HR.size
      refine take_movev (v := ?vu1t10x0) 0 (Operand.tmp 17) rfl rfl (by first | exact .inl rfl | exact .inr rfl) rfl (by kernel_rfl) (by kernel_rfl) (by kernel_rfl) (fun _ _ _ h => h) (by assumption) ?yu1t10x0 ?ru1t10x0
      case yu1t10x0 => (go_simp; try (with_reducible rfl))
      simp only [List.setIfInBounds_toArray, List.set_cons_zero, List.set_cons_succ]
      refine take_op (v := ?vu1t10x1) 1 (Op.binOp BinOp.eql 24 (Operand.tmp 107) (Operand.const (Value.int IntKind.i64 0)) 24) 4 rfl rfl rfl rfl rfl (by kernel_rfl) (by kernel_rfl) (by kernel_rfl) (fun _ _ _ h => h) ?yu1t10x1 (by assumption) ?ru1t10x1
      case yu1t10x1 => (intro w' hSw; (try dsimp only at hSw); go_simp; try (with_reducible rfl))
      simp only [List.setIfInBounds_toArray, List.set_cons_zero, List.set_cons_succ]
      refine take_movev (v := ?vu1t10x2) 2 (Operand.tmp 108) rfl rfl (by first | exact .inl rfl | exact .inr rfl) rfl (by kernel_rfl) (by kernel_rfl) (by kernel_rfl) (fun _ _ _ h => h) (by assumption) ?yu1t10x2 ?ru1t10x2
      case yu1t10x2 => (go_simp; try (with_reducible rfl))
      simp only [List.setIfInBounds_toArray, List.set_cons_zero, List.set_cons_succ]
      refine take_movev (v := ?vu1t10x3) 3 (Operand.tmp 20) rfl rfl (by first | exact .inl rfl | exact .inr rfl) rfl (by kernel_rfl) (by kernel_rfl) (by kernel_rfl) (fun _ _ _ h => h) (by assumption) ?yu1t10x3 ?ru1t10x3
      case yu1t10x3 => (go_simp; try (with_reducible rfl))
      simp only [List.setIfInBounds_toArray, List.set_cons_zero, List.set_cons_succ]
      refine take_op (v := ?vu1t10x4) 4 (Op.binOp BinOp.eql 24 (Operand.tmp 110) (Operand.const (Value.int IntKind.i64 0)) 24) 4 rfl rfl rfl rfl rfl (by kernel_rfl) (by kernel_rfl) (by kernel_rfl) (fun _ _ _ h => h) ?yu1t10x4 (by assumption) ?ru1t10x4
      case yu1t10x4 => (intro w' hSw; (try dsimp only at hSw); go_simp; try (with_reducible rfl))
      simp only [List.setIfInBounds_toArray, List.set_cons_zero, List.set_cons_succ]
      refine take_op (v := ?vu1t10x5) 5 (Op.pick (Operand.tmp 109) (Operand.tmp 111) (Operand.const (Value.bool false))) 4 rfl rfl rfl rfl rfl (by kernel_rfl) (by kernel_rfl) (by kernel_rfl) (fun _ _ _ h => h) ?yu1t10x5 (by assumption) ?ru1t10x5
      case yu1t10x5 => (intro w' hSw; (try dsimp only at hSw); go_simp; try (with_reducible rfl))
      simp only [List.setIfInBounds_toArray, List.set_cons_zero, List.set_cons_succ]
      refine take_movev (v := ?vu1t10x6) 6 (Operand.tmp 112) rfl rfl (by first | exact .inl rfl | exact .inr rfl) rfl (by kernel_rfl) (by kernel_rfl) (by kernel_rfl) (fun _ _ _ h => h) (by assumption) ?yu1t10x6 ?ru1t10x6
      case yu1t10x6 => (go_simp; try (with_reducible rfl))
      simp only [List.setIfInBounds_toArray, List.set_cons_zero, List.set_cons_succ]
      refine take_movev (v := ?vu1t10x7) 7 (Operand.tmp 15) rfl rfl (by first | exact .inl rfl | exact .inr rfl) rfl (by kernel_rfl) (by kernel_rfl) (by kernel_rfl) (fun _ _ _ h => h) (by assumption) ?yu1t10x7 ?ru1t10x7
      case yu1t10x7 => (go_simp; try (with_reducible rfl))
      simp only [List.setIfInBounds_toArray, List.set_cons_zero, List.set_cons_succ]
      refine take_op (v := ?vu1t10x8) 8 (Op.load 37 (Operand.tmp 5)) 37 rfl rfl rfl rfl rfl (by kernel_rfl) (by kernel_rfl) (by kernel_rfl) (fun _ _ _ h => h) ?yu1t10x8 (by assumption) ?ru1t10x8
      case yu1t10x8 => (intro w' hSw; (try dsimp only at hSw); go_simp; try (with_reducible rfl))
      simp only [List.setIfInBounds_toArray, List.set_cons_zero, List.set_cons_succ]
      refine take_movev (v := ?vu1t10x10) 10 (Operand.tmp 7) rfl rfl (by first | exact .inl rfl | exact .inr rfl) rfl (by kernel_rfl) (by kernel_rfl) (by kernel_rfl) (fun _ _ _ h => h) (by assumption) ?yu1t10x10 ?ru1t10x10
      case yu1t10x10 => (go_simp; try (with_reducible rfl))
      simp only [List.setIfInBounds_toArray, List.set_cons_zero, List.set_cons_succ]
      refine take_op (v := ?vu1t10x11) 11 (Op.load 37 (Operand.tmp 5)) 37 rfl rfl rfl rfl rfl (by kernel_rfl) (by kernel_rfl) (by kernel_rfl) (fun _ _ _ h => h) ?yu1t10x11 (by assumption) ?ru1t10x11
      case yu1t10x11 => (intro w' hSw; (try dsimp only at hSw); go_simp; try (with_reducible rfl))
      simp only [List.setIfInBounds_toArray, List.set_cons_zero, List.set_cons_succ]
      refine wpAnyH_ready (rs := [9]) (by kernel_rfl) (by simp) (AllReadyH.cons rfl (fun K9 hK9 => ?ku1t10x9) AllReadyH.nil)
      refine take_calls 9 14 [Operand.tmp 114, Operand.tmp 115] #[23, 37] rfl rfl (by kernel_rfl) (fun args w => run_enter Tryd.func14 (by kernel_rfl) rfl args w) ?_
      refine (SM3.out _ HR).mono ?_
      rintro e w9 ⟨rfl, hb9⟩
      refine ⟨_, rfl, ?_⟩
      have z9 := hb9.size
      try simp only [World.size_drew] at z9
      replace b7 := Blk.below b7 hb9 (by first | exact Nat.le_refl _ | (simp only [World.size_alloc, World.size_setCell, World.size_drew] at *; omega) | omega)
      replace HR := HR.trans (hb9.mono (by first | exact HR.size | omega))
      have zHR9 := HR.size
      refine hK9.out _ _ ?su1t10x9 (fun hHeld => ?ru1t10x9)
      case su1t10x9 => ((try dsimp only); exact ⟨b7.cell_ 0 rfl, b7.cell_ 1 rfl, b7.cell_ 2 rfl⟩)
      try simp only [List.setIfInBounds_toArray, List.set_cons_zero, List.set_cons_succ]
      refine wpAnyH_ready (rs := [12]) (by kernel_rfl) (by simp) (AllReadyH.cons rfl (fun K12 hK12 => ?ku1t10x12) AllReadyH.nil)
      refine take_calls 12 14 [Operand.tmp 117, Operand.tmp 118] #[23, 37] rfl rfl (by kernel_rfl) (fun args w => run_enter Tryd.func14 (by kernel_rfl) rfl args w) ?_
      refine (SM1.out _ HR).mono ?_
      rintro e w12 ⟨rfl, hb12⟩
      refine ⟨_, rfl, ?_⟩
      have z12 := hb12.size
      try simp only [World.size_drew] at z12
      replace b7 := Blk.below b7 hb12 (by first | exact Nat.le_refl _ | (simp only [World.size_alloc, World.size_setCell, World.size_drew] at *; omega) | omega)
      replace HR := HR.trans (hb12.mono (by first | exact HR.size | omega))
      have zHR12 := HR.size
      refine hK12.out _ _ ?su1t10x12 (fun hHeld => ?ru1t10x12)
      case su1t10x12 => ((try dsimp only); exact ⟨b7.cell_ 0 rfl, b7.cell_ 1 rfl, b7.cell_ 2 rfl⟩)
      try simp only [List.setIfInBounds_toArray, List.set_cons_zero, List.set_cons_succ]
      refine take_movev (v := ?vu1t10x13) 13 (Operand.tmp 119) rfl rfl (by first | exact .inl rfl | exact .inr rfl) rfl (by kernel_rfl) (by kernel_rfl) (by kernel_rfl) (fun _ _ _ h => h) (by assumption) ?yu1t10x13 ?ru1t10x13
      case yu1t10x13 => (go_simp; try (with_reducible rfl))
      simp only [List.setIfInBounds_toArray, List.set_cons_zero, List.set_cons_succ]
      refine take_skip 14 rfl rfl rfl (by kernel_rfl) (by kernel_rfl) (by kernel_rfl) (fun _ _ _ h => h) (by assumption) ?_
      simp only [List.setIfInBounds_toArray, List.set_cons_zero, List.set_cons_succ]
      refine take_skip 15 rfl rfl rfl (by kernel_rfl) (by kernel_rfl) (by kernel_rfl) (fun _ _ _ h => h) (by assumption) ?_
      simp only [List.setIfInBounds_toArray, List.set_cons_zero, List.set_cons_succ]
      refine take_skip 16 rfl rfl rfl (by kernel_rfl) (by kernel_rfl) (by kernel_rfl) (fun _ _ _ h => h) (by assumption) ?_
      simp only [List.setIfInBounds_toArray, List.set_cons_zero, List.set_cons_succ]
      refine take_op (v := ?vu1t10x17) 17 (Op.pick (Operand.tmp 120) (Operand.tmp 123) (Operand.const (Value.bool false))) 4 rfl rfl rfl rfl rfl (by kernel_rfl) (by kernel_rfl) (by kernel_rfl) (fun _ _ _ h => h) ?yu1t10x17 (by assumption) ?ru1t10x17
      case yu1t10x17 => (intro w' hSw; (try dsimp only at hSw); go_simp; try (with_reducible rfl))
      simp only [List.setIfInBounds_toArray, List.set_cons_zero, List.set_cons_succ]
      refine take_op (v := ?vu1t10x18) 18 (Op.binOp BinOp.eql 4 (Operand.tmp 116) (Operand.tmp 124) 4) 4 rfl rfl rfl rfl rfl (by kernel_rfl) (by kernel_rfl) (by kernel_rfl) (fun _ _ _ h => h) ?yu1t10x18 (by assumption) ?ru1t10x18
      case yu1t10x18 => (intro w' hSw; (try dsimp only at hSw); go_simp; try (with_reducible rfl))
      simp only [List.setIfInBounds_toArray, List.set_cons_zero, List.set_cons_succ]
      refine take_op (v := ?vu1t10x19) 19 (Op.pick (Operand.tmp 113) (Operand.tmp 125) (Operand.const (Value.bool false))) 4 rfl rfl rfl rfl rfl (by kernel_rfl) (by kernel_rfl) (by kernel_rfl) (fun _ _ _ h => h) ?yu1t10x19 (by assumption) ?ru1t10x19
      case yu1t10x19 => (intro w' hSw; (try dsimp only at hSw); go_simp; try (with_reducible rfl))
      simp only [List.setIfInBounds_toArray, List.set_cons_zero, List.set_cons_succ]
      refine take_movev (v := ?vu1t10x20) 20 (Operand.tmp 126) rfl rfl (by first | exact .inl rfl | exact .inr rfl) rfl (by kernel_rfl) (by kernel_rfl) (by kernel_rfl) (fun _ _ _ h => h) (by assumption) ?yu1t10x20 ?ru1t10x20
      case yu1t10x20 => (go_simp; try (with_reducible rfl))
      simp only [List.setIfInBounds_toArray, List.set_cons_zero, List.set_cons_succ]
      refine take_movev (v := ?vu1t10x21) 21 (Operand.tmp 18) rfl rfl (by first | exact .inl rfl | exact .inr rfl) rfl (by kernel_rfl) (by kernel_rfl) (by kernel_rfl) (fun _ _ _ h => h) (by assumption) ?yu1t10x21 ?ru1t10x21
      case yu1t10x21 => (go_simp; try (with_reducible rfl))
      simp only [List.setIfInBounds_toArray, List.set_cons_zero, List.set_cons_succ]
      refine take_op (v := ?vu1t10x22) 22 (Op.load 37 (Operand.tmp 5)) 37 rfl rfl rfl rfl rfl (by kernel_rfl) (by kernel_rfl) (by kernel_rfl) (fun _ _ _ h => h) ?yu1t10x22 (by assumption) ?ru1t10x22
      case yu1t10x22 => (intro w' hSw; (try dsimp only at hSw); go_simp; try (with_reducible rfl))
      simp only [List.setIfInBounds_toArray, List.set_cons_zero, List.set_cons_succ]
      refine take_movev (v := ?vu1t10x24) 24 (Operand.tmp 7) rfl rfl (by first | exact .inl rfl | exact .inr rfl) rfl (by kernel_rfl) (by kernel_rfl) (by kernel_rfl) (fun _ _ _ h => h) (by assumption) ?yu1t10x24 ?ru1t10x24
      case yu1t10x24 => (go_simp; try (with_reducible rfl))
      simp only [List.setIfInBounds_toArray, List.set_cons_zero, List.set_cons_succ]
      refine take_op (v := ?vu1t10x25) 25 (Op.load 37 (Operand.tmp 5)) 37 rfl rfl rfl rfl rfl (by kernel_rfl) (by kernel_rfl) (by kernel_rfl) (fun _ _ _ h => h) ?yu1t10x25 (by assumption) ?ru1t10x25
      case yu1t10x25 => (intro w' hSw; (try dsimp only at hSw); go_simp; try (with_reducible rfl))
      simp only [List.setIfInBounds_toArray, List.set_cons_zero, List.set_cons_succ]
      refine wpAnyH_ready (rs := [23]) (by kernel_rfl) (by simp) (AllReadyH.cons rfl (fun K23 hK23 => ?ku1t10x23) AllReadyH.nil)
      refine take_calls 23 14 [Operand.tmp 128, Operand.tmp 129] #[23, 37] rfl rfl (by kernel_rfl) (fun args w => run_enter Tryd.func14 (by kernel_rfl) rfl args w) ?_
      refine (SM4.out _ HR).mono ?_
      rintro e w23 ⟨rfl, hb23⟩
      refine ⟨_, rfl, ?_⟩
      have z23 := hb23.size
      try simp only [World.size_drew] at z23
      replace b7 := Blk.below b7 hb23 (by first | exact Nat.le_refl _ | (simp only [World.size_alloc, World.size_setCell, World.size_drew] at *; omega) | omega)
      replace HR := HR.trans (hb23.mono (by first | exact HR.size | omega))
      have zHR23 := HR.size
      refine hK23.out _ _ ?su1t10x23 (fun hHeld => ?ru1t10x23)
      case su1t10x23 => ((try dsimp only); exact ⟨b7.cell_ 0 rfl, b7.cell_ 1 rfl, b7.cell_ 2 rfl⟩)
      try simp only [List.setIfInBounds_toArray, List.set_cons_zero, List.set_cons_succ]
      refine wpAnyH_ready (rs := [26]) (by kernel_rfl) (by simp) (AllReadyH.cons rfl (fun K26 hK26 => ?ku1t10x26) AllReadyH.nil)
      refine take_calls 26 14 [Operand.tmp 131, Operand.tmp 132] #[23, 37] rfl rfl (by kernel_rfl) (fun args w => run_enter Tryd.func14 (by kernel_rfl) rfl args w) ?_
      refine (SM1.out _ HR).mono ?_
      rintro e w26 ⟨rfl, hb26⟩
      refine ⟨_, rfl, ?_⟩
      have z26 := hb26.size
      try simp only [World.size_drew] at z26
      replace b7 := Blk.below b7 hb26 (by first | exact Nat.le_refl _ | (simp only [World.size_alloc, World.size_setCell, World.size_drew] at *; omega) | omega)
      replace HR := HR.trans (hb26.mono (by first | exact HR.size | omega))
      have zHR26 := HR.size
      refine hK26.out _ _ ?su1t10x26 (fun hHeld => ?ru1t10x26)
      case su1t10x26 => ((try dsimp only); exact ⟨b7.cell_ 0 rfl, b7.cell_ 1 rfl, b7.cell_ 2 rfl⟩)
      try simp only [List.setIfInBounds_toArray, List.set_cons_zero, List.set_cons_succ]
      refine take_movev (v := ?vu1t10x27) 27 (Operand.tmp 133) rfl rfl (by first | exact .inl rfl | exact .inr rfl) rfl (by kernel_rfl) (by kernel_rfl) (by kernel_rfl) (fun _ _ _ h => h) (by assumption) ?yu1t10x27 ?ru1t10x27
      case yu1t10x27 => (go_simp; try (with_reducible rfl))
      simp only [List.setIfInBounds_toArray, List.set_cons_zero, List.set_cons_succ]
      refine take_movev (v := ?vu1t10x28) 28 (Operand.tmp 10) rfl rfl (by first | exact .inl rfl | exact .inr rfl) rfl (by kernel_rfl) (by kernel_rfl) (by kernel_rfl) (fun _ _ _ h => h) (by assumption) ?yu1t10x28 ?ru1t10x28
      case yu1t10x28 => (go_simp; try (with_reducible rfl))
      simp only [List.setIfInBounds_toArray, List.set_cons_zero, List.set_cons_succ]
      refine take_op (v := ?vu1t10x29) 29 (Op.load 37 (Operand.tmp 5)) 37 rfl rfl rfl rfl rfl (by kernel_rfl) (by kernel_rfl) (by kernel_rfl) (fun _ _ _ h => h) ?yu1t10x29 (by assumption) ?ru1t10x29
      case yu1t10x29 => (intro w' hSw; (try dsimp only at hSw); go_simp; try (with_reducible rfl))
      simp only [List.setIfInBounds_toArray, List.set_cons_zero, List.set_cons_succ]
      refine wpAnyH_ready (rs := [30]) (by kernel_rfl) (by simp) (AllReadyH.cons rfl (fun K30 hK30 => ?ku1t10x30) AllReadyH.nil)
      refine take_calls 30 14 [Operand.tmp 135, Operand.tmp 136] #[23, 37] rfl rfl (by kernel_rfl) (fun args w => run_enter Tryd.func14 (by kernel_rfl) rfl args w) ?_
      refine (SM2.out _ HR).mono ?_
      rintro e w30 ⟨rfl, hb30⟩
      refine ⟨_, rfl, ?_⟩
      have z30 := hb30.size
      try simp only [World.size_drew] at z30
      replace b7 := Blk.below b7 hb30 (by first | exact Nat.le_refl _ | (simp only [World.size_alloc, World.size_setCell, World.size_drew] at *; omega) | omega)
      replace HR := HR.trans (hb30.mono (by first | exact HR.size | omega))
      have zHR30 := HR.size
      refine hK30.out _ _ ?su1t10x30 (fun hHeld => ?ru1t10x30)
      case su1t10x30 => ((try dsimp only); exact ⟨b7.cell_ 0 rfl, b7.cell_ 1 rfl, b7.cell_ 2 rfl⟩)
      try simp only [List.setIfInBounds_toArray, List.set_cons_zero, List.set_cons_succ]
      refine take_op (v := ?vu1t10x31) 31 (Op.pick (Operand.tmp 134) (Operand.const (Value.bool true)) (Operand.tmp 137)) 4 rfl rfl rfl rfl rfl (by kernel_rfl) (by kernel_rfl) (by kernel_rfl) (fun _ _ _ h => h) ?yu1t10x31 (by assumption) ?ru1t10x31
      case yu1t10x31 => (intro w' hSw; (try dsimp only at hSw); go_simp; try (with_reducible rfl))
      simp only [List.setIfInBounds_toArray, List.set_cons_zero, List.set_cons_succ]
      refine take_op (v := ?vu1t10x32) 32 (Op.binOp BinOp.eql 4 (Operand.tmp 130) (Operand.tmp 138) 4) 4 rfl rfl rfl rfl rfl (by kernel_rfl) (by kernel_rfl) (by kernel_rfl) (fun _ _ _ h => h) ?yu1t10x32 (by assumption) ?ru1t10x32
      case yu1t10x32 => (intro w' hSw; (try dsimp only at hSw); go_simp; try (with_reducible rfl))
      simp only [List.setIfInBounds_toArray, List.set_cons_zero, List.set_cons_succ]
      refine take_op (v := ?vu1t10x33) 33 (Op.pick (Operand.tmp 127) (Operand.tmp 139) (Operand.const (Value.bool false))) 4 rfl rfl rfl rfl rfl (by kernel_rfl) (by kernel_rfl) (by kernel_rfl) (fun _ _ _ h => h) ?yu1t10x33 (by assumption) ?ru1t10x33
      case yu1t10x33 => (intro w' hSw; (try dsimp only at hSw); go_simp; try (with_reducible rfl))
      simp only [List.setIfInBounds_toArray, List.set_cons_zero, List.set_cons_succ]
      refine take_movev (v := ?vu1t10x34) 34 (Operand.tmp 140) rfl rfl (by first | exact .inl rfl | exact .inr rfl) rfl (by kernel_rfl) (by kernel_rfl) (by kernel_rfl) (fun _ _ _ h => h) (by assumption) ?yu1t10x34 ?ru1t10x34
      case yu1t10x34 => (go_simp; try (with_reducible rfl))
      simp only [List.setIfInBounds_toArray, List.set_cons_zero, List.set_cons_succ]
      refine wpAnyH_ready (rs := [35]) (by kernel_rfl) (by simp) (AllReadyH.cons rfl (fun K35 hK35 => ?ku1t10x35) AllReadyH.nil)
      refine take_calls 35 7 [] #[] rfl rfl (by kernel_rfl) (fun args w => run_enter Tryd.func7 (by kernel_rfl) rfl args w) ?_
      refine (HAW.out _ HR).mono ?_
      rintro e w35 ⟨rfl, hb35⟩
      refine ⟨_, rfl, ?_⟩
      have z35 := hb35.size
      try simp only [World.size_drew] at z35
      replace b7 := Blk.below b7 hb35 (by first | exact Nat.le_refl _ | (simp only [World.size_alloc, World.size_setCell, World.size_drew] at *; omega) | omega)
      replace HR := HR.trans (hb35.mono (by first | exact HR.size | omega))
      have zHR35 := HR.size
      refine hK35.out _ _ ?su1t10x35 (fun hHeld => ?ru1t10x35)
      case su1t10x35 => ((try dsimp only); exact ⟨b7.cell_ 0 rfl, b7.cell_ 1 rfl, b7.cell_ 2 rfl⟩)
      try simp only [List.setIfInBounds_toArray, List.set_cons_zero, List.set_cons_succ]
      refine take_op (v := ?vu1t10x36) 36 (Op.pick (Operand.tmp 141) (Operand.tmp 142) (Operand.const (Value.bool false))) 4 rfl rfl rfl rfl rfl (by kernel_rfl) (by kernel_rfl) (by kernel_rfl) (fun _ _ _ h => h) ?yu1t10x36 (by assumption) ?ru1t10x36
      case yu1t10x36 => (intro w' hSw; (try dsimp only at hSw); go_simp; try (with_reducible rfl))
      simp only [List.setIfInBounds_toArray, List.set_cons_zero, List.set_cons_succ]
      refine take_op (v := ?vu1t10x37) 37 (Op.assign (Operand.tmp 143)) 4 rfl rfl rfl rfl rfl (by kernel_rfl) (by kernel_rfl) (by kernel_rfl) (fun _ _ _ h => h) ?yu1t10x37 (by assumption) ?ru1t10x37
      case yu1t10x37 => (intro w' hSw; (try dsimp only at hSw); go_simp; try (with_reducible rfl))
      simp only [List.setIfInBounds_toArray, List.set_cons_zero, List.set_cons_succ]
      refine wpAnyH_done (by kernel_rfl) ?_ _
      go_wp2_with fail
      go_ret
      exact ⟨rfl, HB7.trans (HR.mono HB7.size)⟩
    · simp only [if_true, if_false, Bool.false_eq_true, Bool.and_true, Bool.and_false, Bool.or_true, Bool.or_false, Bool.and_self, Bool.or_self] at SM3 SM4
      go_wp2_with fail
      refine wp_region_held_drew (S := (fun w' => w'.cell? ⟨p0, 0, none⟩ = some (.int .i64 q) ∧ w'.cell? ⟨p0, 1, none⟩ = some (.int .i64 t) ∧ w'.cell? ⟨p0, 2, none⟩ = some (str d))) (by kernel_rfl) ?_ (fun hHeld => ?_)
      · replace b7 := Blk.drew b7; replace HR := Below.drew HR; (try dsimp only); exact ⟨b7.cell_ 0 rfl, b7.cell_ 1 rfl, b7.cell_ 2 rfl⟩
      replace b7 := Blk.drew b7
      replace HR := Below.drew HR
      have zHR := HR.size
      refine take_movev (v := ?vu2t10x0) 0 (Operand.tmp 17) rfl rfl (by first | exact .inl rfl | exact .inr rfl) rfl (by kernel_rfl) (by kernel_rfl) (by kernel_rfl) (fun _ _ _ h => h) (by assumption) ?yu2t10x0 ?ru2t10x0
      case yu2t10x0 => (go_simp; try (with_reducible rfl))
      simp only [List.setIfInBounds_toArray, List.set_cons_zero, List.set_cons_succ]
      refine take_op (v := ?vu2t10x1) 1 (Op.binOp BinOp.eql 24 (Operand.tmp 107) (Operand.const (Value.int IntKind.i64 0)) 24) 4 rfl rfl rfl rfl rfl (by kernel_rfl) (by kernel_rfl) (by kernel_rfl) (fun _ _ _ h => h) ?yu2t10x1 (by assumption) ?ru2t10x1
      case yu2t10x1 => (intro w' hSw; (try dsimp only at hSw); go_simp; try (with_reducible rfl))
      simp only [List.setIfInBounds_toArray, List.set_cons_zero, List.set_cons_succ]
      refine take_movev (v := ?vu2t10x2) 2 (Operand.tmp 108) rfl rfl (by first | exact .inl rfl | exact .inr rfl) rfl (by kernel_rfl) (by kernel_rfl) (by kernel_rfl) (fun _ _ _ h => h) (by assumption) ?yu2t10x2 ?ru2t10x2
      case yu2t10x2 => (go_simp; try (with_reducible rfl))
      simp only [List.setIfInBounds_toArray, List.set_cons_zero, List.set_cons_succ]
      refine take_movev (v := ?vu2t10x3) 3 (Operand.tmp 20) rfl rfl (by first | exact .inl rfl | exact .inr rfl) rfl (by kernel_rfl) (by kernel_rfl) (by kernel_rfl) (fun _ _ _ h => h) (by assumption) ?yu2t10x3 ?ru2t10x3
      case yu2t10x3 => (go_simp; try (with_reducible rfl))
      simp only [List.setIfInBounds_toArray, List.set_cons_zero, List.set_cons_succ]
      refine take_op (v := ?vu2t10x4) 4 (Op.binOp BinOp.eql 24 (Operand.tmp 110) (Operand.const (Value.int IntKind.i64 0)) 24) 4 rfl rfl rfl rfl rfl (by kernel_rfl) (by kernel_rfl) (by kernel_rfl) (fun _ _ _ h => h) ?yu2t10x4 (by assumption) ?ru2t10x4
      case yu2t10x4 => (intro w' hSw; (try dsimp only at hSw); go_simp; try (with_reducible rfl))
      simp only [List.setIfInBounds_toArray, List.set_cons_zero, List.set_cons_succ]
      refine take_op (v := ?vu2t10x5) 5 (Op.pick (Operand.tmp 109) (Operand.tmp 111) (Operand.const (Value.bool false))) 4 rfl rfl rfl rfl rfl (by kernel_rfl) (by kernel_rfl) (by kernel_rfl) (fun _ _ _ h => h) ?yu2t10x5 (by assumption) ?ru2t10x5
      case yu2t10x5 => (intro w' hSw; (try dsimp only at hSw); go_simp; try (with_reducible rfl))
      simp only [List.setIfInBounds_toArray, List.set_cons_zero, List.set_cons_succ]
      refine take_movev (v := ?vu2t10x6) 6 (Operand.tmp 112) rfl rfl (by first | exact .inl rfl | exact .inr rfl) rfl (by kernel_rfl) (by kernel_rfl) (by kernel_rfl) (fun _ _ _ h => h) (by assumption) ?yu2t10x6 ?ru2t10x6
      case yu2t10x6 => (go_simp; try (with_reducible rfl))
      simp only [List.setIfInBounds_toArray, List.set_cons_zero, List.set_cons_succ]
      refine take_movev (v := ?vu2t10x7) 7 (Operand.tmp 15) rfl rfl (by first | exact .inl rfl | exact .inr rfl) rfl (by kernel_rfl) (by kernel_rfl) (by kernel_rfl) (fun _ _ _ h => h) (by assumption) ?yu2t10x7 ?ru2t10x7
      case yu2t10x7 => (go_simp; try (with_reducible rfl))
      simp only [List.setIfInBounds_toArray, List.set_cons_zero, List.set_cons_succ]
      refine take_op (v := ?vu2t10x8) 8 (Op.load 37 (Operand.tmp 5)) 37 rfl rfl rfl rfl rfl (by kernel_rfl) (by kernel_rfl) (by kernel_rfl) (fun _ _ _ h => h) ?yu2t10x8 (by assumption) ?ru2t10x8
      case yu2t10x8 => (intro w' hSw; (try dsimp only at hSw); go_simp; try (with_reducible rfl))
      simp only [List.setIfInBounds_toArray, List.set_cons_zero, List.set_cons_succ]
      refine take_movev (v := ?vu2t10x10) 10 (Operand.tmp 7) rfl rfl (by first | exact .inl rfl | exact .inr rfl) rfl (by kernel_rfl) (by kernel_rfl) (by kernel_rfl) (fun _ _ _ h => h) (by assumption) ?yu2t10x10 ?ru2t10x10
      case yu2t10x10 => (go_simp; try (with_reducible rfl))
      simp only [List.setIfInBounds_toArray, List.set_cons_zero, List.set_cons_succ]
      refine take_op (v := ?vu2t10x11) 11 (Op.load 37 (Operand.tmp 5)) 37 rfl rfl rfl rfl rfl (by kernel_rfl) (by kernel_rfl) (by kernel_rfl) (fun _ _ _ h => h) ?yu2t10x11 (by assumption) ?ru2t10x11
      case yu2t10x11 => (intro w' hSw; (try dsimp only at hSw); go_simp; try (with_reducible rfl))
      simp only [List.setIfInBounds_toArray, List.set_cons_zero, List.set_cons_succ]
      refine wpAnyH_ready (rs := [9]) (by kernel_rfl) (by simp) (AllReadyH.cons rfl (fun K9 hK9 => ?ku2t10x9) AllReadyH.nil)
      refine take_calls 9 14 [Operand.tmp 114, Operand.tmp 115] #[23, 37] rfl rfl (by kernel_rfl) (fun args w => run_enter Tryd.func14 (by kernel_rfl) rfl args w) ?_
      refine (SM3.out _ HR).mono ?_
      rintro e w9 ⟨rfl, hb9⟩
      refine ⟨_, rfl, ?_⟩
      have z9 := hb9.size
      try simp only [World.size_drew] at z9
      replace b7 := Blk.below b7 hb9 (by first | exact Nat.le_refl _ | (simp only [World.size_alloc, World.size_setCell, World.size_drew] at *; omega) | omega)
      replace HR := HR.trans (hb9.mono (by first | exact HR.size | omega))
      have zHR9 := HR.size
      refine hK9.out _ _ ?su2t10x9 (fun hHeld => ?ru2t10x9)
      case su2t10x9 => ((try dsimp only); exact ⟨b7.cell_ 0 rfl, b7.cell_ 1 rfl, b7.cell_ 2 rfl⟩)
      try simp only [List.setIfInBounds_toArray, List.set_cons_zero, List.set_cons_succ]
      refine wpAnyH_ready (rs := [12]) (by kernel_rfl) (by simp) (AllReadyH.cons rfl (fun K12 hK12 => ?ku2t10x12) AllReadyH.nil)
      refine take_calls 12 14 [Operand.tmp 117, Operand.tmp 118] #[23, 37] rfl rfl (by kernel_rfl) (fun args w => run_enter Tryd.func14 (by kernel_rfl) rfl args w) ?_
      refine (SM1.out _ HR).mono ?_
      rintro e w12 ⟨rfl, hb12⟩
      refine ⟨_, rfl, ?_⟩
      have z12 := hb12.size
      try simp only [World.size_drew] at z12
      replace b7 := Blk.below b7 hb12 (by first | exact Nat.le_refl _ | (simp only [World.size_alloc, World.size_setCell, World.size_drew] at *; omega) | omega)
      replace HR := HR.trans (hb12.mono (by first | exact HR.size | omega))
      have zHR12 := HR.size
      refine hK12.out _ _ ?su2t10x12 (fun hHeld => ?ru2t10x12)
      case su2t10x12 => ((try dsimp only); exact ⟨b7.cell_ 0 rfl, b7.cell_ 1 rfl, b7.cell_ 2 rfl⟩)
      try simp only [List.setIfInBounds_toArray, List.set_cons_zero, List.set_cons_succ]
      refine take_movev (v := ?vu2t10x13) 13 (Operand.tmp 119) rfl rfl (by first | exact .inl rfl | exact .inr rfl) rfl (by kernel_rfl) (by kernel_rfl) (by kernel_rfl) (fun _ _ _ h => h) (by assumption) ?yu2t10x13 ?ru2t10x13
      case yu2t10x13 => (go_simp; try (with_reducible rfl))
      simp only [List.setIfInBounds_toArray, List.set_cons_zero, List.set_cons_succ]
      refine take_skip 14 rfl rfl rfl (by kernel_rfl) (by kernel_rfl) (by kernel_rfl) (fun _ _ _ h => h) (by assumption) ?_
      simp only [List.setIfInBounds_toArray, List.set_cons_zero, List.set_cons_succ]
      refine take_skip 15 rfl rfl rfl (by kernel_rfl) (by kernel_rfl) (by kernel_rfl) (fun _ _ _ h => h) (by assumption) ?_
      simp only [List.setIfInBounds_toArray, List.set_cons_zero, List.set_cons_succ]
      refine take_skip 16 rfl rfl rfl (by kernel_rfl) (by kernel_rfl) (by kernel_rfl) (fun _ _ _ h => h) (by assumption) ?_
      simp only [List.setIfInBounds_toArray, List.set_cons_zero, List.set_cons_succ]
      refine take_op (v := ?vu2t10x17) 17 (Op.pick (Operand.tmp 120) (Operand.tmp 123) (Operand.const (Value.bool false))) 4 rfl rfl rfl rfl rfl (by kernel_rfl) (by kernel_rfl) (by kernel_rfl) (fun _ _ _ h => h) ?yu2t10x17 (by assumption) ?ru2t10x17
      case yu2t10x17 => (intro w' hSw; (try dsimp only at hSw); go_simp; try (with_reducible rfl))
      simp only [List.setIfInBounds_toArray, List.set_cons_zero, List.set_cons_succ]
      refine take_op (v := ?vu2t10x18) 18 (Op.binOp BinOp.eql 4 (Operand.tmp 116) (Operand.tmp 124) 4) 4 rfl rfl rfl rfl rfl (by kernel_rfl) (by kernel_rfl) (by kernel_rfl) (fun _ _ _ h => h) ?yu2t10x18 (by assumption) ?ru2t10x18
      case yu2t10x18 => (intro w' hSw; (try dsimp only at hSw); go_simp; try (with_reducible rfl))
      simp only [List.setIfInBounds_toArray, List.set_cons_zero, List.set_cons_succ]
      refine take_op (v := ?vu2t10x19) 19 (Op.pick (Operand.tmp 113) (Operand.tmp 125) (Operand.const (Value.bool false))) 4 rfl rfl rfl rfl rfl (by kernel_rfl) (by kernel_rfl) (by kernel_rfl) (fun _ _ _ h => h) ?yu2t10x19 (by assumption) ?ru2t10x19
      case yu2t10x19 => (intro w' hSw; (try dsimp only at hSw); go_simp; try (with_reducible rfl))
      simp only [List.setIfInBounds_toArray, List.set_cons_zero, List.set_cons_succ]
      refine take_movev (v := ?vu2t10x20) 20 (Operand.tmp 126) rfl rfl (by first | exact .inl rfl | exact .inr rfl) rfl (by kernel_rfl) (by kernel_rfl) (by kernel_rfl) (fun _ _ _ h => h) (by assumption) ?yu2t10x20 ?ru2t10x20
      case yu2t10x20 => (go_simp; try (with_reducible rfl))
      simp only [List.setIfInBounds_toArray, List.set_cons_zero, List.set_cons_succ]
      refine take_movev (v := ?vu2t10x21) 21 (Operand.tmp 18) rfl rfl (by first | exact .inl rfl | exact .inr rfl) rfl (by kernel_rfl) (by kernel_rfl) (by kernel_rfl) (fun _ _ _ h => h) (by assumption) ?yu2t10x21 ?ru2t10x21
      case yu2t10x21 => (go_simp; try (with_reducible rfl))
      simp only [List.setIfInBounds_toArray, List.set_cons_zero, List.set_cons_succ]
      refine take_op (v := ?vu2t10x22) 22 (Op.load 37 (Operand.tmp 5)) 37 rfl rfl rfl rfl rfl (by kernel_rfl) (by kernel_rfl) (by kernel_rfl) (fun _ _ _ h => h) ?yu2t10x22 (by assumption) ?ru2t10x22
      case yu2t10x22 => (intro w' hSw; (try dsimp only at hSw); go_simp; try (with_reducible rfl))
      simp only [List.setIfInBounds_toArray, List.set_cons_zero, List.set_cons_succ]
      refine take_movev (v := ?vu2t10x24) 24 (Operand.tmp 7) rfl rfl (by first | exact .inl rfl | exact .inr rfl) rfl (by kernel_rfl) (by kernel_rfl) (by kernel_rfl) (fun _ _ _ h => h) (by assumption) ?yu2t10x24 ?ru2t10x24
      case yu2t10x24 => (go_simp; try (with_reducible rfl))
      simp only [List.setIfInBounds_toArray, List.set_cons_zero, List.set_cons_succ]
      refine take_op (v := ?vu2t10x25) 25 (Op.load 37 (Operand.tmp 5)) 37 rfl rfl rfl rfl rfl (by kernel_rfl) (by kernel_rfl) (by kernel_rfl) (fun _ _ _ h => h) ?yu2t10x25 (by assumption) ?ru2t10x25
      case yu2t10x25 => (intro w' hSw; (try dsimp only at hSw); go_simp; try (with_reducible rfl))
      simp only [List.setIfInBounds_toArray, List.set_cons_zero, List.set_cons_succ]
      refine wpAnyH_ready (rs := [23]) (by kernel_rfl) (by simp) (AllReadyH.cons rfl (fun K23 hK23 => ?ku2t10x23) AllReadyH.nil)
      refine take_calls 23 14 [Operand.tmp 128, Operand.tmp 129] #[23, 37] rfl rfl (by kernel_rfl) (fun args w => run_enter Tryd.func14 (by kernel_rfl) rfl args w) ?_
      refine (SM4.out _ HR).mono ?_
      rintro e w23 ⟨rfl, hb23⟩
      refine ⟨_, rfl, ?_⟩
      have z23 := hb23.size
      try simp only [World.size_drew] at z23
      replace b7 := Blk.below b7 hb23 (by first | exact Nat.le_refl _ | (simp only [World.size_alloc, World.size_setCell, World.size_drew] at *; omega) | omega)
      replace HR := HR.trans (hb23.mono (by first | exact HR.size | omega))
      have zHR23 := HR.size
      refine hK23.out _ _ ?su2t10x23 (fun hHeld => ?ru2t10x23)
      case su2t10x23 => ((try dsimp only); exact ⟨b7.cell_ 0 rfl, b7.cell_ 1 rfl, b7.cell_ 2 rfl⟩)
      try simp only [List.setIfInBounds_toArray, List.set_cons_zero, List.set_cons_succ]
      refine wpAnyH_ready (rs := [26]) (by kernel_rfl) (by simp) (AllReadyH.cons rfl (fun K26 hK26 => ?ku2t10x26) AllReadyH.nil)
      refine take_calls 26 14 [Operand.tmp 131, Operand.tmp 132] #[23, 37] rfl rfl (by kernel_rfl) (fun args w => run_enter Tryd.func14 (by kernel_rfl) rfl args w) ?_
      refine (SM1.out _ HR).mono ?_
      rintro e w26 ⟨rfl, hb26⟩
      refine ⟨_, rfl, ?_⟩
      have z26 := hb26.size
      try simp only [World.size_drew] at z26
      replace b7 := Blk.below b7 hb26 (by first | exact Nat.le_refl _ | (simp only [World.size_alloc, World.size_setCell, World.size_drew] at *; omega) | omega)
      replace HR := HR.trans (hb26.mono (by first | exact HR.size | omega))
      have zHR26 := HR.size
      refine hK26.out _ _ ?su2t10x26 (fun hHeld => ?ru2t10x26)
      case su2t10x26 => ((try dsimp only); exact ⟨b7.cell_ 0 rfl, b7.cell_ 1 rfl, b7.cell_ 2 rfl⟩)
      try simp only [List.setIfInBounds_toArray, List.set_cons_zero, List.set_cons_succ]
      refine take_movev (v := ?vu2t10x27) 27 (Operand.tmp 133) rfl rfl (by first | exact .inl rfl | exact .inr rfl) rfl (by kernel_rfl) (by kernel_rfl) (by kernel_rfl) (fun _ _ _ h => h) (by assumption) ?yu2t10x27 ?ru2t10x27
      case yu2t10x27 => (go_simp; try (with_reducible rfl))
      simp only [List.setIfInBounds_toArray, List.set_cons_zero, List.set_cons_succ]
      refine take_movev (v := ?vu2t10x28) 28 (Operand.tmp 10) rfl rfl (by first | exact .inl rfl | exact .inr rfl) rfl (by kernel_rfl) (by kernel_rfl) (by kernel_rfl) (fun _ _ _ h => h) (by assumption) ?yu2t10x28 ?ru2t10x28
      case yu2t10x28 => (go_simp; try (with_reducible rfl))
      simp only [List.setIfInBounds_toArray, List.set_cons_zero, List.set_cons_succ]
      refine take_op (v := ?vu2t10x29) 29 (Op.load 37 (Operand.tmp 5)) 37 rfl rfl rfl rfl rfl (by kernel_rfl) (by kernel_rfl) (by kernel_rfl) (fun _ _ _ h => h) ?yu2t10x29 (by assumption) ?ru2t10x29
      case yu2t10x29 => (intro w' hSw; (try dsimp only at hSw); go_simp; try (with_reducible rfl))
      simp only [List.setIfInBounds_toArray, List.set_cons_zero, List.set_cons_succ]
      refine wpAnyH_ready (rs := [30]) (by kernel_rfl) (by simp) (AllReadyH.cons rfl (fun K30 hK30 => ?ku2t10x30) AllReadyH.nil)
      refine take_calls 30 14 [Operand.tmp 135, Operand.tmp 136] #[23, 37] rfl rfl (by kernel_rfl) (fun args w => run_enter Tryd.func14 (by kernel_rfl) rfl args w) ?_
      refine (SM2.out _ HR).mono ?_
      rintro e w30 ⟨rfl, hb30⟩
      refine ⟨_, rfl, ?_⟩
      have z30 := hb30.size
      try simp only [World.size_drew] at z30
      replace b7 := Blk.below b7 hb30 (by first | exact Nat.le_refl _ | (simp only [World.size_alloc, World.size_setCell, World.size_drew] at *; omega) | omega)
      replace HR := HR.trans (hb30.mono (by first | exact HR.size | omega))
      have zHR30 := HR.size
      refine hK30.out _ _ ?su2t10x30 (fun hHeld => ?ru2t10x30)
      case su2t10x30 => ((try dsimp only); exact ⟨b7.cell_ 0 rfl, b7.cell_ 1 rfl, b7.cell_ 2 rfl⟩)
      try simp only [List.setIfInBounds_toArray, List.set_cons_zero, List.set_cons_succ]
      refine take_op (v := ?vu2t10x31) 31 (Op.pick (Operand.tmp 134) (Operand.const (Value.bool true)) (Operand.tmp 137)) 4 rfl rfl rfl rfl rfl (by kernel_rfl) (by kernel_rfl) (by kernel_rfl) (fun _ _ _ h => h) ?yu2t10x31 (by assumption) ?ru2t10x31
      case yu2t10x31 => (intro w' hSw; (try dsimp only at hSw); go_simp; try (with_reducible rfl))
      simp only [List.setIfInBounds_toArray, List.set_cons_zero, List.set_cons_succ]
      refine take_op (v := ?vu2t10x32) 32 (Op.binOp BinOp.eql 4 (Operand.tmp 130) (Operand.tmp 138) 4) 4 rfl rfl rfl rfl rfl (by kernel_rfl) (by kernel_rfl) (by kernel_rfl) (fun _ _ _ h => h) ?yu2t10x32 (by assumption) ?ru2t10x32
      case yu2t10x32 => (intro w' hSw; (try dsimp only at hSw); go_simp; try (with_reducible rfl))
      simp only [List.setIfInBounds_toArray, List.set_cons_zero, List.set_cons_succ]
      refine take_op (v := ?vu2t10x33) 33 (Op.pick (Operand.tmp 127) (Operand.tmp 139) (Operand.const (Value.bool false))) 4 rfl rfl rfl rfl rfl (by kernel_rfl) (by kernel_rfl) (by kernel_rfl) (fun _ _ _ h => h) ?yu2t10x33 (by assumption) ?ru2t10x33
      case yu2t10x33 => (intro w' hSw; (try dsimp only at hSw); go_simp; try (with_reducible rfl))
      simp only [List.setIfInBounds_toArray, List.set_cons_zero, List.set_cons_succ]
      refine take_movev (v := ?vu2t10x34) 34 (Operand.tmp 140) rfl rfl (by first | exact .inl rfl | exact .inr rfl) rfl (by kernel_rfl) (by kernel_rfl) (by kernel_rfl) (fun _ _ _ h => h) (by assumption) ?yu2t10x34 ?ru2t10x34
      case yu2t10x34 => (go_simp; try (with_reducible rfl))
      simp only [List.setIfInBounds_toArray, List.set_cons_zero, List.set_cons_succ]
      refine wpAnyH_ready (rs := [35]) (by kernel_rfl) (by simp) (AllReadyH.cons rfl (fun K35 hK35 => ?ku2t10x35) AllReadyH.nil)
      refine take_calls 35 7 [] #[] rfl rfl (by kernel_rfl) (fun args w => run_enter Tryd.func7 (by kernel_rfl) rfl args w) ?_
      refine (HAW.out _ HR).mono ?_
      rintro e w35 ⟨rfl, hb35⟩
      refine ⟨_, rfl, ?_⟩
      have z35 := hb35.size
      try simp only [World.size_drew] at z35
      replace b7 := Blk.below b7 hb35 (by first | exact Nat.le_refl _ | (simp only [World.size_alloc, World.size_setCell, World.size_drew] at *; omega) | omega)
      replace HR := HR.trans (hb35.mono (by first | exact HR.size | omega))
      have zHR35 := HR.size
      refine hK35.out _ _ ?su2t10x35 (fun hHeld => ?ru2t10x35)
      case su2t10x35 => ((try dsimp only); exact ⟨b7.cell_ 0 rfl, b7.cell_ 1 rfl, b7.cell_ 2 rfl⟩)
      try simp only [List.setIfInBounds_toArray, List.set_cons_zero, List.set_cons_succ]
      refine take_op (v := ?vu2t10x36) 36 (Op.pick (Operand.tmp 141) (Operand.tmp 142) (Operand.const (Value.bool false))) 4 rfl rfl rfl rfl rfl (by kernel_rfl) (by kernel_rfl) (by kernel_rfl) (fun _ _ _ h => h) ?yu2t10x36 (by assumption) ?ru2t10x36
      case yu2t10x36 => (intro w' hSw; (try dsimp only at hSw); go_simp; try (with_reducible rfl))
      simp only [List.setIfInBounds_toArray, List.set_cons_zero, List.set_cons_succ]
      refine take_op (v := ?vu2t10x37) 37 (Op.assign (Operand.tmp 143)) 4 rfl rfl rfl rfl rfl (by kernel_rfl) (by kernel_rfl) (by kernel_rfl) (fun _ _ _ h => h) ?yu2t10x37 (by assumption) ?ru2t10x37
      case yu2t10x37 => (intro w' hSw; (try dsimp only at hSw); go_simp; try (with_reducible rfl))
      simp only [List.setIfInBounds_toArray, List.set_cons_zero, List.set_cons_succ]
      refine wpAnyH_done (by kernel_rfl) ?_ _
      go_wp2_with fail
      go_ret
      exact ⟨rfl, HB7.trans (HR.mono HB7.size)⟩
    · simp only [if_true, if_false, Bool.false_eq_true, Bool.and_true, Bool.and_false, Bool.or_true, Bool.or_false, Bool.and_self, Bool.or_self] at SM3 SM4
      go_wp2_with fail
      refine wp_region_held_drew (S := (fun w' => w'.cell? ⟨p0, 0, none⟩ = some (.int .i64 q) ∧ w'.cell? ⟨p0, 1, none⟩ = some (.int .i64 t) ∧ w'.cell? ⟨p0, 2, none⟩ = some (str d))) (by kernel_rfl) ?_ (fun hHeld => ?_)
      · replace b7 := Blk.drew b7; replace HR := Below.drew HR; (try dsimp only); exact ⟨b7.cell_ 0 rfl, b7.cell_ 1 rfl, b7.cell_ 2 rfl⟩
      replace b7 := Blk.drew b7
      replace HR := Below.drew HR
      have zHR := HR.size
      refine take_movev (v := ?vu3t10x0) 0 (Operand.tmp 17) rfl rfl (by first | exact .inl rfl | exact .inr rfl) rfl (by kernel_rfl) (by kernel_rfl) (by kernel_rfl) (fun _ _ _ h => h) (by assumption) ?yu3t10x0 ?ru3t10x0
      case yu3t10x0 => (go_simp; try (with_reducible rfl))
      simp only [List.setIfInBounds_toArray, List.set_cons_zero, List.set_cons_succ]
      refine take_op (v := ?vu3t10x1) 1 (Op.binOp BinOp.eql 24 (Operand.tmp 107) (Operand.const (Value.int IntKind.i64 0)) 24) 4 rfl rfl rfl rfl rfl (by kernel_rfl) (by kernel_rfl) (by kernel_rfl) (fun _ _ _ h => h) ?yu3t10x1 (by assumption) ?ru3t10x1
      case yu3t10x1 => (intro w' hSw; (try dsimp only at hSw); go_simp; try (with_reducible rfl))
      simp only [List.setIfInBounds_toArray, List.set_cons_zero, List.set_cons_succ]
      refine take_movev (v := ?vu3t10x2) 2 (Operand.tmp 108) rfl rfl (by first | exact .inl rfl | exact .inr rfl) rfl (by kernel_rfl) (by kernel_rfl) (by kernel_rfl) (fun _ _ _ h => h) (by assumption) ?yu3t10x2 ?ru3t10x2
      case yu3t10x2 => (go_simp; try (with_reducible rfl))
      simp only [List.setIfInBounds_toArray, List.set_cons_zero, List.set_cons_succ]
      refine take_movev (v := ?vu3t10x3) 3 (Operand.tmp 20) rfl rfl (by first | exact .inl rfl | exact .inr rfl) rfl (by kernel_rfl) (by kernel_rfl) (by kernel_rfl) (fun _ _ _ h => h) (by assumption) ?yu3t10x3 ?ru3t10x3
      case yu3t10x3 => (go_simp; try (with_reducible rfl))
      simp only [List.setIfInBounds_toArray, List.set_cons_zero, List.set_cons_succ]
      refine take_op (v := ?vu3t10x4) 4 (Op.binOp BinOp.eql 24 (Operand.tmp 110) (Operand.const (Value.int IntKind.i64 0)) 24) 4 rfl rfl rfl rfl rfl (by kernel_rfl) (by kernel_rfl) (by kernel_rfl) (fun _ _ _ h => h) ?yu3t10x4 (by assumption) ?ru3t10x4
      case yu3t10x4 => (intro w' hSw; (try dsimp only at hSw); go_simp; try (with_reducible rfl))
      simp only [List.setIfInBounds_toArray, List.set_cons_zero, List.set_cons_succ]
      refine take_op (v := ?vu3t10x5) 5 (Op.pick (Operand.tmp 109) (Operand.tmp 111) (Operand.const (Value.bool false))) 4 rfl rfl rfl rfl rfl (by kernel_rfl) (by kernel_rfl) (by kernel_rfl) (fun _ _ _ h => h) ?yu3t10x5 (by assumption) ?ru3t10x5
      case yu3t10x5 => (intro w' hSw; (try dsimp only at hSw); go_simp; try (with_reducible rfl))
      simp only [List.setIfInBounds_toArray, List.set_cons_zero, List.set_cons_succ]
      refine take_movev (v := ?vu3t10x6) 6 (Operand.tmp 112) rfl rfl (by first | exact .inl rfl | exact .inr rfl) rfl (by kernel_rfl) (by kernel_rfl) (by kernel_rfl) (fun _ _ _ h => h) (by assumption) ?yu3t10x6 ?ru3t10x6
      case yu3t10x6 => (go_simp; try (with_reducible rfl))
      simp only [List.setIfInBounds_toArray, List.set_cons_zero, List.set_cons_succ]
      refine take_movev (v := ?vu3t10x7) 7 (Operand.tmp 15) rfl rfl (by first | exact .inl rfl | exact .inr rfl) rfl (by kernel_rfl) (by kernel_rfl) (by kernel_rfl) (fun _ _ _ h => h) (by assumption) ?yu3t10x7 ?ru3t10x7
      case yu3t10x7 => (go_simp; try (with_reducible rfl))
      simp only [List.setIfInBounds_toArray, List.set_cons_zero, List.set_cons_succ]
      refine take_op (v := ?vu3t10x8) 8 (Op.load 37 (Operand.tmp 5)) 37 rfl rfl rfl rfl rfl (by kernel_rfl) (by kernel_rfl) (by kernel_rfl) (fun _ _ _ h => h) ?yu3t10x8 (by assumption) ?ru3t10x8
      case yu3t10x8 => (intro w' hSw; (try dsimp only at hSw); go_simp; try (with_reducible rfl))
      simp only [List.setIfInBounds_toArray, List.set_cons_zero, List.set_cons_succ]
      refine take_movev (v := ?vu3t10x10) 10 (Operand.tmp 7) rfl rfl (by first | exact .inl rfl | exact .inr rfl) rfl (by kernel_rfl) (by kernel_rfl) (by kernel_rfl) (fun _ _ _ h => h) (by assumption) ?yu3t10x10 ?ru3t10x10
      case yu3t10x10 => (go_simp; try (with_reducible rfl))
      simp only [List.setIfInBounds_toArray, List.set_cons_zero, List.set_cons_succ]
      refine take_op (v := ?vu3t10x11) 11 (Op.load 37 (Operand.tmp 5)) 37 rfl rfl rfl rfl rfl (by kernel_rfl) (by kernel_rfl) (by kernel_rfl) (fun _ _ _ h => h) ?yu3t10x11 (by assumption) ?ru3t10x11
      case yu3t10x11 => (intro w' hSw; (try dsimp only at hSw); go_simp; try (with_reducible rfl))
      simp only [List.setIfInBounds_toArray, List.set_cons_zero, List.set_cons_succ]
      refine wpAnyH_ready (rs := [9]) (by kernel_rfl) (by simp) (AllReadyH.cons rfl (fun K9 hK9 => ?ku3t10x9) AllReadyH.nil)
      refine take_calls 9 14 [Operand.tmp 114, Operand.tmp 115] #[23, 37] rfl rfl (by kernel_rfl) (fun args w => run_enter Tryd.func14 (by kernel_rfl) rfl args w) ?_
      refine (SM3.out _ HR).mono ?_
      rintro e w9 ⟨rfl, hb9⟩
      refine ⟨_, rfl, ?_⟩
      have z9 := hb9.size
      try simp only [World.size_drew] at z9
      replace b7 := Blk.below b7 hb9 (by first | exact Nat.le_refl _ | (simp only [World.size_alloc, World.size_setCell, World.size_drew] at *; omega) | omega)
      replace HR := HR.trans (hb9.mono (by first | exact HR.size | omega))
      have zHR9 := HR.size
      refine hK9.out _ _ ?su3t10x9 (fun hHeld => ?ru3t10x9)
      case su3t10x9 => ((try dsimp only); exact ⟨b7.cell_ 0 rfl, b7.cell_ 1 rfl, b7.cell_ 2 rfl⟩)
      try simp only [List.setIfInBounds_toArray, List.set_cons_zero, List.set_cons_succ]
      refine wpAnyH_ready (rs := [12]) (by kernel_rfl) (by simp) (AllReadyH.cons rfl (fun K12 hK12 => ?ku3t10x12) AllReadyH.nil)
      refine take_calls 12 14 [Operand.tmp 117, Operand.tmp 118] #[23, 37] rfl rfl (by kernel_rfl) (fun args w => run_enter Tryd.func14 (by kernel_rfl) rfl args w) ?_
      refine (SM1.out _ HR).mono ?_
      rintro e w12 ⟨rfl, hb12⟩
      refine ⟨_, rfl, ?_⟩
      have z12 := hb12.size
      try simp only [World.size_drew] at z12
      replace b7 := Blk.below b7 hb12 (by first | exact Nat.le_refl _ | (simp only [World.size_alloc, World.size_setCell, World.size_drew] at *; omega) | omega)
      replace HR := HR.trans (hb12.mono (by first | exact HR.size | omega))
      have zHR12 := HR.size
      refine hK12.out _ _ ?su3t10x12 (fun hHeld => ?ru3t10x12)
      case su3t10x12 => ((try dsimp only); exact ⟨b7.cell_ 0 rfl, b7.cell_ 1 rfl, b7.cell_ 2 rfl⟩)
      try simp only [List.setIfInBounds_toArray, List.set_cons_zero, List.set_cons_succ]
      refine take_movev (v := ?vu3t10x13) 13 (Operand.tmp 119) rfl rfl (by first | exact .inl rfl | exact .inr rfl) rfl (by kernel_rfl) (by kernel_rfl) (by kernel_rfl) (fun _ _ _ h => h) (by assumption) ?yu3t10x13 ?ru3t10x13
      case yu3t10x13 => (go_simp; try (with_reducible rfl))
      simp only [List.setIfInBounds_toArray, List.set_cons_zero, List.set_cons_succ]
      refine take_movev (v := ?vu3t10x14) 14 (Operand.tmp 10) rfl rfl (by first | exact .inl rfl | exact .inr rfl) rfl (by kernel_rfl) (by kernel_rfl) (by kernel_rfl) (fun _ _ _ h => h) (by assumption) ?yu3t10x14 ?ru3t10x14
      case yu3t10x14 => (go_simp; try (with_reducible rfl))
      simp only [List.setIfInBounds_toArray, List.set_cons_zero, List.set_cons_succ]
      refine take_op (v := ?vu3t10x15) 15 (Op.load 37 (Operand.tmp 5)) 37 rfl rfl rfl rfl rfl (by kernel_rfl) (by kernel_rfl) (by kernel_rfl) (fun _ _ _ h => h) ?yu3t10x15 (by assumption) ?ru3t10x15
      case yu3t10x15 => (intro w' hSw; (try dsimp only at hSw); go_simp; try (with_reducible rfl))
      simp only [List.setIfInBounds_toArray, List.set_cons_zero, List.set_cons_succ]
      refine wpAnyH_ready (rs := [16]) (by kernel_rfl) (by simp) (AllReadyH.cons rfl (fun K16 hK16 => ?ku3t10x16) AllReadyH.nil)
      refine take_calls 16 14 [Operand.tmp 121, Operand.tmp 122] #[23, 37] rfl rfl (by kernel_rfl) (fun args w => run_enter Tryd.func14 (by kernel_rfl) rfl args w) ?_
      refine (SM2.out _ HR).mono ?_
      rintro e w16 ⟨rfl, hb16⟩
      refine ⟨_, rfl, ?_⟩
      have z16 := hb16.size
      try simp only [World.size_drew] at z16
      replace b7 := Blk.below b7 hb16 (by first | exact Nat.le_refl _ | (simp only [World.size_alloc, World.size_setCell, World.size_drew] at *; omega) | omega)
      replace HR := HR.trans (hb16.mono (by first | exact HR.size | omega))
      have zHR16 := HR.size
      refine hK16.out _ _ ?su3t10x16 (fun hHeld => ?ru3t10x16)
      case su3t10x16 => ((try dsimp only); exact ⟨b7.cell_ 0 rfl, b7.cell_ 1 rfl, b7.cell_ 2 rfl⟩)
      try simp only [List.setIfInBounds_toArray, List.set_cons_zero, List.set_cons_succ]
      refine take_op (v := ?vu3t10x17) 17 (Op.pick (Operand.tmp 120) (Operand.tmp 123) (Operand.const (Value.bool false))) 4 rfl rfl rfl rfl rfl (by kernel_rfl) (by kernel_rfl) (by kernel_rfl) (fun _ _ _ h => h) ?yu3t10x17 (by assumption) ?ru3t10x17
      case yu3t10x17 => (intro w' hSw; (try dsimp only at hSw); go_simp; try (with_reducible rfl))
      simp only [List.setIfInBounds_toArray, List.set_cons_zero, List.set_cons_succ]
      refine take_op (v := ?vu3t10x18) 18 (Op.binOp BinOp.eql 4 (Operand.tmp 116) (Operand.tmp 124) 4) 4 rfl rfl rfl rfl rfl (by kernel_rfl) (by kernel_rfl) (by kernel_rfl) (fun _ _ _ h => h) ?yu3t10x18 (by assumption) ?ru3t10x18
      case yu3t10x18 => (intro w' hSw; (try dsimp only at hSw); go_simp; try (with_reducible rfl))
      simp only [List.setIfInBounds_toArray, List.set_cons_zero, List.set_cons_succ]
      refine take_op (v := ?vu3t10x19) 19 (Op.pick (Operand.tmp 113) (Operand.tmp 125) (Operand.const (Value.bool false))) 4 rfl rfl rfl rfl rfl (by kernel_rfl) (by kernel_rfl) (by kernel_rfl) (fun _ _ _ h => h) ?yu3t10x19 (by assumption) ?ru3t10x19
      case yu3t10x19 => (intro w' hSw; (try dsimp only at hSw); go_simp; try (with_reducible rfl))
      simp only [List.setIfInBounds_toArray, List.set_cons_zero, List.set_cons_succ]
      refine take_movev (v := ?vu3t10x20) 20 (Operand.tmp 126) rfl rfl (by first | exact .inl rfl | exact .inr rfl) rfl (by kernel_rfl) (by kernel_rfl) (by kernel_rfl) (fun _ _ _ h => h) (by assumption) ?yu3t10x20 ?ru3t10x20
      case yu3t10x20 => (go_simp; try (with_reducible rfl))
      simp only [List.setIfInBounds_toArray, List.set_cons_zero, List.set_cons_succ]
      refine take_movev (v := ?vu3t10x21) 21 (Operand.tmp 18) rfl rfl (by first | exact .inl rfl | exact .inr rfl) rfl (by kernel_rfl) (by kernel_rfl) (by kernel_rfl) (fun _ _ _ h => h) (by assumption) ?yu3t10x21 ?ru3t10x21
      case yu3t10x21 => (go_simp; try (with_reducible rfl))
      simp only [List.setIfInBounds_toArray, List.set_cons_zero, List.set_cons_succ]
      refine take_op (v := ?vu3t10x22) 22 (Op.load 37 (Operand.tmp 5)) 37 rfl rfl rfl rfl rfl (by kernel_rfl) (by kernel_rfl) (by kernel_rfl) (fun _ _ _ h => h) ?yu3t10x22 (by assumption) ?ru3t10x22
      case yu3t10x22 => (intro w' hSw; (try dsimp only at hSw); go_simp; try (with_reducible rfl))
      simp only [List.setIfInBounds_toArray, List.set_cons_zero, List.set_cons_succ]
      refine take_movev (v := ?vu3t10x24) 24 (Operand.tmp 7) rfl rfl (by first | exact .inl rfl | exact .inr rfl) rfl (by kernel_rfl) (by kernel_rfl) (by kernel_rfl) (fun _ _ _ h => h) (by assumption) ?yu3t10x24 ?ru3t10x24
      case yu3t10x24 => (go_simp; try (with_reducible rfl))
      simp only [List.setIfInBounds_toArray, List.set_cons_zero, List.set_cons_succ]
      refine take_op (v := ?vu3t10x25) 25 (Op.load 37 (Operand.tmp 5)) 37 rfl rfl rfl rfl rfl (by kernel_rfl) (by kernel_rfl) (by kernel_rfl) (fun _ _ _ h => h) ?yu3t10x25 (by assumption) ?ru3t10x25
      case yu3t10x25 => (intro w' hSw; (try dsimp only at hSw); go_simp; try (with_reducible rfl))
      simp only [List.setIfInBounds_toArray, List.set_cons_zero, List.set_cons_succ]
      refine wpAnyH_ready (rs := [23]) (by kernel_rfl) (by simp) (AllReadyH.cons rfl (fun K23 hK23 => ?ku3t10x23) AllReadyH.nil)
      refine take_calls 23 14 [Operand.tmp 128, Operand.tmp 129] #[23, 37] rfl rfl (by kernel_rfl) (fun args w => run_enter Tryd.func14 (by kernel_rfl) rfl args w) ?_
      refine (SM4.out _ HR).mono ?_
      rintro e w23 ⟨rfl, hb23⟩
      refine ⟨_, rfl, ?_⟩
      have z23 := hb23.size
      try simp only [World.size_drew] at z23
      replace b7 := Blk.below b7 hb23 (by first | exact Nat.le_refl _ | (simp only [World.size_alloc, World.size_setCell, World.size_drew] at *; omega) | omega)
      replace HR := HR.trans (hb23.mono (by first | exact HR.size | omega))
      have zHR23 := HR.size
      refine hK23.out _ _ ?su3t10x23 (fun hHeld => ?ru3t10x23)
      case su3t10x23 => ((try dsimp only); exact ⟨b7.cell_ 0 rfl, b7.cell_ 1 rfl, b7.cell_ 2 rfl⟩)
      try simp only [List.setIfInBounds_toArray, List.set_cons_zero, List.set_cons_succ]
      refine wpAnyH_ready (rs := [26]) (by kernel_rfl) (by simp) (AllReadyH.cons rfl (fun K26 hK26 => ?ku3t10x26) AllReadyH.nil)
      refine take_calls 26 14 [Operand.tmp 131, Operand.tmp 132] #[23, 37] rfl rfl (by kernel_rfl) (fun args w => run_enter Tryd.func14 (by kernel_rfl) rfl args w) ?_
      refine (SM1.out _ HR).mono ?_
      rintro e w26 ⟨rfl, hb26⟩
      refine ⟨_, rfl, ?_⟩
      have z26 := hb26.size
      try simp only [World.size_drew] at z26
      replace b7 := Blk.below b7 hb26 (by first | exact Nat.le_refl _ | (simp only [World.size_alloc, World.size_setCell, World.size_drew] at *; omega) | omega)
      replace HR := HR.trans (hb26.mono (by first | exact HR.size | omega))
      have zHR26 := HR.size
      refine hK26.out _ _ ?su3t10x26 (fun hHeld => ?ru3t10x26)
      case su3t10x26 => ((try dsimp only); exact ⟨b7.cell_ 0 rfl, b7.cell_ 1 rfl, b7.cell_ 2 rfl⟩)
      try simp only [List.setIfInBounds_toArray, List.set_cons_zero, List.set_cons_succ]
      refine take_movev (v := ?vu3t10x27) 27 (Operand.tmp 133) rfl rfl (by first | exact .inl rfl | exact .inr rfl) rfl (by kernel_rfl) (by kernel_rfl) (by kernel_rfl) (fun _ _ _ h => h) (by assumption) ?yu3t10x27 ?ru3t10x27
      case yu3t10x27 => (go_simp; try (with_reducible rfl))
      simp only [List.setIfInBounds_toArray, List.set_cons_zero, List.set_cons_succ]
      refine take_skip 28 rfl rfl rfl (by kernel_rfl) (by kernel_rfl) (by kernel_rfl) (fun _ _ _ h => h) (by assumption) ?_
      simp only [List.setIfInBounds_toArray, List.set_cons_zero, List.set_cons_succ]
      refine take_skip 29 rfl rfl rfl (by kernel_rfl) (by kernel_rfl) (by kernel_rfl) (fun _ _ _ h => h) (by assumption) ?_
      simp only [List.setIfInBounds_toArray, List.set_cons_zero, List.set_cons_succ]
      refine take_skip 30 rfl rfl rfl (by kernel_rfl) (by kernel_rfl) (by kernel_rfl) (fun _ _ _ h => h) (by assumption) ?_
      simp only [List.setIfInBounds_toArray, List.set_cons_zero, List.set_cons_succ]
      refine take_op (v := ?vu3t10x31) 31 (Op.pick (Operand.tmp 134) (Operand.const (Value.bool true)) (Operand.tmp 137)) 4 rfl rfl rfl rfl rfl (by kernel_rfl) (by kernel_rfl) (by kernel_rfl) (fun _ _ _ h => h) ?yu3t10x31 (by assumption) ?ru3t10x31
      case yu3t10x31 => (intro w' hSw; (try dsimp only at hSw); go_simp; try (with_reducible rfl))
      simp only [List.setIfInBounds_toArray, List.set_cons_zero, List.set_cons_succ]
      refine take_op (v := ?vu3t10x32) 32 (Op.binOp BinOp.eql 4 (Operand.tmp 130) (Operand.tmp 138) 4) 4 rfl rfl rfl rfl rfl (by kernel_rfl) (by kernel_rfl) (by kernel_rfl) (fun _ _ _ h => h) ?yu3t10x32 (by assumption) ?ru3t10x32
      case yu3t10x32 => (intro w' hSw; (try dsimp only at hSw); go_simp; try (with_reducible rfl))
      simp only [List.setIfInBounds_toArray, List.set_cons_zero, List.set_cons_succ]
      refine take_op (v := ?vu3t10x33) 33 (Op.pick (Operand.tmp 127) (Operand.tmp 139) (Operand.const (Value.bool false))) 4 rfl rfl rfl rfl rfl (by kernel_rfl) (by kernel_rfl) (by kernel_rfl) (fun _ _ _ h => h) ?yu3t10x33 (by assumption) ?ru3t10x33
      case yu3t10x33 => (intro w' hSw; (try dsimp only at hSw); go_simp; try (with_reducible rfl))
      simp only [List.setIfInBounds_toArray, List.set_cons_zero, List.set_cons_succ]
      refine take_movev (v := ?vu3t10x34) 34 (Operand.tmp 140) rfl rfl (by first | exact .inl rfl | exact .inr rfl) rfl (by kernel_rfl) (by kernel_rfl) (by kernel_rfl) (fun _ _ _ h => h) (by assumption) ?yu3t10x34 ?ru3t10x34
      case yu3t10x34 => (go_simp; try (with_reducible rfl))
      simp only [List.setIfInBounds_toArray, List.set_cons_zero, List.set_cons_succ]
      refine wpAnyH_ready (rs := [35]) (by kernel_rfl) (by simp) (AllReadyH.cons rfl (fun K35 hK35 => ?ku3t10x35) AllReadyH.nil)
      refine take_calls 35 7 [] #[] rfl rfl (by kernel_rfl) (fun args w => run_enter Tryd.func7 (by kernel_rfl) rfl args w) ?_
      refine (HAW.out _ HR).mono ?_
      rintro e w35 ⟨rfl, hb35⟩
      refine ⟨_, rfl, ?_⟩
      have z35 := hb35.size
      try simp only [World.size_drew] at z35
      replace b7 := Blk.below b7 hb35 (by first | exact Nat.le_refl _ | (simp only [World.size_alloc, World.size_setCell, World.size_drew] at *; omega) | omega)
      replace HR := HR.trans (hb35.mono (by first | exact HR.size | omega))
      have zHR35 := HR.size
      refine hK35.out _ _ ?su3t10x35 (fun hHeld => ?ru3t10x35)
      case su3t10x35 => ((try dsimp only); exact ⟨b7.cell_ 0 rfl, b7.cell_ 1 rfl, b7.cell_ 2 rfl⟩)
      try simp only [List.setIfInBounds_toArray, List.set_cons_zero, List.set_cons_succ]
      refine take_op (v := ?vu3t10x36) 36 (Op.pick (Operand.tmp 141) (Operand.tmp 142) (Operand.const (Value.bool false))) 4 rfl rfl rfl rfl rfl (by kernel_rfl) (by kernel_rfl) (by kernel_rfl) (fun _ _ _ h => h) ?yu3t10x36 (by assumption) ?ru3t10x36
      case yu3t10x36 => (intro w' hSw; (try dsimp only at hSw); go_simp; try (with_reducible rfl))
      simp only [List.setIfInBounds_toArray, List.set_cons_zero, List.set_cons_succ]
      refine take_op (v := ?vu3t10x37) 37 (Op.assign (Operand.tmp 143)) 4 rfl rfl rfl rfl rfl (by kernel_rfl) (by kernel_rfl) (by kernel_rfl) (fun _ _ _ h => h) ?yu3t10x37 (by assumption) ?ru3t10x37
      case yu3t10x37 => (intro w' hSw; (try dsimp only at hSw); go_simp; try (with_reducible rfl))
      simp only [List.setIfInBounds_toArray, List.set_cons_zero, List.set_cons_succ]
      refine wpAnyH_done (by kernel_rfl) ?_ _
      go_wp2_with fail
      go_ret
      exact ⟨rfl, HB7.trans (HR.mono HB7.size)⟩
    · simp only [if_true, if_false, Bool.false_eq_true, Bool.and_true, Bool.and_false, Bool.or_true, Bool.or_false, Bool.and_self, Bool.or_self] at SM3 SM4
      go_wp2_with fail
      refine wp_region_held_drew (S := (fun w' => w'.cell? ⟨p0, 0, none⟩ = some (.int .i64 q) ∧ w'.cell? ⟨p0, 1, none⟩ = some (.int .i64 t) ∧ w'.cell? ⟨p0, 2, none⟩ = some (str d))) (by kernel_rfl) ?_ (fun hHeld => ?_)
      · replace b7 := Blk.drew b7; replace HR := Below.drew HR; (try dsimp only); exact ⟨b7.cell_ 0 rfl, b7.cell_ 1 rfl, b7.cell_ 2 rfl⟩
      replace b7 := Blk.drew b7
      replace HR := Below.drew HR
      have zHR := HR.size
      refine take_movev (v := ?vu4t10x0) 0 (Operand.tmp 17) rfl rfl (by first | exact .inl rfl | exact .inr rfl) rfl (by kernel_rfl) (by kernel_rfl) (by kernel_rfl) (fun _ _ _ h => h) (by assumption) ?yu4t10x0 ?ru4t10x0
      case yu4t10x0 => (go_simp; try (with_reducible rfl))
      simp only [List.setIfInBounds_toArray, List.set_cons_zero, List.set_cons_succ]
      refine take_op (v := ?vu4t10x1) 1 (Op.binOp BinOp.eql 24 (Operand.tmp 107) (Operand.const (Value.int IntKind.i64 0)) 24) 4 rfl rfl rfl rfl rfl (by kernel_rfl) (by kernel_rfl) (by kernel_rfl) (fun _ _ _ h => h) ?yu4t10x1 (by assumption) ?ru4t10x1
      case yu4t10x1 => (intro w' hSw; (try dsimp only at hSw); go_simp; try (with_reducible rfl))
      simp only [List.setIfInBounds_toArray, List.set_cons_zero, List.set_cons_succ]
      refine take_movev (v := ?vu4t10x2) 2 (Operand.tmp 108) rfl rfl (by first | exact .inl rfl | exact .inr rfl) rfl (by kernel_rfl) (by kernel_rfl) (by kernel_rfl) (fun _ _ _ h => h) (by assumption) ?yu4t10x2 ?ru4t10x2
      case yu4t10x2 => (go_simp; try (with_reducible rfl))
      simp only [List.setIfInBounds_toArray, List.set_cons_zero, List.set_cons_succ]
      refine take_movev (v := ?vu4t10x3) 3 (Operand.tmp 20) rfl rfl (by first | exact .inl rfl | exact .inr rfl) rfl (by kernel_rfl) (by kernel_rfl) (by kernel_rfl) (fun _ _ _ h => h) (by assumption) ?yu4t10x3 ?ru4t10x3
      case yu4t10x3 => (go_simp; try (with_reducible rfl))
      simp only [List.setIfInBounds_toArray, List.set_cons_zero, List.set_cons_succ]
      refine take_op (v := ?vu4t10x4) 4 (Op.binOp BinOp.eql 24 (Operand.tmp 110) (Operand.const (Value.int IntKind.i64 0)) 24) 4 rfl rfl rfl rfl rfl (by kernel_rfl) (by kernel_rfl) (by kernel_rfl) (fun _ _ _ h => h) ?yu4t10x4 (by assumption) ?ru4t10x4
      case yu4t10x4 => (intro w' hSw; (try dsimp only at hSw); go_simp; try (with_reducible rfl))
      simp only [List.setIfInBounds_toArray, List.set_cons_zero, List.set_cons_succ]
      refine take_op (v := ?vu4t10x5) 5 (Op.pick (Operand.tmp 109) (Operand.tmp 111) (Operand.const (Value.bool false))) 4 rfl rfl rfl rfl rfl (by kernel_rfl) (by kernel_rfl) (by kernel_rfl) (fun _ _ _ h => h) ?yu4t10x5 (by assumption) ?ru4t10x5
      case yu4t10x5 => (intro w' hSw; (try dsimp only at hSw); go_simp; try (with_reducible rfl))
      simp only [List.setIfInBounds_toArray, List.set_cons_zero, List.set_cons_succ]
      refine take_movev (v := ?vu4t10x6) 6 (Operand.tmp 112) rfl rfl (by first | exact .inl rfl | exact .inr rfl) rfl (by kernel_rfl) (by kernel_rfl) (by kernel_rfl) (fun _ _ _ h => h) (by assumption) ?yu4t10x6 ?ru4t10x6
      case yu4t10x6 => (go_simp; try (with_reducible rfl))
      simp only [List.setIfInBounds_toArray, List.set_cons_zero, List.set_cons_succ]
      refine take_movev (v := ?vu4t10x7) 7 (Operand.tmp 15) rfl rfl (by first | exact .inl rfl | exact .inr rfl) rfl (by kernel_rfl) (by kernel_rfl) (by kernel_rfl) (fun _ _ _ h => h) (by assumption) ?yu4t10x7 ?ru4t10x7
      case yu4t10x7 => (go_simp; try (with_reducible rfl))
      simp only [List.setIfInBounds_toArray, List.set_cons_zero, List.set_cons_succ]
      refine take_op (v := ?vu4t10x8) 8 (Op.load 37 (Operand.tmp 5)) 37 rfl rfl rfl rfl rfl (by kernel_rfl) (by kernel_rfl) (by kernel_rfl) (fun _ _ _ h => h) ?yu4t10x8 (by assumption) ?ru4t10x8
      case yu4t10x8 => (intro w' hSw; (try dsimp only at hSw); go_simp; try (with_reducible rfl))
      simp only [List.setIfInBounds_toArray, List.set_cons_zero, List.set_cons_succ]
      refine take_movev (v := ?vu4t10x10) 10 (Operand.tmp 7) rfl rfl (by first | exact .inl rfl | exact .inr rfl) rfl (by kernel_rfl) (by kernel_rfl) (by kernel_rfl) (fun _ _ _ h => h) (by assumption) ?yu4t10x10 ?ru4t10x10
      case yu4t10x10 => (go_simp; try (with_reducible rfl))
      simp only [List.setIfInBounds_toArray, List.set_cons_zero, List.set_cons_succ]
      refine take_op (v := ?vu4t10x11) 11 (Op.load 37 (Operand.tmp 5)) 37 rfl rfl rfl rfl rfl (by kernel_rfl) (by kernel_rfl) (by kernel_rfl) (fun _ _ _ h => h) ?yu4t10x11 (by assumption) ?ru4t10x11
      case yu4t10x11 => (intro w' hSw; (try dsimp only at hSw); go_simp; try (with_reducible rfl))
      simp only [List.setIfInBounds_toArray, List.set_cons_zero, List.set_cons_succ]
      refine wpAnyH_ready (rs := [9]) (by kernel_rfl) (by simp) (AllReadyH.cons rfl (fun K9 hK9 => ?ku4t10x9) AllReadyH.nil)
      refine take_calls 9 14 [Operand.tmp 114, Operand.tmp 115] #[23, 37] rfl rfl (by kernel_rfl) (fun args w => run_enter Tryd.func14 (by kernel_rfl) rfl args w) ?_
      refine (SM3.out _ HR).mono ?_
      rintro e w9 ⟨rfl, hb9⟩
      refine ⟨_, rfl, ?_⟩
      have z9 := hb9.size
      try simp only [World.size_drew] at z9
      replace b7 := Blk.below b7 hb9 (by first | exact Nat.le_refl _ | (simp only [World.size_alloc, World.size_setCell, World.size_drew] at *; omega) | omega)
      replace HR := HR.trans (hb9.mono (by first | exact HR.size | omega))
      have zHR9 := HR.size
      refine hK9.out _ _ ?su4t10x9 (fun hHeld => ?ru4t10x9)
      case su4t10x9 => ((try dsimp only); exact ⟨b7.cell_ 0 rfl, b7.cell_ 1 rfl, b7.cell_ 2 rfl⟩)
      try simp only [List.setIfInBounds_toArray, List.set_cons_zero, List.set_cons_succ]
      refine wpAnyH_ready (rs := [12]) (by kernel_rfl) (by simp) (AllReadyH.cons rfl (fun K12 hK12 => ?ku4t10x12) AllReadyH.nil)
      refine take_calls 12 14 [Operand.tmp 117, Operand.tmp 118] #[23, 37] rfl rfl (by kernel_rfl) (fun args w => run_enter Tryd.func14 (by kernel_rfl) rfl args w) ?_
      refine (SM1.out _ HR).mono ?_
      rintro e w12 ⟨rfl, hb12⟩
      refine ⟨_, rfl, ?_⟩
      have z12 := hb12.size
      try simp only [World.size_drew] at z12
      replace b7 := Blk.below b7 hb12 (by first | exact Nat.le_refl _ | (simp only [World.size_alloc, World.size_setCell, World.size_drew] at *; omega) | omega)
      replace HR := HR.trans (hb12.mono (by first | exact HR.size | omega))
      have zHR12 := HR.size
      refine hK12.out _ _ ?su4t10x12 (fun hHeld => ?ru4t10x12)
      case su4t10x12 => ((try dsimp only); exact ⟨b7.cell_ 0 rfl, b7.cell_ 1 rfl, b7.cell_ 2 rfl⟩)
      try simp only [List.setIfInBounds_toArray, List.set_cons_zero, List.set_cons_succ]
      refine take_movev (v := ?vu4t10x13) 13 (Operand.tmp 119) rfl rfl (by first | exact .inl rfl | exact .inr rfl) rfl (by kernel_rfl) (by kernel_rfl) (by kernel_rfl) (fun _ _ _ h => h) (by assumption) ?yu4t10x13 ?ru4t10x13
      case yu4t10x13 => (go_simp; try (with_reducible rfl))
      simp only [List.setIfInBounds_toArray, List.set_cons_zero, List.set_cons_succ]
      refine take_movev (v := ?vu4t10x14) 14 (Operand.tmp 10) rfl rfl (by first | exact .inl rfl | exact .inr rfl) rfl (by kernel_rfl) (by kernel_rfl) (by kernel_rfl) (fun _ _ _ h => h) (by assumption) ?yu4t10x14 ?ru4t10x14
      case yu4t10x14 => (go_simp; try (with_reducible rfl))
      simp only [List.setIfInBounds_toArray, List.set_cons_zero, List.set_cons_succ]
      refine take_op (v := ?vu4t10x15) 15 (Op.load 37 (Operand.tmp 5)) 37 rfl rfl rfl rfl rfl (by kernel_rfl) (by kernel_rfl) (by kernel_rfl) (fun _ _ _ h => h) ?yu4t10x15 (by assumption) ?ru4t10x15
      case yu4t10x15 => (intro w' hSw; (try dsimp only at hSw); go_simp; try (with_reducible rfl))
      simp only [List.setIfInBounds_toArray, List.set_cons_zero, List.set_cons_succ]
      refine wpAnyH_ready (rs := [16]) (by kernel_rfl) (by simp) (AllReadyH.cons rfl (fun K16 hK16 => ?ku4t10x16) AllReadyH.nil)
      refine take_calls 16 14 [Operand.tmp 121, Operand.tmp 122] #[23, 37] rfl rfl (by kernel_rfl) (fun args w => run_enter Tryd.func14 (by kernel_rfl) rfl args w) ?_
      refine (SM2.out _ HR).mono ?_
      rintro e w16 ⟨rfl, hb16⟩
      refine ⟨_, rfl, ?_⟩
      have z16 := hb16.size
      try simp only [World.size_drew] at z16
      replace b7 := Blk.below b7 hb16 (by first | exact Nat.le_refl _ | (simp only [World.size_alloc, World.size_setCell, World.size_drew] at *; omega) | omega)
      replace HR := HR.trans (hb16.mono (by first | exact HR.size | omega))
      have zHR16 := HR.size
      refine hK16.out _ _ ?su4t10x16 (fun hHeld => ?ru4t10x16)
      case su4t10x16 => ((try dsimp only); exact ⟨b7.cell_ 0 rfl, b7.cell_ 1 rfl, b7.cell_ 2 rfl⟩)
      try simp only [List.setIfInBounds_toArray, List.set_cons_zero, List.set_cons_succ]
      refine take_op (v := ?vu4t10x17) 17 (Op.pick (Operand.tmp 120) (Operand.tmp 123) (Operand.const (Value.bool false))) 4 rfl rfl rfl rfl rfl (by kernel_rfl) (by kernel_rfl) (by kernel_rfl) (fun _ _ _ h => h) ?yu4t10x17 (by assumption) ?ru4t10x17
      case yu4t10x17 => (intro w' hSw; (try dsimp only at hSw); go_simp; try (with_reducible rfl))
      simp only [List.setIfInBounds_toArray, List.set_cons_zero, List.set_cons_succ]
      refine take_op (v := ?vu4t10x18) 18 (Op.binOp BinOp.eql 4 (Operand.tmp 116) (Operand.tmp 124) 4) 4 rfl rfl rfl rfl rfl (by kernel_rfl) (by kernel_rfl) (by kernel_rfl) (fun _ _ _ h => h) ?yu4t10x18 (by assumption) ?ru4t10x18
      case yu4t10x18 => (intro w' hSw; (try dsimp only at hSw); go_simp; try (with_reducible rfl))
      simp only [List.setIfInBounds_toArray, List.set_cons_zero, List.set_cons_succ]
      refine take_op (v := ?vu4t10x19) 19 (Op.pick (Operand.tmp 113) (Operand.tmp 125) (Operand.const (Value.bool false))) 4 rfl rfl rfl rfl rfl (by kernel_rfl) (by kernel_rfl) (by kernel_rfl) (fun _ _ _ h => h) ?yu4t10x19 (by assumption) ?ru4t10x19
      case yu4t10x19 => (intro w' hSw; (try dsimp only at hSw); go_simp; try (with_reducible rfl))
      simp only [List.setIfInBounds_toArray, List.set_cons_zero, List.set_cons_succ]
      refine take_movev (v := ?vu4t10x20) 20 (Operand.tmp 126) rfl rfl (by first | exact .inl rfl | exact .inr rfl) rfl (by kernel_rfl) (by kernel_rfl) (by kernel_rfl) (fun _ _ _ h => h) (by assumption) ?yu4t10x20 ?ru4t10x20
      case yu4t10x20 => (go_simp; try (with_reducible rfl))
      simp only [List.setIfInBounds_toArray, List.set_cons_zero, List.set_cons_succ]
      refine take_movev (v := ?vu4t10x21) 21 (Operand.tmp 18) rfl rfl (by first | exact .inl rfl | exact .inr rfl) rfl (by kernel_rfl) (by kernel_rfl) (by kernel_rfl) (fun _ _ _ h => h) (by assumption) ?yu4t10x21 ?ru4t10x21
      case yu4t10x21 => (go_simp; try (with_reducible rfl))
      simp only [List.setIfInBounds_toArray, List.set_cons_zero, List.set_cons_succ]
      refine take_op (v := ?vu4t10x22) 22 (Op.load 37 (Operand.tmp 5)) 37 rfl rfl rfl rfl rfl (by kernel_rfl) (by kernel_rfl) (by kernel_rfl) (fun _ _ _ h => h) ?yu4t10x22 (by assumption) ?ru4t10x22
      case yu4t10x22 => (intro w' hSw; (try dsimp only at hSw); go_simp; try (with_reducible rfl))
      simp only [List.setIfInBounds_toArray, List.set_cons_zero, List.set_cons_succ]
      refine take_movev (v := ?vu4t10x24) 24 (Operand.tmp 7) rfl rfl (by first | exact .inl rfl | exact .inr rfl) rfl (by kernel_rfl) (by kernel_rfl) (by kernel_rfl) (fun _ _ _ h => h) (by assumption) ?yu4t10x24 ?ru4t10x24
      case yu4t10x24 => (go_simp; try (with_reducible rfl))
      simp only [List.setIfInBounds_toArray, List.set_cons_zero, List.set_cons_succ]
      refine take_op (v := ?vu4t10x25) 25 (Op.load 37 (Operand.tmp 5)) 37 rfl rfl rfl rfl rfl (by kernel_rfl) (by kernel_rfl) (by kernel_rfl) (fun _ _ _ h => h) ?yu4t10x25 (by assumption) ?ru4t10x25
      case yu4t10x25 => (intro w' hSw; (try dsimp only at hSw); go_simp; try (with_reducible rfl))
      simp only [List.setIfInBounds_toArray, List.set_cons_zero, List.set_cons_succ]
      refine wpAnyH_ready (rs := [23]) (by kernel_rfl) (by simp) (AllReadyH.cons rfl (fun K23 hK23 => ?ku4t10x23) AllReadyH.nil)
      refine take_calls 23 14 [Operand.tmp 128, Operand.tmp 129] #[23, 37] rfl rfl (by kernel_rfl) (fun args w => run_enter Tryd.func14 (by kernel_rfl) rfl args w) ?_
      refine (SM4.out _ HR).mono ?_
      rintro e w23 ⟨rfl, hb23⟩
      refine ⟨_, rfl, ?_⟩
      have z23 := hb23.size
      try simp only [World.size_drew] at z23
      replace b7 := Blk.below b7 hb23 (by first | exact Nat.le_refl _ | (simp only [World.size_alloc, World.size_setCell, World.size_drew] at *; omega) | omega)
      replace HR := HR.trans (hb23.mono (by first | exact HR.size | omega))
      have zHR23 := HR.size
      refine hK23.out _ _ ?su4t10x23 (fun hHeld => ?ru4t10x23)
      case su4t10x23 => ((try dsimp only); exact ⟨b7.cell_ 0 rfl, b7.cell_ 1 rfl, b7.cell_ 2 rfl⟩)
      try simp only [List.setIfInBounds_toArray, List.set_cons_zero, List.set_cons_succ]
      refine wpAnyH_ready (rs := [26]) (by kernel_rfl) (by simp) (AllReadyH.cons rfl (fun K26 hK26 => ?ku4t10x26) AllReadyH.nil)
      refine take_calls 26 14 [Operand.tmp 131, Operand.tmp 132] #[23, 37] rfl rfl (by kernel_rfl) (fun args w => run_enter Tryd.func14 (by kernel_rfl) rfl args w) ?_
      refine (SM1.out _ HR).mono ?_
      rintro e w26 ⟨rfl, hb26⟩
      refine ⟨_, rfl, ?_⟩
      have z26 := hb26.size
      try simp only [World.size_drew] at z26
      replace b7 := Blk.below b7 hb26 (by first | exact Nat.le_refl _ | (simp only [World.size_alloc, World.size_setCell, World.size_drew] at *; omega) | omega)
      replace HR := HR.trans (hb26.mono (by first | exact HR.size | omega))
      have zHR26 := HR.size
      refine hK26.out _ _ ?su4t10x26 (fun hHeld => ?ru4t10x26)
      case su4t10x26 => ((try dsimp only); exact ⟨b7.cell_ 0 rfl, b7.cell_ 1 rfl, b7.cell_ 2 rfl⟩)
      try simp only [List.setIfInBounds_toArray, List.set_cons_zero, List.set_cons_succ]
      refine take_movev (v := ?vu4t10x27) 27 (Operand.tmp 133) rfl rfl (by first | exact .inl rfl | exact .inr rfl) rfl (by kernel_rfl) (by kernel_rfl) (by kernel_rfl) (fun _ _ _ h => h) (by assumption) ?yu4t10x27 ?ru4t10x27
      case yu4t10x27 => (go_simp; try (with_reducible rfl))
      simp only [List.setIfInBounds_toArray, List.set_cons_zero, List.set_cons_succ]
      refine take_skip 28 rfl rfl rfl (by kernel_rfl) (by kernel_rfl) (by kernel_rfl) (fun _ _ _ h => h) (by assumption) ?_
      simp only [List.setIfInBounds_toArray, List.set_cons_zero, List.set_cons_succ]
      refine take_skip 29 rfl rfl rfl (by kernel_rfl) (by kernel_rfl) (by kernel_rfl) (fun _ _ _ h => h) (by assumption) ?_
      simp only [List.setIfInBounds_toArray, List.set_cons_zero, List.set_cons_succ]
      refine take_skip 30 rfl rfl rfl (by kernel_rfl) (by kernel_rfl) (by kernel_rfl) (fun _ _ _ h => h) (by assumption) ?_
      simp only [List.setIfInBounds_toArray, List.set_cons_zero, List.set_cons_succ]
      refine take_op (v := ?vu4t10x31) 31 (Op.pick (Operand.tmp 134) (Operand.const (Value.bool true)) (Operand.tmp 137)) 4 rfl rfl rfl rfl rfl (by kernel_rfl) (by kernel_rfl) (by kernel_rfl) (fun _ _ _ h => h) ?yu4t10x31 (by assumption) ?ru4t10x31
      case yu4t10x31 => (intro w' hSw; (try dsimp only at hSw); go_simp; try (with_reducible rfl))
      simp only [List.setIfInBounds_toArray, List.set_cons_zero, List.set_cons_succ]
      refine take_op (v := ?vu4t10x32) 32 (Op.binOp BinOp.eql 4 (Operand.tmp 130) (Operand.tmp 138) 4) 4 rfl rfl rfl rfl rfl (by kernel_rfl) (by kernel_rfl) (by kernel_rfl) (fun _ _ _ h => h) ?yu4t10x32 (by assumption) ?ru4t10x32
      case yu4t10x32 => (intro w' hSw; (try dsimp only at hSw); go_simp; try (with_reducible rfl))
      simp only [List.setIfInBounds_toArray, List.set_cons_zero, List.set_cons_succ]
      refine take_op (v := ?vu4t10x33) 33 (Op.pick (Operand.tmp 127) (Operand.tmp 139) (Operand.const (Value.bool false))) 4 rfl rfl rfl rfl rfl (by kernel_rfl) (by kernel_rfl) (by kernel_rfl) (fun _ _ _ h => h) ?yu4t10x33 (by assumption) ?ru4t10x33
      case yu4t10x33 => (intro w' hSw; (try dsimp only at hSw); go_simp; try (with_reducible rfl))
      simp only [List.setIfInBounds_toArray, List.set_cons_zero, List.set_cons_succ]
      refine take_movev (v := ?vu4t10x34) 34 (Operand.tmp 140) rfl rfl (by first | exact .inl rfl | exact .inr rfl) rfl (by kernel_rfl) (by kernel_rfl) (by kernel_rfl) (fun _ _ _ h => h) (by assumption) ?yu4t10x34 ?ru4t10x34
      case yu4t10x34 => (go_simp; try (with_reducible rfl))
      simp only [List.setIfInBounds_toArray, List.set_cons_zero, List.set_cons_succ]
      refine wpAnyH_ready (rs := [35]) (by kernel_rfl) (by simp) (AllReadyH.cons rfl (fun K35 hK35 => ?ku4t10x35) AllReadyH.nil)
      refine take_calls 35 7 [] #[] rfl rfl (by kernel_rfl) (fun args w => run_enter Tryd.func7 (by kernel_rfl) rfl args w) ?_
      refine (HAW.out _ HR).mono ?_
      rintro e w35 ⟨rfl, hb35⟩
      refine ⟨_, rfl, ?_⟩
      have z35 := hb35.size
      try simp only [World.size_drew] at z35
      replace b7 := Blk.below b7 hb35 (by first | exact Nat.le_refl _ | (simp only [World.size_alloc, World.size_setCell, World.size_drew] at *; omega) | omega)
      replace HR := HR.trans (hb35.mono (by first | exact HR.size | omega))
      have zHR35 := HR.size
      refine hK35.out _ _ ?su4t10x35 (fun hHeld => ?ru4t10x35)
      case su4t10x35 => ((try dsimp only); exact ⟨b7.cell_ 0 rfl, b7.cell_ 1 rfl, b7.cell_ 2 rfl⟩)
      try simp only [List.setIfInBounds_toArray, List.set_cons_zero, List.set_cons_succ]
      refine take_op (v := ?vu4t10x36) 36 (Op.pick (Operand.tmp 141) (Operand.tmp 142) (Operand.const (Value.bool false))) 4 rfl rfl rfl rfl rfl (by kernel_rfl) (by kernel_rfl) (by kernel_rfl) (fun _ _ _ h => h) ?yu4t10x36 (by assumption) ?ru4t10x36
      case yu4t10x36 => (intro w' hSw; (try dsimp only at hSw); go_simp; try (with_reducible rfl))
      simp only [List.setIfInBounds_toArray, List.set_cons_zero, List.set_cons_succ]
      refine take_op (v := ?vu4t10x37) 37 (Op.assign (Operand.tmp 143)) 4 rfl rfl rfl rfl rfl (by kernel_rfl) (by kernel_rfl) (by kernel_rfl) (fun _ _ _ h => h) ?yu4t10x37 (by assumption) ?ru4t10x37
      case yu4t10x37 => (intro w' hSw; (try dsimp only at hSw); go_simp; try (with_reducible rfl))
      simp only [List.setIfInBounds_toArray, List.set_cons_zero, List.set_cons_succ]
      refine wpAnyH_done (by kernel_rfl) ?_ _
      go_wp2_with fail
      go_ret
      exact ⟨rfl, HB7.trans (HR.mono HB7.size)⟩
  · have hzI : ¬ (za : Int) < 100 := by omega
    go_enter Tryd.func6, Tryd.ntmps6
    go_wp2_with fail
    refine C1.mono ?_
    clear C1
    rintro e w2 ⟨g1, rfl, SA2, hb2⟩
    have HB2 := HB1.trans (hb2.mono HB1.size)
    have hW2 := hW1.below hb2
    have b2 := b1.below hb2 b1.lt
    clear c0 c1 c2 hb2 HB1 b1
    go_wp2_with fail
    refine (HC2.out w2 hW2).mono ?_
    rintro e w3 ⟨g2, rfl, SB3, hb3⟩
    have HB3 := HB2.trans (hb3.mono HB2.size)
    have hW3 := hW2.below hb3
    have b3 := b2.below hb3 b2.lt
    have SA3 := SA2.below hb3
    clear hb3 HB2 b2 SA2
    go_wp2_with fail
    refine (Not_big w3 g1 n1 za SA3 (by omega)).mono ?_
    rintro e w4 ⟨rfl, hb4⟩
    have HB4 := HB3.trans (hb4.mono HB3.size)
    have hW4 := hW3.below hb4
    have b4 := b3.below hb4 b3.lt
    have SA4 := SA3.below hb4
    have SB4 := SB3.below hb4
    clear hb4 HB3 b3 SA3 SB3
    go_wp2_with fail
    refine (size_yes w4 g1 n1 za SA4).mono ?_
    rintro e w5 ⟨rfl, hb5⟩
    have HB5 := HB4.trans (hb5.mono HB4.size)
    have hW5 := hW4.below hb5
    have b5 := b4.below hb5 b4.lt
    have SA5 := SA4.below hb5
    have SB5 := SB4.below hb5
    clear hb5 HB4 b4 SA4 SB4
    go_wp2_with fail
    refine (HC3.out _ hW5).mono ?_
    rintro e w6 ⟨x3, e3, p3, rfl, J3, hb6⟩
    have HB6 := HB5.trans (hb6.mono HB5.size)
    have hW6 := hW5.below hb6
    have b6 := b5.below hb6 b5.lt
    have SA6 := SA5.below hb6
    have SB6 := SB5.below hb6
    clear HB5 b5 SA5 SB5
    go_wp2_with fail
    refine (HC4.out w6 hW6).mono ?_
    rintro e w7 ⟨x4, e4, p4, rfl, J4, hb7⟩
    have HB7 := HB6.trans (hb7.mono HB6.size)
    have hW7 := hW6.below hb7
    have b7 := b6.below hb7 b6.lt
    have SA7 := SA6.below hb7
    have SB7 := SB6.below hb7
    clear HB6 b6 SA6 SB6
    rcases J3 with rfl | ⟨rfl, g3, n3, zc, rfl, S3, M3⟩
    · clear J4
      go_wp2_with fail
      refine (HA.out w7 hW7).mono ?_
      rintro e w8 ⟨rfl, hb8⟩
      go_wp2_with fail
      go_ret
      exact ⟨rfl, HB7.trans (hb8.mono HB7.size)⟩
    rcases J4 with rfl | ⟨rfl, g4, n4, zd, rfl, S4, M4⟩
    · go_wp2_with fail
      refine (HA.out w7 hW7).mono ?_
      rintro e w8 ⟨rfl, hb8⟩
      go_wp2_with fail
      go_ret
      exact ⟨rfl, HB7.trans (hb8.mono HB7.size)⟩
    have S3' := S3.below hb7
    have N3 := M3 q t d
    have N4 := M4 q t d
    rw [hy1, hy2] at N3 N4
    have SM1 := Lib.hid (fun w' hb => Meets_yes w' g1 n1 za (SA7.below (w' := w') hb) q t d hd1 y1 hy1)
    have SM2 := Lib.hid (fun w' hb => Meets_yes w' g2 n2 zb (SB7.below (w' := w') hb) q t d hd1 y2 hy2)
    have SM3 := Lib.hid (fun w' hb => Meets_yes w' g3 n3 zc (S3'.below (w' := w') hb) q t d hd1 _ N3)
    have SM4 := Lib.hid (fun w' hb => Meets_yes w' g4 n4 zd (S4.below (w' := w') hb) q t d hd1 _ N4)
    have HAW := Lib.hid (fun w' hb => sawake_any w' (hW7.below (w' := w') hb))
    clear hy1 hy2 N3 N4 SA7 SB7 S3 S3' S4 M3 M4 hb6 hb7
    have HR := Below.refl w7.heap.size w7
    obtain ⟨c0, c1, c2, _⟩ := blk3 b7
    cases y1 <;> cases y2
    · simp only [if_true, if_false, Bool.false_eq_true, Bool.and_true, Bool.and_false, Bool.or_true, Bool.or_false, Bool.and_self, Bool.or_self] at SM3 SM4
      go_wp2_with fail
      refine wp_region_held_drew (S := (fun w' => w'.cell? ⟨p0, 0, none⟩ = some (.int .i64 q) ∧ w'.cell? ⟨p0, 1, none⟩ = some (.int .i64 t) ∧ w'.cell? ⟨p0, 2, none⟩ = some (str d))) (by kernel_rfl) ?_ (fun hHeld => ?_)
      · replace b7 := Blk.drew b7; replace HR := Below.drew HR; (try dsimp only); exact ⟨b7.cell_ 0 rfl, b7.cell_ 1 rfl, b7.cell_ 2 rfl⟩
      replace b7 := Blk.drew b7
      replace HR := Below.drew HR
      have zHR := HR.size
      refine take_movev (v := ?vu5x0) 0 (Operand.tmp 17) rfl rfl (by first | exact .inl rfl | exact .inr rfl) rfl (by kernel_rfl) (by kernel_rfl) (by kernel_rfl) (fun _ _ _ h => h) (by assumption) ?yu5x0 ?ru5x0
      case yu5x0 => (go_simp; try (with_reducible rfl))
      simp only [List.setIfInBounds_toArray, List.set_cons_zero, List.set_cons_succ]
      refine take_op (v := ?vu5x1) 1 (Op.binOp BinOp.eql 24 (Operand.tmp 107) (Operand.const (Value.int IntKind.i64 0)) 24) 4 rfl rfl rfl rfl rfl (by kernel_rfl) (by kernel_rfl) (by kernel_rfl) (fun _ _ _ h => h) ?yu5x1 (by assumption) ?ru5x1
      case yu5x1 => (intro w' hSw; (try dsimp only at hSw); go_simp; try (with_reducible rfl))
      simp only [List.setIfInBounds_toArray, List.set_cons_zero, List.set_cons_succ]
      refine take_movev (v := ?vu5x2) 2 (Operand.tmp 108) rfl rfl (by first | exact .inl rfl | exact .inr rfl) rfl (by kernel_rfl) (by kernel_rfl) (by kernel_rfl) (fun _ _ _ h => h) (by assumption) ?yu5x2 ?ru5x2
      case yu5x2 => (go_simp; try (with_reducible rfl))
      simp only [List.setIfInBounds_toArray, List.set_cons_zero, List.set_cons_succ]
      refine take_movev (v := ?vu5x3) 3 (Operand.tmp 20) rfl rfl (by first | exact .inl rfl | exact .inr rfl) rfl (by kernel_rfl) (by kernel_rfl) (by kernel_rfl) (fun _ _ _ h => h) (by assumption) ?yu5x3 ?ru5x3
      case yu5x3 => (go_simp; try (with_reducible rfl))
      simp only [List.setIfInBounds_toArray, List.set_cons_zero, List.set_cons_succ]
      refine take_op (v := ?vu5x4) 4 (Op.binOp BinOp.eql 24 (Operand.tmp 110) (Operand.const (Value.int IntKind.i64 0)) 24) 4 rfl rfl rfl rfl rfl (by kernel_rfl) (by kernel_rfl) (by kernel_rfl) (fun _ _ _ h => h) ?yu5x4 (by assumption) ?ru5x4
      case yu5x4 => (intro w' hSw; (try dsimp only at hSw); go_simp; try (with_reducible rfl))
      simp only [List.setIfInBounds_toArray, List.set_cons_zero, List.set_cons_succ]
      refine take_op (v := ?vu5x5) 5 (Op.pick (Operand.tmp 109) (Operand.tmp 111) (Operand.const (Value.bool false))) 4 rfl rfl rfl rfl rfl (by kernel_rfl) (by kernel_rfl) (by kernel_rfl) (fun _ _ _ h => h) ?yu5x5 (by assumption) ?ru5x5
      case yu5x5 => (intro w' hSw; (try dsimp only at hSw); go_simp; try (with_reducible rfl))
      simp only [List.setIfInBounds_toArray, List.set_cons_zero, List.set_cons_succ]
      refine take_movev (v := ?vu5x6) 6 (Operand.tmp 112) rfl rfl (by first | exact .inl rfl | exact .inr rfl) rfl (by kernel_rfl) (by kernel_rfl) (by kernel_rfl) (fun _ _ _ h => h) (by assumption) ?yu5x6 ?ru5x6
      case yu5x6 => (go_simp; try (with_reducible rfl))
      simp only [List.setIfInBounds_toArray, List.set_cons_zero, List.set_cons_succ]
      refine take_movev (v := ?vu5x7) 7 (Operand.tmp 15) rfl rfl (by first | exact .inl rfl | exact .inr rfl) rfl (by kernel_rfl) (by kernel_rfl) (by kernel_rfl) (fun _ _ _ h => h) (by assumption) ?yu5x7 ?ru5x7
      case yu5x7 => (go_simp; try (with_reducible rfl))
      simp only [List.setIfInBounds_toArray, List.set_cons_zero, List.set_cons_succ]
      refine take_op (v := ?vu5x8) 8 (Op.load 37 (Operand.tmp 5)) 37 rfl rfl rfl rfl rfl (by kernel_rfl) (by kernel_rfl) (by kernel_rfl) (fun _ _ _ h => h) ?yu5x8 (by assumption) ?ru5x8
      case yu5x8 => (intro w' hSw; (try dsimp only at hSw); go_simp; try (with_reducible rfl))
      simp only [List.setIfInBounds_toArray, List.set_cons_zero, List.set_cons_succ]
      refine take_movev (v := ?vu5x10) 10 (Operand.tmp 7) rfl rfl (by first | exact .inl rfl | exact .inr rfl) rfl (by kernel_rfl) (by kernel_rfl) (by kernel_rfl) (fun _ _ _ h => h) (by assumption) ?yu5x10 ?ru5x10
      case yu5x10 => (go_simp; try (with_reducible rfl))
      simp only [List.setIfInBounds_toArray, List.set_cons_zero, List.set_cons_succ]
      refine take_op (v := ?vu5x11) 11 (Op.load 37 (Operand.tmp 5)) 37 rfl rfl rfl rfl rfl (by kernel_rfl) (by kernel_rfl) (by kernel_rfl) (fun _ _ _ h => h) ?yu5x11 (by assumption) ?ru5x11
      case yu5x11 => (intro w' hSw; (try dsimp only at hSw); go_simp; try (with_reducible rfl))
      simp only [List.setIfInBounds_toArray, List.set_cons_zero, List.set_cons_succ]
      refine wpAnyH_ready (rs := [9]) (by kernel_rfl) (by simp) (AllReadyH.cons rfl (fun K9 hK9 => ?ku5x9) AllReadyH.nil)
      refine take_calls 9 14 [Operand.tmp 114, Operand.tmp 115] #[23, 37] rfl rfl (by kernel_rfl) (fun args w => run_enter Tryd.func14 (by kernel_rfl) rfl args w) ?_
      refine (SM3.out _ HR).mono ?_
      rintro e w9 ⟨rfl, hb9⟩
      refine ⟨_, rfl, ?_⟩
      have z9 := hb9.size
      try simp only [World.size_drew] at z9
      replace b7 := Blk.below b7 hb9 (by first | exact Nat.le_refl _ | (simp only [World.size_alloc, World.size_setCell, World.size_drew] at *; omega) | omega)
      replace HR := HR.trans (hb9.mono (by first | exact HR.size | omega))
      have zHR9 := HR.size
      refine hK9.out _ _ ?su5x9 (fun hHeld => ?ru5x9)
      case su5x9 => ((try dsimp only); exact ⟨b7.cell_ 0 rfl, b7.cell_ 1 rfl, b7.cell_ 2 rfl⟩)
      try simp only [List.setIfInBounds_toArray, List.set_cons_zero, List.set_cons_succ]
      refine wpAnyH_ready (rs := [12]) (by kernel_rfl) (by simp) (AllReadyH.cons rfl (fun K12 hK12 => ?ku5x12) AllReadyH.nil)
      refine take_calls 12 14 [Operand.tmp 117, Operand.tmp 118] #[23, 37] rfl rfl (by kernel_rfl) (fun args w => run_enter Tryd.func14 (by kernel_rfl) rfl args w) ?_
      refine (SM1.out _ HR).mono ?_
      rintro e w12 ⟨rfl, hb12⟩
      refine ⟨_, rfl, ?_⟩
      have z12 := hb12.size
      try simp only [World.size_drew] at z12
      replace b7 := Blk.below b7 hb12 (by first | exact Nat.le_refl _ | (simp only [World.size_alloc, World.size_setCell, World.size_drew] at *; omega) | omega)
      replace HR := HR.trans (hb12.mono (by first | exact HR.size | omega))
      have zHR12 := HR.size
      refine hK12.out _ _ ?su5x12 (fun hHeld => ?ru5x12)
      case su5x12 => ((try dsimp only); exact ⟨b7.cell_ 0 rfl, b7.cell_ 1 rfl, b7.cell_ 2 rfl⟩)
      try simp only [List.setIfInBounds_toArray, List.set_cons_zero, List.set_cons_succ]
      refine take_movev (v := ?vu5x13) 13 (Operand.tmp 119) rfl rfl (by first | exact .inl rfl | exact .inr rfl) rfl (by kernel_rfl) (by kernel_rfl) (by kernel_rfl) (fun _ _ _ h => h) (by assumption) ?yu5x13 ?ru5x13
      case yu5x13 => (go_simp; try (with_reducible rfl))
      simp only [List.setIfInBounds_toArray, List.set_cons_zero, List.set_cons_succ]
      refine take_skip 14 rfl rfl rfl (by kernel_rfl) (by kernel_rfl) (by kernel_rfl) (fun _ _ _ h => h) (by assumption) ?_
      simp only [List.setIfInBounds_toArray, List.set_cons_zero, List.set_cons_succ]
      refine take_skip 15 rfl rfl rfl (by kernel_rfl) (by kernel_rfl) (by kernel_rfl) (fun _ _ _ h => h) (by assumption) ?_
      simp only [List.setIfInBounds_toArray, List.set_cons_zero, List.set_cons_succ]
      refine take_skip 16 rfl rfl rfl (by kernel_rfl) (by kernel_rfl) (by kernel_rfl) (fun _ _ _ h => h) (by assumption) ?_
      simp only [List.setIfInBounds_toArray, List.set_cons_zero, List.set_cons_succ]
      refine take_op (v := ?vu5x17) 17 (Op.pick (Operand.tmp 120) (Operand.tmp 123) (Operand.const (Value.bool false))) 4 rfl rfl rfl rfl rfl (by kernel_rfl) (by kernel_rfl) (by kernel_rfl) (fun _ _ _ h => h) ?yu5x17 (by assumption) ?ru5x17
      case yu5x17 => (intro w' hSw; (try dsimp only at hSw); go_simp; try (with_reducible rfl))
      simp only [List.setIfInBounds_toArray, List.set_cons_zero, List.set_cons_succ]
      refine take_op (v := ?vu5x18) 18 (Op.binOp BinOp.eql 4 (Operand.tmp 116) (Operand.tmp 124) 4) 4 rfl rfl rfl rfl rfl (by kernel_rfl) (by kernel_rfl) (by kernel_rfl) (fun _ _ _ h => h) ?yu5x18 (by assumption) ?ru5x18
      case yu5x18 => (intro w' hSw; (try dsimp only at hSw); go_simp; try (with_reducible rfl))
      simp only [List.setIfInBounds_toArray, List.set_cons_zero, List.set_cons_succ]
      refine take_op (v := ?vu5x19) 19 (Op.pick (Operand.tmp 113) (Operand.tmp 125) (Operand.const (Value.bool false))) 4 rfl rfl rfl rfl rfl (by kernel_rfl) (by kernel_rfl) (by kernel_rfl) (fun _ _ _ h => h) ?yu5x19 (by assumption) ?ru5x19
      case yu5x19 => (intro w' hSw; (try dsimp only at hSw); go_simp; try (with_reducible rfl))
      simp only [List.setIfInBounds_toArray, List.set_cons_zero, List.set_cons_succ]
      refine take_movev (v := ?vu5x20) 20 (Operand.tmp 126) rfl rfl (by first | exact .inl rfl | exact .inr rfl) rfl (by kernel_rfl) (by kernel_rfl) (by kernel_rfl) (fun _ _ _ h => h) (by assumption) ?yu5x20 ?ru5x20
      case yu5x20 => (go_simp; try (with_reducible rfl))
      simp only [List.setIfInBounds_toArray, List.set_cons_zero, List.set_cons_succ]
      refine take_movev (v := ?vu5x21) 21 (Operand.tmp 18) rfl rfl (by first | exact .inl rfl | exact .inr rfl) rfl (by kernel_rfl) (by kernel_rfl) (by kernel_rfl) (fun _ _ _ h => h) (by assumption) ?yu5x21 ?ru5x21
      case yu5x21 => (go_simp; try (with_reducible rfl))
      simp only [List.setIfInBounds_toArray, List.set_cons_zero, List.set_cons_succ]
      refine take_op (v := ?vu5x22) 22 (Op.load 37 (Operand.tmp 5)) 37 rfl rfl rfl rfl rfl (by kernel_rfl) (by kernel_rfl) (by kernel_rfl) (fun _ _ _ h => h) ?yu5x22 (by assumption) ?ru5x22
      case yu5x22 => (intro w' hSw; (try dsimp only at hSw); go_simp; try (with_reducible rfl))
      simp only [List.setIfInBounds_toArray, List.set_cons_zero, List.set_cons_succ]
      refine take_movev (v := ?vu5x24) 24 (Operand.tmp 7) rfl rfl (by first | exact .inl rfl | exact .inr rfl) rfl (by kernel_rfl) (by kernel_rfl) (by kernel_rfl) (fun _ _ _ h => h) (by assumption) ?yu5x24 ?ru5x24
      case yu5x24 => (go_simp; try (with_reducible rfl))
      simp only [List.setIfInBounds_toArray, List.set_cons_zero, List.set_cons_succ]
      refine take_op (v := ?vu5x25) 25 (Op.load 37 (Operand.tmp 5)) 37 rfl rfl rfl rfl rfl (by kernel_rfl) (by kernel_rfl) (by kernel_rfl) (fun _ _ _ h => h) ?yu5x25 (by assumption) ?ru5x25
      case yu5x25 => (intro w' hSw; (try dsimp only at hSw); go_simp; try (with_reducible rfl))
      simp only [List.setIfInBounds_toArray, List.set_cons_zero, List.set_cons_succ]
      refine wpAnyH_ready (rs := [23]) (by kernel_rfl) (by simp) (AllReadyH.cons rfl (fun K23 hK23 => ?ku5x23) AllReadyH.nil)
      refine take_calls 23 14 [Operand.tmp 128, Operand.tmp 129] #[23, 37] rfl rfl (by kernel_rfl) (fun args w => run_enter Tryd.func14 (by kernel_rfl) rfl args w) ?_
      refine (SM4.out _ HR).mono ?_
      rintro e w23 ⟨rfl, hb23⟩
      refine ⟨_, rfl, ?_⟩
      have z23 := hb23.size
      try simp only [World.size_drew] at z23
      replace b7 := Blk.below b7 hb23 (by first | exact Nat.le_refl _ | (simp only [World.size_alloc, World.size_setCell, World.size_drew] at *; omega) | omega)
      replace HR := HR.trans (hb23.mono (by first | exact HR.size | omega))
      have zHR23 := HR.size
      refine hK23.out _ _ ?su5x23 (fun hHeld => ?ru5x23)
      case su5x23 => ((try dsimp only); exact ⟨b7.cell_ 0 rfl, b7.cell_ 1 rfl, b7.cell_ 2 rfl⟩)
      try simp only [List.setIfInBounds_toArray, List.set_cons_zero, List.set_cons_succ]
      refine wpAnyH_ready (rs := [26]) (by kernel_rfl) (by simp) (AllReadyH.cons rfl (fun K26 hK26 => ?ku5x26) AllReadyH.nil)
      refine take_calls 26 14 [Operand.tmp 131, Operand.tmp 132] #[23, 37] rfl rfl (by kernel_rfl) (fun args w => run_enter Tryd.func14 (by kernel_rfl) rfl args w) ?_
      refine (SM1.out _ HR).mono ?_
      rintro e w26 ⟨rfl, hb26⟩
      refine ⟨_, rfl, ?_⟩
      have z26 := hb26.size
      try simp only [World.size_drew] at z26
      replace b7 := Blk.below b7 hb26 (by first | exact Nat.le_refl _ | (simp only [World.size_alloc, World.size_setCell, World.size_drew] at *; omega) | omega)
      replace HR := HR.trans (hb26.mono (by first | exact HR.size | omega))
      have zHR26 := HR.size
      refine hK26.out _ _ ?su5x26 (fun hHeld => ?ru5x26)
      case su5x26 => ((try dsimp only); exact ⟨b7.cell_ 0 rfl, b7.cell_ 1 rfl, b7.cell_ 2 rfl⟩)
      try simp only [List.setIfInBounds_toArray, List.set_cons_zero, List.set_cons_succ]
      refine take_movev (v := ?vu5x27) 27 (Operand.tmp 133) rfl rfl (by first | exact .inl rfl | exact .inr rfl) rfl (by kernel_rfl) (by kernel_rfl) (by kernel_rfl) (fun _ _ _ h => h) (by assumption) ?yu5x27 ?ru5x27
      case yu5x27 => (go_simp; try (with_reducible rfl))
      simp only [List.setIfInBounds_toArray, List.set_cons_zero, List.set_cons_succ]
      refine take_movev (v := ?vu5x28) 28 (Operand.tmp 10) rfl rfl (by first | exact .inl rfl | exact .inr rfl) rfl (by kernel_rfl) (by kernel_rfl) (by kernel_rfl) (fun _ _ _ h => h) (by assumption) ?yu5x28 ?ru5x28
      case yu5x28 => (go_simp; try (with_reducible rfl))
      simp only [List.setIfInBounds_toArray, List.set_cons_zero, List.set_cons_succ]
      refine take_op (v := ?vu5x29) 29 (Op.load 37 (Operand.tmp 5)) 37 rfl rfl rfl rfl rfl (by kernel_rfl) (by kernel_rfl) (by kernel_rfl) (fun _ _ _ h => h) ?yu5x29 (by assumption) ?ru5x29
      case yu5x29 => (intro w' hSw; (try dsimp only at hSw); go_simp; try (with_reducible rfl))
      simp only [List.setIfInBounds_toArray, List.set_cons_zero, List.set_cons_succ]
      refine wpAnyH_ready (rs := [30]) (by kernel_rfl) (by simp) (AllReadyH.cons rfl (fun K30 hK30 => ?ku5x30) AllReadyH.nil)
      refine take_calls 30 14 [Operand.tmp 135, Operand.tmp 136] #[23, 37] rfl rfl (by kernel_rfl) (fun args w => run_enter Tryd.func14 (by kernel_rfl) rfl args w) ?_
      refine (SM2.out _ HR).mono ?_
      rintro e w30 ⟨rfl, hb30⟩
      refine ⟨_, rfl, ?_⟩
      have z30 := hb30.size
      try simp only [World.size_drew] at z30
      replace b7 := Blk.below b7 hb30 (by first | exact Nat.le_refl _ | (simp only [World.size_alloc, World.size_setCell, World.size_drew] at *; omega) | omega)
      replace HR := HR.trans (hb30.mono (by first | exact HR.size | omega))
      have zHR30 := HR.size
      refine hK30.out _ _ ?su5x30 (fun hHeld => ?ru5x30)
      case su5x30 => ((try dsimp only); exact ⟨b7.cell_ 0 rfl, b7.cell_ 1 rfl, b7.cell_ 2 rfl⟩)
      try simp only [List.setIfInBounds_toArray, List.set_cons_zero, List.set_cons_succ]
      refine take_op (v := ?vu5x31) 31 (Op.pick (Operand.tmp 134) (Operand.const (Value.bool true)) (Operand.tmp 137)) 4 rfl rfl rfl rfl rfl (by kernel_rfl) (by kernel_rfl) (by kernel_rfl) (fun _ _ _ h => h) ?yu5x31 (by assumption) ?ru5x31
      case yu5x31 => (intro w' hSw; (try dsimp only at hSw); go_simp; try (with_reducible rfl))
      simp only [List.setIfInBounds_toArray, List.set_cons_zero, List.set_cons_succ]
      refine take_op (v := ?vu5x32) 32 (Op.binOp BinOp.eql 4 (Operand.tmp 130) (Operand.tmp 138) 4) 4 rfl rfl rfl rfl rfl (by kernel_rfl) (by kernel_rfl) (by kernel_rfl) (fun _ _ _ h => h) ?yu5x32 (by assumption) ?ru5x32
      case yu5x32 => (intro w' hSw; (try dsimp only at hSw); go_simp; try (with_reducible rfl))
      simp only [List.setIfInBounds_toArray, List.set_cons_zero, List.set_cons_succ]
      refine take_op (v := ?vu5x33) 33 (Op.pick (Operand.tmp 127) (Operand.tmp 139) (Operand.const (Value.bool false))) 4 rfl rfl rfl rfl rfl (by kernel_rfl) (by kernel_rfl) (by kernel_rfl) (fun _ _ _ h => h) ?yu5x33 (by assumption) ?ru5x33
      case yu5x33 => (intro w' hSw; (try dsimp only at hSw); go_simp; try (with_reducible rfl))
      simp only [List.setIfInBounds_toArray, List.set_cons_zero, List.set_cons_succ]
      refine take_movev (v := ?vu5x34) 34 (Operand.tmp 140) rfl rfl (by first | exact .inl rfl | exact .inr rfl) rfl (by kernel_rfl) (by kernel_rfl) (by kernel_rfl) (fun _ _ _ h => h) (by assumption) ?yu5x34 ?ru5x34
      case yu5x34 => (go_simp; try (with_reducible rfl))
      simp only [List.setIfInBounds_toArray, List.set_cons_zero, List.set_cons_succ]
      refine wpAnyH_ready (rs := [35]) (by kernel_rfl) (by simp) (AllReadyH.cons rfl (fun K35 hK35 => ?ku5x35) AllReadyH.nil)
      refine take_calls 35 7 [] #[] rfl rfl (by kernel_rfl) (fun args w => run_enter Tryd.func7 (by kernel_rfl) rfl args w) ?_
      refine (HAW.out _ HR).mono ?_
      rintro e w35 ⟨rfl, hb35⟩
      refine ⟨_, rfl, ?_⟩
      have z35 := hb35.size
      try simp only [World.size_drew] at z35
      replace b7 := Blk.below b7 hb35 (by first | exact Nat.le_refl _ | (simp only [World.size_alloc, World.size_setCell, World.size_drew] at *; omega) | omega)
      replace HR := HR.trans (hb35.mono (by first | exact HR.size | omega))
      have zHR35 := HR.size
      refine hK35.out _ _ ?su5x35 (fun hHeld => ?ru5x35)
      case su5x35 => ((try dsimp only); exact ⟨b7.cell_ 0 rfl, b7.cell_ 1 rfl, b7.cell_ 2 rfl⟩)
      try simp only [List.setIfInBounds_toArray, List.set_cons_zero, List.set_cons_succ]
      refine take_op (v := ?vu5x36) 36 (Op.pick (Operand.tmp 141) (Operand.tmp 142) (Operand.const (Value.bool false))) 4 rfl rfl rfl rfl rfl (by kernel_rfl) (by kernel_rfl) (by kernel_rfl) (fun _ _ _ h => h) ?yu5x36 (by assumption) ?ru5x36
      case yu5x36 => (intro w' hSw; (try dsimp only at hSw); go_simp; try (with_reducible rfl))
      simp only [List.setIfInBounds_toArray, List.set_cons_zero, List.set_cons_succ]
      refine take_op (v := ?vu5x37) 37 (Op.assign (Operand.tmp 143)) 4 rfl rfl rfl rfl rfl (by kernel_rfl) (by kernel_rfl) (by kernel_rfl) (fun _ _ _ h => h) ?yu5x37 (by assumption) ?ru5x37
      case yu5x37 => (intro w' hSw; (try dsimp only at hSw); go_simp; try (with_reducible rfl))
      simp only [List.setIfInBounds_toArray, List.set_cons_zero, List.set_cons_succ]
      refine wpAnyH_done (by kernel_rfl) ?_ _
      go_wp2_with fail
      go_ret
      exact ⟨rfl, HB7.trans (HR.mono HB7.size)⟩
    · simp only [if_true, if_false, Bool.false_eq_true, Bool.and_true, Bool.and_false, Bool.or_true, Bool.or_false, Bool.and_self, Bool.or_self] at SM3 SM4
      go_wp2_with fail
      refine wp_region_held_drew (S := (fun w' => w'.cell? ⟨p0, 0, none⟩ = some (.int .i64 q) ∧ w'.cell? ⟨p0, 1, none⟩ = some (.int .i64 t) ∧ w'.cell? ⟨p0, 2, none⟩ = some (str d))) (by kernel_rfl) ?_ (fun hHeld => ?_)
      · replace b7 := Blk.drew b7; replace HR := Below.drew HR; (try dsimp only); exact ⟨b7.cell_ 0 rfl, b7.cell_ 1 rfl, b7.cell_ 2 rfl⟩
      replace b7 := Blk.drew b7
      replace HR := Below.drew HR
      have zHR := HR.size
      refine take_movev (v := ?vu6x0) 0 (Operand.tmp 17) rfl rfl (by first | exact .inl rfl | exact .inr rfl) rfl (by kernel_rfl) (by kernel_rfl) (by kernel_rfl) (fun _ _ _ h => h) (by assumption) ?yu6x0 ?ru6x0
      case yu6x0 => (go_simp; try (with_reducible rfl))
      simp only [List.setIfInBounds_toArray, List.set_cons_zero, List.set_cons_succ]
      refine take_op (v := ?vu6x1) 1 (Op.binOp BinOp.eql 24 (Operand.tmp 107) (Operand.const (Value.int IntKind.i64 0)) 24) 4 rfl rfl rfl rfl rfl (by kernel_rfl) (by kernel_rfl) (by kernel_rfl) (fun _ _ _ h => h) ?yu6x1 (by assumption) ?ru6x1
      case yu6x1 => (intro w' hSw; (try dsimp only at hSw); go_simp; try (with_reducible rfl))
      simp only [List.setIfInBounds_toArray, List.set_cons_zero, List.set_cons_succ]
      refine take_movev (v := ?vu6x2) 2 (Operand.tmp 108) rfl rfl (by first | exact .inl rfl | exact .inr rfl) rfl (by kernel_rfl) (by kernel_rfl) (by kernel_rfl) (fun _ _ _ h => h) (by assumption) ?yu6x2 ?ru6x2
      case yu6x2 => (go_simp; try (with_reducible rfl))
      simp only [List.setIfInBounds_toArray, List.set_cons_zero, List.set_cons_succ]
      refine take_movev (v := ?vu6x3) 3 (Operand.tmp 20) rfl rfl (by first | exact .inl rfl | exact .inr rfl) rfl (by kernel_rfl) (by kernel_rfl) (by kernel_rfl) (fun _ _ _ h => h) (by assumption) ?yu6x3 ?ru6x3
      case yu6x3 => (go_simp; try (with_reducible rfl))
      simp only [List.setIfInBounds_toArray, List.set_cons_zero, List.set_cons_succ]
      refine take_op (v := ?vu6x4) 4 (Op.binOp BinOp.eql 24 (Operand.tmp 110) (Operand.const (Value.int IntKind.i64 0)) 24) 4 rfl rfl rfl rfl rfl (by kernel_rfl) (by kernel_rfl) (by kernel_rfl) (fun _ _ _ h => h) ?yu6x4 (by assumption) ?ru6x4
      case yu6x4 => (intro w' hSw; (try dsimp only at hSw); go_simp; try (with_reducible rfl))
      simp only [List.setIfInBounds_toArray, List.set_cons_zero, List.set_cons_succ]
      refine take_op (v := ?vu6x5) 5 (Op.pick (Operand.tmp 109) (Operand.tmp 111) (Operand.const (Value.bool false))) 4 rfl rfl rfl rfl rfl (by kernel_rfl) (by kernel_rfl) (by kernel_rfl) (fun _ _ _ h => h) ?yu6x5 (by assumption) ?ru6x5
      case yu6x5 => (intro w' hSw; (try dsimp only at hSw); go_simp; try (with_reducible rfl))
      simp only [List.setIfInBounds_toArray, List.set_cons_zero, List.set_cons_succ]
      refine take_movev (v := ?vu6x6) 6 (Operand.tmp 112) rfl rfl (by first | exact .inl rfl | exact .inr rfl) rfl (by kernel_rfl) (by kernel_rfl) (by kernel_rfl) (fun _ _ _ h => h) (by assumption) ?yu6x6 ?ru6x6
      case yu6x6 => (go_simp; try (with_reducible rfl))
      simp only [List.setIfInBounds_toArray, List.set_cons_zero, List.set_cons_succ]
      refine take_movev (v := ?vu6x7) 7 (Operand.tmp 15) rfl rfl (by first | exact .inl rfl | exact .inr rfl) rfl (by kernel_rfl) (by kernel_rfl) (by kernel_rfl) (fun _ _ _ h => h) (by assumption) ?yu6x7 ?ru6x7
      case yu6x7 => (go_simp; try (with_reducible rfl))
      simp only [List.setIfInBounds_toArray, List.set_cons_zero, List.set_cons_succ]
      refine take_op (v := ?vu6x8) 8 (Op.load 37 (Operand.tmp 5)) 37 rfl rfl rfl rfl rfl (by kernel_rfl) (by kernel_rfl) (by kernel_rfl) (fun _ _ _ h => h) ?yu6x8 (by assumption) ?ru6x8
      case yu6x8 => (intro w' hSw; (try dsimp only at hSw); go_simp; try (with_reducible rfl))
      simp only [List.setIfInBounds_toArray, List.set_cons_zero, List.set_cons_succ]
      refine take_movev (v := ?vu6x10) 10 (Operand.tmp 7) rfl rfl (by first | exact .inl rfl | exact .inr rfl) rfl (by kernel_rfl) (by kernel_rfl) (by kernel_rfl) (fun _ _ _ h => h) (by assumption) ?yu6x10 ?ru6x10
      case yu6x10 => (go_simp; try (with_reducible rfl))
      simp only [List.setIfInBounds_toArray, List.set_cons_zero, List.set_cons_succ]
      refine take_op (v := ?vu6x11) 11 (Op.load 37 (Operand.tmp 5)) 37 rfl rfl rfl rfl rfl (by kernel_rfl) (by kernel_rfl) (by kernel_rfl) (fun _ _ _ h => h) ?yu6x11 (by assumption) ?ru6x11
      case yu6x11 => (intro w' hSw; (try dsimp only at hSw); go_simp; try (with_reducible rfl))
      simp only [List.setIfInBounds_toArray, List.set_cons_zero, List.set_cons_succ]
      refine wpAnyH_ready (rs := [9]) (by kernel_rfl) (by simp) (AllReadyH.cons rfl (fun K9 hK9 => ?ku6x9) AllReadyH.nil)
      refine take_calls 9 14 [Operand.tmp 114, Operand.tmp 115] #[23, 37] rfl rfl (by kernel_rfl) (fun args w => run_enter Tryd.func14 (by kernel_rfl) rfl args w) ?_
      refine (SM3.out _ HR).mono ?_
      rintro e w9 ⟨rfl, hb9⟩
      refine ⟨_, rfl, ?_⟩
      have z9 := hb9.size
      try simp only [World.size_drew] at z9
      replace b7 := Blk.below b7 hb9 (by first | exact Nat.le_refl _ | (simp only [World.size_alloc, World.size_setCell, World.size_drew] at *; omega) | omega)
      replace HR := HR.trans (hb9.mono (by first | exact HR.size | omega))
      have zHR9 := HR.size
      refine hK9.out _ _ ?su6x9 (fun hHeld => ?ru6x9)
      case su6x9 => ((try dsimp only); exact ⟨b7.cell_ 0 rfl, b7.cell_ 1 rfl, b7.cell_ 2 rfl⟩)
      try simp only [List.setIfInBounds_toArray, List.set_cons_zero, List.set_cons_succ]
      refine wpAnyH_ready (rs := [12]) (by kernel_rfl) (by simp) (AllReadyH.cons rfl (fun K12 hK12 => ?ku6x12) AllReadyH.nil)
      refine take_calls 12 14 [Operand.tmp 117, Operand.tmp 118] #[23, 37] rfl rfl (by kernel_rfl) (fun args w => run_enter Tryd.func14 (by kernel_rfl) rfl args w) ?_
      refine (SM1.out _ HR).mono ?_
      rintro e w12 ⟨rfl, hb12⟩
      refine ⟨_, rfl, ?_⟩
      have z12 := hb12.size
      try simp only [World.size_drew] at z12
      replace b7 := Blk.below b7 hb12 (by first | exact Nat.le_refl _ | (simp only [World.size_alloc, World.size_setCell, World.size_drew] at *; omega) | omega)
      replace HR := HR.trans (hb12.mono (by first | exact HR.size | omega))
      have zHR12 := HR.size
      refine hK12.out _ _ ?su6x12 (fun hHeld => ?ru6x12)
      case su6x12 => ((try dsimp only); exact ⟨b7.cell_ 0 rfl, b7.cell_ 1 rfl, b7.cell_ 2 rfl⟩)
      try simp only [List.setIfInBounds_toArray, List.set_cons_zero, List.set_cons_succ]
      refine take_movev (v := ?vu6x13) 13 (Operand.tmp 119) rfl rfl (by first | exact .inl rfl | exact .inr rfl) rfl (by kernel_rfl) (by kernel_rfl) (by kernel_rfl) (fun _ _ _ h => h) (by assumption) ?yu6x13 ?ru6x13
      case yu6x13 => (go_simp; try (with_reducible rfl))
      simp only [List.setIfInBounds_toArray, List.set_cons_zero, List.set_cons_succ]
      refine take_skip 14 rfl rfl rfl (by kernel_rfl) (by kernel_rfl) (by kernel_rfl) (fun _ _ _ h => h) (by assumption) ?_
      simp only [List.setIfInBounds_toArray, List.set_cons_zero, List.set_cons_succ]
      refine take_skip 15 rfl rfl rfl (by kernel_rfl) (by kernel_rfl) (by kernel_rfl) (fun _ _ _ h => h) (by assumption) ?_
      simp only [List.setIfInBounds_toArray, List.set_cons_zero, List.set_cons_succ]
      refine take_skip 16 rfl rfl rfl (by kernel_rfl) (by kernel_rfl) (by kernel_rfl) (fun _ _ _ h => h) (by assumption) ?_
      simp only [List.setIfInBounds_toArray, List.set_cons_zero, List.set_cons_succ]
      refine take_op (v := ?vu6x17) 17 (Op.pick (Operand.tmp 120) (Operand.tmp 123) (Operand.const (Value.bool false))) 4 rfl rfl rfl rfl rfl (by kernel_rfl) (by kernel_rfl) (by kernel_rfl) (fun _ _ _ h => h) ?yu6x17 (by assumption) ?ru6x17
      case yu6x17 => (intro w' hSw; (try dsimp only at hSw); go_simp; try (with_reducible rfl))
      simp only [List.setIfInBounds_toArray, List.set_cons_zero, List.set_cons_succ]
      refine take_op (v := ?vu6x18) 18 (Op.binOp BinOp.eql 4 (Operand.tmp 116) (Operand.tmp 124) 4) 4 rfl rfl rfl rfl rfl (by kernel_rfl) (by kernel_rfl) (by kernel_rfl) (fun _ _ _ h => h) ?yu6x18 (by assumption) ?ru6x18
      case yu6x18 => (intro w' hSw; (try dsimp only at hSw); go_simp; try (with_reducible rfl))
      simp only [List.setIfInBounds_toArray, List.set_cons_zero, List.set_cons_succ]
      refine take_op (v := ?vu6x19) 19 (Op.pick (Operand.tmp 113) (Operand.tmp 125) (Operand.const (Value.bool false))) 4 rfl rfl rfl rfl rfl (by kernel_rfl) (by kernel_rfl) (by kernel_rfl) (fun _ _ _ h => h) ?yu6x19 (by assumption) ?ru6x19
      case yu6x19 => (intro w' hSw; (try dsimp only at hSw); go_simp; try (with_reducible rfl))
      simp only [List.setIfInBounds_toArray, List.set_cons_zero, List.set_cons_succ]
      refine take_movev (v := ?vu6x20) 20 (Operand.tmp 126) rfl rfl (by first | exact .inl rfl | exact .inr rfl) rfl (by kernel_rfl) (by kernel_rfl) (by kernel_rfl) (fun _ _ _ h => h) (by assumption) ?yu6x20 ?ru6x20
      case yu6x20 => (go_simp; try (with_reducible rfl))
      simp only [List.setIfInBounds_toArray, List.set_cons_zero, List.set_cons_succ]
      refine take_movev (v := ?vu6x21) 21 (Operand.tmp 18) rfl rfl (by first | exact .inl rfl | exact .inr rfl) rfl (by kernel_rfl) (by kernel_rfl) (by kernel_rfl) (fun _ _ _ h => h) (by assumption) ?yu6x21 ?ru6x21
      case yu6x21 => (go_simp; try (with_reducible rfl))
      simp only [List.setIfInBounds_toArray, List.set_cons_zero, List.set_cons_succ]
      refine take_op (v := ?vu6x22) 22 (Op.load 37 (Operand.tmp 5)) 37 rfl rfl rfl rfl rfl (by kernel_rfl) (by kernel_rfl) (by kernel_rfl) (fun _ _ _ h => h) ?yu6x22 (by assumption) ?ru6x22
      case yu6x22 => (intro w' hSw; (try dsimp only at hSw); go_simp; try (with_reducible rfl))
      simp only [List.setIfInBounds_toArray, List.set_cons_zero, List.set_cons_succ]
      refine take_movev (v := ?vu6x24) 24 (Operand.tmp 7) rfl rfl (by first | exact .inl rfl | exact .inr rfl) rfl (by kernel_rfl) (by kernel_rfl) (by kernel_rfl) (fun _ _ _ h => h) (by assumption) ?yu6x24 ?ru6x24
      case yu6x24 => (go_simp; try (with_reducible rfl))
      simp only [List.setIfInBounds_toArray, List.set_cons_zero, List.set_cons_succ]
      refine take_op (v := ?vu6x25) 25 (Op.load 37 (Operand.tmp 5)) 37 rfl rfl rfl rfl rfl (by kernel_rfl) (by kernel_rfl) (by kernel_rfl) (fun _ _ _ h => h) ?yu6x25 (by assumption) ?ru6x25
      case yu6x25 => (intro w' hSw; (try dsimp only at hSw); go_simp; try (with_reducible rfl))
      simp only [List.setIfInBounds_toArray, List.set_cons_zero, List.set_cons_succ]
      refine wpAnyH_ready (rs := [23]) (by kernel_rfl) (by simp) (AllReadyH.cons rfl (fun K23 hK23 => ?ku6x23) AllReadyH.nil)
      refine take_calls 23 14 [Operand.tmp 128, Operand.tmp 129] #[23, 37] rfl rfl (by kernel_rfl) (fun args w => run_enter Tryd.func14 (by kernel_rfl) rfl args w) ?_
      refine (SM4.out _ HR).mono ?_
      rintro e w23 ⟨rfl, hb23⟩
      refine ⟨_, rfl, ?_⟩
      have z23 := hb23.size
      try simp only [World.size_drew] at z23
      replace b7 := Blk.below b7 hb23 (by first | exact Nat.le_refl _ | (simp only [World.size_alloc, World.size_setCell, World.size_drew] at *; omega) | omega)
      replace HR := HR.trans (hb23.mono (by first | exact HR.size | omega))
      have zHR23 := HR.size
      refine hK23.out _ _ ?su6x23 (fun hHeld => ?ru6x23)
      case su6x23 => ((try dsimp only); exact ⟨b7.cell_ 0 rfl, b7.cell_ 1 rfl, b7.cell_ 2 rfl⟩)
      try simp only [List.setIfInBounds_toArray, List.set_cons_zero, List.set_cons_succ]
      refine wpAnyH_ready (rs := [26]) (by kernel_rfl) (by simp) (AllReadyH.cons rfl (fun K26 hK26 => ?ku6x26) AllReadyH.nil)
      refine take_calls 26 14 [Operand.tmp 131, Operand.tmp 132] #[23, 37] rfl rfl (by kernel_rfl) (fun args w => run_enter Tryd.func14 (by kernel_rfl) rfl args w) ?_
      refine (SM1.out _ HR).mono ?_
      rintro e w26 ⟨rfl, hb26⟩
      refine ⟨_, rfl, ?_⟩
      have z26 := hb26.size
      try simp only [World.size_drew] at z26
      replace b7 := Blk.below b7 hb26 (by first | exact Nat.le_refl _ | (simp only [World.size_alloc, World.size_setCell, World.size_drew] at *; omega) | omega)
      replace HR := HR.trans (hb26.mono (by first | exact HR.size | omega))
      have zHR26 := HR.size
      refine hK26.out _ _ ?su6x26 (fun hHeld => ?ru6x26)
      case su6x26 => ((try dsimp only); exact ⟨b7.cell_ 0 rfl, b7.cell_ 1 rfl, b7.cell_ 2 rfl⟩)
      try simp only [List.setIfInBounds_toArray, List.set_cons_zero, List.set_cons_succ]
      refine take_movev (v := ?vu6x27) 27 (Operand.tmp 133) rfl rfl (by first | exact .inl rfl | exact .inr rfl) rfl (by kernel_rfl) (by kernel_rfl) (by kernel_rfl) (fun _ _ _ h => h) (by assumption) ?yu6x27 ?ru6x27
      case yu6x27 => (go_simp; try (with_reducible rfl))
      simp only [List.setIfInBounds_toArray, List.set_cons_zero, List.set_cons_succ]
      refine take_movev (v := ?vu6x28) 28 (Operand.tmp 10) rfl rfl (by first | exact .inl rfl | exact .inr rfl) rfl (by kernel_rfl) (by kernel_rfl) (by kernel_rfl) (fun _ _ _ h => h) (by assumption) ?yu6x28 ?ru6x28
      case yu6x28 => (go_simp; try (with_reducible rfl))
      simp only [List.setIfInBounds_toArray, List.set_cons_zero, List.set_cons_succ]
      refine take_op (v := ?vu6x29) 29 (Op.load 37 (Operand.tmp 5)) 37 rfl rfl rfl rfl rfl (by kernel_rfl) (by kernel_rfl) (by kernel_rfl) (fun _ _ _ h => h) ?yu6x29 (by assumption) ?ru6x29
      case yu6x29 => (intro w' hSw; (try dsimp only at hSw); go_simp; try (with_reducible rfl))
      simp only [List.setIfInBounds_toArray, List.set_cons_zero, List.set_cons_succ]
      refine wpAnyH_ready (rs := [30]) (by kernel_rfl) (by simp) (AllReadyH.cons rfl (fun K30 hK30 => ?ku6x30) AllReadyH.nil)
      refine take_calls 30 14 [Operand.tmp 135, Operand.tmp 136] #[23, 37] rfl rfl (by kernel_rfl) (fun args w => run_enter Tryd.func14 (by kernel_rfl) rfl args w) ?_
      refine (SM2.out _ HR).mono ?_
      rintro e w30 ⟨rfl, hb30⟩
      refine ⟨_, rfl, ?_⟩
      have z30 := hb30.size
      try simp only [World.size_drew] at z30
      replace b7 := Blk.below b7 hb30 (by first | exact Nat.le_refl _ | (simp only [World.size_alloc, World.size_setCell, World.size_drew] at *; omega) | omega)
      replace HR := HR.trans (hb30.mono (by first | exact HR.size | omega))
      have zHR30 := HR.size
      refine hK30.out _ _ ?su6x30 (fun hHeld => ?ru6x30)
      case su6x30 => ((try dsimp only); exact ⟨b7.cell_ 0 rfl, b7.cell_ 1 rfl, b7.cell_ 2 rfl⟩)
      try simp only [List.setIfInBounds_toArray, List.set_cons_zero, List.set_cons_succ]
      refine take_op (v := ?vu6x31) 31 (Op.pick (Operand.tmp 134) (Operand.const (Value.bool true)) (Operand.tmp 137)) 4 rfl rfl rfl rfl rfl (by kernel_rfl) (by kernel_rfl) (by kernel_rfl) (fun _ _ _ h => h) ?yu6x31 (by assumption) ?ru6x31
      case yu6x31 => (intro w' hSw; (try dsimp only at hSw); go_simp; try (with_reducible rfl))
      simp only [List.setIfInBounds_toArray, List.set_cons_zero, List.set_cons_succ]
      refine take_op (v := ?vu6x32) 32 (Op.binOp BinOp.eql 4 (Operand.tmp 130) (Operand.tmp 138) 4) 4 rfl rfl rfl rfl rfl (by kernel_rfl) (by kernel_rfl) (by kernel_rfl) (fun _ _ _ h => h) ?yu6x32 (by assumption) ?ru6x32
      case yu6x32 => (intro w' hSw; (try dsimp only at hSw); go_simp; try (with_reducible rfl))
      simp only [List.setIfInBounds_toArray, List.set_cons_zero, List.set_cons_succ]
      refine take_op (v := ?vu6x33) 33 (Op.pick (Operand.tmp 127) (Operand.tmp 139) (Operand.const (Value.bool false))) 4 rfl rfl rfl rfl rfl (by kernel_rfl) (by kernel_rfl) (by kernel_rfl) (fun _ _ _ h => h) ?yu6x33 (by assumption) ?ru6x33
      case yu6x33 => (intro w' hSw; (try dsimp only at hSw); go_simp; try (with_reducible rfl))
      simp only [List.setIfInBounds_toArray, List.set_cons_zero, List.set_cons_succ]
      refine take_movev (v := ?vu6x34) 34 (Operand.tmp 140) rfl rfl (by first | exact .inl rfl | exact .inr rfl) rfl (by kernel_rfl) (by kernel_rfl) (by kernel_rfl) (fun _ _ _ h => h) (by assumption) ?yu6x34 ?ru6x34
      case yu6x34 => (go_simp; try (with_reducible rfl))
      simp only [List.setIfInBounds_toArray, List.set_cons_zero, List.set_cons_succ]
      refine wpAnyH_ready (rs := [35]) (by kernel_rfl) (by simp) (AllReadyH.cons rfl (fun K35 hK35 => ?ku6x35) AllReadyH.nil)
      refine take_calls 35 7 [] #[] rfl rfl (by kernel_rfl) (fun args w => run_enter Tryd.func7 (by kernel_rfl) rfl args w) ?_
      refine (HAW.out _ HR).mono ?_
      rintro e w35 ⟨rfl, hb35⟩
      refine ⟨_, rfl, ?_⟩
      have z35 := hb35.size
      try simp only [World.size_drew] at z35
      replace b7 := Blk.below b7 hb35 (by first | exact Nat.le_refl _ | (simp only [World.size_alloc, World.size_setCell, World.size_drew] at *; omega) | omega)
      replace HR := HR.trans (hb35.mono (by first | exact HR.size | omega))
      have zHR35 := HR.size
      refine hK35.out _ _ ?su6x35 (fun hHeld => ?ru6x35)
      case su6x35 => ((try dsimp only); exact ⟨b7.cell_ 0 rfl, b7.cell_ 1 rfl, b7.cell_ 2 rfl⟩)
      try simp only [List.setIfInBounds_toArray, List.set_cons_zero, List.set_cons_succ]
      refine take_op (v := ?vu6x36) 36 (Op.pick (Operand.tmp 141) (Operand.tmp 142) (Operand.const (Value.bool false))) 4 rfl rfl rfl rfl rfl (by kernel_rfl) (by kernel_rfl) (by kernel_rfl) (fun _ _ _ h => h) ?yu6x36 (by assumption) ?ru6x36
      case yu6x36 => (intro w' hSw; (try dsimp only at hSw); go_simp; try (with_reducible rfl))
      simp only [List.setIfInBounds_toArray, List.set_cons_zero, List.set_cons_succ]
      refine take_op (v := ?vu6x37) 37 (Op.assign (Operand.tmp 143)) 4 rfl rfl rfl rfl rfl (by kernel_rfl) (by kernel_rfl) (by kernel_rfl) (fun _ _ _ h => h) ?yu6x37 (by assumption) ?ru6x37
      case yu6x37 => (intro w' hSw; (try dsimp only at hSw); go_simp; try (with_reducible rfl))
      simp only [List.setIfInBounds_toArray, List.set_cons_zero, List.set_cons_succ]
      refine wpAnyH_done (by kernel_rfl) ?_ _
      go_wp2_with fail
      go_ret
      exact ⟨rfl, HB7.trans (HR.mono HB7.size)⟩
    · simp only [if_true, if_false, Bool.false_eq_true, Bool.and_true, Bool.and_false, Bool.or_true, Bool.or_false, Bool.and_self, Bool.or_self] at SM3 SM4
      go_wp2_with fail
      refine wp_region_held_drew (S := (fun w' => w'.cell? ⟨p0, 0, none⟩ = some (.int .i64 q) ∧ w'.cell? ⟨p0, 1, none⟩ = some (.int .i64 t) ∧ w'.cell? ⟨p0, 2, none⟩ = some (str d))) (by kernel_rfl) ?_ (fun hHeld => ?_)
      · replace b7 := Blk.drew b7; replace HR := Below.drew HR; (try dsimp only); exact ⟨b7.cell_ 0 rfl, b7.cell_ 1 rfl, b7.cell_ 2 rfl⟩
      replace b7 := Blk.drew b7
      replace HR := Below.drew HR
      have zHR := HR.size
      refine take_movev (v := ?vu7x0) 0 (Operand.tmp 17) rfl rfl (by first | exact .inl rfl | exact .inr rfl) rfl (by kernel_rfl) (by kernel_rfl) (by kernel_rfl) (fun _ _ _ h => h) (by assumption) ?yu7x0 ?ru7x0
      case yu7x0 => (go_simp; try (with_reducible rfl))
      simp only [List.setIfInBounds_toArray, List.set_cons_zero, List.set_cons_succ]
      refine take_op (v := ?vu7x1) 1 (Op.binOp BinOp.eql 24 (Operand.tmp 107) (Operand.const (Value.int IntKind.i64 0)) 24) 4 rfl rfl rfl rfl rfl (by kernel_rfl) (by kernel_rfl) (by kernel_rfl) (fun _ _ _ h => h) ?yu7x1 (by assumption) ?ru7x1
      case yu7x1 => (intro w' hSw; (try dsimp only at hSw); go_simp; try (with_reducible rfl))
      simp only [List.setIfInBounds_toArray, List.set_cons_zero, List.set_cons_succ]
      refine take_movev (v := ?vu7x2) 2 (Operand.tmp 108) rfl rfl (by first | exact .inl rfl | exact .inr rfl) rfl (by kernel_rfl) (by kernel_rfl) (by kernel_rfl) (fun _ _ _ h => h) (by assumption) ?yu7x2 ?ru7x2
      case yu7x2 => (go_simp; try (with_reducible rfl))
      simp only [List.setIfInBounds_toArray, List.set_cons_zero, List.set_cons_succ]
      refine take_movev (v := ?vu7x3) 3 (Operand.tmp 20) rfl rfl (by first | exact .inl rfl | exact .inr rfl) rfl (by kernel_rfl) (by kernel_rfl) (by kernel_rfl) (fun _ _ _ h => h) (by assumption) ?yu7x3 ?ru7x3
      case yu7x3 => (go_simp; try (with_reducible rfl))
      simp only [List.setIfInBounds_toArray, List.set_cons_zero, List.set_cons_succ]
      refine take_op (v := ?vu7x4) 4 (Op.binOp BinOp.eql 24 (Operand.tmp 110) (Operand.const (Value.int IntKind.i64 0)) 24) 4 rfl rfl rfl rfl rfl (by kernel_rfl) (by kernel_rfl) (by kernel_rfl) (fun _ _ _ h => h) ?yu7x4 (by assumption) ?ru7x4
      case yu7x4 => (intro w' hSw; (try dsimp only at hSw); go_simp; try (with_reducible rfl))
      simp only [List.setIfInBounds_toArray, List.set_cons_zero, List.set_cons_succ]
      refine take_op (v := ?vu7x5) 5 (Op.pick (Operand.tmp 109) (Operand.tmp 111) (Operand.const (Value.bool false))) 4 rfl rfl rfl rfl rfl (by kernel_rfl) (by kernel_rfl) (by kernel_rfl) (fun _ _ _ h => h) ?yu7x5 (by assumption) ?ru7x5
      case yu7x5 => (intro w' hSw; (try dsimp only at hSw); go_simp; try (with_reducible rfl))
      simp only [List.setIfInBounds_toArray, List.set_cons_zero, List.set_cons_succ]
      refine take_movev (v := ?vu7x6) 6 (Operand.tmp 112) rfl rfl (by first | exact .inl rfl | exact .inr rfl) rfl (by kernel_rfl) (by kernel_rfl) (by kernel_rfl) (fun _ _ _ h => h) (by assumption) ?yu7x6 ?ru7x6
      case yu7x6 => (go_simp; try (with_reducible rfl))
      simp only [List.setIfInBounds_toArray, List.set_cons_zero, List.set_cons_succ]
      refine take_movev (v := ?vu7x7) 7 (Operand.tmp 15) rfl rfl (by first | exact .inl rfl | exact .inr rfl) rfl (by kernel_rfl) (by kernel_rfl) (by kernel_rfl) (fun _ _ _ h => h) (by assumption) ?yu7x7 ?ru7x7
      case yu7x7 => (go_simp; try (with_reducible rfl))
      simp only [List.setIfInBounds_toArray, List.set_cons_zero, List.set_cons_succ]
      refine take_op (v := ?vu7x8) 8 (Op.load 37 (Operand.tmp 5)) 37 rfl rfl rfl rfl rfl (by kernel_rfl) (by kernel_rfl) (by kernel_rfl) (fun _ _ _ h => h) ?yu7x8 (by assumption) ?ru7x8
      case yu7x8 => (intro w' hSw; (try dsimp only at hSw); go_simp; try (with_reducible rfl))
      simp only [List.setIfInBounds_toArray, List.set_cons_zero, List.set_cons_succ]
      refine take_movev (v := ?vu7x10) 10 (Operand.tmp 7) rfl rfl (by first | exact .inl rfl | exact .inr rfl) rfl (by kernel_rfl) (by kernel_rfl) (by kernel_rfl) (fun _ _ _ h => h) (by assumption) ?yu7x10 ?ru7x10
      case yu7x10 => (go_simp; try (with_reducible rfl))
      simp only [List.setIfInBounds_toArray, List.set_cons_zero, List.set_cons_succ]
      refine take_op (v := ?vu7x11) 11 (Op.load 37 (Operand.tmp 5)) 37 rfl rfl rfl rfl rfl (by kernel_rfl) (by kernel_rfl) (by kernel_rfl) (fun _ _ _ h => h) ?yu7x11 (by assumption) ?ru7x11
      case yu7x11 => (intro w' hSw; (try dsimp only at hSw); go_simp; try (with_reducible rfl))
      simp only [List.setIfInBounds_toArray, List.set_cons_zero, List.set_cons_succ]
      refine wpAnyH_ready (rs := [9]) (by kernel_rfl) (by simp) (AllReadyH.cons rfl (fun K9 hK9 => ?ku7x9) AllReadyH.nil)
      refine take_calls 9 14 [Operand.tmp 114, Operand.tmp 115] #[23, 37] rfl rfl (by kernel_rfl) (fun args w => run_enter Tryd.func14 (by kernel_rfl) rfl args w) ?_
      refine (SM3.out _ HR).mono ?_
      rintro e w9 ⟨rfl, hb9⟩
      refine ⟨_, rfl, ?_⟩
      have z9 := hb9.size
      try simp only [World.size_drew] at z9
      replace b7 := Blk.below b7 hb9 (by first | exact Nat.le_refl _ | (simp only [World.size_alloc, World.size_setCell, World.size_drew] at *; omega) | omega)
      replace HR := HR.trans (hb9.mono (by first | exact HR.size | omega))
      have zHR9 := HR.size
      refine hK9.out _ _ ?su7x9 (fun hHeld => ?ru7x9)
      case su7x9 => ((try dsimp only); exact ⟨b7.cell_ 0 rfl, b7.cell_ 1 rfl, b7.cell_ 2 rfl⟩)
      try simp only [List.setIfInBounds_toArray, List.set_cons_zero, List.set_cons_succ]
      refine wpAnyH_ready (rs := [12]) (by kernel_rfl) (by simp) (AllReadyH.cons rfl (fun K12 hK12 => ?ku7x12) AllReadyH.nil)
      refine take_calls 12 14 [Operand.tmp 117, Operand.tmp 118] #[23, 37] rfl rfl (by kernel_rfl) (fun args w => run_enter Tryd.func14 (by kernel_rfl) rfl args w) ?_
      refine (SM1.out _ HR).mono ?_
      rintro e w12 ⟨rfl, hb12⟩
      refine ⟨_, rfl, ?_⟩
      have z12 := hb12.size
      try simp only [World.size_drew] at z12
      replace b7 := Blk.below b7 hb12 (by first | exact Nat.le_refl _ | (simp only [World.size_alloc, World.size_setCell, World.size_drew] at *; omega) | omega)
      replace HR := HR.trans (hb12.mono (by first | exact HR.size | omega))
      have zHR12 := HR.size
      refine hK12.out _ _ ?su7x12 (fun hHeld => ?ru7x12)
      case su7x12 => ((try dsimp only); exact ⟨b7.cell_ 0 rfl, b7.cell_ 1 rfl, b7.cell_ 2 rfl⟩)
      try simp only [List.setIfInBounds_toArray, List.set_cons_zero, List.set_cons_succ]
      refine take_movev (v := ?vu7x13) 13 (Operand.tmp 119) rfl rfl (by first | exact .inl rfl | exact .inr rfl) rfl (by kernel_rfl) (by kernel_rfl) (by kernel_rfl) (fun _ _ _ h => h) (by assumption) ?yu7x13 ?ru7x13
      case yu7x13 => (go_simp; try (with_reducible rfl))
      simp only [List.setIfInBounds_toArray, List.set_cons_zero, List.set_cons_succ]
      refine take_movev (v := ?vu7x14) 14 (Operand.tmp 10) rfl rfl (by first | exact .inl rfl | exact .inr rfl) rfl (by kernel_rfl) (by kernel_rfl) (by kernel_rfl) (fun _ _ _ h => h) (by assumption) ?yu7x14 ?ru7x14
      case yu7x14 => (go_simp; try (with_reducible rfl))
      simp only [List.setIfInBounds_toArray, List.set_cons_zero, List.set_cons_succ]
      refine take_op (v := ?vu7x15) 15 (Op.load 37 (Operand.tmp 5)) 37 rfl rfl rfl rfl rfl (by kernel_rfl) (by kernel_rfl) (by kernel_rfl) (fun _ _ _ h => h) ?yu7x15 (by assumption) ?ru7x15
      case yu7x15 => (intro w' hSw; (try dsimp only at hSw); go_simp; try (with_reducible rfl))
      simp only [List.setIfInBounds_toArray, List.set_cons_zero, List.set_cons_succ]
      refine wpAnyH_ready (rs := [16]) (by kernel_rfl) (by simp) (AllReadyH.cons rfl (fun K16 hK16 => ?ku7x16) AllReadyH.nil)
      refine take_calls 16 14 [Operand.tmp 121, Operand.tmp 122] #[23, 37] rfl rfl (by kernel_rfl) (fun args w => run_enter Tryd.func14 (by kernel_rfl) rfl args w) ?_
      refine (SM2.out _ HR).mono ?_
      rintro e w16 ⟨rfl, hb16⟩
      refine ⟨_, rfl, ?_⟩
      have z16 := hb16.size
      try simp only [World.size_drew] at z16
      replace b7 := Blk.below b7 hb16 (by first | exact Nat.le_refl _ | (simp only [World.size_alloc, World.size_setCell, World.size_drew] at *; omega) | omega)
      replace HR := HR.trans (hb16.mono (by first | exact HR.size | omega))
      have zHR16 := HR.size
      refine hK16.out _ _ ?su7x16 (fun hHeld => ?ru7x16)
      case su7x16 => ((try dsimp only); exact ⟨b7.cell_ 0 rfl, b7.cell_ 1 rfl, b7.cell_ 2 rfl⟩)
      try simp only [List.setIfInBounds_toArray, List.set_cons_zero, List.set_cons_succ]
      refine take_op (v := ?vu7x17) 17 (Op.pick (Operand.tmp 120) (Operand.tmp 123) (Operand.const (Value.bool false))) 4 rfl rfl rfl rfl rfl (by kernel_rfl) (by kernel_rfl) (by kernel_rfl) (fun _ _ _ h => h) ?yu7x17 (by assumption) ?ru7x17
      case yu7x17 => (intro w' hSw; (try dsimp only at hSw); go_simp; try (with_reducible rfl))
      simp only [List.setIfInBounds_toArray, List.set_cons_zero, List.set_cons_succ]
      refine take_op (v := ?vu7x18) 18 (Op.binOp BinOp.eql 4 (Operand.tmp 116) (Operand.tmp 124) 4) 4 rfl rfl rfl rfl rfl (by kernel_rfl) (by kernel_rfl) (by kernel_rfl) (fun _ _ _ h => h) ?yu7x18 (by assumption) ?ru7x18
      case yu7x18 => (intro w' hSw; (try dsimp only at hSw); go_simp; try (with_reducible rfl))
      simp only [List.setIfInBounds_toArray, List.set_cons_zero, List.set_cons_succ]
      refine take_op (v := ?vu7x19) 19 (Op.pick (Operand.tmp 113) (Operand.tmp 125) (Operand.const (Value.bool false))) 4 rfl rfl rfl rfl rfl (by kernel_rfl) (by kernel_rfl) (by kernel_rfl) (fun _ _ _ h => h) ?yu7x19 (by assumption) ?ru7x19
      case yu7x19 => (intro w' hSw; (try dsimp only at hSw); go_simp; try (with_reducible rfl))
      simp only [List.setIfInBounds_toArray, List.set_cons_zero, List.set_cons_succ]
      refine take_movev (v := ?vu7x20) 20 (Operand.tmp 126) rfl rfl (by first | exact .inl rfl | exact .inr rfl) rfl (by kernel_rfl) (by kernel_rfl) (by kernel_rfl) (fun _ _ _ h => h) (by assumption) ?yu7x20 ?ru7x20
      case yu7x20 => (go_simp; try (with_reducible rfl))
      simp only [List.setIfInBounds_toArray, List.set_cons_zero, List.set_cons_succ]
      refine take_movev (v := ?vu7x21) 21 (Operand.tmp 18) rfl rfl (by first | exact .inl rfl | exact .inr rfl) rfl (by kernel_rfl) (by kernel_rfl) (by kernel_rfl) (fun _ _ _ h => h) (by assumption) ?yu7x21 ?ru7x21
      case yu7x21 => (go_simp; try (with_reducible rfl))
      simp only [List.setIfInBounds_toArray, List.set_cons_zero, List.set_cons_succ]
      refine take_op (v := ?vu7x22) 22 (Op.load 37 (Operand.tmp 5)) 37 rfl rfl rfl rfl rfl (by kernel_rfl) (by kernel_rfl) (by kernel_rfl) (fun _ _ _ h => h) ?yu7x22 (by assumption) ?ru7x22
      case yu7x22 => (intro w' hSw; (try dsimp only at hSw); go_simp; try (with_reducible rfl))
      simp only [List.setIfInBounds_toArray, List.set_cons_zero, List.set_cons_succ]
      refine take_movev (v := ?vu7x24) 24 (Operand.tmp 7) rfl rfl (by first | exact .inl rfl | exact .inr rfl) rfl (by kernel_rfl) (by kernel_rfl) (by kernel_rfl) (fun _ _ _ h => h) (by assumption) ?yu7x24 ?ru7x24
      case yu7x24 => (go_simp; try (with_reducible rfl))
      simp only [List.setIfInBounds_toArray, List.set_cons_zero, List.set_cons_succ]
      refine take_op (v := ?vu7x25) 25 (Op.load 37 (Operand.tmp 5)) 37 rfl rfl rfl rfl rfl (by kernel_rfl) (by kernel_rfl) (by kernel_rfl) (fun _ _ _ h => h) ?yu7x25 (by assumption) ?ru7x25
      case yu7x25 => (intro w' hSw; (try dsimp only at hSw); go_simp; try (with_reducible rfl))
      simp only [List.setIfInBounds_toArray, List.set_cons_zero, List.set_cons_succ]
      refine wpAnyH_ready (rs := [23]) (by kernel_rfl) (by simp) (AllReadyH.cons rfl (fun K23 hK23 => ?ku7x23) AllReadyH.nil)
      refine take_calls 23 14 [Operand.tmp 128, Operand.tmp 129] #[23, 37] rfl rfl (by kernel_rfl) (fun args w => run_enter Tryd.func14 (by kernel_rfl) rfl args w) ?_
      refine (SM4.out _ HR).mono ?_
      rintro e w23 ⟨rfl, hb23⟩
      refine ⟨_, rfl, ?_⟩
      have z23 := hb23.size
      try simp only [World.size_drew] at z23
      replace b7 := Blk.below b7 hb23 (by first | exact Nat.le_refl _ | (simp only [World.size_alloc, World.size_setCell, World.size_drew] at *; omega) | omega)
      replace HR := HR.trans (hb23.mono (by first | exact HR.size | omega))
      have zHR23 := HR.size
      refine hK23.out _ _ ?su7x23 (fun hHeld => ?ru7x23)
      case su7x23 => ((try dsimp only); exact ⟨b7.cell_ 0 rfl, b7.cell_ 1 rfl, b7.cell_ 2 rfl⟩)
      try simp only [List.setIfInBounds_toArray, List.set_cons_zero, List.set_cons_succ]
      refine wpAnyH_ready (rs := [26]) (by kernel_rfl) (by simp) (AllReadyH.cons rfl (fun K26 hK26 => ?ku7x26) AllReadyH.nil)
      refine take_calls 26 14 [Operand.tmp 131, Operand.tmp 132] #[23, 37] rfl rfl (by kernel_rfl) (fun args w => run_enter Tryd.func14 (by kernel_rfl) rfl args w) ?_
      refine (SM1.out _ HR).mono ?_
      rintro e w26 ⟨rfl, hb26⟩
      refine ⟨_, rfl, ?_⟩
      have z26 := hb26.size
      try simp only [World.size_drew] at z26
      replace b7 := Blk.below b7 hb26 (by first | exact Nat.le_refl _ | (simp only [World.size_alloc, World.size_setCell, World.size_drew] at *; omega) | omega)
      replace HR := HR.trans (hb26.mono (by first | exact HR.size | omega))
      have zHR26 := HR.size
      refine hK26.out _ _ ?su7x26 (fun hHeld => ?ru7x26)
      case su7x26 => ((try dsimp only); exact ⟨b7.cell_ 0 rfl, b7.cell_ 1 rfl, b7.cell_ 2 rfl⟩)
      try simp only [List.setIfInBounds_toArray, List.set_cons_zero, List.set_cons_succ]
      refine take_movev (v := ?vu7x27) 27 (Operand.tmp 133) rfl rfl (by first | exact .inl rfl | exact .inr rfl) rfl (by kernel_rfl) (by kernel_rfl) (by kernel_rfl) (fun _ _ _ h => h) (by assumption) ?yu7x27 ?ru7x27
      case yu7x27 => (go_simp; try (with_reducible rfl))
      simp only [List.setIfInBounds_toArray, List.set_cons_zero, List.set_cons_succ]
      refine take_skip 28 rfl rfl rfl (by kernel_rfl) (by kernel_rfl) (by kernel_rfl) (fun _ _ _ h => h) (by assumption) ?_
      simp only [List.setIfInBounds_toArray, List.set_cons_zero, List.set_cons_succ]
      refine take_skip 29 rfl rfl rfl (by kernel_rfl) (by kernel_rfl) (by kernel_rfl) (fun _ _ _ h => h) (by assumption) ?_
      simp only [List.setIfInBounds_toArray, List.set_cons_zero, List.set_cons_succ]
      refine take_skip 30 rfl rfl rfl (by kernel_rfl) (by kernel_rfl) (by kernel_rfl) (fun _ _ _ h => h) (by assumption) ?_
      simp only [List.setIfInBounds_toArray, List.set_cons_zero, List.set_cons_succ]
      refine take_op (v := ?vu7x31) 31 (Op.pick (Operand.tmp 134) (Operand.const (Value.bool true)) (Operand.tmp 137)) 4 rfl rfl rfl rfl rfl (by kernel_rfl) (by kernel_rfl) (by kernel_rfl) (fun _ _ _ h => h) ?yu7x31 (by assumption) ?ru7x31
      case yu7x31 => (intro w' hSw; (try dsimp only at hSw); go_simp; try (with_reducible rfl))
      simp only [List.setIfInBounds_toArray, List.set_cons_zero, List.set_cons_succ]
      refine take_op (v := ?vu7x32) 32 (Op.binOp BinOp.eql 4 (Operand.tmp 130) (Operand.tmp 138) 4) 4 rfl rfl rfl rfl rfl (by kernel_rfl) (by kernel_rfl) (by kernel_rfl) (fun _ _ _ h => h) ?yu7x32 (by assumption) ?ru7x32
      case yu7x32 => (intro w' hSw; (try dsimp only at hSw); go_simp; try (with_reducible rfl))
      simp only [List.setIfInBounds_toArray, List.set_cons_zero, List.set_cons_succ]
      refine take_op (v := ?vu7x33) 33 (Op.pick (Operand.tmp 127) (Operand.tmp 139) (Operand.const (Value.bool false))) 4 rfl rfl rfl rfl rfl (by kernel_rfl) (by kernel_rfl) (by kernel_rfl) (fun _ _ _ h => h) ?yu7x33 (by assumption) ?ru7x33
      case yu7x33 => (intro w' hSw; (try dsimp only at hSw); go_simp; try (with_reducible rfl))
      simp only [List.setIfInBounds_toArray, List.set_cons_zero, List.set_cons_succ]
      refine take_movev (v := ?vu7x34) 34 (Operand.tmp 140) rfl rfl (by first | exact .inl rfl | exact .inr rfl) rfl (by kernel_rfl) (by kernel_rfl) (by kernel_rfl) (fun _ _ _ h => h) (by assumption) ?yu7x34 ?ru7x34
      case yu7x34 => (go_simp; try (with_reducible rfl))
      simp only [List.setIfInBounds_toArray, List.set_cons_zero, List.set_cons_succ]
      refine wpAnyH_ready (rs := [35]) (by kernel_rfl) (by simp) (AllReadyH.cons rfl (fun K35 hK35 => ?ku7x35) AllReadyH.nil)
      refine take_calls 35 7 [] #[] rfl rfl (by kernel_rfl) (fun args w => run_enter Tryd.func7 (by kernel_rfl) rfl args w) ?_
      refine (HAW.out _ HR).mono ?_
      rintro e w35 ⟨rfl, hb35⟩
      refine ⟨_, rfl, ?_⟩
      have z35 := hb35.size
      try simp only [World.size_drew] at z35
      replace b7 := Blk.below b7 hb35 (by first | exact Nat.le_refl _ | (simp only [World.size_alloc, World.size_setCell, World.size_drew] at *; omega) | omega)
      replace HR := HR.trans (hb35.mono (by first | exact HR.size | omega))
      have zHR35 := HR.size
      refine hK35.out _ _ ?su7x35 (fun hHeld => ?ru7x35)
      case su7x35 => ((try dsimp only); exact ⟨b7.cell_ 0 rfl, b7.cell_ 1 rfl, b7.cell_ 2 rfl⟩)
      try simp only [List.setIfInBounds_toArray, List.set_cons_zero, List.set_cons_succ]
      refine take_op (v := ?vu7x36) 36 (Op.pick (Operand.tmp 141) (Operand.tmp 142) (Operand.const (Value.bool false))) 4 rfl rfl rfl rfl rfl (by kernel_rfl) (by kernel_rfl) (by kernel_rfl) (fun _ _ _ h => h) ?yu7x36 (by assumption) ?ru7x36
      case yu7x36 => (intro w' hSw; (try dsimp only at hSw); go_simp; try (with_reducible rfl))
      simp only [List.setIfInBounds_toArray, List.set_cons_zero, List.set_cons_succ]
      refine take_op (v := ?vu7x37) 37 (Op.assign (Operand.tmp 143)) 4 rfl rfl rfl rfl rfl (by kernel_rfl) (by kernel_rfl) (by kernel_rfl) (fun _ _ _ h => h) ?yu7x37 (by assumption) ?ru7x37
      case yu7x37 => (intro w' hSw; (try dsimp only at hSw); go_simp; try (with_reducible rfl))
      simp only [List.setIfInBounds_toArray, List.set_cons_zero, List.set_cons_succ]
      refine wpAnyH_done (by kernel_rfl) ?_ _
      go_wp2_with fail
      go_ret
      exact ⟨rfl, HB7.trans (HR.mono HB7.size)⟩
    · simp only [if_true, if_false, Bool.false_eq_true, Bool.and_true, Bool.and_false, Bool.or_true, Bool.or_false, Bool.and_self, Bool.or_self] at SM3 SM4
      go_wp2_with fail
      refine wp_region_held_drew (S := (fun w' => w'.cell? ⟨p0, 0, none⟩ = some (.int .i64 q) ∧ w'.cell? ⟨p0, 1, none⟩ = some (.int .i64 t) ∧ w'.cell? ⟨p0, 2, none⟩ = some (str d))) (by kernel_rfl) ?_ (fun hHeld => ?_)
      · replace b7 := Blk.drew b7; replace HR := Below.drew HR; (try dsimp only); exact ⟨b7.cell_ 0 rfl, b7.cell_ 1 rfl, b7.cell_ 2 rfl⟩
      replace b7 := Blk.drew b7
      replace HR := Below.drew HR
      have zHR := HR.size
      refine take_movev (v := ?vu8x0) 0 (Operand.tmp 17) rfl rfl (by first | exact .inl rfl | exact .inr rfl) rfl (by kernel_rfl) (by kernel_rfl) (by kernel_rfl) (fun _ _ _ h => h) (by assumption) ?yu8x0 ?ru8x0
      case yu8x0 => (go_simp; try (with_reducible rfl))
      simp only [List.setIfInBounds_toArray, List.set_cons_zero, List.set_cons_succ]
      refine take_op (v := ?vu8x1) 1 (Op.binOp BinOp.eql 24 (Operand.tmp 107) (Operand.const (Value.int IntKind.i64 0)) 24) 4 rfl rfl rfl rfl rfl (by kernel_rfl) (by kernel_rfl) (by kernel_rfl) (fun _ _ _ h => h) ?yu8x1 (by assumption) ?ru8x1
      case yu8x1 => (intro w' hSw; (try dsimp only at hSw); go_simp; try (with_reducible rfl))
      simp only [List.setIfInBounds_toArray, List.set_cons_zero, List.set_cons_succ]
      refine take_movev (v := ?vu8x2) 2 (Operand.tmp 108) rfl rfl (by first | exact .inl rfl | exact .inr rfl) rfl (by kernel_rfl) (by kernel_rfl) (by kernel_rfl) (fun _ _ _ h => h) (by assumption) ?yu8x2 ?ru8x2
      case yu8x2 => (go_simp; try (with_reducible rfl))
      simp only [List.setIfInBounds_toArray, List.set_cons_zero, List.set_cons_succ]
      refine take_movev (v := ?vu8x3) 3 (Operand.tmp 20) rfl rfl (by first | exact .inl rfl | exact .inr rfl) rfl (by kernel_rfl) (by kernel_rfl) (by kernel_rfl) (fun _ _ _ h => h) (by assumption) ?yu8x3 ?ru8x3
      case yu8x3 => (go_simp; try (with_reducible rfl))
      simp only [List.setIfInBounds_toArray, List.set_cons_zero, List.set_cons_succ]
      refine take_op (v := ?vu8x4) 4 (Op.binOp BinOp.eql 24 (Operand.tmp 110) (Operand.const (Value.int IntKind.i64 0)) 24) 4 rfl rfl rfl rfl rfl (by kernel_rfl) (by kernel_rfl) (by kernel_rfl) (fun _ _ _ h => h) ?yu8x4 (by assumption) ?ru8x4
      case yu8x4 => (intro w' hSw; (try dsimp only at hSw); go_simp; try (with_reducible rfl))
      simp only [List.setIfInBounds_toArray, List.set_cons_zero, List.set_cons_succ]
      refine take_op (v := ?vu8x5) 5 (Op.pick (Operand.tmp 109) (Operand.tmp 111) (Operand.const (Value.bool false))) 4 rfl rfl rfl rfl rfl (by kernel_rfl) (by kernel_rfl) (by kernel_rfl) (fun _ _ _ h => h) ?yu8x5 (by assumption) ?ru8x5
      case yu8x5 => (intro w' hSw; (try dsimp only at hSw); go_simp; try (with_reducible rfl))
      simp only [List.setIfInBounds_toArray, List.set_cons_zero, List.set_cons_succ]
      refine take_movev (v := ?vu8x6) 6 (Operand.tmp 112) rfl rfl (by first | exact .inl rfl | exact .inr rfl) rfl (by kernel_rfl) (by kernel_rfl) (by kernel_rfl) (fun _ _ _ h => h) (by assumption) ?yu8x6 ?ru8x6
      case yu8x6 => (go_simp; try (with_reducible rfl))
      simp only [List.setIfInBounds_toArray, List.set_cons_zero, List.set_cons_succ]
      refine take_movev (v := ?vu8x7) 7 (Operand.tmp 15) rfl rfl (by first | exact .inl rfl | exact .inr rfl) rfl (by kernel_rfl) (by kernel_rfl) (by kernel_rfl) (fun _ _ _ h => h) (by assumption) ?yu8x7 ?ru8x7
      case yu8x7 => (go_simp; try (with_reducible rfl))
      simp only [List.setIfInBounds_toArray, List.set_cons_zero, List.set_cons_succ]
      refine take_op (v := ?vu8x8) 8 (Op.load 37 (Operand.tmp 5)) 37 rfl rfl rfl rfl rfl (by kernel_rfl) (by kernel_rfl) (by kernel_rfl) (fun _ _ _ h => h) ?yu8x8 (by assumption) ?ru8x8
      case yu8x8 => (intro w' hSw; (try dsimp only at hSw); go_simp; try (with_reducible rfl))
      simp only [List.setIfInBounds_toArray, List.set_cons_zero, List.set_cons_succ]
      refine take_movev (v := ?vu8x10) 10 (Operand.tmp 7) rfl rfl (by first | exact .inl rfl | exact .inr rfl) rfl (by kernel_rfl) (by kernel_rfl) (by kernel_rfl) (fun _ _ _ h => h) (by assumption) ?yu8x10 ?ru8x10
      case yu8x10 => (go_simp; try (with_reducible rfl))
      simp only [List.setIfInBounds_toArray, List.set_cons_zero, List.set_cons_succ]
      refine take_op (v := ?vu8x11) 11 (Op.load 37 (Operand.tmp 5)) 37 rfl rfl rfl rfl rfl (by kernel_rfl) (by kernel_rfl) (by kernel_rfl) (fun _ _ _ h => h) ?yu8x11 (by assumption) ?ru8x11
      case yu8x11 => (intro w' hSw; (try dsimp only at hSw); go_simp; try (with_reducible rfl))
      simp only [List.setIfInBounds_toArray, List.set_cons_zero, List.set_cons_succ]
      refine wpAnyH_ready (rs := [9]) (by kernel_rfl) (by simp) (AllReadyH.cons rfl (fun K9 hK9 => ?ku8x9) AllReadyH.nil)
      refine take_calls 9 14 [Operand.tmp 114, Operand.tmp 115] #[23, 37] rfl rfl (by kernel_rfl) (fun args w => run_enter Tryd.func14 (by kernel_rfl) rfl args w) ?_
      refine (SM3.out _ HR).mono ?_
      rintro e w9 ⟨rfl, hb9⟩
      refine ⟨_, rfl, ?_⟩
      have z9 := hb9.size
      try simp only [World.size_drew] at z9
      replace b7 := Blk.below b7 hb9 (by first | exact Nat.le_refl _ | (simp only [World.size_alloc, World.size_setCell, World.size_drew] at *; omega) | omega)
      replace HR := HR.trans (hb9.mono (by first | exact HR.size | omega))
      have zHR9 := HR.size
      refine hK9.out _ _ ?su8x9 (fun hHeld => ?ru8x9)
      case su8x9 => ((try dsimp only); exact ⟨b7.cell_ 0 rfl, b7.cell_ 1 rfl, b7.cell_ 2 rfl⟩)
      try simp only [List.setIfInBounds_toArray, List.set_cons_zero, List.set_cons_succ]
      refine wpAnyH_ready (rs := [12]) (by kernel_rfl) (by simp) (AllReadyH.cons rfl (fun K12 hK12 => ?ku8x12) AllReadyH.nil)
      refine take_calls 12 14 [Operand.tmp 117, Operand.tmp 118] #[23, 37] rfl rfl (by kernel_rfl) (fun args w => run_enter Tryd.func14 (by kernel_rfl) rfl args w) ?_
      refine (SM1.out _ HR).mono ?_
      rintro e w12 ⟨rfl, hb12⟩
      refine ⟨_, rfl, ?_⟩
      have z12 := hb12.size
      try simp only [World.size_drew] at z12
      replace b7 := Blk.below b7 hb12 (by first | exact Nat.le_refl _ | (simp only [World.size_alloc, World.size_setCell, World.size_drew] at *; omega) | omega)
      replace HR := HR.trans (hb12.mono (by first | exact HR.size | omega))
      have zHR12 := HR.size
      refine hK12.out _ _ ?su8x12 (fun hHeld => ?ru8x12)
      case su8x12 => ((try dsimp only); exact ⟨b7.cell_ 0 rfl, b7.cell_ 1 rfl, b7.cell_ 2 rfl⟩)
      try simp only [List.setIfInBounds_toArray, List.set_cons_zero, List.set_cons_succ]
      refine take_movev (v := ?vu8x13) 13 (Operand.tmp 119) rfl rfl (by first | exact .inl rfl | exact .inr rfl) rfl (by kernel_rfl) (by kernel_rfl) (by kernel_rfl) (fun _ _ _ h => h) (by assumption) ?yu8x13 ?ru8x13
      case yu8x13 => (go_simp; try (with_reducible rfl))
      simp only [List.setIfInBounds_toArray, List.set_cons_zero, List.set_cons_succ]
      refine take_movev (v := ?vu8x14) 14 (Operand.tmp 10) rfl rfl (by first | exact .inl rfl | exact .inr rfl) rfl (by kernel_rfl) (by kernel_rfl) (by kernel_rfl) (fun _ _ _ h => h) (by assumption) ?yu8x14 ?ru8x14
      case yu8x14 => (go_simp; try (with_reducible rfl))
      simp only [List.setIfInBounds_toArray, List.set_cons_zero, List.set_cons_succ]
      refine take_op (v := ?vu8x15) 15 (Op.load 37 (Operand.tmp 5)) 37 rfl rfl rfl rfl rfl (by kernel_rfl) (by kernel_rfl) (by kernel_rfl) (fun _ _ _ h => h) ?yu8x15 (by assumption) ?ru8x15
      case yu8x15 => (intro w' hSw; (try dsimp only at hSw); go_simp; try (with_reducible rfl))
      simp only [List.setIfInBounds_toArray, List.set_cons_zero, List.set_cons_succ]
      refine wpAnyH_ready (rs := [16]) (by kernel_rfl) (by simp) (AllReadyH.cons rfl (fun K16 hK16 => ?ku8x16) AllReadyH.nil)
      refine take_calls 16 14 [Operand.tmp 121, Operand.tmp 122] #[23, 37] rfl rfl (by kernel_rfl) (fun args w => run_enter Tryd.func14 (by kernel_rfl) rfl args w) ?_
      refine (SM2.out _ HR).mono ?_
      rintro e w16 ⟨rfl, hb16⟩
      refine ⟨_, rfl, ?_⟩
      have z16 := hb16.size
      try simp only [World.size_drew] at z16
      replace b7 := Blk.below b7 hb16 (by first | exact Nat.le_refl _ | (simp only [World.size_alloc, World.size_setCell, World.size_drew] at *; omega) | omega)
      replace HR := HR.trans (hb16.mono (by first | exact HR.size | omega))
      have zHR16 := HR.size
      refine hK16.out _ _ ?su8x16 (fun hHeld => ?ru8x16)
      case su8x16 => ((try dsimp only); exact ⟨b7.cell_ 0 rfl, b7.cell_ 1 rfl, b7.cell_ 2 rfl⟩)
      try simp only [List.setIfInBounds_toArray, List.set_cons_zero, List.set_cons_succ]
      refine take_op (v := ?vu8x17) 17 (Op.pick (Operand.tmp 120) (Operand.tmp 123) (Operand.const (Value.bool false))) 4 rfl rfl rfl rfl rfl (by kernel_rfl) (by kernel_rfl) (by kernel_rfl) (fun _ _ _ h => h) ?yu8x17 (by assumption) ?ru8x17
      case yu8x17 => (intro w' hSw; (try dsimp only at hSw); go_simp; try (with_reducible rfl))
      simp only [List.setIfInBounds_toArray, List.set_cons_zero, List.set_cons_succ]
      refine take_op (v := ?vu8x18) 18 (Op.binOp BinOp.eql 4 (Operand.tmp 116) (Operand.tmp 124) 4) 4 rfl rfl rfl rfl rfl (by kernel_rfl) (by kernel_rfl) (by kernel_rfl) (fun _ _ _ h => h) ?yu8x18 (by assumption) ?ru8x18
      case yu8x18 => (intro w' hSw; (try dsimp only at hSw); go_simp; try (with_reducible rfl))
      simp only [List.setIfInBounds_toArray, List.set_cons_zero, List.set_cons_succ]
      refine take_op (v := ?vu8x19) 19 (Op.pick (Operand.tmp 113) (Operand.tmp 125) (Operand.const (Value.bool false))) 4 rfl rfl rfl rfl rfl (by kernel_rfl) (by kernel_rfl) (by kernel_rfl) (fun _ _ _ h => h) ?yu8x19 (by assumption) ?ru8x19
      case yu8x19 => (intro w' hSw; (try dsimp only at hSw); go_simp; try (with_reducible rfl))
      simp only [List.setIfInBounds_toArray, List.set_cons_zero, List.set_cons_succ]
      refine take_movev (v := ?vu8x20) 20 (Operand.tmp 126) rfl rfl (by first | exact .inl rfl | exact .inr rfl) rfl (by kernel_rfl) (by kernel_rfl) (by kernel_rfl) (fun _ _ _ h => h) (by assumption) ?yu8x20 ?ru8x20
      case yu8x20 => (go_simp; try (with_reducible rfl))
      simp only [List.setIfInBounds_toArray, List.set_cons_zero, List.set_cons_succ]
      refine take_movev (v := ?vu8x21) 21 (Operand.tmp 18) rfl rfl (by first | exact .inl rfl | exact .inr rfl) rfl (by kernel_rfl) (by kernel_rfl) (by kernel_rfl) (fun _ _ _ h => h) (by assumption) ?yu8x21 ?ru8x21
      case yu8x21 => (go_simp; try (with_reducible rfl))
      simp only [List.setIfInBounds_toArray, List.set_cons_zero, List.set_cons_succ]
      refine take_op (v := ?vu8x22) 22 (Op.load 37 (Operand.tmp 5)) 37 rfl rfl rfl rfl rfl (by kernel_rfl) (by kernel_rfl) (by kernel_rfl) (fun _ _ _ h => h) ?yu8x22 (by assumption) ?ru8x22
      case yu8x22 => (intro w' hSw; (try dsimp only at hSw); go_simp; try (with_reducible rfl))
      simp only [List.setIfInBounds_toArray, List.set_cons_zero, List.set_cons_succ]
      refine take_movev (v := ?vu8x24) 24 (Operand.tmp 7) rfl rfl (by first | exact .inl rfl | exact .inr rfl) rfl (by kernel_rfl) (by kernel_rfl) (by kernel_rfl) (fun _ _ _ h => h) (by assumption) ?yu8x24 ?ru8x24
      case yu8x24 => (go_simp; try (with_reducible rfl))
      simp only [List.setIfInBounds_toArray, List.set_cons_zero, List.set_cons_succ]
      refine take_op (v := ?vu8x25) 25 (Op.load 37 (Operand.tmp 5)) 37 rfl rfl rfl rfl rfl (by kernel_rfl) (by kernel_rfl) (by kernel_rfl) (fun _ _ _ h => h) ?yu8x25 (by assumption) ?ru8x25
      case yu8x25 => (intro w' hSw; (try dsimp only at hSw); go_simp; try (with_reducible rfl))
      simp only [List.setIfInBounds_toArray, List.set_cons_zero, List.set_cons_succ]
      refine wpAnyH_ready (rs := [23]) (by kernel_rfl) (by simp) (AllReadyH.cons rfl (fun K23 hK23 => ?ku8x23) AllReadyH.nil)
      refine take_calls 23 14 [Operand.tmp 128, Operand.tmp 129] #[23, 37] rfl rfl (by kernel_rfl) (fun args w => run_enter Tryd.func14 (by kernel_rfl) rfl args w) ?_
      refine (SM4.out _ HR).mono ?_
      rintro e w23 ⟨rfl, hb23⟩
      refine ⟨_, rfl, ?_⟩
      have z23 := hb23.size
      try simp only [World.size_drew] at z23
      replace b7 := Blk.below b7 hb23 (by first | exact Nat.le_refl _ | (simp only [World.size_alloc, World.size_setCell, World.size_drew] at *; omega) | omega)
      replace HR := HR.trans (hb23.mono (by first | exact HR.size | omega))
      have zHR23 := HR.size
      refine hK23.out _ _ ?su8x23 (fun hHeld => ?ru8x23)
      case su8x23 => ((try dsimp only); exact ⟨b7.cell_ 0 rfl, b7.cell_ 1 rfl, b7.cell_ 2 rfl⟩)
      try simp only [List.setIfInBounds_toArray, List.set_cons_zero, List.set_cons_succ]
      refine wpAnyH_ready (rs := [26]) (by kernel_rfl) (by simp) (AllReadyH.cons rfl (fun K26 hK26 => ?ku8x26) AllReadyH.nil)
      refine take_calls 26 14 [Operand.tmp 131, Operand.tmp 132] #[23, 37] rfl rfl (by kernel_rfl) (fun args w => run_enter Tryd.func14 (by kernel_rfl) rfl args w) ?_
      refine (SM1.out _ HR).mono ?_
      rintro e w26 ⟨rfl, hb26⟩
      refine ⟨_, rfl, ?_⟩
      have z26 := hb26.size
      try simp only [World.size_drew] at z26
      replace b7 := Blk.below b7 hb26 (by first | exact Nat.le_refl _ | (simp only [World.size_alloc, World.size_setCell, World.size_drew] at *; omega) | omega)
      replace HR := HR.trans (hb26.mono (by first | exact HR.size | omega))
      have zHR26 := HR.size
      refine hK26.out _ _ ?su8x26 (fun hHeld => ?ru8x26)
      case su8x26 => ((try dsimp only); exact ⟨b7.cell_ 0 rfl, b7.cell_ 1 rfl, b7.cell_ 2 rfl⟩)
      try simp only [List.setIfInBounds_toArray, List.set_cons_zero, List.set_cons_succ]
      refine take_movev (v := ?vu8x27) 27 (Operand.tmp 133) rfl rfl (by first | exact .inl rfl | exact .inr rfl) rfl (by kernel_rfl) (by kernel_rfl) (by kernel_rfl) (fun _ _ _ h => h) (by assumption) ?yu8x27 ?ru8x27
      case yu8x27 => (go_simp; try (with_reducible rfl))
      simp only [List.setIfInBounds_toArray, List.set_cons_zero, List.set_cons_succ]
      refine take_skip 28 rfl rfl rfl (by kernel_rfl) (by kernel_rfl) (by kernel_rfl) (fun _ _ _ h => h) (by assumption) ?_
      simp only [List.setIfInBounds_toArray, List.set_cons_zero, List.set_cons_succ]
      refine take_skip 29 rfl rfl rfl (by kernel_rfl) (by kernel_rfl) (by kernel_rfl) (fun _ _ _ h => h) (by assumption) ?_
      simp only [List.setIfInBounds_toArray, List.set_cons_zero, List.set_cons_succ]
      refine take_skip 30 rfl rfl rfl (by kernel_rfl) (by kernel_rfl) (by kernel_rfl) (fun _ _ _ h => h) (by assumption) ?_
      simp only [List.setIfInBounds_toArray, List.set_cons_zero, List.set_cons_succ]
      refine take_op (v := ?vu8x31) 31 (Op.pick (Operand.tmp 134) (Operand.const (Value.bool true)) (Operand.tmp 137)) 4 rfl rfl rfl rfl rfl (by kernel_rfl) (by kernel_rfl) (by kernel_rfl) (fun _ _ _ h => h) ?yu8x31 (by assumption) ?ru8x31
      case yu8x31 => (intro w' hSw; (try dsimp only at hSw); go_simp; try (with_reducible rfl))
      simp only [List.setIfInBounds_toArray, List.set_cons_zero, List.set_cons_succ]
      refine take_op (v := ?vu8x32) 32 (Op.binOp BinOp.eql 4 (Operand.tmp 130) (Operand.tmp 138) 4) 4 rfl rfl rfl rfl rfl (by kernel_rfl) (by kernel_rfl) (by kernel_rfl) (fun _ _ _ h => h) ?yu8x32 (by assumption) ?ru8x32
      case yu8x32 => (intro w' hSw; (try dsimp only at hSw); go_simp; try (with_reducible rfl))
      simp only [List.setIfInBounds_toArray, List.set_cons_zero, List.set_cons_succ]
      refine take_op (v := ?vu8x33) 33 (Op.pick (Operand.tmp 127) (Operand.tmp 139) (Operand.const (Value.bool false))) 4 rfl rfl rfl rfl rfl (by kernel_rfl) (by kernel_rfl) (by kernel_rfl) (fun _ _ _ h => h) ?yu8x33 (by assumption) ?ru8x33
      case yu8x33 => (intro w' hSw; (try dsimp only at hSw); go_simp; try (with_reducible rfl))
      simp only [List.setIfInBounds_toArray, List.set_cons_zero, List.set_cons_succ]
      refine take_movev (v := ?vu8x34) 34 (Operand.tmp 140) rfl rfl (by first | exact .inl rfl | exact .inr rfl) rfl (by kernel_rfl) (by kernel_rfl) (by kernel_rfl) (fun _ _ _ h => h) (by assumption) ?yu8x34 ?ru8x34
      case yu8x34 => (go_simp; try (with_reducible rfl))
      simp only [List.setIfInBounds_toArray, List.set_cons_zero, List.set_cons_succ]
      refine wpAnyH_ready (rs := [35]) (by kernel_rfl) (by simp) (AllReadyH.cons rfl (fun K35 hK35 => ?ku8x35) AllReadyH.nil)
      refine take_calls 35 7 [] #[] rfl rfl (by kernel_rfl) (fun args w => run_enter Tryd.func7 (by kernel_rfl) rfl args w) ?_
      refine (HAW.out _ HR).mono ?_
      rintro e w35 ⟨rfl, hb35⟩
      refine ⟨_, rfl, ?_⟩
      have z35 := hb35.size
      try simp only [World.size_drew] at z35
      replace b7 := Blk.below b7 hb35 (by first | exact Nat.le_refl _ | (simp only [World.size_alloc, World.size_setCell, World.size_drew] at *; omega) | omega)
      replace HR := HR.trans (hb35.mono (by first | exact HR.size | omega))
      have zHR35 := HR.size
      refine hK35.out _ _ ?su8x35 (fun hHeld => ?ru8x35)
      case su8x35 => ((try dsimp only); exact ⟨b7.cell_ 0 rfl, b7.cell_ 1 rfl, b7.cell_ 2 rfl⟩)
      try simp only [List.setIfInBounds_toArray, List.set_cons_zero, List.set_cons_succ]
      refine take_op (v := ?vu8x36) 36 (Op.pick (Operand.tmp 141) (Operand.tmp 142) (Operand.const (Value.bool false))) 4 rfl rfl rfl rfl rfl (by kernel_rfl) (by kernel_rfl) (by kernel_rfl) (fun _ _ _ h => h) ?yu8x36 (by assumption) ?ru8x36
      case yu8x36 => (intro w' hSw; (try dsimp only at hSw); go_simp; try (with_reducible rfl))
      simp only [List.setIfInBounds_toArray, List.set_cons_zero, List.set_cons_succ]
      refine take_op (v := ?vu8x37) 37 (Op.assign (Operand.tmp 143)) 4 rfl rfl rfl rfl rfl (by kernel_rfl) (by kernel_rfl) (by kernel_rfl) (fun _ _ _ h => h) ?yu8x37 (by assumption) ?ru8x37
      case yu8x37 => (intro w' hSw; (try dsimp only at hSw); go_simp; try (with_reducible rfl))
      simp only [List.setIfInBounds_toArray, List.set_cons_zero, List.set_cons_succ]
      refine wpAnyH_done (by kernel_rfl) ?_ _
      go_wp2_with fail
      go_ret
      exact ⟨rfl, HB7.trans (HR.mono HB7.size)⟩
end SieW
end Go.Proofs.YtdeiehgghhiijaaDoor

namespace Go.Proofs.YtdeiehgghhiijaaDoor
set_option linter.unusedVariables false
set_option linter.unusedSimpArgs false
set_option linter.unnecessarySimpa false
open Go.RowKit
namespace SieW

set_option maxRecDepth 100000 in
set_option maxHeartbeats 16000000 in
theorem back_law (s : List UInt8) (q t : Int) (d : List UInt8) (w : World) (hW : WanW.Wo w) :
    Calls Tryd.prog 5 #[str s, rcv q t d] w fun e w' => e = .returned (.bool true) ∧ Below w.heap.size w w' := by
  have HB1 := (Below.refl w.heap.size w).alloc (Nat.le_refl _) (.cells #[.int .i64 q, .int .i64 t, str d] 37)
  have b1 := Blk.new w 37 #[.int .i64 q, .int .i64 t, str d]
  obtain ⟨p0, hp0⟩ : ∃ p, w.heap.size = p := ⟨_, rfl⟩
  obtain ⟨w1, hw1⟩ : ∃ w1, w.alloc (.cells #[.int .i64 q, .int .i64 t, str d] 37) = w1 := ⟨_, rfl⟩
  have hW1 := hW.below HB1
  rw [hw1] at HB1 b1 hW1
  rw [hp0] at b1
  obtain ⟨c0, c1, c2, _⟩ := blk3 b1
  have hH1 := HB1.size
  have HA := Lib.hid (fun w h => sawake_any w h)
  by_cases hl : 1000 < s.length
  · have hI : (1000 : Int) < (s.length : Int) := by omega
    clear hl
    go_enter Tryd.func5, Tryd.ntmps5
    go_wp2_with fail
    refine (HA.out _ hW1).mono ?_
    rintro e w2 ⟨rfl, hb1⟩
    go_wp2_with fail
    go_ret
    exact ⟨rfl, HB1.trans (hb1.mono hH1)⟩
  have hI : ¬ (1000 : Int) < (s.length : Int) := by omega
  by_cases hd : 1000 < d.length
  · have hdI : (1000 : Int) < (d.length : Int) := by omega
    clear hl hd
    go_enter Tryd.func5, Tryd.ntmps5
    go_wp2_with fail
    refine (HA.out _ hW1).mono ?_
    rintro e w2 ⟨rfl, hb1⟩
    go_wp2_with fail
    go_ret
    exact ⟨rfl, HB1.trans (hb1.mono hH1)⟩
  have hdI : ¬ (1000 : Int) < (d.length : Int) := by omega
  obtain ⟨⟨r1, p1, e1⟩, h1⟩ : ∃ r, parseP s = r := ⟨_, rfl⟩
  have hd1 : d.length ≤ 100000 := by omega
  cases r1 with
  | none =>
    have he : ¬ e1 = 0 := by rcases parse_err h1 with h | h <;> omega
    have C1 := parse_no_any h1 w1 hW1 (by omega)
    clear h1 hl hd
    go_enter Tryd.func5, Tryd.ntmps5
    go_wp2_with fail
    refine C1.mono ?_
    clear C1
    rintro e w2 ⟨rfl, hb2⟩
    have HB2 := HB1.trans (hb2.mono hH1)
    have hW2 := hW1.below hb2
    clear hb2 HB1
    go_wp2_with fail
    refine (HA.out w2 hW2).mono ?_
    rintro e w4 ⟨rfl, hb4⟩
    go_wp2_with fail
    go_ret
    exact ⟨rfl, HB2.trans (hb4.mono HB2.size)⟩
  | some nz1 =>
  obtain ⟨n1, z1⟩ := nz1
  obtain rfl := parse_fine h1
  have C1 := parse_sv_any h1 w1 hW1 (by omega)
  obtain ⟨t1, ht1⟩ : ∃ t, shN 0 n1 = t := ⟨_, rfl⟩
  by_cases hL : 1000 < t1.length
  · have hLI : (1000 : Int) < (t1.length : Int) := by omega
    clear h1 hl hd hL
    go_enter Tryd.func5, Tryd.ntmps5
    go_wp2_with fail
    refine C1.mono ?_
    clear C1
    rintro e w2 ⟨g1, rfl, SA2, hb2⟩
    have HB2 := HB1.trans (hb2.mono hH1)
    have hW2 := hW1.below hb2
    clear hb2 HB1
    go_wp2_with fail
    refine (show_yes w2 g1 n1 z1 SA2 hW2 t1 ht1).mono ?_
    rintro e w3 ⟨rfl, hb3⟩
    have HB3 := HB2.trans (hb3.mono HB2.size)
    have hW3 := hW2.below hb3
    clear ht1 SA2
    go_wp2_with fail
    refine (HA.out w3 hW3).mono ?_
    rintro e w4 ⟨rfl, hb4⟩
    go_wp2_with fail
    go_ret
    exact ⟨rfl, HB3.trans (hb4.mono HB3.size)⟩
  have hLI : ¬ (1000 : Int) < (t1.length : Int) := by omega
  have h2 : parseP t1 = (some (n1, z1), (t1.length : Int), 0) := by rw [← ht1]; exact parse_show h1 (by rw [ht1]; omega)
  have HC2 := Lib.hid (fun w h => parse_sv_any h2 w h (by omega))
  have HT := Lib.hid ht1
  obtain ⟨y1, hy1⟩ : ∃ y, meetN q t d n1 = y := ⟨_, rfl⟩
  clear h1 h2 hl hd hL ht1
  go_enter Tryd.func5, Tryd.ntmps5
  go_wp2_with fail
  refine C1.mono ?_
  clear C1
  rintro e w2 ⟨g1, rfl, SA2, hb2⟩
  have HB2 := HB1.trans (hb2.mono hH1)
  have hW2 := hW1.below hb2
  have b2 := b1.below hb2 b1.lt
  clear c0 c1 c2 hb2 HB1 b1
  go_wp2_with fail
  refine (show_yes w2 g1 n1 z1 SA2 hW2 t1 HT.out).mono ?_
  rintro e w3 ⟨rfl, hb3⟩
  have HB3 := HB2.trans (hb3.mono HB2.size)
  have hW3 := hW2.below hb3
  have SA3 := SA2.below hb3
  have b3 := b2.below hb3 b2.lt
  clear hb3 HB2 b2 SA2
  go_wp2_with fail
  refine (HC2.out w3 hW3).mono ?_
  rintro e w4 ⟨g2, rfl, SB4, hb4⟩
  have HB4 := HB3.trans (hb4.mono HB3.size)
  have hW4 := hW3.below hb4
  have SA4 := SA3.below hb4
  have b4 := b3.below hb4 b3.lt
  clear hb4 HB3 b3 SA3
  have HS := Lib.hid (fun w' hb => show_yes w' g2 n1 z1 (SB4.below (w' := w') hb) (hW4.below hb) t1 HT.out)
  have HZ2 := Lib.hid (fun w' hb => size_yes w' g2 n1 z1 (SB4.below (w' := w') hb))
  have HZ1 := Lib.hid (fun w' hb => size_yes w' g1 n1 z1 (SA4.below (w' := w') hb))
  have HM2 := Lib.hid (fun w' hb => Meets_yes w' g2 n1 z1 (SB4.below (w' := w') hb) q t d hd1 y1 hy1)
  have HM1 := Lib.hid (fun w' hb => Meets_yes w' g1 n1 z1 (SA4.below (w' := w') hb) q t d hd1 y1 hy1)
  have HAW := Lib.hid (fun w' hb => sawake_any w' (hW4.below (w' := w') hb))
  clear hy1 SB4 SA4 HT
  have HR := Below.refl w4.heap.size w4
  have hlt4 := b4.lt
  have hyy : (y1 == y1) = true := beq_self_eq_true _
  go_wp2_with fail
  refine wp_region_held_drew (S := (fun w' => w'.cell? ⟨p0, 0, none⟩ = some (.int .i64 q) ∧ w'.cell? ⟨p0, 1, none⟩ = some (.int .i64 t) ∧ w'.cell? ⟨p0, 2, none⟩ = some (str d))) (by kernel_rfl) ?_ (fun hHeld => ?_)
  · replace b4 := Blk.drew b4; replace HR := Below.drew HR; (try dsimp only); exact ⟨b4.cell_ 0 rfl, b4.cell_ 1 rfl, b4.cell_ 2 rfl⟩
  replace b4 := Blk.drew b4
  replace HR := Below.drew HR
  have zHR := HR.size
  refine take_movev (v := ?vu9x0) 0 (Operand.tmp 11) rfl rfl (by first | exact .inl rfl | exact .inr rfl) rfl (by kernel_rfl) (by kernel_rfl) (by kernel_rfl) (fun _ _ _ h => h) (by assumption) ?yu9x0 ?ru9x0
  case yu9x0 => (go_simp; try (with_reducible rfl))
  simp only [List.setIfInBounds_toArray, List.set_cons_zero, List.set_cons_succ]
  refine take_op (v := ?vu9x1) 1 (Op.binOp BinOp.eql 24 (Operand.tmp 47) (Operand.const (Value.int IntKind.i64 0)) 24) 4 rfl rfl rfl rfl rfl (by kernel_rfl) (by kernel_rfl) (by kernel_rfl) (fun _ _ _ h => h) ?yu9x1 (by assumption) ?ru9x1
  case yu9x1 => (intro w' hSw; (try dsimp only at hSw); go_simp; try (with_reducible rfl))
  simp only [List.setIfInBounds_toArray, List.set_cons_zero, List.set_cons_succ]
  refine take_movev (v := ?vu9x2) 2 (Operand.tmp 48) rfl rfl (by first | exact .inl rfl | exact .inr rfl) rfl (by kernel_rfl) (by kernel_rfl) (by kernel_rfl) (fun _ _ _ h => h) (by assumption) ?yu9x2 ?ru9x2
  case yu9x2 => (go_simp; try (with_reducible rfl))
  simp only [List.setIfInBounds_toArray, List.set_cons_zero, List.set_cons_succ]
  refine take_movev (v := ?vu9x3) 3 (Operand.tmp 10) rfl rfl (by first | exact .inl rfl | exact .inr rfl) rfl (by kernel_rfl) (by kernel_rfl) (by kernel_rfl) (fun _ _ _ h => h) (by assumption) ?yu9x3 ?ru9x3
  case yu9x3 => (go_simp; try (with_reducible rfl))
  simp only [List.setIfInBounds_toArray, List.set_cons_zero, List.set_cons_succ]
  refine take_movev (v := ?vu9x4) 4 (Operand.tmp 8) rfl rfl (by first | exact .inl rfl | exact .inr rfl) rfl (by kernel_rfl) (by kernel_rfl) (by kernel_rfl) (fun _ _ _ h => h) (by assumption) ?yu9x4 ?ru9x4
  case yu9x4 => (go_simp; try (with_reducible rfl))
  simp only [List.setIfInBounds_toArray, List.set_cons_zero, List.set_cons_succ]
  refine take_op (v := ?vu9x5) 5 (Op.call { callee := Callee.builtin Builtin.len, args := #[Operand.tmp 51], argTypes := #[9] }) 3 rfl rfl rfl rfl rfl (by kernel_rfl) (by kernel_rfl) (by kernel_rfl) (fun _ _ _ h => h) ?yu9x5 (by assumption) ?ru9x5
  case yu9x5 => (intro w' hSw; (try dsimp only at hSw); go_simp; try (with_reducible rfl))
  simp only [List.setIfInBounds_toArray, List.set_cons_zero, List.set_cons_succ]
  refine take_op (v := ?vu9x6) 6 (Op.binOp BinOp.eql 3 (Operand.tmp 50) (Operand.tmp 52) 3) 4 rfl rfl rfl rfl rfl (by kernel_rfl) (by kernel_rfl) (by kernel_rfl) (fun _ _ _ h => h) ?yu9x6 (by assumption) ?ru9x6
  case yu9x6 => (intro w' hSw; (try dsimp only at hSw); go_simp; try (with_reducible rfl))
  simp only [List.setIfInBounds_toArray, List.set_cons_zero, List.set_cons_succ]
  refine take_op (v := ?vu9x7) 7 (Op.pick (Operand.tmp 49) (Operand.tmp 53) (Operand.const (Value.bool false))) 4 rfl rfl rfl rfl rfl (by kernel_rfl) (by kernel_rfl) (by kernel_rfl) (fun _ _ _ h => h) ?yu9x7 (by assumption) ?ru9x7
  case yu9x7 => (intro w' hSw; (try dsimp only at hSw); go_simp; try (with_reducible rfl))
  simp only [List.setIfInBounds_toArray, List.set_cons_zero, List.set_cons_succ]
  refine take_movev (v := ?vu9x8) 8 (Operand.tmp 54) rfl rfl (by first | exact .inl rfl | exact .inr rfl) rfl (by kernel_rfl) (by kernel_rfl) (by kernel_rfl) (fun _ _ _ h => h) (by assumption) ?yu9x8 ?ru9x8
  case yu9x8 => (go_simp; try (with_reducible rfl))
  simp only [List.setIfInBounds_toArray, List.set_cons_zero, List.set_cons_succ]
  refine take_movev (v := ?vu9x9) 9 (Operand.tmp 9) rfl rfl (by first | exact .inl rfl | exact .inr rfl) rfl (by kernel_rfl) (by kernel_rfl) (by kernel_rfl) (fun _ _ _ h => h) (by assumption) ?yu9x9 ?ru9x9
  case yu9x9 => (go_simp; try (with_reducible rfl))
  simp only [List.setIfInBounds_toArray, List.set_cons_zero, List.set_cons_succ]
  refine take_movev (v := ?vu9x11) 11 (Operand.tmp 8) rfl rfl (by first | exact .inl rfl | exact .inr rfl) rfl (by kernel_rfl) (by kernel_rfl) (by kernel_rfl) (fun _ _ _ h => h) (by assumption) ?yu9x11 ?ru9x11
  case yu9x11 => (go_simp; try (with_reducible rfl))
  simp only [List.setIfInBounds_toArray, List.set_cons_zero, List.set_cons_succ]
  refine wpAnyH_ready (rs := [10]) (by kernel_rfl) (by simp) (AllReadyH.cons rfl (fun K10 hK10 => ?ku9x10) AllReadyH.nil)
  refine take_calls 10 10 [Operand.tmp 56] #[23] rfl rfl (by kernel_rfl) (fun args w => run_enter Tryd.func10 (by kernel_rfl) rfl args w) ?_
  refine (HS.out _ HR).mono ?_
  rintro e w10 ⟨rfl, hb10⟩
  refine ⟨_, rfl, ?_⟩
  have z10 := hb10.size
  try simp only [World.size_drew] at z10
  replace b4 := Blk.below b4 hb10 (by first | exact Nat.le_refl _ | (simp only [World.size_alloc, World.size_setCell, World.size_drew] at *; omega) | omega)
  replace HR := HR.trans (hb10.mono (by first | exact HR.size | omega))
  have zHR10 := HR.size
  refine hK10.out _ _ ?su9x10 (fun hHeld => ?ru9x10)
  case su9x10 => ((try dsimp only); exact ⟨b4.cell_ 0 rfl, b4.cell_ 1 rfl, b4.cell_ 2 rfl⟩)
  try simp only [List.setIfInBounds_toArray, List.set_cons_zero, List.set_cons_succ]
  refine take_op (v := ?vu9x12) 12 (Op.binOp BinOp.eql 9 (Operand.tmp 57) (Operand.tmp 58) 9) 4 rfl rfl rfl rfl rfl (by kernel_rfl) (by kernel_rfl) (by kernel_rfl) (fun _ _ _ h => h) ?yu9x12 (by assumption) ?ru9x12
  case yu9x12 => (intro w' hSw; (try dsimp only at hSw); go_simp; try (with_reducible rfl))
  simp only [List.setIfInBounds_toArray, List.set_cons_zero, List.set_cons_succ]
  refine take_op (v := ?vu9x13) 13 (Op.pick (Operand.tmp 55) (Operand.tmp 59) (Operand.const (Value.bool false))) 4 rfl rfl rfl rfl rfl (by kernel_rfl) (by kernel_rfl) (by kernel_rfl) (fun _ _ _ h => h) ?yu9x13 (by assumption) ?ru9x13
  case yu9x13 => (intro w' hSw; (try dsimp only at hSw); go_simp; try (with_reducible rfl))
  simp only [List.setIfInBounds_toArray, List.set_cons_zero, List.set_cons_succ]
  refine take_movev (v := ?vu9x14) 14 (Operand.tmp 60) rfl rfl (by first | exact .inl rfl | exact .inr rfl) rfl (by kernel_rfl) (by kernel_rfl) (by kernel_rfl) (fun _ _ _ h => h) (by assumption) ?yu9x14 ?ru9x14
  case yu9x14 => (go_simp; try (with_reducible rfl))
  simp only [List.setIfInBounds_toArray, List.set_cons_zero, List.set_cons_succ]
  refine take_movev (v := ?vu9x15) 15 (Operand.tmp 9) rfl rfl (by first | exact .inl rfl | exact .inr rfl) rfl (by kernel_rfl) (by kernel_rfl) (by kernel_rfl) (fun _ _ _ h => h) (by assumption) ?yu9x15 ?ru9x15
  case yu9x15 => (go_simp; try (with_reducible rfl))
  simp only [List.setIfInBounds_toArray, List.set_cons_zero, List.set_cons_succ]
  refine take_movev (v := ?vu9x17) 17 (Operand.tmp 5) rfl rfl (by first | exact .inl rfl | exact .inr rfl) rfl (by kernel_rfl) (by kernel_rfl) (by kernel_rfl) (fun _ _ _ h => h) (by assumption) ?yu9x17 ?ru9x17
  case yu9x17 => (go_simp; try (with_reducible rfl))
  simp only [List.setIfInBounds_toArray, List.set_cons_zero, List.set_cons_succ]
  refine wpAnyH_ready (rs := [16]) (by kernel_rfl) (by simp) (AllReadyH.cons rfl (fun K16 hK16 => ?ku9x16) AllReadyH.nil)
  refine take_calls 16 12 [Operand.tmp 62] #[23] rfl rfl (by kernel_rfl) (fun args w => run_enter Tryd.func12 (by kernel_rfl) rfl args w) ?_
  refine (HZ2.out _ HR).mono ?_
  rintro e w16 ⟨rfl, hb16⟩
  refine ⟨_, rfl, ?_⟩
  have z16 := hb16.size
  try simp only [World.size_drew] at z16
  replace b4 := Blk.below b4 hb16 (by first | exact Nat.le_refl _ | (simp only [World.size_alloc, World.size_setCell, World.size_drew] at *; omega) | omega)
  replace HR := HR.trans (hb16.mono (by first | exact HR.size | omega))
  have zHR16 := HR.size
  refine hK16.out _ _ ?su9x16 (fun hHeld => ?ru9x16)
  case su9x16 => ((try dsimp only); exact ⟨b4.cell_ 0 rfl, b4.cell_ 1 rfl, b4.cell_ 2 rfl⟩)
  try simp only [List.setIfInBounds_toArray, List.set_cons_zero, List.set_cons_succ]
  refine wpAnyH_ready (rs := [18]) (by kernel_rfl) (by simp) (AllReadyH.cons rfl (fun K18 hK18 => ?ku9x18) AllReadyH.nil)
  refine take_calls 18 12 [Operand.tmp 64] #[23] rfl rfl (by kernel_rfl) (fun args w => run_enter Tryd.func12 (by kernel_rfl) rfl args w) ?_
  refine (HZ1.out _ HR).mono ?_
  rintro e w18 ⟨rfl, hb18⟩
  refine ⟨_, rfl, ?_⟩
  have z18 := hb18.size
  try simp only [World.size_drew] at z18
  replace b4 := Blk.below b4 hb18 (by first | exact Nat.le_refl _ | (simp only [World.size_alloc, World.size_setCell, World.size_drew] at *; omega) | omega)
  replace HR := HR.trans (hb18.mono (by first | exact HR.size | omega))
  have zHR18 := HR.size
  refine hK18.out _ _ ?su9x18 (fun hHeld => ?ru9x18)
  case su9x18 => ((try dsimp only); exact ⟨b4.cell_ 0 rfl, b4.cell_ 1 rfl, b4.cell_ 2 rfl⟩)
  try simp only [List.setIfInBounds_toArray, List.set_cons_zero, List.set_cons_succ]
  refine take_op (v := ?vu9x19) 19 (Op.binOp BinOp.eql 3 (Operand.tmp 63) (Operand.tmp 65) 3) 4 rfl rfl rfl rfl rfl (by kernel_rfl) (by kernel_rfl) (by kernel_rfl) (fun _ _ _ h => h) ?yu9x19 (by assumption) ?ru9x19
  case yu9x19 => (intro w' hSw; (try dsimp only at hSw); go_simp; try (with_reducible rfl))
  simp only [List.setIfInBounds_toArray, List.set_cons_zero, List.set_cons_succ]
  refine take_op (v := ?vu9x20) 20 (Op.pick (Operand.tmp 61) (Operand.tmp 66) (Operand.const (Value.bool false))) 4 rfl rfl rfl rfl rfl (by kernel_rfl) (by kernel_rfl) (by kernel_rfl) (fun _ _ _ h => h) ?yu9x20 (by assumption) ?ru9x20
  case yu9x20 => (intro w' hSw; (try dsimp only at hSw); go_simp; try (with_reducible rfl))
  simp only [List.setIfInBounds_toArray, List.set_cons_zero, List.set_cons_succ]
  refine take_movev (v := ?vu9x21) 21 (Operand.tmp 67) rfl rfl (by first | exact .inl rfl | exact .inr rfl) rfl (by kernel_rfl) (by kernel_rfl) (by kernel_rfl) (fun _ _ _ h => h) (by assumption) ?yu9x21 ?ru9x21
  case yu9x21 => (go_simp; try (with_reducible rfl))
  simp only [List.setIfInBounds_toArray, List.set_cons_zero, List.set_cons_succ]
  refine take_movev (v := ?vu9x22) 22 (Operand.tmp 9) rfl rfl (by first | exact .inl rfl | exact .inr rfl) rfl (by kernel_rfl) (by kernel_rfl) (by kernel_rfl) (fun _ _ _ h => h) (by assumption) ?yu9x22 ?ru9x22
  case yu9x22 => (go_simp; try (with_reducible rfl))
  simp only [List.setIfInBounds_toArray, List.set_cons_zero, List.set_cons_succ]
  refine take_op (v := ?vu9x23) 23 (Op.load 37 (Operand.tmp 3)) 37 rfl rfl rfl rfl rfl (by kernel_rfl) (by kernel_rfl) (by kernel_rfl) (fun _ _ _ h => h) ?yu9x23 (by assumption) ?ru9x23
  case yu9x23 => (intro w' hSw; (try dsimp only at hSw); go_simp; try (with_reducible rfl))
  simp only [List.setIfInBounds_toArray, List.set_cons_zero, List.set_cons_succ]
  refine take_movev (v := ?vu9x25) 25 (Operand.tmp 5) rfl rfl (by first | exact .inl rfl | exact .inr rfl) rfl (by kernel_rfl) (by kernel_rfl) (by kernel_rfl) (fun _ _ _ h => h) (by assumption) ?yu9x25 ?ru9x25
  case yu9x25 => (go_simp; try (with_reducible rfl))
  simp only [List.setIfInBounds_toArray, List.set_cons_zero, List.set_cons_succ]
  refine take_op (v := ?vu9x26) 26 (Op.load 37 (Operand.tmp 3)) 37 rfl rfl rfl rfl rfl (by kernel_rfl) (by kernel_rfl) (by kernel_rfl) (fun _ _ _ h => h) ?yu9x26 (by assumption) ?ru9x26
  case yu9x26 => (intro w' hSw; (try dsimp only at hSw); go_simp; try (with_reducible rfl))
  simp only [List.setIfInBounds_toArray, List.set_cons_zero, List.set_cons_succ]
  refine wpAnyH_ready (rs := [24]) (by kernel_rfl) (by simp) (AllReadyH.cons rfl (fun K24 hK24 => ?ku9x24) AllReadyH.nil)
  refine take_calls 24 14 [Operand.tmp 69, Operand.tmp 70] #[23, 37] rfl rfl (by kernel_rfl) (fun args w => run_enter Tryd.func14 (by kernel_rfl) rfl args w) ?_
  refine (HM2.out _ HR).mono ?_
  rintro e w24 ⟨rfl, hb24⟩
  refine ⟨_, rfl, ?_⟩
  have z24 := hb24.size
  try simp only [World.size_drew] at z24
  replace b4 := Blk.below b4 hb24 (by first | exact Nat.le_refl _ | (simp only [World.size_alloc, World.size_setCell, World.size_drew] at *; omega) | omega)
  replace HR := HR.trans (hb24.mono (by first | exact HR.size | omega))
  have zHR24 := HR.size
  refine hK24.out _ _ ?su9x24 (fun hHeld => ?ru9x24)
  case su9x24 => ((try dsimp only); exact ⟨b4.cell_ 0 rfl, b4.cell_ 1 rfl, b4.cell_ 2 rfl⟩)
  try simp only [List.setIfInBounds_toArray, List.set_cons_zero, List.set_cons_succ]
  refine wpAnyH_ready (rs := [27]) (by kernel_rfl) (by simp) (AllReadyH.cons rfl (fun K27 hK27 => ?ku9x27) AllReadyH.nil)
  refine take_calls 27 14 [Operand.tmp 72, Operand.tmp 73] #[23, 37] rfl rfl (by kernel_rfl) (fun args w => run_enter Tryd.func14 (by kernel_rfl) rfl args w) ?_
  refine (HM1.out _ HR).mono ?_
  rintro e w27 ⟨rfl, hb27⟩
  refine ⟨_, rfl, ?_⟩
  have z27 := hb27.size
  try simp only [World.size_drew] at z27
  replace b4 := Blk.below b4 hb27 (by first | exact Nat.le_refl _ | (simp only [World.size_alloc, World.size_setCell, World.size_drew] at *; omega) | omega)
  replace HR := HR.trans (hb27.mono (by first | exact HR.size | omega))
  have zHR27 := HR.size
  refine hK27.out _ _ ?su9x27 (fun hHeld => ?ru9x27)
  case su9x27 => ((try dsimp only); exact ⟨b4.cell_ 0 rfl, b4.cell_ 1 rfl, b4.cell_ 2 rfl⟩)
  try simp only [List.setIfInBounds_toArray, List.set_cons_zero, List.set_cons_succ]
  refine take_op (v := ?vu9x28) 28 (Op.binOp BinOp.eql 4 (Operand.tmp 71) (Operand.tmp 74) 4) 4 rfl rfl rfl rfl rfl (by kernel_rfl) (by kernel_rfl) (by kernel_rfl) (fun _ _ _ h => h) ?yu9x28 (by assumption) ?ru9x28
  case yu9x28 => (intro w' hSw; (try dsimp only at hSw); go_simp; try (with_reducible rfl))
  simp only [List.setIfInBounds_toArray, List.set_cons_zero, List.set_cons_succ]
  refine take_op (v := ?vu9x29) 29 (Op.pick (Operand.tmp 68) (Operand.tmp 75) (Operand.const (Value.bool false))) 4 rfl rfl rfl rfl rfl (by kernel_rfl) (by kernel_rfl) (by kernel_rfl) (fun _ _ _ h => h) ?yu9x29 (by assumption) ?ru9x29
  case yu9x29 => (intro w' hSw; (try dsimp only at hSw); go_simp; try (with_reducible rfl))
  simp only [List.setIfInBounds_toArray, List.set_cons_zero, List.set_cons_succ]
  refine take_movev (v := ?vu9x30) 30 (Operand.tmp 76) rfl rfl (by first | exact .inl rfl | exact .inr rfl) rfl (by kernel_rfl) (by kernel_rfl) (by kernel_rfl) (fun _ _ _ h => h) (by assumption) ?yu9x30 ?ru9x30
  case yu9x30 => (go_simp; try (with_reducible rfl))
  simp only [List.setIfInBounds_toArray, List.set_cons_zero, List.set_cons_succ]
  refine wpAnyH_ready (rs := [31]) (by kernel_rfl) (by simp) (AllReadyH.cons rfl (fun K31 hK31 => ?ku9x31) AllReadyH.nil)
  refine take_calls 31 7 [] #[] rfl rfl (by kernel_rfl) (fun args w => run_enter Tryd.func7 (by kernel_rfl) rfl args w) ?_
  refine (HAW.out _ HR).mono ?_
  rintro e w31 ⟨rfl, hb31⟩
  refine ⟨_, rfl, ?_⟩
  have z31 := hb31.size
  try simp only [World.size_drew] at z31
  replace b4 := Blk.below b4 hb31 (by first | exact Nat.le_refl _ | (simp only [World.size_alloc, World.size_setCell, World.size_drew] at *; omega) | omega)
  replace HR := HR.trans (hb31.mono (by first | exact HR.size | omega))
  have zHR31 := HR.size
  refine hK31.out _ _ ?su9x31 (fun hHeld => ?ru9x31)
  case su9x31 => ((try dsimp only); exact ⟨b4.cell_ 0 rfl, b4.cell_ 1 rfl, b4.cell_ 2 rfl⟩)
  try simp only [List.setIfInBounds_toArray, List.set_cons_zero, List.set_cons_succ]
  refine take_op (v := ?vu9x32) 32 (Op.pick (Operand.tmp 77) (Operand.tmp 78) (Operand.const (Value.bool false))) 4 rfl rfl rfl rfl rfl (by kernel_rfl) (by kernel_rfl) (by kernel_rfl) (fun _ _ _ h => h) ?yu9x32 (by assumption) ?ru9x32
  case yu9x32 => (intro w' hSw; (try dsimp only at hSw); go_simp; try (with_reducible rfl))
  simp only [List.setIfInBounds_toArray, List.set_cons_zero, List.set_cons_succ]
  refine take_op (v := ?vu9x33) 33 (Op.assign (Operand.tmp 79)) 4 rfl rfl rfl rfl rfl (by kernel_rfl) (by kernel_rfl) (by kernel_rfl) (fun _ _ _ h => h) ?yu9x33 (by assumption) ?ru9x33
  case yu9x33 => (intro w' hSw; (try dsimp only at hSw); go_simp; try (with_reducible rfl))
  simp only [List.setIfInBounds_toArray, List.set_cons_zero, List.set_cons_succ]
  refine wpAnyH_done (by kernel_rfl) ?_ _
  go_wp2_with fail
  go_ret
  exact ⟨rfl, HB4.trans (HR.mono HB4.size)⟩
end SieW
end Go.Proofs.YtdeiehgghhiijaaDoor
