/- The walks of canon's reference: a symbol is got, symbols are packed. -/
import Derived.Test.YtedoeplhjmkllaaCanS
namespace Go.Proofs.Ytedoeplhjmkllaa
set_option linter.unusedVariables false
set_option linter.unusedSimpArgs false
set_option linter.unnecessarySimpa false
open Go.RowKit
namespace LenW
open BitW (bc bc_app bc_one bc_len El_int2 refText_any rd_bclen refBits_any)

/-- The reference's getting: f symbols from s on. -/
def rgo (l : List Int) (L : List Nat) : Nat → Nat → Int → Int × Nat × Int
  | 0, _, e => (0, 0, e)
  | f + 1, s, e => if (wordV l s).2 = 0 then (if (begF L (dgs l s)).2 = true then ((s : Int), (dgs l s).length, 0) else rgo l L f (s + 1) (if (begF L (dgs l s)).1 = true then 4 else e)) else rgo l L f (s + 1) e
def refC (l : List Int) (L : List Nat) : Int × Nat × Int := rgo l L l.length 0 (if L.length = 0 then 4 else 40)
theorem wordsF_len (l : List Int) : (wordsF l).length = l.length := by simp [wordsF]
set_option maxRecDepth 100000 in
set_option maxHeartbeats 4000000 in
theorem refGet_any (A A2 : Option Addr) (n c n2 c2 : Nat) (l : List Int) (hk : chkL l = 0) (L : List Nat) (p : Nat) (w : World) (h : Rd w w.heap.size 2 A n (fcells (wordsF l))) (h2 : Rd w w.heap.size 1 A2 n2 (bc L)) (hn2 : n2 ≤ 1000000) (hp : p ≤ n2) (v : Int × Nat × Int) (hv : refC l (L.drop p) = v) :
    Calls Try.prog 43 #[.slice A n c, .slice A2 n2 c2, .int .i64 p] w fun e w' => e = .returned (.tuple #[.int .i64 v.1, .int .i64 v.2.1, .int .i64 v.2.2]) ∧ Below w.heap.size w w' := by
  have hl : l.length = n := by have := rd_flen h; rwa [wordsF_len] at this
  have hl2 := rd_bclen h2
  obtain ⟨h257, _, _⟩ := chk0 hk
  have hn : n ≤ 257 := by omega
  have HK := Lib.hid hk
  obtain ⟨e0, he0⟩ : ∃ e0 : Int, (if p = n2 then 4 else 40) = e0 := ⟨_, rfl⟩
  have HV := Lib.hid (show rgo l (L.drop p) (n - 0) 0 e0 = v by
    rw [← hv, ← he0]; unfold refC; rw [hl, List.length_drop]
    by_cases hpn : p = n2
    · rw [if_pos hpn, if_pos (by omega)]; rfl
    · rw [if_neg hpn, if_neg (by omega)]; rfl)
  clear hv hk
  have HE : ∀ (Q : Prop), ((p = n2 ∧ e0 = 4) → Q) → ((¬ p = n2 ∧ e0 = 40) → Q) → Q := by
    intro Q q1 q2
    by_cases hpn : p = n2
    · rw [if_pos hpn] at he0; exact q1 ⟨hpn, he0.symm⟩
    · rw [if_neg hpn] at he0; exact q2 ⟨hpn, he0.symm⟩
  clear he0
  apply HE
  · rintro ⟨hpn, rfl⟩
    clear HE
    have hpnI : ((p : Int) == (n2 : Int)) = true := by simp; omega
    clear hpn
    go_enter Try.func43, Try.ntmps43
    go_wp2_with fail
    go_loopw [9, 10] (fun ev s wr => ∃ (e : Int) (k : Nat), ev = .int .i64 e ∧ s = .int .i64 k ∧ k ≤ n ∧ rgo l (L.drop p) (n - k) k e = v ∧ Below w.heap.size w wr) (fun _ s _ => n - (intOf s).toNat)
    case atStart => exact ⟨_, 0, rfl, rfl, by omega, HV.out, Below.refl _ _⟩
    case round =>
      obtain ⟨e, k, rfl, rfl, hkn, hr, hbw⟩ := hrel
      have HR := Lib.hid hr
      clear hr hpnI
      have hsz := hbw.size
      by_cases hlt : k < n
      · have hkI : (k : Int) < (n : Int) := by omega
        obtain ⟨f, hf⟩ : ∃ f, n - k = f + 1 := ⟨n - k - 1, by omega⟩
        have hRR := HR.out
        rw [hf, rgo] at hRR
        have HS := Lib.hid hRR
        have hfk : n - (k + 1) = f := by omega
        clear hRR
        by_cases hw : (wordV l k).2 = 0
        · have C := refWord_yes A n c l HK.out k wr ((h.below hbw).more hsz) (by unfold I64; omega) hw
          have HSY := Lib.hid (show (if (begF (L.drop p) (dgs l k)).2 = true then ((k : Int), (dgs l k).length, (0 : Int)) else rgo l (L.drop p) f (k + 1) (if (begF (L.drop p) (dgs l k)).1 = true then 4 else e)) = v by rw [← HS.out, if_pos hw])
          clear hw
          obtain ⟨D, hD⟩ : ∃ D, dgs l k = D := ⟨_, rfl⟩
          rw [hD] at C HSY
          clear hD
          go_wp2_with fail
          refine C.mono ?_
          clear C
          rintro e1 w1 ⟨A3, k3, rfl, hk3, o3, hb3⟩
          obtain ⟨bv, hbv⟩ : ∃ bv, begF (L.drop p) D = bv := ⟨_, rfl⟩
          have hDl : D.length = k3 := by have := rd_bclen o3.rd; exact this
          have hb1 := hbw.trans (hb3.mono hsz)
          have C := begins_any A2 A3 n2 c2 k3 k3 L D p w1 ((h2.below hb1).more hb1.size) o3.rd hn2 (by omega) hp bv hbv
          rw [hbv] at HSY
          clear hbv
          obtain ⟨b1, b2⟩ := bv
          go_wp2_with fail
          refine C.mono ?_
          clear C
          rintro e2 w2 ⟨rfl, nq, rfl⟩
          cases b2 with
          | true =>
            have hx : v = ((k : Int), k3, 0) := by rw [← HSY.out, if_pos rfl, hDl]
            subst hx
            go_wp2_with fail
            go_ret3
            exact ⟨rfl, hb1.drewN_ nq⟩
          | false =>
            cases b1 with
            | true =>
              have HSZ := Lib.hid (show rgo l (L.drop p) f (k + 1) 4 = v by rw [← HSY.out, if_neg (by decide)]; rfl)
              go_wp2_with fail
              go_roundw
              case rel => exact ⟨4, k + 1, rfl, by go_num, by omega, by rw [hfk]; exact HSZ.out, hb1.drewN_ nq⟩
              case measure => simp [intOf]; omega
            | false =>
              have HSZ := Lib.hid (show rgo l (L.drop p) f (k + 1) e = v by rw [← HSY.out, if_neg (by decide)]; rfl)
              go_wp2_with fail
              go_roundw
              case rel => exact ⟨e, k + 1, rfl, by go_num, by omega, by rw [hfk]; exact HSZ.out, hb1.drewN_ nq⟩
              case measure => simp [intOf]; omega
        · have C := refWord_no A n c l k wr ((h.below hbw).more hsz) (by unfold I64; omega) hw
          have HSZ := Lib.hid (show rgo l (L.drop p) f (k + 1) e = v by rw [← HS.out, if_neg hw])
          clear hw
          go_wp2_with fail
          refine C.mono ?_
          clear C
          rintro e1 w1 ⟨rfl, rfl⟩
          go_wp2_with fail
          go_roundw
          case rel => exact ⟨e, k + 1, rfl, by go_num, by omega, by rw [hfk]; exact HSZ.out, hbw⟩
          case measure => simp [intOf]; omega
      · have hx : v = (0, 0, e) := by rw [← HR.out, show n - k = 0 by omega]; rfl
        subst hx
        go_wp2_with fail
        go_ret3
        exact ⟨rfl, hbw⟩
  · rintro ⟨hpn, rfl⟩
    clear HE
    have hpnI : ((p : Int) == (n2 : Int)) = false := by simp; omega
    clear hpn
    go_enter Try.func43, Try.ntmps43
    go_wp2_with fail
    go_loopw [9, 10] (fun ev s wr => ∃ (e : Int) (k : Nat), ev = .int .i64 e ∧ s = .int .i64 k ∧ k ≤ n ∧ rgo l (L.drop p) (n - k) k e = v ∧ Below w.heap.size w wr) (fun _ s _ => n - (intOf s).toNat)
    case atStart => exact ⟨_, 0, rfl, rfl, by omega, HV.out, Below.refl _ _⟩
    case round =>
      obtain ⟨e, k, rfl, rfl, hkn, hr, hbw⟩ := hrel
      have HR := Lib.hid hr
      clear hr hpnI
      have hsz := hbw.size
      by_cases hlt : k < n
      · have hkI : (k : Int) < (n : Int) := by omega
        obtain ⟨f, hf⟩ : ∃ f, n - k = f + 1 := ⟨n - k - 1, by omega⟩
        have hRR := HR.out
        rw [hf, rgo] at hRR
        have HS := Lib.hid hRR
        have hfk : n - (k + 1) = f := by omega
        clear hRR
        by_cases hw : (wordV l k).2 = 0
        · have C := refWord_yes A n c l HK.out k wr ((h.below hbw).more hsz) (by unfold I64; omega) hw
          have HSY := Lib.hid (show (if (begF (L.drop p) (dgs l k)).2 = true then ((k : Int), (dgs l k).length, (0 : Int)) else rgo l (L.drop p) f (k + 1) (if (begF (L.drop p) (dgs l k)).1 = true then 4 else e)) = v by rw [← HS.out, if_pos hw])
          clear hw
          obtain ⟨D, hD⟩ : ∃ D, dgs l k = D := ⟨_, rfl⟩
          rw [hD] at C HSY
          clear hD
          go_wp2_with fail
          refine C.mono ?_
          clear C
          rintro e1 w1 ⟨A3, k3, rfl, hk3, o3, hb3⟩
          obtain ⟨bv, hbv⟩ : ∃ bv, begF (L.drop p) D = bv := ⟨_, rfl⟩
          have hDl : D.length = k3 := by have := rd_bclen o3.rd; exact this
          have hb1 := hbw.trans (hb3.mono hsz)
          have C := begins_any A2 A3 n2 c2 k3 k3 L D p w1 ((h2.below hb1).more hb1.size) o3.rd hn2 (by omega) hp bv hbv
          rw [hbv] at HSY
          clear hbv
          obtain ⟨b1, b2⟩ := bv
          go_wp2_with fail
          refine C.mono ?_
          clear C
          rintro e2 w2 ⟨rfl, nq, rfl⟩
          cases b2 with
          | true =>
            have hx : v = ((k : Int), k3, 0) := by rw [← HSY.out, if_pos rfl, hDl]
            subst hx
            go_wp2_with fail
            go_ret3
            exact ⟨rfl, hb1.drewN_ nq⟩
          | false =>
            cases b1 with
            | true =>
              have HSZ := Lib.hid (show rgo l (L.drop p) f (k + 1) 4 = v by rw [← HSY.out, if_neg (by decide)]; rfl)
              go_wp2_with fail
              go_roundw
              case rel => exact ⟨4, k + 1, rfl, by go_num, by omega, by rw [hfk]; exact HSZ.out, hb1.drewN_ nq⟩
              case measure => simp [intOf]; omega
            | false =>
              have HSZ := Lib.hid (show rgo l (L.drop p) f (k + 1) e = v by rw [← HSY.out, if_neg (by decide)]; rfl)
              go_wp2_with fail
              go_roundw
              case rel => exact ⟨e, k + 1, rfl, by go_num, by omega, by rw [hfk]; exact HSZ.out, hb1.drewN_ nq⟩
              case measure => simp [intOf]; omega
        · have C := refWord_no A n c l k wr ((h.below hbw).more hsz) (by unfold I64; omega) hw
          have HSZ := Lib.hid (show rgo l (L.drop p) f (k + 1) e = v by rw [← HS.out, if_neg hw])
          clear hw
          go_wp2_with fail
          refine C.mono ?_
          clear C
          rintro e1 w1 ⟨rfl, rfl⟩
          go_wp2_with fail
          go_roundw
          case rel => exact ⟨e, k + 1, rfl, by go_num, by omega, by rw [hfk]; exact HSZ.out, hbw⟩
          case measure => simp [intOf]; omega
      · have hx : v = (0, 0, e) := by rw [← HR.out, show n - k = 0 by omega]; rfl
        subst hx
        go_wp2_with fail
        go_ret3
        exact ⟨rfl, hbw⟩
end LenW
end Go.Proofs.Ytedoeplhjmkllaa
