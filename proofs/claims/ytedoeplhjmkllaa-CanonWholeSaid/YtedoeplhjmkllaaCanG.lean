/- The walks of package canon: a word is found. -/
import Derived.Test.YtedoeplhjmkllaaCanK
import Derived.Test.YtedoeplhjmkllaaBitS
import Derived.Deep.DeepCutAuto
namespace Go.Proofs.Ytedoeplhjmkllaa
set_option linter.unusedVariables false
set_option linter.unusedSimpArgs false
set_option linter.unnecessarySimpa false
open Go.RowKit
namespace LenW

def findL (l : List Int) (n w : Nat) : Int × Bool := if fstL l w ≤ n ∧ n - fstL l w < cntL l w then ((sortF l)[plcL l w + (n - fstL l w)]?.getD 0, true) else (0, false)
theorem plc_lt (l : List Int) (w i : Nat) (h : i < cntL l w) : plcL l w + i < usedL l := by
  have h1 := plcL_succ l w
  have h2 := plcL_le l (w + 1)
  omega
set_option maxRecDepth 100000 in
set_option maxHeartbeats 4000000 in
theorem find_any (l : List Int) (hk : chkL l = 0) (B g : Nat) (n wd : Nat) (w : World) (hC : CodeAt w B g l) (hn : n ≤ 65536) (hwd : wd ≤ 15) (v : Int × Bool) (hv : findL l n wd = v) :
    Calls Try.prog 46 #[.pointer (some ⟨g, 0, none⟩), .int .i64 n, .int .i64 wd] w fun e w' => e = .returned (.tuple #[.int .i64 v.1, .bool v.2]) ∧ ∃ nq, w' = w.drewN nq := by
  obtain ⟨h257, hok, hsum⟩ := chk0 hk
  have hroom := room l wd hwd hsum
  have h2y : (2 : Nat) ^ wd ≤ 2 ^ 15 := Nat.pow_le_pow_right (by omega) (by omega)
  have hpl := plc_lt l wd
  have hus := usedL_le l
  obtain ⟨gW, gS, h1, h2, h3, b1, b2, b3⟩ := hC
  have k1 := b1.cell_ 1 (v := .slice (some ⟨gS, 0, none⟩) (usedL l) (usedL l)) rfl
  have kc := b1.cell_ _ (code_c (tab_len _) wd (by omega))
  have kf := b1.cell_ _ (code_f (tab_len _) (tab_len _) wd (by omega))
  have kp := b1.cell_ _ (code_p (tab_len _) (tab_len _) (tab_len _) wd (by omega))
  rw [tab_at _ wd (by omega)] at kc kf kp
  have hS : ∀ (k : Nat) (hk : k < (sortF l).length), w.cell? ⟨gS, k, none⟩ = some (.int .i64 (sortF l)[k]) := fun k hk => b3.cell_ k (by simp [ints, hk])
  have hsl : (sortF l).length = usedL l := sortK_len l _
  obtain ⟨us, hus'⟩ : ∃ x, usedL l = x := ⟨_, rfl⟩
  rw [hus'] at k1 hsl hpl hus
  clear b1 b2 b3 hok hsum hk hus'
  have HV := Lib.hid hv
  unfold findL at HV
  clear hv
  generalize sortF l = srt at *
  generalize fstL l wd = f at *
  generalize cntL l wd = c at *
  generalize plcL l wd = pl at *
  have hw0 : (0 : Int) ≤ (wd : Int) := by omega
  have hw1 : (wd : Int) < 16 := by omega
  have hs1 : IntKind.i64.wrap ((n : Int) - (f : Int)) = (n : Int) - (f : Int) := w64k (by omega) (by omega)
  have HS1 := Lib.hid hs1
  clear hs1
  by_cases hlo : f ≤ n
  · obtain ⟨i, rfl⟩ : ∃ i, n = f + i := ⟨n - f, by omega⟩
    have hn0 : ¬ ((f + i : Nat) : Int) - (f : Int) < 0 := by omega
    have hsub : ((f + i : Nat) : Int) - (f : Int) = (i : Int) := by omega
    by_cases hi : i < c
    · have hx : v = (srt[pl + i]'(by rw [hsl]; exact hpl i hi), true) := by rw [← HV.out, if_pos ⟨by omega, by omega⟩, show f + i - f = i from by omega, List.getElem?_eq_getElem (by rw [hsl]; exact hpl i hi)]; rfl
      subst hx
      have hpi := hpl i hi
      have kS := hS (pl + i) (by omega)
      obtain ⟨y, hy⟩ : ∃ y, srt[pl + i]'(by omega) = y := ⟨_, rfl⟩
      rw [hy] at kS ⊢
      have hge : ¬ (i : Int) ≥ (c : Int) := by omega
      have hi0 : ¬ (i : Int) < 0 := by omega
      clear hS HV hy hpl
      go_enter Try.func46, Try.ntmps46
      go_upto_region 2 with fail
      try rw [hsub]
      go_wp2_with fail
      go_quiet (fail)
      go_wp2
      go_ret2
      exact ⟨rfl, _, rfl⟩
    · have hx : v = (0, false) := by rw [← HV.out, if_neg (by omega)]
      subst hx
      have hge : (i : Int) ≥ (c : Int) := by omega
      have hi0 : ¬ (i : Int) < 0 := by omega
      clear hS HV hpl
      go_enter Try.func46, Try.ntmps46
      go_upto_region 2 with fail
      try rw [hsub]
      go_wp2_with fail
      go_ret2
      exact ⟨rfl, 0, rfl⟩
  · have hx : v = (0, false) := by rw [← HV.out, if_neg (by omega)]
    subst hx
    have hneg : (n : Int) - (f : Int) < 0 := by omega
    go_enter Try.func46, Try.ntmps46
    go_wp2_with fail
    go_ret2
    exact ⟨rfl, 0, rfl⟩
end LenW
end Go.Proofs.Ytedoeplhjmkllaa
