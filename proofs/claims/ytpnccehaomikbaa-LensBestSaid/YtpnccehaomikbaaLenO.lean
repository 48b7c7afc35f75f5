/- Walks over the laws of package lens: LensLooks. -/
import Derived.Test.YtpnccehaomikbaaLenN
import Derived.Test.YtpnccehaomikbaaOpenI
namespace Go.Proofs.Ytpnccehaomikbaa
set_option linter.unusedVariables false
set_option linter.unusedSimpArgs false
set_option linter.unnecessarySimpa false
open Go.RowKit Go.ChangeShapes Go.WideShapes Go.Deep
namespace LenW

theorem lt_end (z : Int) : ¬ (z != z) = true := by simp
set_option maxRecDepth 100000 in
set_option maxHeartbeats 4000000 in
theorem looks_law (A : Option Addr) (n c : Nat) (l : List Int) (A2 : Option Addr) (n2 c2 : Nat) (a : List Int) (w : World)
    (h : Rd w w.heap.size 1 A n (ints l)) (hn : n ≤ maxLen) (k : Rd w w.heap.size 1 A2 n2 (ints a)) (hn2 : n2 ≤ maxLen) :
    Calls Try.prog 4 #[.slice A n c, .slice A2 n2 c2] w fun e w' => e = .returned (.bool true) ∧ Below w.heap.size w w' := by
  unfold maxLen at hn hn2
  have hcase : (n : Int) > 300 ∨ (¬ (n : Int) > 300 ∧ (n2 : Int) > 300) ∨ (¬ (n : Int) > 300 ∧ ¬ (n2 : Int) > 300) := by omega
  rcases hcase with h1 | ⟨h1, h2⟩ | ⟨h1, h2⟩
  iterate 2
    clear h k
    go_enter Try.func4, Try.ntmps4
    go_wp2_with fail
    refine (lawake_any _).mono ?_
    rintro e w7 ⟨rfl, hb7⟩
    go_wp2_with fail
    go_ret
    exact ⟨rfl, hb7⟩
  have C1 := fun w h => check_any A n c l w h (by omega) _ rfl
  have C2 := fun w h => refCheck_any A n c l w h (by omega) _ rfl
  have C3 := fun w h => used_any A n c l w h (by omega) _ rfl
  have C4 := fun w h => refUsed_any A n c l w h (by omega) _ rfl
  have C5 := fun w k h => cost_any A2 A n2 c2 n c a l w k h (by omega) (by omega) _ rfl
  have C6 := fun w k h => refCost_any A2 A n2 c2 n c a l w k h (by omega) (by omega) _ rfl
  obtain ⟨v1, hv1⟩ : ∃ v, chkL l = v := ⟨_, rfl⟩
  obtain ⟨v2, hv2⟩ : ∃ v, usedL l = v := ⟨_, rfl⟩
  obtain ⟨v3, hv3⟩ : ∃ v, costW a l = v := ⟨_, rfl⟩
  rw [hv1] at C1 C2
  rw [hv2] at C3 C4
  rw [hv3] at C5 C6
  clear hv1 hv2 hv3
  go_enter Try.func4, Try.ntmps4
  go_wp2_with fail
  refine (C1 _ h).mono ?_
  rintro e w1 ⟨rfl, rfl⟩
  go_wp2_with fail
  refine (C2 _ h).mono ?_
  rintro e w2 ⟨rfl, rfl⟩
  go_wp2_with fail
  refine (C3 _ h).mono ?_
  rintro e w3 ⟨rfl, rfl⟩
  go_wp2_with fail
  refine (C4 _ h).mono ?_
  rintro e w4 ⟨rfl, rfl⟩
  go_wp2_with fail
  refine (C5 _ k h).mono ?_
  rintro e w5 ⟨rfl, hb5⟩
  go_wp2_with fail
  refine (C6 _ ((k.below hb5).more hb5.size) ((h.below hb5).more hb5.size)).mono ?_
  rintro e w6 ⟨rfl, hb6⟩
  have HB := hb5.trans (hb6.mono hb5.size)
  clear hb5 hb6
  go_wp2_with fail
  refine (lawake_any _).mono ?_
  rintro e w7 ⟨rfl, hb7⟩
  go_wp2_with fail
  go_ret
  exact ⟨rfl, HB.trans (hb7.mono HB.size)⟩
end LenW
end Go.Proofs.Ytpnccehaomikbaa
