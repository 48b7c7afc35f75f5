/- The laws of package want, at what came in: what the listed variables hold; the arguments. -/
import Derived.Test.YtjcbaaabbdcdnaaDoorWanZ
import Derived.Test.YtjcbaaabbdcdnaaDoorQyO
import Derived.Deep.DeepHandedRow
import Derived.LaidMore
import Derived.LaidLaws
import Derived.MakeChecks
import Derived.Lib.LaidTab
import Derived.Stop.LaidErr
namespace Go.Proofs.YtjcbaaabbdcdnaaDoor
set_option linter.unusedVariables false
set_option linter.unusedSimpArgs false
set_option linter.unnecessarySimpa false
open Go.RowKit
namespace WanW
open SkpW (Qy qv qc chkQ)

theorem gPowType : (Tryd.prog.globals[1]?).map (·.type) = some 95 := by kernel_rfl
theorem cellsPow : Tryd.prog.cellsOf 95 = 20 := by kernel_rfl
theorem cellsU64 : Tryd.prog.cellsOf 85 = 1 := by kernel_rfl
theorem pow_data : (Rows.laid_internal_strconv_uint64pow10 : DataW Unit) = Lib.tabData .u64 Lib.pow10Tab := by kernel_rfl
def laid3 : List (String × DataW Unit) := [("math/bits.deBruijn32tab", Rows.laid_math_bits_deBruijn32tab), ("math/bits.deBruijn64tab", Rows.laid_math_bits_deBruijn64tab), ("internal/strconv.uint64pow10", Rows.laid_internal_strconv_uint64pow10)]
theorem wo_of {W : World} (hL : laidMetH Tryd.prog laid3 W) (hsh : W.ShapedOpen Tryd.prog) : Wo W := by
  refine ⟨Tryd.laysM145.s1_3 W hsh, ?_⟩
  rw [MakeChecks.laidMetH_plain _ _ _ (by kernel_rfl)] at hL
  have h2 := hL.tail.tail
  rw [pow_data] at h2
  exact Lib.tabIs_of_head gPow gPowType Tryd.underlying95 Tryd.underlying85 cellsU64 cellsPow h2
/-- The door's own heap meets the condition. -/
theorem door_met (os : Os) (args : Array Value) : laidMetH Tryd.prog laid3 ((World.doorLaid Tryd.prog 24 os).forCall (fun _ _ => 0) ⟨#[], args, []⟩).memory :=
  laidMetH_of_parts3 (fuel := 8) (laidMet_of_run' 8 (by kernel_rfl) (by kernel_rfl)) (by kernel_rfl) (by kernel_rfl)
theorem parses_law (s : ByteArray) (w : World) (h : Wo w) : Calls Tryd.prog 3 #[.string s] w fun e w' => e = .returned (.bool true) ∧ Below w.heap.size w w' := by
  obtain ⟨l, rfl, hl⟩ := str_of s
  exact wantParses_any l w h
theorem back_law (q : Qy) (s : ByteArray) (w : World) (h : Wo w) : Calls Tryd.prog 5 #[qv q, .string s] w fun e w' => e = .returned (.bool true) ∧ Below w.heap.size w w' := by
  obtain ⟨l, rfl, hl⟩ := str_of s
  exact wantBack_any q l w h
theorem show_law (a b : ByteArray) (w : World) (h : Wo w) (ha : a.size ≤ 140737488351232) (hb : b.size ≤ 140737488351232) : Calls Tryd.prog 6 #[.string a, .string b] w fun e w' => e = .returned (.bool true) ∧ Below w.heap.size w w' := by
  obtain ⟨l, rfl, hl⟩ := str_of a
  obtain ⟨l2, rfl, hl2⟩ := str_of b
  exact wantShow_any l l2 w h (by omega) (by omega)
end WanW
end Go.Proofs.YtjcbaaabbdcdnaaDoor
