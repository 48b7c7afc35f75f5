/- The laws of package sieve, at what came in: what the listed variables hold; the arguments. -/
import Derived.Test.YtdeiehgghhiijaaDoorSieK
import Derived.Test.YtdeiehgghhiijaaDoorSkpB
import Derived.Test.YtdeiehgghhiijaaDoorQyO
import Derived.Deep.DeepHandedRow
import Derived.LaidMore
import Derived.LaidLaws
import Derived.MakeChecks
import Derived.Lib.LaidTab
import Derived.Stop.LaidErr
namespace Go.Proofs.YtdeiehgghhiijaaDoor
set_option linter.unusedVariables false
set_option linter.unusedSimpArgs false
set_option linter.unnecessarySimpa false
set_option maxRecDepth 100000
section
open Go.RowKit Go.ChangeShapes Go.WideShapes Go.Deep
namespace SkpW
theorem open_met {H : Type} {enc : TypeId × Value → H} {w : World} {base : Nat} {spare : Nat → Bool} {held : Bool} {r : Reach} {b0 : Nat} {v : Value} {d : DataW H} {p : List MemPlace}
    (hv : Value.okWide Tryd.prog w r b0 39 v) (h : DataW.Trod enc Tryd.prog w base spare held 39 v d p) :
    ∃ m : Me, v = .agg (mc m) ∧ I64 m.count ∧ I64 m.first := by
  obtain ⟨cs, rfl, hsz⟩ := okWide_struct Tryd.underlying39 hv
  have hC : Tryd.prog.cellsOf 39 = 7 := by kernel_rfl
  rw [hC] at hsz
  obtain ⟨cs, rfl⟩ : ∃ l : List Value, cs = l.toArray := ⟨cs.toList, by simp⟩
  obtain ⟨fuel, hf⟩ := h
  simp only [Value.cells] at hf
  obtain ⟨n, hF⟩ := fld Tryd.underlying39 hf
  match cs, hsz with
  | [c0, c1, c2, c3, c4, c5, c6], _ =>
    obtain ⟨x0, rfl, w0⟩ := int_at (j := 0) Tryd.underlying3 (by kernel_rfl) rfl (hF 0 _ rfl)
    obtain ⟨x1, rfl, w1⟩ := int_at (j := 1) Tryd.underlying3 (by kernel_rfl) rfl (hF 1 _ rfl)
    obtain ⟨x2, rfl, w2⟩ := int_at (j := 2) Tryd.underlying3 (by kernel_rfl) rfl (hF 2 _ rfl)
    obtain ⟨x3, rfl, w3⟩ := int_at (j := 3) Tryd.underlying3 (by kernel_rfl) rfl (hF 3 _ rfl)
    obtain ⟨x4, rfl, w4⟩ := int_at (j := 4) Tryd.underlying3 (by kernel_rfl) rfl (hF 4 _ rfl)
    obtain ⟨x5, rfl, w5⟩ := int_at (j := 5) Tryd.underlying3 (by kernel_rfl) rfl (hF 5 _ rfl)
    obtain ⟨x6, rfl, w6⟩ := int_at (j := 6) Tryd.underlying3 (by kernel_rfl) rfl (hF 6 _ rfl)
    exact ⟨⟨x0, x1, x2, x3, x4, x5, x6⟩, rfl, w3, w4⟩

end SkpW
end
open Go.RowKit
namespace SieW
open WanW (Wo gPow)
open SkpW (Me mc)

theorem gPowType : (Tryd.prog.globals[0]?).map (·.type) = some 144 := by kernel_rfl
theorem cellsPow : Tryd.prog.cellsOf 144 = 20 := by kernel_rfl
theorem cellsU64 : Tryd.prog.cellsOf 133 = 1 := by kernel_rfl
theorem pow_data : (Rows.laid_internal_strconv_uint64pow10 : DataW Unit) = Lib.tabData .u64 Lib.pow10Tab := by kernel_rfl
def laid3 : List (String × DataW Unit) := [("math/bits.deBruijn32tab", Rows.laid_math_bits_deBruijn32tab), ("math/bits.deBruijn64tab", Rows.laid_math_bits_deBruijn64tab), ("internal/strconv.uint64pow10", Rows.laid_internal_strconv_uint64pow10)]
theorem wo_of {W : World} (hL : laidMetH Tryd.prog laid3 W) (hsh : W.ShapedOpen Tryd.prog) : Wo W := by
  refine ⟨Tryd.laysM145.s1_3 W hsh, ?_⟩
  rw [MakeChecks.laidMetH_plain _ _ _ (by kernel_rfl)] at hL
  have h2 := hL.tail.tail
  rw [pow_data] at h2
  exact Lib.tabIs_of_head gPow gPowType Tryd.underlying144 Tryd.underlying133 cellsU64 cellsPow h2
/-- The door's own heap meets the condition. -/
theorem door_met (os : Os) (args : Array Value) : laidMetH Tryd.prog laid3 ((World.doorLaid Tryd.prog 24 os).forCall (fun _ _ => 0) ⟨#[], args, []⟩).memory :=
  laidMetH_of_parts3 (fuel := 8) (laidMet_of_run' 8 (by kernel_rfl) (by kernel_rfl)) (by kernel_rfl) (by kernel_rfl)
theorem nobody_card (q t : Int) (d : ByteArray) (m : Me) (w : World) (h : Wo w) : Calls Tryd.prog 4 #[.agg #[.int .i64 q, .int .i64 t, .string d], .agg (mc m)] w fun e w' => e = .returned (.bool true) ∧ Below w.heap.size w w' := by
  obtain ⟨l, rfl, hl⟩ := str_of d
  exact nobody_law q t l m w h
end SieW
end Go.Proofs.YtdeiehgghhiijaaDoor
