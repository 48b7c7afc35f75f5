/- The law of package sieve on what meets a sentence, at what came in. -/
import Derived.Test.YtdeiehgghhiijaaGreatDoorSieCa
import Derived.Test.YtdeiehgghhiijaaGreatDoorSieMe
namespace Go.Proofs.YtdeiehgghhiijaaGreatDoor
set_option linter.unusedVariables false
set_option linter.unusedSimpArgs false
open Go.RowKit
namespace SieW
open WanW (Wo)
open SkpW (Me mc)
theorem meets_card (s : ByteArray) (q t : Int) (d : ByteArray) (m : Me) (hm : I64 m.count ∧ I64 m.first) (w : World) (h : Wo w) : Calls Tryz.prog 3 #[.string s, .agg #[.int .i64 q, .int .i64 t, .string d], .agg (mc m)] w fun e w' => e = .returned (.bool true) ∧ Below w.heap.size w w' := by
  obtain ⟨l, rfl, hl⟩ := str_of s
  obtain ⟨n, rfl, hn⟩ := str_of d
  exact meets_law l q t n m hm.1 hm.2 w h
end SieW
end Go.Proofs.YtdeiehgghhiijaaGreatDoor
