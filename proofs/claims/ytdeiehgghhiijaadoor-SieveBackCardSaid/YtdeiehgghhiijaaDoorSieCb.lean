/- The laws of package sieve on contraries and on what was written, at what came in. -/
import Derived.Test.YtdeiehgghhiijaaDoorSieCa
import Derived.Test.YtdeiehgghhiijaaDoorSieL
namespace Go.Proofs.YtdeiehgghhiijaaDoor
set_option linter.unusedVariables false
set_option linter.unusedSimpArgs false
open Go.RowKit
namespace SieW
open WanW (Wo)
theorem back_card (s : ByteArray) (q t : Int) (d : ByteArray) (w : World) (h : Wo w) : Calls Tryd.prog 5 #[.string s, .agg #[.int .i64 q, .int .i64 t, .string d]] w fun e w' => e = .returned (.bool true) ∧ Below w.heap.size w w' := by
  obtain ⟨l, rfl, hl⟩ := str_of s
  obtain ⟨m, rfl, hm⟩ := str_of d
  exact back_law l q t m w h
theorem not_card (a b : ByteArray) (q t : Int) (d : ByteArray) (w : World) (h : Wo w) (ha : a.size ≤ 140737488351232) (hb : b.size ≤ 140737488351232) : Calls Tryd.prog 6 #[.string a, .string b, .agg #[.int .i64 q, .int .i64 t, .string d]] w fun e w' => e = .returned (.bool true) ∧ Below w.heap.size w w' := by
  obtain ⟨l, rfl, hl⟩ := str_of a
  obtain ⟨m, rfl, hm⟩ := str_of b
  obtain ⟨n, rfl, hn⟩ := str_of d
  exact not_law l m q t n w h (by omega) (by omega)
end SieW
end Go.Proofs.YtdeiehgghhiijaaDoor
