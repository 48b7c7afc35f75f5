/- Walks over package take: the loop that Run's closure is. -/
import Derived.Test.YtnpncpoiiikafaaGreatTakWQb
import Derived.Test.YtnpncpoiiikafaaGreatVarWQb
import Derived.Test.YtnpncpoiiikafaaGreatAppQb
import Derived.Test.YtnpncpoiiikafaaGreatZruPQb
import Derived.Test.YtnpncpoiiikafaaGreatLenWQb
namespace Go.Proofs.YtnpncpoiiikafaaGreat
set_option linter.unusedVariables false
set_option linter.unusedSimpArgs false
set_option linter.unnecessarySimpa false
open Go.RowKit
namespace TakW

/-- Nothing that was there at w has turned, but for blocks bl and g. -/
structure Kept (w w' : World) (bl g : Nat) : Prop where
  os : w'.os = w.os
  tape : w'.tape = w.tape
  output : w'.output = w.output
  size : w.heap.size ≤ w'.heap.size
  block : ∀ k, k < w.heap.size → k ≠ bl → k ≠ g → w'.heap[k]? = w.heap[k]?
theorem Kept.refl (w : World) (bl g : Nat) : Kept w w bl g := ⟨rfl, rfl, rfl, Nat.le_refl _, fun _ _ _ _ => rfl⟩
theorem Kept.grown {w w1 w2 : World} {bl g : Nat} {row : Option Nat} (h : Kept w w1 bl g) (hg : w1.grownBy w2 row) (hr : ∀ k, row = some k → k = bl ∨ k = g ∨ w.heap.size ≤ k) : Kept w w2 bl g :=
  ⟨hg.os.trans h.os, hg.tape.trans h.tape, hg.output.trans h.output, Nat.le_trans h.size hg.size, fun k hk h1 h2 =>
    (hg.block k (Nat.lt_of_lt_of_le hk h.size) (fun e => by rcases hr k e.symm with e | e | e <;> first | exact h1 e | exact h2 e | omega)).trans (h.block k hk h1 h2)⟩
theorem grown_set (w : World) (g i : Nat) (v : Value) : w.grownBy (w.setCell ⟨g, i, none⟩ v) (some g) :=
  ⟨rfl, rfl, rfl, by simp [World.setCell], fun k _ hne => Below.heap_setCell _ _ _ k (fun e => hne (by rw [e]))⟩
theorem grown_drew (w : World) : w.grownBy w.drew none := ⟨rfl, rfl, rfl, Nat.le_refl _, fun _ _ _ => rfl⟩
theorem Kept.below {w w' : World} {bl g B : Nat} (h : Kept w w' bl g) (hB : B ≤ w.heap.size) (h1 : B ≤ bl) (h2 : B ≤ g) : Below B w w' :=
  ⟨h.os, h.tape, h.output, h.size, fun k hk => h.block k (by omega) (by omega) (by omega)⟩
theorem Kept.blk {w w' : World} {bl g b : Nat} {t : TypeId} {cs : Array Value} (h : Kept w w' bl g) (hb : Blk w b t cs) (h1 : b ≠ bl) (h2 : b ≠ g) : Blk w' b t cs := (h.block b hb.lt h1 h2).trans hb


end TakW
end Go.Proofs.YtnpncpoiiikafaaGreat
