/- The walks of package kmp: Find, Has; the reference's. -/
import Derived.Test.YtdeiehgghhiijaaDoorKmpH
namespace Go.Proofs.YtdeiehgghhiijaaDoor
set_option linter.unusedVariables false
set_option linter.unusedSimpArgs false
set_option linter.unnecessarySimpa false
open Go.RowKit
namespace KmpW

set_option maxRecDepth 100000 in
set_option maxHeartbeats 4000000 in
theorem find_any (s p : List UInt8) (w : World) (hp : p.length ≤ 100000) (hs : s.length ≤ 100000) :
    Calls Tryd.prog 110 #[str s, str p, .int .i64 0] w fun e w' => ∃ x, e = .returned (.tuple #[.int .i64 x, .bool (kin p s)]) ∧ Below w.heap.size w w' := by
  have hmf : ∀ (fn : Fn) (first cap : Array Value) (w : World), (Instr.makeFunc fn first cap).run Tryd.prog w = .ok (.func fn first cap) w := fun _ _ _ _ => rfl
  go_enter Tryd.func110, Tryd.ntmps110
  go_wp2_with fail
  have b1 := (Blk.new w 3 #[.int .i64 0]).alloc (.cells #[.bool false] 4)
  have b2 := Blk.new (w.alloc (.cells #[.int .i64 0] 3)) 4 #[.bool false]
  rw [World.size_alloc] at b2
  have hb : Below w.heap.size w ((w.alloc (.cells #[.int .i64 0] 3)).alloc (.cells #[.bool false] 4)) := ((Below.refl _ w).alloc (Nat.le_refl _) _).alloc (by simp) _
  refine (each_any s p w.heap.size w.heap.size (w.heap.size + 1) _ b1 b2 (by omega) (Nat.le_refl _) (by omega) hp hs).mono ?_
  rintro e w2 ⟨rfl, ⟨x, k1⟩, k2, hb2⟩
  have c1 := k1.cell_ 0 rfl
  have c2 := k2.cell_ 0 rfl
  have HB := hb.trans hb2
  clear b1 b2 hb hb2 hmf
  go_wp2_with fail
  go_quiet (fail)
  go_wp2
  go_ret2
  exact ⟨x, rfl, Below.drewN_ HB _⟩
theorem cut_ext (l : List UInt8) (p q : Nat) : (⟨l.toArray⟩ : ByteArray).extract p q = ⟨((l.drop p).take (q - p)).toArray⟩ := by
  apply ByteArray.ext
  rw [ByteArray.data_extract]
  apply Array.ext'
  simp
theorem kin_at (p s : List UInt8) : kin p s = true ↔ ∃ i, i + p.length ≤ s.length ∧ (s.drop i).take p.length = p := (kin_iff p s).trans (in_iff2 p s)

theorem has_any (s p : List UInt8) (w : World) (hp : p.length ≤ 100000) (hs : s.length ≤ 100000) :
    Calls Tryd.prog 109 #[str s, str p] w fun e w' => e = .returned (.bool (kin p s)) ∧ Below w.heap.size w w' := by
  go_enter Tryd.func109, Tryd.ntmps109
  go_wp2_with fail
  refine (find_any s p w hp hs).mono ?_
  rintro e w2 ⟨x, rfl, hb⟩
  go_wp2_with fail
  go_ret
  exact ⟨rfl, hb⟩
end KmpW
end Go.Proofs.YtdeiehgghhiijaaDoor
