/- Walks of the statements on sentences: what the document fixes (awake). -/
import Derived.Test.YtdeiehgghhiijaaDoorSieI
namespace Go.Proofs.YtdeiehgghhiijaaDoor
set_option linter.unusedVariables false
set_option linter.unusedSimpArgs false
set_option linter.unnecessarySimpa false
open Go.RowKit
namespace SieW
open SkpW (Me mc sM tM)

def text1 : List UInt8 := [115, 101, 113, 32, 49, 45, 53, 32, 97, 110, 100, 32, 110, 111, 116, 40, 104, 97, 115, 32, 54, 49, 32, 111, 114, 32, 116, 105, 99, 107, 32, 51, 45, 52, 41]
def text2 : List UInt8 := [115, 101, 113, 32, 49, 45, 53, 32, 111, 114]
def shown1 : List UInt8 := [115, 101, 113, 32, 49, 45, 53, 32, 97, 110, 100, 32, 110, 111, 116, 32, 40, 104, 97, 115, 32, 54, 49, 32, 111, 114, 32, 116, 105, 99, 107, 32, 51, 45, 52, 41]
def node1 : Nd := .row false [.within 0 1 5, .not (.row true [.has [97], .within 1 3 4])]
theorem parse1 : parseP text1 = (some (node1, 4), 35, 0) := by kernel_rfl
theorem parse2 : parseP text2 = (none, 10, 380) := by kernel_rfl
theorem dec1 : WanW.decL 1 = [49] := by rw [WanW.decL]; rfl
theorem dec3 : WanW.decL 3 = [51] := by rw [WanW.decL]; rfl
theorem dec4 : WanW.decL 4 = [52] := by rw [WanW.decL]; rfl
theorem dec5 : WanW.decL 5 = [53] := by rw [WanW.decL]; rfl
theorem shows1 : shN 0 node1 = shown1 := by
  simp only [node1, shN, shR, rngL, Int.toNat_one, show (5 : Int).toNat = 5 from rfl, show (3 : Int).toNat = 3 from rfl, show (4 : Int).toNat = 4 from rfl, dec1, dec3, dec4, dec5]
  rfl
theorem meets1 : meetN 2 9 [98] node1 = true := by kernel_rfl
theorem meets2 : meetN 2 9 [98] (.not node1) = false := by kernel_rfl
def me1 : Me := ⟨0, 0, 0, 1, 5, 5, 9⟩
def me2 : Me := ⟨0, 0, 0, 1, 6, 5, 9⟩
def me3 : Me := ⟨0, 0, 0, 1, 5, 3, 4⟩
theorem may1 : mayN (sM 1 5) (tM 1 5 9) node1 true = true := by kernel_rfl
theorem may2 : mayN (sM 1 6) (tM 1 5 9) node1 true = false := by kernel_rfl
theorem may3 : mayN (sM 1 5) (tM 1 3 4) node1 true = false := by kernel_rfl
theorem wf_node1 : wfN node1 := (parse_sv parse1).1
set_option maxRecDepth 100000 in
set_option maxHeartbeats 8000000 in
theorem sawake_any (w : World) (hW : WanW.Wo w) : Calls Tryd.prog 7 #[] w fun e w' => e = .returned (.bool true) ∧ Below w.heap.size w w' := by
  have C1 := parse_sv_any parse1 w hW (by decide)
  go_enter Tryd.func7, Tryd.ntmps7
  go_wp2_with fail
  refine C1.mono ?_
  clear C1
  rintro e w1 ⟨g, rfl, S1, hb1⟩
  have C2 := parse_no_any parse2 w1 (hW.below hb1) (by decide)
  go_wp2_with fail
  refine C2.mono ?_
  clear C2
  rintro e w2 ⟨rfl, hb2⟩
  have HB2 := hb1.trans (hb2.mono hb1.size)
  have S2 := S1.below hb2
  clear S1 hb1 hb2
  go_wp2_with fail
  refine (Not_yes w2 g node1 4 S2 (by omega) (by have := S2.few; rw [(parse_sv parse1).2.1]; omega)).mono ?_
  rintro e w3 ⟨g', rfl, N3, hb3⟩
  have S3 := S2.below hb3
  have HB3 := HB2.trans (hb3.mono HB2.size)
  clear hb3 S2 HB2
  have HB4 := HB3.alloc HB3.size (.cells #[.int .i64 2, .int .i64 9, str [98]] 37)
  have S4 := S3.below ((Below.refl _ w3).alloc (Nat.le_refl _) (.cells #[.int .i64 2, .int .i64 9, str [98]] 37))
  have N4 := N3.below ((Below.refl _ w3).alloc (Nat.le_refl _) (.cells #[.int .i64 2, .int .i64 9, str [98]] 37))
  have b4 := Blk.new w3 37 #[.int .i64 2, .int .i64 9, str [98]]
  obtain ⟨p, hp⟩ : ∃ p, w3.heap.size = p := ⟨_, rfl⟩
  rw [hp] at b4
  obtain ⟨w4, hw4⟩ : ∃ w4, w3.alloc (.cells #[.int .i64 2, .int .i64 9, str [98]] 37) = w4 := ⟨_, rfl⟩
  rw [hw4] at HB4 S4 N4 b4
  have hw4' : w3.alloc (.cells #[.int .i64 2, .int .i64 9, .string ⟨#[98]⟩] 37) = w4 := hw4
  clear hw4 S3 N3 HB3
  go_wp2_with fail
  clear hw4' hp
  refine (show_yes w4 g node1 4 S4 (hW.below HB4) _ shows1).mono ?_
  rintro e w5 ⟨rfl, hb5⟩
  have S5 := S4.below hb5
  have N5 := N4.below hb5
  have b5 := b4.below hb5 b4.lt
  have HB5 := HB4.trans (hb5.mono HB4.size)
  clear S4 N4 b4 HB4 hb5
  go_wp2_with fail
  refine (size_yes w5 g node1 4 S5).mono ?_
  rintro e w6 ⟨rfl, hb6⟩
  have S6 := S5.below hb6
  have N6 := N5.below hb6
  have b6 := b5.below hb6 b5.lt
  have HB6 := HB5.trans (hb6.mono HB5.size)
  clear S5 N5 b5 HB5 hb6
  obtain ⟨c0, c1, c2, _⟩ := blk3 b6
  go_wp2_with fail
  refine (Meets_yes w6 g node1 4 S6 2 9 [98] (by decide) true meets1).mono ?_
  rintro e w7 ⟨rfl, hb7⟩
  have S7 := S6.below hb7
  have N7 := N6.below hb7
  have b7 := b6.below hb7 b6.lt
  have HB7 := HB6.trans (hb7.mono HB6.size)
  clear S6 N6 b6 HB6 hb7 c0 c1 c2
  obtain ⟨c0, c1, c2, _⟩ := blk3 b7
  go_wp2_with fail
  refine (Meets_yes w7 g' (.not node1) 5 N7 2 9 [98] (by decide) false meets2).mono ?_
  rintro e w8 ⟨rfl, hb8⟩
  have S8 := S7.below hb8
  have HB8 := HB7.trans (hb8.mono HB7.size)
  clear S7 N7 b7 HB7 hb8 c0 c1 c2
  go_wp2_with fail
  refine (Block_yes w8 g node1 4 S8 me1 (by unfold I64 me1; dsimp only; omega) (by unfold I64 me1; dsimp only; omega) true may1).mono ?_
  rintro e w9 ⟨rfl, hb9⟩
  have S9 := S8.below hb9
  have HB9 := HB8.trans (hb9.mono HB8.size)
  clear S8 HB8 hb9
  go_wp2_with fail
  refine (Block_yes w9 g node1 4 S9 me2 (by unfold I64 me2; dsimp only; omega) (by unfold I64 me2; dsimp only; omega) false may2).mono ?_
  rintro e w10 ⟨rfl, hb10⟩
  have S10 := S9.below hb10
  have HB10 := HB9.trans (hb10.mono HB9.size)
  clear S9 HB9 hb10
  go_wp2_with fail
  refine (Block_yes w10 g node1 4 S10 me3 (by unfold I64 me3; dsimp only; omega) (by unfold I64 me3; dsimp only; omega) false may3).mono ?_
  rintro e w11 ⟨rfl, hb11⟩
  have HB11 := HB10.trans (hb11.mono HB10.size)
  go_wp2_with fail
  go_ret
  exact ⟨rfl, HB11⟩
end SieW
end Go.Proofs.YtdeiehgghhiijaaDoor
