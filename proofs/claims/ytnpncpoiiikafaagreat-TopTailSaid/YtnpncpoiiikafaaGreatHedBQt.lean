/- HedB -/
import Derived.Test.YtnpncpoiiikafaaGreatKmpPQt
import Derived.Test.YtnpncpoiiikafaaGreatLenBQt
import Derived.Deep.DeepCutAuto
import Derived.Test.YtnpncpoiiikafaaGreatMemQt
set_option linter.unusedVariables false
set_option linter.unusedSimpArgs false
set_option linter.unnecessarySimpa false
set_option maxRecDepth 100000
set_option maxHeartbeats 32000000
namespace Go.Proofs.YtnpncpoiiikafaaGreat
open Go.RowKit
namespace HedW
open SkpW (Me mc within_any bseqs_any sM blk7f)
open SufW (w64s)
theorem alone_any (m:Me) (w:World) (v:Bool) (hv:aloneB m = v) :
 Calls Tryz.prog 79 #[.agg (mc m)] w fun e w'=>e = .returned (.bool v)∧Below w.heap.size w w':=by
 obtain ⟨a,s,r,c,f,ea,la⟩:=m
 unfold aloneB inB at hv
 dsimp only at hv
 have C1:=fun w=>within_any a 0 1000000 _ rfl w
 have C2:=fun w=>within_any s 10 60009 _ rfl w
 have C3:=fun w=>within_any r 1 20000 _ rfl w
 have C4:=fun w=>within_any c 1 r _ rfl w
 have C5:=fun w=>within_any f 1 (1000000001 - c) _ rfl w
 have C6:=fun w=>within_any la ea 1000000000 _ rfl w
 have b0:=Blk.new w 33 (mc ⟨a,s,r,c,f,ea,la⟩)
 obtain ⟨⟨k0,k1,k2,k3,k4,k5,k6⟩,_⟩:=blk7f b0
 have HB:Below w.heap.size w (w.alloc (.cells (mc ⟨a,s,r,c,f,ea,la⟩) 33)):=(Below.refl _ w).alloc (Nat.le_refl _) _
 have hw:(1≤r∧r≤20000) → (1≤c∧c≤r) → IntKind.i64.wrap (1000000001 - c) = 1000000001 - c:=fun h1 h2=>w64s (by omega) (by omega)
 have HW:=Lib.hid hw
 clear b0 hw
 obtain ⟨x1,hx1⟩:∃ x,decide (0≤a∧a≤1000000) = x:=⟨_,rfl⟩
 obtain ⟨x2,hx2⟩:∃ x,decide (10≤s∧s≤60009) = x:=⟨_,rfl⟩
 obtain ⟨x3,hx3⟩:∃ x,decide (1≤r∧r≤20000) = x:=⟨_,rfl⟩
 obtain ⟨x4,hx4⟩:∃ x,decide (1≤c∧c≤r) = x:=⟨_,rfl⟩
 obtain ⟨x5,hx5⟩:∃ x,decide (1≤f∧f≤1000000001 - c) = x:=⟨_,rfl⟩
 obtain ⟨x6,hx6⟩:∃ x,decide (ea≤la∧la≤1000000000) = x:=⟨_,rfl⟩
 rw [hx1] at C1 hv
 rw [hx2] at C2 hv
 rw [hx3] at C3 hv
 rw [hx4] at C4 hv
 rw [hx5] at C5 hv
 rw [hx6] at C6 hv
 have H3:=Lib.hid hx3
 have H4:=Lib.hid hx4
 clear hx1 hx2 hx3 hx4 hx5 hx6
 go_enter Tryz.func79,Tryz.ntmps79
 go_wp2_with fail
 refine (C1 _).mono ?_
 rintro e w1 ⟨rfl,rfl⟩
 cases x1 with
 | false =>
  subst hv
  go_wp2_with fail
  go_ret
  exact ⟨rfl,HB⟩
 | true =>
  go_wp2_with fail
  refine (C2 _).mono ?_
  rintro e w1 ⟨rfl,rfl⟩
  cases x2 with
  | false =>
   subst hv
   go_wp2_with fail
   go_ret
   exact ⟨rfl,HB⟩
  | true =>
   go_wp2_with fail
   refine (C3 _).mono ?_
   rintro e w1 ⟨rfl,rfl⟩
   cases x3 with
   | false =>
    subst hv
    go_wp2_with fail
    go_ret
    exact ⟨rfl,HB⟩
   | true =>
    go_wp2_with fail
    refine (C4 _).mono ?_
    rintro e w1 ⟨rfl,rfl⟩
    cases x4 with
    | false =>
     subst hv
     go_wp2_with fail
     go_ret
     exact ⟨rfl,HB⟩
    | true =>
     have hcw:=HW.out (of_decide_eq_true H3.out) (of_decide_eq_true H4.out)
     clear HW H3 H4
     go_wp2_with fail
     refine (C5 _).mono ?_
     rintro e w1 ⟨rfl,rfl⟩
     cases x5 with
     | false =>
      subst hv
      go_wp2_with fail
      go_ret
      exact ⟨rfl,HB⟩
     | true =>
      by_cases h0:0≤ea
      ·rw [decide_eq_true h0] at hv
       go_wp2_with fail
       refine (C6 _).mono ?_
       rintro e w1 ⟨rfl,rfl⟩
       go_wp2_with fail
       go_ret
       exact ⟨by rw [← hv];rfl,HB⟩
      ·rw [decide_eq_false h0] at hv
       subst hv
       go_wp2_with fail
       go_ret
       exact ⟨rfl,HB⟩
theorem seqs_alone (a:Me) (w:World) (ha:aloneB a = true):Calls Tryz.prog 73 #[.agg (mc a)] w fun e w'=>e = .returned (.agg #[.int .i64 a.first,.int .i64 (a.first + (a.count - 1))])∧Below w.heap.size w w':=by
 rw [aloneB_iff] at ha
 have:=bseqs_any a w (by unfold I64;omega) (by unfold I64;omega)
 have e:sM a.count a.first = (a.first,a.first + (a.count - 1)):=by
  unfold sM
  rw [if_neg (by omega),if_neg (by omega)]
 rw [e] at this
 exact this
theorem follows_any (a b:Me) (w:World) (v:Bool) (hv:nextM a b = v) (ha:aloneB a = true) :
 Calls Tryz.prog 80 #[.agg (mc a),.agg (mc b)] w fun e w'=>e = .returned (.bool v)∧Below w.heap.size w w':=by
 have CS:=fun w=>seqs_alone a w ha
 rw [aloneB_iff] at ha
 obtain ⟨a1,a2,a3,a4,a5,a6,a7⟩:=a
 obtain ⟨b1,b2,b3,b4,b5,b6,b7⟩:=b
 unfold nextM at hv
 dsimp only at hv ha CS
 have hw1:IntKind.i64.wrap (a1 + a2) = a1 + a2:=w64s (by omega) (by omega)
 obtain ⟨z,hz⟩:∃ z,a5 + (a4 - 1) = z:=⟨_,rfl⟩
 rw [hz] at CS
 have hz2:a5 + a4 = z + 1:=by omega
 rw [hz2] at hv
 have hw3:IntKind.i64.wrap (z + 1) = z + 1:=w64s (by omega) (by omega)
 obtain ⟨W0,hW0⟩:∃ W0,(w.alloc (.cells (mc ⟨a1,a2,a3,a4,a5,a6,a7⟩) 33)).alloc (.cells (mc ⟨b1,b2,b3,b4,b5,b6,b7⟩) 33) = W0:=⟨_,rfl⟩
 have g1:Blk W0 w.heap.size 33 (mc ⟨a1,a2,a3,a4,a5,a6,a7⟩):=hW0 ▸ (Blk.new _ _ _).alloc _
 have g2:Blk W0 (w.heap.size + 1) 33 (mc ⟨b1,b2,b3,b4,b5,b6,b7⟩):=hW0 ▸ (by simpa using Blk.new (World.alloc w _) _ _)
 have hB0:Below w.heap.size w W0:=hW0 ▸ (by first | exact Below.refl _ _ | (repeat (first | exact Below.refl _ _ | assumption | refine Below.drew ?_ | refine Below.drewN_ ?_ _ | refine Below.alloc ?_ (by first | exact Nat.le_refl _ | (simp;done) | (simp;omega) | omega) _ | refine Below.setCell ?_ (by first | exact Nat.le_refl _ | (simp;done) | (simp;omega) | omega) _ | (refine Below.trans ?_ (Below.mono (by assumption) (by first | exact Nat.le_refl _ | (simp;done) | (simp;omega) | omega))))))
 have hz0:w.heap.size + 2≤W0.heap.size:=by rw [← hW0];simp
 obtain ⟨⟨c0,c1,c2,c3,c4,c5,c6⟩,_⟩:=blk7f g1
 obtain ⟨⟨d0,d1,d2,d3,d4,d5,d6⟩,_⟩:=blk7f g2
 have HW:=Lib.hid hW0
 clear hW0 g1 g2 ha hz hz2
 have hfd:∀ (w:World),(Instr.field 56 (.agg #[.int .i64 a5,.int .i64 z]) 1).run Tryz.prog w = .ok (.int .i64 z) w:=fun w=>by kernel_rfl
 by_cases k1:b1 = a1 + a2
 ·rw [decide_eq_true k1,Bool.true_and] at hv
  have k1b:(b1 == a1 + a2) = true:=by simp [k1]
  have K1:=Lib.hid k1
  clear k1
  by_cases k2:b5 = z + 1
  ·rw [decide_eq_true k2,Bool.true_and] at hv
   have k2b:(b5 == z + 1) = true:=by simp [k2]
   clear k2
   go_enter Tryz.func80,Tryz.ntmps80
   go_wp2_with fail
   rw [HW.out]
   refine wp_region_held_drew (S:=(fun w'=>(∀ b o,b < w.heap.size + 2 → w'.cell? ⟨b,o,none⟩ = W0.cell? ⟨b,o,none⟩)∧w.heap.size + 2≤w'.heap.size∧Below w.heap.size w w')) (by kernel_rfl) ?_ (fun hHeld=>?_)
   ·(try dsimp only);(first | assumption | exact keep_next (by assumption) (by assumption) (by first | exact Nat.le_refl _ | (simp only [World.size_alloc,World.size_setCell,World.size_drew];omega) | (simp;done) | (simp;omega) | omega) | exact keep_alloc (by assumption) (by first | exact Nat.le_refl _ | (simp only [World.size_alloc,World.size_setCell,World.size_drew];omega) | (simp;done) | (simp;omega) | omega) | exact keep_start (by assumption) (by first | assumption | omega) | exact keep_drew (by assumption))
   refine zO 0 (.fieldAddr 33 (.tmp 3) 0) 0 ?_
   refine zO 1 (.load 3 (.tmp 5)) 3 ?_
   refine zO 2 (.fieldAddr 33 (.tmp 2) 0) 0 ?_
   refine zO 3 (.load 3 (.tmp 7)) 3 ?_
   refine zO 4 (.fieldAddr 33 (.tmp 2) 1) 0 ?_
   refine zO 5 (.load 3 (.tmp 9)) 3 ?_
   refine zO 6 (.binOp .add 3 (.tmp 8) (.tmp 10) 3) 3 ?_
   refine zO 7 (.binOp .eql 3 (.tmp 6) (.tmp 11) 3) 4 ?_
   refine zM 8 (.tmp 12) ?_
   refine zO 9 (.fieldAddr 33 (.tmp 3) 4) 0 ?_
   refine zO 10 (.load 3 (.tmp 14)) 3 ?_
   refine zO 11 (.load 33 (.tmp 2)) 33 ?_
   refine take_call 12 73 [Operand.tmp 16] #[33] (by kernel_rfl) rfl rfl rfl rfl (fun args w=>run_enter Tryz.func73 (by kernel_rfl) rfl args w) ?_
   refine (CS _).mono ?_
   rintro e w1 ⟨rfl,hb1⟩
   refine ⟨_,rfl,?_,fun hHeld=>?_⟩
   ·(try dsimp only);(first | assumption | exact keep_next (by assumption) (by assumption) (by first | exact Nat.le_refl _ | (simp only [World.size_alloc,World.size_setCell,World.size_drew];omega) | (simp;done) | (simp;omega) | omega) | exact keep_alloc (by assumption) (by first | exact Nat.le_refl _ | (simp only [World.size_alloc,World.size_setCell,World.size_drew];omega) | (simp;done) | (simp;omega) | omega) | exact keep_start (by assumption) (by first | assumption | omega) | exact keep_drew (by assumption))
   simp only [zSa,zSb,zSc]
   refine zO 13 (.field 56 (.tmp 17) 1) 3 ?_
   refine zO 14 (.binOp .add 3 (.tmp 18) (.const (Value.int IntKind.i64 1)) 3) 3 ?_
   refine zO 15 (.binOp .eql 3 (.tmp 15) (.tmp 19) 3) 4 ?_
   refine zO 16 (.pick (.tmp 13) (.tmp 20) (.const (Value.bool false))) 4 ?_
   refine zM 17 (.tmp 21) ?_
   refine zO 18 (.fieldAddr 33 (.tmp 3) 5) 0 ?_
   refine zO 19 (.load 3 (.tmp 23)) 3 ?_
   refine zO 20 (.fieldAddr 33 (.tmp 2) 6) 0 ?_
   refine zO 21 (.load 3 (.tmp 25)) 3 ?_
   refine zO 22 (.binOp .geq 3 (.tmp 24) (.tmp 26) 3) 4 ?_
   refine zO 23 (.pick (.tmp 22) (.tmp 27) (.const (Value.bool false))) 4 ?_
   refine zO 24 (.assign (.tmp 28)) 4 ?_
   refine wpAnyH_done (by kernel_rfl) ?_ _
   go_wp2_with fail
   go_ret
   exact ⟨by rw [← hv];rfl,(‹(∀ b o,_ → _)∧_∧_›).2.2⟩
  ·rw [decide_eq_false k2,Bool.false_and] at hv
   subst hv
   have k2b:(b5 == z + 1) = false:=by simp [k2]
   clear k2
   go_enter Tryz.func80,Tryz.ntmps80
   go_wp2_with fail
   rw [HW.out]
   refine wp_region_held_drew (S:=(fun w'=>(∀ b o,b < w.heap.size + 2 → w'.cell? ⟨b,o,none⟩ = W0.cell? ⟨b,o,none⟩)∧w.heap.size + 2≤w'.heap.size∧Below w.heap.size w w')) (by kernel_rfl) ?_ (fun hHeld=>?_)
   ·(try dsimp only);(first | assumption | exact keep_next (by assumption) (by assumption) (by first | exact Nat.le_refl _ | (simp only [World.size_alloc,World.size_setCell,World.size_drew];omega) | (simp;done) | (simp;omega) | omega) | exact keep_alloc (by assumption) (by first | exact Nat.le_refl _ | (simp only [World.size_alloc,World.size_setCell,World.size_drew];omega) | (simp;done) | (simp;omega) | omega) | exact keep_start (by assumption) (by first | assumption | omega) | exact keep_drew (by assumption))
   refine zO 0 (.fieldAddr 33 (.tmp 3) 0) 0 ?_
   refine zO 1 (.load 3 (.tmp 5)) 3 ?_
   refine zO 2 (.fieldAddr 33 (.tmp 2) 0) 0 ?_
   refine zO 3 (.load 3 (.tmp 7)) 3 ?_
   refine zO 4 (.fieldAddr 33 (.tmp 2) 1) 0 ?_
   refine zO 5 (.load 3 (.tmp 9)) 3 ?_
   refine zO 6 (.binOp .add 3 (.tmp 8) (.tmp 10) 3) 3 ?_
   refine zO 7 (.binOp .eql 3 (.tmp 6) (.tmp 11) 3) 4 ?_
   refine zM 8 (.tmp 12) ?_
   refine zO 9 (.fieldAddr 33 (.tmp 3) 4) 0 ?_
   refine zO 10 (.load 3 (.tmp 14)) 3 ?_
   refine zO 11 (.load 33 (.tmp 2)) 33 ?_
   refine take_call 12 73 [Operand.tmp 16] #[33] (by kernel_rfl) rfl rfl rfl rfl (fun args w=>run_enter Tryz.func73 (by kernel_rfl) rfl args w) ?_
   refine (CS _).mono ?_
   rintro e w1 ⟨rfl,hb1⟩
   refine ⟨_,rfl,?_,fun hHeld=>?_⟩
   ·(try dsimp only);(first | assumption | exact keep_next (by assumption) (by assumption) (by first | exact Nat.le_refl _ | (simp only [World.size_alloc,World.size_setCell,World.size_drew];omega) | (simp;done) | (simp;omega) | omega) | exact keep_alloc (by assumption) (by first | exact Nat.le_refl _ | (simp only [World.size_alloc,World.size_setCell,World.size_drew];omega) | (simp;done) | (simp;omega) | omega) | exact keep_start (by assumption) (by first | assumption | omega) | exact keep_drew (by assumption))
   simp only [zSa,zSb,zSc]
   refine zO 13 (.field 56 (.tmp 17) 1) 3 ?_
   refine zO 14 (.binOp .add 3 (.tmp 18) (.const (Value.int IntKind.i64 1)) 3) 3 ?_
   refine zO 15 (.binOp .eql 3 (.tmp 15) (.tmp 19) 3) 4 ?_
   refine zO 16 (.pick (.tmp 13) (.tmp 20) (.const (Value.bool false))) 4 ?_
   refine zM 17 (.tmp 21) ?_
   refine zK 18 ?_
   refine zK 19 ?_
   refine zK 20 ?_
   refine zK 21 ?_
   refine zK 22 ?_
   refine zO 23 (.pick (.tmp 22) (.tmp 27) (.const (Value.bool false))) 4 ?_
   refine zO 24 (.assign (.tmp 28)) 4 ?_
   refine wpAnyH_done (by kernel_rfl) ?_ _
   go_wp2_with fail
   go_ret
   exact ⟨rfl,(‹(∀ b o,_ → _)∧_∧_›).2.2⟩
 ·rw [decide_eq_false k1,Bool.false_and] at hv
  subst hv
  have k1b:(b1 == a1 + a2) = false:=by simp [k1]
  clear k1
  go_enter Tryz.func80,Tryz.ntmps80
  go_wp2_with fail
  rw [HW.out]
  refine wp_region_held_drew (S:=(fun w'=>(∀ b o,b < w.heap.size + 2 → w'.cell? ⟨b,o,none⟩ = W0.cell? ⟨b,o,none⟩)∧w.heap.size + 2≤w'.heap.size∧Below w.heap.size w w')) (by kernel_rfl) ?_ (fun hHeld=>?_)
  ·(try dsimp only);(first | assumption | exact keep_next (by assumption) (by assumption) (by first | exact Nat.le_refl _ | (simp only [World.size_alloc,World.size_setCell,World.size_drew];omega) | (simp;done) | (simp;omega) | omega) | exact keep_alloc (by assumption) (by first | exact Nat.le_refl _ | (simp only [World.size_alloc,World.size_setCell,World.size_drew];omega) | (simp;done) | (simp;omega) | omega) | exact keep_start (by assumption) (by first | assumption | omega) | exact keep_drew (by assumption))
  refine zO 0 (.fieldAddr 33 (.tmp 3) 0) 0 ?_
  refine zO 1 (.load 3 (.tmp 5)) 3 ?_
  refine zO 2 (.fieldAddr 33 (.tmp 2) 0) 0 ?_
  refine zO 3 (.load 3 (.tmp 7)) 3 ?_
  refine zO 4 (.fieldAddr 33 (.tmp 2) 1) 0 ?_
  refine zO 5 (.load 3 (.tmp 9)) 3 ?_
  refine zO 6 (.binOp .add 3 (.tmp 8) (.tmp 10) 3) 3 ?_
  refine zO 7 (.binOp .eql 3 (.tmp 6) (.tmp 11) 3) 4 ?_
  refine zM 8 (.tmp 12) ?_
  refine zK 9 ?_
  refine zK 10 ?_
  refine zK 11 ?_
  refine zK 12 ?_
  refine zK 13 ?_
  refine zK 14 ?_
  refine zK 15 ?_
  refine zO 16 (.pick (.tmp 13) (.tmp 20) (.const (Value.bool false))) 4 ?_
  refine zM 17 (.tmp 21) ?_
  refine zK 18 ?_
  refine zK 19 ?_
  refine zK 20 ?_
  refine zK 21 ?_
  refine zK 22 ?_
  refine zO 23 (.pick (.tmp 22) (.tmp 27) (.const (Value.bool false))) 4 ?_
  refine zO 24 (.assign (.tmp 28)) 4 ?_
  refine wpAnyH_done (by kernel_rfl) ?_ _
  go_wp2_with fail
  go_ret
  exact ⟨rfl,(‹(∀ b o,_ → _)∧_∧_›).2.2⟩
end HedW
end Go.Proofs.YtnpncpoiiikafaaGreat
