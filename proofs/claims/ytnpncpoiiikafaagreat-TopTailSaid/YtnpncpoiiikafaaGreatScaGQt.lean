/- ScaG -/
import Derived.Test.YtnpncpoiiikafaaGreatScaAQt
import Derived.Test.YtnpncpoiiikafaaGreatMemQt
set_option linter.unusedVariables false
set_option linter.unusedSimpArgs false
set_option linter.unnecessarySimpa false
set_option maxRecDepth 100000
set_option maxHeartbeats 32000000
namespace Go.Proofs.YtnpncpoiiikafaaGreat
open Go.RowKit
namespace ScaW
open SkpW (Me mc blk7f set7 low7)
open SufW (w64s)
open HedW (mcells rd_mlen Blocks_any blocksV blocksV_ok aloneB)
theorem goes_any (m:Me) (gl gh gt:Nat) (A:Option Addr) (n c:Nat) (l:List Me) (i g f t:Int) (w:World) (bl:Blk w gl 25 #[.slice A n c]) (bh:Blk w gh 23 #[.int .i64 i,.int .i64 g,.int .i64 f]) (bt:Blk w gt 3 #[.int .i64 t])
 (hr0:Rd w w.heap.size 7 A n (mcells l)) (hn:n≤1000) (v:Bool) (hv:goesB f l t m = v) :
 Calls Tryz.prog 29 #[.agg (mc m),.pointer (some ⟨gl,0,none⟩),.pointer (some ⟨gh,0,none⟩),.pointer (some ⟨gt,0,none⟩)] w fun e w'=>e = .returned (.bool v)∧Below w.heap.size w w':=by
 have hl:=rd_mlen hr0
 unfold goesB at hv
 rw [hl] at hv
 obtain ⟨nv,hnv⟩:∃ nv,nextV f l = nv:=⟨_,rfl⟩
 obtain ⟨bv,hbv⟩:∃ bv,blocksV [m] = bv:=⟨_,rfl⟩
 rw [hnv,hbv] at hv
 obtain ⟨m0,m1,m2,m3,m4,m5,m6⟩:=m
 dsimp only at hv
 have CN:=fun w h=>Next_any i g f A n c l w h (by omega) nv hnv
 have CB:=fun A2 w h=>Blocks_any A2 1 1 [⟨m0,m1,m2,m3,m4,m5,m6⟩] w h (by omega) bv hbv
 have HCN:=Lib.hid CN
 have HCB:=Lib.hid CB
 clear CN CB hnv hbv
 obtain ⟨w0,hw0⟩:∃ w0,w.alloc (.cells (mc ⟨m0,m1,m2,m3,m4,m5,m6⟩) 33) = w0:=⟨_,rfl⟩
 have hw0':w.alloc (.cells #[.int .i64 m0,.int .i64 m1,.int .i64 m2,.int .i64 m3,.int .i64 m4,.int .i64 m5,.int .i64 m6] 33) = w0:=hw0
 have bm:Blk w0 w.heap.size 33 (mc ⟨m0,m1,m2,m3,m4,m5,m6⟩):=by rw [← hw0];exact Blk.new _ _ _
 have HB:Below w.heap.size w w0:=by rw [← hw0];exact (Below.refl w.heap.size w).alloc (Nat.le_refl _) _
 have hl1:=bl.lt
 have hl2:=bh.lt
 have hl3:=bt.lt
 have hl4:=bm.lt
 have hr:Rd w0 w.heap.size 7 A n (mcells l):=hr0.below HB
 replace bl:=bl.alloc (.cells (mc ⟨m0,m1,m2,m3,m4,m5,m6⟩) 33)
 replace bh:=bh.alloc (.cells (mc ⟨m0,m1,m2,m3,m4,m5,m6⟩) 33)
 replace bt:=bt.alloc (.cells (mc ⟨m0,m1,m2,m3,m4,m5,m6⟩) 33)
 rw [hw0] at bl bh bt
 have HW:=Lib.hid hw0'
 have hlz:=HB.size
 clear hw0 hw0' hl hr0
 by_cases k1:n < 1000
 ·have k1I:(n:Int) < 1000:=by omega
  rw [decide_eq_true k1,Bool.true_and] at hv
  by_cases k2:m4 = nv
  ·have k2b:(m4 == nv) = true:=by simp [k2]
   rw [decide_eq_true k2,Bool.true_and] at hv
   clear k2
   by_cases k3:t≤m5
   ·rw [decide_eq_true k3,Bool.true_and] at hv
    have hvb:(bv == 0) = v:=by rw [← hv];rfl
    clear hv
    go_enter Tryz.func29,Tryz.ntmps29
    go_wp2_with fail
    rw [HW.out]
    refine wp_region_held_drew (S:=(fun w'=>w'.cell? ⟨gl,0,none⟩ = some (.slice A n c)∧w'.cell? ⟨gh,0,none⟩ = some (.int .i64 i)∧w'.cell? ⟨gh,1,none⟩ = some (.int .i64 g)∧w'.cell? ⟨gh,2,none⟩ = some (.int .i64 f)∧w'.cell? ⟨gt,0,none⟩ = some (.int .i64 t)∧w'.cell? ⟨w.heap.size,0,none⟩ = some (.int .i64 m0)∧w'.cell? ⟨w.heap.size,1,none⟩ = some (.int .i64 m1)∧w'.cell? ⟨w.heap.size,2,none⟩ = some (.int .i64 m2)∧w'.cell? ⟨w.heap.size,3,none⟩ = some (.int .i64 m3)∧w'.cell? ⟨w.heap.size,4,none⟩ = some (.int .i64 m4)∧w'.cell? ⟨w.heap.size,5,none⟩ = some (.int .i64 m5)∧w'.cell? ⟨w.heap.size,6,none⟩ = some (.int .i64 m6))) (by kernel_rfl) ?_ (fun hHeld=>?_)
    ·replace bl:=Blk.drew bl;replace bh:=Blk.drew bh;replace bt:=Blk.drew bt;replace bm:=Blk.drew bm;replace hr:=Rd.drew hr;replace HB:=Below.drew HB;(try dsimp only);exact ⟨bl.cell_ 0 rfl,bh.cell_ 0 rfl,bh.cell_ 1 rfl,bh.cell_ 2 rfl,bt.cell_ 0 rfl,bm.cell_ 0 rfl,bm.cell_ 1 rfl,bm.cell_ 2 rfl,bm.cell_ 3 rfl,bm.cell_ 4 rfl,bm.cell_ 5 rfl,bm.cell_ 6 rfl⟩
    replace bl:=Blk.drew bl
    replace bh:=Blk.drew bh
    replace bt:=Blk.drew bt
    replace bm:=Blk.drew bm
    replace hr:=Rd.drew hr
    replace HB:=Below.drew HB
    have zHB:=HB.size
    refine zO 0 (.load 25 (.tmp 1)) 25 ?_
    refine zO 1 (.call { callee:=.builtin Builtin.len,args:=#[.tmp 6],argTypes:=#[25] }) 3 ?_
    refine zO 2 (.binOp .lss 3 (.tmp 7) (.const (Value.int IntKind.i64 1000)) 3) 4 ?_
    refine zM 3 (.tmp 8) ?_
    refine zO 4 (.fieldAddr 33 (.tmp 4) 4) 0 ?_
    refine zO 5 (.load 3 (.tmp 10)) 3 ?_
    refine zO 6 (.load 23 (.tmp 2)) 23 ?_
    refine zO 7 (.load 25 (.tmp 1)) 25 ?_
    refine zR 8 (fun K8 hK8=>?_)
    refine take_calls 8 30 [Operand.tmp 12,Operand.tmp 13] #[23,25] rfl rfl (by kernel_rfl) (fun args w=>run_enter Tryz.func30 (by kernel_rfl) rfl args w) ?_
    refine (HCN.out _ (hr.more HB.size)).mono ?_
    rintro e w8 ⟨rfl,hb8⟩
    refine ⟨_,rfl,?_⟩
    have z8:=hb8.size
    try simp only [World.size_drew] at z8
    replace bl:=Blk.below bl hb8 (by first | exact Nat.le_refl _ | (simp only [World.size_alloc,World.size_setCell,World.size_drew] at *;omega) | omega)
    replace bh:=Blk.below bh hb8 (by first | exact Nat.le_refl _ | (simp only [World.size_alloc,World.size_setCell,World.size_drew] at *;omega) | omega)
    replace bt:=Blk.below bt hb8 (by first | exact Nat.le_refl _ | (simp only [World.size_alloc,World.size_setCell,World.size_drew] at *;omega) | omega)
    replace bm:=Blk.below bm hb8 (by first | exact Nat.le_refl _ | (simp only [World.size_alloc,World.size_setCell,World.size_drew] at *;omega) | omega)
    replace hr:=Rd.below hr (hb8.mono (by first | exact Nat.le_refl _ | (simp only [World.size_alloc,World.size_setCell,World.size_drew] at *;omega) | omega))
    replace HB:=HB.trans (hb8.mono (by first | exact HB.size | omega))
    have zHB8:=HB.size
    refine hK8.out _ _ ?su1x8 (fun hHeld=>?ru1x8)
    case su1x8=>((try dsimp only);exact ⟨bl.cell_ 0 rfl,bh.cell_ 0 rfl,bh.cell_ 1 rfl,bh.cell_ 2 rfl,bt.cell_ 0 rfl,bm.cell_ 0 rfl,bm.cell_ 1 rfl,bm.cell_ 2 rfl,bm.cell_ 3 rfl,bm.cell_ 4 rfl,bm.cell_ 5 rfl,bm.cell_ 6 rfl⟩)
    try simp only [zSa,zSb,zSc]
    refine zO 9 (.binOp .eql 3 (.tmp 11) (.tmp 14) 3) 4 ?_
    refine zO 10 (.pick (.tmp 9) (.tmp 15) (.const (Value.bool false))) 4 ?_
    refine zM 11 (.tmp 16) ?_
    refine zO 12 (.fieldAddr 33 (.tmp 4) 5) 0 ?_
    refine zO 13 (.load 3 (.tmp 18)) 3 ?_
    refine zO 14 (.load 3 (.tmp 3)) 3 ?_
    refine zO 15 (.binOp .geq 3 (.tmp 19) (.tmp 20) 3) 4 ?_
    refine zO 16 (.pick (.tmp 17) (.tmp 21) (.const (Value.bool false))) 4 ?_
    refine zM 17 (.tmp 22) ?_
    refine zO 18 (.load 33 (.tmp 4)) 33 ?_
    refine zR 19 (fun K19 hK19=>?_)
    refine take_build (e:=33) (len:=1) (size:=7) (w.heap.size) ([.int .i64 m0,.int .i64 m1,.int .i64 m2,.int .i64 m3,.int .i64 m4,.int .i64 m5,.int .i64 m6]) 19 (Op.buildSlice 25 1 #[(0,Operand.tmp 24)]) 25 rfl rfl rfl (by kernel_rfl) ?eu1x19 (by rfl) (by decide) (by first | exact Nat.le_refl _ | (simp only [World.size_alloc,World.size_setCell,World.size_drew] at *;omega) | omega) ?_
    case eu1x19=>(go_simp;try (first | with_reducible rfl | (simp [rcells,rcell];done) | (simp [fcells];done) | (simp [tcells];done) | rfl))
    intro gx19 w19 o19 gr19 l19 m19
    have z19:=gr19.size
    try simp only [World.size_drew] at z19
    replace bl:=Blk.grow0 bl gr19
    replace bh:=Blk.grow0 bh gr19
    replace bt:=Blk.grow0 bt gr19
    replace bm:=Blk.grow0 bm gr19
    replace hr:=Rd.grow0 hr gr19 (by first | exact Nat.le_refl _ | (simp only [World.size_alloc,World.size_setCell,World.size_drew] at *;omega) | omega)
    replace HB:=below_grow HB gr19
    have zHB19:=HB.size
    refine hK19.out _ _ ?su1x19 (fun hHeld=>?ru1x19)
    case su1x19=>((try dsimp only);exact ⟨bl.cell_ 0 rfl,bh.cell_ 0 rfl,bh.cell_ 1 rfl,bh.cell_ 2 rfl,bt.cell_ 0 rfl,bm.cell_ 0 rfl,bm.cell_ 1 rfl,bm.cell_ 2 rfl,bm.cell_ 3 rfl,bm.cell_ 4 rfl,bm.cell_ 5 rfl,bm.cell_ 6 rfl⟩)
    try simp only [zSa,zSb,zSc]
    refine zR 20 (fun K20 hK20=>?_)
    refine take_calls 20 31 [Operand.tmp 25] #[25] rfl rfl (by kernel_rfl) (fun args w=>run_enter Tryz.func31 (by kernel_rfl) rfl args w) ?_
    refine (HCB.out _ _ o19.rd).mono ?_
    rintro e w20 ⟨rfl,hb20⟩
    refine ⟨_,rfl,?_⟩
    have z20:=hb20.size
    try simp only [World.size_drew] at z20
    replace bl:=Blk.below bl hb20 (by first | exact Nat.le_refl _ | (simp only [World.size_alloc,World.size_setCell,World.size_drew] at *;omega) | omega)
    replace bh:=Blk.below bh hb20 (by first | exact Nat.le_refl _ | (simp only [World.size_alloc,World.size_setCell,World.size_drew] at *;omega) | omega)
    replace bt:=Blk.below bt hb20 (by first | exact Nat.le_refl _ | (simp only [World.size_alloc,World.size_setCell,World.size_drew] at *;omega) | omega)
    replace bm:=Blk.below bm hb20 (by first | exact Nat.le_refl _ | (simp only [World.size_alloc,World.size_setCell,World.size_drew] at *;omega) | omega)
    replace hr:=Rd.below hr (hb20.mono (by first | exact Nat.le_refl _ | (simp only [World.size_alloc,World.size_setCell,World.size_drew] at *;omega) | omega))
    replace HB:=HB.trans (hb20.mono (by first | exact HB.size | omega))
    have zHB20:=HB.size
    replace o19:=Own.below o19 hb20
    refine hK20.out _ _ ?su1x20 (fun hHeld=>?ru1x20)
    case su1x20=>((try dsimp only);exact ⟨bl.cell_ 0 rfl,bh.cell_ 0 rfl,bh.cell_ 1 rfl,bh.cell_ 2 rfl,bt.cell_ 0 rfl,bm.cell_ 0 rfl,bm.cell_ 1 rfl,bm.cell_ 2 rfl,bm.cell_ 3 rfl,bm.cell_ 4 rfl,bm.cell_ 5 rfl,bm.cell_ 6 rfl⟩)
    try simp only [zSa,zSb,zSc]
    refine zO 21 (.binOp .eql 26 (.tmp 26) (.const (Value.int IntKind.i64 0)) 26) 4 ?_
    refine zO 22 (.pick (.tmp 23) (.tmp 27) (.const (Value.bool false))) 4 ?_
    refine zO 23 (.assign (.tmp 28)) 4 ?_
    refine wpAnyH_done (by kernel_rfl) ?_ _
    go_wp2_with fail
    go_ret
    exact ⟨by rw [← hvb];rfl,HB⟩
   ·rw [decide_eq_false k3,Bool.false_and] at hv
    subst hv
    have k3b:decide (t≤m5) = false:=decide_eq_false k3
    go_enter Tryz.func29,Tryz.ntmps29
    go_wp2_with fail
    rw [HW.out]
    refine wp_region_held_drew (S:=(fun w'=>w'.cell? ⟨gl,0,none⟩ = some (.slice A n c)∧w'.cell? ⟨gh,0,none⟩ = some (.int .i64 i)∧w'.cell? ⟨gh,1,none⟩ = some (.int .i64 g)∧w'.cell? ⟨gh,2,none⟩ = some (.int .i64 f)∧w'.cell? ⟨gt,0,none⟩ = some (.int .i64 t)∧w'.cell? ⟨w.heap.size,0,none⟩ = some (.int .i64 m0)∧w'.cell? ⟨w.heap.size,1,none⟩ = some (.int .i64 m1)∧w'.cell? ⟨w.heap.size,2,none⟩ = some (.int .i64 m2)∧w'.cell? ⟨w.heap.size,3,none⟩ = some (.int .i64 m3)∧w'.cell? ⟨w.heap.size,4,none⟩ = some (.int .i64 m4)∧w'.cell? ⟨w.heap.size,5,none⟩ = some (.int .i64 m5)∧w'.cell? ⟨w.heap.size,6,none⟩ = some (.int .i64 m6))) (by kernel_rfl) ?_ (fun hHeld=>?_)
    ·replace bl:=Blk.drew bl;replace bh:=Blk.drew bh;replace bt:=Blk.drew bt;replace bm:=Blk.drew bm;replace hr:=Rd.drew hr;replace HB:=Below.drew HB;(try dsimp only);exact ⟨bl.cell_ 0 rfl,bh.cell_ 0 rfl,bh.cell_ 1 rfl,bh.cell_ 2 rfl,bt.cell_ 0 rfl,bm.cell_ 0 rfl,bm.cell_ 1 rfl,bm.cell_ 2 rfl,bm.cell_ 3 rfl,bm.cell_ 4 rfl,bm.cell_ 5 rfl,bm.cell_ 6 rfl⟩
    replace bl:=Blk.drew bl
    replace bh:=Blk.drew bh
    replace bt:=Blk.drew bt
    replace bm:=Blk.drew bm
    replace hr:=Rd.drew hr
    replace HB:=Below.drew HB
    have zHB:=HB.size
    refine zO 0 (.load 25 (.tmp 1)) 25 ?_
    refine zO 1 (.call { callee:=.builtin Builtin.len,args:=#[.tmp 6],argTypes:=#[25] }) 3 ?_
    refine zO 2 (.binOp .lss 3 (.tmp 7) (.const (Value.int IntKind.i64 1000)) 3) 4 ?_
    refine zM 3 (.tmp 8) ?_
    refine zO 4 (.fieldAddr 33 (.tmp 4) 4) 0 ?_
    refine zO 5 (.load 3 (.tmp 10)) 3 ?_
    refine zO 6 (.load 23 (.tmp 2)) 23 ?_
    refine zO 7 (.load 25 (.tmp 1)) 25 ?_
    refine zR 8 (fun K8 hK8=>?_)
    refine take_calls 8 30 [Operand.tmp 12,Operand.tmp 13] #[23,25] rfl rfl (by kernel_rfl) (fun args w=>run_enter Tryz.func30 (by kernel_rfl) rfl args w) ?_
    refine (HCN.out _ (hr.more HB.size)).mono ?_
    rintro e w8 ⟨rfl,hb8⟩
    refine ⟨_,rfl,?_⟩
    have z8:=hb8.size
    try simp only [World.size_drew] at z8
    replace bl:=Blk.below bl hb8 (by first | exact Nat.le_refl _ | (simp only [World.size_alloc,World.size_setCell,World.size_drew] at *;omega) | omega)
    replace bh:=Blk.below bh hb8 (by first | exact Nat.le_refl _ | (simp only [World.size_alloc,World.size_setCell,World.size_drew] at *;omega) | omega)
    replace bt:=Blk.below bt hb8 (by first | exact Nat.le_refl _ | (simp only [World.size_alloc,World.size_setCell,World.size_drew] at *;omega) | omega)
    replace bm:=Blk.below bm hb8 (by first | exact Nat.le_refl _ | (simp only [World.size_alloc,World.size_setCell,World.size_drew] at *;omega) | omega)
    replace hr:=Rd.below hr (hb8.mono (by first | exact Nat.le_refl _ | (simp only [World.size_alloc,World.size_setCell,World.size_drew] at *;omega) | omega))
    replace HB:=HB.trans (hb8.mono (by first | exact HB.size | omega))
    have zHB8:=HB.size
    refine hK8.out _ _ ?su2x8 (fun hHeld=>?ru2x8)
    case su2x8=>((try dsimp only);exact ⟨bl.cell_ 0 rfl,bh.cell_ 0 rfl,bh.cell_ 1 rfl,bh.cell_ 2 rfl,bt.cell_ 0 rfl,bm.cell_ 0 rfl,bm.cell_ 1 rfl,bm.cell_ 2 rfl,bm.cell_ 3 rfl,bm.cell_ 4 rfl,bm.cell_ 5 rfl,bm.cell_ 6 rfl⟩)
    try simp only [zSa,zSb,zSc]
    refine zO 9 (.binOp .eql 3 (.tmp 11) (.tmp 14) 3) 4 ?_
    refine zO 10 (.pick (.tmp 9) (.tmp 15) (.const (Value.bool false))) 4 ?_
    refine zM 11 (.tmp 16) ?_
    refine zO 12 (.fieldAddr 33 (.tmp 4) 5) 0 ?_
    refine zO 13 (.load 3 (.tmp 18)) 3 ?_
    refine zO 14 (.load 3 (.tmp 3)) 3 ?_
    refine zO 15 (.binOp .geq 3 (.tmp 19) (.tmp 20) 3) 4 ?_
    refine zO 16 (.pick (.tmp 17) (.tmp 21) (.const (Value.bool false))) 4 ?_
    refine zM 17 (.tmp 22) ?_
    refine zK 18 ?_
    refine zK 19 ?_
    refine zK 20 ?_
    refine zK 21 ?_
    refine zO 22 (.pick (.tmp 23) (.tmp 27) (.const (Value.bool false))) 4 ?_
    refine zO 23 (.assign (.tmp 28)) 4 ?_
    refine wpAnyH_done (by kernel_rfl) ?_ _
    go_wp2_with fail
    go_ret
    exact ⟨rfl,HB⟩
  ·have k2b:(m4 == nv) = false:=by simp [k2]
   rw [decide_eq_false k2,Bool.false_and] at hv
   subst hv
   clear k2
   go_enter Tryz.func29,Tryz.ntmps29
   go_wp2_with fail
   rw [HW.out]
   refine wp_region_held_drew (S:=(fun w'=>w'.cell? ⟨gl,0,none⟩ = some (.slice A n c)∧w'.cell? ⟨gh,0,none⟩ = some (.int .i64 i)∧w'.cell? ⟨gh,1,none⟩ = some (.int .i64 g)∧w'.cell? ⟨gh,2,none⟩ = some (.int .i64 f)∧w'.cell? ⟨gt,0,none⟩ = some (.int .i64 t)∧w'.cell? ⟨w.heap.size,0,none⟩ = some (.int .i64 m0)∧w'.cell? ⟨w.heap.size,1,none⟩ = some (.int .i64 m1)∧w'.cell? ⟨w.heap.size,2,none⟩ = some (.int .i64 m2)∧w'.cell? ⟨w.heap.size,3,none⟩ = some (.int .i64 m3)∧w'.cell? ⟨w.heap.size,4,none⟩ = some (.int .i64 m4)∧w'.cell? ⟨w.heap.size,5,none⟩ = some (.int .i64 m5)∧w'.cell? ⟨w.heap.size,6,none⟩ = some (.int .i64 m6))) (by kernel_rfl) ?_ (fun hHeld=>?_)
   ·replace bl:=Blk.drew bl;replace bh:=Blk.drew bh;replace bt:=Blk.drew bt;replace bm:=Blk.drew bm;replace hr:=Rd.drew hr;replace HB:=Below.drew HB;(try dsimp only);exact ⟨bl.cell_ 0 rfl,bh.cell_ 0 rfl,bh.cell_ 1 rfl,bh.cell_ 2 rfl,bt.cell_ 0 rfl,bm.cell_ 0 rfl,bm.cell_ 1 rfl,bm.cell_ 2 rfl,bm.cell_ 3 rfl,bm.cell_ 4 rfl,bm.cell_ 5 rfl,bm.cell_ 6 rfl⟩
   replace bl:=Blk.drew bl
   replace bh:=Blk.drew bh
   replace bt:=Blk.drew bt
   replace bm:=Blk.drew bm
   replace hr:=Rd.drew hr
   replace HB:=Below.drew HB
   have zHB:=HB.size
   refine zO 0 (.load 25 (.tmp 1)) 25 ?_
   refine zO 1 (.call { callee:=.builtin Builtin.len,args:=#[.tmp 6],argTypes:=#[25] }) 3 ?_
   refine zO 2 (.binOp .lss 3 (.tmp 7) (.const (Value.int IntKind.i64 1000)) 3) 4 ?_
   refine zM 3 (.tmp 8) ?_
   refine zO 4 (.fieldAddr 33 (.tmp 4) 4) 0 ?_
   refine zO 5 (.load 3 (.tmp 10)) 3 ?_
   refine zO 6 (.load 23 (.tmp 2)) 23 ?_
   refine zO 7 (.load 25 (.tmp 1)) 25 ?_
   refine zR 8 (fun K8 hK8=>?_)
   refine take_calls 8 30 [Operand.tmp 12,Operand.tmp 13] #[23,25] rfl rfl (by kernel_rfl) (fun args w=>run_enter Tryz.func30 (by kernel_rfl) rfl args w) ?_
   refine (HCN.out _ (hr.more HB.size)).mono ?_
   rintro e w8 ⟨rfl,hb8⟩
   refine ⟨_,rfl,?_⟩
   have z8:=hb8.size
   try simp only [World.size_drew] at z8
   replace bl:=Blk.below bl hb8 (by first | exact Nat.le_refl _ | (simp only [World.size_alloc,World.size_setCell,World.size_drew] at *;omega) | omega)
   replace bh:=Blk.below bh hb8 (by first | exact Nat.le_refl _ | (simp only [World.size_alloc,World.size_setCell,World.size_drew] at *;omega) | omega)
   replace bt:=Blk.below bt hb8 (by first | exact Nat.le_refl _ | (simp only [World.size_alloc,World.size_setCell,World.size_drew] at *;omega) | omega)
   replace bm:=Blk.below bm hb8 (by first | exact Nat.le_refl _ | (simp only [World.size_alloc,World.size_setCell,World.size_drew] at *;omega) | omega)
   replace hr:=Rd.below hr (hb8.mono (by first | exact Nat.le_refl _ | (simp only [World.size_alloc,World.size_setCell,World.size_drew] at *;omega) | omega))
   replace HB:=HB.trans (hb8.mono (by first | exact HB.size | omega))
   have zHB8:=HB.size
   refine hK8.out _ _ ?su3x8 (fun hHeld=>?ru3x8)
   case su3x8=>((try dsimp only);exact ⟨bl.cell_ 0 rfl,bh.cell_ 0 rfl,bh.cell_ 1 rfl,bh.cell_ 2 rfl,bt.cell_ 0 rfl,bm.cell_ 0 rfl,bm.cell_ 1 rfl,bm.cell_ 2 rfl,bm.cell_ 3 rfl,bm.cell_ 4 rfl,bm.cell_ 5 rfl,bm.cell_ 6 rfl⟩)
   try simp only [zSa,zSb,zSc]
   refine zO 9 (.binOp .eql 3 (.tmp 11) (.tmp 14) 3) 4 ?_
   refine zO 10 (.pick (.tmp 9) (.tmp 15) (.const (Value.bool false))) 4 ?_
   refine zM 11 (.tmp 16) ?_
   refine zK 12 ?_
   refine zK 13 ?_
   refine zK 14 ?_
   refine zK 15 ?_
   refine zO 16 (.pick (.tmp 17) (.tmp 21) (.const (Value.bool false))) 4 ?_
   refine zM 17 (.tmp 22) ?_
   refine zK 18 ?_
   refine zK 19 ?_
   refine zK 20 ?_
   refine zK 21 ?_
   refine zO 22 (.pick (.tmp 23) (.tmp 27) (.const (Value.bool false))) 4 ?_
   refine zO 23 (.assign (.tmp 28)) 4 ?_
   refine wpAnyH_done (by kernel_rfl) ?_ _
   go_wp2_with fail
   go_ret
   exact ⟨rfl,HB⟩
 ·have k1I:¬ (n:Int) < 1000:=by omega
  have k1b:decide ((n:Int) < 1000) = false:=decide_eq_false k1I
  rw [decide_eq_false k1,Bool.false_and] at hv
  subst hv
  clear k1
  go_enter Tryz.func29,Tryz.ntmps29
  go_wp2_with fail
  rw [HW.out]
  refine wp_region_held_drew (S:=(fun w'=>w'.cell? ⟨gl,0,none⟩ = some (.slice A n c)∧w'.cell? ⟨gh,0,none⟩ = some (.int .i64 i)∧w'.cell? ⟨gh,1,none⟩ = some (.int .i64 g)∧w'.cell? ⟨gh,2,none⟩ = some (.int .i64 f)∧w'.cell? ⟨gt,0,none⟩ = some (.int .i64 t)∧w'.cell? ⟨w.heap.size,0,none⟩ = some (.int .i64 m0)∧w'.cell? ⟨w.heap.size,1,none⟩ = some (.int .i64 m1)∧w'.cell? ⟨w.heap.size,2,none⟩ = some (.int .i64 m2)∧w'.cell? ⟨w.heap.size,3,none⟩ = some (.int .i64 m3)∧w'.cell? ⟨w.heap.size,4,none⟩ = some (.int .i64 m4)∧w'.cell? ⟨w.heap.size,5,none⟩ = some (.int .i64 m5)∧w'.cell? ⟨w.heap.size,6,none⟩ = some (.int .i64 m6))) (by kernel_rfl) ?_ (fun hHeld=>?_)
  ·replace bl:=Blk.drew bl;replace bh:=Blk.drew bh;replace bt:=Blk.drew bt;replace bm:=Blk.drew bm;replace hr:=Rd.drew hr;replace HB:=Below.drew HB;(try dsimp only);exact ⟨bl.cell_ 0 rfl,bh.cell_ 0 rfl,bh.cell_ 1 rfl,bh.cell_ 2 rfl,bt.cell_ 0 rfl,bm.cell_ 0 rfl,bm.cell_ 1 rfl,bm.cell_ 2 rfl,bm.cell_ 3 rfl,bm.cell_ 4 rfl,bm.cell_ 5 rfl,bm.cell_ 6 rfl⟩
  replace bl:=Blk.drew bl
  replace bh:=Blk.drew bh
  replace bt:=Blk.drew bt
  replace bm:=Blk.drew bm
  replace hr:=Rd.drew hr
  replace HB:=Below.drew HB
  have zHB:=HB.size
  refine zO 0 (.load 25 (.tmp 1)) 25 ?_
  refine zO 1 (.call { callee:=.builtin Builtin.len,args:=#[.tmp 6],argTypes:=#[25] }) 3 ?_
  refine zO 2 (.binOp .lss 3 (.tmp 7) (.const (Value.int IntKind.i64 1000)) 3) 4 ?_
  refine zM 3 (.tmp 8) ?_
  refine zK 4 ?_
  refine zK 5 ?_
  refine zK 6 ?_
  refine zK 7 ?_
  refine zK 8 ?_
  refine zK 9 ?_
  refine zO 10 (.pick (.tmp 9) (.tmp 15) (.const (Value.bool false))) 4 ?_
  refine zM 11 (.tmp 16) ?_
  refine zK 12 ?_
  refine zK 13 ?_
  refine zK 14 ?_
  refine zK 15 ?_
  refine zO 16 (.pick (.tmp 17) (.tmp 21) (.const (Value.bool false))) 4 ?_
  refine zM 17 (.tmp 22) ?_
  refine zK 18 ?_
  refine zK 19 ?_
  refine zK 20 ?_
  refine zK 21 ?_
  refine zO 22 (.pick (.tmp 23) (.tmp 27) (.const (Value.bool false))) 4 ?_
  refine zO 23 (.assign (.tmp 28)) 4 ?_
  refine wpAnyH_done (by kernel_rfl) ?_ _
  go_wp2_with fail
  go_ret
  exact ⟨rfl,HB⟩
end ScaW
end Go.Proofs.YtnpncpoiiikafaaGreat
