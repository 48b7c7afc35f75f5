/- SieE -/
import Derived.Test.YtnpncpoiiikafaaGreatDoorSieDQs
import Derived.Defers
import Derived.Recover
import Derived.Laws.Pointers
import Derived.Test.YtnpncpoiiikafaaGreatDoorMemQs
set_option linter.unusedVariables false
set_option linter.unusedSimpArgs false
set_option linter.unnecessarySimpa false
namespace Go.Proofs.YtnpncpoiiikafaaGreatDoor
open Go.RowKit
namespace SieW
theorem catch_idle (p q r:Addr) (w:World) :
    CallsD Tryz.prog 14 #[.pointer (some p),.pointer (some q),.pointer (some r)] .returning w fun e u' w'=>e = .returned (.tuple #[])∧u' = .returning∧w' = w:=by
  refine callsD_of_wpS Tryz.func14 rfl fun c₀ cs hu=>?_
  apply wpS_seq
  apply wpS_region
  simp [wpOpsS,go_sem,recoverD,hu,Tryz.ntmps14,Exit.thenS]
  simp only [List.size_toArray,Array.replicate_succ,Array.replicate_zero,List.push_toArray,List.append_toArray,List.nil_append,List.cons_append,List.setIfInBounds_toArray,List.set_cons_succ,List.set_cons_zero]
  refine wpS_of_wp ?_
  go_wp2_with fail
  cases c₀
  simp_all [bodyPostS,results,Tryz.results14]
structure Fell (w w':World) (p q r:Nat) (er at_:Int):Prop where
  ptr:Blk w' p 25 #[.pointer none]
  place:Blk w' q 3 #[.int .i64 at_]
  err:Blk w' r 26 #[.int .i64 er]
  below:∀ B,B≤p → B≤q → B≤r → B≤w.heap.size → Below B w w'
theorem assert_fault (W:World) (v:Value):(Instr.typeAssert (.iface 45 v) 20 45 true).run Tryz.prog W = .ok (.tuple #[v,.bool true]) W:=by kernel_rfl
set_option maxRecDepth 100000 in
set_option maxHeartbeats 2000000 in
theorem catch_fault (p q r:Nat) (a b er at_:Int) (v:Value) (w:World) (older:List PanicEntry) (hp:Blk w p 25 #[v]) (hq:Blk w q 3 #[.int .i64 a]) (hr:Blk w r 26 #[.int .i64 b]) (hpq:p < q) (hqr:q < r) :
    CallsD Tryz.prog 14 #[.pointer (some ⟨p,0,none⟩),.pointer (some ⟨q,0,none⟩),.pointer (some ⟨r,0,none⟩)] (.panicking ({ v:=.iface 45 (.agg #[.int .i64 er,.int .i64 at_]),recovered:=false } :: older)) w fun e u' w' =>
      e = .returned (.tuple #[])∧u' = .panicking ({ v:=.iface 45 (.agg #[.int .i64 er,.int .i64 at_]),recovered:=true } :: older) ∧
      Fell w w' p q r er at_:=by
  refine callsD_of_wpS Tryz.func14 rfl fun c₀ cs hu=>?_
  apply wpS_seq
  apply wpS_region
  simp [wpOpsS,go_sem,recoverD,hu,Tryz.ntmps14,Exit.thenS]
  simp only [List.size_toArray,Array.replicate_succ,Array.replicate_zero,List.push_toArray,List.append_toArray,List.nil_append,List.cons_append,List.setIfInBounds_toArray,List.set_cons_succ,List.set_cons_zero]
  clear hu
  have ta:=assert_fault
  obtain ⟨pc,pf,pz⟩:=blk1 hp
  obtain ⟨qc,qf,qz⟩:=blk1 hq
  obtain ⟨rc,rf,rz⟩:=blk1 hr
  refine wpS_of_wp ?_
  go_wp2_with fail
  have hF:Blk (w.alloc (.cells #[.int .i64 er,.int .i64 at_] 45)) w.heap.size 45 #[.int .i64 er,.int .i64 at_]:=Blk.new _ _ _
  have hP:=hp.alloc (.cells #[.int .i64 er,.int .i64 at_] 45)
  have hQ:=hq.alloc (.cells #[.int .i64 er,.int .i64 at_] 45)
  have hR:=hr.alloc (.cells #[.int .i64 er,.int .i64 at_] 45)
  have hb:∀ B,B≤w.heap.size → Below B w (w.alloc (.cells #[.int .i64 er,.int .i64 at_] 45)):=fun B hB=>(Below.refl B w).alloc hB _
  generalize w.alloc (.cells #[.int .i64 er,.int .i64 at_] 45) = w0 at *
  clear pc pf qc qf rc rf ta hp hq hr
  obtain ⟨c0,c1,f0,f1,_⟩:=blk2 hF
  have hFp:w.heap.size ≠ p:=by omega
  have hFq:w.heap.size ≠ q:=by omega
  have hFr:w.heap.size ≠ r:=by omega
  obtain ⟨pc,pf,_⟩:=blk1 hP
  obtain ⟨qc,qf,_⟩:=blk1 hQ
  obtain ⟨rc,rf,_⟩:=blk1 hR
  have hpF:p ≠ w.heap.size:=by omega
  have hqF:q ≠ w.heap.size:=by omega
  have hrF:r ≠ w.heap.size:=by omega
  have n1:p ≠ q:=by omega
  have n2:q ≠ p:=by omega
  have n3:p ≠ r:=by omega
  have n4:r ≠ p:=by omega
  have n5:q ≠ r:=by omega
  have n6:r ≠ q:=by omega
  replace hb:∀ B,B≤p → B≤q → B≤r → B≤w.heap.size → Below B w w0.drew:=fun B _ _ _ h=>(hb B h).drew
  refine wp_region_held_drew (S:=(fun w'=>w'.cell? ⟨w.heap.size,0,none⟩ = some (.int .i64 er)∧w'.cell? ⟨w.heap.size,1,none⟩ = some (.int .i64 at_))) (by kernel_rfl) ?_ (fun hHeld=>?_)
  · replace hF:=Blk.drew hF;replace hP:=Blk.drew hP;replace hQ:=Blk.drew hQ;replace hR:=Blk.drew hR;(try dsimp only);exact ⟨hF.cell_ 0 rfl,hF.cell_ 1 rfl⟩
  replace hF:=Blk.drew hF
  replace hP:=Blk.drew hP
  replace hQ:=Blk.drew hQ
  replace hR:=Blk.drew hR
  refine take_op (v:=?vu1x0) 0 (Op.fieldAddr 45 (Operand.tmp 4) 1) 0 rfl rfl rfl rfl rfl (by kernel_rfl) (by kernel_rfl) (by kernel_rfl) (fun _ _ _ h=>h) ?yu1x0 (by assumption) ?ru1x0
  case yu1x0=>(intro w' hSw;(try dsimp only at hSw);go_simp;try (with_reducible rfl))
  simp only [zSa,zSb,zSc]
  refine take_op (v:=?vu1x1) 1 (Op.load 3 (Operand.tmp 17)) 3 rfl rfl rfl rfl rfl (by kernel_rfl) (by kernel_rfl) (by kernel_rfl) (fun _ _ _ h=>h) ?yu1x1 (by assumption) ?ru1x1
  case yu1x1=>(intro w' hSw;(try dsimp only at hSw);go_simp;try (with_reducible rfl))
  simp only [zSa,zSb,zSc]
  refine take_op (v:=?vu1x2) 2 (Op.fieldAddr 45 (Operand.tmp 4) 0) 0 rfl rfl rfl rfl rfl (by kernel_rfl) (by kernel_rfl) (by kernel_rfl) (fun _ _ _ h=>h) ?yu1x2 (by assumption) ?ru1x2
  case yu1x2=>(intro w' hSw;(try dsimp only at hSw);go_simp;try (with_reducible rfl))
  simp only [zSa,zSb,zSc]
  refine take_op (v:=?vu1x3) 3 (Op.load 26 (Operand.tmp 19)) 26 rfl rfl rfl rfl rfl (by kernel_rfl) (by kernel_rfl) (by kernel_rfl) (fun _ _ _ h=>h) ?yu1x3 (by assumption) ?ru1x3
  case yu1x3=>(intro w' hSw;(try dsimp only at hSw);go_simp;try (with_reducible rfl))
  simp only [zSa,zSb,zSc]
  refine wpAnyH_ready (rs:=[4]) (by kernel_rfl) (by simp) (AllReadyH.cons rfl (fun K4 hK4=>?ku1x4) AllReadyH.nil)
  refine take_store 4 (Op.store 25 (Operand.tmp 0) (Operand.const (Value.pointer none))) 0 rfl rfl rfl (by kernel_rfl) (w':=w0.drew.setCell ⟨p,0,none⟩ (.pointer none)) (by obtain ⟨cL,fL,_⟩:=blk1 hP;go_simp;try (with_reducible rfl)) ?_
  refine hK4.out _ _ (⟨(hF.far (p:=⟨p,0,none⟩) hFp _).cell_ 0 rfl,(hF.far (p:=⟨p,0,none⟩) hFp _).cell_ 1 rfl⟩) (fun hHeld=>?_)
  replace hP:=hP.set 0 (.pointer none)
  replace hQ:=hQ.far (p:=⟨p,0,none⟩) n2 (.pointer none)
  replace hR:=hR.far (p:=⟨p,0,none⟩) n4 (.pointer none)
  replace hF:=hF.far (p:=⟨p,0,none⟩) hFp (.pointer none)
  replace hb:=fun B h1 h2 h3 h4=>below_set (hb B h1 h2 h3 h4) p 0 (.pointer none) h1
  refine wpAnyH_ready (rs:=[5]) (by kernel_rfl) (by simp) (AllReadyH.cons rfl (fun K5 hK5=>?ku1x5) AllReadyH.nil)
  refine take_store 5 (Op.store 3 (Operand.tmp 1) (Operand.tmp 18)) 0 rfl rfl rfl (by kernel_rfl) (w':=(w0.drew.setCell ⟨p,0,none⟩ (.pointer none)).setCell ⟨q,0,none⟩ (.int .i64 at_)) (by obtain ⟨cL,fL,_⟩:=blk1 hQ;go_simp;try (with_reducible rfl)) ?_
  refine hK5.out _ _ (⟨(hF.far (p:=⟨q,0,none⟩) hFq _).cell_ 0 rfl,(hF.far (p:=⟨q,0,none⟩) hFq _).cell_ 1 rfl⟩) (fun hHeld=>?_)
  replace hQ:=hQ.set 0 (.int .i64 at_)
  replace hP:=hP.far (p:=⟨q,0,none⟩) n1 (.int .i64 at_)
  replace hR:=hR.far (p:=⟨q,0,none⟩) n6 (.int .i64 at_)
  replace hF:=hF.far (p:=⟨q,0,none⟩) hFq (.int .i64 at_)
  replace hb:=fun B h1 h2 h3 h4=>below_set (hb B h1 h2 h3 h4) q 0 (.int .i64 at_) h2
  refine wpAnyH_ready (rs:=[6]) (by kernel_rfl) (by simp) (AllReadyH.cons rfl (fun K6 hK6=>?ku1x6) AllReadyH.nil)
  refine take_store 6 (Op.store 26 (Operand.tmp 2) (Operand.tmp 20)) 0 rfl rfl rfl (by kernel_rfl) (w':=((w0.drew.setCell ⟨p,0,none⟩ (.pointer none)).setCell ⟨q,0,none⟩ (.int .i64 at_)).setCell ⟨r,0,none⟩ (.int .i64 er)) (by obtain ⟨cL,fL,_⟩:=blk1 hR;go_simp;try (with_reducible rfl)) ?_
  refine hK6.out _ _ (⟨(hF.far (p:=⟨r,0,none⟩) hFr _).cell_ 0 rfl,(hF.far (p:=⟨r,0,none⟩) hFr _).cell_ 1 rfl⟩) (fun hHeld=>?_)
  replace hR:=hR.set 0 (.int .i64 er)
  replace hP:=hP.far (p:=⟨r,0,none⟩) n3 (.int .i64 er)
  replace hQ:=hQ.far (p:=⟨r,0,none⟩) n5 (.int .i64 er)
  replace hF:=hF.far (p:=⟨r,0,none⟩) hFr (.int .i64 er)
  replace hb:=fun B h1 h2 h3 h4=>below_set (hb B h1 h2 h3 h4) r 0 (.int .i64 er) h3
  refine wpAnyH_done (by kernel_rfl) ?_ _
  go_wp2_with fail
  exact ⟨rfl,_,rfl,_,results_none rfl _ _ _,rfl,rfl,blk_eq hP rfl,blk_eq hQ rfl,blk_eq hR rfl,hb⟩
def PsOut (R:Option (Nd × Nat) × Int × Int) (w:World) (e:Ending) (w':World):Prop :=
  match R.1 with
  | some (n,sz)=>∃ g v,e = .returned (.tuple #[.pointer (some ⟨g,0,none⟩),.int .i64 R.2.1,.int .i64 R.2.2])∧Blk w' g 60 #[v,.int .i64 sz]∧NdV w' (fun b=>w.heap.size≤b) n v∧w.heap.size≤g∧Below w.heap.size w w'
  | none=>e = .returned (.tuple #[.pointer none,.int .i64 R.2.1,.int .i64 R.2.2])∧Below w.heap.size w w'
set_option maxRecDepth 100000 in
set_option maxHeartbeats 8000000 in
theorem parse_any (s:List UInt8) (w:World) (hW:WanW.Wo w) (hs:s.length≤100000) (R:Option (Nd × Nat) × Int × Int) (hR:parseP s = R):Calls Tryz.prog 6 #[str s] w (PsOut R w):=by
  have hmf:∀ (fn:Fn) (first cap:Array Value) (w:World),(Instr.makeFunc fn first cap).run Tryz.prog w = .ok (.func fn first cap) w:=fun _ _ _ _=>rfl
  have HB0:Below w.heap.size w (((w.alloc (.cells #[.pointer none] 25)).alloc (.cells #[.int .i64 0] 3)).alloc (.cells #[.int .i64 0] 26)) :=
    (((Below.refl _ w).alloc (Nat.le_refl _) _).alloc (by simp) _).alloc (by simp;omega) _
  have hP0:Blk (((w.alloc (.cells #[.pointer none] 25)).alloc (.cells #[.int .i64 0] 3)).alloc (.cells #[.int .i64 0] 26)) w.heap.size 25 #[.pointer none]:=((Blk.new _ _ _).alloc _).alloc _
  have hQ0:Blk (((w.alloc (.cells #[.pointer none] 25)).alloc (.cells #[.int .i64 0] 3)).alloc (.cells #[.int .i64 0] 26)) (w.heap.size + 1) 3 #[.int .i64 0]:=by
    have:=(Blk.new (w.alloc (.cells #[.pointer none] 25)) 3 #[.int .i64 0]).alloc (.cells #[.int .i64 0] 26)
    simpa using this
  have hR0:Blk (((w.alloc (.cells #[.pointer none] 25)).alloc (.cells #[.int .i64 0] 3)).alloc (.cells #[.int .i64 0] 26)) (w.heap.size + 1 + 1) 26 #[.int .i64 0]:=by
    have:=Blk.new ((w.alloc (.cells #[.pointer none] 25)).alloc (.cells #[.int .i64 0] 3)) 26 #[.int .i64 0]
    simpa using this
  rw [parse_pM] at hR
  by_cases hl:1000 < s.length
  · have hlI:(1000:Int) < (s.length:Int):=by omega
    rw [if_pos hl] at hR
    subst hR
    go_enter_defers Tryz.func6,Tryz.ntmps6
    go_wp2_with fail
    have hP1:Blk (((w.alloc (.cells #[.pointer none] 25)).alloc (.cells #[.int .i64 0] 3)).alloc (.cells #[.int .i64 3] 26)) w.heap.size 25 #[.pointer none]:=((Blk.new _ _ _).alloc _).alloc _
    have hQ1:Blk (((w.alloc (.cells #[.pointer none] 25)).alloc (.cells #[.int .i64 0] 3)).alloc (.cells #[.int .i64 3] 26)) (w.heap.size + 1) 3 #[.int .i64 0]:=by
      have:=(Blk.new (w.alloc (.cells #[.pointer none] 25)) 3 #[.int .i64 0]).alloc (.cells #[.int .i64 3] 26)
      simpa using this
    have hR1:Blk (((w.alloc (.cells #[.pointer none] 25)).alloc (.cells #[.int .i64 0] 3)).alloc (.cells #[.int .i64 3] 26)) (w.heap.size + 1 + 1) 26 #[.int .i64 3]:=by
      have:=Blk.new ((w.alloc (.cells #[.pointer none] 25)).alloc (.cells #[.int .i64 0] 3)) 26 #[.int .i64 3]
      simpa using this
    have HB1:Below w.heap.size w (((w.alloc (.cells #[.pointer none] 25)).alloc (.cells #[.int .i64 0] 3)).alloc (.cells #[.int .i64 3] 26)) :=
      (((Below.refl _ w).alloc (Nat.le_refl _) _).alloc (by simp) _).alloc (by simp;omega) _
    generalize ((w.alloc (.cells #[.pointer none] 25)).alloc (.cells #[.int .i64 0] 3)).alloc (.cells #[.int .i64 3] 26) = w1 at *
    obtain ⟨pc,pf,pz⟩:=blk1 hP1
    obtain ⟨qc,qf,qz⟩:=blk1 hQ1
    obtain ⟨rc,rf,rz⟩:=blk1 hR1
    simp [bodyPostD,Leaves,settle,results,Tryz.results6,go_sem,pc,qc,rc]
    exact ⟨rfl,HB1⟩
  · have hlI:¬ (1000:Int) < (s.length:Int):=by omega
    rw [if_neg hl] at hR
    have hlen:=words_len s
    have hFew:Few (wordsP s):=fun x hx=>by have:=words_each s x hx;omega
    obtain ⟨Q,hQ⟩:∃ Q,pM (s.length:Int) 2 [] (wordsP s) 0 0 = Q:=⟨_,rfl⟩
    rw [hQ] at hR
    have HQ:=Lib.hid hQ
    have HR:=Lib.hid hR
    have hl9:s.length≤1000:=by omega
    clear hQ hR hl
    obtain ⟨w0,hw0⟩:∃ w0,((w.alloc (.cells #[.pointer none] 25)).alloc (.cells #[.int .i64 0] 3)).alloc (.cells #[.int .i64 0] 26) = w0:=⟨_,rfl⟩
    rw [hw0] at HB0 hP0 hQ0 hR0
    have hz0:=HB0.size
    have hzR:=hR0.lt
    have WC:=words_any s w0 hl9
    go_enter_defers Tryz.func6,Tryz.ntmps6
    go_wp2_with fail
    clear hw0
    refine WC.mono ?_
    clear WC
    rintro e w1 ⟨A,n,c,rfl,hnc,hcm,rd1,hb1⟩
    have HB1:=HB0.trans (hb1.mono hz0)
    have P1:=hP0.below hb1 (by omega)
    have Q1:=hQ0.below hb1 (by omega)
    have R1:=hR0.below hb1 hzR
    have hz1:=hb1.size
    have A2:At (w1.alloc (.cells (rdS A n c s.length 0 0) 51)) w1.heap.size (s.length:Int) (wordsP s) 0 0 :=
      ⟨⟨w,hW,HB1.alloc HB1.size _,HB1.size⟩,hFew,by omega,by omega,by omega,A,n,c,Blk.new _ _ _,rd1.below ((Below.refl _ _).alloc (Nat.le_refl _) _),hnc,hcm⟩
    have HB2:=HB1.alloc HB1.size (.cells (rdS A n c s.length 0 0) 51)
    have P2:=P1.alloc (.cells (rdS A n c s.length 0 0) 51)
    have Q2:=Q1.alloc (.cells (rdS A n c s.length 0 0) 51)
    have R2:=R1.alloc (.cells (rdS A n c s.length 0 0) 51)
    have SC:=sentence_reads w1.heap.size (s.length:Int) (wordsP s) _ A2
    rw [HQ.out] at SC
    obtain ⟨g,hg⟩:∃ g,w1.heap.size = g:=⟨_,rfl⟩
    rw [hg] at A2 SC
    obtain ⟨w2,hw2⟩:∃ w2,w1.alloc (.cells (rdS A n c s.length 0 0) 51) = w2:=⟨_,rfl⟩
    rw [hw2] at A2 SC HB2 P2 Q2 R2
    have hw2':w1.alloc (.cells #[.slice A n c,.int .i64 (s.length:Int),.int .i64 0,.int .i64 0] 51) = w2:=hw2
    clear hw2
    have hzw2:=HB2.size
    have hgr:w.heap.size + 1 + 1 < g:=by have:=R1.lt;omega
    clear P1 Q1 R1 HB1 hb1 rd1 HB0 hP0 hQ0 hR0
    go_wp2_with fail
    clear hw2' hg
    refine SC.mono ?_
    clear SC
    rintro e w3 hPP
    have HPQ:=HQ.out
    clear HQ
    cases Q with
    | out=>exact hPP.elim
    | err er a =>
      obtain ⟨rfl,G3⟩:=hPP
      have P3:=P2.grown G3 (by simp;omega)
      have Q3:=Q2.grown G3 (by simp;omega)
      have R3:=R2.grown G3 (by simp;omega)
      have HB3:=HB2.grown G3 hzw2 (fun k hk=>by cases hk;omega)
      have hR:((none:Option (Nd × Nat)),a,er) = R:=HR.out
      subst hR
      clear HPQ HR
      go_wp2_with fail
      refine leaves_cons (f:=14) (args:=#[.pointer (some ⟨w.heap.size,0,none⟩),.pointer (some ⟨w.heap.size + 1,0,none⟩),.pointer (some ⟨w.heap.size + 1 + 1,0,none⟩)]) (by simp) (by simp [go_sem]) ?_
      refine (catch_fault w.heap.size (w.heap.size + 1) (w.heap.size + 1 + 1) 0 0 er a (.pointer none) w3 [] P3 Q3 R3 (by omega) (by omega)).mono ?_
      rintro e u' w4 ⟨rfl,rfl,hF⟩
      obtain ⟨pc,pf,pz⟩:=blk1 hF.ptr
      obtain ⟨qc,qf,qz⟩:=blk1 hF.place
      obtain ⟨rc,rf,rz⟩:=blk1 hF.err
      simp [Leaves,settle,results,Tryz.results6,go_sem,pc,qc,rc]
      exact ⟨rfl,HB3.trans (hF.below _ (Nat.le_refl _) (by omega) (by omega) HB3.size)⟩
    | ok nd l2 sz d2 =>
      obtain ⟨v,rfl,V3,A3,G3⟩:=hPP
      have P3:=P2.grown G3 (by simp;omega)
      have Q3:=Q2.grown G3 (by simp;omega)
      have R3:=R2.grown G3 (by simp;omega)
      have HB3:=HB2.grown G3 hzw2 (fun k hk=>by cases hk;omega)
      have V4:NdV w3 (fun b=>w.heap.size≤b) nd v:=V3.keep (fun b hb _=>⟨rfl,by omega⟩) _ _
      obtain ⟨tv,xv,rfl⟩:=V4.iface
      obtain ⟨Ar,nr,cr,br,rr,_,_⟩:=A3.at_
      have hlr:=rd_wlen rr
      obtain ⟨c0,c1,c2,c3,f0,f1,f2,f3,zg⟩:=blk_rd br
      have hR2:=R2.lt
      clear P2 Q2 R2 HB2 HPQ A2
      by_cases he:l2 = []
      · subst he
        have hR:(some (nd,sz),(s.length:Int),(0:Int)) = R:=by have:=HR.out;simpa using this
        subst hR
        have hnr:nr = 0:=by simp at hlr;omega
        subst hnr
        clear HR hlr
        obtain ⟨pc,pf,pz⟩:=blk1 P3
        obtain ⟨qc,qf,qz⟩:=blk1 Q3
        obtain ⟨rc,rf,rz⟩:=blk1 R3
        go_wp2_with fail
        have P4:Blk ((((w3.setCell ⟨w.heap.size,0,none⟩ (.pointer (some ⟨w3.heap.size,0,none⟩))).setCell ⟨w.heap.size + 1,0,none⟩ (.int .i64 (s.length:Int))).setCell ⟨w.heap.size + 1 + 1,0,none⟩ (.int .i64 0)).alloc (.cells #[.iface tv xv,.int .i64 (sz:Int)] 60)) w.heap.size 25 #[.pointer (some ⟨w3.heap.size,0,none⟩)] :=
          (((P3.set 0 _).far (by show w.heap.size ≠ w.heap.size + 1;omega) _).far (by show w.heap.size ≠ w.heap.size + 1 + 1;omega) _).alloc _
        have Q4:Blk ((((w3.setCell ⟨w.heap.size,0,none⟩ (.pointer (some ⟨w3.heap.size,0,none⟩))).setCell ⟨w.heap.size + 1,0,none⟩ (.int .i64 (s.length:Int))).setCell ⟨w.heap.size + 1 + 1,0,none⟩ (.int .i64 0)).alloc (.cells #[.iface tv xv,.int .i64 (sz:Int)] 60)) (w.heap.size + 1) 3 #[.int .i64 (s.length:Int)] :=
          (((Q3.far (by show w.heap.size + 1 ≠ w.heap.size;omega) _).set 0 _).far (by show w.heap.size + 1 ≠ w.heap.size + 1 + 1;omega) _).alloc _
        have R4:Blk ((((w3.setCell ⟨w.heap.size,0,none⟩ (.pointer (some ⟨w3.heap.size,0,none⟩))).setCell ⟨w.heap.size + 1,0,none⟩ (.int .i64 (s.length:Int))).setCell ⟨w.heap.size + 1 + 1,0,none⟩ (.int .i64 0)).alloc (.cells #[.iface tv xv,.int .i64 (sz:Int)] 60)) (w.heap.size + 1 + 1) 26 #[.int .i64 0] :=
          (((R3.far (by show w.heap.size + 1 + 1 ≠ w.heap.size;omega) _).far (by show w.heap.size + 1 + 1 ≠ w.heap.size + 1;omega) _).set 0 _).alloc _
        have N4:Blk ((((w3.setCell ⟨w.heap.size,0,none⟩ (.pointer (some ⟨w3.heap.size,0,none⟩))).setCell ⟨w.heap.size + 1,0,none⟩ (.int .i64 (s.length:Int))).setCell ⟨w.heap.size + 1 + 1,0,none⟩ (.int .i64 0)).alloc (.cells #[.iface tv xv,.int .i64 (sz:Int)] 60)) w3.heap.size 60 #[.iface tv xv,.int .i64 (sz:Int)]:=by
          have:=Blk.new (((w3.setCell ⟨w.heap.size,0,none⟩ (.pointer (some ⟨w3.heap.size,0,none⟩))).setCell ⟨w.heap.size + 1,0,none⟩ (.int .i64 (s.length:Int))).setCell ⟨w.heap.size + 1 + 1,0,none⟩ (.int .i64 0)) 60 #[.iface tv xv,.int .i64 (sz:Int)]
          simpa [World.setCell] using this
        have K4:Below w.heap.size w3 ((((w3.setCell ⟨w.heap.size,0,none⟩ (.pointer (some ⟨w3.heap.size,0,none⟩))).setCell ⟨w.heap.size + 1,0,none⟩ (.int .i64 (s.length:Int))).setCell ⟨w.heap.size + 1 + 1,0,none⟩ (.int .i64 0)).alloc (.cells #[.iface tv xv,.int .i64 (sz:Int)] 60)) :=
          (below_set (below_set (below_set (Below.refl _ _) _ 0 _ (Nat.le_refl _)) _ 0 _ (by omega)) _ 0 _ (by omega)).alloc (by simp [World.setCell];omega) _
        have V5:NdV ((((w3.setCell ⟨w.heap.size,0,none⟩ (.pointer (some ⟨w3.heap.size,0,none⟩))).setCell ⟨w.heap.size + 1,0,none⟩ (.int .i64 (s.length:Int))).setCell ⟨w.heap.size + 1 + 1,0,none⟩ (.int .i64 0)).alloc (.cells #[.iface tv xv,.int .i64 (sz:Int)] 60)) (fun b=>w.heap.size≤b) nd (.iface tv xv) :=
          V3.keep (fun b hb hbl=>⟨((Below.heap_alloc _ _ b (by simpa [World.setCell] using hbl)).trans ((Below.heap_setCell _ _ _ b (by show b ≠ w.heap.size + 1 + 1;omega)).trans ((Below.heap_setCell _ _ _ b (by show b ≠ w.heap.size + 1;omega)).trans (Below.heap_setCell _ _ _ b (by show b ≠ w.heap.size;omega))))),by omega⟩) _ _
        generalize ((((w3.setCell ⟨w.heap.size,0,none⟩ (.pointer (some ⟨w3.heap.size,0,none⟩))).setCell ⟨w.heap.size + 1,0,none⟩ (.int .i64 (s.length:Int))).setCell ⟨w.heap.size + 1 + 1,0,none⟩ (.int .i64 0)).alloc (.cells #[.iface tv xv,.int .i64 (sz:Int)] 60)) = w4 at *
        clear pc pf qc qf rc rf
        refine leaves_cons (f:=14) (args:=#[.pointer (some ⟨w.heap.size,0,none⟩),.pointer (some ⟨w.heap.size + 1,0,none⟩),.pointer (some ⟨w.heap.size + 1 + 1,0,none⟩)]) (by simp) (by simp [go_sem]) ?_
        refine (catch_idle _ _ _ _).mono ?_
        rintro e u' w5 ⟨rfl,rfl,rfl⟩
        obtain ⟨pc,pf,pz⟩:=blk1 P4
        obtain ⟨qc,qf,qz⟩:=blk1 Q4
        obtain ⟨rc,rf,rz⟩:=blk1 R4
        simp [Leaves,settle,results,Tryz.results6,go_sem,pc,qc,rc]
        exact ⟨w3.heap.size,_,rfl,N4,V5,HB3.size,HB3.trans K4⟩
      · have hR:((none:Option (Nd × Nat)),(hdW s.length l2).2,(380:Int)) = R:=by have:=HR.out;simpa [he] using this
        subst hR
        have hnr:0 < nr:=by
          cases l2 with
          | nil=>exact absurd rfl he
          | cons x l=>simp at hlr;omega
        have PK:=peek_any g _ l2 sz d2 w3 A3
        obtain ⟨⟨y,a⟩,hy⟩:∃ z,hdW (s.length:Int) l2 = z:=⟨_,rfl⟩
        rw [hy] at PK
        have HY:=Lib.hid hy
        have HE:=Lib.hid he
        clear HR hlr hy he
        go_wp2_with fail
        refine PK.mono ?_
        clear PK
        rintro e w4 ⟨rfl,hb4⟩
        have hz3:=HB3.size
        have P4:=P3.below hb4 P3.lt
        have Q4:=Q3.below hb4 Q3.lt
        have R4:=R3.below hb4 R3.lt
        have HB4:=HB3.trans (hb4.mono hz3)
        clear c0 c1 c2 c3 f0 f1 f2 f3 zg
        go_wp2_with fail
        refine (wrong_any 380 (y,a) _).mono ?_
        rintro e w5 ⟨rfl,hb5⟩
        have P5:=P4.below hb5 P4.lt
        have Q5:=Q4.below hb5 Q4.lt
        have R5:=R4.below hb5 R4.lt
        have HB5:=HB4.trans (hb5.mono HB4.size)
        go_wp2_with fail
        refine leaves_cons (f:=14) (args:=#[.pointer (some ⟨w.heap.size,0,none⟩),.pointer (some ⟨w.heap.size + 1,0,none⟩),.pointer (some ⟨w.heap.size + 1 + 1,0,none⟩)]) (by simp) (by simp [go_sem]) ?_
        refine (catch_fault w.heap.size (w.heap.size + 1) (w.heap.size + 1 + 1) 0 0 380 a (.pointer none) w5 [] P5 Q5 R5 (by omega) (by omega)).mono ?_
        rintro e u' w6 ⟨rfl,rfl,hF⟩
        obtain ⟨pc,pf,pz⟩:=blk1 hF.ptr
        obtain ⟨qc,qf,qz⟩:=blk1 hF.place
        obtain ⟨rc,rf,rz⟩:=blk1 hF.err
        simp [Leaves,settle,results,Tryz.results6,go_sem,pc,qc,rc]
        rw [HY.out]
        exact ⟨rfl,HB5.trans (hF.below _ (Nat.le_refl _) (by omega) (by omega) HB5.size)⟩
end SieW
end Go.Proofs.YtnpncpoiiikafaaGreatDoor
namespace Go.Proofs.YtnpncpoiiikafaaGreatDoor
open Go.RowKit
abbrev rng (lo hi:Int):Value:=.agg #[.int .i64 lo,.int .i64 hi]
namespace SpanW
def hasB (lo hi n:Int):Bool:=decide (lo≤n) && decide (n≤hi)
def emptyB (lo hi:Int):Bool:=decide (hi < lo)
theorem has_any (lo hi n:Int) (w:World) :
    Calls Tryz.prog 172 #[rng lo hi,.int .i64 n] w fun e w'=>e = .returned (.bool (hasB lo hi n))∧Below w.heap.size w w':=by
  go_enter Tryz.func172,Tryz.ntmps172
  go_wp2
  all_goals
    go_ret
    exact ⟨ret_bool (by simp [hasB, *];try omega),(by first | exact Below.refl _ _ | (repeat (first | exact Below.refl _ _ | assumption | refine Below.drew ?_ | refine Below.drewN_ ?_ _ | refine Below.alloc ?_ (by first | exact Nat.le_refl _ | (simp;done) | (simp;omega) | omega) _ | refine Below.setCell ?_ (by first | exact Nat.le_refl _ | (simp;done) | (simp;omega) | omega) _ | (refine Below.trans ?_ (Below.mono (by assumption) (by first | exact Nat.le_refl _ | (simp;done) | (simp;omega) | omega))))))⟩
theorem has_eq (lo hi n:Int) (v:Bool) (h:hasB lo hi n = v) (w:World) :
    Calls Tryz.prog 172 #[rng lo hi,.int .i64 n] w fun e w'=>e = .returned (.bool v)∧Below w.heap.size w w':=h ▸ has_any lo hi n w
theorem empty_any (lo hi:Int) (w:World) :
    Calls Tryz.prog 70 #[rng lo hi] w fun e w'=>e = .returned (.bool (emptyB lo hi))∧Below w.heap.size w w':=by
  go_enter Tryz.func70,Tryz.ntmps70
  go_wp2
  go_ret
  exact ⟨rfl,(by first | exact Below.refl _ _ | (repeat (first | exact Below.refl _ _ | assumption | refine Below.drew ?_ | refine Below.drewN_ ?_ _ | refine Below.alloc ?_ (by first | exact Nat.le_refl _ | (simp;done) | (simp;omega) | omega) _ | refine Below.setCell ?_ (by first | exact Nat.le_refl _ | (simp;done) | (simp;omega) | omega) _ | (refine Below.trans ?_ (Below.mono (by assumption) (by first | exact Nat.le_refl _ | (simp;done) | (simp;omega) | omega))))))⟩
abbrev R:=Int × Int
abbrev rv (p:R):Value:=rng p.1 p.2
def cells (l:List R):List Value:=l.flatMap fun p=>[.int .i64 p.1,.int .i64 p.2]
theorem cells_len (l:List R):(cells l).length = 2 * l.length:=by
  induction l with
  | nil=>rfl
  | cons x l ih=>simp only [cells,List.flatMap_cons,List.length_append,List.length_cons,List.length_nil] at *;omega
theorem cells_cons (p:R) (l:List R):cells (p :: l) = .int .i64 p.1 :: .int .i64 p.2 :: cells l:=rfl
theorem cells_get (l:List R) (k:Nat) (h:k < l.length):(cells l)[2 * k]? = some (.int .i64 l[k].1)∧(cells l)[2 * k + 1]? = some (.int .i64 l[k].2):=by
  induction l generalizing k with
  | nil=>simp at h
  | cons p l ih =>
    rw [cells_cons]
    cases k with
    | zero=>simp
    | succ k =>
      have:=ih k (by simpa using h)
      simpa [Nat.mul_add] using this
def narrow (p q:R):R:=(max p.1 q.1,min p.2 q.2)
theorem narrow_any (p q:R) (w:World) :
    Calls Tryz.prog 94 #[rv p,rv q] w fun e w'=>e = .returned (rv (narrow p q))∧Below w.heap.size w w':=by
  go_enter Tryz.func94,Tryz.ntmps94
  go_wp2
  all_goals
    refine bodyPost_ret (v:=rv (narrow p q)) ?_ rfl ⟨rfl,(by first | exact Below.refl _ _ | (repeat (first | exact Below.refl _ _ | assumption | refine Below.drew ?_ | refine Below.drewN_ ?_ _ | refine Below.alloc ?_ (by first | exact Nat.le_refl _ | (simp;done) | (simp;omega) | omega) _ | refine Below.setCell ?_ (by first | exact Nat.le_refl _ | (simp;done) | (simp;omega) | omega) _ | (refine Below.trans ?_ (Below.mono (by assumption) (by first | exact Nat.le_refl _ | (simp;done) | (simp;omega) | omega))))))⟩
    simp [results,Tryz.results94,go_sem,narrow] <;> omega
theorem none_any (w:World) :
    Calls Tryz.prog 115 #[] w fun e w'=>e = .returned (rng 1 0)∧Below w.heap.size w w':=by
  go_enter Tryz.func115,Tryz.ntmps115
  go_wp2
  refine bodyPost_ret (v:=rng 1 0) ?_ rfl ⟨rfl,(by first | exact Below.refl _ _ | (repeat (first | exact Below.refl _ _ | assumption | refine Below.drew ?_ | refine Below.drewN_ ?_ _ | refine Below.alloc ?_ (by first | exact Nat.le_refl _ | (simp;done) | (simp;omega) | omega) _ | refine Below.setCell ?_ (by first | exact Nat.le_refl _ | (simp;done) | (simp;omega) | omega) _ | (refine Below.trans ?_ (Below.mono (by assumption) (by first | exact Nat.le_refl _ | (simp;done) | (simp;omega) | omega))))))⟩
  simp [results,Tryz.results115,go_sem]
end SpanW
end Go.Proofs.YtnpncpoiiikafaaGreatDoor
