/- ManC -/
import Derived.Test.YtnpncpoiiikafaaGreatManWQd
import Derived.Deep.QuietTactic
import Derived.BigQuiet
import Derived.Test.YtnpncpoiiikafaaGreatMemQd
set_option linter.unusedVariables false
set_option linter.unusedSimpArgs false
set_option linter.unnecessarySimpa false
set_option maxRecDepth 100000
set_option maxHeartbeats 32000000
namespace Go.Proofs.YtnpncpoiiikafaaGreat
open Go.RowKit
namespace ManW
open SkpW (En ec chkE echeck_any blk9)
open SufW (w64s)
abbrev mcs (m:Mn) (A:Option Addr) (n c:Nat):Array Value:=#[.int .i64 m.gen,.int .i64 m.next,.int .i64 m.now,.int .i64 m.floor,.slice A n c]
theorem blk5 {w:World} {g:Nat} {t:TypeId} {a0 a1 a2 a3 a4:Value} (h:Blk w g t #[a0,a1,a2,a3,a4]) :
 w.cell? ⟨g,0,none⟩ = some a0∧w.cell? ⟨g,1,none⟩ = some a1∧w.cell? ⟨g,2,none⟩ = some a2∧w.cell? ⟨g,3,none⟩ = some a3∧w.cell? ⟨g,4,none⟩ = some a4 :=
 ⟨h.cell_ 0 rfl,h.cell_ 1 rfl,h.cell_ 2 rfl,h.cell_ 3 rfl,h.cell_ 4 rfl⟩
theorem late_any (e0:En) (g:Nat) (m:Mn) (A:Option Addr) (n c:Nat) (w:World) (B:Blk w g 49 (mcs m A n c)) (v:Bool) (hv:decide (m.now < e0.late) = v) :
 Calls Tryz.prog 114 #[.agg (ec e0),.pointer (some ⟨g,0,none⟩)] w fun e w'=>e = .returned (.bool v)∧Below w.heap.size w w':=by
 have hlt:=B.lt
 obtain ⟨m0,m1,m2,m3,m4⟩:=m
 obtain ⟨e1,e2,e3,e4,e5,e6,e7,e8,e9⟩:=e0
 dsimp only at hv
 have HB:Below w.heap.size w (w.alloc (.cells (ec ⟨e1,e2,e3,e4,e5,e6,e7,e8,e9⟩) 107)):=(Below.refl _ w).alloc (Nat.le_refl _) _
 have B2:=B.alloc (.cells (ec ⟨e1,e2,e3,e4,e5,e6,e7,e8,e9⟩) 107)
 have B3:=Blk.new w 107 (ec ⟨e1,e2,e3,e4,e5,e6,e7,e8,e9⟩)
 obtain ⟨c0,c1,c2,c3,c4⟩:=blk5 B2
 obtain ⟨⟨d0,d1,d2,d3,d4,d5,d6,d7,d8⟩,_⟩:=blk9 B3
 clear B B2 B3
 go_enter Tryz.func114,Tryz.ntmps114
 go_wp2_with fail
 go_ret
 exact ⟨by rw [← hv];rfl,HB⟩
theorem idx_any (A:Option Addr) (n c:Nat) (l:List En) (g:Nat) (m:Mn) (A':Option Addr) (n' c':Nat) (w:World) (h:Rd w w.heap.size 9 A n (ecells l)) (hn:n≤1000000) (B:Blk w g 49 (mcs m A' n' c')) :
 Calls Tryz.prog 161 #[.slice A n c,.func (.func 114) #[] #[.pointer (some ⟨g,0,none⟩)]] w fun e w'=>∃ i:Int,e = .returned (.int .i64 i)∧(0≤i ↔ l.any (fun e=>decide (m.now < e.late)) = true)∧Below w.heap.size w w':=by
 have hl:=rd_elen h
 have HL:=Lib.hid hl
 have hcf:∀ args w,(callFunc 114 args).run Tryz.prog w = .ok (.enter 114 args) w:=fun args w=>run_enter Tryz.func114 (by kernel_rfl) rfl args w
 have HBK:=Lib.hid B
 clear hl B
 go_enter Tryz.func161,Tryz.ntmps161
 go_wp2_with fail
 go_loopw [8] (fun iv wr=>∃ k:Nat,iv = .int .i64 k∧k≤n∧Hid ((l.take k).any (fun e=>decide (m.now < e.late)) = false)∧Below w.heap.size w wr) (fun iv _=>n - (intOf iv).toNat)
 case atStart=>exact ⟨0,rfl,by omega,Lib.hid (by simp),Below.refl _ _⟩
 case round =>
  obtain ⟨k,rfl,hk,HA,HB⟩:=hrel
  by_cases hlt:k < n
  ·have hkl:k < l.length:=by rw [HL.out];exact hlt
   obtain ⟨b,o,rfl,hb,hcc⟩:=rd_ents (h.below HB) (by omega)
   obtain ⟨e0,e1,e2,e3,e4,e5,e6,e7,e8⟩:=hcc k hkl
   have hkI:(k:Int) < (n:Int):=by omega
   have hk0:(0:Int)≤(k:Int):=by omega
   have hk1:IntKind.i64.wrap ((k:Int) + 1) = (k:Int) + 1:=w64s (by omega) (by omega)
   have HTK:=Lib.hid (List.take_succ_eq_append_getElem hkl)
   obtain ⟨p,hp⟩:∃ p,l[k] = p:=⟨_,rfl⟩
   have HMEM:Hid (p ∈ l):=Lib.hid (by rw [← hp];exact List.getElem_mem hkl)
   have C:=fun v hv=>late_any p g m A' n' c' wr (HBK.out.below HB HBK.out.lt) v hv
   rw [hp] at e0 e1 e2 e3 e4 e5 e6 e7 e8 HTK
   obtain ⟨v,hv⟩:∃ v,decide (m.now < p.late) = v:=⟨_,rfl⟩
   have C2:=C v hv
   have HV:=Lib.hid hv
   obtain ⟨p1,p2,p3,p4,p5,p6,p7,p8,p9⟩:=p
   dsimp only at e0 e1 e2 e3 e4 e5 e6 e7 e8
   clear hcc hp C hv
   go_wp2_with fail
   refine C2.mono ?_
   clear C2 e0 e1 e2 e3 e4 e5 e6 e7 e8
   rintro e w3 ⟨rfl,hb3⟩
   replace HB:=HB.trans (hb3.mono HB.size)
   clear hb3
   cases v with
   | true =>
    go_wp2_with fail
    go_ret
    exact ⟨k,rfl,⟨fun _=>List.any_eq_true.2 ⟨_,HMEM.out,HV.out⟩,fun _=>by omega⟩,HB⟩
   | false =>
    go_wp2_with fail
    go_roundw
    case rel=>exact ⟨k + 1,by go_num,by omega,Lib.hid (by rw [HTK.out,List.any_append,HA.out];simpa using HV.out),HB⟩
    case measure=>simp [intOf];omega
  ·have hkI:¬ (k:Int) < (n:Int):=by omega
   have hx:=HA.out
   rw [List.take_of_length_le (by rw [HL.out];omega)] at hx
   have HX:=Lib.hid hx
   clear hx HA
   go_wp2_with fail
   go_ret
   exact ⟨-1,rfl,⟨fun h=>by omega,fun h=>absurd (show l.any (fun e=>decide (m.now < e.late)) = true from List.any_eq_true.2 (by simpa using h)) (by rw [HX.out];decide)⟩,HB⟩
theorem contains_any (A:Option Addr) (n c:Nat) (l:List En) (g:Nat) (m:Mn) (A':Option Addr) (n' c':Nat) (w:World) (h:Rd w w.heap.size 9 A n (ecells l)) (hn:n≤1000000) (B:Blk w g 49 (mcs m A' n' c')) (v:Bool) (hv:l.any (fun e=>decide (m.now < e.late)) = v) :
 Calls Tryz.prog 115 #[.slice A n c,.func (.func 114) #[] #[.pointer (some ⟨g,0,none⟩)]] w fun e w'=>e = .returned (.bool v)∧Below w.heap.size w w':=by
 have C:=idx_any A n c l g m A' n' c' w h hn B
 rw [hv] at C
 clear hv B h
 go_enter Tryz.func115,Tryz.ntmps115
 go_wp2_with fail
 refine C.mono ?_
 clear C
 rintro e w1 ⟨i,rfl,hi,HB⟩
 by_cases h0:0≤i
 ·have hv:v = true:=hi.1 h0
  subst hv
  clear hi
  go_wp2_with fail
  go_ret
  exact ⟨rfl,HB⟩
 ·have hv:v = false:=by
   cases v with
   | false=>rfl
   | true=>exact absurd (hi.2 rfl) h0
  subst hv
  clear hi
  go_wp2_with fail
  go_ret
  exact ⟨ret_bool (decide_eq_false (by omega)),HB⟩
theorem mcheck_any (m:Mn) (A:Option Addr) (n c:Nat) (w:World) (h:Rd w w.heap.size 9 A n (ecells m.ents)) (hn:n≤1000000) (v:Int) (hv:chkM m = v) :
 Calls Tryz.prog 56 #[.agg (mcs m A n c)] w fun e w'=>e = .returned (.int .i64 v)∧Below w.heap.size w w':=by
 have hl:=rd_elen h
 obtain ⟨w1,hw1⟩:∃ w1,w.alloc (.cells (mcs m A n c) 49) = w1:=⟨_,rfl⟩
 have B:=hw1 ▸ Blk.new w 49 (mcs m A n c)
 have HB:Below w.heap.size w w1:=hw1 ▸ (Below.refl _ w).alloc (Nat.le_refl _) _
 have hz1:w1.heap.size = w.heap.size + 1:=by rw [← hw1];simp
 have C:=fun wx (hx:Below w.heap.size w wx) (hz:w.heap.size≤wx.heap.size)=>Row_any A n c m.ents wx ((h.below hx).more hz) hn _ rfl
 have CR:=C w1 HB (by omega)
 have HH:=Lib.hid h
 have HL:=Lib.hid hl
 have HVV:=Lib.hid hv
 have BM:=Lib.hid B
 have CC:=Lib.hid (fun wx hx hz hB (v:Bool) hv=>contains_any A n c m.ents w.heap.size m A n c wx ((h.below (hx:Below w.heap.size w wx)).more (hz:w.heap.size≤wx.heap.size)) hn hB v hv)
 obtain ⟨g,nx,now,fl,es⟩:=m
 dsimp only at CR
 have hw1':w.alloc (.cells #[.int .i64 g,.int .i64 nx,.int .i64 now,.int .i64 fl,.slice A n c] 49) = w1:=hw1
 have HW:=Lib.hid hw1'
 obtain ⟨c0,c1,c2,c3,c4⟩:=blk5 B
 obtain ⟨r,hr⟩:∃ r,rowEV es = r:=⟨_,rfl⟩
 rw [hr] at CR
 have HR:=Lib.hid hr
 have hge:w.heap.size < w1.heap.size:=by omega
 clear C h hl hv hw1 hw1' B hr hz1
 have hno:(g < 1 ∨ 1000000000 < g ∨ now < 0 ∨ 1000000000 < now ∨ r ≠ 0) → v = 250:=by
  intro hc
  rw [← HVV.out]
  unfold chkM
  rw [if_pos (by dsimp only;rw [HR.out];exact hc)]
 have HNO:=Lib.hid hno
 clear hno
 by_cases k1:g < 1
 ·have hv:=HNO.out (.inl k1)
  subst hv
  go_enter Tryz.func56,Tryz.ntmps56
  go_wp2_with fail
  go_ret
  exact ⟨rfl,by rw [HW.out];exact HB⟩
 ·by_cases k2:1000000000 < g
  ·have hv:=HNO.out (.inr (.inl k2))
   subst hv
   go_enter Tryz.func56,Tryz.ntmps56
   go_wp2_with fail
   go_ret
   exact ⟨rfl,by rw [HW.out];exact HB⟩
  ·by_cases k3:now < 0
   ·have hv:=HNO.out (.inr (.inr (.inl k3)))
    subst hv
    go_enter Tryz.func56,Tryz.ntmps56
    go_wp2_with fail
    go_ret
    exact ⟨rfl,by rw [HW.out];exact HB⟩
   ·by_cases k4:1000000000 < now
    ·have hv:=HNO.out (.inr (.inr (.inr (.inl k4))))
     subst hv
     go_enter Tryz.func56,Tryz.ntmps56
     go_wp2_with fail
     go_ret
     exact ⟨rfl,by rw [HW.out];exact HB⟩
    ·by_cases k5:r = 0
     ·subst k5
      have hre:=HR.out
      have hnn:0 < n∧n≤100:=by
       have h1:=HL.out
       dsimp only at h1
       unfold rowEV at hre
       by_cases hc:es.length < 1 ∨ 100 < es.length ∨ (es[es.length - 1]?.getD enZ).shut = true
       ·rw [if_pos hc] at hre;cases hre
       ·omega
      have hmf:∀ (fn:Fn) (first cap:Array Value) (w:World),(Instr.makeFunc fn first cap).run Tryz.prog w = .ok (.func fn first cap) w:=fun _ _ _ _=>rfl
      have HMF:=Lib.hid hmf
      clear hre HNO hmf
      go_enter Tryz.func56,Tryz.ntmps56
      go_wp2_with fail
      rw [HW.out]
      refine CR.mono ?_
      clear CR c0 c1 c2 c3 c4
      rintro e w3 ⟨rfl,hb3⟩
      have HB3:=HB.trans (hb3.mono HB.size)
      have B3:=BM.out.below hb3 BM.out.lt
      have hz3:=HB3.size
      obtain ⟨c0,c1,c2,c3,c4⟩:=blk5 B3
      obtain ⟨b,o,rfl,hb,hcc⟩:=rd_ents (HH.out.below HB3) (by omega)
      obtain ⟨kk,hkk⟩:∃ kk,n = kk + 1:=⟨n - 1,by omega⟩
      have hll:=HL.out
      (try dsimp only at hll);(try dsimp only at hcc)
      have hkl:kk < es.length:=by omega
      have h0l:0 < es.length:=by omega
      obtain ⟨z0,z1,z2,z3,z4,z5,z6,z7,z8⟩:=hcc kk hkl
      have f2:=(hcc 0 h0l).2.2.1
      obtain ⟨p,hp⟩:∃ p,es[kk] = p:=⟨_,rfl⟩
      obtain ⟨ff,hff⟩:∃ ff,es[0].frst = ff:=⟨_,rfl⟩
      have HLA:Hid ((es[es.length - 1]?.getD enZ) = p):=Lib.hid (by rw [show es.length - 1 = kk by omega,List.getElem?_eq_getElem hkl,hp];rfl)
      have HFI:Hid ((es[0]?.getD enZ).frst = ff):=Lib.hid (by rw [List.getElem?_eq_getElem h0l];exact hff)
      rw [hp] at z0 z1 z2 z3 z4 z5 z6 z7 z8
      rw [hff] at f2
      have f2:w3.cell? ⟨b,o + 2,none⟩ = some (.int .i64 ff):=by simpa using f2
      obtain ⟨p1,p2,p3,p4,p5,p6,p7,p8,p9⟩:=p
      dsimp only at z0 z1 z2 z3 z4 z5 z6 z7 z8
      have hw1:IntKind.i64.wrap ((n:Int) - 1) = (kk:Int):=by rw [w64s (by omega) (by omega)];omega
      have hk1:(kk:Int) < (n:Int):=by omega
      have hk0:(0:Int)≤(kk:Int):=by omega
      have hn0:(0:Int) < (n:Int):=by omega
      have HV2:Hid ((if nx≤p1 ∨ 1000000 < nx ∨ fl ≠ ff ∨ es.any (fun e=>decide (now < e.late)) = true then 250 else 0) = v):=Lib.hid (by
       have hc:=HVV.out
       unfold chkM at hc
       rw [if_neg (by (try dsimp only);rw [HR.out];omega)] at hc
       try dsimp only at hc
       rw [HLA.out,HFI.out] at hc
       exact hc)
      obtain ⟨w4,hw4⟩:∃ w4,w3.alloc (.cells (ec ⟨p1,p2,p3,p4,p5,p6,p7,p8,p9⟩) 107) = w4:=⟨_,rfl⟩
      have hw4':w3.alloc (.cells #[.int .i64 p1,.int .i64 p2,.int .i64 p3,.bool p4,.int .i64 p5,.int .i64 p6,.int .i64 p7,.int .i64 p8,.int .i64 p9] 107) = w4:=hw4
      have BL:Blk w4 w3.heap.size 107 (ec ⟨p1,p2,p3,p4,p5,p6,p7,p8,p9⟩):=hw4 ▸ Blk.new _ _ _
      have B4:=hw4 ▸ B3.alloc (.cells (ec ⟨p1,p2,p3,p4,p5,p6,p7,p8,p9⟩) 107)
      have HB4:Below w.heap.size w w4:=hw4 ▸ HB3.alloc HB3.size _
      have hB0:=HB4
      have hBr:Below w3.heap.size w3 w4:=hw4 ▸ (Below.refl _ w3).alloc (Nat.le_refl _) _
      have hz4:w3.heap.size + 1≤w4.heap.size:=by rw [← hw4];simp
      have f2':w4.cell? ⟨b,o + 2,none⟩ = some (.int .i64 ff):=(hBr.cell (p:=⟨b,o + 2,none⟩) (by dsimp only;omega)).trans f2
      obtain ⟨d0,d1,d2,d3,d4⟩:=blk5 B4
      have l0:w4.cell? ⟨w3.heap.size,0,none⟩ = some (.int .i64 p1):=BL.cell_ 0 rfl
      have hg3:=B3.lt
      have hbz:b < w3.heap.size + 1:=by omega
      have hgz:w.heap.size < w3.heap.size + 1:=by omega
      have HW4:=Lib.hid hw4'
      have hmf:=HMF.out
      obtain ⟨y,hy⟩:∃ y,es.any (fun e=>decide (now < e.late)) = y:=⟨_,rfl⟩
      have C5:=CC.out w4.drew HB4.drew (by simp only [World.size_drew];omega) B4.drew y hy
      have HV3:Hid ((if nx≤p1 ∨ 1000000 < nx ∨ fl ≠ ff ∨ y = true then 250 else 0) = v):=Lib.hid (by rw [← hy];exact HV2.out)
      clear hw4 hw4' hcc hkk hll hkl h0l hp hff HLA HFI HV2 HVV HR HL HH CC BL B4 HB4 hBr HMF hy BM HW B3
      go_wp2_with fail
      rw [HW4.out]
      clear c0 c1 c2 c3 c4 z0 z1 z2 z3 z4 z5 z6 z7 z8 f2
      by_cases q1:nx≤p1
      ·have hv:=HV3.out
       rw [if_pos (.inl q1)] at hv
       subst hv
       clear HV3
       refine wp_region_held_drew (S:=(fun w'=>(∀ b o,b < w3.heap.size + 1 → w'.cell? ⟨b,o,none⟩ = w4.cell? ⟨b,o,none⟩)∧w3.heap.size + 1≤w'.heap.size∧Below w.heap.size w w')) (by kernel_rfl) ?_ (fun hHeld=>?_)
       ·(try dsimp only);(first | assumption | exact keep_next (by assumption) (by assumption) (by first | exact Nat.le_refl _ | (simp only [World.size_alloc,World.size_setCell,World.size_drew];omega) | (simp;done) | (simp;omega) | omega) | exact keep_alloc (by assumption) (by first | exact Nat.le_refl _ | (simp only [World.size_alloc,World.size_setCell,World.size_drew];omega) | (simp;done) | (simp;omega) | omega) | exact keep_start (by assumption) (by first | assumption | omega) | exact keep_drew (by assumption))
       refine zO 0 (.fieldAddr 49 (.tmp 1) 1) 0 ?_
       refine zO 1 (.load 3 (.tmp 38)) 3 ?_
       refine zO 2 (.fieldAddr 107 (.tmp 3) 0) 0 ?_
       refine zO 3 (.fieldAddr 23 (.tmp 40) 0) 0 ?_
       refine zO 4 (.load 3 (.tmp 41)) 3 ?_
       refine zO 5 (.binOp .leq 3 (.tmp 39) (.tmp 42) 3) 4 ?_
       refine zM 6 (.tmp 43) ?_
       refine zK 7 ?_
       refine zK 8 ?_
       refine zK 9 ?_
       refine zO 10 (.pick (.tmp 44) (.const (Value.bool true)) (.tmp 47)) 4 ?_
       refine zM 11 (.tmp 48) ?_
       refine zK 12 ?_
       refine zK 13 ?_
       refine zK 14 ?_
       refine zK 15 ?_
       refine zK 16 ?_
       refine zK 17 ?_
       refine zK 18 ?_
       refine zK 19 ?_
       refine zK 20 ?_
       refine zO 21 (.pick (.tmp 49) (.const (Value.bool true)) (.tmp 58)) 4 ?_
       refine zM 22 (.tmp 59) ?_
       refine zK 23 ?_
       refine zK 24 ?_
       refine zK 25 ?_
       refine zK 26 ?_
       refine zO 27 (.pick (.tmp 60) (.const (Value.bool true)) (.tmp 64)) 4 ?_
       refine wpAnyH_done (by kernel_rfl) ?_ _
       go_wp2_with fail
       go_ret
       exact ⟨rfl,(‹(∀ b o,_ → _)∧_∧_›).2.2⟩
      ·by_cases q2:1000000 < nx
       ·have hv:=HV3.out
        rw [if_pos (.inr (.inl q2))] at hv
        subst hv
        clear HV3
        refine wp_region_held_drew (S:=(fun w'=>(∀ b o,b < w3.heap.size + 1 → w'.cell? ⟨b,o,none⟩ = w4.cell? ⟨b,o,none⟩)∧w3.heap.size + 1≤w'.heap.size∧Below w.heap.size w w')) (by kernel_rfl) ?_ (fun hHeld=>?_)
        ·(try dsimp only);(first | assumption | exact keep_next (by assumption) (by assumption) (by first | exact Nat.le_refl _ | (simp only [World.size_alloc,World.size_setCell,World.size_drew];omega) | (simp;done) | (simp;omega) | omega) | exact keep_alloc (by assumption) (by first | exact Nat.le_refl _ | (simp only [World.size_alloc,World.size_setCell,World.size_drew];omega) | (simp;done) | (simp;omega) | omega) | exact keep_start (by assumption) (by first | assumption | omega) | exact keep_drew (by assumption))
        refine zO 0 (.fieldAddr 49 (.tmp 1) 1) 0 ?_
        refine zO 1 (.load 3 (.tmp 38)) 3 ?_
        refine zO 2 (.fieldAddr 107 (.tmp 3) 0) 0 ?_
        refine zO 3 (.fieldAddr 23 (.tmp 40) 0) 0 ?_
        refine zO 4 (.load 3 (.tmp 41)) 3 ?_
        refine zO 5 (.binOp .leq 3 (.tmp 39) (.tmp 42) 3) 4 ?_
        refine zM 6 (.tmp 43) ?_
        refine zO 7 (.fieldAddr 49 (.tmp 1) 1) 0 ?_
        refine zO 8 (.load 3 (.tmp 45)) 3 ?_
        refine zO 9 (.binOp .gtr 3 (.tmp 46) (.const (Value.int IntKind.i64 1000000)) 3) 4 ?_
        refine zO 10 (.pick (.tmp 44) (.const (Value.bool true)) (.tmp 47)) 4 ?_
        refine zM 11 (.tmp 48) ?_
        refine zK 12 ?_
        refine zK 13 ?_
        refine zK 14 ?_
        refine zK 15 ?_
        refine zK 16 ?_
        refine zK 17 ?_
        refine zK 18 ?_
        refine zK 19 ?_
        refine zK 20 ?_
        refine zO 21 (.pick (.tmp 49) (.const (Value.bool true)) (.tmp 58)) 4 ?_
        refine zM 22 (.tmp 59) ?_
        refine zK 23 ?_
        refine zK 24 ?_
        refine zK 25 ?_
        refine zK 26 ?_
        refine zO 27 (.pick (.tmp 60) (.const (Value.bool true)) (.tmp 64)) 4 ?_
        refine wpAnyH_done (by kernel_rfl) ?_ _
        go_wp2_with fail
        go_ret
        exact ⟨rfl,(‹(∀ b o,_ → _)∧_∧_›).2.2⟩
       ·by_cases q3:fl = ff
        ·have q3b:(fl != ff) = false:=by simp [q3]
         have hv:=HV3.out
         have hq:(nx≤p1 ∨ 1000000 < nx ∨ fl ≠ ff ∨ y = true) ↔ y = true:=⟨fun h=>by rcases h with h | h | h | h;exact absurd h q1;exact absurd h q2;exact absurd q3 h;exact h,fun h=>.inr (.inr (.inr h))⟩
         clear HV3
         cases y with
         | true =>
          rw [if_pos (hq.2 rfl)] at hv
          subst hv
          clear hq q3
          refine wp_region_held_drew (S:=(fun w'=>(∀ b o,b < w3.heap.size + 1 → w'.cell? ⟨b,o,none⟩ = w4.cell? ⟨b,o,none⟩)∧w3.heap.size + 1≤w'.heap.size∧Below w.heap.size w w')) (by kernel_rfl) ?_ (fun hHeld=>?_)
          ·(try dsimp only);(first | assumption | exact keep_next (by assumption) (by assumption) (by first | exact Nat.le_refl _ | (simp only [World.size_alloc,World.size_setCell,World.size_drew];omega) | (simp;done) | (simp;omega) | omega) | exact keep_alloc (by assumption) (by first | exact Nat.le_refl _ | (simp only [World.size_alloc,World.size_setCell,World.size_drew];omega) | (simp;done) | (simp;omega) | omega) | exact keep_start (by assumption) (by first | assumption | omega) | exact keep_drew (by assumption))
          refine zO 0 (.fieldAddr 49 (.tmp 1) 1) 0 ?_
          refine zO 1 (.load 3 (.tmp 38)) 3 ?_
          refine zO 2 (.fieldAddr 107 (.tmp 3) 0) 0 ?_
          refine zO 3 (.fieldAddr 23 (.tmp 40) 0) 0 ?_
          refine zO 4 (.load 3 (.tmp 41)) 3 ?_
          refine zO 5 (.binOp .leq 3 (.tmp 39) (.tmp 42) 3) 4 ?_
          refine zM 6 (.tmp 43) ?_
          refine zO 7 (.fieldAddr 49 (.tmp 1) 1) 0 ?_
          refine zO 8 (.load 3 (.tmp 45)) 3 ?_
          refine zO 9 (.binOp .gtr 3 (.tmp 46) (.const (Value.int IntKind.i64 1000000)) 3) 4 ?_
          refine zO 10 (.pick (.tmp 44) (.const (Value.bool true)) (.tmp 47)) 4 ?_
          refine zM 11 (.tmp 48) ?_
          refine zO 12 (.fieldAddr 49 (.tmp 1) 3) 0 ?_
          refine zO 13 (.load 3 (.tmp 50)) 3 ?_
          refine zO 14 (.fieldAddr 49 (.tmp 1) 4) 0 ?_
          refine zO 15 (.load 47 (.tmp 52)) 47 ?_
          refine zO 16 (.indexAddr 47 (.tmp 53) (.const (Value.int IntKind.i64 0))) 0 ?_
          refine zO 17 (.fieldAddr 107 (.tmp 54) 0) 0 ?_
          refine zO 18 (.fieldAddr 23 (.tmp 55) 2) 0 ?_
          refine zO 19 (.load 3 (.tmp 56)) 3 ?_
          refine zO 20 (.binOp .neq 3 (.tmp 51) (.tmp 57) 3) 4 ?_
          refine zO 21 (.pick (.tmp 49) (.const (Value.bool true)) (.tmp 58)) 4 ?_
          refine zM 22 (.tmp 59) ?_
          refine zO 23 (.fieldAddr 49 (.tmp 1) 4) 0 ?_
          refine zO 24 (.load 47 (.tmp 61)) 47 ?_
          refine zM 25 (.tmp 4) ?_
          refine take_call 26 115 [Operand.tmp 62,Operand.tmp 63] #[47,180] (by kernel_rfl) rfl rfl rfl rfl (fun args w=>run_enter Tryz.func115 (by kernel_rfl) rfl args w) ?_
          refine (C5).mono ?_
          rintro e w1 ⟨rfl,hb1⟩
          refine ⟨_,rfl,?_,fun hHeld=>?_⟩
          ·(try dsimp only);(first | assumption | exact keep_next (by assumption) (by assumption) (by first | exact Nat.le_refl _ | (simp only [World.size_alloc,World.size_setCell,World.size_drew];omega) | (simp;done) | (simp;omega) | omega) | exact keep_alloc (by assumption) (by first | exact Nat.le_refl _ | (simp only [World.size_alloc,World.size_setCell,World.size_drew];omega) | (simp;done) | (simp;omega) | omega) | exact keep_start (by assumption) (by first | assumption | omega) | exact keep_drew (by assumption))
          simp only [zSa,zSb,zSc]
          refine zO 27 (.pick (.tmp 60) (.const (Value.bool true)) (.tmp 64)) 4 ?_
          refine wpAnyH_done (by kernel_rfl) ?_ _
          go_wp2_with fail
          go_ret
          exact ⟨rfl,(‹(∀ b o,_ → _)∧_∧_›).2.2⟩
         | false =>
          rw [if_neg (fun h=>by have:=hq.1 h;cases this)] at hv
          subst hv
          clear hq q3
          refine wp_region_held_drew (S:=(fun w'=>(∀ b o,b < w3.heap.size + 1 → w'.cell? ⟨b,o,none⟩ = w4.cell? ⟨b,o,none⟩)∧w3.heap.size + 1≤w'.heap.size∧Below w.heap.size w w')) (by kernel_rfl) ?_ (fun hHeld=>?_)
          ·(try dsimp only);(first | assumption | exact keep_next (by assumption) (by assumption) (by first | exact Nat.le_refl _ | (simp only [World.size_alloc,World.size_setCell,World.size_drew];omega) | (simp;done) | (simp;omega) | omega) | exact keep_alloc (by assumption) (by first | exact Nat.le_refl _ | (simp only [World.size_alloc,World.size_setCell,World.size_drew];omega) | (simp;done) | (simp;omega) | omega) | exact keep_start (by assumption) (by first | assumption | omega) | exact keep_drew (by assumption))
          refine zO 0 (.fieldAddr 49 (.tmp 1) 1) 0 ?_
          refine zO 1 (.load 3 (.tmp 38)) 3 ?_
          refine zO 2 (.fieldAddr 107 (.tmp 3) 0) 0 ?_
          refine zO 3 (.fieldAddr 23 (.tmp 40) 0) 0 ?_
          refine zO 4 (.load 3 (.tmp 41)) 3 ?_
          refine zO 5 (.binOp .leq 3 (.tmp 39) (.tmp 42) 3) 4 ?_
          refine zM 6 (.tmp 43) ?_
          refine zO 7 (.fieldAddr 49 (.tmp 1) 1) 0 ?_
          refine zO 8 (.load 3 (.tmp 45)) 3 ?_
          refine zO 9 (.binOp .gtr 3 (.tmp 46) (.const (Value.int IntKind.i64 1000000)) 3) 4 ?_
          refine zO 10 (.pick (.tmp 44) (.const (Value.bool true)) (.tmp 47)) 4 ?_
          refine zM 11 (.tmp 48) ?_
          refine zO 12 (.fieldAddr 49 (.tmp 1) 3) 0 ?_
          refine zO 13 (.load 3 (.tmp 50)) 3 ?_
          refine zO 14 (.fieldAddr 49 (.tmp 1) 4) 0 ?_
          refine zO 15 (.load 47 (.tmp 52)) 47 ?_
          refine zO 16 (.indexAddr 47 (.tmp 53) (.const (Value.int IntKind.i64 0))) 0 ?_
          refine zO 17 (.fieldAddr 107 (.tmp 54) 0) 0 ?_
          refine zO 18 (.fieldAddr 23 (.tmp 55) 2) 0 ?_
          refine zO 19 (.load 3 (.tmp 56)) 3 ?_
          refine zO 20 (.binOp .neq 3 (.tmp 51) (.tmp 57) 3) 4 ?_
          refine zO 21 (.pick (.tmp 49) (.const (Value.bool true)) (.tmp 58)) 4 ?_
          refine zM 22 (.tmp 59) ?_
          refine zO 23 (.fieldAddr 49 (.tmp 1) 4) 0 ?_
          refine zO 24 (.load 47 (.tmp 61)) 47 ?_
          refine zM 25 (.tmp 4) ?_
          refine take_call 26 115 [Operand.tmp 62,Operand.tmp 63] #[47,180] (by kernel_rfl) rfl rfl rfl rfl (fun args w=>run_enter Tryz.func115 (by kernel_rfl) rfl args w) ?_
          refine (C5).mono ?_
          rintro e w1 ⟨rfl,hb1⟩
          refine ⟨_,rfl,?_,fun hHeld=>?_⟩
          ·(try dsimp only);(first | assumption | exact keep_next (by assumption) (by assumption) (by first | exact Nat.le_refl _ | (simp only [World.size_alloc,World.size_setCell,World.size_drew];omega) | (simp;done) | (simp;omega) | omega) | exact keep_alloc (by assumption) (by first | exact Nat.le_refl _ | (simp only [World.size_alloc,World.size_setCell,World.size_drew];omega) | (simp;done) | (simp;omega) | omega) | exact keep_start (by assumption) (by first | assumption | omega) | exact keep_drew (by assumption))
          simp only [zSa,zSb,zSc]
          refine zO 27 (.pick (.tmp 60) (.const (Value.bool true)) (.tmp 64)) 4 ?_
          refine wpAnyH_done (by kernel_rfl) ?_ _
          go_wp2_with fail
          go_ret
          exact ⟨rfl,(‹(∀ b o,_ → _)∧_∧_›).2.2⟩
        ·have q3b:(fl != ff) = true:=by simp [q3]
         have hv:=HV3.out
         rw [if_pos (.inr (.inr (.inl q3)))] at hv
         subst hv
         clear HV3
         refine wp_region_held_drew (S:=(fun w'=>(∀ b o,b < w3.heap.size + 1 → w'.cell? ⟨b,o,none⟩ = w4.cell? ⟨b,o,none⟩)∧w3.heap.size + 1≤w'.heap.size∧Below w.heap.size w w')) (by kernel_rfl) ?_ (fun hHeld=>?_)
         ·(try dsimp only);(first | assumption | exact keep_next (by assumption) (by assumption) (by first | exact Nat.le_refl _ | (simp only [World.size_alloc,World.size_setCell,World.size_drew];omega) | (simp;done) | (simp;omega) | omega) | exact keep_alloc (by assumption) (by first | exact Nat.le_refl _ | (simp only [World.size_alloc,World.size_setCell,World.size_drew];omega) | (simp;done) | (simp;omega) | omega) | exact keep_start (by assumption) (by first | assumption | omega) | exact keep_drew (by assumption))
         refine zO 0 (.fieldAddr 49 (.tmp 1) 1) 0 ?_
         refine zO 1 (.load 3 (.tmp 38)) 3 ?_
         refine zO 2 (.fieldAddr 107 (.tmp 3) 0) 0 ?_
         refine zO 3 (.fieldAddr 23 (.tmp 40) 0) 0 ?_
         refine zO 4 (.load 3 (.tmp 41)) 3 ?_
         refine zO 5 (.binOp .leq 3 (.tmp 39) (.tmp 42) 3) 4 ?_
         refine zM 6 (.tmp 43) ?_
         refine zO 7 (.fieldAddr 49 (.tmp 1) 1) 0 ?_
         refine zO 8 (.load 3 (.tmp 45)) 3 ?_
         refine zO 9 (.binOp .gtr 3 (.tmp 46) (.const (Value.int IntKind.i64 1000000)) 3) 4 ?_
         refine zO 10 (.pick (.tmp 44) (.const (Value.bool true)) (.tmp 47)) 4 ?_
         refine zM 11 (.tmp 48) ?_
         refine zO 12 (.fieldAddr 49 (.tmp 1) 3) 0 ?_
         refine zO 13 (.load 3 (.tmp 50)) 3 ?_
         refine zO 14 (.fieldAddr 49 (.tmp 1) 4) 0 ?_
         refine zO 15 (.load 47 (.tmp 52)) 47 ?_
         refine zO 16 (.indexAddr 47 (.tmp 53) (.const (Value.int IntKind.i64 0))) 0 ?_
         refine zO 17 (.fieldAddr 107 (.tmp 54) 0) 0 ?_
         refine zO 18 (.fieldAddr 23 (.tmp 55) 2) 0 ?_
         refine zO 19 (.load 3 (.tmp 56)) 3 ?_
         refine zO 20 (.binOp .neq 3 (.tmp 51) (.tmp 57) 3) 4 ?_
         refine zO 21 (.pick (.tmp 49) (.const (Value.bool true)) (.tmp 58)) 4 ?_
         refine zM 22 (.tmp 59) ?_
         refine zK 23 ?_
         refine zK 24 ?_
         refine zK 25 ?_
         refine zK 26 ?_
         refine zO 27 (.pick (.tmp 60) (.const (Value.bool true)) (.tmp 64)) 4 ?_
         refine wpAnyH_done (by kernel_rfl) ?_ _
         go_wp2_with fail
         go_ret
         exact ⟨rfl,(‹(∀ b o,_ → _)∧_∧_›).2.2⟩
     ·have hv:=HNO.out (.inr (.inr (.inr (.inr k5))))
      subst hv
      have k5b:(r != 0) = true:=by simp [k5]
      clear HNO
      go_enter Tryz.func56,Tryz.ntmps56
      go_wp2_with fail
      rw [HW.out]
      refine CR.mono ?_
      clear CR c0 c1 c2 c3 c4
      rintro e w3 ⟨rfl,hb3⟩
      go_wp2_with fail
      go_ret
      exact ⟨rfl,HB.trans (hb3.mono HB.size)⟩
end ManW
end Go.Proofs.YtnpncpoiiikafaaGreat
