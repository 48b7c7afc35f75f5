/- SieI -/
import Derived.Test.YtnpncpoiiikafaaGreatDoorSieHQs
import Derived.Test.YtnpncpoiiikafaaGreatDoorSpanDQs
import Derived.Test.YtnpncpoiiikafaaGreatDoorMemQs
set_option linter.unusedVariables false
set_option linter.unusedSimpArgs false
set_option linter.unnecessarySimpa false
namespace Go.Proofs.YtnpncpoiiikafaaGreatDoor
open Go.RowKit
namespace SieW
open SkpW (Me mc sM tM)
open SpanW (R rv meetsB withinB)
def MayC (m:Me) (v:Value) (yes:Bool) (b:Bool) (w0:World):Prop:=∀ w',Below w0.heap.size w0 w' → Calls Tryz.prog 24 #[v,.agg (mc m),.bool yes] w' fun e w2=>e = .returned (.bool b)∧Below w'.heap.size w' w2
set_option maxRecDepth 100000 in
set_option maxHeartbeats 8000000 in
theorem within_may (m:Me) (k:Nat) (lo hi:Int) (yes:Bool) (w:World) (hk:k≤2) (hc:I64 m.count) (hf:I64 m.first) (b:Bool) (hb:mayN (sM m.count m.first) (tM m.count m.early m.late) (.within k lo hi) yes = b) :
    Calls Tryz.prog 24 #[.iface 95 (.agg #[str (kwS k),.int .i64 lo,.int .i64 hi]),.agg (mc m),.bool yes] w fun e w'=>e = .returned (.bool b)∧Below w.heap.size w w':=by
  have hT:=fun w=>SkpW.ticks_any m w
  have hS:=fun w=>SkpW.bseqs_any m w hc hf
  simp only [mayN] at hb
  generalize sM m.count m.first = sq at *
  generalize tM m.count m.early m.late = tk at *
  have HT:=Lib.hid hT
  have HS:=Lib.hid hS
  clear hT hS
  obtain ⟨s1,s2⟩:=sq
  obtain ⟨k1,k2⟩:=tk
  have t1:=tw_1
  have HB1:=(Below.refl w.heap.size w).alloc (Nat.le_refl _) (.cells (mc m) 32)
  have b1:=Blk.new w 32 (mc m)
  have k3:k = 0 ∨ k = 1 ∨ k = 2:=by omega
  rcases k3 with rfl | rfl | rfl
  · have HB2:=HB1.alloc HB1.size (.cells #[str (kwS 0),.int .i64 lo,.int .i64 hi] 95)
    have m2:=b1.alloc (.cells #[str (kwS 0),.int .i64 lo,.int .i64 hi] 95)
    have g2:Blk ((w.alloc (.cells (mc m) 32)).alloc (.cells #[str (kwS 0),.int .i64 lo,.int .i64 hi] 95)) (w.heap.size + 1) 95 #[str (kwS 0),.int .i64 lo,.int .i64 hi]:=by
      have:=Blk.new (w.alloc (.cells (mc m) 32)) 95 #[str (kwS 0),.int .i64 lo,.int .i64 hi]
      simpa using this
    obtain ⟨a0,a1,a2,a3,a4,a5,a6⟩:=SkpW.blk7 m2
    obtain ⟨c0,c1,c2,_⟩:=blk3 g2
    have hl2:=g2.lt
    obtain ⟨w2,hw2⟩:∃ w2,(w.alloc (.cells (mc m) 32)).alloc (.cells #[str (kwS 0),.int .i64 lo,.int .i64 hi] 95) = w2:=⟨_,rfl⟩
    rw [hw2] at HB2 m2 g2 a0 a1 a2 a3 a4 a5 a6 c0 c1 c2 hl2
    have hz2:=HB2.size
    go_enter Tryz.func24,Tryz.ntmps24
    go_wp2_with fail
    clear hw2
    refine (HT.out _).mono ?_
    rintro e w3 ⟨rfl,hb3⟩
    have HB4:=(HB2.trans (hb3.mono hz2)).alloc (Nat.le_trans hz2 hb3.size) (.cells #[.int .i64 k1,.int .i64 k2] 93)
    have m4:=(m2.below hb3 (by omega)).alloc (.cells #[.int .i64 k1,.int .i64 k2] 93)
    have g4:=(g2.below hb3 hl2).alloc (.cells #[.int .i64 k1,.int .i64 k2] 93)
    have o4:=Blk.new w3 93 #[.int .i64 k1,.int .i64 k2]
    have hz3:=hb3.size
    clear a0 a1 a2 a3 a4 a5 a6 c0 c1 c2
    obtain ⟨a0,a1,a2,a3,a4,a5,a6⟩:=SkpW.blk7 m4
    obtain ⟨c0,c1,c2,_⟩:=blk3 g4
    obtain ⟨d0,d1,e0,e1,_⟩:=blk2 o4
    have hl4:=o4.lt
    obtain ⟨p,hp⟩:∃ p,w3.heap.size = p:=⟨_,rfl⟩
    rw [hp] at d0 d1 e0 e1 o4 hl4
    obtain ⟨w4,hw4⟩:∃ w4,w3.alloc (.cells #[.int .i64 k1,.int .i64 k2] 93) = w4:=⟨_,rfl⟩
    rw [hw4] at HB4 m4 g4 o4 a0 a1 a2 a3 a4 a5 a6 c0 c1 c2 d0 d1 e0 e1 hl4
    have hz4:=HB4.size
    have hpw:w.heap.size + 1 < p:=by omega
    have n1:p ≠ w.heap.size + 1:=by omega
    have n2:w.heap.size + 1 ≠ p:=by omega
    have n3:p ≠ w.heap.size:=by omega
    have n4:w.heap.size ≠ p:=by omega
    simp at hb
    go_wp2_with fail
    clear hw4 hp
    refine (HS.out _).mono ?_
    rintro e w5 ⟨rfl,hb5⟩
    have g5:=g4.below hb5 g4.lt
    have o5:=o4.below hb5 hl4
    have hz5:=hb5.size
    have HB5:=HB4.trans (hb5.mono hz4)
    have o6:Blk ((w5.setCell ⟨p,0,none⟩ (.int .i64 s1)).setCell ⟨p,1,none⟩ (.int .i64 s2)) p 93 #[.int .i64 s1,.int .i64 s2]:=(o5.set 0 _).set 1 _
    have g6:=(g5.far (p:=⟨p,0,none⟩) n2 (.int .i64 s1)).far (p:=⟨p,1,none⟩) n2 (.int .i64 s2)
    have HB6:=below_set (below_set HB5 p 0 (.int .i64 s1) (by omega)) p 1 (.int .i64 s2) (by omega)
    clear a0 a1 a2 a3 a4 a5 a6 c0 c1 c2 d0 d1 e0 e1
    obtain ⟨c0,c1,c2,_⟩:=blk3 g5
    obtain ⟨d0,d1,f0,f1,_⟩:=blk2 o5
    obtain ⟨c0',c1',c2',_⟩:=blk3 g6
    obtain ⟨d0',d1',_⟩:=blk2 o6
    cases yes
    all_goals
      simp at hb
      go_wp2_with fail
      first
      | (refine (SpanW.meets_any (s1,s2) (lo,hi) _).mono ?_
         rintro e w7 ⟨rfl,hb7⟩
         go_wp2_with fail
         all_goals go_ret
         all_goals exact ⟨ret_bool (by first | rfl | exact hb | (simp [hb];done) | simp_all),HB6.trans (hb7.mono HB6.size)⟩)
      | (refine (SpanW.within_any (s1,s2) (lo,hi) _).mono ?_
         rintro e w7 ⟨rfl,hb7⟩
         go_wp2_with fail
         all_goals go_ret
         all_goals exact ⟨ret_bool (by first | rfl | exact hb | (simp [hb];done) | simp_all),HB6.trans (hb7.mono HB6.size)⟩)
  · have HB2:=HB1.alloc HB1.size (.cells #[str (kwS 1),.int .i64 lo,.int .i64 hi] 95)
    have m2:=b1.alloc (.cells #[str (kwS 1),.int .i64 lo,.int .i64 hi] 95)
    have g2:Blk ((w.alloc (.cells (mc m) 32)).alloc (.cells #[str (kwS 1),.int .i64 lo,.int .i64 hi] 95)) (w.heap.size + 1) 95 #[str (kwS 1),.int .i64 lo,.int .i64 hi]:=by
      have:=Blk.new (w.alloc (.cells (mc m) 32)) 95 #[str (kwS 1),.int .i64 lo,.int .i64 hi]
      simpa using this
    obtain ⟨a0,a1,a2,a3,a4,a5,a6⟩:=SkpW.blk7 m2
    obtain ⟨c0,c1,c2,_⟩:=blk3 g2
    have hl2:=g2.lt
    obtain ⟨w2,hw2⟩:∃ w2,(w.alloc (.cells (mc m) 32)).alloc (.cells #[str (kwS 1),.int .i64 lo,.int .i64 hi] 95) = w2:=⟨_,rfl⟩
    rw [hw2] at HB2 m2 g2 a0 a1 a2 a3 a4 a5 a6 c0 c1 c2 hl2
    have hz2:=HB2.size
    go_enter Tryz.func24,Tryz.ntmps24
    go_wp2_with fail
    clear hw2
    refine (HT.out _).mono ?_
    rintro e w3 ⟨rfl,hb3⟩
    have HB4:=(HB2.trans (hb3.mono hz2)).alloc (Nat.le_trans hz2 hb3.size) (.cells #[.int .i64 k1,.int .i64 k2] 93)
    have m4:=(m2.below hb3 (by omega)).alloc (.cells #[.int .i64 k1,.int .i64 k2] 93)
    have g4:=(g2.below hb3 hl2).alloc (.cells #[.int .i64 k1,.int .i64 k2] 93)
    have o4:=Blk.new w3 93 #[.int .i64 k1,.int .i64 k2]
    have hz3:=hb3.size
    clear a0 a1 a2 a3 a4 a5 a6 c0 c1 c2
    obtain ⟨a0,a1,a2,a3,a4,a5,a6⟩:=SkpW.blk7 m4
    obtain ⟨c0,c1,c2,_⟩:=blk3 g4
    obtain ⟨d0,d1,e0,e1,_⟩:=blk2 o4
    have hl4:=o4.lt
    obtain ⟨p,hp⟩:∃ p,w3.heap.size = p:=⟨_,rfl⟩
    rw [hp] at d0 d1 e0 e1 o4 hl4
    obtain ⟨w4,hw4⟩:∃ w4,w3.alloc (.cells #[.int .i64 k1,.int .i64 k2] 93) = w4:=⟨_,rfl⟩
    rw [hw4] at HB4 m4 g4 o4 a0 a1 a2 a3 a4 a5 a6 c0 c1 c2 d0 d1 e0 e1 hl4
    have hz4:=HB4.size
    have hpw:w.heap.size + 1 < p:=by omega
    have n1:p ≠ w.heap.size + 1:=by omega
    have n2:w.heap.size + 1 ≠ p:=by omega
    have n3:p ≠ w.heap.size:=by omega
    have n4:w.heap.size ≠ p:=by omega
    cases yes
    all_goals
      simp at hb
      go_wp2_with fail
      first
      | (refine (SpanW.meets_any (k1,k2) (lo,hi) _).mono ?_
         rintro e w7 ⟨rfl,hb7⟩
         go_wp2_with fail
         all_goals go_ret
         all_goals exact ⟨ret_bool (by first | rfl | exact hb | (simp [hb];done) | simp_all),HB4.trans (hb7.mono HB4.size)⟩)
      | (refine (SpanW.within_any (k1,k2) (lo,hi) _).mono ?_
         rintro e w7 ⟨rfl,hb7⟩
         go_wp2_with fail
         all_goals go_ret
         all_goals exact ⟨ret_bool (by first | rfl | exact hb | (simp [hb];done) | simp_all),HB4.trans (hb7.mono HB4.size)⟩)
  · have HB2:=HB1.alloc HB1.size (.cells #[str (kwS 2),.int .i64 lo,.int .i64 hi] 95)
    have m2:=b1.alloc (.cells #[str (kwS 2),.int .i64 lo,.int .i64 hi] 95)
    have g2:Blk ((w.alloc (.cells (mc m) 32)).alloc (.cells #[str (kwS 2),.int .i64 lo,.int .i64 hi] 95)) (w.heap.size + 1) 95 #[str (kwS 2),.int .i64 lo,.int .i64 hi]:=by
      have:=Blk.new (w.alloc (.cells (mc m) 32)) 95 #[str (kwS 2),.int .i64 lo,.int .i64 hi]
      simpa using this
    obtain ⟨a0,a1,a2,a3,a4,a5,a6⟩:=SkpW.blk7 m2
    obtain ⟨c0,c1,c2,_⟩:=blk3 g2
    have hl2:=g2.lt
    obtain ⟨w2,hw2⟩:∃ w2,(w.alloc (.cells (mc m) 32)).alloc (.cells #[str (kwS 2),.int .i64 lo,.int .i64 hi] 95) = w2:=⟨_,rfl⟩
    rw [hw2] at HB2 m2 g2 a0 a1 a2 a3 a4 a5 a6 c0 c1 c2 hl2
    have hz2:=HB2.size
    go_enter Tryz.func24,Tryz.ntmps24
    go_wp2_with fail
    clear hw2
    refine (HT.out _).mono ?_
    rintro e w3 ⟨rfl,hb3⟩
    have HB4:=(HB2.trans (hb3.mono hz2)).alloc (Nat.le_trans hz2 hb3.size) (.cells #[.int .i64 k1,.int .i64 k2] 93)
    have m4:=(m2.below hb3 (by omega)).alloc (.cells #[.int .i64 k1,.int .i64 k2] 93)
    have g4:=(g2.below hb3 hl2).alloc (.cells #[.int .i64 k1,.int .i64 k2] 93)
    have o4:=Blk.new w3 93 #[.int .i64 k1,.int .i64 k2]
    have hz3:=hb3.size
    clear a0 a1 a2 a3 a4 a5 a6 c0 c1 c2
    obtain ⟨a0,a1,a2,a3,a4,a5,a6⟩:=SkpW.blk7 m4
    obtain ⟨c0,c1,c2,_⟩:=blk3 g4
    obtain ⟨d0,d1,e0,e1,_⟩:=blk2 o4
    have hl4:=o4.lt
    obtain ⟨p,hp⟩:∃ p,w3.heap.size = p:=⟨_,rfl⟩
    rw [hp] at d0 d1 e0 e1 o4 hl4
    obtain ⟨w4,hw4⟩:∃ w4,w3.alloc (.cells #[.int .i64 k1,.int .i64 k2] 93) = w4:=⟨_,rfl⟩
    rw [hw4] at HB4 m4 g4 o4 a0 a1 a2 a3 a4 a5 a6 c0 c1 c2 d0 d1 e0 e1 hl4
    have hz4:=HB4.size
    have hpw:w.heap.size + 1 < p:=by omega
    have n1:p ≠ w.heap.size + 1:=by omega
    have n2:w.heap.size + 1 ≠ p:=by omega
    have n3:p ≠ w.heap.size:=by omega
    have n4:w.heap.size ≠ p:=by omega
    simp at hb
    go_wp2_with fail
    go_ret
    exact ⟨ret_bool (by first | rfl | exact hb | (simp [hb];done) | simp_all),HB4⟩
set_option maxRecDepth 100000 in
set_option maxHeartbeats 2000000 in
theorem has_may (m:Me) (x:Value) (yes:Bool) (w:World) :
    Calls Tryz.prog 24 #[.iface 105 x,.agg (mc m),.bool yes] w fun e w'=>e = .returned (.bool true)∧Below w.heap.size w w':=by
  have t1:=th_1
  have t2:=th_5
  have t3:=th_3
  have t4:=th_4
  go_enter Tryz.func24,Tryz.ntmps24
  go_wp2_with fail
  go_ret
  exact ⟨rfl,(Below.refl w.heap.size w).alloc (Nat.le_refl _) _⟩
set_option maxRecDepth 100000 in
set_option maxHeartbeats 2000000 in
theorem all_may (m:Me) (yes:Bool) (w:World) :
    Calls Tryz.prog 24 #[.iface 99 (.agg #[]),.agg (mc m),.bool yes] w fun e w'=>e = .returned (.bool yes)∧Below w.heap.size w w':=by
  have t1:=ta_1
  have t2:=ta_5
  go_enter Tryz.func24,Tryz.ntmps24
  go_wp2_with fail
  go_ret
  exact ⟨rfl,((Below.refl w.heap.size w).alloc (Nat.le_refl _) _).alloc (by simp) _⟩
set_option maxRecDepth 100000 in
set_option maxHeartbeats 4000000 in
theorem not_may (m:Me) (u:Value) (yes:Bool) (b:Bool) (w0 w:World) (hw:Below w0.heap.size w0 w) (hu:∃ T x,u = .iface T x) (hC:MayC m u (!yes) b w0) :
    Calls Tryz.prog 24 #[.iface 71 (.agg #[u]),.agg (mc m),.bool yes] w fun e w'=>e = .returned (.bool b)∧Below w.heap.size w w':=by
  obtain ⟨T,x,rfl⟩:=hu
  have t1:=tn_1
  have t2:=tn_5
  have t3:=tn_3
  have HB1:=(Below.refl w.heap.size w).alloc (Nat.le_refl _) (.cells (mc m) 32)
  have HB2:=HB1.alloc HB1.size (.cells #[.iface T x] 71)
  have m2:=(Blk.new w 32 (mc m)).alloc (.cells #[.iface T x] 71)
  have g2:Blk ((w.alloc (.cells (mc m) 32)).alloc (.cells #[.iface T x] 71)) (w.heap.size + 1) 71 #[.iface T x]:=by
    have:=Blk.new (w.alloc (.cells (mc m) 32)) 71 #[.iface T x]
    simpa using this
  obtain ⟨a0,a1,a2,a3,a4,a5,a6⟩:=SkpW.blk7 m2
  obtain ⟨c0,_⟩:=blk1 g2
  have C:=hC _ (hw.trans (HB2.mono hw.size))
  clear hC
  go_enter Tryz.func24,Tryz.ntmps24
  go_wp2_with fail
  refine C.mono ?_
  clear C
  rintro e w3 ⟨rfl,hb3⟩
  go_wp2_with fail
  go_ret
  exact ⟨rfl,HB2.trans (hb3.mono HB2.size)⟩
def rowM (o yes:Bool):List Bool → Bool
  | []=>!(o == yes)
  | x :: r=>if x = (o == yes) then (o == yes) else rowM o yes r
theorem mayL_row (sq tk:R) (o yes:Bool) (l:List Nd):mayL sq tk o l yes = rowM o yes (l.map fun x=>mayN sq tk x yes):=by
  induction l with
  | nil=>rfl
  | cons a l ih=>simp only [mayL,List.map_cons,rowM,ih]
theorem rowM_step {o yes:Bool} {bl:List Bool} {k:Nat} (hk:k < bl.length):rowM o yes (bl.drop k) = if bl[k] = (o == yes) then (o == yes) else rowM o yes (bl.drop (k + 1)):=by
  rw [List.drop_eq_getElem_cons hk,rowM]
set_option maxRecDepth 100000 in
set_option maxHeartbeats 8000000 in
theorem row_may (m:Me) (o yes:Bool) (b0 n c:Nat) (us:List Value) (bl:List Bool) (w0 w:World) (hw:Below w0.heap.size w0 w) (hb0:b0 < w0.heap.size) (hn:us.length = n) (hn1:n≤1000) (hbl:bl.length = n)
    (hc:∀ i (h:i < us.length),w0.cell? ⟨b0,i,none⟩ = some us[i]) (hC:∀ i (h:i < us.length) (h2:i < bl.length),MayC m us[i] yes bl[i] w0) :
    Calls Tryz.prog 24 #[.iface 102 (.agg #[str (byW o),.slice (some ⟨b0,0,none⟩) n c]),.agg (mc m),.bool yes] w fun e w'=>e = .returned (.bool (rowM o yes bl))∧Below w.heap.size w w':=by
  have t1:=tr_1
  have t2:=tr_5
  have t3:=tr_3
  have t4:=tr_4
  have HB1:=(Below.refl w.heap.size w).alloc (Nat.le_refl _) (.cells (mc m) 32)
  have HB2:=HB1.alloc HB1.size (.cells #[str (byW o),.slice (some ⟨b0,0,none⟩) n c] 102)
  have m2:=(Blk.new w 32 (mc m)).alloc (.cells #[str (byW o),.slice (some ⟨b0,0,none⟩) n c] 102)
  have g2:Blk ((w.alloc (.cells (mc m) 32)).alloc (.cells #[str (byW o),.slice (some ⟨b0,0,none⟩) n c] 102)) (w.heap.size + 1) 102 #[str (byW o),.slice (some ⟨b0,0,none⟩) n c]:=by
    have:=Blk.new (w.alloc (.cells (mc m) 32)) 102 #[str (byW o),.slice (some ⟨b0,0,none⟩) n c]
    simpa using this
  obtain ⟨c0,c1,_⟩:=blk2 g2
  have hor:(byW o == [111,114]) = o:=by cases o <;> decide
  have hwz:=hw.size
  have HW:=Lib.hid hw
  have HC:=Lib.hid hC
  have HCC:=Lib.hid hc
  have HN:=Lib.hid hn
  have HBL:=Lib.hid hbl
  clear hC hc hn hbl hw
  cases o <;> cases yes
  · go_enter Tryz.func24,Tryz.ntmps24
    go_wp2_with fail
    clear c0 c1
    go_loopw [71] (fun i wr=>∃ k:Nat,k≤n∧i = .int .i64 k∧rowM false false (bl.drop k) = rowM false false bl∧Below w.heap.size w wr∧Blk wr w.heap.size 32 (mc m)) (fun i _=>n - (intOf i).toNat)
    case atStart=>exact ⟨0,by omega,rfl,rfl,HB2,m2⟩
    case round =>
      obtain ⟨k,hk,rfl,hrow,hbw,b1⟩:=hrel
      have HR:=Lib.hid hrow
      clear hrow
      by_cases hlt:k < n
      · have hku:k < us.length:=by have:=HN.out;omega
        have hkb:k < bl.length:=by have:=HBL.out;omega
        have hcell:wr.cell? ⟨b0,k,none⟩ = some us[k]:=(hbw.cell (p:=⟨b0,k,none⟩) (by show b0 < _;omega)).trans ((HW.out.cell (p:=⟨b0,k,none⟩) hb0).trans (HCC.out k hku))
        have hM:=HC.out k hku hkb
        have HST:=Lib.hid (rowM_step (o:=false) (yes:=false) hkb)
        generalize us[k] = u at *
        generalize bl[k] = bk at *
        have C:=hM wr (HW.out.trans (hbw.mono hwz))
        have hki:(k:Int) < (n:Int):=by omega
        have hk0:(0:Int)≤(k:Int):=by omega
        obtain ⟨a0,a1,a2,a3,a4,a5,a6⟩:=SkpW.blk7 b1
        clear hM
        go_wp2_with fail
        refine C.mono ?_
        clear C
        rintro e w1 ⟨rfl,hb1⟩
        have HB3:=hbw.trans (hb1.mono hbw.size)
        have b3:=b1.below hb1 b1.lt
        clear a0 a1 a2 a3 a4 a5 a6
        cases bk
        all_goals
          have HS:=Lib.hid (HST.out.trans (by first | exact if_pos rfl | exact if_neg (by decide)))
          go_wp2_with fail
          first
          | (go_ret
             rw [← HR.out,HS.out]
             exact ⟨rfl,HB3⟩)
          | (go_roundw
             case rel=>exact ⟨k + 1,by omega,by go_num,HS.out.symm.trans HR.out,HB3,b3⟩
             case measure=>simp [intOf];omega)
      · have hkn:Hid (k = n):=by
          have:k = n:=by omega
          exact Lib.hid this
        go_wp2_with fail
        go_ret
        refine ⟨?_,hbw⟩
        rw [← HR.out,hkn.out,List.drop_eq_nil_of_le (by have:=HBL.out;omega)]
        rfl
  · go_enter Tryz.func24,Tryz.ntmps24
    go_wp2_with fail
    clear c0 c1
    go_loopw [71] (fun i wr=>∃ k:Nat,k≤n∧i = .int .i64 k∧rowM false true (bl.drop k) = rowM false true bl∧Below w.heap.size w wr∧Blk wr w.heap.size 32 (mc m)) (fun i _=>n - (intOf i).toNat)
    case atStart=>exact ⟨0,by omega,rfl,rfl,HB2,m2⟩
    case round =>
      obtain ⟨k,hk,rfl,hrow,hbw,b1⟩:=hrel
      have HR:=Lib.hid hrow
      clear hrow
      by_cases hlt:k < n
      · have hku:k < us.length:=by have:=HN.out;omega
        have hkb:k < bl.length:=by have:=HBL.out;omega
        have hcell:wr.cell? ⟨b0,k,none⟩ = some us[k]:=(hbw.cell (p:=⟨b0,k,none⟩) (by show b0 < _;omega)).trans ((HW.out.cell (p:=⟨b0,k,none⟩) hb0).trans (HCC.out k hku))
        have hM:=HC.out k hku hkb
        have HST:=Lib.hid (rowM_step (o:=false) (yes:=true) hkb)
        generalize us[k] = u at *
        generalize bl[k] = bk at *
        have C:=hM wr (HW.out.trans (hbw.mono hwz))
        have hki:(k:Int) < (n:Int):=by omega
        have hk0:(0:Int)≤(k:Int):=by omega
        obtain ⟨a0,a1,a2,a3,a4,a5,a6⟩:=SkpW.blk7 b1
        clear hM
        go_wp2_with fail
        refine C.mono ?_
        clear C
        rintro e w1 ⟨rfl,hb1⟩
        have HB3:=hbw.trans (hb1.mono hbw.size)
        have b3:=b1.below hb1 b1.lt
        clear a0 a1 a2 a3 a4 a5 a6
        cases bk
        all_goals
          have HS:=Lib.hid (HST.out.trans (by first | exact if_pos rfl | exact if_neg (by decide)))
          go_wp2_with fail
          first
          | (go_ret
             rw [← HR.out,HS.out]
             exact ⟨rfl,HB3⟩)
          | (go_roundw
             case rel=>exact ⟨k + 1,by omega,by go_num,HS.out.symm.trans HR.out,HB3,b3⟩
             case measure=>simp [intOf];omega)
      · have hkn:Hid (k = n):=by
          have:k = n:=by omega
          exact Lib.hid this
        go_wp2_with fail
        go_ret
        refine ⟨?_,hbw⟩
        rw [← HR.out,hkn.out,List.drop_eq_nil_of_le (by have:=HBL.out;omega)]
        rfl
  · go_enter Tryz.func24,Tryz.ntmps24
    go_wp2_with fail
    clear c0 c1
    go_loopw [71] (fun i wr=>∃ k:Nat,k≤n∧i = .int .i64 k∧rowM true false (bl.drop k) = rowM true false bl∧Below w.heap.size w wr∧Blk wr w.heap.size 32 (mc m)) (fun i _=>n - (intOf i).toNat)
    case atStart=>exact ⟨0,by omega,rfl,rfl,HB2,m2⟩
    case round =>
      obtain ⟨k,hk,rfl,hrow,hbw,b1⟩:=hrel
      have HR:=Lib.hid hrow
      clear hrow
      by_cases hlt:k < n
      · have hku:k < us.length:=by have:=HN.out;omega
        have hkb:k < bl.length:=by have:=HBL.out;omega
        have hcell:wr.cell? ⟨b0,k,none⟩ = some us[k]:=(hbw.cell (p:=⟨b0,k,none⟩) (by show b0 < _;omega)).trans ((HW.out.cell (p:=⟨b0,k,none⟩) hb0).trans (HCC.out k hku))
        have hM:=HC.out k hku hkb
        have HST:=Lib.hid (rowM_step (o:=true) (yes:=false) hkb)
        generalize us[k] = u at *
        generalize bl[k] = bk at *
        have C:=hM wr (HW.out.trans (hbw.mono hwz))
        have hki:(k:Int) < (n:Int):=by omega
        have hk0:(0:Int)≤(k:Int):=by omega
        obtain ⟨a0,a1,a2,a3,a4,a5,a6⟩:=SkpW.blk7 b1
        clear hM
        go_wp2_with fail
        refine C.mono ?_
        clear C
        rintro e w1 ⟨rfl,hb1⟩
        have HB3:=hbw.trans (hb1.mono hbw.size)
        have b3:=b1.below hb1 b1.lt
        clear a0 a1 a2 a3 a4 a5 a6
        cases bk
        all_goals
          have HS:=Lib.hid (HST.out.trans (by first | exact if_pos rfl | exact if_neg (by decide)))
          go_wp2_with fail
          first
          | (go_ret
             rw [← HR.out,HS.out]
             exact ⟨rfl,HB3⟩)
          | (go_roundw
             case rel=>exact ⟨k + 1,by omega,by go_num,HS.out.symm.trans HR.out,HB3,b3⟩
             case measure=>simp [intOf];omega)
      · have hkn:Hid (k = n):=by
          have:k = n:=by omega
          exact Lib.hid this
        go_wp2_with fail
        go_ret
        refine ⟨?_,hbw⟩
        rw [← HR.out,hkn.out,List.drop_eq_nil_of_le (by have:=HBL.out;omega)]
        rfl
  · go_enter Tryz.func24,Tryz.ntmps24
    go_wp2_with fail
    clear c0 c1
    go_loopw [71] (fun i wr=>∃ k:Nat,k≤n∧i = .int .i64 k∧rowM true true (bl.drop k) = rowM true true bl∧Below w.heap.size w wr∧Blk wr w.heap.size 32 (mc m)) (fun i _=>n - (intOf i).toNat)
    case atStart=>exact ⟨0,by omega,rfl,rfl,HB2,m2⟩
    case round =>
      obtain ⟨k,hk,rfl,hrow,hbw,b1⟩:=hrel
      have HR:=Lib.hid hrow
      clear hrow
      by_cases hlt:k < n
      · have hku:k < us.length:=by have:=HN.out;omega
        have hkb:k < bl.length:=by have:=HBL.out;omega
        have hcell:wr.cell? ⟨b0,k,none⟩ = some us[k]:=(hbw.cell (p:=⟨b0,k,none⟩) (by show b0 < _;omega)).trans ((HW.out.cell (p:=⟨b0,k,none⟩) hb0).trans (HCC.out k hku))
        have hM:=HC.out k hku hkb
        have HST:=Lib.hid (rowM_step (o:=true) (yes:=true) hkb)
        generalize us[k] = u at *
        generalize bl[k] = bk at *
        have C:=hM wr (HW.out.trans (hbw.mono hwz))
        have hki:(k:Int) < (n:Int):=by omega
        have hk0:(0:Int)≤(k:Int):=by omega
        obtain ⟨a0,a1,a2,a3,a4,a5,a6⟩:=SkpW.blk7 b1
        clear hM
        go_wp2_with fail
        refine C.mono ?_
        clear C
        rintro e w1 ⟨rfl,hb1⟩
        have HB3:=hbw.trans (hb1.mono hbw.size)
        have b3:=b1.below hb1 b1.lt
        clear a0 a1 a2 a3 a4 a5 a6
        cases bk
        all_goals
          have HS:=Lib.hid (HST.out.trans (by first | exact if_pos rfl | exact if_neg (by decide)))
          go_wp2_with fail
          first
          | (go_ret
             rw [← HR.out,HS.out]
             exact ⟨rfl,HB3⟩)
          | (go_roundw
             case rel=>exact ⟨k + 1,by omega,by go_num,HS.out.symm.trans HR.out,HB3,b3⟩
             case measure=>simp [intOf];omega)
      · have hkn:Hid (k = n):=by
          have:k = n:=by omega
          exact Lib.hid this
        go_wp2_with fail
        go_ret
        refine ⟨?_,hbw⟩
        rw [← HR.out,hkn.out,List.drop_eq_nil_of_le (by have:=HBL.out;omega)]
        rfl
mutual
theorem may_any (m:Me) (hc:I64 m.count) (hf:I64 m.first) (w:World) (S:Nat → Prop):∀ (n:Nd) (v:Value) (yes:Bool),wfN n → NdV w S n v → MayC m v yes (mayN (sM m.count m.first) (tM m.count m.early m.late) n yes) w
  | .within k lo hi,v,yes,hw,hv=>by
    obtain ⟨_,rfl⟩:=hv
    exact fun w' _=>within_may m k lo hi yes w' hw.1 hc hf _ rfl
  | .has s,v,yes,hw,hv=>by
    have e:v = _:=hv
    subst e
    exact fun w' _=>has_may m _ yes w'
  | .all,v,yes,hw,hv=>by
    have e:v = _:=hv
    subst e
    exact fun w' _=>all_may m yes w'
  | .not n,v,yes,hw,hv=>by
    obtain ⟨u,rfl,h⟩:=hv
    have ih:=may_any m hc hf w S n u (!yes) hw h
    exact fun w' hb=>not_may m u yes _ w w' hb h.iface ih
  | .row o l,v,yes,hw,hv=>by
    obtain ⟨b,n,c,vs,rfl,_,hb,hl,_,hn1,hcs,hvs⟩:=hv
    have ih:=may_list m hc hf w S o yes l vs hw.2 hvs
    have hlen:=hvs.len
    refine fun w' hbw=>?_
    rw [mayN,mayL_row]
    exact row_may m o yes b n c vs (l.map fun x=>mayN (sM m.count m.first) (tM m.count m.early m.late) x yes) w w' hbw hb hl hn1 (by simp;omega) hcs (fun i h h2=>by
      have:=ih i h (by simpa using h2)
      simpa using this)
theorem may_list (m:Me) (hc:I64 m.count) (hf:I64 m.first) (w:World) (S:Nat → Prop) (o yes:Bool):∀ (l:List Nd) (vs:List Value),wfL o l → NdVs w S l vs → ∀ i (h:i < vs.length) (h2:i < l.length),MayC m vs[i] yes (mayN (sM m.count m.first) (tM m.count m.early m.late) l[i] yes) w
  | [],vs,hw,hv,i,h,h2=>by simp at h2
  | a :: l,vs,hw,hv,i,h,h2=>by
    obtain ⟨v,r,rfl,h3,h4⟩:=hv
    cases i with
    | zero=>exact may_any m hc hf w S a v yes hw.1 h3
    | succ i=>exact may_list m hc hf w S o yes l r hw.2.2 h4 i (by simp at h;omega) (by simp at h2;omega)
end
set_option maxRecDepth 100000 in
set_option maxHeartbeats 2000000 in
theorem Block_yes (w:World) (g:Nat) (n:Nd) (sz:Nat) (h:Sv w g n sz) (m:Me) (hc:I64 m.count) (hf:I64 m.first) (r:Bool) (hr:mayN (sM m.count m.first) (tM m.count m.early m.late) n true = r) :
    Calls Tryz.prog 10 #[.pointer (some ⟨g,0,none⟩),.agg (mc m)] w fun e w'=>e = .returned (.bool r)∧Below w.heap.size w w':=by
  have h0:=h
  obtain ⟨⟨v,b,hv⟩,h2,h3,h4⟩:=h
  have M:=may_any m hc hf w _ n v true h2 hv
  rw [hr] at M
  obtain ⟨T,x,rfl⟩:=hv.iface
  have HM:=Lib.hid M
  clear M hr
  have HB:=(Below.refl w.heap.size w).alloc (Nat.le_refl _) (.cells (mc m) 32)
  have b1:=b.alloc (.cells (mc m) 32)
  have b2:=Blk.new w 32 (mc m)
  have hS:=h0.below HB
  go_enter Tryz.func10,Tryz.ntmps10
  go_wp2_with fail
  have hl2:=b2.lt
  generalize w.alloc (.cells (mc m) 32) = w1 at *
  have hgl:=b.lt
  refine wp_region_held_drew (S:=(fun w'=>w'.cell? ⟨g,0,none⟩ = some (.iface T x)∧w'.cell? ⟨w.heap.size,0,none⟩ = some (.int .i64 m.at_)∧w'.cell? ⟨w.heap.size,1,none⟩ = some (.int .i64 m.size)∧w'.cell? ⟨w.heap.size,2,none⟩ = some (.int .i64 m.raw)∧w'.cell? ⟨w.heap.size,3,none⟩ = some (.int .i64 m.count)∧w'.cell? ⟨w.heap.size,4,none⟩ = some (.int .i64 m.first)∧w'.cell? ⟨w.heap.size,5,none⟩ = some (.int .i64 m.early)∧w'.cell? ⟨w.heap.size,6,none⟩ = some (.int .i64 m.late))) (by kernel_rfl) ?_ (fun hHeld=>?_)
  · replace b1:=Blk.drew b1;replace b2:=Blk.drew b2;replace HB:=Below.drew HB;(try dsimp only);exact ⟨b1.cell_ 0 rfl,SkpW.blk7 b2⟩
  replace b1:=Blk.drew b1
  replace b2:=Blk.drew b2
  replace HB:=Below.drew HB
  have zHB:=HB.size
  refine take_movev (v:=?vu1x0) 0 (Operand.tmp 0) rfl rfl (by first | exact .inl rfl | exact .inr rfl) rfl (by kernel_rfl) (by kernel_rfl) (by kernel_rfl) (fun _ _ _ h=>h) (by assumption) ?yu1x0 ?ru1x0
  case yu1x0=>(go_simp;try (with_reducible rfl))
  simp only [zSa,zSb,zSc]
  refine wpAnyH_ready (rs:=[1]) (by kernel_rfl) (by simp) (AllReadyH.cons rfl (fun K1 hK1=>?ku1x1) AllReadyH.nil)
  refine take_calls 1 23 [Operand.tmp 5] #[25] rfl rfl (by kernel_rfl) (fun args w=>run_enter Tryz.func23 (by kernel_rfl) rfl args w) ?_
  refine (made_yes _ g n sz (hS.below (Below.refl _ _).drew)).mono ?_
  rintro e w1 ⟨rfl,hb1⟩
  refine ⟨_,rfl,?_⟩
  have z1:=hb1.size
  try simp only [World.size_drew] at z1
  replace b1:=Blk.below b1 hb1 (by first | exact Nat.le_refl _ | (simp only [World.size_alloc,World.size_setCell,World.size_drew] at *;omega) | omega)
  replace b2:=Blk.below b2 hb1 (by first | exact Nat.le_refl _ | (simp only [World.size_alloc,World.size_setCell,World.size_drew] at *;omega) | omega)
  replace HB:=HB.trans (hb1.mono (by first | exact HB.size | omega))
  have zHB1:=HB.size
  refine hK1.out _ _ ?su1x1 (fun hHeld=>?ru1x1)
  case su1x1=>((try dsimp only);exact ⟨b1.cell_ 0 rfl,SkpW.blk7 b2⟩)
  try simp only [zSa,zSb,zSc]
  refine take_movev (v:=?vu1x2) 2 (Operand.tmp 6) rfl rfl (by first | exact .inl rfl | exact .inr rfl) rfl (by kernel_rfl) (by kernel_rfl) (by kernel_rfl) (fun _ _ _ h=>h) (by assumption) ?yu1x2 ?ru1x2
  case yu1x2=>(go_simp;try (with_reducible rfl))
  simp only [zSa,zSb,zSc]
  refine take_movev (v:=?vu1x3) 3 (Operand.tmp 0) rfl rfl (by first | exact .inl rfl | exact .inr rfl) rfl (by kernel_rfl) (by kernel_rfl) (by kernel_rfl) (fun _ _ _ h=>h) (by assumption) ?yu1x3 ?ru1x3
  case yu1x3=>(go_simp;try (with_reducible rfl))
  simp only [zSa,zSb,zSc]
  refine take_op (v:=?vu1x4) 4 (Op.nilCheck (Operand.tmp 8)) 0 rfl rfl rfl rfl rfl (by kernel_rfl) (by kernel_rfl) (by kernel_rfl) (fun _ _ _ h=>h) ?yu1x4 (by assumption) ?ru1x4
  case yu1x4=>(intro w' hSw;(try dsimp only at hSw);go_simp;try (with_reducible rfl))
  simp only [zSa,zSb,zSc]
  refine take_op (v:=?vu1x5) 5 (Op.fieldAddr 60 (Operand.tmp 9) 0) 0 rfl rfl rfl rfl rfl (by kernel_rfl) (by kernel_rfl) (by kernel_rfl) (fun _ _ _ h=>h) ?yu1x5 (by assumption) ?ru1x5
  case yu1x5=>(intro w' hSw;(try dsimp only at hSw);go_simp;try (with_reducible rfl))
  simp only [zSa,zSb,zSc]
  refine take_op (v:=?vu1x6) 6 (Op.load 53 (Operand.tmp 10)) 53 rfl rfl rfl rfl rfl (by kernel_rfl) (by kernel_rfl) (by kernel_rfl) (fun _ _ _ h=>h) ?yu1x6 (by assumption) ?ru1x6
  case yu1x6=>(intro w' hSw;(try dsimp only at hSw);go_simp;try (with_reducible rfl))
  simp only [zSa,zSb,zSc]
  refine take_op (v:=?vu1x7) 7 (Op.load 32 (Operand.tmp 3)) 32 rfl rfl rfl rfl rfl (by kernel_rfl) (by kernel_rfl) (by kernel_rfl) (fun _ _ _ h=>h) ?yu1x7 (by assumption) ?ru1x7
  case yu1x7=>(intro w' hSw;(try dsimp only at hSw);go_simp;try (with_reducible rfl))
  simp only [zSa,zSb,zSc]
  refine wpAnyH_ready (rs:=[8]) (by kernel_rfl) (by simp) (AllReadyH.cons rfl (fun K8 hK8=>?ku1x8) AllReadyH.nil)
  refine take_calls 8 24 [Operand.tmp 11,Operand.tmp 12,Operand.const (Value.bool true)] #[53,32,4] rfl rfl (by kernel_rfl) (fun args w=>run_enter Tryz.func24 (by kernel_rfl) rfl args w) ?_
  refine (HM.out _ HB).mono ?_
  rintro e w8 ⟨rfl,hb8⟩
  refine ⟨_,rfl,?_⟩
  have z8:=hb8.size
  try simp only [World.size_drew] at z8
  replace b1:=Blk.below b1 hb8 (by first | exact Nat.le_refl _ | (simp only [World.size_alloc,World.size_setCell,World.size_drew] at *;omega) | omega)
  replace b2:=Blk.below b2 hb8 (by first | exact Nat.le_refl _ | (simp only [World.size_alloc,World.size_setCell,World.size_drew] at *;omega) | omega)
  replace HB:=HB.trans (hb8.mono (by first | exact HB.size | omega))
  have zHB8:=HB.size
  refine hK8.out _ _ ?su1x8 (fun hHeld=>?ru1x8)
  case su1x8=>((try dsimp only);exact ⟨b1.cell_ 0 rfl,SkpW.blk7 b2⟩)
  try simp only [zSa,zSb,zSc]
  refine take_op (v:=?vu1x9) 9 (Op.pick (Operand.tmp 7) (Operand.tmp 13) (Operand.const (Value.bool false))) 4 rfl rfl rfl rfl rfl (by kernel_rfl) (by kernel_rfl) (by kernel_rfl) (fun _ _ _ h=>h) ?yu1x9 (by assumption) ?ru1x9
  case yu1x9=>(intro w' hSw;(try dsimp only at hSw);go_simp;try (with_reducible rfl))
  simp only [zSa,zSb,zSc]
  refine take_op (v:=?vu1x10) 10 (Op.assign (Operand.tmp 14)) 4 rfl rfl rfl rfl rfl (by kernel_rfl) (by kernel_rfl) (by kernel_rfl) (fun _ _ _ h=>h) ?yu1x10 (by assumption) ?ru1x10
  case yu1x10=>(intro w' hSw;(try dsimp only at hSw);go_simp;try (with_reducible rfl))
  simp only [zSa,zSb,zSc]
  refine wpAnyH_done (by kernel_rfl) ?_ _
  go_wp2_with fail
  go_ret
  exact ⟨rfl,HB⟩
theorem parse_sv {s:List UInt8} {n:Nd} {z:Nat} {p e:Int} (h:parseP s = (some (n,z),p,e)):wfN n∧szN n = z∧z≤100:=by
  obtain ⟨d,hp,hs,_,_⟩:=parse_ok h
  have hF:Few (wordsP s):=fun x hx=>by have:=words_each s x hx;omega
  obtain ⟨w1,w2,w3⟩:=pG_wf _ _ 2 [] _ _ _ _ _ _ _ (by omega) (by omega) hF (fun _=>rfl) trivial (by simp) hp
  obtain ⟨_,_,_,_,_,_,hz⟩:=pM_left hp
  simp only [szL] at w3
  exact ⟨w1,by omega,hz (by omega)⟩
theorem parse_sv_any {s:List UInt8} {n:Nd} {z:Nat} {p e:Int} (h:parseP s = (some (n,z),p,e)) (w:World) (hW:WanW.Wo w) (hs:s.length≤100000) :
    Calls Tryz.prog 6 #[str s] w fun r w'=>∃ g,r = .returned (.tuple #[.pointer (some ⟨g,0,none⟩),.int .i64 p,.int .i64 e])∧Sv w' g n z∧Below w.heap.size w w':=by
  obtain ⟨h1,h2,h3⟩:=parse_sv h
  exact (parse_any s w hW hs _ h).mono fun r w' hP=>by
    obtain ⟨g,v,rfl,b,hv,hg,hb⟩:=hP
    exact ⟨g,rfl,⟨⟨v,b,hv.keep (fun _ _ _=>⟨rfl,trivial⟩) _ _⟩,h1,by omega,by omega⟩,hb⟩
theorem parse_no_any {s:List UInt8} {p e:Int} (h:parseP s = (none,p,e)) (w:World) (hW:WanW.Wo w) (hs:s.length≤100000) :
    Calls Tryz.prog 6 #[str s] w fun r w'=>r = .returned (.tuple #[.pointer none,.int .i64 p,.int .i64 e])∧Below w.heap.size w w' :=
  (parse_any s w hW hs _ h).mono fun r w' hP=>hP
end SieW
end Go.Proofs.YtnpncpoiiikafaaGreatDoor
