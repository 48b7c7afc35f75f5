/- DecW -/
import Derived.Test.YtnpncpoiiikafaaGreatSqUQt
import Derived.Test.YtnpncpoiiikafaaGreatBloQQt
import Derived.Test.YtnpncpoiiikafaaGreatDecPQt
import Derived.Test.YtnpncpoiiikafaaGreatFrPQt
import Derived.Deep.QuietTactic
import Derived.BigQuiet
set_option linter.unusedVariables false
set_option linter.unusedSimpArgs false
set_option linter.unnecessarySimpa false
set_option maxRecDepth 100000
set_option maxHeartbeats 32000000
namespace Go.Proofs.YtnpncpoiiikafaaGreat
open Go.RowKit
namespace BloW
open SqW (unpackV Unpack_any)
open SufW (w64s)
theorem raw_any (h:Hd) (w:World) (hs:h.body.length≤100000) (x:List UInt8 × Int) (hx:rawOf h = x) :
 Calls Tryz.prog 45 #[.agg (hdA h)] w fun e w'=>e = .returned (.tuple #[str x.1,.int .i64 x.2])∧Below w.heap.size w w':=by
 obtain ⟨m,r,c,f,ea,l,b⟩:=h
 dsimp only at hs
 unfold rawOf at hx
 dsimp only at hx
 have B:=Blk.new w 93 (hcs 0 0 m r c f ea l b)
 have HB:Below w.heap.size w (w.alloc (.cells (hcs 0 0 m r c f ea l b) 93)):=(Below.refl w.heap.size w).alloc (Nat.le_refl _) _
 obtain ⟨c0,c1,c2,c3,c4,c5,c6,c7,c8⟩:=blk9h B
 have hag:hdA ⟨m,r,c,f,ea,l,b⟩ = hcs 0 0 m r c f ea l b:=rfl
 rw [hag]
 by_cases hm:m = 1
 ·subst hm
  rw [if_pos rfl] at hx
  have C:=fun w=>Unpack_any b w hs _ rfl
  obtain ⟨y,hy⟩:∃ y,unpackV b = y:=⟨_,rfl⟩
  rw [hy] at hx C
  obtain ⟨yl,ye⟩:=y
  dsimp only at hx C
  have HX:=Lib.hid hx
  have HC:=Lib.hid C
  clear hx hy C
  go_enter Tryz.func45,Tryz.ntmps45
  go_wp2_with fail
  refine (HC.out _).mono ?_
  clear HC c0 c1 c2 c3 c4 c5 c6 c7 c8
  rintro e w1 ⟨rfl,hb1⟩
  replace B:=B.below hb1 B.lt
  replace HB:=HB.trans (hb1.mono HB.size)
  clear hb1
  have c2:w1.cell? ⟨w.heap.size,2,none⟩ = some (.int .i64 r):=B.cell_ 2 rfl
  by_cases h1:ye = 0
  ·subst h1
   have hx1:=HX.out
   rw [if_pos rfl] at hx1
   clear HX
   by_cases h2:(yl.length:Int) = r
   ·rw [if_pos h2] at hx1
    subst hx1
    have h2b:((yl.length:Int) != r) = false:=by simp [h2]
    go_wp2_with fail
    go_ret2
    exact ⟨rfl,HB⟩
   ·rw [if_neg h2] at hx1
    subst hx1
    have h2b:((yl.length:Int) != r) = true:=by simp [h2]
    go_wp2_with fail
    go_ret2
    exact ⟨rfl,HB⟩
  ·have hx1:=HX.out
   rw [if_neg h1] at hx1
   subst hx1
   have h1b:(ye != 0) = true:=by simp [h1]
   clear HX
   go_wp2_with fail
   go_ret2
   exact ⟨rfl,HB⟩
 ·rw [if_neg hm] at hx
  have hmb:(m == 1) = false:=by simp [hm]
  by_cases h2:(b.length:Int) = r
  ·rw [if_pos h2] at hx
   subst hx
   have h2b:((b.length:Int) != r) = false:=by simp [h2]
   go_enter Tryz.func45,Tryz.ntmps45
   go_wp2_with fail
   go_ret2
   exact ⟨rfl,HB⟩
  ·rw [if_neg h2] at hx
   subst hx
   have h2b:((b.length:Int) != r) = true:=by simp [h2]
   go_enter Tryz.func45,Tryz.ntmps45
   go_wp2_with fail
   go_ret2
   exact ⟨rfl,HB⟩
theorem fitsB_no (h:Hd) (l:List Rc) (r0 rk:Rc) (h0:l[0]? = some r0) (hk:l[l.length - 1]? = some rk) :
 fitsB h l = (decide ((l.length:Int) = h.cnt) && (decide (r0.1 = h.frst) && (decide (r0.2.1 = h.early) && decide (rk.2.1 = h.late)))):=by
 simp [fitsB,h0,hk]
theorem Decode_any (b:List UInt8) (w:World) (hs:b.length≤100000) (x:List Rc × Int) (hx:decB b = x) :
 Calls Tryz.prog 12 #[str b] w fun e w'=>∃ A n c,e = .returned (.tuple #[.slice A n c,.int .i64 x.2])∧n≤c∧Rd w' w'.heap.size 3 A n (rcells x.1)∧Below w.heap.size w w':=by
 have C:=peek_any b w (by omega) _ rfl
 have hbl:(peekV b).1.body.length≤100000:=by
  unfold peekV
  repeat' split
  all_goals simp only [hdZ,hdOf,List.length_drop,List.length_nil] <;> omega
 unfold decB at hx
 have hmay:=peek_may (b:=b)
 obtain ⟨p,hp⟩:∃ p,peekV b = p:=⟨_,rfl⟩
 rw [hp] at hx C hbl hmay
 obtain ⟨h,er⟩:=p
 dsimp only at hx C hbl hmay
 have HX:=Lib.hid hx
 have HM:=Lib.hid hmay
 clear hx hp hmay
 have hag:hdA h = #[.int .i64 0,.int .i64 0,.int .i64 h.raw,.int .i64 h.cnt,.int .i64 h.frst,.int .i64 h.early,.int .i64 h.late,.int .i64 h.mode,str h.body]:=rfl
 rw [hag] at C
 go_enter Tryz.func12,Tryz.ntmps12
 go_wp2_with fail
 refine C.mono ?_
 clear C
 rintro e w1 ⟨rfl,HB⟩
 obtain ⟨w2,hw2⟩:∃ w2,w1.alloc (.cells (hdA h) 93) = w2:=⟨_,rfl⟩
 have bH:Blk w2 w1.heap.size 93 (hdA h):=by rw [← hw2];exact Blk.new _ _ _
 have HB2:Below w.heap.size w w2:=by rw [← hw2];exact HB.alloc HB.size _
 have hw2':w1.alloc (.cells #[.int .i64 0,.int .i64 0,.int .i64 h.raw,.int .i64 h.cnt,.int .i64 h.frst,.int .i64 h.early,.int .i64 h.late,.int .i64 h.mode,str h.body] 93) = w2:=hw2
 have hws:=HB.size
 clear hw2 HB
 by_cases h0:er = 0
 ·subst h0
  have hx1:=HX.out
  rw [if_pos rfl] at hx1
  obtain ⟨hcnt,hrm,hcr⟩:1≤h.cnt∧h.raw≤20000∧h.cnt≤h.raw:=by
   have:=(HM.out rfl).1
   simp only [mayB,Bool.and_eq_true,decide_eq_true_eq] at this
   omega
  clear HX HM
  obtain ⟨c0,c1,c2,c3,c4,c5,c6,c7,c8⟩:=blk9h bH
  have C:=raw_any h w2 hbl _ rfl
  rw [hag] at C
  obtain ⟨y,hy⟩:∃ y,rawOf h = y:=⟨_,rfl⟩
  rw [hy] at hx1 C
  have hyl:=rawOf_len (h:=h)
  rw [hy] at hyl
  obtain ⟨yl,ye⟩:=y
  dsimp only at hx1 C hyl
  have HX1:=Lib.hid hx1
  have HY:=Lib.hid hyl
  clear hx1 hy hyl
  go_wp2_with fail
  refine C.mono ?_
  clear C c0 c1 c2 c3 c4 c5 c6 c7 c8 hw2'
  rintro e w3 ⟨rfl,hb3⟩
  replace bH:=bH.below hb3 bH.lt
  replace HB2:=HB2.trans (hb3.mono HB2.size)
  clear hb3
  by_cases h1:ye = 0
  ·subst h1
   have hx2:=HX1.out
   rw [if_pos rfl] at hx2
   unfold decR at hx2
   have hraw:=HY.out rfl
   have C:=RecW.split_any yl w3 (by omega) _ rfl
   obtain ⟨z,hz⟩:∃ z,splitV yl = z:=⟨_,rfl⟩
   rw [hz] at hx2 C
   obtain ⟨zl,ze⟩:=z
   dsimp only at hx2 C
   have HX2:=Lib.hid hx2
   clear hx2 hz HX1 HY hraw
   go_wp2_with fail
   refine C.mono ?_
   clear C
   rintro e w4 ⟨A,n,c,rfl,hnc,R,hb4⟩
   replace bH:=bH.below hb4 bH.lt
   replace HB2:=HB2.trans (hb4.mono HB2.size)
   clear hb4
   have hzl:zl.length = n:=rd_rlen R
   by_cases h2:ze = 0
   ·subst h2
    have hx3:=HX2.out
    rw [if_pos rfl] at hx3
    clear HX2
    obtain ⟨c0,c1,c2,c3,c4,c5,c6,c7,c8⟩:=blk9h bH
    by_cases k1:(n:Int) = h.cnt
    ·have hn0:0 < zl.length:=by omega
     obtain ⟨bb,o,rfl,hbb,hcc⟩:=R.at_ (by omega)
     obtain ⟨r0,hr0⟩:∃ r0,zl[0] = r0:=⟨_,rfl⟩
     obtain ⟨rk,hrk⟩:∃ rk,zl[zl.length - 1]'(by omega) = rk:=⟨_,rfl⟩
     have cell0:=rcells_get zl 0 hn0
     have cellk:=rcells_get zl (zl.length - 1) (by omega)
     rw [hr0] at cell0
     rw [hrk,hzl] at cellk
     rw [fitsB_no h zl r0 rk (by rw [List.getElem?_eq_getElem hn0,hr0]) (by rw [List.getElem?_eq_getElem (by omega),hrk]),hzl,decide_eq_true k1,Bool.true_and] at hx3
     have key:∀ i v,(rcells zl)[i]? = some v → w4.cell? ⟨bb,o + i,none⟩ = some v:=by
      intro i v hv
      obtain ⟨h1,h2⟩:=List.getElem?_eq_some_iff.1 hv
      rw [hcc i h1,h2]
     obtain ⟨k,rfl⟩:∃ k,n = k + 1:=⟨n - 1,by omega⟩
     rw [Nat.add_sub_cancel] at cellk
     have d0:w4.cell? ⟨bb,o,none⟩ = some (.int .i64 r0.1):=by simpa using key _ _ cell0.1
     have d1:w4.cell? ⟨bb,o + 1,none⟩ = some (.int .i64 r0.2.1):=by simpa using key _ _ cell0.2.1
     have d2:w4.cell? ⟨bb,o + k * 3,none⟩ = some (.int .i64 rk.1):=key _ _ cellk.1
     have d3:w4.cell? ⟨bb,o + k * 3 + 1,none⟩ = some (.int .i64 rk.2.1):=by simpa [Nat.add_assoc] using key _ _ cellk.2.1
     have hk0:((k + 1:Nat):Int) = (k:Int) + 1:=rfl
     have hkw:IntKind.i64.wrap (k:Int) = (k:Int):=w64s (by omega) (by omega)
     have hkk:(k:Int) < (k:Int) + 1:=by omega
     have hkk0:(0:Int)≤(k:Int):=by omega
     have hN:∀ nq,Below w4.heap.size w4 (w4.drewN nq):=fun nq=>(Below.refl _ w4).drewN_ nq
     have k1b:(((k:Int) + 1) != h.cnt) = false:=by simp;omega
     have HR:=Lib.hid R
     have HZ:=Lib.hid hzl
     clear R key hcc cell0 cellk hrk hr0 k1 hk0 hcnt hcr hzl
     by_cases k2:r0.1 = h.frst
     ·rw [decide_eq_true k2,Bool.true_and] at hx3
      have k2b:(r0.1 != h.frst) = false:=by simp [k2]
      by_cases k3:r0.2.1 = h.early
      ·rw [decide_eq_true k3,Bool.true_and] at hx3
       have k3b:(r0.2.1 != h.early) = false:=by simp [k3]
       by_cases k4:rk.2.1 = h.late
       ·rw [decide_eq_true k4,if_pos rfl] at hx3
        have k4b:(rk.2.1 != h.late) = false:=by simp [k4]
        subst hx3
        go_wp2_with fail
        go_quiet (fail)
        go_wp2_with fail
        go_ret2
        exact ⟨_,_,_,rfl,hnc,(HR.out.below (hN _)),HB2.drewN_ _⟩
       ·rw [decide_eq_false k4,if_neg (by decide)] at hx3
        subst hx3
        have k4b:(rk.2.1 != h.late) = true:=by simp [k4]
        go_wp2_with fail
        go_quiet (fail)
        go_wp2_with fail
        go_ret2
        exact ⟨none,0,0,rfl,Nat.le_refl _,Rd.nil _ _ _ _,HB2.drewN_ _⟩
      ·rw [decide_eq_false k3,Bool.false_and,if_neg (by decide)] at hx3
       subst hx3
       have k3b:(r0.2.1 != h.early) = true:=by simp [k3]
       go_wp2_with fail
       go_quiet (fail)
       go_wp2_with fail
       go_ret2
       exact ⟨none,0,0,rfl,Nat.le_refl _,Rd.nil _ _ _ _,HB2.drewN_ _⟩
     ·rw [decide_eq_false k2,Bool.false_and,if_neg (by decide)] at hx3
      subst hx3
      have k2b:(r0.1 != h.frst) = true:=by simp [k2]
      go_wp2_with fail
      go_quiet (fail)
      go_wp2_with fail
      go_ret2
      exact ⟨none,0,0,rfl,Nat.le_refl _,Rd.nil _ _ _ _,HB2.drewN_ _⟩
    ·have hx4:x = ([],170):=by
      rw [← hx3,if_neg]
      intro hf
      simp only [fitsB,Bool.and_eq_true,decide_eq_true_eq] at hf
      exact k1 (by omega)
     subst hx4
     have k1b:((n:Int) != h.cnt) = true:=by simp [k1]
     clear hx3
     go_wp2_with fail
     go_quiet (fail)
     go_wp2_with fail
     go_ret2
     exact ⟨none,0,0,rfl,Nat.le_refl _,Rd.nil _ _ _ _,HB2.drewN_ _⟩
   ·have hx3:=HX2.out
    rw [if_neg h2] at hx3
    subst hx3
    have h2b:(ze != 0) = true:=by simp [h2]
    clear HX2
    go_wp2_with fail
    go_ret2
    exact ⟨none,0,0,rfl,Nat.le_refl _,Rd.nil _ _ _ _,HB2⟩
  ·have hx2:=HX1.out
   rw [if_neg h1] at hx2
   subst hx2
   have h1b:(ye != 0) = true:=by simp [h1]
   clear HX1 HY
   go_wp2_with fail
   go_ret2
   exact ⟨none,0,0,rfl,Nat.le_refl _,Rd.nil _ _ _ _,HB2⟩
 ·have hx1:=HX.out
  rw [if_neg h0] at hx1
  subst hx1
  have h0b:(er != 0) = true:=by simp [h0]
  clear HX HM
  go_wp2_with fail
  go_ret2
  exact ⟨none,0,0,rfl,Nat.le_refl _,Rd.nil _ _ _ _,HB2⟩
end BloW
end Go.Proofs.YtnpncpoiiikafaaGreat
