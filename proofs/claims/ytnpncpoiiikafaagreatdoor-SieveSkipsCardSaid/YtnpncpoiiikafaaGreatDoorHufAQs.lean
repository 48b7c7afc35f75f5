/- HufA -/
import Derived.Test.YtnpncpoiiikafaaGreatDoorTabPQs
import Derived.Test.YtnpncpoiiikafaaGreatDoorCanWQs
import Derived.Test.YtnpncpoiiikafaaGreatDoorLenYQs
import Derived.Test.YtnpncpoiiikafaaGreatDoorLenKQs
import Derived.Test.YtnpncpoiiikafaaGreatDoorBitUQs
import Derived.Test.YtnpncpoiiikafaaGreatDoorFrontWQs
import Derived.Deep.OwnRows
import Derived.Test.YtnpncpoiiikafaaGreatDoorAppQs
import Derived.Laws.EntriesVeiled
import Derived.BigQuiet
import Derived.Deep.DeepCutAuto
import Derived.Test.YtnpncpoiiikafaaGreatDoorMemQs
import Derived.Test.YtnpncpoiiikafaaGreatDoorSieJQs
import Derived.Test.YtnpncpoiiikafaaGreatDoorLfAQs
import Derived.Test.YtnpncpoiiikafaaGreatDoorSufPQs
import Derived.Test.YtnpncpoiiikafaaGreatDoorZruPQs
import Derived.Test.YtnpncpoiiikafaaGreatDoorVarWQs
set_option linter.unusedVariables false
set_option linter.unusedSimpArgs false
set_option linter.unnecessarySimpa false
namespace Go.Proofs.YtnpncpoiiikafaaGreatDoor
open Go.RowKit
namespace HufW
open LenW (run_made made_ints)
theorem w64k {x:Int} (h1:-4611686018427387904≤x) (h2:x≤4611686018427387904):IntKind.i64.wrap x = x:=by rw [IntKind.wrap_i64];omega
theorem ints_put (l:List Int) (s:Nat) (x:Int):(ints l).toArray.setIfInBounds s (.int .i64 x) = (ints (l.set s x)).toArray:=by
  simp [ints,List.map_set]
theorem made_cts (w:World):(Instr.makeSlice 63 (.int .i64 257) (.int .i64 257)).run Tryz.prog w = .ok (.slice (some ⟨w.heap.size,0,none⟩) 257 257) (w.alloc (.cells (ints (ctsL [])).toArray 3)):=by
  have hmk:=run_made (P:=Tryz.prog) 63 3 (.int .i64 0) 1 8 Tryz.underlying63 (by kernel_rfl) 257 (by omega) (by omega) w
  rw [ctsL_nil,← made_ints]
  exact hmk
set_option maxRecDepth 100000 in
set_option maxHeartbeats 4000000 in
theorem counts_any (A:Option Addr) (n c:Nat) (r:List Int) (w:World) (h:Rd w w.heap.size 1 A n (ints r)) (hn:n≤100000) (hr64:∀ x ∈ r,I64 x) :
    Calls Tryz.prog 85 #[.slice A n c] w fun e w'=>((ctsV r = ([],70)∧e = .returned (.tuple #[.slice none 0 0,.int .i64 70])) ∨
      (ctsV r = (ctsL r,0)∧e = .returned (.tuple #[.slice (some ⟨w.heap.size,0,none⟩) 257 257,.int .i64 0])∧Blk w' w.heap.size 3 (ints (ctsL r)).toArray))∧Below w.heap.size w w':=by
  have hl:r.length = n:=rd_len h
  have hnI:¬ (100000:Int) < (n:Int):=by omega
  have hmk:=made_cts w
  have G:=Blk.new w 3 (ints (ctsL [])).toArray
  have HB0:=(Below.refl w.heap.size w).alloc (Nat.le_refl _) (.cells (ints (ctsL [])).toArray 3)
  obtain ⟨w0,hw0⟩:∃ w0,w.alloc (.cells (ints (ctsL [])).toArray 3) = w0:=⟨_,rfl⟩
  rw [hw0] at hmk G HB0
  clear hw0
  have H64:=Lib.hid hr64
  clear hr64
  have HCV:=Lib.hid (ctsV_cases r)
  go_enter Tryz.func85,Tryz.ntmps85
  go_wp2_with fail
  go_loopw [13] (fun i wr=>∃ k:Nat,i = .int .i64 (k:Int)∧k≤n∧Blk wr w.heap.size 3 (ints (ctsL (r.take k))).toArray∧(r.take k).any badS = false∧Below w.heap.size w wr) (fun i _=>n - (intOf i).toNat)
  case atStart=>exact ⟨0,rfl,by omega,by simpa using G,rfl,HB0⟩
  case round =>
    obtain ⟨k,rfl,hk,g1,hall,HB⟩:=hrel
    clear G HB0 hmk
    have HALL:=Lib.hid hall
    clear hall
    have hsz:=HB.size
    have hgl:=g1.lt
    by_cases hlt:k < n
    · have hkl:k < r.length:=by omega
      have hkI:(k:Int) < (n:Int):=by omega
      have hk0:(0:Int)≤(k:Int):=by omega
      obtain ⟨b,o,rfl,hb,hc⟩:=rd_ints (h.below HB) (by omega)
      have d0:wr.cell? ⟨b,o + k,none⟩ = some (.int .i64 r[k]):=hc k hkl
      obtain ⟨y,hy⟩:∃ y,r[k] = y:=⟨_,rfl⟩
      rw [hy] at d0
      have HY:=Lib.hid hy
      clear hc hy
      have hadd:IntKind.i64.wrap ((k:Int) + 1) = (k:Int) + 1:=w64k (by omega) (by omega)
      have HBAD:=Lib.hid (show badS y = true → r.any badS = true from fun hb=>List.any_eq_true.2 ⟨r[k],List.getElem_mem hkl,by rw [HY.out];exact hb⟩)
      by_cases q1:y < 0
      · have hbad:=HBAD.out (by unfold badS;simp [q1])
        have hv:ctsV r = ([],70):=by
          rcases HCV.out with ⟨e,h1⟩ | ⟨e,_⟩ | ⟨_,_,h2⟩
          · omega
          · exact e
          · rw [hbad] at h2;cases h2
        have HV:=Lib.hid hv
        clear hv hbad
        have q1B:decide (y < 0) = true:=by simp [q1]
        go_wp2_with fail
        try rw [Exit.noGoto_ret]
        go_ret2
        exact ⟨.inl ⟨HV.out,rfl⟩,HB⟩
      · have q1B:decide (y < 0) = false:=by simp;omega
        by_cases q2:256 < y
        · have hbad:=HBAD.out (by unfold badS;simp [q2])
          have hv:ctsV r = ([],70):=by
            rcases HCV.out with ⟨e,h1⟩ | ⟨e,_⟩ | ⟨_,_,h2⟩
            · omega
            · exact e
            · rw [hbad] at h2;cases h2
          have HV:=Lib.hid hv
          clear hv hbad
          have q2B:decide (y ≥ 257) = true:=by simp;omega
          have q2C:decide (257≤y) = true:=by simp;omega
          have q2D:decide (256 < y) = true:=by simp [q2]
          go_wp2_with fail
          try rw [Exit.noGoto_ret]
          go_ret2
          exact ⟨.inl ⟨HV.out,rfl⟩,HB⟩
        · have q2B:decide (y ≥ 257) = false:=by simp;omega
          have q2C:decide (257≤y) = false:=by simp;omega
          have q2D:decide (256 < y) = false:=by simp;omega
          obtain ⟨s,rfl⟩:∃ s:Nat,y = (s:Int):=⟨y.toNat,by omega⟩
          have hs257:s < 257:=by omega
          have hsI:(s:Int) < 257:=by omega
          have hs0:(0:Int)≤(s:Int):=by omega
          obtain ⟨m,hm⟩:∃ m,(r.take k).count (s:Int) = m:=⟨_,rfl⟩
          have hml:m≤100000:=by
            have:=List.count_le_length (a:=(s:Int)) (l:=r.take k)
            rw [List.length_take] at this
            omega
          have cs:wr.cell? ⟨w.heap.size,s,none⟩ = some (.int .i64 (m:Int)):=g1.cell_ s (by
            rw [List.getElem?_toArray,ints,List.getElem?_map,List.getElem?_eq_getElem (by rw [ctsL_len];exact hs257),ctsL_at,hm]
            rfl)
          have cf:=g1.frozen s
          have hm1:IntKind.i64.wrap ((m:Int) + 1) = (m:Int) + 1:=w64k (by omega) (by omega)
          have HT:=Lib.hid (show ints (ctsL (r.take (k + 1))) = ints ((ctsL (r.take k)).set s ((m:Int) + 1)) by rw [List.take_succ_eq_append_getElem hkl,HY.out,ctsL_snoc _ s hs257,hm])
          have HA:=Lib.hid (show (r.take (k + 1)).any badS = false by
            rw [List.take_succ_eq_append_getElem hkl,List.any_append,HALL.out,HY.out]
            have:badS (s:Int) = false:=by unfold badS;simp;omega
            simp [this])
          clear hm
          go_wp2_with fail
          go_roundw
          case rel=>exact ⟨k + 1,by go_num,by omega,blk_eq (g1.set s (.int .i64 ((m:Int) + 1))) (by rw [ints_put,HT.out]),HA.out,HB.setCell (p:=⟨w.heap.size,s,none⟩) (Nat.le_refl _) _⟩
          case measure=>simp [intOf];omega
    · have hkI:¬ (k:Int) < (n:Int):=by omega
      have ha:=HALL.out
      rw [List.take_of_length_le (by omega)] at g1 ha
      have hv:ctsV r = (ctsL r,0):=by
        rcases HCV.out with ⟨e,h1⟩ | ⟨_,_,h2⟩ | ⟨e,_⟩
        · omega
        · rw [ha] at h2;cases h2
        · exact e
      have HV:=Lib.hid hv
      clear hv ha
      go_wp2_with fail
      try rw [Exit.noGoto_ret]
      go_ret2
      exact ⟨.inr ⟨HV.out,rfl,g1⟩,HB⟩
end HufW
end Go.Proofs.YtnpncpoiiikafaaGreatDoor
namespace Go.Proofs.YtnpncpoiiikafaaGreatDoor
open Go.RowKit
namespace HufW
open LenW (chkL usedL symsB symsOk wordV best_yes sort_ok CodeAt cput_yes symsB_len symsB_snoc CodeAt.below)
open TabW (tabB tput_yes tabB_len)
open BitW (Wr Wfr Fresh Puts text_any)
set_option maxRecDepth 100000 in
set_option maxHeartbeats 4000000 in
theorem best_any (A:Option Addr) (n c:Nat) (r:List Int) (w:World) (h:Rd w w.heap.size 1 A n (ints r)) (hn:n≤100000) (hr64:∀ x ∈ r,I64 x) :
    Calls Tryz.prog 58 #[.slice A n c] w fun e w'=>((ctsV r = ([],70)∧e = .returned (.tuple #[.slice none 0 0,.slice none 0 0,.int .i64 70])) ∨
      (ctsV r = (ctsL r,0)∧∃ g1 g2,e = .returned (.tuple #[.slice (some ⟨g1,0,none⟩) 257 257,.slice (some ⟨g2,0,none⟩) 257 257,.int .i64 0])∧w.heap.size≤g1∧w.heap.size≤g2∧Blk w' g1 3 (ints (bL r)).toArray∧Blk w' g2 3 (ints (ctsL r)).toArray))∧Below w.heap.size w w':=by
  have C:=counts_any A n c r w h hn hr64
  have hl:r.length = n:=rd_len h
  have HCV:=Lib.hid (ctsV_cases r)
  go_enter Tryz.func58,Tryz.ntmps58
  go_wp2_with fail
  refine C.mono ?_
  clear C
  rintro e w1 ⟨⟨hv,rfl⟩ | ⟨hv,rfl,g1⟩,b1⟩
  · have HV:=Lib.hid hv
    clear hv
    go_wp2_with fail
    go_ret3
    exact ⟨.inl ⟨HV.out,rfl⟩,b1⟩
  · have HV:=Lib.hid hv
    clear hv
    have hlc:(ints (ctsL r)).length = 257 * 1:=by rw [ints_len,ctsL_len]
    have hrd:=Rd.of_blk (size:=1) (m:=257) g1 hlc
    have C:=best_yes (some ⟨w.heap.size,0,none⟩) 257 257 (ctsL r) 15 w1 (hrd.more (by have:=g1.lt;omega)) (refuse_cts r (by omega)) (sort_ok _ (Nat.le_trans (usedL_257 r) (by omega)))
    go_wp2_with fail
    refine C.mono ?_
    clear C
    rintro e w2 ⟨g,hg1,hg2,rfl,bg,b2⟩
    have g2:=g1.below b2 g1.lt
    have hs1:=b1.size
    go_wp2_with fail
    go_ret3
    exact ⟨.inr ⟨HV.out,g,w.heap.size,rfl,by omega,Nat.le_refl _,bg,g2⟩,b1.trans (b2.mono hs1)⟩
end HufW
end Go.Proofs.YtnpncpoiiikafaaGreatDoor
namespace Go.Proofs.YtnpncpoiiikafaaGreatDoor
open Go.RowKit
namespace HufW
open LenW (chkL usedL symsB symsOk wordV best_yes sort_ok CodeAt cput_yes symsB_len symsB_snoc)
open TabW (tabB tput_yes tabB_len)
open BitW (Wr Wfr Fresh Puts text_any)
set_option maxRecDepth 100000 in
set_option maxHeartbeats 4000000 in
theorem encode_any (A:Option Addr) (n c:Nat) (r:List Int) (w:World) (h:Rd w w.heap.size 1 A n (ints r)) (hn:n≤20000) (hr64:∀ x ∈ r,I64 x) (x:List UInt8 × Int) (hx:encV r = x) :
    Calls Tryz.prog 35 #[.slice A n c] w fun e w'=>e = .returned (.tuple #[str x.1,.int .i64 x.2])∧Below w.heap.size w w':=by
  have C:=best_any A n c r w h (by omega) hr64
  have hl:r.length = n:=rd_len h
  have HX:=Lib.hid hx
  have H64:=Lib.hid hr64
  clear hx hr64
  go_enter Tryz.func35,Tryz.ntmps35
  go_wp2_with fail
  refine C.mono ?_
  clear C
  rintro e w1 ⟨⟨hc,rfl⟩ | ⟨hc,g1,g2,rfl,hg1,hg2,b1,b2⟩,hb⟩
  · have hx2:x = ([],70):=by rw [← HX.out,encV,hc];rfl
    subst hx2
    clear hc
    go_wp2_with fail
    go_ret2
    exact ⟨rfl,hb⟩
  · have hnb:r.any badS = false:=by
      rcases ctsV_cases r with ⟨e,_⟩ | ⟨e,_⟩ | ⟨_,_,e⟩
      · rw [hc] at e;cases (Prod.mk.inj e).2
      · rw [hc] at e;cases (Prod.mk.inj e).2
      · exact e
    have hr5:r.length≤100000:=by omega
    have hx2:x = (textB (hufB r),0):=by rw [← HX.out,encV,hc];rfl
    subst hx2
    have HK:=Lib.hid (bL_chk r hr5)
    have HOK:=Lib.hid (fun y hy=>bL_word r hr5 hnb y hy)
    have HALL:=Lib.hid (bL_ok r hr5 hnb)
    have htl:=tabB_len HK.out
    have r1:=Rd.of_blk (size:=1) (m:=257) b1 (by rw [ints_len,bL_len r hr5])
    have r1b:=r1.more (show g1 + 1≤w1.heap.size by have:=b1.lt;omega)
    have hz:=hb.size
    have HHB:=Lib.hid (show hufB r = tabB (bL r) ++ symsB (bL r) r from rfl)
    obtain ⟨l,hbl⟩:∃ l,bL r = l:=⟨_,rfl⟩
    rw [hbl] at HK HOK HALL htl r1b HHB
    have C:=LenW.new_any (some ⟨g1,0,none⟩) 257 257 l w1 r1b (by omega) HK.out
    clear hc hnb r1 b1 b2 hbl
    go_wp2_with fail
    refine C.mono ?_
    clear C
    rintro e w2 ⟨g,rfl,hC,HB2⟩
    have HB20:=hb.trans (HB2.mono hz)
    have hz2:=HB2.size
    have hWr:=Wr.fresh w2
    have HB3:Below w2.heap.size w2 (w2.alloc (.cells #[.slice none 0 0,.int .u64 0,.int .i64 0] 126)):=(by first | exact Below.refl _ _ | (repeat (first | exact Below.refl _ _ | assumption | refine Below.drew ?_ | refine Below.drewN_ ?_ _ | refine Below.alloc ?_ (by first | exact Nat.le_refl _ | (simp;done) | (simp;omega) | omega) _ | refine Below.setCell ?_ (by first | exact Nat.le_refl _ | (simp;done) | (simp;omega) | omega) _ | (refine Below.trans ?_ (Below.mono (by assumption) (by first | exact Nat.le_refl _ | (simp;done) | (simp;omega) | omega))))))
    have C:=tput_yes (w2.heap.size + 1) w2.heap.size none [] (some ⟨g1,0,none⟩) 257 257 l _ (((r1b.below HB2).more hz2).below HB3 |>.more HB3.size) (by omega) HK.out hWr (by simp) (by simp)
    go_wp2_with fail
    refine C.mono ?_
    clear C
    rintro e w3 ⟨rfl,ab,hP⟩
    have hbw3:Below w2.heap.size w2 w3:=HB3.trans (hP.frame.below HB3.size (Nat.le_refl _) (fun k hk=>by cases hk))
    have hW3:=hP.wr
    rw [List.nil_append] at hW3
    have hz3:w2.heap.size + 1≤w3.heap.size:=by have:=TabW.wr_lt hW3;omega
    clear hP hWr HB3
    go_wp2_with fail
    go_loopw [40] (fun i wr=>∃ (k:Nat) (ab:Option Nat),i = .int .i64 k∧k≤n∧Wr wr (w2.heap.size + 1) w2.heap.size ab (tabB l ++ symsB l (r.take k))∧w2.heap.size + 1≤wr.heap.size∧Below w2.heap.size w2 wr) (fun i _=>n - (intOf i).toNat)
    case atStart=>exact ⟨0,ab,rfl,by omega,by simpa [symsB] using hW3,hz3,hbw3⟩
    case round =>
      obtain ⟨k,ab,rfl,hk,hW,hz4,hbw⟩:=hrel
      have hsz:=hbw.size
      clear hW3 hz3 hbw3
      have hbw0:Below w.heap.size w wr:=HB20.trans (hbw.mono (by omega))
      have hCr:=CodeAt.below hC hbw
      by_cases hlt:k < n
      · have hkl:k < r.length:=by omega
        obtain ⟨b,o,rfl,hb',hcc⟩:=rd_ints (h.below hbw0) (by omega)
        have d0:wr.cell? ⟨b,o + k,none⟩ = some (.int .i64 r[k]):=hcc k hkl
        have h6:=H64.out r[k] (List.getElem_mem hkl)
        have HS:=Lib.hid (symsB_snoc l r k hkl)
        have hfl:(symsB l (r.take k)).length≤32 * (r.take k).length:=symsB_len l HK.out (r.take k) (by
          have:=HALL.out
          unfold LenW.symsOk at this ⊢
          rw [List.all_eq_true] at this ⊢
          intro y hy
          exact this y (List.mem_of_mem_take hy))
        rw [List.length_take] at hfl
        have hv:=HOK.out r[k] (List.getElem_mem hkl)
        generalize hr:r[k] = y at *
        have C:=cput_yes l HK.out w1.heap.size g y (w2.heap.size + 1) w2.heap.size ab _ wr hCr h6 hv hW (by rw [List.length_append];omega) hz4
        clear hcc hr hv h6
        go_wp2_with fail
        refine C.mono ?_
        clear C
        rintro e w4 ⟨rfl,ab2,hP⟩
        obtain ⟨p1,p2,p3⟩:=hP
        have hba:=fun k hk=>(TabW.wr_own hW k hk).1
        have hbw2:Below w2.heap.size w2 w4:=hbw.trans (p3.below hsz (Nat.le_refl _) (fun k hk=>by have:=hba k hk;omega))
        have hz5:=p3.size
        go_wp2_with fail
        go_roundw
        case rel =>
          refine ⟨k + 1,ab2,by go_num,by omega,?_,by omega,hbw2⟩
          rw [HS.out,← List.append_assoc];exact p1
        case measure=>simp [intOf];omega
      · have hfl:(symsB l r).length≤32 * r.length:=symsB_len l HK.out r HALL.out
        rw [List.take_of_length_le (by omega),← HHB.out] at hW
        have C:=text_any _ _ _ _ _ hW (by rw [HHB.out,List.length_append];omega)
        go_wp2_with fail
        refine C.mono ?_
        clear C
        rintro e w4 ⟨rfl,hb4⟩
        go_wp2_with fail
        go_ret2
        exact ⟨rfl,hbw0.trans (hb4.mono (by omega))⟩
end HufW
end Go.Proofs.YtnpncpoiiikafaaGreatDoor
namespace Go.Proofs.YtnpncpoiiikafaaGreatDoor
open Go.RowKit
namespace TabW
open LenW (okL okL_at chkL chk0 check_any)
theorem grown_below {w w':World} {gl:Nat} (h:w.grownBy w' (some gl)) (hl:gl < w.heap.size):Below gl w w':=⟨h.os,h.tape,h.output,h.size,fun k hk=>h.block k (by omega) (by simp;omega)⟩
def lenOf:Value → Nat
  | .slice _ n _=>n
  | _=>0
end TabW
end Go.Proofs.YtnpncpoiiikafaaGreatDoor
namespace Go.Proofs.YtnpncpoiiikafaaGreatDoor
open Go.RowKit
namespace TabW
open LenW (okL okL_at chkL chk0 check_any)
open BitW (gam gamB)
end TabW
end Go.Proofs.YtnpncpoiiikafaaGreatDoor
namespace Go.Proofs.YtnpncpoiiikafaaGreatDoor
open Go.RowKit
namespace HufW
open LenW (chkL usedL symsB symsOk CodeAt)
def CodeIn (w:World) (B T g:Nat) (l:List Int):Prop:=∃ gW gS,(B≤g∧B≤gW∧B≤gS)∧(g < T∧gW < T∧gS < T) ∧
  Blk w g 156 (LenW.codeC (.slice (some ⟨gW,0,none⟩) l.length l.length) (.slice (some ⟨gS,0,none⟩) (usedL l) (usedL l)) (LenW.tab (LenW.cntL l)) (LenW.tab (LenW.fstL l)) (LenW.tab (LenW.plcL l)) true) ∧
  Blk w gW 165 (fcells (LenW.wordsF l)).toArray∧Blk w gS 3 (ints (LenW.sortF l)).toArray
theorem CodeIn.of {w:World} {B g:Nat} {l:List Int} (h:CodeAt w B g l):CodeIn w B w.heap.size g l:=by
  obtain ⟨gW,gS,h1,h2,h3,b1,b2,b3⟩:=h
  exact ⟨gW,gS,⟨h1,h2,h3⟩,⟨b1.lt,b2.lt,b3.lt⟩,b1,b2,b3⟩
theorem CodeIn.to {w:World} {B T g:Nat} {l:List Int} (h:CodeIn w B T g l):CodeAt w B g l:=by
  obtain ⟨gW,gS,⟨h1,h2,h3⟩,_,b1,b2,b3⟩:=h
  exact ⟨gW,gS,h1,h2,h3,b1,b2,b3⟩
theorem CodeIn.grown {w w':World} {B T g:Nat} {l:List Int} {row:Option Nat} (h:CodeIn w B T g l) (hg:w.grownBy w' row) (hr:∀ k,row = some k → k < B ∨ T≤k):CodeIn w' B T g l:=by
  obtain ⟨gW,gS,⟨h1,h2,h3⟩,⟨t1,t2,t3⟩,b1,b2,b3⟩:=h
  refine ⟨gW,gS,⟨h1,h2,h3⟩,⟨t1,t2,t3⟩,b1.grown hg ?_,b2.grown hg ?_,b3.grown hg ?_⟩ <;> intro e <;> have:=hr _ e.symm <;> omega
theorem CodeIn.alloc {w:World} {B T g:Nat} {l:List Int} (h:CodeIn w B T g l) (o:Obj):CodeIn (w.alloc o) B T g l :=
  h.grown (grown_of_below ((Below.refl _ w).alloc (Nat.le_refl _) o)) (fun k e=>by cases e)
end HufW
end Go.Proofs.YtnpncpoiiikafaaGreatDoor
namespace Go.Proofs.YtnpncpoiiikafaaGreatDoor
open Go.RowKit
namespace HufW
open LenW (chkL symsB symsOk)
open TabW (tabB rle rle_len)
end HufW
end Go.Proofs.YtnpncpoiiikafaaGreatDoor
namespace Go.Proofs.YtnpncpoiiikafaaGreatDoor
namespace SqW
open SufW (bwtL Sa letters bwt_len prim_in)
open ZruW (packZ pack_len pack_sym)
open HufW (encV ctsV badS hufB)
open FrontW (runR runR_len runR_ok)
def natL (l:List Int):List Nat:=l.map Int.toNat
def intL (l:List Nat):List Int:=l.map Int.ofNat
theorem intL_nat (l:List Int) (h:∀ x ∈ l,0≤x):intL (natL l) = l:=by
  simp only [natL,intL,List.map_map]
  conv=>rhs;rw [← List.map_id l]
  refine List.map_congr_left fun x hx=>?_
  have:=h x hx
  simp
  omega
def symsOf (s:List UInt8) (A:List Nat):List Int:=intL (packZ (natL (runR (bwtL s A)).2) 0)
theorem runR_in (s:List UInt8):∀ x ∈ (runR s).2,0≤x∧x≤255:=fun x hx=>by
  have:=runR_ok s x hx
  omega
theorem syms_in (s:List UInt8) (A:List Nat):∀ x ∈ symsOf s A,0≤x∧x≤256:=by
  intro x hx
  simp only [symsOf,intL,List.mem_map] at hx
  obtain ⟨y,hy,rfl⟩:=hx
  have:=pack_sym (natL (runR (bwtL s A)).2) 0 (fun z hz=>by
    simp only [natL,List.mem_map] at hz
    obtain ⟨u,hu,rfl⟩:=hz
    have:=runR_in _ u hu
    omega) y hy
  exact ⟨Int.natCast_nonneg y,by simp only [Int.ofNat_eq_natCast];omega⟩
theorem syms_bad (s:List UInt8) (A:List Nat):(symsOf s A).any badS = false:=by
  rw [List.any_eq_false]
  intro x hx
  have:=syms_in s A x hx
  simp [badS]
  omega
theorem syms_len (s:List UInt8) (A:List Nat) (hA:Sa (letters s) A):(symsOf s A).length≤s.length:=by
  have h:=pack_len (natL (runR (bwtL s A)).2) 0
  have h1:(natL (runR (bwtL s A)).2).length = s.length:=by rw [natL,List.length_map,runR_len,bwt_len s A hA]
  simp only [symsOf,intL,List.length_map]
  omega
theorem enc_syms (s:List UInt8) (A:List Nat) (hA:Sa (letters s) A) (hs:s.length≤20000):encV (symsOf s A) = (textB (hufB (symsOf s A)),0):=by
  have hl:=syms_len s A hA
  have hc:(ctsV (symsOf s A)).2 = 0:=by
    unfold ctsV
    rw [if_neg (by omega),syms_bad,if_neg (by decide)]
  unfold encV
  rw [if_pos hc]
def packB (s:List UInt8) (A:List Nat) (pr:Nat):List UInt8:=lput [(s.length:Int),(pr:Int),((symsOf s A).length:Int)] ++ textB (hufB (symsOf s A))
end SqW
end Go.Proofs.YtnpncpoiiikafaaGreatDoor
