/- HufP -/
import Derived.Test.YtnpncpoiiikafaaGreatLfIQt
import Derived.Test.YtnpncpoiiikafaaGreatLenKQt
import Derived.Test.YtnpncpoiiikafaaGreatCanGQt
import Derived.Test.YtnpncpoiiikafaaGreatBitNQt
import Derived.Test.YtnpncpoiiikafaaGreatCanXQt
import Derived.Test.YtnpncpoiiikafaaGreatBitUQt
import Derived.WalkMore
import Derived.ScopeJumps
import Derived.Deep.LoopGhost
import Derived.Test.YtnpncpoiiikafaaGreatCanWQt
import Derived.Test.YtnpncpoiiikafaaGreatLenYQt
set_option linter.unusedVariables false
set_option linter.unusedSimpArgs false
set_option linter.unnecessarySimpa false
set_option maxRecDepth 100000
set_option maxHeartbeats 32000000
namespace Go.Proofs.YtnpncpoiiikafaaGreat
open Go.RowKit
namespace HufW
open LenW (chkL okL usedL sumL bestW refuseW badN Ranked ranked_at best_ranked symsB symsOk wordV dgs Vs wd wb Vs_iff dgs_V wordV_V unpG getC back_at sym_nat symsB_cons symsOk_cons)
open TabW (tabB tabG getT_back tab_forms rle rle_len)
def ctsL (r:List Int):List Int:=(List.range 257).map fun s:Nat=>((r.count (s:Int):Nat):Int)
def badS (x:Int):Bool:=decide (x < 0) || decide (256 < x)
def ctsV (r:List Int):List Int × Int:=if 100000 < r.length then ([],3) else if r.any badS = true then ([],70) else (ctsL r,0)
theorem ctsL_len (r:List Int):(ctsL r).length = 257:=by simp [ctsL]
theorem ctsL_at (r:List Int) (s:Nat) (h:s < (ctsL r).length):(ctsL r)[s] = ((r.count (s:Int):Nat):Int):=by simp [ctsL]
theorem ctsL_nil:ctsL [] = List.replicate 257 0:=by
 apply List.ext_getElem
 ·rw [ctsL_len,List.length_replicate]
 ·intro i h1 h2
  rw [ctsL_at,List.getElem_replicate]
  rfl
theorem ctsL_snoc (r:List Int) (x:Nat) (hx:x < 257):ctsL (r ++ [(x:Int)]) = (ctsL r).set x (((r.count (x:Int):Nat):Int) + 1):=by
 apply List.ext_getElem
 ·simp [ctsL]
 ·intro i h1 h2
  rw [ctsL_at,List.getElem_set]
  by_cases e:x = i
  ·subst e
   rw [if_pos rfl,List.count_append]
   simp
  ·rw [if_neg e,ctsL_at,List.count_append,List.count_singleton]
   have:((x:Int) == (i:Int)) = false:=by simp only [beq_eq_false_iff_ne];omega
   rw [this]
   simp
theorem badS_false {x:Int} (h:badS x = false):0≤x∧x≤256:=by
 unfold badS at h
 simp at h
 omega
theorem any_false {r:List Int} (h:r.any badS = false):∀ x ∈ r,0≤x∧x≤256:=by
 intro x hx
 refine badS_false ?_
 rw [Bool.eq_false_iff]
 intro e
 rw [List.any_eq_true.2 ⟨x,hx,e⟩] at h
 cases h
theorem usedL_257 (r:List Int):usedL (ctsL r)≤257:=by
 have:=LenW.usedL_le (ctsL r)
 rw [ctsL_len] at this
 exact this
theorem cts_good (r:List Int) (h:r.length≤100000):(ctsL r).any badN = false:=by
 rw [Bool.eq_false_iff]
 intro e
 obtain ⟨x,hx,hb⟩:=List.any_eq_true.1 e
 obtain ⟨i,hi,rfl⟩:=List.getElem_of_mem hx
 rw [ctsL_at] at hb
 have:=List.count_le_length (a:=(i:Int)) (l:=r)
 unfold badN at hb
 simp at hb
 omega
theorem refuse_cts (r:List Int) (h:r.length≤100000):refuseW (ctsL r) 15 = 0:=by
 have h1:=cts_good r h
 have h2:=usedL_257 r
 unfold refuseW
 rw [ctsL_len,if_neg (by omega),if_neg,if_neg]
 ·show ¬ 2 ^ (15:Int).toNat < _
  have:2 ^ (15:Int).toNat = 32768:=by decide
  omega
 ·rintro (e | e | e)
  ·omega
  ·omega
  ·rw [LenW.refuseW_any,h1] at e;cases e
def bL (r:List Int):List Int:=bestW (ctsL r) 15
theorem bL_ranked (r:List Int) (h:r.length≤100000):∃ lam,Ranked (ctsL r) (bL r) 15 lam∧chkL (bL r) = 0:=best_ranked (refuse_cts r h)
theorem bL_len (r:List Int) (h:r.length≤100000):(bL r).length = 257:=by
 obtain ⟨lam,hr,_⟩:=bL_ranked r h
 rw [hr.len,ctsL_len]
theorem bL_chk (r:List Int) (h:r.length≤100000):chkL (bL r) = 0:=by
 obtain ⟨_,_,hc⟩:=bL_ranked r h
 exact hc
theorem bL_at (r:List Int) (h:r.length≤100000) (s:Nat) (hs:s < 257):∃ x:Nat,(bL r)[s]? = some (x:Int)∧x≤15∧((s:Int) ∈ r → 1≤x)∧((s:Int) ∉ r → x = 0):=by
 obtain ⟨lam,hr,_⟩:=bL_ranked r h
 have hl:=ctsL_len r
 rcases ranked_at hr s (by omega) with ⟨k,_,hp,_,hx,h1,h2⟩ | ⟨hp,hx⟩
 ·refine ⟨lam k,hx,h2,fun _=>h1,fun hn=>?_⟩
  rw [ctsL_at,List.count_eq_zero_of_not_mem hn] at hp
  omega
 ·refine ⟨0,hx,by omega,fun hm=>?_,fun _=>rfl⟩
  rw [ctsL_at] at hp
  have:=List.count_pos_iff.2 hm
  omega
theorem bL_word (r:List Int) (h:r.length≤100000) (hb:r.any badS = false) (x:Int) (hx:x ∈ r):(wordV (bL r) x).2 = 0:=by
 obtain ⟨h0,h1⟩:=any_false hb x hx
 obtain ⟨s,rfl⟩:∃ s:Nat,x = (s:Int):=⟨x.toNat,by omega⟩
 obtain ⟨y,hy,_,h3,_⟩:=bL_at r h s (by omega)
 obtain ⟨hlt,he⟩:=List.getElem?_eq_some_iff.1 hy
 have:=h3 hx
 exact Vs_iff.2 ⟨hlt,by rw [he];omega⟩
theorem bL_ok (r:List Int) (h:r.length≤100000) (hb:r.any badS = false):symsOk (bL r) r = true:=by
 unfold LenW.symsOk
 rw [List.all_eq_true]
 intro x hx
 exact decide_eq_true (bL_word r h hb x hx)
def hufB (r:List Int):List Nat:=tabB (bL r) ++ symsB (bL r) r
def encV (r:List Int):List UInt8 × Int:=if (ctsV r).2 = 0 then (textB (hufB r),0) else ([],(ctsV r).2)
theorem ctsV_cases (r:List Int):(ctsV r = ([],3)∧100000 < r.length) ∨ (ctsV r = ([],70)∧r.length≤100000∧r.any badS = true) ∨ (ctsV r = (ctsL r,0)∧r.length≤100000∧r.any badS = false):=by
 unfold ctsV
 by_cases h:100000 < r.length
 ·exact .inl ⟨if_pos h,h⟩
 ·rw [if_neg h]
  cases hb:r.any badS
  ·exact .inr (.inr ⟨if_neg (by simp),by omega,rfl⟩)
  ·exact .inr (.inl ⟨if_pos rfl,by omega,rfl⟩)
theorem hufB_lt (r:List Int):∀ d ∈ hufB r,d < 2:=by
 intro d hd
 unfold hufB at hd
 rcases List.mem_append.1 hd with h | h
 ·exact TabW.runsB_lt _ d h
 ·exact LenW.dgs_lt _ _ d h
end HufW
end Go.Proofs.YtnpncpoiiikafaaGreat
namespace Go.Proofs.YtnpncpoiiikafaaGreat
open Go.RowKit
namespace TabW
open LenW (okL okL_at chkL chk0 check_any fcells_at fcells_set)
open BitW (gam gamB Wr Wfr Fresh Puts Put_yes Gamma_yes text_any)
theorem El_run:El Tryz.prog 224 202 2 16:=El.mk' Tryz.underlying224 (z:=.agg #[.int .i64 0,.int .i64 0]) (by kernel_rfl) rfl (by decide)
theorem fcells_one (l:List (Int × Int)):∀ u ∈ fcells l,u.oneCell' = true:=by
 intro u hu
 obtain ⟨r,_,hr⟩:=List.mem_flatMap.1 hu
 simp at hr
 rcases hr with rfl | rfl <;> rfl
theorem fcells_app (a b:List (Int × Int)):fcells (a ++ b) = fcells a ++ fcells b:=by simp [fcells]
theorem rle_step (l:List Int) (k:Nat) (h:k < l.length):rle (l.take (k + 1)) = addR (rle (l.take k)) l[k]:=by rw [List.take_succ_eq_append_getElem h,rle_snoc]
theorem rle_take_len (l:List Int) (k:Nat):(rle (l.take k)).length≤k:=by have:=rle_len (l.take k);rw [List.length_take] at this;omega
theorem set_same {α:Type} (l:List α) (i:Nat) (v:α) (h:l[i]? = some v):l.set i v = l:=by
 obtain ⟨hi,rfl⟩:=List.getElem?_eq_some_iff.1 h
 exact List.set_getElem_self hi
theorem cells_bump (R:List (Int × Int)) (i:Nat) (x q:Int) (h:R[i]? = some (x,q)):(fcells R).set (i * 2 + 1) (.int .i64 (q + 1)) = fcells (R.set i (x,q + 1)):=by
 obtain ⟨hi,hq⟩:=List.getElem?_eq_some_iff.1 h
 obtain ⟨c0,c1⟩:=fcells_at R i hi
 rw [fcells_set R i hi,set_same _ (i * 2) _ (by simpa [hq] using c0)]
theorem rle_small (l:List Int) (k i:Nat) (x q:Int) (h:(rle (l.take k))[i]? = some (x,q)):0≤q∧q≤(k:Int):=by
 have hm:=List.mem_of_getElem? h
 have h1:=rle_pos _ _ hm
 have h2:=(rle_mem _ _ hm).2
 rw [List.length_take] at h2
 dsimp only at h1 h2
 omega
theorem runs_any (A:Option Addr) (n c:Nat) (l:List Int) (w:World) (h:Rd w w.heap.size 1 A n (ints l)) (hn:n≤1000) :
 Calls Tryz.prog 155 #[.slice A n c] w fun e w'=>∃ A2 n2 c2,e = .returned (.slice A2 n2 c2)∧n2≤n∧Own w' w.heap.size 202 2 A2 n2 c2 (fcells (rle l))∧Below w.heap.size w w':=by
 have hl:l.length = n:=rd_len h
 go_enter Tryz.func155,Tryz.ntmps155
 go_wp2_with fail
 go_step3
 go_wp2_with fail
 go_step3
 go_wp2_with fail
 go_loopw [3,9] (fun out i wr=>∃ (k j c2:Nat) (A2:Option Addr),i = .int .i64 k∧out = .slice A2 j c2∧k≤n∧(rle (l.take k)).length = j∧Own wr w.heap.size 202 2 A2 j c2 (fcells (rle (l.take k)))∧Below w.heap.size w wr) (fun _ i _=>n - (intOf i).toNat)
 case atStart=>exact ⟨0,0,0,none,rfl,rfl,by omega,by simp [rle],by simpa [rle,fcells] using Own.nil _ _ _ _,Below.refl _ _⟩
 case round =>
  obtain ⟨k,j,c2,A2,rfl,rfl,hk,hj,o2,hbw⟩:=hrel
  have hsz:=hbw.size
  by_cases hlt:k < n
  ·have hkl:k < l.length:=by omega
   obtain ⟨b,o,rfl,hb,hc⟩:=rd_ints (h.below hbw) (by omega)
   have d0:wr.cell? ⟨b,o + k,none⟩ = some (.int .i64 l[k]):=hc k hkl
   have HS:=Lib.hid (rle_step l k hkl)
   have hjk:=rle_take_len l k
   rw [hj] at hjk
   obtain ⟨x,hx⟩:∃ x,l[k] = x:=⟨_,rfl⟩
   rw [hx] at d0 HS
   have hsm:=rle_small l k
   obtain ⟨R,hR⟩:∃ R,rle (l.take k) = R:=⟨_,rfl⟩
   rw [hR] at hj o2 HS hsm
   clear hc hx hR
   by_cases hlast:∃ i q,j = i + 1∧R[i]? = some (x,q)
   ·obtain ⟨i,q,rfl,hq⟩:=hlast
    have hq0:=hsm i x q hq
    have HCS:=Lib.hid (cells_bump R i x q hq)
    obtain ⟨hi,hq⟩:=List.getElem?_eq_some_iff.1 hq
    have hA:=addR_last (x:=x) (k:=q) hj hq
    have HA:=Lib.hid (show rle (l.take (k + 1)) = R.set i (x,q + 1) by rw [HS.out,hA])
    obtain ⟨g,rfl⟩:∃ g,A2 = some ⟨g,0,none⟩:=by
     rcases o2.shape with ⟨_,h0,_⟩ | ⟨g,e,_⟩
     ·omega
     ·exact ⟨g,e⟩
    obtain ⟨c0,c1⟩:=fcells_at R i hi
    rw [hq] at c0 c1
    have e0:=own_cell o2 _ (by simpa using c0)
    have e1:=own_cell o2 _ (by simpa using c1)
    have fz:=own_thaw o2 (i * 2 + 1)
    have hgb:=(o2.blk g rfl).1
    clear c0 c1 hq hA hsm
    have hi0:(0:Int)≤(i:Int):=by omega
    have hi1:((i + 1:Nat):Int) - 1 = (i:Int):=by omega
    have hi2:(i:Int) + 1 - 1 = (i:Int):=by omega
    go_wp2_with fail
    go_roundw
    case rel=>exact ⟨k + 1,i + 1,c2,some ⟨g,0,none⟩,by go_num,rfl,by omega,by rw [HA.out];simpa using hj,by rw [HA.out,← HCS.out];exact o2.set _,hbw.setCell (p:=⟨g,i * 2 + 1,none⟩) hgb _⟩
    case measure=>simp [intOf];omega
   ·have hA:=addR_new (R:=R) (x:=x) (fun i hi e=>hlast ⟨i,(R[i]'(by omega)).2,by omega,by rw [List.getElem?_eq_getElem (by omega),← e]⟩)
    have HA:=Lib.hid (show rle (l.take (k + 1)) = R ++ [(x,1)] by rw [HS.out,hA])
    have hrn:Rd (wr.alloc (.cells #[.int .i64 x,.int .i64 1] 202)) (wr.heap.size + 1) 2 (some ⟨wr.heap.size,0,none⟩) 1 (fcells [(x,1)]):=rd_new (W0:=wr) (t:=202) (cs:=fcells [(x,1)]) (size:=2) (m:=1) rfl rfl
    clear hA hsm
    by_cases hj0:j = 0
    ·subst hj0
     clear hlast
     go_wp2_with (at_builtin;with_reducible refine wp_append El_run rfl (s:=.tmp 35) (x:=.tmp 38) rfl rfl (o2.alloc _) rfl hrn (fcells_one _) (by unfold maxLen;omega) (by omega) (by simp;omega) ?_;intro A4 c4 w4 o4 hg4 hat4;have hbX:=below_grown (hbw.alloc hsz (.cells #[.int .i64 x,.int .i64 1] 202)) hg4 (o2.alloc _) (Nat.le_refl _))
     rw [← fcells_app] at o4
     go_roundw
     case rel=>exact ⟨k + 1,0 + 1,c4,A4,by go_num,rfl,by omega,by rw [HA.out];simp [hj],by rw [HA.out];exact o4,hbX⟩
     case measure=>simp [intOf];omega
    ·obtain ⟨i,rfl⟩:∃ i,j = i + 1:=⟨j - 1,by omega⟩
     obtain ⟨g,rfl⟩:∃ g,A2 = some ⟨g,0,none⟩:=by
      rcases o2.shape with ⟨_,h0,_⟩ | ⟨g,e,_⟩
      ·omega
      ·exact ⟨g,e⟩
     have hi:i < R.length:=by omega
     obtain ⟨c0,c1⟩:=fcells_at R i hi
     have e0:=own_cell o2 _ (by simpa using c0)
     have hne:¬ R[i].1 = x:=fun e=>hlast ⟨i,R[i].2,rfl,by rw [List.getElem?_eq_getElem hi,← e]⟩
     obtain ⟨y,hy⟩:∃ y,R[i].1 = y:=⟨_,rfl⟩
     rw [hy] at e0 hne
     have hneI:(y == x) = false:=by simpa using hne
     have hneD:decide (y = x) = false:=by simpa using hne
     have hi0:(0:Int)≤(i:Int):=by omega
     clear c0 c1 hy hlast hj0
     go_wp2_with (at_builtin;with_reducible refine wp_append El_run rfl (s:=.tmp 35) (x:=.tmp 38) rfl rfl (o2.alloc _) rfl hrn (fcells_one _) (by unfold maxLen;omega) (by omega) (by simp;omega) ?_;intro A4 c4 w4 o4 hg4 hat4;have hbX:=below_grown (hbw.alloc hsz (.cells #[.int .i64 x,.int .i64 1] 202)) hg4 (o2.alloc _) (Nat.le_refl _))
     rw [← fcells_app] at o4
     go_roundw
     case rel=>exact ⟨k + 1,i + 1 + 1,c4,A4,by go_num,rfl,by omega,by rw [HA.out];simp [hj],by rw [HA.out];exact o4,hbX⟩
     case measure=>simp [intOf];omega
  ·obtain rfl:k = n:=by omega
   have HL:=Lib.hid (show l.take k = l by rw [← hl,List.take_length])
   rw [HL.out] at o2 hj
   have:=rle_len l
   go_wp2_with fail
   try rw [Exit.noGoto_ret]
   go_ret
   exact ⟨A2,j,c2,rfl,by omega,o2,hbw⟩
end TabW
end Go.Proofs.YtnpncpoiiikafaaGreat
namespace Go.Proofs.YtnpncpoiiikafaaGreat
open Go.RowKit
namespace TabW
open LenW (okL okL_at chkL chk0 check_any fcells_at fcells_set wfr_pre)
open BitW (gam gamB Wr Wfr Fresh Puts Put_yes Gamma_yes text_any)
theorem own_same {w w':World} {base e size n c:Nat} {A:Option Addr} {xs:List Value} (h:Own w base e size A n c xs) (hk:∀ k,blkOf A = some k → w'.heap[k]? = w.heap[k]?):Own w' base e size A n c xs:=by
 refine ⟨h.1,?_⟩
 rcases h.2 with h2 | ⟨g,cap,cur,hv,hg,hb,r⟩
 ·exact .inl h2
 ·refine .inr ⟨g,cap,cur,hv,hg,?_,r⟩
  simp only [Value.slice.injEq] at hv
  obtain ⟨rfl,_,rfl⟩:=hv
  rw [hk g rfl]
  exact hb
theorem wr_own {w:World} {base g:Nat} {ab:Option Nat} {l:List Nat} (h:Wr w base g ab l):∀ k,ab = some k → base≤k∧k < w.heap.size:=by
 obtain ⟨⟨A,nb,c,bs,r,k',bG,o,hab,_⟩,_⟩:=h
 intro k hk
 rw [← hab] at hk
 exact o.blk k hk
theorem wr_lt {w:World} {base g:Nat} {ab:Option Nat} {l:List Nat} (h:Wr w base g ab l):g < w.heap.size:=by
 obtain ⟨⟨A,nb,c,bs,r,k',bG,o,hab,_⟩,_⟩:=h
 exact bG.lt
theorem good_fits {r:Int × Int} (h:goodR r):BitW.Wr = BitW.Wr∧fitsB r.1 4 = true∧gamB r.2 = true∧I64 r.1∧I64 r.2:=by
 obtain ⟨h1,h2,h3,h4⟩:=h
 refine ⟨rfl,?_,?_,by unfold I64;omega,by unfold I64;omega⟩
 ·unfold fitsB
  simp
  omega
 ·unfold gamB fitsB
  simp
  omega
theorem tput_yes (base gw:Nat) (ab:Option Nat) (L:List Nat) (A:Option Addr) (n c:Nat) (l:List Int) (w:World) (h:Rd w w.heap.size 1 A n (ints l)) (hn:n≤1000000) (hk:chkL l = 0) (hW:Wr w base gw ab L) (hL:L.length≤800000) (hbs:base≤w.heap.size) :
 Calls Tryz.prog 101 #[.pointer (some ⟨gw,0,none⟩),.slice A n c] w fun e w'=>e = .returned (.int .i64 0)∧∃ ab',Puts w w' base gw ab (L ++ tabB l) ab':=by
 have C:=check_any A n c l w h hn 0 hk
 have hl:l.length = n:=rd_len h
 have h257:=(chk0 hk).1
 have C2:=runs_any A n c l w h (by omega)
 have hgood:=rle_good hk
 have hrl:=rle_len l
 go_enter Tryz.func101,Tryz.ntmps101
 go_wp2_with fail
 refine C.mono ?_
 clear C
 rintro e w1 ⟨rfl,rfl⟩
 go_wp2_with fail
 refine C2.mono ?_
 clear C2
 rintro e w2 ⟨A2,n2,c2,rfl,hn2,o2,hb2⟩
 have hW2:Wr w2 base gw ab L:=LenW.Wr.low hW hb2
 have hsz2:=hb2.size
 have hgw:=wr_lt hW
 have hab:=wr_own hW
 have hr2:(rle l).length = n2:=by have:=o2.len;rw [fcells_len] at this;omega
 have HTB:=Lib.hid (show tabB l = runsB (rle l) from rfl)
 generalize rle l = R at *
 go_wp2_with fail
 go_loopw [18] (fun i wr=>∃ (k:Nat) (ab':Option Nat),i = .int .i64 k∧k≤n2∧Wr wr base gw ab' (L ++ runsB (R.take k))∧Fresh w2 ab ab'∧Wfr w2 wr gw ab) (fun i _=>n2 - (intOf i).toNat)
 case atStart=>exact ⟨0,ab,rfl,by omega,by simpa [runsB] using hW2,Fresh.refl _ _,Wfr.refl _ _ _⟩
 case round =>
  obtain ⟨k,ab',rfl,hkn,hWr,hfr,hwf⟩:=hrel
  clear hW2
  have hsz:=hwf.size
  by_cases hlt:k < n2
  ·have hkR:k < R.length:=by omega
   have hgd:=hgood R[k] (List.getElem_mem hkR)
   have HS:=Lib.hid (runsB_snoc R k hkR)
   have hRl:=runsB_len (R.take k) (fun r hr=>hgood r (List.mem_of_mem_take hr))
   rw [List.length_take] at hRl
   have ow:Own wr w1.heap.size 202 2 A2 n2 c2 (fcells R):=own_same o2 (fun b hb=>by
    obtain ⟨q1,q2⟩:=o2.blk b hb
    exact hwf.block b q2 (by omega) (fun e=>by have:=hab b e;omega))
   obtain ⟨b,o,rfl,hb,hc⟩:=rd_fcells ow.rd (by omega)
   obtain ⟨d0,d1⟩:=hc k hkR
   obtain ⟨_,hf1,hf2,h64a,h64b⟩:=good_fits hgd
   obtain ⟨⟨x,q⟩,hx⟩:∃ z,R[k] = z:=⟨_,rfl⟩
   rw [hx] at d0 d1 hf1 hf2 h64a h64b HS
   dsimp only at d0 d1 hf1 hf2 h64a h64b
   have hki:(k:Int) < (n2:Int):=by omega
   have hk0:(0:Int)≤(k:Int):=by omega
   clear hc hx hgd
   have hB1:Below wr.heap.size wr (wr.alloc (.cells #[.int .i64 x,.int .i64 q] 202)):=(Below.refl _ wr).alloc (Nat.le_refl _) _
   have hWa:=LenW.Wr.low hWr hB1
   have bx:=Blk.new wr 202 #[.int .i64 x,.int .i64 q]
   have bx':=bx
   obtain ⟨x0,x1,_,_,_⟩:=blk2 bx'
   have hwlt:=wr_lt hWr
   have hwo:=wr_own hWr
   have C:=Put_yes base gw ab' _ x 4 _ hf1 h64a hWa (by rw [List.length_append];omega) (by simp;omega)
   clear hf1 bx'
   go_wp2_with fail
   refine C.mono ?_
   clear C
   rintro e w3 ⟨rfl,ab3,hP3⟩
   have bx3:Blk w3 wr.heap.size 202 #[.int .i64 x,.int .i64 q]:=(hP3.frame.block wr.heap.size (by simp) (by omega) (fun e=>by have:=(hwo _ e).2;omega)).trans bx
   have hz3:=hP3.frame.size
   rw [World.size_alloc] at hz3
   clear x0 x1
   obtain ⟨x0,x1,_,_,_⟩:=blk2 bx3
   have C:=Gamma_yes base gw ab3 _ q w3 hf2 h64b hP3.wr (by simp only [List.length_append,dg_len];have:(4:Int).toNat = 4:=rfl;omega) (by omega)
   clear hf2
   go_wp2_with fail
   refine C.mono ?_
   clear C
   rintro e w4 ⟨rfl,ab4,hP4⟩
   have hz4:=hP4.frame.size
   have f3:Fresh wr ab' ab3:=by
    rcases hP3.fresh with q | ⟨k,q,q2⟩
    ·exact .inl q
    ·exact .inr ⟨k,q,by simp at q2;omega⟩
   have g3:Wfr wr w3 gw ab':=wfr_pre hB1 hP3.frame
   have g4:Wfr wr w4 gw ab':=g3.trans hP4.frame f3
   have f4:Fresh wr ab' ab4:=f3.trans hP4.fresh (by omega)
   go_wp2_with fail
   go_roundw
   case rel =>
    refine ⟨k + 1,ab4,by go_num,by omega,?_,hfr.trans f4 hsz,hwf.trans g4 hfr⟩
    rw [HS.out]
    have:=hP4.wr
    simp only [List.append_assoc] at this ⊢
    exact this
   case measure=>simp [intOf];omega
  ·have hz':=Lib.hid (show R.take k = R from List.take_of_length_le (by omega))
   rw [hz'.out] at hWr
   go_wp2_with fail
   go_ret
   rw [HTB.out]
   refine ⟨rfl,ab',hWr,?_,wfr_pre hb2 hwf⟩
   rcases hfr with q | ⟨k,q,q2⟩
   ·exact .inl q
   ·exact .inr ⟨k,q,by omega⟩
theorem tabB_len {l:List Int} (hk:chkL l = 0):(tabB l).length≤20000:=by
 have h1:=runsB_len (rle l) (rle_good hk)
 have h2:=rle_len l
 have h3:=(chk0 hk).1
 unfold tabB
 omega
end TabW
end Go.Proofs.YtnpncpoiiikafaaGreat
namespace Go.Proofs.YtnpncpoiiikafaaGreat
open Go.RowKit
namespace HufW
open LenW (run_made made_ints)
theorem w64k {x:Int} (h1:-4611686018427387904≤x) (h2:x≤4611686018427387904):IntKind.i64.wrap x = x:=by rw [IntKind.wrap_i64];omega
theorem ints_put (l:List Int) (s:Nat) (x:Int):(ints l).toArray.setIfInBounds s (.int .i64 x) = (ints (l.set s x)).toArray:=by
 simp [ints,List.map_set]
theorem made_cts (w:World):(Instr.makeSlice 84 (.int .i64 257) (.int .i64 257)).run Tryz.prog w = .ok (.slice (some ⟨w.heap.size,0,none⟩) 257 257) (w.alloc (.cells (ints (ctsL [])).toArray 3)):=by
 have hmk:=run_made (P:=Tryz.prog) 84 3 (.int .i64 0) 1 8 Tryz.underlying84 (by kernel_rfl) 257 (by omega) (by omega) w
 rw [ctsL_nil,← made_ints]
 exact hmk
theorem counts_any (A:Option Addr) (n c:Nat) (r:List Int) (w:World) (h:Rd w w.heap.size 1 A n (ints r)) (hn:n≤100000) (hr64:∀ x ∈ r,I64 x) :
 Calls Tryz.prog 153 #[.slice A n c] w fun e w'=>((ctsV r = ([],70)∧e = .returned (.tuple #[.slice none 0 0,.int .i64 70])) ∨
  (ctsV r = (ctsL r,0)∧e = .returned (.tuple #[.slice (some ⟨w.heap.size,0,none⟩) 257 257,.int .i64 0])∧Blk w' w.heap.size 3 (ints (ctsL r)).toArray))∧Below w.heap.size w w':=by
 have hl:r.length = n:=rd_len h
 have hnI:¬ (100000:Int) < (n:Int):=by omega
 have hmk:=made_cts w
 have G:=Blk.new w 3 (ints (ctsL [])).toArray
 have HB0:=(Below.refl w.heap.size w).alloc (Nat.le_refl _) (.cells (ints (ctsL [])).toArray 3)
 obtain ⟨w0,hw0⟩:∃ w0,w.alloc (.cells (ints (ctsL [])).toArray 3) = w0:=⟨_,rfl⟩
 rw [hw0] at hmk G HB0
 clear hw0
 have H64:=Lib.hid hr64
 clear hr64
 have HCV:=Lib.hid (ctsV_cases r)
 go_enter Tryz.func153,Tryz.ntmps153
 go_wp2_with fail
 go_loopw [13] (fun i wr=>∃ k:Nat,i = .int .i64 (k:Int)∧k≤n∧Blk wr w.heap.size 3 (ints (ctsL (r.take k))).toArray∧(r.take k).any badS = false∧Below w.heap.size w wr) (fun i _=>n - (intOf i).toNat)
 case atStart=>exact ⟨0,rfl,by omega,by simpa using G,rfl,HB0⟩
 case round =>
  obtain ⟨k,rfl,hk,g1,hall,HB⟩:=hrel
  clear G HB0 hmk
  have HALL:=Lib.hid hall
  clear hall
  have hsz:=HB.size
  have hgl:=g1.lt
  by_cases hlt:k < n
  ·have hkl:k < r.length:=by omega
   have hkI:(k:Int) < (n:Int):=by omega
   have hk0:(0:Int)≤(k:Int):=by omega
   obtain ⟨b,o,rfl,hb,hc⟩:=rd_ints (h.below HB) (by omega)
   have d0:wr.cell? ⟨b,o + k,none⟩ = some (.int .i64 r[k]):=hc k hkl
   obtain ⟨y,hy⟩:∃ y,r[k] = y:=⟨_,rfl⟩
   rw [hy] at d0
   have HY:=Lib.hid hy
   clear hc hy
   have hadd:IntKind.i64.wrap ((k:Int) + 1) = (k:Int) + 1:=w64k (by omega) (by omega)
   have HBAD:=Lib.hid (show badS y = true → r.any badS = true from fun hb=>List.any_eq_true.2 ⟨r[k],List.getElem_mem hkl,by rw [HY.out];exact hb⟩)
   by_cases q1:y < 0
   ·have hbad:=HBAD.out (by unfold badS;simp [q1])
    have hv:ctsV r = ([],70):=by
     rcases HCV.out with ⟨e,h1⟩ | ⟨e,_⟩ | ⟨_,_,h2⟩
     ·omega
     ·exact e
     ·rw [hbad] at h2;cases h2
    have HV:=Lib.hid hv
    clear hv hbad
    have q1B:decide (y < 0) = true:=by simp [q1]
    go_wp2_with fail
    try rw [Exit.noGoto_ret]
    go_ret2
    exact ⟨.inl ⟨HV.out,rfl⟩,HB⟩
   ·have q1B:decide (y < 0) = false:=by simp;omega
    by_cases q2:256 < y
    ·have hbad:=HBAD.out (by unfold badS;simp [q2])
     have hv:ctsV r = ([],70):=by
      rcases HCV.out with ⟨e,h1⟩ | ⟨e,_⟩ | ⟨_,_,h2⟩
      ·omega
      ·exact e
      ·rw [hbad] at h2;cases h2
     have HV:=Lib.hid hv
     clear hv hbad
     have q2B:decide (y ≥ 257) = true:=by simp;omega
     have q2C:decide (257≤y) = true:=by simp;omega
     have q2D:decide (256 < y) = true:=by simp [q2]
     go_wp2_with fail
     try rw [Exit.noGoto_ret]
     go_ret2
     exact ⟨.inl ⟨HV.out,rfl⟩,HB⟩
    ·have q2B:decide (y ≥ 257) = false:=by simp;omega
     have q2C:decide (257≤y) = false:=by simp;omega
     have q2D:decide (256 < y) = false:=by simp;omega
     obtain ⟨s,rfl⟩:∃ s:Nat,y = (s:Int):=⟨y.toNat,by omega⟩
     have hs257:s < 257:=by omega
     have hsI:(s:Int) < 257:=by omega
     have hs0:(0:Int)≤(s:Int):=by omega
     obtain ⟨m,hm⟩:∃ m,(r.take k).count (s:Int) = m:=⟨_,rfl⟩
     have hml:m≤100000:=by
      have:=List.count_le_length (a:=(s:Int)) (l:=r.take k)
      rw [List.length_take] at this
      omega
     have cs:wr.cell? ⟨w.heap.size,s,none⟩ = some (.int .i64 (m:Int)):=g1.cell_ s (by
      rw [List.getElem?_toArray,ints,List.getElem?_map,List.getElem?_eq_getElem (by rw [ctsL_len];exact hs257),ctsL_at,hm]
      rfl)
     have cf:=g1.frozen s
     have hm1:IntKind.i64.wrap ((m:Int) + 1) = (m:Int) + 1:=w64k (by omega) (by omega)
     have HT:=Lib.hid (show ints (ctsL (r.take (k + 1))) = ints ((ctsL (r.take k)).set s ((m:Int) + 1)) by rw [List.take_succ_eq_append_getElem hkl,HY.out,ctsL_snoc _ s hs257,hm])
     have HA:=Lib.hid (show (r.take (k + 1)).any badS = false by
      rw [List.take_succ_eq_append_getElem hkl,List.any_append,HALL.out,HY.out]
      have:badS (s:Int) = false:=by unfold badS;simp;omega
      simp [this])
     clear hm
     go_wp2_with fail
     go_roundw
     case rel=>exact ⟨k + 1,by go_num,by omega,blk_eq (g1.set s (.int .i64 ((m:Int) + 1))) (by rw [ints_put,HT.out]),HA.out,HB.setCell (p:=⟨w.heap.size,s,none⟩) (Nat.le_refl _) _⟩
     case measure=>simp [intOf];omega
  ·have hkI:¬ (k:Int) < (n:Int):=by omega
   have ha:=HALL.out
   rw [List.take_of_length_le (by omega)] at g1 ha
   have hv:ctsV r = (ctsL r,0):=by
    rcases HCV.out with ⟨e,h1⟩ | ⟨_,_,h2⟩ | ⟨e,_⟩
    ·omega
    ·rw [ha] at h2;cases h2
    ·exact e
   have HV:=Lib.hid hv
   clear hv ha
   go_wp2_with fail
   try rw [Exit.noGoto_ret]
   go_ret2
   exact ⟨.inr ⟨HV.out,rfl,g1⟩,HB⟩
end HufW
end Go.Proofs.YtnpncpoiiikafaaGreat
namespace Go.Proofs.YtnpncpoiiikafaaGreat
open Go.RowKit
namespace HufW
open LenW (chkL usedL symsB symsOk wordV best_yes sort_ok CodeAt cput_yes symsB_len symsB_snoc CodeAt.below)
open TabW (tabB tput_yes tabB_len)
open BitW (Wr Wfr Fresh Puts text_any)
theorem best_any (A:Option Addr) (n c:Nat) (r:List Int) (w:World) (h:Rd w w.heap.size 1 A n (ints r)) (hn:n≤100000) (hr64:∀ x ∈ r,I64 x) :
 Calls Tryz.prog 100 #[.slice A n c] w fun e w'=>((ctsV r = ([],70)∧e = .returned (.tuple #[.slice none 0 0,.slice none 0 0,.int .i64 70])) ∨
  (ctsV r = (ctsL r,0)∧∃ g1 g2,e = .returned (.tuple #[.slice (some ⟨g1,0,none⟩) 257 257,.slice (some ⟨g2,0,none⟩) 257 257,.int .i64 0])∧w.heap.size≤g1∧w.heap.size≤g2∧Blk w' g1 3 (ints (bL r)).toArray∧Blk w' g2 3 (ints (ctsL r)).toArray))∧Below w.heap.size w w':=by
 have C:=counts_any A n c r w h hn hr64
 have hl:r.length = n:=rd_len h
 have HCV:=Lib.hid (ctsV_cases r)
 go_enter Tryz.func100,Tryz.ntmps100
 go_wp2_with fail
 refine C.mono ?_
 clear C
 rintro e w1 ⟨⟨hv,rfl⟩ | ⟨hv,rfl,g1⟩,b1⟩
 ·have HV:=Lib.hid hv
  clear hv
  go_wp2_with fail
  go_ret3
  exact ⟨.inl ⟨HV.out,rfl⟩,b1⟩
 ·have HV:=Lib.hid hv
  clear hv
  have hlc:(ints (ctsL r)).length = 257 * 1:=by rw [ints_len,ctsL_len]
  have hrd:=Rd.of_blk (size:=1) (m:=257) g1 hlc
  have C:=best_yes (some ⟨w.heap.size,0,none⟩) 257 257 (ctsL r) 15 w1 (hrd.more (by have:=g1.lt;omega)) (refuse_cts r (by omega)) (sort_ok _ (Nat.le_trans (usedL_257 r) (by omega)))
  go_wp2_with fail
  refine C.mono ?_
  clear C
  rintro e w2 ⟨g,hg1,hg2,rfl,bg,b2⟩
  have g2:=g1.below b2 g1.lt
  have hs1:=b1.size
  go_wp2_with fail
  go_ret3
  exact ⟨.inr ⟨HV.out,g,w.heap.size,rfl,by omega,Nat.le_refl _,bg,g2⟩,b1.trans (b2.mono hs1)⟩
end HufW
end Go.Proofs.YtnpncpoiiikafaaGreat
namespace Go.Proofs.YtnpncpoiiikafaaGreat
open Go.RowKit
namespace HufW
open LenW (chkL usedL symsB symsOk wordV best_yes sort_ok CodeAt cput_yes symsB_len symsB_snoc)
open TabW (tabB tput_yes tabB_len)
open BitW (Wr Wfr Fresh Puts text_any)
theorem encode_any (A:Option Addr) (n c:Nat) (r:List Int) (w:World) (h:Rd w w.heap.size 1 A n (ints r)) (hn:n≤20000) (hr64:∀ x ∈ r,I64 x) (x:List UInt8 × Int) (hx:encV r = x) :
 Calls Tryz.prog 43 #[.slice A n c] w fun e w'=>e = .returned (.tuple #[str x.1,.int .i64 x.2])∧Below w.heap.size w w':=by
 have C:=best_any A n c r w h (by omega) hr64
 have hl:r.length = n:=rd_len h
 have HX:=Lib.hid hx
 have H64:=Lib.hid hr64
 clear hx hr64
 go_enter Tryz.func43,Tryz.ntmps43
 go_wp2_with fail
 refine C.mono ?_
 clear C
 rintro e w1 ⟨⟨hc,rfl⟩ | ⟨hc,g1,g2,rfl,hg1,hg2,b1,b2⟩,hb⟩
 ·have hx2:x = ([],70):=by rw [← HX.out,encV,hc];rfl
  subst hx2
  clear hc
  go_wp2_with fail
  go_ret2
  exact ⟨rfl,hb⟩
 ·have hnb:r.any badS = false:=by
   rcases ctsV_cases r with ⟨e,_⟩ | ⟨e,_⟩ | ⟨_,_,e⟩
   ·rw [hc] at e;cases (Prod.mk.inj e).2
   ·rw [hc] at e;cases (Prod.mk.inj e).2
   ·exact e
  have hr5:r.length≤100000:=by omega
  have hx2:x = (textB (hufB r),0):=by rw [← HX.out,encV,hc];rfl
  subst hx2
  have HK:=Lib.hid (bL_chk r hr5)
  have HOK:=Lib.hid (fun y hy=>bL_word r hr5 hnb y hy)
  have HALL:=Lib.hid (bL_ok r hr5 hnb)
  have htl:=tabB_len HK.out
  have r1:=Rd.of_blk (size:=1) (m:=257) b1 (by rw [ints_len,bL_len r hr5])
  have r1b:=r1.more (show g1 + 1≤w1.heap.size by have:=b1.lt;omega)
  have hz:=hb.size
  have HHB:=Lib.hid (show hufB r = tabB (bL r) ++ symsB (bL r) r from rfl)
  obtain ⟨l,hbl⟩:∃ l,bL r = l:=⟨_,rfl⟩
  rw [hbl] at HK HOK HALL htl r1b HHB
  have C:=LenW.new_any (some ⟨g1,0,none⟩) 257 257 l w1 r1b (by omega) HK.out
  clear hc hnb r1 b1 b2 hbl
  go_wp2_with fail
  refine C.mono ?_
  clear C
  rintro e w2 ⟨g,rfl,hC,HB2⟩
  have HB20:=hb.trans (HB2.mono hz)
  have hz2:=HB2.size
  have hWr:=Wr.fresh w2
  have HB3:Below w2.heap.size w2 (w2.alloc (.cells #[.slice none 0 0,.int .u64 0,.int .i64 0] 171)):=(by first | exact Below.refl _ _ | (repeat (first | exact Below.refl _ _ | assumption | refine Below.drew ?_ | refine Below.drewN_ ?_ _ | refine Below.alloc ?_ (by first | exact Nat.le_refl _ | (simp;done) | (simp;omega) | omega) _ | refine Below.setCell ?_ (by first | exact Nat.le_refl _ | (simp;done) | (simp;omega) | omega) _ | (refine Below.trans ?_ (Below.mono (by assumption) (by first | exact Nat.le_refl _ | (simp;done) | (simp;omega) | omega))))))
  have C:=tput_yes (w2.heap.size + 1) w2.heap.size none [] (some ⟨g1,0,none⟩) 257 257 l _ (((r1b.below HB2).more hz2).below HB3 |>.more HB3.size) (by omega) HK.out hWr (by simp) (by simp)
  go_wp2_with fail
  refine C.mono ?_
  clear C
  rintro e w3 ⟨rfl,ab,hP⟩
  have hbw3:Below w2.heap.size w2 w3:=HB3.trans (hP.frame.below HB3.size (Nat.le_refl _) (fun k hk=>by cases hk))
  have hW3:=hP.wr
  rw [List.nil_append] at hW3
  have hz3:w2.heap.size + 1≤w3.heap.size:=by have:=TabW.wr_lt hW3;omega
  clear hP hWr HB3
  go_wp2_with fail
  go_loopw [40] (fun i wr=>∃ (k:Nat) (ab:Option Nat),i = .int .i64 k∧k≤n∧Wr wr (w2.heap.size + 1) w2.heap.size ab (tabB l ++ symsB l (r.take k))∧w2.heap.size + 1≤wr.heap.size∧Below w2.heap.size w2 wr) (fun i _=>n - (intOf i).toNat)
  case atStart=>exact ⟨0,ab,rfl,by omega,by simpa [symsB] using hW3,hz3,hbw3⟩
  case round =>
   obtain ⟨k,ab,rfl,hk,hW,hz4,hbw⟩:=hrel
   have hsz:=hbw.size
   clear hW3 hz3 hbw3
   have hbw0:Below w.heap.size w wr:=HB20.trans (hbw.mono (by omega))
   have hCr:=CodeAt.below hC hbw
   by_cases hlt:k < n
   ·have hkl:k < r.length:=by omega
    obtain ⟨b,o,rfl,hb',hcc⟩:=rd_ints (h.below hbw0) (by omega)
    have d0:wr.cell? ⟨b,o + k,none⟩ = some (.int .i64 r[k]):=hcc k hkl
    have h6:=H64.out r[k] (List.getElem_mem hkl)
    have HS:=Lib.hid (symsB_snoc l r k hkl)
    have hfl:(symsB l (r.take k)).length≤32 * (r.take k).length:=symsB_len l HK.out (r.take k) (by
     have:=HALL.out
     unfold LenW.symsOk at this ⊢
     rw [List.all_eq_true] at this ⊢
     intro y hy
     exact this y (List.mem_of_mem_take hy))
    rw [List.length_take] at hfl
    have hv:=HOK.out r[k] (List.getElem_mem hkl)
    generalize hr:r[k] = y at *
    have C:=cput_yes l HK.out w1.heap.size g y (w2.heap.size + 1) w2.heap.size ab _ wr hCr h6 hv hW (by rw [List.length_append];omega) hz4
    clear hcc hr hv h6
    go_wp2_with fail
    refine C.mono ?_
    clear C
    rintro e w4 ⟨rfl,ab2,hP⟩
    obtain ⟨p1,p2,p3⟩:=hP
    have hba:=fun k hk=>(TabW.wr_own hW k hk).1
    have hbw2:Below w2.heap.size w2 w4:=hbw.trans (p3.below hsz (Nat.le_refl _) (fun k hk=>by have:=hba k hk;omega))
    have hz5:=p3.size
    go_wp2_with fail
    go_roundw
    case rel =>
     refine ⟨k + 1,ab2,by go_num,by omega,?_,by omega,hbw2⟩
     rw [HS.out,← List.append_assoc];exact p1
    case measure=>simp [intOf];omega
   ·have hfl:(symsB l r).length≤32 * r.length:=symsB_len l HK.out r HALL.out
    rw [List.take_of_length_le (by omega),← HHB.out] at hW
    have C:=text_any _ _ _ _ _ hW (by rw [HHB.out,List.length_append];omega)
    go_wp2_with fail
    refine C.mono ?_
    clear C
    rintro e w4 ⟨rfl,hb4⟩
    go_wp2_with fail
    go_ret2
    exact ⟨rfl,hbw0.trans (hb4.mono (by omega))⟩
end HufW
end Go.Proofs.YtnpncpoiiikafaaGreat
