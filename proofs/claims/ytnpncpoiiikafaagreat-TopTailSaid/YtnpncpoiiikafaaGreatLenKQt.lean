/- LenK -/
import Derived.Test.YtnpncpoiiikafaaGreatLenIQt
import Derived.Deep.OwnRows
import Derived.Test.YtnpncpoiiikafaaGreatLenBQt
import Derived.Test.YtnpncpoiiikafaaGreatZruPQt
set_option linter.unusedVariables false
set_option linter.unusedSimpArgs false
set_option linter.unnecessarySimpa false
set_option maxRecDepth 100000
set_option maxHeartbeats 32000000
namespace Go.Proofs.YtnpncpoiiikafaaGreat
open Go.RowKit
namespace LenW
theorem El_rows:El Tryz.prog 263 259 1 24:=El.mk' Tryz.underlying263 (z:=.slice none 0 0) (by kernel_rfl) rfl (by decide)
theorem best_yes (A:Option Addr) (n c:Nat) (l:List Int) (most:Int) (w:World) (h:Rd w w.heap.size 1 A n (ints l)) (hv:refuseW l most = 0) (hS:SortOk (usedL l)) :
 Calls Tryz.prog 154 #[.slice A n c,.int .i64 most] w fun e w'=>∃ g,w.heap.size≤g∧g < w'.heap.size∧e = .returned (.tuple #[.slice (some ⟨g,0,none⟩) n n,.int .i64 0])∧Blk w' g 3 (ints (bestW l most.toNat)).toArray∧Below w.heap.size w w':=by
 have hl:l.length = n:=rd_len h
 obtain ⟨hl257,hm1,hm15,hbad,hroom⟩:=refuseW_ok hv
 have hn:n≤257:=by omega
 have C:=refused_any A n c l most w h (by omega) 0 hv
 have HW2:=Lib.hid (lvs_what l)
 rw [hl] at HW2
 have HW1:=Lib.hid (lvs_weight l hbad)
 have HFL:=Lib.hid (lvs_len l)
 have HFEW:=Lib.hid (bestW_few l most.toNat)
 have HMANY:=Lib.hid (bestW_many l most.toNat)
 rw [hl] at HFEW HMANY
 have hu1:=usedL_le l
 have HRM:=Lib.hid hroom
 obtain ⟨mm,rfl⟩:∃ mm:Nat,most = ((mm + 1:Nat):Int):=⟨(most - 1).toNat,by omega⟩
 rw [Int.toNat_natCast] at HRM HFEW HMANY
 have hmm:mm≤14:=by omega
 clear hroom hv hbad
 go_enter Tryz.func154,Tryz.ntmps154
 go_wp2_with fail
 refine C.mono ?_
 rintro e w1 ⟨rfl,hb1⟩
 have h1:=(h.below hb1)
 have hz1:=hb1.size
 have hmk:(Instr.makeSlice 84 (.int .i64 n) (.int .i64 n)).run Tryz.prog w1 = .ok (.slice (some ⟨w1.heap.size,0,none⟩) n n) (w1.alloc (.cells (madeCells #[.int .i64 0] n) 3)) :=
  run_make_row' 84 3 (.int .i64 0) 8 Tryz.underlying84 (by kernel_rfl) rfl .i64 .i64 n (by omega) (by omega) w1
 rw [made_ints] at hmk
 have bg:=Blk.new w1 3 (ints (List.replicate n 0)).toArray
 have hbW:=hb1.alloc hz1 (.cells (ints (List.replicate n 0)).toArray 3)
 clear h C
 go_wp2_with fail
 clear hmk
 obtain ⟨W,hW⟩:∃ W,w1.alloc (.cells (ints (List.replicate n 0)).toArray 3) = W:=⟨_,rfl⟩
 have hWs:W.heap.size = w1.heap.size + 1:=by rw [← hW];simp
 have h2:Rd W W.heap.size 1 A n (ints l):=by rw [hWs];exact (((h1.below ((Below.refl _ _).alloc hz1 _)).more (by omega)):Rd (w1.alloc (.cells (ints (List.replicate n 0)).toArray 3)) _ 1 A n (ints l)) |> (hW ▸ ·)
 rw [hW] at bg hbW ⊢
 obtain ⟨g,hg⟩:∃ g,w1.heap.size = g:=⟨_,rfl⟩
 rw [hg] at bg hWs hz1 ⊢
 clear h1 hb1 hW hg
 refine (leaves_any A n c l W h2 (by omega) hS).mono ?_
 rintro e w2 ⟨A2,c2,rfl,o2,hb2⟩
 have bg2:=bg.below hb2 (by omega)
 have HB2:=hbW.trans (hb2.mono hbW.size)
 have hz2:=HB2.size
 have hz3:=hb2.size
 obtain ⟨F,hF⟩:∃ F,lvs l = F:=⟨_,rfl⟩
 obtain ⟨f,hf⟩:∃ f,usedL l = f:=⟨_,rfl⟩
 rw [hF] at o2 HW1 HW2 HFL HFEW HMANY
 rw [hf] at o2 HFL HFEW HMANY HRM hu1 ⊢
 clear hF hf h2 bg hbW hb2 hS
 have hfl:=HFL.out
 by_cases hfew:f < 2
 ·have hfI:(f:Int) < 2:=by omega
  have HE:=Lib.hid (HFEW.out hfew)
  go_wp2_with fail
  go_loopw [28] (fun s wr=>∃ j:Nat,s = .int .i64 j∧j≤f∧Blk wr g 3 (ints ((F.take j).foldl oneW (List.replicate n 0))).toArray∧w2.grownBy wr (some g)) (fun s _=>f - (intOf s).toNat)
  case atStart=>exact ⟨0,rfl,by omega,bg2,World.grownBy.refl _ _⟩
  case round =>
   clear bg2
   obtain ⟨j,rfl,hj,bg3,hgr⟩:=hrel
   have hgs:=hgr.size
   have HL3:=Lib.hid (show ((F.take j).foldl oneW (List.replicate n 0)).length = n by rw [ones_len];simp)
   by_cases hlt:j < f
   ·have hjF:j < F.length:=by omega
    have o3:Own wr W.heap.size 262 2 A2 f c2 (fcells F):=o2.grown hgr (by
     cases hA:blkOf A2 with
     | none=>exact .inl rfl
     | some k=>have:=(o2.blk k hA).1;exact .inr (by simp;omega))
    obtain ⟨b',o',rfl,hb',hc'⟩:=rd_fcells o3.rd (by omega)
    obtain ⟨e1,e2⟩:=hc' j hjF
    have HS:=Lib.hid (ones_snoc F j hjF (List.replicate n 0))
    have hwh:=HW2.out _ (List.getElem_mem hjF)
    obtain ⟨x,hx⟩:∃ x,F[j] = x:=⟨_,rfl⟩
    rw [hx] at e1 e2 HS hwh
    obtain ⟨x1,x2⟩:=x
    dsimp only at e1 e2 HS hwh
    obtain ⟨y,rfl⟩:=Int.eq_ofNat_of_zero_le hwh.1
    have hyn:(y:Int) < (n:Int):=hwh.2
    obtain ⟨L2,hL2⟩:∃ L2,(F.take j).foldl oneW (List.replicate n 0) = L2:=⟨_,rfl⟩
    rw [hL2] at bg3 HS HL3
    have hy2:y < L2.length:=by rw [HL3.out];omega
    have b3:=bg3.alloc (.cells #[.int .i64 x1,.int .i64 y] 262)
    obtain ⟨u,hu⟩:∃ u,(ints L2).toArray[y]? = some u:=⟨_,by simp [ints,List.getElem?_eq_getElem hy2];rfl⟩
    have e5:=b3.cell_ y hu
    have f5:=b3.frozen y
    have hg3:=grown_below hgr ((Below.refl wr.heap.size wr).alloc (Nat.le_refl _) (.cells #[.int .i64 x1,.int .i64 y] 262))
    have B3:=Lib.hid b3
    have HFF:=Lib.hid (show L2.set y 1 = (F.take (j + 1)).foldl oneW (List.replicate n 0) by rw [HS.out];unfold oneW;rw [Int.toNat_natCast])
    have hjI:(j:Int) < (f:Int):=by omega
    clear hc' hx hwh hL2 hu hy2 b3 o3 bg3
    go_wp2_with fail
    go_roundw
    case rel=>exact ⟨j + 1,by go_num,by omega,blk_eq (B3.out.set y _) (by rw [ints_set,HFF.out]),grown_set hg3 _⟩
    case measure=>simp [intOf];omega
   ·have hjI:¬ (j:Int) < (f:Int):=by omega
    have e1:(F.take j).foldl oneW (List.replicate n 0) = bestW l (mm + 1):=by rw [HE.out,List.take_of_length_le (by omega)]
    rw [e1] at bg3
    have HB3:=Below.grown HB2 hgr hz2 (fun k hk=>by simp at hk;omega)
    go_wp2_with fail
    go_ret2
    exact ⟨g,hz1,by omega,rfl,bg3,HB3⟩
 ·have hfI:¬ (f:Int) < 2:=by omega
  have HE:=Lib.hid (HMANY.out hfew)
  go_wp2_with fail
  have hba:=o2.blk
  have o5i:Own (w2.alloc (.cells #[.slice A2 f c2] 259)) W.heap.size 259 1 (some ⟨w2.heap.size,0,none⟩) 1 1 [.slice A2 f c2]:=own_new (W0:=w2) (t:=259) (base:=W.heap.size) (n:=1) (size:=1) (cs:=[.slice A2 f c2]) rfl rfl hz3 (by unfold maxLen;omega)
  have o2i:=o2.alloc (.cells #[.slice A2 f c2] 259)
  have hdi:∀ k,blkOf A2 = some k → blkOf (some (⟨w2.heap.size,0,none⟩:Addr)) ≠ some k:=by
   intro k hk e
   simp only [blkOf,Option.map_some,Option.some.injEq] at e hk
   have:=(hba k hk).2
   omega
  have hpi:Parts fcells 262 2 (w2.alloc (.cells #[.slice A2 f c2] 259)) W.heap.size (blkOf (some (⟨w2.heap.size,0,none⟩:Addr))) none [.slice A2 f c2] ((List.range 1).map (rowW F)):=by
   have:=(Parts.nil (f:=fcells) (e:=262) (size:=2) (w2.alloc (.cells #[.slice A2 f c2] 259)) W.heap.size (blkOf (some (⟨w2.heap.size,0,none⟩:Addr))) none).snoc o2i (x:=F) (fun k hk=>⟨hdi k hk,by simp⟩)
   simpa [rowW] using this
  have HBi:=HB2.alloc hz2 (.cells #[.slice A2 f c2] 259)
  have bgi:=bg2.alloc (.cells #[.slice A2 f c2] 259)
  have hzi:W.heap.size≤(w2.alloc (.cells #[.slice A2 f c2] 259)).heap.size:=by rw [World.size_alloc];omega
  go_loopw [11,42] (fun s11 s42 wr=>∃ (k c5:Nat) (A5:Option Addr) (vs:List Value),s42 = .int .i64 k∧s11 = .slice A5 (k + 1) c5∧k≤mm∧Own wr W.heap.size 259 1 A5 (k + 1) c5 vs∧Parts fcells 262 2 wr W.heap.size (blkOf A5) none vs ((List.range (k + 1)).map (rowW F))∧Own wr W.heap.size 262 2 A2 f c2 (fcells F)∧(∀ k,blkOf A2 = some k → blkOf A5 ≠ some k)∧Blk wr g 3 (ints (List.replicate n 0)).toArray∧Below w.heap.size w wr∧W.heap.size≤wr.heap.size) (fun _ s42 _=>mm - (intOf s42).toNat)
  case atStart=>exact ⟨0,1,_,_,rfl,rfl,by omega,o5i,hpi,o2i,hdi,bgi,HBi,hzi⟩
  case round =>
   clear o5i o2i hdi hpi HBi bgi hzi o2 bg2 HB2 hz2 hba
   obtain ⟨k,c5,A5,vs,rfl,rfl,hk,o5,hp,o2,hd,bg,HB,hz⟩:=hrel
   have hzw:=HB.size
   by_cases hlt:k < mm
   ·have hkI:(k:Int) < (mm:Int):=by omega
    obtain ⟨g5,rfl⟩:∃ g5,A5 = some ⟨g5,0,none⟩:=by
     rcases o5.shape with ⟨_,h0,_⟩ | ⟨g5,e,_⟩
     ·omega
     ·exact ⟨g5,e⟩
    have hi2:k < ((List.range (k + 1)).map (rowW F)).length:=by simp
    have hi1:k < vs.length:=by rw [hp.1];exact hi2
    obtain ⟨A',n',c',hv,ho',_⟩:=hp.2 k hi1 hi2
    simp only [List.getElem_map,List.getElem_range] at ho'
    have d0:=own_cell o5 k (by rw [List.getElem?_eq_getElem hi1,hv])
    have hcap':=ho'.cap
    have hn':n'≤600:=by
     have h1:=rowW_le F k
     have h2:(rowW F k).length = n':=rd_flen ho'.rd
     omega
    have CP:=packages_any A' n' c' (rowW F k) (1000000 * 2 ^ k) wr ho'.rd (by omega) (rowW_weight F HW1.out k) (pow_small (by omega))
    have hk1:(k:Int) < (k:Int) + 1:=by omega
    have hk2:IntKind.i64.wrap ((k:Int) + 1 - 1) = (k:Int):=(w64k (by omega) (by omega)).trans (by omega)
    have hk3:IntKind.i64.wrap ((k:Int) + 1) = (k:Int) + 1:=w64k (by omega) (by omega)
    have hk0:(0:Int)≤(k:Int):=by omega
    clear hv hi1 hi2 ho'
    go_wp2_with fail
    refine CP.mono ?_
    rintro e w6 ⟨A6,c6,rfl,o6,hb6⟩
    clear CP d0
    have z6:=hb6.size
    have o56:=o5.below hb6
    have hp6:=hp.below hb6
    have o26:=o2.below hb6
    have bg6:=bg.below hb6 (by omega)
    have HB6:=HB.trans (hb6.mono hzw)
    have CM:=merged_any A2 A6 f c2 (n' / 2) c6 F (pkgs 0 (rowW F k)) w6 o26.rd o6.rd (by omega) (by omega) o26.cap o6.cap
    have hbb5:=o5.blk g5 rfl
    clear o5 hp o2 bg HB hb6 o6
    go_wp2_with fail
    refine CM.mono ?_
    rintro e w7 ⟨A7,c7,rfl,o7,hb7⟩
    clear CM
    have z7:=hb7.size
    have o57:=o56.below hb7
    have hp7:=hp6.below hb7
    have o27:=o26.below hb7
    have bg7:=bg6.below hb7 (by omega)
    have HB7:=HB6.trans (hb7.mono (by omega))
    have o7':=o7.base_le (base':=W.heap.size) (by omega)
    have hd7:∀ k,blkOf A7 = some k → blkOf (some (⟨g5,0,none⟩:Addr)) ≠ some k:=by
     intro k hk e
     simp only [blkOf,Option.map_some,Option.some.injEq] at e hk
     have:=(o7.blk k hk).1
     omega
    have hz7:W.heap.size≤w7.heap.size:=by omega
    clear o56 hp6 o26 bg6 HB6 hb7 o7
    go_wp2_with (at_builtin;with_reducible refine wp_append El_rows rfl (s:=.tmp 44) (x:=.tmp 54) rfl rfl (o57.alloc _) rfl (rd_new (cs:=[.slice A7 (f + n' / 2) c7]) (m:=1) rfl rfl) (by simp [Value.oneCell']) (by unfold maxLen;omega) (by omega) (by simp;omega) ?_;intro A8 c8 w8 o8 hg8 hat8)
    have hg78:=grown_alloc hg8
    have hp8:=hp7.push (x:=rowW F (k + 1)) o7' hd7 hg78 (hat8.imp id fun h=>⟨_,h,by simp⟩)
    rw [show (List.range (k + 1)).map (rowW F) ++ [rowW F (k + 1)] = (List.range (k + 1 + 1)).map (rowW F) by rw [List.range_succ (n:=k + 1),List.map_append];rfl] at hp8
    have o28:Own w8 W.heap.size 262 2 A2 f c2 (fcells F):=o27.other hg78 (fun k hk=>hd k hk)
    have hd8:∀ k,blkOf A2 = some k → blkOf A8 ≠ some k:=by
     intro k hk e
     rw [e] at hat8
     rcases hat8 with h | h
     ·exact hd k hk h.symm
     ·have:=(o27.blk k hk).2
      rw [World.size_alloc] at h
      simp only [Option.some.injEq] at h
      omega
    have bg8:=bg7.grown hg78 (by simp [blkOf];omega)
    have HB8:=below_grown HB7 hg78 o57 (by omega)
    have z8:=hg78.size
    go_roundw
    case rel=>exact ⟨k + 1,c8,A8,vs ++ [.slice A7 (f + n' / 2) c7],by go_num,rfl,by omega,o8,hp8,o28,hd8,bg8,HB8,by omega⟩
    case measure=>simp [intOf];omega
   ·have hkI:¬ (k:Int) < (mm:Int):=by omega
    obtain rfl:k = mm:=by omega
    have HRO:=rowsOk_of o5 hp (show g < W.heap.size by omega)
    have hrr:=rowW_room F (k + 1) (by rw [hfl];exact HRM.out) k (by omega)
    rw [hfl,show k + 1 - k = 1 by omega] at hrr
    obtain ⟨q,hq⟩:∃ q,2 * f - 2 = q:=⟨_,rfl⟩
    have hq1:q + 2 = 2 * f:=by omega
    rw [hq] at HE
    have CT:=taken_any A5 (k + 1) c5 F q g n n (List.replicate n 0) wr HRO bg (by simp) (by omega) HW2.out (by omega) (fun i e=>by obtain rfl:i = k:=(by omega);omega) (fun v hv=>(List.mem_replicate.1 hv).2)
    have hw1:IntKind.i64.wrap (2 * (f:Int)) = 2 * (f:Int):=w64k (by omega) (by omega)
    have hw2:IntKind.i64.wrap (2 * (f:Int) - 2) = (q:Int):=(w64k (by omega) (by omega)).trans (by omega)
    have HQ:=Lib.hid hq1
    clear hq hq1 hrr HRO HMANY HFEW HRM
    go_wp2_with fail
    refine CT.mono ?_
    rintro e w9 ⟨rfl,b9,hg9⟩
    have HB9:=Below.grown HB hg9 hzw (fun k hk=>by simp at hk;omega)
    have z9:=hg9.size
    rw [← HE.out] at b9
    go_wp2_with fail
    go_ret2
    exact ⟨g,hz1,by omega,rfl,b9,HB9⟩
end LenW
end Go.Proofs.YtnpncpoiiikafaaGreat
namespace Go.Proofs.YtnpncpoiiikafaaGreat
open Go.RowKit
namespace LenW
end LenW
end Go.Proofs.YtnpncpoiiikafaaGreat
namespace Go.Proofs.YtnpncpoiiikafaaGreat
open Go.RowKit
namespace LenW
end LenW
end Go.Proofs.YtnpncpoiiikafaaGreat
namespace Go.Proofs.YtnpncpoiiikafaaGreat
open Go.RowKit
namespace LenW
def Vs (l:List Int) (s:Nat):Prop:=∃ h:s < l.length,0 < l[s]
def wd (l:List Int) (s:Nat):Nat:=(l[s]?.getD 0).toNat
def rk (l:List Int) (s:Nat):Nat:=cntL (l.take s) (wd l s)
def nm (l:List Int) (s:Nat):Nat:=fstL l (wd l s) + rk l s
theorem wd_at {l:List Int} {s:Nat} (h:s < l.length):wd l s = l[s].toNat:=by simp [wd,h]
theorem Vs_int {l:List Int} {s:Nat} (h:Vs l s):∃ h:s < l.length,0 < l[s]∧l[s] = (wd l s:Int):=by
 obtain ⟨h1,h2⟩:=h
 exact ⟨h1,h2,by rw [wd_at h1];omega⟩
theorem wd_pos {l:List Int} {s:Nat} (h:Vs l s):0 < wd l s:=by
 obtain ⟨h1,h2,h3⟩:=Vs_int h
 omega
theorem wd_le {l:List Int} (hk:chkL l = 0) {s:Nat} (h:Vs l s):wd l s≤15:=by
 obtain ⟨_,hok,_⟩:=chk0 hk
 obtain ⟨h1,h2,h3⟩:=Vs_int h
 have:=okL_at l s h1 hok
 omega
theorem wordF_V {l:List Int} {s:Nat} (h:Vs l s):wordF l s = ((nm l s:Int),(wd l s:Int)):=by
 obtain ⟨h1,h2,h3⟩:=Vs_int h
 rw [word_at l s h1 h2,← wd_at h1,h3]
 rfl
theorem wordF_N {l:List Int} {s:Nat} (h:¬ Vs l s):wordF l s = (0,0):=by
 by_cases h1:s < l.length
 ·exact word_no l s h1 (fun h2=>h ⟨h1,h2⟩)
 ·unfold wordF
  rw [List.getElem?_eq_none (by omega)]
theorem cntL_mono (l:List Int) (a b n:Nat) (h:a≤b):cntL (l.take a) n≤cntL (l.take b) n:=by
 have:=cntL_take (l.take b) a n
 rwa [List.take_take,Nat.min_eq_left h] at this
theorem rk_snoc {l:List Int} {s:Nat} (h:Vs l s):cntL (l.take (s + 1)) (wd l s) = rk l s + 1:=by
 obtain ⟨h1,h2,h3⟩:=Vs_int h
 rw [cntL_snoc l s _ h1,if_pos ⟨h2,h3⟩]
 rfl
theorem rk_lt {l:List Int} {s:Nat} (h:Vs l s):rk l s < cntL l (wd l s):=by
 have h1:=rk_snoc h
 have h2:=cntL_take l (s + 1) (wd l s)
 omega
theorem rk_mono {l:List Int} {s t:Nat} (hs:Vs l s) (hst:s < t) (hw:wd l s = wd l t):rk l s < rk l t:=by
 have h1:=rk_snoc hs
 have h2:=cntL_mono l (s + 1) t (wd l s) hst
 unfold rk at *
 rw [hw] at *
 omega
theorem rk_inj {l:List Int} {s t:Nat} (hs:Vs l s) (ht:Vs l t) (hw:wd l s = wd l t) (hr:rk l s = rk l t):s = t:=by
 rcases Nat.lt_trichotomy s t with h | h | h
 ·have:=rk_mono hs h hw;omega
 ·exact h
 ·have:=rk_mono ht h hw.symm;omega
theorem nm_lt {l:List Int} (hk:chkL l = 0) {s:Nat} (h:Vs l s):nm l s < 2 ^ wd l s:=by
 obtain ⟨_,_,hsum⟩:=chk0 hk
 have h1:=room l (wd l s) (wd_le hk h) hsum
 have h2:=rk_lt h
 unfold nm
 omega
theorem fst_add (l:List Int) (a d:Nat):(fstL l a + cntL l a) * 2 ^ (d + 1)≤fstL l (a + (d + 1)):=by
 induction d with
 | zero=>show _≤2 * (fstL l a + cntL l a);omega
 | succ d ih =>
  have:fstL l (a + (d + 1 + 1)) = 2 * (fstL l (a + (d + 1)) + cntL l (a + (d + 1))):=rfl
  rw [this,Nat.pow_succ,← Nat.mul_assoc]
  omega
theorem word_apart {l:List Int} {s t:Nat} (hs:Vs l s) (ht:Vs l t) (hw:wd l s < wd l t):nm l s < nm l t / 2 ^ (wd l t - wd l s):=by
 obtain ⟨d,hd⟩:∃ d,wd l t = wd l s + (d + 1):=⟨wd l t - wd l s - 1,by omega⟩
 have h1:=fst_add l (wd l s) d
 have h2:=rk_lt hs
 rw [← hd] at h1
 rw [show wd l t - wd l s = d + 1 by omega,Nat.lt_div_iff_mul_lt (Nat.pow_pos (by omega))]
 have h3:(nm l s + 1) * 2 ^ (d + 1)≤(fstL l (wd l s) + cntL l (wd l s)) * 2 ^ (d + 1):=Nat.mul_le_mul_right _ (by unfold nm;omega)
 have h4:0 < 2 ^ (d + 1):=Nat.pow_pos (by omega)
 have h5:fstL l (wd l t)≤nm l t:=Nat.le_add_right _ _
 rw [Nat.add_mul,Nat.one_mul] at h3
 omega
theorem same_word {l:List Int} {s t:Nat} (hs:Vs l s) (ht:Vs l t) (hw:wd l s = wd l t) (hn:nm l s = nm l t):s = t:=by
 unfold nm at hn
 exact rk_inj hs ht hw (by rw [hw] at hn;omega)
theorem word_free {l:List Int} {s t:Nat} (hs:Vs l s) (ht:Vs l t) (hw:wd l s≤wd l t) (hn:nm l t / 2 ^ (wd l t - wd l s) = nm l s):s = t:=by
 rcases Nat.lt_or_ge (wd l s) (wd l t) with h | h
 ·have:=word_apart hs ht h;omega
 ·have he:wd l s = wd l t:=by omega
  rw [he,Nat.sub_self,Nat.pow_zero,Nat.div_one] at hn
  exact same_word hs ht he hn.symm
theorem rank_ex (l:List Int) (w i:Nat) (h0:0 < w) (k:Nat) (hk:k≤l.length) (h:i < cntL (l.take k) w):∃ s,s < k∧Vs l s∧wd l s = w∧rk l s = i:=by
 induction k with
 | zero=>simp [cntL] at h
 | succ k ih =>
  rw [cntL_snoc l k w (by omega)] at h
  by_cases hi:i < cntL (l.take k) w
  ·obtain ⟨s,h1,h2⟩:=ih (by omega) hi
   exact ⟨s,by omega,h2⟩
  ·by_cases hc:0 < l[k]∧l[k] = (w:Int)
   ·rw [if_pos hc] at h
    have hw:wd l k = w:=by rw [wd_at (by omega)];omega
    exact ⟨k,by omega,⟨by omega,hc.1⟩,hw,by unfold rk;rw [hw];omega⟩
   ·rw [if_neg hc] at h
    omega
theorem word_ex (l:List Int) (w n:Nat) (h0:0 < w) (h1:fstL l w≤n) (h2:n < fstL l w + cntL l w):∃ s,Vs l s∧wd l s = w∧nm l s = n:=by
 obtain ⟨s,_,h3,h4,h5⟩:=rank_ex l w (n - fstL l w) h0 l.length (Nat.le_refl _) (by rw [List.take_length];omega)
 exact ⟨s,h3,h4,by unfold nm;rw [h4,h5];omega⟩
theorem place_ne {l:List Int} {s t:Nat} (hs:Vs l s) (ht:Vs l t) (hne:s ≠ t):plcL l (wd l s) + rk l s ≠ plcL l (wd l t) + rk l t:=by
 have key:∀ s t,Vs l s → Vs l t → wd l s < wd l t → plcL l (wd l s) + rk l s < plcL l (wd l t) + rk l t:=by
  intro s t hs ht h
  have h1:=rk_lt hs
  have h2:=plcL_succ l (wd l s)
  have h3:∀ a b,a≤b → plcL l a≤plcL l b:=by
   intro a b hab
   obtain ⟨d,rfl⟩:∃ d,b = a + d:=⟨b - a,by omega⟩
   induction d with
   | zero=>exact Nat.le_refl _
   | succ d ih=>rw [← Nat.add_assoc,plcL_succ];have:=ih (by omega);omega
  have:=h3 (wd l s + 1) (wd l t) h
  omega
 rcases Nat.lt_trichotomy (wd l s) (wd l t) with h | h | h
 ·have:=key s t hs ht h;omega
 ·intro e
  rw [h] at e
  exact hne (rk_inj hs ht h (by omega))
 ·have:=key t s ht hs h;omega
theorem sort_get (l:List Int) (k:Nat) (hk:k≤l.length) (s:Nat) (hs:Vs l s) (hsk:s < k):(sortK l k)[plcL l (wd l s) + rk l s]? = some (s:Int):=by
 induction k with
 | zero=>omega
 | succ k ih =>
  have hkl:k < l.length:=by omega
  have hpl:∀ t,Vs l t → plcL l (wd l t) + rk l t < usedL l:=by
   intro t ht
   obtain ⟨h1,h2⟩:=ht
   have:=place_lt l t h1 h2
   rw [← wd_at h1] at this
   exact this
  by_cases hp:0 < l[k]
  ·rw [sortK_at l k hkl hp,← wd_at hkl]
   have hVk:Vs l k:=⟨hkl,hp⟩
   by_cases he:s = k
   ·subst he
    rw [show cntL (l.take s) (wd l s) = rk l s from rfl,List.getElem?_set_self (by rw [sortK_len];exact hpl s hs)]
   ·rw [show cntL (l.take k) (wd l k) = rk l k from rfl,List.getElem?_set_ne (fun e=>place_ne hs hVk he e.symm)]
    exact ih (by omega) (by omega)
  ·rw [sortK_skip l k hkl hp]
   have:s ≠ k:=fun e=>by subst e;exact hp hs.2
   exact ih (by omega) (by omega)
theorem sortF_get {l:List Int} {s:Nat} (hs:Vs l s):(sortF l)[plcL l (wd l s) + rk l s]? = some (s:Int):=sort_get l l.length (Nat.le_refl _) s hs hs.1
theorem pre_word {w N:Nat} (L:List Nat) (h2:∀ d ∈ L,d < 2) (hN:N < 2 ^ w):dg w N <+: L ↔ w≤L.length∧num (L.take w) = N:=by
 constructor
 ·rintro ⟨r,rfl⟩
  rw [List.length_append,dg_len,List.take_left' (dg_len w N),num_dg,Nat.mod_eq_of_lt hN]
  exact ⟨by omega,rfl⟩
 ·rintro ⟨hw,rfl⟩
  have hl:(L.take w).length = w:=by rw [List.length_take];omega
  have:=dg_num (L.take w) (fun d hd=>h2 d (List.mem_of_mem_take hd))
  rw [hl] at this
  rw [this]
  exact List.take_prefix w L
theorem word_pre {w N:Nat} (L:List Nat) (h2:∀ d ∈ L,d < 2) (hN:N < 2 ^ w):L <+: dg w N ↔ L.length≤w∧num L = N / 2 ^ (w - L.length):=by
 constructor
 ·intro h
  have hl:L.length≤w:=by have:=h.length_le;rwa [dg_len] at this
  refine ⟨hl,?_⟩
  have e:dg w N = dg L.length (N / 2 ^ (w - L.length)) ++ dg (w - L.length) N:=by rw [← dg_app,show L.length + (w - L.length) = w by omega]
  rw [e] at h
  have h3:=List.prefix_of_prefix_length_le h (List.prefix_append _ _) (by rw [dg_len];exact Nat.le_refl _)
  have h4:L = dg L.length (N / 2 ^ (w - L.length)):=h3.eq_of_length (by rw [dg_len])
  have h5:=num_dg L.length (N / 2 ^ (w - L.length))
  rw [← h4,Nat.mod_eq_of_lt] at h5
  ·exact h5
  ·rw [Nat.div_lt_iff_lt_mul (Nat.pow_pos (by omega)),← Nat.pow_add,show L.length + (w - L.length) = w by omega]
   exact hN
 ·rintro ⟨hl,hn⟩
  have e:dg w N = dg L.length (N / 2 ^ (w - L.length)) ++ dg (w - L.length) N:=by rw [← dg_app,show L.length + (w - L.length) = w by omega]
  rw [e,← hn,dg_num L h2]
  exact List.prefix_append _ _
def wb (l:List Int) (s:Nat):List Nat:=dg (wd l s) (nm l s)
theorem wb_free {l:List Int} (hk:chkL l = 0) {s t:Nat} (hs:Vs l s) (ht:Vs l t) (L:List Nat) (h1:wb l s <+: L) (h2:wb l t <+: L):s = t:=by
 have key:∀ s t,Vs l s → Vs l t → wb l s <+: L → wb l t <+: L → wd l s≤wd l t → s = t:=by
  intro s t hs ht h1 h2 hw
  have h3:=List.prefix_of_prefix_length_le h1 h2 (by unfold wb;rw [dg_len,dg_len];exact hw)
  have h4:=(word_pre (wb l s) (dg_lt _ _) (nm_lt hk ht)).1 h3
  unfold wb at h4
  rw [dg_len,num_dg,Nat.mod_eq_of_lt (nm_lt hk hs)] at h4
  exact word_free hs ht hw h4.2.symm
 rcases Nat.le_total (wd l s) (wd l t) with h | h
 ·exact key s t hs ht h1 h2 h
 ·exact (key t s ht hs h2 h1 h).symm
end LenW
end Go.Proofs.YtnpncpoiiikafaaGreat
