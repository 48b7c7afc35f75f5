/- HedF -/
import Derived.Test.YtnpncpoiiikafaaGreatHedCQd
import Derived.Test.YtnpncpoiiikafaaGreatNumPQd
set_option linter.unusedVariables false
set_option linter.unusedSimpArgs false
set_option linter.unnecessarySimpa false
set_option maxRecDepth 100000
set_option maxHeartbeats 32000000
namespace Go.Proofs.YtnpncpoiiikafaaGreat
open Go.RowKit
namespace HedW
open SkpW (Me mc blk7f)
open SufW (w64s)
open FrontW (El_int)
theorem foot_in {l:List Me} (h:blocksV l = 0):∀ x ∈ ((l.length:Int) :: l.flatMap numM),0≤x∧x≤9223372036854775807:=by
 obtain ⟨h1,_,h3⟩:=blocksV_ok h
 intro x hx
 rcases List.mem_cons.1 hx with rfl | hx
 ·omega
 ·obtain ⟨m,hm,hx⟩:=List.mem_flatMap.1 hx
  exact numM_in (h3 m hm) x hx
theorem ints_app (a b:List Int):ints a ++ ints b = ints (a ++ b):=by simp [ints]
theorem PutFoot_any (A:Option Addr) (n c:Nat) (l:List Me) (w:World) (h:Rd w w.heap.size 7 A n (mcells l)) (hv:blocksV l = 0) :
 Calls Tryz.prog 18 #[.slice A n c] w fun e w'=>e = .returned (.tuple #[str (lput ((l.length:Int) :: l.flatMap numM)),.int .i64 0])∧Below w.heap.size w w':=by
 have hl:=rd_mlen h
 obtain ⟨h1,_,h3⟩:=blocksV_ok hv
 have hn:n≤1000:=by omega
 have C:=Blocks_any A n c l w h (by omega) 0 hv
 have HIN:=Lib.hid (foot_in hv)
 have HAL:=Lib.hid h3
 have HL:=Lib.hid hl
 clear hv h3 h1 hl
 go_enter Tryz.func18,Tryz.ntmps18
 go_wp2_with fail
 refine C.mono ?_
 clear C
 rintro e w1 ⟨rfl,hb1⟩
 have hws:=hb1.size
 have o0:Own (w1.alloc (.cells (ints [(n:Int)]).toArray 3)) w1.heap.size 3 1 (some ⟨w1.heap.size,0,none⟩) 1 1 (ints [(n:Int)]):=own_new rfl rfl (Nat.le_refl _) (by unfold maxLen;omega)
 have HB0:=hb1.alloc hb1.size (.cells (ints [(n:Int)]).toArray 3)
 go_wp2_with fail
 obtain ⟨w2,hw2⟩:∃ w2,w1.alloc (.cells (ints [(n:Int)]).toArray 3) = w2:=⟨_,rfl⟩
 have hw2':w1.alloc (.cells #[.int .i64 (n:Int)] 3) = w2:=hw2
 rw [hw2] at o0 HB0
 rw [hw2']
 have hz2:w1.heap.size≤w2.heap.size:=by rw [← hw2];simp
 clear hw2 hw2'
 go_loopw [5,18] (fun v5 iv wr=>∃ (k N:Nat) (X:Option Addr) (c':Nat),iv = .int .i64 k∧v5 = .slice X N c'∧k≤n∧Hid (N = 1 + 7 * k)∧N≤7001∧Own wr w1.heap.size 3 1 X N c' (ints ((n:Int) :: (l.take k).flatMap numM))∧Below w.heap.size w wr∧w1.heap.size≤wr.heap.size) (fun _ iv _=>n - (intOf iv).toNat)
 case atStart=>exact ⟨0,1,_,_,rfl,rfl,by omega,Lib.hid rfl,by omega,by simpa using o0,HB0,hz2⟩
 case round =>
  clear o0 HB0
  obtain ⟨k,N,X,c',rfl,rfl,hk,HN,hN,own,HB,hzr⟩:=hrel
  by_cases hlt:k < n
  ·have hkl:k < l.length:=by rw [HL.out];exact hlt
   obtain ⟨b,o,rfl,hb,hcc⟩:=rd_mets (h.below HB) (by omega)
   obtain ⟨e0,e1,e2,e3,e4,e5,e6⟩:=hcc k hkl
   have hal:=HAL.out l[k] (List.getElem_mem hkl)
   have HS:Hid ((l.take (k + 1)).flatMap numM = (l.take k).flatMap numM ++ numM l[k]):=Lib.hid (by rw [List.take_succ_eq_append_getElem hkl,List.flatMap_append];simp)
   have hkI:(k:Int) < (n:Int):=by omega
   have hk0:(0:Int)≤(k:Int):=by omega
   have hk1:IntKind.i64.wrap ((k:Int) + 1) = (k:Int) + 1:=w64s (by omega) (by omega)
   obtain ⟨m,hm⟩:∃ m,l[k] = m:=⟨_,rfl⟩
   rw [hm] at e0 e1 e2 e3 e4 e5 e6 HS hal
   rw [aloneB_iff] at hal
   obtain ⟨m0,m1,m2,m3,m4,m5,m6⟩:=m
   dsimp only at e0 e1 e2 e3 e4 e5 e6 hal
   have hwl:IntKind.i64.wrap (m6 - m5) = m6 - m5:=w64s (by omega) (by omega)
   have hbl:=fun b e=>(own.blk b e).1
   have oA:=(own.alloc (.cells #[.int .i64 m0,.int .i64 m1,.int .i64 m2,.int .i64 m3,.int .i64 m4,.int .i64 m5,.int .i64 m6] 33)).alloc (.cells #[.int .i64 m0,.int .i64 m1,.int .i64 m2,.int .i64 m3,.int .i64 m4,.int .i64 m5,.int .i64 (m6 - m5)] 3)
   have HBA:=(HB.alloc HB.size (.cells #[.int .i64 m0,.int .i64 m1,.int .i64 m2,.int .i64 m3,.int .i64 m4,.int .i64 m5,.int .i64 m6] 33)).alloc (by have:=HB.size;simp;omega) (.cells #[.int .i64 m0,.int .i64 m1,.int .i64 m2,.int .i64 m3,.int .i64 m4,.int .i64 m5,.int .i64 (m6 - m5)] 3)
   have hrn:Rd ((wr.alloc (.cells #[.int .i64 m0,.int .i64 m1,.int .i64 m2,.int .i64 m3,.int .i64 m4,.int .i64 m5,.int .i64 m6] 33)).alloc (.cells #[.int .i64 m0,.int .i64 m1,.int .i64 m2,.int .i64 m3,.int .i64 m4,.int .i64 m5,.int .i64 (m6 - m5)] 3)) (wr.heap.size + 1 + 1) 1 (some ⟨wr.heap.size + 1,0,none⟩) 7 (ints [m0,m1,m2,m3,m4,m5,m6 - m5]):=by
    have:=rd_new (W0:=wr.alloc (.cells #[.int .i64 m0,.int .i64 m1,.int .i64 m2,.int .i64 m3,.int .i64 m4,.int .i64 m5,.int .i64 m6] 33)) (t:=3) (g:=wr.heap.size + 1) (m:=7) (size:=1) (cs:=ints [m0,m1,m2,m3,m4,m5,m6 - m5]) (by simp) rfl
    exact this
   clear hcc hm hal
   go_wp2_with (at_builtin;go_loud (with_reducible refine wp_append El_int rfl (s:=.tmp 22) (x:=.tmp 40) rfl rfl oA rfl hrn (ints_one _) (by unfold maxLen;omega) (by omega) (by simp;omega) ?_;intro A5 c5 w5 o5 hg5 hat5;clear hrn))
   have HB5:=below_row HBA hg5 hbl hws
   have hz5:=hg5.size
   simp only [World.size_alloc] at hz5
   go_roundw
   case rel=>exact ⟨k + 1,N + 7,A5,c5,by go_num,rfl,by omega,Lib.hid (by have:=HN.out;omega),by have:=HN.out;omega,by rw [HS.out];rw [ints_app] at o5;exact o5,HB5,by omega⟩
   case measure=>simp [intOf];omega
  ·have hkI:¬ (k:Int) < (n:Int):=by omega
   have hkn:k = n:=by omega
   have HT:=Lib.hid (show l.take k = l from List.take_of_length_le (by rw [HL.out];omega))
   rw [HT.out] at own
   have hin:=HIN.out
   rw [HL.out] at hin
   have C:=numbers_any X N c' _ wr own.rd (by omega) hin (by have:=HN.out;omega)
   have HC:=Lib.hid C
   clear hkn hin C
   go_wp2_with fail
   refine HC.out.mono ?_
   rintro e w6 ⟨rfl,hb6⟩
   go_wp2_with fail
   go_ret2
   exact ⟨by rw [HL.out];rfl,HB.trans (hb6.mono HB.size)⟩
end HedW
end Go.Proofs.YtnpncpoiiikafaaGreat
