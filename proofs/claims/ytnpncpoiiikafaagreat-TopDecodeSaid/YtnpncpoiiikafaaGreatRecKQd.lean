/- RecK -/
import Derived.Test.YtnpncpoiiikafaaGreatBldQd
import Derived.Test.YtnpncpoiiikafaaGreatRecSQd
import Derived.Test.YtnpncpoiiikafaaGreatAppQd
import Derived.Test.YtnpncpoiiikafaaGreatZrWQd
import Derived.StillTailTactics
import Derived.Deep.DeepCutAuto
import Derived.Deep.CutRange
import Derived.Test.YtnpncpoiiikafaaGreatMemQd
set_option linter.unusedVariables false
set_option linter.unusedSimpArgs false
set_option linter.unnecessarySimpa false
set_option maxRecDepth 100000
set_option maxHeartbeats 32000000
namespace Go.Proofs.YtnpncpoiiikafaaGreat
open Go.RowKit
namespace RecW
theorem El_rec':El Tryz.prog 29 98 3 32:=El.mk' Tryz.underlying29 (z:=.agg #[.int .i64 0,.int .i64 0,.string ⟨#[]⟩]) (by kernel_rfl) rfl (by decide)
theorem split_any (s:List UInt8) (w:World) (hs:s.length≤1000000) (x:List Rc × Int) (hx:splitV s = x) :
 Calls Tryz.prog 46 #[str s] w fun e w'=>∃ A n c,e = .returned (.tuple #[.slice A n c,.int .i64 x.2])∧n≤c∧Rd w' w'.heap.size 3 A n (rcells x.1)∧Below w.heap.size w w':=by
 by_cases hbig:20000 < s.length
 ·have hx2:x = ([],3):=by rw [← hx];unfold splitV;rw [if_pos hbig]
  subst hx2
  have hI:(20000:Int) < (s.length:Int):=by omega
  clear hx
  go_enter Tryz.func46,Tryz.ntmps46
  go_wp2_with fail
  go_ret2
  exact ⟨none,0,0,rfl,Nat.le_refl _,Rd.nil _ _ _ _,Below.refl _ _⟩
 ·have hI:¬ (20000:Int) < (s.length:Int):=by omega
  have hx2:x = splitR ([] ++ (splitF s (s.length + 1) (0:Nat)).1,(splitF s (s.length + 1) (0:Nat)).2):=by rw [← hx];unfold splitV;rw [if_neg hbig];rfl
  have HX:=Lib.hid hx2
  clear hx hx2 hbig
  go_enter Tryz.func46,Tryz.ntmps46
  go_wp2_with fail
  go_loopw [4,5] (fun out at_ wr=>∃ (j q f:Nat) (acc:List Rc) (A2:Option Addr) (c2:Nat),at_ = .int .i64 q∧out = .slice A2 j c2∧j≤q∧q≤s.length∧s.length < q + f∧x = splitR (acc ++ (splitF s f q).1,(splitF s f q).2) ∧
   Own wr w.heap.size 98 3 A2 j c2 (rcells acc)∧Below w.heap.size w wr) (fun _ i _=>s.length - (intOf i).toNat)
  case atStart=>exact ⟨0,0,s.length + 1,[],none,0,rfl,rfl,by omega,by omega,by omega,HX.out,Own.nil _ _ _ _,(by first | exact Below.refl _ _ | (repeat (first | exact Below.refl _ _ | assumption | refine Below.drew ?_ | refine Below.drewN_ ?_ _ | refine Below.alloc ?_ (by first | exact Nat.le_refl _ | (simp;done) | (simp;omega) | omega) _ | refine Below.setCell ?_ (by first | exact Nat.le_refl _ | (simp;done) | (simp;omega) | omega) _ | (refine Below.trans ?_ (Below.mono (by assumption) (by first | exact Nat.le_refl _ | (simp;done) | (simp;omega) | omega))))))⟩
  case round =>
   obtain ⟨j,q,f,acc,A2,c2,rfl,rfl,hj,hq,hf,hr,o2,hbw⟩:=hrel
   have HR:=Lib.hid hr
   have hsz:=hbw.size
   clear hr
   by_cases hlt:q < s.length
   ·obtain ⟨f,rfl⟩:∃ f',f = f' + 1:=⟨f - 1,by omega⟩
    have hqI:(q:Int) < (s.length:Int):=by omega
    have HY:=Lib.hid (fun h=>splitF_yes (s:=s) (f:=f) (a:=q) hqI h)
    have HN:=Lib.hid (fun h=>splitF_no (s:=s) (f:=f) (a:=q) hqI h)
    have HO:=Lib.hid (fun h=>getR_ok (s:=s) (a:=q) h)
    obtain ⟨z,hz⟩:∃ z,getR s q = z:=⟨_,rfl⟩
    rw [hz] at HY HN HO
    have C:=fun w=>getR_any s q w (by omega) z hz
    clear hz
    obtain ⟨⟨ra,rb,rd⟩,tz,er⟩:=z
    dsimp only at HY HN HO
    go_wp2_with fail
    refine (C _).mono ?_
    clear C
    rintro e w1 ⟨rfl,hb1⟩
    have hbw1:Below w.heap.size w w1:=hbw.trans (hb1.mono hsz)
    have o3:=o2.below hb1
    clear hb1 o2 hbw
    have hz1:=hbw1.size
    by_cases he:er = 0
    ·subst he
     obtain ⟨f1,f2,f3,f4⟩:=HO.out rfl
     obtain ⟨tz,rfl⟩:=Int.eq_ofNat_of_zero_le (show 0≤tz by omega)
     have hx:x = splitR (acc ++ [(ra,rb,rd)] ++ (splitF s f tz).1,(splitF s f tz).2):=by rw [HR.out,HY.out rfl];simp
     have HXX:=Lib.hid hx
     clear hx
     have hrn:Rd ((w1.alloc (.cells #[.int .i64 ra,.int .i64 rb,str rd] 98)).alloc (.cells #[.int .i64 ra,.int .i64 rb,str rd] 98)) (w1.heap.size + 1 + 1) 3 (some ⟨w1.heap.size + 1,0,none⟩) 1 (rcells [(ra,rb,rd)]):=by
      have:=rd_new (W0:=w1.alloc (.cells #[.int .i64 ra,.int .i64 rb,str rd] 98)) (t:=98) (cs:=rcells [(ra,rb,rd)]) (size:=3) (m:=1) rfl rfl
      rw [World.size_alloc] at this
      exact this
     go_wp2_with (at_builtin;with_reducible refine wp_append El_rec' rfl (s:=.tmp 27) (x:=.tmp 29) rfl rfl ((o3.alloc _).alloc _) rfl hrn (rcells_one _) (by unfold maxLen;omega) (by omega) (by simp;omega) ?_;intro A4 c4 w4 o4 hg4 hat4;clear hrn)
     have hb4:=below_grown (hbw1.alloc hbw1.size _) (grown_alloc hg4) (o3.alloc _) (Nat.le_refl _)
     rw [← rcells_append] at o4
     go_roundw
     case rel=>exact ⟨j + 1,tz,f,acc ++ [(ra,rb,rd)],A4,c4,rfl,rfl,by omega,by omega,by omega,HXX.out,o4,hb4⟩
     case measure=>simp [intOf];omega
    ·have heI:(er != 0) = true:=by simp [he]
     have hx:x = ([],er):=by rw [HR.out,HN.out he,List.append_nil];unfold splitR;rw [if_neg he]
     subst hx
     clear he
     go_wp2_with fail
     go_ret2
     exact ⟨none,0,0,rfl,Nat.le_refl _,Rd.nil _ _ _ _,hbw1.alloc hbw1.size _⟩
   ·have hx:x = splitR (acc,0):=by rw [HR.out,splitF_end (by omega),List.append_nil]
    have row_any':=row_any A2 j c2 acc wr o2.rd (by omega)
    have HX2:=Lib.hid hx
    generalize hrow:rowN acc = rv at *
    have HRW:=Lib.hid hrow
    clear hrow hx
    go_wp2_with fail
    refine row_any'.mono ?_
    clear row_any'
    rintro e w1 ⟨rfl,hb1⟩
    have hbw1:Below w.heap.size w w1:=hbw.trans (hb1.mono hsz)
    have o3:=o2.below hb1
    by_cases he:rv = 0
    ·subst he
     have hx:x = (acc,0):=by rw [HX2.out];unfold splitR;rw [if_pos rfl,if_pos HRW.out]
     subst hx
     go_wp2_with fail
     go_ret2
     exact ⟨A2,j,c2,rfl,o3.cap,o3.rd,hbw1⟩
    ·have heI:(rv != 0) = true:=by simp [he]
     have hx:x = ([],rv):=by rw [HX2.out];unfold splitR;rw [if_pos rfl,if_neg (by rw [HRW.out];exact he),HRW.out]
     subst hx
     clear he
     go_wp2_with fail
     go_ret2
     exact ⟨none,0,0,rfl,Nat.le_refl _,Rd.nil _ _ _ _,hbw1⟩
end RecW
end Go.Proofs.YtnpncpoiiikafaaGreat
namespace Go.Proofs.YtnpncpoiiikafaaGreat
open Go.RowKit
namespace RecW
theorem putRN_ok {r:Rc} (h:okR r = true):putRN r = putR r:=by unfold putRN;rw [if_pos h]
theorem join_any (A:Option Addr) (n c:Nat) (l:List Rc) (w:World) (h:Rd w w.heap.size 3 A n (rcells l)) (hn:n≤1000000) (x:List UInt8 × Int) (hx:joinV l = x) :
 Calls Tryz.prog 47 #[.slice A n c] w fun e w'=>e = .returned (.tuple #[str x.1,.int .i64 x.2])∧Below w.heap.size w w':=by
 have hl:=rd_rlen h
 have CR:=row_any A n c l w h (by omega)
 by_cases he:rowN l = 0
 ·have hok:∀ r ∈ l,okR r = true:=rowFrom_ok he
  have hbad:=fun k=>joinV_bigAt (l:=l) (k:=k)
  have hyes:=joinV_yes (l:=l)
  rw [hx] at hyes
  have HBG:=Lib.hid (fun k h2=>hx.symm.trans (hbad k he h2))
  have HYS:=Lib.hid (fun h2=>hyes he h2)
  rw [he] at CR
  have HOK:=Lib.hid hok
  have hl1:l.length≤n:=by omega
  have hl2:n≤l.length:=by omega
  have HLN:=Lib.hid hl
  clear hbad hyes hok hx he hl
  go_enter Tryz.func47,Tryz.ntmps47
  go_wp2_with fail
  refine CR.mono ?_
  rintro e w1 ⟨rfl,hb1⟩
  go_wp2_with fail
  have hBl:=Bld.Bl.fresh w1
  have hBk:=heap_alloc_new w1 (.cells #[.pointer none,.slice none 0 0] 112)
  have HB2:=hb1.alloc hb1.size (.cells #[.pointer none,.slice none 0 0] 112)
  have zb:w.heap.size≤w1.heap.size:=hb1.size
  obtain ⟨bb,hbb⟩:∃ bb,w1.heap.size = bb:=⟨_,rfl⟩
  rw [hbb] at hBl zb hBk
  rw [hbb]
  generalize w1.alloc (.cells #[.pointer none,.slice none 0 0] 112) = w2 at *
  clear hbb hb1
  go_loopw [17] (fun i wr=>∃ k:Nat,i = .int .i64 k∧k≤n∧(flatR (l.take k)).length≤20000∧3 * k≤(flatR (l.take k)).length∧Bld.Bl bb bb (flatR (l.take k)) wr∧(k = 0 → wr.heap[bb]? = some (.cells #[.pointer none,.slice none 0 0] 112 (0,0)))∧Below w.heap.size w wr) (fun i _=>n - (intOf i).toNat)
  case atStart=>exact ⟨0,rfl,by omega,by simp [flatR],by omega,hBl,fun _=>hBk,HB2⟩
  case round =>
   obtain ⟨k,rfl,hk,hfl,hfl3,hB,h0,hbw⟩:=hrel
   have H0:=Lib.hid h0
   have hsz:=hbw.size
   have hbl:=hB.lt
   clear h0 hBl hBk HB2
   by_cases hlt:k < n
   ·have hkl:k < l.length:=by omega
    obtain ⟨b,o,rfl,hb,hc⟩:=rd_recs (h.below hbw) (by omega)
    obtain ⟨d0,d1,d2⟩:=hc k hkl
    have hokk:=HOK.out l[k] (List.getElem_mem hkl)
    have HS:=Lib.hid (flatR_snoc l k hkl)
    have hpl:=putR_len hokk
    have C:=fun w=>putR_any l[k] w
    have hch:=chkR_yes hokk
    rw [hch,putRN_ok hokk] at C
    have HC:=Lib.hid C
    have HSB:=Lib.hid (fun (e:List UInt8) (he:flatR (l.take k) ++ putR l[k] = e)=>show flatR (l.take (k + 1)) = e from HS.out.trans he)
    have HBK:=Lib.hid (fun (h2:20000 < (flatR (l.take k)).length + (putR l[k]).length)=>HBG.out (k + 1) (by rw [HS.out,List.length_append];exact h2))
    generalize hr:l[k] = r at *
    obtain ⟨ra,rb,rd⟩:=r
    generalize putR (ra,rb,rd) = p at *
    generalize flatR (l.take k) = fl at *
    clear hc hr hokk C hch
    obtain ⟨HP1,HP2⟩:=hpl
    go_wp2_with fail
    have hB1:=hB.below ((Below.refl wr.heap.size wr).alloc (Nat.le_refl _) (.cells #[.int .i64 ra,.int .i64 rb,str rd] 98))
    have hbw1:=hbw.alloc hsz (.cells #[.int .i64 ra,.int .i64 rb,str rd] 98)
    refine (HC.out _).mono ?_
    rintro e w2 ⟨rfl,hb2⟩
    have hB2:=hB1.below hb2
    have hbw2:=hbw1.trans (hb2.mono hbw1.size)
    clear hb2 d0 d1 d2 hB hB1 hbw hbw1
    go_wp2_with fail
    refine (Bld.len_any bb bb fl _ hB2).mono ?_
    rintro e w3 ⟨rfl,rfl⟩
    by_cases hbg:20000 < fl.length + p.length
    ·have hx:=HBK.out hbg
     subst hx
     have hI:(20000:Int) - (fl.length:Int) < (p.length:Int):=by omega
     go_wp2_with fail
     go_ret2
     exact ⟨rfl,hbw2⟩
    ·have hI:¬ (20000:Int) - (fl.length:Int) < (p.length:Int):=by omega
     go_wp2_with fail
     refine (Bld.write_any bb bb fl p w2 hB2 (by omega) (Nat.le_of_lt hB2.lt)).mono ?_
     rintro e w5 ⟨rfl,hB5,hb5⟩
     go_wp2_with fail
     go_roundw
     case rel=>exact ⟨k + 1,by go_num,by omega,by rw [HSB.out _ rfl,List.length_append];omega,by rw [HSB.out _ rfl,List.length_append];omega,by rw [HSB.out _ rfl];exact hB5,fun h=>absurd h (by omega),hbw2.trans (hb5.mono zb)⟩
     case measure=>simp [intOf];omega
   ·have hz:=Lib.hid (show l.take k = l from List.take_of_length_le (by omega))
    rw [hz.out] at hfl hfl3 hB
    have hx:=HYS.out (by omega)
    subst hx
    by_cases hk0:k = 0
    ·have hl0:l = []:=List.eq_nil_of_length_eq_zero (by have:=HLN.out;omega)
     have C:=Bld.text_nil bb bb wr (H0.out hk0)
     have HL0:=Lib.hid hl0
     clear hl0 hk0
     go_wp2_with fail
     refine C.mono ?_
     rintro e w6 ⟨rfl,hb6⟩
     go_wp2_with fail
     go_ret2
     exact ⟨by rw [HL0.out];rfl,hbw.trans (hb6.mono zb)⟩
    ·have C:=Bld.text_any bb bb _ wr hB (by intro e;rw [e] at hfl3;simp at hfl3;omega)
     go_wp2_with fail
     refine C.mono ?_
     rintro e w6 ⟨rfl,hb6⟩
     go_wp2_with fail
     go_ret2
     exact ⟨rfl,hbw.trans (hb6.mono zb)⟩
 ·rw [joinV_bad he] at hx
  obtain ⟨v,hv⟩:∃ v,rowN l = v:=⟨_,rfl⟩
  rw [hv] at hx CR he
  subst hx
  have heI:(v != 0) = true:=by simp [he]
  clear he hv hl
  go_enter Tryz.func47,Tryz.ntmps47
  go_wp2_with fail
  refine CR.mono ?_
  rintro e w1 ⟨rfl,hb1⟩
  go_wp2_with fail
  go_ret2
  exact ⟨rfl,hb1⟩
end RecW
end Go.Proofs.YtnpncpoiiikafaaGreat
namespace Go.Proofs.YtnpncpoiiikafaaGreat
open Go.RowKit
theorem own_ne_own {w:World} {base e size n c base' e' size' m c' g:Nat} {A:Option Addr} {xs ys:List Value} (ho:Own w base e size A n c xs) (hb:Own w base' e' size' (some ⟨g,0,none⟩) m c' ys) (hne:e ≠ e'):blkOf A ≠ some g:=by
 intro hA
 rcases hb.2 with ⟨hv,_⟩ | ⟨k,cap,cur,hv,_,hk,_⟩
 ·simp at hv
 ·simp only [Value.slice.injEq,Option.some.injEq,Addr.mk.injEq,and_true] at hv
  obtain ⟨rfl,_⟩:=hv
  rcases ho.2 with ⟨hv,_⟩ | ⟨g',cap2,cur2,hv,_,hg,_⟩
  ·simp only [Value.slice.injEq] at hv
   rw [hv.1] at hA
   simp [blkOf] at hA
  ·simp only [Value.slice.injEq] at hv
   rw [hv.1] at hA
   simp only [blkOf,Option.map_some,Option.some.injEq] at hA
   subst hA
   rw [hk] at hg
   simp only [Option.some.injEq,Obj.cells.injEq] at hg
   exact hne hg.2.1.symm
theorem wp_app_str {w:World} {ops:Array Oper} {rest:List Oper} {o:Oper} {a:Act} {Q:Exit → Act → World → Prop} (hgd:o.guard = none) {sl x:Operand}
 (ho:o.op = .call { callee:=.builtin .append,args:=#[sl,x],argTypes:=#[99,9] })
 {base:Nat} {A:Option Addr} {n c:Nat} {l:List UInt8} (hs:a.eval sl = .slice A n c) (hown:Own w base 5 1 A n c (byts l)) (s:List UInt8) (hx:a.eval x = str s) (hb:n + s.length≤140737488355328) (hbase:base≤w.heap.size)
 (h:∀ A' c' w',Own w' base 5 1 A' (n + s.length) c' (byts (l ++ s)) → w.grownBy w' (blkOf A) → wpList Tryz.prog ops Q rest (a.put o.dst (.slice A' (n + s.length) c')) w') :
 wpList Tryz.prog ops Q (o :: rest) a w:=by
 obtain ⟨i0,hi,hz0,hz1,hz2⟩:=info_parts Bld.infoByte
 refine Lib.wpList_append_own_string _ hgd sl x 99 9 ho base 5 i0 Tryz.underlying99 Tryz.underlying9 hi hz0 hz1 hz2 _ _ _ hs hown ⟨s.toArray⟩ hx ?_ ?_ hbase ?_
 ·show n + s.toArray.size≤maxLen;rw [List.size_toArray];unfold maxLen;omega
 ·show n + s.toArray.size≤_;rw [List.size_toArray];exact hb
 ·intro v' w2 hown' hgrow _
  have hlen:(⟨s.toArray⟩:ByteArray).size = s.length:=by show s.toArray.size = _;simp
  rw [hlen] at hown'
  have hcs:byts l ++ Lib.strCells (⟨s.toArray⟩:ByteArray) = byts (l ++ s):=by simp [byts,Lib.strCells,byt,Function.comp_def]
  rw [hcs] at hown'
  rw [ownBlock_slice] at hgrow
  rcases hown'.2 with ⟨hv,h0⟩ | ⟨g,cap,cur,hv,hr⟩
  ·have:n + s.length = 0:=h0
   subst hv
   have hx:=h none 0 w2 (by rw [this] at hown' ⊢;exact hown') hgrow
   rw [this] at hx
   exact hx
  ·subst hv
   exact h _ _ w2 hown' hgrow
end Go.Proofs.YtnpncpoiiikafaaGreat
namespace Go.Proofs.YtnpncpoiiikafaaGreat
open Go.RowKit
namespace BloW
open SufW (Sa letters w64s)
open SqW (packB)
open RecW (join_any)
def BodyOf (raw:List UInt8) (mode:UInt8) (body:List UInt8):Prop:=(mode = 0∧body = raw) ∨ (mode = 1∧∃ A pr,Sa (letters raw) A∧A[pr]? = some 0∧body = packB raw A pr)
theorem encode_any (A:Option Addr) (n c:Nat) (l:List Rc) (w:World) (h:Rd w w.heap.size 3 A n (rcells l)) (hn:n≤1000000) (hn0:0 < n) (hr:rowN l = 0) (hraw:(flatR l).length≤20000) :
 Calls Tryz.prog 13 #[.slice A n c] w fun e w'=>∃ mode body,e = .returned (.tuple #[str (encB l mode body),.int .i64 0])∧BodyOf (flatR l) mode body∧Below w.heap.size w w':=by
 have hln:l.length = n:=rd_rlen h
 have hj:joinV l = (flatR l,0):=joinV_yes hr (by omega)
 have C:=join_any A n c l w h hn _ hj
 dsimp only at C
 have hl0:0 < l.length:=by omega
 obtain ⟨raw,hrw⟩:∃ raw,flatR l = raw:=⟨_,rfl⟩
 have hni:=nums_in hr hl0 hraw
 obtain ⟨nums,hnm⟩:∃ nums,numsB l (flatR l).length = nums:=⟨_,rfl⟩
 have hn5:nums.length = 5:=by rw [← hnm];rfl
 have hen:∀ mode body,encB l mode body = mode :: (lput nums ++ body):=fun mode body=>by rw [← hnm];rfl
 obtain ⟨f1,f2,f3,f4,f5⟩:=row_facts hr hl0
 obtain ⟨r0,hr0⟩:∃ r0,l[0] = r0:=⟨_,rfl⟩
 obtain ⟨rk,hrk⟩:∃ rk,l[l.length - 1]'(by omega) = rk:=⟨_,rfl⟩
 have hnv:nums = [(raw.length:Int),(n:Int),r0.1,r0.2.1,rk.2.1 - r0.2.1]:=by
  rw [← hnm,numsB,List.getElem?_eq_getElem hl0,List.getElem?_eq_getElem (show l.length - 1 < l.length by omega),hr0,hrk,hrw,hln]
  rfl
 rw [hr0] at f1 f2 f3 f4
 rw [hrk] at f4 f5
 obtain ⟨b,o,rfl,hbb,hcc⟩:=h.at_ (by omega)
 have cell0:=rcells_get l 0 hl0
 have cellk:=rcells_get l (l.length - 1) (by omega)
 rw [hr0] at cell0
 rw [hrk,hln] at cellk
 have HCC:Hid (∀ (w':World),Below w.heap.size w w' → (w'.cell? ⟨b,o,none⟩ = some (.int .i64 r0.1)∧w'.cell? ⟨b,o + 1,none⟩ = some (.int .i64 r0.2.1))∧(w'.cell? ⟨b,o + (n - 1) * 3,none⟩ = some (.int .i64 rk.1)∧w'.cell? ⟨b,o + (n - 1) * 3 + 1,none⟩ = some (.int .i64 rk.2.1)∧w'.cell? ⟨b,o + (n - 1) * 3 + 2,none⟩ = some (str rk.2.2))):=Lib.hid (by
  intro w' hb
  have key:∀ i v,(rcells l)[i]? = some v → w'.cell? ⟨b,o + i,none⟩ = some v:=by
   intro i v hv
   obtain ⟨h1,h2⟩:=List.getElem?_eq_some_iff.1 hv
   rw [hb.cell (p:=⟨b,o + i,none⟩) hbb,hcc i h1,h2]
  exact ⟨⟨by simpa using key _ _ cell0.1,by simpa using key _ _ cell0.2.1⟩,key _ _ cellk.1,by simpa [Nat.add_assoc] using key _ _ cellk.2.1,by simpa [Nat.add_assoc] using key _ _ cellk.2.2⟩)
 rw [hrw]
 rw [hrw] at C hraw
 have HEN:=Lib.hid hen
 have HNV:=Lib.hid hnv
 have HNI:=Lib.hid (show ∀ n ∈ nums,0≤n∧n≤9223372036854775807 by rw [← hnm];exact hni)
 have HN5:=Lib.hid hn5
 clear hcc cell0 cellk hj hr hnm hni hn5 hen hnv hrw hr0 hrk hln hl0
 obtain ⟨k,rfl⟩:∃ k,n = k + 1:=⟨n - 1,by omega⟩
 rw [Nat.add_sub_cancel] at HCC
 have hk0:¬ ((k:Int) + 1) = 0:=by omega
 have hkw:IntKind.i64.wrap (k:Int) = (k:Int):=w64s (by omega) (by omega)
 have hkk:(k:Int) < (k:Int) + 1:=by omega
 have hkk0:(0:Int)≤(k:Int):=by omega
 go_enter Tryz.func13,Tryz.ntmps13
 go_wp2_with fail
 refine C.mono ?_
 clear C
 rintro e w1 ⟨rfl,hb1⟩
 have C:=SqW.pack_any raw w1 hraw
 go_wp2_with fail
 refine C.mono ?_
 clear C
 rintro e w2 ⟨SA,pr,rfl,hsa,hpr,hb2⟩
 have HB2:=hb1.trans (hb2.mono hb1.size)
 have HBO:=Lib.hid (show BodyOf raw 1 (packB raw SA pr) from .inr ⟨rfl,SA,pr,hsa,hpr,rfl⟩)
 obtain ⟨pk,hpk⟩:∃ pk,packB raw SA pr = pk:=⟨_,rfl⟩
 rw [hpk] at HBO
 rw [hpk]
 clear hpk hsa hpr hb1 hb2
 go_upto_if 39 with fail
 go_cut [6,7] from 35 to 40 (fun p6 p7 wx=>∃ (md:UInt8) (bd:List UInt8),p6 = .int .i64 (md.toNat:Nat)∧p7 = str bd∧BodyOf raw md bd∧bd.length≤20000∧wx = w2)
 case first =>
  by_cases hsh:pk.length < raw.length
  ·have hI:(pk.length:Int) < (raw.length:Int):=by omega
   go_wp2_with fail
   go_meet
   case rel=>exact ⟨1,pk,rfl,rfl,HBO.out,by omega,rfl⟩
  ·have hI:¬ (pk.length:Int) < (raw.length:Int):=by omega
   go_wp2_with fail
   go_meet
   case rel=>exact ⟨0,raw,rfl,rfl,.inl ⟨rfl,rfl⟩,hraw,rfl⟩
 case rest =>
 obtain ⟨md,bd,rfl,rfl,hbo,hbl,hwx⟩:=hcut
 subst hwx
 have HBD:=Lib.hid hbo
 clear HBO hbo
 obtain ⟨⟨e0,e1⟩,e2,e3,e4⟩:=HCC.out wc HB2
 have hmb:=md.toNat_lt
 have hmw:IntKind.u8.wrap (md.toNat:Int) = (md.toNat:Int):=by rw [IntKind.wrap_u8];omega
 go_upto_region 14 with fail
 have HB3:Below w.heap.size w (wc.alloc (.cells #[.int .i64 rk.1,.int .i64 rk.2.1,str rk.2.2] 98)):=HB2.alloc HB2.size _
 have bL:=(Blk.new wc 98 #[.int .i64 rk.1,.int .i64 rk.2.1,str rk.2.2]).alloc (.cells #[.int .u8 (md.toNat:Int)] 5)
 have oX:Own ((wc.alloc (.cells #[.int .i64 rk.1,.int .i64 rk.2.1,str rk.2.2] 98)).alloc (.cells #[.int .u8 (md.toNat:Int)] 5)) w.heap.size 5 1 (some ⟨wc.heap.size + 1,0,none⟩) 1 1 (byts [md]) :=
  own_new (W0:=wc.alloc (.cells #[.int .i64 rk.1,.int .i64 rk.2.1,str rk.2.2] 98)) (cs:=byts [md]) (by simp) rfl (by have:=HB2.size;omega) (by decide)
 have HB4:=HB3.alloc HB3.size (.cells #[.int .u8 (md.toNat:Int)] 5)
 clear e0 e1 e2 e3 e4 HB3 HB2
 obtain ⟨gL,hgL⟩:∃ gL,wc.heap.size = gL:=⟨_,rfl⟩
 rw [hgL] at bL oX
 rw [hgL]
 generalize (wc.alloc (.cells #[.int .i64 rk.1,.int .i64 rk.2.1,str rk.2.2] 98)).alloc (.cells #[.int .u8 (md.toNat:Int)] 5) = w4 at *
 have hdw:IntKind.i64.wrap (rk.2.1 - r0.2.1) = rk.2.1 - r0.2.1:=by rw [IntKind.wrap_i64];omega
 have hgX:gL + 1 < w4.heap.size:=(oX.blk _ rfl).2
 refine wp_region_held_drew (S:=(fun w'=>w'.cell? ⟨b,o,none⟩ = some (.int .i64 r0.1)∧w'.cell? ⟨b,o + 1,none⟩ = some (.int .i64 r0.2.1)∧w'.cell? ⟨gL,1,none⟩ = some (.int .i64 rk.2.1))) (by kernel_rfl) ?_ (fun hHeld=>?_)
 ·replace HB4:=Below.drew HB4;replace bL:=Blk.drew bL;replace oX:=Own.drew oX;(try dsimp only);exact ⟨(HCC.out _ HB4).1.1,(HCC.out _ HB4).1.2,bL.cell_ 1 rfl⟩
 replace HB4:=Below.drew HB4
 replace bL:=Blk.drew bL
 replace oX:=Own.drew oX
 have zHB4:=HB4.size
 refine zM 0 (.tmp 4) ?_
 refine zO 1 (.call { callee:=.builtin Builtin.len,args:=#[.tmp 50],argTypes:=#[9] }) 3 ?_
 refine zM 2 (.tmp 0) ?_
 refine zO 3 (.call { callee:=.builtin Builtin.len,args:=#[.tmp 52],argTypes:=#[29] }) 3 ?_
 refine zM 4 (.tmp 0) ?_
 refine zO 5 (.indexAddr 29 (.tmp 54) (.const (Value.int IntKind.i64 0))) 0 ?_
 refine zO 6 (.fieldAddr 98 (.tmp 55) 0) 0 ?_
 refine zO 7 (.load 3 (.tmp 56)) 3 ?_
 refine zM 8 (.tmp 0) ?_
 refine zO 9 (.indexAddr 29 (.tmp 58) (.const (Value.int IntKind.i64 0))) 0 ?_
 refine zO 10 (.fieldAddr 98 (.tmp 59) 1) 0 ?_
 refine zO 11 (.load 3 (.tmp 60)) 3 ?_
 refine zO 12 (.fieldAddr 98 (.tmp 9) 1) 0 ?_
 refine zO 13 (.load 3 (.tmp 62)) 3 ?_
 refine zM 14 (.tmp 0) ?_
 refine zO 15 (.indexAddr 29 (.tmp 64) (.const (Value.int IntKind.i64 0))) 0 ?_
 refine zO 16 (.fieldAddr 98 (.tmp 65) 1) 0 ?_
 refine zO 17 (.load 3 (.tmp 66)) 3 ?_
 refine zO 18 (.binOp .sub 3 (.tmp 63) (.tmp 67) 3) 3 ?_
 refine zM 21 (.const (Value.int IntKind.i64 0)) ?_
 refine zR 19 (fun K19 hK19=>?_)
 refine take_build (e:=3) (len:=5) (size:=1) (w.heap.size) ([.int .i64 (raw.length:Int),.int .i64 ((k:Int) + 1),.int .i64 r0.1,.int .i64 r0.2.1,.int .i64 (rk.2.1 - r0.2.1)]) 19 (Op.buildSlice 84 5 #[(0,Operand.tmp 51),(1,Operand.tmp 53),(2,Operand.tmp 57),(3,Operand.tmp 61),(4,Operand.tmp 68)]) 84 rfl rfl rfl (by kernel_rfl) ?eu1x19 (by rfl) (by decide) (by first | exact Nat.le_refl _ | (simp only [World.size_alloc,World.size_setCell,World.size_drew] at *;omega) | omega) ?_
 case eu1x19=>(go_simp;try (first | with_reducible rfl | (simp [rcells,rcell];done) | (simp [fcells];done) | (simp [tcells];done) | rfl))
 intro gx19 w19 o19 gr19 l19 m19
 have z19:=gr19.size
 try simp only [World.size_drew] at z19
 replace HB4:=below_grow HB4 gr19
 have zHB419:=HB4.size
 replace bL:=Blk.grow0 bL gr19
 replace oX:=Own.grow0 oX gr19
 refine hK19.out _ _ ?su1x19 (fun hHeld=>?ru1x19)
 case su1x19=>((try dsimp only);exact ⟨(HCC.out _ HB4).1.1,(HCC.out _ HB4).1.2,bL.cell_ 1 rfl⟩)
 try simp only [zSa,zSb,zSc]
 refine zO 20 (.call { callee:=.builtin Builtin.len,args:=#[.tmp 69],argTypes:=#[84] }) 3 ?_
 refine wpAnyH_done (by kernel_rfl) ?_ _
 have oN:Own w19 w.heap.size 3 1 (some ⟨gx19,0,none⟩) 5 5 (ints nums):=by
  have e:ints nums = [.int .i64 (raw.length:Int),.int .i64 ((k:Int) + 1),.int .i64 r0.1,.int .i64 r0.2.1,.int .i64 (rk.2.1 - r0.2.1)]:=by rw [HNV.out];rfl
  rw [e];exact o19
 have hXN:∀ j,blkOf (some (⟨gx19,0,none⟩:Addr)) = some j → blkOf (some (⟨gL + 1,0,none⟩:Addr)) ≠ some j:=by
  intro j hj e
  simp [blkOf] at hj e
  have h2:w4.drew.heap.size = w4.heap.size:=rfl
  omega
 clear hHeld o19 hgX bL
 go_wp2_with fail
 go_loopw [10,71] (fun v10 iv wr=>∃ (j m cx:Nat) (X:Option Addr),iv = .int .i64 j∧j≤5∧v10 = .slice X m cx∧1 + (lput (nums.take j)).length = m∧m≤1 + 9 * j∧Own wr w.heap.size 5 1 X m cx (byts (md :: lput (nums.take j)))∧Own wr w.heap.size 3 1 (some ⟨gx19,0,none⟩) 5 5 (ints nums) ∧
  blkOf X ≠ some gx19∧Below w.heap.size w wr) (fun _ iv _=>5 - (intOf iv).toNat)
 case atStart=>exact ⟨0,1,1,some ⟨gL + 1,0,none⟩,rfl,by omega,rfl,by simp [lput],by omega,by simpa [lput] using oX,oN,hXN gx19 rfl,HB4⟩
 case round =>
  clear oX oN HB4 hXN
  obtain ⟨j,m,cx,X,rfl,hj,rfl,hm,hm9,oX,oN,hne,HB⟩:=hrel
  have HM:=Lib.hid hm
  have hsz:=HB.size
  clear hm
  by_cases hlt:j < 5
  ·have hjn:j < nums.length:=by rw [HN5.out];exact hlt
   obtain ⟨hx0,hx1⟩:=HNI.out nums[j] (List.getElem_mem hjn)
   have HS:=Lib.hid (lput_snoc nums j hjn)
   have cx:wr.cell? ⟨gx19,j,none⟩ = some (.int .i64 nums[j]):=own_cell oN j (by simp [ints,hjn])
   obtain ⟨y,hy⟩:=Int.eq_ofNat_of_zero_le hx0
   rw [hy] at cx hx1 HS
   rw [Int.toNat_natCast] at HS
   have hvl:=vlen_le y
   have hvb:=vbytes_len y
   have hvl2:(vbytes y).length≤9:=by omega
   have hjI:(j:Int) < 5:=by omega
   have hj0:(0:Int)≤(j:Int):=by omega
   have hj1:IntKind.i64.wrap ((j:Int) + 1) = (j:Int) + 1:=w64s (by omega) (by omega)
   have C:=VarW.put_yes y wr (by omega)
   clear hvl hvb hy hx0 hx1 hjn
   go_wp2_with fail
   refine C.mono ?_
   clear C
   rintro e w5 ⟨rfl,hb5⟩
   replace oX:=oX.below (hb5)
   replace oN:=oN.below (hb5)
   replace HB:=HB.trans (hb5.mono hsz)
   go_wp2_with (at_builtin;refine wp_app_str rfl (sl:=.tmp 83) (x:=.tmp 84) rfl rfl oX (vbytes y) rfl (by omega) (by have:=HB.size;omega) ?_;intro A6 c6 w6 o6 hg6)
   go_roundw
   case rel =>
    have oN6:=Own.other (B:=X) oN hg6 (fun k hk=>by simp [blkOf] at hk;subst hk;exact hne)
    have hb6:Below w.heap.size w w6:=below_grown HB hg6 oX (Nat.le_refl _)
    have hml:=HM.out
    refine ⟨j + 1,m + (vbytes y).length,c6,A6,by go_num,by omega,rfl,?_,by omega,?_,oN6,own_ne_own o6 oN6 (by decide),hb6⟩
    ·rw [HS.out,List.length_append];omega
    ·rw [HS.out];exact o6
   case measure=>simp [intOf];omega
  ·have HT:=Lib.hid (show nums.take j = nums by rw [List.take_of_length_le (by rw [HN5.out];omega)])
   rw [HT.out] at oX
   have hI:¬ (j:Int) < 5:=by omega
   go_wp2_with (at_builtin;refine wp_app_str rfl (sl:=.tmp 87) (x:=.tmp 88) rfl rfl oX bd rfl (by omega) (by omega) ?_;intro A6 c6 w6 o6 hg6;have hcv:=run_bytes_str (P:=Tryz.prog) w6 (c:=c6) Tryz.underlying99 Tryz.underlying5 Tryz.underlying9 o6.rd)
   have hb6:Below w.heap.size w w6:=below_grown HB hg6 oX (Nat.le_refl _)
   go_ret2
   exact ⟨md,bd,by rw [HEN.out];rfl,HBD.out,hb6⟩
end BloW
end Go.Proofs.YtnpncpoiiikafaaGreat
