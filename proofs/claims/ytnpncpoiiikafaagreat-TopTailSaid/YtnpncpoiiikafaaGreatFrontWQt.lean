/- FrontW -/
import Derived.Test.YtnpncpoiiikafaaGreatVarFQt
import Derived.Test.YtnpncpoiiikafaaGreatMemQt
import Derived.Test.YtnpncpoiiikafaaGreatZruPQt
import Derived.Test.YtnpncpoiiikafaaGreatAppQt
set_option linter.unusedVariables false
set_option linter.unusedSimpArgs false
set_option linter.unnecessarySimpa false
set_option maxRecDepth 100000
set_option maxHeartbeats 32000000
namespace Go.Proofs.YtnpncpoiiikafaaGreat
open Go.RowKit
namespace FrontW
theorem rowC_cell {w:World} {g t:Nat} {r:List UInt8} (h:Blk w g t (rowC r)) (i:Nat) (hi:i < r.length):w.cell? ⟨g,i,none⟩ = some (byt (r.getD i 0)):=by
 rw [h.cell]
 simp [rowC,byts,List.getD,List.getElem?_eq_getElem hi]
theorem rowC_set (r:List UInt8) (i:Nat) (b:UInt8):(rowC r).setIfInBounds i (byt b) = rowC (r.set i b):=by
 simp [rowC,byts,List.map_set]
theorem begun_any (w:World) :
 Calls Tryz.prog 145 #[] w fun e w'=>e = .returned (.pointer (some ⟨w.heap.size,0,none⟩))∧Blk w' w.heap.size 250 (rowC init)∧Below w.heap.size w w':=by
 have hz:Tryz.zeroCells250 = rowC (initK 0):=by kernel_rfl
 have HZ:=Lib.hid hz
 clear hz
 go_enter Tryz.func145,Tryz.ntmps145
 go_wp2_with fail
 go_loopw [5] (fun i wr=>∃ k:Nat,k≤256∧i = .int .i64 k∧Blk wr w.heap.size 250 (rowC (initK k))∧Below w.heap.size w wr) (fun i _=>256 - (intOf i).toNat)
 case atStart=>exact ⟨0,by omega,rfl,by rw [← HZ.out];exact Blk.new _ _ _,(by first | exact Below.refl _ _ | (repeat (first | exact Below.refl _ _ | assumption | refine Below.drew ?_ | refine Below.drewN_ ?_ _ | refine Below.alloc ?_ (by first | exact Nat.le_refl _ | (simp;done) | (simp;omega) | omega) _ | refine Below.setCell ?_ (by first | exact Nat.le_refl _ | (simp;done) | (simp;omega) | omega) _ | (refine Below.trans ?_ (Below.mono (by assumption) (by first | exact Nat.le_refl _ | (simp;done) | (simp;omega) | omega))))))⟩
 case round =>
  obtain ⟨k,hk,rfl,hB,hbw⟩:=hrel
  by_cases hlt:k < 256
  ·have d0:wr.cell? ⟨w.heap.size,k,none⟩ = some (.int .u8 (((initK k).getD k 0).toNat:Int)):=rowC_cell hB k (by rw [initK_len];omega)
   have f0:=hB.frozen k
   have hk1:(k:Int) < 256:=by omega
   go_wp2
   go_roundw
   case rel=>exact ⟨k + 1,by omega,by go_num,blk_eq (hB.set k _) (by rw [← initK_set k hlt,← rowC_set];congr 1;simp [byt];omega),hbw.setCell (Nat.le_refl _) _⟩
   case measure=>simp [intOf];omega
  ·have hd:decide ((k:Int) < 256) = false:=by simp;omega
   have HB:Blk wr w.heap.size 250 (rowC init):=by rw [← initK_last];rw [show 256 = k by omega];exact hB
   have HH:=Lib.hid HB
   clear hlt hk hB HB
   go_wp2
   go_ret
   exact ⟨rfl,HH.out,hbw⟩
theorem index_any (A:Option Addr) (n c:Nat) (l:List UInt8) (b:UInt8) (w:World) (h:Rd w w.heap.size 1 A n (byts l)) (hn:n≤9223372036854775807) (hb:b ∈ l) :
 Calls Tryz.prog 181 #[.slice A n c,byt b] w fun e w'=>e = .returned (.int .i64 (l.idxOf b:Nat))∧w = w':=by
 have hl:=rd_len8 h
 have hil:=List.idxOf_lt_length_of_mem hb
 obtain ⟨bb,o,rfl,_,hc⟩:=rd_u8s h (by omega)
 have HC:=Lib.hid hc
 have hi1:l.idxOf b < n:=by omega
 have hl1:l.length≤n:=by omega
 have hl2:n≤l.length:=by omega
 clear hc hl h
 generalize hx:l.idxOf b = x at *
 have HX:=Lib.hid hx
 clear hx
 unfold byt
 go_enter Tryz.func181,Tryz.ntmps181
 go_wp2_with fail
 go_loop [8] (fun i=>∃ k:Nat,k≤x∧i = .int .i64 k) (fun i=>n - (intOf i).toNat)
 case atStart=>exact ⟨0,by omega,rfl⟩
 case round =>
  obtain ⟨k,hk,rfl⟩:=hrel
  have hkl:k < l.length:=by omega
  have hkn:k < n:=by omega
  have d0:w.cell? ⟨bb,o + k,none⟩ = some (.int .u8 (l[k].toNat:Int)):=HC.out k hkl
  by_cases hlt:k < x
  ·have hne:((b.toNat:Int) == (l[k].toNat:Int)) = false:=by
    rw [beq_eq_false_iff_ne]
    intro e
    have e2:b = l[k]:=UInt8.toNat_inj.1 (by omega)
    have:=List.not_of_lt_findIdx (p:=(· == b)) (xs:=l) (i:=k) (by rw [← HX.out] at hlt;exact hlt)
    simp [e2] at this
   go_wp2
   go_round
   case rel=>exact ⟨k + 1,by omega,by go_num⟩
   case measure=>simp [intOf];omega
  ·have hkx:k = x:=by omega
   have heq:((b.toNat:Int) == (l[k].toNat:Int)) = true:=by
    have:=List.getElem_idxOf (x:=b) (xs:=l) (by rw [HX.out];omega)
    simp only [beq_iff_eq]
    congr 2
    rw [← this]
    congr 1
    rw [HX.out,hkx]
   have HK:=Lib.hid hkx
   clear hkx
   go_wp2
   go_ret
   exact ⟨ret_int (by rw [HK.out]),rfl⟩
theorem mtf_cells (r:List UInt8) (i:Nat) (hi:i < r.length) :
 (((byts r).take 1 ++ (byts r).take i ++ (byts r).drop (1 + ((byts r).take i).length)).set 0 (byt (r.getD i 0))) = byts (mtf r i):=by
 have hlen:((byts r).take i).length = i:=by simp [byts];omega
 rw [hlen]
 unfold mtf
 cases r with
 | nil=>simp at hi
 | cons b r =>
  simp only [byts,List.map_cons,List.take_succ_cons,List.take_zero,List.cons_append,List.nil_append,List.set_cons_zero,List.map_append,List.map_take,List.map_drop]
  rw [Nat.add_comm 1 i]
theorem byts_none:∀ (l:List UInt8) (i:Nat) (v:Value),(byts l)[i]? = some v → ∃ h:i < l.length,v = byt l[i]:=by
 intro l i v h
 obtain ⟨h1,h2⟩:=List.getElem?_eq_some_iff.1 h
 exact ⟨by simpa [byts] using h1,by rw [← h2];simp [byts]⟩
theorem at_any (g i:Nat) (r:List UInt8) (w:World) (hr:r.length = 256) (hi:i < 256) (hB:Blk w g 250 (rowC r)) :
 Calls Tryz.prog 146 #[.pointer (some ⟨g,0,none⟩),.int .i64 i] w fun e w'=>e = .returned (byt (r.getD i 0))∧Blk w' g 250 (rowC (mtf r i))∧w.grownBy w' (some g):=by
 have d0:=rowC_cell hB i (by omega)
 have h0:(0:Int)≤(i:Int):=by omega
 have h1:(i:Int) < 256:=by omega
 have h2:(i:Int)≤256:=by omega
 have h3:(i:Int) + 1≤256:=by omega
 have h4:(1:Int)≤(i:Int) + 1:=by omega
 have HR:=Lib.hid hr
 generalize hb:byt (r.getD i 0) = b at *
 have HBB:=Lib.hid hb
 clear hr hb
 go_enter Tryz.func146,Tryz.ntmps146
 go_wp2_with fail
 have hmin:((byts r).take i).length = Nat.min i i:=by rw [List.length_take,byts_len,HR.out];simp;omega
 have hsrc:∀ j v,((byts r).take i)[j]? = some v → w.drew.cell? ((⟨g,0,none⟩:Addr).add j) = some v:=by
  intro j v hj
  rw [List.getElem?_take] at hj
  split at hj
  ·rw [add_lit,Nat.zero_add]
   obtain ⟨h5,rfl⟩:=byts_none _ _ _ hj
   have:=rowC_cell hB j h5
   simpa [List.getD,List.getElem?_eq_getElem h5] using this
  ·cases hj
 have hfit:1 + ((byts r).take i).length≤(byts r).length:=by rw [List.length_take,byts_len,HR.out];omega
 have hone:∀ v ∈ (byts r).take i,v.oneCell' = true:=fun v hv=>byts_one r v (List.mem_of_mem_take hv)
 have HM:=Lib.hid hmin
 have HS:=Lib.hid hsrc
 have HF:=Lib.hid hfit
 have HO:=Lib.hid hone
 clear hmin hsrc hfit hone
 have hw:IntKind.i64.wrap ((i:Int) + 1) = (i:Int) + 1:=IntWalk.i64_in _ (by omega)
 have hw2:((i:Int) + 1).toNat = i + 1:=by omega
 refine wp_region_held_drew (S:=(fun _=>True)) (by kernel_rfl) ?_ (fun hHeld=>?_)
 ·(try dsimp only);all_goals trivial
 refine zM 0 (.tmp 0) ?_
 refine zO 1 (.nilCheck (.tmp 12)) 0 ?_
 refine zO 2 (.fieldAddr 250 (.tmp 13) 0) 0 ?_
 refine zM 3 (.tmp 1) ?_
 refine zO 4 (.binOp .add 3 (.tmp 15) (.const (Value.int IntKind.i64 1)) 3) 3 ?_
 refine zO 5 (.slice 248 (.tmp 14) (some (.const (Value.int IntKind.i64 1))) (some (.tmp 16)) none) 99 ?_
 refine zM 6 (.tmp 0) ?_
 refine zO 7 (.nilCheck (.tmp 18)) 0 ?_
 refine zO 8 (.fieldAddr 250 (.tmp 19) 0) 0 ?_
 refine zM 9 (.tmp 1) ?_
 refine zO 10 (.slice 248 (.tmp 20) none (some (.tmp 21)) none) 99 ?_
 refine' take_run 11 (Op.call { callee:=Callee.builtin Builtin.copy,args:=#[Operand.tmp 17,Operand.tmp 22],argTypes:=#[99,99] }) 3 (by kernel_rfl) rfl rfl rfl rfl rfl (run_copy_op w.drew (cur:=byts r) (cs:=(byts r).take i) rfl rfl Tryz.underlying99 (by kernel_rfl) hB.drew HM.out HS.out HF.out HO.out) ?su1x11 (fun hHeld=>?ru1x11)
 case su1x11=>((try dsimp only);all_goals trivial)
 simp only [zSa,zSb,zSc]
 refine wpAnyH_done (by kernel_rfl) ?_ _
 clear hw hw2
 have hX:=(hB.drew.setRow ((byts r).take 1 ++ (byts r).take i ++ (byts r).drop (1 + ((byts r).take i).length)).toArray)
 have hgX:=grown_setRow w.drew g ((byts r).take 1 ++ (byts r).take i ++ (byts r).drop (1 + ((byts r).take i).length)).toArray
 generalize World.setRow w.drew g ((byts r).take 1 ++ (byts r).take i ++ (byts r).drop (1 + ((byts r).take i).length)).toArray = X at *
 have hx0:∃ v,X.cell? ⟨g,0,none⟩ = some v:=by
  rw [hX.cell]
  have:0 < ((byts r).take 1 ++ (byts r).take i ++ (byts r).drop (1 + ((byts r).take i).length)).length:=by
   have:=HR.out
   simp [byts];omega
  exact ⟨_,by rw [List.getElem?_toArray,List.getElem?_eq_getElem this]⟩
 obtain ⟨v0,hv0⟩:=hx0
 have f0:=hX.frozen 0
 have hbv:∃ n:Int,b = .int .u8 n:=⟨_,HBB.out.symm⟩
 obtain ⟨nb,rfl⟩:=hbv
 go_wp2
 go_ret
 refine ⟨rfl,blk_eq (hX.set 0 _) ?_,?_⟩
 ·have:=mtf_cells r i (by rw [HR.out];exact hi)
  rw [HBB.out] at this
  simp only [rowC,← this]
  simp
 ·exact ⟨hgX.os,hgX.tape,hgX.output,by simpa [World.setCell] using hgX.size,fun k hk hne=>(Below.heap_setCell _ _ _ k (fun e=>hne (by rw [e]))).trans (hgX.block k hk hne)⟩
end FrontW
end Go.Proofs.YtnpncpoiiikafaaGreat
namespace Go.Proofs.YtnpncpoiiikafaaGreat
open Go.RowKit
namespace FrontW
theorem El_int:El Tryz.prog 84 3 1 8:=El.mk' Tryz.underlying84 (z:=.int .i64 0) (by kernel_rfl) rfl (by decide)
theorem El_u8:El Tryz.prog 99 5 1 1:=El.mk' Tryz.underlying99 (z:=.int .u8 0) (by kernel_rfl) rfl (by decide)
theorem rank_any (g:Nat) (b:UInt8) (r:List UInt8) (w:World) (hF:Full r) (hB:Blk w g 250 (rowC r)) :
 Calls Tryz.prog 152 #[.pointer (some ⟨g,0,none⟩),byt b] w fun e w'=>e = .returned (.int .i64 (r.idxOf b:Nat))∧Blk w' g 250 (rowC (mtf r (r.idxOf b)))∧w.grownBy w' (some g):=by
 go_enter Tryz.func152,Tryz.ntmps152
 go_wp2_with fail
 refine (index_any _ 256 256 r b _ ?hr (by omega) (hF.mem b)).mono ?_
 case hr=>exact (Rd.of_blk (m:=256) (by exact hB) (by rw [byts_len,hF.len])).more hB.lt
 rintro e w1 ⟨rfl,rfl⟩
 go_wp2_with fail
 refine (at_any g (r.idxOf b) r _ hF.len (hF.idx b) hB).mono ?_
 rintro e w1 ⟨rfl,hB1,hg1⟩
 go_wp2
 go_ret
 exact ⟨rfl,hB1,hg1⟩
theorem wp_make {P:Program} {w:World} {t e size bytes:Nat} (hE:El P t e size bytes) {ops:Array Oper} {rest:List Oper} {o:Oper} {a:Act} {Q:Exit → Act → World → Prop} (hgd:o.guard = none) {l c:Operand}
 (ho:o.op = .makeSlice t l c) (base:Nat) (n:Nat) {kl kc:IntKind} {C:Int} (hl:a.eval l = .int kl 0) (hc:a.eval c = .int kc C) (hC:C = (n:Int)) (hb:bytes * n≤281474976710656) (hn:n≤maxLen) (hbase:base≤w.heap.size)
 (h:∀ w',Own w' base e size (some ⟨w.heap.size,0,none⟩) 0 n [] → w.grownBy w' none → wpList P ops Q rest (a.put o.dst (.slice (some ⟨w.heap.size,0,none⟩) 0 n)) w'):wpList P ops Q (o :: rest) a w:=by
 obtain ⟨i,z,hi,hz,hsize,hby,hzs⟩:=hE.inf
 exact wpList_make_own w hgd l c t ho base e i z size hE.und hi hz hsize kl kc C n hl hc hC (by rw [hby];exact hb) hn hbase h
theorem ranks_any (s:List UInt8) (w:World) (hs:s.length≤1000000) :
 Calls Tryz.prog 98 #[str s] w fun e w'=>∃ A c,e = .returned (.slice A s.length c)∧Own w' w.heap.size 3 1 A s.length c (ints (runR s).2)∧Below w.heap.size w w':=by
 have hmf:∀ (fn:Fn) (first cap:Array Value) (w:World),(Instr.makeFunc fn first cap).run Tryz.prog w = .ok (.func fn first cap) w:=fun _ _ _ _=>rfl
 go_enter Tryz.func98,Tryz.ntmps98
 go_wp2_with fail
 refine (begun_any _).mono ?_
 rintro e w1 ⟨rfl,hB1,hb1⟩
 have hz1:=hB1.lt
 go_wp2_with (at_make;refine wp_make El_int rfl rfl w1.heap.size s.length rfl rfl (by simp) (by omega) (by unfold maxLen;omega) (Nat.le_refl _) ?_;intro w2 hown2 hg2)
 have hB2:=hB1.grown hg2 (by simp)
 have hb2:Below w.heap.size w w2:=hb1.grown hg2 hb1.size (by simp)
 go_loopw [4,5] (fun v i wr=>∃ (k c:Nat) (A:Option Addr),k≤s.length∧i = .int .i64 k∧v = .slice A k c∧Own wr w1.heap.size 3 1 A k c (ints (runR (s.take k)).2)∧Blk wr w.heap.size 250 (rowC (runR (s.take k)).1)∧Below w.heap.size w wr∧w1.heap.size≤wr.heap.size)
  (fun _ i _=>s.length - (intOf i).toNat)
 case atStart=>exact ⟨0,s.length,some ⟨w1.heap.size,0,none⟩,by omega,rfl,rfl,hown2,hB2,hb2,hg2.size⟩
 case round =>
  obtain ⟨k,c,A,hk,rfl,rfl,hown,hB,hbw,hzr⟩:=hrel
  by_cases hlt:k < s.length
  ·have HS:=Lib.hid (runR_snoc s k hlt)
   have hF:=runR_full (s.take k)
   have hlen:=runR_len (s.take k)
   generalize hq:runR (s.take k) = q at *
   have HQ:=Lib.hid hq
   clear hq hlen
   go_wp2_with fail
   refine (rank_any _ s[k] q.1 _ hF hB).mono ?_
   rintro e w3 ⟨rfl,hB3,hg3⟩
   have hown3:=hown.grown hg3 (by
    by_cases h:blkOf A = none
    ·exact .inl h
    ·refine .inr fun e=>?_
     have:=(hown.blk _ e).1
     omega)
   have hbw3:Below w.heap.size w w3:=hbw.grown hg3 hbw.size (by simp)
   have hz3:=hg3.size
   go_wp2_with (at_builtin;refine wp_append El_int rfl rfl rfl (hown3.alloc _) rfl (Rd.of_blk (m:=1) (cs:=[.int .i64 (q.1.idxOf s[k]:Nat)]) (Blk.new w3 _ _) rfl) (by simp [Value.oneCell']) (by unfold maxLen;omega) (by omega) (by simp;omega) ?_;intro A4 c4 w4 hown4 hg4 hat4)
   go_roundw
   case rel =>
    refine ⟨k + 1,c4,A4,by omega,by go_num,rfl,?_,?_,?_,by have:=hg4.size;simp at this;omega⟩
    ·rw [HS.out]
     simpa [stepR,ints] using hown4
    ·rw [HS.out]
     exact (hB3.alloc _).grown hg4 (fun e=>by have:=hown3.blk _ e.symm;omega)
    ·exact (hbw3.alloc hbw3.size _).grown hg4 (by simp;omega) (fun j hj=>by have:=hown3.blk j hj;omega)
   case measure=>simp [intOf];omega
  ·have hfin:Hid (runR (s.take k) = runR s∧k = s.length):=⟨by rw [List.take_of_length_le (by omega)],by omega⟩
   go_wp2
   go_ret
   obtain ⟨h1,h2⟩:=hfin.out
   rw [h1] at hown
   exact ⟨A,c,congrArg (fun x=>Ending.returned (.slice A x c)) h2,by rw [← h2];exact hown.base_le hb1.size,hbw⟩
end FrontW
end Go.Proofs.YtnpncpoiiikafaaGreat
namespace Go.Proofs.YtnpncpoiiikafaaGreat
open Go.RowKit
namespace FrontW
def okB (l:List Int):Bool:=l.all fun n=>decide (0≤n) && decide (n≤255)
def textS (l:List Int):List UInt8 × Int:=if okB l = true then ((runT l).2,0) else ([],60)
theorem okB_iff (l:List Int):okB l = true ↔ okT l:=by simp [okB,okT]
theorem okT_snoc (l:List Int) (k:Nat) (hk:k < l.length) (h:okT (l.take k)) (h0:0≤l[k]) (h1:l[k]≤255):okT (l.take (k + 1)):=by
 rw [List.take_succ_eq_append_getElem hk]
 intro n hn
 rcases List.mem_append.1 hn with hn | hn
 ·exact h n hn
 ·obtain rfl:n = l[k]:=by simpa using hn
  exact ⟨h0,h1⟩
theorem textS_bad (l:List Int) (k:Nat) (hk:k < l.length) (h:l[k] < 0 ∨ 255 < l[k]):textS l = ([],60):=by
 unfold textS
 rw [if_neg]
 rw [okB_iff]
 intro ho
 have:=ho l[k] (List.getElem_mem hk)
 omega
theorem textS_ok (l:List Int) (h:okT l):textS l = ((runT l).2,0):=by unfold textS;rw [if_pos ((okB_iff l).2 h)]
theorem text_any (A0:Option Addr) (n c0:Nat) (l:List Int) (w:World) (h:Rd w w.heap.size 1 A0 n (ints l)) (hn:n≤1000000) :
 Calls Tryz.prog 94 #[.slice A0 n c0] w fun e w'=>e = .returned (.tuple #[str (textS l).1,.int .i64 (textS l).2])∧Below w.heap.size w w':=by
 have hmf:∀ (fn:Fn) (first cap:Array Value) (w:World),(Instr.makeFunc fn first cap).run Tryz.prog w = .ok (.func fn first cap) w:=fun _ _ _ _=>rfl
 have hl:=rd_len h
 have hl1:l.length≤n:=by omega
 have hl2:n≤l.length:=by omega
 clear hl
 go_enter Tryz.func94,Tryz.ntmps94
 go_wp2_with fail
 refine (begun_any _).mono ?_
 rintro e w1 ⟨rfl,hB1,hb1⟩
 have hz1:=hB1.lt
 go_wp2_with (at_make;refine wp_make El_u8 rfl rfl w1.heap.size n rfl rfl (by simp) (by omega) (by unfold maxLen;omega) (Nat.le_refl _) ?_;intro w2 hown2 hg2)
 have hB2:=hB1.grown hg2 (by simp)
 have hb2:Below w.heap.size w w2:=hb1.grown hg2 hb1.size (by simp)
 go_loopw [5,15] (fun v i wr=>∃ (k c:Nat) (A:Option Addr),k≤n∧i = .int .i64 k∧v = .slice A k c∧okT (l.take k)∧Own wr w1.heap.size 5 1 A k c (byts (runT (l.take k)).2)∧Blk wr w.heap.size 250 (rowC (runT (l.take k)).1)∧Below w.heap.size w wr∧w1.heap.size≤wr.heap.size)
  (fun _ i _=>n - (intOf i).toNat)
 case atStart=>exact ⟨0,n,some ⟨w1.heap.size,0,none⟩,by omega,rfl,rfl,by intro m hm;simp at hm,hown2,hB2,hb2,hg2.size⟩
 case round =>
  obtain ⟨k,c,A,hk,rfl,rfl,hok,hown,hB,hbw,hzr⟩:=hrel
  have HOK:=Lib.hid hok
  by_cases hlt:k < n
  ·have hkl:k < l.length:=by omega
   obtain ⟨bb,o,rfl,hbb,hc⟩:=rd_ints h (by omega)
   have HS:=Lib.hid (runT_snoc l k hkl)
   have HBad:=Lib.hid (textS_bad l k hkl)
   have HSn:=Lib.hid (okT_snoc l k hkl hok)
   have hF:=runT_full (l.take k) hok
   have d0:wr.cell? ⟨bb,o + k,none⟩ = some (.int .i64 l[k]):=(hbw.cell (p:=⟨bb,_,none⟩) hbb).trans (hc k hkl)
   clear hc hok
   generalize hq:runT (l.take k) = q at *
   generalize hm:l[k] = m at *
   clear hq hm
   by_cases h0:m < 0
   ·have HT:=Lib.hid (HBad.out (.inl h0))
    go_wp2
    go_ret2
    exact ⟨by rw [HT.out];rfl,hbw⟩
   ·by_cases h1:255 < m
    ·have HT:=Lib.hid (HBad.out (.inr h1))
     go_wp2
     go_ret2
     exact ⟨by rw [HT.out];rfl,hbw⟩
    ·obtain ⟨m,rfl⟩:=Int.eq_ofNat_of_zero_le (show 0≤m by omega)
     go_wp2_with fail
     refine (at_any _ m q.1 _ hF.len (by omega) hB).mono ?_
     rintro e w3 ⟨rfl,hB3,hg3⟩
     have hown3:=hown.grown hg3 (by
      by_cases h:blkOf A = none
      ·exact .inl h
      ·refine .inr fun e=>?_
       have:=(hown.blk _ e).1
       omega)
     have hbw3:Below w.heap.size w w3:=hbw.grown hg3 hbw.size (by simp)
     have hz3:=hg3.size
     unfold byt
     go_wp2_with (at_builtin;refine wp_append El_u8 rfl rfl rfl (hown3.alloc _) rfl (Rd.of_blk (m:=1) (cs:=[byt (q.1.getD m 0)]) (Blk.new w3 _ _) rfl) (by simp [byt,Value.oneCell']) (by unfold maxLen;omega) (by omega) (by simp;omega) ?_;intro A4 c4 w4 hown4 hg4 hat4)
     go_roundw
     case rel =>
      refine ⟨k + 1,c4,A4,by omega,by go_num,rfl,HSn.out (by omega) (by omega),?_,?_,?_,by have:=hg4.size;simp at this;omega⟩
      ·rw [HS.out]
       simpa [stepT,byts] using hown4
      ·rw [HS.out]
       exact (hB3.alloc _).grown hg4 (fun e=>by have:=hown3.blk _ e.symm;omega)
      ·exact (hbw3.alloc hbw3.size _).grown hg4 (by simp;omega) (fun j hj=>by have:=hown3.blk j hj;omega)
     case measure=>simp [intOf];omega
  ·have hfin:Hid (l.take k = l):=List.take_of_length_le (by omega)
   have hcv:=run_bytes_str (P:=Tryz.prog) wr (c:=c) Tryz.underlying99 Tryz.underlying5 Tryz.underlying9 hown.rd
   go_wp2
   go_ret2
   rw [hfin.out] at hok ⊢
   exact ⟨by rw [textS_ok l hok];rfl,hbw⟩
end FrontW
end Go.Proofs.YtnpncpoiiikafaaGreat
namespace Go.Proofs.YtnpncpoiiikafaaGreat
open Go.RowKit
namespace FrontW
theorem snoc_ind {α:Type} {p:List α → Prop} (h0:p []) (h1:∀ l a,p l → p (l ++ [a])) (l:List α):p l:=by
 have h:∀ m:List α,p m.reverse:=by
  intro m
  induction m with
  | nil=>exact h0
  | cons a m ih=>rw [List.reverse_cons];exact h1 _ _ ih
 have:=h l.reverse
 rwa [List.reverse_reverse] at this
theorem runR_app (s:List UInt8) (b:UInt8):runR (s ++ [b]) = stepR (runR s) b:=by rw [runR,List.foldl_append];rfl
theorem runT_app (l:List Int) (n:Int):runT (l ++ [n]) = stepT (runT l) n:=by rw [runT,List.foldl_append];rfl
theorem get_idx {r:List UInt8} {b:UInt8} (h:b ∈ r):r.getD (r.idxOf b) 0 = b:=by
 have h1:=List.idxOf_lt_length_of_mem h
 rw [List.getD,List.getElem?_eq_getElem h1,Option.getD_some]
 exact List.getElem_idxOf h1
theorem runR_ok (s:List UInt8):okT (runR s).2:=by
 refine snoc_ind (p:=fun s=>okT (runR s).2) (fun n hn=>absurd hn List.not_mem_nil) (fun s b ih=>?_) s
 rw [runR_app]
 intro n hn
 rcases List.mem_append.1 hn with hn | hn
 ·exact ih n hn
 ·obtain rfl:=List.mem_singleton.1 hn
  have:=(runR_full s).idx b
  omega
theorem back1 (s:List UInt8):runT (runR s).2 = ((runR s).1,s):=by
 refine snoc_ind (p:=fun s=>runT (runR s).2 = ((runR s).1,s)) rfl (fun s b ih=>?_) s
 rw [runR_app]
 show runT ((runR s).2 ++ [_]) = _
 rw [runT_app,ih]
 simp only [stepT,stepR,Int.toNat_natCast]
 rw [get_idx ((runR_full s).mem b)]
theorem text_back (s:List UInt8):textS (runR s).2 = (s,0):=by
 rw [textS,if_pos ((okB_iff _).2 (runR_ok s)),back1]
end FrontW
end Go.Proofs.YtnpncpoiiikafaaGreat
namespace Go.Proofs.YtnpncpoiiikafaaGreat
open Go.RowKit
namespace LenW
theorem w64 {x:Int} (h1:-4611686018427387904≤x) (h2:x≤4611686018427387904):wrap64 x = x:=by unfold wrap64;omega
theorem w64k {x:Int} (h1:-4611686018427387904≤x) (h2:x≤4611686018427387904):IntKind.i64.wrap x = x:=by rw [IntKind.wrap_i64];omega
def usedL (l:List Int):Nat:=(l.filter fun n=>decide (0 < n)).length
def partL (n:Int):Nat:=if 0 < n then 2 ^ (15 - n.toNat) else 0
def sumL (l:List Int):Nat:=(l.map partL).sum
def okL (l:List Int):Bool:=l.all fun n=>decide (0≤n) && decide (n≤15)
def chkL (l:List Int):Int:=if 257 < l.length then 3 else if okL l = false then 80 else if sumL l = 0 ∨ sumL l = 32768 ∨ (usedL l = 1∧sumL l = 16384) then 0 else 80
theorem usedL_snoc (l:List Int) (k:Nat) (h:k < l.length):usedL (l.take (k + 1)) = usedL (l.take k) + (if 0 < l[k] then 1 else 0):=by
 unfold usedL
 rw [List.take_succ_eq_append_getElem h,List.filter_append,List.length_append]
 by_cases hk:0 < l[k] <;> simp [hk]
theorem usedL_le (l:List Int):usedL l≤l.length:=List.length_filter_le _ _
theorem partL_le (n:Int):partL n≤32768:=by
 unfold partL
 split
 ·calc 2 ^ (15 - n.toNat)≤2 ^ 15:=Nat.pow_le_pow_right (by omega) (by omega)
   _ = 32768:=by decide
 ·omega
theorem sumL_snoc (l:List Int) (k:Nat) (h:k < l.length):sumL (l.take (k + 1)) = sumL (l.take k) + partL l[k]:=by
 unfold sumL
 rw [List.take_succ_eq_append_getElem h,List.map_append,List.sum_append]
 simp
theorem sumL_le (l:List Int):sumL l≤32768 * l.length:=by
 unfold sumL
 induction l with
 | nil=>simp
 | cons a l ih =>
  have:=partL_le a
  simp only [List.map_cons,List.sum_cons,List.length_cons]
  omega
theorem okL_snoc (l:List Int) (k:Nat) (h:k < l.length):okL (l.take (k + 1)) = (okL (l.take k) && (decide (0≤l[k]) && decide (l[k]≤15))):=by
 unfold okL
 rw [List.take_succ_eq_append_getElem h,List.all_append]
 simp
theorem okL_at (l:List Int) (k:Nat) (hk:k < l.length) (h:okL l = true):0≤l[k]∧l[k]≤15:=by
 unfold okL at h
 rw [List.all_eq_true] at h
 have:=h _ (List.getElem_mem hk)
 simpa using this
theorem okL_no (l:List Int) (k:Nat) (hk:k < l.length) (h:¬ (0≤l[k]∧l[k]≤15)):okL l = false:=by
 cases ho:okL l with
 | false=>rfl
 | true=>exact absurd (okL_at l k hk ho) h
end LenW
end Go.Proofs.YtnpncpoiiikafaaGreat
namespace Go.Proofs.YtnpncpoiiikafaaGreat
open Go.RowKit
def fcells (l:List (Int × Int)):List Value:=l.flatMap fun r=>[.int .i64 r.1,.int .i64 r.2]
theorem fcells_cons (p:Int × Int) (l:List (Int × Int)):fcells (p :: l) = .int .i64 p.1 :: .int .i64 p.2 :: fcells l:=rfl
theorem fcells_len (l:List (Int × Int)):(fcells l).length = l.length * 2:=by
 induction l with
 | nil=>rfl
 | cons x l ih=>rw [fcells_cons];simp only [List.length_cons] at *;omega
theorem fcells_get (l:List (Int × Int)) (k:Nat) (h:k < l.length):(fcells l)[k * 2]? = some (.int .i64 l[k].1)∧(fcells l)[k * 2 + 1]? = some (.int .i64 l[k].2):=by
 induction l generalizing k with
 | nil=>simp at h
 | cons p l ih =>
  rw [fcells_cons]
  cases k with
  | zero=>simp
  | succ k =>
   have:=ih k (by simpa using h)
   simpa [Nat.add_mul] using this
theorem rd_fcells {w:World} {B:Nat} {A:Option Addr} {n:Nat} {l:List (Int × Int)} (h:Rd w B 2 A n (fcells l)) (hn:0 < n) :
 ∃ b o,A = some ⟨b,o,none⟩∧b < B∧∀ k (hk:k < l.length),w.cell? ⟨b,o + k * 2,none⟩ = some (.int .i64 l[k].1)∧w.cell? ⟨b,o + k * 2 + 1,none⟩ = some (.int .i64 l[k].2):=by
 obtain ⟨b,o,rfl,hb,hc⟩:=h.at_ hn
 refine ⟨b,o,rfl,hb,fun k hk=>?_⟩
 have hlen:=fcells_len l
 obtain ⟨e0,e1⟩:=fcells_get l k hk
 refine ⟨?_,?_⟩
 ·rw [hc (k * 2) (by omega)];rw [List.getElem?_eq_getElem (by omega)] at e0;exact e0
 ·rw [Nat.add_assoc,hc (k * 2 + 1) (by omega)];rw [List.getElem?_eq_getElem (by omega)] at e1;exact e1
theorem rd_flen {w:World} {B:Nat} {A:Option Addr} {n:Nat} {l:List (Int × Int)} (h:Rd w B 2 A n (fcells l)):l.length = n:=by have:=h.len;rw [fcells_len] at this;omega
def fitsB (n w:Int):Bool:=decide (0≤w) && decide (w≤32) && decide (0≤n) && decide (n < 2 ^ w.toNat)
def getB (l:List Nat) (at_ width:Int):Int × Int :=
 if width < 0 ∨ 32 < width then (0,2) else if (l.length:Int) < at_ + width then (0,4) else ((num ((l.drop at_.toNat).take width.toNat):Int),0)
end Go.Proofs.YtnpncpoiiikafaaGreat
