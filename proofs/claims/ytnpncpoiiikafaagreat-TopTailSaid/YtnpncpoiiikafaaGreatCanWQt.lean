/- CanW -/
import Derived.Test.YtnpncpoiiikafaaGreatLenBQt
import Derived.Test.YtnpncpoiiikafaaGreatFrontWQt
import Derived.Test.YtnpncpoiiikafaaGreatMemQt
set_option linter.unusedVariables false
set_option linter.unusedSimpArgs false
set_option linter.unnecessarySimpa false
set_option maxRecDepth 100000
set_option maxHeartbeats 32000000
namespace Go.Proofs.YtnpncpoiiikafaaGreat
open Go.RowKit
namespace LenW
def codeL (W S:Value) (cs fs ps:List Int) (m:Bool):List Value:=W :: S :: (ints cs ++ (ints fs ++ (ints ps ++ [.bool m])))
abbrev codeC (W S:Value) (cs fs ps:List Int) (m:Bool):Array Value:=(codeL W S cs fs ps m).toArray
section
variable {W S:Value} {cs fs ps:List Int} {m:Bool} (hc:cs.length = 16) (hf:fs.length = 16) (hp:ps.length = 16)
include hc in
theorem code_c (i:Nat) (h:i < 16):(codeC W S cs fs ps m)[2 + i]? = some (.int .i64 (cs[i]'(by omega))):=by
 simp only [codeC,codeL,List.getElem?_toArray,show 2 + i = i + 1 + 1 from by omega,List.getElem?_cons_succ]
 rw [List.getElem?_append_left (by rw [ints_len];omega)]
 simp [ints,hc,h]
include hc hf in
theorem code_f (i:Nat) (h:i < 16):(codeC W S cs fs ps m)[18 + i]? = some (.int .i64 (fs[i]'(by omega))):=by
 simp only [codeC,codeL,List.getElem?_toArray,show 18 + i = (16 + i) + 1 + 1 from by omega,List.getElem?_cons_succ]
 rw [List.getElem?_append_right (by rw [ints_len];omega),ints_len,List.getElem?_append_left (by rw [ints_len];omega)]
 simp only [hc,show 16 + i - 16 = i from by omega]
 simp [ints,hf,h]
include hc hf hp in
theorem code_p (i:Nat) (h:i < 16):(codeC W S cs fs ps m)[34 + i]? = some (.int .i64 (ps[i]'(by omega))):=by
 simp only [codeC,codeL,List.getElem?_toArray,show 34 + i = (32 + i) + 1 + 1 from by omega,List.getElem?_cons_succ]
 rw [List.getElem?_append_right (by rw [ints_len];omega),ints_len,List.getElem?_append_right (by rw [ints_len];omega),ints_len,List.getElem?_append_left (by rw [ints_len];omega)]
 simp only [hc,hf,show 32 + i - 16 - 16 = i from by omega]
 simp [ints,hp,h]
include hc hf hp in
theorem code_m:(codeC W S cs fs ps m)[50]? = some (.bool m):=by
 simp only [codeC,codeL,List.getElem?_toArray,show 50 = 48 + 1 + 1 from rfl,List.getElem?_cons_succ]
 rw [List.getElem?_append_right (by rw [ints_len];omega),ints_len,List.getElem?_append_right (by rw [ints_len];omega),ints_len,List.getElem?_append_right (by rw [ints_len];omega),ints_len]
 simp [hc,hf,hp]
include hc in
theorem code_cset (i:Nat) (h:i < 16) (x:Int):(codeC W S cs fs ps m).setIfInBounds (2 + i) (.int .i64 x) = codeC W S (cs.set i x) fs ps m:=by
 simp only [codeC,codeL,List.setIfInBounds_toArray,show 2 + i = i + 1 + 1 from by omega,List.set_cons_succ]
 rw [List.set_append_left _ _ (by rw [ints_len];omega)]
 simp [ints,List.map_set]
include hc hf in
theorem code_fset (i:Nat) (h:i < 16) (x:Int):(codeC W S cs fs ps m).setIfInBounds (18 + i) (.int .i64 x) = codeC W S cs (fs.set i x) ps m:=by
 simp only [codeC,codeL,List.setIfInBounds_toArray,show 18 + i = (16 + i) + 1 + 1 from by omega,List.set_cons_succ]
 rw [List.set_append_right _ _ (by rw [ints_len];omega),ints_len,List.set_append_left _ _ (by rw [ints_len];omega)]
 simp [ints,List.map_set,hc]
include hc hf hp in
theorem code_pset (i:Nat) (h:i < 16) (x:Int):(codeC W S cs fs ps m).setIfInBounds (34 + i) (.int .i64 x) = codeC W S cs fs (ps.set i x) m:=by
 simp only [codeC,codeL,List.setIfInBounds_toArray,show 34 + i = (32 + i) + 1 + 1 from by omega,List.set_cons_succ]
 rw [List.set_append_right _ _ (by rw [ints_len];omega),ints_len,List.set_append_right _ _ (by rw [ints_len];omega),ints_len,List.set_append_left _ _ (by rw [ints_len];omega)]
 simp only [hc,hf,show 32 + i - 16 - 16 = i from by omega]
 simp [ints,List.map_set]
end
theorem code_sset (W S S':Value) (cs fs ps:List Int) (m:Bool):(codeC W S cs fs ps m).setIfInBounds 1 S' = codeC W S' cs fs ps m:=by
 simp [codeC,codeL]
theorem run_made {P:Program} (t e:TypeId) (z:Value) (size bytes:Nat) (ht:P.underlying t = some (.slice e)) (hinfo:(P.info? e).map (fun i=>(i.zero,i.size,i.bytes)) = some (some z,size,bytes))
 (n:Nat) (hbytes:bytes * n≤281474976710656) (h63:n≤9223372036854775807) (w:World) :
 (Instr.makeSlice t (.int .i64 (n:Int)) (.int .i64 (n:Int))).run P w = .ok (.slice (some ⟨w.heap.size,0,none⟩) n n) (w.alloc (.cells (madeCells z.cells (n * size)) e)):=by
 obtain ⟨i,hi,hzz⟩:=Option.map_eq_some_iff.1 hinfo
 simp only [Prod.mk.injEq] at hzz
 obtain ⟨hz,hs,hb⟩:=hzz
 have hb':(i.bytes:Int) * (n:Int)≤281474976710656:=by
  have h:((i.bytes * n:Nat):Int)≤281474976710656:=by rw [hb];omega
  rwa [Int.natCast_mul] at h
 have hr:=run_make (P:=P) w t e i z ht hi hz .i64 .i64 n n (by omega) (Int.le_refl _) hb' (by omega)
 simp only [Int.toNat_natCast,hs] at hr
 exact hr
theorem made_fields (n:Nat):madeCells #[.int .i64 0,.int .i64 0] (n * 2) = (fcells (List.replicate n (0,0))).toArray:=by
 apply Array.ext
 ·simp [madeCells,fcells_len]
 ·intro i h1 h2
  simp only [madeCells,Array.getElem_map,Array.getElem_range,List.getElem_toArray]
  have hx:∀ v ∈ fcells (List.replicate n (0,0)),v = .int .i64 0:=by
   intro v hv
   obtain ⟨r,hr,hv⟩:=List.mem_flatMap.1 hv
   obtain rfl:=List.eq_of_mem_replicate hr
   simpa using hv
  rw [hx _ (List.getElem_mem _)]
  rcases Nat.mod_two_eq_zero_or_one i with h | h <;> simp [h]
theorem made_ints (n:Nat):madeCells #[.int .i64 0] n = (ints (List.replicate n 0)).toArray:=by
 apply Array.ext
 ·simp [madeCells,ints]
 ·intro i h1 h2
  simp only [madeCells,Array.getElem_map,Array.getElem_range,ints,List.getElem_toArray,List.getElem_map,List.getElem_replicate]
  simp [Nat.mod_one]
def tab (f:Nat → Nat):List Int:=(List.range 16).map fun i=>(f i:Int)
theorem tab_len (f:Nat → Nat):(tab f).length = 16:=by simp [tab]
theorem tab_at (f:Nat → Nat) (i:Nat) (h:i < 16):(tab f)[i]'(by rw [tab_len];exact h) = (f i:Int):=by simp [tab]
theorem tab_set (f g:Nat → Nat) (i:Nat) (x:Int) (hx:x = (g i:Int)) (hg:∀ j,j < 16 → j ≠ i → g j = f j):(tab f).set i x = tab g:=by
 apply List.ext_getElem
 ·simp [tab]
 ·intro j h1 h2
  rw [tab_len] at h2
  rw [List.getElem_set,tab_at g j h2]
  split
  ·rename_i he;subst he;exact hx
  ·rename_i he;rw [tab_at f j h2,hg j h2 (fun e=>he e.symm)]
theorem tab_ext (f g:Nat → Nat) (h:∀ j,j < 16 → f j = g j):tab f = tab g:=by
 unfold tab
 exact List.map_congr_left fun i hi=>by rw [h i (List.mem_range.1 hi)]
def upTo (f:Nat → Nat) (k:Nat):Nat → Nat:=fun i=>if i < k then f i else 0
end LenW
end Go.Proofs.YtnpncpoiiikafaaGreat
namespace Go.Proofs.YtnpncpoiiikafaaGreat
open Go.RowKit
namespace LenW
def nxt (l:List Int) (k:Nat):Nat → Nat:=fun i=>fstL l i + cntL (l.take k) i
theorem nxt_zero (l:List Int):tab (nxt l 0) = tab (fstL l):=tab_ext _ _ fun j _=>by simp [nxt,cntL]
theorem nxt_skip (l:List Int) (k:Nat) (h:k < l.length) (hp:¬ 0 < l[k]):tab (nxt l (k + 1)) = tab (nxt l k) :=
 tab_ext _ _ fun j _=>by unfold nxt;rw [cntL_snoc l k j h,if_neg (fun e=>hp e.1)];omega
theorem nxt_step (l:List Int) (k y:Nat) (h:k < l.length) (hx:l[k] = (y:Int)) (hp:0 < y):(tab (nxt l k)).set y ((nxt l k y:Int) + 1) = tab (nxt l (k + 1)) :=
 tab_set _ _ y _ (by unfold nxt;rw [cntL_snoc l k y h,if_pos ⟨by omega,hx⟩];push_cast;omega) (fun j _ hj=>by unfold nxt;rw [cntL_snoc l k j h,if_neg (by omega)];omega)
theorem fcells_set (l:List (Int × Int)) (k:Nat) (h:k < l.length) (a b:Int):fcells (l.set k (a,b)) = ((fcells l).set (k * 2) (.int .i64 a)).set (k * 2 + 1) (.int .i64 b):=by
 induction l generalizing k with
 | nil=>simp at h
 | cons p l ih =>
  cases k with
  | zero=>rfl
  | succ k =>
   have:=ih k (by simpa using h)
   rw [List.set_cons_succ,show fcells (p :: l.set k (a,b)) = .int .i64 p.1 :: .int .i64 p.2 :: fcells (l.set k (a,b)) from rfl,this,show fcells (p :: l) = .int .i64 p.1 :: .int .i64 p.2 :: fcells l from rfl,show (k + 1) * 2 = k * 2 + 2 from by omega]
   simp [List.set_cons_succ]
theorem number_any (A:Option Addr) (n c g gW:Nat) (l:List Int) (w:World) (hk:chkL l = 0) (h:Rd w w.heap.size 1 A n (ints l)) (hn:n≤257) (hA:0 < n → ∀ k,blkOf A = some k → k ≠ g∧k ≠ gW) (B:Nat) (hB1:B≤g) (hB2:B≤gW) (hB3:B≤w.heap.size)
 (hfb:∀ j,j < 16 → fstL l j≤20000000) (hne:g ≠ gW)
 (bC:Blk w g 208 (codeC (.slice (some ⟨gW,0,none⟩) n n) (.slice none 0 0) (tab (cntL l)) (tab (fstL l)) (tab (plcL l)) true)) (bF:Blk w gW 228 (fcells (List.replicate n (0,0))).toArray) :
 Calls Tryz.prog 136 #[.pointer (some ⟨g,0,none⟩),.slice A n c] w fun e w'=>e = .returned (.tuple #[])∧∃ gS,w.heap.size≤gS ∧
  Blk w' g 208 (codeC (.slice (some ⟨gW,0,none⟩) n n) (.slice (some ⟨gS,0,none⟩) (usedL l) (usedL l)) (tab (cntL l)) (tab (fstL l)) (tab (plcL l)) true)∧Blk w' gW 228 (fcells (wordsF l)).toArray∧Blk w' gS 3 (ints (sortF l)).toArray∧Below B w w':=by
 obtain ⟨_,hok,hsum⟩:=chk0 hk
 have hl:l.length = n:=rd_len h
 have CU:=fun w HH=>used_any A n c l w HH (by omega) _ rfl
 have hul:=usedL_le l
 have q0:w.cell? ⟨g,18,none⟩ = some (.int .i64 (fstL l 0:Nat)):=bC.cell_ (18 + 0) ((code_f (tab_len (cntL l)) (tab_len (fstL l)) 0 (by omega)).trans (by rw [tab_at _ 0 (by omega)]))
 have q1:w.cell? ⟨g,19,none⟩ = some (.int .i64 (fstL l 1:Nat)):=bC.cell_ (18 + 1) ((code_f (tab_len (cntL l)) (tab_len (fstL l)) 1 (by omega)).trans (by rw [tab_at _ 1 (by omega)]))
 have q2:w.cell? ⟨g,20,none⟩ = some (.int .i64 (fstL l 2:Nat)):=bC.cell_ (18 + 2) ((code_f (tab_len (cntL l)) (tab_len (fstL l)) 2 (by omega)).trans (by rw [tab_at _ 2 (by omega)]))
 have q3:w.cell? ⟨g,21,none⟩ = some (.int .i64 (fstL l 3:Nat)):=bC.cell_ (18 + 3) ((code_f (tab_len (cntL l)) (tab_len (fstL l)) 3 (by omega)).trans (by rw [tab_at _ 3 (by omega)]))
 have q4:w.cell? ⟨g,22,none⟩ = some (.int .i64 (fstL l 4:Nat)):=bC.cell_ (18 + 4) ((code_f (tab_len (cntL l)) (tab_len (fstL l)) 4 (by omega)).trans (by rw [tab_at _ 4 (by omega)]))
 have q5:w.cell? ⟨g,23,none⟩ = some (.int .i64 (fstL l 5:Nat)):=bC.cell_ (18 + 5) ((code_f (tab_len (cntL l)) (tab_len (fstL l)) 5 (by omega)).trans (by rw [tab_at _ 5 (by omega)]))
 have q6:w.cell? ⟨g,24,none⟩ = some (.int .i64 (fstL l 6:Nat)):=bC.cell_ (18 + 6) ((code_f (tab_len (cntL l)) (tab_len (fstL l)) 6 (by omega)).trans (by rw [tab_at _ 6 (by omega)]))
 have q7:w.cell? ⟨g,25,none⟩ = some (.int .i64 (fstL l 7:Nat)):=bC.cell_ (18 + 7) ((code_f (tab_len (cntL l)) (tab_len (fstL l)) 7 (by omega)).trans (by rw [tab_at _ 7 (by omega)]))
 have q8:w.cell? ⟨g,26,none⟩ = some (.int .i64 (fstL l 8:Nat)):=bC.cell_ (18 + 8) ((code_f (tab_len (cntL l)) (tab_len (fstL l)) 8 (by omega)).trans (by rw [tab_at _ 8 (by omega)]))
 have q9:w.cell? ⟨g,27,none⟩ = some (.int .i64 (fstL l 9:Nat)):=bC.cell_ (18 + 9) ((code_f (tab_len (cntL l)) (tab_len (fstL l)) 9 (by omega)).trans (by rw [tab_at _ 9 (by omega)]))
 have q10:w.cell? ⟨g,28,none⟩ = some (.int .i64 (fstL l 10:Nat)):=bC.cell_ (18 + 10) ((code_f (tab_len (cntL l)) (tab_len (fstL l)) 10 (by omega)).trans (by rw [tab_at _ 10 (by omega)]))
 have q11:w.cell? ⟨g,29,none⟩ = some (.int .i64 (fstL l 11:Nat)):=bC.cell_ (18 + 11) ((code_f (tab_len (cntL l)) (tab_len (fstL l)) 11 (by omega)).trans (by rw [tab_at _ 11 (by omega)]))
 have q12:w.cell? ⟨g,30,none⟩ = some (.int .i64 (fstL l 12:Nat)):=bC.cell_ (18 + 12) ((code_f (tab_len (cntL l)) (tab_len (fstL l)) 12 (by omega)).trans (by rw [tab_at _ 12 (by omega)]))
 have q13:w.cell? ⟨g,31,none⟩ = some (.int .i64 (fstL l 13:Nat)):=bC.cell_ (18 + 13) ((code_f (tab_len (cntL l)) (tab_len (fstL l)) 13 (by omega)).trans (by rw [tab_at _ 13 (by omega)]))
 have q14:w.cell? ⟨g,32,none⟩ = some (.int .i64 (fstL l 14:Nat)):=bC.cell_ (18 + 14) ((code_f (tab_len (cntL l)) (tab_len (fstL l)) 14 (by omega)).trans (by rw [tab_at _ 14 (by omega)]))
 have q15:w.cell? ⟨g,33,none⟩ = some (.int .i64 (fstL l 15:Nat)):=bC.cell_ (18 + 15) ((code_f (tab_len (cntL l)) (tab_len (fstL l)) 15 (by omega)).trans (by rw [tab_at _ 15 (by omega)]))
 have hN:=Blk.new w 206 (ints (tab (fstL l))).toArray
 have hgC:=bC.lt
 have hgF:=bF.lt
 go_enter Tryz.func136,Tryz.ntmps136
 go_wp2_with fail
 refine (CU _ ((h.below ((Below.refl _ w).alloc (Nat.le_refl _) _)).more (by simp))).mono ?_
 rintro e w1 ⟨rfl,hw1⟩
 have hb1:Below w.heap.size w w1:=by rw [hw1];exact (Below.refl _ w).alloc (Nat.le_refl _) _
 have hN1:Blk w1 w.heap.size 206 (ints (tab (fstL l))).toArray:=by rw [hw1];exact hN
 have bC1:=bC.below hb1 hgC
 have bF1:=bF.below hb1 hgF
 have r1:=(h.below hb1)
 have hz1:w1.heap.size = w.heap.size + 1:=by rw [hw1,World.size_alloc]
 have hmk:=run_made (P:=Tryz.prog) 84 3 (.int .i64 0) 1 8 Tryz.underlying84 (by kernel_rfl) (usedL l) (by omega) (by omega) w1
 rw [Nat.mul_one,show (Value.int IntKind.i64 0).cells = #[.int .i64 0] from rfl,made_ints] at hmk
 have k1:=bC1.cell_ 1 (v:=.slice none 0 0) rfl
 have k1f:=bC1.frozen 1
 have hU:=Lib.hid (rfl:usedL l = usedL l)
 clear CU q0 q1 q2 q3 q4 q5 q6 q7 q8 q9 q10 q11 q12 q13 q14 q15 bC bF hw1 hN
 have bC2:=(blk_eq (bC1.set 1 (.slice (some ⟨w.heap.size + 1,0,none⟩) (usedL l) (usedL l))) (code_sset _ _ _ _ _ _ _)).alloc (.cells (ints (List.replicate (usedL l) 0)).toArray 3)
 have bF2:=(bF1.far (p:=⟨g,1,none⟩) (fun e=>hne e.symm) (.slice (some ⟨w.heap.size + 1,0,none⟩) (usedL l) (usedL l))).alloc (.cells (ints (List.replicate (usedL l) 0)).toArray 3)
 have bN2:=(hN1.far (p:=⟨g,1,none⟩) (by dsimp only;omega) (.slice (some ⟨w.heap.size + 1,0,none⟩) (usedL l) (usedL l))).alloc (.cells (ints (List.replicate (usedL l) 0)).toArray 3)
 have bS2:Blk ((w1.setCell ⟨g,1,none⟩ (.slice (some ⟨w.heap.size + 1,0,none⟩) (usedL l) (usedL l))).alloc (.cells (ints (List.replicate (usedL l) 0)).toArray 3)) (w.heap.size + 1) 3 (ints (List.replicate (usedL l) 0)).toArray:=by
  have:=Blk.new (w1.setCell ⟨g,1,none⟩ (.slice (some ⟨w.heap.size + 1,0,none⟩) (usedL l) (usedL l))) 3 (ints (List.replicate (usedL l) 0)).toArray
  rwa [World.size_setCell,hz1] at this
 have HB2:=((hb1.mono hB3).setCell (p:=⟨g,1,none⟩) hB1 (.slice (some ⟨w.heap.size + 1,0,none⟩) (usedL l) (usedL l))).alloc (by rw [World.size_setCell];omega) (.cells (ints (List.replicate (usedL l) 0)).toArray 3)
 have r2:=(r1.apart0 (p:=⟨g,1,none⟩) (fun h0 k hk=>(hA h0 k hk).1) (.slice (some ⟨w.heap.size + 1,0,none⟩) (usedL l) (usedL l))).below ((Below.refl w.heap.size _).alloc (by rw [World.size_setCell];omega) (.cells (ints (List.replicate (usedL l) 0)).toArray 3))
 go_wp2_with fail
 clear bC1 bF1 hN1 r1 hb1 k1 k1f hmk
 go_loopw [19] (fun i wr=>∃ k:Nat,i = .int .i64 k∧k≤n∧Blk wr g 208 (codeC (.slice (some ⟨gW,0,none⟩) n n) (.slice (some ⟨w.heap.size + 1,0,none⟩) (usedL l) (usedL l)) (tab (cntL l)) (tab (fstL l)) (tab (plcL l)) true)∧Blk wr gW 228 (fcells (wordsK l k)).toArray∧Blk wr w.heap.size 206 (ints (tab (nxt l k))).toArray∧Blk wr (w.heap.size + 1) 3 (ints (sortK l k)).toArray∧Rd wr w.heap.size 1 A n (ints l)∧Below B w wr) (fun i _=>n - (intOf i).toNat)
 case atStart=>exact ⟨0,rfl,by omega,bC2,by rw [wordsK_zero,hl];exact bF2,by rw [nxt_zero];exact bN2,bS2,r2,HB2⟩
 case round =>
  obtain ⟨k,rfl,hkn,bC,bF,bN,bS,r,HB⟩:=hrel
  clear bC2 bF2 bN2 bS2 r2 HB2
  have hzg:=bS.lt
  by_cases hlt:k < n
  ·have hkl:k < l.length:=by omega
   obtain ⟨b,o,rfl,hb,hc⟩:=rd_ints r (by omega)
   have d0:wr.cell? ⟨b,o + k,none⟩ = some (.int .i64 l[k]):=hc k hkl
   have hx15:=okL_at l k hkl hok
   have hki:(k:Int) < (n:Int):=by omega
   have hki0:(0:Int)≤(k:Int):=by omega
   clear hc
   by_cases hp:0 < l[k]
   ·obtain ⟨y,hy⟩:=Int.eq_ofNat_of_zero_le (show 0≤l[k] by omega)
    have hy16:y < 16:=by omega
    have hy0:0 < y:=by omega
    have hpl:=place_lt l k hkl hp
    have hsn:=sortK_at l k hkl hp
    have hwn:=wordsK_succ l k hkl
    rw [word_at l k hkl hp] at hwn
    have hnn:=nxt_step l k y hkl hy hy0
    rw [hy,Int.toNat_natCast] at hpl hsn hwn
    have hfb':=hfb y hy16
    have hpb:plcL l y≤257:=by have:=plcL_le l y;omega
    have hcb:cntL (l.take k) y≤257:=by have:=cntL_le (l.take k) y;rw [List.length_take] at this;omega
    have hnx:nxt l k y = fstL l y + cntL (l.take k) y:=rfl
    rw [← hnx] at hwn
    obtain ⟨p,hpp⟩:∃ p,plcL l y + cntL (l.take k) y = p:=⟨_,rfl⟩
    rw [hpp] at hpl hsn
    have SS:=Lib.hid (show (ints (sortK l k)).toArray.setIfInBounds p (.int .i64 k) = (ints (sortK l (k + 1))).toArray by rw [hsn];simp [ints,List.map_set])
    have SP:=Lib.hid (show ∃ v,(ints (sortK l k)).toArray[p]? = some v from ⟨_,by rw [List.getElem?_toArray];exact List.getElem?_eq_getElem (by rw [ints_len,sortK_len];exact hpl)⟩)
    have WL:(wordsK l k).length = l.length:=wordsK_len l k (by omega)
    have WS:=Lib.hid (show ((fcells (wordsK l k)).toArray.setIfInBounds (k * 2) (.int .i64 (nxt l k y:Nat))).setIfInBounds (k * 2 + 1) (.int .i64 (y:Nat)) = (fcells (wordsK l (k + 1))).toArray by rw [hwn,fcells_set _ k (by rw [WL];exact hkl)];simp)
    have W0:=Lib.hid (show ∃ v,(fcells (wordsK l k)).toArray[k * 2]? = some v from ⟨_,by rw [List.getElem?_toArray];exact List.getElem?_eq_getElem (by rw [fcells_len,WL];omega)⟩)
    have W1:=Lib.hid (show ∃ v,(fcells (wordsK l k)).toArray[k * 2 + 1]? = some v from ⟨_,by rw [List.getElem?_toArray];exact List.getElem?_eq_getElem (by rw [fcells_len,WL];omega)⟩)
    have NS:=Lib.hid (show (ints (tab (nxt l k))).toArray.setIfInBounds y (.int .i64 ((nxt l k y:Int) + 1)) = (ints (tab (nxt l (k + 1)))).toArray by rw [← hnn];simp [ints,List.map_set])
    have NC:=Lib.hid (show (ints (tab (nxt l k))).toArray[y]? = some (.int .i64 (nxt l k y:Nat)) by simp [ints,tab,hy16])
    have CP:=Lib.hid ((code_p (W:=(.slice (some ⟨gW,0,none⟩) n n)) (S:=(.slice (some ⟨w.heap.size + 1,0,none⟩) (usedL l) (usedL l))) (m:=true) (tab_len (cntL l)) (tab_len (fstL l)) (tab_len (plcL l)) y hy16).trans (by rw [tab_at _ y hy16]))
    have CF:=Lib.hid ((code_f (W:=(.slice (some ⟨gW,0,none⟩) n n)) (S:=(.slice (some ⟨w.heap.size + 1,0,none⟩) (usedL l) (usedL l))) (ps:=tab (plcL l)) (m:=true) (tab_len (cntL l)) (tab_len (fstL l)) y hy16).trans (by rw [tab_at _ y hy16]))
    have hv1:IntKind.i64.wrap ((plcL l y:Int) + (nxt l k y:Int)) = (plcL l y:Int) + (nxt l k y:Int):=w64k (by omega) (by omega)
    have hv2:IntKind.i64.wrap ((plcL l y:Int) + (nxt l k y:Int) - (fstL l y:Int)) = (p:Int):=(w64k (by omega) (by omega)).trans (by omega)
    have hv3:IntKind.i64.wrap (p:Int) = (p:Int):=w64k (by omega) (by omega)
    have hv4:IntKind.i64.wrap (k:Int) = (k:Int):=w64k (by omega) (by omega)
    have hv5:IntKind.i64.wrap (y:Int) = (y:Int):=w64k (by omega) (by omega)
    have hpI:(p:Int) < (usedL l:Int):=by omega
    have hyI:(y:Int) < 16:=by omega
    have hyI0:(0:Int)≤(y:Int):=by omega
    have hnxb:nxt l k y≤20000257:=by omega
    have hye:((y:Int) == 0) = false:=by simp;omega
    have hyd:decide ((y:Int) = 0) = false:=by simp;omega
    rw [hy] at d0
    clear hnx hpp hsn hwn hnn hp hx15
    go_wp2_with fail
    refine wp_region_held_drew (S:=(fun w'=>w'.cell? ⟨g,1,none⟩ = some (.slice (some ⟨w.heap.size + 1,0,none⟩) (usedL l) (usedL l))∧w'.cell? ⟨g,34 + y,none⟩ = some (.int .i64 (plcL l y:Nat))∧w'.cell? ⟨g,18 + y,none⟩ = some (.int .i64 (fstL l y:Nat))∧w'.cell? ⟨w.heap.size,y,none⟩ = some (.int .i64 (nxt l k y:Nat)))) (by kernel_rfl) ?_ (fun hHeld=>?_)
    ·replace bC:=Blk.drew bC;replace bF:=Blk.drew bF;replace bN:=Blk.drew bN;replace bS:=Blk.drew bS;replace HB:=Below.drew HB;(try dsimp only);exact ⟨bC.cell_ 1 rfl,bC.cell_ (34 + y) CP.out,bC.cell_ (18 + y) CF.out,bN.cell_ y NC.out⟩
    replace bC:=Blk.drew bC
    replace bF:=Blk.drew bF
    replace bN:=Blk.drew bN
    replace bS:=Blk.drew bS
    replace HB:=Below.drew HB
    have zHB:=HB.size
    refine zM 0 (.tmp 0) ?_
    refine zO 1 (.nilCheck (.tmp 26)) 0 ?_
    refine zO 2 (.fieldAddr 208 (.tmp 27) 1) 0 ?_
    refine zO 3 (.load 84 (.tmp 28)) 84 ?_
    refine zM 4 (.tmp 0) ?_
    refine zM 5 (.tmp 6) ?_
    refine zO 6 (.nilCheck (.tmp 30)) 0 ?_
    refine zO 7 (.fieldAddr 208 (.tmp 32) 4) 0 ?_
    refine zO 8 (.indexAddr 206 (.tmp 33) (.tmp 31)) 0 ?_
    refine zO 9 (.load 3 (.tmp 34)) 3 ?_
    refine zM 10 (.tmp 6) ?_
    refine zO 11 (.indexAddr 206 (.tmp 4) (.tmp 36)) 0 ?_
    refine zO 12 (.load 3 (.tmp 37)) 3 ?_
    refine zO 13 (.binOp .add 3 (.tmp 35) (.tmp 38) 3) 3 ?_
    refine zM 14 (.tmp 0) ?_
    refine zM 15 (.tmp 6) ?_
    refine zO 16 (.nilCheck (.tmp 40)) 0 ?_
    refine zO 17 (.fieldAddr 208 (.tmp 42) 3) 0 ?_
    refine zO 18 (.indexAddr 206 (.tmp 43) (.tmp 41)) 0 ?_
    refine zO 19 (.load 3 (.tmp 44)) 3 ?_
    refine zO 20 (.binOp .sub 3 (.tmp 39) (.tmp 45) 3) 3 ?_
    refine zM 21 (.tmp 5) ?_
    refine zO 22 (.indexAddr 84 (.tmp 29) (.tmp 46)) 0 ?_
    refine zR 23 (fun K23 hK23=>?_)
    refine take_store 23 (Op.store 3 (Operand.tmp 48) (Operand.tmp 47)) 0 rfl rfl rfl (by kernel_rfl) (w':=wr.drew.setCell ⟨w.heap.size + 1,p,none⟩ (.int .i64 k)) (by obtain ⟨v0,hv0⟩:=SP.out;have cL:=bS.cell_ p hv0;have fL:=bS.frozen p;go_simp;try (with_reducible rfl)) ?_
    refine hK23.out _ _ (⟨(bC.far (p:=⟨w.heap.size + 1,p,none⟩) (by dsimp only;omega) _).cell_ 1 rfl,(bC.far (p:=⟨w.heap.size + 1,p,none⟩) (by dsimp only;omega) _).cell_ (34 + y) CP.out,(bC.far (p:=⟨w.heap.size + 1,p,none⟩) (by dsimp only;omega) _).cell_ (18 + y) CF.out,(bN.far (p:=⟨w.heap.size + 1,p,none⟩) (by dsimp only;omega) _).cell_ y NC.out⟩) (fun hHeld=>?_)
    refine wpAnyH_done (by kernel_rfl) ?_ _
    have bCN:=bC.far (p:=⟨w.heap.size + 1,p,none⟩) (by dsimp only;omega) (.int .i64 k)
    have bFN:=bF.far (p:=⟨w.heap.size + 1,p,none⟩) (by dsimp only;omega) (.int .i64 k)
    have bNN:=bN.far (p:=⟨w.heap.size + 1,p,none⟩) (by dsimp only;omega) (.int .i64 k)
    have bSN:=blk_eq (bS.set p (.int .i64 k)) SS.out
    have HBN:=HB.setCell (p:=⟨w.heap.size + 1,p,none⟩) (by dsimp only;omega) (.int .i64 k)
    have rN:=r.drew.below ((Below.refl w.heap.size wr.drew).setCell (p:=⟨w.heap.size + 1,p,none⟩) (by dsimp only;omega) (.int .i64 k))
    generalize wr.drew.setCell ⟨w.heap.size + 1,p,none⟩ (.int .i64 k) = wm at *
    clear bC bF bN bS r HB hHeld hv1 hv2 hv3 d0
    have hgm:=bSN.lt
    go_wp2_with fail
    refine wp_region_held_drew (S:=(fun w'=>w'.cell? ⟨g,0,none⟩ = some (.slice (some ⟨gW,0,none⟩) n n)∧w'.cell? ⟨w.heap.size,y,none⟩ = some (.int .i64 (nxt l k y:Nat)))) (by kernel_rfl) ?_ (fun hHeld=>?_)
    ·replace bCN:=Blk.drew bCN;replace bFN:=Blk.drew bFN;replace bNN:=Blk.drew bNN;replace bSN:=Blk.drew bSN;replace HBN:=Below.drew HBN;(try dsimp only);exact ⟨bCN.cell_ 0 rfl,bNN.cell_ y NC.out⟩
    replace bCN:=Blk.drew bCN
    replace bFN:=Blk.drew bFN
    replace bNN:=Blk.drew bNN
    replace bSN:=Blk.drew bSN
    replace HBN:=Below.drew HBN
    have zHBN:=HBN.size
    refine zM 0 (.tmp 0) ?_
    refine zO 1 (.nilCheck (.tmp 49)) 0 ?_
    refine zO 2 (.fieldAddr 208 (.tmp 50) 0) 0 ?_
    refine zO 3 (.load 205 (.tmp 51)) 205 ?_
    refine zM 4 (.tmp 5) ?_
    refine zM 5 (.tmp 6) ?_
    refine zO 6 (.indexAddr 206 (.tmp 4) (.tmp 54)) 0 ?_
    refine zO 7 (.load 3 (.tmp 55)) 3 ?_
    refine zM 8 (.tmp 6) ?_
    refine zO 9 (.build 228 #[(0,.tmp 56),(1,.tmp 57)]) 228 ?_
    refine zO 10 (.indexAddr 205 (.tmp 52) (.tmp 53)) 0 ?_
    refine zR 11 (fun K11 hK11=>?_)
    refine take_store 11 (Op.store 228 (Operand.tmp 59) (Operand.tmp 58)) 0 rfl rfl rfl (by kernel_rfl) (w':=(wm.drew.setCell ⟨gW,k * 2,none⟩ (.int .i64 (nxt l k y:Nat))).setCell ⟨gW,k * 2 + 1,none⟩ (.int .i64 (y:Nat))) (by obtain ⟨v0,hv0⟩:=W0.out;obtain ⟨v1,hv1⟩:=W1.out;have cL:=bFN.cell_ (k * 2) hv0;have cM:=bFN.cell_ (k * 2 + 1) hv1;have fL:=bFN.frozen (k * 2);have fM:=bFN.frozen (k * 2 + 1);have cM2:wm.cell? ⟨gW,k * 2 + 1,none⟩ = some v1:=cM;have fM2:wm.frozen? ⟨gW,k * 2 + 1,none⟩ = false:=fM;go_simp;try (with_reducible rfl)) ?_
    refine hK11.out _ _ (⟨((bCN.far (p:=⟨gW,k * 2,none⟩) hne _).far (p:=⟨gW,k * 2 + 1,none⟩) hne _).cell_ 0 rfl,((bNN.far (p:=⟨gW,k * 2,none⟩) (by dsimp only;omega) _).far (p:=⟨gW,k * 2 + 1,none⟩) (by dsimp only;omega) _).cell_ y NC.out⟩) (fun hHeld=>?_)
    refine wpAnyH_done (by kernel_rfl) ?_ _
    have bCM:=(bCN.far (p:=⟨gW,k * 2,none⟩) hne (.int .i64 (nxt l k y:Nat))).far (p:=⟨gW,k * 2 + 1,none⟩) hne (.int .i64 (y:Nat))
    have bNM:=(bNN.far (p:=⟨gW,k * 2,none⟩) (by dsimp only;omega) (.int .i64 (nxt l k y:Nat))).far (p:=⟨gW,k * 2 + 1,none⟩) (by dsimp only;omega) (.int .i64 (y:Nat))
    have bSM:=(bSN.far (p:=⟨gW,k * 2,none⟩) (by dsimp only;omega) (.int .i64 (nxt l k y:Nat))).far (p:=⟨gW,k * 2 + 1,none⟩) (by dsimp only;omega) (.int .i64 (y:Nat))
    have bFM:=blk_eq ((bFN.set (k * 2) (.int .i64 (nxt l k y:Nat))).set (k * 2 + 1) (.int .i64 (y:Nat))) WS.out
    have HBM:=(HBN.setCell (p:=⟨gW,k * 2,none⟩) hB2 (.int .i64 (nxt l k y:Nat))).setCell (p:=⟨gW,k * 2 + 1,none⟩) hB2 (.int .i64 (y:Nat))
    have rM:=(rN.drew.apart0 (p:=⟨gW,k * 2,none⟩) (fun h0 k' hk'=>(hA h0 k' hk').2) (.int .i64 (nxt l k y:Nat))).apart0 (p:=⟨gW,k * 2 + 1,none⟩) (fun h0 k' hk'=>(hA h0 k' hk').2) (.int .i64 (y:Nat))
    generalize (wm.drew.setCell ⟨gW,k * 2,none⟩ (.int .i64 (nxt l k y:Nat))).setCell ⟨gW,k * 2 + 1,none⟩ (.int .i64 (y:Nat)) = wz at *
    clear bCN bFN bNN bSN rN HBN hHeld hv4
    have nC:=bNM.cell_ y NC.out
    have nF:=bNM.frozen y
    go_wp2_with fail
    go_roundw
    case rel=>exact ⟨k + 1,by go_num,by omega,bCM.far (p:=⟨w.heap.size,y,none⟩) (by dsimp only;omega) _,bFM.far (p:=⟨w.heap.size,y,none⟩) (by dsimp only;omega) _,blk_eq (bNM.set y _) NS.out,bSM.far (p:=⟨w.heap.size,y,none⟩) (by dsimp only;omega) _,rM.below ((Below.refl w.heap.size wz).setCell (p:=⟨w.heap.size,y,none⟩) (Nat.le_refl _) _),HBM.setCell (p:=⟨w.heap.size,y,none⟩) hB3 _⟩
    case measure=>simp [intOf];omega
   ·have hx0:l[k] = 0:=by omega
    rw [hx0] at d0
    have e1:=wordsK_skip l k hkl hp
    have e2:=sortK_skip l k hkl hp
    have e3:=nxt_skip l k hkl hp
    rw [← e1] at bF
    rw [← e2] at bS
    rw [← e3] at bN
    clear e1 e2 e3 hp hx15 hx0
    go_wp2_with fail
    go_roundw
    case rel=>exact ⟨k + 1,by go_num,by omega,bC,bF,bN,bS,r,HB⟩
    case measure=>simp [intOf];omega
  ·have hkn2:k = n:=by omega
   have bF':Blk wr gW 228 (fcells (wordsF l)).toArray:=by rw [← wordsK_all,hl,← hkn2];exact bF
   have bS':Blk wr (w.heap.size + 1) 3 (ints (sortF l)).toArray:=by unfold sortF;rw [hl,← hkn2];exact bS
   clear bF bS
   go_wp2_with fail
   go_end0
   exact ⟨rfl,w.heap.size + 1,by omega,bC,bF',bS',HB⟩
end LenW
end Go.Proofs.YtnpncpoiiikafaaGreat
namespace Go.Proofs.YtnpncpoiiikafaaGreat
open Go.RowKit
namespace LenW
def CodeAt (w:World) (B g:Nat) (l:List Int):Prop:=∃ gW gS,B≤g∧B≤gW∧B≤gS ∧
 Blk w g 208 (codeC (.slice (some ⟨gW,0,none⟩) l.length l.length) (.slice (some ⟨gS,0,none⟩) (usedL l) (usedL l)) (tab (cntL l)) (tab (fstL l)) (tab (plcL l)) true) ∧
 Blk w gW 228 (fcells (wordsF l)).toArray∧Blk w gS 3 (ints (sortF l)).toArray
theorem new_any (A:Option Addr) (n c:Nat) (l:List Int) (w:World) (h:Rd w w.heap.size 1 A n (ints l)) (hn:n≤1000000) (hk:chkL l = 0) :
 Calls Tryz.prog 90 #[.slice A n c] w fun e w'=>∃ g,e = .returned (.tuple #[.pointer (some ⟨g,0,none⟩),.int .i64 0])∧CodeAt w' w.heap.size g l∧Below w.heap.size w w':=by
 have CK:=check_any A n c l w h hn 0 hk
 obtain ⟨h257,hok,hsum⟩:=chk0 hk
 have hl:l.length = n:=rd_len h
 have hn3:n≤257:=by omega
 have hmk:=run_made (P:=Tryz.prog) 205 228 (.agg #[.int .i64 0,.int .i64 0]) 2 16 Tryz.underlying205 (by kernel_rfl) n (by omega) (by omega) w
 rw [show (Value.agg #[.int .i64 0,.int .i64 0]).cells = #[.int .i64 0,.int .i64 0] from rfl,made_fields] at hmk
 go_enter Tryz.func90,Tryz.ntmps90
 go_wp2_with fail
 refine CK.mono ?_
 rintro e w1 ⟨rfl,rfl⟩
 go_wp2_with fail
 have bF:=(Blk.new w1 228 (fcells (List.replicate n (0,0))).toArray).alloc (.cells (codeC (.slice (some ⟨w1.heap.size,0,none⟩) n n) (.slice none 0 0) (tab fun _=>0) (tab fun _=>0) (tab fun _=>0) true) 208)
 have bC:=Blk.new (w1.alloc (.cells (fcells (List.replicate n (0,0))).toArray 228)) 208 (codeC (.slice (some ⟨w1.heap.size,0,none⟩) n n) (.slice none 0 0) (tab fun _=>0) (tab fun _=>0) (tab fun _=>0) true)
 rw [World.size_alloc] at bC
 have HB:Below w1.heap.size w1 ((w1.alloc (.cells (fcells (List.replicate n (0,0))).toArray 228)).alloc (.cells (codeC (.slice (some ⟨w1.heap.size,0,none⟩) n n) (.slice none 0 0) (tab fun _=>0) (tab fun _=>0) (tab fun _=>0) true) 208)):=((Below.refl _ w1).alloc (Nat.le_refl _) _).alloc (by simp) _
 go_loopw [21] (fun i wr=>∃ k:Nat,i = .int .i64 k∧k≤n∧Blk wr (w1.heap.size + 1) 208 (codeC (.slice (some ⟨w1.heap.size,0,none⟩) n n) (.slice none 0 0) (tab (cntL (l.take k))) (tab fun _=>0) (tab fun _=>0) true)∧Blk wr w1.heap.size 228 (fcells (List.replicate n (0,0))).toArray∧Below w1.heap.size w1 wr) (fun i _=>n - (intOf i).toNat)
 case atStart=>exact ⟨0,rfl,by omega,by rw [List.take_zero];exact bC,bF,HB⟩
 case round =>
  obtain ⟨k,rfl,hkn,bC2,bF2,HB2⟩:=hrel
  clear bC bF HB
  have hgl:=bC2.lt
  have hki0:(0:Int)≤(k:Int):=by omega
  by_cases hlt:k < n
  ·have hkl:k < l.length:=by omega
   obtain ⟨b,o,rfl,hb,hc⟩:=rd_ints (h.below HB2) (by omega)
   have d0:wr.cell? ⟨b,o + k,none⟩ = some (.int .i64 l[k]):=hc k hkl
   have hx15:=okL_at l k hkl hok
   have hsn:=cntL_snoc l k
   have hcl:=cntL_le (l.take k)
   have hki:(k:Int) < (n:Int):=by omega
   clear hc
   generalize hx:l[k] = x at *
   by_cases hp:0 < x
   ·obtain ⟨y,rfl⟩:=Int.eq_ofNat_of_zero_le (show 0≤x by omega)
    have hy:y < 16:=by omega
    have hyI:(y:Int) < 16:=by omega
    have hy0:(0:Int)≤(y:Int):=by omega
    have hset:(tab (cntL (l.take k))).set y ((cntL (l.take k) y:Int) + 1) = tab (cntL (l.take (k + 1))) :=
     tab_set _ _ y _ (by rw [hsn y hkl,if_pos ⟨by omega,by omega⟩];push_cast;omega) (fun j _ hj=>by rw [hsn j hkl,if_neg (by omega)];omega)
    have hct:cntL (l.take k) y≤257:=by have:=hcl y;rw [List.length_take] at this;omega
    have hw3:IntKind.i64.wrap ((cntL (l.take k) y:Int) + 1) = (cntL (l.take k) y:Int) + 1:=w64k (by omega) (by omega)
    have CS:=Lib.hid ((congrArg (fun z=>(codeC (.slice (some ⟨w1.heap.size,0,none⟩) n n) (.slice none 0 0) (tab (cntL (l.take k))) (tab fun _=>0) (tab fun _=>0) true).setIfInBounds (2 + y) (.int .i64 z)) hw3).trans ((code_cset (W:=.slice (some ⟨w1.heap.size,0,none⟩) n n) (S:=.slice none 0 0) (fs:=tab fun _=>0) (ps:=tab fun _=>0) (m:=true) (tab_len (cntL (l.take k))) y hy ((cntL (l.take k) y:Int) + 1)).trans (by rw [hset])))
    have HW3:=Lib.hid hw3
    clear hw3
    have CC:=Lib.hid ((code_c (W:=.slice (some ⟨w1.heap.size,0,none⟩) n n) (S:=.slice none 0 0) (fs:=tab fun _=>0) (ps:=tab fun _=>0) (m:=true) (tab_len (cntL (l.take k))) y hy).trans (by rw [tab_at _ y hy]))
    generalize cntL (l.take k) y = ct at *
    clear hset hsn hcl hx
    go_wp2_with fail
    have HB:=HB2
    have bC:=bC2
    have bF:=bF2
    refine wp_region_held_drew (S:=(fun w'=>w'.cell? ⟨w1.heap.size + 1,0,none⟩ = some (.slice (some ⟨w1.heap.size,0,none⟩) n n))) (by kernel_rfl) ?_ (fun hHeld=>?_)
    ·replace HB:=Below.drew HB;replace bC:=Blk.drew bC;replace bF:=Blk.drew bF;(try dsimp only);exact bC.cell_ 0 rfl
    replace HB:=Below.drew HB
    replace bC:=Blk.drew bC
    replace bF:=Blk.drew bF
    have zHB:=HB.size
    refine zM 0 (.tmp 5) ?_
    refine zM 1 (.tmp 7) ?_
    refine zO 2 (.nilCheck (.tmp 27)) 0 ?_
    refine zO 3 (.fieldAddr 208 (.tmp 29) 2) 0 ?_
    refine zO 4 (.indexAddr 206 (.tmp 30) (.tmp 28)) 0 ?_
    refine zO 7 (.nilCheck (.tmp 27)) 0 ?_
    refine zO 8 (.fieldAddr 208 (.tmp 34) 2) 0 ?_
    refine zR 5 (fun K5 hK5=>?_)
    refine take_any 5 (Op.load 3 (Operand.tmp 31)) 3 rfl rfl rfl (by kernel_rfl) (v:=.int .i64 ct) (by have cL:=bC.cell_ (2 + y) CC.out;go_simp;try (with_reducible rfl)) ?_
    refine hK5.out _ _ ?su2x5 (fun hHeld=>?ru2x5)
    case su2x5=>((try dsimp only);exact bC.cell_ 0 rfl)
    try simp only [zSa,zSb,zSc]
    refine zO 6 (.binOp .add 3 (.tmp 32) (.const (Value.int IntKind.i64 1)) 3) 3 ?_
    refine zO 9 (.indexAddr 206 (.tmp 35) (.tmp 28)) 0 ?_
    refine zR 10 (fun K10 hK10=>?_)
    refine take_store 10 (Op.store 3 (Operand.tmp 36) (Operand.tmp 33)) 0 rfl rfl rfl (by kernel_rfl) (w':=wr.drew.setCell ⟨w1.heap.size + 1,2 + y,none⟩ (.int .i64 (IntKind.i64.wrap ((ct:Int) + 1)))) (by have cL:=bC.cell_ (2 + y) CC.out;have fL:=bC.frozen (2 + y);go_simp;try (with_reducible rfl)) ?_
    refine hK10.out _ _ ((blk_eq (bC.set (2 + y) (.int .i64 (IntKind.i64.wrap ((ct:Int) + 1)))) CS.out).cell_ 0 rfl) (fun hHeld=>?_)
    refine wpAnyH_done (by kernel_rfl) ?_ _
    have bCN:=blk_eq (bC.set (2 + y) (.int .i64 (IntKind.i64.wrap ((ct:Int) + 1)))) CS.out
    have bFN:=bF.far (p:=⟨w1.heap.size + 1,2 + y,none⟩) (by dsimp only;omega) (.int .i64 (IntKind.i64.wrap ((ct:Int) + 1)))
    have HBN:=HB.setCell (p:=⟨w1.heap.size + 1,2 + y,none⟩) (by dsimp only;omega) (.int .i64 (IntKind.i64.wrap ((ct:Int) + 1)))
    go_wp2_with fail
    go_roundw
    case rel =>
     rw [HW3.out] at bCN bFN HBN
     exact ⟨k + 1,by go_num,by omega,bCN,bFN,HBN⟩
    case measure=>simp [intOf];omega
   ·have hset:tab (cntL (l.take (k + 1))) = tab (cntL (l.take k)):=tab_ext _ _ fun j _=>by rw [hsn j hkl,if_neg (by omega)];omega
    rw [← hset] at bC2
    clear hset hsn hcl hx
    go_wp2_with fail
    go_roundw
    case rel=>exact ⟨k + 1,by go_num,by omega,bC2,bF2,HB2⟩
    case measure=>simp [intOf];omega
  ·have hz:l.take k = l:=List.take_of_length_le (by omega)
   rw [hz] at bC2
   clear hz
   have hf1:tab (upTo (fstL l) 1) = tab (fun _=>0):=tab_ext _ _ fun j _=>by
    unfold upTo
    split
    ·rw [show j = 0 from by omega];rfl
    ·rfl
   have hp1:tab (upTo (plcL l) 1) = tab (fun _=>0):=tab_ext _ _ fun j _=>by
    unfold upTo
    split
    ·rw [show j = 0 from by omega];exact plcL_zero l
    ·rfl
   have bC3:Blk wr (w1.heap.size + 1) 208 (codeC (.slice (some ⟨w1.heap.size,0,none⟩) n n) (.slice none 0 0) (tab (cntL l)) (tab (upTo (fstL l) 1)) (tab (upTo (plcL l) 1)) true):=by rw [hf1,hp1];exact bC2
   clear hf1 hp1 bC2
   go_wp2_with fail
   go_loopw [8] (fun i ws=>∃ k:Nat,i = .int .i64 k∧1≤k∧k≤16∧Blk ws (w1.heap.size + 1) 208 (codeC (.slice (some ⟨w1.heap.size,0,none⟩) n n) (.slice none 0 0) (tab (cntL l)) (tab (upTo (fstL l) k)) (tab (upTo (plcL l) k)) true)∧Blk ws w1.heap.size 228 (fcells (List.replicate n (0,0))).toArray∧Below w1.heap.size w1 ws) (fun i _=>16 - (intOf i).toNat)
   case atStart=>exact ⟨1,rfl,by omega,by omega,bC3,bF2,HB2⟩
   case round =>
    obtain ⟨k,rfl,hk1,hk16,bC4,bF4,HB4⟩:=hrel
    clear bC3 bF2 HB2
    have hgs:=bC4.lt
    by_cases hle:k≤15
    ·obtain ⟨j,rfl⟩:∃ j,k = j + 1:=⟨k - 1,by omega⟩
     have hj:j < 16:=by omega
     have hj1:j + 1 < 16:=by omega
     have hkI:((j + 1:Nat):Int)≤15:=by omega
     have hfb:fstL l j≤20000000:=by
      have h1:=fstL_le l j
      have h2:2 * l.length * 2 ^ j≤514 * 32768:=Nat.mul_le_mul (by omega) (Nat.pow_le_pow_right (n:=2) (by omega) (show j≤15 by omega))
      omega
     have hcb:cntL l j≤257:=by have:=cntL_le l j;omega
     have hpb:plcL l j≤257:=by have:=plcL_le l j;have:=usedL_le l;omega
     have hfs:(tab (upTo (fstL l) (j + 1))).set (j + 1) ((2 * (fstL l j + cntL l j):Nat):Int) = tab (upTo (fstL l) (j + 1 + 1)) :=
      tab_set _ _ (j + 1) _ (by unfold upTo;rw [if_pos (by omega)];rfl) (fun i _ hi=>by unfold upTo;split <;> split <;> first | rfl | omega)
     have hps:(tab (upTo (plcL l) (j + 1))).set (j + 1) ((plcL l j + cntL l j:Nat):Int) = tab (upTo (plcL l) (j + 1 + 1)) :=
      tab_set _ _ (j + 1) _ (by unfold upTo;rw [if_pos (by omega),plcL_succ]) (fun i _ hi=>by unfold upTo;split <;> split <;> first | rfl | omega)
     have CF:=Lib.hid (fun ps=>(code_f (W:=.slice (some ⟨w1.heap.size,0,none⟩) n n) (S:=.slice none 0 0) (ps:=ps) (m:=true) (tab_len (cntL l)) (tab_len (upTo (fstL l) (j + 1))) j hj).trans (by rw [tab_at _ j hj,upTo,if_pos (by omega)]))
     have CFN:=Lib.hid (fun ps=>(code_f (W:=(.slice (some ⟨w1.heap.size,0,none⟩) n n)) (S:=.slice none 0 0) (ps:=ps) (m:=true) (tab_len (cntL l)) (tab_len (upTo (fstL l) (j + 1 + 1))) j hj).trans (by rw [tab_at _ j hj,upTo,if_pos (by omega)]))
     have CPN:=Lib.hid (fun fs (hfl:fs.length = 16)=>(code_p (W:=(.slice (some ⟨w1.heap.size,0,none⟩) n n)) (S:=.slice none 0 0) (fs:=fs) (m:=true) (tab_len (cntL l)) hfl (tab_len (upTo (plcL l) (j + 1 + 1))) j hj).trans (by rw [tab_at _ j hj,upTo,if_pos (by omega)]))
     have CC:=Lib.hid (fun fs ps=>(code_c (W:=.slice (some ⟨w1.heap.size,0,none⟩) n n) (S:=.slice none 0 0) (fs:=fs) (ps:=ps) (m:=true) (tab_len (cntL l)) j hj).trans (by rw [tab_at _ j hj]))
     have CP:=Lib.hid (fun fs (hfl:fs.length = 16)=>(code_p (W:=.slice (some ⟨w1.heap.size,0,none⟩) n n) (S:=.slice none 0 0) (fs:=fs) (m:=true) (tab_len (cntL l)) hfl (tab_len (upTo (plcL l) (j + 1))) j hj).trans (by rw [tab_at _ j hj,upTo,if_pos (by omega)]))
     have hw2:IntKind.i64.wrap (((fstL l j:Int) + (cntL l j:Int)) * 2) = ((2 * (fstL l j + cntL l j):Nat):Int):=(w64k (by omega) (by omega)).trans (by push_cast;omega)
     have hw4:(plcL l j:Int) + (cntL l j:Int) = ((plcL l j + cntL l j:Nat):Int):=by push_cast;omega
     have CF1:=Lib.hid (fun ps=>code_f (W:=(.slice (some ⟨w1.heap.size,0,none⟩) n n)) (S:=.slice none 0 0) (ps:=ps) (m:=true) (tab_len (cntL l)) (tab_len (upTo (fstL l) (j + 1))) (j + 1) hj1)
     have CP1:=Lib.hid (fun fs (hfl:fs.length = 16)=>code_p (W:=(.slice (some ⟨w1.heap.size,0,none⟩) n n)) (S:=.slice none 0 0) (fs:=fs) (m:=true) (tab_len (cntL l)) hfl (tab_len (upTo (plcL l) (j + 1))) (j + 1) hj1)
     have CS1:=Lib.hid (fun ps=>(congrArg (fun z=>(codeC (.slice (some ⟨w1.heap.size,0,none⟩) n n) (.slice none 0 0) (tab (cntL l)) (tab (upTo (fstL l) (j + 1))) ps true).setIfInBounds (18 + (j + 1)) (.int .i64 z)) hw2).trans ((code_fset (W:=(.slice (some ⟨w1.heap.size,0,none⟩) n n)) (S:=.slice none 0 0) (ps:=ps) (m:=true) (tab_len (cntL l)) (tab_len (upTo (fstL l) (j + 1))) (j + 1) hj1 _).trans (by rw [hfs])))
     have CS2:=Lib.hid (fun fs (hfl:fs.length = 16)=>(congrArg (fun z=>(codeC (.slice (some ⟨w1.heap.size,0,none⟩) n n) (.slice none 0 0) (tab (cntL l)) fs (tab (upTo (plcL l) (j + 1))) true).setIfInBounds (34 + (j + 1)) (.int .i64 z)) hw4).trans ((code_pset (W:=(.slice (some ⟨w1.heap.size,0,none⟩) n n)) (S:=.slice none 0 0) (fs:=fs) (m:=true) (tab_len (cntL l)) hfl (tab_len (upTo (plcL l) (j + 1))) (j + 1) hj1 _).trans (by rw [hps])))
     clear hw2 hw4 hfs hps
     have hwj:IntKind.i64.wrap (j:Int) = (j:Int):=w64k (by omega) (by omega)
     have hwj1:IntKind.i64.wrap ((j:Int) + 1) = (j:Int) + 1:=w64k (by omega) (by omega)
     have hwf:IntKind.i64.wrap ((fstL l j:Int) + (cntL l j:Int)) = (fstL l j:Int) + (cntL l j:Int):=w64k (by omega) (by omega)
     have HWP:=Lib.hid (show IntKind.i64.wrap ((plcL l j:Int) + (cntL l j:Int)) = (plcL l j:Int) + (cntL l j:Int) from w64k (by omega) (by omega))
     have hjI:(j:Int) < 16:=by omega
     have hjI1:(j:Int) + 1 < 16:=by omega
     have hj0:(0:Int)≤(j:Int):=by omega
     have hj10:(0:Int)≤(j:Int) + 1:=by omega
     have htn:((j:Int) + 1).toNat = j + 1:=by omega
     have HB:=HB4
     have bC:=bC4
     have bF:=bF4
     go_wp2_with fail
     refine wp_region_held_drew (S:=(fun w'=>w'.cell? ⟨w1.heap.size + 1,18 + j,none⟩ = some (.int .i64 (fstL l j))∧w'.cell? ⟨w1.heap.size + 1,2 + j,none⟩ = some (.int .i64 (cntL l j)))) (by kernel_rfl) ?_ (fun hHeld=>?_)
     ·replace HB:=Below.drew HB;replace bC:=Blk.drew bC;replace bF:=Blk.drew bF;(try dsimp only);exact ⟨bC.cell_ (18 + j) (CF.out _),bC.cell_ (2 + j) (CC.out _ _)⟩
     replace HB:=Below.drew HB
     replace bC:=Blk.drew bC
     replace bF:=Blk.drew bF
     have zHB:=HB.size
     refine zM 0 (.tmp 5) ?_
     refine zM 1 (.tmp 8) ?_
     refine zM 2 (.tmp 5) ?_
     refine zM 3 (.tmp 8) ?_
     refine zO 4 (.binOp .sub 3 (.tmp 45) (.const (Value.int IntKind.i64 1)) 3) 3 ?_
     refine zO 5 (.nilCheck (.tmp 44)) 0 ?_
     refine zO 6 (.fieldAddr 208 (.tmp 47) 3) 0 ?_
     refine zO 7 (.indexAddr 206 (.tmp 48) (.tmp 46)) 0 ?_
     refine zO 8 (.load 3 (.tmp 49)) 3 ?_
     refine zM 9 (.tmp 5) ?_
     refine zM 10 (.tmp 8) ?_
     refine zO 11 (.binOp .sub 3 (.tmp 52) (.const (Value.int IntKind.i64 1)) 3) 3 ?_
     refine zO 12 (.nilCheck (.tmp 51)) 0 ?_
     refine zO 13 (.fieldAddr 208 (.tmp 54) 2) 0 ?_
     refine zO 14 (.indexAddr 206 (.tmp 55) (.tmp 53)) 0 ?_
     refine zO 15 (.load 3 (.tmp 56)) 3 ?_
     refine zO 16 (.binOp .add 3 (.tmp 50) (.tmp 57) 3) 3 ?_
     refine zO 17 (.binOp .shl 3 (.tmp 58) (.const (Value.int IntKind.u64 1)) 209) 3 ?_
     refine zO 18 (.nilCheck (.tmp 42)) 0 ?_
     refine zO 19 (.fieldAddr 208 (.tmp 60) 3) 0 ?_
     refine zO 20 (.indexAddr 206 (.tmp 61) (.tmp 43)) 0 ?_
     refine zR 21 (fun K21 hK21=>?_)
     refine take_store 21 (Op.store 3 (Operand.tmp 62) (Operand.tmp 59)) 0 rfl rfl rfl (by kernel_rfl) (w':=wr.drew.setCell ⟨w1.heap.size + 1,18 + (j + 1),none⟩ (.int .i64 (IntKind.i64.wrap (((fstL l j:Int) + (cntL l j:Int)) * 2)))) (by have cL:=bC.cell_ (18 + (j + 1)) (CF1.out _);have fL:=bC.frozen (18 + (j + 1));go_simp;try (with_reducible rfl)) ?_
     refine hK21.out _ _ (⟨(blk_eq (bC.set (18 + (j + 1)) _) (CS1.out _)).cell_ (18 + j) (CFN.out _),(blk_eq (bC.set (18 + (j + 1)) _) (CS1.out _)).cell_ (2 + j) (CC.out _ _)⟩) (fun hHeld=>?_)
     refine wpAnyH_done (by kernel_rfl) ?_ _
     have bCN:=blk_eq (bC.set (18 + (j + 1)) (.int .i64 (IntKind.i64.wrap (((fstL l j:Int) + (cntL l j:Int)) * 2)))) (CS1.out _)
     have bFN:=bF.far (p:=⟨w1.heap.size + 1,18 + (j + 1),none⟩) (by dsimp only;omega) (.int .i64 (IntKind.i64.wrap (((fstL l j:Int) + (cntL l j:Int)) * 2)))
     have HBN:=HB.setCell (p:=⟨w1.heap.size + 1,18 + (j + 1),none⟩) (by dsimp only;omega) (.int .i64 (IntKind.i64.wrap (((fstL l j:Int) + (cntL l j:Int)) * 2)))
     generalize wr.drew.setCell ⟨w1.heap.size + 1,18 + (j + 1),none⟩ (.int .i64 (IntKind.i64.wrap (((fstL l j:Int) + (cntL l j:Int)) * 2))) = wm at *
     clear bC bF HB hHeld
     have hgm:=bCN.lt
     go_wp2_with fail
     have hwp:=HWP.out
     clear hwf
     refine wp_region_held_drew (S:=(fun w'=>w'.cell? ⟨w1.heap.size + 1,34 + j,none⟩ = some (.int .i64 (plcL l j))∧w'.cell? ⟨w1.heap.size + 1,2 + j,none⟩ = some (.int .i64 (cntL l j)))) (by kernel_rfl) ?_ (fun hHeld=>?_)
     ·replace HBN:=Below.drew HBN;replace bCN:=Blk.drew bCN;replace bFN:=Blk.drew bFN;(try dsimp only);exact ⟨bCN.cell_ (34 + j) (CP.out _ (tab_len _)),bCN.cell_ (2 + j) (CC.out _ _)⟩
     replace HBN:=Below.drew HBN
     replace bCN:=Blk.drew bCN
     replace bFN:=Blk.drew bFN
     have zHBN:=HBN.size
     refine zM 0 (.tmp 5) ?_
     refine zM 1 (.tmp 8) ?_
     refine zM 2 (.tmp 5) ?_
     refine zM 3 (.tmp 8) ?_
     refine zO 4 (.binOp .sub 3 (.tmp 66) (.const (Value.int IntKind.i64 1)) 3) 3 ?_
     refine zO 5 (.nilCheck (.tmp 65)) 0 ?_
     refine zO 6 (.fieldAddr 208 (.tmp 68) 4) 0 ?_
     refine zO 7 (.indexAddr 206 (.tmp 69) (.tmp 67)) 0 ?_
     refine zO 8 (.load 3 (.tmp 70)) 3 ?_
     refine zM 9 (.tmp 5) ?_
     refine zM 10 (.tmp 8) ?_
     refine zO 11 (.binOp .sub 3 (.tmp 73) (.const (Value.int IntKind.i64 1)) 3) 3 ?_
     refine zO 12 (.nilCheck (.tmp 72)) 0 ?_
     refine zO 13 (.fieldAddr 208 (.tmp 75) 2) 0 ?_
     refine zO 14 (.indexAddr 206 (.tmp 76) (.tmp 74)) 0 ?_
     refine zO 15 (.load 3 (.tmp 77)) 3 ?_
     refine zO 16 (.binOp .add 3 (.tmp 71) (.tmp 78) 3) 3 ?_
     refine zO 17 (.nilCheck (.tmp 63)) 0 ?_
     refine zO 18 (.fieldAddr 208 (.tmp 80) 4) 0 ?_
     refine zO 19 (.indexAddr 206 (.tmp 81) (.tmp 64)) 0 ?_
     refine zR 20 (fun K20 hK20=>?_)
     refine take_store 20 (Op.store 3 (Operand.tmp 82) (Operand.tmp 79)) 0 rfl rfl rfl (by kernel_rfl) (w':=wm.drew.setCell ⟨w1.heap.size + 1,34 + (j + 1),none⟩ (.int .i64 ((plcL l j:Int) + (cntL l j:Int)))) (by have cL:=bCN.cell_ (34 + (j + 1)) (CP1.out _ (tab_len _));have fL:=bCN.frozen (34 + (j + 1));go_simp;try (with_reducible rfl)) ?_
     refine hK20.out _ _ (⟨(blk_eq (bCN.set (34 + (j + 1)) _) (CS2.out _ (tab_len _))).cell_ (34 + j) (CPN.out _ (tab_len _)),(blk_eq (bCN.set (34 + (j + 1)) _) (CS2.out _ (tab_len _))).cell_ (2 + j) (CC.out _ _)⟩) (fun hHeld=>?_)
     refine wpAnyH_done (by kernel_rfl) ?_ _
     have bCM:=blk_eq (bCN.set (34 + (j + 1)) (.int .i64 ((plcL l j:Int) + (cntL l j:Int)))) (CS2.out _ (tab_len _))
     have bFM:=bFN.far (p:=⟨w1.heap.size + 1,34 + (j + 1),none⟩) (by dsimp only;omega) (.int .i64 ((plcL l j:Int) + (cntL l j:Int)))
     have HBM:=HBN.setCell (p:=⟨w1.heap.size + 1,34 + (j + 1),none⟩) (by dsimp only;omega) (.int .i64 ((plcL l j:Int) + (cntL l j:Int)))
     generalize wm.drew.setCell ⟨w1.heap.size + 1,34 + (j + 1),none⟩ (.int .i64 ((plcL l j:Int) + (cntL l j:Int))) = wz at *
     clear bCN bFN HBN hHeld hwj hwj1 hwp
     go_wp2_with fail
     go_roundw
     case rel=>exact ⟨j + 1 + 1,by go_num,by omega,by omega,bCM,bFM,HBM⟩
     case measure=>simp [intOf];omega
    ·have hk6:k = 16:=by omega
     subst hk6
     have hfu:tab (upTo (fstL l) 16) = tab (fstL l):=tab_ext _ _ fun j hj=>by unfold upTo;rw [if_pos hj]
     have hpu:tab (upTo (plcL l) 16) = tab (plcL l):=tab_ext _ _ fun j hj=>by unfold upTo;rw [if_pos hj]
     rw [hfu,hpu] at bC4
     clear hfu hpu
     have hfb:∀ j,j < 16 → fstL l j≤20000000:=fun j hj=>by
      have h1:=fstL_le l j
      have h2:2 * l.length * 2 ^ j≤514 * 32768:=Nat.mul_le_mul (by omega) (Nat.pow_le_pow_right (n:=2) (by omega) (show j≤15 by omega))
      omega
     have hA:0 < n → ∀ k,blkOf A = some k → k ≠ w1.heap.size + 1∧k ≠ w1.heap.size:=fun h0 k hk2=>by
      obtain ⟨b,o,rfl,hb,_⟩:=h.at_ h0
      simp only [blkOf,Option.map_some,Option.some.injEq] at hk2
      omega
     have CN:=number_any A n c (w1.heap.size + 1) w1.heap.size l wr hk ((h.below HB4).more HB4.size) hn3 hA w1.heap.size (by omega) (by omega) HB4.size hfb (by omega) bC4 bF4
     clear bF4
     go_wp2_with fail
     refine CN.mono ?_
     rintro e w5 ⟨rfl,gS,hgS,b1,b2,b3,HB5⟩
     go_wp2_with fail
     go_ret2
     refine ⟨w1.heap.size + 1,rfl,⟨w1.heap.size,gS,by omega,by omega,by have:=HB4.size;omega,?_,b2,b3⟩,HB4.trans HB5⟩
     rw [hl]
     exact b1
end LenW
end Go.Proofs.YtnpncpoiiikafaaGreat
