/- SuE -/
import Derived.Test.YtnpncpoiiikafaaGreatSuDQt
import Derived.StillTailTactics
import Derived.Test.YtnpncpoiiikafaaGreatFrontWQt
set_option linter.unusedVariables false
set_option linter.unusedSimpArgs false
set_option linter.unnecessarySimpa false
set_option maxRecDepth 100000
set_option maxHeartbeats 32000000
namespace Go.Proofs.YtnpncpoiiikafaaGreat
open Go.RowKit
namespace SufW
theorem letters_at (s:List UInt8) (p:Nat) (h:p < s.length):rkOf (letters s) p = s[p].toNat + 1:=by
 rw [rkOf,letters,List.getElem?_append_left (by simpa using h),List.getElem?_map,List.getElem?_eq_getElem h]
 rfl
theorem letters_last (s:List UInt8):rkOf (letters s) s.length = 0:=by simp [rkOf,letters]
theorem letters_le (s:List UInt8) (p:Nat):rkOf (letters s) p≤256:=by
 by_cases h:p < s.length
 ·rw [letters_at s p h];have:=UInt8.toNat_lt s[p];omega
 ·by_cases e:p = s.length
  ·subst e;rw [letters_last];omega
  ·unfold rkOf
   rw [List.getElem?_eq_none (by rw [letters_len];omega)]
   simp
theorem letters_mem (s:List UInt8):∀ x ∈ letters s,x≤256:=by
 intro x hx
 obtain ⟨i,hi,rfl⟩:=List.getElem_of_mem hx
 have:=letters_le s i
 rw [rkOf,List.getElem?_eq_getElem hi] at this
 exact this
theorem letter_any (g:Nat) (s:List UInt8) (w:World) (h:Blk w g 9 #[str s]) (hn:s.length≤100000) (p:Nat) (hp:p≤s.length) :
 Calls Tryz.prog 177 #[.int .i64 p,.pointer (some ⟨g,0,none⟩)] w fun e w'=>e = .returned (.int .i64 (rkOf (letters s) p:Nat))∧w = w':=by
 obtain ⟨c0,_,_⟩:=blk1 h
 by_cases e:p = s.length
 ·rw [e,letters_last]
  subst e
  go_enter Tryz.func177,Tryz.ntmps177
  go_wp2_with fail
  go_ret
  exact ⟨rfl,rfl⟩
 ·have hlt:p < s.length:=by omega
  rw [letters_at s p hlt]
  have hne:¬ (p:Int) = (s.length:Int):=by omega
  have hp0:(0:Int)≤(p:Int):=by omega
  have hpn:(p:Int) < (s.length:Int):=by omega
  have hb:=UInt8.toNat_lt s[p]
  have hw:IntKind.i64.wrap ((s[p].toNat:Int)) = (s[p].toNat:Int):=w64s (by omega) (by omega)
  have hw1:IntKind.i64.wrap ((s[p].toNat:Int) + 1) = (s[p].toNat:Int) + 1:=w64s (by omega) (by omega)
  go_enter Tryz.func177,Tryz.ntmps177
  go_wp2_with fail
  go_ret
  refine ⟨?_,rfl⟩
  have e1:wrap64 (wrap64 ((s[p].toNat:Nat):Int) + 1) = ((s[p].toNat + 1:Nat):Int):=by unfold wrap64;omega
  exact congrArg (fun z=>Ending.returned (.int .i64 z)) e1
theorem keyL (g:Nat) (s:List UInt8) (w:World) (h:Blk w g 9 #[str s]) (hn:s.length≤100000) (l:List Nat) (hl:∀ p ∈ l,p≤s.length):KeyF w 177 #[.pointer (some ⟨g,0,none⟩)] l (rkOf (letters s)) :=
 ⟨fun args w=>run_enter Tryz.func177 (by kernel_rfl) rfl args w,fun p hp w' hb=>(letter_any g s w' (h.below hb h.lt) hn p (hl p hp)).mono fun e w2 ⟨h1,h2⟩=>⟨h1,by subst h2;exact Below.refl _ _⟩⟩
structure AI (T:List Nat) (L:Nat) (A R:List Nat) (d:Nat → Nat → Bool):Prop where
 arr:Arr T L A
 hd:∀ p q,p < T.length → q < T.length → (d p q = true ↔ pre T L p ≠ pre T L q)
 nx:NxI d A R A.length
theorem AI.rank {T A R:List Nat} {L:Nat} {d:Nat → Nat → Bool} (h:AI T L A R d):RankOf T L (rkOf R):=nx_rank h.arr h.hd h.nx
theorem AI.next {T A R N:List Nat} {L n:Nat} {d:Nat → Nat → Bool} (h:AI T L A R d) (hL:1≤L) (hn:T.length = n) (hN:NxI (dTwo n L (rkOf R)) (twoA n L R A) N n):AI T (L + L) (twoA n L R A) N (dTwo n L (rkOf R)):=by
 subst hn
 have h2:=arr_two hL h.rank h.arr
 exact ⟨h2,dTwo_iff h.rank hL,by have:=h2.len;rw [show (twoA T.length L R A).length = T.length from this];exact hN⟩
theorem array_any (s:List UInt8) (w:World) (hs:s.length≤20000) :
 Calls Tryz.prog 149 #[str s] w fun e w'=>∃ (g:Nat) (A:List Nat),e = .returned (.tuple #[.slice (some ⟨g,0,none⟩) (s.length + 1) (s.length + 1),.int .i64 0])∧Blk w' g 3 (nt A).toArray∧Sa (letters s) A∧Below w.heap.size w w':=by
 have hmf:∀ (fn:Fn) (first cap:Array Value) (w:World),(Instr.makeFunc fn first cap).run Tryz.prog w = .ok (.func fn first cap) w:=fun _ _ _ _=>rfl
 have hI:¬ (20000:Int) < (s.length:Int):=by omega
 obtain ⟨m,hm⟩:∃ m,s.length + 1 = m:=⟨_,rfl⟩
 have hnw:IntKind.i64.wrap ((s.length:Int) + 1) = (m:Int):=by rw [w64s (by omega) (by omega)];omega
 obtain ⟨T,hT⟩:∃ T,letters s = T:=⟨_,rfl⟩
 have hTl:T.length = m:=by rw [← hT,letters_len];exact hm
 have A1:=arr_one T 256 (by rw [← hT];exact letters_mem s)
 have hin:∀ p,p < m → p≤s.length:=fun p hp=>by omega
 rw [hTl] at A1
 obtain ⟨u,hu⟩:∃ u,csort (rkOf T) 256 (List.range m) = u:=⟨_,rfl⟩
 have A1':Arr T 1 u:=by rw [← hu];exact A1
 have hm1:1≤m:=by omega
 have hm2:m≤20001:=by omega
 have B0:=Blk.new w 9 #[str s]
 obtain ⟨s0,hs0⟩:∃ s0,w.heap.size = s0:=⟨_,rfl⟩
 obtain ⟨w0,hw0⟩:∃ w0,w.alloc (.cells #[str s] 9) = w0:=⟨_,rfl⟩
 have HB0:Below w.heap.size w w0:=by rw [← hw0];exact (Below.refl w.heap.size w).alloc (Nat.le_refl _) _
 have hz0:s0 < w0.heap.size:=by rw [← hw0,World.size_alloc];omega
 rw [hw0,hs0] at B0
 obtain ⟨c0,_,_⟩:=blk1 B0
 have C:=upto_any m (by omega) w0
 rw [hm]
 have HM:=Lib.hid hm
 have HT:=Lib.hid hT
 have HTL:=Lib.hid hTl
 have HU:=Lib.hid hu
 have HIN:=Lib.hid hin
 clear hm hT hTl hu hin A1
 go_enter Tryz.func149,Tryz.ntmps149
 go_wp2_with fail
 refine C.mono ?_
 clear C
 rintro e w1 ⟨rfl,bU,hb1⟩
 have hlr:(List.range m).length = m:=List.length_range
 have B1:=B0.below hb1 hz0
 have C:=counted_at (256:Int) (some ⟨w0.heap.size,0,none⟩) m m (List.range m) (rkOf T) 256 rfl 177 #[.pointer (some ⟨s0,0,none⟩)] w1 (rd_nt bU hlr) (by omega) (by omega) (fun p _=>by rw [← HT.out];exact letters_le s p) (by rw [← HT.out];exact keyL s0 s w1 B1 (by omega) _ (fun p hp=>HIN.out p (List.mem_range.1 hp)))
 rw [HU.out] at C
 have HBB:=HB0.trans (hb1.mono HB0.size)
 clear hw0 hb1 bU hlr B0 hnw
 go_wp2_with fail
 refine C.mono ?_
 clear C
 rintro e w2 ⟨g1,rfl,hg1,b1,hb2⟩
 have B2:=B1.below hb2 B1.lt
 have HB2:=HBB.trans (hb2.mono HBB.size)
 have hsg:s0 < g1:=Nat.lt_of_lt_of_le B1.lt hg1
 have hmk:=made_nt m (by omega) w2
 obtain ⟨g2,hg2⟩:∃ g2,w2.heap.size = g2:=⟨_,rfl⟩
 obtain ⟨w3,hw3⟩:∃ w3,w2.alloc (.cells (nt (List.replicate m 0)).toArray 3) = w3:=⟨_,rfl⟩
 have hHB3:=(Below.refl w2.heap.size w2).alloc (Nat.le_refl _) (.cells (nt (List.replicate m 0)).toArray 3)
 have b2:=Blk.new w2 3 (nt (List.replicate m 0)).toArray
 rw [hw3] at hmk hHB3 b2
 rw [hg2] at hmk b2
 have b1':=b1.below hHB3 b1.lt
 have hlt1:g1 < g2:=by rw [← hg2];exact b1.lt
 have B3:=B2.below hHB3 B2.lt
 have HB3:=HB2.trans (hHB3.mono HB2.size)
 have hz30:w.heap.size≤g2:=by rw [← hg2];exact HB2.size
 have hul:=A1'.len
 have HUL:=Lib.hid (show u.length = m by rw [hul,HTL.out])
 have UM:=Lib.hid (show ∀ p,p ∈ u ↔ p < m by intro p;rw [A1'.mem,HTL.out])
 have UN:=Lib.hid A1'.nodup
 have NX0:NxI (dOne T) u (List.replicate m 0) 1:=by
  have:=nx_zero (dOne T) u (fun p hp=>by rw [HUL.out];exact (UM.out p).1 hp)
  rwa [HUL.out] at this
 clear hw3 hHB3 hg2 b1 B2 HB2 hb2 B1 HBB hg1 c0 hz0 hul
 go_wp2_with fail
 go_loopw [8] (fun iv wr=>∃ (k:Nat) (N:List Nat),k + 1≤m∧iv = .int .i64 ((k + 1:Nat):Int)∧NxI (dOne T) u N (k + 1)∧Blk wr g1 3 (nt u).toArray∧Blk wr g2 3 (nt N).toArray∧Blk wr s0 9 #[str s]∧Below w.heap.size w wr) (fun iv _=>m - (intOf iv).toNat)
 case atStart=>exact ⟨0,_,by omega,rfl,NX0,b1',b2,B3,HB3⟩
 case round =>
  clear hmk NX0 b1' b2 B3 HB3
  obtain ⟨k,N,hk,rfl,nx,b7,b8,bS,HB⟩:=hrel
  have HNL:=Lib.hid nx.len
  have hz0:=HB.size
  by_cases hlt:k + 1 < m
  ·have hkl:k + 1 < u.length:=by rw [HUL.out];exact hlt
   obtain ⟨p,hp⟩:∃ p,u[k]'(by omega) = p:=⟨_,rfl⟩
   obtain ⟨q,hq⟩:∃ q,u[k + 1] = q:=⟨_,rfl⟩
   have hpn:p < m:=(UM.out p).1 (by rw [← hp];exact List.getElem_mem _)
   have hqn:q < m:=(UM.out q).1 (by rw [← hq];exact List.getElem_mem _)
   obtain ⟨z,hz⟩:∃ z,drank (dOne T) u k = z:=⟨_,rfl⟩
   have hzk:z≤k:=by rw [← hz];exact drank_le _ u k
   have DR:=drank_step (dOne T) u (k + 1) (by omega) hkl
   simp only [Nat.add_sub_cancel] at DR
   rw [hp,hq,hz] at DR
   have hdr:=Lib.hid DR
   have HN:=Lib.hid (show N[p]? = some z by
    have:=nx.at_ k (by omega) (by omega)
    rw [hp,hz] at this
    exact this)
   have HPU:=Lib.hid (show u[k]? = some p by rw [List.getElem?_eq_getElem (by omega),hp])
   have HQU:=Lib.hid (show u[k + 1]? = some q by rw [List.getElem?_eq_getElem (by omega),hq])
   have cp:wr.cell? ⟨g1,k,none⟩ = some (.int .i64 (p:Nat)):=by rw [b7.cell,List.getElem?_toArray];exact nt_at _ _ _ (by rw [List.getElem?_eq_getElem (by omega),hp])
   have cq:wr.cell? ⟨g1,k + 1,none⟩ = some (.int .i64 (q:Nat)):=by rw [b7.cell,List.getElem?_toArray];exact nt_at _ _ _ (by rw [List.getElem?_eq_getElem (by omega),hq])
   have cn:wr.cell? ⟨g2,p,none⟩ = some (.int .i64 (z:Nat)):=by rw [b8.cell,List.getElem?_toArray];exact nt_at _ _ _ HN.out
   obtain ⟨o,ho⟩:∃ o,N[q]? = some o:=⟨_,List.getElem?_eq_getElem (by rw [HNL.out,HUL.out];exact hqn)⟩
   have co:wr.cell? ⟨g2,q,none⟩ = some (.int .i64 (o:Nat)):=by rw [b8.cell,List.getElem?_toArray];exact nt_at _ _ _ ho
   have fq:=b8.frozen q
   have lq:=b8.lt
   have NS:=fun v hv=>nx_step UN.out (fun p hp=>by rw [HUL.out];exact (UM.out p).1 hp) nx hkl v hv
   rw [hq] at NS
   have HNS:=Lib.hid NS
   have hk0:(0:Int)≤(k:Int):=by omega
   have hkw:IntKind.i64.wrap (k:Int) = (k:Int):=w64s (by omega) (by omega)
   have hkw1:IntKind.i64.wrap ((k:Int) + 1) = (k:Int) + 1:=w64s (by omega) (by omega)
   have hkw2:IntKind.i64.wrap ((k:Int) + 1 + 1) = (k:Int) + 1 + 1:=w64s (by omega) (by omega)
   have hkn:(k:Int) < (m:Int):=by omega
   have hkn1:(k:Int) + 1 < (m:Int):=by omega
   have hk01:(0:Int)≤(k:Int) + 1:=by omega
   have hp0:(0:Int)≤(p:Int):=by omega
   have hq0:(0:Int)≤(q:Int):=by omega
   have hpnI:(p:Int) < (m:Int):=by omega
   have hqnI:(q:Int) < (m:Int):=by omega
   have hzw:IntKind.i64.wrap ((z:Int) + 1) = (z:Int) + 1:=w64s (by omega) (by omega)
   clear hp hq hz DR NS hkl nx ho
   go_upto_region 10 with fail
   go_still_tail 14,(by kernel_rfl)
   change wpList _ _ _ _ _ wr.drew
   replace b7:=b7.drew
   replace b8:=b8.drew
   replace bS:=bS.drew
   replace HB:=HB.drew
   clear cp cq cn co fq lq
   generalize wr.drew = wn at *
   obtain ⟨o,ho⟩:∃ o,N[q]? = some o:=⟨_,List.getElem?_eq_getElem (by rw [HNL.out,HUL.out];exact hqn)⟩
   have co:wn.cell? ⟨g2,q,none⟩ = some (.int .i64 (o:Nat)):=by rw [b8.cell,List.getElem?_toArray];exact nt_at _ _ _ ho
   have fq:=b8.frozen q
   have lq:=b8.lt
   have bq8:=b8.set q (.int .i64 (z:Nat))
   rw [nt_set] at bq8
   have bq7:=b7.far (p:=⟨g2,q,none⟩) (by dsimp only;omega) (.int .i64 (z:Nat))
   have bqS:=bS.far (p:=⟨g2,q,none⟩) (by dsimp only;omega) (.int .i64 (z:Nat))
   have HBq:=HB.setCell (p:=⟨g2,q,none⟩) (by dsimp only;omega) (.int .i64 (z:Nat))
   clear ho
   go_upto_region 11 with fail
   clear co fq lq b7 b8 bS HB
   generalize wn.setCell ⟨g2,q,none⟩ (.int .i64 (z:Nat)) = wq at *
   have HC:Hid (∀ j p',p' < m → Calls Tryz.prog 177 #[.int .i64 (p':Nat),.pointer (some ⟨s0,0,none⟩)] (wq.drewN j) fun e w'=>e = .returned (.int .i64 (rkOf T p':Nat))∧w' = wq.drewN j):=Lib.hid fun j p' hp'=>by
    have:=letter_any s0 s (wq.drewN j) (bqS.drewN j) (by omega) p' (HIN.out p' hp')
    rw [HT.out] at this
    exact this.mono fun e w' h=>⟨h.1,h.2.symm⟩
   have cp:wq.cell? ⟨g1,k,none⟩ = some (.int .i64 (p:Nat)):=by rw [bq7.cell,List.getElem?_toArray];exact nt_at _ _ _ HPU.out
   have cq:wq.cell? ⟨g1,k + 1,none⟩ = some (.int .i64 (q:Nat)):=by rw [bq7.cell,List.getElem?_toArray];exact nt_at _ _ _ HQU.out
   have hdef:dOne T p q = decide (rkOf T p ≠ rkOf T q):=rfl
   by_cases hxy:rkOf T q = rkOf T p
   ·have hxyI:(rkOf T q:Int) = (rkOf T p:Int):=by omega
    have hdv:drank (dOne T) u (k + 1) = z:=by rw [hdr.out,hdef];simp [hxy]
    have NX2:=HNS.out z hdv.symm
    clear hdv hdef hxy
    go_quiet ((go_at_call 177;exact Calls.quiet_of_same (HC.out _ _ (by assumption))))
    replace bq8:=bq8.drewN nq
    replace bq7:=bq7.drewN nq
    replace bqS:=bqS.drewN nq
    replace HBq:=HBq.drewN_ nq
    clear HC cp cq
    generalize wq.drewN nq = wz at *
    go_wp2_with fail
    go_roundw
    case rel=>exact ⟨k + 1,_,by omega,by go_num,NX2,bq7,bq8,bqS,HBq⟩
    case measure=>simp [intOf];omega
   ·have hxyI:¬ (rkOf T q:Int) = (rkOf T p:Int):=by omega
    have hdv:drank (dOne T) u (k + 1) = z + 1:=by rw [hdr.out,hdef];simp [show ¬ rkOf T p = rkOf T q from fun e=>hxy e.symm]
    have NX2:=HNS.out (z + 1) hdv.symm
    clear hdv hdef
    go_quiet ((go_at_call 177;exact Calls.quiet_of_same (HC.out _ _ (by assumption))))
    replace bq8:=bq8.drewN nq
    replace bq7:=bq7.drewN nq
    replace bqS:=bqS.drewN nq
    replace HBq:=HBq.drewN_ nq
    clear HC cp cq
    generalize wq.drewN nq = wz at *
    have cq:wz.cell? ⟨g1,k + 1,none⟩ = some (.int .i64 (q:Nat)):=by rw [bq7.cell,List.getElem?_toArray];exact nt_at _ _ _ HQU.out
    have cz:wz.cell? ⟨g2,q,none⟩ = some (.int .i64 (z:Nat)):=by
     rw [bq8.cell,List.getElem?_toArray]
     exact nt_at _ _ _ (by rw [List.getElem?_set,if_pos rfl,if_pos (by rw [HNL.out,HUL.out];exact hqn)])
    have fq2:=bq8.frozen q
    have lq2:=bq8.lt
    have br8:=bq8.set q (.int .i64 ((z + 1:Nat):Int))
    rw [nt_set,List.set_set] at br8
    have br7:=bq7.far (p:=⟨g2,q,none⟩) (by dsimp only;omega) (.int .i64 ((z + 1:Nat):Int))
    have brS:=bqS.far (p:=⟨g2,q,none⟩) (by dsimp only;omega) (.int .i64 ((z + 1:Nat):Int))
    have HBr:=HBq.setCell (p:=⟨g2,q,none⟩) (by dsimp only;omega) (.int .i64 ((z + 1:Nat):Int))
    go_wp2_with fail
    go_roundw
    case rel=>exact ⟨k + 1,_,by omega,by go_num,NX2,br7,br8,brS,HBr⟩
    case measure=>simp [intOf];omega
  ·have e:k + 1 = m:=by omega
   have hku:k < u.length:=by rw [HUL.out];omega
   obtain ⟨p,hp⟩:∃ p,u[k] = p:=⟨_,rfl⟩
   have hpn:p < m:=(UM.out p).1 (by rw [← hp];exact List.getElem_mem _)
   obtain ⟨z,hz⟩:∃ z,drank (dOne T) u k = z:=⟨_,rfl⟩
   have cp:wr.cell? ⟨g1,k,none⟩ = some (.int .i64 (p:Nat)):=by rw [b7.cell,List.getElem?_toArray];exact nt_at _ _ _ (by rw [List.getElem?_eq_getElem (by omega),hp])
   have cn:wr.cell? ⟨g2,p,none⟩ = some (.int .i64 (z:Nat)):=by
    rw [b8.cell,List.getElem?_toArray]
    refine nt_at _ _ _ ?_
    have:=nx.at_ k (by omega) (by omega)
    rw [hp,hz] at this
    exact this
   have hk0:(0:Int)≤(k:Int):=by omega
   have hkw:IntKind.i64.wrap (k:Int) = (k:Int):=w64s (by omega) (by omega)
   have hp0:(0:Int)≤(p:Int):=by omega
   have hpnI:(p:Int) < (k:Int) + 1:=by omega
   have hkk:(k:Int) < (k:Int) + 1:=by omega
   have HDZ:=Lib.hid hz
   have AI0:AI T 1 u N (dOne T):=⟨A1',dOne_iff T,by rw [HUL.out,← e];exact nx⟩
   clear hz hp hpn hku nx hlt hz0 hz30
   subst e
   go_wp2_with fail
   go_loopw [6,7,9,10] (fun v6 v7 v9 v10 wr=>∃ (gA gR:Nat) (A R:List Nat) (d:Nat → Nat → Bool) (L:Nat) (b:Bool),v6 = .slice (some ⟨gA,0,none⟩) (k + 1) (k + 1)∧v7 = .slice (some ⟨gR,0,none⟩) (k + 1) (k + 1)∧v9 = .bool b∧v10 = .int .i64 (L:Nat)∧1≤L∧L≤50000 ∧
    AI T L A R d∧(b = true ↔ drank d A k = k)∧Blk wr gA 3 (nt A).toArray∧Blk wr gR 3 (nt R).toArray∧Below w.heap.size w wr) (fun _ _ _ v10 _=>200000 - (intOf v10).toNat)
   case atStart=>exact ⟨g1,g2,u,N,dOne T,1,_,rfl,rfl,rfl,rfl,by omega,by omega,AI0,by rw [HDZ.out];simp;omega,b7,b8,HB⟩
   case round =>
    clear AI0 b7 b8 HB cp cn HDZ hmf bS
    obtain ⟨gA,gR,A,R,d,L,b,rfl,rfl,rfl,rfl,hL1,hL2,ai,hb,bA,bR,HB⟩:=hrel
    have hTL:T.length = k + 1:=HTL.out
    have hAl:A.length = k + 1:=by rw [ai.arr.len,hTL]
    have hRl:R.length = k + 1:=by rw [ai.nx.len,hAl]
    cases b with
    | true =>
     have hsa:Sa T A:=arr_done ai.arr ai.hd (by rw [hTL];exact hb.1 rfl)
     have HSA:=Lib.hid hsa
     clear hsa hb ai
     go_wp2_with fail
     go_ret2
     exact ⟨gA,A,rfl,bA,by rw [HT.out];exact HSA.out,HB⟩
    | false =>
     have hlt:L < T.length:=arr_more ai.arr ai.hd (by rw [hTL];intro e;have:=hb.2 e;cases this)
     rw [hTL] at hlt
     have rk:=ai.rank
     have C:=doubled_any (some ⟨gA,0,none⟩) (some ⟨gR,0,none⟩) (k + 1) (k + 1) (k + 1) L A R wr (rd_nt bA hAl) (rd_nt bR hRl) (by omega) (by omega) (by omega) ai.arr.nodup (fun p=>by rw [ai.arr.mem,hTL]) (fun p hp=>by have:=rk.1 p (by rw [hTL];exact hp);rwa [hTL] at this)
     have HX:=Lib.hid (fun N hN=>ai.next (N:=N) hL1 hTL hN)
     have hLw:IntKind.i64.wrap ((L:Int) * 2) = (L:Int) * 2:=w64s (by omega) (by omega)
     have hLm:=Lib.hid hlt
     clear hb ai hTL hAl hRl rk hlt
     go_wp2_with fail
     refine C.mono ?_
     clear C
     rintro e w5 ⟨x1,x2,N2,rfl,bA2,bR2,nx2,hb5⟩
     have HB5:=HB.trans (hb5.mono HB.size)
     go_wp2_with fail
     go_roundw
     case rel =>
      refine ⟨_,_,_,_,_,_,_,_,_,_,_,_,_,_,_,_,⟨x1,x2,_,N2,_,L + L,_,rfl,rfl,rfl,?_,by omega,by have:=hLm.out;omega,HX.out N2 nx2,?_,bA2,bR2,HB5⟩,rfl⟩
      ·exact congrArg (Value.int .i64) (show ((L:Int) * 2) = ((L + L:Nat):Int) by omega)
      ·simp
     case measure=>have:=hLm.out;simp [intOf];omega
end SufW
end Go.Proofs.YtnpncpoiiikafaaGreat
namespace Go.Proofs.YtnpncpoiiikafaaGreat
open Go.RowKit
namespace BwW
open SufW (nt nt_len rd_nt nt_get rkOf Sa letters letters_len bwtL array_any w64s bwt_len)
open FrontW (wp_make El_u8)
theorem bwt_snoc0 (s:List UInt8) (A:List Nat) (k:Nat) (hk:k < A.length) (h:A[k] = 0):bwtL s (A.take (k + 1)) = bwtL s (A.take k):=by
 unfold bwtL
 rw [List.take_succ_eq_append_getElem hk,List.filter_append,h]
 simp
theorem bwt_snoc1 (s:List UInt8) (A:List Nat) (k q:Nat) (hk:k < A.length) (h:A[k] = q + 1) (hq:q < s.length):bwtL s (A.take (k + 1)) = bwtL s (A.take k) ++ [s[q]]:=by
 unfold bwtL
 rw [List.take_succ_eq_append_getElem hk,List.filter_append,h,List.map_append]
 have:[q + 1].filter (fun p=>decide (p ≠ 0)) = [q + 1]:=by simp
 rw [this,List.map_singleton,Nat.add_sub_cancel,List.getElem?_eq_getElem hq]
 rfl
theorem bwt_take_len (s:List UInt8) (A:List Nat) (k:Nat):(bwtL s (A.take k)).length≤k:=by
 unfold bwtL
 rw [List.length_map]
 exact Nat.le_trans (List.length_filter_le _ _) (by rw [List.length_take];omega)
theorem forward_any (s:List UInt8) (w:World) (hs:s.length≤20000) :
 Calls Tryz.prog 96 #[str s] w fun e w'=>∃ (A:List Nat) (pr:Nat),e = .returned (.tuple #[str (bwtL s A),.int .i64 (pr:Nat),.int .i64 0])∧Sa (letters s) A∧A[pr]? = some 0∧Below w.heap.size w w':=by
 go_enter Tryz.func96,Tryz.ntmps96
 go_wp2_with fail
 refine (array_any s w hs).mono ?_
 rintro e w1 ⟨g,A,rfl,bA,sa,hb1⟩
 have hAl:A.length = s.length + 1:=by rw [sa.len,letters_len]
 have HAL:=Lib.hid hAl
 have HSA:=Lib.hid sa
 have hgl:=bA.lt
 clear hAl sa
 obtain ⟨m,hm⟩:∃ m,s.length + 1 = m:=⟨_,rfl⟩
 rw [hm] at HAL
 rw [hm]
 have HM:=Lib.hid hm
 have hm2:m≤20001:=by omega
 clear hm
 go_wp2_with (at_make;refine wp_make El_u8 rfl rfl w1.heap.size s.length rfl rfl (by simp) (by omega) (by unfold maxLen;omega) (Nat.le_refl _) ?_;intro w2 hown2 hg2)
 have bA2:=bA.grown hg2 (by simp)
 have hb2:Below w.heap.size w w2:=hb1.grown hg2 hb1.size (by simp)
 go_loopw [3,6,22] (fun v3 v6 i wr=>∃ (k c P n:Nat) (X:Option Addr),k≤m∧i = .int .i64 k∧v3 = .int .i64 (P:Nat)∧v6 = .slice X n c∧(bwtL s (A.take k)).length = n∧(∀ j,j < k → A[j]? = some 0 → P = j)∧Own wr w1.heap.size 5 1 X n c (byts (bwtL s (A.take k)))∧Blk wr g 3 (nt A).toArray∧Below w.heap.size w wr∧w1.heap.size≤wr.heap.size)
  (fun _ _ i _=>m - (intOf i).toNat)
 case atStart=>exact ⟨0,s.length,0,0,some ⟨w1.heap.size,0,none⟩,by omega,rfl,rfl,rfl,by simp [bwtL],by omega,by simpa [bwtL,byts] using hown2,bA2,hb2,hg2.size⟩
 case round =>
  clear bA bA2 hb2 hown2 hg2
  obtain ⟨k,c,P,n,X,hk,rfl,rfl,rfl,hn,hP,hown,bA,hbw,hzr⟩:=hrel
  have hnk:n≤k:=by rw [← hn];exact bwt_take_len s A k
  have HN:=Lib.hid hn
  have HP:=Lib.hid hP
  clear hn hP
  by_cases hlt:k < m
  ·have hkl:k < A.length:=by rw [HAL.out];exact hlt
   obtain ⟨p,hp⟩:∃ p,A[k] = p:=⟨_,rfl⟩
   have cp:wr.cell? ⟨g,k,none⟩ = some (.int .i64 (p:Nat)):=by rw [bA.cell,List.getElem?_toArray];exact SufW.nt_at _ _ _ (by rw [List.getElem?_eq_getElem hkl,hp])
   have hkI:(k:Int) < (m:Int):=by omega
   have hk0:(0:Int)≤(k:Int):=by omega
   have hk1:IntKind.i64.wrap ((k:Int) + 1) = (k:Int) + 1:=w64s (by omega) (by omega)
   have hpm:p < m:=by
    have:=(HSA.out.mem p).1 (by rw [← hp];exact List.getElem_mem _)
    rw [letters_len,HM.out] at this
    exact this
   cases p with
   | zero =>
    have HS:=Lib.hid (bwt_snoc0 s A k hkl hp)
    have HP2:Hid (∀ j,j < k + 1 → A[j]? = some 0 → k = j):=Lib.hid fun j hj h=>by
     obtain ⟨h1,h2⟩:=List.getElem?_eq_some_iff.1 h
     have:A[k] = A[j]:=by rw [hp,h2]
     exact (List.getElem_inj HSA.out.nodup).1 this
    clear hp hkl
    go_wp2_with fail
    go_roundw
    case rel=>exact ⟨k + 1,c,k,n,X,by omega,by go_num,rfl,rfl,by rw [HS.out];exact HN.out,HP2.out,by rw [HS.out];exact hown,bA,hbw,hzr⟩
    case measure=>simp [intOf];omega
   | succ q =>
    have hqs:q < s.length:=by have:=HM.out;omega
    have HS:=Lib.hid (bwt_snoc1 s A k q hkl hp hqs)
    have HP2:Hid (∀ j,j < k + 1 → A[j]? = some 0 → P = j):=Lib.hid fun j hj h=>by
     by_cases e:j = k
     ·subst e
      rw [List.getElem?_eq_getElem hkl,hp] at h
      simp at h
     ·exact HP.out j (by omega) h
    have hq0:(0:Int)≤(q:Int):=by omega
    have hqw:IntKind.i64.wrap (q:Int) = (q:Int):=w64s (by omega) (by omega)
    have hqI:(q:Int) < (s.length:Int):=by omega
    have hne:¬ (q:Int) + 1 = 0:=by omega
    clear hp hkl
    go_wp2_with (at_builtin;refine wp_append El_u8 rfl rfl rfl (hown.alloc _) rfl (Rd.of_blk (m:=1) (cs:=[byt s[q]]) (Blk.new wr _ _) rfl) (by simp [byt,Value.oneCell']) (by unfold maxLen;omega) (by omega) (by simp;omega) ?_;intro A4 c4 w4 hown4 hg4 hat4)
    go_roundw
    case rel =>
     refine ⟨k + 1,c4,P,n + 1,A4,by omega,by go_num,rfl,rfl,?_,HP2.out,?_,?_,?_,?_⟩
     ·rw [HS.out,List.length_append,HN.out];rfl
     ·rw [HS.out];simpa [byts] using hown4
     ·exact (bA.alloc _).grown hg4 (fun e=>by have:=hown.blk _ e.symm;omega)
     ·exact (hbw.alloc hbw.size _).grown hg4 (by have:=hbw.size;simp;omega) (fun j hj=>by have:=hown.blk j hj;have:=hb1.size;omega)
     ·have:=hg4.size;simp at this;omega
    case measure=>simp [intOf];omega
  ·have hkm:k = m:=by omega
   have HF:=Lib.hid (show A.take k = A by rw [List.take_of_length_le (by rw [HAL.out];omega)])
   have hcv:=run_bytes_str (P:=Tryz.prog) wr (c:=c) Tryz.underlying99 Tryz.underlying5 Tryz.underlying9 hown.rd
   have HMEM:Hid (A[P]? = some 0):=Lib.hid (by
    have h0:0 ∈ A:=(HSA.out.mem 0).2 (by rw [letters_len];omega)
    obtain ⟨j,hj,e⟩:=List.getElem_of_mem h0
    have hj2:A[j]? = some 0:=by rw [List.getElem?_eq_getElem hj,e]
    have:=HP.out j (by rw [hkm,← HAL.out];exact hj) hj2
    rw [this];exact hj2)
   have hkI:¬ (k:Int) < (m:Int):=by omega
   have HK:=Lib.hid hkm
   clear hkm
   go_wp2_with fail
   go_ret3
   exact ⟨A,P,by rw [HF.out];rfl,HSA.out,HMEM.out,hbw⟩
end BwW
end Go.Proofs.YtnpncpoiiikafaaGreat
