/- LenY -/
import Derived.Test.YtnpncpoiiikafaaGreatLenQQt
import Derived.Test.YtnpncpoiiikafaaGreatMemQt
set_option linter.unusedVariables false
set_option linter.unusedSimpArgs false
set_option linter.unnecessarySimpa false
set_option maxRecDepth 100000
set_option maxHeartbeats 32000000
namespace Go.Proofs.YtnpncpoiiikafaaGreat
open Go.RowKit
namespace LenW
def StepA (m mid:Nat):Prop:=mid < m
def StepB (m mid:Nat):Prop:=m≤mid
theorem stepIA {m mid:Nat} (h:StepA m mid):(mid:Int) < (m:Int):=by unfold StepA at h;omega
theorem stepIB {m mid:Nat} (h:StepB m mid):¬ (mid:Int) < (m:Int):=by unfold StepB at h;omega
theorem stepCA {a l1 l2 m b mid s0:Nat} (h:StepA m mid) (h1:a + l1 = m) (h2:m + l2 = b) (h3:(a + b) / 2 = mid) (h4:mid + m - b = s0):a≤s0∧s0≤mid∧mid≤m∧mid + m≤s0 + b∧(∀ t u,t < l1 → u < l2 → a + t + u + 1 = mid → ¬ a + t < s0)∧(∀ t u,t < l1 → u < l2 → a + t + u + 1 = mid → ¬ mid≤a + t):=by
 unfold StepA at h
 exact ⟨by omega,by omega,by omega,by omega,fun t u _ _ _=>by omega,fun t u _ _ _=>by omega⟩
theorem stepCB {a l1 l2 m b mid s0:Nat} (h:StepB m mid) (h1:a + l1 = m) (h2:m + l2 = b) (h3:(a + b) / 2 = mid) (h4:mid + m - b = s0):a≤a∧a≤m∧m≤mid∧mid + m≤a + b∧(∀ t u,t < l1 → u < l2 → a + t + u + 1 = mid → ¬ a + t < a)∧(∀ t u,t < l1 → u < l2 → a + t + u + 1 = mid → ¬ m≤a + t):=by
 unfold StepB at h
 exact ⟨by omega,by omega,by omega,by omega,fun t u _ _ _=>by omega,fun t u _ _ _=>by omega⟩
theorem stepRA {m mid:Nat} (h:StepA m mid):mid≤m∧mid≤mid:=by unfold StepA at h;omega
theorem stepRB {m mid:Nat} (h:StepB m mid):m≤m∧m≤mid:=by unfold StepB at h;omega
def MergeAll (base:Nat) (A0:Option Addr) (N c K:Nat):Prop:=∀ (P M1 M2 T:List (Int × Int)) (w:World) (a m b:Nat),P.length = a → a + M1.length = m → m + M2.length = b → P.length + M1.length + M2.length + T.length = N → 1≤M1.length → 1≤M2.length → M1.length + M2.length < K → upW M1 → upW M2 →
 Own w base 262 2 A0 N c (fcells (P ++ (M1 ++ (M2 ++ T)))) → base≤w.heap.size → MergeOk base A0 N c P M1 M2 T w a m b
theorem sym_stepA (base:Nat) (A0:Option Addr) (N c:Nat) (P M1 M2 T:List (Int × Int)) (w:World) (a m b mid l1 l2:Nat) (hl1:M1.length = l1) (hl2:M2.length = l2) (ha:P.length = a) (hm:a + l1 = m) (hb:m + l2 = b) (hN:P.length + M1.length + M2.length + T.length = N) (hN3:N≤1000) (h1:2≤l1) (h2:2≤l2)
 (hM1:upW M1) (hM2:upW M2) (ho:Own w base 262 2 A0 N c (fcells (P ++ (M1 ++ (M2 ++ T))))) (hbs:base≤w.heap.size) (hmid:(a + b) / 2 = mid) (hcs:StepA m mid) (IH:MergeAll base A0 N c (l1 + l2)):MergeOk base A0 N c P M1 M2 T w a m b:=by
 unfold MergeOk
 obtain ⟨s0,hs0⟩:∃ s,mid + m - b = s:=⟨_,rfl⟩
 obtain ⟨n',hn'⟩:∃ n,mid + m = n:=⟨_,rfl⟩
 obtain ⟨p,hp⟩:∃ p,n' - 1 = p:=⟨_,rfl⟩
 obtain ⟨t0,ht0⟩:∃ t,T.length = t:=⟨_,rfl⟩
 obtain ⟨q1,q2,q3,q4,q5,q6⟩:=stepCA hcs hm hb hmid hs0
 have hr:=stepRA hcs
 have hgt:=stepIA hcs
 rw [hl1,hl2,ht0,ha] at hN
 have hbN:b≤N:=by omega
 have hma:a < mid:=by omega
 have hmb:mid < b:=by omega
 have hw1:IntKind.i64.wrap ((m:Int) - (a:Int)) = (l1:Int):=(w64k (by omega) (by omega)).trans (by omega)
 have hw2:IntKind.i64.wrap ((b:Int) - (m:Int)) = (l2:Int):=(w64k (by omega) (by omega)).trans (by omega)
 have hl11:¬ (l1:Int) = 1:=by omega
 have hl12:((l1:Int) == 1) = false:=by simp;omega
 have hl21:¬ (l2:Int) = 1:=by omega
 have hl22:((l2:Int) == 1) = false:=by simp;omega
 have hab:IntKind.i64.wrap ((a:Int) + (b:Int)) = ((a + b:Nat):Int):=(w64k (by omega) (by omega)).trans (by omega)
 have hmd:((a:Int) + (b:Int)) / 2 = (mid:Int):=by omega
 have hnn:IntKind.i64.wrap ((mid:Int) + (m:Int)) = (n':Int):=(w64k (by omega) (by omega)).trans (by omega)
 have hpp:IntKind.i64.wrap ((n':Int) - 1) = (p:Int):=(w64k (by omega) (by omega)).trans (by omega)
 have hss:mid < m → IntKind.i64.wrap ((n':Int) - (b:Int)) = (s0:Int):=fun _=>(w64k (by omega) (by omega)).trans (by omega)
 have hss2:IntKind.i64.wrap ((n':Int) - (b:Int)) = ((n':Int) - (b:Int)):=w64k (by omega) (by omega)
 have hp1:p + 1≤mid + m:=by omega
 have hp2:mid + m≤p + 1:=by omega
 have hn1:n'≤mid + m:=by omega
 have hn2:mid + m≤n':=by omega
 have ham1:a + l1≤m:=by omega
 have ham2:m≤a + l1:=by omega
 have hmb1:m + l2≤b:=by omega
 have hmb2:b≤m + l2:=by omega
 have HL1:=Lib.hid hl1
 have HL2:=Lib.hid hl2
 have HA:=Lib.hid ha
 have HT0:=Lib.hid ht0
 have HN:=Lib.hid hN
 have HM1:=Lib.hid hM1
 have HM2:=Lib.hid hM2
 have HIH:=Lib.hid IH
 have HQ5:=Lib.hid q5
 have HQ6:=Lib.hid q6
 have HRR:=Lib.hid hr
 have HSS:=Lib.hid (show mid < m → (n':Int) - (b:Int) = (s0:Int) from fun _=>by omega)
 have HCS:=Lib.hid hcs
 clear hl1 hl2 ha ht0 hm hb hN hM1 hM2 IH q5 q6 hmid hs0 hn' hp hr hss
 obtain ⟨g,rfl⟩:∃ g,A0 = some ⟨g,0,none⟩:=by
  rcases ho.shape with ⟨_,h0,_⟩ | ⟨g,e,_⟩
  ·omega
  ·exact ⟨g,e⟩
 have hg0:base≤g:=(ho.blk g rfl).1
 clear hcs
 go_enter Tryz.func210,Tryz.ntmps210
 go_wp2_with fail
 try rw [HSS.out HCS.out]
 go_loopw [20,21] (fun s r wr=>∃ i j:Nat,s = .int .i64 i∧r = .int .i64 j∧a≤i∧i≤j∧mid + m≤i + b∧j≤m∧j≤mid∧(∀ t u (ht:t < M1.length) (hu:u < M2.length),a + t + u + 1 = mid → a + t < i → (M1[t]).1≤(M2[u]).1)∧(∀ t u (ht:t < M1.length) (hu:u < M2.length),a + t + u + 1 = mid → j≤a + t → (M2[u]).1 < (M1[t]).1)∧Own wr base 262 2 (some ⟨g,0,none⟩) N c (fcells (P ++ (M1 ++ (M2 ++ T))))∧Below base w wr) (fun s r _=>(intOf r).toNat - (intOf s).toNat)
 case atStart=>exact ⟨s0,mid,rfl,rfl,q1,q2,q4,HRR.out.1,HRR.out.2,fun t u ht hu h1 h2=>absurd h2 (HQ5.out t u (by have:=HL1.out;omega) (by have:=HL2.out;omega) h1),fun t u ht hu h1 h2=>absurd h2 (HQ6.out t u (by have:=HL1.out;omega) (by have:=HL2.out;omega) h1),ho,Below.refl _ _⟩
 case round =>
  clear ho
  obtain ⟨i,j,rfl,rfl,hi,hij,hib,hjm,hjd,hlo,hhi,o2,HB⟩:=hrel
  have hz:=HB.size
  have HLO:=Lib.hid hlo
  have HHI:=Lib.hid hhi
  clear hlo hhi q1 q2 q3 q4 HQ5 HQ6 HRR HSS HCS
  by_cases hlt:i < j
  ·have hltI:(i:Int) < (j:Int):=by omega
   obtain ⟨h,hh⟩:∃ h,(i + j) / 2 = h:=⟨_,rfl⟩
   have hh1:i≤h:=by omega
   have hh2:h < j:=by omega
   have hij1:IntKind.i64.wrap ((i:Int) + (j:Int)) = ((i + j:Nat):Int):=(w64k (by omega) (by omega)).trans (by omega)
   have hhI:((i:Int) + (j:Int)) / 2 = (h:Int):=by omega
   obtain ⟨t,ht⟩:∃ t,h = a + t:=⟨h - a,by omega⟩
   obtain ⟨u,hu⟩:∃ u,a + t + u + 1 = mid:=⟨mid - 1 - h,by omega⟩
   obtain ⟨pc,hpc⟩:∃ pc,m + u = pc:=⟨_,rfl⟩
   have htl:t < M1.length:=by have:=HL1.out;omega
   have hul:u < M2.length:=by have:=HL2.out;omega
   obtain ⟨x,hx0⟩:∃ x,M1[t] = x:=⟨_,rfl⟩
   obtain ⟨z,hz0⟩:∃ z,M2[u] = z:=⟨_,rfl⟩
   have hLl:(P ++ (M1 ++ (M2 ++ T))).length = N:=by have:=o2.len;rw [fcells_len] at this;omega
   have e1:(P ++ (M1 ++ (M2 ++ T)))[h]'(by omega) = x:=by
    rw [List.getElem_append_right (by have:=HA.out;omega)]
    have:h - P.length = t:=by have:=HA.out;omega
    simp only [this]
    rw [List.getElem_append_left htl,hx0]
   have e2:(P ++ (M1 ++ (M2 ++ T)))[pc]'(by omega) = z:=by
    rw [List.getElem_append_right (by have:=HA.out;omega),List.getElem_append_right (by have:=HA.out;have:=HL1.out;omega)]
    have:pc - P.length - M1.length = u:=by have:=HA.out;have:=HL1.out;omega
    simp only [this]
    rw [List.getElem_append_left hul,hz0]
   have K1:=cells_at _ h (by omega) x e1
   have K2:=cells_at _ pc (by omega) z e2
   obtain ⟨x1,x2⟩:=x
   obtain ⟨z1,z2⟩:=z
   dsimp only at K1 K2
   have KK:=Lib.hid (And.intro K1 K2)
   have HX:=Lib.hid hx0
   have HZ:=Lib.hid hz0
   have HT:=Lib.hid ht
   have HU:=Lib.hid hu
   obtain ⟨v,hv⟩:∃ v,cmpV z1 x1 = v:=⟨_,rfl⟩
   have hvl:=cmpV_lt z1 x1
   rw [hv] at hvl
   have HVL:=Lib.hid hvl
   have HT1:=Lib.hid htl
   have HU1:=Lib.hid hul
   have hh0:(0:Int)≤(h:Int):=by omega
   have hm0:(0:Int)≤(pc:Int):=by omega
   have hhN:(h:Int) < (N:Int):=by omega
   have hmN:(pc:Int) < (N:Int):=by omega
   have hh3:IntKind.i64.wrap ((h:Int) + 1) = (h:Int) + 1:=w64k (by omega) (by omega)
   have hpc1:IntKind.i64.wrap ((p:Int) - (h:Int)) = (pc:Int):=(w64k (by omega) (by omega)).trans (by omega)
   clear hh K1 K2 e1 e2 hz0 hx0 ht hu hvl hLl hpc
   by_cases hv0:v < 0
   ·have hzx:=HVL.out.1 hv0
    have hnd:(!decide (v < 0)) = false:=by simp [hv0]
    have HHI2:=Lib.hid (show ∀ t' u' (ht:t' < M1.length) (hu:u' < M2.length),a + t' + u' + 1 = mid → h≤a + t' → (M2[u']).1 < (M1[t']).1 from fun t' u' ht' hu' h1 hle=>by
     have h2:=up_get HM1.out t t' (by have:=HT.out;omega) ht'
     have h3:=up_get HM2.out u' u (by have:=HT.out;have:=HU.out;omega) HU1.out
     rw [HX.out] at h2
     rw [HZ.out] at h3
     dsimp only at h2 h3
     omega)
    clear hzx
    go_wp2_with fail
    refine wp_region_held_drew (S:=(fun w'=>w'.cell? ⟨g,h * 2,none⟩ = some (.int .i64 x1)∧w'.cell? ⟨g,h * 2 + 1,none⟩ = some (.int .i64 x2)∧w'.cell? ⟨g,pc * 2,none⟩ = some (.int .i64 z1)∧w'.cell? ⟨g,pc * 2 + 1,none⟩ = some (.int .i64 z2))) (by kernel_rfl) ?_ (fun hHeld=>?_)
    ·replace HB:=Below.drew HB;replace o2:=Own.drew o2;(try dsimp only);exact ⟨own_cell o2 _ KK.out.1.1,own_cell o2 _ KK.out.1.2,own_cell o2 _ KK.out.2.1,own_cell o2 _ KK.out.2.2⟩
    replace HB:=Below.drew HB
    replace o2:=Own.drew o2
    have zHB:=HB.size
    refine zM 0 (.tmp 4) ?_
    refine zM 1 (.tmp 0) ?_
    refine zM 2 (.tmp 22) ?_
    refine zM 3 (.tmp 23) ?_
    refine zO 4 (.binOp .sub 3 (.tmp 160) (.tmp 161) 3) 3 ?_
    refine zO 5 (.indexAddr 259 (.tmp 159) (.tmp 162)) 0 ?_
    refine zO 6 (.load 262 (.tmp 163)) 262 ?_
    refine zM 7 (.tmp 0) ?_
    refine zM 8 (.tmp 23) ?_
    refine zO 9 (.indexAddr 259 (.tmp 165) (.tmp 166)) 0 ?_
    refine zO 10 (.load 262 (.tmp 167)) 262 ?_
    refine zR 11 (fun K11 hK11=>?_)
    refine take_callv 11 200 158 [Operand.tmp 164,Operand.tmp 168] #[262,262] rfl rfl (by kernel_rfl) rfl (fun args w=>run_enter Tryz.func200 (by kernel_rfl) rfl args w) ?_
    refine (against_any z1 z2 x1 x2 _ v hv).mono ?_
    rintro e w11 ⟨rfl,hb11⟩
    refine ⟨_,rfl,?_⟩
    have z11:=hb11.size
    try simp only [World.size_drew] at z11
    replace HB:=HB.trans (hb11.mono (by first | exact HB.size | omega))
    have zHB11:=HB.size
    replace o2:=Own.below o2 hb11
    refine hK11.out _ _ ?su1x11 (fun hHeld=>?ru1x11)
    case su1x11=>((try dsimp only);exact ⟨own_cell o2 _ KK.out.1.1,own_cell o2 _ KK.out.1.2,own_cell o2 _ KK.out.2.1,own_cell o2 _ KK.out.2.2⟩)
    try simp only [zSa,zSb,zSc]
    refine zO 12 (.binOp .lss 3 (.tmp 169) (.const (Value.int IntKind.i64 0)) 3) 4 ?_
    refine zO 13 (.unOp .not 4 (.tmp 170)) 4 ?_
    refine wpAnyH_done (by kernel_rfl) ?_ _
    clear hHeld
    go_wp2_with fail
    go_roundw
    case rel=>exact ⟨i,h,rfl,rfl,hi,by omega,by omega,by omega,by omega,HLO.out,HHI2.out,o2,HB⟩
    case measure=>simp [intOf];omega
   ·have hzx:¬ z1 < x1:=fun e=>hv0 (HVL.out.2 e)
    have hnd:(!decide (v < 0)) = true:=by simp [hv0]
    have HLO2:=Lib.hid (show ∀ t' u' (ht:t' < M1.length) (hu:u' < M2.length),a + t' + u' + 1 = mid → a + t' < h + 1 → (M1[t']).1≤(M2[u']).1 from fun t' u' ht' hu' h1 hle=>by
     have h2:=up_get HM1.out t' t (by have:=HT.out;omega) HT1.out
     have h3:=up_get HM2.out u u' (by have:=HT.out;have:=HU.out;omega) hu'
     rw [HX.out] at h2
     rw [HZ.out] at h3
     dsimp only at h2 h3
     omega)
    clear hzx
    go_wp2_with fail
    refine wp_region_held_drew (S:=(fun w'=>w'.cell? ⟨g,h * 2,none⟩ = some (.int .i64 x1)∧w'.cell? ⟨g,h * 2 + 1,none⟩ = some (.int .i64 x2)∧w'.cell? ⟨g,pc * 2,none⟩ = some (.int .i64 z1)∧w'.cell? ⟨g,pc * 2 + 1,none⟩ = some (.int .i64 z2))) (by kernel_rfl) ?_ (fun hHeld=>?_)
    ·replace HB:=Below.drew HB;replace o2:=Own.drew o2;(try dsimp only);exact ⟨own_cell o2 _ KK.out.1.1,own_cell o2 _ KK.out.1.2,own_cell o2 _ KK.out.2.1,own_cell o2 _ KK.out.2.2⟩
    replace HB:=Below.drew HB
    replace o2:=Own.drew o2
    have zHB:=HB.size
    refine zM 0 (.tmp 4) ?_
    refine zM 1 (.tmp 0) ?_
    refine zM 2 (.tmp 22) ?_
    refine zM 3 (.tmp 23) ?_
    refine zO 4 (.binOp .sub 3 (.tmp 160) (.tmp 161) 3) 3 ?_
    refine zO 5 (.indexAddr 259 (.tmp 159) (.tmp 162)) 0 ?_
    refine zO 6 (.load 262 (.tmp 163)) 262 ?_
    refine zM 7 (.tmp 0) ?_
    refine zM 8 (.tmp 23) ?_
    refine zO 9 (.indexAddr 259 (.tmp 165) (.tmp 166)) 0 ?_
    refine zO 10 (.load 262 (.tmp 167)) 262 ?_
    refine zR 11 (fun K11 hK11=>?_)
    refine take_callv 11 200 158 [Operand.tmp 164,Operand.tmp 168] #[262,262] rfl rfl (by kernel_rfl) rfl (fun args w=>run_enter Tryz.func200 (by kernel_rfl) rfl args w) ?_
    refine (against_any z1 z2 x1 x2 _ v hv).mono ?_
    rintro e w11 ⟨rfl,hb11⟩
    refine ⟨_,rfl,?_⟩
    have z11:=hb11.size
    try simp only [World.size_drew] at z11
    replace HB:=HB.trans (hb11.mono (by first | exact HB.size | omega))
    have zHB11:=HB.size
    replace o2:=Own.below o2 hb11
    refine hK11.out _ _ ?su2x11 (fun hHeld=>?ru2x11)
    case su2x11=>((try dsimp only);exact ⟨own_cell o2 _ KK.out.1.1,own_cell o2 _ KK.out.1.2,own_cell o2 _ KK.out.2.1,own_cell o2 _ KK.out.2.2⟩)
    try simp only [zSa,zSb,zSc]
    refine zO 12 (.binOp .lss 3 (.tmp 169) (.const (Value.int IntKind.i64 0)) 3) 4 ?_
    refine zO 13 (.unOp .not 4 (.tmp 170)) 4 ?_
    refine wpAnyH_done (by kernel_rfl) ?_ _
    clear hHeld
    go_wp2_with fail
    go_roundw
    case rel=>exact ⟨h + 1,j,by go_num,rfl,by omega,by omega,by omega,hjm,hjd,HLO2.out,HHI.out,o2,HB⟩
    case measure=>simp [intOf];omega
  ·have hltI:¬ (i:Int) < (j:Int):=by omega
   obtain rfl:i = j:=by omega
   obtain ⟨A1,A2,hAA,hA1⟩:∃ A1 A2,M1 = A1 ++ A2∧A1.length = i - a:=⟨M1.take (i - a),M1.drop (i - a),(List.take_append_drop _ _).symm,by rw [List.length_take,HL1.out];omega⟩
   obtain ⟨B1,B2,hBB,hB1⟩:∃ B1 B2,M2 = B1 ++ B2∧B1.length = mid - i:=⟨M2.take (mid - i),M2.drop (mid - i),(List.take_append_drop _ _).symm,by rw [List.length_take,HL2.out];omega⟩
   have hA2:A2.length = m - i:=by have:=HL1.out;rw [hAA,List.length_append] at this;omega
   have hB2:B2.length = i + b - mid - m:=by have:=HL2.out;rw [hBB,List.length_append] at this;omega
   have UA:=HM1.out
   have UB:=HM2.out
   have hsort:sortW (M1 ++ M2) = sortW (A1 ++ B1) ++ sortW (A2 ++ B2):=by
    rw [hAA] at UA
    rw [hBB] at UB
    rw [hAA,hBB]
    refine sort_parts A1 A2 B1 B2 UA UB (fun x hx y hy=>?_) (fun x hx y hy=>?_)
    ·obtain ⟨t,ht,rfl⟩:=List.getElem_of_mem hx
     obtain ⟨u,hu,rfl⟩:=List.getElem_of_mem hy
     have k1:=HLO.out (i - 1 - a) (mid - i) (by rw [hAA,List.length_append];omega) (by rw [hBB,List.length_append];omega) (by omega) (by omega)
     have k2:=up_get HM1.out t (i - 1 - a) (by omega) (by rw [hAA,List.length_append];omega)
     have k3:=up_get HM2.out (mid - i) (B1.length + u) (by omega) (by rw [hBB,List.length_append];omega)
     simp only [hAA] at k1 k2
     simp only [hBB] at k1 k3
     rw [List.getElem_append_left ht] at k2
     rw [List.getElem_append_right (i:=B1.length + u) (by omega)] at k3
     simp only [Nat.add_sub_cancel_left] at k3
     omega
    ·obtain ⟨u,hu,rfl⟩:=List.getElem_of_mem hx
     obtain ⟨t,ht,rfl⟩:=List.getElem_of_mem hy
     have k1:=HHI.out (i - a) (mid - i - 1) (by rw [hAA,List.length_append];omega) (by rw [hBB,List.length_append];omega) (by omega) (by omega)
     have k2:=up_get HM1.out (i - a) (A1.length + t) (by omega) (by rw [hAA,List.length_append];omega)
     have k3:=up_get HM2.out u (mid - i - 1) (by omega) (by rw [hBB,List.length_append];omega)
     simp only [hAA] at k1 k2
     simp only [hBB] at k1 k3
     rw [List.getElem_append_left hu] at k3
     rw [List.getElem_append_right (i:=A1.length + t) (by omega)] at k2
     simp only [Nat.add_sub_cancel_left] at k2
     omega
   obtain ⟨en,hen⟩:∃ en,mid + m - i = en:=⟨_,rfl⟩
   have hen1:IntKind.i64.wrap ((n':Int) - (i:Int)) = (en:Int):=(w64k (by omega) (by omega)).trans (by omega)
   have hen2:en + i≤mid + m:=by omega
   have hen3:mid + m≤en + i:=by omega
   rw [hAA,hBB] at o2
   have o3:Own wr base 262 2 (some ⟨g,0,none⟩) N c (fcells (P ++ (A1 ++ (A2 ++ (B1 ++ (B2 ++ T)))))):=by simpa using o2
   have UA1:=Lib.hid (List.pairwise_append.1 (hAA ▸ UA:upW (A1 ++ A2))).1
   have UA2:=Lib.hid (List.pairwise_append.1 (hAA ▸ UA:upW (A1 ++ A2))).2.1
   have UB1:=Lib.hid (List.pairwise_append.1 (hBB ▸ UB:upW (B1 ++ B2))).1
   have UB2:=Lib.hid (List.pairwise_append.1 (hBB ▸ UB:upW (B1 ++ B2))).2.1
   have HF:=Lib.hid (show P ++ (sortW (A1 ++ B1) ++ (sortW (A2 ++ B2) ++ T)) = P ++ (sortW (M1 ++ M2) ++ T) by rw [hsort];simp)
   have HA1:=Lib.hid hA1
   have HA2:=Lib.hid hA2
   have HB1:=Lib.hid hB1
   have HB2:=Lib.hid hB2
   have hlen:=HN.out
   clear hsort hen o2 hAA hBB hA1 hA2 hB1 hB2 UA UB HLO HHI
   by_cases c1:i < m
   ·by_cases c2:i < mid
    ·have:(i:Int) < (m:Int):=by omega
     have:(m:Int) < (en:Int):=by omega
     have:(mid:Int) < (en:Int):=by omega
     have:(i:Int) < (mid:Int):=by omega
     have CR:=rotate_any base (some ⟨g,0,none⟩) N c (P ++ A1) A2 B1 (B2 ++ T) wr i m en (by have:=HA.out;have:=HA1.out;have:=HA2.out;have:=HB1.out;have:=HB2.out;have:=HT0.out;simp only [List.length_append];omega) (by have:=HA.out;have:=HA1.out;have:=HA2.out;have:=HB1.out;have:=HB2.out;have:=HT0.out;omega) (by have:=HA.out;have:=HA1.out;have:=HA2.out;have:=HB1.out;have:=HB2.out;have:=HT0.out;omega) (by have:=HA.out;have:=HA1.out;have:=HA2.out;have:=HB1.out;have:=HB2.out;have:=HT0.out;omega) (by have:=HA.out;have:=HA1.out;have:=HA2.out;have:=HB1.out;have:=HB2.out;have:=HT0.out;omega) (by have:=HA.out;have:=HA1.out;have:=HA2.out;have:=HB1.out;have:=HB2.out;have:=HT0.out;simp only [List.length_append];omega) hN3 (by simpa using o3) (by omega)
     go_wp2_with fail
     refine CR.mono ?_
     rintro e1 w1 ⟨rfl,o4,hb4⟩
     have HB':=HB.trans hb4
     have z4:=HB'.size
     have o4':Own w1 base 262 2 (some ⟨g,0,none⟩) N c (fcells (P ++ (A1 ++ (B1 ++ (A2 ++ (B2 ++ T)))))):=by simpa using o4
     clear CR o4 hb4 o3
     by_cases c3:a < i
     ·have:(a:Int) < (i:Int):=by omega
      have CL:=HIH.out P A1 B1 (A2 ++ (B2 ++ T)) w1 a i mid HA.out (by have:=HA.out;have:=HA1.out;have:=HA2.out;have:=HB1.out;have:=HB2.out;have:=HT0.out;omega) (by have:=HA.out;have:=HA1.out;have:=HA2.out;have:=HB1.out;have:=HB2.out;have:=HT0.out;omega) (by have:=HA.out;have:=HA1.out;have:=HA2.out;have:=HB1.out;have:=HB2.out;have:=HT0.out;simp only [List.length_append];omega) (by have:=HA.out;have:=HA1.out;have:=HA2.out;have:=HB1.out;have:=HB2.out;have:=HT0.out;omega) (by have:=HA.out;have:=HA1.out;have:=HA2.out;have:=HB1.out;have:=HB2.out;have:=HT0.out;omega) (by have:=HA.out;have:=HA1.out;have:=HA2.out;have:=HB1.out;have:=HB2.out;have:=HT0.out;omega) UA1.out UB1.out o4' (by omega)
      unfold MergeOk at CL
      go_wp2_with fail
      refine CL.mono ?_
      rintro e2 w2 ⟨rfl,o5,hb5⟩
      have HB'':=HB'.trans hb5
      have z5:=HB''.size
      clear CL hb5 o4'
      by_cases c4:en < b
      ·have:(en:Int) < (b:Int):=by omega
       have hsl:=sortW_len (A1 ++ B1)
       rw [List.length_append] at hsl
       have CH:=HIH.out (P ++ sortW (A1 ++ B1)) A2 B2 T w2 mid en b (by have:=HA.out;have:=HA1.out;have:=HA2.out;have:=HB1.out;have:=HB2.out;have:=HT0.out;simp only [List.length_append];omega) (by have:=HA.out;have:=HA1.out;have:=HA2.out;have:=HB1.out;have:=HB2.out;have:=HT0.out;omega) (by have:=HA.out;have:=HA1.out;have:=HA2.out;have:=HB1.out;have:=HB2.out;have:=HT0.out;omega) (by have:=HA.out;have:=HA1.out;have:=HA2.out;have:=HB1.out;have:=HB2.out;have:=HT0.out;simp only [List.length_append];omega) (by have:=HA.out;have:=HA1.out;have:=HA2.out;have:=HB1.out;have:=HB2.out;have:=HT0.out;omega) (by have:=HA.out;have:=HA1.out;have:=HA2.out;have:=HB1.out;have:=HB2.out;have:=HT0.out;omega) (by have:=HA.out;have:=HA1.out;have:=HA2.out;have:=HB1.out;have:=HB2.out;have:=HT0.out;omega) UA2.out UB2.out (by simpa using o5) (by omega)
       unfold MergeOk at CH
       go_wp2_with fail
       refine CH.mono ?_
       rintro e3 w3 ⟨rfl,o6,hb6⟩
       have HB3:=HB''.trans hb6
       have o7:Own w3 base 262 2 (some ⟨g,0,none⟩) N c (fcells (P ++ (sortW (A1 ++ B1) ++ (sortW (A2 ++ B2) ++ T)))):=by simpa using o6
       clear CH hb6 o5 o6
       go_wp2_with fail
       all_goals
        go_end0
        exact ⟨rfl,HF.out ▸ o7,HB3⟩
      ·have:¬ (en:Int) < (b:Int):=by omega
       have o7:Own w2 base 262 2 (some ⟨g,0,none⟩) N c (fcells (P ++ (sortW (A1 ++ B1) ++ (sortW (A2 ++ B2) ++ T)))):=by
        have hnil:B2 = []:=List.eq_nil_of_length_eq_zero (by have:=HA.out;have:=HA1.out;have:=HA2.out;have:=HB1.out;have:=HB2.out;have:=HT0.out;omega)
        have hs:sortW (A2 ++ B2) = A2 ++ B2:=by
         have u1:=UA2.out
         have u2:=UB2.out
         try rw [hnil] at u1
         try rw [hnil] at u2
         rw [hnil]
         simp only [List.nil_append,List.append_nil]
         first | exact sort_self u1 | exact sort_self u2
        rw [hs]
        simpa using o5
       have HB3:=HB''
       clear o5
       go_wp2_with fail
       all_goals
        go_end0
        exact ⟨rfl,HF.out ▸ o7,HB3⟩
     ·have:¬ (a:Int) < (i:Int):=by omega
      have o5:Own w1 base 262 2 (some ⟨g,0,none⟩) N c (fcells (P ++ (sortW (A1 ++ B1) ++ (A2 ++ (B2 ++ T))))):=by
       have hnil:A1 = []:=List.eq_nil_of_length_eq_zero (by have:=HA.out;have:=HA1.out;have:=HA2.out;have:=HB1.out;have:=HB2.out;have:=HT0.out;omega)
       have hs:sortW (A1 ++ B1) = A1 ++ B1:=by
        have u1:=UA1.out
        have u2:=UB1.out
        try rw [hnil] at u1
        try rw [hnil] at u2
        rw [hnil]
        simp only [List.nil_append,List.append_nil]
        first | exact sort_self u1 | exact sort_self u2
       rw [hs]
       simpa using o4'
      have HB'':=HB'
      have z5:=HB''.size
      clear o4'
      by_cases c4:en < b
      ·have:(en:Int) < (b:Int):=by omega
       have hsl:=sortW_len (A1 ++ B1)
       rw [List.length_append] at hsl
       have CH:=HIH.out (P ++ sortW (A1 ++ B1)) A2 B2 T w1 mid en b (by have:=HA.out;have:=HA1.out;have:=HA2.out;have:=HB1.out;have:=HB2.out;have:=HT0.out;simp only [List.length_append];omega) (by have:=HA.out;have:=HA1.out;have:=HA2.out;have:=HB1.out;have:=HB2.out;have:=HT0.out;omega) (by have:=HA.out;have:=HA1.out;have:=HA2.out;have:=HB1.out;have:=HB2.out;have:=HT0.out;omega) (by have:=HA.out;have:=HA1.out;have:=HA2.out;have:=HB1.out;have:=HB2.out;have:=HT0.out;simp only [List.length_append];omega) (by have:=HA.out;have:=HA1.out;have:=HA2.out;have:=HB1.out;have:=HB2.out;have:=HT0.out;omega) (by have:=HA.out;have:=HA1.out;have:=HA2.out;have:=HB1.out;have:=HB2.out;have:=HT0.out;omega) (by have:=HA.out;have:=HA1.out;have:=HA2.out;have:=HB1.out;have:=HB2.out;have:=HT0.out;omega) UA2.out UB2.out (by simpa using o5) (by omega)
       unfold MergeOk at CH
       go_wp2_with fail
       refine CH.mono ?_
       rintro e3 w3 ⟨rfl,o6,hb6⟩
       have HB3:=HB''.trans hb6
       have o7:Own w3 base 262 2 (some ⟨g,0,none⟩) N c (fcells (P ++ (sortW (A1 ++ B1) ++ (sortW (A2 ++ B2) ++ T)))):=by simpa using o6
       clear CH hb6 o5 o6
       go_wp2_with fail
       all_goals
        go_end0
        exact ⟨rfl,HF.out ▸ o7,HB3⟩
      ·have:¬ (en:Int) < (b:Int):=by omega
       have o7:Own w1 base 262 2 (some ⟨g,0,none⟩) N c (fcells (P ++ (sortW (A1 ++ B1) ++ (sortW (A2 ++ B2) ++ T)))):=by
        have hnil:B2 = []:=List.eq_nil_of_length_eq_zero (by have:=HA.out;have:=HA1.out;have:=HA2.out;have:=HB1.out;have:=HB2.out;have:=HT0.out;omega)
        have hs:sortW (A2 ++ B2) = A2 ++ B2:=by
         have u1:=UA2.out
         have u2:=UB2.out
         try rw [hnil] at u1
         try rw [hnil] at u2
         rw [hnil]
         simp only [List.nil_append,List.append_nil]
         first | exact sort_self u1 | exact sort_self u2
        rw [hs]
        simpa using o5
       have HB3:=HB''
       clear o5
       go_wp2_with fail
       all_goals
        go_end0
        exact ⟨rfl,HF.out ▸ o7,HB3⟩
    ·have:(i:Int) < (m:Int):=by omega
     have:¬ (m:Int) < (en:Int):=by omega
     have:(a:Int) < (i:Int):=by omega
     have:¬ (i:Int) < (mid:Int):=by omega
     have:(mid:Int) < (en:Int):=by omega
     have:(en:Int) < (b:Int):=by omega
     have o4':Own wr base 262 2 (some ⟨g,0,none⟩) N c (fcells (P ++ (A1 ++ (B1 ++ (A2 ++ (B2 ++ T)))))):=by
      have hnil:B1 = []:=List.eq_nil_of_length_eq_zero (by have:=HA.out;have:=HA1.out;have:=HA2.out;have:=HB1.out;have:=HB2.out;have:=HT0.out;omega)
      rw [hnil] at o3 ⊢
      simpa using o3
     have HB':=HB
     have z4:=HB'.size
     clear o3
     have o5:Own wr base 262 2 (some ⟨g,0,none⟩) N c (fcells (P ++ (sortW (A1 ++ B1) ++ (A2 ++ (B2 ++ T))))):=by
      have hnil:B1 = []:=List.eq_nil_of_length_eq_zero (by have:=HA.out;have:=HA1.out;have:=HA2.out;have:=HB1.out;have:=HB2.out;have:=HT0.out;omega)
      have hs:sortW (A1 ++ B1) = A1 ++ B1:=by
       have u1:=UA1.out
       have u2:=UB1.out
       try rw [hnil] at u1
       try rw [hnil] at u2
       rw [hnil]
       simp only [List.nil_append,List.append_nil]
       first | exact sort_self u1 | exact sort_self u2
      rw [hs]
      simpa using o4'
     have HB'':=HB'
     have z5:=HB''.size
     clear o4'
     have hsl:=sortW_len (A1 ++ B1)
     rw [List.length_append] at hsl
     have CH:=HIH.out (P ++ sortW (A1 ++ B1)) A2 B2 T wr mid en b (by have:=HA.out;have:=HA1.out;have:=HA2.out;have:=HB1.out;have:=HB2.out;have:=HT0.out;simp only [List.length_append];omega) (by have:=HA.out;have:=HA1.out;have:=HA2.out;have:=HB1.out;have:=HB2.out;have:=HT0.out;omega) (by have:=HA.out;have:=HA1.out;have:=HA2.out;have:=HB1.out;have:=HB2.out;have:=HT0.out;omega) (by have:=HA.out;have:=HA1.out;have:=HA2.out;have:=HB1.out;have:=HB2.out;have:=HT0.out;simp only [List.length_append];omega) (by have:=HA.out;have:=HA1.out;have:=HA2.out;have:=HB1.out;have:=HB2.out;have:=HT0.out;omega) (by have:=HA.out;have:=HA1.out;have:=HA2.out;have:=HB1.out;have:=HB2.out;have:=HT0.out;omega) (by have:=HA.out;have:=HA1.out;have:=HA2.out;have:=HB1.out;have:=HB2.out;have:=HT0.out;omega) UA2.out UB2.out (by simpa using o5) (by omega)
     unfold MergeOk at CH
     go_wp2_with fail
     refine CH.mono ?_
     rintro e3 w3 ⟨rfl,o6,hb6⟩
     have HB3:=HB''.trans hb6
     have o7:Own w3 base 262 2 (some ⟨g,0,none⟩) N c (fcells (P ++ (sortW (A1 ++ B1) ++ (sortW (A2 ++ B2) ++ T)))):=by simpa using o6
     clear CH hb6 o5 o6
     go_wp2_with fail
     all_goals
      go_end0
      exact ⟨rfl,HF.out ▸ o7,HB3⟩
   ·have:¬ (i:Int) < (m:Int):=by omega
    have:(a:Int) < (i:Int):=by omega
    have:¬ (mid:Int) < (en:Int):=by omega
    have o4':Own wr base 262 2 (some ⟨g,0,none⟩) N c (fcells (P ++ (A1 ++ (B1 ++ (A2 ++ (B2 ++ T)))))):=by
     have hnil:A2 = []:=List.eq_nil_of_length_eq_zero (by have:=HA.out;have:=HA1.out;have:=HA2.out;have:=HB1.out;have:=HB2.out;have:=HT0.out;omega)
     rw [hnil] at o3 ⊢
     simpa using o3
    have HB':=HB
    have z4:=HB'.size
    clear o3
    by_cases c3:i < mid
    ·have:(i:Int) < (mid:Int):=by omega
     have CL:=HIH.out P A1 B1 (A2 ++ (B2 ++ T)) wr a i mid HA.out (by have:=HA.out;have:=HA1.out;have:=HA2.out;have:=HB1.out;have:=HB2.out;have:=HT0.out;omega) (by have:=HA.out;have:=HA1.out;have:=HA2.out;have:=HB1.out;have:=HB2.out;have:=HT0.out;omega) (by have:=HA.out;have:=HA1.out;have:=HA2.out;have:=HB1.out;have:=HB2.out;have:=HT0.out;simp only [List.length_append];omega) (by have:=HA.out;have:=HA1.out;have:=HA2.out;have:=HB1.out;have:=HB2.out;have:=HT0.out;omega) (by have:=HA.out;have:=HA1.out;have:=HA2.out;have:=HB1.out;have:=HB2.out;have:=HT0.out;omega) (by have:=HA.out;have:=HA1.out;have:=HA2.out;have:=HB1.out;have:=HB2.out;have:=HT0.out;omega) UA1.out UB1.out o4' (by omega)
     unfold MergeOk at CL
     go_wp2_with fail
     refine CL.mono ?_
     rintro e2 w2 ⟨rfl,o5,hb5⟩
     have HB'':=HB'.trans hb5
     have z5:=HB''.size
     clear CL hb5 o4'
     have o7:Own w2 base 262 2 (some ⟨g,0,none⟩) N c (fcells (P ++ (sortW (A1 ++ B1) ++ (sortW (A2 ++ B2) ++ T)))):=by
      have hnil:A2 = []:=List.eq_nil_of_length_eq_zero (by have:=HA.out;have:=HA1.out;have:=HA2.out;have:=HB1.out;have:=HB2.out;have:=HT0.out;omega)
      have hs:sortW (A2 ++ B2) = A2 ++ B2:=by
       have u1:=UA2.out
       have u2:=UB2.out
       try rw [hnil] at u1
       try rw [hnil] at u2
       rw [hnil]
       simp only [List.nil_append,List.append_nil]
       first | exact sort_self u1 | exact sort_self u2
      rw [hs]
      simpa using o5
     have HB3:=HB''
     clear o5
     go_wp2_with fail
     all_goals
      go_end0
      exact ⟨rfl,HF.out ▸ o7,HB3⟩
    ·have:¬ (i:Int) < (mid:Int):=by omega
     have o5:Own wr base 262 2 (some ⟨g,0,none⟩) N c (fcells (P ++ (sortW (A1 ++ B1) ++ (A2 ++ (B2 ++ T))))):=by
      have hnil:B1 = []:=List.eq_nil_of_length_eq_zero (by have:=HA.out;have:=HA1.out;have:=HA2.out;have:=HB1.out;have:=HB2.out;have:=HT0.out;omega)
      have hs:sortW (A1 ++ B1) = A1 ++ B1:=by
       have u1:=UA1.out
       have u2:=UB1.out
       try rw [hnil] at u1
       try rw [hnil] at u2
       rw [hnil]
       simp only [List.nil_append,List.append_nil]
       first | exact sort_self u1 | exact sort_self u2
      rw [hs]
      simpa using o4'
     have HB'':=HB'
     have z5:=HB''.size
     clear o4'
     have o7:Own wr base 262 2 (some ⟨g,0,none⟩) N c (fcells (P ++ (sortW (A1 ++ B1) ++ (sortW (A2 ++ B2) ++ T)))):=by
      have hnil:A2 = []:=List.eq_nil_of_length_eq_zero (by have:=HA.out;have:=HA1.out;have:=HA2.out;have:=HB1.out;have:=HB2.out;have:=HT0.out;omega)
      have hs:sortW (A2 ++ B2) = A2 ++ B2:=by
       have u1:=UA2.out
       have u2:=UB2.out
       try rw [hnil] at u1
       try rw [hnil] at u2
       rw [hnil]
       simp only [List.nil_append,List.append_nil]
       first | exact sort_self u1 | exact sort_self u2
      rw [hs]
      simpa using o5
     have HB3:=HB''
     clear o5
     go_wp2_with fail
     all_goals
      go_end0
      exact ⟨rfl,HF.out ▸ o7,HB3⟩
theorem sym_stepB (base:Nat) (A0:Option Addr) (N c:Nat) (P M1 M2 T:List (Int × Int)) (w:World) (a m b mid l1 l2:Nat) (hl1:M1.length = l1) (hl2:M2.length = l2) (ha:P.length = a) (hm:a + l1 = m) (hb:m + l2 = b) (hN:P.length + M1.length + M2.length + T.length = N) (hN3:N≤1000) (h1:2≤l1) (h2:2≤l2)
 (hM1:upW M1) (hM2:upW M2) (ho:Own w base 262 2 A0 N c (fcells (P ++ (M1 ++ (M2 ++ T))))) (hbs:base≤w.heap.size) (hmid:(a + b) / 2 = mid) (hcs:StepB m mid) (IH:MergeAll base A0 N c (l1 + l2)):MergeOk base A0 N c P M1 M2 T w a m b:=by
 unfold MergeOk
 obtain ⟨s0,hs0⟩:∃ s,mid + m - b = s:=⟨_,rfl⟩
 obtain ⟨n',hn'⟩:∃ n,mid + m = n:=⟨_,rfl⟩
 obtain ⟨p,hp⟩:∃ p,n' - 1 = p:=⟨_,rfl⟩
 obtain ⟨t0,ht0⟩:∃ t,T.length = t:=⟨_,rfl⟩
 obtain ⟨q1,q2,q3,q4,q5,q6⟩:=stepCB hcs hm hb hmid hs0
 have hr:=stepRB hcs
 have hgt:=stepIB hcs
 rw [hl1,hl2,ht0,ha] at hN
 have hbN:b≤N:=by omega
 have hma:a < mid:=by omega
 have hmb:mid < b:=by omega
 have hw1:IntKind.i64.wrap ((m:Int) - (a:Int)) = (l1:Int):=(w64k (by omega) (by omega)).trans (by omega)
 have hw2:IntKind.i64.wrap ((b:Int) - (m:Int)) = (l2:Int):=(w64k (by omega) (by omega)).trans (by omega)
 have hl11:¬ (l1:Int) = 1:=by omega
 have hl12:((l1:Int) == 1) = false:=by simp;omega
 have hl21:¬ (l2:Int) = 1:=by omega
 have hl22:((l2:Int) == 1) = false:=by simp;omega
 have hab:IntKind.i64.wrap ((a:Int) + (b:Int)) = ((a + b:Nat):Int):=(w64k (by omega) (by omega)).trans (by omega)
 have hmd:((a:Int) + (b:Int)) / 2 = (mid:Int):=by omega
 have hnn:IntKind.i64.wrap ((mid:Int) + (m:Int)) = (n':Int):=(w64k (by omega) (by omega)).trans (by omega)
 have hpp:IntKind.i64.wrap ((n':Int) - 1) = (p:Int):=(w64k (by omega) (by omega)).trans (by omega)
 have hss:mid < m → IntKind.i64.wrap ((n':Int) - (b:Int)) = (s0:Int):=fun _=>(w64k (by omega) (by omega)).trans (by omega)
 have hss2:IntKind.i64.wrap ((n':Int) - (b:Int)) = ((n':Int) - (b:Int)):=w64k (by omega) (by omega)
 have hp1:p + 1≤mid + m:=by omega
 have hp2:mid + m≤p + 1:=by omega
 have hn1:n'≤mid + m:=by omega
 have hn2:mid + m≤n':=by omega
 have ham1:a + l1≤m:=by omega
 have ham2:m≤a + l1:=by omega
 have hmb1:m + l2≤b:=by omega
 have hmb2:b≤m + l2:=by omega
 have HL1:=Lib.hid hl1
 have HL2:=Lib.hid hl2
 have HA:=Lib.hid ha
 have HT0:=Lib.hid ht0
 have HN:=Lib.hid hN
 have HM1:=Lib.hid hM1
 have HM2:=Lib.hid hM2
 have HIH:=Lib.hid IH
 have HQ5:=Lib.hid q5
 have HQ6:=Lib.hid q6
 have HRR:=Lib.hid hr
 have HSS:=Lib.hid (show mid < m → (n':Int) - (b:Int) = (s0:Int) from fun _=>by omega)
 have HCS:=Lib.hid hcs
 clear hl1 hl2 ha ht0 hm hb hN hM1 hM2 IH q5 q6 hmid hs0 hn' hp hr hss
 obtain ⟨g,rfl⟩:∃ g,A0 = some ⟨g,0,none⟩:=by
  rcases ho.shape with ⟨_,h0,_⟩ | ⟨g,e,_⟩
  ·omega
  ·exact ⟨g,e⟩
 have hg0:base≤g:=(ho.blk g rfl).1
 clear hcs
 go_enter Tryz.func210,Tryz.ntmps210
 go_wp2_with fail
 try rw [HSS.out HCS.out]
 go_loopw [20,21] (fun s r wr=>∃ i j:Nat,s = .int .i64 i∧r = .int .i64 j∧a≤i∧i≤j∧mid + m≤i + b∧j≤m∧j≤mid∧(∀ t u (ht:t < M1.length) (hu:u < M2.length),a + t + u + 1 = mid → a + t < i → (M1[t]).1≤(M2[u]).1)∧(∀ t u (ht:t < M1.length) (hu:u < M2.length),a + t + u + 1 = mid → j≤a + t → (M2[u]).1 < (M1[t]).1)∧Own wr base 262 2 (some ⟨g,0,none⟩) N c (fcells (P ++ (M1 ++ (M2 ++ T))))∧Below base w wr) (fun s r _=>(intOf r).toNat - (intOf s).toNat)
 case atStart=>exact ⟨a,m,rfl,rfl,q1,q2,q4,HRR.out.1,HRR.out.2,fun t u ht hu h1 h2=>absurd h2 (HQ5.out t u (by have:=HL1.out;omega) (by have:=HL2.out;omega) h1),fun t u ht hu h1 h2=>absurd h2 (HQ6.out t u (by have:=HL1.out;omega) (by have:=HL2.out;omega) h1),ho,Below.refl _ _⟩
 case round =>
  clear ho
  obtain ⟨i,j,rfl,rfl,hi,hij,hib,hjm,hjd,hlo,hhi,o2,HB⟩:=hrel
  have hz:=HB.size
  have HLO:=Lib.hid hlo
  have HHI:=Lib.hid hhi
  clear hlo hhi q1 q2 q3 q4 HQ5 HQ6 HRR HSS HCS
  by_cases hlt:i < j
  ·have hltI:(i:Int) < (j:Int):=by omega
   obtain ⟨h,hh⟩:∃ h,(i + j) / 2 = h:=⟨_,rfl⟩
   have hh1:i≤h:=by omega
   have hh2:h < j:=by omega
   have hij1:IntKind.i64.wrap ((i:Int) + (j:Int)) = ((i + j:Nat):Int):=(w64k (by omega) (by omega)).trans (by omega)
   have hhI:((i:Int) + (j:Int)) / 2 = (h:Int):=by omega
   obtain ⟨t,ht⟩:∃ t,h = a + t:=⟨h - a,by omega⟩
   obtain ⟨u,hu⟩:∃ u,a + t + u + 1 = mid:=⟨mid - 1 - h,by omega⟩
   obtain ⟨pc,hpc⟩:∃ pc,m + u = pc:=⟨_,rfl⟩
   have htl:t < M1.length:=by have:=HL1.out;omega
   have hul:u < M2.length:=by have:=HL2.out;omega
   obtain ⟨x,hx0⟩:∃ x,M1[t] = x:=⟨_,rfl⟩
   obtain ⟨z,hz0⟩:∃ z,M2[u] = z:=⟨_,rfl⟩
   have hLl:(P ++ (M1 ++ (M2 ++ T))).length = N:=by have:=o2.len;rw [fcells_len] at this;omega
   have e1:(P ++ (M1 ++ (M2 ++ T)))[h]'(by omega) = x:=by
    rw [List.getElem_append_right (by have:=HA.out;omega)]
    have:h - P.length = t:=by have:=HA.out;omega
    simp only [this]
    rw [List.getElem_append_left htl,hx0]
   have e2:(P ++ (M1 ++ (M2 ++ T)))[pc]'(by omega) = z:=by
    rw [List.getElem_append_right (by have:=HA.out;omega),List.getElem_append_right (by have:=HA.out;have:=HL1.out;omega)]
    have:pc - P.length - M1.length = u:=by have:=HA.out;have:=HL1.out;omega
    simp only [this]
    rw [List.getElem_append_left hul,hz0]
   have K1:=cells_at _ h (by omega) x e1
   have K2:=cells_at _ pc (by omega) z e2
   obtain ⟨x1,x2⟩:=x
   obtain ⟨z1,z2⟩:=z
   dsimp only at K1 K2
   have KK:=Lib.hid (And.intro K1 K2)
   have HX:=Lib.hid hx0
   have HZ:=Lib.hid hz0
   have HT:=Lib.hid ht
   have HU:=Lib.hid hu
   obtain ⟨v,hv⟩:∃ v,cmpV z1 x1 = v:=⟨_,rfl⟩
   have hvl:=cmpV_lt z1 x1
   rw [hv] at hvl
   have HVL:=Lib.hid hvl
   have HT1:=Lib.hid htl
   have HU1:=Lib.hid hul
   have hh0:(0:Int)≤(h:Int):=by omega
   have hm0:(0:Int)≤(pc:Int):=by omega
   have hhN:(h:Int) < (N:Int):=by omega
   have hmN:(pc:Int) < (N:Int):=by omega
   have hh3:IntKind.i64.wrap ((h:Int) + 1) = (h:Int) + 1:=w64k (by omega) (by omega)
   have hpc1:IntKind.i64.wrap ((p:Int) - (h:Int)) = (pc:Int):=(w64k (by omega) (by omega)).trans (by omega)
   clear hh K1 K2 e1 e2 hz0 hx0 ht hu hvl hLl hpc
   by_cases hv0:v < 0
   ·have hzx:=HVL.out.1 hv0
    have hnd:(!decide (v < 0)) = false:=by simp [hv0]
    have HHI2:=Lib.hid (show ∀ t' u' (ht:t' < M1.length) (hu:u' < M2.length),a + t' + u' + 1 = mid → h≤a + t' → (M2[u']).1 < (M1[t']).1 from fun t' u' ht' hu' h1 hle=>by
     have h2:=up_get HM1.out t t' (by have:=HT.out;omega) ht'
     have h3:=up_get HM2.out u' u (by have:=HT.out;have:=HU.out;omega) HU1.out
     rw [HX.out] at h2
     rw [HZ.out] at h3
     dsimp only at h2 h3
     omega)
    clear hzx
    go_wp2_with fail
    refine wp_region_held_drew (S:=(fun w'=>w'.cell? ⟨g,h * 2,none⟩ = some (.int .i64 x1)∧w'.cell? ⟨g,h * 2 + 1,none⟩ = some (.int .i64 x2)∧w'.cell? ⟨g,pc * 2,none⟩ = some (.int .i64 z1)∧w'.cell? ⟨g,pc * 2 + 1,none⟩ = some (.int .i64 z2))) (by kernel_rfl) ?_ (fun hHeld=>?_)
    ·replace HB:=Below.drew HB;replace o2:=Own.drew o2;(try dsimp only);exact ⟨own_cell o2 _ KK.out.1.1,own_cell o2 _ KK.out.1.2,own_cell o2 _ KK.out.2.1,own_cell o2 _ KK.out.2.2⟩
    replace HB:=Below.drew HB
    replace o2:=Own.drew o2
    have zHB:=HB.size
    refine zM 0 (.tmp 4) ?_
    refine zM 1 (.tmp 0) ?_
    refine zM 2 (.tmp 22) ?_
    refine zM 3 (.tmp 23) ?_
    refine zO 4 (.binOp .sub 3 (.tmp 160) (.tmp 161) 3) 3 ?_
    refine zO 5 (.indexAddr 259 (.tmp 159) (.tmp 162)) 0 ?_
    refine zO 6 (.load 262 (.tmp 163)) 262 ?_
    refine zM 7 (.tmp 0) ?_
    refine zM 8 (.tmp 23) ?_
    refine zO 9 (.indexAddr 259 (.tmp 165) (.tmp 166)) 0 ?_
    refine zO 10 (.load 262 (.tmp 167)) 262 ?_
    refine zR 11 (fun K11 hK11=>?_)
    refine take_callv 11 200 158 [Operand.tmp 164,Operand.tmp 168] #[262,262] rfl rfl (by kernel_rfl) rfl (fun args w=>run_enter Tryz.func200 (by kernel_rfl) rfl args w) ?_
    refine (against_any z1 z2 x1 x2 _ v hv).mono ?_
    rintro e w11 ⟨rfl,hb11⟩
    refine ⟨_,rfl,?_⟩
    have z11:=hb11.size
    try simp only [World.size_drew] at z11
    replace HB:=HB.trans (hb11.mono (by first | exact HB.size | omega))
    have zHB11:=HB.size
    replace o2:=Own.below o2 hb11
    refine hK11.out _ _ ?su3x11 (fun hHeld=>?ru3x11)
    case su3x11=>((try dsimp only);exact ⟨own_cell o2 _ KK.out.1.1,own_cell o2 _ KK.out.1.2,own_cell o2 _ KK.out.2.1,own_cell o2 _ KK.out.2.2⟩)
    try simp only [zSa,zSb,zSc]
    refine zO 12 (.binOp .lss 3 (.tmp 169) (.const (Value.int IntKind.i64 0)) 3) 4 ?_
    refine zO 13 (.unOp .not 4 (.tmp 170)) 4 ?_
    refine wpAnyH_done (by kernel_rfl) ?_ _
    clear hHeld
    go_wp2_with fail
    go_roundw
    case rel=>exact ⟨i,h,rfl,rfl,hi,by omega,by omega,by omega,by omega,HLO.out,HHI2.out,o2,HB⟩
    case measure=>simp [intOf];omega
   ·have hzx:¬ z1 < x1:=fun e=>hv0 (HVL.out.2 e)
    have hnd:(!decide (v < 0)) = true:=by simp [hv0]
    have HLO2:=Lib.hid (show ∀ t' u' (ht:t' < M1.length) (hu:u' < M2.length),a + t' + u' + 1 = mid → a + t' < h + 1 → (M1[t']).1≤(M2[u']).1 from fun t' u' ht' hu' h1 hle=>by
     have h2:=up_get HM1.out t' t (by have:=HT.out;omega) HT1.out
     have h3:=up_get HM2.out u u' (by have:=HT.out;have:=HU.out;omega) hu'
     rw [HX.out] at h2
     rw [HZ.out] at h3
     dsimp only at h2 h3
     omega)
    clear hzx
    go_wp2_with fail
    refine wp_region_held_drew (S:=(fun w'=>w'.cell? ⟨g,h * 2,none⟩ = some (.int .i64 x1)∧w'.cell? ⟨g,h * 2 + 1,none⟩ = some (.int .i64 x2)∧w'.cell? ⟨g,pc * 2,none⟩ = some (.int .i64 z1)∧w'.cell? ⟨g,pc * 2 + 1,none⟩ = some (.int .i64 z2))) (by kernel_rfl) ?_ (fun hHeld=>?_)
    ·replace HB:=Below.drew HB;replace o2:=Own.drew o2;(try dsimp only);exact ⟨own_cell o2 _ KK.out.1.1,own_cell o2 _ KK.out.1.2,own_cell o2 _ KK.out.2.1,own_cell o2 _ KK.out.2.2⟩
    replace HB:=Below.drew HB
    replace o2:=Own.drew o2
    have zHB:=HB.size
    refine zM 0 (.tmp 4) ?_
    refine zM 1 (.tmp 0) ?_
    refine zM 2 (.tmp 22) ?_
    refine zM 3 (.tmp 23) ?_
    refine zO 4 (.binOp .sub 3 (.tmp 160) (.tmp 161) 3) 3 ?_
    refine zO 5 (.indexAddr 259 (.tmp 159) (.tmp 162)) 0 ?_
    refine zO 6 (.load 262 (.tmp 163)) 262 ?_
    refine zM 7 (.tmp 0) ?_
    refine zM 8 (.tmp 23) ?_
    refine zO 9 (.indexAddr 259 (.tmp 165) (.tmp 166)) 0 ?_
    refine zO 10 (.load 262 (.tmp 167)) 262 ?_
    refine zR 11 (fun K11 hK11=>?_)
    refine take_callv 11 200 158 [Operand.tmp 164,Operand.tmp 168] #[262,262] rfl rfl (by kernel_rfl) rfl (fun args w=>run_enter Tryz.func200 (by kernel_rfl) rfl args w) ?_
    refine (against_any z1 z2 x1 x2 _ v hv).mono ?_
    rintro e w11 ⟨rfl,hb11⟩
    refine ⟨_,rfl,?_⟩
    have z11:=hb11.size
    try simp only [World.size_drew] at z11
    replace HB:=HB.trans (hb11.mono (by first | exact HB.size | omega))
    have zHB11:=HB.size
    replace o2:=Own.below o2 hb11
    refine hK11.out _ _ ?su4x11 (fun hHeld=>?ru4x11)
    case su4x11=>((try dsimp only);exact ⟨own_cell o2 _ KK.out.1.1,own_cell o2 _ KK.out.1.2,own_cell o2 _ KK.out.2.1,own_cell o2 _ KK.out.2.2⟩)
    try simp only [zSa,zSb,zSc]
    refine zO 12 (.binOp .lss 3 (.tmp 169) (.const (Value.int IntKind.i64 0)) 3) 4 ?_
    refine zO 13 (.unOp .not 4 (.tmp 170)) 4 ?_
    refine wpAnyH_done (by kernel_rfl) ?_ _
    clear hHeld
    go_wp2_with fail
    go_roundw
    case rel=>exact ⟨h + 1,j,by go_num,rfl,by omega,by omega,by omega,hjm,hjd,HLO2.out,HHI.out,o2,HB⟩
    case measure=>simp [intOf];omega
  ·have hltI:¬ (i:Int) < (j:Int):=by omega
   obtain rfl:i = j:=by omega
   obtain ⟨A1,A2,hAA,hA1⟩:∃ A1 A2,M1 = A1 ++ A2∧A1.length = i - a:=⟨M1.take (i - a),M1.drop (i - a),(List.take_append_drop _ _).symm,by rw [List.length_take,HL1.out];omega⟩
   obtain ⟨B1,B2,hBB,hB1⟩:∃ B1 B2,M2 = B1 ++ B2∧B1.length = mid - i:=⟨M2.take (mid - i),M2.drop (mid - i),(List.take_append_drop _ _).symm,by rw [List.length_take,HL2.out];omega⟩
   have hA2:A2.length = m - i:=by have:=HL1.out;rw [hAA,List.length_append] at this;omega
   have hB2:B2.length = i + b - mid - m:=by have:=HL2.out;rw [hBB,List.length_append] at this;omega
   have UA:=HM1.out
   have UB:=HM2.out
   have hsort:sortW (M1 ++ M2) = sortW (A1 ++ B1) ++ sortW (A2 ++ B2):=by
    rw [hAA] at UA
    rw [hBB] at UB
    rw [hAA,hBB]
    refine sort_parts A1 A2 B1 B2 UA UB (fun x hx y hy=>?_) (fun x hx y hy=>?_)
    ·obtain ⟨t,ht,rfl⟩:=List.getElem_of_mem hx
     obtain ⟨u,hu,rfl⟩:=List.getElem_of_mem hy
     have k1:=HLO.out (i - 1 - a) (mid - i) (by rw [hAA,List.length_append];omega) (by rw [hBB,List.length_append];omega) (by omega) (by omega)
     have k2:=up_get HM1.out t (i - 1 - a) (by omega) (by rw [hAA,List.length_append];omega)
     have k3:=up_get HM2.out (mid - i) (B1.length + u) (by omega) (by rw [hBB,List.length_append];omega)
     simp only [hAA] at k1 k2
     simp only [hBB] at k1 k3
     rw [List.getElem_append_left ht] at k2
     rw [List.getElem_append_right (i:=B1.length + u) (by omega)] at k3
     simp only [Nat.add_sub_cancel_left] at k3
     omega
    ·obtain ⟨u,hu,rfl⟩:=List.getElem_of_mem hx
     obtain ⟨t,ht,rfl⟩:=List.getElem_of_mem hy
     have k1:=HHI.out (i - a) (mid - i - 1) (by rw [hAA,List.length_append];omega) (by rw [hBB,List.length_append];omega) (by omega) (by omega)
     have k2:=up_get HM1.out (i - a) (A1.length + t) (by omega) (by rw [hAA,List.length_append];omega)
     have k3:=up_get HM2.out u (mid - i - 1) (by omega) (by rw [hBB,List.length_append];omega)
     simp only [hAA] at k1 k2
     simp only [hBB] at k1 k3
     rw [List.getElem_append_left hu] at k3
     rw [List.getElem_append_right (i:=A1.length + t) (by omega)] at k2
     simp only [Nat.add_sub_cancel_left] at k2
     omega
   obtain ⟨en,hen⟩:∃ en,mid + m - i = en:=⟨_,rfl⟩
   have hen1:IntKind.i64.wrap ((n':Int) - (i:Int)) = (en:Int):=(w64k (by omega) (by omega)).trans (by omega)
   have hen2:en + i≤mid + m:=by omega
   have hen3:mid + m≤en + i:=by omega
   rw [hAA,hBB] at o2
   have o3:Own wr base 262 2 (some ⟨g,0,none⟩) N c (fcells (P ++ (A1 ++ (A2 ++ (B1 ++ (B2 ++ T)))))):=by simpa using o2
   have UA1:=Lib.hid (List.pairwise_append.1 (hAA ▸ UA:upW (A1 ++ A2))).1
   have UA2:=Lib.hid (List.pairwise_append.1 (hAA ▸ UA:upW (A1 ++ A2))).2.1
   have UB1:=Lib.hid (List.pairwise_append.1 (hBB ▸ UB:upW (B1 ++ B2))).1
   have UB2:=Lib.hid (List.pairwise_append.1 (hBB ▸ UB:upW (B1 ++ B2))).2.1
   have HF:=Lib.hid (show P ++ (sortW (A1 ++ B1) ++ (sortW (A2 ++ B2) ++ T)) = P ++ (sortW (M1 ++ M2) ++ T) by rw [hsort];simp)
   have HA1:=Lib.hid hA1
   have HA2:=Lib.hid hA2
   have HB1:=Lib.hid hB1
   have HB2:=Lib.hid hB2
   have hlen:=HN.out
   clear hsort hen o2 hAA hBB hA1 hA2 hB1 hB2 UA UB HLO HHI
   by_cases c1:i < m
   ·by_cases c2:i < mid
    ·have:(i:Int) < (m:Int):=by omega
     have:(m:Int) < (en:Int):=by omega
     have:(mid:Int) < (en:Int):=by omega
     have:(i:Int) < (mid:Int):=by omega
     have CR:=rotate_any base (some ⟨g,0,none⟩) N c (P ++ A1) A2 B1 (B2 ++ T) wr i m en (by have:=HA.out;have:=HA1.out;have:=HA2.out;have:=HB1.out;have:=HB2.out;have:=HT0.out;simp only [List.length_append];omega) (by have:=HA.out;have:=HA1.out;have:=HA2.out;have:=HB1.out;have:=HB2.out;have:=HT0.out;omega) (by have:=HA.out;have:=HA1.out;have:=HA2.out;have:=HB1.out;have:=HB2.out;have:=HT0.out;omega) (by have:=HA.out;have:=HA1.out;have:=HA2.out;have:=HB1.out;have:=HB2.out;have:=HT0.out;omega) (by have:=HA.out;have:=HA1.out;have:=HA2.out;have:=HB1.out;have:=HB2.out;have:=HT0.out;omega) (by have:=HA.out;have:=HA1.out;have:=HA2.out;have:=HB1.out;have:=HB2.out;have:=HT0.out;simp only [List.length_append];omega) hN3 (by simpa using o3) (by omega)
     go_wp2_with fail
     refine CR.mono ?_
     rintro e1 w1 ⟨rfl,o4,hb4⟩
     have HB':=HB.trans hb4
     have z4:=HB'.size
     have o4':Own w1 base 262 2 (some ⟨g,0,none⟩) N c (fcells (P ++ (A1 ++ (B1 ++ (A2 ++ (B2 ++ T)))))):=by simpa using o4
     clear CR o4 hb4 o3
     by_cases c3:a < i
     ·have:(a:Int) < (i:Int):=by omega
      have CL:=HIH.out P A1 B1 (A2 ++ (B2 ++ T)) w1 a i mid HA.out (by have:=HA.out;have:=HA1.out;have:=HA2.out;have:=HB1.out;have:=HB2.out;have:=HT0.out;omega) (by have:=HA.out;have:=HA1.out;have:=HA2.out;have:=HB1.out;have:=HB2.out;have:=HT0.out;omega) (by have:=HA.out;have:=HA1.out;have:=HA2.out;have:=HB1.out;have:=HB2.out;have:=HT0.out;simp only [List.length_append];omega) (by have:=HA.out;have:=HA1.out;have:=HA2.out;have:=HB1.out;have:=HB2.out;have:=HT0.out;omega) (by have:=HA.out;have:=HA1.out;have:=HA2.out;have:=HB1.out;have:=HB2.out;have:=HT0.out;omega) (by have:=HA.out;have:=HA1.out;have:=HA2.out;have:=HB1.out;have:=HB2.out;have:=HT0.out;omega) UA1.out UB1.out o4' (by omega)
      unfold MergeOk at CL
      go_wp2_with fail
      refine CL.mono ?_
      rintro e2 w2 ⟨rfl,o5,hb5⟩
      have HB'':=HB'.trans hb5
      have z5:=HB''.size
      clear CL hb5 o4'
      by_cases c4:en < b
      ·have:(en:Int) < (b:Int):=by omega
       have hsl:=sortW_len (A1 ++ B1)
       rw [List.length_append] at hsl
       have CH:=HIH.out (P ++ sortW (A1 ++ B1)) A2 B2 T w2 mid en b (by have:=HA.out;have:=HA1.out;have:=HA2.out;have:=HB1.out;have:=HB2.out;have:=HT0.out;simp only [List.length_append];omega) (by have:=HA.out;have:=HA1.out;have:=HA2.out;have:=HB1.out;have:=HB2.out;have:=HT0.out;omega) (by have:=HA.out;have:=HA1.out;have:=HA2.out;have:=HB1.out;have:=HB2.out;have:=HT0.out;omega) (by have:=HA.out;have:=HA1.out;have:=HA2.out;have:=HB1.out;have:=HB2.out;have:=HT0.out;simp only [List.length_append];omega) (by have:=HA.out;have:=HA1.out;have:=HA2.out;have:=HB1.out;have:=HB2.out;have:=HT0.out;omega) (by have:=HA.out;have:=HA1.out;have:=HA2.out;have:=HB1.out;have:=HB2.out;have:=HT0.out;omega) (by have:=HA.out;have:=HA1.out;have:=HA2.out;have:=HB1.out;have:=HB2.out;have:=HT0.out;omega) UA2.out UB2.out (by simpa using o5) (by omega)
       unfold MergeOk at CH
       go_wp2_with fail
       refine CH.mono ?_
       rintro e3 w3 ⟨rfl,o6,hb6⟩
       have HB3:=HB''.trans hb6
       have o7:Own w3 base 262 2 (some ⟨g,0,none⟩) N c (fcells (P ++ (sortW (A1 ++ B1) ++ (sortW (A2 ++ B2) ++ T)))):=by simpa using o6
       clear CH hb6 o5 o6
       go_wp2_with fail
       all_goals
        go_end0
        exact ⟨rfl,HF.out ▸ o7,HB3⟩
      ·have:¬ (en:Int) < (b:Int):=by omega
       have o7:Own w2 base 262 2 (some ⟨g,0,none⟩) N c (fcells (P ++ (sortW (A1 ++ B1) ++ (sortW (A2 ++ B2) ++ T)))):=by
        have hnil:B2 = []:=List.eq_nil_of_length_eq_zero (by have:=HA.out;have:=HA1.out;have:=HA2.out;have:=HB1.out;have:=HB2.out;have:=HT0.out;omega)
        have hs:sortW (A2 ++ B2) = A2 ++ B2:=by
         have u1:=UA2.out
         have u2:=UB2.out
         try rw [hnil] at u1
         try rw [hnil] at u2
         rw [hnil]
         simp only [List.nil_append,List.append_nil]
         first | exact sort_self u1 | exact sort_self u2
        rw [hs]
        simpa using o5
       have HB3:=HB''
       clear o5
       go_wp2_with fail
       all_goals
        go_end0
        exact ⟨rfl,HF.out ▸ o7,HB3⟩
     ·have:¬ (a:Int) < (i:Int):=by omega
      have o5:Own w1 base 262 2 (some ⟨g,0,none⟩) N c (fcells (P ++ (sortW (A1 ++ B1) ++ (A2 ++ (B2 ++ T))))):=by
       have hnil:A1 = []:=List.eq_nil_of_length_eq_zero (by have:=HA.out;have:=HA1.out;have:=HA2.out;have:=HB1.out;have:=HB2.out;have:=HT0.out;omega)
       have hs:sortW (A1 ++ B1) = A1 ++ B1:=by
        have u1:=UA1.out
        have u2:=UB1.out
        try rw [hnil] at u1
        try rw [hnil] at u2
        rw [hnil]
        simp only [List.nil_append,List.append_nil]
        first | exact sort_self u1 | exact sort_self u2
       rw [hs]
       simpa using o4'
      have HB'':=HB'
      have z5:=HB''.size
      clear o4'
      by_cases c4:en < b
      ·have:(en:Int) < (b:Int):=by omega
       have hsl:=sortW_len (A1 ++ B1)
       rw [List.length_append] at hsl
       have CH:=HIH.out (P ++ sortW (A1 ++ B1)) A2 B2 T w1 mid en b (by have:=HA.out;have:=HA1.out;have:=HA2.out;have:=HB1.out;have:=HB2.out;have:=HT0.out;simp only [List.length_append];omega) (by have:=HA.out;have:=HA1.out;have:=HA2.out;have:=HB1.out;have:=HB2.out;have:=HT0.out;omega) (by have:=HA.out;have:=HA1.out;have:=HA2.out;have:=HB1.out;have:=HB2.out;have:=HT0.out;omega) (by have:=HA.out;have:=HA1.out;have:=HA2.out;have:=HB1.out;have:=HB2.out;have:=HT0.out;simp only [List.length_append];omega) (by have:=HA.out;have:=HA1.out;have:=HA2.out;have:=HB1.out;have:=HB2.out;have:=HT0.out;omega) (by have:=HA.out;have:=HA1.out;have:=HA2.out;have:=HB1.out;have:=HB2.out;have:=HT0.out;omega) (by have:=HA.out;have:=HA1.out;have:=HA2.out;have:=HB1.out;have:=HB2.out;have:=HT0.out;omega) UA2.out UB2.out (by simpa using o5) (by omega)
       unfold MergeOk at CH
       go_wp2_with fail
       refine CH.mono ?_
       rintro e3 w3 ⟨rfl,o6,hb6⟩
       have HB3:=HB''.trans hb6
       have o7:Own w3 base 262 2 (some ⟨g,0,none⟩) N c (fcells (P ++ (sortW (A1 ++ B1) ++ (sortW (A2 ++ B2) ++ T)))):=by simpa using o6
       clear CH hb6 o5 o6
       go_wp2_with fail
       all_goals
        go_end0
        exact ⟨rfl,HF.out ▸ o7,HB3⟩
      ·have:¬ (en:Int) < (b:Int):=by omega
       have o7:Own w1 base 262 2 (some ⟨g,0,none⟩) N c (fcells (P ++ (sortW (A1 ++ B1) ++ (sortW (A2 ++ B2) ++ T)))):=by
        have hnil:B2 = []:=List.eq_nil_of_length_eq_zero (by have:=HA.out;have:=HA1.out;have:=HA2.out;have:=HB1.out;have:=HB2.out;have:=HT0.out;omega)
        have hs:sortW (A2 ++ B2) = A2 ++ B2:=by
         have u1:=UA2.out
         have u2:=UB2.out
         try rw [hnil] at u1
         try rw [hnil] at u2
         rw [hnil]
         simp only [List.nil_append,List.append_nil]
         first | exact sort_self u1 | exact sort_self u2
        rw [hs]
        simpa using o5
       have HB3:=HB''
       clear o5
       go_wp2_with fail
       all_goals
        go_end0
        exact ⟨rfl,HF.out ▸ o7,HB3⟩
    ·have:(i:Int) < (m:Int):=by omega
     have:¬ (m:Int) < (en:Int):=by omega
     have:(a:Int) < (i:Int):=by omega
     have:¬ (i:Int) < (mid:Int):=by omega
     have:(mid:Int) < (en:Int):=by omega
     have:(en:Int) < (b:Int):=by omega
     have o4':Own wr base 262 2 (some ⟨g,0,none⟩) N c (fcells (P ++ (A1 ++ (B1 ++ (A2 ++ (B2 ++ T)))))):=by
      have hnil:B1 = []:=List.eq_nil_of_length_eq_zero (by have:=HA.out;have:=HA1.out;have:=HA2.out;have:=HB1.out;have:=HB2.out;have:=HT0.out;omega)
      rw [hnil] at o3 ⊢
      simpa using o3
     have HB':=HB
     have z4:=HB'.size
     clear o3
     have o5:Own wr base 262 2 (some ⟨g,0,none⟩) N c (fcells (P ++ (sortW (A1 ++ B1) ++ (A2 ++ (B2 ++ T))))):=by
      have hnil:B1 = []:=List.eq_nil_of_length_eq_zero (by have:=HA.out;have:=HA1.out;have:=HA2.out;have:=HB1.out;have:=HB2.out;have:=HT0.out;omega)
      have hs:sortW (A1 ++ B1) = A1 ++ B1:=by
       have u1:=UA1.out
       have u2:=UB1.out
       try rw [hnil] at u1
       try rw [hnil] at u2
       rw [hnil]
       simp only [List.nil_append,List.append_nil]
       first | exact sort_self u1 | exact sort_self u2
      rw [hs]
      simpa using o4'
     have HB'':=HB'
     have z5:=HB''.size
     clear o4'
     have hsl:=sortW_len (A1 ++ B1)
     rw [List.length_append] at hsl
     have CH:=HIH.out (P ++ sortW (A1 ++ B1)) A2 B2 T wr mid en b (by have:=HA.out;have:=HA1.out;have:=HA2.out;have:=HB1.out;have:=HB2.out;have:=HT0.out;simp only [List.length_append];omega) (by have:=HA.out;have:=HA1.out;have:=HA2.out;have:=HB1.out;have:=HB2.out;have:=HT0.out;omega) (by have:=HA.out;have:=HA1.out;have:=HA2.out;have:=HB1.out;have:=HB2.out;have:=HT0.out;omega) (by have:=HA.out;have:=HA1.out;have:=HA2.out;have:=HB1.out;have:=HB2.out;have:=HT0.out;simp only [List.length_append];omega) (by have:=HA.out;have:=HA1.out;have:=HA2.out;have:=HB1.out;have:=HB2.out;have:=HT0.out;omega) (by have:=HA.out;have:=HA1.out;have:=HA2.out;have:=HB1.out;have:=HB2.out;have:=HT0.out;omega) (by have:=HA.out;have:=HA1.out;have:=HA2.out;have:=HB1.out;have:=HB2.out;have:=HT0.out;omega) UA2.out UB2.out (by simpa using o5) (by omega)
     unfold MergeOk at CH
     go_wp2_with fail
     refine CH.mono ?_
     rintro e3 w3 ⟨rfl,o6,hb6⟩
     have HB3:=HB''.trans hb6
     have o7:Own w3 base 262 2 (some ⟨g,0,none⟩) N c (fcells (P ++ (sortW (A1 ++ B1) ++ (sortW (A2 ++ B2) ++ T)))):=by simpa using o6
     clear CH hb6 o5 o6
     go_wp2_with fail
     all_goals
      go_end0
      exact ⟨rfl,HF.out ▸ o7,HB3⟩
   ·have:¬ (i:Int) < (m:Int):=by omega
    have:(a:Int) < (i:Int):=by omega
    have:¬ (mid:Int) < (en:Int):=by omega
    have o4':Own wr base 262 2 (some ⟨g,0,none⟩) N c (fcells (P ++ (A1 ++ (B1 ++ (A2 ++ (B2 ++ T)))))):=by
     have hnil:A2 = []:=List.eq_nil_of_length_eq_zero (by have:=HA.out;have:=HA1.out;have:=HA2.out;have:=HB1.out;have:=HB2.out;have:=HT0.out;omega)
     rw [hnil] at o3 ⊢
     simpa using o3
    have HB':=HB
    have z4:=HB'.size
    clear o3
    by_cases c3:i < mid
    ·have:(i:Int) < (mid:Int):=by omega
     have CL:=HIH.out P A1 B1 (A2 ++ (B2 ++ T)) wr a i mid HA.out (by have:=HA.out;have:=HA1.out;have:=HA2.out;have:=HB1.out;have:=HB2.out;have:=HT0.out;omega) (by have:=HA.out;have:=HA1.out;have:=HA2.out;have:=HB1.out;have:=HB2.out;have:=HT0.out;omega) (by have:=HA.out;have:=HA1.out;have:=HA2.out;have:=HB1.out;have:=HB2.out;have:=HT0.out;simp only [List.length_append];omega) (by have:=HA.out;have:=HA1.out;have:=HA2.out;have:=HB1.out;have:=HB2.out;have:=HT0.out;omega) (by have:=HA.out;have:=HA1.out;have:=HA2.out;have:=HB1.out;have:=HB2.out;have:=HT0.out;omega) (by have:=HA.out;have:=HA1.out;have:=HA2.out;have:=HB1.out;have:=HB2.out;have:=HT0.out;omega) UA1.out UB1.out o4' (by omega)
     unfold MergeOk at CL
     go_wp2_with fail
     refine CL.mono ?_
     rintro e2 w2 ⟨rfl,o5,hb5⟩
     have HB'':=HB'.trans hb5
     have z5:=HB''.size
     clear CL hb5 o4'
     have o7:Own w2 base 262 2 (some ⟨g,0,none⟩) N c (fcells (P ++ (sortW (A1 ++ B1) ++ (sortW (A2 ++ B2) ++ T)))):=by
      have hnil:A2 = []:=List.eq_nil_of_length_eq_zero (by have:=HA.out;have:=HA1.out;have:=HA2.out;have:=HB1.out;have:=HB2.out;have:=HT0.out;omega)
      have hs:sortW (A2 ++ B2) = A2 ++ B2:=by
       have u1:=UA2.out
       have u2:=UB2.out
       try rw [hnil] at u1
       try rw [hnil] at u2
       rw [hnil]
       simp only [List.nil_append,List.append_nil]
       first | exact sort_self u1 | exact sort_self u2
      rw [hs]
      simpa using o5
     have HB3:=HB''
     clear o5
     go_wp2_with fail
     all_goals
      go_end0
      exact ⟨rfl,HF.out ▸ o7,HB3⟩
    ·have:¬ (i:Int) < (mid:Int):=by omega
     have o5:Own wr base 262 2 (some ⟨g,0,none⟩) N c (fcells (P ++ (sortW (A1 ++ B1) ++ (A2 ++ (B2 ++ T))))):=by
      have hnil:B1 = []:=List.eq_nil_of_length_eq_zero (by have:=HA.out;have:=HA1.out;have:=HA2.out;have:=HB1.out;have:=HB2.out;have:=HT0.out;omega)
      have hs:sortW (A1 ++ B1) = A1 ++ B1:=by
       have u1:=UA1.out
       have u2:=UB1.out
       try rw [hnil] at u1
       try rw [hnil] at u2
       rw [hnil]
       simp only [List.nil_append,List.append_nil]
       first | exact sort_self u1 | exact sort_self u2
      rw [hs]
      simpa using o4'
     have HB'':=HB'
     have z5:=HB''.size
     clear o4'
     have o7:Own wr base 262 2 (some ⟨g,0,none⟩) N c (fcells (P ++ (sortW (A1 ++ B1) ++ (sortW (A2 ++ B2) ++ T)))):=by
      have hnil:A2 = []:=List.eq_nil_of_length_eq_zero (by have:=HA.out;have:=HA1.out;have:=HA2.out;have:=HB1.out;have:=HB2.out;have:=HT0.out;omega)
      have hs:sortW (A2 ++ B2) = A2 ++ B2:=by
       have u1:=UA2.out
       have u2:=UB2.out
       try rw [hnil] at u1
       try rw [hnil] at u2
       rw [hnil]
       simp only [List.nil_append,List.append_nil]
       first | exact sort_self u1 | exact sort_self u2
      rw [hs]
      simpa using o5
     have HB3:=HB''
     clear o5
     go_wp2_with fail
     all_goals
      go_end0
      exact ⟨rfl,HF.out ▸ o7,HB3⟩
end LenW
end Go.Proofs.YtnpncpoiiikafaaGreat
namespace Go.Proofs.YtnpncpoiiikafaaGreat
open Go.RowKit
namespace LenW
theorem sym_all (base:Nat) (A0:Option Addr) (N c:Nat) (hN3:N≤1000):∀ K,MergeAll base A0 N c K:=by
 intro K
 induction K with
 | zero=>intro P M1 M2 T w a m b _ _ _ _ _ _ h;omega
 | succ K ih =>
  intro P M1 M2 T w a m b ha hm hb hN h1 h2 hK u1 u2 ho hbs
  by_cases e1:M1.length = 1
  ·obtain ⟨x,rfl⟩:=List.length_eq_one_iff.1 e1
   exact sym_one base A0 N c P M2 T x w a m b ha (by simpa using hm) hb (by simp at hN;omega) hN3 u2 (by simpa using ho) hbs
  ·by_cases e2:M2.length = 1
   ·obtain ⟨y,rfl⟩:=List.length_eq_one_iff.1 e2
    exact sym_end base A0 N c P M1 T y w a m b ha hm (by simpa using hb) (by simp at hN;omega) hN3 (by omega) u1 (by simpa using ho) hbs
   ·have IH:MergeAll base A0 N c (M1.length + M2.length):=fun P' M1' M2' T' w' a' m' b' q1 q2 q3 q4 q5 q6 q7=>ih P' M1' M2' T' w' a' m' b' q1 q2 q3 q4 q5 q6 (by omega)
    by_cases hmm:(a + b) / 2 < m
    ·exact sym_stepA base A0 N c P M1 M2 T w a m b _ _ _ rfl rfl ha hm hb hN hN3 (by omega) (by omega) u1 u2 ho hbs rfl hmm IH
    ·exact sym_stepB base A0 N c P M1 M2 T w a m b _ _ _ rfl rfl ha hm hb hN hN3 (by omega) (by omega) u1 u2 ho hbs rfl (Nat.le_of_not_lt hmm) IH
theorem sym_any (base:Nat) (A0:Option Addr) (N c:Nat) (P M1 M2 T:List (Int × Int)) (w:World) (a m b:Nat) (hN3:N≤1000) (ha:P.length = a) (hm:a + M1.length = m) (hb:m + M2.length = b) (hN:P.length + M1.length + M2.length + T.length = N) (h1:1≤M1.length) (h2:1≤M2.length) (u1:upW M1) (u2:upW M2)
 (ho:Own w base 262 2 A0 N c (fcells (P ++ (M1 ++ (M2 ++ T))))) (hbs:base≤w.heap.size):MergeOk base A0 N c P M1 M2 T w a m b :=
 sym_all base A0 N c hN3 _ P M1 M2 T w a m b ha hm hb hN h1 h2 (Nat.lt_succ_self _) u1 u2 ho hbs
def fullW (bs:Nat) (M:List (Int × Int)):List (Int × Int) :=
 if h:M.length≤bs ∨ bs = 0 then sortW M else sortW (M.take bs) ++ fullW bs (M.drop bs)
termination_by M.length
decreasing_by simp only [List.length_drop];omega
theorem full_few {bs:Nat} {M:List (Int × Int)} (h:M.length≤bs):fullW bs M = sortW M:=by rw [fullW,dif_pos (.inl h)]
theorem full_many {bs:Nat} {M:List (Int × Int)} (h0:0 < bs) (h:bs≤M.length):fullW bs M = sortW (M.take bs) ++ fullW bs (M.drop bs):=by
 rcases Nat.lt_or_ge bs M.length with h1 | h1
 ·rw [fullW,dif_neg (by omega)]
 ·have e:bs = M.length:=by omega
  subst e
  rw [full_few (Nat.le_refl _),List.take_of_length_le (Nat.le_refl _),List.drop_of_length_le (Nat.le_refl _),full_few (by simp)]
  show sortW M = sortW M ++ []
  simp
theorem full_two {bs:Nat} {M:List (Int × Int)} (h0:0 < bs) (h:2 * bs≤M.length):fullW bs M = sortW (M.take bs) ++ (sortW ((M.drop bs).take bs) ++ fullW bs (M.drop (2 * bs))):=by
 rw [full_many h0 (by omega),full_many (M:=M.drop bs) h0 (by rw [List.length_drop];omega),List.drop_drop,show bs + bs = 2 * bs by omega]
theorem full_join {bs:Nat} {M:List (Int × Int)}:sortW (sortW (M.take bs) ++ sortW ((M.drop bs).take bs)) = sortW (M.take (2 * bs)):=by
 rw [sort_two]
 congr 1
 rw [show 2 * bs = bs + bs by omega,List.take_add]
theorem full_last {bs:Nat} {M:List (Int × Int)} (h0:0 < bs) (h:bs≤M.length) (h2:M.length≤2 * bs):fullW bs M = sortW (M.take bs) ++ sortW (M.drop bs):=by
 rw [full_many h0 h,full_few (by rw [List.length_drop];omega)]
theorem full_len (bs:Nat) (M:List (Int × Int)):(fullW bs M).length = M.length:=by
 suffices ∀ n (M:List (Int × Int)),M.length≤n → (fullW bs M).length = M.length from this _ M (Nat.le_refl _)
 intro n
 induction n with
 | zero=>intro M h;rw [full_few (by omega),sortW_len]
 | succ n ih =>
  intro M h
  rw [fullW]
  split
  ·rw [sortW_len]
  ·rw [List.length_append,sortW_len,ih _ (by rw [List.length_drop];omega),List.length_take,List.length_drop]
   omega
theorem stable_any (n:Nat) (hn:n≤1000) (base:Nat) (A0:Option Addr) (c:Nat) (M:List (Int × Int)) (w:World) (hM:M.length = n) (ho:Own w base 262 2 A0 n c (fcells M)) (hbs:base≤w.heap.size) :
 Calls Tryz.prog 207 #[.slice A0 n c,.int .i64 n,.func (.func 200) #[] #[]] w fun e w'=>e = .returned (.tuple #[])∧Own w' base 262 2 A0 n c (fcells (sortW M))∧Below base w w':=by
 have HMl:=Lib.hid hM
 clear hM
 go_enter Tryz.func207,Tryz.ntmps207
 go_wp2_with fail
 go_loopw [7,8] (fun s r wr=>∃ (a b:Nat) (Z R:List (Int × Int)),s = .int .i64 a∧r = .int .i64 b∧a + 20≤b∧b≤a + 20∧a≤n∧Z.length = a∧a + R.length = n∧Z ++ fullW 20 R = fullW 20 M∧Own wr base 262 2 A0 n c (fcells (Z ++ R))∧Below base w wr) (fun s _ _=>n - (intOf s).toNat)
 case atStart=>exact ⟨0,20,[],M,rfl,rfl,by omega,by omega,by omega,rfl,by rw [HMl.out];omega,rfl,ho,Below.refl _ _⟩
 case round =>
  clear ho
  obtain ⟨a,b,Z,R,rfl,rfl,hab,hba,han,hZ,hR,hE,o2,HB⟩:=hrel
  have hz:=HB.size
  have HZ:=Lib.hid hZ
  have HR:=Lib.hid hR
  have HE:=Lib.hid hE
  clear hZ hR hE
  by_cases hlt:b≤n
  ·have hltI:(b:Int)≤(n:Int):=by omega
   have hb20:IntKind.i64.wrap ((b:Int) + 20) = (b:Int) + 20:=w64k (by omega) (by omega)
   have C:=insSort_any base A0 n c Z (R.take 20) (R.drop 20) wr a b HZ.out (by rw [List.length_take];have:=HR.out;omega) (by rw [List.length_take,List.length_drop,HZ.out];have:=HR.out;omega) hn (by rw [List.append_assoc,List.take_append_drop];exact o2) (by omega)
   go_wp2_with fail
   refine C.mono ?_
   rintro e w1 ⟨rfl,o3,hb3⟩
   go_wp2_with fail
   go_roundw
   case rel=>exact ⟨b,b + 20,Z ++ sortW (R.take 20),R.drop 20,rfl,by go_num,by omega,by omega,by omega,by rw [List.length_append,sortW_len,List.length_take,HZ.out];have:=HR.out;omega,by rw [List.length_drop];have:=HR.out;omega,by rw [← HE.out,full_many (bs:=20) (M:=R) (by omega) (by have:=HR.out;omega),List.append_assoc],o3,HB.trans hb3⟩
   case measure=>simp [intOf];omega
  ·have hltI:¬ (b:Int)≤(n:Int):=by omega
   have C:=insSort_any base A0 n c Z R [] wr a n HZ.out (by have:=HR.out;omega) (by rw [HZ.out];have:=HR.out;simp;omega) hn (by simpa using o2) (by omega)
   go_wp2_with fail
   refine C.mono ?_
   rintro e w1 ⟨rfl,o3,hb3⟩
   have o4:Own w1 base 262 2 A0 n c (fcells (fullW 20 M)):=by
    rw [← HE.out,full_few (by have:=HR.out;omega)]
    simpa using o3
   have HB1:=HB.trans hb3
   clear o3 hb3 C o2 HE HZ HR hz HB
   go_wp2_with fail
   go_loopw [6] (fun s wr=>∃ bs:Nat,s = .int .i64 bs∧20≤bs∧bs≤2000∧Own wr base 262 2 A0 n c (fcells (fullW bs M))∧Below base w wr) (fun s _=>n - (intOf s).toNat)
   case atStart=>exact ⟨20,rfl,by omega,by omega,o4,HB1⟩
   case round =>
    clear o4 HB1
    obtain ⟨bs,rfl,hb1,hb2,o2,HB⟩:=hrel
    have hz:=HB.size
    by_cases hlt2:bs < n
    ·have hlt2I:(bs:Int) < (n:Int):=by omega
     have h2b:IntKind.i64.wrap (2 * (bs:Int)) = ((2 * bs:Nat):Int):=(w64k (by omega) (by omega)).trans (by omega)
     have h2b':IntKind.i64.wrap ((bs:Int) * 2) = ((2 * bs:Nat):Int):=(w64k (by omega) (by omega)).trans (by omega)
     obtain ⟨tb,htb⟩:∃ tb,2 * bs = tb:=⟨_,rfl⟩
     rw [htb] at h2b h2b'
     have htb1:tb≤2 * bs:=by omega
     have htb2:2 * bs≤tb:=by omega
     have HTB:=Lib.hid htb
     clear htb
     go_wp2_with fail
     go_loopw [7,8] (fun s r wr'=>∃ (a b:Nat) (Z R:List (Int × Int)),s = .int .i64 a∧r = .int .i64 b∧a + tb≤b∧b≤a + tb∧a≤n∧Z.length = a∧a + R.length = n∧Z ++ fullW tb R = fullW tb M∧Own wr' base 262 2 A0 n c (fcells (Z ++ fullW bs R))∧Below base w wr') (fun s _ _=>n - (intOf s).toNat)
     case atStart=>exact ⟨0,tb,[],M,rfl,rfl,by omega,by omega,by omega,rfl,by rw [HMl.out];omega,rfl,o2,HB⟩
     case round =>
      clear o2 HB hz
      obtain ⟨a,b,Z,R,rfl,rfl,hab,hba,han,hZ,hR,hE,o2,HB⟩:=hrel
      have hz:=HB.size
      have HZ:=Lib.hid hZ
      have HR:=Lib.hid hR
      have HE:=Lib.hid hE
      clear hZ hR hE
      have ham:IntKind.i64.wrap ((a:Int) + (bs:Int)) = ((a + bs:Nat):Int):=(w64k (by omega) (by omega)).trans (by omega)
      obtain ⟨m,hm⟩:∃ m,a + bs = m:=⟨_,rfl⟩
      rw [hm] at ham
      have hm1:m≤a + bs:=by omega
      have hm2:a + bs≤m:=by omega
      clear hm
      by_cases hlt3:b≤n
      ·have hlt3I:(b:Int)≤(n:Int):=by omega
       have hbt:IntKind.i64.wrap ((b:Int) + (tb:Int)) = ((b + tb:Nat):Int):=(w64k (by omega) (by omega)).trans (by omega)
       have hF:=full_two (bs:=bs) (M:=R) (by omega) (by have:=HR.out;omega)
       rw [hF] at o2
       have C:=sym_any base A0 n c Z (sortW (R.take bs)) (sortW ((R.drop bs).take bs)) (fullW bs (R.drop (2 * bs))) wr a m b hn HZ.out (by rw [sortW_len,List.length_take];have:=HR.out;omega) (by rw [sortW_len,List.length_take,List.length_drop];have:=HR.out;omega) (by rw [sortW_len,sortW_len,full_len,List.length_take,List.length_take,List.length_drop,List.length_drop,HZ.out];have:=HR.out;omega) (by rw [sortW_len,List.length_take];have:=HR.out;omega) (by rw [sortW_len,List.length_take,List.length_drop];have:=HR.out;omega) (sortW_up _) (sortW_up _) o2 (by omega)
       unfold MergeOk at C
       rw [full_join] at C
       have HTB2:=HTB.out
       rw [HTB2] at C
       clear hF HTB2
       go_wp2_with fail
       refine C.mono ?_
       rintro e w2 ⟨rfl,o3,hb3⟩
       go_wp2_with fail
       go_roundw
       case rel=>exact ⟨b,b + tb,Z ++ sortW (R.take tb),R.drop tb,rfl,by go_num,by omega,by omega,by omega,by rw [List.length_append,sortW_len,List.length_take,HZ.out];have:=HR.out;omega,by rw [List.length_drop];have:=HR.out;omega,by rw [← HE.out,full_many (bs:=tb) (M:=R) (by omega) (by have:=HR.out;omega),List.append_assoc],by rw [List.append_assoc];exact o3,HB.trans hb3⟩
       case measure=>simp [intOf];omega
      ·have hlt3I:¬ (b:Int)≤(n:Int):=by omega
       by_cases hmn:m < n
       ·have hmnI:(m:Int) < (n:Int):=by omega
        have hF:=full_last (bs:=bs) (M:=R) (by omega) (by have:=HR.out;omega) (by have:=HR.out;omega)
        rw [hF] at o2
        have C:=sym_any base A0 n c Z (sortW (R.take bs)) (sortW (R.drop bs)) [] wr a m n hn HZ.out (by rw [sortW_len,List.length_take];have:=HR.out;omega) (by rw [sortW_len,List.length_drop];have:=HR.out;omega) (by rw [sortW_len,sortW_len,List.length_take,List.length_drop,HZ.out];have:=HR.out;simp;omega) (by rw [sortW_len,List.length_take];have:=HR.out;omega) (by rw [sortW_len,List.length_drop];have:=HR.out;omega) (sortW_up _) (sortW_up _) (by simpa using o2) (by omega)
        unfold MergeOk at C
        rw [sort_two,List.take_append_drop] at C
        have HF:=Lib.hid (show Z ++ (sortW R ++ []) = fullW tb M by rw [← HE.out,full_few (bs:=tb) (M:=R) (by have:=HR.out;omega)];simp)
        rw [HF.out] at C
        clear hF
        go_wp2_with fail
        refine C.mono ?_
        rintro e w2 ⟨rfl,o3,hb3⟩
        go_wp2_with fail
        go_roundw
        case rel=>exact ⟨tb,rfl,by omega,by omega,o3,HB.trans hb3⟩
        case measure=>simp [intOf];omega
       ·have hmnI:¬ (m:Int) < (n:Int):=by omega
        have HF:=Lib.hid (show Z ++ fullW bs R = fullW tb M by rw [← HE.out,full_few (bs:=tb) (M:=R) (by have:=HR.out;omega),full_few (bs:=bs) (M:=R) (by have:=HR.out;omega)])
        rw [HF.out] at o2
        go_wp2_with fail
        go_roundw
        case rel=>exact ⟨tb,rfl,by omega,by omega,o2,HB⟩
        case measure=>simp [intOf];omega
    ·have hlt2I:¬ (bs:Int) < (n:Int):=by omega
     rw [full_few (by rw [HMl.out];omega)] at o2
     go_wp2_with fail
     go_end0
     exact ⟨rfl,o2,HB⟩
theorem sort_ok (n:Nat) (hn:n≤1000):SortOk n:=by
 intro base A0 c M w hM ho hbs
 have C:=stable_any n hn base A0 c M w hM ho hbs
 go_enter Tryz.func199,Tryz.ntmps199
 go_wp2_with fail
 refine C.mono ?_
 rintro e w1 ⟨rfl,o1,hb1⟩
 go_wp2_with fail
 go_end0
 exact ⟨rfl,o1,hb1⟩
end LenW
end Go.Proofs.YtnpncpoiiikafaaGreat
