/- SieD -/
import Derived.Test.YtnpncpoiiikafaaGreatDoorSieVQs
set_option linter.unusedVariables false
set_option linter.unusedSimpArgs false
set_option linter.unnecessarySimpa false
namespace Go.Proofs.YtnpncpoiiikafaaGreatDoor
open Go.RowKit
namespace SieW
theorem El_node:El Tryz.prog 100 53 1 16:=El.mk' Tryz.underlying100 (z:=.nilIface) (by kernel_rfl) rfl (by decide)
theorem NdV.asks {w:World} {S:Nat → Prop} {n:Nd} {v:Value} (h:NdV w S n v) (o:Bool) :
    (∃ l b m c us,n = .row o l∧v = .iface 102 (.agg #[str (byW o),.slice (some ⟨b,0,none⟩) m c])∧S b∧b < w.heap.size∧us.length = m∧m≤c∧m≤1000∧(∀ i (h:i < us.length),w.cell? ⟨b,i,none⟩ = some us[i])∧NdVs w S l us) ∨
    (flat o n = [n]∧((∃ A m c,v = .iface 102 (.agg #[str (byW (!o)),.slice A m c])) ∨ (∃ x,v = .iface 95 x) ∨ (∃ x,v = .iface 105 x) ∨ (∃ x,v = .iface 99 x) ∨ (∃ x,v = .iface 71 x))):=by
  cases n with
  | within _ _ _=>obtain ⟨_,rfl⟩:=h;exact .inr ⟨rfl,.inr (.inl ⟨_,rfl⟩)⟩
  | has _=>have e:v = _:=h;subst e;exact .inr ⟨rfl,.inr (.inr (.inl ⟨_,rfl⟩))⟩
  | all=>have e:v = _:=h;subst e;exact .inr ⟨rfl,.inr (.inr (.inr (.inl ⟨_,rfl⟩)))⟩
  | not n=>obtain ⟨u,rfl,_⟩:=h;exact .inr ⟨rfl,.inr (.inr (.inr (.inr ⟨_,rfl⟩)))⟩
  | row o2 l =>
    obtain ⟨b,n,c,vs,rfl,h2,h3,h4,h5,h6,h7,h8⟩:=h
    by_cases e:o2 = o
    · subst e;exact .inl ⟨l,b,n,c,vs,rfl,rfl,h2,h3,h4,h5,h6,h7,h8⟩
    · have e2:o2 = !o:=by cases o2 <;> cases o <;> simp_all
      subst e2
      exact .inr ⟨by rw [flat,if_neg e],.inl ⟨_,_,_,rfl⟩⟩
theorem ta_row (x:Value) (w:World):(Instr.typeAssert (.iface 102 x) 53 102 true).run Tryz.prog w = .ok (.tuple #[x,.bool true]) w:=by kernel_rfl
theorem ta_within (x:Value) (w:World):(Instr.typeAssert (.iface 95 x) 53 102 true).run Tryz.prog w = .ok (.tuple #[.agg #[.string ⟨#[]⟩,.slice none 0 0],.bool false]) w:=by kernel_rfl
theorem ta_has (x:Value) (w:World):(Instr.typeAssert (.iface 105 x) 53 102 true).run Tryz.prog w = .ok (.tuple #[.agg #[.string ⟨#[]⟩,.slice none 0 0],.bool false]) w:=by kernel_rfl
theorem ta_all (x:Value) (w:World):(Instr.typeAssert (.iface 99 x) 53 102 true).run Tryz.prog w = .ok (.tuple #[.agg #[.string ⟨#[]⟩,.slice none 0 0],.bool false]) w:=by kernel_rfl
theorem ta_not (x:Value) (w:World):(Instr.typeAssert (.iface 71 x) 53 102 true).run Tryz.prog w = .ok (.tuple #[.agg #[.string ⟨#[]⟩,.slice none 0 0],.bool false]) w:=by kernel_rfl
theorem mk_one (o:Bool) (L:List Nd) (h:L.length = 1):mkN o L = L[0]:=by
  match L,h with
  | [x],_=>rfl
theorem mk_many (o:Bool) (L:List Nd) (h:L.length ≠ 1):mkN o L = .row o L:=by
  match L,h with
  | [],_=>rfl
  | x :: y :: L,_=>rfl
theorem fd_word (x y:Value) (w:World):(Instr.field 57 (.agg #[x,y]) 0).run Tryz.prog w = .ok x w:=by kernel_rfl
theorem flat_row (o:Bool) (l:List Nd):flat o (.row o l) = l:=by rw [flat,if_pos rfl]
set_option maxRecDepth 100000 in
set_option maxHeartbeats 16000000 in
theorem rowsF_any (g:Nat) (en:Int) (f:Nat) (hP:∀ f',f' < f → Reads g en 52 f' 0) (l:List Wd) (sz dp:Nat) (w:World) (h:At w g en l sz dp) (Q:PR) (hQ:pG en f (0 + 1) [] l sz dp = Q) (hno:Q ≠ .out) :
    Calls Tryz.prog 27 #[.pointer (some ⟨g,0,none⟩),str (byW false),.func (.func 52) #[.pointer (some ⟨g,0,none⟩)] #[]] w (PPost g en Q w):=by
  have hgl:=h.lt
  have HQ:=Lib.hid hQ
  have HP:=Lib.hid hP
  clear hQ hP
  have hta:=ta_row
  have htb:=ta_within
  have htc:=ta_has
  have htd:=ta_all
  have hte:=ta_not
  have hfd:=fd_word
  have hby1:(byW true == byW false) = false:=by decide
  have hby2:(byW false == byW true) = false:=by decide
  go_enter Tryz.func27,Tryz.ntmps27
  go_wp2_with fail
  go_loopw [7] (fun o wr=>∃ (f':Nat) (acc:List Nd) (l':List Wd) (sz':Nat) (A:Option Addr) (n c:Nat) (vs:List Value),f'≤f∧o = .slice A n c∧At wr g en l' sz' dp∧pG en f' (0 + 1) acc l' sz' dp = Q ∧
    wfL false acc∧szL acc≤sz'∧Own wr w.heap.size 53 1 A n c vs∧NdVs wr (fun b=>w.heap.size≤b∧blkOf A ≠ some b) acc vs∧w.grownBy wr (some g)) (fun _ wr=>match wr.cell? ⟨g,0,none⟩ with | some (.slice _ n _)=>n | _=>0)
  case atStart=>exact ⟨f,[],l,sz,none,0,0,[],Nat.le_refl _,rfl,h,HQ.out,trivial,by simp [szL],Own.nil _ _ _ _,rfl,World.grownBy.refl w _⟩
  case round =>
    obtain ⟨f',acc,l',sz',A,n,c,vs,hf',rfl,hA,hq,hwf,hsz,oW,vW,D⟩:=hrel
    cases f' with
    | zero=>rw [pG] at hq;exact absurd hq.symm hno
    | succ f1 =>
      rw [pG] at hq
      obtain ⟨R,hR⟩:∃ R,pG en f1 0 [] l' sz' dp = R:=⟨_,rfl⟩
      have hRn:R ≠ .out:=by intro e;rw [hR,e] at hq;exact hno hq.symm
      have C:=HP.out f1 (by omega) l' sz' dp wr hA (by rw [hR];exact hRn)
      rw [hR] at C hq
      obtain ⟨A0,n0,c0,bl0,rd0,_⟩:=hA.at_
      have hl0:=rd_wlen rd0
      have HM0:=Lib.hid (show wr.cell? ⟨g,0,none⟩ = some (.slice A0 n0 c0)∧l'.length = n0 from ⟨(blk_rd bl0).1,hl0⟩)
      have HR:=Lib.hid hR
      have HA:=Lib.hid hA
      have hgr:=hA.lt
      have hzr:=D.size
      clear bl0 rd0 hl0 hR hA h HQ HP
      cases R with
      | out=>exact absurd rfl hRn
      | err er at_ =>
        dsimp only at hq
        have HQ2:=Lib.hid hq
        clear hq
        go_wp2_with fail
        refine C.mono ?_
        clear C
        rintro e w1 ⟨rfl,G1⟩
        go_wp2_with fail
        have hQ:=HQ2.out
        subst hQ
        simp only [bodyPost]
        exact ⟨by first | trivial | rfl,rfl,grown_then D G1⟩
      | ok n1 l2 s2 d2 =>
        obtain ⟨k,k1,k2,e1,e2,hs1,hs2⟩:=pG_left en _ _ _ _ _ _ _ _ _ _ HR.out
        have e2':=e2.symm
        subst e2'
        obtain ⟨w1',w2',w3'⟩:=pG_wf en _ 0 [] _ _ _ _ _ _ _ (by omega) HA.out.dpl HA.out.few (fun _=>rfl) trivial (by simp) HR.out
        simp only [szL,Nat.add_zero] at w3'
        have hwf5:wfL false (acc ++ flat false n1):=(wfL_app _ _ _).2 ⟨hwf,wfL_flat _ _ w1'⟩
        have hsz5:szL (acc ++ flat false n1)≤s2:=by rw [szL_app,szL_flat];omega
        have hpos:=flat_pos false n1 w1'
        have HLL:=Lib.hid (show l2.length < l'.length by rw [e1,List.length_drop];omega)
        have hvl:vs.length = n:=by have:=oW.len;omega
        have hn:n≤100:=by
          have e2:=vW.len
          have e3:=len_sz false _ hwf
          have e4:=HA.out.szl
          omega
        have HVL:=Lib.hid hvl
        dsimp only at hq
        rw [show decide (0 = 1) = false from rfl] at hq
        clear e1 hs1 hs2 w1' w2' w3' hwf hsz k1 k2 HR hvl
        go_wp2_with fail
        refine C.mono ?_
        clear C
        rintro e w1 ⟨v,rfl,V1,T1,G1⟩
        have D1:=grown_then D G1
        have hz1:=G1.size
        have o1:=oW.grown G1 (.inr (fun e=>by have:=(oW.blk g e).1;omega))
        have N1:NdVs w1 (fun b=>w.heap.size≤b∧b < wr.heap.size∧blkOf A ≠ some b) acc vs:=by
          refine vW.keep (fun b hb hbl=>⟨G1.block b hbl (by intro e;cases e;omega),hb.1,hbl,hb.2⟩) _ _
        have hAb:=oW.blk
        have hAsk:=V1.asks false
        clear oW vW HA
        rcases hAsk with ⟨l3,b3,m3,c3,us3,rfl,rfl,hS3,hb3,hu3,hm3,hm3',hc3,hN3⟩ | ⟨hfl,hAsk⟩
        · have hpos3:0 < m3:=by
            rw [flat_row] at hpos
            have:=hN3.len
            omega
          rw [flat_row] at hq hwf5 hsz5 hpos
          have r3:Rd w1 w1.heap.size 1 (some ⟨b3,0,none⟩) m3 us3:=⟨by omega,fun _=>⟨b3,0,rfl,hb3,fun j hj=>by rw [Nat.zero_add];exact hc3 j hj⟩⟩
          have hone:=hN3.one
          have HU3:=Lib.hid hu3
          have HC3:=Lib.hid hc3
          have HF3:=Lib.hid (flat_row false l3)
          have hm100:m3≤100:=by
            have e3:=len_sz false _ hwf5
            have e4:=T1.szl
            have e5:=hN3.len
            rw [List.length_append] at e3
            omega
          clear hu3 hc3
          go_wp2_with (at_builtin;with_reducible refine wp_append El_node rfl (s:=.tmp 25) (x:=.tmp 27) rfl rfl (o1.alloc _) rfl (r3.below (Below.alloc (Below.refl _ _) (Nat.le_refl _) _)) hone (by unfold maxLen;omega) (by omega) (by simp;omega) ?_;intro A5 c5 w5 o5 hg5 hat5)
          have HB5:Below w.heap.size w1 w5:=((Below.refl w.heap.size w1).alloc (by omega) _).grown hg5 (by simp;omega) (fun k hk=>(hAb k hk).1)
          have T5:=T1.low HB5 hgl
          have D5:=grown_low D1 HB5 (Nat.le_refl _)
          have hz5:=HB5.size
          have KP:∀ b,b < w1.heap.size → blkOf A ≠ some b → w5.heap[b]? = w1.heap[b]?∧blkOf A5 ≠ some b:=by
            intro b hb hne
            refine ⟨(hg5.block b (by simp;omega) (fun e=>hne e.symm)).trans (Below.heap_alloc _ _ b hb),?_⟩
            rcases hat5 with e | e
            · rw [e];exact hne
            · rw [e];intro e2;simp at e2;omega
          have N5:NdVs w5 (fun b=>w.heap.size≤b∧blkOf A5 ≠ some b) (acc ++ flat false (.row false l3)) (vs ++ us3):=by
            rw [HF3.out]
            refine NdVs.app (N1.keep (fun b hb hbl=>?_) _ _) (hN3.keep (fun b hb hbl=>?_) _ _)
            · obtain ⟨k1,k2⟩:=KP b hbl hb.2.2
              exact ⟨k1,hb.1,k2⟩
            · obtain ⟨k1,k2⟩:=KP b hbl (fun e=>by have:=(hAb b e).2;omega)
              exact ⟨k1,by omega,k2⟩
          have HPOS:=Lib.hid (show 0 < n + m3 by omega)
          rw [← HF3.out] at hq hwf5 hsz5
          generalize n + m3 = n5 at *
          generalize vs ++ us3 = us at *
          generalize Nd.row false l3 = n1 at *
          clear V1 N1 o1 hN3 hg5 hat5 KP HB5 r3 hone HU3 HC3 HF3 T1 D1 D G1
          have hn5:n5≤100:=by
            have e1:=o5.len
            have e2:=N5.len
            have e3:=len_sz false _ hwf5
            have e4:=T5.szl
            omega
          have PK:=peek_any g en l2 s2 dp w5 T5
          obtain ⟨⟨y,a⟩,hy⟩:∃ z,hdW en l2 = z:=⟨_,rfl⟩
          rw [hy] at PK
          have HY:=Lib.hid hy
          rw [hy] at hq
          clear hy
          by_cases hb:y = byW false
          · have q1:(y != byW false) = false:=by simp [hb]
            have q0:(y == byW false) = true:=by simp [hb]
            rw [if_pos hb] at hq
            have HQ3:=Lib.hid hq
            clear hq
            go_wp2_with fail
            refine PK.mono ?_
            clear PK
            rintro e w6 ⟨rfl,hb6⟩
            have T6:=T5.below hb6
            go_wp2_with fail
            refine (next_any g en l2 s2 dp w6 T6).mono ?_
            rintro e w7 ⟨rfl,T7,G7⟩
            have D6:=grown_low D5 hb6 D5.size
            have D7:=grown_then D6 G7
            have hg7:g < w5.heap.size:=T5.lt
            have o6:=o5.below hb6
            have o7:=o6.grown G7 (.inr (fun e=>by have:=(o6.blk g e).1;omega))
            have N7:NdVs w7 (fun b=>w.heap.size≤b∧blkOf A5 ≠ some b) (acc ++ flat false n1) us:=N5.keep (fun b hb hbl=>⟨(G7.block b (Nat.lt_of_lt_of_le hbl hb6.size) (by intro e;cases e;omega)).trans (hb6.block b hbl),hb⟩) _ _
            obtain ⟨A7,n7,c7,bl7,rd7,_⟩:=T7.at_
            have c7':=(blk_rd bl7).1
            have hl7:=rd_wlen rd7
            have HM7:=Lib.hid hl7
            clear hl7
            go_wp2_with fail
            go_roundw
            case rel =>
              refine ⟨f1,acc ++ flat false n1,l2.drop 1,s2,A5,n5,c5,us,by omega,rfl,T7,?_,hwf5,hsz5,o7,N7,D7⟩
              rw [← tail_drop]
              exact HQ3.out
            case measure =>
              rw [c7',HM0.out.1]
              dsimp only
              have e1:=HM7.out
              have e2:=HM0.out.2
              have e3:=HLL.out
              rw [List.length_drop] at e1
              omega
          · obtain ⟨q0,q1⟩:=str_ne hb
            rw [if_neg hb] at hq
            have HQ3:=Lib.hid hq
            clear hq hb
            have hL:=N5.len
            have hL2:=o5.len
            generalize acc ++ flat false n1 = L at *
            have HL:=Lib.hid hL
            have HL2:=Lib.hid hL2
            clear hL hL2
            go_wp2_with fail
            refine PK.mono ?_
            clear PK
            rintro e w6 ⟨rfl,hb6⟩
            have T6:=T5.below hb6
            have D6:=grown_low D5 hb6 D5.size
            have o6:=o5.below hb6
            have N6:NdVs w6 (fun b=>w.heap.size≤b∧blkOf A5 ≠ some b) L us:=N5.keep (fun b hb hbl=>⟨hb6.block b hbl,hb⟩) _ _
            by_cases h1:n5 = 1
            · subst h1
              obtain ⟨b5,oo5,rfl,hb5,hc5⟩:=o6.rd.at_ (by omega)
              have hu0:0 < us.length:=by have:=HL2.out;omega
              have hL0:0 < L.length:=by have:=HL.out;omega
              have c0:=hc5 0 hu0
              have hV:=N6.at_ 0 hL0 hu0
              have HQ4:Hid (PR.ok L[0] l2 s2 dp = Q):=Lib.hid (by
                have e:=HQ3.out
                rw [mk_one false L (by have:=HL.out;have:=HL2.out;omega)] at e
                exact e)
              generalize us[0] = u at *
              generalize L[0] = n0 at *
              rw [Nat.add_zero] at c0
              clear hc5 N6 N5
              go_wp2_with fail
              go_ret
              have hQ:=HQ4.out
              subst hQ
              exact ⟨u,rfl,hV.keep (fun b hb _=>⟨rfl,hb.1⟩) _ _,T6,D6⟩
            · have h1I:((n5:Int) == 1) = false:=by rw [beq_eq_false_iff_ne];omega
              have h1N:n5 ≠ 1:=h1
              have HQ4:Hid (PR.ok (.row false L) l2 s2 dp = Q):=Lib.hid (by
                have e:=HQ3.out
                rw [mk_many false L (by have:=HL.out;have:=HL2.out;omega)] at e
                exact e)
              have HN1:=Lib.hid h1N
              clear h1 h1N
              go_wp2_with fail
              go_ret
              have hQ:=HQ4.out
              subst hQ
              have h2:0 < n5:=HPOS.out
              obtain ⟨b5,oo5,hA5,hb5,hc5⟩:=o6.rd.at_ h2
              have hsh:=o6.shape
              rcases hsh with ⟨hA,hn0,_⟩ | ⟨g5,hA,hg5,hg5',_⟩
              · omega
              · subst hA
                cases hA5
                refine ⟨_,rfl,⟨b5,n5,c5,us,rfl,hg5,hg5',by have:=HL2.out;omega,o6.cap,by omega,fun i hi=>?_,?_⟩,T6,D6⟩
                · have:=hc5 i hi
                  rw [Nat.zero_add] at this
                  exact this
                · exact N6.keep (fun b hb _=>⟨rfl,hb.1⟩) _ _
        · have hone:=V1.one
          have HFL:=Lib.hid hfl
          clear hfl
          rcases hAsk with ⟨Ax,mx,cx,rfl⟩ | ⟨x,rfl⟩ | ⟨x,rfl⟩ | ⟨x,rfl⟩ | ⟨x,rfl⟩
          all_goals try simp only [Bool.not_false,Bool.not_true] at V1 hone
          all_goals
          go_wp2_with (at_builtin;with_reducible refine wp_append El_node rfl (s:=.tmp 29) (x:=.tmp 31) rfl rfl ((o1.alloc _).alloc _) rfl (rd_new (W0:=w1.alloc _) (cs:=[_]) (m:=1) (by simp) rfl) (by intro u hu;simp only [List.mem_singleton] at hu;subst hu;exact hone) (by unfold maxLen;omega) (by omega) (by simp;omega) ?_;intro A5 c5 w5 o5 hg5 hat5)
          have HB5:Below w.heap.size w1 w5:=(((Below.refl w.heap.size w1).alloc (by omega) _).alloc (by simp;omega) _).grown hg5 (by simp;omega) (fun k hk=>(hAb k hk).1)
          have T5:=T1.low HB5 hgl
          have D5:=grown_low D1 HB5 (Nat.le_refl _)
          have hz5:=HB5.size
          have KP:∀ b,b < w1.heap.size → blkOf A ≠ some b → w5.heap[b]? = w1.heap[b]?∧blkOf A5 ≠ some b:=by
            intro b hb hne
            refine ⟨((hg5.block b (by simp;omega) (fun e=>hne e.symm)).trans (Below.heap_alloc _ _ b (by simp;omega))).trans (Below.heap_alloc _ _ b hb),?_⟩
            rcases hat5 with e | e
            · rw [e];exact hne
            · rw [e];intro e2;simp at e2;omega
          have N5:=NdVs.app (N1.keep (w':=w5) (S':=fun b=>w.heap.size≤b∧blkOf A5 ≠ some b) (fun b hb hbl=>by
            obtain ⟨k1,k2⟩:=KP b hbl hb.2.2
            exact ⟨k1,hb.1,k2⟩) _ _) (show NdVs w5 (fun b=>w.heap.size≤b∧blkOf A5 ≠ some b) [n1] [_] from ⟨_,_,rfl,V1.keep (fun b hb hbl=>by
            obtain ⟨k1,k2⟩:=KP b hbl (fun e=>by have:=(hAb b e).2;omega)
            exact ⟨k1,by omega,k2⟩) _ _,rfl⟩)
          rw [← HFL.out] at N5
          have HPOS:=Lib.hid (show 0 < n + 1 by omega)
          generalize n + 1 = n5 at *
          generalize hus:vs ++ [_] = us at o5 N5
          clear hus V1 N1 o1 hg5 hat5 KP HB5 hone HFL T1 D1 D G1
          have hn5:n5≤100:=by
            have e1:=o5.len
            have e2:=N5.len
            have e3:=len_sz false _ hwf5
            have e4:=T5.szl
            omega
          have PK:=peek_any g en l2 s2 dp w5 T5
          obtain ⟨⟨y,a⟩,hy⟩:∃ z,hdW en l2 = z:=⟨_,rfl⟩
          rw [hy] at PK
          have HY:=Lib.hid hy
          rw [hy] at hq
          clear hy
          by_cases hb:y = byW false
          · have q1:(y != byW false) = false:=by simp [hb]
            have q0:(y == byW false) = true:=by simp [hb]
            rw [if_pos hb] at hq
            have HQ3:=Lib.hid hq
            clear hq
            go_wp2_with fail
            refine PK.mono ?_
            clear PK
            rintro e w6 ⟨rfl,hb6⟩
            have T6:=T5.below hb6
            go_wp2_with fail
            refine (next_any g en l2 s2 dp w6 T6).mono ?_
            rintro e w7 ⟨rfl,T7,G7⟩
            have D6:=grown_low D5 hb6 D5.size
            have D7:=grown_then D6 G7
            have hg7:g < w5.heap.size:=T5.lt
            have o6:=o5.below hb6
            have o7:=o6.grown G7 (.inr (fun e=>by have:=(o6.blk g e).1;omega))
            have N7:NdVs w7 (fun b=>w.heap.size≤b∧blkOf A5 ≠ some b) (acc ++ flat false n1) us:=N5.keep (fun b hb hbl=>⟨(G7.block b (Nat.lt_of_lt_of_le hbl hb6.size) (by intro e;cases e;omega)).trans (hb6.block b hbl),hb⟩) _ _
            obtain ⟨A7,n7,c7,bl7,rd7,_⟩:=T7.at_
            have c7':=(blk_rd bl7).1
            have hl7:=rd_wlen rd7
            have HM7:=Lib.hid hl7
            clear hl7
            go_wp2_with fail
            go_roundw
            case rel =>
              refine ⟨f1,acc ++ flat false n1,l2.drop 1,s2,A5,n5,c5,us,by omega,rfl,T7,?_,hwf5,hsz5,o7,N7,D7⟩
              rw [← tail_drop]
              exact HQ3.out
            case measure =>
              rw [c7',HM0.out.1]
              dsimp only
              have e1:=HM7.out
              have e2:=HM0.out.2
              have e3:=HLL.out
              rw [List.length_drop] at e1
              omega
          · obtain ⟨q0,q1⟩:=str_ne hb
            rw [if_neg hb] at hq
            have HQ3:=Lib.hid hq
            clear hq hb
            have hL:=N5.len
            have hL2:=o5.len
            generalize acc ++ flat false n1 = L at *
            have HL:=Lib.hid hL
            have HL2:=Lib.hid hL2
            clear hL hL2
            go_wp2_with fail
            refine PK.mono ?_
            clear PK
            rintro e w6 ⟨rfl,hb6⟩
            have T6:=T5.below hb6
            have D6:=grown_low D5 hb6 D5.size
            have o6:=o5.below hb6
            have N6:NdVs w6 (fun b=>w.heap.size≤b∧blkOf A5 ≠ some b) L us:=N5.keep (fun b hb hbl=>⟨hb6.block b hbl,hb⟩) _ _
            by_cases h1:n5 = 1
            · subst h1
              obtain ⟨b5,oo5,rfl,hb5,hc5⟩:=o6.rd.at_ (by omega)
              have hu0:0 < us.length:=by have:=HL2.out;omega
              have hL0:0 < L.length:=by have:=HL.out;omega
              have c0:=hc5 0 hu0
              have hV:=N6.at_ 0 hL0 hu0
              have HQ4:Hid (PR.ok L[0] l2 s2 dp = Q):=Lib.hid (by
                have e:=HQ3.out
                rw [mk_one false L (by have:=HL.out;have:=HL2.out;omega)] at e
                exact e)
              generalize us[0] = u at *
              generalize L[0] = n0 at *
              rw [Nat.add_zero] at c0
              clear hc5 N6 N5
              go_wp2_with fail
              go_ret
              have hQ:=HQ4.out
              subst hQ
              exact ⟨u,rfl,hV.keep (fun b hb _=>⟨rfl,hb.1⟩) _ _,T6,D6⟩
            · have h1I:((n5:Int) == 1) = false:=by rw [beq_eq_false_iff_ne];omega
              have h1N:n5 ≠ 1:=h1
              have HQ4:Hid (PR.ok (.row false L) l2 s2 dp = Q):=Lib.hid (by
                have e:=HQ3.out
                rw [mk_many false L (by have:=HL.out;have:=HL2.out;omega)] at e
                exact e)
              have HN1:=Lib.hid h1N
              clear h1 h1N
              go_wp2_with fail
              go_ret
              have hQ:=HQ4.out
              subst hQ
              have h2:0 < n5:=HPOS.out
              obtain ⟨b5,oo5,hA5,hb5,hc5⟩:=o6.rd.at_ h2
              have hsh:=o6.shape
              rcases hsh with ⟨hA,hn0,_⟩ | ⟨g5,hA,hg5,hg5',_⟩
              · omega
              · subst hA
                cases hA5
                refine ⟨_,rfl,⟨b5,n5,c5,us,rfl,hg5,hg5',by have:=HL2.out;omega,o6.cap,by omega,fun i hi=>?_,?_⟩,T6,D6⟩
                · have:=hc5 i hi
                  rw [Nat.zero_add] at this
                  exact this
                · exact N6.keep (fun b hb _=>⟨rfl,hb.1⟩) _ _
set_option maxRecDepth 100000 in
set_option maxHeartbeats 16000000 in
theorem rowsT_any (g:Nat) (en:Int) (f:Nat) (hP:∀ f',f' < f → Reads g en 28 f' 1) (l:List Wd) (sz dp:Nat) (w:World) (h:At w g en l sz dp) (Q:PR) (hQ:pG en f (1 + 1) [] l sz dp = Q) (hno:Q ≠ .out) :
    Calls Tryz.prog 27 #[.pointer (some ⟨g,0,none⟩),str (byW true),.func (.func 28) #[.pointer (some ⟨g,0,none⟩)] #[]] w (PPost g en Q w):=by
  have hgl:=h.lt
  have HQ:=Lib.hid hQ
  have HP:=Lib.hid hP
  clear hQ hP
  have hta:=ta_row
  have htb:=ta_within
  have htc:=ta_has
  have htd:=ta_all
  have hte:=ta_not
  have hfd:=fd_word
  have hby1:(byW true == byW false) = false:=by decide
  have hby2:(byW false == byW true) = false:=by decide
  go_enter Tryz.func27,Tryz.ntmps27
  go_wp2_with fail
  go_loopw [7] (fun o wr=>∃ (f':Nat) (acc:List Nd) (l':List Wd) (sz':Nat) (A:Option Addr) (n c:Nat) (vs:List Value),f'≤f∧o = .slice A n c∧At wr g en l' sz' dp∧pG en f' (1 + 1) acc l' sz' dp = Q ∧
    wfL true acc∧szL acc≤sz'∧Own wr w.heap.size 53 1 A n c vs∧NdVs wr (fun b=>w.heap.size≤b∧blkOf A ≠ some b) acc vs∧w.grownBy wr (some g)) (fun _ wr=>match wr.cell? ⟨g,0,none⟩ with | some (.slice _ n _)=>n | _=>0)
  case atStart=>exact ⟨f,[],l,sz,none,0,0,[],Nat.le_refl _,rfl,h,HQ.out,trivial,by simp [szL],Own.nil _ _ _ _,rfl,World.grownBy.refl w _⟩
  case round =>
    obtain ⟨f',acc,l',sz',A,n,c,vs,hf',rfl,hA,hq,hwf,hsz,oW,vW,D⟩:=hrel
    cases f' with
    | zero=>rw [pG] at hq;exact absurd hq.symm hno
    | succ f1 =>
      rw [pG] at hq
      obtain ⟨R,hR⟩:∃ R,pG en f1 1 [] l' sz' dp = R:=⟨_,rfl⟩
      have hRn:R ≠ .out:=by intro e;rw [hR,e] at hq;exact hno hq.symm
      have C:=HP.out f1 (by omega) l' sz' dp wr hA (by rw [hR];exact hRn)
      rw [hR] at C hq
      obtain ⟨A0,n0,c0,bl0,rd0,_⟩:=hA.at_
      have hl0:=rd_wlen rd0
      have HM0:=Lib.hid (show wr.cell? ⟨g,0,none⟩ = some (.slice A0 n0 c0)∧l'.length = n0 from ⟨(blk_rd bl0).1,hl0⟩)
      have HR:=Lib.hid hR
      have HA:=Lib.hid hA
      have hgr:=hA.lt
      have hzr:=D.size
      clear bl0 rd0 hl0 hR hA h HQ HP
      cases R with
      | out=>exact absurd rfl hRn
      | err er at_ =>
        dsimp only at hq
        have HQ2:=Lib.hid hq
        clear hq
        go_wp2_with fail
        refine C.mono ?_
        clear C
        rintro e w1 ⟨rfl,G1⟩
        go_wp2_with fail
        have hQ:=HQ2.out
        subst hQ
        simp only [bodyPost]
        exact ⟨by first | trivial | rfl,rfl,grown_then D G1⟩
      | ok n1 l2 s2 d2 =>
        obtain ⟨k,k1,k2,e1,e2,hs1,hs2⟩:=pG_left en _ _ _ _ _ _ _ _ _ _ HR.out
        have e2':=e2.symm
        subst e2'
        obtain ⟨w1',w2',w3'⟩:=pG_wf en _ 1 [] _ _ _ _ _ _ _ (by omega) HA.out.dpl HA.out.few (fun _=>rfl) trivial (by simp) HR.out
        simp only [szL,Nat.add_zero] at w3'
        have hwf5:wfL true (acc ++ flat true n1):=(wfL_app _ _ _).2 ⟨hwf,wfL_flat _ _ w1'⟩
        have hsz5:szL (acc ++ flat true n1)≤s2:=by rw [szL_app,szL_flat];omega
        have hpos:=flat_pos true n1 w1'
        have HLL:=Lib.hid (show l2.length < l'.length by rw [e1,List.length_drop];omega)
        have hvl:vs.length = n:=by have:=oW.len;omega
        have hn:n≤100:=by
          have e2:=vW.len
          have e3:=len_sz true _ hwf
          have e4:=HA.out.szl
          omega
        have HVL:=Lib.hid hvl
        dsimp only at hq
        rw [show decide (1 = 1) = true from rfl] at hq
        clear e1 hs1 hs2 w1' w2' w3' hwf hsz k1 k2 HR hvl
        go_wp2_with fail
        refine C.mono ?_
        clear C
        rintro e w1 ⟨v,rfl,V1,T1,G1⟩
        have D1:=grown_then D G1
        have hz1:=G1.size
        have o1:=oW.grown G1 (.inr (fun e=>by have:=(oW.blk g e).1;omega))
        have N1:NdVs w1 (fun b=>w.heap.size≤b∧b < wr.heap.size∧blkOf A ≠ some b) acc vs:=by
          refine vW.keep (fun b hb hbl=>⟨G1.block b hbl (by intro e;cases e;omega),hb.1,hbl,hb.2⟩) _ _
        have hAb:=oW.blk
        have hAsk:=V1.asks true
        clear oW vW HA
        rcases hAsk with ⟨l3,b3,m3,c3,us3,rfl,rfl,hS3,hb3,hu3,hm3,hm3',hc3,hN3⟩ | ⟨hfl,hAsk⟩
        · have hpos3:0 < m3:=by
            rw [flat_row] at hpos
            have:=hN3.len
            omega
          rw [flat_row] at hq hwf5 hsz5 hpos
          have r3:Rd w1 w1.heap.size 1 (some ⟨b3,0,none⟩) m3 us3:=⟨by omega,fun _=>⟨b3,0,rfl,hb3,fun j hj=>by rw [Nat.zero_add];exact hc3 j hj⟩⟩
          have hone:=hN3.one
          have HU3:=Lib.hid hu3
          have HC3:=Lib.hid hc3
          have HF3:=Lib.hid (flat_row true l3)
          have hm100:m3≤100:=by
            have e3:=len_sz true _ hwf5
            have e4:=T1.szl
            have e5:=hN3.len
            rw [List.length_append] at e3
            omega
          clear hu3 hc3
          go_wp2_with (at_builtin;with_reducible refine wp_append El_node rfl (s:=.tmp 25) (x:=.tmp 27) rfl rfl (o1.alloc _) rfl (r3.below (Below.alloc (Below.refl _ _) (Nat.le_refl _) _)) hone (by unfold maxLen;omega) (by omega) (by simp;omega) ?_;intro A5 c5 w5 o5 hg5 hat5)
          have HB5:Below w.heap.size w1 w5:=((Below.refl w.heap.size w1).alloc (by omega) _).grown hg5 (by simp;omega) (fun k hk=>(hAb k hk).1)
          have T5:=T1.low HB5 hgl
          have D5:=grown_low D1 HB5 (Nat.le_refl _)
          have hz5:=HB5.size
          have KP:∀ b,b < w1.heap.size → blkOf A ≠ some b → w5.heap[b]? = w1.heap[b]?∧blkOf A5 ≠ some b:=by
            intro b hb hne
            refine ⟨(hg5.block b (by simp;omega) (fun e=>hne e.symm)).trans (Below.heap_alloc _ _ b hb),?_⟩
            rcases hat5 with e | e
            · rw [e];exact hne
            · rw [e];intro e2;simp at e2;omega
          have N5:NdVs w5 (fun b=>w.heap.size≤b∧blkOf A5 ≠ some b) (acc ++ flat true (.row true l3)) (vs ++ us3):=by
            rw [HF3.out]
            refine NdVs.app (N1.keep (fun b hb hbl=>?_) _ _) (hN3.keep (fun b hb hbl=>?_) _ _)
            · obtain ⟨k1,k2⟩:=KP b hbl hb.2.2
              exact ⟨k1,hb.1,k2⟩
            · obtain ⟨k1,k2⟩:=KP b hbl (fun e=>by have:=(hAb b e).2;omega)
              exact ⟨k1,by omega,k2⟩
          have HPOS:=Lib.hid (show 0 < n + m3 by omega)
          rw [← HF3.out] at hq hwf5 hsz5
          generalize n + m3 = n5 at *
          generalize vs ++ us3 = us at *
          generalize Nd.row true l3 = n1 at *
          clear V1 N1 o1 hN3 hg5 hat5 KP HB5 r3 hone HU3 HC3 HF3 T1 D1 D G1
          have hn5:n5≤100:=by
            have e1:=o5.len
            have e2:=N5.len
            have e3:=len_sz true _ hwf5
            have e4:=T5.szl
            omega
          have PK:=peek_any g en l2 s2 dp w5 T5
          obtain ⟨⟨y,a⟩,hy⟩:∃ z,hdW en l2 = z:=⟨_,rfl⟩
          rw [hy] at PK
          have HY:=Lib.hid hy
          rw [hy] at hq
          clear hy
          by_cases hb:y = byW true
          · have q1:(y != byW true) = false:=by simp [hb]
            have q0:(y == byW true) = true:=by simp [hb]
            rw [if_pos hb] at hq
            have HQ3:=Lib.hid hq
            clear hq
            go_wp2_with fail
            refine PK.mono ?_
            clear PK
            rintro e w6 ⟨rfl,hb6⟩
            have T6:=T5.below hb6
            go_wp2_with fail
            refine (next_any g en l2 s2 dp w6 T6).mono ?_
            rintro e w7 ⟨rfl,T7,G7⟩
            have D6:=grown_low D5 hb6 D5.size
            have D7:=grown_then D6 G7
            have hg7:g < w5.heap.size:=T5.lt
            have o6:=o5.below hb6
            have o7:=o6.grown G7 (.inr (fun e=>by have:=(o6.blk g e).1;omega))
            have N7:NdVs w7 (fun b=>w.heap.size≤b∧blkOf A5 ≠ some b) (acc ++ flat true n1) us:=N5.keep (fun b hb hbl=>⟨(G7.block b (Nat.lt_of_lt_of_le hbl hb6.size) (by intro e;cases e;omega)).trans (hb6.block b hbl),hb⟩) _ _
            obtain ⟨A7,n7,c7,bl7,rd7,_⟩:=T7.at_
            have c7':=(blk_rd bl7).1
            have hl7:=rd_wlen rd7
            have HM7:=Lib.hid hl7
            clear hl7
            go_wp2_with fail
            go_roundw
            case rel =>
              refine ⟨f1,acc ++ flat true n1,l2.drop 1,s2,A5,n5,c5,us,by omega,rfl,T7,?_,hwf5,hsz5,o7,N7,D7⟩
              rw [← tail_drop]
              exact HQ3.out
            case measure =>
              rw [c7',HM0.out.1]
              dsimp only
              have e1:=HM7.out
              have e2:=HM0.out.2
              have e3:=HLL.out
              rw [List.length_drop] at e1
              omega
          · obtain ⟨q0,q1⟩:=str_ne hb
            rw [if_neg hb] at hq
            have HQ3:=Lib.hid hq
            clear hq hb
            have hL:=N5.len
            have hL2:=o5.len
            generalize acc ++ flat true n1 = L at *
            have HL:=Lib.hid hL
            have HL2:=Lib.hid hL2
            clear hL hL2
            go_wp2_with fail
            refine PK.mono ?_
            clear PK
            rintro e w6 ⟨rfl,hb6⟩
            have T6:=T5.below hb6
            have D6:=grown_low D5 hb6 D5.size
            have o6:=o5.below hb6
            have N6:NdVs w6 (fun b=>w.heap.size≤b∧blkOf A5 ≠ some b) L us:=N5.keep (fun b hb hbl=>⟨hb6.block b hbl,hb⟩) _ _
            by_cases h1:n5 = 1
            · subst h1
              obtain ⟨b5,oo5,rfl,hb5,hc5⟩:=o6.rd.at_ (by omega)
              have hu0:0 < us.length:=by have:=HL2.out;omega
              have hL0:0 < L.length:=by have:=HL.out;omega
              have c0:=hc5 0 hu0
              have hV:=N6.at_ 0 hL0 hu0
              have HQ4:Hid (PR.ok L[0] l2 s2 dp = Q):=Lib.hid (by
                have e:=HQ3.out
                rw [mk_one true L (by have:=HL.out;have:=HL2.out;omega)] at e
                exact e)
              generalize us[0] = u at *
              generalize L[0] = n0 at *
              rw [Nat.add_zero] at c0
              clear hc5 N6 N5
              go_wp2_with fail
              go_ret
              have hQ:=HQ4.out
              subst hQ
              exact ⟨u,rfl,hV.keep (fun b hb _=>⟨rfl,hb.1⟩) _ _,T6,D6⟩
            · have h1I:((n5:Int) == 1) = false:=by rw [beq_eq_false_iff_ne];omega
              have h1N:n5 ≠ 1:=h1
              have HQ4:Hid (PR.ok (.row true L) l2 s2 dp = Q):=Lib.hid (by
                have e:=HQ3.out
                rw [mk_many true L (by have:=HL.out;have:=HL2.out;omega)] at e
                exact e)
              have HN1:=Lib.hid h1N
              clear h1 h1N
              go_wp2_with fail
              go_ret
              have hQ:=HQ4.out
              subst hQ
              have h2:0 < n5:=HPOS.out
              obtain ⟨b5,oo5,hA5,hb5,hc5⟩:=o6.rd.at_ h2
              have hsh:=o6.shape
              rcases hsh with ⟨hA,hn0,_⟩ | ⟨g5,hA,hg5,hg5',_⟩
              · omega
              · subst hA
                cases hA5
                refine ⟨_,rfl,⟨b5,n5,c5,us,rfl,hg5,hg5',by have:=HL2.out;omega,o6.cap,by omega,fun i hi=>?_,?_⟩,T6,D6⟩
                · have:=hc5 i hi
                  rw [Nat.zero_add] at this
                  exact this
                · exact N6.keep (fun b hb _=>⟨rfl,hb.1⟩) _ _
        · have hone:=V1.one
          have HFL:=Lib.hid hfl
          clear hfl
          rcases hAsk with ⟨Ax,mx,cx,rfl⟩ | ⟨x,rfl⟩ | ⟨x,rfl⟩ | ⟨x,rfl⟩ | ⟨x,rfl⟩
          all_goals try simp only [Bool.not_false,Bool.not_true] at V1 hone
          all_goals
          go_wp2_with (at_builtin;with_reducible refine wp_append El_node rfl (s:=.tmp 29) (x:=.tmp 31) rfl rfl ((o1.alloc _).alloc _) rfl (rd_new (W0:=w1.alloc _) (cs:=[_]) (m:=1) (by simp) rfl) (by intro u hu;simp only [List.mem_singleton] at hu;subst hu;exact hone) (by unfold maxLen;omega) (by omega) (by simp;omega) ?_;intro A5 c5 w5 o5 hg5 hat5)
          have HB5:Below w.heap.size w1 w5:=(((Below.refl w.heap.size w1).alloc (by omega) _).alloc (by simp;omega) _).grown hg5 (by simp;omega) (fun k hk=>(hAb k hk).1)
          have T5:=T1.low HB5 hgl
          have D5:=grown_low D1 HB5 (Nat.le_refl _)
          have hz5:=HB5.size
          have KP:∀ b,b < w1.heap.size → blkOf A ≠ some b → w5.heap[b]? = w1.heap[b]?∧blkOf A5 ≠ some b:=by
            intro b hb hne
            refine ⟨((hg5.block b (by simp;omega) (fun e=>hne e.symm)).trans (Below.heap_alloc _ _ b (by simp;omega))).trans (Below.heap_alloc _ _ b hb),?_⟩
            rcases hat5 with e | e
            · rw [e];exact hne
            · rw [e];intro e2;simp at e2;omega
          have N5:=NdVs.app (N1.keep (w':=w5) (S':=fun b=>w.heap.size≤b∧blkOf A5 ≠ some b) (fun b hb hbl=>by
            obtain ⟨k1,k2⟩:=KP b hbl hb.2.2
            exact ⟨k1,hb.1,k2⟩) _ _) (show NdVs w5 (fun b=>w.heap.size≤b∧blkOf A5 ≠ some b) [n1] [_] from ⟨_,_,rfl,V1.keep (fun b hb hbl=>by
            obtain ⟨k1,k2⟩:=KP b hbl (fun e=>by have:=(hAb b e).2;omega)
            exact ⟨k1,by omega,k2⟩) _ _,rfl⟩)
          rw [← HFL.out] at N5
          have HPOS:=Lib.hid (show 0 < n + 1 by omega)
          generalize n + 1 = n5 at *
          generalize hus:vs ++ [_] = us at o5 N5
          clear hus V1 N1 o1 hg5 hat5 KP HB5 hone HFL T1 D1 D G1
          have hn5:n5≤100:=by
            have e1:=o5.len
            have e2:=N5.len
            have e3:=len_sz true _ hwf5
            have e4:=T5.szl
            omega
          have PK:=peek_any g en l2 s2 dp w5 T5
          obtain ⟨⟨y,a⟩,hy⟩:∃ z,hdW en l2 = z:=⟨_,rfl⟩
          rw [hy] at PK
          have HY:=Lib.hid hy
          rw [hy] at hq
          clear hy
          by_cases hb:y = byW true
          · have q1:(y != byW true) = false:=by simp [hb]
            have q0:(y == byW true) = true:=by simp [hb]
            rw [if_pos hb] at hq
            have HQ3:=Lib.hid hq
            clear hq
            go_wp2_with fail
            refine PK.mono ?_
            clear PK
            rintro e w6 ⟨rfl,hb6⟩
            have T6:=T5.below hb6
            go_wp2_with fail
            refine (next_any g en l2 s2 dp w6 T6).mono ?_
            rintro e w7 ⟨rfl,T7,G7⟩
            have D6:=grown_low D5 hb6 D5.size
            have D7:=grown_then D6 G7
            have hg7:g < w5.heap.size:=T5.lt
            have o6:=o5.below hb6
            have o7:=o6.grown G7 (.inr (fun e=>by have:=(o6.blk g e).1;omega))
            have N7:NdVs w7 (fun b=>w.heap.size≤b∧blkOf A5 ≠ some b) (acc ++ flat true n1) us:=N5.keep (fun b hb hbl=>⟨(G7.block b (Nat.lt_of_lt_of_le hbl hb6.size) (by intro e;cases e;omega)).trans (hb6.block b hbl),hb⟩) _ _
            obtain ⟨A7,n7,c7,bl7,rd7,_⟩:=T7.at_
            have c7':=(blk_rd bl7).1
            have hl7:=rd_wlen rd7
            have HM7:=Lib.hid hl7
            clear hl7
            go_wp2_with fail
            go_roundw
            case rel =>
              refine ⟨f1,acc ++ flat true n1,l2.drop 1,s2,A5,n5,c5,us,by omega,rfl,T7,?_,hwf5,hsz5,o7,N7,D7⟩
              rw [← tail_drop]
              exact HQ3.out
            case measure =>
              rw [c7',HM0.out.1]
              dsimp only
              have e1:=HM7.out
              have e2:=HM0.out.2
              have e3:=HLL.out
              rw [List.length_drop] at e1
              omega
          · obtain ⟨q0,q1⟩:=str_ne hb
            rw [if_neg hb] at hq
            have HQ3:=Lib.hid hq
            clear hq hb
            have hL:=N5.len
            have hL2:=o5.len
            generalize acc ++ flat true n1 = L at *
            have HL:=Lib.hid hL
            have HL2:=Lib.hid hL2
            clear hL hL2
            go_wp2_with fail
            refine PK.mono ?_
            clear PK
            rintro e w6 ⟨rfl,hb6⟩
            have T6:=T5.below hb6
            have D6:=grown_low D5 hb6 D5.size
            have o6:=o5.below hb6
            have N6:NdVs w6 (fun b=>w.heap.size≤b∧blkOf A5 ≠ some b) L us:=N5.keep (fun b hb hbl=>⟨hb6.block b hbl,hb⟩) _ _
            by_cases h1:n5 = 1
            · subst h1
              obtain ⟨b5,oo5,rfl,hb5,hc5⟩:=o6.rd.at_ (by omega)
              have hu0:0 < us.length:=by have:=HL2.out;omega
              have hL0:0 < L.length:=by have:=HL.out;omega
              have c0:=hc5 0 hu0
              have hV:=N6.at_ 0 hL0 hu0
              have HQ4:Hid (PR.ok L[0] l2 s2 dp = Q):=Lib.hid (by
                have e:=HQ3.out
                rw [mk_one true L (by have:=HL.out;have:=HL2.out;omega)] at e
                exact e)
              generalize us[0] = u at *
              generalize L[0] = n0 at *
              rw [Nat.add_zero] at c0
              clear hc5 N6 N5
              go_wp2_with fail
              go_ret
              have hQ:=HQ4.out
              subst hQ
              exact ⟨u,rfl,hV.keep (fun b hb _=>⟨rfl,hb.1⟩) _ _,T6,D6⟩
            · have h1I:((n5:Int) == 1) = false:=by rw [beq_eq_false_iff_ne];omega
              have h1N:n5 ≠ 1:=h1
              have HQ4:Hid (PR.ok (.row true L) l2 s2 dp = Q):=Lib.hid (by
                have e:=HQ3.out
                rw [mk_many true L (by have:=HL.out;have:=HL2.out;omega)] at e
                exact e)
              have HN1:=Lib.hid h1N
              clear h1 h1N
              go_wp2_with fail
              go_ret
              have hQ:=HQ4.out
              subst hQ
              have h2:0 < n5:=HPOS.out
              obtain ⟨b5,oo5,hA5,hb5,hc5⟩:=o6.rd.at_ h2
              have hsh:=o6.shape
              rcases hsh with ⟨hA,hn0,_⟩ | ⟨g5,hA,hg5,hg5',_⟩
              · omega
              · subst hA
                cases hA5
                refine ⟨_,rfl,⟨b5,n5,c5,us,rfl,hg5,hg5',by have:=HL2.out;omega,o6.cap,by omega,fun i hi=>?_,?_⟩,T6,D6⟩
                · have:=hc5 i hi
                  rw [Nat.zero_add] at this
                  exact this
                · exact N6.keep (fun b hb _=>⟨rfl,hb.1⟩) _ _
theorem term_any (g:Nat) (en:Int) (f:Nat) (hP:∀ f',f' < f → Reads g en 52 f' 0):Reads g en 28 f (0 + 1):=by
  intro l sz dp w h hno
  have C:=rowsF_any g en f hP l sz dp w h _ rfl hno
  generalize pG en f (0 + 1) [] l sz dp = Q at *
  have hmf:∀ (fn:Fn) (first cap:Array Value) (w:World),(Instr.makeFunc fn first cap).run Tryz.prog w = .ok (.func fn first cap) w:=fun _ _ _ _=>rfl
  go_enter Tryz.func28,Tryz.ntmps28
  go_wp2_with fail
  refine C.mono ?_
  clear C
  rintro e w1 hP1
  cases Q with
  | out=>exact hP1.elim
  | err er a =>
    obtain ⟨rfl,G1⟩:=hP1
    go_wp2_with fail
    simp only [bodyPost]
    exact ⟨by first | trivial | rfl,rfl,G1⟩
  | ok n l2 s2 d2 =>
    obtain ⟨v,rfl,V1,T1,G1⟩:=hP1
    go_wp2_with fail
    go_ret
    exact ⟨v,rfl,V1,T1,G1⟩
theorem sentence_any (g:Nat) (en:Int) (f:Nat) (hP:∀ f',f' < f → Reads g en 28 f' 1):Reads g en 16 f (1 + 1):=by
  intro l sz dp w h hno
  have C:=rowsT_any g en f hP l sz dp w h _ rfl hno
  generalize pG en f (1 + 1) [] l sz dp = Q at *
  have hmf:∀ (fn:Fn) (first cap:Array Value) (w:World),(Instr.makeFunc fn first cap).run Tryz.prog w = .ok (.func fn first cap) w:=fun _ _ _ _=>rfl
  go_enter Tryz.func16,Tryz.ntmps16
  go_wp2_with fail
  refine C.mono ?_
  clear C
  rintro e w1 hP1
  cases Q with
  | out=>exact hP1.elim
  | err er a =>
    obtain ⟨rfl,G1⟩:=hP1
    go_wp2_with fail
    simp only [bodyPost]
    exact ⟨by first | trivial | rfl,rfl,G1⟩
  | ok n l2 s2 d2 =>
    obtain ⟨v,rfl,V1,T1,G1⟩:=hP1
    go_wp2_with fail
    go_ret
    exact ⟨v,rfl,V1,T1,G1⟩
theorem reads_all (g:Nat) (en:Int):∀ f,Reads g en 52 f 0∧Reads g en 28 f 1∧Reads g en 16 f 2:=by
  intro f
  induction f using Nat.strongRecOn with
  | ind f ih =>
    have h1:Reads g en 28 f 1:=term_any g en f fun f' h=>(ih f' h).1
    have h2:Reads g en 16 f 2:=sentence_any g en f fun f' h=>(ih f' h).2.1
    refine ⟨?_,h1,h2⟩
    cases f with
    | zero=>intro l sz dp w h hno;exact absurd (by rw [pG]) hno
    | succ f=>exact factor_any g en f (ih f (by omega)).1 (ih f (by omega)).2.2
theorem sentence_reads (g:Nat) (en:Int) (l:List Wd) (w:World) (h:At w g en l 0 0):Calls Tryz.prog 16 #[.pointer (some ⟨g,0,none⟩)] w (PPost g en (pM en 2 [] l 0 0) w) :=
  (reads_all g en _).2.2 l 0 0 w h (pM_out en 2 [] l 0 0 (by omega))
end SieW
end Go.Proofs.YtnpncpoiiikafaaGreatDoor
