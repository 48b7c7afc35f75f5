/- RecS -/
import Derived.Test.YtnpncpoiiikafaaGreatDoorSieJQs
import Derived.Test.YtnpncpoiiikafaaGreatDoorVarWQs
import Derived.Test.YtnpncpoiiikafaaGreatDoorBldQs
set_option linter.unusedVariables false
set_option linter.unusedSimpArgs false
set_option linter.unnecessarySimpa false
namespace Go.Proofs.YtnpncpoiiikafaaGreatDoor
namespace SkpW
theorem row_chain (p:Rc) (l:List Rc) (h:rowFrom (some p) l = 0):∀ i (hi:i < l.length),l[i].1 = p.1 + 1 + i∧p.2.1≤l[i].2.1∧∀ j (hj:j < l.length),i≤j → l[i].2.1≤l[j].2.1:=by
  induction l generalizing p with
  | nil=>intro i hi;simp at hi
  | cons r l ih =>
    unfold rowFrom at h
    by_cases ho:okR r = true
    · rw [if_pos ho] at h
      dsimp only at h
      by_cases hx:nextB p r = true
      · rw [if_pos hx] at h
        have IH:=ih r h
        unfold nextB at hx
        simp only [Bool.and_eq_true,decide_eq_true_eq] at hx
        intro i hi
        cases i with
        | zero =>
          refine ⟨by simp only [List.getElem_cons_zero];omega,by simpa using hx.2,fun j hj _=>?_⟩
          cases j with
          | zero=>simp
          | succ j =>
            have:=(IH j (by simpa using hj)).2.1
            simpa using this
        | succ i =>
          have hi':i < l.length:=by simpa using hi
          obtain ⟨h1,h2,h3⟩:=IH i hi'
          refine ⟨by simp only [List.getElem_cons_succ];push_cast;omega,by simp only [List.getElem_cons_succ];omega,fun j hj hij=>?_⟩
          cases j with
          | zero=>omega
          | succ j =>
            have:=h3 j (by simpa using hj) (by omega)
            simpa using this
      · rw [if_neg hx] at h
        omega
    · rw [if_neg ho] at h
      omega
theorem row_span {l:List Rc} (h:rowN l = 0):∀ i (hi:i < l.length),l[i].1 = (l[0]'(by omega)).1 + i∧∀ j (hj:j < l.length),i≤j → l[i].2.1≤l[j].2.1:=by
  cases l with
  | nil=>intro i hi;simp at hi
  | cons r l =>
    unfold rowN rowFrom at h
    by_cases ho:okR r = true
    · rw [if_pos ho] at h
      dsimp only at h
      have IH:=row_chain r l h
      intro i hi
      cases i with
      | zero =>
        refine ⟨by simp,fun j hj _=>?_⟩
        cases j with
        | zero=>simp
        | succ j =>
          have:=(IH j (by simpa using hj)).2.1
          simpa using this
      | succ i =>
        obtain ⟨h1,h2,h3⟩:=IH i (by simpa using hi)
        refine ⟨by simp only [List.getElem_cons_succ,List.getElem_cons_zero];push_cast;omega,fun j hj hij=>?_⟩
        cases j with
        | zero=>omega
        | succ j =>
          have:=h3 j (by simpa using hj) (by omega)
          simpa using this
    · rw [if_neg ho] at h
      omega
end SkpW
end Go.Proofs.YtnpncpoiiikafaaGreatDoor
namespace Go.Proofs.YtnpncpoiiikafaaGreatDoor
open Go.RowKit
namespace RecW
set_option maxHeartbeats 1000000 in
theorem check_any (r:Rc) (v:Int) (hv:chkR r = v) (w:World) :
    Calls Tryz.prog 53 #[recv r] w fun e w'=>e = .returned (.int .i64 v)∧Below w.heap.size w w':=by
  obtain ⟨a,b,d⟩:=r
  have HV:=Lib.hid hv
  clear hv
  go_enter Tryz.func53,Tryz.ntmps53
  go_wp2
  all_goals
    go_ret
    refine ⟨ret_int ?_,(by first | exact Below.refl _ _ | (repeat (first | exact Below.refl _ _ | assumption | refine Below.drew ?_ | refine Below.drewN_ ?_ _ | refine Below.alloc ?_ (by first | exact Nat.le_refl _ | (simp;done) | (simp;omega) | omega) _ | refine Below.setCell ?_ (by first | exact Nat.le_refl _ | (simp;done) | (simp;omega) | omega) _ | (refine Below.trans ?_ (Below.mono (by assumption) (by first | exact Nat.le_refl _ | (simp;done) | (simp;omega) | omega))))))⟩
    rw [← HV.out]
    simp only [chkR,okR]
    simp [*]
    try omega
def putRN (r:Rc):List UInt8:=if okR r then putR r else []
end RecW
end Go.Proofs.YtnpncpoiiikafaaGreatDoor
namespace Go.Proofs.YtnpncpoiiikafaaGreatDoor
open Go.RowKit
namespace RecW
def rowAt (l:List Rc) (k:Nat):Int:=rowFrom (if k = 0 then none else l[k - 1]?) (l.drop k)
theorem rowAt_end (l:List Rc) (k:Nat) (h:l.length≤k):rowAt l k = 0:=by
  unfold rowAt
  rw [List.drop_of_length_le h]
  split <;> simp [rowFrom]
theorem rowAt_bad (l:List Rc) (k:Nat) (h:k < l.length) (hb:okR l[k] = false):rowAt l k = 150:=by
  unfold rowAt
  rw [List.drop_eq_getElem_cons h]
  split <;> simp [rowFrom,hb]
theorem rowAt_first (l:List Rc) (h:0 < l.length) (hb:okR l[0] = true):rowAt l 0 = rowAt l 1:=by
  unfold rowAt
  rw [List.drop_eq_getElem_cons h]
  simp [rowFrom,hb,List.getElem?_eq_getElem h]
theorem rowAt_next (l:List Rc) (j:Nat) (h:j + 1 < l.length) (hb:okR l[j + 1] = true) (hn:nextB (l[j]'(by omega)) l[j + 1] = true):rowAt l (j + 1) = rowAt l (j + 2):=by
  unfold rowAt
  rw [List.drop_eq_getElem_cons h,if_neg (by omega),if_neg (by omega)]
  simp only [Nat.add_sub_cancel,List.getElem?_eq_getElem (show j < l.length by omega),List.getElem?_eq_getElem h,show j + 2 - 1 = j + 1 from rfl]
  rw [rowFrom,hb]
  simp [hn]
theorem rowAt_order (l:List Rc) (j:Nat) (h:j + 1 < l.length) (hb:okR l[j + 1] = true) (hn:nextB (l[j]'(by omega)) l[j + 1] = false):rowAt l (j + 1) = 151:=by
  unfold rowAt
  rw [List.drop_eq_getElem_cons h,if_neg (by omega)]
  simp only [Nat.add_sub_cancel,List.getElem?_eq_getElem (show j < l.length by omega)]
  rw [rowFrom,hb]
  simp [hn]
theorem ok_one {l:List Rc} {k:Nat} {hk:k < l.length} (h:okR l[k] = true):∀ j (hj:j < l.length),j + 1 = k + 1 → okR l[j] = true:=by
  intro j hj e
  obtain rfl:j = k:=by omega
  exact h
set_option maxHeartbeats 2000000 in
theorem row_any (A:Option Addr) (n c:Nat) (l:List Rc) (w:World) (h:Rd w w.heap.size 3 A n (rcells l)) (hn:n≤9223372036854775807) :
    Calls Tryz.prog 29 #[.slice A n c] w fun e w'=>e = .returned (.int .i64 (rowN l))∧Below w.heap.size w w':=by
  have hl:=rd_rlen h
  have hl1:l.length≤n:=by omega
  have hl2:n≤l.length:=by omega
  clear hl
  go_enter Tryz.func29,Tryz.ntmps29
  go_wp2_with fail
  go_loopw [8] (fun i wr=>∃ k:Nat,k≤n∧i = .int .i64 k∧rowN l = rowAt l k∧(∀ j (hj:j < l.length),j + 1 = k → okR l[j] = true)∧Below w.heap.size w wr) (fun i _=>n - (intOf i).toNat)
  case atStart=>exact ⟨0,by omega,rfl,rfl,fun j _ h=>by omega,(by first | exact Below.refl _ _ | (repeat (first | exact Below.refl _ _ | assumption | refine Below.drew ?_ | refine Below.drewN_ ?_ _ | refine Below.alloc ?_ (by first | exact Nat.le_refl _ | (simp;done) | (simp;omega) | omega) _ | refine Below.setCell ?_ (by first | exact Nat.le_refl _ | (simp;done) | (simp;omega) | omega) _ | (refine Below.trans ?_ (Below.mono (by assumption) (by first | exact Nat.le_refl _ | (simp;done) | (simp;omega) | omega))))))⟩
  case round =>
    obtain ⟨k,hk,rfl,hrow,hprev,hbw⟩:=hrel
    have HR:=Lib.hid hrow
    have HP:=Lib.hid hprev
    have hsz:=hbw.size
    clear hrow hprev
    by_cases hlt:k < n
    · have hkl:k < l.length:=by omega
      obtain ⟨b,o,rfl,hb,hc⟩:=rd_recs (h.below hbw) (by omega)
      obtain ⟨c0,c1,c2⟩:=hc k hkl
      have HC:=Lib.hid hc
      clear hc
      by_cases hok:okR l[k] = true
      · have HCH:=Lib.hid (chkR_yes hok)
        have HOK:=Lib.hid hok
        clear hok
        go_wp2_with fail
        refine (check_any l[k] 0 HCH.out _).mono ?_
        rintro e w1 ⟨rfl,hb1⟩
        have HB1:Below w.heap.size w w1:=(Below.trans (by first | exact Below.refl _ _ | (repeat (first | exact Below.refl _ _ | assumption | refine Below.drew ?_ | refine Below.drewN_ ?_ _ | refine Below.alloc ?_ (by first | exact Nat.le_refl _ | (simp;done) | (simp;omega) | omega) _ | refine Below.setCell ?_ (by first | exact Nat.le_refl _ | (simp;done) | (simp;omega) | omega) _ | (refine Below.trans ?_ (Below.mono (by assumption) (by first | exact Nat.le_refl _ | (simp;done) | (simp;omega) | omega)))))) (Below.mono hb1 (by first | exact Nat.le_refl _ | (simp only [World.size_alloc,World.size_setCell,World.size_drew];omega) | (simp;done) | (simp;omega) | omega)))
        have g1:Blk w1 wr.heap.size 37 #[.int .i64 l[k].1,.int .i64 l[k].2.1,str l[k].2.2]:=Blk.below (by repeat (first | with_reducible assumption | exact Blk.new _ _ _ | (simpa using Blk.new _ _ _) | with_reducible apply Blk.drewN | with_reducible apply Blk.drew | with_reducible apply Blk.alloc)) hb1 (by first | exact Nat.le_refl _ | (simp only [World.size_alloc,World.size_setCell,World.size_drew];omega) | (simp;done) | (simp;omega) | omega)
        obtain ⟨d0,d1,d2,f0,f1,f2,z0⟩:=blk3 g1
        clear c0 c1 c2 hb1
        rcases Nat.eq_zero_or_pos k with rfl | hk0
        · go_wp2_with fail
          go_quiet (fail)
          go_wp2
          go_roundw
          case rel=>exact ⟨1,by omega,by first | rfl | go_num,by rw [HR.out,rowAt_first l hkl HOK.out],ok_one HOK.out,HB1.drewN_ _⟩
          case measure=>first | (simp [intOf];done) | (simp [intOf];omega)
        · obtain ⟨j,rfl⟩:∃ j,k = j + 1:=⟨k - 1,by omega⟩
          have hjl:j < l.length:=by omega
          have hokj:=HP.out j hjl rfl
          obtain ⟨e1,e2,_⟩:=(okR_iff _).1 hokj
          obtain ⟨b',o',hA,_,hc⟩:=rd_recs (h.below HB1) (by omega)
          simp only [Option.some.injEq,Addr.mk.injEq,and_true] at hA
          obtain ⟨rfl,rfl⟩:=hA
          obtain ⟨c0,c1,_⟩:=hc j hjl
          clear hc hokj
          have hw1:IntKind.i64.wrap (((j + 1:Nat):Int) - 1) = (j:Int):=by rw [show ((j + 1:Nat):Int) - 1 = (j:Int) by omega];exact IntWalk.i64_in _ (by omega)
          have hw2:IntKind.i64.wrap (l[j].1 + 1) = l[j].1 + 1:=IntWalk.i64_in _ (by omega)
          have hkp:(0:Int) < ((j + 1:Nat):Int):=by omega
          have hj0:(0:Int)≤(j:Int):=by omega
          have hjn:(j:Int) < (n:Int):=by omega
          by_cases hs:l[j + 1].1 = l[j].1 + 1
          · have hsI:(l[j + 1].1 != l[j].1 + 1) = false:=by simp [hs]
            have HS:=Lib.hid hs
            clear hs
            go_wp2_with fail
            go_quiet (fail)
            by_cases hd:l[j + 1].2.1 < l[j].2.1
            · have HD:=Lib.hid hd
              go_wp2
              go_ret
              exact ⟨ret_int (by rw [HR.out,rowAt_order l j hkl HOK.out];simp [nextB];have:=HD.out;omega),HB1.drewN_ _⟩
            · have HD:=Lib.hid hd
              go_wp2
              go_roundw
              case rel=>exact ⟨j + 2,by omega,by go_num,by rw [HR.out,rowAt_next l j hkl HOK.out];have:=HD.out;have:=HS.out;simp [nextB];omega,ok_one HOK.out,HB1.drewN_ _⟩
              case measure=>simp [intOf];omega
          · have hsI:(l[j + 1].1 != l[j].1 + 1) = true:=by simp [hs]
            have HS:=Lib.hid hs
            clear hs
            go_wp2_with fail
            go_quiet (fail)
            go_wp2
            go_ret
            exact ⟨ret_int (by rw [HR.out,rowAt_order l j hkl HOK.out];have:=HS.out;simp [nextB];omega),HB1.drewN_ _⟩
      · have hok':okR l[k] = false:=by simpa using hok
        have HCH:=Lib.hid (chkR_no hok')
        have HOK:=Lib.hid hok'
        clear hok hok'
        go_wp2_with fail
        refine (check_any l[k] 150 HCH.out _).mono ?_
        rintro e w1 ⟨rfl,hb1⟩
        have HB1:Below w.heap.size w w1:=(Below.trans (by first | exact Below.refl _ _ | (repeat (first | exact Below.refl _ _ | assumption | refine Below.drew ?_ | refine Below.drewN_ ?_ _ | refine Below.alloc ?_ (by first | exact Nat.le_refl _ | (simp;done) | (simp;omega) | omega) _ | refine Below.setCell ?_ (by first | exact Nat.le_refl _ | (simp;done) | (simp;omega) | omega) _ | (refine Below.trans ?_ (Below.mono (by assumption) (by first | exact Nat.le_refl _ | (simp;done) | (simp;omega) | omega)))))) (Below.mono hb1 (by first | exact Nat.le_refl _ | (simp only [World.size_alloc,World.size_setCell,World.size_drew];omega) | (simp;done) | (simp;omega) | omega)))
        go_wp2_with fail
        go_ret
        exact ⟨ret_int (by rw [HR.out,rowAt_bad l k hkl HOK.out]),HB1⟩
    · have hz:l.length≤k:=by omega
      go_wp2_with fail
      go_ret
      exact ⟨ret_int (by rw [HR.out,rowAt_end l k hz]),hbw⟩
def fewB (l:List Rc):Bool:=decide (l.length≤200) && l.all fun r=>decide (r.2.2.length≤3000)
set_option maxHeartbeats 1000000 in
theorem few_any (A:Option Addr) (n c:Nat) (l:List Rc) (v:Bool) (hv:fewB l = v) (w:World) (h:Rd w w.heap.size 3 A n (rcells l)) (hn:n≤9223372036854775807) (hd:∀ r ∈ l,r.2.2.length≤9223372036854775807) :
    Calls Tryz.prog 4 #[.slice A n c] w fun e w'=>e = .returned (.bool v)∧Below w.heap.size w w':=by
  subst hv
  have hl:=rd_rlen h
  have hl1:l.length≤n:=by omega
  have hl2:n≤l.length:=by omega
  clear hl
  have HD:=Lib.hid hd
  clear hd
  by_cases hbig:200 < n
  · have HV:=Lib.hid (show fewB l = false by simp [fewB];omega)
    go_enter Tryz.func4,Tryz.ntmps4
    go_wp2_with fail
    go_ret
    exact ⟨ret_bool HV.out.symm,(by first | exact Below.refl _ _ | (repeat (first | exact Below.refl _ _ | assumption | refine Below.drew ?_ | refine Below.drewN_ ?_ _ | refine Below.alloc ?_ (by first | exact Nat.le_refl _ | (simp;done) | (simp;omega) | omega) _ | refine Below.setCell ?_ (by first | exact Nat.le_refl _ | (simp;done) | (simp;omega) | omega) _ | (refine Below.trans ?_ (Below.mono (by assumption) (by first | exact Nat.le_refl _ | (simp;done) | (simp;omega) | omega))))))⟩
  · go_enter Tryz.func4,Tryz.ntmps4
    go_wp2_with fail
    go_loop [3] (fun i=>∃ k:Nat,k≤n∧i = .int .i64 k∧∀ r ∈ l.take k,r.2.2.length≤3000) (fun i=>n - (intOf i).toNat)
    case atStart=>exact ⟨0,by omega,rfl,by simp⟩
    case round =>
      obtain ⟨k,hk,rfl,hall⟩:=hrel
      have HA:=Lib.hid hall
      clear hall
      by_cases hlt:k < n
      · have hkl:k < l.length:=by omega
        obtain ⟨b,o,rfl,hb,hc⟩:=rd_recs h (by omega)
        obtain ⟨c0,c1,c2⟩:=hc k hkl
        have hd:=HD.out l[k] (List.getElem_mem hkl)
        clear hc
        by_cases hb:3000 < l[k].2.2.length
        · have HV:=Lib.hid (show fewB l = false by
            simp only [fewB,Bool.and_eq_false_iff,List.all_eq_false]
            exact .inr ⟨l[k],List.getElem_mem hkl,by simpa using hb⟩)
          go_wp2_with fail
          go_ret
          exact ⟨ret_bool HV.out.symm,(by first | exact Below.refl _ _ | (repeat (first | exact Below.refl _ _ | assumption | refine Below.drew ?_ | refine Below.drewN_ ?_ _ | refine Below.alloc ?_ (by first | exact Nat.le_refl _ | (simp;done) | (simp;omega) | omega) _ | refine Below.setCell ?_ (by first | exact Nat.le_refl _ | (simp;done) | (simp;omega) | omega) _ | (refine Below.trans ?_ (Below.mono (by assumption) (by first | exact Nat.le_refl _ | (simp;done) | (simp;omega) | omega))))))⟩
        · go_wp2_with fail
          go_round
          case rel =>
            refine ⟨k + 1,by omega,by go_num,?_⟩
            intro r hr
            rw [List.take_succ_eq_append_getElem hkl,List.mem_append] at hr
            rcases hr with hr | hr
            · exact HA.out r hr
            · simp only [List.mem_singleton] at hr
              subst hr
              omega
          case measure=>simp [intOf];omega
      · have HV:=Lib.hid (show fewB l = true by
          simp only [fewB,Bool.and_eq_true,List.all_eq_true,decide_eq_true_eq]
          refine ⟨by omega,fun r hr=>HA.out r ?_⟩
          rwa [List.take_of_length_le (by omega)])
        go_wp2_with fail
        go_ret
        exact ⟨ret_bool HV.out.symm,(by first | exact Below.refl _ _ | (repeat (first | exact Below.refl _ _ | assumption | refine Below.drew ?_ | refine Below.drewN_ ?_ _ | refine Below.alloc ?_ (by first | exact Nat.le_refl _ | (simp;done) | (simp;omega) | omega) _ | refine Below.setCell ?_ (by first | exact Nat.le_refl _ | (simp;done) | (simp;omega) | omega) _ | (refine Below.trans ?_ (Below.mono (by assumption) (by first | exact Nat.le_refl _ | (simp;done) | (simp;omega) | omega))))))⟩
end RecW
end Go.Proofs.YtnpncpoiiikafaaGreatDoor
namespace Go.Proofs.YtnpncpoiiikafaaGreatDoor
def flatR (l:List Rc):List UInt8:=(l.map putR).flatten
theorem flatR_snoc (l:List Rc) (k:Nat) (h:k < l.length):flatR (l.take (k + 1)) = flatR (l.take k) ++ putR l[k]:=by
  unfold flatR
  rw [List.take_succ_eq_append_getElem h,List.map_append,List.flatten_append]
  simp
theorem flatR_take (l:List Rc) (k:Nat):(flatR (l.take k)).length≤(flatR l).length:=by
  have:=congrArg (fun m=>(flatR m).length) (List.take_append_drop k l)
  simp only [flatR,List.map_append,List.flatten_append,List.length_append] at this
  simp only [flatR]
  omega
def joinV (l:List Rc):List UInt8 × Int:=if rowN l = 0 then (if 20000 < (flatR l).length then ([],3) else (flatR l,0)) else ([],rowN l)
theorem joinV_bad {l:List Rc} (h:rowN l ≠ 0):joinV l = ([],rowN l):=by unfold joinV;rw [if_neg h]
theorem joinV_big {l:List Rc} (h:rowN l = 0) (h2:20000 < (flatR l).length):joinV l = ([],3):=by unfold joinV;rw [if_pos h,if_pos h2]
theorem joinV_yes {l:List Rc} (h:rowN l = 0) (h2:¬ 20000 < (flatR l).length):joinV l = (flatR l,0):=by unfold joinV;rw [if_pos h,if_neg h2]
theorem joinV_bigAt {l:List Rc} {k:Nat} (h:rowN l = 0) (h2:20000 < (flatR (l.take k)).length):joinV l = ([],3):=joinV_big h (Nat.lt_of_lt_of_le h2 (flatR_take l k))
theorem putR_len {r:Rc} (h:okR r = true):3≤(putR r).length∧(putR r).length≤2027:=by
  have h1:=vlen_pos r.1.toNat
  have h2:=vlen_pos r.2.1.toNat
  have h3:=vlen_pos r.2.2.length
  have h4:=sizeN_yes h
  have h5:sizeN r = (putR r).length:=by unfold sizeN;rw [if_pos h]
  have:=sizeN_le r
  omega
end Go.Proofs.YtnpncpoiiikafaaGreatDoor
namespace Go.Proofs.YtnpncpoiiikafaaGreatDoor
namespace BloW
open SkpW (row_span)
structure Hd where
  mode:Int
  raw:Int
  cnt:Int
  frst:Int
  early:Int
  late:Int
  body:List UInt8
def hdZ:Hd:=⟨0,0,0,0,0,0,[]⟩
def moreV (e m:Int):Int:=if m≤1000000000∧e≤1000000000 then e + m else 9223372036854775807
def mayB (h:Hd):Bool:=decide (h.mode = 0 ∨ h.mode = 1) && (decide (h.raw≤20000∧1≤h.cnt∧h.cnt≤h.raw) && decide (1≤h.frst∧h.frst≤1000000001 - h.cnt∧h.early≤1000000000∧h.late≤1000000000))
def atI (l:List Int) (i:Nat):Int:=l[i]?.getD 0
def hdOf (b:List UInt8) (x:List Int × Int × Int):Hd:=⟨((b[0]?.getD 0).toNat:Int),atI x.1 0,atI x.1 1,atI x.1 2,atI x.1 3,moreV (atI x.1 3) (atI x.1 4),b.drop x.2.1.toNat⟩
def peekV (b:List UInt8):Hd × Int :=
  if b = [] then (hdZ,4) else
  if (numsV b 5 1).2.2 = 0 then (if mayB (hdOf b (numsV b 5 1)) = true then (hdOf b (numsV b 5 1),0) else (hdZ,170)) else (hdZ,(numsV b 5 1).2.2)
def numsB (l:List Rc) (raw:Nat):List Int:=[(raw:Int),(l.length:Int),(l[0]?.map (·.1)).getD 0,(l[0]?.map (·.2.1)).getD 0,(l[l.length - 1]?.map (·.2.1)).getD 0 - (l[0]?.map (·.2.1)).getD 0]
def encB (l:List Rc) (mode:UInt8) (body:List UInt8):List UInt8:=mode :: (lput (numsB l (flatR l).length) ++ body)
theorem row_facts {l:List Rc} (hr:rowN l = 0) (hl:0 < l.length):1≤(l[0]'hl).1∧(l[0]'hl).1 + l.length≤1000000001∧0≤(l[0]'hl).2.1∧(l[0]'hl).2.1≤(l[l.length - 1]'(by omega)).2.1∧(l[l.length - 1]'(by omega)).2.1≤1000000000:=by
  have h0:=(okR_iff _).1 (rowFrom_ok hr _ (List.getElem_mem hl))
  have h1:=(okR_iff _).1 (rowFrom_ok hr _ (List.getElem_mem (show l.length - 1 < l.length by omega)))
  obtain ⟨s1,_⟩:=row_span hr (l.length - 1) (by omega)
  have s4:=(row_span hr 0 hl).2 (l.length - 1) (by omega) (by omega)
  omega
theorem flat_len3 (l:List Rc) (h:∀ r ∈ l,okR r = true):l.length≤(flatR l).length:=by
  induction l with
  | nil=>simp
  | cons r l ih =>
    have h1:=putR_len (h r (List.mem_cons_self ..))
    have h2:=ih (fun x hx=>h x (List.mem_cons_of_mem _ hx))
    have e:flatR (r :: l) = putR r ++ flatR l:=by simp [flatR]
    rw [e,List.length_append,List.length_cons]
    omega
theorem nums_in {l:List Rc} (hr:rowN l = 0) (hl:0 < l.length) (hraw:(flatR l).length≤20000):∀ n ∈ numsB l (flatR l).length,0≤n∧n≤9223372036854775807:=by
  obtain ⟨f1,f2,f3,f4,f5⟩:=row_facts hr hl
  have hl2:l.length - 1 < l.length:=by omega
  have hlen:=flat_len3 l (rowFrom_ok hr)
  intro n hn
  simp only [numsB,List.getElem?_eq_getElem hl,List.getElem?_eq_getElem hl2,Option.map_some,Option.getD_some,List.mem_cons,List.not_mem_nil,or_false] at hn
  rcases hn with rfl | rfl | rfl | rfl | rfl <;> omega
theorem peek_enc {l:List Rc} (hr:rowN l = 0) (hl:0 < l.length) (hraw:(flatR l).length≤20000) (mode:UInt8) (hm:mode = 0 ∨ mode = 1) (body:List UInt8) :
    peekV (encB l mode body) = (⟨(mode.toNat:Int),((flatR l).length:Nat),(l.length:Nat),(l[0]'hl).1,(l[0]'hl).2.1,(l[l.length - 1]'(by omega)).2.1,body⟩,0):=by
  obtain ⟨f1,f2,f3,f4,f5⟩:=row_facts hr hl
  have hlen:=flat_len3 l (rowFrom_ok hr)
  have hl2:l.length - 1 < l.length:=by omega
  have hN:=numsV_put (numsB l (flatR l).length) (nums_in hr hl hraw) [mode] body
  have hlb:(numsB l (flatR l).length).length = 5:=rfl
  rw [hlb] at hN
  have hb:[mode] ++ (lput (numsB l (flatR l).length) ++ body) = encB l mode body:=rfl
  rw [hb] at hN
  have h1:(([mode]:List UInt8).length:Int) = 1:=rfl
  have hN':numsV (encB l mode body) 5 1 = (numsB l (flatR l).length,((1 + (lput (numsB l (flatR l).length)).length:Nat):Int),0):=by
    have:=hN
    simpa using this
  have hd:hdOf (encB l mode body) (numsB l (flatR l).length,((1 + (lput (numsB l (flatR l).length)).length:Nat):Int),0) = ⟨(mode.toNat:Int),((flatR l).length:Nat),(l.length:Nat),(l[0]'hl).1,(l[0]'hl).2.1,(l[l.length - 1]'(by omega)).2.1,body⟩:=by
    unfold hdOf
    have e0:atI (numsB l (flatR l).length) 0 = ((flatR l).length:Nat):=rfl
    have e1:atI (numsB l (flatR l).length) 1 = (l.length:Nat):=rfl
    have e2:atI (numsB l (flatR l).length) 2 = (l[0]'hl).1:=by simp [atI,numsB,List.getElem?_eq_getElem hl]
    have e3:atI (numsB l (flatR l).length) 3 = (l[0]'hl).2.1:=by simp [atI,numsB,List.getElem?_eq_getElem hl]
    have e4:atI (numsB l (flatR l).length) 4 = (l[l.length - 1]'hl2).2.1 - (l[0]'hl).2.1:=by simp [atI,numsB,List.getElem?_eq_getElem hl,List.getElem?_eq_getElem hl2]
    rw [e0,e1,e2,e3,e4]
    have e5:moreV (l[0]'hl).2.1 ((l[l.length - 1]'hl2).2.1 - (l[0]'hl).2.1) = (l[l.length - 1]'hl2).2.1:=by
      unfold moreV
      rw [if_pos ⟨by omega,by omega⟩]
      omega
    have e6:(encB l mode body)[0]?.getD 0 = mode:=rfl
    have e7:(encB l mode body).drop ((1 + (lput (numsB l (flatR l).length)).length:Nat):Int).toNat = body:=by
      rw [Int.toNat_natCast,Nat.add_comm]
      simp [encB]
    rw [e5,e6,e7]
  unfold peekV
  rw [if_neg (by simp [encB]),hN']
  dsimp only
  rw [if_pos rfl,hd,if_pos]
  have hmo:(mode.toNat:Int) = 0 ∨ (mode.toNat:Int) = 1:=by rcases hm with rfl | rfl <;> decide
  simp only [mayB,Bool.and_eq_true,decide_eq_true_eq]
  exact ⟨hmo,by omega,by omega⟩
end BloW
end Go.Proofs.YtnpncpoiiikafaaGreatDoor
namespace Go.Proofs.YtnpncpoiiikafaaGreatDoor
open Go.RowKit
namespace RecW
theorem results_row2 {P:Program} {fn:Func} {p u v:Tmp} {ty:TypeId} (h:fn.results = #[.cell p ty,.tmp u,.tmp v]) (tmps:Array Value) (w:World) (g:Nat) (t:TypeId) (cs:Array Value) (fr:Nat × Nat) (d:TypeDesc)
    (hp:tmps.getD p undef = .pointer (some ⟨g,0,none⟩)) (hg:w.heap[g]? = some (.cells cs t fr))
    (hu:P.underlying ty = some d) (hd:(match d with | .struct _ | .array _ _=>true | _=>false) = true) (hi:(P.info? ty).map (·.size) = some cs.size) :
    (results fn tmps).run P w = .ok (.tuple #[.agg cs,tmps.getD u undef,tmps.getD v undef]) w:=by
  have hp':tmps[p]?.getD undef = .pointer (some ⟨g,0,none⟩):=by simpa using hp
  simp [results,h,hp',asAddr,run_loadVar_row w g t ty cs fr d hg hu hd hi]
end RecW
end Go.Proofs.YtnpncpoiiikafaaGreatDoor
namespace Go.Proofs.YtnpncpoiiikafaaGreatDoor
open Go.RowKit
namespace RecW
def pre3 (a b c:Nat):Nat → List UInt8
  | 0=>[]
  | 1=>vbytes a
  | 2=>vbytes a ++ vbytes b
  | _=>vbytes a ++ vbytes b ++ vbytes c
def num3 (a b c:Nat):Nat → Nat
  | 0=>a
  | 1=>b
  | _=>c
theorem pre3_step (a b c k:Nat) (h:k < 3):pre3 a b c (k + 1) = pre3 a b c k ++ vbytes (num3 a b c k):=by
  have:k = 0 ∨ k = 1 ∨ k = 2:=by omega
  rcases this with rfl | rfl | rfl <;> simp [pre3,num3]
theorem pre3_len (a b c k:Nat):(pre3 a b c k).length≤27:=by
  have h1:=vlen_le a
  have h2:=vlen_le b
  have h3:=vlen_le c
  unfold pre3
  split <;> simp [vbytes_len] <;> omega
set_option maxRecDepth 100000 in
set_option maxHeartbeats 2000000 in
theorem putR_any (r:Rc) (w:World) :
    Calls Tryz.prog 30 #[recv r] w fun e w'=>e = .returned (.tuple #[str (putRN r),.int .i64 (chkR r)])∧Below w.heap.size w w':=by
  by_cases hok:okR r = true
  · have hch:=chkR_yes hok
    have HP:Hid (putRN r = vbytes r.1.toNat ++ (vbytes r.2.1.toNat ++ (vbytes r.2.2.length ++ r.2.2))):=by unfold putRN;rw [if_pos hok];rfl
    obtain ⟨h1,h2,h3,h4,h5⟩:=(okR_iff r).1 hok
    obtain ⟨a,b,d⟩:=r
    dsimp only at h1 h2 h3 h4 h5
    obtain ⟨a,rfl⟩:=Int.eq_ofNat_of_zero_le (show 0≤a by omega)
    obtain ⟨b,rfl⟩:=Int.eq_ofNat_of_zero_le h3
    have HC:=Lib.hid hch
    clear hch hok
    rw [HC.out]
    have i0:∀ w,(Instr.index 111 (.agg #[.int .i64 a,.int .i64 b,.int .i64 d.length]) (.int .i64 0)).run Tryz.prog w = .ok (.int .i64 a) w:=fun _=>by kernel_rfl
    have i1:∀ w,(Instr.index 111 (.agg #[.int .i64 a,.int .i64 b,.int .i64 d.length]) (.int .i64 1)).run Tryz.prog w = .ok (.int .i64 b) w:=fun _=>by kernel_rfl
    have i2:∀ w,(Instr.index 111 (.agg #[.int .i64 a,.int .i64 b,.int .i64 d.length]) (.int .i64 2)).run Tryz.prog w = .ok (.int .i64 d.length) w:=fun _=>by kernel_rfl
    go_enter Tryz.func30,Tryz.ntmps30
    go_wp2_with fail
    refine (check_any ((a:Int),(b:Int),d) 0 HC.out _).mono ?_
    rintro e w1 ⟨rfl,hb1⟩
    have HB:Below w.heap.size w w1:=(Below.trans (by first | exact Below.refl _ _ | (repeat (first | exact Below.refl _ _ | assumption | refine Below.drew ?_ | refine Below.drewN_ ?_ _ | refine Below.alloc ?_ (by first | exact Nat.le_refl _ | (simp;done) | (simp;omega) | omega) _ | refine Below.setCell ?_ (by first | exact Nat.le_refl _ | (simp;done) | (simp;omega) | omega) _ | (refine Below.trans ?_ (Below.mono (by assumption) (by first | exact Nat.le_refl _ | (simp;done) | (simp;omega) | omega)))))) (Below.mono hb1 (by first | exact Nat.le_refl _ | (simp only [World.size_alloc,World.size_setCell,World.size_drew];omega) | (simp;done) | (simp;omega) | omega)))
    have g1:Blk w1 w.heap.size 37 #[.int .i64 a,.int .i64 b,str d]:=Blk.below (by repeat (first | with_reducible assumption | exact Blk.new _ _ _ | (simpa using Blk.new _ _ _) | with_reducible apply Blk.drewN | with_reducible apply Blk.drew | with_reducible apply Blk.alloc)) hb1 (by first | exact Nat.le_refl _ | (simp only [World.size_alloc,World.size_setCell,World.size_drew];omega) | (simp;done) | (simp;omega) | omega)
    have g1':=g1
    obtain ⟨c0,c1,c2,f0,f1,f2,z0⟩:=blk3 g1'
    clear hb1 g1'
    go_wp2_with fail
    have hBl:=Bld.Bl.fresh w1
    have g2:=g1.alloc (.cells #[.pointer none,.slice none 0 0] 78)
    have HB2:=HB.alloc HB.size (.cells #[.pointer none,.slice none 0 0] 78)
    have zb:w.heap.size≤w1.heap.size:=HB.size
    obtain ⟨bb,hbb⟩:∃ bb,w1.heap.size = bb:=⟨_,rfl⟩
    rw [hbb] at hBl zb
    rw [hbb]
    have hz2:w1.heap.size + 1≤(w1.alloc (.cells #[.pointer none,.slice none 0 0] 78)).heap.size:=by simp
    generalize w1.alloc (.cells #[.pointer none,.slice none 0 0] 78) = w2 at *
    rw [hbb] at hz2
    have z0':w.heap.size < bb:=by omega
    clear c0 c1 c2 f0 f1 f2 g1 HB hbb
    go_loopw [23] (fun i wr=>∃ k:Nat,i = .int .i64 k∧k≤3∧Bld.Bl bb bb (pre3 a b d.length k) wr∧Blk wr w.heap.size 37 #[.int .i64 a,.int .i64 b,str d]∧Below w.heap.size w wr∧bb < wr.heap.size) (fun i _=>3 - (intOf i).toNat)
    case atStart=>exact ⟨0,rfl,by omega,hBl,g2,HB2,by omega⟩
    case round =>
      obtain ⟨k,rfl,hk,hBk,g3,hbw,hlt⟩:=hrel
      have hsz:=hbw.size
      have hpl:=pre3_len a b d.length k
      by_cases hk3:k < 3
      · have hstep:=pre3_step a b d.length k hk3
        obtain ⟨x,hx⟩:∃ x,num3 a b d.length k = x:=⟨_,rfl⟩
        rw [hx] at hstep
        have hi:(Instr.index 111 (.agg #[.int .i64 a,.int .i64 b,.int .i64 d.length]) (.int .i64 k)).run Tryz.prog wr = .ok (.int .i64 x) wr:=by
          have:k = 0 ∨ k = 1 ∨ k = 2:=by omega
          rcases this with rfl | rfl | rfl
          · rw [← hx];exact i0 _
          · rw [← hx];exact i1 _
          · rw [← hx];exact i2 _
        have hx2:x≤1000000000:=by
          have:k = 0 ∨ k = 1 ∨ k = 2:=by omega
          rcases this with rfl | rfl | rfl <;> (rw [← hx];simp only [num3];omega)
        have HS:=Lib.hid hstep
        have hv:=vlen_le x
        generalize pre3 a b d.length k = pk at *
        clear hstep hx i0 i1 i2
        go_wp2_with fail
        clear hi
        refine (VarW.put_yes x _ (by omega)).mono ?_
        rintro e w3 ⟨rfl,hb3⟩
        have hb4:=hbw.trans (hb3.mono hbw.size)
        have hB3:=hBk.below hb3
        have g4:=g3.below hb3 g3.lt
        have z3:=hb3.size
        clear hb3 hBk g3 hbw
        go_wp2_with fail
        refine (Bld.write_any bb bb pk (vbytes x) w3 hB3 (by rw [vbytes_len];omega) (by omega)).mono ?_
        rintro e w5 ⟨rfl,hB5,hb5⟩
        go_wp2_with fail
        go_roundw
        case rel=>exact ⟨k + 1,by go_num,by omega,by rw [HS.out];exact hB5,g4.below hb5 (by omega),hb4.trans (hb5.mono zb),hB5.lt⟩
        case measure=>simp [intOf];omega
      · obtain rfl:k = 3:=by omega
        clear i0 i1 i2
        obtain ⟨c0,c1,c2,f0,f1,f2,z0⟩:=blk3 g3
        go_wp2_with fail
        refine (Bld.write_any bb bb (pre3 a b d.length 3) d wr hBk (by omega) (by omega)).mono ?_
        rintro e w5 ⟨rfl,hB5,hb5⟩
        have hne:pre3 a b d.length 3 ++ d ≠ []:=by
          have:=vlen_pos a
          rw [← vbytes_len] at this
          have h2:1≤(pre3 a b d.length 3 ++ d).length:=by simp only [pre3,List.length_append];omega
          intro e
          rw [e] at h2
          simp at h2
        go_wp2_with fail
        refine (Bld.text_any bb bb _ w5 hB5 hne).mono ?_
        rintro e w6 ⟨rfl,hb6⟩
        go_wp2_with fail
        go_ret2
        refine ⟨?_,(hbw.trans (hb5.mono zb)).trans (hb6.mono zb)⟩
        rw [HP.out]
        simp [pre3]
  · have hn:okR r = false:=by simpa using hok
    have HC:=Lib.hid (chkR_no hn)
    have HP:=Lib.hid (show putRN r = [] by unfold putRN;rw [if_neg hok])
    clear hok hn
    rw [HC.out,HP.out]
    go_enter Tryz.func30,Tryz.ntmps30
    go_wp2_with fail
    refine (check_any r 150 HC.out _).mono ?_
    rintro e w1 ⟨rfl,hb1⟩
    go_wp2_with fail
    go_ret2
    exact ⟨rfl,(Below.trans (by first | exact Below.refl _ _ | (repeat (first | exact Below.refl _ _ | assumption | refine Below.drew ?_ | refine Below.drewN_ ?_ _ | refine Below.alloc ?_ (by first | exact Nat.le_refl _ | (simp;done) | (simp;omega) | omega) _ | refine Below.setCell ?_ (by first | exact Nat.le_refl _ | (simp;done) | (simp;omega) | omega) _ | (refine Below.trans ?_ (Below.mono (by assumption) (by first | exact Nat.le_refl _ | (simp;done) | (simp;omega) | omega)))))) (Below.mono hb1 (by first | exact Nat.le_refl _ | (simp only [World.size_alloc,World.size_setCell,World.size_drew];omega) | (simp;done) | (simp;omega) | omega)))⟩
end RecW
end Go.Proofs.YtnpncpoiiikafaaGreatDoor
