/- TabP -/
import Derived.Test.YtnpncpoiiikafaaGreatDoorLenBQs
import Derived.Test.YtnpncpoiiikafaaGreatDoorBitUQs
import Derived.Test.YtnpncpoiiikafaaGreatDoorLfIQs
import Derived.Test.YtnpncpoiiikafaaGreatDoorLenKQs
import Derived.Test.YtnpncpoiiikafaaGreatDoorCanXQs
import Derived.WalkMore
import Derived.ScopeJumps
import Derived.Deep.LoopGhost
set_option linter.unusedVariables false
set_option linter.unusedSimpArgs false
set_option linter.unnecessarySimpa false
namespace Go.Proofs.YtnpncpoiiikafaaGreatDoor
open Go.RowKit
namespace TabW
open LenW (okL okL_at chkL chk0)
open BitW (gam blen gam_len blen_facts cut cut_len cut_lt cut_app cut_one)
def addR:List (Int × Int) → Int → List (Int × Int)
  | [],x=>[(x,1)]
  | [(y,k)],x=>if y = x then [(y,k + 1)] else [(y,k),(x,1)]
  | p :: q :: r,x=>p :: addR (q :: r) x
def rle:List Int → List (Int × Int)
  | []=>[]
  | x :: l=>match rle l with
    | []=>[(x,1)]
    | (y,k) :: r=>if x = y then (y,k + 1) :: r else (x,1) :: (y,k) :: r
def conR (x:Int):List (Int × Int) → List (Int × Int)
  | []=>[(x,1)]
  | (y,k) :: r=>if x = y then (y,k + 1) :: r else (x,1) :: (y,k) :: r
theorem con_cons (x y k:Int) (r:List (Int × Int)):conR x ((y,k) :: r) = if x = y then (y,k + 1) :: r else (x,1) :: (y,k) :: r:=rfl
theorem rle_cons (x:Int) (l:List Int):rle (x :: l) = conR x (rle l):=by
  rw [rle]
  cases rle l with
  | nil=>rfl
  | cons p r=>rfl
theorem con_add (a x:Int) (R:List (Int × Int)):conR a (addR R x) = addR (conR a R) x:=by
  match R with
  | [] =>
    by_cases h:a = x
    · simp [addR,conR,h]
    · simp [addR,conR,h]
  | [(y,k)] =>
    by_cases h:y = x
    · subst h
      by_cases h2:a = y
      · subst h2;simp [addR,conR]
      · simp [addR,conR,h2]
    · by_cases h2:a = y
      · subst h2;simp [addR,conR,h]
      · simp [addR,conR,h,h2]
  | (y,k) :: q :: r =>
    by_cases h2:a = y
    · subst h2;simp [addR,conR]
    · simp [addR,conR,h2]
theorem rle_snoc (l:List Int) (x:Int):rle (l ++ [x]) = addR (rle l) x:=by
  induction l with
  | nil=>rfl
  | cons a l ih=>rw [List.cons_append,rle_cons,ih,con_add,← rle_cons]
theorem addR_last {R:List (Int × Int)} {j:Nat} {x k:Int} (hj:R.length = j + 1) (h:R[j]'(by omega) = (x,k)):addR R x = R.set j (x,k + 1):=by
  induction R generalizing j with
  | nil=>simp at hj
  | cons p R ih =>
    cases R with
    | nil =>
      obtain rfl:j = 0:=by simpa using hj
      simp at h
      subst h
      simp [addR]
    | cons q r =>
      obtain ⟨i,rfl⟩:∃ i,j = i + 1:=⟨j - 1,by simp only [List.length_cons] at hj;omega⟩
      rw [addR,ih (j:=i) (by simpa using hj) (by simpa using h)]
      rfl
theorem addR_new {R:List (Int × Int)} {x:Int} (h:∀ (j:Nat) (hj:R.length = j + 1),(R[j]'(by omega)).1 ≠ x):addR R x = R ++ [(x,1)]:=by
  induction R with
  | nil=>rfl
  | cons p R ih =>
    cases R with
    | nil =>
      obtain ⟨y,k⟩:=p
      have:y ≠ x:=h 0 rfl
      simp [addR,this]
    | cons q r =>
      rw [addR,ih (fun j hj=>by have:=h (j + 1) (by simpa using hj);simpa using this)]
      rfl
def expR (R:List (Int × Int)):List Int:=R.flatMap fun r=>List.replicate r.2.toNat r.1
theorem expR_con (x:Int) (R:List (Int × Int)) (h:∀ r ∈ R,0 < r.2):expR (conR x R) = x :: expR R:=by
  cases R with
  | nil=>rfl
  | cons p r =>
    obtain ⟨y,k⟩:=p
    have hk:0 < k:=h (y,k) (by simp)
    by_cases hx:x = y
    · subst hx
      simp only [conR,if_pos,expR,List.flatMap_cons]
      rw [show (k + 1).toNat = k.toNat + 1 by omega,List.replicate_succ]
      rfl
    · simp only [conR,if_neg hx,expR,List.flatMap_cons]
      rfl
theorem con_pos (x:Int) (R:List (Int × Int)) (h:∀ r ∈ R,0 < r.2):∀ r ∈ conR x R,0 < r.2:=by
  cases R with
  | nil=>intro r hr;simp [conR] at hr;subst hr;show (0:Int) < 1;decide
  | cons p R =>
    obtain ⟨y,k⟩:=p
    have hk:0 < k:=h (y,k) (by simp)
    have hR:∀ r ∈ R,0 < r.2:=fun r hr=>h r (by simp [hr])
    intro r hr
    rw [con_cons] at hr
    by_cases h2:x = y
    · rw [if_pos h2] at hr
      rcases List.mem_cons.1 hr with rfl | hr
      · show 0 < k + 1;omega
      · exact hR r hr
    · rw [if_neg h2] at hr
      rcases List.mem_cons.1 hr with rfl | hr
      · show (0:Int) < 1;decide
      · exact h r hr
theorem rle_pos (l:List Int):∀ r ∈ rle l,0 < r.2:=by
  induction l with
  | nil=>intro r hr;simp [rle] at hr
  | cons x l ih=>rw [rle_cons];exact con_pos x _ ih
theorem exp_rle (l:List Int):expR (rle l) = l:=by
  induction l with
  | nil=>rfl
  | cons x l ih=>rw [rle_cons,expR_con x _ (rle_pos l),ih]
theorem rle_mem (l:List Int):∀ r ∈ rle l,r.1 ∈ l∧r.2≤l.length:=by
  intro r hr
  have hp:=rle_pos l r hr
  have h1:∀ y ∈ List.replicate r.2.toNat r.1,y ∈ expR (rle l):=fun y hy=>List.mem_flatMap.2 ⟨r,hr,hy⟩
  rw [exp_rle] at h1
  refine ⟨h1 _ (by simp;omega),?_⟩
  have h2:(List.replicate r.2.toNat r.1).Sublist (expR (rle l)):=by
    obtain ⟨a,b,hab⟩:=List.append_of_mem hr
    rw [hab]
    unfold expR
    rw [List.flatMap_append,List.flatMap_cons]
    exact (List.sublist_append_left _ _).trans (List.sublist_append_right _ _)
  rw [exp_rle] at h2
  have:=h2.length_le
  rw [List.length_replicate] at this
  omega
theorem con_len (x:Int) (R:List (Int × Int)):(conR x R).length≤R.length + 1:=by
  cases R with
  | nil=>exact Nat.le_refl _
  | cons p R =>
    obtain ⟨y,k⟩:=p
    rw [con_cons]
    by_cases h:x = y
    · rw [if_pos h];simp
    · rw [if_neg h];simp
theorem rle_len (l:List Int):(rle l).length≤l.length:=by
  induction l with
  | nil=>exact Nat.le_refl _
  | cons x l ih =>
    rw [rle_cons,List.length_cons]
    have:=con_len x (rle l)
    omega
def runB (r:Int × Int):List Nat:=dg 4 r.1.toNat ++ gam r.2.toNat
def runsB (R:List (Int × Int)):List Nat:=R.flatMap runB
def tabB (l:List Int):List Nat:=runsB (rle l)
theorem runsB_app (a b:List (Int × Int)):runsB (a ++ b) = runsB a ++ runsB b:=by simp [runsB]
theorem runsB_snoc (R:List (Int × Int)) (k:Nat) (h:k < R.length):runsB (R.take (k + 1)) = runsB (R.take k) ++ runB R[k]:=by
  rw [List.take_succ_eq_append_getElem h,runsB_app]
  simp [runsB]
def goodR (r:Int × Int):Prop:=0≤r.1∧r.1≤15∧1≤r.2∧r.2≤257
theorem rle_good {l:List Int} (hk:chkL l = 0):∀ r ∈ rle l,goodR r:=by
  intro r hr
  obtain ⟨h257,hok,_⟩:=chk0 hk
  obtain ⟨h1,h2⟩:=rle_mem l r hr
  have h3:=rle_pos l r hr
  obtain ⟨i,hi,he⟩:=List.getElem_of_mem h1
  have:=okL_at l i hi hok
  rw [he] at this
  exact ⟨this.1,this.2,by omega,by omega⟩
theorem runB_len {r:Int × Int} (h:goodR r):(runB r).length≤67:=by
  obtain ⟨h1,h2,h3,h4⟩:=h
  have:=gam_len (x:=r.2.toNat) (by omega) (by omega)
  unfold runB
  rw [List.length_append,dg_len]
  omega
theorem runsB_len (R:List (Int × Int)) (h:∀ r ∈ R,goodR r):(runsB R).length≤67 * R.length:=by
  induction R with
  | nil=>simp [runsB]
  | cons r R ih =>
    have h1:=runB_len (h r (by simp))
    have h2:=ih (fun r hr=>h r (by simp [hr]))
    have e:runsB (r :: R) = runB r ++ runsB R:=by simp [runsB]
    rw [e,List.length_append,List.length_cons]
    omega
end TabW
end Go.Proofs.YtnpncpoiiikafaaGreatDoor
namespace Go.Proofs.YtnpncpoiiikafaaGreatDoor
open Go.RowKit
namespace TabW
open LenW (okL okL_at chkL chk0)
open BitW (gam blen gam_len blen_facts cut cut_len cut_lt cut_app cut_one)
end TabW
end Go.Proofs.YtnpncpoiiikafaaGreatDoor
namespace Go.Proofs.YtnpncpoiiikafaaGreatDoor
open Go.RowKit
namespace HufW
open LenW (chkL okL usedL sumL bestW refuseW badN Ranked ranked_at best_ranked symsB symsOk wordV Vs wd Vs_iff wordV_V)
open TabW (tabB rle rle_len)
def ctsL (r:List Int):List Int:=(List.range 257).map fun s:Nat=>((r.count (s:Int):Nat):Int)
def badS (x:Int):Bool:=decide (x < 0) || decide (256 < x)
def ctsV (r:List Int):List Int × Int:=if 100000 < r.length then ([],3) else if r.any badS = true then ([],70) else (ctsL r,0)
theorem ctsL_len (r:List Int):(ctsL r).length = 257:=by simp [ctsL]
theorem ctsL_at (r:List Int) (s:Nat) (h:s < (ctsL r).length):(ctsL r)[s] = ((r.count (s:Int):Nat):Int):=by simp [ctsL]
theorem ctsL_nil:ctsL [] = List.replicate 257 0:=by
  apply List.ext_getElem
  · rw [ctsL_len,List.length_replicate]
  · intro i h1 h2
    rw [ctsL_at,List.getElem_replicate]
    rfl
theorem ctsL_snoc (r:List Int) (x:Nat) (hx:x < 257):ctsL (r ++ [(x:Int)]) = (ctsL r).set x (((r.count (x:Int):Nat):Int) + 1):=by
  apply List.ext_getElem
  · simp [ctsL]
  · intro i h1 h2
    rw [ctsL_at,List.getElem_set]
    by_cases e:x = i
    · subst e
      rw [if_pos rfl,List.count_append]
      simp
    · rw [if_neg e,ctsL_at,List.count_append,List.count_singleton]
      have:((x:Int) == (i:Int)) = false:=by simp only [beq_eq_false_iff_ne];omega
      rw [this]
      simp
theorem badS_false {x:Int} (h:badS x = false):0≤x∧x≤256:=by
  unfold badS at h
  simp at h
  omega
theorem any_false {r:List Int} (h:r.any badS = false):∀ x ∈ r,0≤x∧x≤256:=by
  intro x hx
  refine badS_false ?_
  rw [Bool.eq_false_iff]
  intro e
  rw [List.any_eq_true.2 ⟨x,hx,e⟩] at h
  cases h
theorem usedL_257 (r:List Int):usedL (ctsL r)≤257:=by
  have:=LenW.usedL_le (ctsL r)
  rw [ctsL_len] at this
  exact this
theorem cts_good (r:List Int) (h:r.length≤100000):(ctsL r).any badN = false:=by
  rw [Bool.eq_false_iff]
  intro e
  obtain ⟨x,hx,hb⟩:=List.any_eq_true.1 e
  obtain ⟨i,hi,rfl⟩:=List.getElem_of_mem hx
  rw [ctsL_at] at hb
  have:=List.count_le_length (a:=(i:Int)) (l:=r)
  unfold badN at hb
  simp at hb
  omega
theorem refuse_cts (r:List Int) (h:r.length≤100000):refuseW (ctsL r) 15 = 0:=by
  have h1:=cts_good r h
  have h2:=usedL_257 r
  unfold refuseW
  rw [ctsL_len,if_neg (by omega),if_neg,if_neg]
  · show ¬ 2 ^ (15:Int).toNat < _
    have:2 ^ (15:Int).toNat = 32768:=by decide
    omega
  · rintro (e | e | e)
    · omega
    · omega
    · rw [LenW.refuseW_any,h1] at e;cases e
def bL (r:List Int):List Int:=bestW (ctsL r) 15
theorem bL_ranked (r:List Int) (h:r.length≤100000):∃ lam,Ranked (ctsL r) (bL r) 15 lam∧chkL (bL r) = 0:=best_ranked (refuse_cts r h)
theorem bL_len (r:List Int) (h:r.length≤100000):(bL r).length = 257:=by
  obtain ⟨lam,hr,_⟩:=bL_ranked r h
  rw [hr.len,ctsL_len]
theorem bL_chk (r:List Int) (h:r.length≤100000):chkL (bL r) = 0:=by
  obtain ⟨_,_,hc⟩:=bL_ranked r h
  exact hc
theorem bL_at (r:List Int) (h:r.length≤100000) (s:Nat) (hs:s < 257):∃ x:Nat,(bL r)[s]? = some (x:Int)∧x≤15∧((s:Int) ∈ r → 1≤x)∧((s:Int) ∉ r → x = 0):=by
  obtain ⟨lam,hr,_⟩:=bL_ranked r h
  have hl:=ctsL_len r
  rcases ranked_at hr s (by omega) with ⟨k,_,hp,_,hx,h1,h2⟩ | ⟨hp,hx⟩
  · refine ⟨lam k,hx,h2,fun _=>h1,fun hn=>?_⟩
    rw [ctsL_at,List.count_eq_zero_of_not_mem hn] at hp
    omega
  · refine ⟨0,hx,by omega,fun hm=>?_,fun _=>rfl⟩
    rw [ctsL_at] at hp
    have:=List.count_pos_iff.2 hm
    omega
theorem bL_word (r:List Int) (h:r.length≤100000) (hb:r.any badS = false) (x:Int) (hx:x ∈ r):(wordV (bL r) x).2 = 0:=by
  obtain ⟨h0,h1⟩:=any_false hb x hx
  obtain ⟨s,rfl⟩:∃ s:Nat,x = (s:Int):=⟨x.toNat,by omega⟩
  obtain ⟨y,hy,_,h3,_⟩:=bL_at r h s (by omega)
  obtain ⟨hlt,he⟩:=List.getElem?_eq_some_iff.1 hy
  have:=h3 hx
  exact Vs_iff.2 ⟨hlt,by rw [he];omega⟩
theorem bL_ok (r:List Int) (h:r.length≤100000) (hb:r.any badS = false):symsOk (bL r) r = true:=by
  unfold LenW.symsOk
  rw [List.all_eq_true]
  intro x hx
  exact decide_eq_true (bL_word r h hb x hx)
def hufB (r:List Int):List Nat:=tabB (bL r) ++ symsB (bL r) r
def encV (r:List Int):List UInt8 × Int:=if (ctsV r).2 = 0 then (textB (hufB r),0) else ([],(ctsV r).2)
theorem ctsV_cases (r:List Int):(ctsV r = ([],3)∧100000 < r.length) ∨ (ctsV r = ([],70)∧r.length≤100000∧r.any badS = true) ∨ (ctsV r = (ctsL r,0)∧r.length≤100000∧r.any badS = false):=by
  unfold ctsV
  by_cases h:100000 < r.length
  · exact .inl ⟨if_pos h,h⟩
  · rw [if_neg h]
    cases hb:r.any badS
    · exact .inr (.inr ⟨if_neg (by simp),by omega,rfl⟩)
    · exact .inr (.inl ⟨if_pos rfl,by omega,rfl⟩)
end HufW
end Go.Proofs.YtnpncpoiiikafaaGreatDoor
namespace Go.Proofs.YtnpncpoiiikafaaGreatDoor
open Go.RowKit
namespace TabW
open LenW (okL okL_at chkL chk0 check_any fcells_at fcells_set)
open BitW (gam gamB Wr Wfr Fresh Puts Put_yes Gamma_yes text_any)
theorem El_run:El Tryz.prog 158 161 2 16:=El.mk' Tryz.underlying158 (z:=.agg #[.int .i64 0,.int .i64 0]) (by kernel_rfl) rfl (by decide)
theorem fcells_one (l:List (Int × Int)):∀ u ∈ fcells l,u.oneCell' = true:=by
  intro u hu
  obtain ⟨r,_,hr⟩:=List.mem_flatMap.1 hu
  simp at hr
  rcases hr with rfl | rfl <;> rfl
theorem fcells_app (a b:List (Int × Int)):fcells (a ++ b) = fcells a ++ fcells b:=by simp [fcells]
theorem rle_step (l:List Int) (k:Nat) (h:k < l.length):rle (l.take (k + 1)) = addR (rle (l.take k)) l[k]:=by rw [List.take_succ_eq_append_getElem h,rle_snoc]
theorem rle_take_len (l:List Int) (k:Nat):(rle (l.take k)).length≤k:=by have:=rle_len (l.take k);rw [List.length_take] at this;omega
theorem set_same {α:Type} (l:List α) (i:Nat) (v:α) (h:l[i]? = some v):l.set i v = l:=by
  obtain ⟨hi,rfl⟩:=List.getElem?_eq_some_iff.1 h
  exact List.set_getElem_self hi
theorem cells_bump (R:List (Int × Int)) (i:Nat) (x q:Int) (h:R[i]? = some (x,q)):(fcells R).set (i * 2 + 1) (.int .i64 (q + 1)) = fcells (R.set i (x,q + 1)):=by
  obtain ⟨hi,hq⟩:=List.getElem?_eq_some_iff.1 h
  obtain ⟨c0,c1⟩:=fcells_at R i hi
  rw [fcells_set R i hi,set_same _ (i * 2) _ (by simpa [hq] using c0)]
theorem rle_small (l:List Int) (k i:Nat) (x q:Int) (h:(rle (l.take k))[i]? = some (x,q)):0≤q∧q≤(k:Int):=by
  have hm:=List.mem_of_getElem? h
  have h1:=rle_pos _ _ hm
  have h2:=(rle_mem _ _ hm).2
  rw [List.length_take] at h2
  dsimp only at h1 h2
  omega
set_option maxRecDepth 100000 in
set_option maxHeartbeats 4000000 in
theorem runs_any (A:Option Addr) (n c:Nat) (l:List Int) (w:World) (h:Rd w w.heap.size 1 A n (ints l)) (hn:n≤1000) :
    Calls Tryz.prog 89 #[.slice A n c] w fun e w'=>∃ A2 n2 c2,e = .returned (.slice A2 n2 c2)∧n2≤n∧Own w' w.heap.size 161 2 A2 n2 c2 (fcells (rle l))∧Below w.heap.size w w':=by
  have hl:l.length = n:=rd_len h
  go_enter Tryz.func89,Tryz.ntmps89
  go_wp2_with fail
  go_step3
  go_wp2_with fail
  go_step3
  go_wp2_with fail
  go_loopw [3,9] (fun out i wr=>∃ (k j c2:Nat) (A2:Option Addr),i = .int .i64 k∧out = .slice A2 j c2∧k≤n∧(rle (l.take k)).length = j∧Own wr w.heap.size 161 2 A2 j c2 (fcells (rle (l.take k)))∧Below w.heap.size w wr) (fun _ i _=>n - (intOf i).toNat)
  case atStart=>exact ⟨0,0,0,none,rfl,rfl,by omega,by simp [rle],by simpa [rle,fcells] using Own.nil _ _ _ _,Below.refl _ _⟩
  case round =>
    obtain ⟨k,j,c2,A2,rfl,rfl,hk,hj,o2,hbw⟩:=hrel
    have hsz:=hbw.size
    by_cases hlt:k < n
    · have hkl:k < l.length:=by omega
      obtain ⟨b,o,rfl,hb,hc⟩:=rd_ints (h.below hbw) (by omega)
      have d0:wr.cell? ⟨b,o + k,none⟩ = some (.int .i64 l[k]):=hc k hkl
      have HS:=Lib.hid (rle_step l k hkl)
      have hjk:=rle_take_len l k
      rw [hj] at hjk
      obtain ⟨x,hx⟩:∃ x,l[k] = x:=⟨_,rfl⟩
      rw [hx] at d0 HS
      have hsm:=rle_small l k
      obtain ⟨R,hR⟩:∃ R,rle (l.take k) = R:=⟨_,rfl⟩
      rw [hR] at hj o2 HS hsm
      clear hc hx hR
      by_cases hlast:∃ i q,j = i + 1∧R[i]? = some (x,q)
      · obtain ⟨i,q,rfl,hq⟩:=hlast
        have hq0:=hsm i x q hq
        have HCS:=Lib.hid (cells_bump R i x q hq)
        obtain ⟨hi,hq⟩:=List.getElem?_eq_some_iff.1 hq
        have hA:=addR_last (x:=x) (k:=q) hj hq
        have HA:=Lib.hid (show rle (l.take (k + 1)) = R.set i (x,q + 1) by rw [HS.out,hA])
        obtain ⟨g,rfl⟩:∃ g,A2 = some ⟨g,0,none⟩:=by
          rcases o2.shape with ⟨_,h0,_⟩ | ⟨g,e,_⟩
          · omega
          · exact ⟨g,e⟩
        obtain ⟨c0,c1⟩:=fcells_at R i hi
        rw [hq] at c0 c1
        have e0:=own_cell o2 _ (by simpa using c0)
        have e1:=own_cell o2 _ (by simpa using c1)
        have fz:=own_thaw o2 (i * 2 + 1)
        have hgb:=(o2.blk g rfl).1
        clear c0 c1 hq hA hsm
        have hi0:(0:Int)≤(i:Int):=by omega
        have hi1:((i + 1:Nat):Int) - 1 = (i:Int):=by omega
        have hi2:(i:Int) + 1 - 1 = (i:Int):=by omega
        go_wp2_with fail
        go_roundw
        case rel=>exact ⟨k + 1,i + 1,c2,some ⟨g,0,none⟩,by go_num,rfl,by omega,by rw [HA.out];simpa using hj,by rw [HA.out,← HCS.out];exact o2.set _,hbw.setCell (p:=⟨g,i * 2 + 1,none⟩) hgb _⟩
        case measure=>simp [intOf];omega
      · have hA:=addR_new (R:=R) (x:=x) (fun i hi e=>hlast ⟨i,(R[i]'(by omega)).2,by omega,by rw [List.getElem?_eq_getElem (by omega),← e]⟩)
        have HA:=Lib.hid (show rle (l.take (k + 1)) = R ++ [(x,1)] by rw [HS.out,hA])
        have hrn:Rd (wr.alloc (.cells #[.int .i64 x,.int .i64 1] 161)) (wr.heap.size + 1) 2 (some ⟨wr.heap.size,0,none⟩) 1 (fcells [(x,1)]):=rd_new (W0:=wr) (t:=161) (cs:=fcells [(x,1)]) (size:=2) (m:=1) rfl rfl
        clear hA hsm
        by_cases hj0:j = 0
        · subst hj0
          clear hlast
          go_wp2_with (at_builtin;with_reducible refine wp_append El_run rfl (s:=.tmp 35) (x:=.tmp 38) rfl rfl (o2.alloc _) rfl hrn (fcells_one _) (by unfold maxLen;omega) (by omega) (by simp;omega) ?_;intro A4 c4 w4 o4 hg4 hat4;have hbX:=below_grown (hbw.alloc hsz (.cells #[.int .i64 x,.int .i64 1] 161)) hg4 (o2.alloc _) (Nat.le_refl _))
          rw [← fcells_app] at o4
          go_roundw
          case rel=>exact ⟨k + 1,0 + 1,c4,A4,by go_num,rfl,by omega,by rw [HA.out];simp [hj],by rw [HA.out];exact o4,hbX⟩
          case measure=>simp [intOf];omega
        · obtain ⟨i,rfl⟩:∃ i,j = i + 1:=⟨j - 1,by omega⟩
          obtain ⟨g,rfl⟩:∃ g,A2 = some ⟨g,0,none⟩:=by
            rcases o2.shape with ⟨_,h0,_⟩ | ⟨g,e,_⟩
            · omega
            · exact ⟨g,e⟩
          have hi:i < R.length:=by omega
          obtain ⟨c0,c1⟩:=fcells_at R i hi
          have e0:=own_cell o2 _ (by simpa using c0)
          have hne:¬ R[i].1 = x:=fun e=>hlast ⟨i,R[i].2,rfl,by rw [List.getElem?_eq_getElem hi,← e]⟩
          obtain ⟨y,hy⟩:∃ y,R[i].1 = y:=⟨_,rfl⟩
          rw [hy] at e0 hne
          have hneI:(y == x) = false:=by simpa using hne
          have hneD:decide (y = x) = false:=by simpa using hne
          have hi0:(0:Int)≤(i:Int):=by omega
          clear c0 c1 hy hlast hj0
          go_wp2_with (at_builtin;with_reducible refine wp_append El_run rfl (s:=.tmp 35) (x:=.tmp 38) rfl rfl (o2.alloc _) rfl hrn (fcells_one _) (by unfold maxLen;omega) (by omega) (by simp;omega) ?_;intro A4 c4 w4 o4 hg4 hat4;have hbX:=below_grown (hbw.alloc hsz (.cells #[.int .i64 x,.int .i64 1] 161)) hg4 (o2.alloc _) (Nat.le_refl _))
          rw [← fcells_app] at o4
          go_roundw
          case rel=>exact ⟨k + 1,i + 1 + 1,c4,A4,by go_num,rfl,by omega,by rw [HA.out];simp [hj],by rw [HA.out];exact o4,hbX⟩
          case measure=>simp [intOf];omega
    · obtain rfl:k = n:=by omega
      have HL:=Lib.hid (show l.take k = l by rw [← hl,List.take_length])
      rw [HL.out] at o2 hj
      have:=rle_len l
      go_wp2_with fail
      try rw [Exit.noGoto_ret]
      go_ret
      exact ⟨A2,j,c2,rfl,by omega,o2,hbw⟩
end TabW
end Go.Proofs.YtnpncpoiiikafaaGreatDoor
namespace Go.Proofs.YtnpncpoiiikafaaGreatDoor
open Go.RowKit
namespace TabW
open LenW (okL okL_at chkL chk0 check_any fcells_at fcells_set wfr_pre)
open BitW (gam gamB Wr Wfr Fresh Puts Put_yes Gamma_yes text_any)
theorem own_same {w w':World} {base e size n c:Nat} {A:Option Addr} {xs:List Value} (h:Own w base e size A n c xs) (hk:∀ k,blkOf A = some k → w'.heap[k]? = w.heap[k]?):Own w' base e size A n c xs:=by
  refine ⟨h.1,?_⟩
  rcases h.2 with h2 | ⟨g,cap,cur,hv,hg,hb,r⟩
  · exact .inl h2
  · refine .inr ⟨g,cap,cur,hv,hg,?_,r⟩
    simp only [Value.slice.injEq] at hv
    obtain ⟨rfl,_,rfl⟩:=hv
    rw [hk g rfl]
    exact hb
theorem wr_own {w:World} {base g:Nat} {ab:Option Nat} {l:List Nat} (h:Wr w base g ab l):∀ k,ab = some k → base≤k∧k < w.heap.size:=by
  obtain ⟨⟨A,nb,c,bs,r,k',bG,o,hab,_⟩,_⟩:=h
  intro k hk
  rw [← hab] at hk
  exact o.blk k hk
theorem wr_lt {w:World} {base g:Nat} {ab:Option Nat} {l:List Nat} (h:Wr w base g ab l):g < w.heap.size:=by
  obtain ⟨⟨A,nb,c,bs,r,k',bG,o,hab,_⟩,_⟩:=h
  exact bG.lt
theorem good_fits {r:Int × Int} (h:goodR r):BitW.Wr = BitW.Wr∧fitsB r.1 4 = true∧gamB r.2 = true∧I64 r.1∧I64 r.2:=by
  obtain ⟨h1,h2,h3,h4⟩:=h
  refine ⟨rfl,?_,?_,by unfold I64;omega,by unfold I64;omega⟩
  · unfold fitsB
    simp
    omega
  · unfold gamB fitsB
    simp
    omega
set_option maxRecDepth 100000 in
set_option maxHeartbeats 4000000 in
theorem tput_yes (base gw:Nat) (ab:Option Nat) (L:List Nat) (A:Option Addr) (n c:Nat) (l:List Int) (w:World) (h:Rd w w.heap.size 1 A n (ints l)) (hn:n≤1000000) (hk:chkL l = 0) (hW:Wr w base gw ab L) (hL:L.length≤800000) (hbs:base≤w.heap.size) :
    Calls Tryz.prog 60 #[.pointer (some ⟨gw,0,none⟩),.slice A n c] w fun e w'=>e = .returned (.int .i64 0)∧∃ ab',Puts w w' base gw ab (L ++ tabB l) ab':=by
  have C:=check_any A n c l w h hn 0 hk
  have hl:l.length = n:=rd_len h
  have h257:=(chk0 hk).1
  have C2:=runs_any A n c l w h (by omega)
  have hgood:=rle_good hk
  have hrl:=rle_len l
  go_enter Tryz.func60,Tryz.ntmps60
  go_wp2_with fail
  refine C.mono ?_
  clear C
  rintro e w1 ⟨rfl,rfl⟩
  go_wp2_with fail
  refine C2.mono ?_
  clear C2
  rintro e w2 ⟨A2,n2,c2,rfl,hn2,o2,hb2⟩
  have hW2:Wr w2 base gw ab L:=LenW.Wr.low hW hb2
  have hsz2:=hb2.size
  have hgw:=wr_lt hW
  have hab:=wr_own hW
  have hr2:(rle l).length = n2:=by have:=o2.len;rw [fcells_len] at this;omega
  have HTB:=Lib.hid (show tabB l = runsB (rle l) from rfl)
  generalize rle l = R at *
  go_wp2_with fail
  go_loopw [18] (fun i wr=>∃ (k:Nat) (ab':Option Nat),i = .int .i64 k∧k≤n2∧Wr wr base gw ab' (L ++ runsB (R.take k))∧Fresh w2 ab ab'∧Wfr w2 wr gw ab) (fun i _=>n2 - (intOf i).toNat)
  case atStart=>exact ⟨0,ab,rfl,by omega,by simpa [runsB] using hW2,Fresh.refl _ _,Wfr.refl _ _ _⟩
  case round =>
    obtain ⟨k,ab',rfl,hkn,hWr,hfr,hwf⟩:=hrel
    clear hW2
    have hsz:=hwf.size
    by_cases hlt:k < n2
    · have hkR:k < R.length:=by omega
      have hgd:=hgood R[k] (List.getElem_mem hkR)
      have HS:=Lib.hid (runsB_snoc R k hkR)
      have hRl:=runsB_len (R.take k) (fun r hr=>hgood r (List.mem_of_mem_take hr))
      rw [List.length_take] at hRl
      have ow:Own wr w1.heap.size 161 2 A2 n2 c2 (fcells R):=own_same o2 (fun b hb=>by
        obtain ⟨q1,q2⟩:=o2.blk b hb
        exact hwf.block b q2 (by omega) (fun e=>by have:=hab b e;omega))
      obtain ⟨b,o,rfl,hb,hc⟩:=rd_fcells ow.rd (by omega)
      obtain ⟨d0,d1⟩:=hc k hkR
      obtain ⟨_,hf1,hf2,h64a,h64b⟩:=good_fits hgd
      obtain ⟨⟨x,q⟩,hx⟩:∃ z,R[k] = z:=⟨_,rfl⟩
      rw [hx] at d0 d1 hf1 hf2 h64a h64b HS
      dsimp only at d0 d1 hf1 hf2 h64a h64b
      have hki:(k:Int) < (n2:Int):=by omega
      have hk0:(0:Int)≤(k:Int):=by omega
      clear hc hx hgd
      have hB1:Below wr.heap.size wr (wr.alloc (.cells #[.int .i64 x,.int .i64 q] 161)):=(Below.refl _ wr).alloc (Nat.le_refl _) _
      have hWa:=LenW.Wr.low hWr hB1
      have bx:=Blk.new wr 161 #[.int .i64 x,.int .i64 q]
      have bx':=bx
      obtain ⟨x0,x1,_,_,_⟩:=blk2 bx'
      have hwlt:=wr_lt hWr
      have hwo:=wr_own hWr
      have C:=Put_yes base gw ab' _ x 4 _ hf1 h64a hWa (by rw [List.length_append];omega) (by simp;omega)
      clear hf1 bx'
      go_wp2_with fail
      refine C.mono ?_
      clear C
      rintro e w3 ⟨rfl,ab3,hP3⟩
      have bx3:Blk w3 wr.heap.size 161 #[.int .i64 x,.int .i64 q]:=(hP3.frame.block wr.heap.size (by simp) (by omega) (fun e=>by have:=(hwo _ e).2;omega)).trans bx
      have hz3:=hP3.frame.size
      rw [World.size_alloc] at hz3
      clear x0 x1
      obtain ⟨x0,x1,_,_,_⟩:=blk2 bx3
      have C:=Gamma_yes base gw ab3 _ q w3 hf2 h64b hP3.wr (by simp only [List.length_append,dg_len];have:(4:Int).toNat = 4:=rfl;omega) (by omega)
      clear hf2
      go_wp2_with fail
      refine C.mono ?_
      clear C
      rintro e w4 ⟨rfl,ab4,hP4⟩
      have hz4:=hP4.frame.size
      have f3:Fresh wr ab' ab3:=by
        rcases hP3.fresh with q | ⟨k,q,q2⟩
        · exact .inl q
        · exact .inr ⟨k,q,by simp at q2;omega⟩
      have g3:Wfr wr w3 gw ab':=wfr_pre hB1 hP3.frame
      have g4:Wfr wr w4 gw ab':=g3.trans hP4.frame f3
      have f4:Fresh wr ab' ab4:=f3.trans hP4.fresh (by omega)
      go_wp2_with fail
      go_roundw
      case rel =>
        refine ⟨k + 1,ab4,by go_num,by omega,?_,hfr.trans f4 hsz,hwf.trans g4 hfr⟩
        rw [HS.out]
        have:=hP4.wr
        simp only [List.append_assoc] at this ⊢
        exact this
      case measure=>simp [intOf];omega
    · have hz':=Lib.hid (show R.take k = R from List.take_of_length_le (by omega))
      rw [hz'.out] at hWr
      go_wp2_with fail
      go_ret
      rw [HTB.out]
      refine ⟨rfl,ab',hWr,?_,wfr_pre hb2 hwf⟩
      rcases hfr with q | ⟨k,q,q2⟩
      · exact .inl q
      · exact .inr ⟨k,q,by omega⟩
theorem tabB_len {l:List Int} (hk:chkL l = 0):(tabB l).length≤20000:=by
  have h1:=runsB_len (rle l) (rle_good hk)
  have h2:=rle_len l
  have h3:=(chk0 hk).1
  unfold tabB
  omega
end TabW
end Go.Proofs.YtnpncpoiiikafaaGreatDoor
