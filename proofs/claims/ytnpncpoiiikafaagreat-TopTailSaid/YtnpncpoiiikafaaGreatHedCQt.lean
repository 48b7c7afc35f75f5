/- HedC -/
import Derived.Test.YtnpncpoiiikafaaGreatHedBQt
import Derived.Test.YtnpncpoiiikafaaGreatMemQt
set_option linter.unusedVariables false
set_option linter.unusedSimpArgs false
set_option linter.unnecessarySimpa false
set_option maxRecDepth 100000
set_option maxHeartbeats 32000000
namespace Go.Proofs.YtnpncpoiiikafaaGreat
open Go.RowKit
theorem flatG_get {α β:Type} (f:α → List β) (s:Nat) (hs:∀ a,(f a).length = s):∀ (l:List α) (k:Nat) (h:k < l.length) (j:Nat),j < s → (l.flatMap f)[k * s + j]? = (f l[k])[j]?
 | a :: l,0,_,j,hj=>by
  rw [List.flatMap_cons,List.getElem?_append_left (by rw [hs];omega)]
  simp
 | a :: l,k + 1,h,j,hj=>by
  rw [List.flatMap_cons,List.getElem?_append_right (by rw [hs,Nat.add_mul];omega),hs,show (k + 1) * s + j - s = k * s + j by rw [Nat.add_mul];omega]
  exact flatG_get f s hs l k (by simpa using h) j hj
theorem flatG_len {α β:Type} (f:α → List β) (s:Nat) (hs:∀ a,(f a).length = s) (l:List α):(l.flatMap f).length = l.length * s:=by
 induction l with
 | nil=>simp
 | cons a l ih=>rw [List.flatMap_cons,List.length_append,ih,hs,List.length_cons,Nat.add_mul];omega
namespace HedW
open SkpW (Me mc blk7f)
open SufW (w64s)
def mcells (l:List Me):List Value:=l.flatMap fun m=>(mc m).toList
theorem mcells_len (l:List Me):(mcells l).length = l.length * 7:=flatG_len _ 7 (fun _=>rfl) l
theorem mcells_one (l:List Me):∀ u ∈ mcells l,u.oneCell' = true:=by
 intro u hu
 obtain ⟨r,_,h⟩:=List.mem_flatMap.1 hu
 simp only [mc,List.mem_cons,List.not_mem_nil,or_false] at h
 rcases h with rfl | rfl | rfl | rfl | rfl | rfl | rfl <;> rfl
theorem rd_mlen {w:World} {B:Nat} {A:Option Addr} {n:Nat} {l:List Me} (h:Rd w B 7 A n (mcells l)):l.length = n:=by have:=h.len;rw [mcells_len] at this;omega
theorem rd_mets {w:World} {B:Nat} {A:Option Addr} {n:Nat} {l:List Me} (h:Rd w B 7 A n (mcells l)) (hn:0 < n) :
 ∃ b o,A = some ⟨b,o,none⟩∧b < B∧∀ k (hk:k < l.length),w.cell? ⟨b,o + k * 7,none⟩ = some (.int .i64 l[k].at_)∧w.cell? ⟨b,o + k * 7 + 1,none⟩ = some (.int .i64 l[k].size)∧w.cell? ⟨b,o + k * 7 + 2,none⟩ = some (.int .i64 l[k].raw) ∧
  w.cell? ⟨b,o + k * 7 + 3,none⟩ = some (.int .i64 l[k].count)∧w.cell? ⟨b,o + k * 7 + 4,none⟩ = some (.int .i64 l[k].first)∧w.cell? ⟨b,o + k * 7 + 5,none⟩ = some (.int .i64 l[k].early)∧w.cell? ⟨b,o + k * 7 + 6,none⟩ = some (.int .i64 l[k].late):=by
 obtain ⟨b,o,rfl,hb,hc⟩:=h.at_ hn
 refine ⟨b,o,rfl,hb,fun k hk=>?_⟩
 have hlen:=mcells_len l
 have key:∀ j v,j < 7 → (mc l[k]).toList[j]? = some v → w.cell? ⟨b,o + (k * 7 + j),none⟩ = some v:=by
  intro j v hj hv
  have hg:=flatG_get (fun m:Me=>(mc m).toList) 7 (fun _=>rfl) l k hk j hj
  rw [hv] at hg
  obtain ⟨h1,h2⟩:=List.getElem?_eq_some_iff.1 hg
  rw [hc (k * 7 + j) h1]
  exact congrArg some h2
 refine ⟨key 0 _ (by omega) rfl,?_,?_,?_,?_,?_,?_⟩
 all_goals rw [Nat.add_assoc]
 ·exact key 1 _ (by omega) rfl
 ·exact key 2 _ (by omega) rfl
 ·exact key 3 _ (by omega) rfl
 ·exact key 4 _ (by omega) rfl
 ·exact key 5 _ (by omega) rfl
 ·exact key 6 _ (by omega) rfl
def prevM (l:List Me):Nat → Option Me
 | 0=>none
 | k + 1=>l[k]?
theorem rowM_step (l:List Me) (k:Nat) (h:k < l.length):rowM (prevM l k) (l.drop k) = (aloneB l[k] && ((match prevM l k with | none=>true | some a=>nextM a l[k]) && rowM (prevM l (k + 1)) (l.drop (k + 1)))):=by
 rw [List.drop_eq_getElem_cons h]
 have e:prevM l (k + 1) = some l[k]:=List.getElem?_eq_getElem h
 rw [e]
 cases hp:prevM l k with
 | none=>simp [rowM]
 | some a=>simp [rowM]
theorem Blocks_any (A:Option Addr) (n c:Nat) (l:List Me) (w:World) (h:Rd w w.heap.size 7 A n (mcells l)) (hn:n≤1000000) (v:Int) (hv:blocksV l = v) :
 Calls Tryz.prog 31 #[.slice A n c] w fun e w'=>e = .returned (.int .i64 v)∧Below w.heap.size w w':=by
 have hl:=rd_mlen h
 unfold blocksV at hv
 by_cases hbig:1000 < n
 ·rw [if_pos (by omega)] at hv
  subst hv
  have hI:(1000:Int) < (n:Int):=by omega
  go_enter Tryz.func31,Tryz.ntmps31
  go_wp2_with fail
  go_ret
  exact ⟨rfl,Below.refl _ _⟩
 ·rw [if_neg (by omega)] at hv
  have hI:¬ (1000:Int) < (n:Int):=by omega
  have HL:=Lib.hid hl
  have HV:=Lib.hid (show (if rowM (prevM l 0) (l.drop 0) = true then (0:Int) else 211) = v from hv)
  clear hv hl
  go_enter Tryz.func31,Tryz.ntmps31
  go_wp2_with fail
  go_loopw [10] (fun iv wr=>∃ k:Nat,iv = .int .i64 k∧k≤n∧Hid ((if rowM (prevM l k) (l.drop k) = true then (0:Int) else 211) = v)∧(∀ a,prevM l k = some a → aloneB a = true)∧Below w.heap.size w wr) (fun iv _=>n - (intOf iv).toNat)
  case atStart=>exact ⟨0,rfl,by omega,HV,by simp [prevM],Below.refl _ _⟩
  case round =>
   clear HV
   obtain ⟨k,rfl,hk,HV,hp,HB⟩:=hrel
   by_cases hlt:k < n
   ·have hkl:k < l.length:=by rw [HL.out];exact hlt
    obtain ⟨b,o,rfl,hb,hcc⟩:=rd_mets (h.below HB) (by omega)
    obtain ⟨e0,e1,e2,e3,e4,e5,e6⟩:=hcc k hkl
    have HCC:=Lib.hid hcc
    clear hcc
    have HS:=Lib.hid (rowM_step l k hkl)
    have hkI:(k:Int) < (n:Int):=by omega
    have hk0:(0:Int)≤(k:Int):=by omega
    have hk1:IntKind.i64.wrap ((k:Int) + 1) = (k:Int) + 1:=w64s (by omega) (by omega)
    have HP1:Hid (prevM l (k + 1) = some l[k]):=Lib.hid (List.getElem?_eq_getElem hkl)
    have hws:=HB.size
    have CA:=fun w=>alone_any l[k] w _ rfl
    obtain ⟨m,hm⟩:∃ m,l[k] = m:=⟨_,rfl⟩
    rw [hm] at e0 e1 e2 e3 e4 e5 e6 CA HS HP1
    obtain ⟨x,hx⟩:∃ x,aloneB m = x:=⟨_,rfl⟩
    rw [hx] at CA HS
    obtain ⟨m0,m1,m2,m3,m4,m5,m6⟩:=m
    have HMX:=Lib.hid hx
    obtain ⟨W0,hW0⟩:∃ W0,wr.alloc (.cells (mc ⟨m0,m1,m2,m3,m4,m5,m6⟩) 33) = W0:=⟨_,rfl⟩
    have hW0':wr.alloc (.cells #[.int .i64 m0,.int .i64 m1,.int .i64 m2,.int .i64 m3,.int .i64 m4,.int .i64 m5,.int .i64 m6] 33) = W0:=hW0
    have g1:Blk W0 wr.heap.size 33 (mc ⟨m0,m1,m2,m3,m4,m5,m6⟩):=hW0 ▸ Blk.new _ _ _
    have hB0:Below w.heap.size w W0:=hW0 ▸ HB.alloc HB.size _
    have hBr:Below wr.heap.size wr W0:=hW0 ▸ (Below.refl _ wr).alloc (Nat.le_refl _) _
    have hz0:wr.heap.size + 1≤W0.heap.size:=by rw [← hW0];simp
    obtain ⟨⟨c0,c1,c2,c3,c4,c5,c6⟩,_⟩:=blk7f g1
    have HW:=Lib.hid hW0'
    have hbz:b < wr.heap.size + 1:=by omega
    dsimp only at e0 e1 e2 e3 e4 e5 e6
    clear hW0 hW0' g1 hm hx
    cases x with
    | false =>
     have hv:=HV.out
     rw [HS.out,Bool.false_and,if_neg (by decide)] at hv
     subst hv
     clear HV HS
     go_wp2_with fail
     rw [HW.out]
     refine wp_region_held_drew (S:=(fun w'=>(∀ b o,b < wr.heap.size + 1 → w'.cell? ⟨b,o,none⟩ = W0.cell? ⟨b,o,none⟩)∧wr.heap.size + 1≤w'.heap.size∧Below w.heap.size w w')) (by kernel_rfl) ?_ (fun hHeld=>?_)
     ·(try dsimp only);(first | assumption | exact keep_next (by assumption) (by assumption) (by first | exact Nat.le_refl _ | (simp only [World.size_alloc,World.size_setCell,World.size_drew];omega) | (simp;done) | (simp;omega) | omega) | exact keep_alloc (by assumption) (by first | exact Nat.le_refl _ | (simp only [World.size_alloc,World.size_setCell,World.size_drew];omega) | (simp;done) | (simp;omega) | omega) | exact keep_start (by assumption) (by first | assumption | omega) | exact keep_drew (by assumption))
     refine zO 0 (.load 33 (.tmp 4)) 33 ?_
     refine take_call 1 79 [Operand.tmp 15] #[33] (by kernel_rfl) rfl rfl rfl rfl (fun args w=>run_enter Tryz.func79 (by kernel_rfl) rfl args w) ?_
     refine (CA _).mono ?_
     rintro e w1 ⟨rfl,hb1⟩
     refine ⟨_,rfl,?_,fun hHeld=>?_⟩
     ·(try dsimp only);(first | assumption | exact keep_next (by assumption) (by assumption) (by first | exact Nat.le_refl _ | (simp only [World.size_alloc,World.size_setCell,World.size_drew];omega) | (simp;done) | (simp;omega) | omega) | exact keep_alloc (by assumption) (by first | exact Nat.le_refl _ | (simp only [World.size_alloc,World.size_setCell,World.size_drew];omega) | (simp;done) | (simp;omega) | omega) | exact keep_start (by assumption) (by first | assumption | omega) | exact keep_drew (by assumption))
     simp only [zSa,zSb,zSc]
     refine zO 2 (.unOp .not 4 (.tmp 16)) 4 ?_
     refine zM 3 (.tmp 17) ?_
     refine zK 4 ?_
     refine zK 5 ?_
     refine zK 6 ?_
     refine zK 7 ?_
     refine zK 8 ?_
     refine zK 9 ?_
     refine zK 10 ?_
     refine zK 11 ?_
     refine zK 12 ?_
     refine zK 13 ?_
     refine zK 14 ?_
     refine zK 15 ?_
     refine zO 16 (.pick (.tmp 18) (.const (Value.bool true)) (.tmp 30)) 4 ?_
     refine wpAnyH_done (by kernel_rfl) ?_ _
     go_wp2_with fail
     go_ret
     exact ⟨rfl,(‹(∀ b o,_ → _)∧_∧_›).2.2⟩
    | true =>
     by_cases hkz:k = 0
     ·have HV2:Hid ((if rowM (prevM l (k + 1)) (l.drop (k + 1)) = true then (0:Int) else 211) = v):=Lib.hid (by
       have hv:=HV.out
       rw [HS.out] at hv
       subst hkz
       simpa [prevM] using hv)
      have hgt:¬ (0:Int) < (k:Int):=by omega
      have hgN:¬ 0 < k:=by omega
      have hgb:decide (0 < k) = false:=by simp;omega
      clear hkz hp
      clear HV HS
      go_wp2_with fail
      rw [HW.out]
      refine wp_region_held_drew (S:=(fun w'=>(∀ b o,b < wr.heap.size + 1 → w'.cell? ⟨b,o,none⟩ = W0.cell? ⟨b,o,none⟩)∧wr.heap.size + 1≤w'.heap.size∧Below w.heap.size w w')) (by kernel_rfl) ?_ (fun hHeld=>?_)
      ·(try dsimp only);(first | assumption | exact keep_next (by assumption) (by assumption) (by first | exact Nat.le_refl _ | (simp only [World.size_alloc,World.size_setCell,World.size_drew];omega) | (simp;done) | (simp;omega) | omega) | exact keep_alloc (by assumption) (by first | exact Nat.le_refl _ | (simp only [World.size_alloc,World.size_setCell,World.size_drew];omega) | (simp;done) | (simp;omega) | omega) | exact keep_start (by assumption) (by first | assumption | omega) | exact keep_drew (by assumption))
      refine zO 0 (.load 33 (.tmp 4)) 33 ?_
      refine take_call 1 79 [Operand.tmp 15] #[33] (by kernel_rfl) rfl rfl rfl rfl (fun args w=>run_enter Tryz.func79 (by kernel_rfl) rfl args w) ?_
      refine (CA _).mono ?_
      rintro e w1 ⟨rfl,hb1⟩
      refine ⟨_,rfl,?_,fun hHeld=>?_⟩
      ·(try dsimp only);(first | assumption | exact keep_next (by assumption) (by assumption) (by first | exact Nat.le_refl _ | (simp only [World.size_alloc,World.size_setCell,World.size_drew];omega) | (simp;done) | (simp;omega) | omega) | exact keep_alloc (by assumption) (by first | exact Nat.le_refl _ | (simp only [World.size_alloc,World.size_setCell,World.size_drew];omega) | (simp;done) | (simp;omega) | omega) | exact keep_start (by assumption) (by first | assumption | omega) | exact keep_drew (by assumption))
      simp only [zSa,zSb,zSc]
      refine zO 2 (.unOp .not 4 (.tmp 16)) 4 ?_
      refine zM 3 (.tmp 17) ?_
      refine zM 4 (.tmp 3) ?_
      refine zO 5 (.binOp .gtr 3 (.tmp 19) (.const (Value.int IntKind.i64 0)) 3) 4 ?_
      refine zM 6 (.tmp 20) ?_
      refine zK 7 ?_
      refine zK 8 ?_
      refine zK 9 ?_
      refine zK 10 ?_
      refine zK 11 ?_
      refine zK 12 ?_
      refine zK 13 ?_
      refine zK 14 ?_
      refine zO 15 (.pick (.tmp 21) (.tmp 29) (.const (Value.bool false))) 4 ?_
      refine zO 16 (.pick (.tmp 18) (.const (Value.bool true)) (.tmp 30)) 4 ?_
      refine wpAnyH_done (by kernel_rfl) ?_ _
      go_wp2_with fail
      go_roundw
      case rel=>exact ⟨k + 1,by go_num,by omega,HV2,fun a ha=>by rw [HP1.out] at ha;obtain rfl:=Option.some.inj ha;exact HMX.out,(‹(∀ b o,_ → _)∧_∧_›).2.2⟩
      case measure=>simp [intOf];omega
     ·obtain ⟨j,hkj⟩:∃ j,k = j + 1:=⟨k - 1,by omega⟩
      obtain ⟨p,hpj⟩:∃ p,l[j]'(by omega) = p:=⟨_,rfl⟩
      have hpp:prevM l k = some p:=by rw [hkj,← hpj];exact List.getElem?_eq_getElem (by omega)
      have hpa:=hp p hpp
      obtain ⟨q0,q1,q2,q3,q4,q5,q6⟩:=HCC.out j (by omega)
      rw [hpj] at q0 q1 q2 q3 q4 q5 q6
      have CF:=fun w=>follows_any p ⟨m0,m1,m2,m3,m4,m5,m6⟩ w _ rfl hpa
      have HS2:=HS.out
      rw [hpp] at HS2
      dsimp only at HS2
      obtain ⟨y,hy⟩:∃ y,nextM p ⟨m0,m1,m2,m3,m4,m5,m6⟩ = y:=⟨_,rfl⟩
      rw [hy] at CF HS2
      have HS3:=Lib.hid HS2
      have HPP:=Lib.hid hpp
      obtain ⟨p0,p1,p2,p3,p4,p5,p6⟩:=p
      dsimp only at q0 q1 q2 q3 q4 q5 q6
      have q0':W0.cell? ⟨b,o + j * 7,none⟩ = some (.int .i64 p0):=(hBr.cell (p:=⟨b,o + j * 7,none⟩) (by dsimp only;omega)).trans q0
      have q1':W0.cell? ⟨b,o + j * 7 + 1,none⟩ = some (.int .i64 p1):=(hBr.cell (p:=⟨b,o + j * 7 + 1,none⟩) (by dsimp only;omega)).trans q1
      have q2':W0.cell? ⟨b,o + j * 7 + 2,none⟩ = some (.int .i64 p2):=(hBr.cell (p:=⟨b,o + j * 7 + 2,none⟩) (by dsimp only;omega)).trans q2
      have q3':W0.cell? ⟨b,o + j * 7 + 3,none⟩ = some (.int .i64 p3):=(hBr.cell (p:=⟨b,o + j * 7 + 3,none⟩) (by dsimp only;omega)).trans q3
      have q4':W0.cell? ⟨b,o + j * 7 + 4,none⟩ = some (.int .i64 p4):=(hBr.cell (p:=⟨b,o + j * 7 + 4,none⟩) (by dsimp only;omega)).trans q4
      have q5':W0.cell? ⟨b,o + j * 7 + 5,none⟩ = some (.int .i64 p5):=(hBr.cell (p:=⟨b,o + j * 7 + 5,none⟩) (by dsimp only;omega)).trans q5
      have q6':W0.cell? ⟨b,o + j * 7 + 6,none⟩ = some (.int .i64 p6):=(hBr.cell (p:=⟨b,o + j * 7 + 6,none⟩) (by dsimp only;omega)).trans q6
      have hj1:IntKind.i64.wrap ((k:Int) - 1) = (j:Int):=by rw [w64s (by omega) (by omega)];omega
      have hj3:(j:Int) < (n:Int):=by omega
      have hj0:(0:Int)≤(j:Int):=by omega
      have hgt:(0:Int) < (k:Int):=by omega
      have hgN:0 < k:=by omega
      clear hkj hkz HS HS2 hpp hpj hy hp HCC q0 q1 q2 q3 q4 q5 q6
      cases y with
      | false =>
       have hv:=HV.out
       rw [HPP.out,HS3.out,Bool.false_and,Bool.and_false,if_neg (by decide)] at hv
       subst hv
       clear HV HS3
       go_wp2_with fail
       rw [HW.out]
       refine wp_region_held_drew (S:=(fun w'=>(∀ b o,b < wr.heap.size + 1 → w'.cell? ⟨b,o,none⟩ = W0.cell? ⟨b,o,none⟩)∧wr.heap.size + 1≤w'.heap.size∧Below w.heap.size w w')) (by kernel_rfl) ?_ (fun hHeld=>?_)
       ·(try dsimp only);(first | assumption | exact keep_next (by assumption) (by assumption) (by first | exact Nat.le_refl _ | (simp only [World.size_alloc,World.size_setCell,World.size_drew];omega) | (simp;done) | (simp;omega) | omega) | exact keep_alloc (by assumption) (by first | exact Nat.le_refl _ | (simp only [World.size_alloc,World.size_setCell,World.size_drew];omega) | (simp;done) | (simp;omega) | omega) | exact keep_start (by assumption) (by first | assumption | omega) | exact keep_drew (by assumption))
       refine zO 0 (.load 33 (.tmp 4)) 33 ?_
       refine take_call 1 79 [Operand.tmp 15] #[33] (by kernel_rfl) rfl rfl rfl rfl (fun args w=>run_enter Tryz.func79 (by kernel_rfl) rfl args w) ?_
       refine (CA _).mono ?_
       rintro e w1 ⟨rfl,hb1⟩
       refine ⟨_,rfl,?_,fun hHeld=>?_⟩
       ·(try dsimp only);(first | assumption | exact keep_next (by assumption) (by assumption) (by first | exact Nat.le_refl _ | (simp only [World.size_alloc,World.size_setCell,World.size_drew];omega) | (simp;done) | (simp;omega) | omega) | exact keep_alloc (by assumption) (by first | exact Nat.le_refl _ | (simp only [World.size_alloc,World.size_setCell,World.size_drew];omega) | (simp;done) | (simp;omega) | omega) | exact keep_start (by assumption) (by first | assumption | omega) | exact keep_drew (by assumption))
       simp only [zSa,zSb,zSc]
       refine zO 2 (.unOp .not 4 (.tmp 16)) 4 ?_
       refine zM 3 (.tmp 17) ?_
       refine zM 4 (.tmp 3) ?_
       refine zO 5 (.binOp .gtr 3 (.tmp 19) (.const (Value.int IntKind.i64 0)) 3) 4 ?_
       refine zM 6 (.tmp 20) ?_
       refine zM 7 (.tmp 0) ?_
       refine zM 8 (.tmp 3) ?_
       refine zO 9 (.binOp .sub 3 (.tmp 23) (.const (Value.int IntKind.i64 1)) 3) 3 ?_
       refine zO 10 (.indexAddr 25 (.tmp 22) (.tmp 24)) 0 ?_
       refine zO 11 (.load 33 (.tmp 25)) 33 ?_
       refine zO 12 (.load 33 (.tmp 4)) 33 ?_
       refine take_call 13 80 [Operand.tmp 26,Operand.tmp 27] #[33,33] (by kernel_rfl) rfl rfl rfl rfl (fun args w=>run_enter Tryz.func80 (by kernel_rfl) rfl args w) ?_
       refine (CF _).mono ?_
       rintro e w1 ⟨rfl,hb1⟩
       refine ⟨_,rfl,?_,fun hHeld=>?_⟩
       ·(try dsimp only);(first | assumption | exact keep_next (by assumption) (by assumption) (by first | exact Nat.le_refl _ | (simp only [World.size_alloc,World.size_setCell,World.size_drew];omega) | (simp;done) | (simp;omega) | omega) | exact keep_alloc (by assumption) (by first | exact Nat.le_refl _ | (simp only [World.size_alloc,World.size_setCell,World.size_drew];omega) | (simp;done) | (simp;omega) | omega) | exact keep_start (by assumption) (by first | assumption | omega) | exact keep_drew (by assumption))
       simp only [zSa,zSb,zSc]
       refine zO 14 (.unOp .not 4 (.tmp 28)) 4 ?_
       refine zO 15 (.pick (.tmp 21) (.tmp 29) (.const (Value.bool false))) 4 ?_
       refine zO 16 (.pick (.tmp 18) (.const (Value.bool true)) (.tmp 30)) 4 ?_
       refine wpAnyH_done (by kernel_rfl) ?_ _
       go_wp2_with fail
       go_ret
       exact ⟨rfl,(‹(∀ b o,_ → _)∧_∧_›).2.2⟩
      | true =>
       have HV2:Hid ((if rowM (prevM l (k + 1)) (l.drop (k + 1)) = true then (0:Int) else 211) = v):=Lib.hid (by
        have hv:=HV.out
        rw [HPP.out,HS3.out,Bool.true_and,Bool.true_and] at hv
        exact hv)
       clear HV HS3
       go_wp2_with fail
       rw [HW.out]
       refine wp_region_held_drew (S:=(fun w'=>(∀ b o,b < wr.heap.size + 1 → w'.cell? ⟨b,o,none⟩ = W0.cell? ⟨b,o,none⟩)∧wr.heap.size + 1≤w'.heap.size∧Below w.heap.size w w')) (by kernel_rfl) ?_ (fun hHeld=>?_)
       ·(try dsimp only);(first | assumption | exact keep_next (by assumption) (by assumption) (by first | exact Nat.le_refl _ | (simp only [World.size_alloc,World.size_setCell,World.size_drew];omega) | (simp;done) | (simp;omega) | omega) | exact keep_alloc (by assumption) (by first | exact Nat.le_refl _ | (simp only [World.size_alloc,World.size_setCell,World.size_drew];omega) | (simp;done) | (simp;omega) | omega) | exact keep_start (by assumption) (by first | assumption | omega) | exact keep_drew (by assumption))
       refine zO 0 (.load 33 (.tmp 4)) 33 ?_
       refine take_call 1 79 [Operand.tmp 15] #[33] (by kernel_rfl) rfl rfl rfl rfl (fun args w=>run_enter Tryz.func79 (by kernel_rfl) rfl args w) ?_
       refine (CA _).mono ?_
       rintro e w1 ⟨rfl,hb1⟩
       refine ⟨_,rfl,?_,fun hHeld=>?_⟩
       ·(try dsimp only);(first | assumption | exact keep_next (by assumption) (by assumption) (by first | exact Nat.le_refl _ | (simp only [World.size_alloc,World.size_setCell,World.size_drew];omega) | (simp;done) | (simp;omega) | omega) | exact keep_alloc (by assumption) (by first | exact Nat.le_refl _ | (simp only [World.size_alloc,World.size_setCell,World.size_drew];omega) | (simp;done) | (simp;omega) | omega) | exact keep_start (by assumption) (by first | assumption | omega) | exact keep_drew (by assumption))
       simp only [zSa,zSb,zSc]
       refine zO 2 (.unOp .not 4 (.tmp 16)) 4 ?_
       refine zM 3 (.tmp 17) ?_
       refine zM 4 (.tmp 3) ?_
       refine zO 5 (.binOp .gtr 3 (.tmp 19) (.const (Value.int IntKind.i64 0)) 3) 4 ?_
       refine zM 6 (.tmp 20) ?_
       refine zM 7 (.tmp 0) ?_
       refine zM 8 (.tmp 3) ?_
       refine zO 9 (.binOp .sub 3 (.tmp 23) (.const (Value.int IntKind.i64 1)) 3) 3 ?_
       refine zO 10 (.indexAddr 25 (.tmp 22) (.tmp 24)) 0 ?_
       refine zO 11 (.load 33 (.tmp 25)) 33 ?_
       refine zO 12 (.load 33 (.tmp 4)) 33 ?_
       refine take_call 13 80 [Operand.tmp 26,Operand.tmp 27] #[33,33] (by kernel_rfl) rfl rfl rfl rfl (fun args w=>run_enter Tryz.func80 (by kernel_rfl) rfl args w) ?_
       refine (CF _).mono ?_
       rintro e w1 ⟨rfl,hb1⟩
       refine ⟨_,rfl,?_,fun hHeld=>?_⟩
       ·(try dsimp only);(first | assumption | exact keep_next (by assumption) (by assumption) (by first | exact Nat.le_refl _ | (simp only [World.size_alloc,World.size_setCell,World.size_drew];omega) | (simp;done) | (simp;omega) | omega) | exact keep_alloc (by assumption) (by first | exact Nat.le_refl _ | (simp only [World.size_alloc,World.size_setCell,World.size_drew];omega) | (simp;done) | (simp;omega) | omega) | exact keep_start (by assumption) (by first | assumption | omega) | exact keep_drew (by assumption))
       simp only [zSa,zSb,zSc]
       refine zO 14 (.unOp .not 4 (.tmp 28)) 4 ?_
       refine zO 15 (.pick (.tmp 21) (.tmp 29) (.const (Value.bool false))) 4 ?_
       refine zO 16 (.pick (.tmp 18) (.const (Value.bool true)) (.tmp 30)) 4 ?_
       refine wpAnyH_done (by kernel_rfl) ?_ _
       go_wp2_with fail
       go_roundw
       case rel=>exact ⟨k + 1,by go_num,by omega,HV2,fun a ha=>by rw [HP1.out] at ha;obtain rfl:=Option.some.inj ha;exact HMX.out,(‹(∀ b o,_ → _)∧_∧_›).2.2⟩
       case measure=>simp [intOf];omega
   ·have hkI:¬ (k:Int) < (n:Int):=by omega
    have hv:=HV.out
    rw [List.drop_of_length_le (by rw [HL.out];omega)] at hv
    have e:rowM (prevM l k) [] = true:=by cases prevM l k <;> rfl
    rw [e,if_pos rfl] at hv
    subst hv
    clear HV e
    go_wp2_with fail
    go_ret
    exact ⟨rfl,HB⟩
end HedW
end Go.Proofs.YtnpncpoiiikafaaGreat
