/- LenI -/
import Derived.Test.YtnpncpoiiikafaaGreatPartsQt
import Derived.Test.YtnpncpoiiikafaaGreatMemQt
set_option linter.unusedVariables false
set_option linter.unusedSimpArgs false
set_option linter.unnecessarySimpa false
set_option maxRecDepth 100000
set_option maxHeartbeats 32000000
namespace Go.Proofs.YtnpncpoiiikafaaGreat
open Go.RowKit
namespace LenW
def badN (n:Int):Bool:=decide (n < 0) || decide (1000000 < n)
theorem refuseW_any (l:List Int):(l.any fun n=>decide (n < 0) || decide (1000000 < n)) = l.any badN:=rfl
theorem bad_any (x:Int) (w:World) (v:Bool) (hv:badN x = v):Calls Tryz.prog 198 #[.int .i64 x] w fun e w'=>e = .returned (.bool v)∧w' = w:=by
 by_cases h0:x < 0
 ·have e:v = true:=by rw [← hv];simp [badN,h0]
  subst e
  clear hv
  go_enter Tryz.func198,Tryz.ntmps198
  go_wp2_with fail
  go_ret
  exact ⟨rfl,rfl⟩
 ·have e:v = decide (1000000 < x):=by rw [← hv];simp [badN,h0]
  subst e
  clear hv
  go_enter Tryz.func198,Tryz.ntmps198
  go_wp2_with fail
  go_ret
  exact ⟨rfl,rfl⟩
theorem indexBad_any (A:Option Addr) (n c:Nat) (l:List Int) (w:World) (h:Rd w w.heap.size 1 A n (ints l)) (hn:n≤1000000) :
 Calls Tryz.prog 206 #[.slice A n c,.func (.func 198) #[] #[]] w fun e w'=>∃ v:Int,e = .returned (.int .i64 v)∧(0≤v ↔ l.any badN = true)∧w' = w:=by
 have hl:l.length = n:=rd_len h
 have hl1:l.length≤n:=by omega
 have hl2:n≤l.length:=by omega
 clear hl
 go_enter Tryz.func206,Tryz.ntmps206
 go_wp2_with fail
 go_loopw [8] (fun i wr=>∃ k:Nat,i = .int .i64 k∧k≤n∧(l.take k).any badN = false∧wr = w) (fun i _=>n - (intOf i).toNat)
 case atStart=>exact ⟨0,rfl,by omega,by simp,rfl⟩
 case round =>
  obtain ⟨k,rfl,hk,hy,rfl⟩:=hrel
  have HY:=Lib.hid hy
  clear hy
  by_cases hlt:k < n
  ·have hkl:k < l.length:=by omega
   obtain ⟨b,o,rfl,hb,hc⟩:=rd_ints h (by omega)
   have d0:wr.cell? ⟨b,o + k,none⟩ = some (.int .i64 l[k]):=hc k hkl
   have HS:=Lib.hid (show (l.take (k + 1)).any badN = ((l.take k).any badN || badN l[k]) by rw [List.take_succ_eq_append_getElem hkl,List.any_append];simp)
   have HM:=Lib.hid (fun hb:badN l[k] = true=>(List.any_eq_true.2 ⟨l[k],List.getElem_mem hkl,hb⟩:l.any badN = true))
   obtain ⟨x,hx⟩:∃ x,l[k] = x:=⟨_,rfl⟩
   rw [hx] at d0 HS HM
   obtain ⟨v,hv⟩:∃ v,badN x = v:=⟨_,rfl⟩
   have C:=fun w=>bad_any x w v hv
   rw [hv] at HS HM
   have hki:(k:Int) < (n:Int):=by omega
   have hk0:(0:Int)≤(k:Int):=by omega
   clear hc hx hv
   go_wp2_with fail
   refine (C _).mono ?_
   rintro e w2 ⟨rfl,rfl⟩
   cases v with
   | true =>
    go_wp2_with fail
    try rw [Exit.noGoto_ret]
    go_ret
    exact ⟨k,rfl,⟨fun _=>HM.out (by trivial),fun _=>hk0⟩,by first | rfl | trivial⟩
   | false =>
    go_wp2_with fail
    go_roundw
    case rel=>exact ⟨k + 1,by go_num,by omega,by rw [HS.out,HY.out];rfl,by first | rfl | trivial⟩
    case measure=>simp [intOf];omega
  ·have hki:¬ (k:Int) < (n:Int):=by omega
   have e:=HY.out
   rw [List.take_of_length_le (by omega)] at e
   have HE:=Lib.hid e
   clear e
   go_wp2_with fail
   try rw [Exit.noGoto_ret]
   go_ret
   exact ⟨-1,rfl,by rw [← List.any_eq_true,HE.out];simp,rfl⟩
theorem containsBad_any (A:Option Addr) (n c:Nat) (l:List Int) (w:World) (h:Rd w w.heap.size 1 A n (ints l)) (hn:n≤1000000) (v:Bool) (hv:l.any badN = v) :
 Calls Tryz.prog 197 #[.slice A n c,.func (.func 198) #[] #[]] w fun e w'=>e = .returned (.bool v)∧w' = w:=by
 have C:=indexBad_any A n c l w h hn
 go_enter Tryz.func197,Tryz.ntmps197
 go_wp2_with fail
 refine C.mono ?_
 rintro e w1 ⟨u,rfl,hu,rfl⟩
 rw [hv] at hu
 clear hv
 cases v with
 | true =>
  have h0:0≤u:=hu.2 rfl
  clear hu
  go_wp2_with fail
  go_ret
  exact ⟨rfl,rfl⟩
 | false =>
  have h0:¬ 0≤u:=fun e=>by have:=hu.1 e;cases this
  clear hu
  go_wp2_with fail
  go_ret
  refine ⟨?_,rfl⟩
  simp
  omega
theorem used_b (A:Option Addr) (n c:Nat) (l:List Int) (w:World) (h:Rd w w.heap.size 1 A n (ints l)) (hn:n≤1000000) (v:Nat) (hv:usedL l = v) :
 Calls Tryz.prog 173 #[.slice A n c] w fun e w'=>e = .returned (.int .i64 v)∧Below w.heap.size w w':=by
 refine (used_any A n c l w h hn v hv).mono ?_
 rintro e w' ⟨rfl,rfl⟩
 exact ⟨rfl,Below.refl _ _⟩
theorem refused_any (A:Option Addr) (n c:Nat) (l:List Int) (most:Int) (w:World) (h:Rd w w.heap.size 1 A n (ints l)) (hn:n≤1000000) (v:Int) (hv:refuseW l most = v) :
 Calls Tryz.prog 182 #[.slice A n c,.int .i64 most] w fun e w'=>e = .returned (.int .i64 v)∧Below w.heap.size w w':=by
 have hl:l.length = n:=rd_len h
 by_cases hbig:257 < n
 ·obtain rfl:v = 3:=by rw [← hv];unfold refuseW;rw [if_pos (by omega)]
  have hbI:(257:Int) < (n:Int):=by omega
  clear hv hl
  go_enter Tryz.func182,Tryz.ntmps182
  go_wp2_with fail
  go_ret
  exact ⟨rfl,Below.refl _ _⟩
 ·have hbI:¬ (257:Int) < (n:Int):=by omega
  by_cases hm1:most < 1
  ·obtain rfl:v = 2:=by rw [← hv];unfold refuseW;rw [if_neg (by omega),if_pos (.inl hm1)]
   clear hv hl
   go_enter Tryz.func182,Tryz.ntmps182
   go_wp2_with fail
   go_ret
   exact ⟨rfl,Below.refl _ _⟩
  ·by_cases hm2:15 < most
   ·obtain rfl:v = 2:=by rw [← hv];unfold refuseW;rw [if_neg (by omega),if_pos (.inr (.inl hm2))]
    clear hv hl
    go_enter Tryz.func182,Tryz.ntmps182
    go_wp2_with fail
    go_ret
    exact ⟨rfl,Below.refl _ _⟩
   ·have C:=containsBad_any A n c l w h hn
    by_cases hb:l.any badN = true
    ·obtain rfl:v = 2:=by rw [← hv];unfold refuseW;rw [if_neg (by omega),if_pos (.inr (.inr hb))]
     clear hv hl
     replace C:=C _ hb
     go_enter Tryz.func182,Tryz.ntmps182
     go_wp2_with fail
     refine C.mono ?_
     rintro e w1 ⟨rfl,rfl⟩
     go_wp2_with fail
     go_ret
     exact ⟨rfl,Below.refl _ _⟩
    ·obtain ⟨k,rfl⟩:=Int.eq_ofNat_of_zero_le (show 0≤most by omega)
     have hk1:1≤k:=by omega
     have hk2:k≤15:=by omega
     have hor:¬ ((k:Int) < 1 ∨ 15 < (k:Int) ∨ l.any badN = true):=by
      rintro (h | h | h)
      ·omega
      ·omega
      ·exact hb h
     have hno:(if 2 ^ k < usedL l then (3:Int) else 0) = v:=by rw [← hv];unfold refuseW;rw [if_neg (show ¬ 257 < l.length by omega),refuseW_any,if_neg hor,Int.toNat_natCast]
     clear hor
     have HNO:=Lib.hid hno
     replace C:=C false (Bool.eq_false_iff.2 hb)
     have U:=used_b A n c l
     obtain ⟨us,hus⟩:∃ us,usedL l = us:=⟨_,rfl⟩
     rw [hus] at HNO
     have hul:=usedL_le l
     rw [hus] at hul
     have hp:2 ^ k≤32768:=Nat.pow_le_pow_right (n:=2) (by omega) hk2
     have hpe:(2:Int) ^ k = ((2 ^ k:Nat):Int):=by push_cast;rfl
     obtain ⟨z,hz⟩:∃ z,2 ^ k = z:=⟨_,rfl⟩
     have hpw:(2:Int) ^ k = (z:Int):=by rw [hpe,hz]
     rw [hz] at HNO hp
     have hz1:(0:Int)≤(z:Int):=Int.natCast_nonneg z
     have hz0:(z:Int)≤32768:=by exact_mod_cast hp
     have hzw:wrap64 (z:Int) = (z:Int):=w64 (Int.le_trans (by decide) hz1) (Int.le_trans hz0 (by decide))
     have hzw2:IntKind.i64.wrap (z:Int) = (z:Int):=w64k (Int.le_trans (by decide) hz1) (Int.le_trans hz0 (by decide))
     clear hz hp hz0
     have hk0:(0:Int)≤(k:Int):=by omega
     have hk64:k < 64:=by omega
     clear hv hl hno hb hpe
     go_enter Tryz.func182,Tryz.ntmps182
     go_wp2_with fail
     refine C.mono ?_
     rintro e w1 ⟨rfl,rfl⟩
     have HB:=Below.refl w1.heap.size w1
     by_cases hlt:z < us
     ·have hltI:(z:Int) < (us:Int):=by omega
      have e3:=HNO.out
      rw [if_pos hlt] at e3
      subst e3
      go_wp2_with fail
      refine wp_region_held_drew (S:=(fun _=>True)) (by kernel_rfl) ?_ (fun hHeld=>?_)
      ·replace HB:=Below.drew HB;replace h:=Rd.drew h;(try dsimp only);try trivial
      replace HB:=Below.drew HB
      replace h:=Rd.drew h
      have zHB:=HB.size
      refine zM 0 (.tmp 0) ?_
      refine zM 2 (.tmp 1) ?_
      refine zO 3 (.binOp .shl 3 (.const (Value.int IntKind.i64 1)) (.tmp 20) 3) 3 ?_
      refine zR 1 (fun K1 hK1=>?_)
      refine take_calls 1 173 [Operand.tmp 18] #[84] rfl rfl (by kernel_rfl) (fun args w=>run_enter Tryz.func173 (by kernel_rfl) rfl args w) ?_
      refine (U _ h hn us hus).mono ?_
      rintro e w1 ⟨rfl,hb1⟩
      refine ⟨_,rfl,?_⟩
      have z1:=hb1.size
      try simp only [World.size_drew] at z1
      replace HB:=HB.trans (hb1.mono (by first | exact HB.size | omega))
      have zHB1:=HB.size
      replace h:=Rd.below h (hb1.mono (by first | exact Nat.le_refl _ | (simp only [World.size_alloc,World.size_setCell,World.size_drew] at *;omega) | omega))
      refine hK1.out _ _ ?su1x1 (fun hHeld=>?ru1x1)
      case su1x1=>((try dsimp only);try trivial)
      try simp only [zSa,zSb,zSc]
      refine zO 4 (.binOp .gtr 3 (.tmp 19) (.tmp 21) 3) 4 ?_
      refine wpAnyH_done (by kernel_rfl) ?_ _
      go_wp2_with fail
      go_ret
      exact ⟨rfl,HB⟩
     ·have hltI:¬ (z:Int) < (us:Int):=by omega
      have e3:=HNO.out
      rw [if_neg hlt] at e3
      subst e3
      go_wp2_with fail
      refine wp_region_held_drew (S:=(fun _=>True)) (by kernel_rfl) ?_ (fun hHeld=>?_)
      ·replace HB:=Below.drew HB;replace h:=Rd.drew h;(try dsimp only);try trivial
      replace HB:=Below.drew HB
      replace h:=Rd.drew h
      have zHB:=HB.size
      refine zM 0 (.tmp 0) ?_
      refine zM 2 (.tmp 1) ?_
      refine zO 3 (.binOp .shl 3 (.const (Value.int IntKind.i64 1)) (.tmp 20) 3) 3 ?_
      refine zR 1 (fun K1 hK1=>?_)
      refine take_calls 1 173 [Operand.tmp 18] #[84] rfl rfl (by kernel_rfl) (fun args w=>run_enter Tryz.func173 (by kernel_rfl) rfl args w) ?_
      refine (U _ h hn us hus).mono ?_
      rintro e w1 ⟨rfl,hb1⟩
      refine ⟨_,rfl,?_⟩
      have z1:=hb1.size
      try simp only [World.size_drew] at z1
      replace HB:=HB.trans (hb1.mono (by first | exact HB.size | omega))
      have zHB1:=HB.size
      replace h:=Rd.below h (hb1.mono (by first | exact Nat.le_refl _ | (simp only [World.size_alloc,World.size_setCell,World.size_drew] at *;omega) | omega))
      refine hK1.out _ _ ?su2x1 (fun hHeld=>?ru2x1)
      case su2x1=>((try dsimp only);try trivial)
      try simp only [zSa,zSb,zSc]
      refine zO 4 (.binOp .gtr 3 (.tmp 19) (.tmp 21) 3) 4 ?_
      refine wpAnyH_done (by kernel_rfl) ?_ _
      go_wp2_with fail
      go_ret
      exact ⟨rfl,HB⟩
end LenW
end Go.Proofs.YtnpncpoiiikafaaGreat
namespace Go.Proofs.YtnpncpoiiikafaaGreat
open Go.RowKit
namespace LenW
theorem insW_perm (x:Int × Int) (l:List (Int × Int)):(insW x l).Perm (x :: l):=by
 induction l with
 | nil=>exact List.Perm.refl _
 | cons y r ih =>
  unfold insW
  split
  ·exact List.Perm.refl _
  ·exact (ih.cons y).trans (List.Perm.swap x y r)
theorem sortW_perm (l:List (Int × Int)):(sortW l).Perm l:=by
 suffices ∀ n (l:List (Int × Int)),l.length = n → (sortW l).Perm l from this l.length l rfl
 intro n
 induction n with
 | zero=>intro l h;obtain rfl:=List.length_eq_zero_iff.1 h;exact List.Perm.refl _
 | succ n ih =>
  intro l h
  obtain ⟨a,x,rfl⟩:∃ a x,l = a ++ [x]:=⟨l.dropLast,l.getLast (by intro e;subst e;simp at h),(List.dropLast_concat_getLast _).symm⟩
  rw [sortW_snoc]
  refine (insW_perm x _).trans (((ih a (by simpa using h)).cons x).trans ?_)
  exact (List.perm_append_comm (l₁:=[x]) (l₂:=a))
theorem lvsK_mem (l:List Int) (k:Nat) (hk:k≤l.length) (x:Int × Int) (h:x ∈ lvsK l k):∃ i,∃ hi:i < l.length,x = (l[i],(i:Int))∧0 < l[i]:=by
 unfold lvsK at h
 obtain ⟨i,hi,he⟩:=List.mem_filterMap.1 h
 have hil:i < l.length:=by have:=List.mem_range.1 hi;omega
 rw [List.getElem?_eq_getElem hil] at he
 simp only [Option.getD_some] at he
 split at he
 ·rename_i hp
  exact ⟨i,hil,(Option.some.inj he).symm,hp⟩
 ·cases he
theorem lvs_mem (l:List Int) (x:Int × Int) (h:x ∈ lvs l):∃ i,∃ hi:i < l.length,x = (l[i],(i:Int))∧0 < l[i] :=
 lvsK_mem l _ (Nat.le_refl _) x ((sortW_perm _).mem_iff.1 h)
theorem lvs_what (l:List Int):∀ x ∈ lvs l,0≤x.2∧x.2 < (l.length:Int):=by
 intro x hx
 obtain ⟨i,hi,rfl,_⟩:=lvs_mem l x hx
 dsimp only
 omega
theorem lvs_weight (l:List Int) (hb:l.any badN = false):∀ x ∈ lvs l,0≤x.1∧x.1≤1000000:=by
 intro x hx
 obtain ⟨i,hi,rfl,hp⟩:=lvs_mem l x hx
 have:=(List.any_eq_false.1 hb) _ (List.getElem_mem hi)
 simp [badN] at this
 dsimp only
 omega
theorem pkgs_weight (B:Int) (r:List (Int × Int)) (hB:∀ x ∈ r,0≤x.1∧x.1≤B):∀ i,∀ x ∈ pkgs i r,0≤x.1∧x.1≤2 * B:=by
 suffices ∀ n (r:List (Int × Int)),r.length≤n → (∀ x ∈ r,0≤x.1∧x.1≤B) → ∀ i,∀ x ∈ pkgs i r,0≤x.1∧x.1≤2 * B from this _ r (Nat.le_refl _) hB
 intro n
 induction n with
 | zero=>intro r h _ i x hx;obtain rfl:=List.length_eq_zero_iff.1 (Nat.le_zero.1 h);simp [pkgs] at hx
 | succ n ih =>
  intro r h hB i x hx
  match r with
  | []=>simp [pkgs] at hx
  | [a]=>simp [pkgs] at hx
  | a :: b :: r =>
   simp only [List.length_cons] at h
   rw [pkgs] at hx
   rcases List.mem_cons.1 hx with rfl | hx
   ·have h1:=hB a (by simp)
    have h2:=hB b (by simp)
    dsimp only;omega
   ·exact ih r (by omega) (fun y hy=>hB y (by simp [hy])) _ x hx
theorem rowW_weight (F:List (Int × Int)) (hF:∀ x ∈ F,0≤x.1∧x.1≤1000000) (k:Nat):∀ x ∈ rowW F k,0≤x.1∧x.1≤1000000 * 2 ^ k:=by
 induction k with
 | zero=>intro x hx;have:=hF x hx;omega
 | succ k ih =>
  intro x hx
  rcases List.mem_append.1 ((mrg_perm _ _).mem_iff.1 hx) with h | h
  ·have h1:=hF x h
   have h2:(0:Int) < 2 ^ (k + 1):=Int.pow_pos (by omega)
   generalize (2:Int) ^ (k + 1) = z at *
   omega
  ·have:=pkgs_weight _ _ ih 0 x h
   rw [Int.pow_succ]
   omega
theorem pow_small {k:Nat} (h:k≤15):1000000 * (2:Int) ^ k≤1000000000000000:=by
 have h1:(2:Nat) ^ k≤32768:=Nat.pow_le_pow_right (n:=2) (by omega) h
 have h2:(2:Int) ^ k = ((2 ^ k:Nat):Int):=by push_cast;rfl
 rw [h2]
 generalize (2:Nat) ^ k = z at *
 omega
def oneW (L:List Int) (x:Int × Int):List Int:=L.set x.2.toNat 1
theorem ones_len (l:List (Int × Int)):∀ (L:List Int),(l.foldl oneW L).length = L.length:=by
 induction l with
 | nil=>intro L;rfl
 | cons x l ih=>intro L;rw [List.foldl_cons,ih];simp [oneW]
theorem ones_snoc (l:List (Int × Int)) (j:Nat) (h:j < l.length) (L:List Int):(l.take (j + 1)).foldl oneW L = oneW ((l.take j).foldl oneW L) l[j]:=by rw [take_snoc l j h,List.foldl_append];rfl
theorem bestW_few (l:List Int) (m:Nat) (h:usedL l < 2):bestW l m = (lvs l).foldl oneW (List.replicate l.length 0):=by unfold bestW;rw [if_pos h];rfl
theorem bestW_many (l:List Int) (m:Nat) (h:¬ usedL l < 2):bestW l m = takenW (lvs l) m (2 * usedL l - 2) (List.replicate l.length 0):=by unfold bestW;rw [if_neg h]
theorem takenW_len (F:List (Int × Int)):∀ k n L,(takenW F k n L).length = L.length:=by
 intro k
 induction k with
 | zero=>intro n L;rfl
 | succ k ih =>
  intro n L
  rw [takenW]
  split
  ·rfl
  ·rw [ih,bumps_len]
theorem bestW_len (l:List Int) (m:Nat):(bestW l m).length = l.length:=by
 by_cases h:usedL l < 2
 ·rw [bestW_few l m h,ones_len];simp
 ·rw [bestW_many l m h,takenW_len];simp
theorem rowsOk_of {w:World} {base g m c:Nat} {A:Option Addr} {vs:List Value} {X:Option Nat} {F:List (Int × Int)} (ho:Own w base 259 1 A m c vs) (hp:Parts fcells 262 2 w base X none vs ((List.range m).map (rowW F))) (hg:g < base):RowsOk w g A m F:=by
 intro hm
 obtain ⟨g5,rfl⟩:∃ g5,A = some ⟨g5,0,none⟩:=by
  rcases ho.shape with ⟨_,h0,_⟩ | ⟨g5,e,_⟩
  ·omega
  ·exact ⟨g5,e⟩
 have hb5:=(ho.blk g5 rfl).1
 refine ⟨g5,0,rfl,fun i hi=>?_⟩
 have hi2:i < ((List.range m).map (rowW F)).length:=by simpa using hi
 have hi1:i < vs.length:=by rw [hp.1];exact hi2
 obtain ⟨A',n',c',hv,ho',_⟩:=hp.2 i hi1 hi2
 simp only [List.getElem_map,List.getElem_range] at ho'
 refine ⟨A',n',c',ho'.cap,ho'.capm,fun w' hw'=>⟨?_,?_⟩⟩
 ·refine own_cell (ho.grown hw' (.inr ?_)) (0 + i) ?_
  ·simp [blkOf];omega
  ·rw [Nat.zero_add,List.getElem?_eq_getElem hi1,hv]
 ·refine (ho'.grown hw' ?_).rd
  cases hA:blkOf A' with
  | none=>exact .inl rfl
  | some k=>have:=(ho'.blk k hA).1;exact .inr (by simp;omega)
theorem made_ints (n:Nat):madeCells #[.int .i64 0] n = (ints (List.replicate n 0)).toArray:=by
 apply Array.ext
 ·simp [madeCells,ints]
 ·intro i h1 h2
  simp only [madeCells,Array.getElem_map,Array.getElem_range,ints,List.getElem_toArray,List.getElem_map,List.getElem_replicate]
  simp [Nat.mod_one]
theorem refuseW_ok {l:List Int} {most:Int} (h:refuseW l most = 0):l.length≤257∧1≤most∧most≤15∧l.any badN = false∧usedL l≤2 ^ most.toNat:=by
 unfold refuseW at h
 split at h
 ·cases h
 ·rename_i h1
  rw [refuseW_any] at h
  split at h
  ·cases h
  ·rename_i h2
   split at h
   ·cases h
   ·rename_i h3
    refine ⟨by omega,?_,?_,?_,by omega⟩
    ·exact Int.not_lt.1 (fun h=>h2 (.inl h))
    ·exact Int.not_lt.1 (fun h=>h2 (.inr (.inl h)))
    ·exact Bool.eq_false_iff.2 (fun h=>h2 (.inr (.inr h)))
end LenW
end Go.Proofs.YtnpncpoiiikafaaGreat
