/- LenH -/
import Derived.Test.YtnpncpoiiikafaaGreatDoorLenCQs
import Derived.Test.YtnpncpoiiikafaaGreatDoorPartsQs
import Derived.Test.YtnpncpoiiikafaaGreatDoorMemQs
set_option linter.unusedVariables false
set_option linter.unusedSimpArgs false
set_option linter.unnecessarySimpa false
namespace Go.Proofs.YtnpncpoiiikafaaGreatDoor
open Go.RowKit
namespace LenW
theorem mrg_perm (a b:List (Int × Int)):(mrg a b).Perm (a ++ b):=by
  suffices ∀ n (a b:List (Int × Int)),a.length + b.length≤n → (mrg a b).Perm (a ++ b) from this _ a b (Nat.le_refl _)
  intro n
  induction n with
  | zero =>
    intro a b h
    obtain rfl:=List.length_eq_zero_iff.1 (show a.length = 0 by omega)
    simp [mrg]
  | succ n ih =>
    intro a b h
    match a,b with
    | [],b=>simp [mrg]
    | x :: a,[]=>rw [mrg_right];simp
    | x :: a,y :: b =>
      simp only [List.length_cons] at h
      rw [mrg_cons]
      split
      · exact (ih a (y :: b) (by simp only [List.length_cons];omega)).cons x
      · refine ((ih (x :: a) b (by simp only [List.length_cons];omega)).cons y).trans ?_
        exact (List.perm_middle (l₁:=x :: a) (l₂:=b) (a:=y)).symm
theorem pkgs_neg (r:List (Int × Int)):∀ i,∀ x ∈ pkgs i r,x.2 < 0:=by
  suffices ∀ n (r:List (Int × Int)),r.length≤n → ∀ i,∀ x ∈ pkgs i r,x.2 < 0 from this _ r (Nat.le_refl _)
  intro n
  induction n with
  | zero=>intro r h i x hx;obtain rfl:=List.length_eq_zero_iff.1 (Nat.le_zero.1 h);simp [pkgs] at hx
  | succ n ih =>
    intro r h i x hx
    match r with
    | []=>simp [pkgs] at hx
    | [a]=>simp [pkgs] at hx
    | a :: b :: r =>
      simp only [List.length_cons] at h
      rw [pkgs] at hx
      rcases List.mem_cons.1 hx with rfl | hx
      · dsimp only;omega
      · exact ih r (by omega) _ x hx
theorem packsW_app (a b:List (Int × Int)):packsW (a ++ b) = packsW a + packsW b:=by simp [packsW]
theorem packsW_perm {a b:List (Int × Int)} (h:a.Perm b):packsW a = packsW b:=(h.filter _).length_eq
theorem packsW_neg (l:List (Int × Int)) (h:∀ x ∈ l,x.2 < 0):packsW l = l.length:=by
  unfold packsW
  rw [List.filter_eq_self.2 (fun x hx=>by simpa using h x hx)]
theorem packsW_pos (l:List (Int × Int)) (h:∀ x ∈ l,0≤x.2):packsW l = 0:=by
  unfold packsW
  rw [List.filter_eq_nil_iff.2 (fun x hx=>by have:=h x hx;simp;omega)]
  rfl
theorem packsW_take (l:List (Int × Int)) (n:Nat):packsW (l.take n)≤packsW l:=by
  unfold packsW
  exact ((List.take_sublist n l).filter _).length_le
theorem packsW_le (l:List (Int × Int)):packsW l≤l.length:=List.length_filter_le _ _
theorem rowW_what (first:List (Int × Int)) (N:Int) (hf:∀ x ∈ first,0≤x.2∧x.2 < N) (i:Nat):∀ x ∈ rowW first i,x.2 < 0 ∨ (0≤x.2∧x.2 < N):=by
  intro x hx
  cases i with
  | zero=>exact .inr (hf x hx)
  | succ i =>
    rcases List.mem_append.1 ((mrg_perm _ _).mem_iff.1 hx) with h | h
    · exact .inr (hf x h)
    · exact .inl (pkgs_neg _ _ x h)
theorem rowW_packs (first:List (Int × Int)) (hf:∀ x ∈ first,0≤x.2) (i n:Nat):2 * packsW ((rowW first (i + 1)).take n)≤(rowW first i).length:=by
  have h1:=packsW_take (rowW first (i + 1)) n
  have h2:packsW (rowW first (i + 1)) = packsW first + packsW (pkgs 0 (rowW first i)):=by rw [← packsW_app];exact packsW_perm (mrg_perm _ _)
  rw [packsW_pos first hf,packsW_neg _ (pkgs_neg _ 0),pkgs_len] at h2
  omega
theorem takenW_zero (first:List (Int × Int)) (k:Nat) (L:List Int):takenW first k 0 L = L:=by cases k <;> simp [takenW]
theorem take_snoc (l:List (Int × Int)) (j:Nat) (h:j < l.length):l.take (j + 1) = l.take j ++ [l[j]]:=List.take_succ_eq_append_getElem h
theorem ints_set (L:List Int) (k:Nat) (u:Int):(ints L).toArray.setIfInBounds k (.int .i64 u) = (ints (L.set k u)).toArray:=by
  simp [ints,List.map_set]
def RowsOk (w:World) (g:Nat) (Ar:Option Addr) (m:Nat) (first:List (Int × Int)):Prop :=
  0 < m → ∃ b o,Ar = some ⟨b,o,none⟩∧∀ i,i < m → ∃ A' n' c',n'≤c'∧c'≤maxLen∧∀ w',w.grownBy w' (some g) → w'.cell? ⟨b,o + i,none⟩ = some (.slice A' n' c')∧Rd w' w'.heap.size 2 A' n' (fcells (rowW first i))
theorem bump_len (L:List Int) (x:Int × Int):(bumpL L x).length = L.length:=by unfold bumpL;split <;> simp
theorem bumps_len (l:List (Int × Int)):∀ (L:List Int),(l.foldl bumpL L).length = L.length:=by
  induction l with
  | nil=>intro L;rfl
  | cons x l ih=>intro L;rw [List.foldl_cons,ih,bump_len]
theorem foldl_snoc (l:List (Int × Int)) (j:Nat) (h:j < l.length) (L:List Int):(l.take (j + 1)).foldl bumpL L = bumpL ((l.take j).foldl bumpL L) l[j]:=by rw [take_snoc l j h,List.foldl_append];rfl
theorem packs_snoc (l:List (Int × Int)) (j:Nat) (h:j < l.length):packsW (l.take (j + 1)) = packsW (l.take j) + (if l[j].2 < 0 then 1 else 0):=by
  rw [take_snoc l j h,packsW_app]
  congr 1
  unfold packsW
  by_cases h:l[j].2 < 0 <;> simp [h]
set_option maxRecDepth 100000 in
set_option maxHeartbeats 4000000 in
theorem taken_any (Ar:Option Addr) (m cr:Nat) (first:List (Int × Int)) (n g Ln cl:Nat) (L:List Int) (w:World)
    (hR:RowsOk w g Ar m first)
    (hB:Blk w g 3 (ints L).toArray) (hL:L.length = Ln) (hm:m≤15) (hf:∀ x ∈ first,0≤x.2∧x.2 < (Ln:Int)) (hfl:first.length≤300)
    (hn:∀ i,m = i + 1 → n≤(rowW first i).length) (hL0:∀ v ∈ L,v = 0) :
    Calls Tryz.prog 110 #[.slice Ar m cr,.int .i64 n,.slice (some ⟨g,0,none⟩) Ln cl] w fun e w'=>e = .returned (.tuple #[])∧Blk w' g 3 (ints (takenW first m n L)).toArray∧w.grownBy w' (some g):=by
  have HF:=Lib.hid hf
  have HR:=Lib.hid hR
  have HN:=Lib.hid hn
  have hm1:IntKind.i64.wrap ((m:Int) - 1) = (m:Int) - 1:=w64k (by omega) (by omega)
  have HL0:=Lib.hid (show ∀ v ∈ L,0≤v∧v≤1000 * ((m:Int) - m) from fun v hv=>by rw [hL0 v hv];omega)
  have HLn:=Lib.hid hL
  clear hf hR hn hL0 hL
  go_enter Tryz.func110,Tryz.ntmps110
  go_wp2_with fail
  go_loopw [1,6] (fun s1 s6 wr=>∃ (k nn:Nat) (L':List Int),s1 = .int .i64 nn∧s6 = .int .i64 ((k:Int) - 1)∧k≤m∧takenW first k nn L' = takenW first m n L∧L'.length = Ln∧(∀ v ∈ L',0≤v∧v≤1000 * ((m:Int) - k))∧Blk wr g 3 (ints L').toArray∧w.grownBy wr (some g)∧(∀ i,k = i + 1 → nn≤(rowW first i).length)) (fun _ s6 _=>(intOf s6 + 1).toNat)
  case atStart=>exact ⟨m,n,L,rfl,rfl,Nat.le_refl _,rfl,HLn.out,HL0.out,hB,World.grownBy.refl _ _,HN.out⟩
  case round =>
    clear hB
    obtain ⟨k,nn,L',rfl,rfl,hk,hT,hLl,hv,bL,hg,hrow⟩:=hrel
    have HT:=Lib.hid hT
    have HV:=Lib.hid hv
    have HRW:=Lib.hid hrow
    have HLl:=Lib.hid hLl
    clear hT hv hrow hLl
    by_cases hk0:k = 0
    · subst hk0
      go_wp2_with fail
      go_end0
      have e:=HT.out
      rw [show takenW first 0 nn L' = L' from rfl] at e
      rw [← e]
      exact ⟨rfl,bL,hg⟩
    · obtain ⟨i,rfl⟩:∃ i,k = i + 1:=⟨k - 1,by omega⟩
      have hi0:((i + 1:Nat):Int) - 1 = (i:Int):=by omega
      rw [hi0]
      have hi1:(0:Int)≤(i:Int):=by omega
      by_cases hn0:nn = 0
      · subst hn0
        go_wp2_with fail
        go_end0
        have e:=HT.out
        rw [takenW_zero] at e
        rw [← e]
        exact ⟨rfl,bL,hg⟩
      · have hn1:(0:Int) < (nn:Int):=by omega
        have hrw:=HRW.out i rfl
        have hrl:=rowW_le first i
        obtain ⟨b,o,rfl,hc⟩:=HR.out (by omega)
        obtain ⟨A',n',c',hnc,hcm,hrr⟩:=hc i (by omega)
        obtain ⟨d0,rd⟩:=hrr wr hg
        obtain ⟨r,hr⟩:∃ r,rowW first i = r:=⟨_,rfl⟩
        have hwhat:=rowW_what first Ln HF.out i
        have HPK:=Lib.hid (show ∀ i',i = i' + 1 → 2 * packsW (r.take nn)≤(rowW first i').length from fun i' e=>by subst e;rw [← hr];exact rowW_packs first (fun x hx=>(HF.out x hx).1) i' nn)
        have HTT:=Lib.hid (show takenW first i (2 * packsW (r.take nn)) ((r.take nn).foldl bumpL L') = takenW first m n L by rw [← HT.out,takenW,if_neg hn0,hr])
        rw [hr] at hrw hrl rd hrr hwhat
        have hrn:=rd_flen rd
        obtain ⟨ie,_,hie,_,hsz,_⟩:=El_w.inf
        have hsl:=run_slice_upto (P:=Tryz.prog) Tryz.underlying190 hie (by rw [hsz];exact rd) c' nn (by omega) hnc
        have him:(i:Int) < (m:Int):=by omega
        have hnd:decide (0 < nn) = true:=by simp;omega
        have HRR:=Lib.hid hrr
        have HWH:=Lib.hid hwhat
        clear hc hr hie hrr hwhat hsz
        go_wp2_with fail
        clear hsl
        go_loopw [7,28] (fun s7 s28 wr'=>∃ (j p:Nat) (L2:List Int),s28 = .int .i64 j∧s7 = .int .i64 p∧j≤nn∧p = packsW (r.take j)∧L2 = (r.take j).foldl bumpL L'∧(∀ v ∈ L2,0≤v∧v≤1000 * ((m:Int) - (i + 1:Nat)) + j)∧Blk wr' g 3 (ints L2).toArray∧w.grownBy wr' (some g)) (fun _ s28 _=>nn - (intOf s28).toNat)
        case atStart=>exact ⟨0,0,L',rfl,rfl,by omega,by simp [packsW],rfl,fun v hv=>by have:=HV.out v hv;omega,bL,hg⟩
        case round =>
          clear bL hg d0 rd
          obtain ⟨j,p,L2,rfl,rfl,hj,hp,hL2,hv2,b2,hg2⟩:=hrel
          have hL2l:L2.length = Ln:=by rw [hL2,bumps_len,HLl.out]
          have HP2:=Lib.hid hp
          have HL2:=Lib.hid hL2
          have HV2:=Lib.hid hv2
          have HL2l:=Lib.hid hL2l
          have hpj:p≤nn:=by rw [hp];exact Nat.le_trans (packsW_le _) (by rw [List.length_take];omega)
          clear hp hL2 hv2 hL2l
          obtain ⟨d0,rd⟩:=HRR.out wr hg2
          by_cases hjn:j < nn
          · have hjr:j < r.length:=by omega
            have hjI:(j:Int) < (nn:Int):=by omega
            obtain ⟨b',o',rfl,hb',hc'⟩:=rd_fcells rd (by omega)
            obtain ⟨e1,e2⟩:=hc' j hjr
            have HPS:=Lib.hid (packs_snoc r j hjr)
            have HFS:=Lib.hid (foldl_snoc r j hjr L')
            have hwh:=HWH.out _ (List.getElem_mem hjr)
            obtain ⟨x,hx⟩:∃ x,r[j] = x:=⟨_,rfl⟩
            rw [hx] at e1 e2 HPS HFS hwh
            obtain ⟨x1,x2⟩:=x
            dsimp only at e1 e2 HPS HFS hwh
            clear hc' hx
            by_cases hx2:x2 < 0
            · have HPP:=Lib.hid (show p + 1 = packsW (r.take (j + 1)) by rw [HPS.out,if_pos hx2,HP2.out])
              have HFF:=Lib.hid (show L2 = (r.take (j + 1)).foldl bumpL L' by rw [HFS.out,← HL2.out,bumpL,if_pos hx2])
              clear hwh
              go_wp2_with fail
              go_roundw
              case rel=>exact ⟨j + 1,p + 1,L2,by go_num,by go_num,by omega,HPP.out,HFF.out,fun v hv=>by have:=HV2.out v hv;omega,b2.alloc _,grown_below hg2 ((Below.refl _ _).alloc (Nat.le_refl _) _)⟩
              case measure=>simp [intOf];omega
            · obtain ⟨y,rfl⟩:=Int.eq_ofNat_of_zero_le (show 0≤x2 by omega)
              have hyL:(y:Int) < (Ln:Int):=by omega
              have hy2:y < L2.length:=by rw [HL2l.out];omega
              have HPP:=Lib.hid (show p = packsW (r.take (j + 1)) by rw [HPS.out,if_neg hx2,HP2.out];rfl)
              have hu:=HV2.out _ (List.getElem_mem hy2)
              obtain ⟨u,hue⟩:∃ u,L2[y] = u:=⟨_,rfl⟩
              rw [hue] at hu
              have HFF:=Lib.hid (show L2.set y (u + 1) = (r.take (j + 1)).foldl bumpL L' by rw [HFS.out,← HL2.out,bumpL,if_neg hx2,Int.toNat_natCast,List.getElem?_eq_getElem hy2,hue];rfl)
              have hu1:IntKind.i64.wrap (u + 1) = u + 1:=w64k (by omega) (by omega)
              have b3:=b2.alloc (.cells #[.int .i64 x1,.int .i64 y] 193)
              have e5:=b3.cell_ y (v:=.int .i64 u) (by simp [ints,List.getElem?_eq_getElem hy2,hue])
              have f5:=b3.frozen y
              have hg3:=grown_below hg2 ((Below.refl wr.heap.size wr).alloc (Nat.le_refl _) (.cells #[.int .i64 x1,.int .i64 y] 193))
              have B3:=Lib.hid b3
              clear hwh hue hy2 b3
              go_wp2_with fail
              go_roundw
              case rel =>
                refine ⟨j + 1,p,L2.set y (u + 1),by go_num,rfl,by omega,HPP.out,HFF.out,fun v hv=>?_,blk_eq (B3.out.set y _) (ints_set _ _ _),grown_set hg3 _⟩
                rcases List.mem_or_eq_of_mem_set hv with h | h
                · have:=HV2.out v h;omega
                · omega
              case measure=>simp [intOf];omega
          · have hjI:¬ (j:Int) < (nn:Int):=by omega
            obtain rfl:j = nn:=by omega
            have hp2:IntKind.i64.wrap (2 * (p:Int)) = 2 * (p:Int):=w64k (by omega) (by omega)
            have hiw:IntKind.i64.wrap ((i:Int) - 1) = (i:Int) - 1:=w64k (by omega) (by omega)
            go_wp2_with fail
            go_roundw
            case rel=>exact ⟨i,2 * p,L2,by simp,rfl,by omega,by rw [HP2.out,HL2.out];exact HTT.out,HL2l.out,fun v hv=>by have:=HV2.out v hv;omega,b2,hg2,fun i' e=>by rw [HP2.out];exact HPK.out i' e⟩
            case measure=>first | (simp [intOf];done) | (simp [intOf];omega)
end LenW
end Go.Proofs.YtnpncpoiiikafaaGreatDoor
namespace Go.Proofs.YtnpncpoiiikafaaGreatDoor
open Go.RowKit
namespace LenW
def badN (n:Int):Bool:=decide (n < 0) || decide (1000000 < n)
theorem refuseW_any (l:List Int):(l.any fun n=>decide (n < 0) || decide (1000000 < n)) = l.any badN:=rfl
theorem bad_any (x:Int) (w:World) (v:Bool) (hv:badN x = v):Calls Tryz.prog 126 #[.int .i64 x] w fun e w'=>e = .returned (.bool v)∧w' = w:=by
  by_cases h0:x < 0
  · have e:v = true:=by rw [← hv];simp [badN,h0]
    subst e
    clear hv
    go_enter Tryz.func126,Tryz.ntmps126
    go_wp2_with fail
    go_ret
    exact ⟨rfl,rfl⟩
  · have e:v = decide (1000000 < x):=by rw [← hv];simp [badN,h0]
    subst e
    clear hv
    go_enter Tryz.func126,Tryz.ntmps126
    go_wp2_with fail
    go_ret
    exact ⟨rfl,rfl⟩
set_option maxRecDepth 100000 in
theorem indexBad_any (A:Option Addr) (n c:Nat) (l:List Int) (w:World) (h:Rd w w.heap.size 1 A n (ints l)) (hn:n≤1000000) :
    Calls Tryz.prog 136 #[.slice A n c,.func (.func 126) #[] #[]] w fun e w'=>∃ v:Int,e = .returned (.int .i64 v)∧(0≤v ↔ l.any badN = true)∧w' = w:=by
  have hl:l.length = n:=rd_len h
  have hl1:l.length≤n:=by omega
  have hl2:n≤l.length:=by omega
  clear hl
  go_enter Tryz.func136,Tryz.ntmps136
  go_wp2_with fail
  go_loopw [8] (fun i wr=>∃ k:Nat,i = .int .i64 k∧k≤n∧(l.take k).any badN = false∧wr = w) (fun i _=>n - (intOf i).toNat)
  case atStart=>exact ⟨0,rfl,by omega,by simp,rfl⟩
  case round =>
    obtain ⟨k,rfl,hk,hy,rfl⟩:=hrel
    have HY:=Lib.hid hy
    clear hy
    by_cases hlt:k < n
    · have hkl:k < l.length:=by omega
      obtain ⟨b,o,rfl,hb,hc⟩:=rd_ints h (by omega)
      have d0:wr.cell? ⟨b,o + k,none⟩ = some (.int .i64 l[k]):=hc k hkl
      have HS:=Lib.hid (show (l.take (k + 1)).any badN = ((l.take k).any badN || badN l[k]) by rw [List.take_succ_eq_append_getElem hkl,List.any_append];simp)
      have HM:=Lib.hid (fun hb:badN l[k] = true=>(List.any_eq_true.2 ⟨l[k],List.getElem_mem hkl,hb⟩:l.any badN = true))
      obtain ⟨x,hx⟩:∃ x,l[k] = x:=⟨_,rfl⟩
      rw [hx] at d0 HS HM
      obtain ⟨v,hv⟩:∃ v,badN x = v:=⟨_,rfl⟩
      have C:=fun w=>bad_any x w v hv
      rw [hv] at HS HM
      have hki:(k:Int) < (n:Int):=by omega
      have hk0:(0:Int)≤(k:Int):=by omega
      clear hc hx hv
      go_wp2_with fail
      refine (C _).mono ?_
      rintro e w2 ⟨rfl,rfl⟩
      cases v with
      | true =>
        go_wp2_with fail
        try rw [Exit.noGoto_ret]
        go_ret
        exact ⟨k,rfl,⟨fun _=>HM.out (by trivial),fun _=>hk0⟩,by first | rfl | trivial⟩
      | false =>
        go_wp2_with fail
        go_roundw
        case rel=>exact ⟨k + 1,by go_num,by omega,by rw [HS.out,HY.out];rfl,by first | rfl | trivial⟩
        case measure=>simp [intOf];omega
    · have hki:¬ (k:Int) < (n:Int):=by omega
      have e:=HY.out
      rw [List.take_of_length_le (by omega)] at e
      have HE:=Lib.hid e
      clear e
      go_wp2_with fail
      try rw [Exit.noGoto_ret]
      go_ret
      exact ⟨-1,rfl,by rw [← List.any_eq_true,HE.out];simp,rfl⟩
set_option maxRecDepth 100000 in
theorem containsBad_any (A:Option Addr) (n c:Nat) (l:List Int) (w:World) (h:Rd w w.heap.size 1 A n (ints l)) (hn:n≤1000000) (v:Bool) (hv:l.any badN = v) :
    Calls Tryz.prog 125 #[.slice A n c,.func (.func 126) #[] #[]] w fun e w'=>e = .returned (.bool v)∧w' = w:=by
  have C:=indexBad_any A n c l w h hn
  go_enter Tryz.func125,Tryz.ntmps125
  go_wp2_with fail
  refine C.mono ?_
  rintro e w1 ⟨u,rfl,hu,rfl⟩
  rw [hv] at hu
  clear hv
  cases v with
  | true =>
    have h0:0≤u:=hu.2 rfl
    clear hu
    go_wp2_with fail
    go_ret
    exact ⟨rfl,rfl⟩
  | false =>
    have h0:¬ 0≤u:=fun e=>by have:=hu.1 e;cases this
    clear hu
    go_wp2_with fail
    go_ret
    refine ⟨?_,rfl⟩
    simp
    omega
theorem used_b (A:Option Addr) (n c:Nat) (l:List Int) (w:World) (h:Rd w w.heap.size 1 A n (ints l)) (hn:n≤1000000) (v:Nat) (hv:usedL l = v) :
    Calls Tryz.prog 111 #[.slice A n c] w fun e w'=>e = .returned (.int .i64 v)∧Below w.heap.size w w':=by
  refine (used_any A n c l w h hn v hv).mono ?_
  rintro e w' ⟨rfl,rfl⟩
  exact ⟨rfl,Below.refl _ _⟩
set_option maxRecDepth 100000 in
set_option maxHeartbeats 4000000 in
theorem refused_any (A:Option Addr) (n c:Nat) (l:List Int) (most:Int) (w:World) (h:Rd w w.heap.size 1 A n (ints l)) (hn:n≤1000000) (v:Int) (hv:refuseW l most = v) :
    Calls Tryz.prog 106 #[.slice A n c,.int .i64 most] w fun e w'=>e = .returned (.int .i64 v)∧Below w.heap.size w w':=by
  have hl:l.length = n:=rd_len h
  by_cases hbig:257 < n
  · obtain rfl:v = 3:=by rw [← hv];unfold refuseW;rw [if_pos (by omega)]
    have hbI:(257:Int) < (n:Int):=by omega
    clear hv hl
    go_enter Tryz.func106,Tryz.ntmps106
    go_wp2_with fail
    go_ret
    exact ⟨rfl,Below.refl _ _⟩
  · have hbI:¬ (257:Int) < (n:Int):=by omega
    by_cases hm1:most < 1
    · obtain rfl:v = 2:=by rw [← hv];unfold refuseW;rw [if_neg (by omega),if_pos (.inl hm1)]
      clear hv hl
      go_enter Tryz.func106,Tryz.ntmps106
      go_wp2_with fail
      go_ret
      exact ⟨rfl,Below.refl _ _⟩
    · by_cases hm2:15 < most
      · obtain rfl:v = 2:=by rw [← hv];unfold refuseW;rw [if_neg (by omega),if_pos (.inr (.inl hm2))]
        clear hv hl
        go_enter Tryz.func106,Tryz.ntmps106
        go_wp2_with fail
        go_ret
        exact ⟨rfl,Below.refl _ _⟩
      · have C:=containsBad_any A n c l w h hn
        by_cases hb:l.any badN = true
        · obtain rfl:v = 2:=by rw [← hv];unfold refuseW;rw [if_neg (by omega),if_pos (.inr (.inr hb))]
          clear hv hl
          replace C:=C _ hb
          go_enter Tryz.func106,Tryz.ntmps106
          go_wp2_with fail
          refine C.mono ?_
          rintro e w1 ⟨rfl,rfl⟩
          go_wp2_with fail
          go_ret
          exact ⟨rfl,Below.refl _ _⟩
        · obtain ⟨k,rfl⟩:=Int.eq_ofNat_of_zero_le (show 0≤most by omega)
          have hk1:1≤k:=by omega
          have hk2:k≤15:=by omega
          have hor:¬ ((k:Int) < 1 ∨ 15 < (k:Int) ∨ l.any badN = true):=by
            rintro (h | h | h)
            · omega
            · omega
            · exact hb h
          have hno:(if 2 ^ k < usedL l then (3:Int) else 0) = v:=by rw [← hv];unfold refuseW;rw [if_neg (show ¬ 257 < l.length by omega),refuseW_any,if_neg hor,Int.toNat_natCast]
          clear hor
          have HNO:=Lib.hid hno
          replace C:=C false (Bool.eq_false_iff.2 hb)
          have U:=used_b A n c l
          obtain ⟨us,hus⟩:∃ us,usedL l = us:=⟨_,rfl⟩
          rw [hus] at HNO
          have hul:=usedL_le l
          rw [hus] at hul
          have hp:2 ^ k≤32768:=Nat.pow_le_pow_right (n:=2) (by omega) hk2
          have hpe:(2:Int) ^ k = ((2 ^ k:Nat):Int):=by push_cast;rfl
          obtain ⟨z,hz⟩:∃ z,2 ^ k = z:=⟨_,rfl⟩
          have hpw:(2:Int) ^ k = (z:Int):=by rw [hpe,hz]
          rw [hz] at HNO hp
          have hz1:(0:Int)≤(z:Int):=Int.natCast_nonneg z
          have hz0:(z:Int)≤32768:=by exact_mod_cast hp
          have hzw:wrap64 (z:Int) = (z:Int):=w64 (Int.le_trans (by decide) hz1) (Int.le_trans hz0 (by decide))
          have hzw2:IntKind.i64.wrap (z:Int) = (z:Int):=w64k (Int.le_trans (by decide) hz1) (Int.le_trans hz0 (by decide))
          clear hz hp hz0
          have hk0:(0:Int)≤(k:Int):=by omega
          have hk64:k < 64:=by omega
          clear hv hl hno hb hpe
          go_enter Tryz.func106,Tryz.ntmps106
          go_wp2_with fail
          refine C.mono ?_
          rintro e w1 ⟨rfl,rfl⟩
          have HB:=Below.refl w1.heap.size w1
          by_cases hlt:z < us
          · have hltI:(z:Int) < (us:Int):=by omega
            have e3:=HNO.out
            rw [if_pos hlt] at e3
            subst e3
            go_wp2_with fail
            refine wp_region_held_drew (S:=(fun _=>True)) (by kernel_rfl) ?_ (fun hHeld=>?_)
            · replace HB:=Below.drew HB;replace h:=Rd.drew h;(try dsimp only);try trivial
            replace HB:=Below.drew HB
            replace h:=Rd.drew h
            have zHB:=HB.size
            refine take_movev (v:=?vu1x0) 0 (Operand.tmp 0) rfl rfl (by first | exact .inl rfl | exact .inr rfl) rfl (by kernel_rfl) (by kernel_rfl) (by kernel_rfl) (fun _ _ _ h=>h) (by assumption) ?yu1x0 ?ru1x0
            case yu1x0=>(go_simp;try (with_reducible rfl))
            simp only [zSa,zSb,zSc]
            refine take_movev (v:=?vu1x2) 2 (Operand.tmp 1) rfl rfl (by first | exact .inl rfl | exact .inr rfl) rfl (by kernel_rfl) (by kernel_rfl) (by kernel_rfl) (fun _ _ _ h=>h) (by assumption) ?yu1x2 ?ru1x2
            case yu1x2=>(go_simp;try (with_reducible rfl))
            simp only [zSa,zSb,zSc]
            refine take_op (v:=?vu1x3) 3 (Op.binOp BinOp.shl 3 (Operand.const (Value.int IntKind.i64 1)) (Operand.tmp 20) 3) 3 rfl rfl rfl rfl rfl (by kernel_rfl) (by kernel_rfl) (by kernel_rfl) (fun _ _ _ h=>h) ?yu1x3 (by assumption) ?ru1x3
            case yu1x3=>(intro w' hSw;(try dsimp only at hSw);go_simp;try (with_reducible rfl))
            simp only [zSa,zSb,zSc]
            refine wpAnyH_ready (rs:=[1]) (by kernel_rfl) (by simp) (AllReadyH.cons rfl (fun K1 hK1=>?ku1x1) AllReadyH.nil)
            refine take_calls 1 111 [Operand.tmp 18] #[63] rfl rfl (by kernel_rfl) (fun args w=>run_enter Tryz.func111 (by kernel_rfl) rfl args w) ?_
            refine (U _ h hn us hus).mono ?_
            rintro e w1 ⟨rfl,hb1⟩
            refine ⟨_,rfl,?_⟩
            have z1:=hb1.size
            try simp only [World.size_drew] at z1
            replace HB:=HB.trans (hb1.mono (by first | exact HB.size | omega))
            have zHB1:=HB.size
            replace h:=Rd.below h (hb1.mono (by first | exact Nat.le_refl _ | (simp only [World.size_alloc,World.size_setCell,World.size_drew] at *;omega) | omega))
            refine hK1.out _ _ ?su1x1 (fun hHeld=>?ru1x1)
            case su1x1=>((try dsimp only);try trivial)
            try simp only [zSa,zSb,zSc]
            refine take_op (v:=?vu1x4) 4 (Op.binOp BinOp.gtr 3 (Operand.tmp 19) (Operand.tmp 21) 3) 4 rfl rfl rfl rfl rfl (by kernel_rfl) (by kernel_rfl) (by kernel_rfl) (fun _ _ _ h=>h) ?yu1x4 (by assumption) ?ru1x4
            case yu1x4=>(intro w' hSw;(try dsimp only at hSw);go_simp;try (with_reducible rfl))
            simp only [zSa,zSb,zSc]
            refine wpAnyH_done (by kernel_rfl) ?_ _
            go_wp2_with fail
            go_ret
            exact ⟨rfl,HB⟩
          · have hltI:¬ (z:Int) < (us:Int):=by omega
            have e3:=HNO.out
            rw [if_neg hlt] at e3
            subst e3
            go_wp2_with fail
            refine wp_region_held_drew (S:=(fun _=>True)) (by kernel_rfl) ?_ (fun hHeld=>?_)
            · replace HB:=Below.drew HB;replace h:=Rd.drew h;(try dsimp only);try trivial
            replace HB:=Below.drew HB
            replace h:=Rd.drew h
            have zHB:=HB.size
            refine take_movev (v:=?vu2x0) 0 (Operand.tmp 0) rfl rfl (by first | exact .inl rfl | exact .inr rfl) rfl (by kernel_rfl) (by kernel_rfl) (by kernel_rfl) (fun _ _ _ h=>h) (by assumption) ?yu2x0 ?ru2x0
            case yu2x0=>(go_simp;try (with_reducible rfl))
            simp only [zSa,zSb,zSc]
            refine take_movev (v:=?vu2x2) 2 (Operand.tmp 1) rfl rfl (by first | exact .inl rfl | exact .inr rfl) rfl (by kernel_rfl) (by kernel_rfl) (by kernel_rfl) (fun _ _ _ h=>h) (by assumption) ?yu2x2 ?ru2x2
            case yu2x2=>(go_simp;try (with_reducible rfl))
            simp only [zSa,zSb,zSc]
            refine take_op (v:=?vu2x3) 3 (Op.binOp BinOp.shl 3 (Operand.const (Value.int IntKind.i64 1)) (Operand.tmp 20) 3) 3 rfl rfl rfl rfl rfl (by kernel_rfl) (by kernel_rfl) (by kernel_rfl) (fun _ _ _ h=>h) ?yu2x3 (by assumption) ?ru2x3
            case yu2x3=>(intro w' hSw;(try dsimp only at hSw);go_simp;try (with_reducible rfl))
            simp only [zSa,zSb,zSc]
            refine wpAnyH_ready (rs:=[1]) (by kernel_rfl) (by simp) (AllReadyH.cons rfl (fun K1 hK1=>?ku2x1) AllReadyH.nil)
            refine take_calls 1 111 [Operand.tmp 18] #[63] rfl rfl (by kernel_rfl) (fun args w=>run_enter Tryz.func111 (by kernel_rfl) rfl args w) ?_
            refine (U _ h hn us hus).mono ?_
            rintro e w1 ⟨rfl,hb1⟩
            refine ⟨_,rfl,?_⟩
            have z1:=hb1.size
            try simp only [World.size_drew] at z1
            replace HB:=HB.trans (hb1.mono (by first | exact HB.size | omega))
            have zHB1:=HB.size
            replace h:=Rd.below h (hb1.mono (by first | exact Nat.le_refl _ | (simp only [World.size_alloc,World.size_setCell,World.size_drew] at *;omega) | omega))
            refine hK1.out _ _ ?su2x1 (fun hHeld=>?ru2x1)
            case su2x1=>((try dsimp only);try trivial)
            try simp only [zSa,zSb,zSc]
            refine take_op (v:=?vu2x4) 4 (Op.binOp BinOp.gtr 3 (Operand.tmp 19) (Operand.tmp 21) 3) 4 rfl rfl rfl rfl rfl (by kernel_rfl) (by kernel_rfl) (by kernel_rfl) (fun _ _ _ h=>h) ?yu2x4 (by assumption) ?ru2x4
            case yu2x4=>(intro w' hSw;(try dsimp only at hSw);go_simp;try (with_reducible rfl))
            simp only [zSa,zSb,zSc]
            refine wpAnyH_done (by kernel_rfl) ?_ _
            go_wp2_with fail
            go_ret
            exact ⟨rfl,HB⟩
end LenW
end Go.Proofs.YtnpncpoiiikafaaGreatDoor
