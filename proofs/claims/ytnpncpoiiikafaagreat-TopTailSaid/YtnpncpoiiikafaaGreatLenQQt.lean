/- LenQ -/
import Derived.Test.YtnpncpoiiikafaaGreatLenIQt
import Derived.Test.YtnpncpoiiikafaaGreatMemQt
set_option linter.unusedVariables false
set_option linter.unusedSimpArgs false
set_option linter.unnecessarySimpa false
set_option maxRecDepth 100000
set_option maxHeartbeats 32000000
namespace Go.Proofs.YtnpncpoiiikafaaGreat
open Go.RowKit
namespace LenW
def keyF (v:Int) (l:List (Int × Int)):List (Int × Int):=l.filter fun x=>decide (x.1 = v)
theorem keyF_app (v:Int) (a b:List (Int × Int)):keyF v (a ++ b) = keyF v a ++ keyF v b:=by simp [keyF]
theorem keyF_cons (v:Int) (x:Int × Int) (l:List (Int × Int)):keyF v (x :: l) = (if x.1 = v then [x] else []) ++ keyF v l:=by
 unfold keyF
 rw [List.filter_cons]
 by_cases h:x.1 = v <;> simp [h]
theorem keyF_no (v:Int) (l:List (Int × Int)) (h:∀ x ∈ l,x.1 ≠ v):keyF v l = []:=by
 unfold keyF
 rw [List.filter_eq_nil_iff]
 intro x hx
 simpa using h x hx
theorem keyF_ins (v:Int) (x:Int × Int) (l:List (Int × Int)) (h:upW l):keyF v (insW x l) = keyF v l ++ (if x.1 = v then [x] else []):=by
 induction l with
 | nil=>show keyF v [x] = _;rw [keyF_cons];simp [keyF]
 | cons y r ih =>
  unfold upW at h
  obtain ⟨h1,h2⟩:=List.pairwise_cons.1 h
  unfold insW
  split
  ·rename_i hlt
   rw [keyF_cons]
   by_cases hv:x.1 = v
   ·have:keyF v (y :: r) = []:=keyF_no _ _ (fun z hz=>by
     rcases List.mem_cons.1 hz with rfl | hz
     ·omega
     ·have:=h1 z hz;omega)
    rw [this]
    simp
   ·simp [hv]
  ·rw [keyF_cons,ih h2,keyF_cons,List.append_assoc]
theorem keyF_sort (v:Int) (l:List (Int × Int)):keyF v (sortW l) = keyF v l:=by
 suffices ∀ n (l:List (Int × Int)),l.length = n → keyF v (sortW l) = keyF v l from this l.length l rfl
 intro n
 induction n with
 | zero=>intro l h;obtain rfl:=List.length_eq_zero_iff.1 h;rfl
 | succ n ih =>
  intro l h
  obtain ⟨a,x,rfl⟩:∃ a x,l = a ++ [x]:=⟨l.dropLast,l.getLast (by intro e;subst e;simp at h),(List.dropLast_concat_getLast _).symm⟩
  rw [sortW_snoc,keyF_ins v x _ (sortW_up a),ih a (by simpa using h),keyF_app]
  congr 1
  rw [keyF_cons]
  simp [keyF]
theorem keyF_mem {v:Int} {x:Int × Int} {l:List (Int × Int)}:x ∈ keyF v l ↔ x ∈ l∧x.1 = v:=by simp [keyF]
theorem up_unique (X:List (Int × Int)):∀ (Y:List (Int × Int)),upW X → upW Y → (∀ v,keyF v X = keyF v Y) → X = Y:=by
 induction X with
 | nil =>
  intro Y _ _ h
  cases Y with
  | nil=>rfl
  | cons y Y =>
   have:y ∈ keyF y.1 ([]:List (Int × Int)):=by rw [h y.1];exact keyF_mem.2 ⟨by simp,rfl⟩
   simp [keyF] at this
 | cons x X ih =>
  intro Y hX hY h
  cases Y with
  | nil =>
   have:x ∈ keyF x.1 ([]:List (Int × Int)):=by rw [← h x.1];exact keyF_mem.2 ⟨by simp,rfl⟩
   simp [keyF] at this
  | cons y Y =>
   obtain ⟨x1,x2⟩:=List.pairwise_cons.1 hX
   obtain ⟨y1,y2⟩:=List.pairwise_cons.1 hY
   have m1:x ∈ y :: Y:=(keyF_mem.1 (by rw [← h x.1];exact keyF_mem.2 ⟨by simp,rfl⟩:x ∈ keyF x.1 (y :: Y))).1
   have m2:y ∈ x :: X:=(keyF_mem.1 (by rw [h y.1];exact keyF_mem.2 ⟨by simp,rfl⟩:y ∈ keyF y.1 (x :: X))).1
   have e1:y.1≤x.1:=by
    rcases List.mem_cons.1 m1 with e | e
    ·rw [e];omega
    ·exact y1 x e
   have e2:x.1≤y.1:=by
    rcases List.mem_cons.1 m2 with e | e
    ·rw [e];omega
    ·exact x1 y e
   have hk:=h x.1
   rw [keyF_cons,keyF_cons,if_pos rfl,if_pos (by omega)] at hk
   simp only [List.cons_append,List.nil_append,List.cons.injEq] at hk
   obtain ⟨rfl,hk2⟩:=hk
   congr 1
   refine ih Y x2 y2 (fun v=>?_)
   have:=h v
   rw [keyF_cons,keyF_cons] at this
   exact List.append_cancel_left this
theorem sort_eq (l Y:List (Int × Int)) (hY:upW Y) (h:∀ v,keyF v l = keyF v Y):sortW l = Y:=up_unique _ _ (sortW_up l) hY (fun v=>by rw [keyF_sort,h])
theorem sort_self {l:List (Int × Int)} (h:upW l):sortW l = l:=sort_eq l l h (fun _=>rfl)
theorem sort_two (X Y:List (Int × Int)):sortW (sortW X ++ sortW Y) = sortW (X ++ Y):=sort_eq _ _ (sortW_up _) (fun v=>by rw [keyF_sort,keyF_app,keyF_app,keyF_sort,keyF_sort])
theorem sort_mem {x:Int × Int} {l:List (Int × Int)}:x ∈ sortW l ↔ x ∈ l:=(sortW_perm l).mem_iff
theorem sort_parts (A1 A2 B1 B2:List (Int × Int)) (hA:upW (A1 ++ A2)) (hB:upW (B1 ++ B2)) (h1:∀ x ∈ A1,∀ y ∈ B2,x.1≤y.1) (h2:∀ x ∈ B1,∀ y ∈ A2,x.1 < y.1) :
 sortW (A1 ++ A2 ++ (B1 ++ B2)) = sortW (A1 ++ B1) ++ sortW (A2 ++ B2):=by
 have hA':=(List.pairwise_append.1 hA).2.2
 have hB':=(List.pairwise_append.1 hB).2.2
 refine sort_eq _ _ ?_ (fun v=>?_)
 ·refine List.pairwise_append.2 ⟨sortW_up _,sortW_up _,fun x hx y hy=>?_⟩
  rcases List.mem_append.1 (sort_mem.1 hx) with hx | hx <;> rcases List.mem_append.1 (sort_mem.1 hy) with hy | hy
  ·exact hA' x hx y hy
  ·exact h1 x hx y hy
  ·exact Int.le_of_lt (h2 x hx y hy)
  ·exact hB' x hx y hy
 ·rw [keyF_app v (sortW _),keyF_sort,keyF_sort]
  simp only [keyF_app,List.append_assoc]
  congr 1
  rw [← List.append_assoc,← List.append_assoc]
  congr 1
  by_cases hn:keyF v A2 = []
  ·rw [hn];simp
  ·obtain ⟨y,hy⟩:=List.exists_mem_of_ne_nil _ hn
   have:keyF v B1 = []:=keyF_no _ _ (fun x hx e=>by
    have h:=h2 x hx y (keyF_mem.1 hy).1
    have:=(keyF_mem.1 hy).2
    omega)
   rw [this];simp
theorem sort_first (x:Int × Int) (B1 B2:List (Int × Int)) (hB:upW (B1 ++ B2)) (h1:∀ y ∈ B1,y.1 < x.1) (h2:∀ y ∈ B2,x.1≤y.1):sortW (x :: (B1 ++ B2)) = B1 ++ x :: B2:=by
 have:=sort_parts [] [x] B1 B2 (by unfold upW;simp) hB (by simp) (fun y hy z hz=>by simp at hz;subst hz;exact h1 y hy)
 simp only [List.nil_append,List.singleton_append] at this
 rw [this,sort_self (List.pairwise_append.1 hB).1,sort_self]
 unfold upW
 exact List.pairwise_cons.2 ⟨fun y hy=>h2 y hy,(List.pairwise_append.1 hB).2.1⟩
theorem sort_last (y:Int × Int) (A1 A2:List (Int × Int)) (hA:upW (A1 ++ A2)) (h1:∀ x ∈ A1,x.1≤y.1) (h2:∀ x ∈ A2,y.1 < x.1):sortW (A1 ++ A2 ++ [y]) = A1 ++ y :: A2:=by
 have:=sort_parts A1 A2 [y] [] hA (by unfold upW;simp) (by simp) (fun x hx z hz=>by simp at hx;subst hx;exact h2 z hz)
 simp only [List.append_nil] at this
 rw [this]
 have e1:sortW (A1 ++ [y]) = A1 ++ [y]:=sort_self (by unfold upW;exact List.pairwise_append.2 ⟨(List.pairwise_append.1 hA).1,by simp,fun x hx z hz=>by simp at hz;subst hz;exact h1 x hx⟩)
 rw [e1,sort_self (List.pairwise_append.1 hA).2.1]
 simp
end LenW
end Go.Proofs.YtnpncpoiiikafaaGreat
namespace Go.Proofs.YtnpncpoiiikafaaGreat
open Go.RowKit
namespace LenW
theorem fset2 (l:List (Int × Int)) (k:Nat) (h:k < l.length) (x:Int × Int):((fcells l).set (k * 2) (.int .i64 x.1)).set (k * 2 + 1) (.int .i64 x.2) = fcells (l.set k x):=by
 induction l generalizing k with
 | nil=>simp at h
 | cons y r ih =>
  cases k with
  | zero=>simp [fcells_cons]
  | succ k =>
   simp only [List.length_cons] at h
   rw [List.set_cons_succ,fcells_cons,fcells_cons,← ih k (by omega),show (k + 1) * 2 = k * 2 + 1 + 1 by omega]
   rfl
structure SwapOk (L L':List (Int × Int)) (p q:Nat) (x y:Int × Int):Prop where
 c1:(fcells L)[p * 2]? = some (.int .i64 x.1)
 c2:(fcells L)[p * 2 + 1]? = some (.int .i64 x.2)
 c3:(fcells L)[q * 2]? = some (.int .i64 y.1)
 c4:(fcells L)[q * 2 + 1]? = some (.int .i64 y.2)
 s1:((((fcells L).set (p * 2) (.int .i64 y.1)).set (p * 2 + 1) (.int .i64 y.2)).set (q * 2) (.int .i64 x.1)).set (q * 2 + 1) (.int .i64 x.2) = fcells L'
 s2:((((fcells L).set (q * 2) (.int .i64 x.1)).set (q * 2 + 1) (.int .i64 x.2)).set (p * 2) (.int .i64 y.1)).set (p * 2 + 1) (.int .i64 y.2) = fcells L'
theorem swap_ok (U V W:List (Int × Int)) (x y:Int × Int) (p q:Nat) (hp:U.length = p) (hq:p + 1 + V.length = q):SwapOk (U ++ x :: (V ++ y :: W)) (U ++ y :: (V ++ x :: W)) p q x y:=by
 have hl:(U ++ x :: (V ++ y :: W)).length = p + 1 + V.length + 1 + W.length:=by simp;omega
 have hpL:p < (U ++ x :: (V ++ y :: W)).length:=by omega
 have hqL:q < (U ++ x :: (V ++ y :: W)).length:=by omega
 have e1:(U ++ x :: (V ++ y :: W))[p] = x:=by
  rw [List.getElem_append_right (by omega)]
  simp [hp]
 have e2:(U ++ x :: (V ++ y :: W))[q] = y:=by
  rw [List.getElem_append_right (by omega)]
  have:q - U.length = V.length + 1:=by omega
  simp [this]
 obtain ⟨a1,a2⟩:=fcells_get _ p hpL
 obtain ⟨a3,a4⟩:=fcells_get _ q hqL
 rw [e1] at a1 a2
 rw [e2] at a3 a4
 have k1:((U ++ x :: (V ++ y :: W)).set p y).set q x = U ++ y :: (V ++ x :: W):=by
  rw [List.set_append_right _ _ (by omega),show p - U.length = 0 by omega,List.set_cons_zero,List.set_append_right _ _ (by omega),show q - U.length = V.length + 1 by omega,List.set_cons_succ,List.set_append_right _ _ (by omega),Nat.sub_self,List.set_cons_zero]
 have k2:((U ++ x :: (V ++ y :: W)).set q x).set p y = U ++ y :: (V ++ x :: W):=by rw [List.set_comm _ _ (by omega),k1]
 refine ⟨a1,a2,a3,a4,?_,?_⟩
 ·rw [fset2 _ p hpL,fset2 _ q (by rw [List.length_set];exact hqL),k1]
 ·rw [fset2 _ q hqL,fset2 _ p (by rw [List.length_set];exact hpL),k2]
theorem drop_cons2 (l:List (Int × Int)) (i:Nat) (h:i < l.length):l.drop i = l[i] :: l.drop (i + 1):=List.drop_eq_getElem_cons h
theorem swapRange_any (base:Nat) (A0:Option Addr) (N c:Nat) (P X M Y T:List (Int × Int)) (w:World) (a b n:Nat) (ha:P.length = a) (hb:a + X.length + M.length = b) (hX:X.length = n) (hY:Y.length = n) (hN:P.length + X.length + M.length + Y.length + T.length = N) (hN3:N≤1000)
 (ho:Own w base 262 2 A0 N c (fcells (P ++ (X ++ (M ++ (Y ++ T)))))) (hbs:base≤w.heap.size) :
 Calls Tryz.prog 213 #[.slice A0 N c,.int .i64 a,.int .i64 b,.int .i64 n,.func (.func 200) #[] #[]] w fun e w'=>e = .returned (.tuple #[])∧Own w' base 262 2 A0 N c (fcells (P ++ (Y ++ (M ++ (X ++ T)))))∧Below base w w':=by
 have hbn:b + n≤N:=by omega
 have han:a + n≤b:=by omega
 have HA:=Lib.hid ha
 have HB0:=Lib.hid hb
 have HX:=Lib.hid hX
 have HY:=Lib.hid hY
 clear ha hb hX hY hN
 go_enter Tryz.func213,Tryz.ntmps213
 go_wp2_with fail
 go_loopw [10] (fun s wr=>∃ i:Nat,s = .int .i64 i∧i≤n∧Own wr base 262 2 A0 N c (fcells (P ++ (Y.take i ++ (X.drop i ++ (M ++ (X.take i ++ (Y.drop i ++ T)))))))∧Below base w wr) (fun s _=>n - (intOf s).toNat)
 case atStart=>exact ⟨0,rfl,by omega,by simpa using ho,Below.refl _ _⟩
 case round =>
  clear ho
  obtain ⟨i,rfl,hi,o2,HB⟩:=hrel
  have hz:=HB.size
  by_cases hlt:i < n
  ·obtain ⟨g,rfl⟩:∃ g,A0 = some ⟨g,0,none⟩:=by
    rcases o2.shape with ⟨_,h0,_⟩ | ⟨g,e,_⟩
    ·omega
    ·exact ⟨g,e⟩
   have hg0:base≤g:=(o2.blk g rfl).1
   have hiX:i < X.length:=by rw [HX.out];exact hlt
   have hiY:i < Y.length:=by rw [HY.out];exact hlt
   obtain ⟨p,hp⟩:∃ p,a + i = p:=⟨_,rfl⟩
   obtain ⟨q,hq⟩:∃ q,b + i = q:=⟨_,rfl⟩
   obtain ⟨x,hx⟩:∃ x,X[i] = x:=⟨_,rfl⟩
   obtain ⟨y,hy⟩:∃ y,Y[i] = y:=⟨_,rfl⟩
   have HS:=swap_ok (P ++ Y.take i) (X.drop (i + 1) ++ (M ++ X.take i)) (Y.drop (i + 1) ++ T) x y p q (by rw [List.length_append,List.length_take,HA.out];omega) (by simp only [List.length_append,List.length_take,List.length_drop];have:=HX.out;have:=HB0.out;omega)
   have eL:P ++ (Y.take i ++ (X.drop i ++ (M ++ (X.take i ++ (Y.drop i ++ T))))) = (P ++ Y.take i) ++ x :: (X.drop (i + 1) ++ (M ++ X.take i) ++ y :: (Y.drop (i + 1) ++ T)):=by
    rw [drop_cons2 X i hiX,drop_cons2 Y i hiY,hx,hy];simp
   have eR:(P ++ Y.take i) ++ y :: (X.drop (i + 1) ++ (M ++ X.take i) ++ x :: (Y.drop (i + 1) ++ T)) = P ++ (Y.take (i + 1) ++ (X.drop (i + 1) ++ (M ++ (X.take (i + 1) ++ (Y.drop (i + 1) ++ T))))):=by
    rw [List.take_succ_eq_append_getElem hiX,List.take_succ_eq_append_getElem hiY,hx,hy];simp
   rw [eL] at o2
   rw [eR] at HS
   obtain ⟨L,hL⟩:∃ L,(P ++ Y.take i) ++ x :: (X.drop (i + 1) ++ (M ++ X.take i) ++ y :: (Y.drop (i + 1) ++ T)) = L:=⟨_,rfl⟩
   obtain ⟨L',hL'⟩:∃ L',P ++ (Y.take (i + 1) ++ (X.drop (i + 1) ++ (M ++ (X.take (i + 1) ++ (Y.drop (i + 1) ++ T))))) = L':=⟨_,rfl⟩
   rw [hL,hL'] at HS
   rw [hL] at o2
   have HL':=Lib.hid hL'
   obtain ⟨x1,x2⟩:=x
   obtain ⟨y1,y2⟩:=y
   have SW:=Lib.hid HS
   have hp1:IntKind.i64.wrap ((a:Int) + (i:Int)) = (p:Int):=(w64k (by omega) (by omega)).trans (by omega)
   have hq1:IntKind.i64.wrap ((b:Int) + (i:Int)) = (q:Int):=(w64k (by omega) (by omega)).trans (by omega)
   have hp2:(0:Int)≤(p:Int):=by omega
   have hq2:(0:Int)≤(q:Int):=by omega
   have hp3:(p:Int) < (N:Int):=by omega
   have hq3:(q:Int) < (N:Int):=by omega
   have hpN:p < N:=by omega
   have hqN:q < N:=by omega
   have hiI:(i:Int) < (n:Int):=by omega
   have hi1:IntKind.i64.wrap ((i:Int) + 1) = (i:Int) + 1:=w64k (by omega) (by omega)
   clear HS hL hL' eL eR hx hy hiX hiY hp hq
   go_wp2_with fail
   refine wp_region_held_drew (S:=(fun _=>True)) (by kernel_rfl) ?_ (fun hHeld=>?_)
   ·replace HB:=Below.drew HB;replace o2:=Own.drew o2;(try dsimp only);try trivial
   replace HB:=Below.drew HB
   replace o2:=Own.drew o2
   have zHB:=HB.size
   refine zM 0 (.tmp 0) ?_
   refine zM 1 (.tmp 1) ?_
   refine zM 2 (.tmp 10) ?_
   refine zO 3 (.binOp .add 3 (.tmp 17) (.tmp 18) 3) 3 ?_
   refine zM 4 (.tmp 0) ?_
   refine zM 5 (.tmp 2) ?_
   refine zM 6 (.tmp 10) ?_
   refine zO 7 (.binOp .add 3 (.tmp 21) (.tmp 22) 3) 3 ?_
   refine zM 8 (.tmp 0) ?_
   refine zM 9 (.tmp 2) ?_
   refine zM 10 (.tmp 10) ?_
   refine zO 11 (.binOp .add 3 (.tmp 25) (.tmp 26) 3) 3 ?_
   refine zO 12 (.indexAddr 259 (.tmp 24) (.tmp 27)) 0 ?_
   refine zM 14 (.tmp 0) ?_
   refine zM 15 (.tmp 1) ?_
   refine zM 16 (.tmp 10) ?_
   refine zO 17 (.binOp .add 3 (.tmp 31) (.tmp 32) 3) 3 ?_
   refine zO 18 (.indexAddr 259 (.tmp 30) (.tmp 33)) 0 ?_
   refine wpAnyH_ready (rs:=[13,19]) (by kernel_rfl) (by simp) (AllReadyH.cons rfl (fun K13 hK13=>?ku1x13) (AllReadyH.cons rfl (fun K19 hK19=>?ku1x19) AllReadyH.nil))
   case ku1x13 =>
    refine take_any 13 (Op.load 262 (Operand.tmp 28)) 262 rfl rfl rfl (by kernel_rfl) (v:=.agg #[.int .i64 y1,.int .i64 y2]) (by have k1:wr.cell? ⟨g,q * 2,none⟩ = _:=own_cell o2 _ SW.out.c3;have k2:wr.cell? ⟨g,q * 2 + 1,none⟩ = _:=own_cell o2 _ SW.out.c4;go_simp;try (with_reducible rfl)) ?_
    refine hK13.out _ _ ?su1xb1x13 (fun hHeld=>?ru1xb1x13)
    case su1xb1x13=>((try dsimp only);try trivial)
    try simp only [zSa,zSb,zSc]
    refine zR 19 (fun K19 hK19=>?_)
    refine take_any 19 (Op.load 262 (Operand.tmp 34)) 262 rfl rfl rfl (by kernel_rfl) (v:=.agg #[.int .i64 x1,.int .i64 x2]) (by have k1:wr.cell? ⟨g,p * 2,none⟩ = _:=own_cell o2 _ SW.out.c1;have k2:wr.cell? ⟨g,p * 2 + 1,none⟩ = _:=own_cell o2 _ SW.out.c2;go_simp;try (with_reducible rfl)) ?_
    refine hK19.out _ _ ?su1xb1x19 (fun hHeld=>?ru1xb1x19)
    case su1xb1x19=>((try dsimp only);try trivial)
    try simp only [zSa,zSb,zSc]
    refine zO 20 (.indexAddr 259 (.tmp 16) (.tmp 19)) 0 ?_
    refine zR 21 (fun K21 hK21=>?_)
    refine take_store 21 (Op.store 262 (Operand.tmp 36) (Operand.tmp 29)) 0 rfl rfl rfl (by kernel_rfl) (w':=(wr.drew.setCell ⟨g,p * 2,none⟩ (.int .i64 y1)).setCell ⟨g,p * 2 + 1,none⟩ (.int .i64 y2)) (by have f:=own_thaw o2;have hfl:=o2.len;obtain ⟨v1,hv1⟩:∃ v1,_:=own_has o2 (p * 2) (by omega);obtain ⟨v2,hv2⟩:∃ v2,_:=own_has o2 (p * 2 + 1) (by omega);(try simp only [World.cell?_drew,World.frozen?_drew] at f hv1 hv2);go_simp;try (with_reducible rfl)) ?_
    refine hK21.out _ _ (trivial) (fun hHeld=>?_)
    replace o2:=(o2.set (k:=p * 2) (.int .i64 y1)).set (k:=p * 2 + 1) (.int .i64 y2)
    replace HB:=(HB.setCell (p:=⟨g,p * 2,none⟩) hg0 (.int .i64 y1)).setCell (p:=⟨g,p * 2 + 1,none⟩) hg0 (.int .i64 y2)
    generalize ((wr.drew.setCell ⟨g,p * 2,none⟩ (.int .i64 y1)).setCell ⟨g,p * 2 + 1,none⟩ (.int .i64 y2)) = wq at *
    refine zO 22 (.indexAddr 259 (.tmp 20) (.tmp 23)) 0 ?_
    refine zR 23 (fun K23 hK23=>?_)
    refine take_store 23 (Op.store 262 (Operand.tmp 37) (Operand.tmp 35)) 0 rfl rfl rfl (by kernel_rfl) (w':=(wq.setCell ⟨g,q * 2,none⟩ (.int .i64 x1)).setCell ⟨g,q * 2 + 1,none⟩ (.int .i64 x2)) (by have f:=own_thaw o2;have hfl:=o2.len;obtain ⟨v1,hv1⟩:∃ v1,_:=own_has o2 (q * 2) (by omega);obtain ⟨v2,hv2⟩:∃ v2,_:=own_has o2 (q * 2 + 1) (by omega);(try simp only [World.cell?_drew,World.frozen?_drew] at f hv1 hv2);go_simp;try (with_reducible rfl)) ?_
    refine hK23.out _ _ (trivial) (fun hHeld=>?_)
    replace o2:=(o2.set (k:=q * 2) (.int .i64 x1)).set (k:=q * 2 + 1) (.int .i64 x2)
    replace HB:=(HB.setCell (p:=⟨g,q * 2,none⟩) hg0 (.int .i64 x1)).setCell (p:=⟨g,q * 2 + 1,none⟩) hg0 (.int .i64 x2)
    generalize ((wq.setCell ⟨g,q * 2,none⟩ (.int .i64 x1)).setCell ⟨g,q * 2 + 1,none⟩ (.int .i64 x2)) = wq at *
    refine wpAnyH_done (by kernel_rfl) ?_ _
    clear hHeld
    have o3:Own wq base 262 2 (some ⟨g,0,none⟩) N c (fcells L'):=by first | exact SW.out.s1 ▸ o2 | exact SW.out.s2 ▸ o2
    go_wp2_with fail
    go_roundw
    case rel=>exact ⟨i + 1,by go_num,by omega,by rw [HL'.out];exact o3,HB⟩
    case measure=>simp [intOf];omega
   case ku1x19 =>
    refine take_any 19 (Op.load 262 (Operand.tmp 34)) 262 rfl rfl rfl (by kernel_rfl) (v:=.agg #[.int .i64 x1,.int .i64 x2]) (by have k1:wr.cell? ⟨g,p * 2,none⟩ = _:=own_cell o2 _ SW.out.c1;have k2:wr.cell? ⟨g,p * 2 + 1,none⟩ = _:=own_cell o2 _ SW.out.c2;go_simp;try (with_reducible rfl)) ?_
    refine hK19.out _ _ ?su1xb5x19 (fun hHeld=>?ru1xb5x19)
    case su1xb5x19=>((try dsimp only);try trivial)
    try simp only [zSa,zSb,zSc]
    refine zR 13 (fun K13 hK13=>?_)
    refine take_any 13 (Op.load 262 (Operand.tmp 28)) 262 rfl rfl rfl (by kernel_rfl) (v:=.agg #[.int .i64 y1,.int .i64 y2]) (by have k1:wr.cell? ⟨g,q * 2,none⟩ = _:=own_cell o2 _ SW.out.c3;have k2:wr.cell? ⟨g,q * 2 + 1,none⟩ = _:=own_cell o2 _ SW.out.c4;go_simp;try (with_reducible rfl)) ?_
    refine hK13.out _ _ ?su1xb5x13 (fun hHeld=>?ru1xb5x13)
    case su1xb5x13=>((try dsimp only);try trivial)
    try simp only [zSa,zSb,zSc]
    refine zO 20 (.indexAddr 259 (.tmp 16) (.tmp 19)) 0 ?_
    refine zR 21 (fun K21 hK21=>?_)
    refine take_store 21 (Op.store 262 (Operand.tmp 36) (Operand.tmp 29)) 0 rfl rfl rfl (by kernel_rfl) (w':=(wr.drew.setCell ⟨g,p * 2,none⟩ (.int .i64 y1)).setCell ⟨g,p * 2 + 1,none⟩ (.int .i64 y2)) (by have f:=own_thaw o2;have hfl:=o2.len;obtain ⟨v1,hv1⟩:∃ v1,_:=own_has o2 (p * 2) (by omega);obtain ⟨v2,hv2⟩:∃ v2,_:=own_has o2 (p * 2 + 1) (by omega);(try simp only [World.cell?_drew,World.frozen?_drew] at f hv1 hv2);go_simp;try (with_reducible rfl)) ?_
    refine hK21.out _ _ (trivial) (fun hHeld=>?_)
    replace o2:=(o2.set (k:=p * 2) (.int .i64 y1)).set (k:=p * 2 + 1) (.int .i64 y2)
    replace HB:=(HB.setCell (p:=⟨g,p * 2,none⟩) hg0 (.int .i64 y1)).setCell (p:=⟨g,p * 2 + 1,none⟩) hg0 (.int .i64 y2)
    generalize ((wr.drew.setCell ⟨g,p * 2,none⟩ (.int .i64 y1)).setCell ⟨g,p * 2 + 1,none⟩ (.int .i64 y2)) = wq at *
    refine zO 22 (.indexAddr 259 (.tmp 20) (.tmp 23)) 0 ?_
    refine zR 23 (fun K23 hK23=>?_)
    refine take_store 23 (Op.store 262 (Operand.tmp 37) (Operand.tmp 35)) 0 rfl rfl rfl (by kernel_rfl) (w':=(wq.setCell ⟨g,q * 2,none⟩ (.int .i64 x1)).setCell ⟨g,q * 2 + 1,none⟩ (.int .i64 x2)) (by have f:=own_thaw o2;have hfl:=o2.len;obtain ⟨v1,hv1⟩:∃ v1,_:=own_has o2 (q * 2) (by omega);obtain ⟨v2,hv2⟩:∃ v2,_:=own_has o2 (q * 2 + 1) (by omega);(try simp only [World.cell?_drew,World.frozen?_drew] at f hv1 hv2);go_simp;try (with_reducible rfl)) ?_
    refine hK23.out _ _ (trivial) (fun hHeld=>?_)
    replace o2:=(o2.set (k:=q * 2) (.int .i64 x1)).set (k:=q * 2 + 1) (.int .i64 x2)
    replace HB:=(HB.setCell (p:=⟨g,q * 2,none⟩) hg0 (.int .i64 x1)).setCell (p:=⟨g,q * 2 + 1,none⟩) hg0 (.int .i64 x2)
    generalize ((wq.setCell ⟨g,q * 2,none⟩ (.int .i64 x1)).setCell ⟨g,q * 2 + 1,none⟩ (.int .i64 x2)) = wq at *
    refine wpAnyH_done (by kernel_rfl) ?_ _
    clear hHeld
    have o3:Own wq base 262 2 (some ⟨g,0,none⟩) N c (fcells L'):=by first | exact SW.out.s1 ▸ o2 | exact SW.out.s2 ▸ o2
    go_wp2_with fail
    go_roundw
    case rel=>exact ⟨i + 1,by go_num,by omega,by rw [HL'.out];exact o3,HB⟩
    case measure=>simp [intOf];omega
  ·have hiI:¬ (i:Int) < (n:Int):=by omega
   obtain rfl:i = n:=by omega
   go_wp2_with fail
   go_end0
   refine ⟨rfl,?_,HB⟩
   rw [List.take_of_length_le (l:=X) (Nat.le_of_eq HX.out),List.take_of_length_le (l:=Y) (Nat.le_of_eq HY.out),List.drop_of_length_le (l:=X) (Nat.le_of_eq HX.out),List.drop_of_length_le (l:=Y) (Nat.le_of_eq HY.out)] at o2
   simpa using o2
end LenW
end Go.Proofs.YtnpncpoiiikafaaGreat
namespace Go.Proofs.YtnpncpoiiikafaaGreat
open Go.RowKit
namespace LenW
theorem rotate_any (base:Nat) (A0:Option Addr) (N c:Nat) (P X Y T:List (Int × Int)) (w:World) (a m b:Nat) (ha:P.length = a) (hm:a + X.length = m) (hb:m + Y.length = b) (hX:1≤X.length) (hY:1≤Y.length) (hN:P.length + X.length + Y.length + T.length = N) (hN3:N≤1000)
 (ho:Own w base 262 2 A0 N c (fcells (P ++ (X ++ (Y ++ T))))) (hbs:base≤w.heap.size) :
 Calls Tryz.prog 212 #[.slice A0 N c,.int .i64 a,.int .i64 m,.int .i64 b,.func (.func 200) #[] #[]] w fun e w'=>e = .returned (.tuple #[])∧Own w' base 262 2 A0 N c (fcells (P ++ (Y ++ (X ++ T))))∧Below base w w':=by
 obtain ⟨i0,hi0⟩:∃ i,X.length = i:=⟨_,rfl⟩
 obtain ⟨j0,hj0⟩:∃ j,Y.length = j:=⟨_,rfl⟩
 obtain ⟨t0,ht0⟩:∃ t,T.length = t:=⟨_,rfl⟩
 rw [hi0] at hm hX hN
 rw [hj0] at hb hY hN
 rw [ht0,ha] at hN
 have hbN:b≤N:=by omega
 have hmb:m≤b:=by omega
 have hw1:IntKind.i64.wrap ((m:Int) - (a:Int)) = (i0:Int):=(w64k (by omega) (by omega)).trans (by omega)
 have hw2:IntKind.i64.wrap ((b:Int) - (m:Int)) = (j0:Int):=(w64k (by omega) (by omega)).trans (by omega)
 have HI0:=Lib.hid hi0
 have HJ0:=Lib.hid hj0
 have HA:=Lib.hid ha
 have hiN:a + i0 + j0≤N:=by omega
 have HM:=Lib.hid hm
 clear hi0 hj0 ht0 ha hm hb hN
 go_enter Tryz.func212,Tryz.ntmps212
 go_wp2_with fail
 go_loopw [10,11] (fun s r wr=>∃ (i j u:Nat) (P' X' Y' T':List (Int × Int)),s = .int .i64 i∧r = .int .i64 j∧X'.length = i∧Y'.length = j∧P'.length = u∧u + i = m∧1≤i∧1≤j∧u + i + j≤N∧u + i + j + T'.length = N∧Own wr base 262 2 A0 N c (fcells (P' ++ (X' ++ (Y' ++ T'))))∧P' ++ (Y' ++ (X' ++ T')) = P ++ (Y ++ (X ++ T))∧Below base w wr) (fun s r _=>(intOf s).toNat + (intOf r).toNat)
 case atStart=>exact ⟨i0,j0,a,P,X,Y,T,rfl,rfl,HI0.out,HJ0.out,HA.out,HM.out,by omega,by omega,by omega,by have:=ho.len;rw [fcells_len] at this;simp only [List.length_append] at this;have:=HI0.out;have:=HJ0.out;have:=HA.out;omega,ho,rfl,Below.refl _ _⟩
 case round =>
  clear ho
  obtain ⟨i,j,u,P',X',Y',T',rfl,rfl,hX',hY',hP',hum,hi1,hj1,huN,hNN,o2,hE,HB⟩:=hrel
  have hz:=HB.size
  have HX':=Lib.hid hX'
  have HY':=Lib.hid hY'
  have HP':=Lib.hid hP'
  have HE:=Lib.hid hE
  have HU:=Lib.hid hum
  have hu1:u + i≤m:=Nat.le_of_eq hum
  have hu2:m≤u + i:=Nat.le_of_eq hum.symm
  have HNN:=Lib.hid hNN
  have hmi:IntKind.i64.wrap ((m:Int) - (i:Int)) = (u:Int):=(w64k (by omega) (by omega)).trans (by omega)
  clear hX' hY' hP' hE hum hNN
  by_cases hij:i = j
  ·have hd:(i != j) = false:=by simp [hij]
   subst hij
   have C:=swapRange_any base A0 N c P' X' [] Y' T' wr u m i HP'.out (by have:=HX'.out;have:=HU.out;simp;omega) HX'.out HY'.out (by have:=HX'.out;have:=HY'.out;have:=HP'.out;have:=HNN.out;simp;omega) hN3 (by simpa using o2) (by omega)
   go_wp2_with fail
   refine C.mono ?_
   rintro e w2 ⟨rfl,o3,hb3⟩
   go_wp2_with fail
   go_end0
   refine ⟨rfl,?_,HB.trans hb3⟩
   rw [← HE.out]
   simpa using o3
  ·have hneI:¬ (i:Int) = (j:Int):=by omega
   by_cases hgt:j < i
   ·have hgtI:(j:Int) < (i:Int):=by omega
    obtain ⟨X1,X2,hXX,hX1⟩:∃ X1 X2,X' = X1 ++ X2∧X1.length = j:=⟨X'.take j,X'.drop j,(List.take_append_drop _ _).symm,by rw [List.length_take,HX'.out];omega⟩
    have hX2:X2.length = i - j:=by have:=HX'.out;rw [hXX,List.length_append] at this;omega
    have hw3:IntKind.i64.wrap ((i:Int) - (j:Int)) = ((i - j:Nat):Int):=(w64k (by omega) (by omega)).trans (by omega)
    have C:=swapRange_any base A0 N c P' X1 X2 Y' T' wr u m j HP'.out (by have:=HU.out;omega) hX1 HY'.out (by have:=HY'.out;have:=HP'.out;have:=HNN.out;omega) hN3 (by rw [hXX] at o2;simpa using o2) (by omega)
    have HXX:=Lib.hid hXX
    have HX1:=Lib.hid hX1
    have HX2:=Lib.hid hX2
    obtain ⟨d,hd⟩:∃ d,i - j = d:=⟨_,rfl⟩
    rw [hd] at hw3 HX2
    have hd1:d + j≤i:=by omega
    have hd2:i≤d + j:=by omega
    clear hXX hX1 hX2 hd
    go_wp2_with fail
    refine C.mono ?_
    rintro e w2 ⟨rfl,o3,hb3⟩
    go_wp2_with fail
    go_roundw
    case rel=>exact ⟨d,j,u + j,P' ++ Y',X2,X1,T',by simp,rfl,HX2.out,HX1.out,by rw [List.length_append,HP'.out,HY'.out],by omega,by omega,by omega,by omega,by have:=HNN.out;omega,by simpa using o3,by rw [← HE.out,HXX.out];simp,HB.trans hb3⟩
    case measure=>simp [intOf];omega
   ·have hgtI:¬ (j:Int) < (i:Int):=by omega
    obtain ⟨Y1,Y2,hYY,hY1⟩:∃ Y1 Y2,Y' = Y1 ++ Y2∧Y1.length = j - i:=⟨Y'.take (j - i),Y'.drop (j - i),(List.take_append_drop _ _).symm,by rw [List.length_take,HY'.out];omega⟩
    have hY2:Y2.length = i:=by have:=HY'.out;rw [hYY,List.length_append] at this;omega
    obtain ⟨d,hd⟩:∃ d,j - i = d:=⟨_,rfl⟩
    obtain ⟨q,hq⟩:∃ q,m + d = q:=⟨_,rfl⟩
    rw [hd] at hY1
    have hw3:IntKind.i64.wrap ((j:Int) - (i:Int)) = (d:Int):=(w64k (by omega) (by omega)).trans (by omega)
    have hw4:IntKind.i64.wrap ((m:Int) + (j:Int)) = (m:Int) + (j:Int):=w64k (by omega) (by omega)
    have hw5:IntKind.i64.wrap ((m:Int) + (j:Int) - (i:Int)) = (q:Int):=(w64k (by omega) (by omega)).trans (by omega)
    have C:=swapRange_any base A0 N c P' X' Y1 Y2 T' wr u q i HP'.out (by have:=HU.out;have:=HX'.out;omega) HX'.out hY2 (by have:=HX'.out;have:=HP'.out;have:=HNN.out;omega) hN3 (by rw [hYY] at o2;simpa using o2) (by omega)
    have HYY:=Lib.hid hYY
    have HY1:=Lib.hid hY1
    have HY2:=Lib.hid hY2
    have hd1:d + i≤j:=by omega
    have hd2:j≤d + i:=by omega
    clear hYY hY1 hY2 hd hq
    go_wp2_with fail
    refine C.mono ?_
    rintro e w2 ⟨rfl,o3,hb3⟩
    go_wp2_with fail
    go_roundw
    case rel=>exact ⟨i,d,u,P',Y2,Y1,X' ++ T',rfl,by simp,HY2.out,HY1.out,HP'.out,HU.out,by omega,by omega,by omega,by rw [List.length_append,HX'.out];have:=HNN.out;omega,by simpa using o3,by rw [← HE.out,HYY.out];simp,HB.trans hb3⟩
    case measure=>simp [intOf];omega
end LenW
end Go.Proofs.YtnpncpoiiikafaaGreat
namespace Go.Proofs.YtnpncpoiiikafaaGreat
open Go.RowKit
namespace LenW
def MergeOk (base:Nat) (A0:Option Addr) (N c:Nat) (P M1 M2 T:List (Int × Int)) (w:World) (a m b:Nat):Prop :=
 Calls Tryz.prog 210 #[.slice A0 N c,.int .i64 a,.int .i64 m,.int .i64 b,.func (.func 200) #[] #[]] w fun e w'=>e = .returned (.tuple #[])∧Own w' base 262 2 A0 N c (fcells (P ++ (sortW (M1 ++ M2) ++ T)))∧Below base w w'
theorem cells_at (L:List (Int × Int)) (h:Nat) (hL:h < L.length) (x:Int × Int) (hx:L[h] = x):(fcells L)[h * 2]? = some (.int .i64 x.1)∧(fcells L)[h * 2 + 1]? = some (.int .i64 x.2):=by
 subst hx
 exact fcells_get L h hL
theorem up_get {l:List (Int × Int)} (h:upW l) (i j:Nat) (hij:i≤j) (hj:j < l.length):(l[i]'(by omega)).1≤(l[j]).1:=by
 rcases Nat.lt_or_ge i j with h1 | h1
 ·exact List.pairwise_iff_getElem.1 h i j (by omega) hj h1
 ·obtain rfl:i = j:=by omega
  exact Int.le_refl _
theorem sym_one (base:Nat) (A0:Option Addr) (N c:Nat) (P M2 T:List (Int × Int)) (x:Int × Int) (w:World) (a m b:Nat) (ha:P.length = a) (hm:a + 1 = m) (hb:m + M2.length = b) (hN:P.length + 1 + M2.length + T.length = N) (hN3:N≤1000)
 (hM2:upW M2) (ho:Own w base 262 2 A0 N c (fcells (P ++ (x :: (M2 ++ T))))) (hbs:base≤w.heap.size):MergeOk base A0 N c P [x] M2 T w a m b:=by
 unfold MergeOk
 obtain ⟨l2,hl2⟩:∃ l,M2.length = l:=⟨_,rfl⟩
 obtain ⟨t0,ht0⟩:∃ t,T.length = t:=⟨_,rfl⟩
 rw [hl2] at hb hN
 rw [ht0,ha] at hN
 have hbN:b≤N:=by omega
 have ham1:a + 1≤m:=by omega
 have ham2:m≤a + 1:=by omega
 have hmb1:m + l2≤b:=by omega
 have hmb2:b≤m + l2:=by omega
 have hw1:IntKind.i64.wrap ((m:Int) - (a:Int)) = 1:=(w64k (by omega) (by omega)).trans (by omega)
 have HL2:=Lib.hid hl2
 have HA:=Lib.hid ha
 have HT0:=Lib.hid ht0
 have HN:=Lib.hid hN
 have HM2:=Lib.hid hM2
 clear hl2 ha ht0 hm hb hN hM2
 obtain ⟨x1,x2⟩:=x
 obtain ⟨g,rfl⟩:∃ g,A0 = some ⟨g,0,none⟩:=by
  rcases ho.shape with ⟨_,h0,_⟩ | ⟨g,e,_⟩
  ·omega
  ·exact ⟨g,e⟩
 have hg0:base≤g:=(ho.blk g rfl).1
 go_enter Tryz.func210,Tryz.ntmps210
 go_wp2_with fail
 go_loopw [10,11] (fun s r wr=>∃ i j:Nat,s = .int .i64 i∧r = .int .i64 j∧m≤i∧i≤j∧j≤b∧(∀ t (ht:t < M2.length),t + m < i → (M2[t]).1 < x1)∧(∀ t (ht:t < M2.length),j≤t + m → x1≤(M2[t]).1)∧Own wr base 262 2 (some ⟨g,0,none⟩) N c (fcells (P ++ ((x1,x2) :: (M2 ++ T))))∧Below base w wr) (fun s r _=>(intOf r).toNat - (intOf s).toNat)
 case atStart=>exact ⟨m,b,rfl,rfl,Nat.le_refl _,by omega,Nat.le_refl _,fun t _ h=>absurd h (by omega),fun t ht h=>absurd h (by have:=HL2.out;omega),ho,Below.refl _ _⟩
 case round =>
  clear ho
  obtain ⟨i,j,rfl,rfl,hi,hij,hj,hlo,hhi,o2,HB⟩:=hrel
  have hz:=HB.size
  have HLO:=Lib.hid hlo
  have HHI:=Lib.hid hhi
  clear hlo hhi
  by_cases hlt:i < j
  ·have hltI:(i:Int) < (j:Int):=by omega
   obtain ⟨h,hh⟩:∃ h,(i + j) / 2 = h:=⟨_,rfl⟩
   have hh1:i≤h:=by omega
   have hh2:h < j:=by omega
   have hij1:IntKind.i64.wrap ((i:Int) + (j:Int)) = ((i + j:Nat):Int):=(w64k (by omega) (by omega)).trans (by omega)
   have hhI:((i:Int) + (j:Int)) / 2 = (h:Int):=by omega
   obtain ⟨t,ht⟩:∃ t,h = m + t:=⟨h - m,by omega⟩
   have htl:t < M2.length:=by have:=HL2.out;omega
   obtain ⟨z,hz0⟩:∃ z,M2[t] = z:=⟨_,rfl⟩
   have hLl:(P ++ ((x1,x2) :: (M2 ++ T))).length = N:=by have:=o2.len;rw [fcells_len] at this;omega
   have e1:(P ++ ((x1,x2) :: (M2 ++ T)))[h]'(by omega) = z:=by
    rw [List.getElem_append_right (by have:=HA.out;omega)]
    have:h - P.length = t + 1:=by have:=HA.out;omega
    simp only [this,List.getElem_cons_succ]
    rw [List.getElem_append_left htl,hz0]
   have e2:(P ++ ((x1,x2) :: (M2 ++ T)))[a]'(by omega) = (x1,x2):=by
    rw [List.getElem_append_right (by have:=HA.out;omega)]
    have:a - P.length = 0:=by have:=HA.out;omega
    simp only [this,List.getElem_cons_zero]
   have K1:=cells_at _ h (by omega) z e1
   have K2:=cells_at _ a (by omega) (x1,x2) e2
   obtain ⟨z1,z2⟩:=z
   dsimp only at K1 K2
   have KK:=Lib.hid (And.intro K1 K2)
   have UP:=HM2.out
   have HZ:=Lib.hid hz0
   have HT:=Lib.hid ht
   have hLO:Lib.hid UP = Lib.hid UP:=rfl
   obtain ⟨v,hv⟩:∃ v,cmpV z1 x1 = v:=⟨_,rfl⟩
   have hvl:=cmpV_lt z1 x1
   rw [hv] at hvl
   have HVL:=Lib.hid hvl
   have HT1:=Lib.hid htl
   have hh0:(0:Int)≤(h:Int):=by omega
   have ha0:(0:Int)≤(a:Int):=by omega
   have hhN:(h:Int) < (N:Int):=by omega
   have haN:(a:Int) < (N:Int):=by omega
   have hh3:IntKind.i64.wrap ((h:Int) + 1) = (h:Int) + 1:=w64k (by omega) (by omega)
   clear hh K1 K2 e1 e2 hz0 ht hvl hLO UP hLl
   by_cases hv0:v < 0
   ·have hzx:=HVL.out.1 hv0
    have HLO2:=Lib.hid (show ∀ t' (ht:t' < M2.length),t' + m < h + 1 → (M2[t']).1 < x1 from fun t' ht' hle=>by
     have h1:=up_get HM2.out t' t (by have:=HT.out;omega) HT1.out
     rw [HZ.out] at h1
     dsimp only at h1
     omega)
    clear hzx
    go_wp2_with fail
    refine wp_region_held_drew (S:=(fun w'=>w'.cell? ⟨g,h * 2,none⟩ = some (.int .i64 z1)∧w'.cell? ⟨g,h * 2 + 1,none⟩ = some (.int .i64 z2)∧w'.cell? ⟨g,a * 2,none⟩ = some (.int .i64 x1)∧w'.cell? ⟨g,a * 2 + 1,none⟩ = some (.int .i64 x2))) (by kernel_rfl) ?_ (fun hHeld=>?_)
    ·replace HB:=Below.drew HB;replace o2:=Own.drew o2;(try dsimp only);exact ⟨own_cell o2 _ KK.out.1.1,own_cell o2 _ KK.out.1.2,own_cell o2 _ KK.out.2.1,own_cell o2 _ KK.out.2.2⟩
    replace HB:=Below.drew HB
    replace o2:=Own.drew o2
    have zHB:=HB.size
    refine zM 0 (.tmp 4) ?_
    refine zM 1 (.tmp 0) ?_
    refine zM 2 (.tmp 12) ?_
    refine zO 3 (.indexAddr 259 (.tmp 41) (.tmp 42)) 0 ?_
    refine zO 4 (.load 262 (.tmp 43)) 262 ?_
    refine zM 5 (.tmp 0) ?_
    refine zM 6 (.tmp 1) ?_
    refine zO 7 (.indexAddr 259 (.tmp 45) (.tmp 46)) 0 ?_
    refine zO 8 (.load 262 (.tmp 47)) 262 ?_
    refine zR 9 (fun K9 hK9=>?_)
    refine take_callv 9 200 40 [Operand.tmp 44,Operand.tmp 48] #[262,262] rfl rfl (by kernel_rfl) rfl (fun args w=>run_enter Tryz.func200 (by kernel_rfl) rfl args w) ?_
    refine (against_any z1 z2 x1 x2 _ v hv).mono ?_
    rintro e w9 ⟨rfl,hb9⟩
    refine ⟨_,rfl,?_⟩
    have z9:=hb9.size
    try simp only [World.size_drew] at z9
    replace HB:=HB.trans (hb9.mono (by first | exact HB.size | omega))
    have zHB9:=HB.size
    replace o2:=Own.below o2 hb9
    refine hK9.out _ _ ?su2x9 (fun hHeld=>?ru2x9)
    case su2x9=>((try dsimp only);exact ⟨own_cell o2 _ KK.out.1.1,own_cell o2 _ KK.out.1.2,own_cell o2 _ KK.out.2.1,own_cell o2 _ KK.out.2.2⟩)
    try simp only [zSa,zSb,zSc]
    refine zO 10 (.binOp .lss 3 (.tmp 49) (.const (Value.int IntKind.i64 0)) 3) 4 ?_
    refine wpAnyH_done (by kernel_rfl) ?_ _
    clear hHeld
    go_wp2_with fail
    go_roundw
    case rel=>exact ⟨h + 1,j,by go_num,rfl,by omega,by omega,hj,HLO2.out,HHI.out,o2,HB⟩
    case measure=>simp [intOf];omega
   ·have hzx:¬ z1 < x1:=fun e=>hv0 (HVL.out.2 e)
    have HHI2:=Lib.hid (show ∀ t' (ht:t' < M2.length),h≤t' + m → x1≤(M2[t']).1 from fun t' ht' hle=>by
     have h1:=up_get HM2.out t t' (by have:=HT.out;omega) ht'
     rw [HZ.out] at h1
     dsimp only at h1
     omega)
    clear hzx
    go_wp2_with fail
    refine wp_region_held_drew (S:=(fun w'=>w'.cell? ⟨g,h * 2,none⟩ = some (.int .i64 z1)∧w'.cell? ⟨g,h * 2 + 1,none⟩ = some (.int .i64 z2)∧w'.cell? ⟨g,a * 2,none⟩ = some (.int .i64 x1)∧w'.cell? ⟨g,a * 2 + 1,none⟩ = some (.int .i64 x2))) (by kernel_rfl) ?_ (fun hHeld=>?_)
    ·replace HB:=Below.drew HB;replace o2:=Own.drew o2;(try dsimp only);exact ⟨own_cell o2 _ KK.out.1.1,own_cell o2 _ KK.out.1.2,own_cell o2 _ KK.out.2.1,own_cell o2 _ KK.out.2.2⟩
    replace HB:=Below.drew HB
    replace o2:=Own.drew o2
    have zHB:=HB.size
    refine zM 0 (.tmp 4) ?_
    refine zM 1 (.tmp 0) ?_
    refine zM 2 (.tmp 12) ?_
    refine zO 3 (.indexAddr 259 (.tmp 41) (.tmp 42)) 0 ?_
    refine zO 4 (.load 262 (.tmp 43)) 262 ?_
    refine zM 5 (.tmp 0) ?_
    refine zM 6 (.tmp 1) ?_
    refine zO 7 (.indexAddr 259 (.tmp 45) (.tmp 46)) 0 ?_
    refine zO 8 (.load 262 (.tmp 47)) 262 ?_
    refine zR 9 (fun K9 hK9=>?_)
    refine take_callv 9 200 40 [Operand.tmp 44,Operand.tmp 48] #[262,262] rfl rfl (by kernel_rfl) rfl (fun args w=>run_enter Tryz.func200 (by kernel_rfl) rfl args w) ?_
    refine (against_any z1 z2 x1 x2 _ v hv).mono ?_
    rintro e w9 ⟨rfl,hb9⟩
    refine ⟨_,rfl,?_⟩
    have z9:=hb9.size
    try simp only [World.size_drew] at z9
    replace HB:=HB.trans (hb9.mono (by first | exact HB.size | omega))
    have zHB9:=HB.size
    replace o2:=Own.below o2 hb9
    refine hK9.out _ _ ?su3x9 (fun hHeld=>?ru3x9)
    case su3x9=>((try dsimp only);exact ⟨own_cell o2 _ KK.out.1.1,own_cell o2 _ KK.out.1.2,own_cell o2 _ KK.out.2.1,own_cell o2 _ KK.out.2.2⟩)
    try simp only [zSa,zSb,zSc]
    refine zO 10 (.binOp .lss 3 (.tmp 49) (.const (Value.int IntKind.i64 0)) 3) 4 ?_
    refine wpAnyH_done (by kernel_rfl) ?_ _
    clear hHeld
    go_wp2_with fail
    go_roundw
    case rel=>exact ⟨i,h,rfl,rfl,hi,by omega,by omega,HLO.out,HHI2.out,o2,HB⟩
    case measure=>simp [intOf];omega
  ·have hltI:¬ (i:Int) < (j:Int):=by omega
   obtain rfl:i = j:=by omega
   obtain ⟨B1,B2,hBB,hB1⟩:∃ B1 B2,M2 = B1 ++ B2∧B1.length = i - m:=⟨M2.take (i - m),M2.drop (i - m),(List.take_append_drop _ _).symm,by rw [List.length_take,HL2.out];omega⟩
   obtain ⟨d,hd⟩:∃ d,i - m = d:=⟨_,rfl⟩
   rw [hd] at hB1
   have hsort:sortW ((x1,x2) :: M2) = B1 ++ (x1,x2) :: B2:=by
    rw [hBB]
    refine sort_first _ B1 B2 (hBB ▸ HM2.out) (fun y hy=>?_) (fun y hy=>?_)
    ·obtain ⟨t,ht,rfl⟩:=List.getElem_of_mem hy
     have:=HLO.out t (by rw [hBB,List.length_append];omega) (by omega)
     simp only [hBB,List.getElem_append_left ht] at this
     exact this
    ·obtain ⟨t,ht,rfl⟩:=List.getElem_of_mem hy
     have:=HHI.out (B1.length + t) (by rw [hBB,List.length_append];omega) (by omega)
     simp only [hBB] at this
     rw [List.getElem_append_right (by omega)] at this
     simpa using this
   have HSO:=Lib.hid hsort
   have HD1:=Lib.hid hB1
   have hid:i≤m + d:=by omega
   have hid2:m + d≤i:=by omega
   have hi1:IntKind.i64.wrap ((i:Int) - 1) = ((a + d:Nat):Int):=(w64k (by omega) (by omega)).trans (by omega)
   obtain ⟨ad,had⟩:∃ ad,a + d = ad:=⟨_,rfl⟩
   rw [had] at hi1
   have had1:ad≤a + d:=by omega
   have had2:a + d≤ad:=by omega
   have o2':Own wr base 262 2 (some ⟨g,0,none⟩) N c (fcells (P ++ (B1.take 0 ++ ((x1,x2) :: (B1.drop 0 ++ (B2 ++ T)))))):=by rw [hBB] at o2;simpa using o2
   clear hBB hB1 hd had hsort o2 HLO HHI
   go_wp2_with fail
   go_loopw [13] (fun s wr'=>∃ k k':Nat,s = .int .i64 k∧a + k'≤k∧k≤a + k'∧k'≤d∧Own wr' base 262 2 (some ⟨g,0,none⟩) N c (fcells (P ++ (B1.take k' ++ ((x1,x2) :: (B1.drop k' ++ (B2 ++ T))))))∧Below base w wr') (fun s _=>ad - (intOf s).toNat)
   case atStart=>exact ⟨a,0,rfl,by omega,by omega,by omega,o2',HB⟩
   case round =>
    clear o2' HB hz
    obtain ⟨k,k',rfl,hk1,hk2,hk3,o2,HB⟩:=hrel
    have hz:=HB.size
    by_cases hlt:k < ad
    ·have hkI:(k:Int) < (ad:Int):=by omega
     have hkB:k' < B1.length:=by have:=HD1.out;omega
     obtain ⟨y,hy⟩:∃ y,B1[k'] = y:=⟨_,rfl⟩
     have HS:=swap_ok (P ++ B1.take k') [] (B1.drop (k' + 1) ++ (B2 ++ T)) (x1,x2) y k (k + 1) (by rw [List.length_append,List.length_take,HA.out];omega) (by simp)
     have eL:P ++ (B1.take k' ++ ((x1,x2) :: (B1.drop k' ++ (B2 ++ T)))) = (P ++ B1.take k') ++ (x1,x2) :: ([] ++ y :: (B1.drop (k' + 1) ++ (B2 ++ T))):=by rw [drop_cons2 B1 k' hkB,hy];simp
     have eR:(P ++ B1.take k') ++ y :: ([] ++ (x1,x2) :: (B1.drop (k' + 1) ++ (B2 ++ T))) = P ++ (B1.take (k' + 1) ++ ((x1,x2) :: (B1.drop (k' + 1) ++ (B2 ++ T)))):=by rw [List.take_succ_eq_append_getElem hkB,hy];simp
     rw [eL] at o2
     rw [eR] at HS
     obtain ⟨L,hL⟩:∃ L,(P ++ B1.take k') ++ (x1,x2) :: ([] ++ y :: (B1.drop (k' + 1) ++ (B2 ++ T))) = L:=⟨_,rfl⟩
     obtain ⟨L',hL'⟩:∃ L',P ++ (B1.take (k' + 1) ++ ((x1,x2) :: (B1.drop (k' + 1) ++ (B2 ++ T)))) = L':=⟨_,rfl⟩
     rw [hL,hL'] at HS
     rw [hL] at o2
     have HL':=Lib.hid hL'
     obtain ⟨y1,y2⟩:=y
     have SW:=Lib.hid HS
     have hdm:=HD1.out
     have hk0:(0:Int)≤(k:Int):=by omega
     have hk4:(0:Int)≤(k:Int) + 1:=by omega
     have hk5:(k:Int) < (N:Int):=by omega
     have hk6:(k:Int) + 1 < (N:Int):=by omega
     have hkN:k + 1 < N:=by omega
     have hk7:IntKind.i64.wrap ((k:Int) + 1) = (k:Int) + 1:=w64k (by omega) (by omega)
     clear HS hL hL' eL eR hy hkB hdm
     go_wp2_with fail
     refine wp_region_held_drew (S:=(fun _=>True)) (by kernel_rfl) ?_ (fun hHeld=>?_)
     ·replace HB:=Below.drew HB;replace o2:=Own.drew o2;(try dsimp only);try trivial
     replace HB:=Below.drew HB
     replace o2:=Own.drew o2
     have zHB:=HB.size
     refine zM 0 (.tmp 0) ?_
     refine zM 1 (.tmp 13) ?_
     refine zM 2 (.tmp 0) ?_
     refine zM 3 (.tmp 13) ?_
     refine zO 4 (.binOp .add 3 (.tmp 64) (.const (Value.int IntKind.i64 1)) 3) 3 ?_
     refine zM 5 (.tmp 0) ?_
     refine zM 6 (.tmp 13) ?_
     refine zO 7 (.binOp .add 3 (.tmp 67) (.const (Value.int IntKind.i64 1)) 3) 3 ?_
     refine zO 8 (.indexAddr 259 (.tmp 66) (.tmp 68)) 0 ?_
     refine zM 10 (.tmp 0) ?_
     refine zM 11 (.tmp 13) ?_
     refine zO 12 (.indexAddr 259 (.tmp 71) (.tmp 72)) 0 ?_
     refine wpAnyH_ready (rs:=[9,13]) (by kernel_rfl) (by simp) (AllReadyH.cons rfl (fun K9 hK9=>?ku4x9) (AllReadyH.cons rfl (fun K13 hK13=>?ku4x13) AllReadyH.nil))
     case ku4x9 =>
      refine take_any 9 (Op.load 262 (Operand.tmp 69)) 262 rfl rfl rfl (by kernel_rfl) (v:=.agg #[.int .i64 y1,.int .i64 y2]) (by have k1:wr.cell? ⟨g,(k + 1) * 2,none⟩ = _:=own_cell o2 _ SW.out.c3;have k2:wr.cell? ⟨g,(k + 1) * 2 + 1,none⟩ = _:=own_cell o2 _ SW.out.c4;go_simp;try (with_reducible rfl)) ?_
      refine hK9.out _ _ ?su4xb1x9 (fun hHeld=>?ru4xb1x9)
      case su4xb1x9=>((try dsimp only);try trivial)
      try simp only [zSa,zSb,zSc]
      refine zR 13 (fun K13 hK13=>?_)
      refine take_any 13 (Op.load 262 (Operand.tmp 73)) 262 rfl rfl rfl (by kernel_rfl) (v:=.agg #[.int .i64 x1,.int .i64 x2]) (by have k1:wr.cell? ⟨g,k * 2,none⟩ = _:=own_cell o2 _ SW.out.c1;have k2:wr.cell? ⟨g,k * 2 + 1,none⟩ = _:=own_cell o2 _ SW.out.c2;go_simp;try (with_reducible rfl)) ?_
      refine hK13.out _ _ ?su4xb1x13 (fun hHeld=>?ru4xb1x13)
      case su4xb1x13=>((try dsimp only);try trivial)
      try simp only [zSa,zSb,zSc]
      refine zO 14 (.indexAddr 259 (.tmp 61) (.tmp 62)) 0 ?_
      refine zR 15 (fun K15 hK15=>?_)
      refine take_store 15 (Op.store 262 (Operand.tmp 75) (Operand.tmp 70)) 0 rfl rfl rfl (by kernel_rfl) (w':=(wr.drew.setCell ⟨g,k * 2,none⟩ (.int .i64 y1)).setCell ⟨g,k * 2 + 1,none⟩ (.int .i64 y2)) (by have f:=own_thaw o2;have hfl:=o2.len;obtain ⟨v1,hv1⟩:∃ v1,_:=own_has o2 (k * 2) (by omega);obtain ⟨v2,hv2⟩:∃ v2,_:=own_has o2 (k * 2 + 1) (by omega);(try simp only [World.cell?_drew,World.frozen?_drew] at f hv1 hv2);go_simp;try (with_reducible rfl)) ?_
      refine hK15.out _ _ (trivial) (fun hHeld=>?_)
      replace o2:=(o2.set (k:=k * 2) (.int .i64 y1)).set (k:=k * 2 + 1) (.int .i64 y2)
      replace HB:=(HB.setCell (p:=⟨g,k * 2,none⟩) hg0 (.int .i64 y1)).setCell (p:=⟨g,k * 2 + 1,none⟩) hg0 (.int .i64 y2)
      generalize ((wr.drew.setCell ⟨g,k * 2,none⟩ (.int .i64 y1)).setCell ⟨g,k * 2 + 1,none⟩ (.int .i64 y2)) = wq at *
      refine zO 16 (.indexAddr 259 (.tmp 63) (.tmp 65)) 0 ?_
      refine zR 17 (fun K17 hK17=>?_)
      refine take_store 17 (Op.store 262 (Operand.tmp 76) (Operand.tmp 74)) 0 rfl rfl rfl (by kernel_rfl) (w':=(wq.setCell ⟨g,(k + 1) * 2,none⟩ (.int .i64 x1)).setCell ⟨g,(k + 1) * 2 + 1,none⟩ (.int .i64 x2)) (by have f:=own_thaw o2;have hfl:=o2.len;obtain ⟨v1,hv1⟩:∃ v1,_:=own_has o2 ((k + 1) * 2) (by omega);obtain ⟨v2,hv2⟩:∃ v2,_:=own_has o2 ((k + 1) * 2 + 1) (by omega);(try simp only [World.cell?_drew,World.frozen?_drew] at f hv1 hv2);go_simp;try (with_reducible rfl)) ?_
      refine hK17.out _ _ (trivial) (fun hHeld=>?_)
      replace o2:=(o2.set (k:=(k + 1) * 2) (.int .i64 x1)).set (k:=(k + 1) * 2 + 1) (.int .i64 x2)
      replace HB:=(HB.setCell (p:=⟨g,(k + 1) * 2,none⟩) hg0 (.int .i64 x1)).setCell (p:=⟨g,(k + 1) * 2 + 1,none⟩) hg0 (.int .i64 x2)
      generalize ((wq.setCell ⟨g,(k + 1) * 2,none⟩ (.int .i64 x1)).setCell ⟨g,(k + 1) * 2 + 1,none⟩ (.int .i64 x2)) = wq at *
      refine wpAnyH_done (by kernel_rfl) ?_ _
      clear hHeld
      have o3:Own wq base 262 2 (some ⟨g,0,none⟩) N c (fcells L'):=by first | exact SW.out.s1 ▸ o2 | exact SW.out.s2 ▸ o2
      go_wp2_with fail
      go_roundw
      case rel=>exact ⟨k + 1,k' + 1,by go_num,by omega,by omega,by omega,by rw [HL'.out];exact o3,HB⟩
      case measure=>simp [intOf];omega
     case ku4x13 =>
      refine take_any 13 (Op.load 262 (Operand.tmp 73)) 262 rfl rfl rfl (by kernel_rfl) (v:=.agg #[.int .i64 x1,.int .i64 x2]) (by have k1:wr.cell? ⟨g,k * 2,none⟩ = _:=own_cell o2 _ SW.out.c1;have k2:wr.cell? ⟨g,k * 2 + 1,none⟩ = _:=own_cell o2 _ SW.out.c2;go_simp;try (with_reducible rfl)) ?_
      refine hK13.out _ _ ?su4xb5x13 (fun hHeld=>?ru4xb5x13)
      case su4xb5x13=>((try dsimp only);try trivial)
      try simp only [zSa,zSb,zSc]
      refine zR 9 (fun K9 hK9=>?_)
      refine take_any 9 (Op.load 262 (Operand.tmp 69)) 262 rfl rfl rfl (by kernel_rfl) (v:=.agg #[.int .i64 y1,.int .i64 y2]) (by have k1:wr.cell? ⟨g,(k + 1) * 2,none⟩ = _:=own_cell o2 _ SW.out.c3;have k2:wr.cell? ⟨g,(k + 1) * 2 + 1,none⟩ = _:=own_cell o2 _ SW.out.c4;go_simp;try (with_reducible rfl)) ?_
      refine hK9.out _ _ ?su4xb5x9 (fun hHeld=>?ru4xb5x9)
      case su4xb5x9=>((try dsimp only);try trivial)
      try simp only [zSa,zSb,zSc]
      refine zO 14 (.indexAddr 259 (.tmp 61) (.tmp 62)) 0 ?_
      refine zR 15 (fun K15 hK15=>?_)
      refine take_store 15 (Op.store 262 (Operand.tmp 75) (Operand.tmp 70)) 0 rfl rfl rfl (by kernel_rfl) (w':=(wr.drew.setCell ⟨g,k * 2,none⟩ (.int .i64 y1)).setCell ⟨g,k * 2 + 1,none⟩ (.int .i64 y2)) (by have f:=own_thaw o2;have hfl:=o2.len;obtain ⟨v1,hv1⟩:∃ v1,_:=own_has o2 (k * 2) (by omega);obtain ⟨v2,hv2⟩:∃ v2,_:=own_has o2 (k * 2 + 1) (by omega);(try simp only [World.cell?_drew,World.frozen?_drew] at f hv1 hv2);go_simp;try (with_reducible rfl)) ?_
      refine hK15.out _ _ (trivial) (fun hHeld=>?_)
      replace o2:=(o2.set (k:=k * 2) (.int .i64 y1)).set (k:=k * 2 + 1) (.int .i64 y2)
      replace HB:=(HB.setCell (p:=⟨g,k * 2,none⟩) hg0 (.int .i64 y1)).setCell (p:=⟨g,k * 2 + 1,none⟩) hg0 (.int .i64 y2)
      generalize ((wr.drew.setCell ⟨g,k * 2,none⟩ (.int .i64 y1)).setCell ⟨g,k * 2 + 1,none⟩ (.int .i64 y2)) = wq at *
      refine zO 16 (.indexAddr 259 (.tmp 63) (.tmp 65)) 0 ?_
      refine zR 17 (fun K17 hK17=>?_)
      refine take_store 17 (Op.store 262 (Operand.tmp 76) (Operand.tmp 74)) 0 rfl rfl rfl (by kernel_rfl) (w':=(wq.setCell ⟨g,(k + 1) * 2,none⟩ (.int .i64 x1)).setCell ⟨g,(k + 1) * 2 + 1,none⟩ (.int .i64 x2)) (by have f:=own_thaw o2;have hfl:=o2.len;obtain ⟨v1,hv1⟩:∃ v1,_:=own_has o2 ((k + 1) * 2) (by omega);obtain ⟨v2,hv2⟩:∃ v2,_:=own_has o2 ((k + 1) * 2 + 1) (by omega);(try simp only [World.cell?_drew,World.frozen?_drew] at f hv1 hv2);go_simp;try (with_reducible rfl)) ?_
      refine hK17.out _ _ (trivial) (fun hHeld=>?_)
      replace o2:=(o2.set (k:=(k + 1) * 2) (.int .i64 x1)).set (k:=(k + 1) * 2 + 1) (.int .i64 x2)
      replace HB:=(HB.setCell (p:=⟨g,(k + 1) * 2,none⟩) hg0 (.int .i64 x1)).setCell (p:=⟨g,(k + 1) * 2 + 1,none⟩) hg0 (.int .i64 x2)
      generalize ((wq.setCell ⟨g,(k + 1) * 2,none⟩ (.int .i64 x1)).setCell ⟨g,(k + 1) * 2 + 1,none⟩ (.int .i64 x2)) = wq at *
      refine wpAnyH_done (by kernel_rfl) ?_ _
      clear hHeld
      have o3:Own wq base 262 2 (some ⟨g,0,none⟩) N c (fcells L'):=by first | exact SW.out.s1 ▸ o2 | exact SW.out.s2 ▸ o2
      go_wp2_with fail
      go_roundw
      case rel=>exact ⟨k + 1,k' + 1,by go_num,by omega,by omega,by omega,by rw [HL'.out];exact o3,HB⟩
      case measure=>simp [intOf];omega
    ·have hkI:¬ (k:Int) < (ad:Int):=by omega
     obtain rfl:k' = d:=by omega
     have e1:=HSO.out
     rw [List.take_of_length_le (Nat.le_of_eq HD1.out),List.drop_of_length_le (Nat.le_of_eq HD1.out)] at o2
     have HF:=Lib.hid (show P ++ (B1 ++ ((x1,x2) :: ([] ++ (B2 ++ T)))) = P ++ (sortW ((x1,x2) :: M2) ++ T) by rw [e1];simp)
     clear e1
     go_wp2_with fail
     try rw [Exit.noGoto_ret]
     try simp only [Exit.inBlock,Exit.then]
     refine bodyPost_ret (results_none rfl _ _ _) rfl ?_
     exact ⟨rfl,HF.out ▸ o2,HB⟩
end LenW
end Go.Proofs.YtnpncpoiiikafaaGreat
namespace Go.Proofs.YtnpncpoiiikafaaGreat
open Go.RowKit
namespace LenW
theorem sym_end (base:Nat) (A0:Option Addr) (N c:Nat) (P M1 T:List (Int × Int)) (y:Int × Int) (w:World) (a m b:Nat) (ha:P.length = a) (hm:a + M1.length = m) (hb:m + 1 = b) (hN:P.length + M1.length + 1 + T.length = N) (hN3:N≤1000) (h2:2≤M1.length)
 (hM1:upW M1) (ho:Own w base 262 2 A0 N c (fcells (P ++ (M1 ++ (y :: T))))) (hbs:base≤w.heap.size):MergeOk base A0 N c P M1 [y] T w a m b:=by
 unfold MergeOk
 obtain ⟨l1,hl1⟩:∃ l,M1.length = l:=⟨_,rfl⟩
 obtain ⟨t0,ht0⟩:∃ t,T.length = t:=⟨_,rfl⟩
 rw [hl1] at hm hN h2
 rw [ht0,ha] at hN
 have hbN:b≤N:=by omega
 have ham1:a + l1≤m:=by omega
 have ham2:m≤a + l1:=by omega
 have hmb1:m + 1≤b:=by omega
 have hmb2:b≤m + 1:=by omega
 have hw1:IntKind.i64.wrap ((m:Int) - (a:Int)) = (l1:Int):=(w64k (by omega) (by omega)).trans (by omega)
 have hw2:IntKind.i64.wrap ((b:Int) - (m:Int)) = 1:=(w64k (by omega) (by omega)).trans (by omega)
 have hl11:¬ (l1:Int) = 1:=by omega
 have hl12:((l1:Int) == 1) = false:=by simp;omega
 have HL1:=Lib.hid hl1
 have HA:=Lib.hid ha
 have HT0:=Lib.hid ht0
 have HM1:=Lib.hid hM1
 clear hl1 ha ht0 hm hb hN hM1
 obtain ⟨y1,y2⟩:=y
 obtain ⟨g,rfl⟩:∃ g,A0 = some ⟨g,0,none⟩:=by
  rcases ho.shape with ⟨_,h0,_⟩ | ⟨g,e,_⟩
  ·omega
  ·exact ⟨g,e⟩
 have hg0:base≤g:=(ho.blk g rfl).1
 go_enter Tryz.func210,Tryz.ntmps210
 go_wp2_with fail
 go_loopw [14,15] (fun s r wr=>∃ i j:Nat,s = .int .i64 i∧r = .int .i64 j∧a≤i∧i≤j∧j≤m∧(∀ t (ht:t < M1.length),t + a < i → (M1[t]).1≤y1)∧(∀ t (ht:t < M1.length),j≤t + a → y1 < (M1[t]).1)∧Own wr base 262 2 (some ⟨g,0,none⟩) N c (fcells (P ++ (M1 ++ ((y1,y2) :: T))))∧Below base w wr) (fun s r _=>(intOf r).toNat - (intOf s).toNat)
 case atStart=>exact ⟨a,m,rfl,rfl,Nat.le_refl _,by omega,Nat.le_refl _,fun t _ h=>absurd h (by omega),fun t ht h=>absurd h (by have:=HL1.out;omega),ho,Below.refl _ _⟩
 case round =>
  clear ho
  obtain ⟨i,j,rfl,rfl,hi,hij,hj,hlo,hhi,o2,HB⟩:=hrel
  have hz:=HB.size
  have HLO:=Lib.hid hlo
  have HHI:=Lib.hid hhi
  clear hlo hhi
  by_cases hlt:i < j
  ·have hltI:(i:Int) < (j:Int):=by omega
   obtain ⟨h,hh⟩:∃ h,(i + j) / 2 = h:=⟨_,rfl⟩
   have hh1:i≤h:=by omega
   have hh2:h < j:=by omega
   have hij1:IntKind.i64.wrap ((i:Int) + (j:Int)) = ((i + j:Nat):Int):=(w64k (by omega) (by omega)).trans (by omega)
   have hhI:((i:Int) + (j:Int)) / 2 = (h:Int):=by omega
   obtain ⟨t,ht⟩:∃ t,h = a + t:=⟨h - a,by omega⟩
   have htl:t < M1.length:=by have:=HL1.out;omega
   obtain ⟨z,hz0⟩:∃ z,M1[t] = z:=⟨_,rfl⟩
   have hLl:(P ++ (M1 ++ ((y1,y2) :: T))).length = N:=by have:=o2.len;rw [fcells_len] at this;omega
   have e1:(P ++ (M1 ++ ((y1,y2) :: T)))[h]'(by omega) = z:=by
    rw [List.getElem_append_right (by have:=HA.out;omega)]
    have:h - P.length = t:=by have:=HA.out;omega
    simp only [this]
    rw [List.getElem_append_left htl,hz0]
   have e2:(P ++ (M1 ++ ((y1,y2) :: T)))[m]'(by omega) = (y1,y2):=by
    rw [List.getElem_append_right (by have:=HA.out;omega),List.getElem_append_right (by have:=HA.out;have:=HL1.out;omega)]
    have:m - P.length - M1.length = 0:=by have:=HA.out;have:=HL1.out;omega
    simp only [this,List.getElem_cons_zero]
   have K1:=cells_at _ h (by omega) z e1
   have K2:=cells_at _ m (by omega) (y1,y2) e2
   obtain ⟨z1,z2⟩:=z
   dsimp only at K1 K2
   have KK:=Lib.hid (And.intro K1 K2)
   have HZ:=Lib.hid hz0
   have HT:=Lib.hid ht
   obtain ⟨v,hv⟩:∃ v,cmpV y1 z1 = v:=⟨_,rfl⟩
   have hvl:=cmpV_lt y1 z1
   rw [hv] at hvl
   have HVL:=Lib.hid hvl
   have HT1:=Lib.hid htl
   have hh0:(0:Int)≤(h:Int):=by omega
   have hm0:(0:Int)≤(m:Int):=by omega
   have hhN:(h:Int) < (N:Int):=by omega
   have hmN:(m:Int) < (N:Int):=by omega
   have hh3:IntKind.i64.wrap ((h:Int) + 1) = (h:Int) + 1:=w64k (by omega) (by omega)
   clear hh K1 K2 e1 e2 hz0 ht hvl hLl
   by_cases hv0:v < 0
   ·have hzx:=HVL.out.1 hv0
    have hnd:(!decide (v < 0)) = false:=by simp [hv0]
    have HHI2:=Lib.hid (show ∀ t' (ht:t' < M1.length),h≤t' + a → y1 < (M1[t']).1 from fun t' ht' hle=>by
     have h1:=up_get HM1.out t t' (by have:=HT.out;omega) ht'
     rw [HZ.out] at h1
     dsimp only at h1
     omega)
    clear hzx
    go_wp2_with fail
    refine wp_region_held_drew (S:=(fun w'=>w'.cell? ⟨g,h * 2,none⟩ = some (.int .i64 z1)∧w'.cell? ⟨g,h * 2 + 1,none⟩ = some (.int .i64 z2)∧w'.cell? ⟨g,m * 2,none⟩ = some (.int .i64 y1)∧w'.cell? ⟨g,m * 2 + 1,none⟩ = some (.int .i64 y2))) (by kernel_rfl) ?_ (fun hHeld=>?_)
    ·replace HB:=Below.drew HB;replace o2:=Own.drew o2;(try dsimp only);exact ⟨own_cell o2 _ KK.out.1.1,own_cell o2 _ KK.out.1.2,own_cell o2 _ KK.out.2.1,own_cell o2 _ KK.out.2.2⟩
    replace HB:=Below.drew HB
    replace o2:=Own.drew o2
    have zHB:=HB.size
    refine zM 0 (.tmp 4) ?_
    refine zM 1 (.tmp 0) ?_
    refine zM 2 (.tmp 2) ?_
    refine zO 3 (.indexAddr 259 (.tmp 93) (.tmp 94)) 0 ?_
    refine zO 4 (.load 262 (.tmp 95)) 262 ?_
    refine zM 5 (.tmp 0) ?_
    refine zM 6 (.tmp 16) ?_
    refine zO 7 (.indexAddr 259 (.tmp 97) (.tmp 98)) 0 ?_
    refine zO 8 (.load 262 (.tmp 99)) 262 ?_
    refine zR 9 (fun K9 hK9=>?_)
    refine take_callv 9 200 92 [Operand.tmp 96,Operand.tmp 100] #[262,262] rfl rfl (by kernel_rfl) rfl (fun args w=>run_enter Tryz.func200 (by kernel_rfl) rfl args w) ?_
    refine (against_any y1 y2 z1 z2 _ v hv).mono ?_
    rintro e w9 ⟨rfl,hb9⟩
    refine ⟨_,rfl,?_⟩
    have z9:=hb9.size
    try simp only [World.size_drew] at z9
    replace HB:=HB.trans (hb9.mono (by first | exact HB.size | omega))
    have zHB9:=HB.size
    replace o2:=Own.below o2 hb9
    refine hK9.out _ _ ?su5x9 (fun hHeld=>?ru5x9)
    case su5x9=>((try dsimp only);exact ⟨own_cell o2 _ KK.out.1.1,own_cell o2 _ KK.out.1.2,own_cell o2 _ KK.out.2.1,own_cell o2 _ KK.out.2.2⟩)
    try simp only [zSa,zSb,zSc]
    refine zO 10 (.binOp .lss 3 (.tmp 101) (.const (Value.int IntKind.i64 0)) 3) 4 ?_
    refine zO 11 (.unOp .not 4 (.tmp 102)) 4 ?_
    refine wpAnyH_done (by kernel_rfl) ?_ _
    clear hHeld
    go_wp2_with fail
    go_roundw
    case rel=>exact ⟨i,h,rfl,rfl,hi,by omega,by omega,HLO.out,HHI2.out,o2,HB⟩
    case measure=>simp [intOf];omega
   ·have hzx:¬ y1 < z1:=fun e=>hv0 (HVL.out.2 e)
    have hnd:(!decide (v < 0)) = true:=by simp [hv0]
    have HLO2:=Lib.hid (show ∀ t' (ht:t' < M1.length),t' + a < h + 1 → (M1[t']).1≤y1 from fun t' ht' hle=>by
     have h1:=up_get HM1.out t' t (by have:=HT.out;omega) HT1.out
     rw [HZ.out] at h1
     dsimp only at h1
     omega)
    clear hzx
    go_wp2_with fail
    refine wp_region_held_drew (S:=(fun w'=>w'.cell? ⟨g,h * 2,none⟩ = some (.int .i64 z1)∧w'.cell? ⟨g,h * 2 + 1,none⟩ = some (.int .i64 z2)∧w'.cell? ⟨g,m * 2,none⟩ = some (.int .i64 y1)∧w'.cell? ⟨g,m * 2 + 1,none⟩ = some (.int .i64 y2))) (by kernel_rfl) ?_ (fun hHeld=>?_)
    ·replace HB:=Below.drew HB;replace o2:=Own.drew o2;(try dsimp only);exact ⟨own_cell o2 _ KK.out.1.1,own_cell o2 _ KK.out.1.2,own_cell o2 _ KK.out.2.1,own_cell o2 _ KK.out.2.2⟩
    replace HB:=Below.drew HB
    replace o2:=Own.drew o2
    have zHB:=HB.size
    refine zM 0 (.tmp 4) ?_
    refine zM 1 (.tmp 0) ?_
    refine zM 2 (.tmp 2) ?_
    refine zO 3 (.indexAddr 259 (.tmp 93) (.tmp 94)) 0 ?_
    refine zO 4 (.load 262 (.tmp 95)) 262 ?_
    refine zM 5 (.tmp 0) ?_
    refine zM 6 (.tmp 16) ?_
    refine zO 7 (.indexAddr 259 (.tmp 97) (.tmp 98)) 0 ?_
    refine zO 8 (.load 262 (.tmp 99)) 262 ?_
    refine zR 9 (fun K9 hK9=>?_)
    refine take_callv 9 200 92 [Operand.tmp 96,Operand.tmp 100] #[262,262] rfl rfl (by kernel_rfl) rfl (fun args w=>run_enter Tryz.func200 (by kernel_rfl) rfl args w) ?_
    refine (against_any y1 y2 z1 z2 _ v hv).mono ?_
    rintro e w9 ⟨rfl,hb9⟩
    refine ⟨_,rfl,?_⟩
    have z9:=hb9.size
    try simp only [World.size_drew] at z9
    replace HB:=HB.trans (hb9.mono (by first | exact HB.size | omega))
    have zHB9:=HB.size
    replace o2:=Own.below o2 hb9
    refine hK9.out _ _ ?su6x9 (fun hHeld=>?ru6x9)
    case su6x9=>((try dsimp only);exact ⟨own_cell o2 _ KK.out.1.1,own_cell o2 _ KK.out.1.2,own_cell o2 _ KK.out.2.1,own_cell o2 _ KK.out.2.2⟩)
    try simp only [zSa,zSb,zSc]
    refine zO 10 (.binOp .lss 3 (.tmp 101) (.const (Value.int IntKind.i64 0)) 3) 4 ?_
    refine zO 11 (.unOp .not 4 (.tmp 102)) 4 ?_
    refine wpAnyH_done (by kernel_rfl) ?_ _
    clear hHeld
    go_wp2_with fail
    go_roundw
    case rel=>exact ⟨h + 1,j,by go_num,rfl,by omega,by omega,hj,HLO2.out,HHI.out,o2,HB⟩
    case measure=>simp [intOf];omega
  ·have hltI:¬ (i:Int) < (j:Int):=by omega
   obtain rfl:i = j:=by omega
   obtain ⟨A1,A2,hAA,hA1⟩:∃ A1 A2,M1 = A1 ++ A2∧A1.length = i - a:=⟨M1.take (i - a),M1.drop (i - a),(List.take_append_drop _ _).symm,by rw [List.length_take,HL1.out];omega⟩
   obtain ⟨d,hd⟩:∃ d,m - i = d:=⟨_,rfl⟩
   have hA2:A2.length = d:=by have:=HL1.out;rw [hAA,List.length_append] at this;omega
   have hsort:sortW (M1 ++ [(y1,y2)]) = A1 ++ (y1,y2) :: A2:=by
    rw [hAA]
    refine sort_last _ A1 A2 (hAA ▸ HM1.out) (fun x hx=>?_) (fun x hx=>?_)
    ·obtain ⟨t,ht,rfl⟩:=List.getElem_of_mem hx
     have:=HLO.out t (by rw [hAA,List.length_append];omega) (by omega)
     simp only [hAA,List.getElem_append_left ht] at this
     exact this
    ·obtain ⟨t,ht,rfl⟩:=List.getElem_of_mem hx
     have:=HHI.out (A1.length + t) (by rw [hAA,List.length_append];omega) (by omega)
     simp only [hAA] at this
     rw [List.getElem_append_right (by omega)] at this
     simpa using this
   have HSO:=Lib.hid hsort
   have HD1:=Lib.hid hA1
   have HD2:=Lib.hid hA2
   have hid:i + d≤m:=by omega
   have hid2:m≤i + d:=by omega
   have o2':Own wr base 262 2 (some ⟨g,0,none⟩) N c (fcells (P ++ (A1 ++ (A2.take d ++ ((y1,y2) :: (A2.drop d ++ T)))))):=by
    rw [List.take_of_length_le (Nat.le_of_eq hA2),List.drop_of_length_le (Nat.le_of_eq hA2)]
    rw [hAA] at o2;simpa using o2
   clear hAA hA1 hd hsort o2 HLO HHI hA2
   go_wp2_with fail
   go_loopw [17] (fun s wr'=>∃ k k':Nat,s = .int .i64 k∧i + k'≤k∧k≤i + k'∧k'≤d∧Own wr' base 262 2 (some ⟨g,0,none⟩) N c (fcells (P ++ (A1 ++ (A2.take k' ++ ((y1,y2) :: (A2.drop k' ++ T))))))∧Below base w wr') (fun s _=>(intOf s).toNat)
   case atStart=>exact ⟨m,d,rfl,by omega,by omega,by omega,o2',HB⟩
   case round =>
    clear o2' HB hz
    obtain ⟨k,k',rfl,hk1,hk2,hk3,o2,HB⟩:=hrel
    have hz:=HB.size
    by_cases hlt:i < k
    ·obtain ⟨q,rfl⟩:∃ q,k' = q + 1:=⟨k' - 1,by omega⟩
     obtain ⟨p,rfl⟩:∃ p,k = p + 1:=⟨k - 1,by omega⟩
     have hkI:(i:Int) < ((p + 1:Nat):Int):=by omega
     have hkI2:(i:Int) < (p:Int) + 1:=by omega
     have hqA:q < A2.length:=by have:=HD2.out;omega
     obtain ⟨z,hz0⟩:∃ z,A2[q] = z:=⟨_,rfl⟩
     have HS:=swap_ok (P ++ (A1 ++ A2.take q)) [] (A2.drop (q + 1) ++ T) z (y1,y2) p (p + 1) (by rw [List.length_append,List.length_append,List.length_take,HA.out,HD1.out];omega) (by simp)
     have eL:P ++ (A1 ++ (A2.take (q + 1) ++ ((y1,y2) :: (A2.drop (q + 1) ++ T)))) = (P ++ (A1 ++ A2.take q)) ++ z :: ([] ++ (y1,y2) :: (A2.drop (q + 1) ++ T)):=by rw [List.take_succ_eq_append_getElem hqA,hz0];simp
     have eR:(P ++ (A1 ++ A2.take q)) ++ (y1,y2) :: ([] ++ z :: (A2.drop (q + 1) ++ T)) = P ++ (A1 ++ (A2.take q ++ ((y1,y2) :: (A2.drop q ++ T)))):=by rw [drop_cons2 A2 q hqA,hz0];simp
     rw [eL] at o2
     rw [eR] at HS
     obtain ⟨L,hL⟩:∃ L,(P ++ (A1 ++ A2.take q)) ++ z :: ([] ++ (y1,y2) :: (A2.drop (q + 1) ++ T)) = L:=⟨_,rfl⟩
     obtain ⟨L',hL'⟩:∃ L',P ++ (A1 ++ (A2.take q ++ ((y1,y2) :: (A2.drop q ++ T)))) = L':=⟨_,rfl⟩
     rw [hL,hL'] at HS
     rw [hL] at o2
     have HL':=Lib.hid hL'
     obtain ⟨z1,z2⟩:=z
     have SW:=Lib.hid HS
     have hk0:(0:Int)≤(p:Int):=by omega
     have hk4:(0:Int)≤(p:Int) + 1:=by omega
     have hk5:(p:Int) < (N:Int):=by omega
     have hk6:(p:Int) + 1 < (N:Int):=by omega
     have hkN:p + 1 < N:=by omega
     have hk7:IntKind.i64.wrap ((p:Int) + 1 - 1) = (p:Int):=(w64k (by omega) (by omega)).trans (by omega)
     have hk8:IntKind.i64.wrap (p:Int) = (p:Int):=w64k (by omega) (by omega)
     clear HS hL hL' eL eR hz0 hqA
     go_wp2_with fail
     refine wp_region_held_drew (S:=(fun _=>True)) (by kernel_rfl) ?_ (fun hHeld=>?_)
     ·replace HB:=Below.drew HB;replace o2:=Own.drew o2;(try dsimp only);try trivial
     replace HB:=Below.drew HB
     replace o2:=Own.drew o2
     have zHB:=HB.size
     refine zM 0 (.tmp 0) ?_
     refine zM 1 (.tmp 17) ?_
     refine zM 2 (.tmp 0) ?_
     refine zM 3 (.tmp 17) ?_
     refine zO 4 (.binOp .sub 3 (.tmp 116) (.const (Value.int IntKind.i64 1)) 3) 3 ?_
     refine zM 5 (.tmp 0) ?_
     refine zM 6 (.tmp 17) ?_
     refine zO 7 (.binOp .sub 3 (.tmp 119) (.const (Value.int IntKind.i64 1)) 3) 3 ?_
     refine zO 8 (.indexAddr 259 (.tmp 118) (.tmp 120)) 0 ?_
     refine zM 10 (.tmp 0) ?_
     refine zM 11 (.tmp 17) ?_
     refine zO 12 (.indexAddr 259 (.tmp 123) (.tmp 124)) 0 ?_
     refine wpAnyH_ready (rs:=[9,13]) (by kernel_rfl) (by simp) (AllReadyH.cons rfl (fun K9 hK9=>?ku7x9) (AllReadyH.cons rfl (fun K13 hK13=>?ku7x13) AllReadyH.nil))
     case ku7x9 =>
      refine take_any 9 (Op.load 262 (Operand.tmp 121)) 262 rfl rfl rfl (by kernel_rfl) (v:=.agg #[.int .i64 z1,.int .i64 z2]) (by have k1:wr.cell? ⟨g,p * 2,none⟩ = _:=own_cell o2 _ SW.out.c1;have k2:wr.cell? ⟨g,p * 2 + 1,none⟩ = _:=own_cell o2 _ SW.out.c2;go_simp;try (with_reducible rfl)) ?_
      refine hK9.out _ _ ?su7xb1x9 (fun hHeld=>?ru7xb1x9)
      case su7xb1x9=>((try dsimp only);try trivial)
      try simp only [zSa,zSb,zSc]
      refine zR 13 (fun K13 hK13=>?_)
      refine take_any 13 (Op.load 262 (Operand.tmp 125)) 262 rfl rfl rfl (by kernel_rfl) (v:=.agg #[.int .i64 y1,.int .i64 y2]) (by have k1:wr.cell? ⟨g,(p + 1) * 2,none⟩ = _:=own_cell o2 _ SW.out.c3;have k2:wr.cell? ⟨g,(p + 1) * 2 + 1,none⟩ = _:=own_cell o2 _ SW.out.c4;go_simp;try (with_reducible rfl)) ?_
      refine hK13.out _ _ ?su7xb1x13 (fun hHeld=>?ru7xb1x13)
      case su7xb1x13=>((try dsimp only);try trivial)
      try simp only [zSa,zSb,zSc]
      refine zO 14 (.indexAddr 259 (.tmp 113) (.tmp 114)) 0 ?_
      refine zR 15 (fun K15 hK15=>?_)
      refine take_store 15 (Op.store 262 (Operand.tmp 127) (Operand.tmp 122)) 0 rfl rfl rfl (by kernel_rfl) (w':=(wr.drew.setCell ⟨g,(p + 1) * 2,none⟩ (.int .i64 z1)).setCell ⟨g,(p + 1) * 2 + 1,none⟩ (.int .i64 z2)) (by have f:=own_thaw o2;have hfl:=o2.len;obtain ⟨v1,hv1⟩:∃ v1,_:=own_has o2 ((p + 1) * 2) (by omega);obtain ⟨v2,hv2⟩:∃ v2,_:=own_has o2 ((p + 1) * 2 + 1) (by omega);(try simp only [World.cell?_drew,World.frozen?_drew] at f hv1 hv2);go_simp;try (with_reducible rfl)) ?_
      refine hK15.out _ _ (trivial) (fun hHeld=>?_)
      replace o2:=(o2.set (k:=(p + 1) * 2) (.int .i64 z1)).set (k:=(p + 1) * 2 + 1) (.int .i64 z2)
      replace HB:=(HB.setCell (p:=⟨g,(p + 1) * 2,none⟩) hg0 (.int .i64 z1)).setCell (p:=⟨g,(p + 1) * 2 + 1,none⟩) hg0 (.int .i64 z2)
      generalize ((wr.drew.setCell ⟨g,(p + 1) * 2,none⟩ (.int .i64 z1)).setCell ⟨g,(p + 1) * 2 + 1,none⟩ (.int .i64 z2)) = wq at *
      refine zO 16 (.indexAddr 259 (.tmp 115) (.tmp 117)) 0 ?_
      refine zR 17 (fun K17 hK17=>?_)
      refine take_store 17 (Op.store 262 (Operand.tmp 128) (Operand.tmp 126)) 0 rfl rfl rfl (by kernel_rfl) (w':=(wq.setCell ⟨g,p * 2,none⟩ (.int .i64 y1)).setCell ⟨g,p * 2 + 1,none⟩ (.int .i64 y2)) (by have f:=own_thaw o2;have hfl:=o2.len;obtain ⟨v1,hv1⟩:∃ v1,_:=own_has o2 (p * 2) (by omega);obtain ⟨v2,hv2⟩:∃ v2,_:=own_has o2 (p * 2 + 1) (by omega);(try simp only [World.cell?_drew,World.frozen?_drew] at f hv1 hv2);go_simp;try (with_reducible rfl)) ?_
      refine hK17.out _ _ (trivial) (fun hHeld=>?_)
      replace o2:=(o2.set (k:=p * 2) (.int .i64 y1)).set (k:=p * 2 + 1) (.int .i64 y2)
      replace HB:=(HB.setCell (p:=⟨g,p * 2,none⟩) hg0 (.int .i64 y1)).setCell (p:=⟨g,p * 2 + 1,none⟩) hg0 (.int .i64 y2)
      generalize ((wq.setCell ⟨g,p * 2,none⟩ (.int .i64 y1)).setCell ⟨g,p * 2 + 1,none⟩ (.int .i64 y2)) = wq at *
      refine wpAnyH_done (by kernel_rfl) ?_ _
      clear hHeld
      have o3:Own wq base 262 2 (some ⟨g,0,none⟩) N c (fcells L'):=by first | exact SW.out.s1 ▸ o2 | exact SW.out.s2 ▸ o2
      go_wp2_with fail
      go_roundw
      case rel=>exact ⟨p,q,rfl,by omega,by omega,by omega,by rw [HL'.out];exact o3,HB⟩
      case measure=>first | (simp [intOf];done) | (simp [intOf];omega)
     case ku7x13 =>
      refine take_any 13 (Op.load 262 (Operand.tmp 125)) 262 rfl rfl rfl (by kernel_rfl) (v:=.agg #[.int .i64 y1,.int .i64 y2]) (by have k1:wr.cell? ⟨g,(p + 1) * 2,none⟩ = _:=own_cell o2 _ SW.out.c3;have k2:wr.cell? ⟨g,(p + 1) * 2 + 1,none⟩ = _:=own_cell o2 _ SW.out.c4;go_simp;try (with_reducible rfl)) ?_
      refine hK13.out _ _ ?su7xb5x13 (fun hHeld=>?ru7xb5x13)
      case su7xb5x13=>((try dsimp only);try trivial)
      try simp only [zSa,zSb,zSc]
      refine zR 9 (fun K9 hK9=>?_)
      refine take_any 9 (Op.load 262 (Operand.tmp 121)) 262 rfl rfl rfl (by kernel_rfl) (v:=.agg #[.int .i64 z1,.int .i64 z2]) (by have k1:wr.cell? ⟨g,p * 2,none⟩ = _:=own_cell o2 _ SW.out.c1;have k2:wr.cell? ⟨g,p * 2 + 1,none⟩ = _:=own_cell o2 _ SW.out.c2;go_simp;try (with_reducible rfl)) ?_
      refine hK9.out _ _ ?su7xb5x9 (fun hHeld=>?ru7xb5x9)
      case su7xb5x9=>((try dsimp only);try trivial)
      try simp only [zSa,zSb,zSc]
      refine zO 14 (.indexAddr 259 (.tmp 113) (.tmp 114)) 0 ?_
      refine zR 15 (fun K15 hK15=>?_)
      refine take_store 15 (Op.store 262 (Operand.tmp 127) (Operand.tmp 122)) 0 rfl rfl rfl (by kernel_rfl) (w':=(wr.drew.setCell ⟨g,(p + 1) * 2,none⟩ (.int .i64 z1)).setCell ⟨g,(p + 1) * 2 + 1,none⟩ (.int .i64 z2)) (by have f:=own_thaw o2;have hfl:=o2.len;obtain ⟨v1,hv1⟩:∃ v1,_:=own_has o2 ((p + 1) * 2) (by omega);obtain ⟨v2,hv2⟩:∃ v2,_:=own_has o2 ((p + 1) * 2 + 1) (by omega);(try simp only [World.cell?_drew,World.frozen?_drew] at f hv1 hv2);go_simp;try (with_reducible rfl)) ?_
      refine hK15.out _ _ (trivial) (fun hHeld=>?_)
      replace o2:=(o2.set (k:=(p + 1) * 2) (.int .i64 z1)).set (k:=(p + 1) * 2 + 1) (.int .i64 z2)
      replace HB:=(HB.setCell (p:=⟨g,(p + 1) * 2,none⟩) hg0 (.int .i64 z1)).setCell (p:=⟨g,(p + 1) * 2 + 1,none⟩) hg0 (.int .i64 z2)
      generalize ((wr.drew.setCell ⟨g,(p + 1) * 2,none⟩ (.int .i64 z1)).setCell ⟨g,(p + 1) * 2 + 1,none⟩ (.int .i64 z2)) = wq at *
      refine zO 16 (.indexAddr 259 (.tmp 115) (.tmp 117)) 0 ?_
      refine zR 17 (fun K17 hK17=>?_)
      refine take_store 17 (Op.store 262 (Operand.tmp 128) (Operand.tmp 126)) 0 rfl rfl rfl (by kernel_rfl) (w':=(wq.setCell ⟨g,p * 2,none⟩ (.int .i64 y1)).setCell ⟨g,p * 2 + 1,none⟩ (.int .i64 y2)) (by have f:=own_thaw o2;have hfl:=o2.len;obtain ⟨v1,hv1⟩:∃ v1,_:=own_has o2 (p * 2) (by omega);obtain ⟨v2,hv2⟩:∃ v2,_:=own_has o2 (p * 2 + 1) (by omega);(try simp only [World.cell?_drew,World.frozen?_drew] at f hv1 hv2);go_simp;try (with_reducible rfl)) ?_
      refine hK17.out _ _ (trivial) (fun hHeld=>?_)
      replace o2:=(o2.set (k:=p * 2) (.int .i64 y1)).set (k:=p * 2 + 1) (.int .i64 y2)
      replace HB:=(HB.setCell (p:=⟨g,p * 2,none⟩) hg0 (.int .i64 y1)).setCell (p:=⟨g,p * 2 + 1,none⟩) hg0 (.int .i64 y2)
      generalize ((wq.setCell ⟨g,p * 2,none⟩ (.int .i64 y1)).setCell ⟨g,p * 2 + 1,none⟩ (.int .i64 y2)) = wq at *
      refine wpAnyH_done (by kernel_rfl) ?_ _
      clear hHeld
      have o3:Own wq base 262 2 (some ⟨g,0,none⟩) N c (fcells L'):=by first | exact SW.out.s1 ▸ o2 | exact SW.out.s2 ▸ o2
      go_wp2_with fail
      go_roundw
      case rel=>exact ⟨p,q,rfl,by omega,by omega,by omega,by rw [HL'.out];exact o3,HB⟩
      case measure=>first | (simp [intOf];done) | (simp [intOf];omega)
    ·have hkI:¬ (i:Int) < (k:Int):=by omega
     obtain rfl:k' = 0:=by omega
     have e1:=HSO.out
     have HF:=Lib.hid (show P ++ (A1 ++ (A2.take 0 ++ ((y1,y2) :: (A2.drop 0 ++ T)))) = P ++ (sortW (M1 ++ [(y1,y2)]) ++ T) by rw [e1];simp)
     clear e1
     go_wp2_with fail
     try rw [Exit.noGoto_ret]
     try simp only [Exit.inBlock,Exit.then]
     refine bodyPost_ret (results_none rfl _ _ _) rfl ?_
     exact ⟨rfl,HF.out ▸ o2,HB⟩
end LenW
end Go.Proofs.YtnpncpoiiikafaaGreat
