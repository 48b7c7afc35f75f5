/- LfI -/
import Derived.Test.YtnpncpoiiikafaaGreatLfAQt
set_option linter.unusedVariables false
set_option linter.unusedSimpArgs false
set_option linter.unnecessarySimpa false
set_option maxRecDepth 100000
set_option maxHeartbeats 32000000
namespace Go.Proofs.YtnpncpoiiikafaaGreat
open Go.RowKit
namespace LenW
def aList (G:List (Int × Int)):Nat → Nat → List Nat
 | 0,_=>[]
 | i + 1,n=>if n = 0 then [] else (n - packsW ((rowW G i).take n)) :: aList G i (2 * packsW ((rowW G i).take n))
theorem mrg_leaves (a b:List (Int × Int)) (ha:∀ y ∈ a,0≤y.2) (hb:∀ y ∈ b,y.2 < 0):(mrg a b).filter (fun x=>!decide (x.2 < 0)) = a:=by
 suffices ∀ n (a b:List (Int × Int)),a.length + b.length≤n → (∀ y ∈ a,0≤y.2) → (∀ y ∈ b,y.2 < 0) → (mrg a b).filter (fun x=>!decide (x.2 < 0)) = a from this _ a b (Nat.le_refl _) ha hb
 have full:∀ a:List (Int × Int),(∀ y ∈ a,0≤y.2) → a.filter (fun x=>!decide (x.2 < 0)) = a:=fun a ha=>List.filter_eq_self.2 (fun x hx=>by have:=ha x hx;simp;omega)
 have none:∀ b:List (Int × Int),(∀ y ∈ b,y.2 < 0) → b.filter (fun x=>!decide (x.2 < 0)) = []:=fun b hb=>List.filter_eq_nil_iff.2 (fun x hx=>by have:=hb x hx;simp;omega)
 intro n
 induction n with
 | zero =>
  intro a b h ha hb
  obtain rfl:=List.length_eq_zero_iff.1 (show a.length = 0 by omega)
  exact none b hb
 | succ n ih =>
  intro a b h ha hb
  match a,b with
  | [],b=>exact none b hb
  | x :: a,[]=>rw [mrg_right];exact full _ ha
  | x :: a,y :: b =>
   simp only [List.length_cons] at h
   have hx:=ha x (by simp)
   have hy:=hb y (by simp)
   rw [mrg_cons]
   split
   ·rw [List.filter_cons,if_pos (by simp;omega),ih a (y :: b) (by simp only [List.length_cons];omega) (fun z hz=>ha z (by simp [hz])) hb]
   ·rw [List.filter_cons,if_neg (by simpa using hy),ih (x :: a) b (by simp only [List.length_cons];omega) ha (fun z hz=>hb z (by simp [hz]))]
theorem row_leaves {G:List (Int × Int)} (hl:∀ y ∈ G,0≤y.2) (i:Nat):(rowW G i).filter (fun x=>!decide (x.2 < 0)) = G:=by
 cases i with
 | zero=>exact List.filter_eq_self.2 (fun x hx=>by have:=hl x hx;simp;omega)
 | succ i=>exact mrg_leaves _ _ hl (pkgs_neg _ 0)
theorem leaves_len (l:List (Int × Int)):(l.filter fun x=>!decide (x.2 < 0)).length = l.length - packsW l:=by
 unfold packsW
 induction l with
 | nil=>rfl
 | cons x l ih =>
  have h2:=List.length_filter_le (fun x:Int × Int=>decide (x.2 < 0)) l
  rw [List.filter_cons,List.filter_cons]
  by_cases h:x.2 < 0
  ·simp [h];omega
  ·simp [h];omega
theorem take_leaves {G:List (Int × Int)} (hl:∀ y ∈ G,0≤y.2) (i n:Nat) (hn:n≤(rowW G i).length):((rowW G i).take n).filter (fun x=>!decide (x.2 < 0)) = G.take (n - packsW ((rowW G i).take n)):=by
 rw [take_filter,row_leaves hl,leaves_len,List.length_take,Nat.min_eq_left hn]
def upL (G:List (Int × Int)) (L:List Int) (a:Nat):List Int:=((G.take a).map (·.2)).foldl incL L
theorem taken_as {G:List (Int × Int)} (hl:∀ y ∈ G,0≤y.2) (i:Nat):∀ (n:Nat) (L:List Int),(∀ j,i = j + 1 → n≤(rowW G j).length) → takenW G i n L = (aList G i n).foldl (upL G) L:=by
 induction i with
 | zero=>intro n L _;rfl
 | succ i ih =>
  intro n L hn
  rw [takenW,aList]
  by_cases h0:n = 0
  ·rw [if_pos h0,if_pos h0];rfl
  ·rw [if_neg h0,if_neg h0,List.foldl_cons,bump_flat,take_leaves hl i n (hn i rfl),ih _ _ (fun j e=>by subst e;exact rowW_packs G hl j n)]
   rfl
def cntN (s:Int) (S:List Int):Nat:=(S.filter fun x=>decide (x = s)).length
theorem incs_at (S:List Int):∀ (L:List Int) (k:Nat) (hk:k < L.length),(∀ x ∈ S,0≤x) → (S.foldl incL L)[k]? = some (L[k] + (cntN (k:Int) S:Int)):=by
 induction S with
 | nil=>intro L k hk _;simp [cntN]
 | cons x S ih =>
  intro L k hk hS
  have hx:=hS x (by simp)
  rw [List.foldl_cons,ih (incL L x) k (by simpa [incL] using hk) (fun y hy=>hS y (by simp [hy]))]
  congr 1
  unfold cntN
  rw [List.filter_cons]
  by_cases h:x = (k:Int)
  ·subst h
   simp only [incL,Int.toNat_natCast,List.getElem_set_self,List.getElem?_eq_getElem hk,Option.getD_some,decide_true,if_true,List.length_cons]
   omega
  ·have h2:x.toNat ≠ k:=by omega
   simp only [incL,List.getElem_set_ne h2,h,decide_false,Bool.false_eq_true,if_false]
theorem ups_flat (G:List (Int × Int)) (av:List Nat):∀ L:List Int,av.foldl (upL G) L = (av.flatMap fun a=>(G.take a).map (·.2)).foldl incL L:=by
 induction av with
 | nil=>intro L;rfl
 | cons a av ih=>intro L;rw [List.foldl_cons,ih,List.flatMap_cons,List.foldl_append];rfl
theorem cnt_app (s:Int) (S T:List Int):cntN s (S ++ T) = cntN s S + cntN s T:=by simp [cntN]
def lamL (av:List Nat) (r:Nat):Nat:=(av.filter fun a=>decide (r < a)).length
theorem cnt_take {G:List (Int × Int)} (hd:G.Pairwise fun a b=>a.2 ≠ b.2) (r:Nat) (hr:r < G.length) (a:Nat):cntN G[r].2 ((G.take a).map (·.2)) = if r < a then 1 else 0:=by
 induction G generalizing r a with
 | nil=>simp at hr
 | cons x G ih =>
  obtain ⟨d1,d2⟩:=List.pairwise_cons.1 hd
  cases a with
  | zero=>simp [cntN]
  | succ a =>
   rw [List.take_succ_cons,List.map_cons]
   cases r with
   | zero =>
    have hz:cntN x.2 ((G.take a).map (·.2)) = 0:=by
     unfold cntN
     rw [List.length_eq_zero_iff,List.filter_eq_nil_iff]
     intro z hz
     obtain ⟨y,hy,rfl⟩:=List.mem_map.1 hz
     have:=d1 y (List.mem_of_mem_take hy)
     simpa using fun e=>this e.symm
    show cntN x.2 ([x.2] ++ _) = _
    rw [cnt_app,hz]
    simp [cntN]
   | succ r =>
    simp only [List.length_cons] at hr
    have hne:x.2 ≠ G[r].2:=d1 _ (List.getElem_mem (by omega))
    show cntN G[r].2 ([x.2] ++ _) = _
    rw [cnt_app,ih d2 r (by omega) a]
    simp [cntN,hne]
theorem cnt_flat {G:List (Int × Int)} (hd:G.Pairwise fun a b=>a.2 ≠ b.2) (r:Nat) (hr:r < G.length) (av:List Nat):cntN G[r].2 (av.flatMap fun a=>(G.take a).map (·.2)) = lamL av r:=by
 induction av with
 | nil=>rfl
 | cons a av ih =>
  rw [List.flatMap_cons,cnt_app,ih,cnt_take hd r hr]
  unfold lamL
  rw [List.filter_cons]
  by_cases h:r < a
  ·simp [h];omega
  ·simp [h]
theorem cnt_none {G:List (Int × Int)} (s:Int) (h:∀ x ∈ G,x.2 ≠ s) (av:List Nat):cntN s (av.flatMap fun a=>(G.take a).map (·.2)) = 0:=by
 unfold cntN
 rw [List.length_eq_zero_iff,List.filter_eq_nil_iff]
 intro z hz
 obtain ⟨a,_,hz⟩:=List.mem_flatMap.1 hz
 obtain ⟨y,hy,rfl⟩:=List.mem_map.1 hz
 simpa using h y (List.mem_of_mem_take hy)
def sumA:Nat → List Nat → Nat
 | _,[]=>0
 | d,a :: av=>a * 2 ^ d + sumA (d - 1) av
theorem aList_sum {G:List (Int × Int)} (hl:∀ y ∈ G,0≤y.2) (i:Nat):∀ (n d:Nat),i≤d + 1 → (∀ j,i = j + 1 → n≤(rowW G j).length) → (i = 0 → n = 0) → sumA d (aList G i n) = n * 2 ^ d:=by
 induction i with
 | zero=>intro n d _ _ h;rw [h rfl];simp [aList,sumA]
 | succ i ih =>
  intro n d hd hn _
  rw [aList]
  by_cases h0:n = 0
  ·rw [if_pos h0,h0];simp [sumA]
  ·rw [if_neg h0,sumA]
   have hp:=packsW_le ((rowW G i).take n)
   rw [List.length_take] at hp
   cases i with
   | zero =>
    have hpk:packsW ((rowW G 0).take n) = 0:=packsW_pos _ (fun x hx=>hl x (List.mem_of_mem_take hx))
    rw [hpk]
    simp [aList,sumA]
   | succ i =>
    rw [ih _ (d - 1) (by omega) (fun j e=>by obtain rfl:i = j:=(by omega);exact rowW_packs G hl i n) (by omega)]
    obtain ⟨d,rfl⟩:∃ e,d = e + 1:=⟨d - 1,by omega⟩
    rw [Nat.add_sub_cancel,Nat.pow_succ]
    generalize packsW ((rowW G (i + 1)).take n) = p at *
    obtain ⟨q,rfl⟩:∃ q,n = p + q:=⟨n - p,by omega⟩
    rw [Nat.add_sub_cancel_left,Nat.add_mul,Nat.add_comm (q * _)]
    congr 1
    rw [Nat.mul_comm 2 p,Nat.mul_assoc,Nat.mul_comm 2]
theorem rowW_pos {G:List (Int × Int)} (h:∀ x ∈ G,0 < x.1) (m:Nat):∀ x ∈ rowW G m,0 < x.1:=by
 induction m with
 | zero=>exact h
 | succ m ih =>
  intro x hx
  rcases List.mem_append.1 ((mrg_perm _ _).mem_iff.1 hx) with hx | hx
  ·exact h x hx
  ·obtain ⟨k,hk,rfl⟩:=List.getElem_of_mem hx
   have hl:=pkgs_len (rowW G m) 0
   have e:=pkgs_get (rowW G m) 0 k (by omega)
   rw [List.getElem?_eq_getElem hk] at e
   rw [Option.some.inj e]
   have h1:=ih _ (List.getElem_mem (show 2 * k < (rowW G m).length by omega))
   have h2:=ih _ (List.getElem_mem (show 2 * k + 1 < (rowW G m).length by omega))
   dsimp only
   omega
theorem packsW_all {G:List (Int × Int)} (hl:∀ y ∈ G,0≤y.2) (i n:Nat):((rowW G (i + 1)).take n).filter (fun x=>decide (x.2 < 0)) = (pkgs 0 (rowW G i)).take (packsW ((rowW G (i + 1)).take n)):=by
 rw [take_filter,show (rowW G (i + 1)).filter (fun x=>decide (x.2 < 0)) = pkgs 0 (rowW G i) from mrg_packs _ _ hl (pkgs_neg _ 0)]
 rfl
theorem nested {G:List (Int × Int)} (hu:upW G) (hp:∀ x ∈ G,0 < x.1) (hl:∀ y ∈ G,0≤y.2) (i n:Nat) (hn:n≤(rowW G (i + 1)).length) :
 2 * packsW ((rowW G (i + 1)).take n) - packsW ((rowW G i).take (2 * packsW ((rowW G (i + 1)).take n)))≤n - packsW ((rowW G (i + 1)).take n):=by
 have hpk:=rowW_packs G hl i n
 obtain ⟨p,hpe⟩:∃ p,packsW ((rowW G (i + 1)).take n) = p:=⟨_,rfl⟩
 have hall:=packsW_all hl i n
 have hlv:=take_leaves hl (i + 1) n hn
 rw [hpe] at hpk hall hlv ⊢
 have hlv2:=take_leaves hl i (2 * p) hpk
 obtain ⟨a,ha⟩:∃ a,n - p = a:=⟨_,rfl⟩
 obtain ⟨a',ha'⟩:∃ a',2 * p - packsW ((rowW G i).take (2 * p)) = a':=⟨_,rfl⟩
 rw [ha] at hlv ⊢
 rw [ha'] at hlv2 ⊢
 rcases Nat.lt_or_ge a a' with hlt | hge
 ·exfalso
  have hGl:a'≤G.length ∨ G.length < a':=by omega
  have haG:a < G.length:=by
   have e1:=congrArg List.length hlv2
   have h1:=List.length_filter_le (fun x:Int × Int=>!decide (x.2 < 0)) ((rowW G i).take (2 * p))
   have e2:=leaves_len ((rowW G i).take (2 * p))
   rw [List.length_take,Nat.min_eq_left hpk,ha'] at e2
   rw [e2,List.length_take] at e1
   omega
  have m1:G[a] ∈ (rowW G i).take (2 * p):=by
   have:G[a] ∈ ((rowW G i).take (2 * p)).filter (fun x=>!decide (x.2 < 0)):=by
    rw [hlv2]
    exact List.mem_take_iff_getElem.2 ⟨a,by omega,rfl⟩
   exact (List.mem_filter.1 this).1
  obtain ⟨t,ht,het⟩:=List.mem_take_iff_getElem.1 m1
  have htl:t < (rowW G i).length:=by omega
  have ht2:t < 2 * p:=by omega
  have hkl:2 * (t / 2) + 1 < (rowW G i).length:=by omega
  have hpl:=pkgs_len (rowW G i) 0
  have e:=pkgs_get (rowW G i) 0 (t / 2) hkl
  have hkp:t / 2 < (pkgs 0 (rowW G i)).length:=by omega
  rw [List.getElem?_eq_getElem hkp] at e
  have hw:G[a].1 < ((pkgs 0 (rowW G i))[t / 2]).1:=by
   rw [Option.some.inj e]
   have w1:=rowW_pos hp i _ (List.getElem_mem (show 2 * (t / 2) < (rowW G i).length by omega))
   have w2:=rowW_pos hp i _ (List.getElem_mem hkl)
   dsimp only
   rcases Nat.mod_two_eq_zero_or_one t with h | h
   ·have:(rowW G i)[2 * (t / 2)]'(by omega) = G[a]:=by rw [← het];congr 1;omega
    rw [this] at w1 ⊢
    omega
   ·have:(rowW G i)[2 * (t / 2) + 1]'hkl = G[a]:=by rw [← het];congr 1;omega
    rw [this] at w2 ⊢
    omega
  have m2:(pkgs 0 (rowW G i))[t / 2] ∈ (rowW G (i + 1)).take n:=by
   have:(pkgs 0 (rowW G i))[t / 2] ∈ ((rowW G (i + 1)).take n).filter (fun x=>decide (x.2 < 0)):=by
    rw [hall]
    exact List.mem_take_iff_getElem.2 ⟨t / 2,by omega,rfl⟩
   exact (List.mem_filter.1 this).1
  have m3:G[a] ∈ (rowW G (i + 1)).drop n:=by
   have e3:((rowW G (i + 1)).take n).filter (fun x=>!decide (x.2 < 0)) ++ ((rowW G (i + 1)).drop n).filter (fun x=>!decide (x.2 < 0)) = G:=by rw [← List.filter_append,List.take_append_drop,row_leaves hl]
   rw [hlv] at e3
   have e4:((rowW G (i + 1)).drop n).filter (fun x=>!decide (x.2 < 0)) = G.drop a:=by
    have:=List.take_append_drop a G
    exact List.append_cancel_left (e3.trans this.symm)
   have:G[a] ∈ G.drop a:=List.mem_drop_iff_getElem.2 ⟨0,by omega,by simp⟩
   rw [← e4] at this
   exact (List.mem_filter.1 this).1
  have hup:=rowW_up hu (i + 1)
  rw [← List.take_append_drop n (rowW G (i + 1))] at hup
  have:=(List.pairwise_append.1 hup).2.2 _ m2 _ m3
  omega
 ·exact hge
def downA:List Nat → Prop
 | a :: b :: r=>b≤a∧downA (b :: r)
 | _=>True
theorem aList_down {G:List (Int × Int)} (hu:upW G) (hp:∀ x ∈ G,0 < x.1) (hl:∀ y ∈ G,0≤y.2) (i:Nat):∀ n,(∀ j,i = j + 1 → n≤(rowW G j).length) → downA (aList G i n):=by
 induction i with
 | zero=>intro n _;trivial
 | succ i ih =>
  intro n hn
  rw [aList]
  split
  ·trivial
  ·cases i with
   | zero=>trivial
   | succ i =>
    have h1:=ih (2 * packsW ((rowW G (i + 1)).take n)) (fun j e=>by obtain rfl:i = j:=(by omega);exact rowW_packs G hl i n)
    have h2:=nested hu hp hl i n (hn _ rfl)
    rw [aList] at h1 ⊢
    split
    ·trivial
    ·rename_i h3
     rw [if_neg h3] at h1
     exact ⟨h2,h1⟩
theorem down_le {a:Nat} {av:List Nat} (h:downA (a :: av)):downA av∧∀ b ∈ av,b≤a:=by
 induction av generalizing a with
 | nil=>exact ⟨trivial,fun b hb=>by simp at hb⟩
 | cons b av ih =>
  obtain ⟨h1,h2⟩:=h
  obtain ⟨_,h3⟩:=ih h2
  refine ⟨h2,fun c hc=>?_⟩
  rcases List.mem_cons.1 hc with rfl | hc
  ·exact h1
  ·exact Nat.le_trans (h3 c hc) h1
def shareA:Nat → List Nat → Nat → Nat
 | _,[],_=>0
 | d,a :: av,r=>(if r < a then 2 ^ d else 0) + shareA (d - 1) av r
theorem share_eq (av:List Nat):∀ (d r:Nat),downA av → av.length≤d + 1 → shareA d av r + 2 ^ (d + 1 - lamL av r) = 2 ^ (d + 1):=by
 induction av with
 | nil=>intro d r _ _;simp [shareA,lamL]
 | cons a av ih =>
  intro d r hd hl
  simp only [List.length_cons] at hl
  obtain ⟨h1,h2⟩:=down_le hd
  rw [shareA]
  by_cases h:r < a
  ·have e:lamL (a :: av) r = lamL av r + 1:=by unfold lamL;rw [List.filter_cons];simp [h]
   rw [if_pos h,e]
   cases d with
   | zero =>
    obtain rfl:=List.length_eq_zero_iff.1 (show av.length = 0 by omega)
    simp [shareA,lamL]
   | succ d =>
    have:=ih d r h1 (by omega)
    rw [show d + 1 + 1 - (lamL av r + 1) = d + 1 - lamL av r by omega,Nat.add_sub_cancel,Nat.add_assoc,this,Nat.pow_succ 2 (d + 1)]
    omega
  ·have e0:∀ (av:List Nat) (d:Nat),(∀ b ∈ av,b≤r) → shareA d av r = 0∧lamL av r = 0:=by
    intro av
    induction av with
    | nil=>intro d _;exact ⟨rfl,rfl⟩
    | cons b av ih2 =>
     intro d hb
     have hb1:=hb b (by simp)
     obtain ⟨q1,q2⟩:=ih2 (d - 1) (fun c hc=>hb c (by simp [hc]))
     refine ⟨by rw [shareA,q1,if_neg (by omega)],?_⟩
     unfold lamL at *
     rw [List.filter_cons,if_neg (by simp;omega)]
     exact q2
   obtain ⟨q1,q2⟩:=e0 (a :: av) d (fun b hb=>by
    rcases List.mem_cons.1 hb with rfl | hb
    ·omega
    ·have:=h2 b hb;omega)
   rw [shareA] at q1
   rw [q1,q2]
   simp
theorem share_sum (f:Nat) (av:List Nat):∀ d,(∀ a ∈ av,a≤f) → ((List.range f).map (shareA d av)).sum = sumA d av:=by
 induction av with
 | nil=>intro d _;show ((List.range f).map fun _=>0).sum = 0;induction f with
  | zero=>rfl
  | succ f ih=>rw [List.range_succ,List.map_append,List.sum_append,ih (by simp)];rfl
 | cons a av ih =>
  intro d ha
  have h1:∀ (f:Nat) (g h:Nat → Nat),((List.range f).map fun r=>g r + h r).sum = ((List.range f).map g).sum + ((List.range f).map h).sum:=by
   intro f g h
   induction f with
   | zero=>rfl
   | succ f ih=>rw [List.range_succ,List.map_append,List.map_append,List.map_append,List.sum_append,List.sum_append,List.sum_append,ih];simp;omega
  have h2:∀ f,((List.range f).map fun r=>if r < a then 2 ^ d else 0).sum = min a f * 2 ^ d:=by
   intro f
   induction f with
   | zero=>simp
   | succ f ih =>
    rw [List.range_succ,List.map_append,List.sum_append,ih]
    simp only [List.map_cons,List.map_nil,List.sum_cons,List.sum_nil,Nat.add_zero]
    by_cases h:f < a
    ·rw [if_pos h,show min a (f + 1) = min a f + 1 by omega,Nat.add_mul,Nat.one_mul]
    ·rw [if_neg h,show min a (f + 1) = min a f by omega,Nat.add_zero]
  show ((List.range f).map fun r=>(if r < a then 2 ^ d else 0) + shareA (d - 1) av r).sum = _
  rw [h1,h2,ih (d - 1) (fun b hb=>ha b (by simp [hb])),sumA,Nat.min_eq_left (ha a (by simp))]
end LenW
end Go.Proofs.YtnpncpoiiikafaaGreat
namespace Go.Proofs.YtnpncpoiiikafaaGreat
open Go.RowKit
namespace LenW
theorem sum_const (f c:Nat):((List.range f).map fun _=>c).sum = f * c:=by
 induction f with
 | zero=>simp
 | succ f ih=>rw [List.range_succ,List.map_append,List.sum_append,ih,Nat.add_mul];simp
theorem sum_add (f:Nat) (g h:Nat → Nat):((List.range f).map fun r=>g r + h r).sum = ((List.range f).map g).sum + ((List.range f).map h).sum:=by
 induction f with
 | zero=>rfl
 | succ f ih=>rw [List.range_succ,List.map_append,List.map_append,List.map_append,List.sum_append,List.sum_append,List.sum_append,ih];simp;omega
theorem sum_ge (g:Nat → Nat) (f:Nat) (h:∀ r,r < f → 1≤g r):f≤((List.range f).map g).sum:=by
 induction f with
 | zero=>simp
 | succ f ih =>
  rw [List.range_succ,List.map_append,List.sum_append]
  have h1:=ih (fun r hr=>h r (by omega))
  have h2:=h f (by omega)
  simp
  omega
theorem sum_one (g:Nat → Nat) (f:Nat) (h:∀ r,r < f → 1≤g r) (r0:Nat) (h0:r0 < f):g r0 + (f - 1)≤((List.range f).map g).sum:=by
 induction f with
 | zero=>omega
 | succ f ih =>
  rw [List.range_succ,List.map_append,List.sum_append]
  have h2:=h f (by omega)
  simp only [List.map_cons,List.map_nil,List.sum_cons,List.sum_nil,Nat.add_zero]
  by_cases e:r0 = f
  ·subst e
   have:=sum_ge g r0 (fun r hr=>h r (by omega))
   omega
  ·have:=ih (fun r hr=>h r (by omega)) (by omega)
   omega
theorem sum_same (f:Nat) (g h:Nat → Nat) (e:∀ r,r < f → g r = h r):((List.range f).map g).sum = ((List.range f).map h).sum:=by
 rw [List.map_congr_left (fun r hr=>e r (List.mem_range.1 hr))]
theorem kraftA (av:List Nat) (f:Nat) (hf:2≤f) (hd:downA av) (hl:av.length≤15) (ha:∀ a ∈ av,a≤f) (hs:sumA 14 av = (2 * f - 2) * 2 ^ 14):((List.range f).map fun r=>2 ^ (15 - lamL av r)).sum = 32768:=by
 have h1:=sum_add f (shareA 14 av) (fun r=>2 ^ (15 - lamL av r))
 rw [sum_same f _ (fun _=>32768) (fun r _=>share_eq av 14 r hd hl),sum_const,share_sum f av 14 ha,hs] at h1
 generalize ((List.range f).map fun r=>2 ^ (15 - lamL av r)).sum = z at *
 omega
theorem lam_pos (av:List Nat) (f:Nat) (hf:2≤f) (hk:((List.range f).map fun r=>2 ^ (15 - lamL av r)).sum = 32768) (r:Nat) (hr:r < f):1≤lamL av r:=by
 rcases Nat.eq_zero_or_pos (lamL av r) with h | h
 ·have:=sum_one (fun r=>2 ^ (15 - lamL av r)) f (fun r _=>Nat.one_le_two_pow) r hr
  try dsimp only at this
  rw [hk,h] at this
  simp at this
  omega
 ·exact h
theorem lam_le (av:List Nat) (r:Nat):lamL av r≤av.length:=List.length_filter_le _ _
theorem lam_anti (av:List Nat) (r q:Nat) (h:r≤q):lamL av q≤lamL av r:=by
 unfold lamL
 induction av with
 | nil=>simp
 | cons a av ih =>
  rw [List.filter_cons,List.filter_cons]
  by_cases h1:q < a
  ·have h2:r < a:=by omega
   simp only [h1,h2,decide_true,if_true,List.length_cons];omega
  ·by_cases h2:r < a
   ·simp only [h1,h2,decide_true,decide_false,if_true,Bool.false_eq_true,if_false,List.length_cons];omega
   ·simp only [h1,h2,decide_false,Bool.false_eq_true,if_false];exact ih
theorem aList_len (G:List (Int × Int)) (i:Nat):∀ n,(aList G i n).length≤i:=by
 induction i with
 | zero=>intro n;simp [aList]
 | succ i ih => intro n; rw [aList]; split; · simp
                ·have:=ih (2 * packsW ((rowW G i).take n));simp;omega
theorem aList_le {G:List (Int × Int)} (hl:∀ y ∈ G,0≤y.2) (i:Nat):∀ n,(∀ j,i = j + 1 → n≤(rowW G j).length) → ∀ a ∈ aList G i n,a≤G.length:=by
 induction i with
 | zero=>intro n _ a ha;simp [aList] at ha
 | succ i ih =>
  intro n hn a ha
  rw [aList] at ha
  split at ha
  ·simp at ha
  ·rcases List.mem_cons.1 ha with rfl | ha
   ·have e:=congrArg List.length (take_leaves hl i n (hn i rfl))
    rw [leaves_len,List.length_take,List.length_take,Nat.min_eq_left (hn i rfl)] at e
    omega
   ·exact ih _ (fun j e=>by subst e;exact rowW_packs G hl j n) a ha
theorem lvsK_what (l:List Int) (k:Nat) (hk:k≤l.length):∀ x ∈ lvsK l k,0≤x.2∧x.2 < (k:Int):=by
 induction k with
 | zero=>intro x hx;simp [lvsK] at hx
 | succ k ih =>
  intro x hx
  rw [lvsK_succ l k (by omega)] at hx
  rcases List.mem_append.1 hx with h | h
  ·have:=ih (by omega) x h;omega
  ·split at h
   ·simp at h;subst h;dsimp only;omega
   ·simp at h
theorem lvsK_apart (l:List Int) (k:Nat) (hk:k≤l.length):(lvsK l k).Pairwise fun a b=>a.2 ≠ b.2:=by
 induction k with
 | zero=>simp [lvsK]
 | succ k ih =>
  rw [lvsK_succ l k (by omega)]
  refine List.pairwise_append.2 ⟨ih (by omega),by split <;> simp,fun x hx y hy=>?_⟩
  have:=lvsK_what l k (by omega) x hx
  split at hy
  ·simp at hy;subst hy;dsimp only;omega
  ·simp at hy
theorem lvs_apart (l:List Int):(lvs l).Pairwise fun a b=>a.2 ≠ b.2 :=
 (List.Perm.pairwise_iff (fun {x y} h=>fun e=>h e.symm) (sortW_perm _)).2 (lvsK_apart l _ (Nat.le_refl _))
theorem sum_perm {a b:List Nat} (h:a.Perm b):a.sum = b.sum:=by
 induction h with
 | nil=>rfl
 | cons x _ ih=>simp [ih]
 | swap x y l=>simp;omega
 | trans _ _ ih1 ih2=>rw [ih1,ih2]
theorem sum_lvs (l:List Int) (g:Nat → Nat) (hg:∀ s (h:s < l.length),¬ 0 < l[s] → g s = 0) (k:Nat) (hk:k≤l.length):((List.range k).map g).sum = ((lvsK l k).map fun x=>g x.2.toNat).sum:=by
 induction k with
 | zero=>simp [lvsK]
 | succ k ih =>
  rw [List.range_succ,List.map_append,List.sum_append,ih (by omega),lvsK_succ l k (by omega),List.map_append,List.sum_append]
  congr 1
  split
  ·simp
  ·rename_i h;simp [hg k (by omega) h]
theorem sum_ranks (l:List Int) (g:Nat → Nat) (hg:∀ s (h:s < l.length),¬ 0 < l[s] → g s = 0):((List.range l.length).map g).sum = ((List.range (lvs l).length).map fun r=>g ((lvs l)[r]?.getD (0,0)).2.toNat).sum:=by
 rw [sum_lvs l g hg _ (Nat.le_refl _),← sum_perm ((sortW_perm (lvsK l l.length)).map fun x=>g x.2.toNat)]
 congr 1
 show (lvs l).map _ = _
 refine List.ext_getElem (by simp) (fun r h1 h2=>?_)
 simp only [List.length_map] at h1
 simp [List.getElem?_eq_getElem h1]
theorem sumL_range (L:List Int):sumL L = ((List.range L.length).map fun s=>partL (L[s]?.getD 0)).sum:=by
 unfold sumL
 congr 1
 refine List.ext_getElem (by simp) (fun r h1 h2=>?_)
 simp only [List.length_map] at h1
 simp [List.getElem?_eq_getElem h1]
theorem rank_of (l:List Int) (s:Nat) (h:s < l.length) (hp:0 < l[s]):∃ r,∃ hr:r < (lvs l).length,(lvs l)[r] = (l[s],(s:Int)):=by
 have:(l[s],(s:Int)) ∈ lvs l:=by
  refine (sortW_perm _).mem_iff.2 ?_
  unfold lvsK
  exact List.mem_filterMap.2 ⟨s,List.mem_range.2 h,by simp [List.getElem?_eq_getElem h,hp]⟩
 obtain ⟨r,hr,e⟩:=List.getElem_of_mem this
 exact ⟨r,hr,e⟩
structure Ranked (l L:List Int) (most:Nat) (lam:Nat → Nat):Prop where
 len:L.length = l.length
 pos:∀ r (h:r < (lvs l).length),L[((lvs l)[r]).2.toNat]? = some (lam r:Int)∧1≤lam r∧lam r≤most
 zero:∀ s (h:s < l.length),¬ 0 < l[s] → L[s]? = some 0
 anti:∀ r q,r≤q → q < (lvs l).length → lam q≤lam r
theorem ranked_at {l L:List Int} {most:Nat} {lam:Nat → Nat} (h:Ranked l L most lam) (s:Nat) (hs:s < l.length):(∃ r,∃ hr:r < (lvs l).length,0 < l[s]∧(lvs l)[r] = (l[s],(s:Int))∧L[s]? = some (lam r:Int)∧1≤lam r∧lam r≤most) ∨ (¬ 0 < l[s]∧L[s]? = some 0):=by
 by_cases hp:0 < l[s]
 ·obtain ⟨r,hr,e⟩:=rank_of l s hs hp
  have:=h.pos r hr
  rw [e] at this
  simp only [Int.toNat_natCast] at this
  exact .inl ⟨r,hr,hp,e,this⟩
 ·exact .inr ⟨hp,h.zero s hs hp⟩
theorem best_few (l:List Int) (most:Nat) (hm:1≤most) (hf:usedL l < 2):Ranked l (bestW l most) most (fun _=>1):=by
 have hG:=lvs_len l
 have hlen:=bestW_len l most
 rw [bestW_few l most hf] at hlen ⊢
 match hGe:lvs l with
 | [] =>
  refine ⟨by simp,fun r h=>?_,fun s h _=>?_,fun _ _ _ _=>Nat.le_refl _⟩
  ·rw [hGe] at h;simp at h
  ·simp [h]
 | [x] =>
  have hx:=lvs_what l x (by rw [hGe];simp)
  obtain ⟨i,hi,hxe,hxp⟩:=lvs_mem l x (by rw [hGe];simp)
  show Ranked l ((List.replicate l.length 0).set x.2.toNat 1) most (fun _=>1)
  refine ⟨by simp,fun r h=>?_,fun s h hn=>?_,fun _ _ _ _=>Nat.le_refl _⟩
  ·simp only [hGe] at h ⊢
   obtain rfl:r = 0:=by simpa using h
   refine ⟨?_,Nat.le_refl _,hm⟩
   simp only [List.getElem_cons_zero]
   rw [List.getElem?_set_self (by simp;omega)]
   rfl
  ·have hne:x.2.toNat ≠ s:=by
    intro e
    rw [hxe] at e
    simp only [Int.toNat_natCast] at e
    subst e
    exact hn hxp
   rw [List.getElem?_set_ne hne]
   simp [h]
 | x :: y :: r=>rw [hGe] at hG;simp at hG;omega
theorem best_many (l:List Int) (most:Nat) (hm:1≤most) (hm15:most≤15) (hf:¬ usedL l < 2) (hroom:usedL l≤2 ^ most):∃ lam,Ranked l (bestW l most) most lam∧((List.range (lvs l).length).map fun r=>2 ^ (15 - lam r)).sum = 32768:=by
 have hG:=lvs_len l
 have hu:upW (lvs l):=sortW_up _
 have hl:∀ y ∈ lvs l,0≤y.2:=fun y hy=>(lvs_what l y hy).1
 have hpos:∀ x ∈ lvs l,0 < x.1:=fun x hx=>by obtain ⟨i,hi,rfl,h⟩:=lvs_mem l x hx;exact h
 have hn:∀ j,most = j + 1 → 2 * usedL l - 2≤(rowW (lvs l) j).length:=fun j e=>by
  have:=rowW_room (lvs l) most (by rw [hG];exact hroom) j (by omega)
  rw [show most - j = 1 by omega,hG] at this
  omega
 obtain ⟨av,hav⟩:∃ av,aList (lvs l) most (2 * usedL l - 2) = av:=⟨_,rfl⟩
 have h1:=taken_as hl most (2 * usedL l - 2) (List.replicate l.length 0) hn
 have h2:=aList_len (lvs l) most (2 * usedL l - 2)
 have h3:=aList_le hl most (2 * usedL l - 2) hn
 have h4:=aList_down hu hpos hl most (2 * usedL l - 2) hn
 have h5:=aList_sum hl most (2 * usedL l - 2) 14 (by omega) hn (by omega)
 rw [hav] at h1 h2 h3 h4 h5
 have hk:=kraftA av (lvs l).length (by omega) h4 (by omega) h3 (by rw [hG];exact h5)
 have hb:bestW l most = (av.flatMap fun a=>((lvs l).take a).map (·.2)).foldl incL (List.replicate l.length 0):=by rw [bestW_many l most hf,h1,ups_flat]
 have hnn:∀ x ∈ (av.flatMap fun a=>((lvs l).take a).map (·.2)),0≤x:=by
  intro z hz
  obtain ⟨a,_,hz⟩:=List.mem_flatMap.1 hz
  obtain ⟨y,hy,rfl⟩:=List.mem_map.1 hz
  exact hl y (List.mem_of_mem_take hy)
 refine ⟨lamL av,⟨bestW_len l most,fun r hr=>⟨?_,lam_pos av _ (by omega) hk r hr,Nat.le_trans (lam_le av r) h2⟩,fun s hs hz=>?_,fun r q hrq _=>lam_anti av r q hrq⟩,hk⟩
 ·have hw:=lvs_what l _ (List.getElem_mem hr)
  obtain ⟨y,hy⟩:=Int.eq_ofNat_of_zero_le hw.1
  rw [hb,incs_at _ _ ((lvs l)[r]).2.toNat (by simp;omega) hnn]
  have e:((((lvs l)[r]).2.toNat:Nat):Int) = ((lvs l)[r]).2:=by omega
  rw [e,cnt_flat (lvs_apart l) r hr av]
  simp
 ·rw [hb,incs_at _ _ s (by simpa using hs) hnn,cnt_none (s:Int) (fun x hx e=>by
   obtain ⟨i,hi,rfl,hp⟩:=lvs_mem l x hx
   have:i = s:=by dsimp only at e;omega
   subst this
   exact hz hp) av]
  simp
theorem ranked_sum {l L:List Int} {most:Nat} {lam:Nat → Nat} (h:Ranked l L most lam):sumL L = ((List.range (lvs l).length).map fun r=>2 ^ (15 - lam r)).sum:=by
 rw [sumL_range,h.len,sum_ranks l (fun s=>partL (L[s]?.getD 0)) (fun s hs hz=>by rw [h.zero s hs hz];rfl)]
 refine sum_same _ _ _ (fun r hr=>?_)
 obtain ⟨h1,h2,_⟩:=h.pos r hr
 rw [List.getElem?_eq_getElem hr,Option.getD_some,h1,Option.getD_some,partL,if_pos (by omega),Int.toNat_natCast]
theorem ranked_ok {l L:List Int} {most:Nat} {lam:Nat → Nat} (h:Ranked l L most lam) (hm:most≤15):okL L = true:=by
 unfold okL
 rw [List.all_eq_true]
 intro x hx
 obtain ⟨s,hs,rfl⟩:=List.getElem_of_mem hx
 rcases ranked_at h s (by rw [← h.len];exact hs) with ⟨r,hr,_,_,e,h1,h2⟩ | ⟨_,e⟩
 ·rw [List.getElem?_eq_getElem hs] at e
  rw [Option.some.inj e]
  simp
  omega
 ·rw [List.getElem?_eq_getElem hs] at e
  rw [Option.some.inj e]
  simp
theorem best_ranked {l:List Int} {most:Int} (hv:refuseW l most = 0):∃ lam,Ranked l (bestW l most.toNat) most.toNat lam∧chkL (bestW l most.toNat) = 0:=by
 obtain ⟨h257,hm1,hm15,hbad,hroom⟩:=refuseW_ok hv
 have hlen:=bestW_len l most.toNat
 by_cases hf:usedL l < 2
 ·have hR:=best_few l most.toNat (by omega) hf
  refine ⟨_,hR,?_⟩
  have hs:=ranked_sum hR
  rw [lvs_len] at hs
  unfold chkL
  rw [if_neg (by omega),if_neg (by rw [ranked_ok hR (by omega)];simp)]
  by_cases h0:usedL l = 0
  ·rw [h0] at hs
   rw [if_pos (.inl (by rw [hs];rfl))]
  ·have h1:usedL l = 1:=by omega
   rw [h1] at hs
   have e:sumL (bestW l most.toNat) = 16384:=by rw [hs];rfl
   refine if_pos (.inr (.inr ⟨?_,e⟩))
   have hG:=lvs_len l
   rw [h1] at hG
   obtain ⟨x,hx⟩:=List.length_eq_one_iff.1 hG
   have hw:=lvs_what l x (by rw [hx];simp)
   rw [bestW_few l _ hf,hx]
   show usedL ((List.replicate l.length 0).set x.2.toNat 1) = 1
   obtain ⟨y,hy⟩:=Int.eq_ofNat_of_zero_le hw.1
   rw [hy,Int.toNat_natCast]
   have hyl:y < l.length:=by omega
   generalize l.length = n at hyl
   unfold usedL
   clear hs e hlen hR hx hw hy
   induction n generalizing y with
   | zero=>omega
   | succ n ih =>
    rw [List.replicate_succ]
    cases y with
    | zero =>
     rw [List.set_cons_zero,List.filter_cons,if_pos (by simp),List.filter_eq_nil_iff.2 (fun z hz=>by have:=(List.mem_replicate.1 hz).2;subst this;simp)]
     rfl
    | succ y =>
     rw [List.set_cons_succ,List.filter_cons,if_neg (by simp)]
     exact ih y (by omega)
 ·obtain ⟨lam,hR,hk⟩:=best_many l most.toNat (by omega) (by omega) hf hroom
  refine ⟨lam,hR,?_⟩
  have hs:=ranked_sum hR
  rw [hk] at hs
  unfold chkL
  rw [if_neg (by omega),if_neg (by rw [ranked_ok hR (by omega)];simp),if_pos (.inr (.inl hs))]
end LenW
end Go.Proofs.YtnpncpoiiikafaaGreat
namespace Go.Proofs.YtnpncpoiiikafaaGreat
open Go.RowKit
namespace LenW
end LenW
end Go.Proofs.YtnpncpoiiikafaaGreat
