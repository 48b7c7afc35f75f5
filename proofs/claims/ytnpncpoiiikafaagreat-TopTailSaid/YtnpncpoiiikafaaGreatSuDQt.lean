/- SuD -/
import Derived.Test.YtnpncpoiiikafaaGreatSuWQt
import Derived.Test.YtnpncpoiiikafaaGreatSufNQt
import Derived.BigQuiet
import Derived.Deep.DeepCutAuto
import Derived.Deep.CutRange
import Derived.Test.YtnpncpoiiikafaaGreatMemQt
set_option linter.unusedVariables false
set_option linter.unusedSimpArgs false
set_option linter.unnecessarySimpa false
set_option maxRecDepth 100000
set_option maxHeartbeats 32000000
namespace Go.Proofs.YtnpncpoiiikafaaGreat
open Go.RowKit
namespace SufW
theorem nt_get {w:World} {B n:Nat} {A:Option Addr} {l:List Nat} (h:Rd w B 1 A n (nt l)) (k:Nat) (hk:k < n):∃ b o,A = some ⟨b,o,none⟩∧b < B∧w.cell? ⟨b,o + k,none⟩ = some (.int .i64 (rkOf l k:Nat)):=by
 have hl:l.length = n:=by have:=h.len;rw [nt_len] at this;omega
 obtain ⟨b,o,rfl,hb,hc⟩:=h.at_ (by omega)
 have hkl:k < (nt l).length:=by rw [nt_len];omega
 refine ⟨b,o,rfl,hb,?_⟩
 rw [hc k hkl]
 have:=nt_at l k (rkOf l k) (by rw [rkOf,List.getElem?_eq_getElem (show k < l.length by omega)];rfl)
 rwa [List.getElem?_eq_getElem hkl] at this
structure DbI (w:World) (B s0 s1 s2:Nat) (R:Option Addr) (n cR L:Nat) (r:List Nat):Prop where
 b0:Blk w s0 84 #[.slice R n cR]
 b1:Blk w s1 3 #[.int .i64 L]
 b2:Blk w s2 3 #[.int .i64 n]
 rd:Rd w B 1 R n (nt r)
 hB:B≤w.heap.size
theorem DbI.below {w w':World} {B s0 s1 s2:Nat} {R:Option Addr} {n cR L:Nat} {r:List Nat} (h:DbI w B s0 s1 s2 R n cR L r) (hb:Below w.heap.size w w'):DbI w' B s0 s1 s2 R n cR L r :=
 ⟨h.b0.below hb h.b0.lt,h.b1.below hb h.b1.lt,h.b2.below hb h.b2.lt,h.rd.below (hb.mono h.hB),Nat.le_trans h.hB hb.size⟩
theorem DbI.far {w:World} {B s0 s1 s2:Nat} {R:Option Addr} {n cR L:Nat} {r:List Nat} (h:DbI w B s0 s1 s2 R n cR L r) (g i:Nat) (h0:s0 < g) (h1:s1 < g) (h2:s2 < g) (hg:B≤g) (v:Value):DbI (w.setCell ⟨g,i,none⟩ v) B s0 s1 s2 R n cR L r :=
 ⟨h.b0.far (p:=⟨g,i,none⟩) (by dsimp only;omega) v,h.b1.far (p:=⟨g,i,none⟩) (by dsimp only;omega) v,h.b2.far (p:=⟨g,i,none⟩) (by dsimp only;omega) v,h.rd.below ((Below.refl B w).setCell (p:=⟨g,i,none⟩) hg v),by rw [World.size_setCell];exact h.hB⟩
theorem first_any (B s0 s1 s2:Nat) (R:Option Addr) (n cR L:Nat) (r:List Nat) (w:World) (h:DbI w B s0 s1 s2 R n cR L r) (hn:n≤100000) (p:Nat) (hp:p < n) :
 Calls Tryz.prog 196 #[.int .i64 p,.pointer (some ⟨s0,0,none⟩)] w fun e w'=>e = .returned (.int .i64 (rkOf r p:Nat))∧w = w':=by
 obtain ⟨c0,_,_⟩:=blk1 h.b0
 obtain ⟨b,o,rfl,hb,hc⟩:=nt_get h.rd p hp
 have hp0:(0:Int)≤(p:Int):=by omega
 have hpn:(p:Int) < (n:Int):=by omega
 go_enter Tryz.func196,Tryz.ntmps196
 go_wp2_with fail
 go_ret
 exact ⟨rfl,rfl⟩
theorem second_any (B s0 s1 s2:Nat) (R:Option Addr) (n cR L:Nat) (r:List Nat) (w:World) (h:DbI w B s0 s1 s2 R n cR L r) (hn:n≤100000) (hL:L≤100000) (hr:∀ p,p < n → rkOf r p < n) (p:Nat) (hp:p < n) :
 Calls Tryz.prog 195 #[.int .i64 p,.pointer (some ⟨s1,0,none⟩),.pointer (some ⟨s2,0,none⟩),.pointer (some ⟨s0,0,none⟩)] w fun e w'=>e = .returned (.int .i64 (second n L (rkOf r) p:Nat))∧w = w':=by
 obtain ⟨c0,_,_⟩:=blk1 h.b0
 obtain ⟨c1,_,_⟩:=blk1 h.b1
 obtain ⟨c2,_,_⟩:=blk1 h.b2
 have hw:IntKind.i64.wrap ((p:Int) + (L:Int)) = (p:Int) + (L:Int):=w64s (by omega) (by omega)
 by_cases hlt:p + L < n
 ·obtain ⟨b,o,rfl,hb,hc⟩:=nt_get h.rd (p + L) hlt
  have hv:second n L (rkOf r) p = rkOf r (p + L) + 1:=if_pos hlt
  have hrl:=hr (p + L) hlt
  rw [hv]
  have h0:(0:Int)≤(p:Int) + (L:Int):=by omega
  have h1:(p:Int) + (L:Int) < (n:Int):=by omega
  generalize rkOf r (p + L) = x at *
  have hx:IntKind.i64.wrap ((x:Int) + 1) = (x:Int) + 1:=w64s (by omega) (by omega)
  have hc':w.cell? ⟨b,o + ((p:Int) + (L:Int)).toNat,none⟩ = some (.int .i64 (x:Nat)):=by rw [show ((p:Int) + (L:Int)).toNat = p + L by omega];exact hc
  clear hv
  go_enter Tryz.func195,Tryz.ntmps195
  go_wp2_with fail
  go_ret
  exact ⟨rfl,rfl⟩
 ·have hv:second n L (rkOf r) p = 0:=if_neg hlt
  rw [hv]
  have h1:¬ (p:Int) + (L:Int) < (n:Int):=by omega
  clear hv
  go_enter Tryz.func195,Tryz.ntmps195
  go_wp2_with fail
  go_ret
  exact ⟨rfl,rfl⟩
theorem keyF1 (B s0 s1 s2:Nat) (R:Option Addr) (n cR L:Nat) (r:List Nat) (w:World) (h:DbI w B s0 s1 s2 R n cR L r) (hn:n≤100000) (l:List Nat) (hl:∀ p ∈ l,p < n):KeyF w 196 #[.pointer (some ⟨s0,0,none⟩)] l (rkOf r) :=
 ⟨fun args w=>run_enter Tryz.func196 (by kernel_rfl) rfl args w,fun p hp w' hb=>(first_any B s0 s1 s2 R n cR L r w' (h.below hb) hn p (hl p hp)).mono fun e w2 ⟨h1,h2⟩=>⟨h1,by subst h2;exact Below.refl _ _⟩⟩
theorem keyF2 (B s0 s1 s2:Nat) (R:Option Addr) (n cR L:Nat) (r:List Nat) (w:World) (h:DbI w B s0 s1 s2 R n cR L r) (hn:n≤100000) (hL:L≤100000) (hr:∀ p,p < n → rkOf r p < n) (l:List Nat) (hl:∀ p ∈ l,p < n):KeyF w 195 #[.pointer (some ⟨s1,0,none⟩),.pointer (some ⟨s2,0,none⟩),.pointer (some ⟨s0,0,none⟩)] l (second n L (rkOf r)) :=
 ⟨fun args w=>run_enter Tryz.func195 (by kernel_rfl) rfl args w,fun p hp w' hb=>(second_any B s0 s1 s2 R n cR L r w' (h.below hb) hn hL hr p (hl p hp)).mono fun e w2 ⟨h1,h2⟩=>⟨h1,by subst h2;exact Below.refl _ _⟩⟩
theorem counted_at (mI:Int) (A:Option Addr) (n c:Nat) (l:List Nat) (key:Nat → Nat) (most:Nat) (hmI:mI = (most:Int)) (K:FuncId) (caps:Array Value) (w:World) (h:Rd w w.heap.size 1 A n (nt l)) (hn:n≤100000) (hm:most≤1000000) (hk:∀ p ∈ l,key p≤most) (hF:KeyF w K caps l key) :
 Calls Tryz.prog 178 #[.slice A n c,.int .i64 mI,.func (.func K) #[] caps] w fun e w'=>∃ g,e = .returned (.slice (some ⟨g,0,none⟩) n n)∧w.heap.size≤g∧Blk w' g 3 (nt (csort key most l)).toArray∧Below w.heap.size w w':=by
 subst hmI;exact counted_any A n c l key most K caps w h hn hm hk hF
theorem rd_nt {w:World} {g n:Nat} {l:List Nat} (h:Blk w g 3 (nt l).toArray) (hl:l.length = n):Rd w w.heap.size 1 (some ⟨g,0,none⟩) n (nt l) :=
 (Rd.of_blk h (by rw [nt_len];omega)).more h.lt
def twoA (n L:Nat) (r a:List Nat):List Nat:=csort (rkOf r) n (csort (second n L (rkOf r)) (n + 1) a)
theorem second_in (n L:Nat) (rk:Nat → Nat) (hr:∀ p,p < n → rk p < n) (p:Nat):second n L rk p≤n + 1:=by
 unfold second
 split
 ·next h=>have:=hr _ h;omega
 ·omega
structure TwoF (n L:Nat) (r a:List Nat):Prop where
 m1:∀ p,p ∈ csort (second n L (rkOf r)) (n + 1) a ↔ p < n
 l1:(csort (second n L (rkOf r)) (n + 1) a).length = n
 mem:∀ p,p ∈ twoA n L r a ↔ p < n
 len:(twoA n L r a).length = n
 nodup:(twoA n L r a).Nodup
theorem two_facts {n L:Nat} {r a:List Nat} (hl:a.length = n) (hnd:a.Nodup) (hmem:∀ p,p ∈ a ↔ p < n) (hr:∀ p,p < n → rkOf r p < n):TwoF n L r a:=by
 have h1:∀ p ∈ a,second n L (rkOf r) p≤n + 1:=fun p _=>second_in n L _ hr p
 have m1:∀ p,p ∈ csort (second n L (rkOf r)) (n + 1) a ↔ p < n:=fun p=>by rw [csort_mem h1,hmem]
 have h2:∀ p ∈ csort (second n L (rkOf r)) (n + 1) a,rkOf r p≤n:=fun p hp=>by have:=hr p ((m1 p).1 hp);omega
 refine ⟨m1,by rw [csort_len _ _ _ h1,hl],fun p=>by rw [twoA,csort_mem h2,m1],by rw [twoA,csort_len _ _ _ h2,csort_len _ _ _ h1,hl],csort_nodup (csort_nodup hnd)⟩
theorem doubled_any (A R:Option Addr) (n cA cR L:Nat) (a r:List Nat) (w:World) (hA:Rd w w.heap.size 1 A n (nt a)) (hR:Rd w w.heap.size 1 R n (nt r)) (hn1:1≤n) (hn:n≤100000) (hL:L≤100000) (hnd:a.Nodup) (hmem:∀ p,p ∈ a ↔ p < n) (hr:∀ p,p < n → rkOf r p < n) :
 Calls Tryz.prog 180 #[.slice A n cA,.slice R n cR,.int .i64 L] w fun e w'=>∃ g1 g2 N,e = .returned (.tuple #[.slice (some ⟨g1,0,none⟩) n n,.slice (some ⟨g2,0,none⟩) n n,.bool (decide (drank (dTwo n L (rkOf r)) (twoA n L r a) (n - 1) = n - 1))]) ∧
  Blk w' g1 3 (nt (twoA n L r a)).toArray∧Blk w' g2 3 (nt N).toArray∧NxI (dTwo n L (rkOf r)) (twoA n L r a) N n∧Below w.heap.size w w':=by
 have hmf:∀ (fn:Fn) (first cap:Array Value) (w:World),(Instr.makeFunc fn first cap).run Tryz.prog w = .ok (.func fn first cap) w:=fun _ _ _ _=>rfl
 have hal:a.length = n:=by have:=hA.len;rw [nt_len] at this;omega
 have TF:=two_facts (L:=L) hal hnd hmem hr
 have hn1w:IntKind.i64.wrap ((n:Int) + 1) = (n:Int) + 1:=w64s (by omega) (by omega)
 obtain ⟨s0,hs0⟩:∃ s0,w.heap.size = s0:=⟨_,rfl⟩
 obtain ⟨w3,hw3⟩:∃ w3,((w.alloc (.cells #[.slice R n cR] 84)).alloc (.cells #[.int .i64 L] 3)).alloc (.cells #[.int .i64 n] 3) = w3:=⟨_,rfl⟩
 have HB3:Below w.heap.size w w3:=by rw [← hw3];exact (((Below.refl w.heap.size w).alloc (Nat.le_refl _) _).alloc (by simp) _).alloc (by simp;omega) _
 have hz3:w3.heap.size = s0 + 3:=by rw [← hw3,← hs0];simp
 have D:DbI w3 s0 s0 (s0 + 1) (s0 + 1 + 1) R n cR L r:=by
  refine ⟨?_,?_,?_,by rw [← hs0];exact hR.below HB3,by rw [← hs0];exact HB3.size⟩
  ·rw [← hw3,← hs0];exact ((Blk.new w 84 #[.slice R n cR]).alloc _).alloc _
  ·rw [← hw3,← hs0];have:=Blk.new (w.alloc (.cells #[.slice R n cR] 84)) 3 #[.int .i64 L];rw [World.size_alloc] at this;exact this.alloc _
  ·rw [← hw3,← hs0];have:=Blk.new ((w.alloc (.cells #[.slice R n cR] 84)).alloc (.cells #[.int .i64 L] 3)) 3 #[.int .i64 n];rw [World.size_alloc,World.size_alloc] at this;exact this
 have HW:=Below.refl w3.heap.size w3
 have hz3':s0 + 1 + 1 < w3.heap.size:=by omega
 have h1:∀ p ∈ a,second n L (rkOf r) p≤n + 1:=fun p _=>second_in n L _ hr p
 have h2:∀ p ∈ csort (second n L (rkOf r)) (n + 1) a,rkOf r p≤n:=fun p hp=>by have:=hr p ((TF.m1 p).1 hp);omega
 have H1:=Lib.hid h1
 have H2:=Lib.hid h2
 obtain ⟨u,hu⟩:∃ u,twoA n L r a = u:=⟨_,rfl⟩
 have hul:u.length = n:=by rw [← hu];exact TF.len
 have UN:=Lib.hid (show u.Nodup by rw [← hu];exact TF.nodup)
 have UM:=Lib.hid (show ∀ p,p ∈ u ↔ p < n by rw [← hu];exact TF.mem)
 rw [hu]
 have HU:=Lib.hid (show csort (rkOf r) n (csort (second n L (rkOf r)) (n + 1) a) = u from hu)
 have HUL:=Lib.hid hul
 obtain ⟨d,hd⟩:∃ d,dTwo n L (rkOf r) = d:=⟨_,rfl⟩
 rw [hd]
 have HD:=Lib.hid hd
 clear hu hul hd
 have HR:=Lib.hid hr
 have HMEM:=Lib.hid hmem
 clear hz3 h1 h2 hr hmem
 go_enter Tryz.func180,Tryz.ntmps180
 go_upto_region 4 with fail
 clear hw3 hn1w
 go_cut [0] from 20 to 27 (fun p0 wx=>∃ g7:Nat,p0 = .slice (some ⟨g7,0,none⟩) n n∧w3.heap.size≤g7∧Blk wx g7 3 (nt u).toArray∧Below w3.heap.size w3 wx)
 case first =>
  refine wp_region_held_drew (S:=(fun _=>True)) (by kernel_rfl) ?_ (fun hHeld=>?_)
  ·replace HW:=Below.drew HW;(try dsimp only);try trivial
  replace HW:=Below.drew HW
  have zHW:=HW.size
  refine zM 0 (.tmp 0) ?_
  refine zM 3 (.tmp 10) ?_
  refine zM 6 (.tmp 11) ?_
  refine wpAnyH_ready (rs:=[1,5]) (by kernel_rfl) (by simp) (AllReadyH.cons rfl (fun K1 hK1=>?ku1x1) (AllReadyH.cons rfl (fun K5 hK5=>?ku1x5) AllReadyH.nil))
  case ku1x1 =>
   refine take_any 1 (Op.load 3 (Operand.tmp 9)) 3 rfl rfl rfl (by kernel_rfl) (v:=.int .i64 n) (by obtain ⟨c2,_,_⟩:=blk1 (D.below HW).b2;go_simp;try (with_reducible rfl)) ?_
   refine hK1.out _ _ ?su1xb1x1 (fun hHeld=>?ru1xb1x1)
   case su1xb1x1=>((try dsimp only);try trivial)
   try simp only [zSa,zSb,zSc]
   refine zO 2 (.binOp .add 3 (.tmp 21) (.const (Value.int IntKind.i64 1)) 3) 3 ?_
   refine wpAnyH_ready (rs:=[4,5]) (by kernel_rfl) (by simp) (AllReadyH.cons rfl (fun K4 hK4=>?ku1xb1x4) (AllReadyH.cons rfl (fun K5 hK5=>?ku1xb1x5) AllReadyH.nil))
   case ku1xb1x4 =>
    refine take_calls 4 178 [Operand.tmp 20,Operand.tmp 22,Operand.tmp 23] #[84,3,213] rfl rfl (by kernel_rfl) (fun args w=>run_enter Tryz.func178 (by kernel_rfl) rfl args w) ?_
    refine (counted_at _ A n cA a (second n L (rkOf r)) (n + 1) (by rw [w64s (by omega) (by omega)];rfl) 195 #[.pointer (some ⟨s0 + 1,0,none⟩),.pointer (some ⟨s0 + 1 + 1,0,none⟩),.pointer (some ⟨s0,0,none⟩)] _ ((hA.below (HB3.trans (HW.mono HB3.size))).more (HB3.trans (HW.mono HB3.size)).size) hn (by omega) H1.out (keyF2 s0 s0 (s0 + 1) (s0 + 1 + 1) R n cR L r _ (D.below HW) hn hL HR.out a (fun p hp=>(HMEM.out p).1 hp))).mono ?_
    rintro e w4 ⟨g4,rfl,hg4,bl4,hb4⟩
    refine ⟨_,rfl,?_⟩
    have z4:=hb4.size
    try simp only [World.size_drew] at z4
    replace HW:=HW.trans (hb4.mono (by first | exact HW.size | omega))
    have zHW4:=HW.size
    refine hK4.out _ _ ?su1xb1xb2x4 (fun hHeld=>?ru1xb1xb2x4)
    case su1xb1xb2x4=>((try dsimp only);try trivial)
    try simp only [zSa,zSb,zSc]
    refine zR 5 (fun K5 hK5=>?_)
    refine take_any 5 (Op.load 3 (Operand.tmp 9)) 3 rfl rfl rfl (by kernel_rfl) (v:=.int .i64 n) (by obtain ⟨c2,_,_⟩:=blk1 (D.below HW).b2;go_simp;try (with_reducible rfl)) ?_
    refine hK5.out _ _ ?su1xb1xb2x5 (fun hHeld=>?ru1xb1xb2x5)
    case su1xb1xb2x5=>((try dsimp only);try trivial)
    try simp only [zSa,zSb,zSc]
    refine zR 7 (fun K7 hK7=>?_)
    refine take_calls 7 178 [Operand.tmp 24,Operand.tmp 25,Operand.tmp 26] #[84,3,213] rfl rfl (by kernel_rfl) (fun args w=>run_enter Tryz.func178 (by kernel_rfl) rfl args w) ?_
    refine (counted_at _ (some ⟨g4,0,none⟩) n n (csort (second n L (rkOf r)) (n + 1) a) (rkOf r) n rfl 196 #[.pointer (some ⟨s0,0,none⟩)] _ (rd_nt bl4 TF.l1) hn (by omega) H2.out (keyF1 s0 s0 (s0 + 1) (s0 + 1 + 1) R n cR L r _ (D.below HW) hn _ (fun p hp=>(TF.m1 p).1 hp))).mono ?_
    rintro e w7 ⟨g7,rfl,hg7,bl7,hb7⟩
    refine ⟨_,rfl,?_⟩
    have z7:=hb7.size
    try simp only [World.size_drew] at z7
    replace HW:=HW.trans (hb7.mono (by first | exact HW.size | omega))
    have zHW7:=HW.size
    refine hK7.out _ _ ?su1xb1xb2x7 (fun hHeld=>?ru1xb1xb2x7)
    case su1xb1xb2x7=>((try dsimp only);try trivial)
    try simp only [zSa,zSb,zSc]
    refine zO 8 (.assign (.tmp 27)) 84 ?_
    refine wpAnyH_done (by kernel_rfl) ?_ _
    rw [HU.out] at bl7
    have hg70:w3.heap.size≤g7:=by omega
    go_wp2_with fail
    go_meet
    case rel=>exact ⟨g7,rfl,hg70,bl7,HW⟩
   case ku1xb1x5 =>
    refine take_any 5 (Op.load 3 (Operand.tmp 9)) 3 rfl rfl rfl (by kernel_rfl) (v:=.int .i64 n) (by obtain ⟨c2,_,_⟩:=blk1 (D.below HW).b2;go_simp;try (with_reducible rfl)) ?_
    refine hK5.out _ _ ?su1xb1xb5x5 (fun hHeld=>?ru1xb1xb5x5)
    case su1xb1xb5x5=>((try dsimp only);try trivial)
    try simp only [zSa,zSb,zSc]
    refine zR 4 (fun K4 hK4=>?_)
    refine take_calls 4 178 [Operand.tmp 20,Operand.tmp 22,Operand.tmp 23] #[84,3,213] rfl rfl (by kernel_rfl) (fun args w=>run_enter Tryz.func178 (by kernel_rfl) rfl args w) ?_
    refine (counted_at _ A n cA a (second n L (rkOf r)) (n + 1) (by rw [w64s (by omega) (by omega)];rfl) 195 #[.pointer (some ⟨s0 + 1,0,none⟩),.pointer (some ⟨s0 + 1 + 1,0,none⟩),.pointer (some ⟨s0,0,none⟩)] _ ((hA.below (HB3.trans (HW.mono HB3.size))).more (HB3.trans (HW.mono HB3.size)).size) hn (by omega) H1.out (keyF2 s0 s0 (s0 + 1) (s0 + 1 + 1) R n cR L r _ (D.below HW) hn hL HR.out a (fun p hp=>(HMEM.out p).1 hp))).mono ?_
    rintro e w4 ⟨g4,rfl,hg4,bl4,hb4⟩
    refine ⟨_,rfl,?_⟩
    have z4:=hb4.size
    try simp only [World.size_drew] at z4
    replace HW:=HW.trans (hb4.mono (by first | exact HW.size | omega))
    have zHW4:=HW.size
    refine hK4.out _ _ ?su1xb1xb5x4 (fun hHeld=>?ru1xb1xb5x4)
    case su1xb1xb5x4=>((try dsimp only);try trivial)
    try simp only [zSa,zSb,zSc]
    refine zR 7 (fun K7 hK7=>?_)
    refine take_calls 7 178 [Operand.tmp 24,Operand.tmp 25,Operand.tmp 26] #[84,3,213] rfl rfl (by kernel_rfl) (fun args w=>run_enter Tryz.func178 (by kernel_rfl) rfl args w) ?_
    refine (counted_at _ (some ⟨g4,0,none⟩) n n (csort (second n L (rkOf r)) (n + 1) a) (rkOf r) n rfl 196 #[.pointer (some ⟨s0,0,none⟩)] _ (rd_nt bl4 TF.l1) hn (by omega) H2.out (keyF1 s0 s0 (s0 + 1) (s0 + 1 + 1) R n cR L r _ (D.below HW) hn _ (fun p hp=>(TF.m1 p).1 hp))).mono ?_
    rintro e w7 ⟨g7,rfl,hg7,bl7,hb7⟩
    refine ⟨_,rfl,?_⟩
    have z7:=hb7.size
    try simp only [World.size_drew] at z7
    replace HW:=HW.trans (hb7.mono (by first | exact HW.size | omega))
    have zHW7:=HW.size
    refine hK7.out _ _ ?su1xb1xb5x7 (fun hHeld=>?ru1xb1xb5x7)
    case su1xb1xb5x7=>((try dsimp only);try trivial)
    try simp only [zSa,zSb,zSc]
    refine zO 8 (.assign (.tmp 27)) 84 ?_
    refine wpAnyH_done (by kernel_rfl) ?_ _
    rw [HU.out] at bl7
    have hg70:w3.heap.size≤g7:=by omega
    go_wp2_with fail
    go_meet
    case rel=>exact ⟨g7,rfl,hg70,bl7,HW⟩
  case ku1x5 =>
   refine take_any 5 (Op.load 3 (Operand.tmp 9)) 3 rfl rfl rfl (by kernel_rfl) (v:=.int .i64 n) (by obtain ⟨c2,_,_⟩:=blk1 (D.below HW).b2;go_simp;try (with_reducible rfl)) ?_
   refine hK5.out _ _ ?su1xb8x5 (fun hHeld=>?ru1xb8x5)
   case su1xb8x5=>((try dsimp only);try trivial)
   try simp only [zSa,zSb,zSc]
   refine zR 1 (fun K1 hK1=>?_)
   refine take_any 1 (Op.load 3 (Operand.tmp 9)) 3 rfl rfl rfl (by kernel_rfl) (v:=.int .i64 n) (by obtain ⟨c2,_,_⟩:=blk1 (D.below HW).b2;go_simp;try (with_reducible rfl)) ?_
   refine hK1.out _ _ ?su1xb8x1 (fun hHeld=>?ru1xb8x1)
   case su1xb8x1=>((try dsimp only);try trivial)
   try simp only [zSa,zSb,zSc]
   refine zO 2 (.binOp .add 3 (.tmp 21) (.const (Value.int IntKind.i64 1)) 3) 3 ?_
   refine zR 4 (fun K4 hK4=>?_)
   refine take_calls 4 178 [Operand.tmp 20,Operand.tmp 22,Operand.tmp 23] #[84,3,213] rfl rfl (by kernel_rfl) (fun args w=>run_enter Tryz.func178 (by kernel_rfl) rfl args w) ?_
   refine (counted_at _ A n cA a (second n L (rkOf r)) (n + 1) (by rw [w64s (by omega) (by omega)];rfl) 195 #[.pointer (some ⟨s0 + 1,0,none⟩),.pointer (some ⟨s0 + 1 + 1,0,none⟩),.pointer (some ⟨s0,0,none⟩)] _ ((hA.below (HB3.trans (HW.mono HB3.size))).more (HB3.trans (HW.mono HB3.size)).size) hn (by omega) H1.out (keyF2 s0 s0 (s0 + 1) (s0 + 1 + 1) R n cR L r _ (D.below HW) hn hL HR.out a (fun p hp=>(HMEM.out p).1 hp))).mono ?_
   rintro e w4 ⟨g4,rfl,hg4,bl4,hb4⟩
   refine ⟨_,rfl,?_⟩
   have z4:=hb4.size
   try simp only [World.size_drew] at z4
   replace HW:=HW.trans (hb4.mono (by first | exact HW.size | omega))
   have zHW4:=HW.size
   refine hK4.out _ _ ?su1xb8x4 (fun hHeld=>?ru1xb8x4)
   case su1xb8x4=>((try dsimp only);try trivial)
   try simp only [zSa,zSb,zSc]
   refine zR 7 (fun K7 hK7=>?_)
   refine take_calls 7 178 [Operand.tmp 24,Operand.tmp 25,Operand.tmp 26] #[84,3,213] rfl rfl (by kernel_rfl) (fun args w=>run_enter Tryz.func178 (by kernel_rfl) rfl args w) ?_
   refine (counted_at _ (some ⟨g4,0,none⟩) n n (csort (second n L (rkOf r)) (n + 1) a) (rkOf r) n rfl 196 #[.pointer (some ⟨s0,0,none⟩)] _ (rd_nt bl4 TF.l1) hn (by omega) H2.out (keyF1 s0 s0 (s0 + 1) (s0 + 1 + 1) R n cR L r _ (D.below HW) hn _ (fun p hp=>(TF.m1 p).1 hp))).mono ?_
   rintro e w7 ⟨g7,rfl,hg7,bl7,hb7⟩
   refine ⟨_,rfl,?_⟩
   have z7:=hb7.size
   try simp only [World.size_drew] at z7
   replace HW:=HW.trans (hb7.mono (by first | exact HW.size | omega))
   have zHW7:=HW.size
   refine hK7.out _ _ ?su1xb8x7 (fun hHeld=>?ru1xb8x7)
   case su1xb8x7=>((try dsimp only);try trivial)
   try simp only [zSa,zSb,zSc]
   refine zO 8 (.assign (.tmp 27)) 84 ?_
   refine wpAnyH_done (by kernel_rfl) ?_ _
   rw [HU.out] at bl7
   have hg70:w3.heap.size≤g7:=by omega
   go_wp2_with fail
   go_meet
   case rel=>exact ⟨g7,rfl,hg70,bl7,HW⟩
 case rest =>
 obtain ⟨g7,rfl,hg7,bl7,HW7⟩:=hcut
 have HB7:=HB3.trans (HW7.mono HB3.size)
 have D7:=D.below HW7
 clear D HW HW7 H1 H2 HU HMEM hA hR hnd TF HB3
 have hmk:=made_nt n (by omega) wc
 obtain ⟨g8,hg8⟩:∃ g8,wc.heap.size = g8:=⟨_,rfl⟩
 obtain ⟨w8,hw8⟩:∃ w8,wc.alloc (.cells (nt (List.replicate n 0)).toArray 3) = w8:=⟨_,rfl⟩
 have hHB8:=(Below.refl wc.heap.size wc).alloc (Nat.le_refl _) (.cells (nt (List.replicate n 0)).toArray 3)
 have b8:=Blk.new wc 3 (nt (List.replicate n 0)).toArray
 rw [hw8] at hmk hHB8 b8
 rw [hg8] at hmk b8
 have b7:=bl7.below hHB8 bl7.lt
 have hlt7:g7 < g8:=by rw [← hg8];exact bl7.lt
 have D8:=D7.below hHB8
 have HB8:=HB7.trans (hHB8.mono HB7.size)
 have hz8:w8.heap.size = g8 + 1:=by rw [← hw8,World.size_alloc,hg8]
 have hz8':g8 < w8.heap.size:=by omega
 have hz80:w.heap.size≤g8:=by rw [← hg8];exact HB7.size
 obtain ⟨c2,_,_⟩:=blk1 D8.b2
 obtain ⟨c2',_,_⟩:=blk1 D7.b2
 have NX0:NxI d u (List.replicate n 0) 1:=by
  have:=nx_zero d u (fun p hp=>by rw [HUL.out];exact (UM.out p).1 hp)
  rwa [HUL.out] at this
 have hg0:s0 + 1 + 1 < g8:=by omega
 clear hw8 hz8 D7 hHB8 hg8 bl7 HB7
 go_wp2_with fail
 go_loopw [13] (fun iv wr=>∃ (k:Nat) (N:List Nat),k + 1≤n∧iv = .int .i64 ((k + 1:Nat):Int)∧NxI d u N (k + 1)∧Blk wr g7 3 (nt u).toArray∧Blk wr g8 3 (nt N).toArray∧DbI wr s0 s0 (s0 + 1) (s0 + 1 + 1) R n cR L r∧Below w.heap.size w wr) (fun iv _=>n - (intOf iv).toNat)
 case atStart=>exact ⟨0,_,by omega,rfl,NX0,b7,b8,D8,HB8⟩
 case round =>
  clear hmk c2 c2' NX0 b7 b8 D8 HB8
  obtain ⟨k,N,hk,rfl,nx,b7,b8,D,HB⟩:=hrel
  obtain ⟨c2,_,_⟩:=blk1 D.b2
  have HNL:=Lib.hid nx.len
  have hz0:=D.hB
  by_cases hlt:k + 1 < n
  ·have hkl:k + 1 < u.length:=by rw [HUL.out];exact hlt
   obtain ⟨p,hp⟩:∃ p,u[k]'(by omega) = p:=⟨_,rfl⟩
   obtain ⟨q,hq⟩:∃ q,u[k + 1] = q:=⟨_,rfl⟩
   have hpn:p < n:=(UM.out p).1 (by rw [← hp];exact List.getElem_mem _)
   have hqn:q < n:=(UM.out q).1 (by rw [← hq];exact List.getElem_mem _)
   obtain ⟨z,hz⟩:∃ z,drank d u k = z:=⟨_,rfl⟩
   have hzk:z≤k:=by rw [← hz];exact drank_le d u k
   have DR:=drank_step d u (k + 1) (by omega) hkl
   simp only [Nat.add_sub_cancel] at DR
   rw [hp,hq,hz] at DR
   have hdr:=Lib.hid DR
   have cp:wr.cell? ⟨g7,k,none⟩ = some (.int .i64 (p:Nat)):=by rw [b7.cell,List.getElem?_toArray];exact nt_at _ _ _ (by rw [List.getElem?_eq_getElem (by omega),hp])
   have cq:wr.cell? ⟨g7,k + 1,none⟩ = some (.int .i64 (q:Nat)):=by rw [b7.cell,List.getElem?_toArray];exact nt_at _ _ _ (by rw [List.getElem?_eq_getElem (by omega),hq])
   have HN:=Lib.hid (show N[p]? = some z by
    have:=nx.at_ k (by omega) (by omega)
    rw [hp,hz] at this
    exact this)
   have NS:=fun v hv=>nx_step UN.out (fun p hp=>by rw [HUL.out];exact (UM.out p).1 hp) nx hkl v hv
   rw [hq] at NS
   have HNS:=Lib.hid NS
   have hk0:(0:Int)≤(k:Int):=by omega
   have hkw:IntKind.i64.wrap (k:Int) = (k:Int):=w64s (by omega) (by omega)
   have hkw1:IntKind.i64.wrap ((k:Int) + 1) = (k:Int) + 1:=w64s (by omega) (by omega)
   have hkw2:IntKind.i64.wrap ((k:Int) + 1 + 1) = (k:Int) + 1 + 1:=w64s (by omega) (by omega)
   have hkn:(k:Int) < (n:Int):=by omega
   have hkn1:(k:Int) + 1 < (n:Int):=by omega
   have hk01:(0:Int)≤(k:Int) + 1:=by omega
   have hp0:(0:Int)≤(p:Int):=by omega
   have hq0:(0:Int)≤(q:Int):=by omega
   have hpnI:(p:Int) < (n:Int):=by omega
   have hqnI:(q:Int) < (n:Int):=by omega
   have hzw:IntKind.i64.wrap ((z:Int) + 1) = (z:Int) + 1:=w64s (by omega) (by omega)
   clear hp hq hz DR NS hkl nx
   go_wp2_with fail
   go_quiet (fail)
   replace b7:=b7.drewN nq
   replace b8:=b8.drewN nq
   replace D:=D.below ((Below.refl _ wr).drewN_ nq)
   replace HB:=HB.drewN_ nq
   clear cp cq c2
   generalize wr.drewN nq = wn at *
   obtain ⟨o,ho⟩:∃ o,N[q]? = some o:=⟨_,List.getElem?_eq_getElem (by rw [HNL.out,HUL.out];exact hqn)⟩
   have cn:wn.cell? ⟨g8,p,none⟩ = some (.int .i64 (z:Nat)):=by rw [b8.cell,List.getElem?_toArray];exact nt_at _ _ _ HN.out
   have co:wn.cell? ⟨g8,q,none⟩ = some (.int .i64 (o:Nat)):=by rw [b8.cell,List.getElem?_toArray];exact nt_at _ _ _ ho
   have fq:=b8.frozen q
   have lq:=b8.lt
   have bq8:=b8.set q (.int .i64 (z:Nat))
   rw [nt_set] at bq8
   have bq7:=b7.far (p:=⟨g8,q,none⟩) (by dsimp only;omega) (.int .i64 (z:Nat))
   have Dq:=D.far g8 q (by omega) (by omega) (by omega) (by omega) (.int .i64 (z:Nat))
   have HBq:=HB.setCell (p:=⟨g8,q,none⟩) (by dsimp only;omega) (.int .i64 (z:Nat))
   clear ho
   go_upto_region 11 with fail
   generalize wn.setCell ⟨g8,q,none⟩ (.int .i64 (z:Nat)) = wq at *
   obtain ⟨c2,_,_⟩:=blk1 Dq.b2
   have hdef:d p q = (decide (rkOf r p ≠ rkOf r q) || decide (second n L (rkOf r) p ≠ second n L (rkOf r) q)):=by rw [← HD.out];rfl
   have C1:=first_any s0 s0 (s0 + 1) (s0 + 1 + 1) R n cR L r wq Dq hn p hpn
   have C2:=first_any s0 s0 (s0 + 1) (s0 + 1 + 1) R n cR L r wq Dq hn q hqn
   have C3:=second_any s0 s0 (s0 + 1) (s0 + 1 + 1) R n cR L r wq Dq hn hL HR.out p hpn
   have C4:=second_any s0 s0 (s0 + 1) (s0 + 1 + 1) R n cR L r wq Dq hn hL HR.out q hqn
   generalize rkOf r p = x at hdef C1
   generalize rkOf r q = y at hdef C2
   generalize second n L (rkOf r) p = s at hdef C3
   generalize second n L (rkOf r) q = t at hdef C4
   have cz:wq.cell? ⟨g8,q,none⟩ = some (.int .i64 (z:Nat)):=by
    rw [bq8.cell,List.getElem?_toArray]
    exact nt_at _ _ _ (by rw [List.getElem?_set,if_pos rfl,if_pos (by rw [HNL.out,HUL.out];exact hqn)])
   have fq2:=bq8.frozen q
   have lq2:=bq8.lt
   have br8:=bq8.set q (.int .i64 ((z + 1:Nat):Int))
   rw [nt_set,List.set_set] at br8
   have br7:=bq7.far (p:=⟨g8,q,none⟩) (by dsimp only;omega) (.int .i64 ((z + 1:Nat):Int))
   have Dr:=Dq.far g8 q (by omega) (by omega) (by omega) (by omega) (.int .i64 ((z + 1:Nat):Int))
   have HBr:=HBq.setCell (p:=⟨g8,q,none⟩) (by dsimp only;omega) (.int .i64 ((z + 1:Nat):Int))
   clear b7 b8 D HB cn co fq lq HR
   by_cases hxy:x = y
   ·subst hxy
    by_cases hst:s = t
    ·subst hst
     have hdv:drank d u (k + 1) = z:=by rw [hdr.out,hdef];simp
     have NX2:=HNS.out z hdv.symm
     clear hdv hdef br8 br7 Dr HBr
     go_wp2_with fail
     refine C1.mono ?_
     rintro e w5 ⟨rfl,rfl⟩
     go_wp2_with fail
     refine C2.mono ?_
     rintro e w5 ⟨rfl,rfl⟩
     go_wp2_with fail
     refine C3.mono ?_
     rintro e w5 ⟨rfl,rfl⟩
     go_wp2_with fail
     refine C4.mono ?_
     rintro e w5 ⟨rfl,rfl⟩
     go_wp2_with fail
     go_roundw
     case rel=>exact ⟨k + 1,_,by omega,by go_num,NX2,bq7,bq8,Dq,HBq⟩
     case measure=>simp [intOf];omega
    ·have hdv:drank d u (k + 1) = z + 1:=by rw [hdr.out,hdef];simp [hst]
     have NX2:=HNS.out (z + 1) hdv.symm
     have hstI:¬ (s:Int) = (t:Int):=by omega
     clear hdv hdef
     go_wp2_with fail
     refine C1.mono ?_
     rintro e w5 ⟨rfl,rfl⟩
     go_wp2_with fail
     refine C2.mono ?_
     rintro e w5 ⟨rfl,rfl⟩
     go_wp2_with fail
     refine C3.mono ?_
     rintro e w5 ⟨rfl,rfl⟩
     go_wp2_with fail
     refine C4.mono ?_
     rintro e w5 ⟨rfl,rfl⟩
     go_wp2_with fail
     go_roundw
     case rel=>exact ⟨k + 1,_,by omega,by go_num,NX2,br7,br8,Dr,HBr⟩
     case measure=>simp [intOf];omega
   ·have hdv:drank d u (k + 1) = z + 1:=by rw [hdr.out,hdef];simp [hxy]
    have NX2:=HNS.out (z + 1) hdv.symm
    have hxyI:¬ (x:Int) = (y:Int):=by omega
    clear hdv hdef
    go_wp2_with fail
    refine C1.mono ?_
    rintro e w5 ⟨rfl,rfl⟩
    go_wp2_with fail
    refine C2.mono ?_
    rintro e w5 ⟨rfl,rfl⟩
    go_wp2_with fail
    go_roundw
    case rel=>exact ⟨k + 1,_,by omega,by go_num,NX2,br7,br8,Dr,HBr⟩
    case measure=>simp [intOf];omega
  ·have e:k + 1 = n:=by omega
   have hku:k < u.length:=by rw [HUL.out];omega
   obtain ⟨p,hp⟩:∃ p,u[k] = p:=⟨_,rfl⟩
   have hpn:p < n:=(UM.out p).1 (by rw [← hp];exact List.getElem_mem _)
   obtain ⟨z,hz⟩:∃ z,drank d u k = z:=⟨_,rfl⟩
   have cp:wr.cell? ⟨g7,k,none⟩ = some (.int .i64 (p:Nat)):=by rw [b7.cell,List.getElem?_toArray];exact nt_at _ _ _ (by rw [List.getElem?_eq_getElem (by omega),hp])
   have cn:wr.cell? ⟨g8,p,none⟩ = some (.int .i64 (z:Nat)):=by
    rw [b8.cell,List.getElem?_toArray]
    refine nt_at _ _ _ ?_
    have:=nx.at_ k (by omega) (by omega)
    rw [hp,hz] at this
    exact this
   have hk0:(0:Int)≤(k:Int):=by omega
   have hkw:IntKind.i64.wrap (k:Int) = (k:Int):=w64s (by omega) (by omega)
   have hp0:(0:Int)≤(p:Int):=by omega
   have hpnI:(p:Int) < (k:Int) + 1:=by omega
   have hkk:(k:Int) < (k:Int) + 1:=by omega
   have HDZ:=Lib.hid hz
   have NXX:=Lib.hid nx
   clear hz hp hpn hku nx hg0 hlt hn1 hz80 hz8'
   subst e
   by_cases hzk:z = k
   ·subst hzk
    go_wp2_with fail
    go_quiet (fail)
    go_wp2_with fail
    go_ret3
    exact ⟨g7,g8,N,by simp [HDZ.out],b7,b8,NXX.out,HB.drewN_ _⟩
   ·have hzkI:¬ (z:Int) = (k:Int):=by omega
    go_wp2_with fail
    go_quiet (fail)
    go_wp2_with fail
    go_ret3
    exact ⟨g7,g8,N,by simp [HDZ.out,hzk,hzkI],b7,b8,NXX.out,HB.drewN_ _⟩
end SufW
end Go.Proofs.YtnpncpoiiikafaaGreat
