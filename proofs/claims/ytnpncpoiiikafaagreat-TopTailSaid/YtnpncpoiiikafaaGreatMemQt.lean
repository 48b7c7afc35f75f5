/- Mem -/
import Derived.Test.YtnpncpoiiikafaaGreatRows
import Derived.WalkKit
import Derived.WalkSpells
import Derived.WalkLawsBesides
import Derived.Lib.Hide
import Derived.Maps.AppendAt
import Derived.Deep.QuietTactic
import Derived.BigQuiet
import Derived.Deep.RegionHeld3
set_option linter.unusedVariables false
set_option linter.unusedSimpArgs false
set_option linter.unnecessarySimpa false
set_option maxRecDepth 100000
set_option maxHeartbeats 32000000
namespace Go.Proofs.YtnpncpoiiikafaaGreat
theorem zSa {α : Type} (l : List α) (i : Nat) (a : α) : l.toArray.setIfInBounds i a = (l.set i a).toArray := by simp
theorem zSb {α : Type} (b a : α) (l : List α) : (a :: l).set 0 b = b :: l := rfl
theorem zSc {α : Type} (b a : α) (n : Nat) (l : List α) : (a :: l).set (n + 1) b = a :: l.set n b := rfl
end Go.Proofs.YtnpncpoiiikafaaGreat
namespace Go.Proofs.YtnpncpoiiikafaaGreat
open Go.RowKit
def I64 (n:Int):Prop:=-9223372036854775808≤n∧n≤9223372036854775807
theorem ret_bool {a b:Bool} (h:a = b):Ending.returned (.bool a) = .returned (.bool b):=by rw [h]
theorem ret_int {k:IntKind} {a b:Int} (h:a = b):Ending.returned (.int k a) = .returned (.int k b):=by rw [h]
theorem _root_.Go.RowKit.Below.drewN_ {B:Nat} {a w:World} (h:Below B a w) (n:Nat):Below B a (w.drewN n):=⟨h.os,h.tape,h.output,h.size,h.block⟩
theorem add_lit (b o n:Nat):(⟨b,o,none⟩:Addr).add n = ⟨b,o + n,none⟩:=by unfold Addr.add;split <;> simp_all
structure Rd (w:World) (B size:Nat) (A:Option Addr) (n:Nat) (xs:List Value):Prop where
 len:xs.length = n * size
 at_:0 < n → ∃ b o,A = some ⟨b,o,none⟩∧b < B∧∀ j,(h:j < xs.length) → w.cell? ⟨b,o + j,none⟩ = some xs[j]
theorem Rd.nil (w:World) (B size:Nat) (A:Option Addr):Rd w B size A 0 []:=⟨by simp,fun h=>absurd h (by omega)⟩
theorem Rd.below {w w':World} {B size n:Nat} {A:Option Addr} {xs:List Value} (h:Rd w B size A n xs) (hb:Below B w w'):Rd w' B size A n xs :=
 ⟨h.len,fun hn=>by
  obtain ⟨b,o,e,hlt,hc⟩:=h.at_ hn
  exact ⟨b,o,e,hlt,fun j hj=>(hb.cell (p:=⟨b,o + j,none⟩) hlt).trans (hc j hj)⟩⟩
theorem Rd.more {w:World} {B B' size n:Nat} {A:Option Addr} {xs:List Value} (h:Rd w B size A n xs) (hB:B≤B'):Rd w B' size A n xs :=
 ⟨h.len,fun hn=>by
  obtain ⟨b,o,e,hlt,hc⟩:=h.at_ hn
  exact ⟨b,o,e,by omega,hc⟩⟩
theorem Rd.drew {w:World} {B size n:Nat} {A:Option Addr} {xs:List Value} (h:Rd w B size A n xs):Rd w.drew B size A n xs:=h.below ((Below.refl _ _).drew)
theorem Rd.cut {w:World} {B size n k cap:Nat} {A:Option Addr} {xs:List Value} (h:Rd w B size A n xs) (hk:k≤n) (hc:n≤cap) :
 Rd w B size (if cap = k then A else A.map (·.add (k * size))) (n - k) (xs.drop (k * size)):=by
 refine ⟨by rw [List.length_drop,h.len,Nat.sub_mul],fun hn=>?_⟩
 obtain ⟨b,o,rfl,hb,hcell⟩:=h.at_ (by omega)
 rw [if_neg (by omega)]
 refine ⟨b,o + k * size,by simp [add_lit],hb,fun j hj=>?_⟩
 have:=hcell (k * size + j) (by rw [List.length_drop] at hj;omega)
 rw [← Nat.add_assoc] at this
 rw [this,List.getElem_drop]
def Blk (w:World) (g:Nat) (t:TypeId) (cs:Array Value):Prop:=w.heap[g]? = some (.cells cs t (0,0))
section
variable {w w':World} {g:Nat} {t:TypeId} {cs:Array Value}
theorem Blk.lt (h:Blk w g t cs):g < w.heap.size:=by
 rcases Nat.lt_or_ge g w.heap.size with hlt | hge
 ·exact hlt
 ·unfold Blk at h;rw [Array.getElem?_eq_none hge] at h;cases h
theorem Blk.cell (h:Blk w g t cs) (i:Nat):w.cell? ⟨g,i,none⟩ = cs[i]?:=cell_of_row w g i cs t (0,0) h
theorem Blk.cell_ (h:Blk w g t cs) (i:Nat) {v:Value} (hv:cs[i]? = some v):w.cell? ⟨g,i,none⟩ = some v:=(h.cell i).trans hv
theorem Blk.frozen (h:Blk w g t cs) (i:Nat):w.frozen? ⟨g,i,none⟩ = false:=by
 unfold Blk at h
 simp [World.frozen?,h]
theorem Blk.new (w:World) (t:TypeId) (cs:Array Value):Blk (w.alloc (.cells cs t)) w.heap.size t cs:=heap_alloc_new w _
theorem Blk.drew (h:Blk w g t cs):Blk w.drew g t cs:=h
theorem Blk.drewN (h:Blk w g t cs) (n:Nat):Blk (w.drewN n) g t cs:=h
theorem blk_eq {cs':Array Value} (h:Blk w g t cs) (e:cs = cs'):Blk w g t cs':=e ▸ h
theorem Blk.alloc (h:Blk w g t cs) (o:Obj):Blk (w.alloc o) g t cs:=(Below.heap_alloc w o g h.lt).trans h
theorem Blk.set (h:Blk w g t cs) (i:Nat) (u:Value):Blk (w.setCell ⟨g,i,none⟩ u) g t (cs.setIfInBounds i u):=by
 unfold Blk at h ⊢
 simp [World.setCell,Array.getElem?_modify,h]
theorem Blk.far (h:Blk w g t cs) {p:Addr} (hp:g ≠ p.block) (u:Value):Blk (w.setCell p u) g t cs:=(Below.heap_setCell w p u g hp).trans h
theorem Blk.below {B:Nat} (h:Blk w g t cs) (hb:Below B w w') (hg:g < B):Blk w' g t cs:=(hb.block g hg).trans h
end
theorem blk1 {w:World} {g:Nat} {t:TypeId} {a:Value} (h:Blk w g t #[a]):w.cell? ⟨g,0,none⟩ = some a∧w.frozen? ⟨g,0,none⟩ = false∧g < w.heap.size :=
 ⟨h.cell_ 0 rfl,h.frozen 0,h.lt⟩
theorem blk2 {w:World} {g:Nat} {t:TypeId} {a b:Value} (h:Blk w g t #[a,b]):w.cell? ⟨g,0,none⟩ = some a∧w.cell? ⟨g,1,none⟩ = some b∧w.frozen? ⟨g,0,none⟩ = false∧w.frozen? ⟨g,1,none⟩ = false∧g < w.heap.size :=
 ⟨h.cell_ 0 rfl,h.cell_ 1 rfl,h.frozen 0,h.frozen 1,h.lt⟩
theorem blk3 {w:World} {g:Nat} {t:TypeId} {a b c:Value} (h:Blk w g t #[a,b,c]) :
 w.cell? ⟨g,0,none⟩ = some a∧w.cell? ⟨g,1,none⟩ = some b∧w.cell? ⟨g,2,none⟩ = some c∧w.frozen? ⟨g,0,none⟩ = false∧w.frozen? ⟨g,1,none⟩ = false∧w.frozen? ⟨g,2,none⟩ = false∧g < w.heap.size :=
 ⟨h.cell_ 0 rfl,h.cell_ 1 rfl,h.cell_ 2 rfl,h.frozen 0,h.frozen 1,h.frozen 2,h.lt⟩
def Own (w:World) (base e size:Nat) (A:Option Addr) (n c:Nat) (xs:List Value):Prop:=w.ownsRow base e size (.slice A n c) n xs
def blkOf (A:Option Addr):Option Nat:=A.map (·.block)
theorem ownBlock_slice (A:Option Addr) (n c:Nat):(Value.slice A n c).ownBlock = blkOf A:=by cases A <;> rfl
theorem Own.nil (w:World) (base e size:Nat):Own w base e size none 0 0 []:=w.ownsRow_nil base e size
theorem Own.len {w:World} {base e size n c:Nat} {A:Option Addr} {xs:List Value} (h:Own w base e size A n c xs):xs.length = n * size:=h.1
theorem Own.shape {w:World} {base e size n c:Nat} {A:Option Addr} {xs:List Value} (h:Own w base e size A n c xs) :
 (A = none∧n = 0∧c = 0) ∨ ∃ g,A = some ⟨g,0,none⟩∧base≤g∧g < w.heap.size∧n≤c∧c≤maxLen:=by
 rcases h.2 with ⟨hv,hn⟩ | ⟨g,cap,cur,hv,hb,hg,hnc,hcm,_⟩
 ·simp only [Value.slice.injEq] at hv
  exact .inl ⟨hv.1,hn,hv.2.2⟩
 ·simp only [Value.slice.injEq] at hv
  obtain ⟨rfl,_,rfl⟩:=hv
  exact .inr ⟨g,rfl,hb,(Array.getElem?_eq_some_iff.1 hg).1,hnc,hcm⟩
theorem Own.cap {w:World} {base e size n c:Nat} {A:Option Addr} {xs:List Value} (h:Own w base e size A n c xs):n≤c:=by
 rcases h.shape with ⟨_,rfl,rfl⟩ | ⟨_,_,_,_,h,_⟩ <;> omega
theorem Own.capm {w:World} {base e size n c:Nat} {A:Option Addr} {xs:List Value} (h:Own w base e size A n c xs):c≤maxLen:=by
 rcases h.shape with ⟨_,_,rfl⟩ | ⟨_,_,_,_,_,h⟩ <;> omega
theorem Own.blk {w:World} {base e size n c:Nat} {A:Option Addr} {xs:List Value} (h:Own w base e size A n c xs):∀ k,blkOf A = some k → base≤k∧k < w.heap.size:=by
 intro k hk
 rcases h.shape with ⟨rfl,_⟩ | ⟨g,rfl,hb,hlt,_⟩
 ·cases hk
 ·simp only [blkOf,Option.map_some,Option.some.injEq] at hk
  omega
theorem Own.rd {w:World} {base e size n c:Nat} {A:Option Addr} {xs:List Value} (h:Own w base e size A n c xs):Rd w w.heap.size size A n xs:=by
 refine ⟨h.1,fun hn=>?_⟩
 rcases h.2 with ⟨_,hn0⟩ | ⟨g,cap,cur,hv,hb,hg,_,_,_,htake⟩
 ·omega
 ·simp only [Value.slice.injEq] at hv
  obtain ⟨rfl,_,rfl⟩:=hv
  refine ⟨g,0,rfl,(Array.getElem?_eq_some_iff.1 hg).1,fun j hj=>?_⟩
  rw [cell_of_row w g (0 + j) cur e (0,0) hg,Nat.zero_add]
  subst htake
  rw [List.getElem_take,← Array.getElem?_toList,List.getElem?_eq_getElem]
theorem Own.grown {w w':World} {base e size n c:Nat} {A:Option Addr} {xs:List Value} {row:Option Nat} (h:Own w base e size A n c xs) (hg:w.grownBy w' row) (hne:blkOf A = none ∨ blkOf A ≠ row):Own w' base e size A n c xs :=
 World.ownsRow.kept h hg (by rw [ownBlock_slice];exact hne)
theorem grown_of_below {w w':World} (hb:Below w.heap.size w w'):w.grownBy w' none:=⟨hb.os,hb.tape,hb.output,hb.size,fun k hk _=>hb.block k hk⟩
theorem Own.below {w w':World} {base e size n c:Nat} {A:Option Addr} {xs:List Value} (h:Own w base e size A n c xs) (hb:Below w.heap.size w w'):Own w' base e size A n c xs :=
 h.grown (grown_of_below hb) (by cases A <;> simp [blkOf])
theorem Own.alloc {w:World} {base e size n c:Nat} {A:Option Addr} {xs:List Value} (h:Own w base e size A n c xs) (o:Obj):Own (w.alloc o) base e size A n c xs:=World.ownsRow.alloc h o
theorem Own.drew {w:World} {base e size n c:Nat} {A:Option Addr} {xs:List Value} (h:Own w base e size A n c xs):Own w.drew base e size A n c xs:=h
theorem Own.far {w:World} {base e size n c:Nat} {A:Option Addr} {xs:List Value} (h:Own w base e size A n c xs) {p:Addr} (hp:blkOf A ≠ some p.block) (u:Value):Own (w.setCell p u) base e size A n c xs:=by
 refine h.grown (row:=some p.block) ⟨rfl,rfl,rfl,by simp [World.setCell],fun k _ hne=>Below.heap_setCell w p u k (fun e=>hne (by rw [e]))⟩ (.inr hp)
theorem Own.base_le {w:World} {base base' e size n c:Nat} {A:Option Addr} {xs:List Value} (h:Own w base e size A n c xs) (hb:base'≤base):Own w base' e size A n c xs:=by
 refine ⟨h.1,?_⟩
 rcases h.2 with h2 | ⟨g,cap,cur,hv,hg,r⟩
 ·exact .inl h2
 ·exact .inr ⟨g,cap,cur,hv,by omega,r⟩
theorem Blk.grown {w w':World} {g:Nat} {t:TypeId} {cs:Array Value} {row:Option Nat} (h:Blk w g t cs) (hg:w.grownBy w' row) (hne:some g ≠ row):Blk w' g t cs:=(hg.block g h.lt hne).trans h
theorem Rd.grown {w w':World} {B size n:Nat} {A:Option Addr} {xs:List Value} {row:Option Nat} (h:Rd w B size A n xs) (hg:w.grownBy w' row) (hB:B≤w.heap.size) (hr:∀ k,row = some k → B≤k):Rd w' B size A n xs :=
 h.below ((Below.refl B w).grown hg hB hr)
theorem Rd.of_blk {w:World} {g size m:Nat} {t:TypeId} {cs:List Value} (h:Blk w g t cs.toArray) (hl:cs.length = m * size):Rd w (g + 1) size (some ⟨g,0,none⟩) m cs :=
 ⟨hl,fun _=>⟨g,0,rfl,by omega,fun j hj=>by rw [h.cell];simp⟩⟩
structure El (P:Program) (t e size bytes:Nat):Prop where
 und:P.underlying t = some (.slice e)
 inf:∃ i z,P.info? e = some i∧i.zero = some z∧i.size = size∧i.bytes = bytes∧z.cells.size = size
 pos:0 < size
theorem El.mk' {P:Program} {t e size bytes:Nat} {z:Value} (hu:P.underlying t = some (.slice e)) (h:(P.info? e).map (fun i=>(i.zero,i.size,i.bytes)) = some (some z,size,bytes)) (hz:z.cells.size = size) (hp:0 < size):El P t e size bytes :=
 ⟨hu,by obtain ⟨i,hi,h1,h2,h3⟩:=info_parts h;exact ⟨i,z,hi,h1,h2,h3,hz⟩,hp⟩
theorem wp_append {P:Program} {w:World} {t e size bytes:Nat} (hE:El P t e size bytes) {ops:Array Oper} {rest:List Oper} {o:Oper} {a:Act} {Q:Exit → Act → World → Prop} (hgd:o.guard = none) {s x:Operand}
 (ho:o.op = .call { callee:=.builtin .append,args:=#[s,x],argTypes:=#[t,t] })
 {base:Nat} {A:Option Addr} {n c:Nat} {xs:List Value} (hs:a.eval s = .slice A n c) (hown:Own w base e size A n c xs)
 {B:Nat} {A2:Option Addr} {m c2:Nat} {news:List Value} (hx:a.eval x = .slice A2 m c2) (hr:Rd w B size A2 m news) (h1:∀ u ∈ news,u.oneCell' = true)
 (h63:n + m≤maxLen) (hbytes:(n + m) * bytes≤140737488355328) (hbase:base≤w.heap.size)
 (h:∀ A' c' w',Own w' base e size A' (n + m) c' (xs ++ news) → w.grownBy w' (blkOf A) → (blkOf A' = blkOf A ∨ blkOf A' = some w.heap.size) → wpList P ops Q rest (a.put o.dst (.slice A' (n + m) c')) w') :
 wpList P ops Q (o :: rest) a w:=by
 obtain ⟨i,z,hi,hz,hsize,hby,hzs⟩:=hE.inf
 by_cases hm:0 < m
 ·obtain ⟨b,off,rfl,_,hc⟩:=hr.at_ hm
  refine wpList_append_own_at w hgd s x t ho base e i z size bytes hE.und hi hz hsize hby hzs hE.pos _ n xs hs hown ⟨b,off,none⟩ m c2 news hx hr.len (fun j u hu=>?_) h1 h63 hbytes hbase ?_
  ·obtain ⟨hj,rfl⟩:=List.getElem?_eq_some_iff.1 hu
   rw [add_lit]
   exact hc j hj
  ·intro v' w' hown' hg hnil hblk
   rw [ownBlock_slice] at hg hblk
   rcases hown'.2 with ⟨rfl,h0⟩ | ⟨g,cap,cur,rfl,r⟩
   ·omega
   ·exact h _ _ w' ⟨hown'.1,.inr ⟨g,cap,cur,rfl,r⟩⟩ hg (by simpa [Value.ownBlock,blkOf] using hblk)
 ·obtain rfl:m = 0:=by omega
  have hn:news = []:=List.eq_nil_of_length_eq_zero (by simpa using hr.len)
  subst hn
  refine wpList_plain hgd fun K hK=>?_
  have hrun:(Builtin.append_ #[t,t] o.type #[.slice A n c,.slice A2 0 c2]).run P w = .ok (.slice A n c) w:=by
   rcases hown.shape with ⟨rfl,rfl,rfl⟩ | ⟨g,rfl,_,_,hnc,_⟩
   ·cases A2 <;> simp [Builtin.append_,run_underlying hE.und,sizeOf,typeInfo,hi,Builtin.lenOf,Builtin.firstCells,loadCells,loadCellsFrom]
   ·cases A2 <;> simp [Builtin.append_,run_underlying hE.und,sizeOf,typeInfo,hi,Builtin.lenOf,Builtin.firstCells,loadCells,loadCellsFrom,hnc,storeCells]
  unfold Oper.wp execOp
  simp only [ho,resolve,invoke,builtin,Sem.run_bind,Sem.run_pure,Result.andThen_ok,List.map_toArray,List.map_cons,List.map_nil,hs,hx,hrun]
  have:=h A c w (by simpa using hown) (World.grownBy.refl w _) (.inl rfl)
  exact hK _ _ (by simpa using this)
theorem keep_next {W0 w w1 w2:World} {N B:Nat} (h:(∀ b o,b < N → w1.cell? ⟨b,o,none⟩ = W0.cell? ⟨b,o,none⟩)∧N≤w1.heap.size∧Below B w w1) (hb:Below w1.heap.size w1 w2) (hB:B≤N) :
 (∀ b o,b < N → w2.cell? ⟨b,o,none⟩ = W0.cell? ⟨b,o,none⟩)∧N≤w2.heap.size∧Below B w w2:=by
 obtain ⟨h1,h2,h3⟩:=h
 exact ⟨fun b o hlt=>(hb.cell (p:=⟨b,o,none⟩) (Nat.lt_of_lt_of_le hlt h2)).trans (h1 b o hlt),Nat.le_trans h2 hb.size,h3.trans (hb.mono (Nat.le_trans hB h2))⟩
theorem keep_alloc {W0 w w1:World} {N B:Nat} {o:Obj} (h:(∀ b o,b < N → w1.cell? ⟨b,o,none⟩ = W0.cell? ⟨b,o,none⟩)∧N≤w1.heap.size∧Below B w w1) (hB:B≤N) :
 (∀ b' o',b' < N → (w1.alloc o).cell? ⟨b',o',none⟩ = W0.cell? ⟨b',o',none⟩)∧N≤(w1.alloc o).heap.size∧Below B w (w1.alloc o) :=
 keep_next h ((Below.refl _ _).alloc (Nat.le_refl _) o) hB
theorem keep_start {W0 w:World} {N B:Nat} (hB:Below B w W0) (hN:N≤W0.heap.size) :
 (∀ b' o',b' < N → W0.drew.cell? ⟨b',o',none⟩ = W0.cell? ⟨b',o',none⟩)∧N≤W0.drew.heap.size∧Below B w W0.drew:=⟨fun _ _ _=>rfl,hN,hB.drew⟩
theorem keep_drew {W0 w w1:World} {N B:Nat} (h:(∀ b o,b < N → w1.cell? ⟨b,o,none⟩ = W0.cell? ⟨b,o,none⟩)∧N≤w1.heap.size∧Below B w w1) :
 (∀ b' o',b' < N → w1.drew.cell? ⟨b',o',none⟩ = W0.cell? ⟨b',o',none⟩)∧N≤w1.drew.heap.size∧Below B w w1.drew:=⟨h.1,h.2.1,h.2.2.drew⟩
end Go.Proofs.YtnpncpoiiikafaaGreat
namespace Go.Proofs.YtnpncpoiiikafaaGreat
open Go.RowKit
theorem execOp_same (ρ:Operand → Value) (o o':Oper) (h1:o.op = o'.op) (h2:o.type = o'.type):execOp ρ o = execOp ρ o':=by
 unfold execOp
 rw [h1,h2]
section
variable {P:Program} {ops:Array Oper} {Q:Exit → Act → World → Prop} {md:Region.Mode} {S:World → Prop} {fuel:Nat} {listed:Array Bool} {tmps:Array Value} {defers:List Deferred} {w:World}
theorem take_skip (i:Nat) {oi:Oper} {d:Nat} (hi:ops[i]? = some oi) (hd:oi.dst = some d) (hg:Region.wanted oi (yielded ops tmps) = false)
 (hs:Region.noSelect ops = true) (hf:Region.free md ops listed i = true) (hr:(Region.ready md ops listed).contains i = true)
 (hQ:∀ c a w,Q (.panic c) (a.put oi.dst undef) w → Q (.panic c) a w) (hS:S w)
 (h:wpAnyH P md ops Q S fuel (listed.setIfInBounds i true) ⟨tmps.setIfInBounds d undef,defers⟩ w):wpAnyH P md ops Q S (fuel + 1) listed ⟨tmps,defers⟩ w :=
 wpAnyH_take (v:=undef) hi hs hf hr hQ (.inr ⟨hg,rfl⟩) hS (by rw [hd];exact h)
theorem take_op (i:Nat) (op:Op) (ty:TypeId) {v:Value} {oi:Oper} {d:Nat} (hi:ops[i]? = some oi) (hd:oi.dst = some d) (hop:oi.op = op) (hty:oi.type = ty) (hg:Region.wanted oi (yielded ops tmps) = true)
 (hs:Region.noSelect ops = true) (hf:Region.free md ops listed i = true) (hr:(Region.ready md ops listed).contains i = true)
 (hQ:∀ c a w,Q (.panic c) (a.put oi.dst v) w → Q (.panic c) a w)
 (hy : ∀ w, S w → (execOp (Act.mk tmps defers).eval { dst := some d, op := op, type := ty, pos := "", after := #[], guard := none }).run P w = .ok (.value v) w) (hS : S w)
 (h:wpAnyH P md ops Q S fuel (listed.setIfInBounds i true) ⟨tmps.setIfInBounds d v,defers⟩ w):wpAnyH P md ops Q S (fuel + 1) listed ⟨tmps,defers⟩ w :=
 wpAnyH_take (v := v) hi hs hf hr hQ (.inl ⟨hg, fun w hw => by rw [execOp_same _ oi { dst := some d, op := op, type := ty, pos := "", after := #[], guard := none } hop hty]; exact hy w hw⟩) hS (by rw [hd]; exact h)
theorem take_move (i:Nat) (x:Operand) {oi:Oper} {d:Nat} (hi:ops[i]? = some oi) (hd:oi.dst = some d) (hop:oi.op = .move x ∨ oi.op = .assign x) (hg:Region.wanted oi (yielded ops tmps) = true)
 (hs:Region.noSelect ops = true) (hf:Region.free md ops listed i = true) (hr:(Region.ready md ops listed).contains i = true)
 (hQ:∀ c a w,Q (.panic c) (a.put oi.dst ((Act.mk tmps defers).eval x)) w → Q (.panic c) a w) (hS:S w)
 (h:wpAnyH P md ops Q S fuel (listed.setIfInBounds i true) ⟨tmps.setIfInBounds d ((Act.mk tmps defers).eval x),defers⟩ w):wpAnyH P md ops Q S (fuel + 1) listed ⟨tmps,defers⟩ w :=
 wpAnyH_take hi hs hf hr hQ (.inl ⟨hg,fun w _=>by unfold execOp;rcases hop with h | h <;> rw [h] <;> rfl⟩) hS (by rw [hd];exact h)
theorem take_movev {v:Value} (i:Nat) (x:Operand) {oi:Oper} {d:Nat} (hi:ops[i]? = some oi) (hd:oi.dst = some d) (hop:oi.op = .move x ∨ oi.op = .assign x) (hg:Region.wanted oi (yielded ops tmps) = true)
 (hs:Region.noSelect ops = true) (hf:Region.free md ops listed i = true) (hr:(Region.ready md ops listed).contains i = true)
 (hQ:∀ c a w,Q (.panic c) (a.put oi.dst v) w → Q (.panic c) a w) (hS:S w) (hv:(Act.mk tmps defers).eval x = v)
 (h:wpAnyH P md ops Q S fuel (listed.setIfInBounds i true) ⟨tmps.setIfInBounds d v,defers⟩ w):wpAnyH P md ops Q S (fuel + 1) listed ⟨tmps,defers⟩ w:=by
 subst hv
 exact take_move i x hi hd hop hg hs hf hr hQ hS h
end
theorem zO {P:Program} {ops:Array Oper} {Q:Exit → Act → World → Prop} {md:Region.Mode} {S:World → Prop} {fuel:Nat} {listed:Array Bool} {tmps:Array Value} {defers:List Deferred} {w:World} {t':Array Value} (i:Nat) (op:Op) (ty:TypeId) {v:Value} {oi:Oper} {d:Nat} (h:wpAnyH P md ops Q S fuel (listed.setIfInBounds i true) ⟨t',defers⟩ w) (hi:ops[i]? = some oi:=by exact rfl) (hd:oi.dst = some d:=by exact rfl)
 (hop:oi.op = op:=by exact rfl) (hty:oi.type = ty:=by exact rfl) (hg:Region.wanted oi (yielded ops tmps) = true:=by exact rfl) (hs:Region.noSelect ops = true:=by kernel_rfl) (hf:Region.free md ops listed i = true:=by kernel_rfl) (hr:(Region.ready md ops listed).contains i = true:=by kernel_rfl)
 (hQ:∀ c a w,Q (.panic c) (a.put oi.dst v) w → Q (.panic c) a w:=by exact fun _ _ _ h=>h)
 (hy:∀ w,S w → (execOp (Act.mk tmps defers).eval { dst:=some d,op:=op,type:=ty,pos:="",after:=#[],guard:=none }).run P w = .ok (.value v) w:=by intro w' hSw;(try dsimp only at hSw);go_simp;try (with_reducible rfl)) (hS:S w:=by assumption)
 (ht:tmps.setIfInBounds d v = t':=by (simp only [zSa,zSb,zSc]);exact rfl):wpAnyH P md ops Q S (fuel + 1) listed ⟨tmps,defers⟩ w:=by
 subst ht
 exact take_op i op ty hi hd hop hty hg hs hf hr hQ hy hS h
theorem zM {P:Program} {ops:Array Oper} {Q:Exit → Act → World → Prop} {md:Region.Mode} {S:World → Prop} {fuel:Nat} {listed:Array Bool} {tmps:Array Value} {defers:List Deferred} {w:World} {t':Array Value} {v:Value} (i:Nat) (x:Operand) {oi:Oper} {d:Nat} (h:wpAnyH P md ops Q S fuel (listed.setIfInBounds i true) ⟨t',defers⟩ w) (hi:ops[i]? = some oi:=by exact rfl) (hd:oi.dst = some d:=by exact rfl)
 (hop:oi.op = .move x ∨ oi.op = .assign x:=by first | exact .inl rfl | exact .inr rfl) (hg:Region.wanted oi (yielded ops tmps) = true:=by exact rfl) (hs:Region.noSelect ops = true:=by kernel_rfl) (hf:Region.free md ops listed i = true:=by kernel_rfl) (hr:(Region.ready md ops listed).contains i = true:=by kernel_rfl)
 (hQ:∀ c a w,Q (.panic c) (a.put oi.dst v) w → Q (.panic c) a w:=by exact fun _ _ _ h=>h) (hS:S w:=by assumption) (hv:(Act.mk tmps defers).eval x = v:=by go_simp;try (with_reducible rfl))
 (ht:tmps.setIfInBounds d v = t':=by (simp only [zSa,zSb,zSc]);exact rfl):wpAnyH P md ops Q S (fuel + 1) listed ⟨tmps,defers⟩ w:=by
 subst ht
 exact take_movev i x hi hd hop hg hs hf hr hQ hS hv h
theorem zK {P:Program} {ops:Array Oper} {Q:Exit → Act → World → Prop} {md:Region.Mode} {S:World → Prop} {fuel:Nat} {listed:Array Bool} {tmps:Array Value} {defers:List Deferred} {w:World} {t':Array Value} (i:Nat) {oi:Oper} {d:Nat} (h:wpAnyH P md ops Q S fuel (listed.setIfInBounds i true) ⟨t',defers⟩ w) (hi:ops[i]? = some oi:=by exact rfl) (hd:oi.dst = some d:=by exact rfl) (hg:Region.wanted oi (yielded ops tmps) = false:=by exact rfl) (hs:Region.noSelect ops = true:=by kernel_rfl) (hf:Region.free md ops listed i = true:=by kernel_rfl) (hr:(Region.ready md ops listed).contains i = true:=by kernel_rfl)
 (hQ:∀ c a w,Q (.panic c) (a.put oi.dst undef) w → Q (.panic c) a w:=by exact fun _ _ _ h=>h) (hS:S w:=by assumption)
 (ht:tmps.setIfInBounds d undef = t':=by (simp only [zSa,zSb,zSc]);exact rfl):wpAnyH P md ops Q S (fuel + 1) listed ⟨tmps,defers⟩ w:=by
 subst ht
 exact take_skip i hi hd hg hs hf hr hQ hS h
theorem zR {P:Program} {ops:Array Oper} {Q:Exit → Act → World → Prop} {md:Region.Mode} {S:World → Prop} {fuel:Nat} {listed:Array Bool} {a:Act} {w:World} (i:Nat) {o:Oper}
 (h:∀ K':Act → World → Prop,Shut (∀ a w,S w → (S w → wpAnyH P md ops Q S fuel (listed.setIfInBounds i true) a w) → K' a w) → if Region.wanted o (yielded ops a.tmps) = true then Oper.wp P o a w K' Q else K' (a.put o.dst undef) w) (hr:Region.ready md ops listed = [i]:=by kernel_rfl) (hi:ops[i]? = some o:=by exact rfl):wpAnyH P md ops Q S (fuel + 1) listed a w:=
 wpAnyH_ready hr (by simp) (AllReadyH.cons hi h AllReadyH.nil)
section
variable {P:Program} {ops:Array Oper} {Q:Exit → Act → World → Prop} {md:Region.Mode} {S:World → Prop} {fuel:Nat} {listed:Array Bool} {tmps:Array Value} {defers:List Deferred} {w:World}
theorem take_call (i:Nat) (f:FuncId) (xs:List Operand) (ats:Array TypeId) {oi:Oper} {d:Nat} (hr:Region.ready md ops listed = [i]) (hi:ops[i]? = some oi) (hd:oi.dst = some d)
 (hop:oi.op = .call { callee:=.value (.func f),args:=xs.toArray,argTypes:=ats }) (hg:Region.wanted oi (yielded ops tmps) = true) (hc:∀ args w,(callFunc f args).run P w = .ok (.enter f args) w)
 (h:Calls P f (xs.map (Act.mk tmps defers).eval).toArray w fun e w'=>∃ v,e = .returned v∧S w'∧(S w' → wpAnyH P md ops Q S fuel (listed.setIfInBounds i true) ⟨tmps.setIfInBounds d v,defers⟩ w')):wpAnyH P md ops Q S (fuel + 1) listed ⟨tmps,defers⟩ w:=by
 refine wpAnyH_ready hr (by simp) (AllReadyH.cons hi (fun K hK=>?_) AllReadyH.nil)
 rw [if_pos hg]
 unfold Oper.wp
 have e:execOp (Act.mk tmps defers).eval oi = callFunc f (xs.map (Act.mk tmps defers).eval).toArray:=by
  rw [execOp_same _ oi { dst := none, op := .call { callee := .value (.func f), args := xs.toArray, argTypes := ats }, type := oi.type, pos := "", after := #[], guard := none } hop rfl, execOp_call_go]
  simp
 rw [e,hc]
 refine h.mono ?_
 rintro e w' ⟨v,rfl,hS,hn⟩
 refine hK.out _ _ hS fun hS'=>?_
 rw [hd]
 exact hn hS'
theorem take_run (i:Nat) (op:Op) (ty:TypeId) {v:Value} {w':World} {oi:Oper} {d:Nat} (hr:Region.ready md ops listed = [i]) (hi:ops[i]? = some oi) (hd:oi.dst = some d) (hop:oi.op = op) (hty:oi.type = ty)
 (hg:Region.wanted oi (yielded ops tmps) = true)
 (he : (execOp (Act.mk tmps defers).eval { dst := some d, op := op, type := ty, pos := "", after := #[], guard := none }).run P w = .ok (.value v) w') (hS : S w')
 (h:S w' → wpAnyH P md ops Q S fuel (listed.setIfInBounds i true) ⟨tmps.setIfInBounds d v,defers⟩ w'):wpAnyH P md ops Q S (fuel + 1) listed ⟨tmps,defers⟩ w:=by
 refine wpAnyH_ready hr (by simp) (AllReadyH.cons hi (fun K hK=>?_) AllReadyH.nil)
 rw [if_pos hg]
 unfold Oper.wp
 rw [execOp_same _ oi { dst := some d, op := op, type := ty, pos := "", after := #[], guard := none } hop hty, he]
 refine hK.out _ _ hS fun hS'=>?_
 rw [hd]
 exact h hS'
theorem run_enter {f : FuncId} {fn : Func} {c : Code} (hf : P.funcs[f]? = some fn) (hname : (fn.name == "runtime.NumGoroutine") = false) (hb : fn.body = some c) (args : Array Value) (w : World) :
 (callFunc f args).run P w = .ok (.enter f args) w:=by
 have h1 : fn.name ≠ "runtime.NumGoroutine" := by simpa using hname
 simp [callFunc,hf,h1,hb]
end
end Go.Proofs.YtnpncpoiiikafaaGreat
namespace Go.Proofs.YtnpncpoiiikafaaGreat
open Go.RowKit
abbrev str (l:List UInt8):Value:=.string ⟨l.toArray⟩
def byt (b:UInt8):Value:=.int .u8 (b.toNat:Int)
def byts (l:List UInt8):List Value:=l.map byt
def ints (l:List Int):List Value:=l.map (Value.int .i64)
theorem byts_len (l:List UInt8):(byts l).length = l.length:=by simp [byts]
theorem ints_len (l:List Int):(ints l).length = l.length:=by simp [ints]
theorem byts_one (l:List UInt8):∀ u ∈ byts l,u.oneCell' = true:=by
 intro u hu
 obtain ⟨b,_,rfl⟩:=List.mem_map.1 hu
 rfl
theorem ints_one (l:List Int):∀ u ∈ ints l,u.oneCell' = true:=by
 intro u hu
 obtain ⟨b,_,rfl⟩:=List.mem_map.1 hu
 rfl
theorem str_of (s:ByteArray):∃ l:List UInt8,s = ⟨l.toArray⟩∧l.length = s.size:=⟨s.data.toList,by simp,by simp⟩
theorem rd_ints {w:World} {B:Nat} {A:Option Addr} {n:Nat} {l:List Int} (h:Rd w B 1 A n (ints l)) (hn:0 < n) :
 ∃ b o,A = some ⟨b,o,none⟩∧b < B∧∀ k (hk:k < l.length),w.cell? ⟨b,o + k,none⟩ = some (.int .i64 l[k]):=by
 obtain ⟨b,o,rfl,hb,hc⟩:=h.at_ hn
 refine ⟨b,o,rfl,hb,fun k hk=>?_⟩
 rw [hc k (by simpa [ints] using hk)]
 simp [ints]
theorem rd_u8s {w:World} {B:Nat} {A:Option Addr} {n:Nat} {l:List UInt8} (h:Rd w B 1 A n (byts l)) (hn:0 < n) :
 ∃ b o,A = some ⟨b,o,none⟩∧b < B∧∀ k (hk:k < l.length),w.cell? ⟨b,o + k,none⟩ = some (byt l[k]):=by
 obtain ⟨b,o,rfl,hb,hc⟩:=h.at_ hn
 refine ⟨b,o,rfl,hb,fun k hk=>?_⟩
 rw [hc k (by simpa [byts] using hk)]
 simp [byts]
theorem rd_len {w:World} {B:Nat} {A:Option Addr} {n:Nat} {l:List Int} (h:Rd w B 1 A n (ints l)):l.length = n:=by have:=h.len;simpa [ints] using this
theorem rd_len8 {w:World} {B:Nat} {A:Option Addr} {n:Nat} {l:List UInt8} (h:Rd w B 1 A n (byts l)):l.length = n:=by have:=h.len;simpa [byts] using this
section
variable {P:Program} (w:World)
theorem run_copy_op {dT sT ty elem:TypeId} {g o dLen dCap:Nat} {a:Addr} {sLen sCap:Nat} {cur:List Value} {t:TypeId} {cs:List Value} {dst:Option Tmp} {d s:Operand} {ρ:Operand → Value} {pos:String} {after:Array Edge} {guard:Option (Nat × Bool)}
 (hd:ρ d = .slice (some ⟨g,o,none⟩) dLen dCap) (hs:ρ s = .slice (some a) sLen sCap) (hu:P.underlying dT = some (.slice elem)) (hsz:(P.info? elem).map (·.size) = some 1)
 (hg:Blk w g t cur.toArray) (hn:cs.length = Nat.min sLen dLen) (hsrc:∀ j v,cs[j]? = some v → w.cell? (a.add j) = some v) (hfit:o + cs.length≤cur.length) (h1:∀ v ∈ cs,v.oneCell' = true) :
 (execOp ρ { dst,op:=.call { callee:=.builtin .copy,args:=#[d,s],argTypes:=#[dT,sT] },type:=ty,pos,after,guard }).run P w =
  .ok (.value (goInt cs.length)) (w.setRow g (cur.take o ++ cs ++ cur.drop (o + cs.length)).toArray):=by
 have hr:=run_copy_row (P:=P) w dT sT ty elem g o dLen dCap a sLen sCap cur.toArray t cs hu hsz hg hn hsrc (by simpa using hfit) h1
 simp only [List.toList_toArray] at hr
 rw [BigFrame.execOp_builtin,BigFrame.builtin_copy]
 simp only [List.map_toArray,List.map_cons,List.map_nil,hd,hs,Sem.run_bind,hr,Result.andThen_ok,Sem.run_pure]
theorem Blk.setRow {w:World} {g:Nat} {t:TypeId} {cs:Array Value} (h:Blk w g t cs) (cs':Array Value):Blk (w.setRow g cs') g t cs':=setRow_heap w g cs cs' t (0,0) h
theorem grown_setRow (w:World) (g:Nat) (cs:Array Value):w.grownBy (w.setRow g cs) (some g):=⟨rfl,rfl,rfl,by simp [World.setRow],fun k _ hne=>setRow_other w g k cs (fun e=>hne (by rw [e]))⟩
theorem run_bytes_str {t e dst:TypeId} (hu:P.underlying t = some (.slice e)) (he:P.underlying e = some (.int .u8)) (hd:P.underlying dst = some .string) {B:Nat} {A:Option Addr} {n c:Nat} {l:List UInt8}
 (h:Rd w B 1 A n (byts l)):(convert t dst (.slice A n c)).run P w = .ok (str l) w:=by
 have hl:=rd_len8 h
 by_cases hn:0 < n
 ·obtain ⟨b,o,rfl,_,hc⟩:=rd_u8s h hn
  rw [run_convert_bytes_arg w t e hu he b o n c (l.map fun b=>(b.toNat:Int)) (by simpa using hl) (fun i hi=>by
   rw [hc i (by omega)]
   simp [byt,List.getD,List.getElem?_eq_getElem (show i < l.length by omega)]) dst hd]
  congr 2
  simp [strOfNums,Function.comp_def]
 ·obtain rfl:n = 0:=by omega
  obtain rfl:l = []:=List.eq_nil_of_length_eq_zero hl
  cases A with
  | none=>rw [run_convert_bytes_nil w t e hu he 0 c dst hd];rfl
  | some a =>
   rw [run_convert_bytes_string w t dst e _ 0 c hu he hd,run_bytesToString w a 0 c [] (by simp [loadCells,loadCellsFrom])]
   rfl
end
end Go.Proofs.YtnpncpoiiikafaaGreat
