/- App -/
import Derived.Test.YtnpncpoiiikafaaGreatMemQt
import Derived.ArgAppend
import Derived.Deep.RegionLawGrows
import Derived.Test.YtnpncpoiiikafaaGreatZruPQt
import Derived.WalkMore
import Derived.ScopeJumps
import Derived.Deep.LoopGhost
set_option linter.unusedVariables false
set_option linter.unusedSimpArgs false
set_option linter.unnecessarySimpa false
set_option maxRecDepth 100000
set_option maxHeartbeats 32000000
namespace Go.Proofs.YtnpncpoiiikafaaGreat
open Go.RowKit
section
variable {P:Program} {w:World} {t e size bytes:Nat}
theorem run_app_own (hE:El P t e size bytes) (ty:TypeId) {base:Nat} {A:Option Addr} {n c:Nat} {xs:List Value} (hown:Own w base e size A n c xs)
 {B:Nat} {A2:Option Addr} {m:Nat} (c2:Nat) {news:List Value} (hr:Rd w B size A2 m news) (h1:∀ u ∈ news,u.oneCell' = true)
 (h63:n + m≤maxLen) (hbytes:(n + m) * bytes≤140737488355328) (hbase:base≤w.heap.size) :
 ∃ A' c' w',(Builtin.append_ #[t,t] ty #[.slice A n c,.slice A2 m c2]).run P w = .ok (.slice A' (n + m) c') w'∧Own w' base e size A' (n + m) c' (xs ++ news)∧w.grownBy w' (blkOf A)∧(blkOf A' = blkOf A ∨ blkOf A' = some w.heap.size):=by
 obtain ⟨i,z,hi,hz,hsize,hby,hzs⟩:=hE.inf
 by_cases hm:0 < m
 ·obtain ⟨b,off,rfl,_,hc⟩:=hr.at_ hm
  obtain ⟨v',w',hrun,hown',hg,hnil,hblk⟩:=run_append_own_at (P:=P) w base t ty e i z size bytes hE.und hi hz hsize hby hzs hE.pos _ n xs hown ⟨b,off,none⟩ m c2 news hr.len (fun j u hu=>by
   obtain ⟨hj,rfl⟩:=List.getElem?_eq_some_iff.1 hu
   rw [add_lit]
   exact hc j hj) h1 h63 hbytes hbase
  rw [ownBlock_slice] at hg hblk
  rcases hown'.2 with ⟨rfl,h0⟩ | ⟨g,cap,cur,rfl,r⟩
  ·omega
  ·exact ⟨_,_,w',hrun,⟨hown'.1,.inr ⟨g,cap,cur,rfl,r⟩⟩,hg,by simpa [Value.ownBlock,blkOf] using hblk⟩
 ·obtain rfl:m = 0:=by omega
  have hn:news = []:=List.eq_nil_of_length_eq_zero (by simpa using hr.len)
  subst hn
  refine ⟨A,c,w,?_,by simpa using hown,World.grownBy.refl w _,.inl rfl⟩
  rcases hown.shape with ⟨rfl,rfl,rfl⟩ | ⟨g,rfl,_,_,hnc,_⟩
  ·cases A2 <;> simp [Builtin.append_,run_underlying hE.und,sizeOf,typeInfo,hi,Builtin.lenOf,Builtin.firstCells,loadCells,loadCellsFrom]
  ·cases A2 <;> simp [Builtin.append_,run_underlying hE.und,sizeOf,typeInfo,hi,Builtin.lenOf,Builtin.firstCells,loadCells,loadCellsFrom,hnc,storeCells]
theorem run_app_full (hE:El P t e size bytes) (ty:TypeId) {B1:Nat} {A:Option Addr} {n cap:Nat} {xs:List Value} (hxs:Rd w B1 size A n xs) (hcap:cap = n)
 {B:Nat} {A2:Option Addr} {m:Nat} (c2:Nat) {news:List Value} (hr:Rd w B size A2 m news) (hm:0 < m) (h1:∀ u ∈ news,u.oneCell' = true)
 (h63:n + m≤maxLen) (hbytes:(n + m) * bytes≤140737488355328) :
 ∃ A' c' w',(Builtin.append_ #[t,t] ty #[.slice A n cap,.slice A2 m c2]).run P w = .ok (.slice A' (n + m) c') w'∧Own w' w.heap.size e size A' (n + m) c' (xs ++ news)∧w.grownBy w' none:=by
 obtain ⟨i,z,hi,hz,hsize,hby,hzs⟩:=hE.inf
 obtain ⟨b,off,rfl,_,hc⟩:=hr.at_ hm
 have hnews:∀ j u,news[j]? = some u → w.cell? ((⟨b,off,none⟩:Addr).add j) = some u:=fun j u hu=>by
  obtain ⟨hj,rfl⟩:=List.getElem?_eq_some_iff.1 hu
  rw [add_lit]
  exact hc j hj
 cases A with
 | some a =>
  have hold:∀ j u,xs[j]? = some u → w.cell? (a.add j) = some u:=fun j u hu=>by
   obtain ⟨hj,rfl⟩:=List.getElem?_eq_some_iff.1 hu
   have hn:0 < n:=by
    have:=hxs.len
    rcases Nat.eq_zero_or_pos n with rfl | h
    ·simp at this;subst this;simp at hj
    ·exact h
   obtain ⟨b',o',ha,_,hc'⟩:=hxs.at_ hn
   simp only [Option.some.injEq] at ha
   subst ha
   rw [add_lit]
   exact hc' j hj
  obtain ⟨v',w',hrun,r1,r2⟩:=run_append_arg_grows (P:=P) w t ty e i z size bytes hE.und hi hz hsize hby hzs hE.pos a n cap xs hxs.len hold ⟨b,off,none⟩ m c2 news hr.len hnews (by omega) h63 hbytes
  rcases r1.2 with ⟨rfl,h0⟩ | ⟨g,cap',cur,rfl,r⟩
  ·omega
  ·exact ⟨_,_,w',hrun,⟨r1.1,.inr ⟨g,cap',cur,rfl,r⟩⟩,r2⟩
 | none =>
  have hn0:n = 0:=by
   rcases Nat.eq_zero_or_pos n with rfl | h
   ·rfl
   ·obtain ⟨_,_,h,_⟩:=hxs.at_ h;cases h
  subst hn0
  subst hcap
  have hx0:xs = []:=List.eq_nil_of_length_eq_zero (by simpa using hxs.len)
  subst hx0
  obtain ⟨v',w',hrun,r1,r2,_⟩:=run_append_own (P:=P) w w.heap.size t ty e i z size bytes hE.und hi hz hsize hby hzs hE.pos (.slice none 0 0) 0 [] (World.ownsRow_nil w _ e size) ⟨b,off,none⟩ m c2 news hr.len hnews h1 h63 hbytes (Nat.le_refl _)
  rcases r1.2 with ⟨rfl,h0⟩ | ⟨g,cap',cur,rfl,r⟩
  ·omega
  ·exact ⟨_,_,w',hrun,⟨r1.1,.inr ⟨g,cap',cur,rfl,r⟩⟩,r2⟩
theorem exec_app {ρ:Operand → Value} {dst:Option Tmp} {s x:Operand} {ty:TypeId} {pos:String} {after:Array Edge} {guard:Option (Nat × Bool)} {a b v:Value} {w':World}
 (hrun:(Builtin.append_ #[t,t] ty #[a,b]).run P w = .ok v w') (hs:ρ s = a) (hx:ρ x = b) :
 (execOp ρ { dst,op:=.call { callee:=.builtin .append,args:=#[s,x],argTypes:=#[t,t] },type:=ty,pos,after,guard }).run P w = .ok (.value v) w':=by
 unfold execOp
 simp only [resolve,invoke,builtin,Sem.run_bind,Sem.run_pure,Result.andThen_ok,List.map_toArray,List.map_cons,List.map_nil,hs,hx,hrun]
theorem wp_append_full (hE:El P t e size bytes) {ops:Array Oper} {rest:List Oper} {o:Oper} {a:Act} {Q:Exit → Act → World → Prop} (hgd:o.guard = none) {s x:Operand}
 (ho:o.op = .call { callee:=.builtin .append,args:=#[s,x],argTypes:=#[t,t] })
 {B1:Nat} {A:Option Addr} {n cap:Nat} {xs:List Value} (hs:a.eval s = .slice A n cap) (hxs:Rd w B1 size A n xs) (hcap:cap = n)
 {B:Nat} {A2:Option Addr} {m c2:Nat} {news:List Value} (hx:a.eval x = .slice A2 m c2) (hr:Rd w B size A2 m news) (hm:0 < m) (h1:∀ u ∈ news,u.oneCell' = true)
 (h63:n + m≤maxLen) (hbytes:(n + m) * bytes≤140737488355328)
 (h:∀ A' c' w',Own w' w.heap.size e size A' (n + m) c' (xs ++ news) → w.grownBy w' none → wpList P ops Q rest (a.put o.dst (.slice A' (n + m) c')) w') :
 wpList P ops Q (o :: rest) a w:=by
 refine wpList_plain hgd fun K hK=>?_
 obtain ⟨A',c',w',hrun,h2,h3⟩:=run_app_full hE o.type hxs hcap c2 hr hm h1 h63 hbytes
 unfold Oper.wp execOp
 simp only [ho,resolve,invoke,builtin,Sem.run_bind,Sem.run_pure,Result.andThen_ok,List.map_toArray,List.map_cons,List.map_nil,hs,hx,hrun]
 exact hK _ _ (h A' c' w' h2 h3)
end
theorem rd_new {W0:World} {t g m size:Nat} {cs:List Value} (hg:W0.heap.size = g) (hl:cs.length = m * size):Rd (W0.alloc (.cells cs.toArray t)) (g + 1) size (some ⟨g,0,none⟩) m cs:=by
 subst hg
 exact Rd.of_blk (t:=t) (Blk.new W0 t cs.toArray) hl
theorem Own.of_blk {w:World} {base g t n size:Nat} {cs:List Value} (h:Blk w g t cs.toArray) (hl:cs.length = n * size) (hb:base≤g) (hm:n≤maxLen):Own w base t size (some ⟨g,0,none⟩) n n cs:=by
 refine ⟨hl,.inr ⟨g,n,cs.toArray,rfl,hb,h,Nat.le_refl _,hm,?_,?_⟩⟩
 ·simp [hl]
 ·simp [← hl]
theorem own_made {W0:World} {base t g n c size:Nat} {cs:Array Value} (hg:W0.heap.size = g) (hn:n≤c) (hl:cs.size = c * size) (hb:base≤g) (hm:c≤maxLen):Own (W0.alloc (.cells cs t)) base t size (some ⟨g,0,none⟩) n c (cs.toList.take (n * size)):=by
 subst hg
 have h2:n * size≤c * size:=Nat.mul_le_mul_right _ hn
 exact ⟨by rw [List.length_take,Array.length_toList,hl];omega,.inr ⟨_,c,cs,rfl,hb,heap_alloc_new W0 _,hn,hm,hl,rfl⟩⟩
theorem grown_alloc {w w':World} {o:Obj} {row:Option Nat} (hg:(w.alloc o).grownBy w' row):w.grownBy w' row :=
 ⟨hg.os,hg.tape,hg.output,by have:=hg.size;rw [World.size_alloc] at this;omega,fun k hk hne=>(hg.block k (by rw [World.size_alloc];omega) hne).trans (Below.heap_alloc w o k hk)⟩
theorem own_new {W0:World} {base t g n size:Nat} {cs:List Value} (hg:W0.heap.size = g) (hl:cs.length = n * size) (hb:base≤g) (hm:n≤maxLen):Own (W0.alloc (.cells cs.toArray t)) base t size (some ⟨g,0,none⟩) n n cs:=by
 subst hg
 exact Own.of_blk (Blk.new W0 t cs.toArray) hl hb hm
section
variable {P:Program} {ops:Array Oper} {Q:Exit → Act → World → Prop} {md:Region.Mode} {S:World → Prop} {fuel:Nat} {listed:Array Bool} {tmps:Array Value} {defers:List Deferred} {w:World}
theorem take_any (i:Nat) (op:Op) (ty:TypeId) {oi:Oper} {d:Nat} (hd:oi.dst = some d) (hop:oi.op = op) (hty:oi.type = ty)
 (hg:Region.wanted oi (yielded ops tmps) = true) {v:Value} {w':World}
 (he : (execOp (Act.mk tmps defers).eval { dst := some d, op := op, type := ty, pos := "", after := #[], guard := none }).run P w = .ok (.value v) w')
 {K':Act → World → Prop} (h:K' ⟨tmps.setIfInBounds d v,defers⟩ w') {E:Prop} :
 if Region.wanted oi (yielded ops tmps) = true then Oper.wp P oi ⟨tmps,defers⟩ w K' Q else E:=by
 rw [if_pos hg]
 unfold Oper.wp
 rw [execOp_same _ oi { dst := some d, op := op, type := ty, pos := "", after := #[], guard := none } hop hty, he]
 show K' (Act.put _ oi.dst v) w'
 rw [hd]
 exact h
theorem take_build {e:TypeId} {size len:Nat} (base:Nat) (cs:List Value) (i:Nat) (op:Op) (ty:TypeId) {oi:Oper} {d:Nat} (hd:oi.dst = some d) (hop:oi.op = op) (hty:oi.type = ty)
 (hg:Region.wanted oi (yielded ops tmps) = true)
 (he : (execOp (Act.mk tmps defers).eval { dst := some d, op := op, type := ty, pos := "", after := #[], guard := none }).run P w = .ok (.value (.slice (some ⟨w.heap.size, 0, none⟩) len len)) (w.alloc (.cells cs.toArray e)))
 (hl:cs.length = len * size) (hm:len≤maxLen) (hb:base≤w.heap.size) {K':Act → World → Prop}
 (h:∀ g w',Own w' base e size (some ⟨g,0,none⟩) len len cs → w.grownBy w' none → w.heap.size≤g → g < w'.heap.size → K' ⟨tmps.setIfInBounds d (.slice (some ⟨g,0,none⟩) len len),defers⟩ w') {E:Prop} :
 if Region.wanted oi (yielded ops tmps) = true then Oper.wp P oi ⟨tmps,defers⟩ w K' Q else E :=
 take_any i op ty hd hop hty hg he (h _ _ (own_new rfl hl hb hm) ⟨rfl,rfl,rfl,by simp,fun k hk _=>Below.heap_alloc w _ k hk⟩ (Nat.le_refl _) (by simp))
theorem take_calls (i:Nat) (f:FuncId) (xs:List Operand) (ats:Array TypeId) {oi:Oper} {d:Nat} (hd:oi.dst = some d)
 (hop:oi.op = .call { callee:=.value (.func f),args:=xs.toArray,argTypes:=ats }) (hg:Region.wanted oi (yielded ops tmps) = true) (hc:∀ args w,(callFunc f args).run P w = .ok (.enter f args) w) {K':Act → World → Prop}
 (h:Calls P f (xs.map (Act.mk tmps defers).eval).toArray w fun e w'=>∃ v,e = .returned v∧K' ⟨tmps.setIfInBounds d v,defers⟩ w') {E:Prop} :
 if Region.wanted oi (yielded ops tmps) = true then Oper.wp P oi ⟨tmps,defers⟩ w K' Q else E:=by
 rw [if_pos hg]
 unfold Oper.wp
 have e:execOp (Act.mk tmps defers).eval oi = callFunc f (xs.map (Act.mk tmps defers).eval).toArray:=by
  rw [execOp_same _ oi { dst := none, op := .call { callee := .value (.func f), args := xs.toArray, argTypes := ats }, type := oi.type, pos := "", after := #[], guard := none } hop rfl, execOp_call_go]
  simp
 rw [e,hc]
 refine h.mono ?_
 rintro e w' ⟨v,rfl,hn⟩
 show K' (Act.put _ oi.dst v) w'
 rw [hd]
 exact hn
theorem own_cell {w:World} {base e size g n c:Nat} {xs:List Value} (h:Own w base e size (some ⟨g,0,none⟩) n c xs) (j:Nat) {v:Value} (hj:xs[j]? = some v):w.cell? ⟨g,j,none⟩ = some v:=by
 obtain ⟨h1,h2⟩:=List.getElem?_eq_some_iff.1 hj
 have hl:=h.len
 have hn:0 < n:=by
  rcases Nat.eq_zero_or_pos n with rfl | h
  ·rw [Nat.zero_mul] at hl;omega
  ·exact h
 obtain ⟨b,o,he,_,hc⟩:=h.rd.at_ hn
 simp only [Option.some.injEq,Addr.mk.injEq,and_true] at he
 obtain ⟨rfl,rfl⟩:=he
 have:=hc j h1
 rw [Nat.zero_add] at this
 rw [this,h2]
theorem take_app {t e size bytes:Nat} (hE:El P t e size bytes) (i:Nat) (s x:Operand) (ty:TypeId) {oi:Oper} {d:Nat} (hd:oi.dst = some d)
 (hop:oi.op = .call { callee:=.builtin .append,args:=#[s,x],argTypes:=#[t,t] }) (hty:oi.type = ty) (hg:Region.wanted oi (yielded ops tmps) = true)
 {base:Nat} {A:Option Addr} {n c:Nat} {xs:List Value} (hown:Own w base e size A n c xs) (hs:(Act.mk tmps defers).eval s = .slice A n c)
 {B:Nat} {A2:Option Addr} {m c2:Nat} {news:List Value} (hr:Rd w B size A2 m news) (hx:(Act.mk tmps defers).eval x = .slice A2 m c2) (h1:∀ u ∈ news,u.oneCell' = true)
 (h63:n + m≤maxLen) (hbytes:(n + m) * bytes≤140737488355328) (hbase:base≤w.heap.size) {K':Act → World → Prop}
 (h:∀ A' c' w',Own w' base e size A' (n + m) c' (xs ++ news) → w.grownBy w' (blkOf A) → (blkOf A' = blkOf A ∨ blkOf A' = some w.heap.size) → K' ⟨tmps.setIfInBounds d (.slice A' (n + m) c'),defers⟩ w') {E:Prop} :
 if Region.wanted oi (yielded ops tmps) = true then Oper.wp P oi ⟨tmps,defers⟩ w K' Q else E:=by
 obtain ⟨A',c',w',hrun,h2,h3,h4⟩:=run_app_own hE ty hown c2 hr h1 h63 hbytes hbase
 exact take_any i _ ty hd hop hty hg (exec_app hrun hs hx) (h A' c' w' h2 h3 h4)
end
theorem Own.grow0 {w w':World} {base e size n c:Nat} {A:Option Addr} {xs:List Value} (h:Own w base e size A n c xs) (hg:w.grownBy w' none):Own w' base e size A n c xs :=
 h.grown hg (by cases blkOf A <;> simp)
theorem Own.other {w w':World} {base e size n c:Nat} {A B:Option Addr} {xs:List Value} (h:Own w base e size A n c xs) (hg:w.grownBy w' (blkOf B)) (hne:∀ k,blkOf A = some k → blkOf B ≠ some k):Own w' base e size A n c xs:=by
 refine h.grown hg ?_
 cases ha:blkOf A with
 | none=>exact .inl rfl
 | some k=>exact .inr fun e=>hne k ha e.symm
theorem Rd.grow0 {w w':World} {B size n:Nat} {A:Option Addr} {xs:List Value} (h:Rd w B size A n xs) (hg:w.grownBy w' none) (hB:B≤w.heap.size):Rd w' B size A n xs:=h.grown hg hB (by intro k hk;cases hk)
theorem Blk.grow0 {w w':World} {g:Nat} {t:TypeId} {cs:Array Value} (h:Blk w g t cs) (hg:w.grownBy w' none):Blk w' g t cs:=h.grown hg (by simp)
theorem below_grown {w0 a b:World} {base e size n c:Nat} {A:Option Addr} {xs:List Value} (h:Below w0.heap.size w0 a) (hg:a.grownBy b (blkOf A)) (ho:Own a base e size A n c xs) (hb:w0.heap.size≤base):Below w0.heap.size w0 b :=
 Below.grown h hg h.size (fun k hk=>Nat.le_trans hb (ho.blk k hk).1)
theorem Rd.grownOwn {a b:World} {base e size size2 n c m B:Nat} {A A2:Option Addr} {xs ys:List Value} (h:Rd a B size2 A2 m ys) (hg:a.grownBy b (blkOf A)) (ho:Own a base e size A n c xs) (hB:B≤base) (h0:B≤a.heap.size):Rd b B size2 A2 m ys :=
 h.grown hg h0 (fun k hk=>Nat.le_trans hB (ho.blk k hk).1)
theorem below_grow {w a b:World} (h:Below w.heap.size w a) (hg:a.grownBy b none):Below w.heap.size w b:=Below.grown h hg h.size (by intro k hk;cases hk)
def AppOk (w:World) (base e size:Nat) (A:Option Addr) (n c:Nat) (xs:List Value):Prop:=Own w base e size A n c xs ∨ (c = n∧Rd w w.heap.size size A n xs)
theorem AppOk.alloc {w:World} {base e size n c:Nat} {A:Option Addr} {xs:List Value} (h:AppOk w base e size A n c xs) (o:Obj):AppOk (w.alloc o) base e size A n c xs:=by
 rcases h with h | ⟨h1,h2⟩
 ·exact .inl (h.alloc o)
 ·exact .inr ⟨h1,(h2.below ((Below.refl _ _).alloc (Nat.le_refl _) o)).more (by simp)⟩
theorem wp_append_ok {P:Program} {w:World} {t e size bytes:Nat} (hE:El P t e size bytes) {ops:Array Oper} {rest:List Oper} {o:Oper} {a:Act} {Q:Exit → Act → World → Prop} (hgd:o.guard = none) {s x:Operand}
 (ho:o.op = .call { callee:=.builtin .append,args:=#[s,x],argTypes:=#[t,t] })
 {base:Nat} {A:Option Addr} {n c:Nat} {xs:List Value} (hs:a.eval s = .slice A n c) (hok:AppOk w base e size A n c xs)
 {B:Nat} {A2:Option Addr} {m c2:Nat} {news:List Value} (hx:a.eval x = .slice A2 m c2) (hr:Rd w B size A2 m news) (hm:0 < m) (h1:∀ u ∈ news,u.oneCell' = true)
 (h63:n + m≤maxLen) (hbytes:(n + m) * bytes≤140737488355328) (hbase:base≤w.heap.size)
 (h:∀ A' c' w' row,Own w' base e size A' (n + m) c' (xs ++ news) → w.grownBy w' row → (∀ k,row = some k → base≤k) → wpList P ops Q rest (a.put o.dst (.slice A' (n + m) c')) w') :
 wpList P ops Q (o :: rest) a w:=by
 rcases hok with hown | ⟨hc,hrd⟩
 ·exact wp_append hE hgd ho hs hown hx hr h1 h63 hbytes hbase fun A' c' w' h2 h3 _=>h A' c' w' (blkOf A) h2 h3 fun k hk=>(hown.blk k hk).1
 ·exact wp_append_full hE hgd ho hs hrd hc hx hr hm h1 h63 hbytes fun A' c' w' h2 h3=>h A' c' w' none (h2.base_le hbase) h3 fun k hk=>by cases hk
theorem below_row {w0 a b:World} {base:Nat} {row:Option Nat} (h:Below w0.heap.size w0 a) (hg:a.grownBy b row) (hr:∀ k,row = some k → base≤k) (hb:w0.heap.size≤base):Below w0.heap.size w0 b :=
 Below.grown h hg h.size (fun k hk=>Nat.le_trans hb (hr k hk))
end Go.Proofs.YtnpncpoiiikafaaGreat
namespace Go.Proofs.YtnpncpoiiikafaaGreat
open Go.RowKit
namespace VarW
theorem El_u8:El Tryz.prog 99 5 1 1:=El.mk' Tryz.underlying99 (z:=.int .u8 0) (by kernel_rfl) rfl (by decide)
abbrev tri (x:Int × Int × Int):Value:=.tuple #[.int .i64 x.1,.int .i64 x.2.1,.int .i64 x.2.2]
theorem get_no (s:List UInt8) (a:Int) (w:World) (h:a < 0 ∨ (s.length:Int) < a) :
 Calls Tryz.prog 82 #[str s,.int .i64 a] w fun e w'=>e = .returned (tri (0,0,2))∧w' = w:=by
 have h':a < 0 ∨ (¬ a < 0∧(s.length:Int) < a):=by omega
 clear h
 rcases h' with h | ⟨h,h2⟩
 all_goals
  go_enter Tryz.func82,Tryz.ntmps82
  go_wp2_with fail
  go_step3
  go_wp2_with fail
  try rw [Exit.noGoto_ret]
  go_ret3
  exact ⟨rfl,rfl⟩
theorem get_yes (s:List UInt8) (p:Nat) (w:World) (hs:s.length≤9223372036854775807) (hp:p≤s.length) (x:Int × Int × Int) (hx:getV s p = x) :
 Calls Tryz.prog 82 #[str s,.int .i64 p] w fun e w'=>e = .returned (tri x)∧w' = w:=by
 rw [getV_in hp] at hx
 have HX:=Lib.hid hx
 clear hx
 have hp0:(p:Int)≤(s.length:Int):=by omega
 have hp1:¬ (p:Int) < 0:=by omega
 have hd1:decide ((p:Int) < 0) = false:=decide_eq_false hp1
 have hd2:decide ((s.length:Int) < (p:Int)) = false:=decide_eq_false (by omega)
 have hd3:decide (s.length < p) = false:=decide_eq_false (by omega)
 go_enter Tryz.func82,Tryz.ntmps82
 go_wp2_with fail
 go_step3
 go_wp2_with fail
 go_step3
 go_wp2_with fail
 go_loop [4,7,8] (fun n sh i=>∃ j v:Nat,i = .int .i64 ((p:Int) + (j:Int))∧sh = .int .i64 (7 * (j:Int))∧n = .int .i64 v∧v < 128 ^ j∧j≤9∧p + j≤s.length∧resV p j v (vdec (9 - j) (decide (j = 0)) (s.drop (p + j))) = x) (fun _ _ i=>s.length - (intOf i).toNat)
 case atStart=>exact ⟨0,0,by simp,by simp,rfl,by decide,by omega,by omega,HX.out⟩
 case round =>
  obtain ⟨j,v,rfl,rfl,rfl,hv,hj,hpj,hr⟩:=hrel
  have HV:=Lib.hid hv
  have HR:=Lib.hid hr
  clear hv hr
  by_cases hj9:j < 9
  ·obtain ⟨f,hf⟩:∃ f,9 - j = f + 1:=⟨8 - j,by omega⟩
   by_cases hlt:p + j < s.length
   ·obtain ⟨b,hb,hb'⟩:∃ b,(⟨s.toArray⟩:ByteArray)[p + j]'(by show p + j < s.toArray.size;simpa using hlt) = b∧s[p + j] = b:=⟨_,rfl,rfl⟩
    have hb256:b.toNat < 256:=b.toNat_lt
    obtain ⟨o1,o2,o3⟩:=or7 v j b.toNat HV.out hb256 hj9
    have O1:=Lib.hid o1
    have O2:=Lib.hid o2
    have HF:=Lib.hid hf
    have HB':=Lib.hid hb'
    have hlI:(p:Int) + (j:Int) < (s.length:Int):=by omega
    have hjI:7 * (j:Int) < 63:=by omega
    clear o1 o2 o3 hf hb'
    by_cases hbig:128≤b.toNat
    ·go_wp2_with fail
     go_round
     case rel =>
      refine ⟨j + 1,v + (b.toNat % 128) * 128 ^ j,by first | go_num | (congr 1 <;> omega),by first | go_num | (congr 1 <;> omega),by rw [O1.out],O2.out,by omega,by omega,?_⟩
      have h1:=HR.out
      rw [HF.out,vdec_more f _ s (p + j) hlt (by rw [HB'.out];exact hbig),HB'.out] at h1
      rw [show 9 - (j + 1) = f from by have:=HF.out;omega,show decide (j + 1 = 0) = false from by simp]
      exact h1
     case measure=>simp [intOf];omega
    ·by_cases hz:b.toNat = 0∧0 < j
     ·obtain ⟨hz1,hz2⟩:=hz
      have hx:x = (0,0,5):=by
       have h1:=HR.out
       rw [HF.out,show decide (j = 0) = false from by simp;omega,vdec_zero f s (p + j) hlt (by rw [HB'.out];exact hz1)] at h1
       exact h1.symm
      subst hx
      have hgt:(p:Int) < (p:Int) + (j:Int):=by omega
      go_wp2_with fail
      try rw [Exit.noGoto_ret]
      go_ret3
      exact ⟨rfl,rfl⟩
     ·have hx:x = (((v + b.toNat * 128 ^ j:Nat):Int),((p + j + 1:Nat):Int),0):=by
       have h1:=HR.out
       rw [HF.out,vdec_last f _ s (p + j) hlt (by rw [HB'.out];omega) (by rw [HB'.out];intro h;simp;omega),HB'.out] at h1
       exact h1.symm
      subst hx
      have hmod:b.toNat % 128 = b.toNat:=by omega
      have O1':Hid (bits .or .i64 (v:Int) (wrap64 (wrap64 (bits .and .u8 (b.toNat:Int) 127) * 2 ^ (7 * j))) = ((v + b.toNat * 128 ^ j:Nat):Int)):=Lib.hid (by have:=O1.out;rwa [hmod] at this)
      have hgz:b.toNat = 0 → j = 0:=by omega
      clear hmod hz
      by_cases hb0:b.toNat = 0
      ·have hb0I:((b.toNat:Int) == 0) = true:=by rw [beq_iff_eq];omega
       have hgt:¬ (p:Int) < (p:Int) + (j:Int):=by omega
       have hgd:decide ((p:Int) < (p:Int) + (j:Int)) = false:=decide_eq_false hgt
       clear hb0 hgz
       go_wp2_with fail
       try rw [Exit.noGoto_ret]
       go_ret3
       refine ⟨?_,rfl⟩
       rw [O1'.out]
       congr 1
      ·have hb0I:((b.toNat:Int) == 0) = false:=by rw [beq_eq_false_iff_ne];omega
       clear hgz
       go_wp2_with fail
       try rw [Exit.noGoto_ret]
       go_ret3
       refine ⟨?_,rfl⟩
       rw [O1'.out]
       congr 1
   ·have hx:x = (0,0,4):=by
     have h1:=HR.out
     rw [hf,vdec_short f _ s (p + j) (by omega)] at h1
     exact h1.symm
    subst hx
    clear hf
    have hlI:¬ (p:Int) + (j:Int) < (s.length:Int):=by omega
    have hjI:7 * (j:Int) < 63:=by omega
    go_wp2_with fail
    try rw [Exit.noGoto_ret]
    go_ret3
    exact ⟨rfl,rfl⟩
  ·have hx:x = (0,0,5):=by
    have h1:=HR.out
    rw [show 9 - j = 0 from by omega,vdec_full] at h1
    exact h1.symm
   subst hx
   have hjI:¬ 7 * (j:Int) < 63:=by omega
   by_cases hlt:p + j < s.length
   ·have hlI:(p:Int) + (j:Int) < (s.length:Int):=by omega
    go_wp2_with fail
    try rw [Exit.noGoto_ret]
    go_ret3
    exact ⟨rfl,rfl⟩
   ·have hlI:¬ (p:Int) + (j:Int) < (s.length:Int):=by omega
    go_wp2_with fail
    try rw [Exit.noGoto_ret]
    go_ret3
    exact ⟨rfl,rfl⟩
theorem get_any (s:List UInt8) (a:Int) (w:World) (hs:s.length≤9223372036854775807) (x:Int × Int × Int) (hx:getV s a = x) :
 Calls Tryz.prog 82 #[str s,.int .i64 a] w fun e w'=>e = .returned (tri x)∧w' = w:=by
 by_cases h:a < 0 ∨ (s.length:Int) < a
 ·rw [getV_out h] at hx
  subst hx
  exact get_no s a w h
 ·obtain ⟨p,rfl⟩:=Int.eq_ofNat_of_zero_le (show 0≤a by omega)
  exact get_yes s p w hs (by omega) x hx
theorem byt_of (n:Nat) (h:n < 256):Value.int .u8 (n:Int) = byt (UInt8.ofNat n):=by
 simp only [byt,UInt8.toNat_ofNat']
 rw [Nat.mod_eq_of_lt h]
theorem byts_app (l m:List UInt8):byts (l ++ m) = byts l ++ byts m:=by simp [byts]
theorem add_any (A:Option Addr) (n c base:Nat) (l:List UInt8) (x:Nat) (w:World) (hx:x≤9223372036854775807) (h:AppOk w base 5 1 A n c (byts l)) (hn:n≤1000000000) (hb:base≤w.heap.size) :
 Calls Tryz.prog 99 #[.slice A n c,.int .i64 x] w fun e w'=>∃ A' c',e = .returned (.slice A' (n + vlen x) c')∧Own w' base 5 1 A' (n + vlen x) c' (byts (l ++ vbytes x))∧Below base w w':=by
 have hv9:=vlen_le x
 go_enter Tryz.func99,Tryz.ntmps99
 go_wp2_with fail
 go_loopw [0,1] (fun s y wr=>∃ (a f:Nat) (A1:Option Addr) (n1 c1:Nat) (l1:List UInt8),y = .int .i64 a∧s = .slice A1 n1 c1∧a≤x∧a < 128 ^ f∧0 < f∧f≤9∧n1 + vl f a = n + vlen x∧l1 ++ vput f a = l ++ vbytes x ∧
  AppOk wr base 5 1 A1 n1 c1 (byts l1)∧Below base w wr) (fun _ y _=>(intOf y).toNat)
 case atStart=>exact ⟨x,9,A,n,c,l,rfl,rfl,by omega,by omega,by omega,by omega,rfl,rfl,h,Below.refl _ _⟩
 case round =>
  obtain ⟨a,f,A1,n1,c1,l1,rfl,rfl,ha,haf,hf,hf9,hnl,hll,ho,hbw⟩:=hrel
  have hsz:=hbw.size
  have hvl:=vl_le f a
  have HNL:=Lib.hid hnl
  have HLL:=Lib.hid hll
  have HAF:=Lib.hid haf
  have hn1:n1≤1000000009:=by omega
  obtain ⟨f,rfl⟩:∃ g,f = g + 1:=⟨f - 1,by omega⟩
  clear hnl hll haf hvl
  by_cases hp:128≤a
  ·have hby:[Value.int .u8 (bits .or .u8 ((a:Int) % 256) 128)] = byts [UInt8.ofNat (128 + a % 128)]:=by
    rw [show (a:Int) % 256 = ((a % 256:Nat):Int) from by omega,bits_u8_128 (a % 256) (by omega),show a % 256 % 128 = a % 128 from by omega,byt_of _ (by omega)]
    rfl
   have HBY:=Lib.hid hby
   have hv:vput (f + 1) a = UInt8.ofNat (128 + a % 128) :: vput f (a / 128):=by rw [vput,if_neg (by omega)]
   have hl:vl (f + 1) a = 1 + vl f (a / 128):=by rw [vl,if_neg (by omega)]
   have HV:=Lib.hid hv
   have HL:=Lib.hid hl
   have haf:a / 128 < 128 ^ f:=by
    rw [Nat.div_lt_iff_lt_mul (by omega)];have:=HAF.out;rw [Nat.pow_succ] at this;exact this
   have hf1:0 < f:=by
    rcases Nat.eq_zero_or_pos f with h | h
    ·subst h;have:=HAF.out;omega
    ·exact h
   have HAF':=Lib.hid haf
   clear hby hv hl haf
   go_wp2_with (at_builtin;with_reducible refine wp_append_ok El_u8 rfl (s:=.tmp 9) (x:=.tmp 13) rfl rfl (ho.alloc _) rfl (rd_new (cs:=[Value.int .u8 (bits .or .u8 ((a:Int) % 256) 128)]) (m:=1) rfl rfl) (by omega) (by simp [Value.oneCell']) (by unfold maxLen;omega) (by omega) (by simp;omega) ?_;intro A4 c4 w4 row o4 hg4 hr4)
   have hb4:=Below.grown hbw (grown_alloc hg4) (by omega) hr4
   go_roundw
   case rel =>
    refine ⟨a / 128,f,A4,n1 + 1,c4,l1 ++ [UInt8.ofNat (128 + a % 128)],by go_num,rfl,by omega,HAF'.out,hf1,by omega,?_,?_,.inl ?_,hb4⟩
    ·have:=HNL.out;rw [HL.out] at this;omega
    ·rw [← HLL.out,HV.out];simp
    ·rw [byts_app,← HBY.out];exact o4
   case measure=>simp [intOf];omega
  ·have hby:[Value.int .u8 (a:Int)] = byts [UInt8.ofNat a]:=by
    rw [byt_of _ (by omega)];rfl
   have HBY:=Lib.hid hby
   have HV:=Lib.hid (show vput (f + 1) a = [UInt8.ofNat a] by rw [vput,if_pos (by omega)])
   have HL:=Lib.hid (show vl (f + 1) a = 1 by rw [vl,if_pos (by omega)])
   clear hby
   go_wp2_with (at_builtin;with_reducible refine wp_append_ok El_u8 rfl (s:=.tmp 15) (x:=.tmp 18) rfl rfl (ho.alloc _) rfl (rd_new (cs:=[Value.int .u8 (a:Int)]) (m:=1) rfl rfl) (by omega) (by simp [Value.oneCell']) (by unfold maxLen;omega) (by omega) (by simp;omega) ?_;intro A4 c4 w4 row o4 hg4 hr4)
   have hb4:=Below.grown hbw (grown_alloc hg4) (by omega) hr4
   go_ret
   have e1:n1 + 1 = n + vlen x:=by have:=HNL.out;rw [HL.out] at this;exact this
   refine ⟨A4,c4,by rw [e1];rfl,?_,hb4⟩
   ·rw [← HLL.out,HV.out,byts_app,← HBY.out,← e1];exact o4
theorem put_yes (x:Nat) (w:World) (hx:x≤9223372036854775807) :
 Calls Tryz.prog 42 #[.int .i64 x] w fun e w'=>e = .returned (.tuple #[str (vbytes x),.int .i64 0])∧Below w.heap.size w w':=by
 have hmk:∀ w,(Instr.makeSlice 99 (.int .i64 0) (.int .i64 9)).run Tryz.prog w = .ok (.slice (some ⟨w.heap.size,0,none⟩) 0 9) (w.alloc (.cells (Array.replicate 9 (.int .u8 0)) 5)):=fun _=>by kernel_rfl
 have HV:=Lib.hid (show vbytes x = [] ++ vbytes x from rfl)
 go_enter Tryz.func42,Tryz.ntmps42
 go_wp2_with fail
 have o0:Own (w.alloc (.cells (Array.replicate 9 (.int .u8 0)) 5)) w.heap.size 5 1 (some ⟨w.heap.size,0,none⟩) 0 9 (byts []):=by
  have:=own_made (W0:=w) (t:=5) (base:=w.heap.size) (n:=0) (c:=9) (size:=1) (cs:=Array.replicate 9 (.int .u8 0)) rfl (by omega) (by simp) (Nat.le_refl _) (by decide)
  simpa [byts] using this
 refine (add_any (some ⟨w.heap.size,0,none⟩) 0 9 w.heap.size [] x _ hx (.inl o0) (by omega) (by simp)).mono ?_
 rintro e w1 ⟨A1,c1,rfl,o1,hb0⟩
 have hcv:=run_bytes_str (P:=Tryz.prog) w1 (c:=c1) Tryz.underlying99 Tryz.underlying5 Tryz.underlying9 o1.rd
 rw [← HV.out] at hcv
 rw [Nat.zero_add] at hcv
 have hb1:Below w.heap.size w w1:=Below.trans (by first | exact Below.refl _ _ | (repeat (first | exact Below.refl _ _ | assumption | refine Below.drew ?_ | refine Below.drewN_ ?_ _ | refine Below.alloc ?_ (by first | exact Nat.le_refl _ | (simp;done) | (simp;omega) | omega) _ | refine Below.setCell ?_ (by first | exact Nat.le_refl _ | (simp;done) | (simp;omega) | omega) _ | (refine Below.trans ?_ (Below.mono (by assumption) (by first | exact Nat.le_refl _ | (simp;done) | (simp;omega) | omega)))))) hb0
 clear hmk
 go_wp2_with fail
 go_ret2
 exact ⟨rfl,hb1⟩
end VarW
end Go.Proofs.YtnpncpoiiikafaaGreat
