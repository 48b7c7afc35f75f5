/- App -/
import Derived.Test.YtnpncpoiiikafaaGreatDoorMemQs
import Derived.ArgAppend
import Derived.Deep.RegionLawGrows
import Derived.Test.YtnpncpoiiikafaaGreatDoorWanPQs
set_option linter.unusedVariables false
set_option linter.unusedSimpArgs false
set_option linter.unnecessarySimpa false
namespace Go.Proofs.YtnpncpoiiikafaaGreatDoor
open Go.RowKit
section
variable {P:Program} {w:World} {t e size bytes:Nat}
theorem run_app_own (hE:El P t e size bytes) (ty:TypeId) {base:Nat} {A:Option Addr} {n c:Nat} {xs:List Value} (hown:Own w base e size A n c xs)
    {B:Nat} {A2:Option Addr} {m:Nat} (c2:Nat) {news:List Value} (hr:Rd w B size A2 m news) (h1:∀ u ∈ news,u.oneCell' = true)
    (h63:n + m≤maxLen) (hbytes:(n + m) * bytes≤140737488355328) (hbase:base≤w.heap.size) :
    ∃ A' c' w',(Builtin.append_ #[t,t] ty #[.slice A n c,.slice A2 m c2]).run P w = .ok (.slice A' (n + m) c') w'∧Own w' base e size A' (n + m) c' (xs ++ news)∧w.grownBy w' (blkOf A)∧(blkOf A' = blkOf A ∨ blkOf A' = some w.heap.size):=by
  obtain ⟨i,z,hi,hz,hsize,hby,hzs⟩:=hE.inf
  by_cases hm:0 < m
  · obtain ⟨b,off,rfl,_,hc⟩:=hr.at_ hm
    obtain ⟨v',w',hrun,hown',hg,hnil,hblk⟩:=run_append_own_at (P:=P) w base t ty e i z size bytes hE.und hi hz hsize hby hzs hE.pos _ n xs hown ⟨b,off,none⟩ m c2 news hr.len (fun j u hu=>by
      obtain ⟨hj,rfl⟩:=List.getElem?_eq_some_iff.1 hu
      rw [add_lit]
      exact hc j hj) h1 h63 hbytes hbase
    rw [ownBlock_slice] at hg hblk
    rcases hown'.2 with ⟨rfl,h0⟩ | ⟨g,cap,cur,rfl,r⟩
    · omega
    · exact ⟨_,_,w',hrun,⟨hown'.1,.inr ⟨g,cap,cur,rfl,r⟩⟩,hg,by simpa [Value.ownBlock,blkOf] using hblk⟩
  · obtain rfl:m = 0:=by omega
    have hn:news = []:=List.eq_nil_of_length_eq_zero (by simpa using hr.len)
    subst hn
    refine ⟨A,c,w,?_,by simpa using hown,World.grownBy.refl w _,.inl rfl⟩
    rcases hown.shape with ⟨rfl,rfl,rfl⟩ | ⟨g,rfl,_,_,hnc,_⟩
    · cases A2 <;> simp [Builtin.append_,run_underlying hE.und,sizeOf,typeInfo,hi,Builtin.lenOf,Builtin.firstCells,loadCells,loadCellsFrom]
    · cases A2 <;> simp [Builtin.append_,run_underlying hE.und,sizeOf,typeInfo,hi,Builtin.lenOf,Builtin.firstCells,loadCells,loadCellsFrom,hnc,storeCells]
theorem run_app_full (hE:El P t e size bytes) (ty:TypeId) {B1:Nat} {A:Option Addr} {n cap:Nat} {xs:List Value} (hxs:Rd w B1 size A n xs) (hcap:cap = n)
    {B:Nat} {A2:Option Addr} {m:Nat} (c2:Nat) {news:List Value} (hr:Rd w B size A2 m news) (hm:0 < m) (h1:∀ u ∈ news,u.oneCell' = true)
    (h63:n + m≤maxLen) (hbytes:(n + m) * bytes≤140737488355328) :
    ∃ A' c' w',(Builtin.append_ #[t,t] ty #[.slice A n cap,.slice A2 m c2]).run P w = .ok (.slice A' (n + m) c') w'∧Own w' w.heap.size e size A' (n + m) c' (xs ++ news)∧w.grownBy w' none:=by
  obtain ⟨i,z,hi,hz,hsize,hby,hzs⟩:=hE.inf
  obtain ⟨b,off,rfl,_,hc⟩:=hr.at_ hm
  have hnews:∀ j u,news[j]? = some u → w.cell? ((⟨b,off,none⟩:Addr).add j) = some u:=fun j u hu=>by
    obtain ⟨hj,rfl⟩:=List.getElem?_eq_some_iff.1 hu
    rw [add_lit]
    exact hc j hj
  cases A with
  | some a =>
    have hold:∀ j u,xs[j]? = some u → w.cell? (a.add j) = some u:=fun j u hu=>by
      obtain ⟨hj,rfl⟩:=List.getElem?_eq_some_iff.1 hu
      have hn:0 < n:=by
        have:=hxs.len
        rcases Nat.eq_zero_or_pos n with rfl | h
        · simp at this;subst this;simp at hj
        · exact h
      obtain ⟨b',o',ha,_,hc'⟩:=hxs.at_ hn
      simp only [Option.some.injEq] at ha
      subst ha
      rw [add_lit]
      exact hc' j hj
    obtain ⟨v',w',hrun,r1,r2⟩:=run_append_arg_grows (P:=P) w t ty e i z size bytes hE.und hi hz hsize hby hzs hE.pos a n cap xs hxs.len hold ⟨b,off,none⟩ m c2 news hr.len hnews (by omega) h63 hbytes
    rcases r1.2 with ⟨rfl,h0⟩ | ⟨g,cap',cur,rfl,r⟩
    · omega
    · exact ⟨_,_,w',hrun,⟨r1.1,.inr ⟨g,cap',cur,rfl,r⟩⟩,r2⟩
  | none =>
    have hn0:n = 0:=by
      rcases Nat.eq_zero_or_pos n with rfl | h
      · rfl
      · obtain ⟨_,_,h,_⟩:=hxs.at_ h;cases h
    subst hn0
    subst hcap
    have hx0:xs = []:=List.eq_nil_of_length_eq_zero (by simpa using hxs.len)
    subst hx0
    obtain ⟨v',w',hrun,r1,r2,_⟩:=run_append_own (P:=P) w w.heap.size t ty e i z size bytes hE.und hi hz hsize hby hzs hE.pos (.slice none 0 0) 0 [] (World.ownsRow_nil w _ e size) ⟨b,off,none⟩ m c2 news hr.len hnews h1 h63 hbytes (Nat.le_refl _)
    rcases r1.2 with ⟨rfl,h0⟩ | ⟨g,cap',cur,rfl,r⟩
    · omega
    · exact ⟨_,_,w',hrun,⟨r1.1,.inr ⟨g,cap',cur,rfl,r⟩⟩,r2⟩
theorem exec_app {ρ:Operand → Value} {dst:Option Tmp} {s x:Operand} {ty:TypeId} {pos:String} {after:Array Edge} {guard:Option (Nat × Bool)} {a b v:Value} {w':World}
    (hrun:(Builtin.append_ #[t,t] ty #[a,b]).run P w = .ok v w') (hs:ρ s = a) (hx:ρ x = b) :
    (execOp ρ { dst,op:=.call { callee:=.builtin .append,args:=#[s,x],argTypes:=#[t,t] },type:=ty,pos,after,guard }).run P w = .ok (.value v) w':=by
  unfold execOp
  simp only [resolve,invoke,builtin,Sem.run_bind,Sem.run_pure,Result.andThen_ok,List.map_toArray,List.map_cons,List.map_nil,hs,hx,hrun]
theorem wp_append_full (hE:El P t e size bytes) {ops:Array Oper} {rest:List Oper} {o:Oper} {a:Act} {Q:Exit → Act → World → Prop} (hgd:o.guard = none) {s x:Operand}
    (ho:o.op = .call { callee:=.builtin .append,args:=#[s,x],argTypes:=#[t,t] })
    {B1:Nat} {A:Option Addr} {n cap:Nat} {xs:List Value} (hs:a.eval s = .slice A n cap) (hxs:Rd w B1 size A n xs) (hcap:cap = n)
    {B:Nat} {A2:Option Addr} {m c2:Nat} {news:List Value} (hx:a.eval x = .slice A2 m c2) (hr:Rd w B size A2 m news) (hm:0 < m) (h1:∀ u ∈ news,u.oneCell' = true)
    (h63:n + m≤maxLen) (hbytes:(n + m) * bytes≤140737488355328)
    (h:∀ A' c' w',Own w' w.heap.size e size A' (n + m) c' (xs ++ news) → w.grownBy w' none → wpList P ops Q rest (a.put o.dst (.slice A' (n + m) c')) w') :
    wpList P ops Q (o :: rest) a w:=by
  refine wpList_plain hgd fun K hK=>?_
  obtain ⟨A',c',w',hrun,h2,h3⟩:=run_app_full hE o.type hxs hcap c2 hr hm h1 h63 hbytes
  unfold Oper.wp execOp
  simp only [ho,resolve,invoke,builtin,Sem.run_bind,Sem.run_pure,Result.andThen_ok,List.map_toArray,List.map_cons,List.map_nil,hs,hx,hrun]
  exact hK _ _ (h A' c' w' h2 h3)
end
theorem rd_new {W0:World} {t g m size:Nat} {cs:List Value} (hg:W0.heap.size = g) (hl:cs.length = m * size):Rd (W0.alloc (.cells cs.toArray t)) (g + 1) size (some ⟨g,0,none⟩) m cs:=by
  subst hg
  exact Rd.of_blk (t:=t) (Blk.new W0 t cs.toArray) hl
theorem Own.of_blk {w:World} {base g t n size:Nat} {cs:List Value} (h:Blk w g t cs.toArray) (hl:cs.length = n * size) (hb:base≤g) (hm:n≤maxLen):Own w base t size (some ⟨g,0,none⟩) n n cs:=by
  refine ⟨hl,.inr ⟨g,n,cs.toArray,rfl,hb,h,Nat.le_refl _,hm,?_,?_⟩⟩
  · simp [hl]
  · simp [← hl]
theorem own_made {W0:World} {base t g n c size:Nat} {cs:Array Value} (hg:W0.heap.size = g) (hn:n≤c) (hl:cs.size = c * size) (hb:base≤g) (hm:c≤maxLen):Own (W0.alloc (.cells cs t)) base t size (some ⟨g,0,none⟩) n c (cs.toList.take (n * size)):=by
  subst hg
  have h2:n * size≤c * size:=Nat.mul_le_mul_right _ hn
  exact ⟨by rw [List.length_take,Array.length_toList,hl];omega,.inr ⟨_,c,cs,rfl,hb,heap_alloc_new W0 _,hn,hm,hl,rfl⟩⟩
theorem grown_alloc {w w':World} {o:Obj} {row:Option Nat} (hg:(w.alloc o).grownBy w' row):w.grownBy w' row :=
  ⟨hg.os,hg.tape,hg.output,by have:=hg.size;rw [World.size_alloc] at this;omega,fun k hk hne=>(hg.block k (by rw [World.size_alloc];omega) hne).trans (Below.heap_alloc w o k hk)⟩
theorem own_new {W0:World} {base t g n size:Nat} {cs:List Value} (hg:W0.heap.size = g) (hl:cs.length = n * size) (hb:base≤g) (hm:n≤maxLen):Own (W0.alloc (.cells cs.toArray t)) base t size (some ⟨g,0,none⟩) n n cs:=by
  subst hg
  exact Own.of_blk (Blk.new W0 t cs.toArray) hl hb hm
section
variable {P:Program} {ops:Array Oper} {Q:Exit → Act → World → Prop} {md:Region.Mode} {S:World → Prop} {fuel:Nat} {listed:Array Bool} {tmps:Array Value} {defers:List Deferred} {w:World}
theorem take_any (i:Nat) (op:Op) (ty:TypeId) {oi:Oper} {d:Nat} (hd:oi.dst = some d) (hop:oi.op = op) (hty:oi.type = ty)
    (hg:Region.wanted oi (yielded ops tmps) = true) {v:Value} {w':World}
    (he : (execOp (Act.mk tmps defers).eval { dst := some d, op := op, type := ty, pos := "", after := #[], guard := none }).run P w = .ok (.value v) w')
    {K':Act → World → Prop} (h:K' ⟨tmps.setIfInBounds d v,defers⟩ w') {E:Prop} :
    if Region.wanted oi (yielded ops tmps) = true then Oper.wp P oi ⟨tmps,defers⟩ w K' Q else E:=by
  rw [if_pos hg]
  unfold Oper.wp
  rw [execOp_same _ oi { dst := some d, op := op, type := ty, pos := "", after := #[], guard := none } hop hty, he]
  show K' (Act.put _ oi.dst v) w'
  rw [hd]
  exact h
theorem take_build {e:TypeId} {size len:Nat} (base:Nat) (cs:List Value) (i:Nat) (op:Op) (ty:TypeId) {oi:Oper} {d:Nat} (hd:oi.dst = some d) (hop:oi.op = op) (hty:oi.type = ty)
    (hg:Region.wanted oi (yielded ops tmps) = true)
    (he : (execOp (Act.mk tmps defers).eval { dst := some d, op := op, type := ty, pos := "", after := #[], guard := none }).run P w = .ok (.value (.slice (some ⟨w.heap.size, 0, none⟩) len len)) (w.alloc (.cells cs.toArray e)))
    (hl:cs.length = len * size) (hm:len≤maxLen) (hb:base≤w.heap.size) {K':Act → World → Prop}
    (h:∀ g w',Own w' base e size (some ⟨g,0,none⟩) len len cs → w.grownBy w' none → w.heap.size≤g → g < w'.heap.size → K' ⟨tmps.setIfInBounds d (.slice (some ⟨g,0,none⟩) len len),defers⟩ w') {E:Prop} :
    if Region.wanted oi (yielded ops tmps) = true then Oper.wp P oi ⟨tmps,defers⟩ w K' Q else E :=
  take_any i op ty hd hop hty hg he (h _ _ (own_new rfl hl hb hm) ⟨rfl,rfl,rfl,by simp,fun k hk _=>Below.heap_alloc w _ k hk⟩ (Nat.le_refl _) (by simp))
theorem take_calls (i:Nat) (f:FuncId) (xs:List Operand) (ats:Array TypeId) {oi:Oper} {d:Nat} (hd:oi.dst = some d)
    (hop:oi.op = .call { callee:=.value (.func f),args:=xs.toArray,argTypes:=ats }) (hg:Region.wanted oi (yielded ops tmps) = true) (hc:∀ args w,(callFunc f args).run P w = .ok (.enter f args) w) {K':Act → World → Prop}
    (h:Calls P f (xs.map (Act.mk tmps defers).eval).toArray w fun e w'=>∃ v,e = .returned v∧K' ⟨tmps.setIfInBounds d v,defers⟩ w') {E:Prop} :
    if Region.wanted oi (yielded ops tmps) = true then Oper.wp P oi ⟨tmps,defers⟩ w K' Q else E:=by
  rw [if_pos hg]
  unfold Oper.wp
  have e:execOp (Act.mk tmps defers).eval oi = callFunc f (xs.map (Act.mk tmps defers).eval).toArray:=by
    rw [execOp_same _ oi { dst := none, op := .call { callee := .value (.func f), args := xs.toArray, argTypes := ats }, type := oi.type, pos := "", after := #[], guard := none } hop rfl, execOp_call_go]
    simp
  rw [e,hc]
  refine h.mono ?_
  rintro e w' ⟨v,rfl,hn⟩
  show K' (Act.put _ oi.dst v) w'
  rw [hd]
  exact hn
theorem own_cell {w:World} {base e size g n c:Nat} {xs:List Value} (h:Own w base e size (some ⟨g,0,none⟩) n c xs) (j:Nat) {v:Value} (hj:xs[j]? = some v):w.cell? ⟨g,j,none⟩ = some v:=by
  obtain ⟨h1,h2⟩:=List.getElem?_eq_some_iff.1 hj
  have hl:=h.len
  have hn:0 < n:=by
    rcases Nat.eq_zero_or_pos n with rfl | h
    · rw [Nat.zero_mul] at hl;omega
    · exact h
  obtain ⟨b,o,he,_,hc⟩:=h.rd.at_ hn
  simp only [Option.some.injEq,Addr.mk.injEq,and_true] at he
  obtain ⟨rfl,rfl⟩:=he
  have:=hc j h1
  rw [Nat.zero_add] at this
  rw [this,h2]
theorem take_app {t e size bytes:Nat} (hE:El P t e size bytes) (i:Nat) (s x:Operand) (ty:TypeId) {oi:Oper} {d:Nat} (hd:oi.dst = some d)
    (hop:oi.op = .call { callee:=.builtin .append,args:=#[s,x],argTypes:=#[t,t] }) (hty:oi.type = ty) (hg:Region.wanted oi (yielded ops tmps) = true)
    {base:Nat} {A:Option Addr} {n c:Nat} {xs:List Value} (hown:Own w base e size A n c xs) (hs:(Act.mk tmps defers).eval s = .slice A n c)
    {B:Nat} {A2:Option Addr} {m c2:Nat} {news:List Value} (hr:Rd w B size A2 m news) (hx:(Act.mk tmps defers).eval x = .slice A2 m c2) (h1:∀ u ∈ news,u.oneCell' = true)
    (h63:n + m≤maxLen) (hbytes:(n + m) * bytes≤140737488355328) (hbase:base≤w.heap.size) {K':Act → World → Prop}
    (h:∀ A' c' w',Own w' base e size A' (n + m) c' (xs ++ news) → w.grownBy w' (blkOf A) → (blkOf A' = blkOf A ∨ blkOf A' = some w.heap.size) → K' ⟨tmps.setIfInBounds d (.slice A' (n + m) c'),defers⟩ w') {E:Prop} :
    if Region.wanted oi (yielded ops tmps) = true then Oper.wp P oi ⟨tmps,defers⟩ w K' Q else E:=by
  obtain ⟨A',c',w',hrun,h2,h3,h4⟩:=run_app_own hE ty hown c2 hr h1 h63 hbytes hbase
  exact take_any i _ ty hd hop hty hg (exec_app hrun hs hx) (h A' c' w' h2 h3 h4)
end
theorem Own.grow0 {w w':World} {base e size n c:Nat} {A:Option Addr} {xs:List Value} (h:Own w base e size A n c xs) (hg:w.grownBy w' none):Own w' base e size A n c xs :=
  h.grown hg (by cases blkOf A <;> simp)
theorem Own.other {w w':World} {base e size n c:Nat} {A B:Option Addr} {xs:List Value} (h:Own w base e size A n c xs) (hg:w.grownBy w' (blkOf B)) (hne:∀ k,blkOf A = some k → blkOf B ≠ some k):Own w' base e size A n c xs:=by
  refine h.grown hg ?_
  cases ha:blkOf A with
  | none=>exact .inl rfl
  | some k=>exact .inr fun e=>hne k ha e.symm
theorem Rd.grow0 {w w':World} {B size n:Nat} {A:Option Addr} {xs:List Value} (h:Rd w B size A n xs) (hg:w.grownBy w' none) (hB:B≤w.heap.size):Rd w' B size A n xs:=h.grown hg hB (by intro k hk;cases hk)
theorem Blk.grow0 {w w':World} {g:Nat} {t:TypeId} {cs:Array Value} (h:Blk w g t cs) (hg:w.grownBy w' none):Blk w' g t cs:=h.grown hg (by simp)
theorem below_grown {w0 a b:World} {base e size n c:Nat} {A:Option Addr} {xs:List Value} (h:Below w0.heap.size w0 a) (hg:a.grownBy b (blkOf A)) (ho:Own a base e size A n c xs) (hb:w0.heap.size≤base):Below w0.heap.size w0 b :=
  Below.grown h hg h.size (fun k hk=>Nat.le_trans hb (ho.blk k hk).1)
theorem Rd.grownOwn {a b:World} {base e size size2 n c m B:Nat} {A A2:Option Addr} {xs ys:List Value} (h:Rd a B size2 A2 m ys) (hg:a.grownBy b (blkOf A)) (ho:Own a base e size A n c xs) (hB:B≤base) (h0:B≤a.heap.size):Rd b B size2 A2 m ys :=
  h.grown hg h0 (fun k hk=>Nat.le_trans hB (ho.blk k hk).1)
theorem below_grow {w a b:World} (h:Below w.heap.size w a) (hg:a.grownBy b none):Below w.heap.size w b:=Below.grown h hg h.size (by intro k hk;cases hk)
def AppOk (w:World) (base e size:Nat) (A:Option Addr) (n c:Nat) (xs:List Value):Prop:=Own w base e size A n c xs ∨ (c = n∧Rd w w.heap.size size A n xs)
theorem AppOk.alloc {w:World} {base e size n c:Nat} {A:Option Addr} {xs:List Value} (h:AppOk w base e size A n c xs) (o:Obj):AppOk (w.alloc o) base e size A n c xs:=by
  rcases h with h | ⟨h1,h2⟩
  · exact .inl (h.alloc o)
  · exact .inr ⟨h1,(h2.below ((Below.refl _ _).alloc (Nat.le_refl _) o)).more (by simp)⟩
theorem wp_append_ok {P:Program} {w:World} {t e size bytes:Nat} (hE:El P t e size bytes) {ops:Array Oper} {rest:List Oper} {o:Oper} {a:Act} {Q:Exit → Act → World → Prop} (hgd:o.guard = none) {s x:Operand}
    (ho:o.op = .call { callee:=.builtin .append,args:=#[s,x],argTypes:=#[t,t] })
    {base:Nat} {A:Option Addr} {n c:Nat} {xs:List Value} (hs:a.eval s = .slice A n c) (hok:AppOk w base e size A n c xs)
    {B:Nat} {A2:Option Addr} {m c2:Nat} {news:List Value} (hx:a.eval x = .slice A2 m c2) (hr:Rd w B size A2 m news) (hm:0 < m) (h1:∀ u ∈ news,u.oneCell' = true)
    (h63:n + m≤maxLen) (hbytes:(n + m) * bytes≤140737488355328) (hbase:base≤w.heap.size)
    (h:∀ A' c' w' row,Own w' base e size A' (n + m) c' (xs ++ news) → w.grownBy w' row → (∀ k,row = some k → base≤k) → wpList P ops Q rest (a.put o.dst (.slice A' (n + m) c')) w') :
    wpList P ops Q (o :: rest) a w:=by
  rcases hok with hown | ⟨hc,hrd⟩
  · exact wp_append hE hgd ho hs hown hx hr h1 h63 hbytes hbase fun A' c' w' h2 h3 _=>h A' c' w' (blkOf A) h2 h3 fun k hk=>(hown.blk k hk).1
  · exact wp_append_full hE hgd ho hs hrd hc hx hr hm h1 h63 hbytes fun A' c' w' h2 h3=>h A' c' w' none (h2.base_le hbase) h3 fun k hk=>by cases hk
end Go.Proofs.YtnpncpoiiikafaaGreatDoor
namespace Go.Proofs.YtnpncpoiiikafaaGreatDoor
open Go.RowKit
section
variable {P:Program} {ops:Array Oper} {Q:Exit → Act → World → Prop} {md:Region.Mode} {S:World → Prop} {fuel:Nat} {listed:Array Bool} {tmps:Array Value} {defers:List Deferred} {w:World}
theorem take_callp (i:Nat) (f:FuncId) (xs:List Operand) (ats:Array TypeId) {oi:Oper}
    (hop:oi.op = .call { callee:=.value (.func f),args:=xs.toArray,argTypes:=ats }) (hg:Region.wanted oi (yielded ops tmps) = true) (hc:∀ args w,(callFunc f args).run P w = .ok (.enter f args) w) {K':Act → World → Prop}
    (h:Calls P f (xs.map (Act.mk tmps defers).eval).toArray w fun e w'=>∃ c,e = .panicked c∧Q (.panic c) ⟨tmps,defers⟩ w') {E:Prop} :
    if Region.wanted oi (yielded ops tmps) = true then Oper.wp P oi ⟨tmps,defers⟩ w K' Q else E:=by
  rw [if_pos hg]
  unfold Oper.wp
  have e:execOp (Act.mk tmps defers).eval oi = callFunc f (xs.map (Act.mk tmps defers).eval).toArray:=by
    rw [execOp_same _ oi { dst := none, op := .call { callee := .value (.func f), args := xs.toArray, argTypes := ats }, type := oi.type, pos := "", after := #[], guard := none } hop rfl, execOp_call_go]
    simp
  rw [e,hc]
  refine h.mono ?_
  rintro e w' ⟨v,rfl,hn⟩
  exact hn
theorem take_calli (i:Nat) (f:FuncId) (args:Array Value) (op:Op) (ty:TypeId) {oi:Oper} {d:Nat} (hd:oi.dst = some d) (hop:oi.op = op) (hty:oi.type = ty)
    (hg:Region.wanted oi (yielded ops tmps) = true)
    (he : (execOp (Act.mk tmps defers).eval { dst := some d, op := op, type := ty, pos := "", after := #[], guard := none }).run P w = .ok (.enter f args) w) {K' : Act → World → Prop}
    (h:Calls P f args w fun e w'=>∃ v,e = .returned v∧K' ⟨tmps.setIfInBounds d v,defers⟩ w') {E:Prop} :
    if Region.wanted oi (yielded ops tmps) = true then Oper.wp P oi ⟨tmps,defers⟩ w K' Q else E:=by
  rw [if_pos hg]
  unfold Oper.wp
  rw [execOp_same _ oi { dst := some d, op := op, type := ty, pos := "", after := #[], guard := none } hop hty, he]
  refine h.mono ?_
  rintro e w' ⟨v,rfl,hn⟩
  show K' (Act.put _ oi.dst v) w'
  rw [hd]
  exact hn
theorem take_store (i:Nat) (op:Op) (ty:TypeId) {oi:Oper} (hd:oi.dst = none) (hop:oi.op = op) (hty:oi.type = ty)
    (hg:Region.wanted oi (yielded ops tmps) = true) {w':World}
    (he : (execOp (Act.mk tmps defers).eval { dst := none, op := op, type := ty, pos := "", after := #[], guard := none }).run P w = .ok .skip w')
    {K':Act → World → Prop} (h:K' ⟨tmps,defers⟩ w') {E:Prop} :
    if Region.wanted oi (yielded ops tmps) = true then Oper.wp P oi ⟨tmps,defers⟩ w K' Q else E:=by
  rw [if_pos hg]
  unfold Oper.wp
  rw [execOp_same _ oi { dst := none, op := op, type := ty, pos := "", after := #[], guard := none } hop hty, he]
  show K' (Act.put _ oi.dst undef) w'
  rw [hd]
  exact h
end
end Go.Proofs.YtnpncpoiiikafaaGreatDoor
namespace Go.Proofs.YtnpncpoiiikafaaGreatDoor
open Go.RowKit
namespace WanW
theorem El_u8:El Tryz.prog 62 5 1 1:=El.mk' Tryz.underlying62 (z:=.int .u8 0) (by kernel_rfl) rfl (by decide)
def digB (n:Nat):UInt8:=UInt8.ofNat (digN n)
def hexL (s:List UInt8):List UInt8:=s.flatMap fun b=>[digB (b.toNat / 16),digB (b.toNat % 16)]
theorem hexL_snoc (s:List UInt8) (b:UInt8):hexL (s ++ [b]) = hexL s ++ [digB (b.toNat / 16),digB (b.toNat % 16)]:=by simp [hexL]
theorem hexL_len (s:List UInt8):(hexL s).length = 2 * s.length:=by
  induction s with
  | nil=>rfl
  | cons b s ih =>
    show ([digB (b.toNat / 16),digB (b.toNat % 16)] ++ hexL s).length = _
    simp [ih]
    omega
end WanW
end Go.Proofs.YtnpncpoiiikafaaGreatDoor
namespace Go.Proofs.YtnpncpoiiikafaaGreatDoor
open Go.RowKit
namespace WanW
def decL (n:Nat):List UInt8:=if h:n < 10 then [UInt8.ofNat (48 + n)] else decL (n / 10) ++ [UInt8.ofNat (48 + n % 10)]
termination_by n
decreasing_by omega
theorem decL_len (n k:Nat) (h:n < 10 ^ (k + 1)):(decL n).length≤k + 1:=by
  induction k generalizing n with
  | zero=>rw [decL,dif_pos (by simpa using h)];simp
  | succ k ih =>
    rw [decL]
    split
    · simp
    · rw [List.length_append,List.length_singleton]
      have:=ih (n / 10) (by rw [Nat.pow_succ] at h;omega)
      omega
theorem dig_nat (n:Nat) (h:n < 10):(UInt8.ofNat (48 + n)).toNat = 48 + n:=by rw [UInt8.toNat_ofNat'];omega
end WanW
end Go.Proofs.YtnpncpoiiikafaaGreatDoor
namespace Go.Proofs.YtnpncpoiiikafaaGreatDoor
open Go.RowKit
namespace WanW
theorem str_cat (a b:List UInt8):(⟨a.toArray⟩:ByteArray) ++ ⟨b.toArray⟩ = ⟨(a ++ b).toArray⟩:=by
  apply ByteArray.ext
  simp
end WanW
end Go.Proofs.YtnpncpoiiikafaaGreatDoor
