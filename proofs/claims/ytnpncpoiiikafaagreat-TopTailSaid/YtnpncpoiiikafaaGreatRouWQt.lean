/- RouW -/
import Derived.Test.YtnpncpoiiikafaaGreatLenBQt
import Derived.RangeFuncNested
import Derived.RangeFuncBound
import Derived.RangeFuncCalls
import Derived.RangeFuncLeaves
import Derived.Shelf.Abstract
import Derived.OwnWalkIn
import Derived.TacticsInMore
import Derived.LoopNIn
import Derived.LoopIn
set_option linter.unusedVariables false
set_option linter.unusedSimpArgs false
set_option linter.unnecessarySimpa false
set_option maxRecDepth 100000
set_option maxHeartbeats 32000000
namespace Go.Proofs.YtnpncpoiiikafaaGreat
open Go.RowKit
def noDefer (ops:Array Oper):Bool:=ops.toList.all fun o=>match o.op with | .defer _=>false | _=>true
theorem noDefer_at {ops:Array Oper} (h:noDefer ops = true) {i:Nat} {o:Oper} (hi:ops[i]? = some o):∀ c,o.op ≠ .defer c:=by
 intro c e
 have:=List.all_eq_true.1 h o (by simpa using Array.mem_of_getElem? hi)
 rw [e] at this
 cases this
section
variable {P:Program} {ops:Array Oper} {Q:Exit → Act → World → Prop} {md:Region.Mode} {S:World → Prop}
theorem rows_wide {F:Fence} (hd:F.depth = none) (hF:F.alive = false) (hf:∀ f,F.fn f) {n:Nat} {row:String} {args:Array Value} {w:World} {R:Value → World → Prop} (h:Rows P row args w R):RowsIn F n P row args w R:=by
 intro c cs _
 obtain ⟨v,w',r,s⟩:=h c cs
 refine ⟨v,w',r,(StepsIn.of_steps s).mono fun m _ g _=>⟨fun h=>(by rw [hF] at h;cases h),Or.inl (hf _),fun _ _=>hf _,fun d h=>(by rw [hd] at h;cases h)⟩⟩
theorem oper_round {l n:Nat} {o:Oper} {a:Act} {w:World} {K:Act → World → Prop} (hnd:∀ c,o.op ≠ .defer c) (h:o.wp P a w K Q):o.wpIn (Fence.wide.inRound l) n P a w K Q:=by
 unfold Oper.wpIn
 refine ⟨fun _ _=>trivial,?_⟩
 rw [Oper.semAt_plain _ _ _ hnd]
 unfold Oper.wp at h
 generalize (execOp a.eval o).run P w = r at *
 cases r with
 | ok x w' =>
  cases x <;> simp only [Oper.upon,Oper.uponIn] at h ⊢ <;>
   first
    | exact h
    | exact ⟨fun hh=>(by cases hh),CallsIn.inRound l (callsIn_wide.2 h)⟩
    | exact ⟨fun hh=>(by cases hh),rows_wide rfl rfl (fun _=>trivial) h⟩
 | halt x w'=>cases x <;> simp only [Oper.upon,Oper.uponIn] at h ⊢ <;> exact h
theorem any_round {l n:Nat} (hnd:noDefer ops = true) (hQ:∀ a w,Q .outgrown a w → False):∀ (fuel:Nat) (listed:Array Bool) (a:Act) (w:World),wpAny P md ops Q fuel listed a w → wpAnyIn (Fence.wide.inRound l) n P md ops Q fuel listed a w
 | 0,_,_,_,h=>h
 | fuel + 1,listed,a,w,h=>by
  refine ⟨h.1,fun i hi=>?_⟩
  have h2:=h.2 i hi
  unfold wpOp at h2
  unfold wpOpIn
  cases ho:ops[i]? with
  | none=>rw [ho] at h2;exact any_round hnd hQ fuel _ _ _ h2
  | some o =>
   rw [ho] at h2
   dsimp only at h2 ⊢
   by_cases hw:Region.wanted o (yielded ops a.tmps) = true
   ·rw [if_pos hw] at h2 ⊢
    rcases h2 with h2 | ⟨_,a',w',h2⟩
    ·exact oper_round (noDefer_at hnd ho) (Oper.wp_mono (fun a w=>any_round hnd hQ fuel _ a w) h2)
    ·exact (hQ _ _ h2).elim
   ·rw [if_neg hw] at h2 ⊢
    exact ⟨fun _ _=>trivial,any_round hnd hQ fuel _ _ _ h2⟩
theorem wpInR_region_held_drew {l n:Nat} {id:Nat} {a:Act} {w:World} (S:World → Prop) (hm:P.follows .mixedOrders = true) (hnd:noDefer ops = true) (hQ:∀ a w,Q .outgrown a w → False) (hS:S w.drew)
 (h:S w.drew → wpAnyH P .any ops Q S ops.size (Array.replicate ops.size false) a w.drew):(Code.region id ops true).wpIn (Fence.wide.inRound l) n P Q a w :=
 wpIn_region_any hm (any_round hnd hQ _ _ _ _ (wpAny_of_held _ _ _ _ (h hS)))
abbrev roundTmps (ps:Array Tmp) (tmps:Array Value) (x:Value):Array Value:=(ps.zip #[x]).foldl (fun t (p,v)=>t.setIfInBounds p v) tmps
theorem range_wide {g:Operand} {ps:Array Tmp} {assign body:Code} {a:Act} {w:World} {n gf:Nat} {lb:Array Value} (hps:ps.size = 1) (hg:a.eval g = .func (.func gf) #[] lb) (eg:∀ args w,(callFunc gf args).run P w = .ok (.enter gf args) w)
 (h:∀ (l:Nat) (rec:LoopState → Loop) (W1:World),l = w.heap.size + 1 → W1 = (w.alloc (.deferred (some []))).alloc (.loop (rec .ready)) →
  (∀ (m:Nat) (x:Value) (W:World) (R:World → Prop),W.heap[l]? = some (.loop (rec .ready)) →
   assign.wpIn (Fence.wide.inRound l) n P (Exit.then (fun a₁ w₁=>w₁.heap[l]? = some (.loop (rec .ready))∧body.wpIn (Fence.wide.inRound l) n P (fun e _ w'=>e = .normal∧w'.heap[l]? = some (.loop (rec .busy))∧R (w'.putObj l (.loop (rec .ready)))) a₁ (w₁.putObj l (.loop (rec .busy)))) (fun _ _ _=>False)) { tmps:=roundTmps ps a.tmps x,defers:=[] } W →
   YieldAt Fence.wide m P l #[x] W fun e W'=>e = .returned (.bool true)∧R W') →
  CallsIn Fence.wide n P gf (#[.func (.yield l) #[] #[]] ++ lb) W1 fun e W2=>(∃ v,e = .returned v)∧W2.heap[l]? = some (.loop (rec .ready))∧Q .normal { a with defers:={ target:=.collected w.heap.size,args:=#[] } :: a.defers } (W2.putObj l (.loop (rec .exhausted)))) :
 (Code.rangeFunc g ps assign body).wpIn Fence.wide n P Q a w:=by
 refine wpIn_rangeFunc ?_
 intro fn hfn
 obtain ⟨rec,hrec⟩:∃ rec:LoopState → Loop,rec = fun st=>{ state:=st,pending:=none,fn,tmps:=a.tmps,params:=ps,assign,body,defers:=w.heap.size }:=⟨_,rfl⟩
 obtain ⟨W1,hW1⟩:∃ W1,(w.alloc (.deferred (some []))).alloc (.loop (rec .ready)) = W1:=⟨_,rfl⟩
 refine ⟨w.heap.size + 1,[{ target:=.collected w.heap.size,args:=#[] }],W1,{ target:=.fn (.func gf) lb,args:=#[.func (.yield (w.heap.size + 1)) #[] #[]] },W1,gf,
  #[.func (.yield (w.heap.size + 1)) #[] #[]] ++ lb,W1,?_,?_,fun _ _=>trivial,?_,fun h=>(by cases h),?_⟩
 ·rw [← hW1,hrec];exact run_enterLoop_outer _ _ _ _ _
 ·simp only [resolve,hg]
  simp [go_sem]
 ·simp [invoke,go_sem,eg]
 ·refine callsIn_wide.2 (callsIn_wide.1 ((h (w.heap.size + 1) rec W1 rfl hW1.symm ?_).mono ?_))
  ·intro m x W R hl hw
   have hy:=run_yield (P:=P) (args:=#[x]) hl (by rw [hrec];exact hps.symm)
   rw [hrec] at hy
   refine ⟨fn,_,assign,body,hy,(fun h=>⟨h.1,fun c cs _=>h.2 c cs (room_wide _)⟩:RoundIn Fence.wide n P _ _ _ _ _ _ _ → RoundIn Fence.wide m P _ _ _ _ _ _ _) (roundIn_of_wpIn trivial (wpIn_mono hw ?_))⟩
   rintro e a₁ w₁ hq
   cases e with
   | normal =>
    obtain ⟨hl1,hb⟩:=hq
    refine ⟨_,run_beginRound hl1 (by rw [hrec]),?_⟩
    have e1:({ rec .ready with state:=.busy }:Loop) = rec .busy:=by rw [hrec]
    rw [e1]
    refine wpIn_mono hb ?_
    rintro e2 a2 w2 ⟨rfl,hl2,hr⟩
    refine ⟨_,_,run_endRound none hl2,rfl,?_⟩
    have e2:({ rec .busy with state:=if (none:Option Code).isNone then .ready else .done,pending:=none }:Loop) = rec .ready:=by rw [hrec];rfl
    rw [e2]
    exact hr
   | exit id=>exact hq.elim
   | goto t=>exact hq.elim
   | ret=>exact hq.elim
   | panic chain=>exact hq.elim
   | outgrown=>exact hq.elim
  ·rintro e W2 ⟨⟨v,rfl⟩,hl,hq⟩
   refine ⟨none,_,?_,hq⟩
   have:=run_endLoop (P:=P) hl (by rw [hrec];simp)
   have e3:({ rec .ready with state:=.exhausted }:Loop) = rec .exhausted:=by rw [hrec]
   rw [e3] at this
   rw [hrec] at this ⊢
   exact this
end
end Go.Proofs.YtnpncpoiiikafaaGreat
