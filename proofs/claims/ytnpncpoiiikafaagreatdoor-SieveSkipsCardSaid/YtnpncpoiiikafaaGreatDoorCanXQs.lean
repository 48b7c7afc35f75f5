/- CanX -/
import Derived.Test.YtnpncpoiiikafaaGreatDoorCanWQs
set_option linter.unusedVariables false
set_option linter.unusedSimpArgs false
set_option linter.unnecessarySimpa false
namespace Go.Proofs.YtnpncpoiiikafaaGreatDoor
open Go.RowKit
namespace LenW
theorem results_row2 {P:Program} {fn:Func} {p q:Tmp} {ty:TypeId} (h:fn.results = #[.cell p ty,.tmp q]) (tmps:Array Value) (w:World) (g:Nat) (t:TypeId) (cs:Array Value) (fr:Nat × Nat) (d:TypeDesc)
    (hp:tmps.getD p undef = .pointer (some ⟨g,0,none⟩)) (hg:w.heap[g]? = some (.cells cs t fr))
    (hu:P.underlying ty = some d) (hd:(match d with | .struct _ | .array _ _=>true | _=>false) = true) (hi:(P.info? ty).map (·.size) = some cs.size) :
    (results fn tmps).run P w = .ok (.tuple #[.agg cs,tmps.getD q undef]) w:=by
  have hp':tmps[p]?.getD undef = .pointer (some ⟨g,0,none⟩):=by simpa using hp
  simp [results,h,hp',asAddr,run_loadVar_row w g t ty cs fr d hg hu hd hi]
def wordV (l:List Int) (s:Int):(Int × Int) × Int:=if 0≤s∧s < l.length∧¬ (wordF l s.toNat).2 = 0 then (wordF l s.toNat,0) else ((0,0),70)
theorem fcells_at (l:List (Int × Int)) (k:Nat) (h:k < l.length):(fcells l).toArray[k * 2]? = some (.int .i64 l[k].1)∧(fcells l).toArray[k * 2 + 1]? = some (.int .i64 l[k].2):=by
  induction l generalizing k with
  | nil=>simp at h
  | cons p l ih =>
    cases k with
    | zero=>exact ⟨rfl,rfl⟩
    | succ k =>
      have:=ih k (by simpa using h)
      simp only [List.getElem?_toArray,show fcells (p :: l) = .int .i64 p.1 :: .int .i64 p.2 :: fcells l from rfl,show (k + 1) * 2 = k * 2 + 1 + 1 from by omega,show k * 2 + 1 + 1 + 1 = (k * 2 + 1) + 1 + 1 from rfl,List.getElem?_cons_succ,List.getElem_cons_succ] at this ⊢
      exact this
set_option maxRecDepth 100000 in
set_option maxHeartbeats 4000000 in
theorem word_any (l:List Int) (B g:Nat) (s:Int) (w:World) (hC:CodeAt w B g l) (hs:I64 s) (v:(Int × Int) × Int) (hv:wordV l s = v) :
    Calls Tryz.prog 92 #[.pointer (some ⟨g,0,none⟩),.int .i64 s] w fun e w'=>e = .returned (.tuple #[.agg #[.int .i64 v.1.1,.int .i64 v.1.2],.int .i64 v.2])∧Below w.heap.size w w':=by
  obtain ⟨gW,gS,h1,h2,h3,b1,b2,b3⟩:=hC
  have hgC:=b1.lt
  have hgW:=b2.lt
  have bR:=Blk.new w 165 #[.int .i64 0,.int .i64 0]
  have HB:Below w.heap.size w (w.alloc (.cells #[.int .i64 0,.int .i64 0] 165)):=(Below.refl _ w).alloc (Nat.le_refl _) _
  replace b1:=b1.alloc (.cells #[.int .i64 0,.int .i64 0] 165)
  replace b2:=b2.alloc (.cells #[.int .i64 0,.int .i64 0] 165)
  have k0:=b1.cell_ 0 (v:=.slice (some ⟨gW,0,none⟩) l.length l.length) rfl
  have k50:=b1.cell_ 50 (code_m (tab_len _) (tab_len _) (tab_len _))
  have hwl:(wordsF l).length = l.length:=by simp [wordsF]
  clear b1 b3
  by_cases h0:s < 0
  · have:v = ((0,0),70):=by rw [← hv];unfold wordV;rw [if_neg (by omega)]
    subst this
    go_enter Tryz.func92,Tryz.ntmps92
    go_wp2_with fail
    refine bodyPost_ret (results_row2 rfl _ _ w.heap.size 165 #[.int .i64 0,.int .i64 0] (0,0) _ rfl bR Tryz.underlying165 rfl (by kernel_rfl)) rfl ?_
    exact ⟨rfl,HB⟩
  · obtain ⟨k,rfl⟩:=Int.eq_ofNat_of_zero_le (show 0≤s by omega)
    by_cases hk:k < l.length
    · obtain ⟨c0,c1⟩:=fcells_at (wordsF l) k (by omega)
      have d0:=b2.cell_ _ c0
      have d1:=b2.cell_ _ c1
      have hwk:(wordsF l)[k]'(by omega) = wordF l k:=by simp [wordsF]
      rw [hwk] at d0 d1
      have hkI:(k:Int) < (l.length:Int):=by omega
      have hk0:(0:Int)≤(k:Int):=by omega
      obtain ⟨⟨x,y⟩,hxy⟩:∃ z,wordF l k = z:=⟨_,rfl⟩
      rw [hxy] at d0 d1
      dsimp only at d0 d1
      by_cases hy:y = 0
      · have:v = ((0,0),70):=by rw [← hv];unfold wordV;rw [Int.toNat_natCast,hxy,if_neg (by simp [hy])]
        subst this
        subst hy
        clear hv hxy hwk b2
        go_enter Tryz.func92,Tryz.ntmps92
        go_wp2_with fail
        refine bodyPost_ret (results_row2 rfl _ _ w.heap.size 165 #[.int .i64 0,.int .i64 0] (0,0) _ rfl bR Tryz.underlying165 rfl (by kernel_rfl)) rfl ?_
        exact ⟨rfl,HB⟩
      · have:v = ((x,y),0):=by rw [← hv];unfold wordV;rw [Int.toNat_natCast,hxy,if_pos ⟨by omega,by omega,hy⟩]
        subst this
        have hyI:(y == 0) = false:=by simp [hy]
        have hyd:decide (y = 0) = false:=by simp [hy]
        have bR':=bR
        obtain ⟨r0,r1,f0,f1,_⟩:=blk2 bR'
        clear hv hxy hwk b2 bR'
        go_enter Tryz.func92,Tryz.ntmps92
        go_wp2_with fail
        refine bodyPost_ret (results_row2 rfl _ _ w.heap.size 165 #[.int .i64 x,.int .i64 y] (0,0) _ rfl (Blk.new _ _ _) Tryz.underlying165 rfl (by kernel_rfl)) rfl ?_
        exact ⟨rfl,(Below.refl _ w).alloc (Nat.le_refl _) _⟩
    · have:v = ((0,0),70):=by rw [← hv];unfold wordV;rw [if_neg (by omega)]
      subst this
      have hkI:¬ (k:Int) < (l.length:Int):=by omega
      go_enter Tryz.func92,Tryz.ntmps92
      go_wp2_with fail
      refine bodyPost_ret (results_row2 rfl _ _ w.heap.size 165 #[.int .i64 0,.int .i64 0] (0,0) _ rfl bR Tryz.underlying165 rfl (by kernel_rfl)) rfl ?_
      exact ⟨rfl,HB⟩
end LenW
end Go.Proofs.YtnpncpoiiikafaaGreatDoor
