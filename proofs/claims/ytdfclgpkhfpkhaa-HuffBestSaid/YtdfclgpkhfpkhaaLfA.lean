/- The walks of the reference of package lens: a thing is put into a row. The walks of the reference of package lens: a thing is put into a row. The walks of the reference of package lens: rows of things that carry their symbols; the first row. -/
import Derived.Test.YtdfclgpkhfpkhaaLenY
namespace Go.Proofs.Ytdfclgpkhfpkhaa
set_option linter.unusedVariables false
set_option linter.unusedSimpArgs false
set_option linter.unnecessarySimpa false
open Go.RowKit
namespace LenW

/-- A thing that carries its symbols, and where they lie. -/
structure TT where
  w : Int
  A : Option Addr
  n : Nat
  c : Nat
  l : Bool
  s : List Int
def TT.val (t : TT) : Value := .agg #[.int .i64 t.w, .slice t.A t.n t.c, .bool t.l]
def tcells (ts : List TT) : List Value := ts.flatMap fun t => [.int .i64 t.w, .slice t.A t.n t.c, .bool t.l]
theorem tcells_cons (t : TT) (ts : List TT) : tcells (t :: ts) = .int .i64 t.w :: .slice t.A t.n t.c :: .bool t.l :: tcells ts := rfl
theorem tcells_app (a b : List TT) : tcells (a ++ b) = tcells a ++ tcells b := by simp [tcells]
theorem tcells_len (ts : List TT) : (tcells ts).length = ts.length * 3 := by
  induction ts with
  | nil => rfl
  | cons t ts ih => rw [tcells_cons]; simp only [List.length_cons, ih]; omega
theorem tcells_get (ts : List TT) (k : Nat) (h : k < ts.length) : (tcells ts)[k * 3]? = some (.int .i64 ts[k].w) ∧ (tcells ts)[k * 3 + 1]? = some (.slice ts[k].A ts[k].n ts[k].c) ∧ (tcells ts)[k * 3 + 2]? = some (.bool ts[k].l) := by
  induction ts generalizing k with
  | nil => simp at h
  | cons t ts ih =>
    cases k with
    | zero => simp [tcells_cons]
    | succ k =>
      simp only [List.length_cons] at h
      obtain ⟨h1, h2, h3⟩ := ih k (by omega)
      rw [tcells_cons, show (k + 1) * 3 = k * 3 + 1 + 1 + 1 by omega]
      exact ⟨h1, h2, h3⟩
theorem tcells_one (ts : List TT) : ∀ u ∈ tcells ts, u.oneCell' = true := by
  intro u hu
  obtain ⟨r, _, hr⟩ := List.mem_flatMap.1 hu
  simp at hr
  rcases hr with rfl | rfl | rfl <;> rfl
theorem tcells_take (ts : List TT) (k : Nat) : (tcells ts).take (k * 3) = tcells (ts.take k) := by
  induction ts generalizing k with
  | nil => simp [tcells]
  | cons t ts ih =>
    cases k with
    | zero => simp [tcells]
    | succ k => rw [tcells_cons, show (k + 1) * 3 = k * 3 + 1 + 1 + 1 by omega, List.take_succ_cons, List.take_succ_cons, List.take_succ_cons, ih, List.take_succ_cons, tcells_cons]
theorem tcells_drop (ts : List TT) (k : Nat) : (tcells ts).drop (k * 3) = tcells (ts.drop k) := by
  induction ts generalizing k with
  | nil => simp [tcells]
  | cons t ts ih =>
    cases k with
    | zero => simp [tcells]
    | succ k => rw [tcells_cons, show (k + 1) * 3 = k * 3 + 1 + 1 + 1 by omega, List.drop_succ_cons, List.drop_succ_cons, List.drop_succ_cons, ih, List.drop_succ_cons]
theorem rd_tlen {w : World} {B : Nat} {A : Option Addr} {n : Nat} {ts : List TT} (h : Rd w B 3 A n (tcells ts)) : ts.length = n := by have := h.len; rw [tcells_len] at this; omega
theorem rd_tcells {w : World} {B : Nat} {A : Option Addr} {n : Nat} {ts : List TT} (h : Rd w B 3 A n (tcells ts)) (hn : 0 < n) :
    ∃ b o, A = some ⟨b, o, none⟩ ∧ b < B ∧ ∀ k (hk : k < ts.length), w.cell? ⟨b, o + k * 3, none⟩ = some (.int .i64 ts[k].w) ∧ w.cell? ⟨b, o + k * 3 + 1, none⟩ = some (.slice ts[k].A ts[k].n ts[k].c) ∧ w.cell? ⟨b, o + k * 3 + 2, none⟩ = some (.bool ts[k].l) := by
  obtain ⟨b, o, rfl, hb, hc⟩ := h.at_ hn
  refine ⟨b, o, rfl, hb, fun k hk => ?_⟩
  obtain ⟨h1, h2, h3⟩ := tcells_get ts k hk
  have hl := tcells_len ts
  have g : ∀ j v, (tcells ts)[j]? = some v → w.cell? ⟨b, o + j, none⟩ = some v := fun j v hj => by
    obtain ⟨q1, q2⟩ := List.getElem?_eq_some_iff.1 hj
    rw [hc j q1, q2]
  exact ⟨g _ _ h1, g _ _ h2, g _ _ h3⟩
/-- It stays ahead. -/
def goesT (y x : TT) : Bool := decide (y.w < x.w) || (decide (y.w = x.w) && (y.l || !x.l))
def putT (x : TT) : List TT → List TT
  | [] => [x]
  | y :: r => if goesT y x then y :: putT x r else x :: y :: r
theorem putT_len (x : TT) (l : List TT) : (putT x l).length = l.length + 1 := by
  induction l with
  | nil => rfl
  | cons y r ih => unfold putT; split <;> simp [ih]
theorem putT_split (x : TT) (l : List TT) : ∀ k, (∀ i (h : i < l.length), i < k → goesT l[i] x = true) → k ≤ l.length → (∀ h : k < l.length, goesT l[k] x = false) → putT x l = l.take k ++ x :: l.drop k := by
  induction l with
  | nil => intro k _ hk _; obtain rfl : k = 0 := by simpa using hk
           rfl
  | cons y r ih =>
    intro k h1 hk h2
    cases k with
    | zero =>
      have := h2 (by simp)
      simp only [List.getElem_cons_zero] at this
      unfold putT
      rw [this]
      rfl
    | succ k =>
      have := h1 0 (by simp) (by omega)
      simp only [List.getElem_cons_zero] at this
      unfold putT
      rw [if_pos this, ih k (fun i h hi => by have := h1 (i + 1) (by simp; omega) (by omega); simpa using this) (by simpa using hk) (fun h => by have := h2 (by simp; omega); simpa using this)]
      rfl
theorem El_t : El Try.prog 108 111 3 40 := El.mk' Try.underlying108 (z := .agg #[.int .i64 0, .slice none 0 0, .bool false]) (by kernel_rfl) rfl (by decide)
end LenW
end Go.Proofs.Ytdfclgpkhfpkhaa

namespace Go.Proofs.Ytdfclgpkhfpkhaa
set_option linter.unusedVariables false
set_option linter.unusedSimpArgs false
set_option linter.unnecessarySimpa false
open Go.RowKit
namespace LenW

set_option maxRecDepth 100000 in
set_option maxHeartbeats 16000000 in
theorem put_any (A : Option Addr) (n c : Nat) (ts : List TT) (x : TT) (w : World) (h : Rd w w.heap.size 3 A n (tcells ts)) (hn : n ≤ 1000) (hc : n ≤ c) :
    Calls Try.prog 76 #[.slice A n c, x.val] w fun e w' => ∃ A2 c2, e = .returned (.slice A2 (n + 1) c2) ∧ Own w' w.heap.size 111 3 A2 (n + 1) c2 (tcells (putT x ts)) ∧ Below w.heap.size w w' := by
  have HL := Lib.hid (rd_tlen h)
  obtain ⟨xw, xA, xn, xc, xl, xs⟩ := x
  unfold TT.val
  dsimp only
  go_enter Try.func76, Try.ntmps76
  have g0i := Blk.new w 111 #[.int .i64 xw, .slice xA xn xc, .bool xl]
  have HBi := (Below.refl w.heap.size w).alloc (Nat.le_refl _) (.cells #[.int .i64 xw, .slice xA xn xc, .bool xl] 111)
  go_wp2_with fail
  go_loopw [5] (fun s wr => ∃ i : Nat, s = .int .i64 i ∧ i ≤ n ∧ (∀ i' (h : i' < ts.length), i' < i → goesT ts[i'] ⟨xw, xA, xn, xc, xl, xs⟩ = true) ∧ Blk wr w.heap.size 111 #[.int .i64 xw, .slice xA xn xc, .bool xl] ∧ Below w.heap.size w wr) (fun s _ => n - (intOf s).toNat)
  case atStart => exact ⟨0, rfl, by omega, fun i' _ h => absurd h (by omega), g0i, HBi⟩
  case round =>
    clear g0i HBi
    obtain ⟨i, rfl, hi, hy, g0, HB⟩ := hrel
    have HY := Lib.hid hy
    have hz := HB.size
    have hgl := g0.lt
    clear hy
    have hi0 : (0 : Int) ≤ (i : Int) := by omega
    by_cases hlt : i < n
    · have hltI : (i : Int) < (n : Int) := by omega
      have hil : i < ts.length := by have := HL.out; omega
      have hadd : IntKind.i64.wrap ((i : Int) + 1) = (i : Int) + 1 := w64k (by omega) (by omega)
      obtain ⟨b, o, rfl, hbb, hcc⟩ := rd_tcells h (by omega)
      obtain ⟨d0, -, d2⟩ := hcc i hil
      have HG0 := Lib.hid (show (∀ (v : Bool), goesT ts[i] ⟨xw, xA, xn, xc, xl, xs⟩ = v → v = true → ∀ i' (h : i' < ts.length), i' < i + 1 → goesT ts[i'] ⟨xw, xA, xn, xc, xl, xs⟩ = true) from fun v hv hv1 i' h' hi' => by
        by_cases e : i' = i
        · subst e; rw [hv, hv1]
        · exact HY.out i' h' (by omega))
      obtain ⟨y, hy⟩ : ∃ y, ts[i] = y := ⟨_, rfl⟩
      have HTI := Lib.hid hy
      rw [hy] at d0 d2 HG0
      obtain ⟨yw, yA, yn, yc, yl, ys⟩ := y
      dsimp only at d0 d2
      have C0 := Lib.hid (And.intro d0 d2)
      clear hcc hy d0 d2
      by_cases q1 : yw < xw
      · have HGO := Lib.hid (HG0.out true (by simp [goesT, q1]) rfl)
        go_wp2_with fail
        refine wp_region_held_drew (S := (fun w' => w'.cell? ⟨b, o + i * 3, none⟩ = some (.int .i64 yw) ∧ w'.cell? ⟨b, o + i * 3 + 2, none⟩ = some (.bool yl) ∧ w'.cell? ⟨w.heap.size, 0, none⟩ = some (.int .i64 xw) ∧ w'.cell? ⟨w.heap.size, 2, none⟩ = some (.bool xl))) (by kernel_rfl) ?_ (fun hHeld => ?_)
        · replace HB := Below.drew HB; replace g0 := Blk.drew g0; (try dsimp only); exact ⟨(HB.cell hbb).trans C0.out.1, (HB.cell hbb).trans C0.out.2, g0.cell_ 0 rfl, g0.cell_ 2 rfl⟩
        replace HB := Below.drew HB
        replace g0 := Blk.drew g0
        have zHB := HB.size
        refine take_movev (v := ?vu1x0) 0 (Operand.tmp 5) rfl rfl (by first | exact .inl rfl | exact .inr rfl) rfl (by kernel_rfl) (by kernel_rfl) (by kernel_rfl) (fun _ _ _ h => h) (by assumption) ?yu1x0 ?ru1x0
        case yu1x0 => (go_simp; try (with_reducible rfl))
        simp only [List.setIfInBounds_toArray, List.set_cons_zero, List.set_cons_succ]
        refine take_movev (v := ?vu1x1) 1 (Operand.tmp 0) rfl rfl (by first | exact .inl rfl | exact .inr rfl) rfl (by kernel_rfl) (by kernel_rfl) (by kernel_rfl) (fun _ _ _ h => h) (by assumption) ?yu1x1 ?ru1x1
        case yu1x1 => (go_simp; try (with_reducible rfl))
        simp only [List.setIfInBounds_toArray, List.set_cons_zero, List.set_cons_succ]
        refine take_op (v := ?vu1x2) 2 (Op.call { callee := Callee.builtin Builtin.len, args := #[Operand.tmp 7], argTypes := #[108] }) 3 rfl rfl rfl rfl rfl (by kernel_rfl) (by kernel_rfl) (by kernel_rfl) (fun _ _ _ h => h) ?yu1x2 (by assumption) ?ru1x2
        case yu1x2 => (intro w' hSw; (try dsimp only at hSw); go_simp; try (with_reducible rfl))
        simp only [List.setIfInBounds_toArray, List.set_cons_zero, List.set_cons_succ]
        refine take_op (v := ?vu1x3) 3 (Op.binOp BinOp.lss 3 (Operand.tmp 6) (Operand.tmp 8) 3) 4 rfl rfl rfl rfl rfl (by kernel_rfl) (by kernel_rfl) (by kernel_rfl) (fun _ _ _ h => h) ?yu1x3 (by assumption) ?ru1x3
        case yu1x3 => (intro w' hSw; (try dsimp only at hSw); go_simp; try (with_reducible rfl))
        simp only [List.setIfInBounds_toArray, List.set_cons_zero, List.set_cons_succ]
        refine take_movev (v := ?vu1x4) 4 (Operand.tmp 9) rfl rfl (by first | exact .inl rfl | exact .inr rfl) rfl (by kernel_rfl) (by kernel_rfl) (by kernel_rfl) (fun _ _ _ h => h) (by assumption) ?yu1x4 ?ru1x4
        case yu1x4 => (go_simp; try (with_reducible rfl))
        simp only [List.setIfInBounds_toArray, List.set_cons_zero, List.set_cons_succ]
        refine take_movev (v := ?vu1x5) 5 (Operand.tmp 0) rfl rfl (by first | exact .inl rfl | exact .inr rfl) rfl (by kernel_rfl) (by kernel_rfl) (by kernel_rfl) (fun _ _ _ h => h) (by assumption) ?yu1x5 ?ru1x5
        case yu1x5 => (go_simp; try (with_reducible rfl))
        simp only [List.setIfInBounds_toArray, List.set_cons_zero, List.set_cons_succ]
        refine take_movev (v := ?vu1x6) 6 (Operand.tmp 5) rfl rfl (by first | exact .inl rfl | exact .inr rfl) rfl (by kernel_rfl) (by kernel_rfl) (by kernel_rfl) (fun _ _ _ h => h) (by assumption) ?yu1x6 ?ru1x6
        case yu1x6 => (go_simp; try (with_reducible rfl))
        simp only [List.setIfInBounds_toArray, List.set_cons_zero, List.set_cons_succ]
        refine take_op (v := ?vu1x7) 7 (Op.indexAddr 108 (Operand.tmp 11) (Operand.tmp 12)) 0 rfl rfl rfl rfl rfl (by kernel_rfl) (by kernel_rfl) (by kernel_rfl) (fun _ _ _ h => h) ?yu1x7 (by assumption) ?ru1x7
        case yu1x7 => (intro w' hSw; (try dsimp only at hSw); go_simp; try (with_reducible rfl))
        simp only [List.setIfInBounds_toArray, List.set_cons_zero, List.set_cons_succ]
        refine take_op (v := ?vu1x8) 8 (Op.fieldAddr 111 (Operand.tmp 13) 0) 0 rfl rfl rfl rfl rfl (by kernel_rfl) (by kernel_rfl) (by kernel_rfl) (fun _ _ _ h => h) ?yu1x8 (by assumption) ?ru1x8
        case yu1x8 => (intro w' hSw; (try dsimp only at hSw); go_simp; try (with_reducible rfl))
        simp only [List.setIfInBounds_toArray, List.set_cons_zero, List.set_cons_succ]
        refine take_op (v := ?vu1x9) 9 (Op.load 3 (Operand.tmp 14)) 3 rfl rfl rfl rfl rfl (by kernel_rfl) (by kernel_rfl) (by kernel_rfl) (fun _ _ _ h => h) ?yu1x9 (by assumption) ?ru1x9
        case yu1x9 => (intro w' hSw; (try dsimp only at hSw); go_simp; try (with_reducible rfl))
        simp only [List.setIfInBounds_toArray, List.set_cons_zero, List.set_cons_succ]
        refine take_op (v := ?vu1x10) 10 (Op.fieldAddr 111 (Operand.tmp 3) 0) 0 rfl rfl rfl rfl rfl (by kernel_rfl) (by kernel_rfl) (by kernel_rfl) (fun _ _ _ h => h) ?yu1x10 (by assumption) ?ru1x10
        case yu1x10 => (intro w' hSw; (try dsimp only at hSw); go_simp; try (with_reducible rfl))
        simp only [List.setIfInBounds_toArray, List.set_cons_zero, List.set_cons_succ]
        refine take_op (v := ?vu1x11) 11 (Op.load 3 (Operand.tmp 16)) 3 rfl rfl rfl rfl rfl (by kernel_rfl) (by kernel_rfl) (by kernel_rfl) (fun _ _ _ h => h) ?yu1x11 (by assumption) ?ru1x11
        case yu1x11 => (intro w' hSw; (try dsimp only at hSw); go_simp; try (with_reducible rfl))
        simp only [List.setIfInBounds_toArray, List.set_cons_zero, List.set_cons_succ]
        refine take_op (v := ?vu1x12) 12 (Op.binOp BinOp.lss 3 (Operand.tmp 15) (Operand.tmp 17) 3) 4 rfl rfl rfl rfl rfl (by kernel_rfl) (by kernel_rfl) (by kernel_rfl) (fun _ _ _ h => h) ?yu1x12 (by assumption) ?ru1x12
        case yu1x12 => (intro w' hSw; (try dsimp only at hSw); go_simp; try (with_reducible rfl))
        simp only [List.setIfInBounds_toArray, List.set_cons_zero, List.set_cons_succ]
        refine take_movev (v := ?vu1x13) 13 (Operand.tmp 18) rfl rfl (by first | exact .inl rfl | exact .inr rfl) rfl (by kernel_rfl) (by kernel_rfl) (by kernel_rfl) (fun _ _ _ h => h) (by assumption) ?yu1x13 ?ru1x13
        case yu1x13 => (go_simp; try (with_reducible rfl))
        simp only [List.setIfInBounds_toArray, List.set_cons_zero, List.set_cons_succ]
        refine take_skip 14 rfl rfl rfl (by kernel_rfl) (by kernel_rfl) (by kernel_rfl) (fun _ _ _ h => h) (by assumption) ?_
        simp only [List.setIfInBounds_toArray, List.set_cons_zero, List.set_cons_succ]
        refine take_skip 15 rfl rfl rfl (by kernel_rfl) (by kernel_rfl) (by kernel_rfl) (fun _ _ _ h => h) (by assumption) ?_
        simp only [List.setIfInBounds_toArray, List.set_cons_zero, List.set_cons_succ]
        refine take_skip 16 rfl rfl rfl (by kernel_rfl) (by kernel_rfl) (by kernel_rfl) (fun _ _ _ h => h) (by assumption) ?_
        simp only [List.setIfInBounds_toArray, List.set_cons_zero, List.set_cons_succ]
        refine take_skip 17 rfl rfl rfl (by kernel_rfl) (by kernel_rfl) (by kernel_rfl) (fun _ _ _ h => h) (by assumption) ?_
        simp only [List.setIfInBounds_toArray, List.set_cons_zero, List.set_cons_succ]
        refine take_skip 18 rfl rfl rfl (by kernel_rfl) (by kernel_rfl) (by kernel_rfl) (fun _ _ _ h => h) (by assumption) ?_
        simp only [List.setIfInBounds_toArray, List.set_cons_zero, List.set_cons_succ]
        refine take_skip 19 rfl rfl rfl (by kernel_rfl) (by kernel_rfl) (by kernel_rfl) (fun _ _ _ h => h) (by assumption) ?_
        simp only [List.setIfInBounds_toArray, List.set_cons_zero, List.set_cons_succ]
        refine take_skip 20 rfl rfl rfl (by kernel_rfl) (by kernel_rfl) (by kernel_rfl) (fun _ _ _ h => h) (by assumption) ?_
        simp only [List.setIfInBounds_toArray, List.set_cons_zero, List.set_cons_succ]
        refine take_skip 21 rfl rfl rfl (by kernel_rfl) (by kernel_rfl) (by kernel_rfl) (fun _ _ _ h => h) (by assumption) ?_
        simp only [List.setIfInBounds_toArray, List.set_cons_zero, List.set_cons_succ]
        refine take_skip 22 rfl rfl rfl (by kernel_rfl) (by kernel_rfl) (by kernel_rfl) (fun _ _ _ h => h) (by assumption) ?_
        simp only [List.setIfInBounds_toArray, List.set_cons_zero, List.set_cons_succ]
        refine take_skip 23 rfl rfl rfl (by kernel_rfl) (by kernel_rfl) (by kernel_rfl) (fun _ _ _ h => h) (by assumption) ?_
        simp only [List.setIfInBounds_toArray, List.set_cons_zero, List.set_cons_succ]
        refine take_skip 24 rfl rfl rfl (by kernel_rfl) (by kernel_rfl) (by kernel_rfl) (fun _ _ _ h => h) (by assumption) ?_
        simp only [List.setIfInBounds_toArray, List.set_cons_zero, List.set_cons_succ]
        refine take_skip 25 rfl rfl rfl (by kernel_rfl) (by kernel_rfl) (by kernel_rfl) (fun _ _ _ h => h) (by assumption) ?_
        simp only [List.setIfInBounds_toArray, List.set_cons_zero, List.set_cons_succ]
        refine take_skip 26 rfl rfl rfl (by kernel_rfl) (by kernel_rfl) (by kernel_rfl) (fun _ _ _ h => h) (by assumption) ?_
        simp only [List.setIfInBounds_toArray, List.set_cons_zero, List.set_cons_succ]
        refine take_skip 27 rfl rfl rfl (by kernel_rfl) (by kernel_rfl) (by kernel_rfl) (fun _ _ _ h => h) (by assumption) ?_
        simp only [List.setIfInBounds_toArray, List.set_cons_zero, List.set_cons_succ]
        refine take_skip 28 rfl rfl rfl (by kernel_rfl) (by kernel_rfl) (by kernel_rfl) (fun _ _ _ h => h) (by assumption) ?_
        simp only [List.setIfInBounds_toArray, List.set_cons_zero, List.set_cons_succ]
        refine take_skip 29 rfl rfl rfl (by kernel_rfl) (by kernel_rfl) (by kernel_rfl) (fun _ _ _ h => h) (by assumption) ?_
        simp only [List.setIfInBounds_toArray, List.set_cons_zero, List.set_cons_succ]
        refine take_skip 30 rfl rfl rfl (by kernel_rfl) (by kernel_rfl) (by kernel_rfl) (fun _ _ _ h => h) (by assumption) ?_
        simp only [List.setIfInBounds_toArray, List.set_cons_zero, List.set_cons_succ]
        refine take_skip 31 rfl rfl rfl (by kernel_rfl) (by kernel_rfl) (by kernel_rfl) (fun _ _ _ h => h) (by assumption) ?_
        simp only [List.setIfInBounds_toArray, List.set_cons_zero, List.set_cons_succ]
        refine take_skip 32 rfl rfl rfl (by kernel_rfl) (by kernel_rfl) (by kernel_rfl) (fun _ _ _ h => h) (by assumption) ?_
        simp only [List.setIfInBounds_toArray, List.set_cons_zero, List.set_cons_succ]
        refine take_skip 33 rfl rfl rfl (by kernel_rfl) (by kernel_rfl) (by kernel_rfl) (fun _ _ _ h => h) (by assumption) ?_
        simp only [List.setIfInBounds_toArray, List.set_cons_zero, List.set_cons_succ]
        refine take_op (v := ?vu1x34) 34 (Op.pick (Operand.tmp 19) (Operand.const (Value.bool true)) (Operand.tmp 39)) 4 rfl rfl rfl rfl rfl (by kernel_rfl) (by kernel_rfl) (by kernel_rfl) (fun _ _ _ h => h) ?yu1x34 (by assumption) ?ru1x34
        case yu1x34 => (intro w' hSw; (try dsimp only at hSw); go_simp; try (with_reducible rfl))
        simp only [List.setIfInBounds_toArray, List.set_cons_zero, List.set_cons_succ]
        refine take_op (v := ?vu1x35) 35 (Op.pick (Operand.tmp 10) (Operand.tmp 40) (Operand.const (Value.bool false))) 4 rfl rfl rfl rfl rfl (by kernel_rfl) (by kernel_rfl) (by kernel_rfl) (fun _ _ _ h => h) ?yu1x35 (by assumption) ?ru1x35
        case yu1x35 => (intro w' hSw; (try dsimp only at hSw); go_simp; try (with_reducible rfl))
        simp only [List.setIfInBounds_toArray, List.set_cons_zero, List.set_cons_succ]
        refine wpAnyH_done (by kernel_rfl) ?_ _
        clear hHeld
        go_wp2_with fail
        go_roundw
        case rel => exact ⟨i + 1, by go_num, by omega, HGO.out, g0, HB⟩
        case measure => simp [intOf]; omega
      · by_cases q2 : yw = xw
        · have q2b : (yw == xw) = true := by simp [q2]
          have q2' : ¬ xw < xw := by omega
          subst q2
          cases yl with
          | true =>
            have HGO := Lib.hid (HG0.out true (by simp [goesT]) rfl)
            go_wp2_with fail
            refine wp_region_held_drew (S := (fun w' => w'.cell? ⟨b, o + i * 3, none⟩ = some (.int .i64 yw) ∧ w'.cell? ⟨b, o + i * 3 + 2, none⟩ = some (.bool true) ∧ w'.cell? ⟨w.heap.size, 0, none⟩ = some (.int .i64 yw) ∧ w'.cell? ⟨w.heap.size, 2, none⟩ = some (.bool xl))) (by kernel_rfl) ?_ (fun hHeld => ?_)
            · replace HB := Below.drew HB; replace g0 := Blk.drew g0; (try dsimp only); exact ⟨(HB.cell hbb).trans C0.out.1, (HB.cell hbb).trans C0.out.2, g0.cell_ 0 rfl, g0.cell_ 2 rfl⟩
            replace HB := Below.drew HB
            replace g0 := Blk.drew g0
            have zHB := HB.size
            refine take_movev (v := ?vu2x0) 0 (Operand.tmp 5) rfl rfl (by first | exact .inl rfl | exact .inr rfl) rfl (by kernel_rfl) (by kernel_rfl) (by kernel_rfl) (fun _ _ _ h => h) (by assumption) ?yu2x0 ?ru2x0
            case yu2x0 => (go_simp; try (with_reducible rfl))
            simp only [List.setIfInBounds_toArray, List.set_cons_zero, List.set_cons_succ]
            refine take_movev (v := ?vu2x1) 1 (Operand.tmp 0) rfl rfl (by first | exact .inl rfl | exact .inr rfl) rfl (by kernel_rfl) (by kernel_rfl) (by kernel_rfl) (fun _ _ _ h => h) (by assumption) ?yu2x1 ?ru2x1
            case yu2x1 => (go_simp; try (with_reducible rfl))
            simp only [List.setIfInBounds_toArray, List.set_cons_zero, List.set_cons_succ]
            refine take_op (v := ?vu2x2) 2 (Op.call { callee := Callee.builtin Builtin.len, args := #[Operand.tmp 7], argTypes := #[108] }) 3 rfl rfl rfl rfl rfl (by kernel_rfl) (by kernel_rfl) (by kernel_rfl) (fun _ _ _ h => h) ?yu2x2 (by assumption) ?ru2x2
            case yu2x2 => (intro w' hSw; (try dsimp only at hSw); go_simp; try (with_reducible rfl))
            simp only [List.setIfInBounds_toArray, List.set_cons_zero, List.set_cons_succ]
            refine take_op (v := ?vu2x3) 3 (Op.binOp BinOp.lss 3 (Operand.tmp 6) (Operand.tmp 8) 3) 4 rfl rfl rfl rfl rfl (by kernel_rfl) (by kernel_rfl) (by kernel_rfl) (fun _ _ _ h => h) ?yu2x3 (by assumption) ?ru2x3
            case yu2x3 => (intro w' hSw; (try dsimp only at hSw); go_simp; try (with_reducible rfl))
            simp only [List.setIfInBounds_toArray, List.set_cons_zero, List.set_cons_succ]
            refine take_movev (v := ?vu2x4) 4 (Operand.tmp 9) rfl rfl (by first | exact .inl rfl | exact .inr rfl) rfl (by kernel_rfl) (by kernel_rfl) (by kernel_rfl) (fun _ _ _ h => h) (by assumption) ?yu2x4 ?ru2x4
            case yu2x4 => (go_simp; try (with_reducible rfl))
            simp only [List.setIfInBounds_toArray, List.set_cons_zero, List.set_cons_succ]
            refine take_movev (v := ?vu2x5) 5 (Operand.tmp 0) rfl rfl (by first | exact .inl rfl | exact .inr rfl) rfl (by kernel_rfl) (by kernel_rfl) (by kernel_rfl) (fun _ _ _ h => h) (by assumption) ?yu2x5 ?ru2x5
            case yu2x5 => (go_simp; try (with_reducible rfl))
            simp only [List.setIfInBounds_toArray, List.set_cons_zero, List.set_cons_succ]
            refine take_movev (v := ?vu2x6) 6 (Operand.tmp 5) rfl rfl (by first | exact .inl rfl | exact .inr rfl) rfl (by kernel_rfl) (by kernel_rfl) (by kernel_rfl) (fun _ _ _ h => h) (by assumption) ?yu2x6 ?ru2x6
            case yu2x6 => (go_simp; try (with_reducible rfl))
            simp only [List.setIfInBounds_toArray, List.set_cons_zero, List.set_cons_succ]
            refine take_op (v := ?vu2x7) 7 (Op.indexAddr 108 (Operand.tmp 11) (Operand.tmp 12)) 0 rfl rfl rfl rfl rfl (by kernel_rfl) (by kernel_rfl) (by kernel_rfl) (fun _ _ _ h => h) ?yu2x7 (by assumption) ?ru2x7
            case yu2x7 => (intro w' hSw; (try dsimp only at hSw); go_simp; try (with_reducible rfl))
            simp only [List.setIfInBounds_toArray, List.set_cons_zero, List.set_cons_succ]
            refine take_op (v := ?vu2x8) 8 (Op.fieldAddr 111 (Operand.tmp 13) 0) 0 rfl rfl rfl rfl rfl (by kernel_rfl) (by kernel_rfl) (by kernel_rfl) (fun _ _ _ h => h) ?yu2x8 (by assumption) ?ru2x8
            case yu2x8 => (intro w' hSw; (try dsimp only at hSw); go_simp; try (with_reducible rfl))
            simp only [List.setIfInBounds_toArray, List.set_cons_zero, List.set_cons_succ]
            refine take_op (v := ?vu2x9) 9 (Op.load 3 (Operand.tmp 14)) 3 rfl rfl rfl rfl rfl (by kernel_rfl) (by kernel_rfl) (by kernel_rfl) (fun _ _ _ h => h) ?yu2x9 (by assumption) ?ru2x9
            case yu2x9 => (intro w' hSw; (try dsimp only at hSw); go_simp; try (with_reducible rfl))
            simp only [List.setIfInBounds_toArray, List.set_cons_zero, List.set_cons_succ]
            refine take_op (v := ?vu2x10) 10 (Op.fieldAddr 111 (Operand.tmp 3) 0) 0 rfl rfl rfl rfl rfl (by kernel_rfl) (by kernel_rfl) (by kernel_rfl) (fun _ _ _ h => h) ?yu2x10 (by assumption) ?ru2x10
            case yu2x10 => (intro w' hSw; (try dsimp only at hSw); go_simp; try (with_reducible rfl))
            simp only [List.setIfInBounds_toArray, List.set_cons_zero, List.set_cons_succ]
            refine take_op (v := ?vu2x11) 11 (Op.load 3 (Operand.tmp 16)) 3 rfl rfl rfl rfl rfl (by kernel_rfl) (by kernel_rfl) (by kernel_rfl) (fun _ _ _ h => h) ?yu2x11 (by assumption) ?ru2x11
            case yu2x11 => (intro w' hSw; (try dsimp only at hSw); go_simp; try (with_reducible rfl))
            simp only [List.setIfInBounds_toArray, List.set_cons_zero, List.set_cons_succ]
            refine take_op (v := ?vu2x12) 12 (Op.binOp BinOp.lss 3 (Operand.tmp 15) (Operand.tmp 17) 3) 4 rfl rfl rfl rfl rfl (by kernel_rfl) (by kernel_rfl) (by kernel_rfl) (fun _ _ _ h => h) ?yu2x12 (by assumption) ?ru2x12
            case yu2x12 => (intro w' hSw; (try dsimp only at hSw); go_simp; try (with_reducible rfl))
            simp only [List.setIfInBounds_toArray, List.set_cons_zero, List.set_cons_succ]
            refine take_movev (v := ?vu2x13) 13 (Operand.tmp 18) rfl rfl (by first | exact .inl rfl | exact .inr rfl) rfl (by kernel_rfl) (by kernel_rfl) (by kernel_rfl) (fun _ _ _ h => h) (by assumption) ?yu2x13 ?ru2x13
            case yu2x13 => (go_simp; try (with_reducible rfl))
            simp only [List.setIfInBounds_toArray, List.set_cons_zero, List.set_cons_succ]
            refine take_movev (v := ?vu2x14) 14 (Operand.tmp 0) rfl rfl (by first | exact .inl rfl | exact .inr rfl) rfl (by kernel_rfl) (by kernel_rfl) (by kernel_rfl) (fun _ _ _ h => h) (by assumption) ?yu2x14 ?ru2x14
            case yu2x14 => (go_simp; try (with_reducible rfl))
            simp only [List.setIfInBounds_toArray, List.set_cons_zero, List.set_cons_succ]
            refine take_movev (v := ?vu2x15) 15 (Operand.tmp 5) rfl rfl (by first | exact .inl rfl | exact .inr rfl) rfl (by kernel_rfl) (by kernel_rfl) (by kernel_rfl) (fun _ _ _ h => h) (by assumption) ?yu2x15 ?ru2x15
            case yu2x15 => (go_simp; try (with_reducible rfl))
            simp only [List.setIfInBounds_toArray, List.set_cons_zero, List.set_cons_succ]
            refine take_op (v := ?vu2x16) 16 (Op.indexAddr 108 (Operand.tmp 20) (Operand.tmp 21)) 0 rfl rfl rfl rfl rfl (by kernel_rfl) (by kernel_rfl) (by kernel_rfl) (fun _ _ _ h => h) ?yu2x16 (by assumption) ?ru2x16
            case yu2x16 => (intro w' hSw; (try dsimp only at hSw); go_simp; try (with_reducible rfl))
            simp only [List.setIfInBounds_toArray, List.set_cons_zero, List.set_cons_succ]
            refine take_op (v := ?vu2x17) 17 (Op.fieldAddr 111 (Operand.tmp 22) 0) 0 rfl rfl rfl rfl rfl (by kernel_rfl) (by kernel_rfl) (by kernel_rfl) (fun _ _ _ h => h) ?yu2x17 (by assumption) ?ru2x17
            case yu2x17 => (intro w' hSw; (try dsimp only at hSw); go_simp; try (with_reducible rfl))
            simp only [List.setIfInBounds_toArray, List.set_cons_zero, List.set_cons_succ]
            refine take_op (v := ?vu2x18) 18 (Op.load 3 (Operand.tmp 23)) 3 rfl rfl rfl rfl rfl (by kernel_rfl) (by kernel_rfl) (by kernel_rfl) (fun _ _ _ h => h) ?yu2x18 (by assumption) ?ru2x18
            case yu2x18 => (intro w' hSw; (try dsimp only at hSw); go_simp; try (with_reducible rfl))
            simp only [List.setIfInBounds_toArray, List.set_cons_zero, List.set_cons_succ]
            refine take_op (v := ?vu2x19) 19 (Op.fieldAddr 111 (Operand.tmp 3) 0) 0 rfl rfl rfl rfl rfl (by kernel_rfl) (by kernel_rfl) (by kernel_rfl) (fun _ _ _ h => h) ?yu2x19 (by assumption) ?ru2x19
            case yu2x19 => (intro w' hSw; (try dsimp only at hSw); go_simp; try (with_reducible rfl))
            simp only [List.setIfInBounds_toArray, List.set_cons_zero, List.set_cons_succ]
            refine take_op (v := ?vu2x20) 20 (Op.load 3 (Operand.tmp 25)) 3 rfl rfl rfl rfl rfl (by kernel_rfl) (by kernel_rfl) (by kernel_rfl) (fun _ _ _ h => h) ?yu2x20 (by assumption) ?ru2x20
            case yu2x20 => (intro w' hSw; (try dsimp only at hSw); go_simp; try (with_reducible rfl))
            simp only [List.setIfInBounds_toArray, List.set_cons_zero, List.set_cons_succ]
            refine take_op (v := ?vu2x21) 21 (Op.binOp BinOp.eql 3 (Operand.tmp 24) (Operand.tmp 26) 3) 4 rfl rfl rfl rfl rfl (by kernel_rfl) (by kernel_rfl) (by kernel_rfl) (fun _ _ _ h => h) ?yu2x21 (by assumption) ?ru2x21
            case yu2x21 => (intro w' hSw; (try dsimp only at hSw); go_simp; try (with_reducible rfl))
            simp only [List.setIfInBounds_toArray, List.set_cons_zero, List.set_cons_succ]
            refine take_movev (v := ?vu2x22) 22 (Operand.tmp 27) rfl rfl (by first | exact .inl rfl | exact .inr rfl) rfl (by kernel_rfl) (by kernel_rfl) (by kernel_rfl) (fun _ _ _ h => h) (by assumption) ?yu2x22 ?ru2x22
            case yu2x22 => (go_simp; try (with_reducible rfl))
            simp only [List.setIfInBounds_toArray, List.set_cons_zero, List.set_cons_succ]
            refine take_movev (v := ?vu2x23) 23 (Operand.tmp 0) rfl rfl (by first | exact .inl rfl | exact .inr rfl) rfl (by kernel_rfl) (by kernel_rfl) (by kernel_rfl) (fun _ _ _ h => h) (by assumption) ?yu2x23 ?ru2x23
            case yu2x23 => (go_simp; try (with_reducible rfl))
            simp only [List.setIfInBounds_toArray, List.set_cons_zero, List.set_cons_succ]
            refine take_movev (v := ?vu2x24) 24 (Operand.tmp 5) rfl rfl (by first | exact .inl rfl | exact .inr rfl) rfl (by kernel_rfl) (by kernel_rfl) (by kernel_rfl) (fun _ _ _ h => h) (by assumption) ?yu2x24 ?ru2x24
            case yu2x24 => (go_simp; try (with_reducible rfl))
            simp only [List.setIfInBounds_toArray, List.set_cons_zero, List.set_cons_succ]
            refine take_op (v := ?vu2x25) 25 (Op.indexAddr 108 (Operand.tmp 29) (Operand.tmp 30)) 0 rfl rfl rfl rfl rfl (by kernel_rfl) (by kernel_rfl) (by kernel_rfl) (fun _ _ _ h => h) ?yu2x25 (by assumption) ?ru2x25
            case yu2x25 => (intro w' hSw; (try dsimp only at hSw); go_simp; try (with_reducible rfl))
            simp only [List.setIfInBounds_toArray, List.set_cons_zero, List.set_cons_succ]
            refine take_op (v := ?vu2x26) 26 (Op.fieldAddr 111 (Operand.tmp 31) 2) 0 rfl rfl rfl rfl rfl (by kernel_rfl) (by kernel_rfl) (by kernel_rfl) (fun _ _ _ h => h) ?yu2x26 (by assumption) ?ru2x26
            case yu2x26 => (intro w' hSw; (try dsimp only at hSw); go_simp; try (with_reducible rfl))
            simp only [List.setIfInBounds_toArray, List.set_cons_zero, List.set_cons_succ]
            refine take_op (v := ?vu2x27) 27 (Op.load 4 (Operand.tmp 32)) 4 rfl rfl rfl rfl rfl (by kernel_rfl) (by kernel_rfl) (by kernel_rfl) (fun _ _ _ h => h) ?yu2x27 (by assumption) ?ru2x27
            case yu2x27 => (intro w' hSw; (try dsimp only at hSw); go_simp; try (with_reducible rfl))
            simp only [List.setIfInBounds_toArray, List.set_cons_zero, List.set_cons_succ]
            refine take_movev (v := ?vu2x28) 28 (Operand.tmp 33) rfl rfl (by first | exact .inl rfl | exact .inr rfl) rfl (by kernel_rfl) (by kernel_rfl) (by kernel_rfl) (fun _ _ _ h => h) (by assumption) ?yu2x28 ?ru2x28
            case yu2x28 => (go_simp; try (with_reducible rfl))
            simp only [List.setIfInBounds_toArray, List.set_cons_zero, List.set_cons_succ]
            refine take_skip 29 rfl rfl rfl (by kernel_rfl) (by kernel_rfl) (by kernel_rfl) (fun _ _ _ h => h) (by assumption) ?_
            simp only [List.setIfInBounds_toArray, List.set_cons_zero, List.set_cons_succ]
            refine take_skip 30 rfl rfl rfl (by kernel_rfl) (by kernel_rfl) (by kernel_rfl) (fun _ _ _ h => h) (by assumption) ?_
            simp only [List.setIfInBounds_toArray, List.set_cons_zero, List.set_cons_succ]
            refine take_skip 31 rfl rfl rfl (by kernel_rfl) (by kernel_rfl) (by kernel_rfl) (fun _ _ _ h => h) (by assumption) ?_
            simp only [List.setIfInBounds_toArray, List.set_cons_zero, List.set_cons_succ]
            refine take_op (v := ?vu2x32) 32 (Op.pick (Operand.tmp 34) (Operand.const (Value.bool true)) (Operand.tmp 37)) 4 rfl rfl rfl rfl rfl (by kernel_rfl) (by kernel_rfl) (by kernel_rfl) (fun _ _ _ h => h) ?yu2x32 (by assumption) ?ru2x32
            case yu2x32 => (intro w' hSw; (try dsimp only at hSw); go_simp; try (with_reducible rfl))
            simp only [List.setIfInBounds_toArray, List.set_cons_zero, List.set_cons_succ]
            refine take_op (v := ?vu2x33) 33 (Op.pick (Operand.tmp 28) (Operand.tmp 38) (Operand.const (Value.bool false))) 4 rfl rfl rfl rfl rfl (by kernel_rfl) (by kernel_rfl) (by kernel_rfl) (fun _ _ _ h => h) ?yu2x33 (by assumption) ?ru2x33
            case yu2x33 => (intro w' hSw; (try dsimp only at hSw); go_simp; try (with_reducible rfl))
            simp only [List.setIfInBounds_toArray, List.set_cons_zero, List.set_cons_succ]
            refine take_op (v := ?vu2x34) 34 (Op.pick (Operand.tmp 19) (Operand.const (Value.bool true)) (Operand.tmp 39)) 4 rfl rfl rfl rfl rfl (by kernel_rfl) (by kernel_rfl) (by kernel_rfl) (fun _ _ _ h => h) ?yu2x34 (by assumption) ?ru2x34
            case yu2x34 => (intro w' hSw; (try dsimp only at hSw); go_simp; try (with_reducible rfl))
            simp only [List.setIfInBounds_toArray, List.set_cons_zero, List.set_cons_succ]
            refine take_op (v := ?vu2x35) 35 (Op.pick (Operand.tmp 10) (Operand.tmp 40) (Operand.const (Value.bool false))) 4 rfl rfl rfl rfl rfl (by kernel_rfl) (by kernel_rfl) (by kernel_rfl) (fun _ _ _ h => h) ?yu2x35 (by assumption) ?ru2x35
            case yu2x35 => (intro w' hSw; (try dsimp only at hSw); go_simp; try (with_reducible rfl))
            simp only [List.setIfInBounds_toArray, List.set_cons_zero, List.set_cons_succ]
            refine wpAnyH_done (by kernel_rfl) ?_ _
            clear hHeld
            go_wp2_with fail
            go_roundw
            case rel => exact ⟨i + 1, by go_num, by omega, HGO.out, g0, HB⟩
            case measure => simp [intOf]; omega
          | false =>
            cases xl with
            | false =>
              have HGO := Lib.hid (HG0.out true (by simp [goesT]) rfl)
              go_wp2_with fail
              refine wp_region_held_drew (S := (fun w' => w'.cell? ⟨b, o + i * 3, none⟩ = some (.int .i64 yw) ∧ w'.cell? ⟨b, o + i * 3 + 2, none⟩ = some (.bool false) ∧ w'.cell? ⟨w.heap.size, 0, none⟩ = some (.int .i64 yw) ∧ w'.cell? ⟨w.heap.size, 2, none⟩ = some (.bool false))) (by kernel_rfl) ?_ (fun hHeld => ?_)
              · replace HB := Below.drew HB; replace g0 := Blk.drew g0; (try dsimp only); exact ⟨(HB.cell hbb).trans C0.out.1, (HB.cell hbb).trans C0.out.2, g0.cell_ 0 rfl, g0.cell_ 2 rfl⟩
              replace HB := Below.drew HB
              replace g0 := Blk.drew g0
              have zHB := HB.size
              refine take_movev (v := ?vu3x0) 0 (Operand.tmp 5) rfl rfl (by first | exact .inl rfl | exact .inr rfl) rfl (by kernel_rfl) (by kernel_rfl) (by kernel_rfl) (fun _ _ _ h => h) (by assumption) ?yu3x0 ?ru3x0
              case yu3x0 => (go_simp; try (with_reducible rfl))
              simp only [List.setIfInBounds_toArray, List.set_cons_zero, List.set_cons_succ]
              refine take_movev (v := ?vu3x1) 1 (Operand.tmp 0) rfl rfl (by first | exact .inl rfl | exact .inr rfl) rfl (by kernel_rfl) (by kernel_rfl) (by kernel_rfl) (fun _ _ _ h => h) (by assumption) ?yu3x1 ?ru3x1
              case yu3x1 => (go_simp; try (with_reducible rfl))
              simp only [List.setIfInBounds_toArray, List.set_cons_zero, List.set_cons_succ]
              refine take_op (v := ?vu3x2) 2 (Op.call { callee := Callee.builtin Builtin.len, args := #[Operand.tmp 7], argTypes := #[108] }) 3 rfl rfl rfl rfl rfl (by kernel_rfl) (by kernel_rfl) (by kernel_rfl) (fun _ _ _ h => h) ?yu3x2 (by assumption) ?ru3x2
              case yu3x2 => (intro w' hSw; (try dsimp only at hSw); go_simp; try (with_reducible rfl))
              simp only [List.setIfInBounds_toArray, List.set_cons_zero, List.set_cons_succ]
              refine take_op (v := ?vu3x3) 3 (Op.binOp BinOp.lss 3 (Operand.tmp 6) (Operand.tmp 8) 3) 4 rfl rfl rfl rfl rfl (by kernel_rfl) (by kernel_rfl) (by kernel_rfl) (fun _ _ _ h => h) ?yu3x3 (by assumption) ?ru3x3
              case yu3x3 => (intro w' hSw; (try dsimp only at hSw); go_simp; try (with_reducible rfl))
              simp only [List.setIfInBounds_toArray, List.set_cons_zero, List.set_cons_succ]
              refine take_movev (v := ?vu3x4) 4 (Operand.tmp 9) rfl rfl (by first | exact .inl rfl | exact .inr rfl) rfl (by kernel_rfl) (by kernel_rfl) (by kernel_rfl) (fun _ _ _ h => h) (by assumption) ?yu3x4 ?ru3x4
              case yu3x4 => (go_simp; try (with_reducible rfl))
              simp only [List.setIfInBounds_toArray, List.set_cons_zero, List.set_cons_succ]
              refine take_movev (v := ?vu3x5) 5 (Operand.tmp 0) rfl rfl (by first | exact .inl rfl | exact .inr rfl) rfl (by kernel_rfl) (by kernel_rfl) (by kernel_rfl) (fun _ _ _ h => h) (by assumption) ?yu3x5 ?ru3x5
              case yu3x5 => (go_simp; try (with_reducible rfl))
              simp only [List.setIfInBounds_toArray, List.set_cons_zero, List.set_cons_succ]
              refine take_movev (v := ?vu3x6) 6 (Operand.tmp 5) rfl rfl (by first | exact .inl rfl | exact .inr rfl) rfl (by kernel_rfl) (by kernel_rfl) (by kernel_rfl) (fun _ _ _ h => h) (by assumption) ?yu3x6 ?ru3x6
              case yu3x6 => (go_simp; try (with_reducible rfl))
              simp only [List.setIfInBounds_toArray, List.set_cons_zero, List.set_cons_succ]
              refine take_op (v := ?vu3x7) 7 (Op.indexAddr 108 (Operand.tmp 11) (Operand.tmp 12)) 0 rfl rfl rfl rfl rfl (by kernel_rfl) (by kernel_rfl) (by kernel_rfl) (fun _ _ _ h => h) ?yu3x7 (by assumption) ?ru3x7
              case yu3x7 => (intro w' hSw; (try dsimp only at hSw); go_simp; try (with_reducible rfl))
              simp only [List.setIfInBounds_toArray, List.set_cons_zero, List.set_cons_succ]
              refine take_op (v := ?vu3x8) 8 (Op.fieldAddr 111 (Operand.tmp 13) 0) 0 rfl rfl rfl rfl rfl (by kernel_rfl) (by kernel_rfl) (by kernel_rfl) (fun _ _ _ h => h) ?yu3x8 (by assumption) ?ru3x8
              case yu3x8 => (intro w' hSw; (try dsimp only at hSw); go_simp; try (with_reducible rfl))
              simp only [List.setIfInBounds_toArray, List.set_cons_zero, List.set_cons_succ]
              refine take_op (v := ?vu3x9) 9 (Op.load 3 (Operand.tmp 14)) 3 rfl rfl rfl rfl rfl (by kernel_rfl) (by kernel_rfl) (by kernel_rfl) (fun _ _ _ h => h) ?yu3x9 (by assumption) ?ru3x9
              case yu3x9 => (intro w' hSw; (try dsimp only at hSw); go_simp; try (with_reducible rfl))
              simp only [List.setIfInBounds_toArray, List.set_cons_zero, List.set_cons_succ]
              refine take_op (v := ?vu3x10) 10 (Op.fieldAddr 111 (Operand.tmp 3) 0) 0 rfl rfl rfl rfl rfl (by kernel_rfl) (by kernel_rfl) (by kernel_rfl) (fun _ _ _ h => h) ?yu3x10 (by assumption) ?ru3x10
              case yu3x10 => (intro w' hSw; (try dsimp only at hSw); go_simp; try (with_reducible rfl))
              simp only [List.setIfInBounds_toArray, List.set_cons_zero, List.set_cons_succ]
              refine take_op (v := ?vu3x11) 11 (Op.load 3 (Operand.tmp 16)) 3 rfl rfl rfl rfl rfl (by kernel_rfl) (by kernel_rfl) (by kernel_rfl) (fun _ _ _ h => h) ?yu3x11 (by assumption) ?ru3x11
              case yu3x11 => (intro w' hSw; (try dsimp only at hSw); go_simp; try (with_reducible rfl))
              simp only [List.setIfInBounds_toArray, List.set_cons_zero, List.set_cons_succ]
              refine take_op (v := ?vu3x12) 12 (Op.binOp BinOp.lss 3 (Operand.tmp 15) (Operand.tmp 17) 3) 4 rfl rfl rfl rfl rfl (by kernel_rfl) (by kernel_rfl) (by kernel_rfl) (fun _ _ _ h => h) ?yu3x12 (by assumption) ?ru3x12
              case yu3x12 => (intro w' hSw; (try dsimp only at hSw); go_simp; try (with_reducible rfl))
              simp only [List.setIfInBounds_toArray, List.set_cons_zero, List.set_cons_succ]
              refine take_movev (v := ?vu3x13) 13 (Operand.tmp 18) rfl rfl (by first | exact .inl rfl | exact .inr rfl) rfl (by kernel_rfl) (by kernel_rfl) (by kernel_rfl) (fun _ _ _ h => h) (by assumption) ?yu3x13 ?ru3x13
              case yu3x13 => (go_simp; try (with_reducible rfl))
              simp only [List.setIfInBounds_toArray, List.set_cons_zero, List.set_cons_succ]
              refine take_movev (v := ?vu3x14) 14 (Operand.tmp 0) rfl rfl (by first | exact .inl rfl | exact .inr rfl) rfl (by kernel_rfl) (by kernel_rfl) (by kernel_rfl) (fun _ _ _ h => h) (by assumption) ?yu3x14 ?ru3x14
              case yu3x14 => (go_simp; try (with_reducible rfl))
              simp only [List.setIfInBounds_toArray, List.set_cons_zero, List.set_cons_succ]
              refine take_movev (v := ?vu3x15) 15 (Operand.tmp 5) rfl rfl (by first | exact .inl rfl | exact .inr rfl) rfl (by kernel_rfl) (by kernel_rfl) (by kernel_rfl) (fun _ _ _ h => h) (by assumption) ?yu3x15 ?ru3x15
              case yu3x15 => (go_simp; try (with_reducible rfl))
              simp only [List.setIfInBounds_toArray, List.set_cons_zero, List.set_cons_succ]
              refine take_op (v := ?vu3x16) 16 (Op.indexAddr 108 (Operand.tmp 20) (Operand.tmp 21)) 0 rfl rfl rfl rfl rfl (by kernel_rfl) (by kernel_rfl) (by kernel_rfl) (fun _ _ _ h => h) ?yu3x16 (by assumption) ?ru3x16
              case yu3x16 => (intro w' hSw; (try dsimp only at hSw); go_simp; try (with_reducible rfl))
              simp only [List.setIfInBounds_toArray, List.set_cons_zero, List.set_cons_succ]
              refine take_op (v := ?vu3x17) 17 (Op.fieldAddr 111 (Operand.tmp 22) 0) 0 rfl rfl rfl rfl rfl (by kernel_rfl) (by kernel_rfl) (by kernel_rfl) (fun _ _ _ h => h) ?yu3x17 (by assumption) ?ru3x17
              case yu3x17 => (intro w' hSw; (try dsimp only at hSw); go_simp; try (with_reducible rfl))
              simp only [List.setIfInBounds_toArray, List.set_cons_zero, List.set_cons_succ]
              refine take_op (v := ?vu3x18) 18 (Op.load 3 (Operand.tmp 23)) 3 rfl rfl rfl rfl rfl (by kernel_rfl) (by kernel_rfl) (by kernel_rfl) (fun _ _ _ h => h) ?yu3x18 (by assumption) ?ru3x18
              case yu3x18 => (intro w' hSw; (try dsimp only at hSw); go_simp; try (with_reducible rfl))
              simp only [List.setIfInBounds_toArray, List.set_cons_zero, List.set_cons_succ]
              refine take_op (v := ?vu3x19) 19 (Op.fieldAddr 111 (Operand.tmp 3) 0) 0 rfl rfl rfl rfl rfl (by kernel_rfl) (by kernel_rfl) (by kernel_rfl) (fun _ _ _ h => h) ?yu3x19 (by assumption) ?ru3x19
              case yu3x19 => (intro w' hSw; (try dsimp only at hSw); go_simp; try (with_reducible rfl))
              simp only [List.setIfInBounds_toArray, List.set_cons_zero, List.set_cons_succ]
              refine take_op (v := ?vu3x20) 20 (Op.load 3 (Operand.tmp 25)) 3 rfl rfl rfl rfl rfl (by kernel_rfl) (by kernel_rfl) (by kernel_rfl) (fun _ _ _ h => h) ?yu3x20 (by assumption) ?ru3x20
              case yu3x20 => (intro w' hSw; (try dsimp only at hSw); go_simp; try (with_reducible rfl))
              simp only [List.setIfInBounds_toArray, List.set_cons_zero, List.set_cons_succ]
              refine take_op (v := ?vu3x21) 21 (Op.binOp BinOp.eql 3 (Operand.tmp 24) (Operand.tmp 26) 3) 4 rfl rfl rfl rfl rfl (by kernel_rfl) (by kernel_rfl) (by kernel_rfl) (fun _ _ _ h => h) ?yu3x21 (by assumption) ?ru3x21
              case yu3x21 => (intro w' hSw; (try dsimp only at hSw); go_simp; try (with_reducible rfl))
              simp only [List.setIfInBounds_toArray, List.set_cons_zero, List.set_cons_succ]
              refine take_movev (v := ?vu3x22) 22 (Operand.tmp 27) rfl rfl (by first | exact .inl rfl | exact .inr rfl) rfl (by kernel_rfl) (by kernel_rfl) (by kernel_rfl) (fun _ _ _ h => h) (by assumption) ?yu3x22 ?ru3x22
              case yu3x22 => (go_simp; try (with_reducible rfl))
              simp only [List.setIfInBounds_toArray, List.set_cons_zero, List.set_cons_succ]
              refine take_movev (v := ?vu3x23) 23 (Operand.tmp 0) rfl rfl (by first | exact .inl rfl | exact .inr rfl) rfl (by kernel_rfl) (by kernel_rfl) (by kernel_rfl) (fun _ _ _ h => h) (by assumption) ?yu3x23 ?ru3x23
              case yu3x23 => (go_simp; try (with_reducible rfl))
              simp only [List.setIfInBounds_toArray, List.set_cons_zero, List.set_cons_succ]
              refine take_movev (v := ?vu3x24) 24 (Operand.tmp 5) rfl rfl (by first | exact .inl rfl | exact .inr rfl) rfl (by kernel_rfl) (by kernel_rfl) (by kernel_rfl) (fun _ _ _ h => h) (by assumption) ?yu3x24 ?ru3x24
              case yu3x24 => (go_simp; try (with_reducible rfl))
              simp only [List.setIfInBounds_toArray, List.set_cons_zero, List.set_cons_succ]
              refine take_op (v := ?vu3x25) 25 (Op.indexAddr 108 (Operand.tmp 29) (Operand.tmp 30)) 0 rfl rfl rfl rfl rfl (by kernel_rfl) (by kernel_rfl) (by kernel_rfl) (fun _ _ _ h => h) ?yu3x25 (by assumption) ?ru3x25
              case yu3x25 => (intro w' hSw; (try dsimp only at hSw); go_simp; try (with_reducible rfl))
              simp only [List.setIfInBounds_toArray, List.set_cons_zero, List.set_cons_succ]
              refine take_op (v := ?vu3x26) 26 (Op.fieldAddr 111 (Operand.tmp 31) 2) 0 rfl rfl rfl rfl rfl (by kernel_rfl) (by kernel_rfl) (by kernel_rfl) (fun _ _ _ h => h) ?yu3x26 (by assumption) ?ru3x26
              case yu3x26 => (intro w' hSw; (try dsimp only at hSw); go_simp; try (with_reducible rfl))
              simp only [List.setIfInBounds_toArray, List.set_cons_zero, List.set_cons_succ]
              refine take_op (v := ?vu3x27) 27 (Op.load 4 (Operand.tmp 32)) 4 rfl rfl rfl rfl rfl (by kernel_rfl) (by kernel_rfl) (by kernel_rfl) (fun _ _ _ h => h) ?yu3x27 (by assumption) ?ru3x27
              case yu3x27 => (intro w' hSw; (try dsimp only at hSw); go_simp; try (with_reducible rfl))
              simp only [List.setIfInBounds_toArray, List.set_cons_zero, List.set_cons_succ]
              refine take_movev (v := ?vu3x28) 28 (Operand.tmp 33) rfl rfl (by first | exact .inl rfl | exact .inr rfl) rfl (by kernel_rfl) (by kernel_rfl) (by kernel_rfl) (fun _ _ _ h => h) (by assumption) ?yu3x28 ?ru3x28
              case yu3x28 => (go_simp; try (with_reducible rfl))
              simp only [List.setIfInBounds_toArray, List.set_cons_zero, List.set_cons_succ]
              refine take_op (v := ?vu3x29) 29 (Op.fieldAddr 111 (Operand.tmp 3) 2) 0 rfl rfl rfl rfl rfl (by kernel_rfl) (by kernel_rfl) (by kernel_rfl) (fun _ _ _ h => h) ?yu3x29 (by assumption) ?ru3x29
              case yu3x29 => (intro w' hSw; (try dsimp only at hSw); go_simp; try (with_reducible rfl))
              simp only [List.setIfInBounds_toArray, List.set_cons_zero, List.set_cons_succ]
              refine take_op (v := ?vu3x30) 30 (Op.load 4 (Operand.tmp 35)) 4 rfl rfl rfl rfl rfl (by kernel_rfl) (by kernel_rfl) (by kernel_rfl) (fun _ _ _ h => h) ?yu3x30 (by assumption) ?ru3x30
              case yu3x30 => (intro w' hSw; (try dsimp only at hSw); go_simp; try (with_reducible rfl))
              simp only [List.setIfInBounds_toArray, List.set_cons_zero, List.set_cons_succ]
              refine take_op (v := ?vu3x31) 31 (Op.unOp UnOp.not 4 (Operand.tmp 36)) 4 rfl rfl rfl rfl rfl (by kernel_rfl) (by kernel_rfl) (by kernel_rfl) (fun _ _ _ h => h) ?yu3x31 (by assumption) ?ru3x31
              case yu3x31 => (intro w' hSw; (try dsimp only at hSw); go_simp; try (with_reducible rfl))
              simp only [List.setIfInBounds_toArray, List.set_cons_zero, List.set_cons_succ]
              refine take_op (v := ?vu3x32) 32 (Op.pick (Operand.tmp 34) (Operand.const (Value.bool true)) (Operand.tmp 37)) 4 rfl rfl rfl rfl rfl (by kernel_rfl) (by kernel_rfl) (by kernel_rfl) (fun _ _ _ h => h) ?yu3x32 (by assumption) ?ru3x32
              case yu3x32 => (intro w' hSw; (try dsimp only at hSw); go_simp; try (with_reducible rfl))
              simp only [List.setIfInBounds_toArray, List.set_cons_zero, List.set_cons_succ]
              refine take_op (v := ?vu3x33) 33 (Op.pick (Operand.tmp 28) (Operand.tmp 38) (Operand.const (Value.bool false))) 4 rfl rfl rfl rfl rfl (by kernel_rfl) (by kernel_rfl) (by kernel_rfl) (fun _ _ _ h => h) ?yu3x33 (by assumption) ?ru3x33
              case yu3x33 => (intro w' hSw; (try dsimp only at hSw); go_simp; try (with_reducible rfl))
              simp only [List.setIfInBounds_toArray, List.set_cons_zero, List.set_cons_succ]
              refine take_op (v := ?vu3x34) 34 (Op.pick (Operand.tmp 19) (Operand.const (Value.bool true)) (Operand.tmp 39)) 4 rfl rfl rfl rfl rfl (by kernel_rfl) (by kernel_rfl) (by kernel_rfl) (fun _ _ _ h => h) ?yu3x34 (by assumption) ?ru3x34
              case yu3x34 => (intro w' hSw; (try dsimp only at hSw); go_simp; try (with_reducible rfl))
              simp only [List.setIfInBounds_toArray, List.set_cons_zero, List.set_cons_succ]
              refine take_op (v := ?vu3x35) 35 (Op.pick (Operand.tmp 10) (Operand.tmp 40) (Operand.const (Value.bool false))) 4 rfl rfl rfl rfl rfl (by kernel_rfl) (by kernel_rfl) (by kernel_rfl) (fun _ _ _ h => h) ?yu3x35 (by assumption) ?ru3x35
              case yu3x35 => (intro w' hSw; (try dsimp only at hSw); go_simp; try (with_reducible rfl))
              simp only [List.setIfInBounds_toArray, List.set_cons_zero, List.set_cons_succ]
              refine wpAnyH_done (by kernel_rfl) ?_ _
              clear hHeld
              go_wp2_with fail
              go_roundw
              case rel => exact ⟨i + 1, by go_num, by omega, HGO.out, g0, HB⟩
              case measure => simp [intOf]; omega
            | true =>
              have HN := Lib.hid (show ∀ h : i < ts.length, goesT ts[i] ⟨yw, xA, xn, xc, true, xs⟩ = false from fun h => by rw [HTI.out]; simp [goesT])
              go_wp2_with fail
              refine wp_region_held_drew (S := (fun w' => w'.cell? ⟨b, o + i * 3, none⟩ = some (.int .i64 yw) ∧ w'.cell? ⟨b, o + i * 3 + 2, none⟩ = some (.bool false) ∧ w'.cell? ⟨w.heap.size, 0, none⟩ = some (.int .i64 yw) ∧ w'.cell? ⟨w.heap.size, 2, none⟩ = some (.bool true))) (by kernel_rfl) ?_ (fun hHeld => ?_)
              · replace HB := Below.drew HB; replace g0 := Blk.drew g0; (try dsimp only); exact ⟨(HB.cell hbb).trans C0.out.1, (HB.cell hbb).trans C0.out.2, g0.cell_ 0 rfl, g0.cell_ 2 rfl⟩
              replace HB := Below.drew HB
              replace g0 := Blk.drew g0
              have zHB := HB.size
              refine take_movev (v := ?vu7x0) 0 (Operand.tmp 5) rfl rfl (by first | exact .inl rfl | exact .inr rfl) rfl (by kernel_rfl) (by kernel_rfl) (by kernel_rfl) (fun _ _ _ h => h) (by assumption) ?yu7x0 ?ru7x0
              case yu7x0 => (go_simp; try (with_reducible rfl))
              simp only [List.setIfInBounds_toArray, List.set_cons_zero, List.set_cons_succ]
              refine take_movev (v := ?vu7x1) 1 (Operand.tmp 0) rfl rfl (by first | exact .inl rfl | exact .inr rfl) rfl (by kernel_rfl) (by kernel_rfl) (by kernel_rfl) (fun _ _ _ h => h) (by assumption) ?yu7x1 ?ru7x1
              case yu7x1 => (go_simp; try (with_reducible rfl))
              simp only [List.setIfInBounds_toArray, List.set_cons_zero, List.set_cons_succ]
              refine take_op (v := ?vu7x2) 2 (Op.call { callee := Callee.builtin Builtin.len, args := #[Operand.tmp 7], argTypes := #[108] }) 3 rfl rfl rfl rfl rfl (by kernel_rfl) (by kernel_rfl) (by kernel_rfl) (fun _ _ _ h => h) ?yu7x2 (by assumption) ?ru7x2
              case yu7x2 => (intro w' hSw; (try dsimp only at hSw); go_simp; try (with_reducible rfl))
              simp only [List.setIfInBounds_toArray, List.set_cons_zero, List.set_cons_succ]
              refine take_op (v := ?vu7x3) 3 (Op.binOp BinOp.lss 3 (Operand.tmp 6) (Operand.tmp 8) 3) 4 rfl rfl rfl rfl rfl (by kernel_rfl) (by kernel_rfl) (by kernel_rfl) (fun _ _ _ h => h) ?yu7x3 (by assumption) ?ru7x3
              case yu7x3 => (intro w' hSw; (try dsimp only at hSw); go_simp; try (with_reducible rfl))
              simp only [List.setIfInBounds_toArray, List.set_cons_zero, List.set_cons_succ]
              refine take_movev (v := ?vu7x4) 4 (Operand.tmp 9) rfl rfl (by first | exact .inl rfl | exact .inr rfl) rfl (by kernel_rfl) (by kernel_rfl) (by kernel_rfl) (fun _ _ _ h => h) (by assumption) ?yu7x4 ?ru7x4
              case yu7x4 => (go_simp; try (with_reducible rfl))
              simp only [List.setIfInBounds_toArray, List.set_cons_zero, List.set_cons_succ]
              refine take_movev (v := ?vu7x5) 5 (Operand.tmp 0) rfl rfl (by first | exact .inl rfl | exact .inr rfl) rfl (by kernel_rfl) (by kernel_rfl) (by kernel_rfl) (fun _ _ _ h => h) (by assumption) ?yu7x5 ?ru7x5
              case yu7x5 => (go_simp; try (with_reducible rfl))
              simp only [List.setIfInBounds_toArray, List.set_cons_zero, List.set_cons_succ]
              refine take_movev (v := ?vu7x6) 6 (Operand.tmp 5) rfl rfl (by first | exact .inl rfl | exact .inr rfl) rfl (by kernel_rfl) (by kernel_rfl) (by kernel_rfl) (fun _ _ _ h => h) (by assumption) ?yu7x6 ?ru7x6
              case yu7x6 => (go_simp; try (with_reducible rfl))
              simp only [List.setIfInBounds_toArray, List.set_cons_zero, List.set_cons_succ]
              refine take_op (v := ?vu7x7) 7 (Op.indexAddr 108 (Operand.tmp 11) (Operand.tmp 12)) 0 rfl rfl rfl rfl rfl (by kernel_rfl) (by kernel_rfl) (by kernel_rfl) (fun _ _ _ h => h) ?yu7x7 (by assumption) ?ru7x7
              case yu7x7 => (intro w' hSw; (try dsimp only at hSw); go_simp; try (with_reducible rfl))
              simp only [List.setIfInBounds_toArray, List.set_cons_zero, List.set_cons_succ]
              refine take_op (v := ?vu7x8) 8 (Op.fieldAddr 111 (Operand.tmp 13) 0) 0 rfl rfl rfl rfl rfl (by kernel_rfl) (by kernel_rfl) (by kernel_rfl) (fun _ _ _ h => h) ?yu7x8 (by assumption) ?ru7x8
              case yu7x8 => (intro w' hSw; (try dsimp only at hSw); go_simp; try (with_reducible rfl))
              simp only [List.setIfInBounds_toArray, List.set_cons_zero, List.set_cons_succ]
              refine take_op (v := ?vu7x9) 9 (Op.load 3 (Operand.tmp 14)) 3 rfl rfl rfl rfl rfl (by kernel_rfl) (by kernel_rfl) (by kernel_rfl) (fun _ _ _ h => h) ?yu7x9 (by assumption) ?ru7x9
              case yu7x9 => (intro w' hSw; (try dsimp only at hSw); go_simp; try (with_reducible rfl))
              simp only [List.setIfInBounds_toArray, List.set_cons_zero, List.set_cons_succ]
              refine take_op (v := ?vu7x10) 10 (Op.fieldAddr 111 (Operand.tmp 3) 0) 0 rfl rfl rfl rfl rfl (by kernel_rfl) (by kernel_rfl) (by kernel_rfl) (fun _ _ _ h => h) ?yu7x10 (by assumption) ?ru7x10
              case yu7x10 => (intro w' hSw; (try dsimp only at hSw); go_simp; try (with_reducible rfl))
              simp only [List.setIfInBounds_toArray, List.set_cons_zero, List.set_cons_succ]
              refine take_op (v := ?vu7x11) 11 (Op.load 3 (Operand.tmp 16)) 3 rfl rfl rfl rfl rfl (by kernel_rfl) (by kernel_rfl) (by kernel_rfl) (fun _ _ _ h => h) ?yu7x11 (by assumption) ?ru7x11
              case yu7x11 => (intro w' hSw; (try dsimp only at hSw); go_simp; try (with_reducible rfl))
              simp only [List.setIfInBounds_toArray, List.set_cons_zero, List.set_cons_succ]
              refine take_op (v := ?vu7x12) 12 (Op.binOp BinOp.lss 3 (Operand.tmp 15) (Operand.tmp 17) 3) 4 rfl rfl rfl rfl rfl (by kernel_rfl) (by kernel_rfl) (by kernel_rfl) (fun _ _ _ h => h) ?yu7x12 (by assumption) ?ru7x12
              case yu7x12 => (intro w' hSw; (try dsimp only at hSw); go_simp; try (with_reducible rfl))
              simp only [List.setIfInBounds_toArray, List.set_cons_zero, List.set_cons_succ]
              refine take_movev (v := ?vu7x13) 13 (Operand.tmp 18) rfl rfl (by first | exact .inl rfl | exact .inr rfl) rfl (by kernel_rfl) (by kernel_rfl) (by kernel_rfl) (fun _ _ _ h => h) (by assumption) ?yu7x13 ?ru7x13
              case yu7x13 => (go_simp; try (with_reducible rfl))
              simp only [List.setIfInBounds_toArray, List.set_cons_zero, List.set_cons_succ]
              refine take_movev (v := ?vu7x14) 14 (Operand.tmp 0) rfl rfl (by first | exact .inl rfl | exact .inr rfl) rfl (by kernel_rfl) (by kernel_rfl) (by kernel_rfl) (fun _ _ _ h => h) (by assumption) ?yu7x14 ?ru7x14
              case yu7x14 => (go_simp; try (with_reducible rfl))
              simp only [List.setIfInBounds_toArray, List.set_cons_zero, List.set_cons_succ]
              refine take_movev (v := ?vu7x15) 15 (Operand.tmp 5) rfl rfl (by first | exact .inl rfl | exact .inr rfl) rfl (by kernel_rfl) (by kernel_rfl) (by kernel_rfl) (fun _ _ _ h => h) (by assumption) ?yu7x15 ?ru7x15
              case yu7x15 => (go_simp; try (with_reducible rfl))
              simp only [List.setIfInBounds_toArray, List.set_cons_zero, List.set_cons_succ]
              refine take_op (v := ?vu7x16) 16 (Op.indexAddr 108 (Operand.tmp 20) (Operand.tmp 21)) 0 rfl rfl rfl rfl rfl (by kernel_rfl) (by kernel_rfl) (by kernel_rfl) (fun _ _ _ h => h) ?yu7x16 (by assumption) ?ru7x16
              case yu7x16 => (intro w' hSw; (try dsimp only at hSw); go_simp; try (with_reducible rfl))
              simp only [List.setIfInBounds_toArray, List.set_cons_zero, List.set_cons_succ]
              refine take_op (v := ?vu7x17) 17 (Op.fieldAddr 111 (Operand.tmp 22) 0) 0 rfl rfl rfl rfl rfl (by kernel_rfl) (by kernel_rfl) (by kernel_rfl) (fun _ _ _ h => h) ?yu7x17 (by assumption) ?ru7x17
              case yu7x17 => (intro w' hSw; (try dsimp only at hSw); go_simp; try (with_reducible rfl))
              simp only [List.setIfInBounds_toArray, List.set_cons_zero, List.set_cons_succ]
              refine take_op (v := ?vu7x18) 18 (Op.load 3 (Operand.tmp 23)) 3 rfl rfl rfl rfl rfl (by kernel_rfl) (by kernel_rfl) (by kernel_rfl) (fun _ _ _ h => h) ?yu7x18 (by assumption) ?ru7x18
              case yu7x18 => (intro w' hSw; (try dsimp only at hSw); go_simp; try (with_reducible rfl))
              simp only [List.setIfInBounds_toArray, List.set_cons_zero, List.set_cons_succ]
              refine take_op (v := ?vu7x19) 19 (Op.fieldAddr 111 (Operand.tmp 3) 0) 0 rfl rfl rfl rfl rfl (by kernel_rfl) (by kernel_rfl) (by kernel_rfl) (fun _ _ _ h => h) ?yu7x19 (by assumption) ?ru7x19
              case yu7x19 => (intro w' hSw; (try dsimp only at hSw); go_simp; try (with_reducible rfl))
              simp only [List.setIfInBounds_toArray, List.set_cons_zero, List.set_cons_succ]
              refine take_op (v := ?vu7x20) 20 (Op.load 3 (Operand.tmp 25)) 3 rfl rfl rfl rfl rfl (by kernel_rfl) (by kernel_rfl) (by kernel_rfl) (fun _ _ _ h => h) ?yu7x20 (by assumption) ?ru7x20
              case yu7x20 => (intro w' hSw; (try dsimp only at hSw); go_simp; try (with_reducible rfl))
              simp only [List.setIfInBounds_toArray, List.set_cons_zero, List.set_cons_succ]
              refine take_op (v := ?vu7x21) 21 (Op.binOp BinOp.eql 3 (Operand.tmp 24) (Operand.tmp 26) 3) 4 rfl rfl rfl rfl rfl (by kernel_rfl) (by kernel_rfl) (by kernel_rfl) (fun _ _ _ h => h) ?yu7x21 (by assumption) ?ru7x21
              case yu7x21 => (intro w' hSw; (try dsimp only at hSw); go_simp; try (with_reducible rfl))
              simp only [List.setIfInBounds_toArray, List.set_cons_zero, List.set_cons_succ]
              refine take_movev (v := ?vu7x22) 22 (Operand.tmp 27) rfl rfl (by first | exact .inl rfl | exact .inr rfl) rfl (by kernel_rfl) (by kernel_rfl) (by kernel_rfl) (fun _ _ _ h => h) (by assumption) ?yu7x22 ?ru7x22
              case yu7x22 => (go_simp; try (with_reducible rfl))
              simp only [List.setIfInBounds_toArray, List.set_cons_zero, List.set_cons_succ]
              refine take_movev (v := ?vu7x23) 23 (Operand.tmp 0) rfl rfl (by first | exact .inl rfl | exact .inr rfl) rfl (by kernel_rfl) (by kernel_rfl) (by kernel_rfl) (fun _ _ _ h => h) (by assumption) ?yu7x23 ?ru7x23
              case yu7x23 => (go_simp; try (with_reducible rfl))
              simp only [List.setIfInBounds_toArray, List.set_cons_zero, List.set_cons_succ]
              refine take_movev (v := ?vu7x24) 24 (Operand.tmp 5) rfl rfl (by first | exact .inl rfl | exact .inr rfl) rfl (by kernel_rfl) (by kernel_rfl) (by kernel_rfl) (fun _ _ _ h => h) (by assumption) ?yu7x24 ?ru7x24
              case yu7x24 => (go_simp; try (with_reducible rfl))
              simp only [List.setIfInBounds_toArray, List.set_cons_zero, List.set_cons_succ]
              refine take_op (v := ?vu7x25) 25 (Op.indexAddr 108 (Operand.tmp 29) (Operand.tmp 30)) 0 rfl rfl rfl rfl rfl (by kernel_rfl) (by kernel_rfl) (by kernel_rfl) (fun _ _ _ h => h) ?yu7x25 (by assumption) ?ru7x25
              case yu7x25 => (intro w' hSw; (try dsimp only at hSw); go_simp; try (with_reducible rfl))
              simp only [List.setIfInBounds_toArray, List.set_cons_zero, List.set_cons_succ]
              refine take_op (v := ?vu7x26) 26 (Op.fieldAddr 111 (Operand.tmp 31) 2) 0 rfl rfl rfl rfl rfl (by kernel_rfl) (by kernel_rfl) (by kernel_rfl) (fun _ _ _ h => h) ?yu7x26 (by assumption) ?ru7x26
              case yu7x26 => (intro w' hSw; (try dsimp only at hSw); go_simp; try (with_reducible rfl))
              simp only [List.setIfInBounds_toArray, List.set_cons_zero, List.set_cons_succ]
              refine take_op (v := ?vu7x27) 27 (Op.load 4 (Operand.tmp 32)) 4 rfl rfl rfl rfl rfl (by kernel_rfl) (by kernel_rfl) (by kernel_rfl) (fun _ _ _ h => h) ?yu7x27 (by assumption) ?ru7x27
              case yu7x27 => (intro w' hSw; (try dsimp only at hSw); go_simp; try (with_reducible rfl))
              simp only [List.setIfInBounds_toArray, List.set_cons_zero, List.set_cons_succ]
              refine take_movev (v := ?vu7x28) 28 (Operand.tmp 33) rfl rfl (by first | exact .inl rfl | exact .inr rfl) rfl (by kernel_rfl) (by kernel_rfl) (by kernel_rfl) (fun _ _ _ h => h) (by assumption) ?yu7x28 ?ru7x28
              case yu7x28 => (go_simp; try (with_reducible rfl))
              simp only [List.setIfInBounds_toArray, List.set_cons_zero, List.set_cons_succ]
              refine take_op (v := ?vu7x29) 29 (Op.fieldAddr 111 (Operand.tmp 3) 2) 0 rfl rfl rfl rfl rfl (by kernel_rfl) (by kernel_rfl) (by kernel_rfl) (fun _ _ _ h => h) ?yu7x29 (by assumption) ?ru7x29
              case yu7x29 => (intro w' hSw; (try dsimp only at hSw); go_simp; try (with_reducible rfl))
              simp only [List.setIfInBounds_toArray, List.set_cons_zero, List.set_cons_succ]
              refine take_op (v := ?vu7x30) 30 (Op.load 4 (Operand.tmp 35)) 4 rfl rfl rfl rfl rfl (by kernel_rfl) (by kernel_rfl) (by kernel_rfl) (fun _ _ _ h => h) ?yu7x30 (by assumption) ?ru7x30
              case yu7x30 => (intro w' hSw; (try dsimp only at hSw); go_simp; try (with_reducible rfl))
              simp only [List.setIfInBounds_toArray, List.set_cons_zero, List.set_cons_succ]
              refine take_op (v := ?vu7x31) 31 (Op.unOp UnOp.not 4 (Operand.tmp 36)) 4 rfl rfl rfl rfl rfl (by kernel_rfl) (by kernel_rfl) (by kernel_rfl) (fun _ _ _ h => h) ?yu7x31 (by assumption) ?ru7x31
              case yu7x31 => (intro w' hSw; (try dsimp only at hSw); go_simp; try (with_reducible rfl))
              simp only [List.setIfInBounds_toArray, List.set_cons_zero, List.set_cons_succ]
              refine take_op (v := ?vu7x32) 32 (Op.pick (Operand.tmp 34) (Operand.const (Value.bool true)) (Operand.tmp 37)) 4 rfl rfl rfl rfl rfl (by kernel_rfl) (by kernel_rfl) (by kernel_rfl) (fun _ _ _ h => h) ?yu7x32 (by assumption) ?ru7x32
              case yu7x32 => (intro w' hSw; (try dsimp only at hSw); go_simp; try (with_reducible rfl))
              simp only [List.setIfInBounds_toArray, List.set_cons_zero, List.set_cons_succ]
              refine take_op (v := ?vu7x33) 33 (Op.pick (Operand.tmp 28) (Operand.tmp 38) (Operand.const (Value.bool false))) 4 rfl rfl rfl rfl rfl (by kernel_rfl) (by kernel_rfl) (by kernel_rfl) (fun _ _ _ h => h) ?yu7x33 (by assumption) ?ru7x33
              case yu7x33 => (intro w' hSw; (try dsimp only at hSw); go_simp; try (with_reducible rfl))
              simp only [List.setIfInBounds_toArray, List.set_cons_zero, List.set_cons_succ]
              refine take_op (v := ?vu7x34) 34 (Op.pick (Operand.tmp 19) (Operand.const (Value.bool true)) (Operand.tmp 39)) 4 rfl rfl rfl rfl rfl (by kernel_rfl) (by kernel_rfl) (by kernel_rfl) (fun _ _ _ h => h) ?yu7x34 (by assumption) ?ru7x34
              case yu7x34 => (intro w' hSw; (try dsimp only at hSw); go_simp; try (with_reducible rfl))
              simp only [List.setIfInBounds_toArray, List.set_cons_zero, List.set_cons_succ]
              refine take_op (v := ?vu7x35) 35 (Op.pick (Operand.tmp 10) (Operand.tmp 40) (Operand.const (Value.bool false))) 4 rfl rfl rfl rfl rfl (by kernel_rfl) (by kernel_rfl) (by kernel_rfl) (fun _ _ _ h => h) ?yu7x35 (by assumption) ?ru7x35
              case yu7x35 => (intro w' hSw; (try dsimp only at hSw); go_simp; try (with_reducible rfl))
              simp only [List.setIfInBounds_toArray, List.set_cons_zero, List.set_cons_succ]
              refine wpAnyH_done (by kernel_rfl) ?_ _
              clear hHeld
              obtain ⟨ie, _, hie, _, hsz, _⟩ := El_t.inf
              have rr := h.below HB
              have hslu := run_slice_upto (P := Try.prog) Try.underlying108 hie (by rw [hsz]; exact h) c i hi hc
              obtain ⟨A3, hsf, rT0⟩ := run_slice_from (P := Try.prog) Try.underlying108 hie (by rw [hsz]; exact h) c i hi hc
              rw [hsz, tcells_drop] at rT0
              have rT := rT0.below HB
              have rH := (h.take i hi).below HB
              rw [tcells_take] at rH
              have HSP := Lib.hid (putT_split ⟨yw, xA, xn, xc, true, xs⟩ ts i HY.out (by have := HL.out; omega) HN.out)
              clear rT0 rr hsz
              go_wp2_with fail
              refine wp_region_held_drew (S := (fun w' => w'.cell? ⟨w.heap.size, 0, none⟩ = some (.int .i64 yw) ∧ w'.cell? ⟨w.heap.size, 1, none⟩ = some (.slice xA xn xc) ∧ w'.cell? ⟨w.heap.size, 2, none⟩ = some (.bool true))) (by kernel_rfl) ?_ (fun hHeld => ?_)
              · replace HB := Below.drew HB; replace g0 := Blk.drew g0; replace rH := Rd.drew rH; replace rT := Rd.drew rT; (try dsimp only); exact ⟨g0.cell_ 0 rfl, g0.cell_ 1 rfl, g0.cell_ 2 rfl⟩
              replace HB := Below.drew HB
              replace g0 := Blk.drew g0
              replace rH := Rd.drew rH
              replace rT := Rd.drew rT
              have zHB := HB.size
              refine take_movev (v := ?vu4t7x1) 1 (Operand.tmp 0) rfl rfl (by first | exact .inl rfl | exact .inr rfl) rfl (by kernel_rfl) (by kernel_rfl) (by kernel_rfl) (fun _ _ _ h => h) (by assumption) ?yu4t7x1 ?ru4t7x1
              case yu4t7x1 => (go_simp; try (with_reducible rfl))
              simp only [List.setIfInBounds_toArray, List.set_cons_zero, List.set_cons_succ]
              refine take_movev (v := ?vu4t7x2) 2 (Operand.tmp 5) rfl rfl (by first | exact .inl rfl | exact .inr rfl) rfl (by kernel_rfl) (by kernel_rfl) (by kernel_rfl) (fun _ _ _ h => h) (by assumption) ?yu4t7x2 ?ru4t7x2
              case yu4t7x2 => (go_simp; try (with_reducible rfl))
              simp only [List.setIfInBounds_toArray, List.set_cons_zero, List.set_cons_succ]
              refine take_op (v := ?vu4t7x3) 3 (Op.slice 108 (Operand.tmp 45) none (some (Operand.tmp 46)) none) 108 rfl rfl rfl rfl rfl (by kernel_rfl) (by kernel_rfl) (by kernel_rfl) (fun _ _ _ h => h) ?yu4t7x3 (by assumption) ?ru4t7x3
              case yu4t7x3 => (intro w' hSw; (try dsimp only at hSw); go_simp; try (with_reducible rfl))
              simp only [List.setIfInBounds_toArray, List.set_cons_zero, List.set_cons_succ]
              refine take_op (v := ?vu4t7x5) 5 (Op.load 111 (Operand.tmp 3)) 111 rfl rfl rfl rfl rfl (by kernel_rfl) (by kernel_rfl) (by kernel_rfl) (fun _ _ _ h => h) ?yu4t7x5 (by assumption) ?ru4t7x5
              case yu4t7x5 => (intro w' hSw; (try dsimp only at hSw); go_simp; try (with_reducible rfl))
              simp only [List.setIfInBounds_toArray, List.set_cons_zero, List.set_cons_succ]
              refine take_movev (v := ?vu4t7x8) 8 (Operand.tmp 0) rfl rfl (by first | exact .inl rfl | exact .inr rfl) rfl (by kernel_rfl) (by kernel_rfl) (by kernel_rfl) (fun _ _ _ h => h) (by assumption) ?yu4t7x8 ?ru4t7x8
              case yu4t7x8 => (go_simp; try (with_reducible rfl))
              simp only [List.setIfInBounds_toArray, List.set_cons_zero, List.set_cons_succ]
              refine take_movev (v := ?vu4t7x9) 9 (Operand.tmp 5) rfl rfl (by first | exact .inl rfl | exact .inr rfl) rfl (by kernel_rfl) (by kernel_rfl) (by kernel_rfl) (fun _ _ _ h => h) (by assumption) ?yu4t7x9 ?ru4t7x9
              case yu4t7x9 => (go_simp; try (with_reducible rfl))
              simp only [List.setIfInBounds_toArray, List.set_cons_zero, List.set_cons_succ]
              refine take_op (v := ?vu4t7x10) 10 (Op.slice 108 (Operand.tmp 52) (some (Operand.tmp 53)) none none) 108 rfl rfl rfl rfl rfl (by kernel_rfl) (by kernel_rfl) (by kernel_rfl) (fun _ _ _ h => h) ?yu4t7x10 (by assumption) ?ru4t7x10
              case yu4t7x10 => (intro w' hSw; (try dsimp only at hSw); go_simp; try (with_reducible rfl))
              simp only [List.setIfInBounds_toArray, List.set_cons_zero, List.set_cons_succ]
              refine wpAnyH_ready (rs := [0, 6]) (by kernel_rfl) (by simp) (AllReadyH.cons rfl (fun K0 hK0 => ?ku4t7x0) (AllReadyH.cons rfl (fun K6 hK6 => ?ku4t7x6) AllReadyH.nil))
              case ku4t7x0 =>
                refine take_build (e := 111) (len := 0) (size := 3) (w.heap.size + 1) (([] : List Value)) 0 (Op.buildSlice 108 0 #[]) 108 rfl rfl rfl (by kernel_rfl) ?eu4t7xb1x0 (by rfl) (by decide) (by first | exact Nat.le_refl _ | (simp only [World.size_alloc, World.size_setCell, World.size_drew] at *; omega) | omega) ?_
                case eu4t7xb1x0 => (go_simp; try (first | with_reducible rfl | (simp [rcells, rcell]; done) | (simp [fcells]; done) | (simp [tcells]; done) | rfl))
                intro gx0 w0 o0 gr0 l0 m0
                have z0 := gr0.size
                try simp only [World.size_drew] at z0
                replace HB := below_grow HB gr0
                have zHB0 := HB.size
                replace g0 := Blk.grow0 g0 gr0
                replace rH := Rd.grow0 rH gr0 (by first | exact Nat.le_refl _ | (simp only [World.size_alloc, World.size_setCell, World.size_drew] at *; omega) | omega)
                replace rT := Rd.grow0 rT gr0 (by first | exact Nat.le_refl _ | (simp only [World.size_alloc, World.size_setCell, World.size_drew] at *; omega) | omega)
                refine hK0.out _ _ ?su4t7xb1x0 (fun hHeld => ?ru4t7xb1x0)
                case su4t7xb1x0 => ((try dsimp only); exact ⟨g0.cell_ 0 rfl, g0.cell_ 1 rfl, g0.cell_ 2 rfl⟩)
                try simp only [List.setIfInBounds_toArray, List.set_cons_zero, List.set_cons_succ]
                refine wpAnyH_ready (rs := [4, 6]) (by kernel_rfl) (by simp) (AllReadyH.cons rfl (fun K4 hK4 => ?ku4t7xb1x4) (AllReadyH.cons rfl (fun K6 hK6 => ?ku4t7xb1x6) AllReadyH.nil))
                case ku4t7xb1x4 =>
                  refine take_app El_t 4 (Operand.tmp 44) (Operand.tmp 47) 108 rfl rfl rfl (by kernel_rfl) o0 rfl (rH) rfl (tcells_one _) (by unfold maxLen; omega) (by omega) (by first | exact Nat.le_refl _ | (simp only [World.size_alloc, World.size_setCell, World.size_drew] at *; omega) | omega) ?_
                  intro A4 c4 w4 o4 gr4 at4
                  have z4 := gr4.size
                  try simp only [World.size_drew] at z4
                  replace HB := below_grown HB gr4 o0 (by first | exact Nat.le_refl _ | (simp only [World.size_alloc, World.size_setCell, World.size_drew] at *; omega) | omega)
                  have zHB4 := HB.size
                  replace g0 := Blk.grown g0 gr4 (by intro e; have := o0.blk _ e.symm; omega)
                  replace rH := Rd.grownOwn rH gr4 o0 (by first | exact Nat.le_refl _ | (simp only [World.size_alloc, World.size_setCell, World.size_drew] at *; omega) | omega) (by first | exact Nat.le_refl _ | (simp only [World.size_alloc, World.size_setCell, World.size_drew] at *; omega) | omega)
                  replace rT := Rd.grownOwn rT gr4 o0 (by first | exact Nat.le_refl _ | (simp only [World.size_alloc, World.size_setCell, World.size_drew] at *; omega) | omega) (by first | exact Nat.le_refl _ | (simp only [World.size_alloc, World.size_setCell, World.size_drew] at *; omega) | omega)
                  refine hK4.out _ _ ?su4t7xb1xb2x4 (fun hHeld => ?ru4t7xb1xb2x4)
                  case su4t7xb1xb2x4 => ((try dsimp only); exact ⟨g0.cell_ 0 rfl, g0.cell_ 1 rfl, g0.cell_ 2 rfl⟩)
                  try simp only [List.setIfInBounds_toArray, List.set_cons_zero, List.set_cons_succ]
                  refine wpAnyH_ready (rs := [6]) (by kernel_rfl) (by simp) (AllReadyH.cons rfl (fun K6 hK6 => ?ku4t7xb1xb2x6) AllReadyH.nil)
                  refine take_build (e := 111) (len := 1) (size := 3) (w.heap.size + 1) (tcells [⟨yw, xA, xn, xc, true, xs⟩]) 6 (Op.buildSlice 108 1 #[(0, Operand.tmp 49)]) 108 rfl rfl rfl (by kernel_rfl) ?eu4t7xb1xb2x6 (by rfl) (by decide) (by first | exact Nat.le_refl _ | (simp only [World.size_alloc, World.size_setCell, World.size_drew] at *; omega) | omega) ?_
                  case eu4t7xb1xb2x6 => (go_simp; try (first | with_reducible rfl | (simp [rcells, rcell]; done) | (simp [fcells]; done) | (simp [tcells]; done) | rfl))
                  intro gx6 w6 o6 gr6 l6 m6
                  have z6 := gr6.size
                  try simp only [World.size_drew] at z6
                  replace HB := below_grow HB gr6
                  have zHB6 := HB.size
                  replace g0 := Blk.grow0 g0 gr6
                  replace rH := Rd.grow0 rH gr6 (by first | exact Nat.le_refl _ | (simp only [World.size_alloc, World.size_setCell, World.size_drew] at *; omega) | omega)
                  replace rT := Rd.grow0 rT gr6 (by first | exact Nat.le_refl _ | (simp only [World.size_alloc, World.size_setCell, World.size_drew] at *; omega) | omega)
                  replace o4 := Own.grow0 o4 gr6
                  refine hK6.out _ _ ?su4t7xb1xb2x6 (fun hHeld => ?ru4t7xb1xb2x6)
                  case su4t7xb1xb2x6 => ((try dsimp only); exact ⟨g0.cell_ 0 rfl, g0.cell_ 1 rfl, g0.cell_ 2 rfl⟩)
                  try simp only [List.setIfInBounds_toArray, List.set_cons_zero, List.set_cons_succ]
                  refine wpAnyH_ready (rs := [7]) (by kernel_rfl) (by simp) (AllReadyH.cons rfl (fun K7 hK7 => ?ku4t7xb1xb2x7) AllReadyH.nil)
                  refine take_app El_t 7 (Operand.tmp 48) (Operand.tmp 50) 108 rfl rfl rfl (by kernel_rfl) o4 rfl (o6.rd) rfl (tcells_one _) (by unfold maxLen; omega) (by omega) (by first | exact Nat.le_refl _ | (simp only [World.size_alloc, World.size_setCell, World.size_drew] at *; omega) | omega) ?_
                  intro A7 c7 w7 o7 gr7 at7
                  have z7 := gr7.size
                  try simp only [World.size_drew] at z7
                  replace HB := below_grown HB gr7 o4 (by first | exact Nat.le_refl _ | (simp only [World.size_alloc, World.size_setCell, World.size_drew] at *; omega) | omega)
                  have zHB7 := HB.size
                  replace g0 := Blk.grown g0 gr7 (by intro e; have := o4.blk _ e.symm; omega)
                  replace rH := Rd.grownOwn rH gr7 o4 (by first | exact Nat.le_refl _ | (simp only [World.size_alloc, World.size_setCell, World.size_drew] at *; omega) | omega) (by first | exact Nat.le_refl _ | (simp only [World.size_alloc, World.size_setCell, World.size_drew] at *; omega) | omega)
                  replace rT := Rd.grownOwn rT gr7 o4 (by first | exact Nat.le_refl _ | (simp only [World.size_alloc, World.size_setCell, World.size_drew] at *; omega) | omega) (by first | exact Nat.le_refl _ | (simp only [World.size_alloc, World.size_setCell, World.size_drew] at *; omega) | omega)
                  refine hK7.out _ _ ?su4t7xb1xb2x7 (fun hHeld => ?ru4t7xb1xb2x7)
                  case su4t7xb1xb2x7 => ((try dsimp only); exact ⟨g0.cell_ 0 rfl, g0.cell_ 1 rfl, g0.cell_ 2 rfl⟩)
                  try simp only [List.setIfInBounds_toArray, List.set_cons_zero, List.set_cons_succ]
                  refine wpAnyH_ready (rs := [11]) (by kernel_rfl) (by simp) (AllReadyH.cons rfl (fun K11 hK11 => ?ku4t7xb1xb2x11) AllReadyH.nil)
                  refine take_app El_t 11 (Operand.tmp 51) (Operand.tmp 54) 108 rfl rfl rfl (by kernel_rfl) o7 rfl (rT) rfl (tcells_one _) (by unfold maxLen; omega) (by omega) (by first | exact Nat.le_refl _ | (simp only [World.size_alloc, World.size_setCell, World.size_drew] at *; omega) | omega) ?_
                  intro A11 c11 w11 o11 gr11 at11
                  have z11 := gr11.size
                  try simp only [World.size_drew] at z11
                  replace HB := below_grown HB gr11 o7 (by first | exact Nat.le_refl _ | (simp only [World.size_alloc, World.size_setCell, World.size_drew] at *; omega) | omega)
                  have zHB11 := HB.size
                  replace g0 := Blk.grown g0 gr11 (by intro e; have := o7.blk _ e.symm; omega)
                  replace rH := Rd.grownOwn rH gr11 o7 (by first | exact Nat.le_refl _ | (simp only [World.size_alloc, World.size_setCell, World.size_drew] at *; omega) | omega) (by first | exact Nat.le_refl _ | (simp only [World.size_alloc, World.size_setCell, World.size_drew] at *; omega) | omega)
                  replace rT := Rd.grownOwn rT gr11 o7 (by first | exact Nat.le_refl _ | (simp only [World.size_alloc, World.size_setCell, World.size_drew] at *; omega) | omega) (by first | exact Nat.le_refl _ | (simp only [World.size_alloc, World.size_setCell, World.size_drew] at *; omega) | omega)
                  refine hK11.out _ _ ?su4t7xb1xb2x11 (fun hHeld => ?ru4t7xb1xb2x11)
                  case su4t7xb1xb2x11 => ((try dsimp only); exact ⟨g0.cell_ 0 rfl, g0.cell_ 1 rfl, g0.cell_ 2 rfl⟩)
                  try simp only [List.setIfInBounds_toArray, List.set_cons_zero, List.set_cons_succ]
                  refine take_op (v := ?vu4t7xb1xb2x12) 12 (Op.assign (Operand.tmp 55)) 108 rfl rfl rfl rfl rfl (by kernel_rfl) (by kernel_rfl) (by kernel_rfl) (fun _ _ _ h => h) ?yu4t7xb1xb2x12 (by assumption) ?ru4t7xb1xb2x12
                  case yu4t7xb1xb2x12 => (intro w' hSw; (try dsimp only at hSw); go_simp; try (with_reducible rfl))
                  simp only [List.setIfInBounds_toArray, List.set_cons_zero, List.set_cons_succ]
                  refine wpAnyH_done (by kernel_rfl) ?_ _
                  clear hHeld
                  have o12 := o11.base_le (base' := w.heap.size) (by omega)
                  rw [List.nil_append, ← tcells_app, ← tcells_app, show 0 + i + 1 + (n - i) = n + 1 by omega, List.append_assoc, List.singleton_append, ← HSP.out] at o12
                  have hnn : 0 + i + 1 + (n - i) = n + 1 := by omega
                  go_wp2_with fail
                  try rw [Exit.noGoto_ret]
                  go_ret
                  refine ⟨A11, c11, ?_, o12, HB⟩
                  first | (rw [← hnn]; rfl) | (simp; omega) | (simp only [Ending.returned.injEq, Value.slice.injEq]; simp; omega)
                case ku4t7xb1x6 =>
                  refine take_build (e := 111) (len := 1) (size := 3) (w.heap.size + 1) (tcells [⟨yw, xA, xn, xc, true, xs⟩]) 6 (Op.buildSlice 108 1 #[(0, Operand.tmp 49)]) 108 rfl rfl rfl (by kernel_rfl) ?eu4t7xb1xb6x6 (by rfl) (by decide) (by first | exact Nat.le_refl _ | (simp only [World.size_alloc, World.size_setCell, World.size_drew] at *; omega) | omega) ?_
                  case eu4t7xb1xb6x6 => (go_simp; try (first | with_reducible rfl | (simp [rcells, rcell]; done) | (simp [fcells]; done) | (simp [tcells]; done) | rfl))
                  intro gx6 w6 o6 gr6 l6 m6
                  have z6 := gr6.size
                  try simp only [World.size_drew] at z6
                  replace HB := below_grow HB gr6
                  have zHB6 := HB.size
                  replace g0 := Blk.grow0 g0 gr6
                  replace rH := Rd.grow0 rH gr6 (by first | exact Nat.le_refl _ | (simp only [World.size_alloc, World.size_setCell, World.size_drew] at *; omega) | omega)
                  replace rT := Rd.grow0 rT gr6 (by first | exact Nat.le_refl _ | (simp only [World.size_alloc, World.size_setCell, World.size_drew] at *; omega) | omega)
                  replace o0 := Own.grow0 o0 gr6
                  refine hK6.out _ _ ?su4t7xb1xb6x6 (fun hHeld => ?ru4t7xb1xb6x6)
                  case su4t7xb1xb6x6 => ((try dsimp only); exact ⟨g0.cell_ 0 rfl, g0.cell_ 1 rfl, g0.cell_ 2 rfl⟩)
                  try simp only [List.setIfInBounds_toArray, List.set_cons_zero, List.set_cons_succ]
                  refine wpAnyH_ready (rs := [4]) (by kernel_rfl) (by simp) (AllReadyH.cons rfl (fun K4 hK4 => ?ku4t7xb1xb6x4) AllReadyH.nil)
                  refine take_app El_t 4 (Operand.tmp 44) (Operand.tmp 47) 108 rfl rfl rfl (by kernel_rfl) o0 rfl (rH) rfl (tcells_one _) (by unfold maxLen; omega) (by omega) (by first | exact Nat.le_refl _ | (simp only [World.size_alloc, World.size_setCell, World.size_drew] at *; omega) | omega) ?_
                  intro A4 c4 w4 o4 gr4 at4
                  have z4 := gr4.size
                  try simp only [World.size_drew] at z4
                  replace HB := below_grown HB gr4 o0 (by first | exact Nat.le_refl _ | (simp only [World.size_alloc, World.size_setCell, World.size_drew] at *; omega) | omega)
                  have zHB4 := HB.size
                  replace g0 := Blk.grown g0 gr4 (by intro e; have := o0.blk _ e.symm; omega)
                  replace rH := Rd.grownOwn rH gr4 o0 (by first | exact Nat.le_refl _ | (simp only [World.size_alloc, World.size_setCell, World.size_drew] at *; omega) | omega) (by first | exact Nat.le_refl _ | (simp only [World.size_alloc, World.size_setCell, World.size_drew] at *; omega) | omega)
                  replace rT := Rd.grownOwn rT gr4 o0 (by first | exact Nat.le_refl _ | (simp only [World.size_alloc, World.size_setCell, World.size_drew] at *; omega) | omega) (by first | exact Nat.le_refl _ | (simp only [World.size_alloc, World.size_setCell, World.size_drew] at *; omega) | omega)
                  replace o6 := Own.other o6 gr4 (by intro k hk e; simp only [blkOf, Option.map_some, Option.some.injEq] at hk e; omega)
                  refine hK4.out _ _ ?su4t7xb1xb6x4 (fun hHeld => ?ru4t7xb1xb6x4)
                  case su4t7xb1xb6x4 => ((try dsimp only); exact ⟨g0.cell_ 0 rfl, g0.cell_ 1 rfl, g0.cell_ 2 rfl⟩)
                  try simp only [List.setIfInBounds_toArray, List.set_cons_zero, List.set_cons_succ]
                  refine wpAnyH_ready (rs := [7]) (by kernel_rfl) (by simp) (AllReadyH.cons rfl (fun K7 hK7 => ?ku4t7xb1xb6x7) AllReadyH.nil)
                  refine take_app El_t 7 (Operand.tmp 48) (Operand.tmp 50) 108 rfl rfl rfl (by kernel_rfl) o4 rfl (o6.rd) rfl (tcells_one _) (by unfold maxLen; omega) (by omega) (by first | exact Nat.le_refl _ | (simp only [World.size_alloc, World.size_setCell, World.size_drew] at *; omega) | omega) ?_
                  intro A7 c7 w7 o7 gr7 at7
                  have z7 := gr7.size
                  try simp only [World.size_drew] at z7
                  replace HB := below_grown HB gr7 o4 (by first | exact Nat.le_refl _ | (simp only [World.size_alloc, World.size_setCell, World.size_drew] at *; omega) | omega)
                  have zHB7 := HB.size
                  replace g0 := Blk.grown g0 gr7 (by intro e; have := o4.blk _ e.symm; omega)
                  replace rH := Rd.grownOwn rH gr7 o4 (by first | exact Nat.le_refl _ | (simp only [World.size_alloc, World.size_setCell, World.size_drew] at *; omega) | omega) (by first | exact Nat.le_refl _ | (simp only [World.size_alloc, World.size_setCell, World.size_drew] at *; omega) | omega)
                  replace rT := Rd.grownOwn rT gr7 o4 (by first | exact Nat.le_refl _ | (simp only [World.size_alloc, World.size_setCell, World.size_drew] at *; omega) | omega) (by first | exact Nat.le_refl _ | (simp only [World.size_alloc, World.size_setCell, World.size_drew] at *; omega) | omega)
                  refine hK7.out _ _ ?su4t7xb1xb6x7 (fun hHeld => ?ru4t7xb1xb6x7)
                  case su4t7xb1xb6x7 => ((try dsimp only); exact ⟨g0.cell_ 0 rfl, g0.cell_ 1 rfl, g0.cell_ 2 rfl⟩)
                  try simp only [List.setIfInBounds_toArray, List.set_cons_zero, List.set_cons_succ]
                  refine wpAnyH_ready (rs := [11]) (by kernel_rfl) (by simp) (AllReadyH.cons rfl (fun K11 hK11 => ?ku4t7xb1xb6x11) AllReadyH.nil)
                  refine take_app El_t 11 (Operand.tmp 51) (Operand.tmp 54) 108 rfl rfl rfl (by kernel_rfl) o7 rfl (rT) rfl (tcells_one _) (by unfold maxLen; omega) (by omega) (by first | exact Nat.le_refl _ | (simp only [World.size_alloc, World.size_setCell, World.size_drew] at *; omega) | omega) ?_
                  intro A11 c11 w11 o11 gr11 at11
                  have z11 := gr11.size
                  try simp only [World.size_drew] at z11
                  replace HB := below_grown HB gr11 o7 (by first | exact Nat.le_refl _ | (simp only [World.size_alloc, World.size_setCell, World.size_drew] at *; omega) | omega)
                  have zHB11 := HB.size
                  replace g0 := Blk.grown g0 gr11 (by intro e; have := o7.blk _ e.symm; omega)
                  replace rH := Rd.grownOwn rH gr11 o7 (by first | exact Nat.le_refl _ | (simp only [World.size_alloc, World.size_setCell, World.size_drew] at *; omega) | omega) (by first | exact Nat.le_refl _ | (simp only [World.size_alloc, World.size_setCell, World.size_drew] at *; omega) | omega)
                  replace rT := Rd.grownOwn rT gr11 o7 (by first | exact Nat.le_refl _ | (simp only [World.size_alloc, World.size_setCell, World.size_drew] at *; omega) | omega) (by first | exact Nat.le_refl _ | (simp only [World.size_alloc, World.size_setCell, World.size_drew] at *; omega) | omega)
                  refine hK11.out _ _ ?su4t7xb1xb6x11 (fun hHeld => ?ru4t7xb1xb6x11)
                  case su4t7xb1xb6x11 => ((try dsimp only); exact ⟨g0.cell_ 0 rfl, g0.cell_ 1 rfl, g0.cell_ 2 rfl⟩)
                  try simp only [List.setIfInBounds_toArray, List.set_cons_zero, List.set_cons_succ]
                  refine take_op (v := ?vu4t7xb1xb6x12) 12 (Op.assign (Operand.tmp 55)) 108 rfl rfl rfl rfl rfl (by kernel_rfl) (by kernel_rfl) (by kernel_rfl) (fun _ _ _ h => h) ?yu4t7xb1xb6x12 (by assumption) ?ru4t7xb1xb6x12
                  case yu4t7xb1xb6x12 => (intro w' hSw; (try dsimp only at hSw); go_simp; try (with_reducible rfl))
                  simp only [List.setIfInBounds_toArray, List.set_cons_zero, List.set_cons_succ]
                  refine wpAnyH_done (by kernel_rfl) ?_ _
                  clear hHeld
                  have o12 := o11.base_le (base' := w.heap.size) (by omega)
                  rw [List.nil_append, ← tcells_app, ← tcells_app, show 0 + i + 1 + (n - i) = n + 1 by omega, List.append_assoc, List.singleton_append, ← HSP.out] at o12
                  have hnn : 0 + i + 1 + (n - i) = n + 1 := by omega
                  go_wp2_with fail
                  try rw [Exit.noGoto_ret]
                  go_ret
                  refine ⟨A11, c11, ?_, o12, HB⟩
                  first | (rw [← hnn]; rfl) | (simp; omega) | (simp only [Ending.returned.injEq, Value.slice.injEq]; simp; omega)
              case ku4t7x6 =>
                refine take_build (e := 111) (len := 1) (size := 3) (w.heap.size + 1) (tcells [⟨yw, xA, xn, xc, true, xs⟩]) 6 (Op.buildSlice 108 1 #[(0, Operand.tmp 49)]) 108 rfl rfl rfl (by kernel_rfl) ?eu4t7xb10x6 (by rfl) (by decide) (by first | exact Nat.le_refl _ | (simp only [World.size_alloc, World.size_setCell, World.size_drew] at *; omega) | omega) ?_
                case eu4t7xb10x6 => (go_simp; try (first | with_reducible rfl | (simp [rcells, rcell]; done) | (simp [fcells]; done) | (simp [tcells]; done) | rfl))
                intro gx6 w6 o6 gr6 l6 m6
                have z6 := gr6.size
                try simp only [World.size_drew] at z6
                replace HB := below_grow HB gr6
                have zHB6 := HB.size
                replace g0 := Blk.grow0 g0 gr6
                replace rH := Rd.grow0 rH gr6 (by first | exact Nat.le_refl _ | (simp only [World.size_alloc, World.size_setCell, World.size_drew] at *; omega) | omega)
                replace rT := Rd.grow0 rT gr6 (by first | exact Nat.le_refl _ | (simp only [World.size_alloc, World.size_setCell, World.size_drew] at *; omega) | omega)
                refine hK6.out _ _ ?su4t7xb10x6 (fun hHeld => ?ru4t7xb10x6)
                case su4t7xb10x6 => ((try dsimp only); exact ⟨g0.cell_ 0 rfl, g0.cell_ 1 rfl, g0.cell_ 2 rfl⟩)
                try simp only [List.setIfInBounds_toArray, List.set_cons_zero, List.set_cons_succ]
                refine wpAnyH_ready (rs := [0]) (by kernel_rfl) (by simp) (AllReadyH.cons rfl (fun K0 hK0 => ?ku4t7xb10x0) AllReadyH.nil)
                refine take_build (e := 111) (len := 0) (size := 3) (w.heap.size + 1) (([] : List Value)) 0 (Op.buildSlice 108 0 #[]) 108 rfl rfl rfl (by kernel_rfl) ?eu4t7xb10x0 (by rfl) (by decide) (by first | exact Nat.le_refl _ | (simp only [World.size_alloc, World.size_setCell, World.size_drew] at *; omega) | omega) ?_
                case eu4t7xb10x0 => (go_simp; try (first | with_reducible rfl | (simp [rcells, rcell]; done) | (simp [fcells]; done) | (simp [tcells]; done) | rfl))
                intro gx0 w0 o0 gr0 l0 m0
                have z0 := gr0.size
                try simp only [World.size_drew] at z0
                replace HB := below_grow HB gr0
                have zHB0 := HB.size
                replace g0 := Blk.grow0 g0 gr0
                replace rH := Rd.grow0 rH gr0 (by first | exact Nat.le_refl _ | (simp only [World.size_alloc, World.size_setCell, World.size_drew] at *; omega) | omega)
                replace rT := Rd.grow0 rT gr0 (by first | exact Nat.le_refl _ | (simp only [World.size_alloc, World.size_setCell, World.size_drew] at *; omega) | omega)
                replace o6 := Own.grow0 o6 gr0
                refine hK0.out _ _ ?su4t7xb10x0 (fun hHeld => ?ru4t7xb10x0)
                case su4t7xb10x0 => ((try dsimp only); exact ⟨g0.cell_ 0 rfl, g0.cell_ 1 rfl, g0.cell_ 2 rfl⟩)
                try simp only [List.setIfInBounds_toArray, List.set_cons_zero, List.set_cons_succ]
                refine wpAnyH_ready (rs := [4]) (by kernel_rfl) (by simp) (AllReadyH.cons rfl (fun K4 hK4 => ?ku4t7xb10x4) AllReadyH.nil)
                refine take_app El_t 4 (Operand.tmp 44) (Operand.tmp 47) 108 rfl rfl rfl (by kernel_rfl) o0 rfl (rH) rfl (tcells_one _) (by unfold maxLen; omega) (by omega) (by first | exact Nat.le_refl _ | (simp only [World.size_alloc, World.size_setCell, World.size_drew] at *; omega) | omega) ?_
                intro A4 c4 w4 o4 gr4 at4
                have z4 := gr4.size
                try simp only [World.size_drew] at z4
                replace HB := below_grown HB gr4 o0 (by first | exact Nat.le_refl _ | (simp only [World.size_alloc, World.size_setCell, World.size_drew] at *; omega) | omega)
                have zHB4 := HB.size
                replace g0 := Blk.grown g0 gr4 (by intro e; have := o0.blk _ e.symm; omega)
                replace rH := Rd.grownOwn rH gr4 o0 (by first | exact Nat.le_refl _ | (simp only [World.size_alloc, World.size_setCell, World.size_drew] at *; omega) | omega) (by first | exact Nat.le_refl _ | (simp only [World.size_alloc, World.size_setCell, World.size_drew] at *; omega) | omega)
                replace rT := Rd.grownOwn rT gr4 o0 (by first | exact Nat.le_refl _ | (simp only [World.size_alloc, World.size_setCell, World.size_drew] at *; omega) | omega) (by first | exact Nat.le_refl _ | (simp only [World.size_alloc, World.size_setCell, World.size_drew] at *; omega) | omega)
                replace o6 := Own.other o6 gr4 (by intro k hk e; simp only [blkOf, Option.map_some, Option.some.injEq] at hk e; omega)
                refine hK4.out _ _ ?su4t7xb10x4 (fun hHeld => ?ru4t7xb10x4)
                case su4t7xb10x4 => ((try dsimp only); exact ⟨g0.cell_ 0 rfl, g0.cell_ 1 rfl, g0.cell_ 2 rfl⟩)
                try simp only [List.setIfInBounds_toArray, List.set_cons_zero, List.set_cons_succ]
                refine wpAnyH_ready (rs := [7]) (by kernel_rfl) (by simp) (AllReadyH.cons rfl (fun K7 hK7 => ?ku4t7xb10x7) AllReadyH.nil)
                refine take_app El_t 7 (Operand.tmp 48) (Operand.tmp 50) 108 rfl rfl rfl (by kernel_rfl) o4 rfl (o6.rd) rfl (tcells_one _) (by unfold maxLen; omega) (by omega) (by first | exact Nat.le_refl _ | (simp only [World.size_alloc, World.size_setCell, World.size_drew] at *; omega) | omega) ?_
                intro A7 c7 w7 o7 gr7 at7
                have z7 := gr7.size
                try simp only [World.size_drew] at z7
                replace HB := below_grown HB gr7 o4 (by first | exact Nat.le_refl _ | (simp only [World.size_alloc, World.size_setCell, World.size_drew] at *; omega) | omega)
                have zHB7 := HB.size
                replace g0 := Blk.grown g0 gr7 (by intro e; have := o4.blk _ e.symm; omega)
                replace rH := Rd.grownOwn rH gr7 o4 (by first | exact Nat.le_refl _ | (simp only [World.size_alloc, World.size_setCell, World.size_drew] at *; omega) | omega) (by first | exact Nat.le_refl _ | (simp only [World.size_alloc, World.size_setCell, World.size_drew] at *; omega) | omega)
                replace rT := Rd.grownOwn rT gr7 o4 (by first | exact Nat.le_refl _ | (simp only [World.size_alloc, World.size_setCell, World.size_drew] at *; omega) | omega) (by first | exact Nat.le_refl _ | (simp only [World.size_alloc, World.size_setCell, World.size_drew] at *; omega) | omega)
                refine hK7.out _ _ ?su4t7xb10x7 (fun hHeld => ?ru4t7xb10x7)
                case su4t7xb10x7 => ((try dsimp only); exact ⟨g0.cell_ 0 rfl, g0.cell_ 1 rfl, g0.cell_ 2 rfl⟩)
                try simp only [List.setIfInBounds_toArray, List.set_cons_zero, List.set_cons_succ]
                refine wpAnyH_ready (rs := [11]) (by kernel_rfl) (by simp) (AllReadyH.cons rfl (fun K11 hK11 => ?ku4t7xb10x11) AllReadyH.nil)
                refine take_app El_t 11 (Operand.tmp 51) (Operand.tmp 54) 108 rfl rfl rfl (by kernel_rfl) o7 rfl (rT) rfl (tcells_one _) (by unfold maxLen; omega) (by omega) (by first | exact Nat.le_refl _ | (simp only [World.size_alloc, World.size_setCell, World.size_drew] at *; omega) | omega) ?_
                intro A11 c11 w11 o11 gr11 at11
                have z11 := gr11.size
                try simp only [World.size_drew] at z11
                replace HB := below_grown HB gr11 o7 (by first | exact Nat.le_refl _ | (simp only [World.size_alloc, World.size_setCell, World.size_drew] at *; omega) | omega)
                have zHB11 := HB.size
                replace g0 := Blk.grown g0 gr11 (by intro e; have := o7.blk _ e.symm; omega)
                replace rH := Rd.grownOwn rH gr11 o7 (by first | exact Nat.le_refl _ | (simp only [World.size_alloc, World.size_setCell, World.size_drew] at *; omega) | omega) (by first | exact Nat.le_refl _ | (simp only [World.size_alloc, World.size_setCell, World.size_drew] at *; omega) | omega)
                replace rT := Rd.grownOwn rT gr11 o7 (by first | exact Nat.le_refl _ | (simp only [World.size_alloc, World.size_setCell, World.size_drew] at *; omega) | omega) (by first | exact Nat.le_refl _ | (simp only [World.size_alloc, World.size_setCell, World.size_drew] at *; omega) | omega)
                refine hK11.out _ _ ?su4t7xb10x11 (fun hHeld => ?ru4t7xb10x11)
                case su4t7xb10x11 => ((try dsimp only); exact ⟨g0.cell_ 0 rfl, g0.cell_ 1 rfl, g0.cell_ 2 rfl⟩)
                try simp only [List.setIfInBounds_toArray, List.set_cons_zero, List.set_cons_succ]
                refine take_op (v := ?vu4t7xb10x12) 12 (Op.assign (Operand.tmp 55)) 108 rfl rfl rfl rfl rfl (by kernel_rfl) (by kernel_rfl) (by kernel_rfl) (fun _ _ _ h => h) ?yu4t7xb10x12 (by assumption) ?ru4t7xb10x12
                case yu4t7xb10x12 => (intro w' hSw; (try dsimp only at hSw); go_simp; try (with_reducible rfl))
                simp only [List.setIfInBounds_toArray, List.set_cons_zero, List.set_cons_succ]
                refine wpAnyH_done (by kernel_rfl) ?_ _
                clear hHeld
                have o12 := o11.base_le (base' := w.heap.size) (by omega)
                rw [List.nil_append, ← tcells_app, ← tcells_app, show 0 + i + 1 + (n - i) = n + 1 by omega, List.append_assoc, List.singleton_append, ← HSP.out] at o12
                have hnn : 0 + i + 1 + (n - i) = n + 1 := by omega
                go_wp2_with fail
                try rw [Exit.noGoto_ret]
                go_ret
                refine ⟨A11, c11, ?_, o12, HB⟩
                first | (rw [← hnn]; rfl) | (simp; omega) | (simp only [Ending.returned.injEq, Value.slice.injEq]; simp; omega)
        · have q2b : (yw == xw) = false := by simp [q2]
          have q1d : decide (yw < xw) = false := by simp; omega
          have HN := Lib.hid (show ∀ h : i < ts.length, goesT ts[i] ⟨xw, xA, xn, xc, xl, xs⟩ = false from fun h => by rw [HTI.out]; simp [goesT, q2]; omega)
          go_wp2_with fail
          refine wp_region_held_drew (S := (fun w' => w'.cell? ⟨b, o + i * 3, none⟩ = some (.int .i64 yw) ∧ w'.cell? ⟨b, o + i * 3 + 2, none⟩ = some (.bool yl) ∧ w'.cell? ⟨w.heap.size, 0, none⟩ = some (.int .i64 xw) ∧ w'.cell? ⟨w.heap.size, 2, none⟩ = some (.bool xl))) (by kernel_rfl) ?_ (fun hHeld => ?_)
          · replace HB := Below.drew HB; replace g0 := Blk.drew g0; (try dsimp only); exact ⟨(HB.cell hbb).trans C0.out.1, (HB.cell hbb).trans C0.out.2, g0.cell_ 0 rfl, g0.cell_ 2 rfl⟩
          replace HB := Below.drew HB
          replace g0 := Blk.drew g0
          have zHB := HB.size
          refine take_movev (v := ?vu8x0) 0 (Operand.tmp 5) rfl rfl (by first | exact .inl rfl | exact .inr rfl) rfl (by kernel_rfl) (by kernel_rfl) (by kernel_rfl) (fun _ _ _ h => h) (by assumption) ?yu8x0 ?ru8x0
          case yu8x0 => (go_simp; try (with_reducible rfl))
          simp only [List.setIfInBounds_toArray, List.set_cons_zero, List.set_cons_succ]
          refine take_movev (v := ?vu8x1) 1 (Operand.tmp 0) rfl rfl (by first | exact .inl rfl | exact .inr rfl) rfl (by kernel_rfl) (by kernel_rfl) (by kernel_rfl) (fun _ _ _ h => h) (by assumption) ?yu8x1 ?ru8x1
          case yu8x1 => (go_simp; try (with_reducible rfl))
          simp only [List.setIfInBounds_toArray, List.set_cons_zero, List.set_cons_succ]
          refine take_op (v := ?vu8x2) 2 (Op.call { callee := Callee.builtin Builtin.len, args := #[Operand.tmp 7], argTypes := #[108] }) 3 rfl rfl rfl rfl rfl (by kernel_rfl) (by kernel_rfl) (by kernel_rfl) (fun _ _ _ h => h) ?yu8x2 (by assumption) ?ru8x2
          case yu8x2 => (intro w' hSw; (try dsimp only at hSw); go_simp; try (with_reducible rfl))
          simp only [List.setIfInBounds_toArray, List.set_cons_zero, List.set_cons_succ]
          refine take_op (v := ?vu8x3) 3 (Op.binOp BinOp.lss 3 (Operand.tmp 6) (Operand.tmp 8) 3) 4 rfl rfl rfl rfl rfl (by kernel_rfl) (by kernel_rfl) (by kernel_rfl) (fun _ _ _ h => h) ?yu8x3 (by assumption) ?ru8x3
          case yu8x3 => (intro w' hSw; (try dsimp only at hSw); go_simp; try (with_reducible rfl))
          simp only [List.setIfInBounds_toArray, List.set_cons_zero, List.set_cons_succ]
          refine take_movev (v := ?vu8x4) 4 (Operand.tmp 9) rfl rfl (by first | exact .inl rfl | exact .inr rfl) rfl (by kernel_rfl) (by kernel_rfl) (by kernel_rfl) (fun _ _ _ h => h) (by assumption) ?yu8x4 ?ru8x4
          case yu8x4 => (go_simp; try (with_reducible rfl))
          simp only [List.setIfInBounds_toArray, List.set_cons_zero, List.set_cons_succ]
          refine take_movev (v := ?vu8x5) 5 (Operand.tmp 0) rfl rfl (by first | exact .inl rfl | exact .inr rfl) rfl (by kernel_rfl) (by kernel_rfl) (by kernel_rfl) (fun _ _ _ h => h) (by assumption) ?yu8x5 ?ru8x5
          case yu8x5 => (go_simp; try (with_reducible rfl))
          simp only [List.setIfInBounds_toArray, List.set_cons_zero, List.set_cons_succ]
          refine take_movev (v := ?vu8x6) 6 (Operand.tmp 5) rfl rfl (by first | exact .inl rfl | exact .inr rfl) rfl (by kernel_rfl) (by kernel_rfl) (by kernel_rfl) (fun _ _ _ h => h) (by assumption) ?yu8x6 ?ru8x6
          case yu8x6 => (go_simp; try (with_reducible rfl))
          simp only [List.setIfInBounds_toArray, List.set_cons_zero, List.set_cons_succ]
          refine take_op (v := ?vu8x7) 7 (Op.indexAddr 108 (Operand.tmp 11) (Operand.tmp 12)) 0 rfl rfl rfl rfl rfl (by kernel_rfl) (by kernel_rfl) (by kernel_rfl) (fun _ _ _ h => h) ?yu8x7 (by assumption) ?ru8x7
          case yu8x7 => (intro w' hSw; (try dsimp only at hSw); go_simp; try (with_reducible rfl))
          simp only [List.setIfInBounds_toArray, List.set_cons_zero, List.set_cons_succ]
          refine take_op (v := ?vu8x8) 8 (Op.fieldAddr 111 (Operand.tmp 13) 0) 0 rfl rfl rfl rfl rfl (by kernel_rfl) (by kernel_rfl) (by kernel_rfl) (fun _ _ _ h => h) ?yu8x8 (by assumption) ?ru8x8
          case yu8x8 => (intro w' hSw; (try dsimp only at hSw); go_simp; try (with_reducible rfl))
          simp only [List.setIfInBounds_toArray, List.set_cons_zero, List.set_cons_succ]
          refine take_op (v := ?vu8x9) 9 (Op.load 3 (Operand.tmp 14)) 3 rfl rfl rfl rfl rfl (by kernel_rfl) (by kernel_rfl) (by kernel_rfl) (fun _ _ _ h => h) ?yu8x9 (by assumption) ?ru8x9
          case yu8x9 => (intro w' hSw; (try dsimp only at hSw); go_simp; try (with_reducible rfl))
          simp only [List.setIfInBounds_toArray, List.set_cons_zero, List.set_cons_succ]
          refine take_op (v := ?vu8x10) 10 (Op.fieldAddr 111 (Operand.tmp 3) 0) 0 rfl rfl rfl rfl rfl (by kernel_rfl) (by kernel_rfl) (by kernel_rfl) (fun _ _ _ h => h) ?yu8x10 (by assumption) ?ru8x10
          case yu8x10 => (intro w' hSw; (try dsimp only at hSw); go_simp; try (with_reducible rfl))
          simp only [List.setIfInBounds_toArray, List.set_cons_zero, List.set_cons_succ]
          refine take_op (v := ?vu8x11) 11 (Op.load 3 (Operand.tmp 16)) 3 rfl rfl rfl rfl rfl (by kernel_rfl) (by kernel_rfl) (by kernel_rfl) (fun _ _ _ h => h) ?yu8x11 (by assumption) ?ru8x11
          case yu8x11 => (intro w' hSw; (try dsimp only at hSw); go_simp; try (with_reducible rfl))
          simp only [List.setIfInBounds_toArray, List.set_cons_zero, List.set_cons_succ]
          refine take_op (v := ?vu8x12) 12 (Op.binOp BinOp.lss 3 (Operand.tmp 15) (Operand.tmp 17) 3) 4 rfl rfl rfl rfl rfl (by kernel_rfl) (by kernel_rfl) (by kernel_rfl) (fun _ _ _ h => h) ?yu8x12 (by assumption) ?ru8x12
          case yu8x12 => (intro w' hSw; (try dsimp only at hSw); go_simp; try (with_reducible rfl))
          simp only [List.setIfInBounds_toArray, List.set_cons_zero, List.set_cons_succ]
          refine take_movev (v := ?vu8x13) 13 (Operand.tmp 18) rfl rfl (by first | exact .inl rfl | exact .inr rfl) rfl (by kernel_rfl) (by kernel_rfl) (by kernel_rfl) (fun _ _ _ h => h) (by assumption) ?yu8x13 ?ru8x13
          case yu8x13 => (go_simp; try (with_reducible rfl))
          simp only [List.setIfInBounds_toArray, List.set_cons_zero, List.set_cons_succ]
          refine take_movev (v := ?vu8x14) 14 (Operand.tmp 0) rfl rfl (by first | exact .inl rfl | exact .inr rfl) rfl (by kernel_rfl) (by kernel_rfl) (by kernel_rfl) (fun _ _ _ h => h) (by assumption) ?yu8x14 ?ru8x14
          case yu8x14 => (go_simp; try (with_reducible rfl))
          simp only [List.setIfInBounds_toArray, List.set_cons_zero, List.set_cons_succ]
          refine take_movev (v := ?vu8x15) 15 (Operand.tmp 5) rfl rfl (by first | exact .inl rfl | exact .inr rfl) rfl (by kernel_rfl) (by kernel_rfl) (by kernel_rfl) (fun _ _ _ h => h) (by assumption) ?yu8x15 ?ru8x15
          case yu8x15 => (go_simp; try (with_reducible rfl))
          simp only [List.setIfInBounds_toArray, List.set_cons_zero, List.set_cons_succ]
          refine take_op (v := ?vu8x16) 16 (Op.indexAddr 108 (Operand.tmp 20) (Operand.tmp 21)) 0 rfl rfl rfl rfl rfl (by kernel_rfl) (by kernel_rfl) (by kernel_rfl) (fun _ _ _ h => h) ?yu8x16 (by assumption) ?ru8x16
          case yu8x16 => (intro w' hSw; (try dsimp only at hSw); go_simp; try (with_reducible rfl))
          simp only [List.setIfInBounds_toArray, List.set_cons_zero, List.set_cons_succ]
          refine take_op (v := ?vu8x17) 17 (Op.fieldAddr 111 (Operand.tmp 22) 0) 0 rfl rfl rfl rfl rfl (by kernel_rfl) (by kernel_rfl) (by kernel_rfl) (fun _ _ _ h => h) ?yu8x17 (by assumption) ?ru8x17
          case yu8x17 => (intro w' hSw; (try dsimp only at hSw); go_simp; try (with_reducible rfl))
          simp only [List.setIfInBounds_toArray, List.set_cons_zero, List.set_cons_succ]
          refine take_op (v := ?vu8x18) 18 (Op.load 3 (Operand.tmp 23)) 3 rfl rfl rfl rfl rfl (by kernel_rfl) (by kernel_rfl) (by kernel_rfl) (fun _ _ _ h => h) ?yu8x18 (by assumption) ?ru8x18
          case yu8x18 => (intro w' hSw; (try dsimp only at hSw); go_simp; try (with_reducible rfl))
          simp only [List.setIfInBounds_toArray, List.set_cons_zero, List.set_cons_succ]
          refine take_op (v := ?vu8x19) 19 (Op.fieldAddr 111 (Operand.tmp 3) 0) 0 rfl rfl rfl rfl rfl (by kernel_rfl) (by kernel_rfl) (by kernel_rfl) (fun _ _ _ h => h) ?yu8x19 (by assumption) ?ru8x19
          case yu8x19 => (intro w' hSw; (try dsimp only at hSw); go_simp; try (with_reducible rfl))
          simp only [List.setIfInBounds_toArray, List.set_cons_zero, List.set_cons_succ]
          refine take_op (v := ?vu8x20) 20 (Op.load 3 (Operand.tmp 25)) 3 rfl rfl rfl rfl rfl (by kernel_rfl) (by kernel_rfl) (by kernel_rfl) (fun _ _ _ h => h) ?yu8x20 (by assumption) ?ru8x20
          case yu8x20 => (intro w' hSw; (try dsimp only at hSw); go_simp; try (with_reducible rfl))
          simp only [List.setIfInBounds_toArray, List.set_cons_zero, List.set_cons_succ]
          refine take_op (v := ?vu8x21) 21 (Op.binOp BinOp.eql 3 (Operand.tmp 24) (Operand.tmp 26) 3) 4 rfl rfl rfl rfl rfl (by kernel_rfl) (by kernel_rfl) (by kernel_rfl) (fun _ _ _ h => h) ?yu8x21 (by assumption) ?ru8x21
          case yu8x21 => (intro w' hSw; (try dsimp only at hSw); go_simp; try (with_reducible rfl))
          simp only [List.setIfInBounds_toArray, List.set_cons_zero, List.set_cons_succ]
          refine take_movev (v := ?vu8x22) 22 (Operand.tmp 27) rfl rfl (by first | exact .inl rfl | exact .inr rfl) rfl (by kernel_rfl) (by kernel_rfl) (by kernel_rfl) (fun _ _ _ h => h) (by assumption) ?yu8x22 ?ru8x22
          case yu8x22 => (go_simp; try (with_reducible rfl))
          simp only [List.setIfInBounds_toArray, List.set_cons_zero, List.set_cons_succ]
          refine take_skip 23 rfl rfl rfl (by kernel_rfl) (by kernel_rfl) (by kernel_rfl) (fun _ _ _ h => h) (by assumption) ?_
          simp only [List.setIfInBounds_toArray, List.set_cons_zero, List.set_cons_succ]
          refine take_skip 24 rfl rfl rfl (by kernel_rfl) (by kernel_rfl) (by kernel_rfl) (fun _ _ _ h => h) (by assumption) ?_
          simp only [List.setIfInBounds_toArray, List.set_cons_zero, List.set_cons_succ]
          refine take_skip 25 rfl rfl rfl (by kernel_rfl) (by kernel_rfl) (by kernel_rfl) (fun _ _ _ h => h) (by assumption) ?_
          simp only [List.setIfInBounds_toArray, List.set_cons_zero, List.set_cons_succ]
          refine take_skip 26 rfl rfl rfl (by kernel_rfl) (by kernel_rfl) (by kernel_rfl) (fun _ _ _ h => h) (by assumption) ?_
          simp only [List.setIfInBounds_toArray, List.set_cons_zero, List.set_cons_succ]
          refine take_skip 27 rfl rfl rfl (by kernel_rfl) (by kernel_rfl) (by kernel_rfl) (fun _ _ _ h => h) (by assumption) ?_
          simp only [List.setIfInBounds_toArray, List.set_cons_zero, List.set_cons_succ]
          refine take_skip 28 rfl rfl rfl (by kernel_rfl) (by kernel_rfl) (by kernel_rfl) (fun _ _ _ h => h) (by assumption) ?_
          simp only [List.setIfInBounds_toArray, List.set_cons_zero, List.set_cons_succ]
          refine take_skip 29 rfl rfl rfl (by kernel_rfl) (by kernel_rfl) (by kernel_rfl) (fun _ _ _ h => h) (by assumption) ?_
          simp only [List.setIfInBounds_toArray, List.set_cons_zero, List.set_cons_succ]
          refine take_skip 30 rfl rfl rfl (by kernel_rfl) (by kernel_rfl) (by kernel_rfl) (fun _ _ _ h => h) (by assumption) ?_
          simp only [List.setIfInBounds_toArray, List.set_cons_zero, List.set_cons_succ]
          refine take_skip 31 rfl rfl rfl (by kernel_rfl) (by kernel_rfl) (by kernel_rfl) (fun _ _ _ h => h) (by assumption) ?_
          simp only [List.setIfInBounds_toArray, List.set_cons_zero, List.set_cons_succ]
          refine take_skip 32 rfl rfl rfl (by kernel_rfl) (by kernel_rfl) (by kernel_rfl) (fun _ _ _ h => h) (by assumption) ?_
          simp only [List.setIfInBounds_toArray, List.set_cons_zero, List.set_cons_succ]
          refine take_op (v := ?vu8x33) 33 (Op.pick (Operand.tmp 28) (Operand.tmp 38) (Operand.const (Value.bool false))) 4 rfl rfl rfl rfl rfl (by kernel_rfl) (by kernel_rfl) (by kernel_rfl) (fun _ _ _ h => h) ?yu8x33 (by assumption) ?ru8x33
          case yu8x33 => (intro w' hSw; (try dsimp only at hSw); go_simp; try (with_reducible rfl))
          simp only [List.setIfInBounds_toArray, List.set_cons_zero, List.set_cons_succ]
          refine take_op (v := ?vu8x34) 34 (Op.pick (Operand.tmp 19) (Operand.const (Value.bool true)) (Operand.tmp 39)) 4 rfl rfl rfl rfl rfl (by kernel_rfl) (by kernel_rfl) (by kernel_rfl) (fun _ _ _ h => h) ?yu8x34 (by assumption) ?ru8x34
          case yu8x34 => (intro w' hSw; (try dsimp only at hSw); go_simp; try (with_reducible rfl))
          simp only [List.setIfInBounds_toArray, List.set_cons_zero, List.set_cons_succ]
          refine take_op (v := ?vu8x35) 35 (Op.pick (Operand.tmp 10) (Operand.tmp 40) (Operand.const (Value.bool false))) 4 rfl rfl rfl rfl rfl (by kernel_rfl) (by kernel_rfl) (by kernel_rfl) (fun _ _ _ h => h) ?yu8x35 (by assumption) ?ru8x35
          case yu8x35 => (intro w' hSw; (try dsimp only at hSw); go_simp; try (with_reducible rfl))
          simp only [List.setIfInBounds_toArray, List.set_cons_zero, List.set_cons_succ]
          refine wpAnyH_done (by kernel_rfl) ?_ _
          clear hHeld
          obtain ⟨ie, _, hie, _, hsz, _⟩ := El_t.inf
          have rr := h.below HB
          have hslu := run_slice_upto (P := Try.prog) Try.underlying108 hie (by rw [hsz]; exact h) c i hi hc
          obtain ⟨A3, hsf, rT0⟩ := run_slice_from (P := Try.prog) Try.underlying108 hie (by rw [hsz]; exact h) c i hi hc
          rw [hsz, tcells_drop] at rT0
          have rT := rT0.below HB
          have rH := (h.take i hi).below HB
          rw [tcells_take] at rH
          have HSP := Lib.hid (putT_split ⟨xw, xA, xn, xc, xl, xs⟩ ts i HY.out (by have := HL.out; omega) HN.out)
          clear rT0 rr hsz
          go_wp2_with fail
          refine wp_region_held_drew (S := (fun w' => w'.cell? ⟨w.heap.size, 0, none⟩ = some (.int .i64 xw) ∧ w'.cell? ⟨w.heap.size, 1, none⟩ = some (.slice xA xn xc) ∧ w'.cell? ⟨w.heap.size, 2, none⟩ = some (.bool xl))) (by kernel_rfl) ?_ (fun hHeld => ?_)
          · replace HB := Below.drew HB; replace g0 := Blk.drew g0; replace rH := Rd.drew rH; replace rT := Rd.drew rT; (try dsimp only); exact ⟨g0.cell_ 0 rfl, g0.cell_ 1 rfl, g0.cell_ 2 rfl⟩
          replace HB := Below.drew HB
          replace g0 := Blk.drew g0
          replace rH := Rd.drew rH
          replace rT := Rd.drew rT
          have zHB := HB.size
          refine take_movev (v := ?vu5t8x1) 1 (Operand.tmp 0) rfl rfl (by first | exact .inl rfl | exact .inr rfl) rfl (by kernel_rfl) (by kernel_rfl) (by kernel_rfl) (fun _ _ _ h => h) (by assumption) ?yu5t8x1 ?ru5t8x1
          case yu5t8x1 => (go_simp; try (with_reducible rfl))
          simp only [List.setIfInBounds_toArray, List.set_cons_zero, List.set_cons_succ]
          refine take_movev (v := ?vu5t8x2) 2 (Operand.tmp 5) rfl rfl (by first | exact .inl rfl | exact .inr rfl) rfl (by kernel_rfl) (by kernel_rfl) (by kernel_rfl) (fun _ _ _ h => h) (by assumption) ?yu5t8x2 ?ru5t8x2
          case yu5t8x2 => (go_simp; try (with_reducible rfl))
          simp only [List.setIfInBounds_toArray, List.set_cons_zero, List.set_cons_succ]
          refine take_op (v := ?vu5t8x3) 3 (Op.slice 108 (Operand.tmp 45) none (some (Operand.tmp 46)) none) 108 rfl rfl rfl rfl rfl (by kernel_rfl) (by kernel_rfl) (by kernel_rfl) (fun _ _ _ h => h) ?yu5t8x3 (by assumption) ?ru5t8x3
          case yu5t8x3 => (intro w' hSw; (try dsimp only at hSw); go_simp; try (with_reducible rfl))
          simp only [List.setIfInBounds_toArray, List.set_cons_zero, List.set_cons_succ]
          refine take_op (v := ?vu5t8x5) 5 (Op.load 111 (Operand.tmp 3)) 111 rfl rfl rfl rfl rfl (by kernel_rfl) (by kernel_rfl) (by kernel_rfl) (fun _ _ _ h => h) ?yu5t8x5 (by assumption) ?ru5t8x5
          case yu5t8x5 => (intro w' hSw; (try dsimp only at hSw); go_simp; try (with_reducible rfl))
          simp only [List.setIfInBounds_toArray, List.set_cons_zero, List.set_cons_succ]
          refine take_movev (v := ?vu5t8x8) 8 (Operand.tmp 0) rfl rfl (by first | exact .inl rfl | exact .inr rfl) rfl (by kernel_rfl) (by kernel_rfl) (by kernel_rfl) (fun _ _ _ h => h) (by assumption) ?yu5t8x8 ?ru5t8x8
          case yu5t8x8 => (go_simp; try (with_reducible rfl))
          simp only [List.setIfInBounds_toArray, List.set_cons_zero, List.set_cons_succ]
          refine take_movev (v := ?vu5t8x9) 9 (Operand.tmp 5) rfl rfl (by first | exact .inl rfl | exact .inr rfl) rfl (by kernel_rfl) (by kernel_rfl) (by kernel_rfl) (fun _ _ _ h => h) (by assumption) ?yu5t8x9 ?ru5t8x9
          case yu5t8x9 => (go_simp; try (with_reducible rfl))
          simp only [List.setIfInBounds_toArray, List.set_cons_zero, List.set_cons_succ]
          refine take_op (v := ?vu5t8x10) 10 (Op.slice 108 (Operand.tmp 52) (some (Operand.tmp 53)) none none) 108 rfl rfl rfl rfl rfl (by kernel_rfl) (by kernel_rfl) (by kernel_rfl) (fun _ _ _ h => h) ?yu5t8x10 (by assumption) ?ru5t8x10
          case yu5t8x10 => (intro w' hSw; (try dsimp only at hSw); go_simp; try (with_reducible rfl))
          simp only [List.setIfInBounds_toArray, List.set_cons_zero, List.set_cons_succ]
          refine wpAnyH_ready (rs := [0, 6]) (by kernel_rfl) (by simp) (AllReadyH.cons rfl (fun K0 hK0 => ?ku5t8x0) (AllReadyH.cons rfl (fun K6 hK6 => ?ku5t8x6) AllReadyH.nil))
          case ku5t8x0 =>
            refine take_build (e := 111) (len := 0) (size := 3) (w.heap.size + 1) (([] : List Value)) 0 (Op.buildSlice 108 0 #[]) 108 rfl rfl rfl (by kernel_rfl) ?eu5t8xb1x0 (by rfl) (by decide) (by first | exact Nat.le_refl _ | (simp only [World.size_alloc, World.size_setCell, World.size_drew] at *; omega) | omega) ?_
            case eu5t8xb1x0 => (go_simp; try (first | with_reducible rfl | (simp [rcells, rcell]; done) | (simp [fcells]; done) | (simp [tcells]; done) | rfl))
            intro gx0 w0 o0 gr0 l0 m0
            have z0 := gr0.size
            try simp only [World.size_drew] at z0
            replace HB := below_grow HB gr0
            have zHB0 := HB.size
            replace g0 := Blk.grow0 g0 gr0
            replace rH := Rd.grow0 rH gr0 (by first | exact Nat.le_refl _ | (simp only [World.size_alloc, World.size_setCell, World.size_drew] at *; omega) | omega)
            replace rT := Rd.grow0 rT gr0 (by first | exact Nat.le_refl _ | (simp only [World.size_alloc, World.size_setCell, World.size_drew] at *; omega) | omega)
            refine hK0.out _ _ ?su5t8xb1x0 (fun hHeld => ?ru5t8xb1x0)
            case su5t8xb1x0 => ((try dsimp only); exact ⟨g0.cell_ 0 rfl, g0.cell_ 1 rfl, g0.cell_ 2 rfl⟩)
            try simp only [List.setIfInBounds_toArray, List.set_cons_zero, List.set_cons_succ]
            refine wpAnyH_ready (rs := [4, 6]) (by kernel_rfl) (by simp) (AllReadyH.cons rfl (fun K4 hK4 => ?ku5t8xb1x4) (AllReadyH.cons rfl (fun K6 hK6 => ?ku5t8xb1x6) AllReadyH.nil))
            case ku5t8xb1x4 =>
              refine take_app El_t 4 (Operand.tmp 44) (Operand.tmp 47) 108 rfl rfl rfl (by kernel_rfl) o0 rfl (rH) rfl (tcells_one _) (by unfold maxLen; omega) (by omega) (by first | exact Nat.le_refl _ | (simp only [World.size_alloc, World.size_setCell, World.size_drew] at *; omega) | omega) ?_
              intro A4 c4 w4 o4 gr4 at4
              have z4 := gr4.size
              try simp only [World.size_drew] at z4
              replace HB := below_grown HB gr4 o0 (by first | exact Nat.le_refl _ | (simp only [World.size_alloc, World.size_setCell, World.size_drew] at *; omega) | omega)
              have zHB4 := HB.size
              replace g0 := Blk.grown g0 gr4 (by intro e; have := o0.blk _ e.symm; omega)
              replace rH := Rd.grownOwn rH gr4 o0 (by first | exact Nat.le_refl _ | (simp only [World.size_alloc, World.size_setCell, World.size_drew] at *; omega) | omega) (by first | exact Nat.le_refl _ | (simp only [World.size_alloc, World.size_setCell, World.size_drew] at *; omega) | omega)
              replace rT := Rd.grownOwn rT gr4 o0 (by first | exact Nat.le_refl _ | (simp only [World.size_alloc, World.size_setCell, World.size_drew] at *; omega) | omega) (by first | exact Nat.le_refl _ | (simp only [World.size_alloc, World.size_setCell, World.size_drew] at *; omega) | omega)
              refine hK4.out _ _ ?su5t8xb1xb2x4 (fun hHeld => ?ru5t8xb1xb2x4)
              case su5t8xb1xb2x4 => ((try dsimp only); exact ⟨g0.cell_ 0 rfl, g0.cell_ 1 rfl, g0.cell_ 2 rfl⟩)
              try simp only [List.setIfInBounds_toArray, List.set_cons_zero, List.set_cons_succ]
              refine wpAnyH_ready (rs := [6]) (by kernel_rfl) (by simp) (AllReadyH.cons rfl (fun K6 hK6 => ?ku5t8xb1xb2x6) AllReadyH.nil)
              refine take_build (e := 111) (len := 1) (size := 3) (w.heap.size + 1) (tcells [⟨xw, xA, xn, xc, xl, xs⟩]) 6 (Op.buildSlice 108 1 #[(0, Operand.tmp 49)]) 108 rfl rfl rfl (by kernel_rfl) ?eu5t8xb1xb2x6 (by rfl) (by decide) (by first | exact Nat.le_refl _ | (simp only [World.size_alloc, World.size_setCell, World.size_drew] at *; omega) | omega) ?_
              case eu5t8xb1xb2x6 => (go_simp; try (first | with_reducible rfl | (simp [rcells, rcell]; done) | (simp [fcells]; done) | (simp [tcells]; done) | rfl))
              intro gx6 w6 o6 gr6 l6 m6
              have z6 := gr6.size
              try simp only [World.size_drew] at z6
              replace HB := below_grow HB gr6
              have zHB6 := HB.size
              replace g0 := Blk.grow0 g0 gr6
              replace rH := Rd.grow0 rH gr6 (by first | exact Nat.le_refl _ | (simp only [World.size_alloc, World.size_setCell, World.size_drew] at *; omega) | omega)
              replace rT := Rd.grow0 rT gr6 (by first | exact Nat.le_refl _ | (simp only [World.size_alloc, World.size_setCell, World.size_drew] at *; omega) | omega)
              replace o4 := Own.grow0 o4 gr6
              refine hK6.out _ _ ?su5t8xb1xb2x6 (fun hHeld => ?ru5t8xb1xb2x6)
              case su5t8xb1xb2x6 => ((try dsimp only); exact ⟨g0.cell_ 0 rfl, g0.cell_ 1 rfl, g0.cell_ 2 rfl⟩)
              try simp only [List.setIfInBounds_toArray, List.set_cons_zero, List.set_cons_succ]
              refine wpAnyH_ready (rs := [7]) (by kernel_rfl) (by simp) (AllReadyH.cons rfl (fun K7 hK7 => ?ku5t8xb1xb2x7) AllReadyH.nil)
              refine take_app El_t 7 (Operand.tmp 48) (Operand.tmp 50) 108 rfl rfl rfl (by kernel_rfl) o4 rfl (o6.rd) rfl (tcells_one _) (by unfold maxLen; omega) (by omega) (by first | exact Nat.le_refl _ | (simp only [World.size_alloc, World.size_setCell, World.size_drew] at *; omega) | omega) ?_
              intro A7 c7 w7 o7 gr7 at7
              have z7 := gr7.size
              try simp only [World.size_drew] at z7
              replace HB := below_grown HB gr7 o4 (by first | exact Nat.le_refl _ | (simp only [World.size_alloc, World.size_setCell, World.size_drew] at *; omega) | omega)
              have zHB7 := HB.size
              replace g0 := Blk.grown g0 gr7 (by intro e; have := o4.blk _ e.symm; omega)
              replace rH := Rd.grownOwn rH gr7 o4 (by first | exact Nat.le_refl _ | (simp only [World.size_alloc, World.size_setCell, World.size_drew] at *; omega) | omega) (by first | exact Nat.le_refl _ | (simp only [World.size_alloc, World.size_setCell, World.size_drew] at *; omega) | omega)
              replace rT := Rd.grownOwn rT gr7 o4 (by first | exact Nat.le_refl _ | (simp only [World.size_alloc, World.size_setCell, World.size_drew] at *; omega) | omega) (by first | exact Nat.le_refl _ | (simp only [World.size_alloc, World.size_setCell, World.size_drew] at *; omega) | omega)
              refine hK7.out _ _ ?su5t8xb1xb2x7 (fun hHeld => ?ru5t8xb1xb2x7)
              case su5t8xb1xb2x7 => ((try dsimp only); exact ⟨g0.cell_ 0 rfl, g0.cell_ 1 rfl, g0.cell_ 2 rfl⟩)
              try simp only [List.setIfInBounds_toArray, List.set_cons_zero, List.set_cons_succ]
              refine wpAnyH_ready (rs := [11]) (by kernel_rfl) (by simp) (AllReadyH.cons rfl (fun K11 hK11 => ?ku5t8xb1xb2x11) AllReadyH.nil)
              refine take_app El_t 11 (Operand.tmp 51) (Operand.tmp 54) 108 rfl rfl rfl (by kernel_rfl) o7 rfl (rT) rfl (tcells_one _) (by unfold maxLen; omega) (by omega) (by first | exact Nat.le_refl _ | (simp only [World.size_alloc, World.size_setCell, World.size_drew] at *; omega) | omega) ?_
              intro A11 c11 w11 o11 gr11 at11
              have z11 := gr11.size
              try simp only [World.size_drew] at z11
              replace HB := below_grown HB gr11 o7 (by first | exact Nat.le_refl _ | (simp only [World.size_alloc, World.size_setCell, World.size_drew] at *; omega) | omega)
              have zHB11 := HB.size
              replace g0 := Blk.grown g0 gr11 (by intro e; have := o7.blk _ e.symm; omega)
              replace rH := Rd.grownOwn rH gr11 o7 (by first | exact Nat.le_refl _ | (simp only [World.size_alloc, World.size_setCell, World.size_drew] at *; omega) | omega) (by first | exact Nat.le_refl _ | (simp only [World.size_alloc, World.size_setCell, World.size_drew] at *; omega) | omega)
              replace rT := Rd.grownOwn rT gr11 o7 (by first | exact Nat.le_refl _ | (simp only [World.size_alloc, World.size_setCell, World.size_drew] at *; omega) | omega) (by first | exact Nat.le_refl _ | (simp only [World.size_alloc, World.size_setCell, World.size_drew] at *; omega) | omega)
              refine hK11.out _ _ ?su5t8xb1xb2x11 (fun hHeld => ?ru5t8xb1xb2x11)
              case su5t8xb1xb2x11 => ((try dsimp only); exact ⟨g0.cell_ 0 rfl, g0.cell_ 1 rfl, g0.cell_ 2 rfl⟩)
              try simp only [List.setIfInBounds_toArray, List.set_cons_zero, List.set_cons_succ]
              refine take_op (v := ?vu5t8xb1xb2x12) 12 (Op.assign (Operand.tmp 55)) 108 rfl rfl rfl rfl rfl (by kernel_rfl) (by kernel_rfl) (by kernel_rfl) (fun _ _ _ h => h) ?yu5t8xb1xb2x12 (by assumption) ?ru5t8xb1xb2x12
              case yu5t8xb1xb2x12 => (intro w' hSw; (try dsimp only at hSw); go_simp; try (with_reducible rfl))
              simp only [List.setIfInBounds_toArray, List.set_cons_zero, List.set_cons_succ]
              refine wpAnyH_done (by kernel_rfl) ?_ _
              clear hHeld
              have o12 := o11.base_le (base' := w.heap.size) (by omega)
              rw [List.nil_append, ← tcells_app, ← tcells_app, show 0 + i + 1 + (n - i) = n + 1 by omega, List.append_assoc, List.singleton_append, ← HSP.out] at o12
              have hnn : 0 + i + 1 + (n - i) = n + 1 := by omega
              go_wp2_with fail
              try rw [Exit.noGoto_ret]
              go_ret
              refine ⟨A11, c11, ?_, o12, HB⟩
              first | (rw [← hnn]; rfl) | (simp; omega) | (simp only [Ending.returned.injEq, Value.slice.injEq]; simp; omega)
            case ku5t8xb1x6 =>
              refine take_build (e := 111) (len := 1) (size := 3) (w.heap.size + 1) (tcells [⟨xw, xA, xn, xc, xl, xs⟩]) 6 (Op.buildSlice 108 1 #[(0, Operand.tmp 49)]) 108 rfl rfl rfl (by kernel_rfl) ?eu5t8xb1xb6x6 (by rfl) (by decide) (by first | exact Nat.le_refl _ | (simp only [World.size_alloc, World.size_setCell, World.size_drew] at *; omega) | omega) ?_
              case eu5t8xb1xb6x6 => (go_simp; try (first | with_reducible rfl | (simp [rcells, rcell]; done) | (simp [fcells]; done) | (simp [tcells]; done) | rfl))
              intro gx6 w6 o6 gr6 l6 m6
              have z6 := gr6.size
              try simp only [World.size_drew] at z6
              replace HB := below_grow HB gr6
              have zHB6 := HB.size
              replace g0 := Blk.grow0 g0 gr6
              replace rH := Rd.grow0 rH gr6 (by first | exact Nat.le_refl _ | (simp only [World.size_alloc, World.size_setCell, World.size_drew] at *; omega) | omega)
              replace rT := Rd.grow0 rT gr6 (by first | exact Nat.le_refl _ | (simp only [World.size_alloc, World.size_setCell, World.size_drew] at *; omega) | omega)
              replace o0 := Own.grow0 o0 gr6
              refine hK6.out _ _ ?su5t8xb1xb6x6 (fun hHeld => ?ru5t8xb1xb6x6)
              case su5t8xb1xb6x6 => ((try dsimp only); exact ⟨g0.cell_ 0 rfl, g0.cell_ 1 rfl, g0.cell_ 2 rfl⟩)
              try simp only [List.setIfInBounds_toArray, List.set_cons_zero, List.set_cons_succ]
              refine wpAnyH_ready (rs := [4]) (by kernel_rfl) (by simp) (AllReadyH.cons rfl (fun K4 hK4 => ?ku5t8xb1xb6x4) AllReadyH.nil)
              refine take_app El_t 4 (Operand.tmp 44) (Operand.tmp 47) 108 rfl rfl rfl (by kernel_rfl) o0 rfl (rH) rfl (tcells_one _) (by unfold maxLen; omega) (by omega) (by first | exact Nat.le_refl _ | (simp only [World.size_alloc, World.size_setCell, World.size_drew] at *; omega) | omega) ?_
              intro A4 c4 w4 o4 gr4 at4
              have z4 := gr4.size
              try simp only [World.size_drew] at z4
              replace HB := below_grown HB gr4 o0 (by first | exact Nat.le_refl _ | (simp only [World.size_alloc, World.size_setCell, World.size_drew] at *; omega) | omega)
              have zHB4 := HB.size
              replace g0 := Blk.grown g0 gr4 (by intro e; have := o0.blk _ e.symm; omega)
              replace rH := Rd.grownOwn rH gr4 o0 (by first | exact Nat.le_refl _ | (simp only [World.size_alloc, World.size_setCell, World.size_drew] at *; omega) | omega) (by first | exact Nat.le_refl _ | (simp only [World.size_alloc, World.size_setCell, World.size_drew] at *; omega) | omega)
              replace rT := Rd.grownOwn rT gr4 o0 (by first | exact Nat.le_refl _ | (simp only [World.size_alloc, World.size_setCell, World.size_drew] at *; omega) | omega) (by first | exact Nat.le_refl _ | (simp only [World.size_alloc, World.size_setCell, World.size_drew] at *; omega) | omega)
              replace o6 := Own.other o6 gr4 (by intro k hk e; simp only [blkOf, Option.map_some, Option.some.injEq] at hk e; omega)
              refine hK4.out _ _ ?su5t8xb1xb6x4 (fun hHeld => ?ru5t8xb1xb6x4)
              case su5t8xb1xb6x4 => ((try dsimp only); exact ⟨g0.cell_ 0 rfl, g0.cell_ 1 rfl, g0.cell_ 2 rfl⟩)
              try simp only [List.setIfInBounds_toArray, List.set_cons_zero, List.set_cons_succ]
              refine wpAnyH_ready (rs := [7]) (by kernel_rfl) (by simp) (AllReadyH.cons rfl (fun K7 hK7 => ?ku5t8xb1xb6x7) AllReadyH.nil)
              refine take_app El_t 7 (Operand.tmp 48) (Operand.tmp 50) 108 rfl rfl rfl (by kernel_rfl) o4 rfl (o6.rd) rfl (tcells_one _) (by unfold maxLen; omega) (by omega) (by first | exact Nat.le_refl _ | (simp only [World.size_alloc, World.size_setCell, World.size_drew] at *; omega) | omega) ?_
              intro A7 c7 w7 o7 gr7 at7
              have z7 := gr7.size
              try simp only [World.size_drew] at z7
              replace HB := below_grown HB gr7 o4 (by first | exact Nat.le_refl _ | (simp only [World.size_alloc, World.size_setCell, World.size_drew] at *; omega) | omega)
              have zHB7 := HB.size
              replace g0 := Blk.grown g0 gr7 (by intro e; have := o4.blk _ e.symm; omega)
              replace rH := Rd.grownOwn rH gr7 o4 (by first | exact Nat.le_refl _ | (simp only [World.size_alloc, World.size_setCell, World.size_drew] at *; omega) | omega) (by first | exact Nat.le_refl _ | (simp only [World.size_alloc, World.size_setCell, World.size_drew] at *; omega) | omega)
              replace rT := Rd.grownOwn rT gr7 o4 (by first | exact Nat.le_refl _ | (simp only [World.size_alloc, World.size_setCell, World.size_drew] at *; omega) | omega) (by first | exact Nat.le_refl _ | (simp only [World.size_alloc, World.size_setCell, World.size_drew] at *; omega) | omega)
              refine hK7.out _ _ ?su5t8xb1xb6x7 (fun hHeld => ?ru5t8xb1xb6x7)
              case su5t8xb1xb6x7 => ((try dsimp only); exact ⟨g0.cell_ 0 rfl, g0.cell_ 1 rfl, g0.cell_ 2 rfl⟩)
              try simp only [List.setIfInBounds_toArray, List.set_cons_zero, List.set_cons_succ]
              refine wpAnyH_ready (rs := [11]) (by kernel_rfl) (by simp) (AllReadyH.cons rfl (fun K11 hK11 => ?ku5t8xb1xb6x11) AllReadyH.nil)
              refine take_app El_t 11 (Operand.tmp 51) (Operand.tmp 54) 108 rfl rfl rfl (by kernel_rfl) o7 rfl (rT) rfl (tcells_one _) (by unfold maxLen; omega) (by omega) (by first | exact Nat.le_refl _ | (simp only [World.size_alloc, World.size_setCell, World.size_drew] at *; omega) | omega) ?_
              intro A11 c11 w11 o11 gr11 at11
              have z11 := gr11.size
              try simp only [World.size_drew] at z11
              replace HB := below_grown HB gr11 o7 (by first | exact Nat.le_refl _ | (simp only [World.size_alloc, World.size_setCell, World.size_drew] at *; omega) | omega)
              have zHB11 := HB.size
              replace g0 := Blk.grown g0 gr11 (by intro e; have := o7.blk _ e.symm; omega)
              replace rH := Rd.grownOwn rH gr11 o7 (by first | exact Nat.le_refl _ | (simp only [World.size_alloc, World.size_setCell, World.size_drew] at *; omega) | omega) (by first | exact Nat.le_refl _ | (simp only [World.size_alloc, World.size_setCell, World.size_drew] at *; omega) | omega)
              replace rT := Rd.grownOwn rT gr11 o7 (by first | exact Nat.le_refl _ | (simp only [World.size_alloc, World.size_setCell, World.size_drew] at *; omega) | omega) (by first | exact Nat.le_refl _ | (simp only [World.size_alloc, World.size_setCell, World.size_drew] at *; omega) | omega)
              refine hK11.out _ _ ?su5t8xb1xb6x11 (fun hHeld => ?ru5t8xb1xb6x11)
              case su5t8xb1xb6x11 => ((try dsimp only); exact ⟨g0.cell_ 0 rfl, g0.cell_ 1 rfl, g0.cell_ 2 rfl⟩)
              try simp only [List.setIfInBounds_toArray, List.set_cons_zero, List.set_cons_succ]
              refine take_op (v := ?vu5t8xb1xb6x12) 12 (Op.assign (Operand.tmp 55)) 108 rfl rfl rfl rfl rfl (by kernel_rfl) (by kernel_rfl) (by kernel_rfl) (fun _ _ _ h => h) ?yu5t8xb1xb6x12 (by assumption) ?ru5t8xb1xb6x12
              case yu5t8xb1xb6x12 => (intro w' hSw; (try dsimp only at hSw); go_simp; try (with_reducible rfl))
              simp only [List.setIfInBounds_toArray, List.set_cons_zero, List.set_cons_succ]
              refine wpAnyH_done (by kernel_rfl) ?_ _
              clear hHeld
              have o12 := o11.base_le (base' := w.heap.size) (by omega)
              rw [List.nil_append, ← tcells_app, ← tcells_app, show 0 + i + 1 + (n - i) = n + 1 by omega, List.append_assoc, List.singleton_append, ← HSP.out] at o12
              have hnn : 0 + i + 1 + (n - i) = n + 1 := by omega
              go_wp2_with fail
              try rw [Exit.noGoto_ret]
              go_ret
              refine ⟨A11, c11, ?_, o12, HB⟩
              first | (rw [← hnn]; rfl) | (simp; omega) | (simp only [Ending.returned.injEq, Value.slice.injEq]; simp; omega)
          case ku5t8x6 =>
            refine take_build (e := 111) (len := 1) (size := 3) (w.heap.size + 1) (tcells [⟨xw, xA, xn, xc, xl, xs⟩]) 6 (Op.buildSlice 108 1 #[(0, Operand.tmp 49)]) 108 rfl rfl rfl (by kernel_rfl) ?eu5t8xb10x6 (by rfl) (by decide) (by first | exact Nat.le_refl _ | (simp only [World.size_alloc, World.size_setCell, World.size_drew] at *; omega) | omega) ?_
            case eu5t8xb10x6 => (go_simp; try (first | with_reducible rfl | (simp [rcells, rcell]; done) | (simp [fcells]; done) | (simp [tcells]; done) | rfl))
            intro gx6 w6 o6 gr6 l6 m6
            have z6 := gr6.size
            try simp only [World.size_drew] at z6
            replace HB := below_grow HB gr6
            have zHB6 := HB.size
            replace g0 := Blk.grow0 g0 gr6
            replace rH := Rd.grow0 rH gr6 (by first | exact Nat.le_refl _ | (simp only [World.size_alloc, World.size_setCell, World.size_drew] at *; omega) | omega)
            replace rT := Rd.grow0 rT gr6 (by first | exact Nat.le_refl _ | (simp only [World.size_alloc, World.size_setCell, World.size_drew] at *; omega) | omega)
            refine hK6.out _ _ ?su5t8xb10x6 (fun hHeld => ?ru5t8xb10x6)
            case su5t8xb10x6 => ((try dsimp only); exact ⟨g0.cell_ 0 rfl, g0.cell_ 1 rfl, g0.cell_ 2 rfl⟩)
            try simp only [List.setIfInBounds_toArray, List.set_cons_zero, List.set_cons_succ]
            refine wpAnyH_ready (rs := [0]) (by kernel_rfl) (by simp) (AllReadyH.cons rfl (fun K0 hK0 => ?ku5t8xb10x0) AllReadyH.nil)
            refine take_build (e := 111) (len := 0) (size := 3) (w.heap.size + 1) (([] : List Value)) 0 (Op.buildSlice 108 0 #[]) 108 rfl rfl rfl (by kernel_rfl) ?eu5t8xb10x0 (by rfl) (by decide) (by first | exact Nat.le_refl _ | (simp only [World.size_alloc, World.size_setCell, World.size_drew] at *; omega) | omega) ?_
            case eu5t8xb10x0 => (go_simp; try (first | with_reducible rfl | (simp [rcells, rcell]; done) | (simp [fcells]; done) | (simp [tcells]; done) | rfl))
            intro gx0 w0 o0 gr0 l0 m0
            have z0 := gr0.size
            try simp only [World.size_drew] at z0
            replace HB := below_grow HB gr0
            have zHB0 := HB.size
            replace g0 := Blk.grow0 g0 gr0
            replace rH := Rd.grow0 rH gr0 (by first | exact Nat.le_refl _ | (simp only [World.size_alloc, World.size_setCell, World.size_drew] at *; omega) | omega)
            replace rT := Rd.grow0 rT gr0 (by first | exact Nat.le_refl _ | (simp only [World.size_alloc, World.size_setCell, World.size_drew] at *; omega) | omega)
            replace o6 := Own.grow0 o6 gr0
            refine hK0.out _ _ ?su5t8xb10x0 (fun hHeld => ?ru5t8xb10x0)
            case su5t8xb10x0 => ((try dsimp only); exact ⟨g0.cell_ 0 rfl, g0.cell_ 1 rfl, g0.cell_ 2 rfl⟩)
            try simp only [List.setIfInBounds_toArray, List.set_cons_zero, List.set_cons_succ]
            refine wpAnyH_ready (rs := [4]) (by kernel_rfl) (by simp) (AllReadyH.cons rfl (fun K4 hK4 => ?ku5t8xb10x4) AllReadyH.nil)
            refine take_app El_t 4 (Operand.tmp 44) (Operand.tmp 47) 108 rfl rfl rfl (by kernel_rfl) o0 rfl (rH) rfl (tcells_one _) (by unfold maxLen; omega) (by omega) (by first | exact Nat.le_refl _ | (simp only [World.size_alloc, World.size_setCell, World.size_drew] at *; omega) | omega) ?_
            intro A4 c4 w4 o4 gr4 at4
            have z4 := gr4.size
            try simp only [World.size_drew] at z4
            replace HB := below_grown HB gr4 o0 (by first | exact Nat.le_refl _ | (simp only [World.size_alloc, World.size_setCell, World.size_drew] at *; omega) | omega)
            have zHB4 := HB.size
            replace g0 := Blk.grown g0 gr4 (by intro e; have := o0.blk _ e.symm; omega)
            replace rH := Rd.grownOwn rH gr4 o0 (by first | exact Nat.le_refl _ | (simp only [World.size_alloc, World.size_setCell, World.size_drew] at *; omega) | omega) (by first | exact Nat.le_refl _ | (simp only [World.size_alloc, World.size_setCell, World.size_drew] at *; omega) | omega)
            replace rT := Rd.grownOwn rT gr4 o0 (by first | exact Nat.le_refl _ | (simp only [World.size_alloc, World.size_setCell, World.size_drew] at *; omega) | omega) (by first | exact Nat.le_refl _ | (simp only [World.size_alloc, World.size_setCell, World.size_drew] at *; omega) | omega)
            replace o6 := Own.other o6 gr4 (by intro k hk e; simp only [blkOf, Option.map_some, Option.some.injEq] at hk e; omega)
            refine hK4.out _ _ ?su5t8xb10x4 (fun hHeld => ?ru5t8xb10x4)
            case su5t8xb10x4 => ((try dsimp only); exact ⟨g0.cell_ 0 rfl, g0.cell_ 1 rfl, g0.cell_ 2 rfl⟩)
            try simp only [List.setIfInBounds_toArray, List.set_cons_zero, List.set_cons_succ]
            refine wpAnyH_ready (rs := [7]) (by kernel_rfl) (by simp) (AllReadyH.cons rfl (fun K7 hK7 => ?ku5t8xb10x7) AllReadyH.nil)
            refine take_app El_t 7 (Operand.tmp 48) (Operand.tmp 50) 108 rfl rfl rfl (by kernel_rfl) o4 rfl (o6.rd) rfl (tcells_one _) (by unfold maxLen; omega) (by omega) (by first | exact Nat.le_refl _ | (simp only [World.size_alloc, World.size_setCell, World.size_drew] at *; omega) | omega) ?_
            intro A7 c7 w7 o7 gr7 at7
            have z7 := gr7.size
            try simp only [World.size_drew] at z7
            replace HB := below_grown HB gr7 o4 (by first | exact Nat.le_refl _ | (simp only [World.size_alloc, World.size_setCell, World.size_drew] at *; omega) | omega)
            have zHB7 := HB.size
            replace g0 := Blk.grown g0 gr7 (by intro e; have := o4.blk _ e.symm; omega)
            replace rH := Rd.grownOwn rH gr7 o4 (by first | exact Nat.le_refl _ | (simp only [World.size_alloc, World.size_setCell, World.size_drew] at *; omega) | omega) (by first | exact Nat.le_refl _ | (simp only [World.size_alloc, World.size_setCell, World.size_drew] at *; omega) | omega)
            replace rT := Rd.grownOwn rT gr7 o4 (by first | exact Nat.le_refl _ | (simp only [World.size_alloc, World.size_setCell, World.size_drew] at *; omega) | omega) (by first | exact Nat.le_refl _ | (simp only [World.size_alloc, World.size_setCell, World.size_drew] at *; omega) | omega)
            refine hK7.out _ _ ?su5t8xb10x7 (fun hHeld => ?ru5t8xb10x7)
            case su5t8xb10x7 => ((try dsimp only); exact ⟨g0.cell_ 0 rfl, g0.cell_ 1 rfl, g0.cell_ 2 rfl⟩)
            try simp only [List.setIfInBounds_toArray, List.set_cons_zero, List.set_cons_succ]
            refine wpAnyH_ready (rs := [11]) (by kernel_rfl) (by simp) (AllReadyH.cons rfl (fun K11 hK11 => ?ku5t8xb10x11) AllReadyH.nil)
            refine take_app El_t 11 (Operand.tmp 51) (Operand.tmp 54) 108 rfl rfl rfl (by kernel_rfl) o7 rfl (rT) rfl (tcells_one _) (by unfold maxLen; omega) (by omega) (by first | exact Nat.le_refl _ | (simp only [World.size_alloc, World.size_setCell, World.size_drew] at *; omega) | omega) ?_
            intro A11 c11 w11 o11 gr11 at11
            have z11 := gr11.size
            try simp only [World.size_drew] at z11
            replace HB := below_grown HB gr11 o7 (by first | exact Nat.le_refl _ | (simp only [World.size_alloc, World.size_setCell, World.size_drew] at *; omega) | omega)
            have zHB11 := HB.size
            replace g0 := Blk.grown g0 gr11 (by intro e; have := o7.blk _ e.symm; omega)
            replace rH := Rd.grownOwn rH gr11 o7 (by first | exact Nat.le_refl _ | (simp only [World.size_alloc, World.size_setCell, World.size_drew] at *; omega) | omega) (by first | exact Nat.le_refl _ | (simp only [World.size_alloc, World.size_setCell, World.size_drew] at *; omega) | omega)
            replace rT := Rd.grownOwn rT gr11 o7 (by first | exact Nat.le_refl _ | (simp only [World.size_alloc, World.size_setCell, World.size_drew] at *; omega) | omega) (by first | exact Nat.le_refl _ | (simp only [World.size_alloc, World.size_setCell, World.size_drew] at *; omega) | omega)
            refine hK11.out _ _ ?su5t8xb10x11 (fun hHeld => ?ru5t8xb10x11)
            case su5t8xb10x11 => ((try dsimp only); exact ⟨g0.cell_ 0 rfl, g0.cell_ 1 rfl, g0.cell_ 2 rfl⟩)
            try simp only [List.setIfInBounds_toArray, List.set_cons_zero, List.set_cons_succ]
            refine take_op (v := ?vu5t8xb10x12) 12 (Op.assign (Operand.tmp 55)) 108 rfl rfl rfl rfl rfl (by kernel_rfl) (by kernel_rfl) (by kernel_rfl) (fun _ _ _ h => h) ?yu5t8xb10x12 (by assumption) ?ru5t8xb10x12
            case yu5t8xb10x12 => (intro w' hSw; (try dsimp only at hSw); go_simp; try (with_reducible rfl))
            simp only [List.setIfInBounds_toArray, List.set_cons_zero, List.set_cons_succ]
            refine wpAnyH_done (by kernel_rfl) ?_ _
            clear hHeld
            have o12 := o11.base_le (base' := w.heap.size) (by omega)
            rw [List.nil_append, ← tcells_app, ← tcells_app, show 0 + i + 1 + (n - i) = n + 1 by omega, List.append_assoc, List.singleton_append, ← HSP.out] at o12
            have hnn : 0 + i + 1 + (n - i) = n + 1 := by omega
            go_wp2_with fail
            try rw [Exit.noGoto_ret]
            go_ret
            refine ⟨A11, c11, ?_, o12, HB⟩
            first | (rw [← hnn]; rfl) | (simp; omega) | (simp only [Ending.returned.injEq, Value.slice.injEq]; simp; omega)
    · have hltI : ¬ (i : Int) < (n : Int) := by omega
      have HN := Lib.hid (show ∀ h : i < ts.length, goesT ts[i] ⟨xw, xA, xn, xc, xl, xs⟩ = false from fun h => absurd h (by have := HL.out; omega))
      go_wp2_with fail
      refine wp_region_held_drew (S := (fun _ => True)) (by kernel_rfl) ?_ (fun hHeld => ?_)
      · replace HB := Below.drew HB; replace g0 := Blk.drew g0; (try dsimp only); try trivial
      replace HB := Below.drew HB
      replace g0 := Blk.drew g0
      have zHB := HB.size
      refine take_movev (v := ?vu9x0) 0 (Operand.tmp 5) rfl rfl (by first | exact .inl rfl | exact .inr rfl) rfl (by kernel_rfl) (by kernel_rfl) (by kernel_rfl) (fun _ _ _ h => h) (by assumption) ?yu9x0 ?ru9x0
      case yu9x0 => (go_simp; try (with_reducible rfl))
      simp only [List.setIfInBounds_toArray, List.set_cons_zero, List.set_cons_succ]
      refine take_movev (v := ?vu9x1) 1 (Operand.tmp 0) rfl rfl (by first | exact .inl rfl | exact .inr rfl) rfl (by kernel_rfl) (by kernel_rfl) (by kernel_rfl) (fun _ _ _ h => h) (by assumption) ?yu9x1 ?ru9x1
      case yu9x1 => (go_simp; try (with_reducible rfl))
      simp only [List.setIfInBounds_toArray, List.set_cons_zero, List.set_cons_succ]
      refine take_op (v := ?vu9x2) 2 (Op.call { callee := Callee.builtin Builtin.len, args := #[Operand.tmp 7], argTypes := #[108] }) 3 rfl rfl rfl rfl rfl (by kernel_rfl) (by kernel_rfl) (by kernel_rfl) (fun _ _ _ h => h) ?yu9x2 (by assumption) ?ru9x2
      case yu9x2 => (intro w' hSw; (try dsimp only at hSw); go_simp; try (with_reducible rfl))
      simp only [List.setIfInBounds_toArray, List.set_cons_zero, List.set_cons_succ]
      refine take_op (v := ?vu9x3) 3 (Op.binOp BinOp.lss 3 (Operand.tmp 6) (Operand.tmp 8) 3) 4 rfl rfl rfl rfl rfl (by kernel_rfl) (by kernel_rfl) (by kernel_rfl) (fun _ _ _ h => h) ?yu9x3 (by assumption) ?ru9x3
      case yu9x3 => (intro w' hSw; (try dsimp only at hSw); go_simp; try (with_reducible rfl))
      simp only [List.setIfInBounds_toArray, List.set_cons_zero, List.set_cons_succ]
      refine take_movev (v := ?vu9x4) 4 (Operand.tmp 9) rfl rfl (by first | exact .inl rfl | exact .inr rfl) rfl (by kernel_rfl) (by kernel_rfl) (by kernel_rfl) (fun _ _ _ h => h) (by assumption) ?yu9x4 ?ru9x4
      case yu9x4 => (go_simp; try (with_reducible rfl))
      simp only [List.setIfInBounds_toArray, List.set_cons_zero, List.set_cons_succ]
      refine take_skip 5 rfl rfl rfl (by kernel_rfl) (by kernel_rfl) (by kernel_rfl) (fun _ _ _ h => h) (by assumption) ?_
      simp only [List.setIfInBounds_toArray, List.set_cons_zero, List.set_cons_succ]
      refine take_skip 6 rfl rfl rfl (by kernel_rfl) (by kernel_rfl) (by kernel_rfl) (fun _ _ _ h => h) (by assumption) ?_
      simp only [List.setIfInBounds_toArray, List.set_cons_zero, List.set_cons_succ]
      refine take_skip 7 rfl rfl rfl (by kernel_rfl) (by kernel_rfl) (by kernel_rfl) (fun _ _ _ h => h) (by assumption) ?_
      simp only [List.setIfInBounds_toArray, List.set_cons_zero, List.set_cons_succ]
      refine take_skip 8 rfl rfl rfl (by kernel_rfl) (by kernel_rfl) (by kernel_rfl) (fun _ _ _ h => h) (by assumption) ?_
      simp only [List.setIfInBounds_toArray, List.set_cons_zero, List.set_cons_succ]
      refine take_skip 9 rfl rfl rfl (by kernel_rfl) (by kernel_rfl) (by kernel_rfl) (fun _ _ _ h => h) (by assumption) ?_
      simp only [List.setIfInBounds_toArray, List.set_cons_zero, List.set_cons_succ]
      refine take_skip 10 rfl rfl rfl (by kernel_rfl) (by kernel_rfl) (by kernel_rfl) (fun _ _ _ h => h) (by assumption) ?_
      simp only [List.setIfInBounds_toArray, List.set_cons_zero, List.set_cons_succ]
      refine take_skip 11 rfl rfl rfl (by kernel_rfl) (by kernel_rfl) (by kernel_rfl) (fun _ _ _ h => h) (by assumption) ?_
      simp only [List.setIfInBounds_toArray, List.set_cons_zero, List.set_cons_succ]
      refine take_skip 12 rfl rfl rfl (by kernel_rfl) (by kernel_rfl) (by kernel_rfl) (fun _ _ _ h => h) (by assumption) ?_
      simp only [List.setIfInBounds_toArray, List.set_cons_zero, List.set_cons_succ]
      refine take_skip 13 rfl rfl rfl (by kernel_rfl) (by kernel_rfl) (by kernel_rfl) (fun _ _ _ h => h) (by assumption) ?_
      simp only [List.setIfInBounds_toArray, List.set_cons_zero, List.set_cons_succ]
      refine take_skip 14 rfl rfl rfl (by kernel_rfl) (by kernel_rfl) (by kernel_rfl) (fun _ _ _ h => h) (by assumption) ?_
      simp only [List.setIfInBounds_toArray, List.set_cons_zero, List.set_cons_succ]
      refine take_skip 15 rfl rfl rfl (by kernel_rfl) (by kernel_rfl) (by kernel_rfl) (fun _ _ _ h => h) (by assumption) ?_
      simp only [List.setIfInBounds_toArray, List.set_cons_zero, List.set_cons_succ]
      refine take_skip 16 rfl rfl rfl (by kernel_rfl) (by kernel_rfl) (by kernel_rfl) (fun _ _ _ h => h) (by assumption) ?_
      simp only [List.setIfInBounds_toArray, List.set_cons_zero, List.set_cons_succ]
      refine take_skip 17 rfl rfl rfl (by kernel_rfl) (by kernel_rfl) (by kernel_rfl) (fun _ _ _ h => h) (by assumption) ?_
      simp only [List.setIfInBounds_toArray, List.set_cons_zero, List.set_cons_succ]
      refine take_skip 18 rfl rfl rfl (by kernel_rfl) (by kernel_rfl) (by kernel_rfl) (fun _ _ _ h => h) (by assumption) ?_
      simp only [List.setIfInBounds_toArray, List.set_cons_zero, List.set_cons_succ]
      refine take_skip 19 rfl rfl rfl (by kernel_rfl) (by kernel_rfl) (by kernel_rfl) (fun _ _ _ h => h) (by assumption) ?_
      simp only [List.setIfInBounds_toArray, List.set_cons_zero, List.set_cons_succ]
      refine take_skip 20 rfl rfl rfl (by kernel_rfl) (by kernel_rfl) (by kernel_rfl) (fun _ _ _ h => h) (by assumption) ?_
      simp only [List.setIfInBounds_toArray, List.set_cons_zero, List.set_cons_succ]
      refine take_skip 21 rfl rfl rfl (by kernel_rfl) (by kernel_rfl) (by kernel_rfl) (fun _ _ _ h => h) (by assumption) ?_
      simp only [List.setIfInBounds_toArray, List.set_cons_zero, List.set_cons_succ]
      refine take_skip 22 rfl rfl rfl (by kernel_rfl) (by kernel_rfl) (by kernel_rfl) (fun _ _ _ h => h) (by assumption) ?_
      simp only [List.setIfInBounds_toArray, List.set_cons_zero, List.set_cons_succ]
      refine take_skip 23 rfl rfl rfl (by kernel_rfl) (by kernel_rfl) (by kernel_rfl) (fun _ _ _ h => h) (by assumption) ?_
      simp only [List.setIfInBounds_toArray, List.set_cons_zero, List.set_cons_succ]
      refine take_skip 24 rfl rfl rfl (by kernel_rfl) (by kernel_rfl) (by kernel_rfl) (fun _ _ _ h => h) (by assumption) ?_
      simp only [List.setIfInBounds_toArray, List.set_cons_zero, List.set_cons_succ]
      refine take_skip 25 rfl rfl rfl (by kernel_rfl) (by kernel_rfl) (by kernel_rfl) (fun _ _ _ h => h) (by assumption) ?_
      simp only [List.setIfInBounds_toArray, List.set_cons_zero, List.set_cons_succ]
      refine take_skip 26 rfl rfl rfl (by kernel_rfl) (by kernel_rfl) (by kernel_rfl) (fun _ _ _ h => h) (by assumption) ?_
      simp only [List.setIfInBounds_toArray, List.set_cons_zero, List.set_cons_succ]
      refine take_skip 27 rfl rfl rfl (by kernel_rfl) (by kernel_rfl) (by kernel_rfl) (fun _ _ _ h => h) (by assumption) ?_
      simp only [List.setIfInBounds_toArray, List.set_cons_zero, List.set_cons_succ]
      refine take_skip 28 rfl rfl rfl (by kernel_rfl) (by kernel_rfl) (by kernel_rfl) (fun _ _ _ h => h) (by assumption) ?_
      simp only [List.setIfInBounds_toArray, List.set_cons_zero, List.set_cons_succ]
      refine take_skip 29 rfl rfl rfl (by kernel_rfl) (by kernel_rfl) (by kernel_rfl) (fun _ _ _ h => h) (by assumption) ?_
      simp only [List.setIfInBounds_toArray, List.set_cons_zero, List.set_cons_succ]
      refine take_skip 30 rfl rfl rfl (by kernel_rfl) (by kernel_rfl) (by kernel_rfl) (fun _ _ _ h => h) (by assumption) ?_
      simp only [List.setIfInBounds_toArray, List.set_cons_zero, List.set_cons_succ]
      refine take_skip 31 rfl rfl rfl (by kernel_rfl) (by kernel_rfl) (by kernel_rfl) (fun _ _ _ h => h) (by assumption) ?_
      simp only [List.setIfInBounds_toArray, List.set_cons_zero, List.set_cons_succ]
      refine take_skip 32 rfl rfl rfl (by kernel_rfl) (by kernel_rfl) (by kernel_rfl) (fun _ _ _ h => h) (by assumption) ?_
      simp only [List.setIfInBounds_toArray, List.set_cons_zero, List.set_cons_succ]
      refine take_skip 33 rfl rfl rfl (by kernel_rfl) (by kernel_rfl) (by kernel_rfl) (fun _ _ _ h => h) (by assumption) ?_
      simp only [List.setIfInBounds_toArray, List.set_cons_zero, List.set_cons_succ]
      refine take_skip 34 rfl rfl rfl (by kernel_rfl) (by kernel_rfl) (by kernel_rfl) (fun _ _ _ h => h) (by assumption) ?_
      simp only [List.setIfInBounds_toArray, List.set_cons_zero, List.set_cons_succ]
      refine take_op (v := ?vu9x35) 35 (Op.pick (Operand.tmp 10) (Operand.tmp 40) (Operand.const (Value.bool false))) 4 rfl rfl rfl rfl rfl (by kernel_rfl) (by kernel_rfl) (by kernel_rfl) (fun _ _ _ h => h) ?yu9x35 (by assumption) ?ru9x35
      case yu9x35 => (intro w' hSw; (try dsimp only at hSw); go_simp; try (with_reducible rfl))
      simp only [List.setIfInBounds_toArray, List.set_cons_zero, List.set_cons_succ]
      refine wpAnyH_done (by kernel_rfl) ?_ _
      clear hHeld
      obtain ⟨ie, _, hie, _, hsz, _⟩ := El_t.inf
      have rr := h.below HB
      have hslu := run_slice_upto (P := Try.prog) Try.underlying108 hie (by rw [hsz]; exact h) c i hi hc
      obtain ⟨A3, hsf, rT0⟩ := run_slice_from (P := Try.prog) Try.underlying108 hie (by rw [hsz]; exact h) c i hi hc
      rw [hsz, tcells_drop] at rT0
      have rT := rT0.below HB
      have rH := (h.take i hi).below HB
      rw [tcells_take] at rH
      have HSP := Lib.hid (putT_split ⟨xw, xA, xn, xc, xl, xs⟩ ts i HY.out (by have := HL.out; omega) HN.out)
      clear rT0 rr hsz
      go_wp2_with fail
      refine wp_region_held_drew (S := (fun w' => w'.cell? ⟨w.heap.size, 0, none⟩ = some (.int .i64 xw) ∧ w'.cell? ⟨w.heap.size, 1, none⟩ = some (.slice xA xn xc) ∧ w'.cell? ⟨w.heap.size, 2, none⟩ = some (.bool xl))) (by kernel_rfl) ?_ (fun hHeld => ?_)
      · replace HB := Below.drew HB; replace g0 := Blk.drew g0; replace rH := Rd.drew rH; replace rT := Rd.drew rT; (try dsimp only); exact ⟨g0.cell_ 0 rfl, g0.cell_ 1 rfl, g0.cell_ 2 rfl⟩
      replace HB := Below.drew HB
      replace g0 := Blk.drew g0
      replace rH := Rd.drew rH
      replace rT := Rd.drew rT
      have zHB := HB.size
      refine take_movev (v := ?vu6t9x1) 1 (Operand.tmp 0) rfl rfl (by first | exact .inl rfl | exact .inr rfl) rfl (by kernel_rfl) (by kernel_rfl) (by kernel_rfl) (fun _ _ _ h => h) (by assumption) ?yu6t9x1 ?ru6t9x1
      case yu6t9x1 => (go_simp; try (with_reducible rfl))
      simp only [List.setIfInBounds_toArray, List.set_cons_zero, List.set_cons_succ]
      refine take_movev (v := ?vu6t9x2) 2 (Operand.tmp 5) rfl rfl (by first | exact .inl rfl | exact .inr rfl) rfl (by kernel_rfl) (by kernel_rfl) (by kernel_rfl) (fun _ _ _ h => h) (by assumption) ?yu6t9x2 ?ru6t9x2
      case yu6t9x2 => (go_simp; try (with_reducible rfl))
      simp only [List.setIfInBounds_toArray, List.set_cons_zero, List.set_cons_succ]
      refine take_op (v := ?vu6t9x3) 3 (Op.slice 108 (Operand.tmp 45) none (some (Operand.tmp 46)) none) 108 rfl rfl rfl rfl rfl (by kernel_rfl) (by kernel_rfl) (by kernel_rfl) (fun _ _ _ h => h) ?yu6t9x3 (by assumption) ?ru6t9x3
      case yu6t9x3 => (intro w' hSw; (try dsimp only at hSw); go_simp; try (with_reducible rfl))
      simp only [List.setIfInBounds_toArray, List.set_cons_zero, List.set_cons_succ]
      refine take_op (v := ?vu6t9x5) 5 (Op.load 111 (Operand.tmp 3)) 111 rfl rfl rfl rfl rfl (by kernel_rfl) (by kernel_rfl) (by kernel_rfl) (fun _ _ _ h => h) ?yu6t9x5 (by assumption) ?ru6t9x5
      case yu6t9x5 => (intro w' hSw; (try dsimp only at hSw); go_simp; try (with_reducible rfl))
      simp only [List.setIfInBounds_toArray, List.set_cons_zero, List.set_cons_succ]
      refine take_movev (v := ?vu6t9x8) 8 (Operand.tmp 0) rfl rfl (by first | exact .inl rfl | exact .inr rfl) rfl (by kernel_rfl) (by kernel_rfl) (by kernel_rfl) (fun _ _ _ h => h) (by assumption) ?yu6t9x8 ?ru6t9x8
      case yu6t9x8 => (go_simp; try (with_reducible rfl))
      simp only [List.setIfInBounds_toArray, List.set_cons_zero, List.set_cons_succ]
      refine take_movev (v := ?vu6t9x9) 9 (Operand.tmp 5) rfl rfl (by first | exact .inl rfl | exact .inr rfl) rfl (by kernel_rfl) (by kernel_rfl) (by kernel_rfl) (fun _ _ _ h => h) (by assumption) ?yu6t9x9 ?ru6t9x9
      case yu6t9x9 => (go_simp; try (with_reducible rfl))
      simp only [List.setIfInBounds_toArray, List.set_cons_zero, List.set_cons_succ]
      refine take_op (v := ?vu6t9x10) 10 (Op.slice 108 (Operand.tmp 52) (some (Operand.tmp 53)) none none) 108 rfl rfl rfl rfl rfl (by kernel_rfl) (by kernel_rfl) (by kernel_rfl) (fun _ _ _ h => h) ?yu6t9x10 (by assumption) ?ru6t9x10
      case yu6t9x10 => (intro w' hSw; (try dsimp only at hSw); go_simp; try (with_reducible rfl))
      simp only [List.setIfInBounds_toArray, List.set_cons_zero, List.set_cons_succ]
      refine wpAnyH_ready (rs := [0, 6]) (by kernel_rfl) (by simp) (AllReadyH.cons rfl (fun K0 hK0 => ?ku6t9x0) (AllReadyH.cons rfl (fun K6 hK6 => ?ku6t9x6) AllReadyH.nil))
      case ku6t9x0 =>
        refine take_build (e := 111) (len := 0) (size := 3) (w.heap.size + 1) (([] : List Value)) 0 (Op.buildSlice 108 0 #[]) 108 rfl rfl rfl (by kernel_rfl) ?eu6t9xb1x0 (by rfl) (by decide) (by first | exact Nat.le_refl _ | (simp only [World.size_alloc, World.size_setCell, World.size_drew] at *; omega) | omega) ?_
        case eu6t9xb1x0 => (go_simp; try (first | with_reducible rfl | (simp [rcells, rcell]; done) | (simp [fcells]; done) | (simp [tcells]; done) | rfl))
        intro gx0 w0 o0 gr0 l0 m0
        have z0 := gr0.size
        try simp only [World.size_drew] at z0
        replace HB := below_grow HB gr0
        have zHB0 := HB.size
        replace g0 := Blk.grow0 g0 gr0
        replace rH := Rd.grow0 rH gr0 (by first | exact Nat.le_refl _ | (simp only [World.size_alloc, World.size_setCell, World.size_drew] at *; omega) | omega)
        replace rT := Rd.grow0 rT gr0 (by first | exact Nat.le_refl _ | (simp only [World.size_alloc, World.size_setCell, World.size_drew] at *; omega) | omega)
        refine hK0.out _ _ ?su6t9xb1x0 (fun hHeld => ?ru6t9xb1x0)
        case su6t9xb1x0 => ((try dsimp only); exact ⟨g0.cell_ 0 rfl, g0.cell_ 1 rfl, g0.cell_ 2 rfl⟩)
        try simp only [List.setIfInBounds_toArray, List.set_cons_zero, List.set_cons_succ]
        refine wpAnyH_ready (rs := [4, 6]) (by kernel_rfl) (by simp) (AllReadyH.cons rfl (fun K4 hK4 => ?ku6t9xb1x4) (AllReadyH.cons rfl (fun K6 hK6 => ?ku6t9xb1x6) AllReadyH.nil))
        case ku6t9xb1x4 =>
          refine take_app El_t 4 (Operand.tmp 44) (Operand.tmp 47) 108 rfl rfl rfl (by kernel_rfl) o0 rfl (rH) rfl (tcells_one _) (by unfold maxLen; omega) (by omega) (by first | exact Nat.le_refl _ | (simp only [World.size_alloc, World.size_setCell, World.size_drew] at *; omega) | omega) ?_
          intro A4 c4 w4 o4 gr4 at4
          have z4 := gr4.size
          try simp only [World.size_drew] at z4
          replace HB := below_grown HB gr4 o0 (by first | exact Nat.le_refl _ | (simp only [World.size_alloc, World.size_setCell, World.size_drew] at *; omega) | omega)
          have zHB4 := HB.size
          replace g0 := Blk.grown g0 gr4 (by intro e; have := o0.blk _ e.symm; omega)
          replace rH := Rd.grownOwn rH gr4 o0 (by first | exact Nat.le_refl _ | (simp only [World.size_alloc, World.size_setCell, World.size_drew] at *; omega) | omega) (by first | exact Nat.le_refl _ | (simp only [World.size_alloc, World.size_setCell, World.size_drew] at *; omega) | omega)
          replace rT := Rd.grownOwn rT gr4 o0 (by first | exact Nat.le_refl _ | (simp only [World.size_alloc, World.size_setCell, World.size_drew] at *; omega) | omega) (by first | exact Nat.le_refl _ | (simp only [World.size_alloc, World.size_setCell, World.size_drew] at *; omega) | omega)
          refine hK4.out _ _ ?su6t9xb1xb2x4 (fun hHeld => ?ru6t9xb1xb2x4)
          case su6t9xb1xb2x4 => ((try dsimp only); exact ⟨g0.cell_ 0 rfl, g0.cell_ 1 rfl, g0.cell_ 2 rfl⟩)
          try simp only [List.setIfInBounds_toArray, List.set_cons_zero, List.set_cons_succ]
          refine wpAnyH_ready (rs := [6]) (by kernel_rfl) (by simp) (AllReadyH.cons rfl (fun K6 hK6 => ?ku6t9xb1xb2x6) AllReadyH.nil)
          refine take_build (e := 111) (len := 1) (size := 3) (w.heap.size + 1) (tcells [⟨xw, xA, xn, xc, xl, xs⟩]) 6 (Op.buildSlice 108 1 #[(0, Operand.tmp 49)]) 108 rfl rfl rfl (by kernel_rfl) ?eu6t9xb1xb2x6 (by rfl) (by decide) (by first | exact Nat.le_refl _ | (simp only [World.size_alloc, World.size_setCell, World.size_drew] at *; omega) | omega) ?_
          case eu6t9xb1xb2x6 => (go_simp; try (first | with_reducible rfl | (simp [rcells, rcell]; done) | (simp [fcells]; done) | (simp [tcells]; done) | rfl))
          intro gx6 w6 o6 gr6 l6 m6
          have z6 := gr6.size
          try simp only [World.size_drew] at z6
          replace HB := below_grow HB gr6
          have zHB6 := HB.size
          replace g0 := Blk.grow0 g0 gr6
          replace rH := Rd.grow0 rH gr6 (by first | exact Nat.le_refl _ | (simp only [World.size_alloc, World.size_setCell, World.size_drew] at *; omega) | omega)
          replace rT := Rd.grow0 rT gr6 (by first | exact Nat.le_refl _ | (simp only [World.size_alloc, World.size_setCell, World.size_drew] at *; omega) | omega)
          replace o4 := Own.grow0 o4 gr6
          refine hK6.out _ _ ?su6t9xb1xb2x6 (fun hHeld => ?ru6t9xb1xb2x6)
          case su6t9xb1xb2x6 => ((try dsimp only); exact ⟨g0.cell_ 0 rfl, g0.cell_ 1 rfl, g0.cell_ 2 rfl⟩)
          try simp only [List.setIfInBounds_toArray, List.set_cons_zero, List.set_cons_succ]
          refine wpAnyH_ready (rs := [7]) (by kernel_rfl) (by simp) (AllReadyH.cons rfl (fun K7 hK7 => ?ku6t9xb1xb2x7) AllReadyH.nil)
          refine take_app El_t 7 (Operand.tmp 48) (Operand.tmp 50) 108 rfl rfl rfl (by kernel_rfl) o4 rfl (o6.rd) rfl (tcells_one _) (by unfold maxLen; omega) (by omega) (by first | exact Nat.le_refl _ | (simp only [World.size_alloc, World.size_setCell, World.size_drew] at *; omega) | omega) ?_
          intro A7 c7 w7 o7 gr7 at7
          have z7 := gr7.size
          try simp only [World.size_drew] at z7
          replace HB := below_grown HB gr7 o4 (by first | exact Nat.le_refl _ | (simp only [World.size_alloc, World.size_setCell, World.size_drew] at *; omega) | omega)
          have zHB7 := HB.size
          replace g0 := Blk.grown g0 gr7 (by intro e; have := o4.blk _ e.symm; omega)
          replace rH := Rd.grownOwn rH gr7 o4 (by first | exact Nat.le_refl _ | (simp only [World.size_alloc, World.size_setCell, World.size_drew] at *; omega) | omega) (by first | exact Nat.le_refl _ | (simp only [World.size_alloc, World.size_setCell, World.size_drew] at *; omega) | omega)
          replace rT := Rd.grownOwn rT gr7 o4 (by first | exact Nat.le_refl _ | (simp only [World.size_alloc, World.size_setCell, World.size_drew] at *; omega) | omega) (by first | exact Nat.le_refl _ | (simp only [World.size_alloc, World.size_setCell, World.size_drew] at *; omega) | omega)
          refine hK7.out _ _ ?su6t9xb1xb2x7 (fun hHeld => ?ru6t9xb1xb2x7)
          case su6t9xb1xb2x7 => ((try dsimp only); exact ⟨g0.cell_ 0 rfl, g0.cell_ 1 rfl, g0.cell_ 2 rfl⟩)
          try simp only [List.setIfInBounds_toArray, List.set_cons_zero, List.set_cons_succ]
          refine wpAnyH_ready (rs := [11]) (by kernel_rfl) (by simp) (AllReadyH.cons rfl (fun K11 hK11 => ?ku6t9xb1xb2x11) AllReadyH.nil)
          refine take_app El_t 11 (Operand.tmp 51) (Operand.tmp 54) 108 rfl rfl rfl (by kernel_rfl) o7 rfl (rT) rfl (tcells_one _) (by unfold maxLen; omega) (by omega) (by first | exact Nat.le_refl _ | (simp only [World.size_alloc, World.size_setCell, World.size_drew] at *; omega) | omega) ?_
          intro A11 c11 w11 o11 gr11 at11
          have z11 := gr11.size
          try simp only [World.size_drew] at z11
          replace HB := below_grown HB gr11 o7 (by first | exact Nat.le_refl _ | (simp only [World.size_alloc, World.size_setCell, World.size_drew] at *; omega) | omega)
          have zHB11 := HB.size
          replace g0 := Blk.grown g0 gr11 (by intro e; have := o7.blk _ e.symm; omega)
          replace rH := Rd.grownOwn rH gr11 o7 (by first | exact Nat.le_refl _ | (simp only [World.size_alloc, World.size_setCell, World.size_drew] at *; omega) | omega) (by first | exact Nat.le_refl _ | (simp only [World.size_alloc, World.size_setCell, World.size_drew] at *; omega) | omega)
          replace rT := Rd.grownOwn rT gr11 o7 (by first | exact Nat.le_refl _ | (simp only [World.size_alloc, World.size_setCell, World.size_drew] at *; omega) | omega) (by first | exact Nat.le_refl _ | (simp only [World.size_alloc, World.size_setCell, World.size_drew] at *; omega) | omega)
          refine hK11.out _ _ ?su6t9xb1xb2x11 (fun hHeld => ?ru6t9xb1xb2x11)
          case su6t9xb1xb2x11 => ((try dsimp only); exact ⟨g0.cell_ 0 rfl, g0.cell_ 1 rfl, g0.cell_ 2 rfl⟩)
          try simp only [List.setIfInBounds_toArray, List.set_cons_zero, List.set_cons_succ]
          refine take_op (v := ?vu6t9xb1xb2x12) 12 (Op.assign (Operand.tmp 55)) 108 rfl rfl rfl rfl rfl (by kernel_rfl) (by kernel_rfl) (by kernel_rfl) (fun _ _ _ h => h) ?yu6t9xb1xb2x12 (by assumption) ?ru6t9xb1xb2x12
          case yu6t9xb1xb2x12 => (intro w' hSw; (try dsimp only at hSw); go_simp; try (with_reducible rfl))
          simp only [List.setIfInBounds_toArray, List.set_cons_zero, List.set_cons_succ]
          refine wpAnyH_done (by kernel_rfl) ?_ _
          clear hHeld
          have o12 := o11.base_le (base' := w.heap.size) (by omega)
          rw [List.nil_append, ← tcells_app, ← tcells_app, show 0 + i + 1 + (n - i) = n + 1 by omega, List.append_assoc, List.singleton_append, ← HSP.out] at o12
          have hnn : 0 + i + 1 + (n - i) = n + 1 := by omega
          go_wp2_with fail
          try rw [Exit.noGoto_ret]
          go_ret
          refine ⟨A11, c11, ?_, o12, HB⟩
          first | (rw [← hnn]; rfl) | (simp; omega) | (simp only [Ending.returned.injEq, Value.slice.injEq]; simp; omega)
        case ku6t9xb1x6 =>
          refine take_build (e := 111) (len := 1) (size := 3) (w.heap.size + 1) (tcells [⟨xw, xA, xn, xc, xl, xs⟩]) 6 (Op.buildSlice 108 1 #[(0, Operand.tmp 49)]) 108 rfl rfl rfl (by kernel_rfl) ?eu6t9xb1xb6x6 (by rfl) (by decide) (by first | exact Nat.le_refl _ | (simp only [World.size_alloc, World.size_setCell, World.size_drew] at *; omega) | omega) ?_
          case eu6t9xb1xb6x6 => (go_simp; try (first | with_reducible rfl | (simp [rcells, rcell]; done) | (simp [fcells]; done) | (simp [tcells]; done) | rfl))
          intro gx6 w6 o6 gr6 l6 m6
          have z6 := gr6.size
          try simp only [World.size_drew] at z6
          replace HB := below_grow HB gr6
          have zHB6 := HB.size
          replace g0 := Blk.grow0 g0 gr6
          replace rH := Rd.grow0 rH gr6 (by first | exact Nat.le_refl _ | (simp only [World.size_alloc, World.size_setCell, World.size_drew] at *; omega) | omega)
          replace rT := Rd.grow0 rT gr6 (by first | exact Nat.le_refl _ | (simp only [World.size_alloc, World.size_setCell, World.size_drew] at *; omega) | omega)
          replace o0 := Own.grow0 o0 gr6
          refine hK6.out _ _ ?su6t9xb1xb6x6 (fun hHeld => ?ru6t9xb1xb6x6)
          case su6t9xb1xb6x6 => ((try dsimp only); exact ⟨g0.cell_ 0 rfl, g0.cell_ 1 rfl, g0.cell_ 2 rfl⟩)
          try simp only [List.setIfInBounds_toArray, List.set_cons_zero, List.set_cons_succ]
          refine wpAnyH_ready (rs := [4]) (by kernel_rfl) (by simp) (AllReadyH.cons rfl (fun K4 hK4 => ?ku6t9xb1xb6x4) AllReadyH.nil)
          refine take_app El_t 4 (Operand.tmp 44) (Operand.tmp 47) 108 rfl rfl rfl (by kernel_rfl) o0 rfl (rH) rfl (tcells_one _) (by unfold maxLen; omega) (by omega) (by first | exact Nat.le_refl _ | (simp only [World.size_alloc, World.size_setCell, World.size_drew] at *; omega) | omega) ?_
          intro A4 c4 w4 o4 gr4 at4
          have z4 := gr4.size
          try simp only [World.size_drew] at z4
          replace HB := below_grown HB gr4 o0 (by first | exact Nat.le_refl _ | (simp only [World.size_alloc, World.size_setCell, World.size_drew] at *; omega) | omega)
          have zHB4 := HB.size
          replace g0 := Blk.grown g0 gr4 (by intro e; have := o0.blk _ e.symm; omega)
          replace rH := Rd.grownOwn rH gr4 o0 (by first | exact Nat.le_refl _ | (simp only [World.size_alloc, World.size_setCell, World.size_drew] at *; omega) | omega) (by first | exact Nat.le_refl _ | (simp only [World.size_alloc, World.size_setCell, World.size_drew] at *; omega) | omega)
          replace rT := Rd.grownOwn rT gr4 o0 (by first | exact Nat.le_refl _ | (simp only [World.size_alloc, World.size_setCell, World.size_drew] at *; omega) | omega) (by first | exact Nat.le_refl _ | (simp only [World.size_alloc, World.size_setCell, World.size_drew] at *; omega) | omega)
          replace o6 := Own.other o6 gr4 (by intro k hk e; simp only [blkOf, Option.map_some, Option.some.injEq] at hk e; omega)
          refine hK4.out _ _ ?su6t9xb1xb6x4 (fun hHeld => ?ru6t9xb1xb6x4)
          case su6t9xb1xb6x4 => ((try dsimp only); exact ⟨g0.cell_ 0 rfl, g0.cell_ 1 rfl, g0.cell_ 2 rfl⟩)
          try simp only [List.setIfInBounds_toArray, List.set_cons_zero, List.set_cons_succ]
          refine wpAnyH_ready (rs := [7]) (by kernel_rfl) (by simp) (AllReadyH.cons rfl (fun K7 hK7 => ?ku6t9xb1xb6x7) AllReadyH.nil)
          refine take_app El_t 7 (Operand.tmp 48) (Operand.tmp 50) 108 rfl rfl rfl (by kernel_rfl) o4 rfl (o6.rd) rfl (tcells_one _) (by unfold maxLen; omega) (by omega) (by first | exact Nat.le_refl _ | (simp only [World.size_alloc, World.size_setCell, World.size_drew] at *; omega) | omega) ?_
          intro A7 c7 w7 o7 gr7 at7
          have z7 := gr7.size
          try simp only [World.size_drew] at z7
          replace HB := below_grown HB gr7 o4 (by first | exact Nat.le_refl _ | (simp only [World.size_alloc, World.size_setCell, World.size_drew] at *; omega) | omega)
          have zHB7 := HB.size
          replace g0 := Blk.grown g0 gr7 (by intro e; have := o4.blk _ e.symm; omega)
          replace rH := Rd.grownOwn rH gr7 o4 (by first | exact Nat.le_refl _ | (simp only [World.size_alloc, World.size_setCell, World.size_drew] at *; omega) | omega) (by first | exact Nat.le_refl _ | (simp only [World.size_alloc, World.size_setCell, World.size_drew] at *; omega) | omega)
          replace rT := Rd.grownOwn rT gr7 o4 (by first | exact Nat.le_refl _ | (simp only [World.size_alloc, World.size_setCell, World.size_drew] at *; omega) | omega) (by first | exact Nat.le_refl _ | (simp only [World.size_alloc, World.size_setCell, World.size_drew] at *; omega) | omega)
          refine hK7.out _ _ ?su6t9xb1xb6x7 (fun hHeld => ?ru6t9xb1xb6x7)
          case su6t9xb1xb6x7 => ((try dsimp only); exact ⟨g0.cell_ 0 rfl, g0.cell_ 1 rfl, g0.cell_ 2 rfl⟩)
          try simp only [List.setIfInBounds_toArray, List.set_cons_zero, List.set_cons_succ]
          refine wpAnyH_ready (rs := [11]) (by kernel_rfl) (by simp) (AllReadyH.cons rfl (fun K11 hK11 => ?ku6t9xb1xb6x11) AllReadyH.nil)
          refine take_app El_t 11 (Operand.tmp 51) (Operand.tmp 54) 108 rfl rfl rfl (by kernel_rfl) o7 rfl (rT) rfl (tcells_one _) (by unfold maxLen; omega) (by omega) (by first | exact Nat.le_refl _ | (simp only [World.size_alloc, World.size_setCell, World.size_drew] at *; omega) | omega) ?_
          intro A11 c11 w11 o11 gr11 at11
          have z11 := gr11.size
          try simp only [World.size_drew] at z11
          replace HB := below_grown HB gr11 o7 (by first | exact Nat.le_refl _ | (simp only [World.size_alloc, World.size_setCell, World.size_drew] at *; omega) | omega)
          have zHB11 := HB.size
          replace g0 := Blk.grown g0 gr11 (by intro e; have := o7.blk _ e.symm; omega)
          replace rH := Rd.grownOwn rH gr11 o7 (by first | exact Nat.le_refl _ | (simp only [World.size_alloc, World.size_setCell, World.size_drew] at *; omega) | omega) (by first | exact Nat.le_refl _ | (simp only [World.size_alloc, World.size_setCell, World.size_drew] at *; omega) | omega)
          replace rT := Rd.grownOwn rT gr11 o7 (by first | exact Nat.le_refl _ | (simp only [World.size_alloc, World.size_setCell, World.size_drew] at *; omega) | omega) (by first | exact Nat.le_refl _ | (simp only [World.size_alloc, World.size_setCell, World.size_drew] at *; omega) | omega)
          refine hK11.out _ _ ?su6t9xb1xb6x11 (fun hHeld => ?ru6t9xb1xb6x11)
          case su6t9xb1xb6x11 => ((try dsimp only); exact ⟨g0.cell_ 0 rfl, g0.cell_ 1 rfl, g0.cell_ 2 rfl⟩)
          try simp only [List.setIfInBounds_toArray, List.set_cons_zero, List.set_cons_succ]
          refine take_op (v := ?vu6t9xb1xb6x12) 12 (Op.assign (Operand.tmp 55)) 108 rfl rfl rfl rfl rfl (by kernel_rfl) (by kernel_rfl) (by kernel_rfl) (fun _ _ _ h => h) ?yu6t9xb1xb6x12 (by assumption) ?ru6t9xb1xb6x12
          case yu6t9xb1xb6x12 => (intro w' hSw; (try dsimp only at hSw); go_simp; try (with_reducible rfl))
          simp only [List.setIfInBounds_toArray, List.set_cons_zero, List.set_cons_succ]
          refine wpAnyH_done (by kernel_rfl) ?_ _
          clear hHeld
          have o12 := o11.base_le (base' := w.heap.size) (by omega)
          rw [List.nil_append, ← tcells_app, ← tcells_app, show 0 + i + 1 + (n - i) = n + 1 by omega, List.append_assoc, List.singleton_append, ← HSP.out] at o12
          have hnn : 0 + i + 1 + (n - i) = n + 1 := by omega
          go_wp2_with fail
          try rw [Exit.noGoto_ret]
          go_ret
          refine ⟨A11, c11, ?_, o12, HB⟩
          first | (rw [← hnn]; rfl) | (simp; omega) | (simp only [Ending.returned.injEq, Value.slice.injEq]; simp; omega)
      case ku6t9x6 =>
        refine take_build (e := 111) (len := 1) (size := 3) (w.heap.size + 1) (tcells [⟨xw, xA, xn, xc, xl, xs⟩]) 6 (Op.buildSlice 108 1 #[(0, Operand.tmp 49)]) 108 rfl rfl rfl (by kernel_rfl) ?eu6t9xb10x6 (by rfl) (by decide) (by first | exact Nat.le_refl _ | (simp only [World.size_alloc, World.size_setCell, World.size_drew] at *; omega) | omega) ?_
        case eu6t9xb10x6 => (go_simp; try (first | with_reducible rfl | (simp [rcells, rcell]; done) | (simp [fcells]; done) | (simp [tcells]; done) | rfl))
        intro gx6 w6 o6 gr6 l6 m6
        have z6 := gr6.size
        try simp only [World.size_drew] at z6
        replace HB := below_grow HB gr6
        have zHB6 := HB.size
        replace g0 := Blk.grow0 g0 gr6
        replace rH := Rd.grow0 rH gr6 (by first | exact Nat.le_refl _ | (simp only [World.size_alloc, World.size_setCell, World.size_drew] at *; omega) | omega)
        replace rT := Rd.grow0 rT gr6 (by first | exact Nat.le_refl _ | (simp only [World.size_alloc, World.size_setCell, World.size_drew] at *; omega) | omega)
        refine hK6.out _ _ ?su6t9xb10x6 (fun hHeld => ?ru6t9xb10x6)
        case su6t9xb10x6 => ((try dsimp only); exact ⟨g0.cell_ 0 rfl, g0.cell_ 1 rfl, g0.cell_ 2 rfl⟩)
        try simp only [List.setIfInBounds_toArray, List.set_cons_zero, List.set_cons_succ]
        refine wpAnyH_ready (rs := [0]) (by kernel_rfl) (by simp) (AllReadyH.cons rfl (fun K0 hK0 => ?ku6t9xb10x0) AllReadyH.nil)
        refine take_build (e := 111) (len := 0) (size := 3) (w.heap.size + 1) (([] : List Value)) 0 (Op.buildSlice 108 0 #[]) 108 rfl rfl rfl (by kernel_rfl) ?eu6t9xb10x0 (by rfl) (by decide) (by first | exact Nat.le_refl _ | (simp only [World.size_alloc, World.size_setCell, World.size_drew] at *; omega) | omega) ?_
        case eu6t9xb10x0 => (go_simp; try (first | with_reducible rfl | (simp [rcells, rcell]; done) | (simp [fcells]; done) | (simp [tcells]; done) | rfl))
        intro gx0 w0 o0 gr0 l0 m0
        have z0 := gr0.size
        try simp only [World.size_drew] at z0
        replace HB := below_grow HB gr0
        have zHB0 := HB.size
        replace g0 := Blk.grow0 g0 gr0
        replace rH := Rd.grow0 rH gr0 (by first | exact Nat.le_refl _ | (simp only [World.size_alloc, World.size_setCell, World.size_drew] at *; omega) | omega)
        replace rT := Rd.grow0 rT gr0 (by first | exact Nat.le_refl _ | (simp only [World.size_alloc, World.size_setCell, World.size_drew] at *; omega) | omega)
        replace o6 := Own.grow0 o6 gr0
        refine hK0.out _ _ ?su6t9xb10x0 (fun hHeld => ?ru6t9xb10x0)
        case su6t9xb10x0 => ((try dsimp only); exact ⟨g0.cell_ 0 rfl, g0.cell_ 1 rfl, g0.cell_ 2 rfl⟩)
        try simp only [List.setIfInBounds_toArray, List.set_cons_zero, List.set_cons_succ]
        refine wpAnyH_ready (rs := [4]) (by kernel_rfl) (by simp) (AllReadyH.cons rfl (fun K4 hK4 => ?ku6t9xb10x4) AllReadyH.nil)
        refine take_app El_t 4 (Operand.tmp 44) (Operand.tmp 47) 108 rfl rfl rfl (by kernel_rfl) o0 rfl (rH) rfl (tcells_one _) (by unfold maxLen; omega) (by omega) (by first | exact Nat.le_refl _ | (simp only [World.size_alloc, World.size_setCell, World.size_drew] at *; omega) | omega) ?_
        intro A4 c4 w4 o4 gr4 at4
        have z4 := gr4.size
        try simp only [World.size_drew] at z4
        replace HB := below_grown HB gr4 o0 (by first | exact Nat.le_refl _ | (simp only [World.size_alloc, World.size_setCell, World.size_drew] at *; omega) | omega)
        have zHB4 := HB.size
        replace g0 := Blk.grown g0 gr4 (by intro e; have := o0.blk _ e.symm; omega)
        replace rH := Rd.grownOwn rH gr4 o0 (by first | exact Nat.le_refl _ | (simp only [World.size_alloc, World.size_setCell, World.size_drew] at *; omega) | omega) (by first | exact Nat.le_refl _ | (simp only [World.size_alloc, World.size_setCell, World.size_drew] at *; omega) | omega)
        replace rT := Rd.grownOwn rT gr4 o0 (by first | exact Nat.le_refl _ | (simp only [World.size_alloc, World.size_setCell, World.size_drew] at *; omega) | omega) (by first | exact Nat.le_refl _ | (simp only [World.size_alloc, World.size_setCell, World.size_drew] at *; omega) | omega)
        replace o6 := Own.other o6 gr4 (by intro k hk e; simp only [blkOf, Option.map_some, Option.some.injEq] at hk e; omega)
        refine hK4.out _ _ ?su6t9xb10x4 (fun hHeld => ?ru6t9xb10x4)
        case su6t9xb10x4 => ((try dsimp only); exact ⟨g0.cell_ 0 rfl, g0.cell_ 1 rfl, g0.cell_ 2 rfl⟩)
        try simp only [List.setIfInBounds_toArray, List.set_cons_zero, List.set_cons_succ]
        refine wpAnyH_ready (rs := [7]) (by kernel_rfl) (by simp) (AllReadyH.cons rfl (fun K7 hK7 => ?ku6t9xb10x7) AllReadyH.nil)
        refine take_app El_t 7 (Operand.tmp 48) (Operand.tmp 50) 108 rfl rfl rfl (by kernel_rfl) o4 rfl (o6.rd) rfl (tcells_one _) (by unfold maxLen; omega) (by omega) (by first | exact Nat.le_refl _ | (simp only [World.size_alloc, World.size_setCell, World.size_drew] at *; omega) | omega) ?_
        intro A7 c7 w7 o7 gr7 at7
        have z7 := gr7.size
        try simp only [World.size_drew] at z7
        replace HB := below_grown HB gr7 o4 (by first | exact Nat.le_refl _ | (simp only [World.size_alloc, World.size_setCell, World.size_drew] at *; omega) | omega)
        have zHB7 := HB.size
        replace g0 := Blk.grown g0 gr7 (by intro e; have := o4.blk _ e.symm; omega)
        replace rH := Rd.grownOwn rH gr7 o4 (by first | exact Nat.le_refl _ | (simp only [World.size_alloc, World.size_setCell, World.size_drew] at *; omega) | omega) (by first | exact Nat.le_refl _ | (simp only [World.size_alloc, World.size_setCell, World.size_drew] at *; omega) | omega)
        replace rT := Rd.grownOwn rT gr7 o4 (by first | exact Nat.le_refl _ | (simp only [World.size_alloc, World.size_setCell, World.size_drew] at *; omega) | omega) (by first | exact Nat.le_refl _ | (simp only [World.size_alloc, World.size_setCell, World.size_drew] at *; omega) | omega)
        refine hK7.out _ _ ?su6t9xb10x7 (fun hHeld => ?ru6t9xb10x7)
        case su6t9xb10x7 => ((try dsimp only); exact ⟨g0.cell_ 0 rfl, g0.cell_ 1 rfl, g0.cell_ 2 rfl⟩)
        try simp only [List.setIfInBounds_toArray, List.set_cons_zero, List.set_cons_succ]
        refine wpAnyH_ready (rs := [11]) (by kernel_rfl) (by simp) (AllReadyH.cons rfl (fun K11 hK11 => ?ku6t9xb10x11) AllReadyH.nil)
        refine take_app El_t 11 (Operand.tmp 51) (Operand.tmp 54) 108 rfl rfl rfl (by kernel_rfl) o7 rfl (rT) rfl (tcells_one _) (by unfold maxLen; omega) (by omega) (by first | exact Nat.le_refl _ | (simp only [World.size_alloc, World.size_setCell, World.size_drew] at *; omega) | omega) ?_
        intro A11 c11 w11 o11 gr11 at11
        have z11 := gr11.size
        try simp only [World.size_drew] at z11
        replace HB := below_grown HB gr11 o7 (by first | exact Nat.le_refl _ | (simp only [World.size_alloc, World.size_setCell, World.size_drew] at *; omega) | omega)
        have zHB11 := HB.size
        replace g0 := Blk.grown g0 gr11 (by intro e; have := o7.blk _ e.symm; omega)
        replace rH := Rd.grownOwn rH gr11 o7 (by first | exact Nat.le_refl _ | (simp only [World.size_alloc, World.size_setCell, World.size_drew] at *; omega) | omega) (by first | exact Nat.le_refl _ | (simp only [World.size_alloc, World.size_setCell, World.size_drew] at *; omega) | omega)
        replace rT := Rd.grownOwn rT gr11 o7 (by first | exact Nat.le_refl _ | (simp only [World.size_alloc, World.size_setCell, World.size_drew] at *; omega) | omega) (by first | exact Nat.le_refl _ | (simp only [World.size_alloc, World.size_setCell, World.size_drew] at *; omega) | omega)
        refine hK11.out _ _ ?su6t9xb10x11 (fun hHeld => ?ru6t9xb10x11)
        case su6t9xb10x11 => ((try dsimp only); exact ⟨g0.cell_ 0 rfl, g0.cell_ 1 rfl, g0.cell_ 2 rfl⟩)
        try simp only [List.setIfInBounds_toArray, List.set_cons_zero, List.set_cons_succ]
        refine take_op (v := ?vu6t9xb10x12) 12 (Op.assign (Operand.tmp 55)) 108 rfl rfl rfl rfl rfl (by kernel_rfl) (by kernel_rfl) (by kernel_rfl) (fun _ _ _ h => h) ?yu6t9xb10x12 (by assumption) ?ru6t9xb10x12
        case yu6t9xb10x12 => (intro w' hSw; (try dsimp only at hSw); go_simp; try (with_reducible rfl))
        simp only [List.setIfInBounds_toArray, List.set_cons_zero, List.set_cons_succ]
        refine wpAnyH_done (by kernel_rfl) ?_ _
        clear hHeld
        have o12 := o11.base_le (base' := w.heap.size) (by omega)
        rw [List.nil_append, ← tcells_app, ← tcells_app, show 0 + i + 1 + (n - i) = n + 1 by omega, List.append_assoc, List.singleton_append, ← HSP.out] at o12
        have hnn : 0 + i + 1 + (n - i) = n + 1 := by omega
        go_wp2_with fail
        try rw [Exit.noGoto_ret]
        go_ret
        refine ⟨A11, c11, ?_, o12, HB⟩
        first | (rw [← hnn]; rfl) | (simp; omega) | (simp only [Ending.returned.injEq, Value.slice.injEq]; simp; omega)
end LenW
end Go.Proofs.Ytdfclgpkhfpkhaa

namespace Go.Proofs.Ytdfclgpkhfpkhaa
set_option linter.unusedVariables false
set_option linter.unusedSimpArgs false
set_option linter.unnecessarySimpa false
open Go.RowKit
namespace LenW

/-- Plainly. -/
abbrev PT := Int × List Int × Bool
def TT.abs (t : TT) : PT := (t.w, t.s, t.l)
def goesP (y x : PT) : Bool := decide (y.1 < x.1) || (decide (y.1 = x.1) && (y.2.2 || !x.2.2))
def putP (x : PT) : List PT → List PT
  | [] => [x]
  | y :: r => if goesP y x then y :: putP x r else x :: y :: r
theorem put_abs (x : TT) (ts : List TT) : (putT x ts).map TT.abs = putP x.abs (ts.map TT.abs) := by
  induction ts with
  | nil => rfl
  | cons y r ih =>
    rw [putT, List.map_cons, putP]
    show _ = if goesT y x then _ else _
    split
    · rw [List.map_cons, ih]
    · rfl
theorem putT_mem {x z : TT} {ts : List TT} (h : z ∈ putT x ts) : z = x ∨ z ∈ ts := by
  induction ts with
  | nil => simp [putT] at h; exact .inl h
  | cons y r ih =>
    unfold putT at h
    split at h
    · rcases List.mem_cons.1 h with rfl | h
      · exact .inr (by simp)
      · rcases ih h with h | h
        · exact .inl h
        · exact .inr (by simp [h])
    · rcases List.mem_cons.1 h with rfl | h
      · exact .inl rfl
      · exact .inr h
/-- A thing's symbols lie where X allows. -/
structure SymX (X : Nat → Prop) (w : World) (t : TT) : Prop where
  rd : Rd w w.heap.size 1 t.A t.n (ints t.s)
  cap : t.n ≤ t.c
  blk : ∀ k, blkOf t.A = some k → k < w.heap.size ∧ X k
structure RowX (X : Nat → Prop) (w : World) (A : Option Addr) (n c : Nat) (ts : List TT) : Prop where
  rd : Rd w w.heap.size 3 A n (tcells ts)
  cap : n ≤ c
  blk : ∀ k, blkOf A = some k → k < w.heap.size ∧ X k
  sym : ∀ t ∈ ts, SymX X w t
theorem SymX.below {X : Nat → Prop} {w w' : World} {t : TT} (h : SymX X w t) (hb : Below w.heap.size w w') : SymX X w' t :=
  ⟨(h.rd.below hb).more hb.size, h.cap, fun k hk => ⟨Nat.lt_of_lt_of_le (h.blk k hk).1 hb.size, (h.blk k hk).2⟩⟩
theorem RowX.below {X : Nat → Prop} {w w' : World} {A : Option Addr} {n c : Nat} {ts : List TT} (h : RowX X w A n c ts) (hb : Below w.heap.size w w') : RowX X w' A n c ts :=
  ⟨(h.rd.below hb).more hb.size, h.cap, fun k hk => ⟨Nat.lt_of_lt_of_le (h.blk k hk).1 hb.size, (h.blk k hk).2⟩, fun t ht => (h.sym t ht).below hb⟩
theorem RowX.nil (X : Nat → Prop) (w : World) : RowX X w none 0 0 [] := ⟨Rd.nil _ _ _ _, Nat.le_refl _, fun k hk => by simp [blkOf] at hk, fun t ht => by simp at ht⟩
theorem SymX.turn {X Y : Nat → Prop} {w : World} {t : TT} (h : SymX X w t) (hy : ∀ k, k < w.heap.size → X k → Y k) : SymX Y w t := ⟨h.rd, h.cap, fun k hk => ⟨(h.blk k hk).1, hy k (h.blk k hk).1 (h.blk k hk).2⟩⟩
theorem RowX.turn {X Y : Nat → Prop} {w : World} {A : Option Addr} {n c : Nat} {ts : List TT} (h : RowX X w A n c ts) (hy : ∀ k, k < w.heap.size → X k → Y k) : RowX Y w A n c ts :=
  ⟨h.rd, h.cap, fun k hk => ⟨(h.blk k hk).1, hy k (h.blk k hk).1 (h.blk k hk).2⟩, fun t ht => (h.sym t ht).turn hy⟩
theorem rd_off {w w' : World} {B size n g : Nat} {A : Option Addr} {xs : List Value} (h : Rd w B size A n xs) (hB : B ≤ w.heap.size) (hg : w.grownBy w' (some g)) (hA : ∀ k, blkOf A = some k → k ≠ g) : Rd w' B size A n xs := by
  refine ⟨h.len, fun hn => ?_⟩
  obtain ⟨b, o, rfl, hb, hc⟩ := h.at_ hn
  refine ⟨b, o, rfl, hb, fun j hj => ?_⟩
  rw [← hc j hj]
  exact World.cell?_of_block (w := w) (hg.block b (by omega) (by have := hA b rfl; simpa using this))
theorem SymX.grown {X : Nat → Prop} {w w' : World} {t : TT} {g : Nat} (h : SymX X w t) (hg : w.grownBy w' (some g)) (hX : ∀ k, X k → k ≠ g) : SymX X w' t :=
  ⟨(rd_off h.rd (Nat.le_refl _) hg (fun k hk => hX k (h.blk k hk).2)).more hg.size, h.cap, fun k hk => ⟨Nat.lt_of_lt_of_le (h.blk k hk).1 hg.size, (h.blk k hk).2⟩⟩
theorem RowX.grown {X : Nat → Prop} {w w' : World} {A : Option Addr} {n c : Nat} {ts : List TT} {g : Nat} (h : RowX X w A n c ts) (hg : w.grownBy w' (some g)) (hX : ∀ k, X k → k ≠ g) : RowX X w' A n c ts :=
  ⟨(rd_off h.rd (Nat.le_refl _) hg (fun k hk => hX k (h.blk k hk).2)).more hg.size, h.cap, fun k hk => ⟨Nat.lt_of_lt_of_le (h.blk k hk).1 hg.size, (h.blk k hk).2⟩, fun t ht => (h.sym t ht).grown hg hX⟩
theorem put_row (X : Nat → Prop) (A : Option Addr) (n c : Nat) (ts : List TT) (x : TT) (w : World) (h : RowX X w A n c ts) (hx : SymX X w x) (hX : ∀ k, w.heap.size ≤ k → X k) (hn : n ≤ 1000) :
    Calls Try.prog 76 #[.slice A n c, x.val] w fun e w' => ∃ A2 c2, e = .returned (.slice A2 (n + 1) c2) ∧ RowX X w' A2 (n + 1) c2 (putT x ts) ∧ Below w.heap.size w w' := by
  refine (put_any A n c ts x w h.rd hn h.cap).mono ?_
  rintro e w' ⟨A2, c2, rfl, o, hb⟩
  refine ⟨A2, c2, rfl, ⟨o.rd, o.cap, fun k hk => ⟨(o.blk k hk).2, hX k (o.blk k hk).1⟩, fun t ht => ?_⟩, hb⟩
  rcases putT_mem ht with rfl | ht
  · exact hx.below hb
  · exact (h.sym t ht).below hb
/-- The first row, of the first k symbols. -/
def firstP (l : List Int) : Nat → List PT
  | 0 => []
  | k + 1 => if 0 < l[k]?.getD 0 then putP (l[k]?.getD 0, [(k : Int)], true) (firstP l k) else firstP l k
theorem putP_len (x : PT) (l : List PT) : (putP x l).length = l.length + 1 := by
  induction l with
  | nil => rfl
  | cons y r ih => unfold putP; split <;> simp [ih]
theorem firstP_len (l : List Int) (k : Nat) (h : k ≤ l.length) : (firstP l k).length = usedL (l.take k) := by
  induction k with
  | zero => simp [firstP, usedL]
  | succ k ih =>
    rw [firstP, usedL_snoc l k h, List.getElem?_eq_getElem h, Option.getD_some]
    split
    · rw [putP_len, ih (by omega)]
    · rw [ih (by omega)]; rfl
set_option maxRecDepth 100000 in
set_option maxHeartbeats 8000000 in
theorem first_any (A : Option Addr) (n c : Nat) (l : List Int) (w : World) (h : Rd w w.heap.size 1 A n (ints l)) (hn : n ≤ 300) :
    Calls Try.prog 66 #[.slice A n c] w fun e w' => ∃ A2 c2 ts, e = .returned (.slice A2 (usedL l) c2) ∧ RowX (fun _ => True) w' A2 (usedL l) c2 ts ∧ ts.map TT.abs = firstP l l.length ∧ Below w.heap.size w w' := by
  have hl : l.length = n := rd_len h
  have HLV := Lib.hid (show (firstP l n).length = usedL l by rw [← hl, firstP_len l _ (Nat.le_refl _), List.take_length])
  have HLS := Lib.hid hl
  go_enter Try.func66, Try.ntmps66
  go_wp2_with fail
  go_loopw [3, 4] (fun out i wr => ∃ (k j c2 : Nat) (A2 : Option Addr) (ts : List TT), i = .int .i64 k ∧ out = .slice A2 j c2 ∧ k ≤ n ∧ j ≤ k ∧ RowX (fun _ => True) wr A2 j c2 ts ∧ ts.map TT.abs = firstP l k ∧ Below w.heap.size w wr) (fun _ i _ => n - (intOf i).toNat)
  case atStart => exact ⟨0, 0, 0, none, [], rfl, rfl, by omega, by omega, RowX.nil _ _, rfl, Below.refl _ _⟩
  case round =>
    obtain ⟨k, j, c2, A2, ts, rfl, rfl, hk, hj, hR, hT, hbw⟩ := hrel
    have HT := Lib.hid hT
    have hsz := hbw.size
    clear hT
    by_cases hlt : k < n
    · have hkl : k < l.length := by omega
      obtain ⟨b, o, rfl, hb, hc⟩ := rd_ints (h.below hbw) (by omega)
      have d0 : wr.cell? ⟨b, o + k, none⟩ = some (.int .i64 l[k]) := hc k hkl
      have HS := Lib.hid (show firstP l (k + 1) = if 0 < l[k] then putP (l[k], [(k : Int)], true) (firstP l k) else firstP l k by rw [firstP, List.getElem?_eq_getElem hkl]; rfl)
      obtain ⟨x, hx⟩ : ∃ x, l[k] = x := ⟨_, rfl⟩
      rw [hx] at d0 HS
      have hkI : (k : Int) < (n : Int) := by omega
      have hk0 : (0 : Int) ≤ (k : Int) := by omega
      have hadd : IntKind.i64.wrap ((k : Int) + 1) = (k : Int) + 1 := w64k (by omega) (by omega)
      clear hc hx
      by_cases hx0 : 0 < x
      · have HA := Lib.hid (show firstP l (k + 1) = putP (x, [(k : Int)], true) (firstP l k) by rw [HS.out, if_pos hx0])
        have hrn : Rd (wr.alloc (.cells (ints [(k : Int)]).toArray 3)) (wr.heap.size + 1) 1 (some ⟨wr.heap.size, 0, none⟩) 1 (ints [(k : Int)]) := rd_new (W0 := wr) (t := 3) (cs := ints [(k : Int)]) (size := 1) (m := 1) rfl rfl
        have HB1 := (Below.refl wr.heap.size wr).alloc (Nat.le_refl _) (.cells (ints [(k : Int)]).toArray 3)
        have hSx : SymX (fun _ => True) (wr.alloc (.cells (ints [(k : Int)]).toArray 3)) ⟨x, some ⟨wr.heap.size, 0, none⟩, 1, 1, true, [(k : Int)]⟩ := ⟨hrn.more (by simp), Nat.le_refl _, fun k' hk' => by simp [blkOf] at hk'; subst hk'; simp⟩
        have C := put_row (fun _ => True) A2 j c2 ts ⟨x, some ⟨wr.heap.size, 0, none⟩, 1, 1, true, [(k : Int)]⟩ _ (hR.below HB1) hSx (fun _ _ => trivial) (by omega)
        unfold TT.val at C
        dsimp only at C
        have HC := Lib.hid C
        clear C hrn hSx
        go_wp2_with fail
        refine HC.out.mono ?_
        rintro e w4 ⟨A4, c4, rfl, R4, hb4⟩
        have HB4 := hbw.trans ((HB1.trans (hb4.mono HB1.size)).mono hsz)
        go_wp2_with fail
        go_roundw
        case rel => exact ⟨k + 1, j + 1, c4, A4, _, by go_num, rfl, by omega, by omega, R4, by rw [put_abs, HT.out, HA.out]; rfl, HB4⟩
        case measure => simp [intOf]; omega
      · have HA := Lib.hid (show firstP l (k + 1) = firstP l k by rw [HS.out, if_neg hx0])
        go_wp2_with fail
        go_roundw
        case rel => exact ⟨k + 1, j, c2, A2, ts, by go_num, rfl, by omega, by omega, hR, by rw [HT.out, HA.out], hbw⟩
        case measure => simp [intOf]; omega
    · have hkI : ¬ (k : Int) < (n : Int) := by omega
      obtain rfl : k = n := by omega
      obtain rfl : j = usedL l := by
        have e := congrArg List.length HT.out
        rw [List.length_map, HLV.out] at e
        have := rd_tlen hR.rd
        omega
      have HT2 := Lib.hid (show ts.map TT.abs = firstP l l.length by rw [HT.out, HLS.out])
      clear hl
      go_wp2_with fail
      try rw [Exit.noGoto_ret]
      go_ret
      first | exact ⟨A2, c2, rfl, ts, hR, HT2.out, hbw⟩ | exact ⟨A2, c2, rfl, ⟨ts, hR, HT2.out⟩, hbw⟩
end LenW
end Go.Proofs.Ytdfclgpkhfpkhaa
