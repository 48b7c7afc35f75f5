/- KmpP -/
import Derived.Test.YtnpncpoiiikafaaGreatDoorMemQs
import Derived.ScopeJumps
import Derived.Test.YtnpncpoiiikafaaGreatDoorAppQs
import Derived.Deep.OwnRows
import Derived.Laws.EntriesVeiled
set_option linter.unusedVariables false
set_option linter.unusedSimpArgs false
set_option linter.unnecessarySimpa false
namespace Go.Proofs.YtnpncpoiiikafaaGreatDoor
open Go.RowKit
namespace KmpW
def mx (p t:List UInt8):Nat → Nat
  | 0=>0
  | k + 1=>if p.take (k + 1) <:+ t then k + 1 else mx p t k
def M (p t:List UInt8):Nat:=mx p t p.length
theorem mx_le (p t:List UInt8) (k:Nat):mx p t k≤k:=by
  induction k with
  | zero=>exact Nat.le_refl _
  | succ k ih=>rw [mx];split <;> omega
theorem mx_suf (p t:List UInt8) (k:Nat):p.take (mx p t k) <:+ t:=by
  induction k with
  | zero=>rw [mx,List.take_zero];exact List.nil_suffix
  | succ k ih =>
    rw [mx]
    split
    · assumption
    · exact ih
theorem mx_max (p t:List UInt8) (n:Nat):∀ k,k≤n → p.take k <:+ t → k≤mx p t n:=by
  induction n with
  | zero=>intro k h _;omega
  | succ n ih =>
    intro k h hs
    rw [mx]
    split
    · omega
    · rename_i hn
      rcases Nat.lt_or_ge n k with h1 | h1
      · obtain rfl:k = n + 1:=by omega
        exact absurd hs hn
      · exact ih k h1 hs
theorem M_le (p t:List UInt8):M p t≤p.length:=mx_le p t _
theorem M_suf (p t:List UInt8):p.take (M p t) <:+ t:=mx_suf p t _
theorem M_max {p t:List UInt8} {k:Nat} (h:k≤p.length) (hs:p.take k <:+ t):k≤M p t:=mx_max p t _ k h hs
theorem M_eq {p t:List UInt8} {k:Nat} (h:k≤p.length) (hs:p.take k <:+ t) (hm:∀ j,j≤p.length → p.take j <:+ t → j≤k):M p t = k :=
  Nat.le_antisymm (hm _ (M_le p t) (M_suf p t)) (M_max h hs)
theorem M_len (p t:List UInt8):M p t≤t.length:=by
  have h1:=M_suf p t
  have h2:=M_le p t
  have:=h1.length_le
  rw [List.length_take] at this
  omega
theorem M_nil (p:List UInt8):M p [] = 0:=by have:=M_len p [];simpa using this
def brd (p:List UInt8) (j:Nat):Nat:=M p ((p.drop 1).take j)
theorem brd_lt {p:List UInt8} {j:Nat}:brd p j≤j:=by
  have:=M_len p ((p.drop 1).take j)
  rw [List.length_take] at this
  unfold brd
  omega
theorem brd_iff {p:List UInt8} {s k:Nat} (hs:s < p.length) (hk:k≤p.length):p.take k <:+ (p.drop 1).take s ↔ (p.take k <:+ p.take (s + 1)∧k≤s):=by
  cases p with
  | nil=>simp at hs
  | cons a q =>
    simp only [List.drop_succ_cons,List.drop_zero,List.take_succ_cons]
    rw [List.suffix_cons_iff]
    simp only [List.length_cons] at hs hk
    constructor
    · intro h
      refine ⟨.inr h,?_⟩
      have:=h.length_le
      rw [List.length_take,List.length_take,List.length_cons] at this
      omega
    · rintro ⟨h | h,hks⟩
      · have:=congrArg List.length h
        simp only [List.length_take,List.length_cons] at this
        omega
      · exact h
structure Inv (p t:List UInt8) (b:UInt8) (s:Nat):Prop where
  le:s≤p.length
  suf:p.take s <:+ t
  max:∀ k,k + 1≤p.length → p.take (k + 1) <:+ t ++ [b] → k≤s
theorem snoc_suf {p t:List UInt8} {b:UInt8} {k:Nat} (h:k < p.length):p.take (k + 1) <:+ t ++ [b] ↔ (p.take k <:+ t∧p[k] = b):=by
  rw [List.take_succ_eq_append_getElem h]
  constructor
  · rintro ⟨r,hr⟩
    rw [← List.append_assoc] at hr
    have h1:=List.append_inj' hr rfl
    refine ⟨⟨r,h1.1⟩,?_⟩
    have:=h1.2
    simpa using this
  · rintro ⟨⟨r,hr⟩,rfl⟩
    exact ⟨r,by rw [← List.append_assoc,hr]⟩
theorem Inv.start (p t:List UInt8) (b:UInt8):Inv p t b (M p t) :=
  ⟨M_le p t,M_suf p t,fun k hk hs=>M_max (by omega) ((snoc_suf (by omega)).1 hs).1⟩
theorem Inv.hit {p t:List UInt8} {b:UInt8} {s:Nat} (h:Inv p t b s) (hs:s < p.length) (hb:p[s] = b):M p (t ++ [b]) = s + 1:=by
  refine M_eq (by omega) ((snoc_suf hs).2 ⟨h.suf,hb⟩) ?_
  intro j hj hsuf
  cases j with
  | zero=>omega
  | succ j=>have:=h.max j hj hsuf;omega
theorem Inv.zero {p t:List UInt8} {b:UInt8} (h:Inv p t b 0) (hn:∀ hs:0 < p.length,¬ p[0] = b):M p (t ++ [b]) = 0:=by
  refine M_eq (by omega) (by rw [List.take_zero];exact List.nil_suffix) ?_
  intro j hj hsuf
  cases j with
  | zero=>omega
  | succ j =>
    exfalso
    have h0:=h.max j hj hsuf
    obtain rfl:j = 0:=by omega
    exact hn (by omega) ((snoc_suf (by omega)).1 hsuf).2
theorem Inv.next {p t:List UInt8} {b:UInt8} {s:Nat} (h:Inv p t b (s + 1)) (hn:∀ hs:s + 1 < p.length,¬ p[s + 1] = b):Inv p t b (brd p s):=by
  have hsl:=h.le
  have hb:=(brd_iff (p:=p) (s:=s) (k:=brd p s) (by omega) (M_le _ _)).1 (M_suf _ _)
  refine ⟨M_le _ _,hb.1.trans h.suf,?_⟩
  intro k hk hsuf
  have h1:=h.max k hk hsuf
  obtain ⟨h2,h3⟩:=(snoc_suf (by omega)).1 hsuf
  have hne:k ≠ s + 1:=by
    rintro rfl
    exact hn (by omega) h3
  have hks:k≤s:=by omega
  refine M_max (by omega) ((brd_iff (p:=p) (s:=s) (k:=k) (by omega) (by omega)).2 ⟨?_,hks⟩)
  exact List.suffix_of_suffix_length_le h2 h.suf (by rw [List.length_take,List.length_take];omega)
theorem brd_succ (p:List UInt8) (i:Nat) (h:i + 1 < p.length):brd p (i + 1) = M p (((p.drop 1).take i) ++ [p[i + 1]]):=by
  unfold brd
  have e:(p.drop 1)[i]'(by rw [List.length_drop];omega) = p[i + 1]:=by
    rw [List.getElem_drop]
    congr 1
    omega
  rw [List.take_succ_eq_append_getElem (by rw [List.length_drop];omega),e]
theorem brd_zero (p:List UInt8):brd p 0 = 0:=M_nil p
theorem M_step (p s:List UInt8) (i:Nat) (h:i < s.length):M p (s.take (i + 1)) = M p (s.take i ++ [s[i]]):=by rw [List.take_succ_eq_append_getElem h]
end KmpW
end Go.Proofs.YtnpncpoiiikafaaGreatDoor
namespace Go.Proofs.YtnpncpoiiikafaaGreatDoor
open Go.RowKit
namespace KmpW
set_option maxRecDepth 100000 in
set_option maxHeartbeats 4000000 in
theorem step_any (p t:List UInt8) (b:UInt8) (A:Option Addr) (n c:Nat) (w:World) (hp:p.length≤100000) (hn:M p t≤n) (hn2:n≤100000)
    (hF:0 < M p t → ∃ fb fo,A = some ⟨fb,fo,none⟩∧∀ j,j < M p t → w.cell? ⟨fb,fo + j,none⟩ = some (.int .i64 (brd p j:Nat))) (v:Nat) (hv:M p (t ++ [b]) = v) :
    Calls Tryz.prog 181 #[str p,.slice A n c,.int .i64 (M p t:Nat),.int .u8 (b.toNat:Int)] w fun e w'=>e = .returned (.int .i64 (v:Nat))∧w = w':=by
  have H0:=Lib.hid (Inv.start p t b)
  have HF:=Lib.hid hF
  have HV:=Lib.hid hv
  generalize hm:M p t = m at *
  clear hF hm hv
  have hbn:=b.toNat_lt
  go_enter Tryz.func181,Tryz.ntmps181
  go_wp2
  refine wp_scope_jumps 0 (fun a' w'=>∃ (s:Nat) (u4 u5 u6 u7 u8 u9 u10 u11 u12 u13 u14 u15 u16 u17 u18 u19 u20 u21 u22 u23 u24 u25 u26 u27 u28 u29 u30:Value),w' = w∧a' = { tmps:=#[str p,.slice A n c,.int .i64 (s:Nat),.int .u8 (b.toNat:Int),u4,u5,u6,u7,u8,u9,u10,u11,u12,u13,u14,u15,u16,u17,u18,u19,u20,u21,u22,u23,u24,u25,u26,u27,u28,u29,u30],defers:=[] }∧s≤m∧Inv p t b s) (fun a' _=>(intOf (a'.tmps.getD 2 undef)).toNat) rfl ?_ ?_
  · go_wp2
    go_step3
    have hle:m≤m:=Nat.le_refl _
    have HI:=H0
    by_cases hs:m < p.length
    · obtain ⟨cb,hb,hb'⟩:∃ x,(⟨p.toArray⟩:ByteArray)[m]'(by show m < p.toArray.size;simpa using hs) = x∧p[m] = x:=⟨_,rfl,rfl⟩
      have HB':=Lib.hid hb'
      have hcb:=cb.toNat_lt
      have hsi:(m:Int) < (p.length:Int):=by omega
      clear hb'
      by_cases he:cb = b
      · have HH:=Lib.hid (HI.out.hit hs (HB'.out.trans he))
        subst he
        go_wp2_with fail
        simp only [Exit.jump]
        go_ret
        exact ⟨by rw [← HV.out,HH.out];rfl,rfl⟩
      · have heI:((cb.toNat:Int) == (b.toNat:Int)) = false:=by
          rw [beq_eq_false_iff_ne]
          intro hh
          exact he (UInt8.toNat_inj.1 (by omega))
        have HE:=Lib.hid he
        clear he
        skip
        rcases Nat.eq_zero_or_pos m with h0 | h0
        · subst h0
          have HZ:=Lib.hid (HI.out.zero (fun hs2=>by (first | exact HE.out (HB'.out.symm.trans ‹_›) | (intro hh;exact HE.out (HB'.out.symm.trans hh)))))
          go_wp2_with fail
          simp only [Exit.jump]
          go_ret
          exact ⟨by rw [← HV.out,HZ.out];rfl,rfl⟩
        · obtain ⟨q,hq⟩:∃ q,m = q + 1:=⟨m - 1,by omega⟩
          subst hq
          obtain ⟨fb,fo,rfl,hcells⟩:=HF.out (by omega)
          have d0:=hcells q (by omega)
          have hca:(q:Int) + 1 - 1 = (q:Int):=by omega
          have hqn:(q:Int) < (n:Int):=by omega
          have hq0:(0:Int)≤(q:Int):=by omega
          clear hcells
          go_wp2_with fail
          go_step3
          refine ⟨rfl,brd p q,_,_,_,_,_,_,_,_,_,_,_,_,_,_,_,_,_,_,_,_,_,_,_,_,_,_,_,rfl,rfl,by have:=brd_lt (p:=p) (j:=q);omega,HI.out.next (fun hs2=>by (first | exact HE.out (HB'.out.symm.trans ‹_›) | (intro hh;exact HE.out (HB'.out.symm.trans hh))))⟩
    · have hsi:¬ (m:Int) < (p.length:Int):=by omega
      skip
      rcases Nat.eq_zero_or_pos m with h0 | h0
      · subst h0
        have HZ:=Lib.hid (HI.out.zero (fun hs2=>absurd hs2 (by omega)))
        go_wp2_with fail
        simp only [Exit.jump]
        go_ret
        exact ⟨by rw [← HV.out,HZ.out];rfl,rfl⟩
      · obtain ⟨q,hq⟩:∃ q,m = q + 1:=⟨m - 1,by omega⟩
        subst hq
        obtain ⟨fb,fo,rfl,hcells⟩:=HF.out (by omega)
        have d0:=hcells q (by omega)
        have hca:(q:Int) + 1 - 1 = (q:Int):=by omega
        have hqn:(q:Int) < (n:Int):=by omega
        have hq0:(0:Int)≤(q:Int):=by omega
        clear hcells
        go_wp2_with fail
        go_step3
        refine ⟨rfl,brd p q,_,_,_,_,_,_,_,_,_,_,_,_,_,_,_,_,_,_,_,_,_,_,_,_,_,_,_,rfl,rfl,by have:=brd_lt (p:=p) (j:=q);omega,HI.out.next (fun hs2=>absurd hs2 (by omega))⟩
  · rintro a' w' ⟨s,u4,u5,u6,u7,u8,u9,u10,u11,u12,u13,u14,u15,u16,u17,u18,u19,u20,u21,u22,u23,u24,u25,u26,u27,u28,u29,u30,rfl,rfl,hle,hinv⟩
    have HI:=Lib.hid hinv
    clear hinv
    by_cases hs:s < p.length
    · obtain ⟨cb,hb,hb'⟩:∃ x,(⟨p.toArray⟩:ByteArray)[s]'(by show s < p.toArray.size;simpa using hs) = x∧p[s] = x:=⟨_,rfl,rfl⟩
      have HB':=Lib.hid hb'
      have hcb:=cb.toNat_lt
      have hsi:(s:Int) < (p.length:Int):=by omega
      clear hb'
      by_cases he:cb = b
      · have HH:=Lib.hid (HI.out.hit hs (HB'.out.trans he))
        subst he
        go_wp2_with fail
        simp only [Exit.jump]
        go_ret
        exact ⟨by rw [← HV.out,HH.out];rfl,rfl⟩
      · have heI:((cb.toNat:Int) == (b.toNat:Int)) = false:=by
          rw [beq_eq_false_iff_ne]
          intro hh
          exact he (UInt8.toNat_inj.1 (by omega))
        have HE:=Lib.hid he
        clear he
        skip
        rcases Nat.eq_zero_or_pos s with h0 | h0
        · subst h0
          have HZ:=Lib.hid (HI.out.zero (fun hs2=>by (first | exact HE.out (HB'.out.symm.trans ‹_›) | (intro hh;exact HE.out (HB'.out.symm.trans hh)))))
          go_wp2_with fail
          simp only [Exit.jump]
          go_ret
          exact ⟨by rw [← HV.out,HZ.out];rfl,rfl⟩
        · obtain ⟨q,hq⟩:∃ q,s = q + 1:=⟨s - 1,by omega⟩
          subst hq
          obtain ⟨fb,fo,rfl,hcells⟩:=HF.out (by omega)
          have d0:=hcells q (by omega)
          have hca:(q:Int) + 1 - 1 = (q:Int):=by omega
          have hqn:(q:Int) < (n:Int):=by omega
          have hq0:(0:Int)≤(q:Int):=by omega
          clear hcells
          go_wp2_with fail
          go_step3
          refine ⟨rfl,⟨brd p q,_,_,_,_,_,_,_,_,_,_,_,_,_,_,_,_,_,_,_,_,_,_,_,_,_,_,_,rfl,rfl,by have:=brd_lt (p:=p) (j:=q);omega,HI.out.next (fun hs2=>by (first | exact HE.out (HB'.out.symm.trans ‹_›) | (intro hh;exact HE.out (HB'.out.symm.trans hh))))⟩,by have:=brd_lt (p:=p) (j:=q);simp [intOf];omega⟩
    · have hsi:¬ (s:Int) < (p.length:Int):=by omega
      skip
      rcases Nat.eq_zero_or_pos s with h0 | h0
      · subst h0
        have HZ:=Lib.hid (HI.out.zero (fun hs2=>absurd hs2 (by omega)))
        go_wp2_with fail
        simp only [Exit.jump]
        go_ret
        exact ⟨by rw [← HV.out,HZ.out];rfl,rfl⟩
      · obtain ⟨q,hq⟩:∃ q,s = q + 1:=⟨s - 1,by omega⟩
        subst hq
        obtain ⟨fb,fo,rfl,hcells⟩:=HF.out (by omega)
        have d0:=hcells q (by omega)
        have hca:(q:Int) + 1 - 1 = (q:Int):=by omega
        have hqn:(q:Int) < (n:Int):=by omega
        have hq0:(0:Int)≤(q:Int):=by omega
        clear hcells
        go_wp2_with fail
        go_step3
        refine ⟨rfl,⟨brd p q,_,_,_,_,_,_,_,_,_,_,_,_,_,_,_,_,_,_,_,_,_,_,_,_,_,_,_,rfl,rfl,by have:=brd_lt (p:=p) (j:=q);omega,HI.out.next (fun hs2=>absurd hs2 (by omega))⟩,by have:=brd_lt (p:=p) (j:=q);simp [intOf];omega⟩
end KmpW
end Go.Proofs.YtnpncpoiiikafaaGreatDoor
namespace Go.Proofs.YtnpncpoiiikafaaGreatDoor
open Go.RowKit
namespace KmpW
def fc (p:List UInt8) (m i:Nat):List Value:=(List.range m).map fun j=>.int .i64 ((if j < i then brd p j else 0:Nat):Int)
theorem fc_len (p:List UInt8) (m i:Nat):(fc p m i).length = m:=by simp [fc]
theorem fc_get {p:List UInt8} {m i j:Nat} (hj:j < m):(fc p m i).toArray[j]? = some (.int .i64 ((if j < i then brd p j else 0:Nat):Int)):=by
  rw [List.getElem?_toArray,fc,List.getElem?_map,List.getElem?_range hj]
  rfl
theorem fc_at {p:List UInt8} {m i j:Nat} (hj:j < m) (hi:j < i):(fc p m i).toArray[j]? = some (.int .i64 (brd p j:Nat)):=by
  rw [fc_get hj,if_pos hi]
theorem fc_all {p:List UInt8} {m i:Nat} (h:m≤i):fc p m i = fc p m m:=by
  unfold fc
  refine List.map_congr_left fun j hj=>?_
  have:=List.mem_range.1 hj
  rw [if_pos (by omega),if_pos this]
theorem fc_set {p:List UInt8} {m i:Nat} (h:i < m):(fc p m i).toArray.setIfInBounds i (.int .i64 (brd p i:Nat)) = (fc p m (i + 1)).toArray:=by
  rw [List.setIfInBounds_toArray]
  congr 1
  apply List.ext_getElem
  · simp [fc]
  · intro j h1 h2
    rw [List.getElem_set]
    have hj:j < m:=by rw [fc_len] at h2;exact h2
    split
    · rename_i e
      subst e
      simp [fc]
    · rename_i e
      simp only [fc,List.getElem_map,List.getElem_range]
      by_cases hji:j < i
      · rw [if_pos hji,if_pos (by omega)]
      · rw [if_neg hji,if_neg (by omega)]
theorem fc_start (p:List UInt8) (m:Nat):(fc p m 1).toArray = madeCells #[.int .i64 0] m:=by
  apply Array.ext'
  apply List.ext_getElem
  · simp [fc,madeCells]
  · intro j h1 h2
    simp only [fc,List.getElem_map,List.getElem_range,madeCells]
    have hz:(if j < 1 then brd p j else 0) = 0:=by
      split
      · rename_i h
        obtain rfl:j = 0:=by omega
        exact brd_zero p
      · rfl
    rw [hz]
    simp [Nat.mod_one]
theorem step_in (p:List UInt8) (q g m:Nat) (w:World) (hm:p.length = m) (hq:q + 1 < m) (hp:m≤100000) (h:Blk w g 3 (fc p m (q + 1)).toArray) (b:UInt8) (hb:p[q + 1]'(by omega) = b) :
    Calls Tryz.prog 181 #[str p,.slice (some ⟨g,0,none⟩) m m,.int .i64 (brd p q:Nat),.int .u8 (b.toNat:Int)] w fun e w'=>e = .returned (.int .i64 (brd p (q + 1):Nat))∧w = w'∧Below w.heap.size w w':=by
  subst hb
  have hl:M p ((p.drop 1).take q)≤q:=brd_lt
  refine (step_any p ((p.drop 1).take q) (p[q + 1]'(by omega)) (some ⟨g,0,none⟩) m m w (by omega) (by omega) (by omega) ?_ _ (brd_succ p q (by omega)).symm).mono ?_
  · intro _
    refine ⟨g,0,rfl,fun j hj=>?_⟩
    rw [Nat.zero_add]
    exact h.cell_ j (fc_at (by omega) (by omega))
  · rintro e w' ⟨rfl,rfl⟩
    exact ⟨rfl,rfl,Below.refl _ _⟩
set_option maxRecDepth 100000 in
set_option maxHeartbeats 4000000 in
theorem fail_any (p:List UInt8) (w:World) (hp:p.length≤100000) (m:Nat) (hm:p.length = m) :
    Calls Tryz.prog 180 #[str p] w fun e w'=>e = .returned (.slice (some ⟨w.heap.size,0,none⟩) m m)∧Blk w' w.heap.size 3 (fc p m m).toArray∧Below w.heap.size w w':=by
  subst hm
  have hmk:(Instr.makeSlice 63 (.int .i64 p.length) (.int .i64 p.length)).run Tryz.prog w = .ok (.slice (some ⟨w.heap.size,0,none⟩) p.length p.length) (w.alloc (.cells (madeCells #[.int .i64 0] p.length) 3)) :=
    run_make_row' 63 3 (.int .i64 0) 8 Tryz.underlying63 (by kernel_rfl) rfl .i64 .i64 p.length (by omega) (by omega) w
  have hA:=Blk.new w 3 (madeCells #[.int .i64 0] p.length)
  rw [← fc_start p p.length] at hA hmk
  have hB0:Below w.heap.size w (w.alloc (.cells (fc p p.length 1).toArray 3)):=(Below.refl _ _).alloc (Nat.le_refl _) _
  have hs0:w.heap.size + 1≤(w.alloc (.cells (fc p p.length 1).toArray 3)).heap.size:=by simp
  go_enter Tryz.func180,Tryz.ntmps180
  go_wp2_with fail
  clear hmk
  generalize w.alloc (.cells (fc p p.length 1).toArray 3) = W1 at *
  go_loopw [4] (fun i wr=>∃ q:Nat,i = .int .i64 ((q + 1:Nat):Int)∧(q = 0 ∨ q + 1≤p.length)∧Blk wr w.heap.size 3 (fc p p.length (q + 1)).toArray∧Below w.heap.size w wr∧w.heap.size + 1≤wr.heap.size) (fun i _=>p.length - (intOf i).toNat)
  case atStart=>exact ⟨0,rfl,.inl rfl,hA,hB0,hs0⟩
  case round =>
    obtain ⟨q,rfl,hq,bA,HB,hs⟩:=hrel
    clear hA hB0 hs0
    by_cases hlt:q + 1 < p.length
    · have hpq:q + 1 < p.length:=by omega
      obtain ⟨cb,hb,hb'⟩:∃ x,(⟨p.toArray⟩:ByteArray)[q + 1]'(by show q + 1 < p.toArray.size;simpa using hpq) = x∧p[q + 1] = x:=⟨_,rfl,rfl⟩
      have hcb:=cb.toNat_lt
      have hsi:((q:Int) + 1) < (p.length:Int):=by omega
      have hca:(q:Int) + 1 - 1 = (q:Int):=by omega
      have hqm:(q:Int) < (p.length:Int):=by omega
      have hq0:(0:Int)≤(q:Int):=by omega
      have hwq:IntKind.i64.wrap (q:Int) = (q:Int):=IntWalk.i64_in _ (by omega)
      have hwq1:IntKind.i64.wrap ((q:Int) + 1) = (q:Int) + 1:=IntWalk.i64_in _ (by omega)
      have hq1:(0:Int)≤(q:Int) + 1:=by omega
      have C:=fun v h=>step_in p q w.heap.size p.length v rfl hlt (by omega) h cb hb'
      clear hb'
      go_wp2_with fail
      have zHB:=HB.size
      refine wp_region_held_drew (S:=(fun w'=>w'.cell? ⟨w.heap.size,q,none⟩ = some (.int .i64 (brd p q:Nat)))) (by kernel_rfl) ?_ (fun hHeld=>?_)
      · replace HB:=Below.drew HB;replace bA:=Blk.drew bA;(try dsimp only);exact bA.cell_ q (fc_at (by omega) (by omega))
      replace HB:=Below.drew HB
      replace bA:=Blk.drew bA
      have zHB:=HB.size
      refine take_movev (v:=?vu1x0) 0 (Operand.tmp 3) rfl rfl (by first | exact .inl rfl | exact .inr rfl) rfl (by kernel_rfl) (by kernel_rfl) (by kernel_rfl) (fun _ _ _ h=>h) (by assumption) ?yu1x0 ?ru1x0
      case yu1x0=>(go_simp;try (with_reducible rfl))
      simp only [zSa,zSb,zSc]
      refine take_movev (v:=?vu1x1) 1 (Operand.tmp 4) rfl rfl (by first | exact .inl rfl | exact .inr rfl) rfl (by kernel_rfl) (by kernel_rfl) (by kernel_rfl) (fun _ _ _ h=>h) (by assumption) ?yu1x1 ?ru1x1
      case yu1x1=>(go_simp;try (with_reducible rfl))
      simp only [zSa,zSb,zSc]
      refine take_movev (v:=?vu1x2) 2 (Operand.tmp 0) rfl rfl (by first | exact .inl rfl | exact .inr rfl) rfl (by kernel_rfl) (by kernel_rfl) (by kernel_rfl) (fun _ _ _ h=>h) (by assumption) ?yu1x2 ?ru1x2
      case yu1x2=>(go_simp;try (with_reducible rfl))
      simp only [zSa,zSb,zSc]
      refine take_movev (v:=?vu1x3) 3 (Operand.tmp 3) rfl rfl (by first | exact .inl rfl | exact .inr rfl) rfl (by kernel_rfl) (by kernel_rfl) (by kernel_rfl) (fun _ _ _ h=>h) (by assumption) ?yu1x3 ?ru1x3
      case yu1x3=>(go_simp;try (with_reducible rfl))
      simp only [zSa,zSb,zSc]
      refine take_movev (v:=?vu1x4) 4 (Operand.tmp 3) rfl rfl (by first | exact .inl rfl | exact .inr rfl) rfl (by kernel_rfl) (by kernel_rfl) (by kernel_rfl) (fun _ _ _ h=>h) (by assumption) ?yu1x4 ?ru1x4
      case yu1x4=>(go_simp;try (with_reducible rfl))
      simp only [zSa,zSb,zSc]
      refine take_movev (v:=?vu1x5) 5 (Operand.tmp 4) rfl rfl (by first | exact .inl rfl | exact .inr rfl) rfl (by kernel_rfl) (by kernel_rfl) (by kernel_rfl) (fun _ _ _ h=>h) (by assumption) ?yu1x5 ?ru1x5
      case yu1x5=>(go_simp;try (with_reducible rfl))
      simp only [zSa,zSb,zSc]
      refine take_op (v:=?vu1x6) 6 (Op.binOp BinOp.sub 3 (Operand.tmp 19) (Operand.const (Value.int IntKind.i64 1)) 3) 3 rfl rfl rfl rfl rfl (by kernel_rfl) (by kernel_rfl) (by kernel_rfl) (fun _ _ _ h=>h) ?yu1x6 (by assumption) ?ru1x6
      case yu1x6=>(intro w' hSw;(try dsimp only at hSw);go_simp;try (with_reducible rfl))
      simp only [zSa,zSb,zSc]
      refine take_op (v:=?vu1x7) 7 (Op.indexAddr 63 (Operand.tmp 18) (Operand.tmp 20)) 0 rfl rfl rfl rfl rfl (by kernel_rfl) (by kernel_rfl) (by kernel_rfl) (fun _ _ _ h=>h) ?yu1x7 (by assumption) ?ru1x7
      case yu1x7=>(intro w' hSw;(try dsimp only at hSw);go_simp;try (with_reducible rfl))
      simp only [zSa,zSb,zSc]
      refine take_op (v:=?vu1x8) 8 (Op.load 3 (Operand.tmp 21)) 3 rfl rfl rfl rfl rfl (by kernel_rfl) (by kernel_rfl) (by kernel_rfl) (fun _ _ _ h=>h) ?yu1x8 (by assumption) ?ru1x8
      case yu1x8=>(intro w' hSw;(try dsimp only at hSw);go_simp;try (with_reducible rfl))
      simp only [zSa,zSb,zSc]
      refine take_movev (v:=?vu1x9) 9 (Operand.tmp 0) rfl rfl (by first | exact .inl rfl | exact .inr rfl) rfl (by kernel_rfl) (by kernel_rfl) (by kernel_rfl) (fun _ _ _ h=>h) (by assumption) ?yu1x9 ?ru1x9
      case yu1x9=>(go_simp;try (with_reducible rfl))
      simp only [zSa,zSb,zSc]
      refine take_movev (v:=?vu1x10) 10 (Operand.tmp 4) rfl rfl (by first | exact .inl rfl | exact .inr rfl) rfl (by kernel_rfl) (by kernel_rfl) (by kernel_rfl) (fun _ _ _ h=>h) (by assumption) ?yu1x10 ?ru1x10
      case yu1x10=>(go_simp;try (with_reducible rfl))
      simp only [zSa,zSb,zSc]
      refine take_op (v:=?vu1x11) 11 (Op.index 9 (Operand.tmp 23) (Operand.tmp 24)) 5 rfl rfl rfl rfl rfl (by kernel_rfl) (by kernel_rfl) (by kernel_rfl) (fun _ _ _ h=>h) ?yu1x11 (by assumption) ?ru1x11
      case yu1x11=>(intro w' hSw;(try dsimp only at hSw);go_simp;try (with_reducible rfl))
      simp only [zSa,zSb,zSc]
      refine wpAnyH_ready (rs:=[12]) (by kernel_rfl) (by simp) (AllReadyH.cons rfl (fun K12 hK12=>?ku1x12) AllReadyH.nil)
      refine take_calls 12 181 [Operand.tmp 16,Operand.tmp 17,Operand.tmp 22,Operand.tmp 25] #[9,63,3,5] rfl rfl (by kernel_rfl) (fun args w=>run_enter Tryz.func181 (by kernel_rfl) rfl args w) ?_
      refine (C _ bA).mono ?_
      rintro e w12 ⟨rfl,hww,hb12⟩
      refine ⟨_,rfl,?_⟩
      have z12:=hb12.size
      try simp only [World.size_drew] at z12
      replace HB:=HB.trans (hb12.mono (by first | exact HB.size | omega))
      have zHB12:=HB.size
      replace bA:=Blk.below bA hb12 (by first | exact Nat.le_refl _ | (simp only [World.size_alloc,World.size_setCell,World.size_drew] at *;omega) | omega)
      refine hK12.out _ _ ?su1x12 (fun hHeld=>?ru1x12)
      case su1x12=>((try dsimp only);exact bA.cell_ q (fc_at (by omega) (by omega)))
      try simp only [zSa,zSb,zSc]
      refine take_op (v:=?vu1x13) 13 (Op.indexAddr 63 (Operand.tmp 14) (Operand.tmp 15)) 0 rfl rfl rfl rfl rfl (by kernel_rfl) (by kernel_rfl) (by kernel_rfl) (fun _ _ _ h=>h) ?yu1x13 (by assumption) ?ru1x13
      case yu1x13=>(intro w' hSw;(try dsimp only at hSw);go_simp;try (with_reducible rfl))
      simp only [zSa,zSb,zSc]
      refine wpAnyH_ready (rs:=[14]) (by kernel_rfl) (by simp) (AllReadyH.cons rfl (fun K14 hK14=>?ku1x14) AllReadyH.nil)
      refine take_store 14 (Op.store 3 (Operand.tmp 27) (Operand.tmp 26)) 0 rfl rfl rfl (by kernel_rfl) (w':=w12.setCell ⟨w.heap.size,q + 1,none⟩ (.int .i64 (brd p (q + 1):Nat))) (by have cL:=bA.cell_ (q + 1) (fc_get hlt);have fL:=bA.frozen (q + 1);go_simp;try (with_reducible rfl)) ?_
      refine hK14.out _ _ ((bA.set (q + 1) _).cell_ q (by rw [fc_set hlt];exact fc_at (by omega) (by omega))) (fun hHeld=>?_)
      refine wpAnyH_done (by kernel_rfl) ?_ _
      have bN:=blk_eq (bA.set (q + 1) (.int .i64 (brd p (q + 1):Nat))) (fc_set hlt)
      have HN:Below w.heap.size w (w12.setCell ⟨w.heap.size,q + 1,none⟩ (.int .i64 (brd p (q + 1):Nat))):=HB.setCell (p:=⟨w.heap.size,q + 1,none⟩) (Nat.le_refl _) _
      have hsN:w.heap.size + 1≤(w12.setCell ⟨w.heap.size,q + 1,none⟩ (.int .i64 (brd p (q + 1):Nat))).heap.size:=by have:=bA.lt;simp only [World.size_setCell];omega
      go_wp2_with fail
      go_roundw
      case rel=>exact ⟨q + 1,by go_num,.inr (by omega),bN,HN,hsN⟩
      case measure=>simp [intOf];omega
    · have hlI:¬ ((q:Int) + 1) < (p.length:Int):=by omega
      rw [fc_all (by omega)] at bA
      go_wp2_with fail
      go_ret
      exact ⟨rfl,bA,HB⟩
end KmpW
end Go.Proofs.YtnpncpoiiikafaaGreatDoor
namespace Go.Proofs.YtnpncpoiiikafaaGreatDoor
open Go.RowKit
namespace KmpW
def kin (p s:List UInt8):Bool:=(List.range (s.length + 1)).any fun i=>M p (s.take i) == p.length
theorem kin_yes {p s:List UInt8} {i:Nat} (h:i≤s.length) (he:M p (s.take i) = p.length):kin p s = true:=by
  unfold kin
  rw [List.any_eq_true]
  exact ⟨i,List.mem_range.2 (by omega),by simp [he]⟩
theorem kin_no {p s:List UInt8} (h:∀ i,i≤s.length → ¬ M p (s.take i) = p.length):kin p s = false:=by
  unfold kin
  rw [List.any_eq_false]
  intro i hi
  have:=h i (by have:=List.mem_range.1 hi;omega)
  simpa using this
abbrev moreF (g1 g2:Nat):Value:=.func (.func 179) #[] #[.pointer (some ⟨g1,0,none⟩),.pointer (some ⟨g2,0,none⟩)]
theorem find1_any (B g1 g2:Nat) (i x:Int) (y:Bool) (w:World) (h1:Blk w g1 3 #[.int .i64 x]) (h2:Blk w g2 4 #[.bool y]) (hne:g1 ≠ g2) (hB1:B≤g1) (hB2:B≤g2) (hBw:B≤w.heap.size) :
    Calls Tryz.prog 179 #[.int .i64 i,.pointer (some ⟨g1,0,none⟩),.pointer (some ⟨g2,0,none⟩)] w fun e w'=>e = .returned (.bool false)∧Blk w' g1 3 #[.int .i64 i]∧Blk w' g2 4 #[.bool true]∧Below B w w':=by
  have c1:=h1.cell_ 0 rfl
  have f1:=h1.frozen 0
  have h2':=h2.far (p:=⟨g1,0,none⟩) (fun e=>hne e.symm) (.int .i64 i)
  have c2:=h2'.cell_ 0 rfl
  have f2:=h2'.frozen 0
  have h1':=(h1.set 0 (.int .i64 i)).far (p:=⟨g2,0,none⟩) hne (.bool true)
  have h2'':=h2'.set 0 (.bool true)
  have hb:Below B w ((w.setCell ⟨g1,0,none⟩ (.int .i64 i)).setCell ⟨g2,0,none⟩ (.bool true)):=((Below.refl B w).setCell (p:=⟨g1,0,none⟩) hB1 _).setCell (p:=⟨g2,0,none⟩) hB2 _
  go_enter Tryz.func179,Tryz.ntmps179
  go_wp2_with fail
  go_ret
  exact ⟨rfl,h1',h2'',hb⟩
set_option maxRecDepth 100000 in
set_option maxHeartbeats 4000000 in
theorem each_any (s p:List UInt8) (B g1 g2:Nat) (w:World) (h1:Blk w g1 3 #[.int .i64 0]) (h2:Blk w g2 4 #[.bool false]) (hne:g1 ≠ g2) (hB1:B≤g1) (hB2:B≤g2) (hp:p.length≤100000) (hs:s.length≤100000) :
    Calls Tryz.prog 178 #[str s,str p,.int .i64 0,moreF g1 g2] w fun e w'=>e = .returned (.tuple #[])∧(∃ x,Blk w' g1 3 #[.int .i64 x])∧Blk w' g2 4 #[.bool (kin p s)]∧Below B w w':=by
  have hBw:B≤w.heap.size:=Nat.le_trans hB1 (Nat.le_of_lt h1.lt)
  have hg1:=h1.lt
  have hg2:=h2.lt
  have hs0:¬ (s.length:Int) < 0:=by omega
  have CF:=fail_any p w hp p.length rfl
  by_cases hnil:p = []
  · subst hnil
    have hk:kin [] s = true:=kin_yes (i:=0) (by omega) (by rw [List.take_zero,M_nil];rfl)
    go_enter Tryz.func178,Tryz.ntmps178
    go_wp2_with fail
    refine CF.mono ?_
    rintro e w2 ⟨rfl,bF,hb2⟩
    go_wp2_with fail
    refine (find1_any B g1 g2 0 0 false w2 (h1.below hb2 hg1) (h2.below hb2 hg2) hne hB1 hB2 (Nat.le_trans hBw hb2.size)).mono ?_
    rintro e w3 ⟨rfl,k1,k2,hb3⟩
    go_wp2_with fail
    refine bodyPost_ret (results_none rfl _ _ _) rfl ?_
    exact ⟨rfl,⟨0,k1⟩,by rw [hk];exact k2,(hb2.mono hBw).trans hb3⟩
  · have hpl:0 < p.length:=List.length_pos_iff.2 hnil
    have HK0:Hid (¬ M p (s.take 0) = p.length):=Lib.hid (by rw [List.take_zero,M_nil];omega)
    have hM0:M p (s.take 0) = 0:=by rw [List.take_zero,M_nil]
    have hne2:¬ str p = str []:=by
      intro e
      have:=congrArg (fun v=>match v with | Value.string b=>b.data.toList | _=>[]) e
      exact hnil (by simpa using this)
    go_enter Tryz.func178,Tryz.ntmps178
    go_wp2_with fail
    refine CF.mono ?_
    clear CF
    rintro e w2 ⟨rfl,bF,hb2⟩
    have k1:=h1.below hb2 hg1
    have k2:=h2.below hb2 hg2
    have hbB:=hb2.mono hBw
    have hBw2:B≤w2.heap.size:=Nat.le_trans hBw hb2.size
    generalize w.heap.size = gF at *
    clear h1 h2 hb2
    go_wp2_with fail
    go_loopw [9,10] (fun st iv wr=>∃ k:Nat,iv = .int .i64 k∧st = .int .i64 (M p (s.take k):Nat)∧k≤s.length∧(∀ j,j≤k → ¬ M p (s.take j) = p.length)∧wr = w2) (fun _ iv _=>s.length - (intOf iv).toNat)
    case atStart => exact ⟨0, rfl, by rw [hM0]; rfl, by omega, by intro j hj; obtain rfl : j = 0 := by omega
                                                                  exact HK0.out,rfl⟩
    case round =>
      obtain ⟨k,rfl,rfl,hk,hall,rfl⟩:=hrel
      have HA:=Lib.hid hall
      clear hall
      by_cases hlt:k < s.length
      · obtain ⟨cb,hb,hb'⟩:∃ x,(⟨s.toArray⟩:ByteArray)[k]'(by show k < s.toArray.size;simpa using hlt) = x∧s[k] = x:=⟨_,rfl,rfl⟩
        have hcb:=cb.toNat_lt
        have hki:(k:Int) < (s.length:Int):=by omega
        have HS:=Lib.hid (M_step p s k hlt)
        rw [hb'] at HS
        obtain ⟨nx,hnx⟩:∃ nx,M p (s.take k ++ [cb]) = nx:=⟨_,rfl⟩
        have C:=step_any p (s.take k) cb (some ⟨gF,0,none⟩) p.length p.length wr hp (M_le _ _) hp (fun _=>⟨gF,0,rfl,fun j hj=>by rw [Nat.zero_add];have:=M_le p (s.take k);exact bF.cell_ j (fc_at (by omega) (by omega))⟩) nx hnx
        rw [hnx] at HS
        have HM:=Lib.hid (M_le p (s.take k ++ [cb]))
        rw [hnx] at HM
        clear hnx hb'
        generalize hst:M p (s.take k) = st at *
        go_wp2_with fail
        refine C.mono ?_
        clear C
        rintro e w3 ⟨rfl,rfl⟩
        by_cases he:nx = p.length
        · have hk1:kin p s = true:=kin_yes (i:=k + 1) (by omega) (by rw [HS.out];exact he)
          subst he
          go_wp2_with fail
          refine (find1_any B g1 g2 _ 0 false _ k1 k2 hne hB1 hB2 hBw2).mono ?_
          rintro e w4 ⟨rfl,m1,m2,hb4⟩
          go_wp2_with fail
          try simp only [Exit.inBlock,Exit.then]
          refine bodyPost_ret (results_none rfl _ _ _) rfl ?_
          exact ⟨rfl,⟨_,m1⟩,by rw [hk1];exact m2,hbB.trans hb4⟩
        · have heI:((nx:Int) == (p.length:Int)) = false:=by rw [beq_eq_false_iff_ne];omega
          have HE:=Lib.hid he
          clear he
          go_wp2_with fail
          go_roundw
          case rel =>
            refine ⟨k + 1,by go_num,by rw [HS.out],by omega,?_,by first | rfl | trivial⟩
            intro j hj
            rcases Nat.lt_or_ge j (k + 1) with h1 | h1
            · exact HA.out j (by omega)
            · obtain rfl:j = k + 1:=by omega
              rw [HS.out];exact HE.out
          case measure=>simp [intOf];omega
      · have hk0:kin p s = false:=kin_no (fun j hj=>HA.out j (by omega))
        obtain rfl:k = s.length:=by omega
        go_wp2_with fail
        go_end0
        exact ⟨rfl,⟨_,k1⟩,by rw [hk0];exact k2,hbB⟩
end KmpW
end Go.Proofs.YtnpncpoiiikafaaGreatDoor
namespace Go.Proofs.YtnpncpoiiikafaaGreatDoor
open Go.RowKit
namespace KmpW
set_option maxRecDepth 100000 in
set_option maxHeartbeats 4000000 in
theorem find_any (s p:List UInt8) (w:World) (hp:p.length≤100000) (hs:s.length≤100000) :
    Calls Tryz.prog 177 #[str s,str p,.int .i64 0] w fun e w'=>∃ x,e = .returned (.tuple #[.int .i64 x,.bool (kin p s)])∧Below w.heap.size w w':=by
  have hmf:∀ (fn:Fn) (first cap:Array Value) (w:World),(Instr.makeFunc fn first cap).run Tryz.prog w = .ok (.func fn first cap) w:=fun _ _ _ _=>rfl
  go_enter Tryz.func177,Tryz.ntmps177
  go_wp2_with fail
  have b1:=(Blk.new w 3 #[.int .i64 0]).alloc (.cells #[.bool false] 4)
  have b2:=Blk.new (w.alloc (.cells #[.int .i64 0] 3)) 4 #[.bool false]
  rw [World.size_alloc] at b2
  have hb:Below w.heap.size w ((w.alloc (.cells #[.int .i64 0] 3)).alloc (.cells #[.bool false] 4)):=((Below.refl _ w).alloc (Nat.le_refl _) _).alloc (by simp) _
  refine (each_any s p w.heap.size w.heap.size (w.heap.size + 1) _ b1 b2 (by omega) (Nat.le_refl _) (by omega) hp hs).mono ?_
  rintro e w2 ⟨rfl,⟨x,k1⟩,k2,hb2⟩
  have c1:=k1.cell_ 0 rfl
  have c2:=k2.cell_ 0 rfl
  have HB:=hb.trans hb2
  clear b1 b2 hb hb2 hmf
  go_wp2_with fail
  go_quiet (fail)
  go_wp2
  go_ret2
  exact ⟨x,rfl,Below.drewN_ HB _⟩
theorem has_any (s p:List UInt8) (w:World) (hp:p.length≤100000) (hs:s.length≤100000) :
    Calls Tryz.prog 176 #[str s,str p] w fun e w'=>e = .returned (.bool (kin p s))∧Below w.heap.size w w':=by
  go_enter Tryz.func176,Tryz.ntmps176
  go_wp2_with fail
  refine (find_any s p w hp hs).mono ?_
  rintro e w2 ⟨x,rfl,hb⟩
  go_wp2_with fail
  go_ret
  exact ⟨rfl,hb⟩
end KmpW
end Go.Proofs.YtnpncpoiiikafaaGreatDoor
