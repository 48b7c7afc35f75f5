/- Walks of the reference of package sieve: rows. -/
import Derived.Test.YtdeiehgghhiijaaDoorSieU
namespace Go.Proofs.YtdeiehgghhiijaaDoor
set_option linter.unusedVariables false
set_option linter.unusedSimpArgs false
set_option linter.unnecessarySimpa false
open Go.RowKit
namespace SieW
open WanW (w64k)

theorem PsAt.at_ {w : World} {S : Nat → Prop} {A : Option Addr} {n : Nat} {ps : List RP} (h : PsAt w S A n ps) {j : Nat} {p : RP} (hp : ps[j]? = some p) :
    ∃ b o v, A = some ⟨b, o, none⟩ ∧ S b ∧ b < w.heap.size ∧ w.cell? ⟨b, o + j * 5, none⟩ = some (str p.word) ∧ w.cell? ⟨b, o + j * 5 + 1, none⟩ = some (.int .i64 p.lo) ∧ w.cell? ⟨b, o + j * 5 + 2, none⟩ = some (.int .i64 p.hi) ∧
      w.cell? ⟨b, o + j * 5 + 3, none⟩ = some (str p.what) ∧ w.cell? ⟨b, o + j * 5 + 4, none⟩ = some v ∧ OfAt w S v p.of_ := by
  have hlen := h.len
  obtain ⟨pl, rfl, h1, h2⟩ := h
  obtain ⟨hj, hpe⟩ := List.getElem?_eq_some_iff.1 hp
  have hj' : j < pl.length := by simpa using hj
  have hn : 0 < n := by have := h1.1; rw [plc_len] at this; omega
  obtain ⟨b, o, hA, hS, hb, hc⟩ := h1.2 hn
  have hpe' : pl[j].1 = p := by simpa using hpe
  have hcell : ∀ i (hi : i < 5), w.cell? ⟨b, o + j * 5 + i, none⟩ = (pcell pl[j])[i]? := by
    intro i hi
    have hlt : j * 5 + i < (plc pl).length := by rw [plc_len]; omega
    have e1 := hc (j * 5 + i) hlt
    have e2 := plc_at pl j i hj' hi
    rw [List.getElem?_eq_getElem hlt] at e2
    rw [Nat.add_assoc, e1, e2]
  refine ⟨b, o, pl[j].2, hA, hS, hb, ?_, ?_, ?_, ?_, ?_, ?_⟩
  · have := hcell 0 (by omega); rw [Nat.add_zero] at this; rw [this, ← hpe']; rfl
  · rw [hcell 1 (by omega), ← hpe']; rfl
  · rw [hcell 2 (by omega), ← hpe']; rfl
  · rw [hcell 3 (by omega), ← hpe']; rfl
  · rw [hcell 4 (by omega)]; rfl
  · rw [← hpe']; exact h2 _ (List.getElem_mem hj')
theorem Rep.get {ps : List RP} {n : Nd} {k : Nat} (h : Rep ps n k) : ∃ p, ps[k]? = some p := ⟨_, List.getElem?_eq_getElem h.lt⟩
/-- A part's own parts, as a row takes them. -/
theorem rep_takes {ps : List RP} {n : Nd} {k : Nat} (h : Rep ps n k) (o : Bool) {p : RP} (hp : ps[k]? = some p) :
    (p.word = byW o → (∃ l, n = .row o l) ∧ Reps ps (flat o n) p.of_ ∧ ∀ j ∈ p.of_, j < k) ∧ (¬ p.word = byW o → flat o n = [n] ∧ Reps ps (flat o n) [k]) := by
  have hw := h.word o
  rw [hp] at hw
  simp only [Option.map_some, Option.getD_some] at hw
  constructor
  · intro e
    obtain ⟨l, rfl⟩ := hw.1 e
    refine ⟨⟨l, rfl⟩, ?_⟩
    obtain ⟨js, h1, h2, h3⟩ := h
    rw [hp] at h1
    simp only [Option.some.injEq] at h1
    subst h1
    simp only [SieW.flat, if_true]
    exact ⟨h3, h2⟩
  · intro e
    have hn : notRow o n := by
      cases n with
      | row o2 l => intro e2; subst e2; exact e (hw.2 ⟨l, rfl⟩)
      | _ => trivial
    rw [flat_not o n hn]
    exact ⟨rfl, k, [], rfl, h, rfl⟩
theorem flat_row2 (o : Bool) (l : List Nd) : flat o (.row o l) = l := by rw [flat, if_pos rfl]
theorem mk_many2 (o : Bool) (L : List Nd) (h : L.length ≠ 1) : mkN o L = .row o L := by
  match L, h with
  | [], _ => rfl
  | x :: y :: L, _ => rfl
theorem blk3_far {w : World} {g h : Nat} {t : TypeId} {cs : Array Value} {a' b' c' : Value} (hB : Blk w g t cs) (hne : g ≠ h) :
    Blk (((w.setCell ⟨h, 0, none⟩ a').setCell ⟨h, 1, none⟩ b').setCell ⟨h, 2, none⟩ c') g t cs :=
  ((hB.far (p := ⟨h, 0, none⟩) hne _).far (p := ⟨h, 1, none⟩) hne _).far (p := ⟨h, 2, none⟩) hne _
theorem few_drop (s : List UInt8) (hs : s.length ≤ 1000) (i : Nat) : Few ((wordsP s).drop i) := fun x hx => by
  have := words_each s x (List.mem_of_mem_drop hx)
  omega
theorem own_ne_of {w : World} {base e size n c g : Nat} {A : Option Addr} {xs : List Value} (h : Own w base e size A n c xs) (hg : g < base) : blkOf A ≠ some g := fun e => by have := (h.blk g e).1; omega
set_option maxRecDepth 100000 in
set_option maxHeartbeats 16000000 in
theorem refAnd_any (s : List UInt8) (hs : s.length ≤ 1000) (f : Nat) (hP : ∀ f', f' < f → FRd s f') : SRd s f (0 + 1) := by
  intro A n c ps sz dp i b o nw cw w S hw hp hc hn hi hsz hdp hno y0 hy0
  have hy1 : y0 = [97, 110, 100] := hy0
  subst hy1
  clear hy0
  obtain ⟨Q, hQ⟩ : ∃ Q, pG s.length f (0 + 1) [] ((wordsP s).drop i) sz dp = Q := ⟨_, rfl⟩
  rw [hQ] at hno ⊢
  have HB := ((Below.refl w.heap.size w).alloc (Nat.le_refl _) (.cells #[.slice A n c, .int .i64 sz, .int .i64 dp] 29)).alloc (by simp) (.cells #[.slice none 0 0, .int .i64 0, .int .i64 0] 29)
  have b1 := (Blk.new w 29 #[.slice A n c, .int .i64 sz, .int .i64 dp]).alloc (.cells #[.slice none 0 0, .int .i64 0, .int .i64 0] 29)
  have b2 := Blk.new (w.alloc (.cells #[.slice A n c, .int .i64 sz, .int .i64 dp] 29)) 29 #[.slice none 0 0, .int .i64 0, .int .i64 0]
  simp only [World.size_alloc] at b2
  obtain ⟨w0, hw0⟩ : ∃ w0, (w.alloc (.cells #[.slice A n c, .int .i64 sz, .int .i64 dp] 29)).alloc (.cells #[.slice none 0 0, .int .i64 0, .int .i64 0] 29) = w0 := ⟨_, rfl⟩
  have hz0 : w.heap.size + 1 + 1 ≤ w0.heap.size := by rw [← hw0]; simp
  rw [hw0] at HB b1 b2
  have hbB : b < w.heap.size := hw.lt
  have hne : b ≠ w.heap.size := by omega
  have hne2 : w.heap.size ≠ b := by omega
  have hlen1 : nw ≤ (wordsP s).length + 1 := by have := hw.len; omega
  have hlen2 : (wordsP s).length + 1 ≤ nw := by have := hw.len; omega
  have hfew := hw.few
  have hps0 := (hp.below HB).wide (S' := fun b => ((S b ∧ b < w.heap.size) ∨ w.heap.size + 1 + 1 ≤ b) ∧ blkOf none ≠ some b) (fun b h1 _ => ⟨.inl h1, by simp [blkOf]⟩)
  have hnps1 : ps.length ≤ n := by have := hp.len; omega
  have hnps2 : n ≤ ps.length := by have := hp.len; omega
  have HW := Lib.hid hw
  have HP := Lib.hid hP
  have HQ := Lib.hid hQ
  clear hw hp hP hQ
  go_enter Tryd.func22, Tryd.ntmps22
  go_wp2_with fail
  go_loopw [2, 11] (fun iv ov wr => ∃ (f' : Nat) (acc : List Nd) (i' sz' : Nat) (Ao : Option Addr) (no co : Nat) (ofs : List Nat) (At : Option Addr) (nt ct : Nat) (ext : List RP), f' ≤ f ∧ iv = .int .i64 (i' : Nat) ∧ ov = .slice Ao no co ∧ Below w.heap.size w wr ∧
    Blk wr w.heap.size 29 #[.slice At nt ct, .int .i64 sz', .int .i64 dp] ∧ Blk wr (w.heap.size + 1) 29 #[.slice none 0 0, .int .i64 0, .int .i64 0] ∧ w.heap.size + 1 + 1 ≤ wr.heap.size ∧ Own wr (w.heap.size + 1 + 1) 3 1 Ao no co (nats ofs) ∧ nt ≤ ct ∧
    PsAt wr (fun b => ((S b ∧ b < w.heap.size) ∨ w.heap.size + 1 + 1 ≤ b) ∧ blkOf Ao ≠ some b) At nt (ps ++ ext) ∧ Reps (ps ++ ext) acc ofs ∧ wfL false acc ∧ szL acc ≤ sz' ∧ sz' ≤ 100 ∧ i ≤ i' ∧ i' ≤ (wordsP s).length ∧ ext.length ≤ 4 * (i' - i) ∧ (∀ j ∈ ofs, j < nt) ∧
    pG s.length f' (0 + 1) acc ((wordsP s).drop i') sz' dp = Q) (fun iv _ _ => (wordsP s).length - (intOf iv).toNat)
  case atStart => exact ⟨f, [], i, sz, none, 0, 0, [], A, n, c, [], Nat.le_refl _, rfl, rfl, HB, b1, b2, hz0, Own.nil _ _ _ _, hc, by rw [List.append_nil]; exact hps0, rfl, trivial, by simp [szL], hsz, Nat.le_refl _, hi, by simp, by simp, HQ.out⟩
  case round =>
    obtain ⟨f', acc, i', sz', Ao, no, co, ofs, At, nt, ct, ext, hf', rfl, rfl, HBr, b1r, b2r, hzr, oW, hct, P0, hrp, hwf, hszl, hs1, hii', hiw, hext, hjs, hq⟩ := hrel
    cases f' with
    | zero => rw [pG] at hq; exact absurd hq.symm hno
    | succ f1 =>
    rw [pG] at hq
    obtain ⟨R, hR⟩ : ∃ R, pG s.length f1 0 [] ((wordsP s).drop i') sz' dp = R := ⟨_, rfl⟩
    have hRn : R ≠ .out := by intro e; rw [hR, e] at hq; exact hno hq.symm
    have W0 := HW.out.below HBr
    have hpl := P0.len
    rw [List.length_append] at hpl
    have C := HP.out f1 (by omega) At nt ct (ps ++ ext) sz' dp i' b o nw cw wr _ W0 P0 hct (by omega) hiw hs1 hdp (by rw [hR]; exact hRn)
    rw [hR] at C hq
    have HR := Lib.hid hR
    have HRP0 := Lib.hid hrp
    have HJS := Lib.hid hjs
    obtain ⟨c0, c1, c2, f0, f1', f2, _⟩ := blk3 b1r
    clear hR hrp hjs b1 b2 HB hw0 hz0 hps0
    cases R with
    | out => exact absurd rfl hRn
    | err er at_ =>
      dsimp only at hq
      subst hq
      go_wp2_with fail
      refine C.mono ?_
      clear C
      rintro e w1 ⟨A9, m9, c9, y', z', k, rfl, hk, ha, her, hb1⟩
      have b11 := b1r.below hb1 b1r.lt
      have b21 := b2r.below hb1 b2r.lt
      have HB1 := HBr.trans (hb1.mono HBr.size)
      have HB2 := below3 (a' := .slice A9 m9 c9) (b' := .int .i64 y') (c' := .int .i64 z') HB1 (Nat.le_refl _)
      have b12 := blk3_set (a' := .slice A9 m9 c9) (b' := .int .i64 y') (c' := .int .i64 z') b11
      have b22 := blk3_far (a' := .slice A9 m9 c9) (b' := .int .i64 y') (c' := .int .i64 z') b21 (show w.heap.size + 1 ≠ w.heap.size by omega)
      obtain ⟨x0, x1, x2, r0, r1, r2, _⟩ := blk3 b11
      obtain ⟨w2, hw2⟩ : ∃ w2, ((w1.setCell ⟨w.heap.size, 0, none⟩ (.slice A9 m9 c9)).setCell ⟨w.heap.size, 1, none⟩ (.int .i64 y')).setCell ⟨w.heap.size, 2, none⟩ (.int .i64 z') = w2 := ⟨_, rfl⟩
      rw [hw2] at HB2 b12 b22
      obtain ⟨u0, u1, u2, _⟩ := blk3 b12
      obtain ⟨d0, d1, d2, g0, g1, g2, _⟩ := blk3 b22
      have heb : (er != 0) = true := by rcases her with rfl | rfl <;> decide
      clear b11 b21 HB1 hb1 c0 c1 c2 f0 f1' f2 W0 P0 oW b1r b2r
      go_wp2_with fail
      refine bodyPost_ret (WanW.results_rowB rfl _ _ (w.heap.size + 1) #[.slice A9 m9 c9, .int .i64 y', .int .i64 z'] _ rfl (blk3_set b22) Tryd.underlying29 rfl (by kernel_rfl)) rfl ?_
      exact ⟨_, _, _, _, _, k, rfl, hk, ha, her, below3 HB2 (by omega)⟩
    | ok n1 l2 s2 d2 =>
      obtain ⟨_, _, _, _, hd2, hs12, hs12'⟩ := pG_left _ _ _ _ _ _ _ _ _ _ _ HR.out
      have hd3 := hd2.symm
      subst hd3
      clear hd2
      obtain ⟨w1', w2', w3'⟩ := pG_wf _ _ 0 [] _ _ _ _ _ _ _ (by omega) hdp (few_drop s hs i') (fun _ => rfl) trivial (by simp) HR.out
      simp only [szL, Nat.add_zero] at w3'
      have hwf5 : wfL false (acc ++ flat false n1) := (wfL_app _ _ _).2 ⟨hwf, wfL_flat _ _ w1'⟩
      have hsz5 : szL (acc ++ flat false n1) ≤ s2 := by rw [szL_app, szL_flat]; omega
      have hs100 : s2 ≤ 100 := hs12' hs1
      have hpos := flat_pos false n1 w1'
      have HONE : Hid ((flat false n1).length ≤ 1 → flat false n1 = [n1]) := Lib.hid (fun h => by
        by_cases hn : notRow false n1
        · exact flat_not false n1 hn
        · cases n1 with
          | row o2 l =>
            have e : o2 = false := by cases o2 <;> simp_all [notRow]
            subst e
            rw [flat_row2] at h
            have := w1'.1
            omega
          | _ => exact absurd trivial hn)
      dsimp only at hq
      rw [show decide (0 = 1) = false from rfl] at hq
      have hno5 : no ≤ 100 := by
        have e1 := oW.len
        have e2 := HRP0.out.len
        have e3 := len_sz false _ hwf
        rw [nats_len] at e1
        omega
      have hacc5 := len_sz false _ hwf5
      clear w1' w2' w3' hwf hszl HR
      go_wp2_with fail
      refine C.mono ?_
      clear C
      rintro e w1 ⟨A2, m2, c2', ext2, k, rfl, rfl, hik, hkl, hmc, hps1, hx1, hxk, hrep, hb1⟩
      have hml := hps1.len
      simp only [List.length_append] at hml
      obtain ⟨j, rfl⟩ : ∃ j, m2 = j + 1 := ⟨m2 - 1, by omega⟩
      have hj1 : IntKind.i64.wrap ((j : Int) + 1 - 1) = (j : Int) := by rw [Int.add_sub_cancel]; exact w64k (by omega) (by omega)
      have hj2 : IntKind.i64.wrap (j : Int) = (j : Int) := w64k (by omega) (by omega)
      have hjI : (j : Int) < (j : Int) + 1 := by omega
      have hj0 : (0 : Int) ≤ (j : Int) := by omega
      have hk1 : IntKind.i64.wrap ((k : Int) + 1) = (k : Int) + 1 := w64k (by omega) (by omega)
      have hkI : (k : Int) < (nw : Int) := by omega
      have hk0 : (0 : Int) ≤ (k : Int) := by omega
      have hz1 := hb1.size
      have HML : Hid (ps.length + (ext ++ ext2).length = j + 1) := Lib.hid (by rw [List.length_append]; omega)
      rw [show (ps ++ ext).length + ext2.length - 1 = j by rw [List.length_append]; omega] at hrep
      rw [List.append_assoc] at hps1 hrep
      have HREP := Lib.hid hrep
      have hAb := oW.blk
      have b11 := b1r.below hb1 b1r.lt
      have b21 := b2r.below hb1 b2r.lt
      have HB1 := HBr.trans (hb1.mono HBr.size)
      have o1 := oW.below hb1
      have W1 := W0.below hb1
      have hAo := own_ne_of oW (show w.heap.size < w.heap.size + 1 + 1 by omega)
      have HB2 := below3 (a' := .slice A2 (j + 1) c2') (b' := .int .i64 s2) (c' := .int .i64 dp) HB1 (Nat.le_refl _)
      have b12 := blk3_set (a' := .slice A2 (j + 1) c2') (b' := .int .i64 s2) (c' := .int .i64 dp) b11
      have b22 := blk3_far (a' := .slice A2 (j + 1) c2') (b' := .int .i64 s2) (c' := .int .i64 dp) b21 (show w.heap.size + 1 ≠ w.heap.size by omega)
      have o2 := own_far3 (g := w.heap.size) (a := .slice A2 (j + 1) c2') (b := .int .i64 s2) (d := .int .i64 dp) o1 (by omega)
      have P2 := (hps1.set3 (g := w.heap.size) (a := .slice A2 (j + 1) c2') (b := .int .i64 s2) (c := .int .i64 dp) (fun b hb => hb.elim (fun h => by rcases h.1 with h | h <;> omega) (fun h => by omega))).wide (S' := fun b => ((S b ∧ b < w.heap.size) ∨ w.heap.size + 1 + 1 ≤ b) ∧ blkOf Ao ≠ some b)
        (fun b hb _ => hb.elim id (fun h => ⟨.inr (by omega), fun e => by have := (hAb b e).2; omega⟩))
      obtain ⟨x0, x1, x2, r0, r1, r2, _⟩ := blk3 b11
      obtain ⟨w2, hw2⟩ : ∃ w2, ((w1.setCell ⟨w.heap.size, 0, none⟩ (.slice A2 (j + 1) c2')).setCell ⟨w.heap.size, 1, none⟩ (.int .i64 s2)).setCell ⟨w.heap.size, 2, none⟩ (.int .i64 dp) = w2 := ⟨_, rfl⟩
      have hz2 : w1.heap.size ≤ w2.heap.size := by rw [← hw2]; simp
      have W2 : Wds s w2 b o nw := HW.out.below (by rw [← hw2]; exact below3 HB1 (Nat.le_refl _))
      rw [hw2] at HB2 b12 b22 o2 P2
      obtain ⟨u0, u1, u2, _⟩ := blk3 b12
      clear b11 b21 HB1 hb1 c0 c1 c2 f0 f1' f2 W0 P0 oW b1r b2r o1 W1 hps1
      obtain ⟨p, hp⟩ := hrep.get
      obtain ⟨bP, oP, v, rfl, hSP, hbP, q0, q1, q2, q3, q4, hof⟩ := P2.at_ hp
      obtain ⟨ht1, ht2⟩ := rep_takes hrep false hp
      obtain ⟨pw, hpw⟩ : ∃ pw, p.word = pw := ⟨_, rfl⟩
      rw [hpw] at ht1 ht2 q0
      have hbPn : bP ≠ w.heap.size := by rcases hSP.1 with h | h <;> omega
      have hbPn2 : w.heap.size ≠ bP := by omega
      clear hp hrep hpw q1 q2 q3
      by_cases hkind : pw = byW false
      · obtain ⟨⟨l3, hl3⟩, hr3, hj3⟩ := ht1 hkind
        have hkind2 : pw = [97, 110, 100] := hkind
        clear ht1 ht2 hkind
        subst hkind2
        obtain ⟨A3, n3, c3, rfl, hnc3, hcm3, rd3⟩ := hof
        obtain ⟨js, hjs⟩ : ∃ js, p.of_ = js := ⟨_, rfl⟩
        rw [hjs] at hr3 hj3 rd3
        have hrp5 := Reps.app (Reps.more (ps ++ ext) ext2 _ _ HRP0.out) (by rw [List.append_assoc]; exact hr3)
        rw [List.append_assoc] at hrp5
        have hnl3 : js.length = n3 := by have := rd3.1; rw [nats_len] at this; omega
        have hn35 : n3 ≤ 100 := by have := hr3.len; rw [List.length_append] at hacc5; omega
        have HRP := Lib.hid hrp5
        have HJ5 : Hid (∀ j' ∈ ofs ++ js, j' < j + 1) := Lib.hid (fun j' h => by
          rcases List.mem_append.1 h with h | h
          · have := HJS.out j' h; omega
          · have := hj3 j' h; omega)
        have r3 := rd3.rd
        clear hrp5 hr3 hj3 rd3 hjs hnl3
        obtain ⟨n5, hn5⟩ : ∃ n5, no + n3 = n5 := ⟨_, rfl⟩
        obtain ⟨ofs5, hofs5⟩ : ∃ ofs5, ofs ++ js = ofs5 := ⟨_, rfl⟩
        rw [hofs5] at HRP HJ5
        have HN5 := Lib.hid hn5
        have HOFS := Lib.hid hofs5
        have hn51 : n5 ≤ no + n3 := by omega
        have hn52 : no + n3 ≤ n5 := by omega
        clear hn5 hofs5
        obtain ⟨⟨y, a3⟩, hy⟩ : ∃ z, hdW s.length ((wordsP s).drop k) = z := ⟨_, rfl⟩
        rw [hy] at hq
        dsimp only at hq
        have HY := Lib.hid hy
        clear hy
        by_cases hyb : y = byW false
        · rw [if_pos hyb] at hq
          have hyc : y = [97, 110, 100] := hyb
          clear hyb
          subst hyc
          have hkw := word_in (s := s) (i := k) (by rw [HY.out]; exact List.cons_ne_nil _ _)
          rw [tail_drop, List.drop_drop] at hq
          have HQ5 := Lib.hid hq
          clear hq
          go_wp2_with (at_builtin; (with_reducible refine wp_append El_of rfl (s := .tmp 50) (x := .tmp 56) rfl rfl o2 rfl r3 (nats_one _) (by unfold maxLen; omega) (by omega) (by omega) ?_); intro A5 c5 w5 o5 hg5 hat5; have hz5 := hg5.size; have b15 := b12.grown hg5 (fun e => by have := (hAb _ e.symm).1; omega); have b25 := b22.grown hg5 (fun e => by have := (hAb _ e.symm).1; omega); have HB5 := HB2.grown hg5 (by omega) (fun k hk => by have := (hAb k hk).1; omega); have P5 : PsAt w5 (fun b => ((S b ∧ b < w.heap.size) ∨ w.heap.size + 1 + 1 ≤ b) ∧ blkOf A5 ≠ some b) (some ⟨bP, oP, none⟩) (j + 1) (ps ++ (ext ++ ext2)) := P2.keep (fun b h1 h2 => ⟨hg5.block b h2 (fun e => h1.2 e.symm), h1.1, hat5.elim (fun e => by rw [e]; exact h1.2) (fun e => by rw [e]; intro e2; simp at e2; omega)⟩); have W5 := HW.out.below HB5; obtain ⟨y0, y1⟩ := W5.at_ k hkl; rw [HY.out] at y0 y1; dsimp only at y0 y1; obtain ⟨xx0, xx1, xx2, rr0, rr1, rr2, _⟩ := blk3 b15; rw [← nats_app, HOFS.out, HN5.out] at o5; rw [HN5.out])
          go_roundw
          case rel => exact ⟨f1, acc ++ flat false n1, k + 1, s2, A5, n5, c5, ofs5, some ⟨bP, oP, none⟩, j + 1, c2', ext ++ ext2, by omega, by go_num, rfl, HB5, b15, b25, by omega, o5, hmc, P5, HRP.out, hwf5, hsz5, hs100, by omega, by omega, by simp only [List.length_append]; omega, HJ5.out, HQ5.out⟩
          case measure => simp [intOf]; omega
        · rw [if_neg hyb] at hq
          subst hq
          obtain ⟨p1, p1'⟩ := str_ne (show ¬ y = [97, 110, 100] from hyb)
          clear hyb
          by_cases hlen1 : 1 < n5
          · have hlI : (1 : Int) < (n5 : Int) := by omega
            go_wp2_with (at_builtin; (with_reducible refine wp_append El_of rfl (s := .tmp 50) (x := .tmp 56) rfl rfl o2 rfl r3 (nats_one _) (by unfold maxLen; omega) (by omega) (by omega) ?_); intro A5 c5 w5 o5 hg5 hat5; have hz5 := hg5.size; have b15 := b12.grown hg5 (fun e => by have := (hAb _ e.symm).1; omega); have b25 := b22.grown hg5 (fun e => by have := (hAb _ e.symm).1; omega); have HB5 := HB2.grown hg5 (by omega) (fun k hk => by have := (hAb k hk).1; omega); have P5 : PsAt w5 (fun b => ((S b ∧ b < w.heap.size) ∨ w.heap.size + 1 + 1 ≤ b) ∧ blkOf A5 ≠ some b) (some ⟨bP, oP, none⟩) (j + 1) (ps ++ (ext ++ ext2)) := P2.keep (fun b h1 h2 => ⟨hg5.block b h2 (fun e => h1.2 e.symm), h1.1, hat5.elim (fun e => by rw [e]; exact h1.2) (fun e => by rw [e]; intro e2; simp at e2; omega)⟩); have W5 := HW.out.below HB5; obtain ⟨y0, y1⟩ := W5.at_ k hkl; rw [HY.out] at y0 y1; dsimp only at y0 y1; obtain ⟨xx0, xx1, xx2, rr0, rr1, rr2, _⟩ := blk3 b15; rw [← nats_app, HOFS.out, HN5.out] at o5; rw [HN5.out])
            have hof : OfAt w5 (fun b => ((S b ∧ b < w.heap.size) ∨ w.heap.size + 1 + 1 ≤ b)) (.slice A5 n5 c5) ofs5 :=
              ⟨_, _, _, rfl, o5.cap, o5.capm, RdS.of_own o5 (fun b h1 _ => .inr h1)⟩
            have C := add_any (some ⟨bP, oP, none⟩) (j + 1) c2' (ps ++ (ext ++ ext2)) s2 dp ⟨[97, 110, 100], 0, 0, [], ofs5⟩ (.slice A5 n5 c5) w5 _ (P5.wide (fun b h1 _ => h1.1)) (by omega) hmc hof
            clear hof
            refine C.mono ?_
            clear C
            rintro e w6 ⟨A6, c6, rfl, h1, h2, hps6, hb6⟩
            have b16 := b15.below hb6 b15.lt
            have b26 := b25.below hb6 b25.lt
            have HB6 := HB5.trans (hb6.mono HB5.size)
            have hz6 := hb6.size
            have HB7 := below3 (a' := .slice A6 (j + 1 + 1) c6) (b' := .int .i64 s2) (c' := .int .i64 dp) HB6 (Nat.le_refl _)
            have b17 := blk3_set (a' := .slice A6 (j + 1 + 1) c6) (b' := .int .i64 s2) (c' := .int .i64 dp) b16
            have b27 := blk3_far (a' := .slice A6 (j + 1 + 1) c6) (b' := .int .i64 s2) (c' := .int .i64 dp) b26 (show w.heap.size + 1 ≠ w.heap.size by omega)
            have hps7 := hps6.set3 (g := w.heap.size) (a := .slice A6 (j + 1 + 1) c6) (b := .int .i64 s2) (c := .int .i64 dp) (fun b hb => by rcases hb with (h | h) | h <;> omega)
            obtain ⟨x0, x1, x2, r0, r1, r2, _⟩ := blk3 b16
            obtain ⟨w7, hw7⟩ : ∃ w7, ((w6.setCell ⟨w.heap.size, 0, none⟩ (.slice A6 (j + 1 + 1) c6)).setCell ⟨w.heap.size, 1, none⟩ (.int .i64 s2)).setCell ⟨w.heap.size, 2, none⟩ (.int .i64 dp) = w7 := ⟨_, rfl⟩
            rw [hw7] at HB7 b17 b27 hps7
            obtain ⟨u0, u1, u2, _⟩ := blk3 b17
            obtain ⟨d0, d1, d2, g0, g1, g2, _⟩ := blk3 b27
            clear b16 b26 HB6 hps6
            go_wp2_with fail
            refine bodyPost_ret (WanW.results_rowB rfl _ _ (w.heap.size + 1) #[.slice A6 (j + 1 + 1) c6, .int .i64 s2, .int .i64 dp] _ rfl (blk3_set b27) Tryd.underlying29 rfl (by kernel_rfl)) rfl ?_
            refine ⟨A6, j + 1 + 1, c6, ext ++ ext2 ++ [⟨[97, 110, 100], 0, 0, [], ofs5⟩], k, rfl, rfl, by omega, hkl, h1, ?_, by simp only [List.length_append, List.length_singleton]; omega, by simp only [List.length_append, List.length_singleton]; omega, ?_, below3 HB7 (by omega)⟩
            · rw [List.append_assoc, List.append_assoc] at hps7
              rw [List.append_assoc]
              refine (hps7.set3 (g := w.heap.size + 1) (fun b hb => by rcases hb with (h | h) | h <;> omega)).wide (fun b hb _ => ?_)
              rcases hb with (h | h) | h
              · exact .inl h.1
              · exact .inr (by omega)
              · exact .inr (by omega)
            · rw [mk_many2 false _ (by have := HRP.out.len; have := o5.len; rw [nats_len] at this; omega)]
              refine ⟨ofs5, ?_, ?_, ?_⟩
              · have hml2 := HML.out
                rw [show ps.length + (ext ++ ext2 ++ [(⟨[97, 110, 100], 0, 0, [], ofs5⟩ : RP)]).length - 1 = (ps ++ (ext ++ ext2)).length by simp only [List.length_append, List.length_singleton]; omega, ← List.append_assoc, List.getElem?_append_right (Nat.le_refl _)]
                simp
                rfl
              · intro j' hj'
                have := HJ5.out j' hj'
                have := HML.out
                simp only [List.length_append, List.length_singleton] at this ⊢
                omega
              · rw [← List.append_assoc]
                exact Reps.more _ _ _ _ HRP.out
          · have hlI : ¬ (1 : Int) < (n5 : Int) := by omega
            go_wp2_with (at_builtin; (with_reducible refine wp_append El_of rfl (s := .tmp 50) (x := .tmp 56) rfl rfl o2 rfl r3 (nats_one _) (by unfold maxLen; omega) (by omega) (by omega) ?_); intro A5 c5 w5 o5 hg5 hat5; have hz5 := hg5.size; have b15 := b12.grown hg5 (fun e => by have := (hAb _ e.symm).1; omega); have b25 := b22.grown hg5 (fun e => by have := (hAb _ e.symm).1; omega); have HB5 := HB2.grown hg5 (by omega) (fun k hk => by have := (hAb k hk).1; omega); have P5 : PsAt w5 (fun b => ((S b ∧ b < w.heap.size) ∨ w.heap.size + 1 + 1 ≤ b) ∧ blkOf A5 ≠ some b) (some ⟨bP, oP, none⟩) (j + 1) (ps ++ (ext ++ ext2)) := P2.keep (fun b h1 h2 => ⟨hg5.block b h2 (fun e => h1.2 e.symm), h1.1, hat5.elim (fun e => by rw [e]; exact h1.2) (fun e => by rw [e]; intro e2; simp at e2; omega)⟩); have W5 := HW.out.below HB5; obtain ⟨y0, y1⟩ := W5.at_ k hkl; rw [HY.out] at y0 y1; dsimp only at y0 y1; obtain ⟨xx0, xx1, xx2, rr0, rr1, rr2, _⟩ := blk3 b15; rw [← nats_app, HOFS.out, HN5.out] at o5; rw [HN5.out]; obtain ⟨d0, d1, d2, g0, g1, g2, _⟩ := blk3 b25)
            refine bodyPost_ret (WanW.results_rowB rfl _ _ (w.heap.size + 1) #[.slice (some ⟨bP, oP, none⟩) (j + 1) c2', .int .i64 s2, .int .i64 dp] _ rfl (blk3_set b25) Tryd.underlying29 rfl (by kernel_rfl)) rfl ?_
            refine ⟨some ⟨bP, oP, none⟩, j + 1, c2', ext ++ ext2, k, rfl, rfl, by omega, hkl, hmc, ?_, by simp only [List.length_append]; omega, by simp only [List.length_append]; omega, ?_, below3 HB5 (by omega)⟩
            · refine (P5.set3 (g := w.heap.size + 1) (fun b hb => by rcases hb.1 with h | h <;> omega)).wide (fun b hb _ => ?_)
              rcases hb.1 with h | h
              · exact .inl h.1
              · exact .inr (by omega)
            · have hl1 : (acc ++ flat false n1).length = 1 := by have := HRP.out.len; have := o5.len; rw [nats_len] at this; simp only [List.length_append] at *; omega
              have hacc : acc = [] := List.eq_nil_of_length_eq_zero (by rw [List.length_append] at hl1; omega)
              have hf1 : flat false n1 = [n1] := HONE.out (by rw [List.length_append] at hl1; omega)
              rw [hacc, List.nil_append, hf1]
              show Rep _ n1 _
              have := HML.out
              rw [show ps.length + (ext ++ ext2).length - 1 = j by simp only [List.length_append] at *; omega]
              exact HREP.out
      · obtain ⟨hfl, hr3⟩ := ht2 hkind
        obtain ⟨pk1, pk1'⟩ := str_ne (show ¬ pw = [97, 110, 100] from hkind)
        clear ht1 ht2 hkind
        have hrp5 := Reps.app (Reps.more (ps ++ ext) ext2 _ _ HRP0.out) (by rw [List.append_assoc]; exact hr3)
        rw [List.append_assoc] at hrp5
        have HRP := Lib.hid hrp5
        have HJ5 : Hid (∀ j' ∈ ofs ++ [j], j' < j + 1) := Lib.hid (fun j' h => by
          rcases List.mem_append.1 h with h | h
          · have := HJS.out j' h; omega
          · simp only [List.mem_singleton] at h; omega)
        clear hrp5 hr3
        have r3 : Rd (w2.alloc (.cells #[.int .i64 (j : Int)] 3)) (w2.heap.size + 1) 1 (some ⟨w2.heap.size, 0, none⟩) 1 (nats [j]) := rd_new (cs := nats [j]) rfl rfl
        obtain ⟨n5, hn5⟩ : ∃ n5, no + 1 = n5 := ⟨_, rfl⟩
        obtain ⟨ofs5, hofs5⟩ : ∃ ofs5, ofs ++ [j] = ofs5 := ⟨_, rfl⟩
        rw [hofs5] at HRP HJ5
        have HN5 := Lib.hid hn5
        have HOFS := Lib.hid hofs5
        have hn51 : n5 ≤ no + 1 := by omega
        have hn52 : no + 1 ≤ n5 := by omega
        clear hn5 hofs5
        obtain ⟨⟨y, a3⟩, hy⟩ : ∃ z, hdW s.length ((wordsP s).drop k) = z := ⟨_, rfl⟩
        rw [hy] at hq
        dsimp only at hq
        have HY := Lib.hid hy
        clear hy
        by_cases hyb : y = byW false
        · rw [if_pos hyb] at hq
          have hyc : y = [97, 110, 100] := hyb
          clear hyb
          subst hyc
          have hkw := word_in (s := s) (i := k) (by rw [HY.out]; exact List.cons_ne_nil _ _)
          rw [tail_drop, List.drop_drop] at hq
          have HQ5 := Lib.hid hq
          clear hq
          go_wp2_with (at_builtin; (with_reducible refine wp_append El_of rfl (s := .tmp 58) (x := .tmp 60) rfl rfl (o2.alloc _) rfl r3 (nats_one _) (by unfold maxLen; omega) (by omega) (by simp; omega) ?_); intro A5 c5 w5 o5 hg5 hat5; have hz5 := hg5.size; simp only [World.size_alloc] at hz5 hat5; have b15 := (b12.alloc (.cells #[.int .i64 (j : Int)] 3)).grown hg5 (fun e => by have := (hAb _ e.symm).1; omega); have b25 := (b22.alloc (.cells #[.int .i64 (j : Int)] 3)).grown hg5 (fun e => by have := (hAb _ e.symm).1; omega); have HB5 := (HB2.alloc (by omega) (.cells #[.int .i64 (j : Int)] 3)).grown hg5 (by simp; omega) (fun k hk => by have := (hAb k hk).1; omega); have P5 : PsAt w5 (fun b => ((S b ∧ b < w.heap.size) ∨ w.heap.size + 1 + 1 ≤ b) ∧ blkOf A5 ≠ some b) (some ⟨bP, oP, none⟩) (j + 1) (ps ++ (ext ++ ext2)) := P2.keep (fun b h1 h2 => ⟨(hg5.block b (by simp; omega) (fun e => h1.2 e.symm)).trans (Below.heap_alloc _ _ b h2), h1.1, hat5.elim (fun e => by rw [e]; exact h1.2) (fun e => by rw [e]; intro e2; simp at e2; omega)⟩); have W5 := HW.out.below HB5; obtain ⟨y0, y1⟩ := W5.at_ k hkl; rw [HY.out] at y0 y1; dsimp only at y0 y1; obtain ⟨xx0, xx1, xx2, rr0, rr1, rr2, _⟩ := blk3 b15; rw [← nats_app, HOFS.out, HN5.out] at o5; rw [HN5.out])
          go_roundw
          case rel => exact ⟨f1, acc ++ flat false n1, k + 1, s2, A5, n5, c5, ofs5, some ⟨bP, oP, none⟩, j + 1, c2', ext ++ ext2, by omega, by go_num, rfl, HB5, b15, b25, by omega, o5, hmc, P5, HRP.out, hwf5, hsz5, hs100, by omega, by omega, by simp only [List.length_append]; omega, HJ5.out, HQ5.out⟩
          case measure => simp [intOf]; omega
        · rw [if_neg hyb] at hq
          subst hq
          obtain ⟨p1, p1'⟩ := str_ne (show ¬ y = [97, 110, 100] from hyb)
          clear hyb
          by_cases hlen1 : 1 < n5
          · have hlI : (1 : Int) < (n5 : Int) := by omega
            go_wp2_with (at_builtin; (with_reducible refine wp_append El_of rfl (s := .tmp 58) (x := .tmp 60) rfl rfl (o2.alloc _) rfl r3 (nats_one _) (by unfold maxLen; omega) (by omega) (by simp; omega) ?_); intro A5 c5 w5 o5 hg5 hat5; have hz5 := hg5.size; simp only [World.size_alloc] at hz5 hat5; have b15 := (b12.alloc (.cells #[.int .i64 (j : Int)] 3)).grown hg5 (fun e => by have := (hAb _ e.symm).1; omega); have b25 := (b22.alloc (.cells #[.int .i64 (j : Int)] 3)).grown hg5 (fun e => by have := (hAb _ e.symm).1; omega); have HB5 := (HB2.alloc (by omega) (.cells #[.int .i64 (j : Int)] 3)).grown hg5 (by simp; omega) (fun k hk => by have := (hAb k hk).1; omega); have P5 : PsAt w5 (fun b => ((S b ∧ b < w.heap.size) ∨ w.heap.size + 1 + 1 ≤ b) ∧ blkOf A5 ≠ some b) (some ⟨bP, oP, none⟩) (j + 1) (ps ++ (ext ++ ext2)) := P2.keep (fun b h1 h2 => ⟨(hg5.block b (by simp; omega) (fun e => h1.2 e.symm)).trans (Below.heap_alloc _ _ b h2), h1.1, hat5.elim (fun e => by rw [e]; exact h1.2) (fun e => by rw [e]; intro e2; simp at e2; omega)⟩); have W5 := HW.out.below HB5; obtain ⟨y0, y1⟩ := W5.at_ k hkl; rw [HY.out] at y0 y1; dsimp only at y0 y1; obtain ⟨xx0, xx1, xx2, rr0, rr1, rr2, _⟩ := blk3 b15; rw [← nats_app, HOFS.out, HN5.out] at o5; rw [HN5.out])
            have hof : OfAt w5 (fun b => ((S b ∧ b < w.heap.size) ∨ w.heap.size + 1 + 1 ≤ b)) (.slice A5 n5 c5) ofs5 :=
              ⟨_, _, _, rfl, o5.cap, o5.capm, RdS.of_own o5 (fun b h1 _ => .inr h1)⟩
            have C := add_any (some ⟨bP, oP, none⟩) (j + 1) c2' (ps ++ (ext ++ ext2)) s2 dp ⟨[97, 110, 100], 0, 0, [], ofs5⟩ (.slice A5 n5 c5) w5 _ (P5.wide (fun b h1 _ => h1.1)) (by omega) hmc hof
            clear hof
            refine C.mono ?_
            clear C
            rintro e w6 ⟨A6, c6, rfl, h1, h2, hps6, hb6⟩
            have b16 := b15.below hb6 b15.lt
            have b26 := b25.below hb6 b25.lt
            have HB6 := HB5.trans (hb6.mono HB5.size)
            have hz6 := hb6.size
            have HB7 := below3 (a' := .slice A6 (j + 1 + 1) c6) (b' := .int .i64 s2) (c' := .int .i64 dp) HB6 (Nat.le_refl _)
            have b17 := blk3_set (a' := .slice A6 (j + 1 + 1) c6) (b' := .int .i64 s2) (c' := .int .i64 dp) b16
            have b27 := blk3_far (a' := .slice A6 (j + 1 + 1) c6) (b' := .int .i64 s2) (c' := .int .i64 dp) b26 (show w.heap.size + 1 ≠ w.heap.size by omega)
            have hps7 := hps6.set3 (g := w.heap.size) (a := .slice A6 (j + 1 + 1) c6) (b := .int .i64 s2) (c := .int .i64 dp) (fun b hb => by rcases hb with (h | h) | h <;> omega)
            obtain ⟨x0, x1, x2, r0, r1, r2, _⟩ := blk3 b16
            obtain ⟨w7, hw7⟩ : ∃ w7, ((w6.setCell ⟨w.heap.size, 0, none⟩ (.slice A6 (j + 1 + 1) c6)).setCell ⟨w.heap.size, 1, none⟩ (.int .i64 s2)).setCell ⟨w.heap.size, 2, none⟩ (.int .i64 dp) = w7 := ⟨_, rfl⟩
            rw [hw7] at HB7 b17 b27 hps7
            obtain ⟨u0, u1, u2, _⟩ := blk3 b17
            obtain ⟨d0, d1, d2, g0, g1, g2, _⟩ := blk3 b27
            clear b16 b26 HB6 hps6
            go_wp2_with fail
            refine bodyPost_ret (WanW.results_rowB rfl _ _ (w.heap.size + 1) #[.slice A6 (j + 1 + 1) c6, .int .i64 s2, .int .i64 dp] _ rfl (blk3_set b27) Tryd.underlying29 rfl (by kernel_rfl)) rfl ?_
            refine ⟨A6, j + 1 + 1, c6, ext ++ ext2 ++ [⟨[97, 110, 100], 0, 0, [], ofs5⟩], k, rfl, rfl, by omega, hkl, h1, ?_, by simp only [List.length_append, List.length_singleton]; omega, by simp only [List.length_append, List.length_singleton]; omega, ?_, below3 HB7 (by omega)⟩
            · rw [List.append_assoc, List.append_assoc] at hps7
              rw [List.append_assoc]
              refine (hps7.set3 (g := w.heap.size + 1) (fun b hb => by rcases hb with (h | h) | h <;> omega)).wide (fun b hb _ => ?_)
              rcases hb with (h | h) | h
              · exact .inl h.1
              · exact .inr (by omega)
              · exact .inr (by omega)
            · rw [mk_many2 false _ (by have := HRP.out.len; have := o5.len; rw [nats_len] at this; omega)]
              refine ⟨ofs5, ?_, ?_, ?_⟩
              · have hml2 := HML.out
                rw [show ps.length + (ext ++ ext2 ++ [(⟨[97, 110, 100], 0, 0, [], ofs5⟩ : RP)]).length - 1 = (ps ++ (ext ++ ext2)).length by simp only [List.length_append, List.length_singleton]; omega, ← List.append_assoc, List.getElem?_append_right (Nat.le_refl _)]
                simp
                rfl
              · intro j' hj'
                have := HJ5.out j' hj'
                have := HML.out
                simp only [List.length_append, List.length_singleton] at this ⊢
                omega
              · rw [← List.append_assoc]
                exact Reps.more _ _ _ _ HRP.out
          · have hlI : ¬ (1 : Int) < (n5 : Int) := by omega
            go_wp2_with (at_builtin; (with_reducible refine wp_append El_of rfl (s := .tmp 58) (x := .tmp 60) rfl rfl (o2.alloc _) rfl r3 (nats_one _) (by unfold maxLen; omega) (by omega) (by simp; omega) ?_); intro A5 c5 w5 o5 hg5 hat5; have hz5 := hg5.size; simp only [World.size_alloc] at hz5 hat5; have b15 := (b12.alloc (.cells #[.int .i64 (j : Int)] 3)).grown hg5 (fun e => by have := (hAb _ e.symm).1; omega); have b25 := (b22.alloc (.cells #[.int .i64 (j : Int)] 3)).grown hg5 (fun e => by have := (hAb _ e.symm).1; omega); have HB5 := (HB2.alloc (by omega) (.cells #[.int .i64 (j : Int)] 3)).grown hg5 (by simp; omega) (fun k hk => by have := (hAb k hk).1; omega); have P5 : PsAt w5 (fun b => ((S b ∧ b < w.heap.size) ∨ w.heap.size + 1 + 1 ≤ b) ∧ blkOf A5 ≠ some b) (some ⟨bP, oP, none⟩) (j + 1) (ps ++ (ext ++ ext2)) := P2.keep (fun b h1 h2 => ⟨(hg5.block b (by simp; omega) (fun e => h1.2 e.symm)).trans (Below.heap_alloc _ _ b h2), h1.1, hat5.elim (fun e => by rw [e]; exact h1.2) (fun e => by rw [e]; intro e2; simp at e2; omega)⟩); have W5 := HW.out.below HB5; obtain ⟨y0, y1⟩ := W5.at_ k hkl; rw [HY.out] at y0 y1; dsimp only at y0 y1; obtain ⟨xx0, xx1, xx2, rr0, rr1, rr2, _⟩ := blk3 b15; rw [← nats_app, HOFS.out, HN5.out] at o5; rw [HN5.out]; obtain ⟨d0, d1, d2, g0, g1, g2, _⟩ := blk3 b25)
            refine bodyPost_ret (WanW.results_rowB rfl _ _ (w.heap.size + 1) #[.slice (some ⟨bP, oP, none⟩) (j + 1) c2', .int .i64 s2, .int .i64 dp] _ rfl (blk3_set b25) Tryd.underlying29 rfl (by kernel_rfl)) rfl ?_
            refine ⟨some ⟨bP, oP, none⟩, j + 1, c2', ext ++ ext2, k, rfl, rfl, by omega, hkl, hmc, ?_, by simp only [List.length_append]; omega, by simp only [List.length_append]; omega, ?_, below3 HB5 (by omega)⟩
            · refine (P5.set3 (g := w.heap.size + 1) (fun b hb => by rcases hb.1 with h | h <;> omega)).wide (fun b hb _ => ?_)
              rcases hb.1 with h | h
              · exact .inl h.1
              · exact .inr (by omega)
            · have hl1 : (acc ++ flat false n1).length = 1 := by have := HRP.out.len; have := o5.len; rw [nats_len] at this; simp only [List.length_append] at *; omega
              have hacc : acc = [] := List.eq_nil_of_length_eq_zero (by rw [List.length_append] at hl1; omega)
              have hf1 : flat false n1 = [n1] := HONE.out (by rw [List.length_append] at hl1; omega)
              rw [hacc, List.nil_append, hf1]
              show Rep _ n1 _
              have := HML.out
              rw [show ps.length + (ext ++ ext2).length - 1 = j by simp only [List.length_append] at *; omega]
              exact HREP.out
set_option maxRecDepth 100000 in
set_option maxHeartbeats 16000000 in
theorem refOr_any (s : List UInt8) (hs : s.length ≤ 1000) (f : Nat) (hP : ∀ f', f' < f → SRd s f' 1) : SRd s f (1 + 1) := by
  intro A n c ps sz dp i b o nw cw w S hw hp hc hn hi hsz hdp hno y0 hy0
  have hy1 : y0 = [111, 114] := hy0
  subst hy1
  clear hy0
  obtain ⟨Q, hQ⟩ : ∃ Q, pG s.length f (1 + 1) [] ((wordsP s).drop i) sz dp = Q := ⟨_, rfl⟩
  rw [hQ] at hno ⊢
  have HB := ((Below.refl w.heap.size w).alloc (Nat.le_refl _) (.cells #[.slice A n c, .int .i64 sz, .int .i64 dp] 29)).alloc (by simp) (.cells #[.slice none 0 0, .int .i64 0, .int .i64 0] 29)
  have b1 := (Blk.new w 29 #[.slice A n c, .int .i64 sz, .int .i64 dp]).alloc (.cells #[.slice none 0 0, .int .i64 0, .int .i64 0] 29)
  have b2 := Blk.new (w.alloc (.cells #[.slice A n c, .int .i64 sz, .int .i64 dp] 29)) 29 #[.slice none 0 0, .int .i64 0, .int .i64 0]
  simp only [World.size_alloc] at b2
  obtain ⟨w0, hw0⟩ : ∃ w0, (w.alloc (.cells #[.slice A n c, .int .i64 sz, .int .i64 dp] 29)).alloc (.cells #[.slice none 0 0, .int .i64 0, .int .i64 0] 29) = w0 := ⟨_, rfl⟩
  have hz0 : w.heap.size + 1 + 1 ≤ w0.heap.size := by rw [← hw0]; simp
  rw [hw0] at HB b1 b2
  have hbB : b < w.heap.size := hw.lt
  have hne : b ≠ w.heap.size := by omega
  have hne2 : w.heap.size ≠ b := by omega
  have hlen1 : nw ≤ (wordsP s).length + 1 := by have := hw.len; omega
  have hlen2 : (wordsP s).length + 1 ≤ nw := by have := hw.len; omega
  have hfew := hw.few
  have hps0 := (hp.below HB).wide (S' := fun b => ((S b ∧ b < w.heap.size) ∨ w.heap.size + 1 + 1 ≤ b) ∧ blkOf none ≠ some b) (fun b h1 _ => ⟨.inl h1, by simp [blkOf]⟩)
  have hnps1 : ps.length ≤ n := by have := hp.len; omega
  have hnps2 : n ≤ ps.length := by have := hp.len; omega
  have HW := Lib.hid hw
  have HP := Lib.hid hP
  have HQ := Lib.hid hQ
  clear hw hp hP hQ
  go_enter Tryd.func22, Tryd.ntmps22
  go_wp2_with fail
  go_loopw [2, 11] (fun iv ov wr => ∃ (f' : Nat) (acc : List Nd) (i' sz' : Nat) (Ao : Option Addr) (no co : Nat) (ofs : List Nat) (At : Option Addr) (nt ct : Nat) (ext : List RP), f' ≤ f ∧ iv = .int .i64 (i' : Nat) ∧ ov = .slice Ao no co ∧ Below w.heap.size w wr ∧
    Blk wr w.heap.size 29 #[.slice At nt ct, .int .i64 sz', .int .i64 dp] ∧ Blk wr (w.heap.size + 1) 29 #[.slice none 0 0, .int .i64 0, .int .i64 0] ∧ w.heap.size + 1 + 1 ≤ wr.heap.size ∧ Own wr (w.heap.size + 1 + 1) 3 1 Ao no co (nats ofs) ∧ nt ≤ ct ∧
    PsAt wr (fun b => ((S b ∧ b < w.heap.size) ∨ w.heap.size + 1 + 1 ≤ b) ∧ blkOf Ao ≠ some b) At nt (ps ++ ext) ∧ Reps (ps ++ ext) acc ofs ∧ wfL true acc ∧ szL acc ≤ sz' ∧ sz' ≤ 100 ∧ i ≤ i' ∧ i' ≤ (wordsP s).length ∧ ext.length ≤ 4 * (i' - i) ∧ (∀ j ∈ ofs, j < nt) ∧
    pG s.length f' (1 + 1) acc ((wordsP s).drop i') sz' dp = Q) (fun iv _ _ => (wordsP s).length - (intOf iv).toNat)
  case atStart => exact ⟨f, [], i, sz, none, 0, 0, [], A, n, c, [], Nat.le_refl _, rfl, rfl, HB, b1, b2, hz0, Own.nil _ _ _ _, hc, by rw [List.append_nil]; exact hps0, rfl, trivial, by simp [szL], hsz, Nat.le_refl _, hi, by simp, by simp, HQ.out⟩
  case round =>
    obtain ⟨f', acc, i', sz', Ao, no, co, ofs, At, nt, ct, ext, hf', rfl, rfl, HBr, b1r, b2r, hzr, oW, hct, P0, hrp, hwf, hszl, hs1, hii', hiw, hext, hjs, hq⟩ := hrel
    cases f' with
    | zero => rw [pG] at hq; exact absurd hq.symm hno
    | succ f1 =>
    rw [pG] at hq
    obtain ⟨R, hR⟩ : ∃ R, pG s.length f1 1 [] ((wordsP s).drop i') sz' dp = R := ⟨_, rfl⟩
    have hRn : R ≠ .out := by intro e; rw [hR, e] at hq; exact hno hq.symm
    have W0 := HW.out.below HBr
    have hpl := P0.len
    rw [List.length_append] at hpl
    have C := HP.out f1 (by omega) At nt ct (ps ++ ext) sz' dp i' b o nw cw wr _ W0 P0 hct (by omega) hiw hs1 hdp (by rw [hR]; exact hRn) [97, 110, 100] rfl
    rw [hR] at C hq
    have HR := Lib.hid hR
    have HRP0 := Lib.hid hrp
    have HJS := Lib.hid hjs
    obtain ⟨c0, c1, c2, f0, f1', f2, _⟩ := blk3 b1r
    clear hR hrp hjs b1 b2 HB hw0 hz0 hps0
    cases R with
    | out => exact absurd rfl hRn
    | err er at_ =>
      dsimp only at hq
      subst hq
      go_wp2_with fail
      refine C.mono ?_
      clear C
      rintro e w1 ⟨A9, m9, c9, y', z', k, rfl, hk, ha, her, hb1⟩
      have b11 := b1r.below hb1 b1r.lt
      have b21 := b2r.below hb1 b2r.lt
      have HB1 := HBr.trans (hb1.mono HBr.size)
      have HB2 := below3 (a' := .slice A9 m9 c9) (b' := .int .i64 y') (c' := .int .i64 z') HB1 (Nat.le_refl _)
      have b12 := blk3_set (a' := .slice A9 m9 c9) (b' := .int .i64 y') (c' := .int .i64 z') b11
      have b22 := blk3_far (a' := .slice A9 m9 c9) (b' := .int .i64 y') (c' := .int .i64 z') b21 (show w.heap.size + 1 ≠ w.heap.size by omega)
      obtain ⟨x0, x1, x2, r0, r1, r2, _⟩ := blk3 b11
      obtain ⟨w2, hw2⟩ : ∃ w2, ((w1.setCell ⟨w.heap.size, 0, none⟩ (.slice A9 m9 c9)).setCell ⟨w.heap.size, 1, none⟩ (.int .i64 y')).setCell ⟨w.heap.size, 2, none⟩ (.int .i64 z') = w2 := ⟨_, rfl⟩
      rw [hw2] at HB2 b12 b22
      obtain ⟨u0, u1, u2, _⟩ := blk3 b12
      obtain ⟨d0, d1, d2, g0, g1, g2, _⟩ := blk3 b22
      have heb : (er != 0) = true := by rcases her with rfl | rfl <;> decide
      clear b11 b21 HB1 hb1 c0 c1 c2 f0 f1' f2 W0 P0 oW b1r b2r
      go_wp2_with fail
      refine bodyPost_ret (WanW.results_rowB rfl _ _ (w.heap.size + 1) #[.slice A9 m9 c9, .int .i64 y', .int .i64 z'] _ rfl (blk3_set b22) Tryd.underlying29 rfl (by kernel_rfl)) rfl ?_
      exact ⟨_, _, _, _, _, k, rfl, hk, ha, her, below3 HB2 (by omega)⟩
    | ok n1 l2 s2 d2 =>
      obtain ⟨_, _, _, _, hd2, hs12, hs12'⟩ := pG_left _ _ _ _ _ _ _ _ _ _ _ HR.out
      have hd3 := hd2.symm
      subst hd3
      clear hd2
      obtain ⟨w1', w2', w3'⟩ := pG_wf _ _ 1 [] _ _ _ _ _ _ _ (by omega) hdp (few_drop s hs i') (fun _ => rfl) trivial (by simp) HR.out
      simp only [szL, Nat.add_zero] at w3'
      have hwf5 : wfL true (acc ++ flat true n1) := (wfL_app _ _ _).2 ⟨hwf, wfL_flat _ _ w1'⟩
      have hsz5 : szL (acc ++ flat true n1) ≤ s2 := by rw [szL_app, szL_flat]; omega
      have hs100 : s2 ≤ 100 := hs12' hs1
      have hpos := flat_pos true n1 w1'
      have HONE : Hid ((flat true n1).length ≤ 1 → flat true n1 = [n1]) := Lib.hid (fun h => by
        by_cases hn : notRow true n1
        · exact flat_not true n1 hn
        · cases n1 with
          | row o2 l =>
            have e : o2 = true := by cases o2 <;> simp_all [notRow]
            subst e
            rw [flat_row2] at h
            have := w1'.1
            omega
          | _ => exact absurd trivial hn)
      dsimp only at hq
      rw [show decide (1 = 1) = true from rfl] at hq
      have hno5 : no ≤ 100 := by
        have e1 := oW.len
        have e2 := HRP0.out.len
        have e3 := len_sz true _ hwf
        rw [nats_len] at e1
        omega
      have hacc5 := len_sz true _ hwf5
      clear w1' w2' w3' hwf hszl HR
      go_wp2_with fail
      refine C.mono ?_
      clear C
      rintro e w1 ⟨A2, m2, c2', ext2, k, rfl, rfl, hik, hkl, hmc, hps1, hx1, hxk, hrep, hb1⟩
      have hml := hps1.len
      simp only [List.length_append] at hml
      obtain ⟨j, rfl⟩ : ∃ j, m2 = j + 1 := ⟨m2 - 1, by omega⟩
      have hj1 : IntKind.i64.wrap ((j : Int) + 1 - 1) = (j : Int) := by rw [Int.add_sub_cancel]; exact w64k (by omega) (by omega)
      have hj2 : IntKind.i64.wrap (j : Int) = (j : Int) := w64k (by omega) (by omega)
      have hjI : (j : Int) < (j : Int) + 1 := by omega
      have hj0 : (0 : Int) ≤ (j : Int) := by omega
      have hk1 : IntKind.i64.wrap ((k : Int) + 1) = (k : Int) + 1 := w64k (by omega) (by omega)
      have hkI : (k : Int) < (nw : Int) := by omega
      have hk0 : (0 : Int) ≤ (k : Int) := by omega
      have hz1 := hb1.size
      have HML : Hid (ps.length + (ext ++ ext2).length = j + 1) := Lib.hid (by rw [List.length_append]; omega)
      rw [show (ps ++ ext).length + ext2.length - 1 = j by rw [List.length_append]; omega] at hrep
      rw [List.append_assoc] at hps1 hrep
      have HREP := Lib.hid hrep
      have hAb := oW.blk
      have b11 := b1r.below hb1 b1r.lt
      have b21 := b2r.below hb1 b2r.lt
      have HB1 := HBr.trans (hb1.mono HBr.size)
      have o1 := oW.below hb1
      have W1 := W0.below hb1
      have hAo := own_ne_of oW (show w.heap.size < w.heap.size + 1 + 1 by omega)
      have HB2 := below3 (a' := .slice A2 (j + 1) c2') (b' := .int .i64 s2) (c' := .int .i64 dp) HB1 (Nat.le_refl _)
      have b12 := blk3_set (a' := .slice A2 (j + 1) c2') (b' := .int .i64 s2) (c' := .int .i64 dp) b11
      have b22 := blk3_far (a' := .slice A2 (j + 1) c2') (b' := .int .i64 s2) (c' := .int .i64 dp) b21 (show w.heap.size + 1 ≠ w.heap.size by omega)
      have o2 := own_far3 (g := w.heap.size) (a := .slice A2 (j + 1) c2') (b := .int .i64 s2) (d := .int .i64 dp) o1 (by omega)
      have P2 := (hps1.set3 (g := w.heap.size) (a := .slice A2 (j + 1) c2') (b := .int .i64 s2) (c := .int .i64 dp) (fun b hb => hb.elim (fun h => by rcases h.1 with h | h <;> omega) (fun h => by omega))).wide (S' := fun b => ((S b ∧ b < w.heap.size) ∨ w.heap.size + 1 + 1 ≤ b) ∧ blkOf Ao ≠ some b)
        (fun b hb _ => hb.elim id (fun h => ⟨.inr (by omega), fun e => by have := (hAb b e).2; omega⟩))
      obtain ⟨x0, x1, x2, r0, r1, r2, _⟩ := blk3 b11
      obtain ⟨w2, hw2⟩ : ∃ w2, ((w1.setCell ⟨w.heap.size, 0, none⟩ (.slice A2 (j + 1) c2')).setCell ⟨w.heap.size, 1, none⟩ (.int .i64 s2)).setCell ⟨w.heap.size, 2, none⟩ (.int .i64 dp) = w2 := ⟨_, rfl⟩
      have hz2 : w1.heap.size ≤ w2.heap.size := by rw [← hw2]; simp
      have W2 : Wds s w2 b o nw := HW.out.below (by rw [← hw2]; exact below3 HB1 (Nat.le_refl _))
      rw [hw2] at HB2 b12 b22 o2 P2
      obtain ⟨u0, u1, u2, _⟩ := blk3 b12
      clear b11 b21 HB1 hb1 c0 c1 c2 f0 f1' f2 W0 P0 oW b1r b2r o1 W1 hps1
      obtain ⟨p, hp⟩ := hrep.get
      obtain ⟨bP, oP, v, rfl, hSP, hbP, q0, q1, q2, q3, q4, hof⟩ := P2.at_ hp
      obtain ⟨ht1, ht2⟩ := rep_takes hrep true hp
      obtain ⟨pw, hpw⟩ : ∃ pw, p.word = pw := ⟨_, rfl⟩
      rw [hpw] at ht1 ht2 q0
      have hbPn : bP ≠ w.heap.size := by rcases hSP.1 with h | h <;> omega
      have hbPn2 : w.heap.size ≠ bP := by omega
      clear hp hrep hpw q1 q2 q3
      by_cases hkind : pw = byW true
      · obtain ⟨⟨l3, hl3⟩, hr3, hj3⟩ := ht1 hkind
        have hkind2 : pw = [111, 114] := hkind
        clear ht1 ht2 hkind
        subst hkind2
        obtain ⟨A3, n3, c3, rfl, hnc3, hcm3, rd3⟩ := hof
        obtain ⟨js, hjs⟩ : ∃ js, p.of_ = js := ⟨_, rfl⟩
        rw [hjs] at hr3 hj3 rd3
        have hrp5 := Reps.app (Reps.more (ps ++ ext) ext2 _ _ HRP0.out) (by rw [List.append_assoc]; exact hr3)
        rw [List.append_assoc] at hrp5
        have hnl3 : js.length = n3 := by have := rd3.1; rw [nats_len] at this; omega
        have hn35 : n3 ≤ 100 := by have := hr3.len; rw [List.length_append] at hacc5; omega
        have HRP := Lib.hid hrp5
        have HJ5 : Hid (∀ j' ∈ ofs ++ js, j' < j + 1) := Lib.hid (fun j' h => by
          rcases List.mem_append.1 h with h | h
          · have := HJS.out j' h; omega
          · have := hj3 j' h; omega)
        have r3 := rd3.rd
        clear hrp5 hr3 hj3 rd3 hjs hnl3
        obtain ⟨n5, hn5⟩ : ∃ n5, no + n3 = n5 := ⟨_, rfl⟩
        obtain ⟨ofs5, hofs5⟩ : ∃ ofs5, ofs ++ js = ofs5 := ⟨_, rfl⟩
        rw [hofs5] at HRP HJ5
        have HN5 := Lib.hid hn5
        have HOFS := Lib.hid hofs5
        have hn51 : n5 ≤ no + n3 := by omega
        have hn52 : no + n3 ≤ n5 := by omega
        clear hn5 hofs5
        obtain ⟨⟨y, a3⟩, hy⟩ : ∃ z, hdW s.length ((wordsP s).drop k) = z := ⟨_, rfl⟩
        rw [hy] at hq
        dsimp only at hq
        have HY := Lib.hid hy
        clear hy
        by_cases hyb : y = byW true
        · rw [if_pos hyb] at hq
          have hyc : y = [111, 114] := hyb
          clear hyb
          subst hyc
          have hkw := word_in (s := s) (i := k) (by rw [HY.out]; exact List.cons_ne_nil _ _)
          rw [tail_drop, List.drop_drop] at hq
          have HQ5 := Lib.hid hq
          clear hq
          go_wp2_with (at_builtin; (with_reducible refine wp_append El_of rfl (s := .tmp 50) (x := .tmp 56) rfl rfl o2 rfl r3 (nats_one _) (by unfold maxLen; omega) (by omega) (by omega) ?_); intro A5 c5 w5 o5 hg5 hat5; have hz5 := hg5.size; have b15 := b12.grown hg5 (fun e => by have := (hAb _ e.symm).1; omega); have b25 := b22.grown hg5 (fun e => by have := (hAb _ e.symm).1; omega); have HB5 := HB2.grown hg5 (by omega) (fun k hk => by have := (hAb k hk).1; omega); have P5 : PsAt w5 (fun b => ((S b ∧ b < w.heap.size) ∨ w.heap.size + 1 + 1 ≤ b) ∧ blkOf A5 ≠ some b) (some ⟨bP, oP, none⟩) (j + 1) (ps ++ (ext ++ ext2)) := P2.keep (fun b h1 h2 => ⟨hg5.block b h2 (fun e => h1.2 e.symm), h1.1, hat5.elim (fun e => by rw [e]; exact h1.2) (fun e => by rw [e]; intro e2; simp at e2; omega)⟩); have W5 := HW.out.below HB5; obtain ⟨y0, y1⟩ := W5.at_ k hkl; rw [HY.out] at y0 y1; dsimp only at y0 y1; obtain ⟨xx0, xx1, xx2, rr0, rr1, rr2, _⟩ := blk3 b15; rw [← nats_app, HOFS.out, HN5.out] at o5; rw [HN5.out])
          go_roundw
          case rel => exact ⟨f1, acc ++ flat true n1, k + 1, s2, A5, n5, c5, ofs5, some ⟨bP, oP, none⟩, j + 1, c2', ext ++ ext2, by omega, by go_num, rfl, HB5, b15, b25, by omega, o5, hmc, P5, HRP.out, hwf5, hsz5, hs100, by omega, by omega, by simp only [List.length_append]; omega, HJ5.out, HQ5.out⟩
          case measure => simp [intOf]; omega
        · rw [if_neg hyb] at hq
          subst hq
          obtain ⟨p1, p1'⟩ := str_ne (show ¬ y = [111, 114] from hyb)
          clear hyb
          by_cases hlen1 : 1 < n5
          · have hlI : (1 : Int) < (n5 : Int) := by omega
            go_wp2_with (at_builtin; (with_reducible refine wp_append El_of rfl (s := .tmp 50) (x := .tmp 56) rfl rfl o2 rfl r3 (nats_one _) (by unfold maxLen; omega) (by omega) (by omega) ?_); intro A5 c5 w5 o5 hg5 hat5; have hz5 := hg5.size; have b15 := b12.grown hg5 (fun e => by have := (hAb _ e.symm).1; omega); have b25 := b22.grown hg5 (fun e => by have := (hAb _ e.symm).1; omega); have HB5 := HB2.grown hg5 (by omega) (fun k hk => by have := (hAb k hk).1; omega); have P5 : PsAt w5 (fun b => ((S b ∧ b < w.heap.size) ∨ w.heap.size + 1 + 1 ≤ b) ∧ blkOf A5 ≠ some b) (some ⟨bP, oP, none⟩) (j + 1) (ps ++ (ext ++ ext2)) := P2.keep (fun b h1 h2 => ⟨hg5.block b h2 (fun e => h1.2 e.symm), h1.1, hat5.elim (fun e => by rw [e]; exact h1.2) (fun e => by rw [e]; intro e2; simp at e2; omega)⟩); have W5 := HW.out.below HB5; obtain ⟨y0, y1⟩ := W5.at_ k hkl; rw [HY.out] at y0 y1; dsimp only at y0 y1; obtain ⟨xx0, xx1, xx2, rr0, rr1, rr2, _⟩ := blk3 b15; rw [← nats_app, HOFS.out, HN5.out] at o5; rw [HN5.out])
            have hof : OfAt w5 (fun b => ((S b ∧ b < w.heap.size) ∨ w.heap.size + 1 + 1 ≤ b)) (.slice A5 n5 c5) ofs5 :=
              ⟨_, _, _, rfl, o5.cap, o5.capm, RdS.of_own o5 (fun b h1 _ => .inr h1)⟩
            have C := add_any (some ⟨bP, oP, none⟩) (j + 1) c2' (ps ++ (ext ++ ext2)) s2 dp ⟨[111, 114], 0, 0, [], ofs5⟩ (.slice A5 n5 c5) w5 _ (P5.wide (fun b h1 _ => h1.1)) (by omega) hmc hof
            clear hof
            refine C.mono ?_
            clear C
            rintro e w6 ⟨A6, c6, rfl, h1, h2, hps6, hb6⟩
            have b16 := b15.below hb6 b15.lt
            have b26 := b25.below hb6 b25.lt
            have HB6 := HB5.trans (hb6.mono HB5.size)
            have hz6 := hb6.size
            have HB7 := below3 (a' := .slice A6 (j + 1 + 1) c6) (b' := .int .i64 s2) (c' := .int .i64 dp) HB6 (Nat.le_refl _)
            have b17 := blk3_set (a' := .slice A6 (j + 1 + 1) c6) (b' := .int .i64 s2) (c' := .int .i64 dp) b16
            have b27 := blk3_far (a' := .slice A6 (j + 1 + 1) c6) (b' := .int .i64 s2) (c' := .int .i64 dp) b26 (show w.heap.size + 1 ≠ w.heap.size by omega)
            have hps7 := hps6.set3 (g := w.heap.size) (a := .slice A6 (j + 1 + 1) c6) (b := .int .i64 s2) (c := .int .i64 dp) (fun b hb => by rcases hb with (h | h) | h <;> omega)
            obtain ⟨x0, x1, x2, r0, r1, r2, _⟩ := blk3 b16
            obtain ⟨w7, hw7⟩ : ∃ w7, ((w6.setCell ⟨w.heap.size, 0, none⟩ (.slice A6 (j + 1 + 1) c6)).setCell ⟨w.heap.size, 1, none⟩ (.int .i64 s2)).setCell ⟨w.heap.size, 2, none⟩ (.int .i64 dp) = w7 := ⟨_, rfl⟩
            rw [hw7] at HB7 b17 b27 hps7
            obtain ⟨u0, u1, u2, _⟩ := blk3 b17
            obtain ⟨d0, d1, d2, g0, g1, g2, _⟩ := blk3 b27
            clear b16 b26 HB6 hps6
            go_wp2_with fail
            refine bodyPost_ret (WanW.results_rowB rfl _ _ (w.heap.size + 1) #[.slice A6 (j + 1 + 1) c6, .int .i64 s2, .int .i64 dp] _ rfl (blk3_set b27) Tryd.underlying29 rfl (by kernel_rfl)) rfl ?_
            refine ⟨A6, j + 1 + 1, c6, ext ++ ext2 ++ [⟨[111, 114], 0, 0, [], ofs5⟩], k, rfl, rfl, by omega, hkl, h1, ?_, by simp only [List.length_append, List.length_singleton]; omega, by simp only [List.length_append, List.length_singleton]; omega, ?_, below3 HB7 (by omega)⟩
            · rw [List.append_assoc, List.append_assoc] at hps7
              rw [List.append_assoc]
              refine (hps7.set3 (g := w.heap.size + 1) (fun b hb => by rcases hb with (h | h) | h <;> omega)).wide (fun b hb _ => ?_)
              rcases hb with (h | h) | h
              · exact .inl h.1
              · exact .inr (by omega)
              · exact .inr (by omega)
            · rw [mk_many2 true _ (by have := HRP.out.len; have := o5.len; rw [nats_len] at this; omega)]
              refine ⟨ofs5, ?_, ?_, ?_⟩
              · have hml2 := HML.out
                rw [show ps.length + (ext ++ ext2 ++ [(⟨[111, 114], 0, 0, [], ofs5⟩ : RP)]).length - 1 = (ps ++ (ext ++ ext2)).length by simp only [List.length_append, List.length_singleton]; omega, ← List.append_assoc, List.getElem?_append_right (Nat.le_refl _)]
                simp
                rfl
              · intro j' hj'
                have := HJ5.out j' hj'
                have := HML.out
                simp only [List.length_append, List.length_singleton] at this ⊢
                omega
              · rw [← List.append_assoc]
                exact Reps.more _ _ _ _ HRP.out
          · have hlI : ¬ (1 : Int) < (n5 : Int) := by omega
            go_wp2_with (at_builtin; (with_reducible refine wp_append El_of rfl (s := .tmp 50) (x := .tmp 56) rfl rfl o2 rfl r3 (nats_one _) (by unfold maxLen; omega) (by omega) (by omega) ?_); intro A5 c5 w5 o5 hg5 hat5; have hz5 := hg5.size; have b15 := b12.grown hg5 (fun e => by have := (hAb _ e.symm).1; omega); have b25 := b22.grown hg5 (fun e => by have := (hAb _ e.symm).1; omega); have HB5 := HB2.grown hg5 (by omega) (fun k hk => by have := (hAb k hk).1; omega); have P5 : PsAt w5 (fun b => ((S b ∧ b < w.heap.size) ∨ w.heap.size + 1 + 1 ≤ b) ∧ blkOf A5 ≠ some b) (some ⟨bP, oP, none⟩) (j + 1) (ps ++ (ext ++ ext2)) := P2.keep (fun b h1 h2 => ⟨hg5.block b h2 (fun e => h1.2 e.symm), h1.1, hat5.elim (fun e => by rw [e]; exact h1.2) (fun e => by rw [e]; intro e2; simp at e2; omega)⟩); have W5 := HW.out.below HB5; obtain ⟨y0, y1⟩ := W5.at_ k hkl; rw [HY.out] at y0 y1; dsimp only at y0 y1; obtain ⟨xx0, xx1, xx2, rr0, rr1, rr2, _⟩ := blk3 b15; rw [← nats_app, HOFS.out, HN5.out] at o5; rw [HN5.out]; obtain ⟨d0, d1, d2, g0, g1, g2, _⟩ := blk3 b25)
            refine bodyPost_ret (WanW.results_rowB rfl _ _ (w.heap.size + 1) #[.slice (some ⟨bP, oP, none⟩) (j + 1) c2', .int .i64 s2, .int .i64 dp] _ rfl (blk3_set b25) Tryd.underlying29 rfl (by kernel_rfl)) rfl ?_
            refine ⟨some ⟨bP, oP, none⟩, j + 1, c2', ext ++ ext2, k, rfl, rfl, by omega, hkl, hmc, ?_, by simp only [List.length_append]; omega, by simp only [List.length_append]; omega, ?_, below3 HB5 (by omega)⟩
            · refine (P5.set3 (g := w.heap.size + 1) (fun b hb => by rcases hb.1 with h | h <;> omega)).wide (fun b hb _ => ?_)
              rcases hb.1 with h | h
              · exact .inl h.1
              · exact .inr (by omega)
            · have hl1 : (acc ++ flat true n1).length = 1 := by have := HRP.out.len; have := o5.len; rw [nats_len] at this; simp only [List.length_append] at *; omega
              have hacc : acc = [] := List.eq_nil_of_length_eq_zero (by rw [List.length_append] at hl1; omega)
              have hf1 : flat true n1 = [n1] := HONE.out (by rw [List.length_append] at hl1; omega)
              rw [hacc, List.nil_append, hf1]
              show Rep _ n1 _
              have := HML.out
              rw [show ps.length + (ext ++ ext2).length - 1 = j by simp only [List.length_append] at *; omega]
              exact HREP.out
      · obtain ⟨hfl, hr3⟩ := ht2 hkind
        obtain ⟨pk1, pk1'⟩ := str_ne (show ¬ pw = [111, 114] from hkind)
        clear ht1 ht2 hkind
        have hrp5 := Reps.app (Reps.more (ps ++ ext) ext2 _ _ HRP0.out) (by rw [List.append_assoc]; exact hr3)
        rw [List.append_assoc] at hrp5
        have HRP := Lib.hid hrp5
        have HJ5 : Hid (∀ j' ∈ ofs ++ [j], j' < j + 1) := Lib.hid (fun j' h => by
          rcases List.mem_append.1 h with h | h
          · have := HJS.out j' h; omega
          · simp only [List.mem_singleton] at h; omega)
        clear hrp5 hr3
        have r3 : Rd (w2.alloc (.cells #[.int .i64 (j : Int)] 3)) (w2.heap.size + 1) 1 (some ⟨w2.heap.size, 0, none⟩) 1 (nats [j]) := rd_new (cs := nats [j]) rfl rfl
        obtain ⟨n5, hn5⟩ : ∃ n5, no + 1 = n5 := ⟨_, rfl⟩
        obtain ⟨ofs5, hofs5⟩ : ∃ ofs5, ofs ++ [j] = ofs5 := ⟨_, rfl⟩
        rw [hofs5] at HRP HJ5
        have HN5 := Lib.hid hn5
        have HOFS := Lib.hid hofs5
        have hn51 : n5 ≤ no + 1 := by omega
        have hn52 : no + 1 ≤ n5 := by omega
        clear hn5 hofs5
        obtain ⟨⟨y, a3⟩, hy⟩ : ∃ z, hdW s.length ((wordsP s).drop k) = z := ⟨_, rfl⟩
        rw [hy] at hq
        dsimp only at hq
        have HY := Lib.hid hy
        clear hy
        by_cases hyb : y = byW true
        · rw [if_pos hyb] at hq
          have hyc : y = [111, 114] := hyb
          clear hyb
          subst hyc
          have hkw := word_in (s := s) (i := k) (by rw [HY.out]; exact List.cons_ne_nil _ _)
          rw [tail_drop, List.drop_drop] at hq
          have HQ5 := Lib.hid hq
          clear hq
          go_wp2_with (at_builtin; (with_reducible refine wp_append El_of rfl (s := .tmp 58) (x := .tmp 60) rfl rfl (o2.alloc _) rfl r3 (nats_one _) (by unfold maxLen; omega) (by omega) (by simp; omega) ?_); intro A5 c5 w5 o5 hg5 hat5; have hz5 := hg5.size; simp only [World.size_alloc] at hz5 hat5; have b15 := (b12.alloc (.cells #[.int .i64 (j : Int)] 3)).grown hg5 (fun e => by have := (hAb _ e.symm).1; omega); have b25 := (b22.alloc (.cells #[.int .i64 (j : Int)] 3)).grown hg5 (fun e => by have := (hAb _ e.symm).1; omega); have HB5 := (HB2.alloc (by omega) (.cells #[.int .i64 (j : Int)] 3)).grown hg5 (by simp; omega) (fun k hk => by have := (hAb k hk).1; omega); have P5 : PsAt w5 (fun b => ((S b ∧ b < w.heap.size) ∨ w.heap.size + 1 + 1 ≤ b) ∧ blkOf A5 ≠ some b) (some ⟨bP, oP, none⟩) (j + 1) (ps ++ (ext ++ ext2)) := P2.keep (fun b h1 h2 => ⟨(hg5.block b (by simp; omega) (fun e => h1.2 e.symm)).trans (Below.heap_alloc _ _ b h2), h1.1, hat5.elim (fun e => by rw [e]; exact h1.2) (fun e => by rw [e]; intro e2; simp at e2; omega)⟩); have W5 := HW.out.below HB5; obtain ⟨y0, y1⟩ := W5.at_ k hkl; rw [HY.out] at y0 y1; dsimp only at y0 y1; obtain ⟨xx0, xx1, xx2, rr0, rr1, rr2, _⟩ := blk3 b15; rw [← nats_app, HOFS.out, HN5.out] at o5; rw [HN5.out])
          go_roundw
          case rel => exact ⟨f1, acc ++ flat true n1, k + 1, s2, A5, n5, c5, ofs5, some ⟨bP, oP, none⟩, j + 1, c2', ext ++ ext2, by omega, by go_num, rfl, HB5, b15, b25, by omega, o5, hmc, P5, HRP.out, hwf5, hsz5, hs100, by omega, by omega, by simp only [List.length_append]; omega, HJ5.out, HQ5.out⟩
          case measure => simp [intOf]; omega
        · rw [if_neg hyb] at hq
          subst hq
          obtain ⟨p1, p1'⟩ := str_ne (show ¬ y = [111, 114] from hyb)
          clear hyb
          by_cases hlen1 : 1 < n5
          · have hlI : (1 : Int) < (n5 : Int) := by omega
            go_wp2_with (at_builtin; (with_reducible refine wp_append El_of rfl (s := .tmp 58) (x := .tmp 60) rfl rfl (o2.alloc _) rfl r3 (nats_one _) (by unfold maxLen; omega) (by omega) (by simp; omega) ?_); intro A5 c5 w5 o5 hg5 hat5; have hz5 := hg5.size; simp only [World.size_alloc] at hz5 hat5; have b15 := (b12.alloc (.cells #[.int .i64 (j : Int)] 3)).grown hg5 (fun e => by have := (hAb _ e.symm).1; omega); have b25 := (b22.alloc (.cells #[.int .i64 (j : Int)] 3)).grown hg5 (fun e => by have := (hAb _ e.symm).1; omega); have HB5 := (HB2.alloc (by omega) (.cells #[.int .i64 (j : Int)] 3)).grown hg5 (by simp; omega) (fun k hk => by have := (hAb k hk).1; omega); have P5 : PsAt w5 (fun b => ((S b ∧ b < w.heap.size) ∨ w.heap.size + 1 + 1 ≤ b) ∧ blkOf A5 ≠ some b) (some ⟨bP, oP, none⟩) (j + 1) (ps ++ (ext ++ ext2)) := P2.keep (fun b h1 h2 => ⟨(hg5.block b (by simp; omega) (fun e => h1.2 e.symm)).trans (Below.heap_alloc _ _ b h2), h1.1, hat5.elim (fun e => by rw [e]; exact h1.2) (fun e => by rw [e]; intro e2; simp at e2; omega)⟩); have W5 := HW.out.below HB5; obtain ⟨y0, y1⟩ := W5.at_ k hkl; rw [HY.out] at y0 y1; dsimp only at y0 y1; obtain ⟨xx0, xx1, xx2, rr0, rr1, rr2, _⟩ := blk3 b15; rw [← nats_app, HOFS.out, HN5.out] at o5; rw [HN5.out])
            have hof : OfAt w5 (fun b => ((S b ∧ b < w.heap.size) ∨ w.heap.size + 1 + 1 ≤ b)) (.slice A5 n5 c5) ofs5 :=
              ⟨_, _, _, rfl, o5.cap, o5.capm, RdS.of_own o5 (fun b h1 _ => .inr h1)⟩
            have C := add_any (some ⟨bP, oP, none⟩) (j + 1) c2' (ps ++ (ext ++ ext2)) s2 dp ⟨[111, 114], 0, 0, [], ofs5⟩ (.slice A5 n5 c5) w5 _ (P5.wide (fun b h1 _ => h1.1)) (by omega) hmc hof
            clear hof
            refine C.mono ?_
            clear C
            rintro e w6 ⟨A6, c6, rfl, h1, h2, hps6, hb6⟩
            have b16 := b15.below hb6 b15.lt
            have b26 := b25.below hb6 b25.lt
            have HB6 := HB5.trans (hb6.mono HB5.size)
            have hz6 := hb6.size
            have HB7 := below3 (a' := .slice A6 (j + 1 + 1) c6) (b' := .int .i64 s2) (c' := .int .i64 dp) HB6 (Nat.le_refl _)
            have b17 := blk3_set (a' := .slice A6 (j + 1 + 1) c6) (b' := .int .i64 s2) (c' := .int .i64 dp) b16
            have b27 := blk3_far (a' := .slice A6 (j + 1 + 1) c6) (b' := .int .i64 s2) (c' := .int .i64 dp) b26 (show w.heap.size + 1 ≠ w.heap.size by omega)
            have hps7 := hps6.set3 (g := w.heap.size) (a := .slice A6 (j + 1 + 1) c6) (b := .int .i64 s2) (c := .int .i64 dp) (fun b hb => by rcases hb with (h | h) | h <;> omega)
            obtain ⟨x0, x1, x2, r0, r1, r2, _⟩ := blk3 b16
            obtain ⟨w7, hw7⟩ : ∃ w7, ((w6.setCell ⟨w.heap.size, 0, none⟩ (.slice A6 (j + 1 + 1) c6)).setCell ⟨w.heap.size, 1, none⟩ (.int .i64 s2)).setCell ⟨w.heap.size, 2, none⟩ (.int .i64 dp) = w7 := ⟨_, rfl⟩
            rw [hw7] at HB7 b17 b27 hps7
            obtain ⟨u0, u1, u2, _⟩ := blk3 b17
            obtain ⟨d0, d1, d2, g0, g1, g2, _⟩ := blk3 b27
            clear b16 b26 HB6 hps6
            go_wp2_with fail
            refine bodyPost_ret (WanW.results_rowB rfl _ _ (w.heap.size + 1) #[.slice A6 (j + 1 + 1) c6, .int .i64 s2, .int .i64 dp] _ rfl (blk3_set b27) Tryd.underlying29 rfl (by kernel_rfl)) rfl ?_
            refine ⟨A6, j + 1 + 1, c6, ext ++ ext2 ++ [⟨[111, 114], 0, 0, [], ofs5⟩], k, rfl, rfl, by omega, hkl, h1, ?_, by simp only [List.length_append, List.length_singleton]; omega, by simp only [List.length_append, List.length_singleton]; omega, ?_, below3 HB7 (by omega)⟩
            · rw [List.append_assoc, List.append_assoc] at hps7
              rw [List.append_assoc]
              refine (hps7.set3 (g := w.heap.size + 1) (fun b hb => by rcases hb with (h | h) | h <;> omega)).wide (fun b hb _ => ?_)
              rcases hb with (h | h) | h
              · exact .inl h.1
              · exact .inr (by omega)
              · exact .inr (by omega)
            · rw [mk_many2 true _ (by have := HRP.out.len; have := o5.len; rw [nats_len] at this; omega)]
              refine ⟨ofs5, ?_, ?_, ?_⟩
              · have hml2 := HML.out
                rw [show ps.length + (ext ++ ext2 ++ [(⟨[111, 114], 0, 0, [], ofs5⟩ : RP)]).length - 1 = (ps ++ (ext ++ ext2)).length by simp only [List.length_append, List.length_singleton]; omega, ← List.append_assoc, List.getElem?_append_right (Nat.le_refl _)]
                simp
                rfl
              · intro j' hj'
                have := HJ5.out j' hj'
                have := HML.out
                simp only [List.length_append, List.length_singleton] at this ⊢
                omega
              · rw [← List.append_assoc]
                exact Reps.more _ _ _ _ HRP.out
          · have hlI : ¬ (1 : Int) < (n5 : Int) := by omega
            go_wp2_with (at_builtin; (with_reducible refine wp_append El_of rfl (s := .tmp 58) (x := .tmp 60) rfl rfl (o2.alloc _) rfl r3 (nats_one _) (by unfold maxLen; omega) (by omega) (by simp; omega) ?_); intro A5 c5 w5 o5 hg5 hat5; have hz5 := hg5.size; simp only [World.size_alloc] at hz5 hat5; have b15 := (b12.alloc (.cells #[.int .i64 (j : Int)] 3)).grown hg5 (fun e => by have := (hAb _ e.symm).1; omega); have b25 := (b22.alloc (.cells #[.int .i64 (j : Int)] 3)).grown hg5 (fun e => by have := (hAb _ e.symm).1; omega); have HB5 := (HB2.alloc (by omega) (.cells #[.int .i64 (j : Int)] 3)).grown hg5 (by simp; omega) (fun k hk => by have := (hAb k hk).1; omega); have P5 : PsAt w5 (fun b => ((S b ∧ b < w.heap.size) ∨ w.heap.size + 1 + 1 ≤ b) ∧ blkOf A5 ≠ some b) (some ⟨bP, oP, none⟩) (j + 1) (ps ++ (ext ++ ext2)) := P2.keep (fun b h1 h2 => ⟨(hg5.block b (by simp; omega) (fun e => h1.2 e.symm)).trans (Below.heap_alloc _ _ b h2), h1.1, hat5.elim (fun e => by rw [e]; exact h1.2) (fun e => by rw [e]; intro e2; simp at e2; omega)⟩); have W5 := HW.out.below HB5; obtain ⟨y0, y1⟩ := W5.at_ k hkl; rw [HY.out] at y0 y1; dsimp only at y0 y1; obtain ⟨xx0, xx1, xx2, rr0, rr1, rr2, _⟩ := blk3 b15; rw [← nats_app, HOFS.out, HN5.out] at o5; rw [HN5.out]; obtain ⟨d0, d1, d2, g0, g1, g2, _⟩ := blk3 b25)
            refine bodyPost_ret (WanW.results_rowB rfl _ _ (w.heap.size + 1) #[.slice (some ⟨bP, oP, none⟩) (j + 1) c2', .int .i64 s2, .int .i64 dp] _ rfl (blk3_set b25) Tryd.underlying29 rfl (by kernel_rfl)) rfl ?_
            refine ⟨some ⟨bP, oP, none⟩, j + 1, c2', ext ++ ext2, k, rfl, rfl, by omega, hkl, hmc, ?_, by simp only [List.length_append]; omega, by simp only [List.length_append]; omega, ?_, below3 HB5 (by omega)⟩
            · refine (P5.set3 (g := w.heap.size + 1) (fun b hb => by rcases hb.1 with h | h <;> omega)).wide (fun b hb _ => ?_)
              rcases hb.1 with h | h
              · exact .inl h.1
              · exact .inr (by omega)
            · have hl1 : (acc ++ flat true n1).length = 1 := by have := HRP.out.len; have := o5.len; rw [nats_len] at this; simp only [List.length_append] at *; omega
              have hacc : acc = [] := List.eq_nil_of_length_eq_zero (by rw [List.length_append] at hl1; omega)
              have hf1 : flat true n1 = [n1] := HONE.out (by rw [List.length_append] at hl1; omega)
              rw [hacc, List.nil_append, hf1]
              show Rep _ n1 _
              have := HML.out
              rw [show ps.length + (ext ++ ext2).length - 1 = j by simp only [List.length_append] at *; omega]
              exact HREP.out
theorem ref_reads (s : List UInt8) (hs : s.length ≤ 1000) (f : Nat) : FRd s f ∧ SRd s f 1 ∧ SRd s f 2 := by
  induction f using Nat.strongRecOn with
  | ind f ih =>
    refine ⟨?_, refAnd_any s hs f (fun f' h => (ih f' h).1), refOr_any s hs f (fun f' h => (ih f' h).2.1)⟩
    cases f with
    | zero => exact fun A n c ps sz dp i b o nw cw w S _ _ _ _ _ _ _ h => absurd (by rw [pG]) h
    | succ f => exact factor_rd s hs f (ih f (Nat.lt_succ_self f)).1 (ih f (Nat.lt_succ_self f)).2.2
end SieW
end Go.Proofs.YtdeiehgghhiijaaDoor
