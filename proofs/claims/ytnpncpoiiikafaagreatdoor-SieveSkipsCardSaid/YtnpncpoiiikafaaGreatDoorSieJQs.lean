/- SieJ -/
import Derived.Test.YtnpncpoiiikafaaGreatDoorSieIQs
import Derived.Test.YtnpncpoiiikafaaGreatDoorMemQs
import Derived.ProofKit
import Derived.OpenShut
import Derived.Deep.Slices
import Derived.Lib.SmallJoins
import Derived.Deep.Strs
import Derived.Test.YtnpncpoiiikafaaGreatDoorSpanDQs
import Derived.Deep.DeepHandedRow
import Derived.LaidMore
import Derived.LaidLaws
import Derived.MakeChecks
import Derived.Lib.LaidTab
import Derived.Stop.LaidErr
set_option linter.unusedVariables false
set_option linter.unusedSimpArgs false
set_option linter.unnecessarySimpa false
namespace Go.Proofs.YtnpncpoiiikafaaGreatDoor
open Go.RowKit
namespace SieW
open SkpW (Me mc sM tM)
def text1:List UInt8:=[115,101,113,32,49,45,53,32,97,110,100,32,110,111,116,40,104,97,115,32,54,49,32,111,114,32,116,105,99,107,32,51,45,52,41]
def text2:List UInt8:=[115,101,113,32,49,45,53,32,111,114]
def shown1:List UInt8:=[115,101,113,32,49,45,53,32,97,110,100,32,110,111,116,32,40,104,97,115,32,54,49,32,111,114,32,116,105,99,107,32,51,45,52,41]
def node1:Nd:=.row false [.within 0 1 5,.not (.row true [.has [97],.within 1 3 4])]
theorem parse1:parseP text1 = (some (node1,4),35,0):=by kernel_rfl
theorem parse2:parseP text2 = (none,10,380):=by kernel_rfl
theorem dec1:WanW.decL 1 = [49]:=by rw [WanW.decL];rfl
theorem dec3:WanW.decL 3 = [51]:=by rw [WanW.decL];rfl
theorem dec4:WanW.decL 4 = [52]:=by rw [WanW.decL];rfl
theorem dec5:WanW.decL 5 = [53]:=by rw [WanW.decL];rfl
theorem shows1:shN 0 node1 = shown1:=by
  simp only [node1,shN,shR,rngL,Int.toNat_one,show (5:Int).toNat = 5 from rfl,show (3:Int).toNat = 3 from rfl,show (4:Int).toNat = 4 from rfl,dec1,dec3,dec4,dec5]
  rfl
theorem meets1:meetN 2 9 [98] node1 = true:=by kernel_rfl
theorem meets2:meetN 2 9 [98] (.not node1) = false:=by kernel_rfl
def me1:Me:=⟨0,0,0,1,5,5,9⟩
def me2:Me:=⟨0,0,0,1,6,5,9⟩
def me3:Me:=⟨0,0,0,1,5,3,4⟩
theorem may1:mayN (sM 1 5) (tM 1 5 9) node1 true = true:=by kernel_rfl
theorem may2:mayN (sM 1 6) (tM 1 5 9) node1 true = false:=by kernel_rfl
theorem may3:mayN (sM 1 5) (tM 1 3 4) node1 true = false:=by kernel_rfl
set_option maxRecDepth 100000 in
set_option maxHeartbeats 8000000 in
theorem sawake_any (w:World) (hW:WanW.Wo w):Calls Tryz.prog 5 #[] w fun e w'=>e = .returned (.bool true)∧Below w.heap.size w w':=by
  have C1:=parse_sv_any parse1 w hW (by decide)
  go_enter Tryz.func5,Tryz.ntmps5
  go_wp2_with fail
  refine C1.mono ?_
  clear C1
  rintro e w1 ⟨g,rfl,S1,hb1⟩
  have C2:=parse_no_any parse2 w1 (hW.below hb1) (by decide)
  go_wp2_with fail
  refine C2.mono ?_
  clear C2
  rintro e w2 ⟨rfl,hb2⟩
  have HB2:=hb1.trans (hb2.mono hb1.size)
  have S2:=S1.below hb2
  clear S1 hb1 hb2
  go_wp2_with fail
  refine (Not_yes w2 g node1 4 S2 (by omega) (by have:=S2.few;rw [(parse_sv parse1).2.1];omega)).mono ?_
  rintro e w3 ⟨g',rfl,N3,hb3⟩
  have S3:=S2.below hb3
  have HB3:=HB2.trans (hb3.mono HB2.size)
  clear hb3 S2 HB2
  have HB4:=HB3.alloc HB3.size (.cells #[.int .i64 2,.int .i64 9,str [98]] 37)
  have S4:=S3.below ((Below.refl _ w3).alloc (Nat.le_refl _) (.cells #[.int .i64 2,.int .i64 9,str [98]] 37))
  have N4:=N3.below ((Below.refl _ w3).alloc (Nat.le_refl _) (.cells #[.int .i64 2,.int .i64 9,str [98]] 37))
  have b4:=Blk.new w3 37 #[.int .i64 2,.int .i64 9,str [98]]
  obtain ⟨p,hp⟩:∃ p,w3.heap.size = p:=⟨_,rfl⟩
  rw [hp] at b4
  obtain ⟨w4,hw4⟩:∃ w4,w3.alloc (.cells #[.int .i64 2,.int .i64 9,str [98]] 37) = w4:=⟨_,rfl⟩
  rw [hw4] at HB4 S4 N4 b4
  have hw4':w3.alloc (.cells #[.int .i64 2,.int .i64 9,.string ⟨#[98]⟩] 37) = w4:=hw4
  clear hw4 S3 N3 HB3
  go_wp2_with fail
  clear hw4' hp
  refine (show_yes w4 g node1 4 S4 (hW.below HB4) _ shows1).mono ?_
  rintro e w5 ⟨rfl,hb5⟩
  have S5:=S4.below hb5
  have N5:=N4.below hb5
  have b5:=b4.below hb5 b4.lt
  have HB5:=HB4.trans (hb5.mono HB4.size)
  clear S4 N4 b4 HB4 hb5
  go_wp2_with fail
  refine (size_yes w5 g node1 4 S5).mono ?_
  rintro e w6 ⟨rfl,hb6⟩
  have S6:=S5.below hb6
  have N6:=N5.below hb6
  have b6:=b5.below hb6 b5.lt
  have HB6:=HB5.trans (hb6.mono HB5.size)
  clear S5 N5 b5 HB5 hb6
  obtain ⟨c0,c1,c2,_⟩:=blk3 b6
  go_wp2_with fail
  refine (Meets_yes w6 g node1 4 S6 2 9 [98] (by decide) true meets1).mono ?_
  rintro e w7 ⟨rfl,hb7⟩
  have S7:=S6.below hb7
  have N7:=N6.below hb7
  have b7:=b6.below hb7 b6.lt
  have HB7:=HB6.trans (hb7.mono HB6.size)
  clear S6 N6 b6 HB6 hb7 c0 c1 c2
  obtain ⟨c0,c1,c2,_⟩:=blk3 b7
  go_wp2_with fail
  refine (Meets_yes w7 g' (.not node1) 5 N7 2 9 [98] (by decide) false meets2).mono ?_
  rintro e w8 ⟨rfl,hb8⟩
  have S8:=S7.below hb8
  have HB8:=HB7.trans (hb8.mono HB7.size)
  clear S7 N7 b7 HB7 hb8 c0 c1 c2
  go_wp2_with fail
  refine (Block_yes w8 g node1 4 S8 me1 (by unfold I64 me1;dsimp only;omega) (by unfold I64 me1;dsimp only;omega) true may1).mono ?_
  rintro e w9 ⟨rfl,hb9⟩
  have S9:=S8.below hb9
  have HB9:=HB8.trans (hb9.mono HB8.size)
  clear S8 HB8 hb9
  go_wp2_with fail
  refine (Block_yes w9 g node1 4 S9 me2 (by unfold I64 me2;dsimp only;omega) (by unfold I64 me2;dsimp only;omega) false may2).mono ?_
  rintro e w10 ⟨rfl,hb10⟩
  have S10:=S9.below hb10
  have HB10:=HB9.trans (hb10.mono HB9.size)
  clear S9 HB9 hb10
  go_wp2_with fail
  refine (Block_yes w10 g node1 4 S10 me3 (by unfold I64 me3;dsimp only;omega) (by unfold I64 me3;dsimp only;omega) false may3).mono ?_
  rintro e w11 ⟨rfl,hb11⟩
  have HB11:=HB10.trans (hb11.mono HB10.size)
  go_wp2_with fail
  go_ret
  exact ⟨rfl,HB11⟩
end SieW
end Go.Proofs.YtnpncpoiiikafaaGreatDoor
namespace Go.Proofs.YtnpncpoiiikafaaGreatDoor
open Go.RowKit Go.ChangeShapes Go.WideShapes Go.Deep
section
variable {H:Type} {enc:TypeId × Value → H} {P:Program} {w:World} {base:Nat} {spare:Nat → Bool} {held:Bool} {α:Type}
theorem list_of (n:Nat) (p:Nat → α → Prop) (h:∀ i,i < n → ∃ x,p i x):∃ l:List α,l.length = n∧∀ i (hi:i < l.length),p i l[i]:=by
  induction n with
  | zero=>exact ⟨[],rfl,fun i hi=>absurd hi (by simp)⟩
  | succ n ih =>
    obtain ⟨l,hl,hp⟩:=ih (fun i hi=>h i (by omega))
    obtain ⟨x,hx⟩:=h n (by omega)
    refine ⟨l ++ [x],by simp [hl],fun i hi=>?_⟩
    by_cases hin:i < l.length
    · rw [List.getElem_append_left hin];exact hp i hin
    · have:i = n:=by simp at hi;omega
      subst this
      rw [List.getElem_append_right (by omega)]
      simpa [hl] using hx
theorem flat_len (f:α → List Value) (size:Nat) (l:List α) (h:∀ x ∈ l,(f x).length = size):(l.flatMap f).length = l.length * size:=by
  induction l with
  | nil=>simp
  | cons x l ih =>
    rw [List.flatMap_cons,List.length_append,ih (fun y hy=>h y (by simp [hy])),h x (by simp),List.length_cons,Nat.add_mul]
    omega
theorem flat_get (f:α → List Value) (size:Nat) (l:List α) (h:∀ x ∈ l,(f x).length = size) (k j:Nat) (hk:k < l.length) (hj:j < size):(l.flatMap f)[k * size + j]? = (f l[k])[j]?:=by
  induction l generalizing k with
  | nil=>simp at hk
  | cons x l ih =>
    rw [List.flatMap_cons]
    have hx:=h x (by simp)
    cases k with
    | zero=>rw [List.getElem?_append_left (by omega)];simp
    | succ k =>
      rw [List.getElem?_append_right (by rw [hx,Nat.add_mul];omega),hx]
      have e:(k + 1) * size + j - size = k * size + j:=by rw [Nat.add_mul];omega
      rw [e,ih (fun y hy=>h y (by simp [hy])) k (by simpa using hk)]
      simp
theorem open_rows {r:Reach} {b0:Nat} {t e size:Nat} {v:Value} {d:DataW H} {p:List MemPlace} (ht:P.underlying t = some (.slice e)) (hC:P.cellsOf e = size) (hpos:0 < size)
    (f:α → List Value) (Q:α → Prop) (hf:∀ n cs y,DataW.trod enc P w base spare held n e cs = some y → cs.length = size → ∃ x,cs = f x∧Q x)
    (hv:Value.okWide P w r b0 t v) (h:DataW.Trod enc P w base spare held t v d p) :
    ∃ (A:Option Addr) (n c:Nat) (l:List α),v = .slice A n c∧n≤c∧c≤maxLen∧l.length = n∧(∀ x ∈ l,Q x)∧(∀ x ∈ l,(f x).length = size)∧Rd w w.heap.size size A n (l.flatMap f):=by
  obtain ⟨a0,len,cap,rfl⟩:=okWide_slice ht hv
  obtain ⟨fuel,hfu⟩:=h
  rcases open_slice ht hfu with ⟨hcs,_⟩ | ⟨a,l',c',m,n,D,Pl,hcs,hb,hl,hm,hmm,_,hx⟩
  · simp only [Value.cells,List.cons.injEq,and_true] at hcs
    injection hcs with h1 h2 h3
    subst h1 h2 h3
    exact ⟨none,0,0,[],rfl,Nat.le_refl _,Nat.zero_le _,rfl,fun _ h=>absurd h List.not_mem_nil,fun _ h=>absurd h List.not_mem_nil,Rd.nil _ _ _ _⟩
  · simp only [Value.cells,List.cons.injEq,and_true] at hcs
    injection hcs with h1 h2 h3
    subst h1 h2 h3
    have hlen:len≤m:=by rw [hmm];split <;> omega
    obtain ⟨l,hll,hlp⟩:=list_of len (fun i x=>(∃ cs',w.cells? base (a.add (i * size)) size = some cs'∧cs' = f x)∧Q x∧(f x).length = size) (fun i hi=>by
      obtain ⟨cs',h1,h2⟩:=hx i (by omega)
      rw [hC] at h1
      have hcl:=(World.cells?_some h1).2.1
      obtain ⟨x,hx1,hx2⟩:=hf _ _ _ h2 hcl
      exact ⟨x,⟨cs',h1,hx1⟩,hx2,by rw [← hx1];exact hcl⟩)
    have hsz:∀ x ∈ l,(f x).length = size:=fun x hx=>by
      obtain ⟨i,hi,rfl⟩:=List.getElem_of_mem hx
      exact (hlp i hi).2.2
    refine ⟨some a,len,cap,l,rfl,hl,hm,hll,fun x hx=>?_,hsz,?_⟩
    · obtain ⟨i,hi,rfl⟩:=List.getElem_of_mem hx
      exact (hlp i hi).2.1
    · refine ⟨by rw [flat_len f size l hsz,hll],fun hn=>?_⟩
      have hcell:∀ i j,i < len → j < size → ∃ u,w.cell? ((a.add (i * size)).add j) = some u∧(l.flatMap f)[i * size + j]? = some u:=by
        intro i j hi hj
        obtain ⟨⟨cs',h1,h2⟩,_,h3⟩:=hlp i (by omega)
        obtain ⟨_,h4,h5⟩:=World.cells?_some h1
        have h6:=h5 j hj
        rw [flat_get f size l hsz i j (by omega) hj,← h2]
        rw [List.getElem?_eq_getElem (by omega)] at h6 ⊢
        exact ⟨_,h6,rfl⟩
      obtain ⟨u0,hu0,_⟩:=hcell 0 0 (by omega) hpos
      obtain ⟨b,o,spot⟩:=a
      have hspot:spot = none:=by simpa [Addr.add] using World.cell?_spot hu0
      subst hspot
      refine ⟨b,o,rfl,?_,fun j hj=>?_⟩
      · have:=World.block_lt_of_cell? w _ hu0
        simpa [add_lit] using this
      · rw [flat_len f size l hsz,hll] at hj
        have hj1:j / size < len:=(Nat.div_lt_iff_lt_mul hpos).2 hj
        have hj2:j % size < size:=Nat.mod_lt _ hpos
        obtain ⟨u,h1,h2⟩:=hcell (j / size) (j % size) hj1 hj2
        have e:j / size * size + j % size = j:=by rw [Nat.mul_comm];exact Nat.div_add_mod j size
        rw [add_lit,add_lit,Nat.add_assoc,e] at h1
        rw [e] at h2
        rw [h1,← h2,List.getElem?_eq_getElem]
end
end Go.Proofs.YtnpncpoiiikafaaGreatDoor
namespace Go.Proofs.YtnpncpoiiikafaaGreatDoor
open Go.RowKit Go.ChangeShapes Go.WideShapes Go.Deep
namespace ArgI
end ArgI
end Go.Proofs.YtnpncpoiiikafaaGreatDoor
namespace Go.Proofs.YtnpncpoiiikafaaGreatDoor
open Go.RowKit
def vput:Nat → Nat → List UInt8
  | 0,_=>[]
  | f + 1,n=>if n < 128 then [UInt8.ofNat n] else UInt8.ofNat (128 + n % 128) :: vput f (n / 128)
def vbytes (n:Nat):List UInt8:=vput 9 n
def vl:Nat → Nat → Nat
  | 0,_=>0
  | f + 1,n=>if n < 128 then 1 else 1 + vl f (n / 128)
def vlen (n:Nat):Nat:=vl 9 n
theorem vput_len (f n:Nat):(vput f n).length = vl f n:=by
  induction f generalizing n with
  | zero=>rfl
  | succ f ih=>unfold vput vl;split <;> simp [ih];omega
theorem vbytes_len (n:Nat):(vbytes n).length = vlen n:=vput_len 9 n
theorem vl_le (f n:Nat):vl f n≤f:=by
  induction f generalizing n with
  | zero=>exact Nat.le_refl _
  | succ f ih=>unfold vl;have:=ih (n / 128);split <;> omega
theorem vl_pos (f n:Nat):1≤vl (f + 1) n:=by unfold vl;split <;> omega
theorem vlen_le (n:Nat):vlen n≤9:=vl_le 9 n
theorem vlen_pos (n:Nat):1≤vlen n:=vl_pos 8 n
theorem ba_cat (a b:Array UInt8):((⟨a⟩:ByteArray) ++ ⟨b⟩) = ⟨a ++ b⟩:=by
  apply ByteArray.ext
  simp
theorem str_cat (l m:List UInt8):((⟨l.toArray⟩:ByteArray) ++ ⟨m.toArray⟩) = ⟨(l ++ m).toArray⟩:=by rw [ba_cat];simp
abbrev Rc:=Int × Int × List UInt8
abbrev recv (r:Rc):Value:=.agg #[.int .i64 r.1,.int .i64 r.2.1,str r.2.2]
def rcell (r:Rc):List Value:=[.int .i64 r.1,.int .i64 r.2.1,str r.2.2]
def rcells (l:List Rc):List Value:=l.flatMap rcell
theorem rcells_len (l:List Rc):(rcells l).length = l.length * 3:=by
  induction l with
  | nil=>rfl
  | cons x l ih=>simp only [rcells,rcell,List.flatMap_cons,List.length_append,List.length_cons,List.length_nil] at *;omega
theorem rcells_cons (p:Rc) (l:List Rc):rcells (p :: l) = .int .i64 p.1 :: .int .i64 p.2.1 :: str p.2.2 :: rcells l:=rfl
theorem rcells_get (l:List Rc) (k:Nat) (h:k < l.length) :
    (rcells l)[k * 3]? = some (.int .i64 l[k].1)∧(rcells l)[k * 3 + 1]? = some (.int .i64 l[k].2.1)∧(rcells l)[k * 3 + 2]? = some (str l[k].2.2):=by
  induction l generalizing k with
  | nil=>simp at h
  | cons p l ih =>
    rw [rcells_cons]
    cases k with
    | zero=>simp
    | succ k =>
      have:=ih k (by simpa using h)
      simpa [Nat.add_mul] using this
theorem rd_recs {w:World} {B:Nat} {A:Option Addr} {n:Nat} {l:List Rc} (h:Rd w B 3 A n (rcells l)) (hn:0 < n) :
    ∃ b o,A = some ⟨b,o,none⟩∧b < B∧∀ k (hk:k < l.length),w.cell? ⟨b,o + k * 3,none⟩ = some (.int .i64 l[k].1)∧w.cell? ⟨b,o + k * 3 + 1,none⟩ = some (.int .i64 l[k].2.1)∧w.cell? ⟨b,o + k * 3 + 2,none⟩ = some (str l[k].2.2):=by
  obtain ⟨b,o,rfl,hb,hc⟩:=h.at_ hn
  refine ⟨b,o,rfl,hb,fun k hk=>?_⟩
  have hlen:=rcells_len l
  obtain ⟨e0,e1,e2⟩:=rcells_get l k hk
  refine ⟨?_,?_,?_⟩
  · rw [hc (k * 3) (by omega)];rw [List.getElem?_eq_getElem (by omega)] at e0;exact e0
  · rw [Nat.add_assoc,hc (k * 3 + 1) (by omega)];rw [List.getElem?_eq_getElem (by omega)] at e1;exact e1
  · rw [Nat.add_assoc,hc (k * 3 + 2) (by omega)];rw [List.getElem?_eq_getElem (by omega)] at e2;exact e2
theorem rd_rlen {w:World} {B:Nat} {A:Option Addr} {n:Nat} {l:List Rc} (h:Rd w B 3 A n (rcells l)):l.length = n:=by have:=h.len;rw [rcells_len] at this;omega
def okR (r:Rc):Bool:=decide (1≤r.1) && decide (r.1≤1000000000) && decide (0≤r.2.1) && decide (r.2.1≤1000000000) && decide (r.2.2.length≤2000)
def chkR (r:Rc):Int:=if okR r then 0 else 150
theorem okR_iff (r:Rc):okR r = true ↔ 1≤r.1∧r.1≤1000000000∧0≤r.2.1∧r.2.1≤1000000000∧r.2.2.length≤2000:=by simp [okR,and_assoc]
theorem chkR_yes {r:Rc} (h:okR r = true):chkR r = 0:=by simp [chkR,h]
theorem chkR_no {r:Rc} (h:okR r = false):chkR r = 150:=by simp [chkR,h]
def putR (r:Rc):List UInt8:=vbytes r.1.toNat ++ (vbytes r.2.1.toNat ++ (vbytes r.2.2.length ++ r.2.2))
def sizeN (r:Rc):Nat:=if okR r then (putR r).length else 0
theorem sizeN_yes {r:Rc} (h:okR r = true):sizeN r = vlen r.1.toNat + vlen r.2.1.toNat + vlen r.2.2.length + r.2.2.length:=by
  simp [sizeN,h,putR,vbytes_len];omega
theorem sizeN_no {r:Rc} (h:okR r = false):sizeN r = 0:=by simp [sizeN,h]
theorem sizeN_le (r:Rc):sizeN r≤2027:=by
  by_cases h:okR r = true
  · rw [sizeN_yes h]
    have:=(okR_iff r).1 h
    have:=vlen_le r.1.toNat
    have:=vlen_le r.2.1.toNat
    have:=vlen_le r.2.2.length
    omega
  · rw [sizeN_no (by simpa using h)];omega
def nextB (p r:Rc):Bool:=decide (r.1 = p.1 + 1) && decide (p.2.1≤r.2.1)
def rowFrom:Option Rc → List Rc → Int
  | _,[]=>0
  | p,r :: l=>if okR r then (match p with | none=>rowFrom (some r) l | some q=>if nextB q r then rowFrom (some r) l else 151) else 150
def rowN (l:List Rc):Int:=rowFrom none l
theorem rowFrom_ok {p:Option Rc} {l:List Rc} (h:rowFrom p l = 0):∀ r ∈ l,okR r = true:=by
  induction l generalizing p with
  | nil=>intro r hr;cases hr
  | cons x l ih =>
    unfold rowFrom at h
    split at h
    · rename_i hx
      intro r hr
      rcases List.mem_cons.1 hr with rfl | hr
      · exact hx
      · cases p with
        | none=>exact ih h r hr
        | some q => dsimp only at h; split at h
                    · exact ih h r hr
                    · cases h
    · cases h
end Go.Proofs.YtnpncpoiiikafaaGreatDoor
namespace Go.Proofs.YtnpncpoiiikafaaGreatDoor
open Go.RowKit Go.ChangeShapes Go.WideShapes Go.Deep
section
variable {H:Type} {enc:TypeId × Value → H} {P:Program} {w:World} {base:Nat} {spare:Nat → Bool} {held:Bool}
def RcOk (r:Rc):Prop:=I64 r.1∧I64 r.2.1∧r.2.2.length≤maxLen
theorem trod_iis {t:Nat} {f0 f1 f2:Field} (hs:P.underlying t = some (.struct #[f0,f1,f2])) (hone:oneCellFields P #[f0,f1,f2] = true) (h0:P.underlying f0.type = some (.int .i64)) (h1:P.underlying f1.type = some (.int .i64)) (h2:P.underlying f2.type = some .string)
    (n:Nat) (cs:List Value) (y:DataW H × List MemPlace) (h:DataW.trod enc P w base spare held n t cs = some y) (hl:cs.length = 3) :
    ∃ x:Rc,cs = rcell x∧RcOk x:=by
  obtain ⟨y0,y1,y2,m,_,_,g0,g1,g2⟩:=trod_struct3 hs h
  obtain ⟨o0,k0⟩:=hone_of hone 0 f0 rfl
  obtain ⟨o1,k1⟩:=hone_of hone 1 f1 rfl
  obtain ⟨o2,k2⟩:=hone_of hone 2 f2 rfl
  match cs,hl with
  | [a,b,c],_ =>
    rw [o0,k0] at g0
    rw [o1,k1] at g1
    rw [o2,k2] at g2
    obtain ⟨i,e0,_,w0⟩:=DataW.trod_int h0 g0
    obtain ⟨j,e1,_,w1⟩:=DataW.trod_int h1 g1
    obtain ⟨s,e2,_,w2⟩:=DataW.trod_string h2 g2
    simp at e0 e1 e2
    subst e0 e1 e2
    obtain ⟨l,rfl,hl⟩:=str_of s
    exact ⟨(i,j,l),rfl,i64_of w0,i64_of w1,by show l.length≤maxLen;omega⟩
end
end Go.Proofs.YtnpncpoiiikafaaGreatDoor
namespace Go.Proofs.YtnpncpoiiikafaaGreatDoor
open Go.RowKit Go.ChangeShapes Go.WideShapes Go.Deep
namespace SkpW
section
variable {H:Type} {enc:TypeId × Value → H} {P:Program} {w:World} {base:Nat} {spare:Nat → Bool} {held:Bool}
theorem one_at {cs:List Value} {j:Nat} {c:Value} (hj:cs[j]? = some c):(cs.drop j).take 1 = [c]:=by
  obtain ⟨h1,h2⟩:=List.getElem?_eq_some_iff.1 hj
  rw [List.drop_eq_getElem_cons h1,h2]
  rfl
theorem str_at {n e j:Nat} {cs:List Value} {c:Value} (he:P.underlying e = some .string) (hc:P.cellsOf e = 1) (hj:cs[j]? = some c) (h:∃ y,DataW.trod enc P w base spare held n e ((cs.drop j).take (P.cellsOf e)) = some y) :
    ∃ l:List UInt8,c = str l∧l.length≤maxLen:=by
  obtain ⟨y,hy⟩:=h
  rw [hc,one_at hj] at hy
  obtain ⟨s,e0,_,w0⟩:=DataW.trod_string he hy
  obtain ⟨l,rfl,hl⟩:=str_of s
  exact ⟨l,List.singleton_inj.1 e0,by omega⟩
end
end SkpW
end Go.Proofs.YtnpncpoiiikafaaGreatDoor
namespace Go.Proofs.YtnpncpoiiikafaaGreatDoor
set_option maxRecDepth 100000
section
open Go.RowKit Go.ChangeShapes Go.WideShapes Go.Deep
namespace SkpW
end SkpW
end
open Go.RowKit
namespace SieW
open WanW (Wo gPow)
open SkpW (Me mc)
theorem gPowType:(Tryz.prog.globals[0]?).map (·.type) = some 217:=by kernel_rfl
theorem cellsPow:Tryz.prog.cellsOf 217 = 20:=by kernel_rfl
theorem cellsU64:Tryz.prog.cellsOf 124 = 1:=by kernel_rfl
theorem pow_data:(Rows.laid_internal_strconv_uint64pow10:DataW Unit) = Lib.tabData .u64 Lib.pow10Tab:=by kernel_rfl
def laid3 : List (String × DataW Unit) := [("math/bits.deBruijn32tab", Rows.laid_math_bits_deBruijn32tab), ("math/bits.deBruijn64tab", Rows.laid_math_bits_deBruijn64tab), ("internal/strconv.uint64pow10", Rows.laid_internal_strconv_uint64pow10)]
theorem wo_of {W:World} (hL:laidMetH Tryz.prog laid3 W) (hsh:W.ShapedOpen Tryz.prog):Wo W:=by
  refine ⟨Tryz.laysM145.s1_3 W hsh,?_⟩
  rw [MakeChecks.laidMetH_plain _ _ _ (by kernel_rfl)] at hL
  have h2:=hL.tail.tail
  rw [pow_data] at h2
  exact Lib.tabIs_of_head gPow gPowType Tryz.underlying217 Tryz.underlying124 cellsU64 cellsPow h2
theorem door_met (os:Os) (args:Array Value):laidMetH Tryz.prog laid3 ((World.doorLaid Tryz.prog 24 os).forCall (fun _ _=>0) ⟨#[],args,[]⟩).memory :=
  laidMetH_of_parts3 (fuel:=8) (laidMet_of_run' 8 (by kernel_rfl) (by kernel_rfl)) (by kernel_rfl) (by kernel_rfl)
end SieW
end Go.Proofs.YtnpncpoiiikafaaGreatDoor
