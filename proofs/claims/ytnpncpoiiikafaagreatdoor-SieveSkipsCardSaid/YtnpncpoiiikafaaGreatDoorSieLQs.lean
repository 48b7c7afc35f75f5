/- SieL -/
import Derived.Test.YtnpncpoiiikafaaGreatDoorSieJQs
import Derived.Test.YtnpncpoiiikafaaGreatDoorSpanDQs
import Derived.Test.YtnpncpoiiikafaaGreatDoorBloQQs
import Derived.Test.YtnpncpoiiikafaaGreatDoorRecSQs
import Derived.Test.YtnpncpoiiikafaaGreatDoorRecLQs
set_option linter.unusedVariables false
set_option linter.unusedSimpArgs false
set_option linter.unnecessarySimpa false
namespace Go.Proofs.YtnpncpoiiikafaaGreatDoor
open Go.RowKit
namespace SieW
open WanW (w64k str_cat)
theorem facS_err {en:Int} {fn fs:List Wd → Nat → Nat → PR} {l:List Wd} {sz dp:Nat} {e a:Int} (hn:∀ l sz dp e a,fn l sz dp = .err e a → e = 3 ∨ e = 380) (hs:∀ l sz dp e a,fs l sz dp = .err e a → e = 3 ∨ e = 380)
    (h:facS en fn fs l sz dp = .err e a):e = 3 ∨ e = 380:=by
  unfold facS at h
  split at h
  · split at h
    · cases h;exact .inl rfl
    · split at h
      · cases h
      · cases h;exact .inr rfl
  · split at h
    · split at h
      · cases h;exact .inl rfl
      · split at h
        · cases h
        · cases h;exact .inr rfl
    · split at h
      · split at h
        · cases h;exact .inl rfl
        · cases h
      · split at h
        · split at h
          · cases h;exact .inl rfl
          · split at h
            · cases h
            · exact hn _ _ _ _ _ h
        · split at h
          · split at h
            · cases h;exact .inl rfl
            · split at h
              · split at h
                · cases h
                · cases h;exact .inr rfl
              · exact hs _ _ _ _ _ h
          · cases h;exact .inr rfl
theorem pG_err (en:Int):∀ (f m:Nat) (acc:List Nd) (l:List Wd) (sz dp:Nat) (e a:Int),pG en f m acc l sz dp = .err e a → e = 3 ∨ e = 380
  | 0,_,_,_,_,_,_,_,h=>by simp [pG] at h
  | f + 1,0,acc,l,sz,dp,e,a,h=>by
    rw [pG] at h
    exact facS_err (fun l sz dp e a=>pG_err en f 0 [] l sz dp e a) (fun l sz dp e a=>pG_err en f 2 [] l sz dp e a) h
  | f + 1,m + 1,acc,l,sz,dp,e,a,h=>by
    rw [pG] at h
    split at h
    · split at h
      · exact pG_err en f (m + 1) _ _ _ _ _ _ h
      · cases h
    · exact pG_err en f m _ _ _ _ _ _ h
theorem parse_err {s:List UInt8} {p e:Int} (h:parseP s = (none,p,e)):e = 3 ∨ e = 380:=by
  rw [parse_pM] at h
  split at h
  · cases h;exact .inl rfl
  · split at h
    · split at h
      · cases h
      · cases h;exact .inr rfl
    · next h1=>cases h;exact pG_err _ _ _ _ _ _ _ _ _ h1
    · next h1=>exact absurd h1 (pM_out _ _ _ _ _ _ (by omega))
theorem parse_fine {s:List UInt8} {n:Nd} {z:Nat} {p e:Int} (h:parseP s = (some (n,z),p,e)):e = 0:=by
  rw [parse_pM] at h
  split at h
  · cases h
  · split at h
    · split at h
      · cases h;rfl
      · cases h
    · cases h
    · cases h
end SieW
end Go.Proofs.YtnpncpoiiikafaaGreatDoor
namespace Go.Proofs.YtnpncpoiiikafaaGreatDoor
open Go.RowKit
namespace SieW
end SieW
end Go.Proofs.YtnpncpoiiikafaaGreatDoor
namespace Go.Proofs.YtnpncpoiiikafaaGreatDoor
namespace SkpW
open SpanW (R rv meetsB emptyB hasB)
theorem blk_in {l:List Rc} (hr:rowN l = 0) (hl:0 < l.length) (i:Nat) (hi:i < l.length) (m:Me) (h1:m.count = l.length) (h2:m.first = (l[0]'hl).1) (h3:m.early = (l[0]'hl).2.1) (h4:m.late = (l[l.length - 1]'(by omega)).2.1) :
    ((sM m.count m.first).1≤l[i].1∧l[i].1≤(sM m.count m.first).2)∧((tM m.count m.early m.late).1≤l[i].2.1∧l[i].2.1≤(tM m.count m.early m.late).2):=by
  obtain ⟨s1,s2⟩:=row_span hr i hi
  have s3:=s2 (l.length - 1) (by omega) (by omega)
  have s4:=(row_span hr 0 hl).2 i hi (by omega)
  have hok:=(okR_iff _).1 (rowFrom_ok hr _ (List.getElem_mem hl))
  have hok2:=(okR_iff _).1 (rowFrom_ok hr _ (List.getElem_mem hi))
  rw [h1,h2,h3,h4]
  unfold sM tM
  have hc:¬ ((l.length:Int) < 1):=by omega
  simp only [if_neg hc]
  constructor
  · by_cases c:(9223372036854775807:Int) - ((l.length:Int) - (1:Int)) < (l[0]'hl).1
    · rw [if_pos c]
      show (l[0]'hl).1≤l[i].1∧l[i].1≤9223372036854775807
      omega
    · rw [if_neg c]
      show (l[0]'hl).1≤l[i].1∧l[i].1≤(l[0]'hl).1 + ((l.length:Int) - 1)
      omega
  · show (l[0]'hl).2.1≤l[i].2.1∧l[i].2.1≤(l[l.length - 1]'(by omega)).2.1
    omega
end SkpW
end Go.Proofs.YtnpncpoiiikafaaGreatDoor
namespace Go.Proofs.YtnpncpoiiikafaaGreatDoor
open Go.RowKit Go.ChangeShapes Go.WideShapes Go.Deep
namespace RecW
set_option maxRecDepth 100000 in
theorem open_recs {H:Type} {enc:TypeId × Value → H} {w:World} {base:Nat} {spare:Nat → Bool} {held:Bool} {r:Reach} {b0:Nat} {v:Value} {d:DataW H} {p:List MemPlace}
    (hv:Value.okWide Tryz.prog w r b0 22 v) (h:DataW.Trod enc Tryz.prog w base spare held 22 v d p) :
    ∃ (A:Option Addr) (n c:Nat) (l:List Rc),v = .slice A n c∧n≤c∧c≤maxLen∧(∀ x ∈ l,RcOk x)∧Rd w w.heap.size 3 A n (rcells l):=by
  obtain ⟨A,n,c,l,hv',h1,h2,_,h4,_,h6⟩:=open_rows Tryz.underlying22 (by kernel_rfl) (by decide) rcell RcOk
    (fun n cs y hh hl=>trod_iis Tryz.underlying37 (by kernel_rfl) Tryz.underlying3 Tryz.underlying3 Tryz.underlying9 n cs y hh hl) hv h
  exact ⟨A,n,c,l,hv',h1,h2,h4,h6⟩
theorem few_len {l:List Rc} (h:fewB l = true):l.length≤200:=by
  unfold fewB at h
  simp at h
  exact h.1
end RecW
end Go.Proofs.YtnpncpoiiikafaaGreatDoor
namespace Go.Proofs.YtnpncpoiiikafaaGreatDoor
open Go.RowKit
namespace SieW
open WanW (w64k)
open SkpW (Me mc sM tM blk_in)
open RecW (few_any few_len fewB)
open BloW (encode_none encode_bad encode_any encode_out EncOut Peek_any peekV encB peek_enc BodyOf mcs)
theorem rd_cell3 {w:World} {B b o n:Nat} {l:List Rc} (h:Rd w B 3 (some ⟨b,o,none⟩) n (rcells l)) (k:Nat) (hk:k < l.length) (x y:Int) (d:List UInt8) (hr:l[k] = (x,y,d)) :
    w.cell? ⟨b,o + k * 3,none⟩ = some (.int .i64 x)∧w.cell? ⟨b,o + k * 3 + 1,none⟩ = some (.int .i64 y)∧w.cell? ⟨b,o + k * 3 + 2,none⟩ = some (str d):=by
  have hn:0 < n:=by have:=rd_rlen h;omega
  obtain ⟨b',o',e,_,hc⟩:=rd_recs h hn
  simp only [Option.some.injEq,Addr.mk.injEq,and_true] at e
  obtain ⟨rfl,rfl⟩:=e
  have:=hc k hk
  rwa [hr] at this
theorem blk7 {w:World} {g:Nat} {t:TypeId} {a0 a1 a2 a3 a4 a5 a6:Value} (h:Blk w g t #[a0,a1,a2,a3,a4,a5,a6]) :
    w.cell? ⟨g,0,none⟩ = some a0∧w.cell? ⟨g,1,none⟩ = some a1∧w.cell? ⟨g,2,none⟩ = some a2∧w.cell? ⟨g,3,none⟩ = some a3∧w.cell? ⟨g,4,none⟩ = some a4∧w.cell? ⟨g,5,none⟩ = some a5∧w.cell? ⟨g,6,none⟩ = some a6 :=
  ⟨h.cell_ 0 rfl,h.cell_ 1 rfl,h.cell_ 2 rfl,h.cell_ 3 rfl,h.cell_ 4 rfl,h.cell_ 5 rfl,h.cell_ 6 rfl⟩
theorem few_dat3 {l:List Rc} (h:fewB l = true):∀ r ∈ l,r.2.2.length≤100000:=by
  intro r hr
  unfold fewB at h
  rw [Bool.and_eq_true,List.all_eq_true] at h
  have:=h.2 r hr
  simp only [decide_eq_true_eq] at this
  omega
theorem may_rec {l:List Rc} (hr:rowN l = 0) (hl:0 < l.length) (n:Nd) (hwf:wfN n) (m:Me) (h1:m.count = l.length) (h2:m.first = (l[0]'hl).1) (h3:m.early = (l[0]'hl).2.1) (h4:m.late = (l[l.length - 1]'(by omega)).2.1) (i:Nat) (hi:i < l.length) (hm:meetN l[i].1 l[i].2.1 l[i].2.2 n = true):mayN (sM m.count m.first) (tM m.count m.early m.late) n true = true:=by
  obtain ⟨b1,b2⟩:=blk_in hr hl i hi m h1 h2 h3 h4
  exact may_of _ _ _ _ _ b1 b2 n true hwf hm
set_option maxRecDepth 100000 in
set_option maxHeartbeats 16000000 in
theorem skips_law (s:List UInt8) (A:Option Addr) (n c:Nat) (l:List Rc) (w:World) (hW:WanW.Wo w) (h:Rd w w.heap.size 3 A n (rcells l)) (hok:∀ x ∈ l,RcOk x) (hn:n≤maxLen) :
    Calls Tryz.prog 3 #[str s,.slice A n c] w fun e w'=>e = .returned (.bool true)∧Below w.heap.size w w':=by
  unfold maxLen at hn
  have CF:=Lib.hid (fun v hv w HH=>few_any A n c l v hv w HH (by omega) (fun r hr=>by have:=(hok r hr).2.2;unfold maxLen at this;omega))
  have hl:=rd_rlen h
  have HA:=Lib.hid (fun w h=>sawake_any w h)
  obtain ⟨fw,hfw⟩:∃ v,fewB l = v:=⟨_,rfl⟩
  by_cases hls:1000 < s.length
  · have hI:(1000:Int) < (s.length:Int):=by omega
    go_enter Tryz.func3,Tryz.ntmps3
    go_wp2_with fail
    refine (HA.out _ hW).mono ?_
    rintro e w2 ⟨rfl,hb1⟩
    go_wp2_with fail
    go_ret
    exact ⟨rfl,hb1⟩
  have hI:¬ (1000:Int) < (s.length:Int):=by omega
  cases fw with
  | false =>
    go_enter Tryz.func3,Tryz.ntmps3
    go_wp2_with fail
    refine (CF.out false hfw _ h).mono ?_
    rintro e w1 ⟨rfl,hb1⟩
    go_wp2_with fail
    refine (HA.out _ (hW.below hb1)).mono ?_
    rintro e w2 ⟨rfl,hb2⟩
    go_wp2_with fail
    go_ret
    exact ⟨rfl,hb1.trans (hb2.mono hb1.size)⟩
  | true =>
    have hlen:=few_len hfw
    have hdat:=few_dat3 hfw
    go_enter Tryz.func3,Tryz.ntmps3
    go_wp2_with fail
    refine (CF.out true hfw _ h).mono ?_
    rintro e w1 ⟨rfl,HB⟩
    have hW1:=hW.below HB
    clear CF hok hfw
    have CE:=Lib.hid (fun w HH=>encode_out A n c l w HH (by omega))
    obtain ⟨⟨r1,p1,e1⟩,h1⟩:∃ r,parseP s = r:=⟨_,rfl⟩
    cases r1 with
    | none =>
      have he:¬ e1 = 0:=by rcases parse_err h1 with h | h <;> omega
      have heb:(e1 != 0) = true:=by simp [he]
      have C1:=parse_no_any h1 w1 hW1 (by omega)
      clear h1 hdat
      go_wp2_with fail
      refine C1.mono ?_
      clear C1
      rintro e w2 ⟨rfl,hb2⟩
      have HB2:=HB.trans (hb2.mono HB.size)
      go_wp2_with fail
      refine (CE.out w2 ((h.below HB2).more HB2.size)).mono ?_
      rintro e w3 ⟨b,er,rfl,_,hb3⟩
      have HB3:=HB2.trans (hb3.mono HB2.size)
      clear hb2 hb3
      go_wp2_with fail
      refine (HA.out _ (hW.below HB3)).mono ?_
      rintro e w5 ⟨rfl,hb5⟩
      go_wp2_with fail
      go_ret
      exact ⟨rfl,HB3.trans (hb5.mono HB3.size)⟩
    | some nz1 =>
    obtain ⟨n1,zz1⟩:=nz1
    obtain rfl:=parse_fine h1
    obtain ⟨hwf,_,_⟩:=parse_sv h1
    have C1:=parse_sv_any h1 w1 hW1 (by omega)
    clear h1
    go_wp2_with fail
    refine C1.mono ?_
    clear C1
    rintro e w2 ⟨g1,rfl,SA2,hb2⟩
    have HB2:=HB.trans (hb2.mono HB.size)
    go_wp2_with fail
    refine (CE.out w2 ((h.below HB2).more HB2.size)).mono ?_
    rintro e w3 ⟨b,er,rfl,hen,hb3⟩
    have HB3:=HB2.trans (hb3.mono HB2.size)
    have SA3:=SA2.below hb3
    clear hb2 hb3 SA2 CE
    by_cases her:er = 0
    · subst her
      obtain ⟨hr,hl0,hraw,md,bd,rfl,hbo⟩:=hen rfl
      have CP:=Peek_any (encB l md bd) w3 (by have:=BloW.enc_len hbo hraw;omega) _ (peek_enc hr hl0 hraw md (BloW.mode_of hbo) bd)
      obtain ⟨m,hm⟩:∃ m:Me,(⟨0,0,((_root_.Go.Proofs.YtnpncpoiiikafaaGreatDoor.flatR l).length:Nat),(l.length:Nat),(l[0]'hl0).1,(l[0]'hl0).2.1,(l[l.length - 1]'(by omega)).2.1⟩:Me) = m:=⟨_,rfl⟩
      have HMY:=Lib.hid (fun i hi hmt=>may_rec hr hl0 n1 hwf m (by cases hm;rfl) (by cases hm;rfl) (by cases hm;rfl) (by cases hm;rfl) i hi hmt)
      obtain ⟨f1,f2,f3,f4,f5⟩:=BloW.row_facts hr hl0
      have hmc:(mcs ⟨(md.toNat:Int),((_root_.Go.Proofs.YtnpncpoiiikafaaGreatDoor.flatR l).length:Nat),(l.length:Nat),(l[0]'hl0).1,(l[0]'hl0).2.1,(l[l.length - 1]'(by omega)).2.1,bd⟩) = mc m:=by rw [← hm];rfl
      have hI1:I64 m.count:=by rw [← hm];unfold I64;dsimp only;omega
      have hI2:I64 m.first:=by rw [← hm];unfold I64;dsimp only;omega
      dsimp only at CP
      rw [hmc] at CP
      clear hen hm hmc hbo f1 f2 f3 f4 f5 hr hraw
      go_wp2_with fail
      refine CP.mono ?_
      clear CP
      rintro e w4 ⟨rfl,hb4⟩
      have HB4:=HB3.trans (hb4.mono HB3.size)
      have SA4:=SA3.below hb4
      clear hb4 SA3 HB HB2 HB3
      have bM:=Blk.new w4 32 (mc m)
      have HB5:=HB4.alloc HB4.size (.cells (mc m) 32)
      have SA5:=SA4.below (w':=w4.alloc (.cells (mc m) 32)) ((Below.refl _ w4).alloc (Nat.le_refl _) _)
      have hw4:=bM.lt
      obtain ⟨wz,hwz⟩:∃ wz,w4.alloc (.cells (mc m) 32) = wz:=⟨_,rfl⟩
      rw [hwz] at bM HB5 SA5 hw4
      go_wp2_with fail
      go_loopw [12] (fun i wr=>∃ k:Nat,i = .int .i64 k∧k≤n∧Below w.heap.size w wr∧Blk wr w4.heap.size 32 (mc m)∧Sv wr g1 n1 zz1) (fun i _=>n - (intOf i).toNat)
      case atStart=>exact ⟨0,rfl,by omega,hwz ▸ HB5,hwz ▸ bM,hwz ▸ SA5⟩
      case round =>
        clear bM HB5 SA5 hw4 hwz SA4 HB4
        obtain ⟨k,rfl,hk,HW,b2,SV⟩:=hrel
        by_cases hlt:k < n
        · have hkl:k < l.length:=by omega
          have hdl:l[k].2.2.length≤100000:=hdat _ (List.getElem_mem hkl)
          obtain ⟨v,hv⟩:∃ v,meetN l[k].1 l[k].2.1 l[k].2.2 n1 = v:=⟨_,rfl⟩
          have hyes:v = true → mayN (sM m.count m.first) (tM m.count m.early m.late) n1 true = true:=fun e=>HMY.out k hkl (hv.trans e)
          have CM:=Lib.hid (fun w' (hx:Below wr.heap.size wr w')=>Meets_yes w' g1 n1 zz1 (SV.below hx) l[k].1 l[k].2.1 l[k].2.2 hdl v hv)
          have CB:=Lib.hid (fun w' (hx:Below wr.heap.size wr w') hy=>Block_yes w' g1 n1 zz1 (SV.below hx) m hI1 hI2 true hy)
          have RC:=Lib.hid (fun (w':World) (hx:Below w.heap.size w w') (b o:Nat) (hA:A = some ⟨b,o,none⟩)=>rd_cell3 (hA ▸ h.below hx) k hkl l[k].1 l[k].2.1 l[k].2.2 rfl)
          obtain ⟨b,o,rfl,hb,_⟩:=rd_recs (h.below HW) (by omega)
          obtain ⟨d0,d1,d2⟩:=RC.out _ HW b o rfl
          have hki:(k:Int) < (n:Int):=by omega
          have hk0:(0:Int)≤(k:Int):=by omega
          have hk1:IntKind.i64.wrap ((k:Int) + 1) = (k:Int) + 1:=w64k (by omega) (by omega)
          have hql:=b2.lt
          have HSV:=Lib.hid SV
          have HR:=Below.refl wr.heap.size wr
          clear SV hv HMY hdl
          obtain ⟨q0,q1,q2,q3,q4,q5,q6⟩:=blk7 b2
          cases v with
          | true =>
            have hy:=hyes rfl
            have CB:=Lib.hid (fun w' hx=>CB.out w' hx hy)
            clear hyes
            go_wp2_with fail
            refine (CM.out _ HR).mono ?_
            clear CM q0 q1 q2 q3 q4 q5 q6 d0 d1 d2
            rintro e w5 ⟨rfl,hb5⟩
            replace b2:=b2.below hb5 b2.lt
            replace HW:=HW.trans (hb5.mono HW.size)
            replace HR:=HR.trans (hb5.mono HR.size)
            obtain ⟨q0,q1,q2,q3,q4,q5,q6⟩:=blk7 b2
            go_wp2_with fail
            refine (CB.out _ HR).mono ?_
            clear CB q0 q1 q2 q3 q4 q5 q6
            rintro e w6 ⟨rfl,hb6⟩
            replace b2:=b2.below hb6 b2.lt
            replace HW:=HW.trans (hb6.mono HW.size)
            replace HR:=HR.trans (hb6.mono HR.size)
            have SV:=HSV.out.below HR
            go_wp2_with fail
            go_roundw
            case rel=>exact ⟨k + 1,by go_num,by omega,HW,b2,SV⟩
            case measure=>simp [intOf];omega
          | false =>
            clear hyes CB
            go_wp2_with fail
            refine (CM.out _ HR).mono ?_
            clear CM q0 q1 q2 q3 q4 q5 q6 d0 d1 d2
            rintro e w5 ⟨rfl,hb5⟩
            replace b2:=b2.below hb5 b2.lt
            replace HW:=HW.trans (hb5.mono HW.size)
            replace HR:=HR.trans (hb5.mono HR.size)
            have SV:=HSV.out.below HR
            go_wp2_with fail
            go_roundw
            case rel=>exact ⟨k + 1,by go_num,by omega,HW,b2,SV⟩
            case measure=>simp [intOf];omega
        · have hki:¬ (k:Int) < (n:Int):=by omega
          go_wp2_with fail
          refine (HA.out _ (hW.below HW)).mono ?_
          rintro e w5 ⟨rfl,hb5⟩
          go_wp2_with fail
          go_ret
          exact ⟨rfl,HW.trans (hb5.mono HW.size)⟩
    · have heb:(er != 0) = true:=by simp [her]
      clear hen hdat
      go_wp2_with fail
      refine (HA.out _ (hW.below HB3)).mono ?_
      rintro e w5 ⟨rfl,hb5⟩
      go_wp2_with fail
      go_ret
      exact ⟨rfl,HB3.trans (hb5.mono HB3.size)⟩
end SieW
end Go.Proofs.YtnpncpoiiikafaaGreatDoor
namespace Go.Proofs.YtnpncpoiiikafaaGreatDoor
open Go.RowKit
namespace SieW
open WanW (Wo)
theorem skips_card (s:ByteArray) (A:Option Addr) (n c:Nat) (l:List Rc) (w:World) (hW:Wo w) (h:Rd w w.heap.size 3 A n (rcells l)) (hok:∀ x ∈ l,RcOk x) (hn:n≤maxLen):Calls Tryz.prog 3 #[.string s,.slice A n c] w fun e w'=>e = .returned (.bool true)∧Below w.heap.size w w':=by
  obtain ⟨l0,rfl,hl⟩:=str_of s
  exact skips_law l0 A n c l w hW h hok hn
end SieW
end Go.Proofs.YtnpncpoiiikafaaGreatDoor
