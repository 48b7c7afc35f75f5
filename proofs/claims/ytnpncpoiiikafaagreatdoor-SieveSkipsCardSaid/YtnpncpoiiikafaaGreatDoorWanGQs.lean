/- WanG -/
import Derived.Test.YtnpncpoiiikafaaGreatDoorAppQs
import Derived.Test.YtnpncpoiiikafaaGreatDoorBldQs
import Derived.Lib.OthersKept
import Derived.Lib.AppendIntMem
import Derived.Lib.SmallJoins
set_option linter.unusedVariables false
set_option linter.unusedSimpArgs false
set_option linter.unnecessarySimpa false
namespace Go.Proofs.YtnpncpoiiikafaaGreatDoor
open Go.RowKit
namespace WanW
open Bld (Bl)
set_option maxHeartbeats 2000000 in
set_option maxRecDepth 100000 in
theorem byte_any (B b:Nat) (l:List UInt8) (c:UInt8) (w:World) (h:Bl B b l w) (hlen:l.length + 1≤1000000) (hBw:B≤w.heap.size) :
    Calls Tryz.prog 73 #[.pointer (some ⟨b,0,none⟩),byt c] w fun e w'=>e = .returned .nilIface∧Bl B b (l ++ [c]) w'∧Below B w w':=by
  obtain ⟨i0,hi,hz0,hz1,hz2⟩:=info_parts Bld.infoByte
  obtain ⟨n,hn⟩:∃ n:Int,(c.toNat:Int) = n:=⟨_,rfl⟩
  have hby:byts (l ++ [c]) = byts l ++ [.int .u8 n]:=by subst hn;simp [byts,byt]
  have HBY:=Lib.hid hby
  clear hby
  rw [show byt c = .int .u8 n by rw [byt,hn]]
  clear hn
  go_enter Tryz.func73,Tryz.ntmps73
  go_wp2_with fail
  refine (Bld.copyCheck_any B b (byts l) _ h).mono ?_
  rintro e w1 ⟨rfl,h1,hb1⟩
  obtain ⟨hB,v,hbk,hown,hne⟩:=h1
  have hl:(byts l).length = l.length:=by simp [byts]
  rw [hl] at hown
  have c0:w1.cell? ⟨b,0,none⟩ = some (.pointer (some ⟨b,0,none⟩)):=by rw [Lib.cell_of_heap hbk];rfl
  have c1:w1.cell? ⟨b,1,none⟩ = some v:=by rw [Lib.cell_of_heap hbk];rfl
  clear hl
  have hlt:b < w1.heap.size:=by
    rcases Nat.lt_or_ge b w1.heap.size with h' | h'
    · exact h'
    · simp [Array.getElem?_eq_none h'] at hbk
  have hs1:=hb1.size
  obtain ⟨A,cp,rfl⟩:∃ A cp,v = .slice A l.length cp:=by
    rcases hown.2 with ⟨hv,h0⟩ | ⟨g,cap,cur,hv,_⟩
    · exact ⟨none,0,by rw [hv,h0]⟩
    · exact ⟨_,_,hv⟩
  have ho:Own w1 B 5 1 A l.length cp (byts l):=hown
  have hal:=ho.alloc (.cells #[.int .u8 n] 5)
  have hrd:Rd (w1.alloc (.cells [.int .u8 n].toArray 5)) (w1.heap.size + 1) 1 (some ⟨w1.heap.size,0,none⟩) 1 [.int .u8 n]:=rd_new rfl rfl
  go_wp2_with (at_builtin;refine wp_append El_u8 rfl rfl rfl hal rfl hrd (by intro u hu;obtain rfl:=List.mem_singleton.1 hu;rfl) (by unfold maxLen;omega) (by omega) (by simp;omega) ?_)
  intro A' c' w2 ho2 hg2 at2
  have hgrow:=World.grownBy_alloc w1 (.cells #[.int .u8 n] 5) (blkOf A) |>.trans hg2
  have hb2:w2.heap[b]? = some (.cells #[.pointer (some ⟨b,0,none⟩),.slice A l.length cp] 78 (0,0)):=by
    rw [hgrow.block b hlt (by rw [← ownBlock_slice A l.length cp];exact fun e=>hne e.symm)]
    exact hbk
  have d0:w2.cell? ⟨b,0,none⟩ = some (.pointer (some ⟨b,0,none⟩)):=by rw [Lib.cell_of_heap hb2];rfl
  have d1:w2.cell? ⟨b,1,none⟩ = some (.slice A l.length cp):=by rw [Lib.cell_of_heap hb2];rfl
  have f1:w2.frozen? ⟨b,1,none⟩ = false:=Lib.frozen_of_heap hb2 1
  have HG:=Lib.hid hgrow
  have HO:=Lib.hid ho2
  clear hgrow ho2 hg2 at2 hrd hal hown hbk
  go_wp2_with fail
  go_ret
  have ho3:=HO.out
  rw [← HBY.out] at ho3
  have e1:l.length + 1 = (byts (l ++ [c])).length:=by simp [byts]
  refine ⟨rfl,.inr ?_,?_⟩
  · have h4:w2.ownsRow B 5 1 (.slice A' (l.length + 1) c') (byts (l ++ [c])).length (byts (l ++ [c])):=by
      rw [← e1];exact ho3
    exact Lib.BuilderAt.put hB hb2 h4 (by decide)
  · have hb3:Below B w w2:=Below.grown hb1 HG.out (by have:=hb1.size;omega) (fun k hk=>(ho.blk k hk).1)
    exact hb3.setCell (p:=⟨b,1,none⟩) hB _
theorem bl_text (B b:Nat) (l:List UInt8) (w:World) (h:Bl B b l w) (hBw:B≤w.heap.size) :
    Calls Tryz.prog 33 #[.pointer (some ⟨b,0,none⟩)] w fun e w'=>e = .returned (str l)∧Below B w w':=Tryz.Builder_String_any B b l w h hBw
def sixteenB:ByteArray:=⟨#[48,49,50,51,52,53,54,55,56,57,97,98,99,100,101,102]⟩
theorem sixteen_at (a:Nat) (h:a < 16):(sixteenB[a]'h) = digB a:=by
  have:∀ a:Fin 16,(sixteenB[a.1]'a.2) = digB a.1:=by decide
  exact this ⟨a,h⟩
set_option maxRecDepth 100000 in
set_option maxHeartbeats 4000000 in
theorem hex_any (s:List UInt8) (w:World) (hs:s.length≤100000):Calls Tryz.prog 49 #[str s] w fun e w'=>e = .returned (str (hexL s))∧Below w.heap.size w w':=by
  obtain ⟨S,hS⟩:∃ S:ByteArray,(⟨s.toArray⟩:ByteArray) = S:=⟨_,rfl⟩
  have HS:=Lib.hid hS
  have hsz:S.size = s.length:=by rw [← hS];simp [ByteArray.size]
  have HB0:=Bl.fresh w
  have HBL:=(Below.refl w.heap.size w).alloc (Nat.le_refl _) (.cells #[.pointer none,.slice none 0 0] 78)
  go_enter Tryz.func49,Tryz.ntmps49
  go_wp2_with fail
  go_loopw [4] (fun i wr=>∃ k:Nat,i = .int .i64 k∧k≤s.length∧Bl w.heap.size w.heap.size (hexL (s.take k)) wr∧Below w.heap.size w wr) (fun i _=>s.length - (intOf i).toNat)
  case atStart=>exact ⟨0,rfl,by omega,by simpa [hexL] using HB0,HBL⟩
  case round =>
    obtain ⟨k,rfl,hk,o2,HB⟩:=hrel
    clear HB0 HBL
    have hsz2:=HB.size
    by_cases hlt:k < s.length
    · have hkI:(k:Int) < (s.length:Int):=by omega
      have hk0:(0:Int)≤(k:Int):=by omega
      have hkS:k < S.size:=by rw [hsz];exact hlt
      obtain ⟨x,hx⟩:∃ x,S[k] = x:=⟨_,rfl⟩
      have hx2:s[k] = x:=by
        rw [← hx]
        subst hS
        rfl
      obtain ⟨m,hm⟩:∃ m:Nat,x.toNat = m:=⟨_,rfl⟩
      have hm256:m < 256:=by rw [← hm];exact x.toNat_lt
      have HN:=Lib.hid (show hexL (s.take (k + 1)) = hexL (s.take k) ++ [digB (m / 16),digB (m % 16)] by rw [List.take_succ_eq_append_getElem hlt,hexL_snoc,hx2,hm])
      have hadd:IntKind.i64.wrap ((k:Int) + 1) = (k:Int) + 1:=w64k (by omega) (by omega)
      have hl1:=hexL_len (s.take k)
      have hl2:(s.take k).length≤s.length:=by rw [List.length_take];omega
      have ha:m / 16 < 16:=by omega
      have hb:m % 16 < 16:=by omega
      have HX1:=Lib.hid (sixteen_at (m / 16) ha)
      have HX2:=Lib.hid (sixteen_at (m % 16) hb)
      go_wp2_with fail
      refine (byte_any _ _ _ _ _ o2 (by omega) hsz2).mono ?_
      rintro e w1 ⟨rfl,o3,hb1⟩
      have hs1:=hb1.size
      go_wp2_with fail
      refine (byte_any _ _ _ _ _ o3 (by simp;omega) (by omega)).mono ?_
      rintro e w2 ⟨rfl,o4,hb2⟩
      go_wp2_with fail
      go_roundw
      case rel =>
        refine ⟨k + 1,by go_num,by omega,?_,(HB.trans hb1).trans hb2⟩
        rw [HN.out,← HX1.out,← HX2.out]
        rw [List.append_assoc] at o4
        exact o4
      case measure=>simp [intOf];omega
    · have hkI:¬ (k:Int) < (s.length:Int):=by omega
      rw [List.take_of_length_le (by omega)] at o2
      go_wp2_with fail
      refine (bl_text _ _ _ _ o2 hsz2).mono ?_
      rintro e w1 ⟨rfl,hb1⟩
      go_wp2_with fail
      go_ret
      exact ⟨rfl,HB.trans hb1⟩
end WanW
end Go.Proofs.YtnpncpoiiikafaaGreatDoor
namespace Go.Proofs.YtnpncpoiiikafaaGreatDoor
open Go.RowKit
namespace WanW
def dg (b:UInt8):Nat:=(digV (b.toNat:Int)).toNat
def hexB (b:UInt8):Bool:=decide (0≤digV (b.toNat:Int))
def unpair:List UInt8 → List UInt8
  | a :: b :: r=>UInt8.ofNat (16 * dg a + dg b) :: unpair r
  | _=>[]
theorem unpair_app:∀ (n:Nat) (l:List UInt8) (a b:UInt8),l.length = 2 * n → unpair (l ++ [a,b]) = unpair l ++ [UInt8.ofNat (16 * dg a + dg b)]:=by
  intro n
  induction n with
  | zero=>intro l a b h;obtain rfl:=List.length_eq_zero_iff.1 (by simpa using h);rfl
  | succ n ih =>
    intro l a b h
    match l,h with
    | x :: y :: l,h =>
      show UInt8.ofNat (16 * dg x + dg y) :: unpair (l ++ [a,b]) = _
      rw [ih l a b (by simp at h;omega)]
      rfl
theorem digV_lt (r:Int):digV r < 16:=by unfold digV;split <;> (try split) <;> omega
theorem dg_lt (b:UInt8):dg b < 16:=by have:=digV_lt (b.toNat:Int);unfold dg;omega
def unhexV (s:List UInt8):List UInt8 × Bool:=if s.length % 2 = 1 ∨ s.all hexB = false then ([],false) else (unpair s,true)
theorem unhexV_no {s:List UInt8} (h:s.length % 2 = 1 ∨ s.all hexB = false):unhexV s = ([],false):=by rw [unhexV,if_pos h]
theorem unhexV_yes {s:List UInt8} (h:¬ (s.length % 2 = 1 ∨ s.all hexB = false)):unhexV s = (unpair s,true):=by rw [unhexV,if_neg h]
theorem all_no (s:List UInt8) (f:UInt8 → Bool) (k:Nat) (hk:k < s.length) (h:f s[k] = false):s.all f = false:=by
  rw [Bool.eq_false_iff]
  intro hh
  rw [List.all_eq_true.1 hh _ (List.getElem_mem hk)] at h
  cases h
theorem run_made0 {P:Program} (t e:TypeId) (z:Value) (size bytes:Nat) (ht:P.underlying t = some (.slice e)) (hinfo:(P.info? e).map (fun i=>(i.zero,i.size,i.bytes)) = some (some z,size,bytes))
    (c:Nat) (hbytes:bytes * c≤281474976710656) (h63:c≤9223372036854775807) (w:World) :
    (Instr.makeSlice t (.int .i64 0) (.int .i64 (c:Int))).run P w = .ok (.slice (some ⟨w.heap.size,0,none⟩) 0 c) (w.alloc (.cells (madeCells z.cells (c * size)) e)):=by
  obtain ⟨i,hi,hzz⟩:=Option.map_eq_some_iff.1 hinfo
  simp only [Prod.mk.injEq] at hzz
  obtain ⟨hz,hs,hb⟩:=hzz
  have hb':(i.bytes:Int) * (c:Int)≤281474976710656:=by
    have h:((i.bytes * c:Nat):Int)≤281474976710656:=by rw [hb];omega
    rwa [Int.natCast_mul] at h
  have hr:=run_make (P:=P) w t e i z ht hi hz .i64 .i64 0 c (by omega) (by omega) hb' (by omega)
  simp only [Int.toNat_natCast,hs,Int.toNat_zero] at hr
  exact hr
theorem own_ne_iter {w:World} {base e size n c k pos:Nat} {A:Option Addr} {xs:List Value} {S:ByteArray} (h:Own w base e size A n c xs) (hk:w.heap[k]? = some (.stringIter S pos)):blkOf A ≠ some k:=by
  rcases h.2 with ⟨hv,_⟩ | ⟨g,cap,cur,hv,_,hg,_⟩
  · simp only [Value.slice.injEq] at hv
    obtain ⟨rfl,_⟩:=hv
    simp [blkOf]
  · simp only [Value.slice.injEq] at hv
    obtain ⟨rfl,_⟩:=hv
    intro e
    simp only [blkOf,Option.map_some,Option.some.injEq] at e
    subst e
    rw [hg] at hk
    cases hk
theorem grown_iterAt (w:World) (k:Nat) (S:ByteArray) (pos:Nat):w.grownBy (w.iterAt k S pos) (some k) :=
  ⟨rfl,rfl,rfl,by rw [Lib.iterAt_size];exact Nat.le_refl _,fun j _ hne=>Lib.iterAt_other w k j S pos (fun e=>hne (by rw [e]))⟩
set_option maxRecDepth 100000 in
set_option maxHeartbeats 4000000 in
theorem unhex_any (s:List UInt8) (w:World) (v:List UInt8) (b:Bool) (hv:unhexV s = (v,b)) (hs:s.length≤100000):Calls Tryz.prog 99 #[str s] w fun e w'=>e = .returned (.tuple #[str v,.bool b])∧Below w.heap.size w w':=by
  have HNO:=Lib.hid (fun h=>(unhexV_no (s:=s) h).symm.trans hv)
  have HYES:=Lib.hid (fun h=>(unhexV_yes (s:=s) h).symm.trans hv)
  clear hv
  obtain ⟨S,hS⟩:∃ S:ByteArray,(⟨s.toArray⟩:ByteArray) = S:=⟨_,rfl⟩
  have HS:=Lib.hid hS
  have hsz:S.size = s.length:=by rw [← hS];simp [ByteArray.size]
  by_cases ho:s.length % 2 = 1
  · obtain ⟨rfl,rfl⟩:=Prod.mk.inj (HNO.out (.inl ho))
    have t1:Int.tmod (s.length:Int) 2 = 1:=by rw [Int.tmod_eq_emod_of_nonneg (by omega)];omega
    go_enter Tryz.func99,Tryz.ntmps99
    go_wp2_with fail
    go_ret2
    exact ⟨rfl,Below.refl _ _⟩
  · obtain ⟨h2,hh2⟩:∃ h2,s.length / 2 = h2:=⟨_,rfl⟩
    have t1:Int.tmod (s.length:Int) 2 = 0:=by rw [Int.tmod_eq_emod_of_nonneg (by omega)];omega
    have t2:Int.tdiv (s.length:Int) 2 = (h2:Int):=by rw [Int.tdiv_eq_ediv_of_nonneg (by omega)];omega
    have t3:IntKind.i64.wrap (h2:Int) = (h2:Int):=w64k (by omega) (by omega)
    have hmk:=run_made0 (P:=Tryz.prog) 62 5 (.int .u8 0) 1 1 Tryz.underlying62 (by kernel_rfl) h2 (by omega) (by omega) w
    have HB0:=(Below.refl w.heap.size w).alloc (Nat.le_refl _) (.cells (madeCells (Value.int .u8 0).cells (h2 * 1)) 5)
    have HO0:=own_made (W0:=w) (t:=5) (base:=w.heap.size) (g:=w.heap.size) (n:=0) (c:=h2) (size:=1) (cs:=madeCells (Value.int .u8 0).cells (h2 * 1)) rfl (by omega) (by simp [madeCells]) (Nat.le_refl _) (by unfold maxLen;omega)
    obtain ⟨w0,hw0⟩:∃ w0,w.alloc (.cells (madeCells (Value.int .u8 0).cells (h2 * 1)) 5) = w0:=⟨_,rfl⟩
    have hsz0:w0.heap.size = w.heap.size + 1:=by rw [← hw0];simp
    rw [hw0] at hmk HB0 HO0
    clear hw0
    go_enter Tryz.func99,Tryz.ntmps99
    go_wp2_with fail
    go_loopw [4,5] (fun o4 o5 wr=>∃ (k c2 q d:Nat) (A2:Option Addr),o4 = .slice A2 q c2∧o5 = .int .i64 (d:Int)∧d < 16∧q≤k∧k≤s.length∧Own wr w.heap.size 5 1 A2 q c2 (byts (unpair (s.take (2 * (k / 2)))))∧(s.take k).all hexB = true∧(k % 2 = 1 → dg (s[k - 1]?.getD 0) = d)∧wr.heap[w.heap.size + 1]? = some (.stringIter S k)∧Below w.heap.size w wr) (fun _ _ wr=>s.length - wr.iterPos (w.heap.size + 1))
    case atStart=>exact ⟨0,h2,0,0,_,rfl,rfl,by omega,by omega,by omega,by have:=HO0.alloc (.stringIter S 0);simp [unpair,byts] at this ⊢;exact this,rfl,by simp,by rw [← hsz0];exact heap_alloc_new w0 _,HB0.alloc (by omega) _⟩
    case round =>
      obtain ⟨k,c2,q,d,A2,rfl,rfl,hd16,hqk,hk,ho2,hall,hdg,hit,HB⟩:=hrel
      have HALL:=Lib.hid hall
      have HDG:=Lib.hid hdg
      clear hall hdg HO0 HB0 hmk
      have hsz1:=HB.size
      have hit1:w.heap.size + 1 < wr.heap.size:=(Array.getElem?_eq_some_iff.1 hit).1
      have hne:=own_ne_iter ho2 hit
      by_cases hlt:k < s.length
      · have hkS:k < S.size:=by rw [hsz];exact hlt
        obtain ⟨x,hx⟩:∃ x,S[k] = x:=⟨_,rfl⟩
        have hx2:s[k] = x:=by
          rw [← hx]
          subst hS
          rfl
        obtain ⟨m,hm⟩:∃ m:Nat,x.toNat = m:=⟨_,rfl⟩
        have HDN:=Lib.hid (fun hd:hexB x = false=>HNO.out (.inr (all_no s hexB k hlt (by rw [hx2];exact hd))))
        by_cases ha:m < 128
        · have hnx:=fun ty=>Lib.run_next_ascii_at (P:=Tryz.prog) wr (w.heap.size + 1) S k ty hit hkS (by rw [hx,hm];exact ha)
          rw [hx,hm] at hnx
          have hit2:=Lib.iterAt_heap wr (w.heap.size + 1) S k (k + 1) hit
          have HB2:=Lib.below_iterAt HB (k:=w.heap.size + 1) (by omega) S (k + 1)
          have ho3:=ho2.grown (grown_iterAt wr (w.heap.size + 1) S (k + 1)) (.inr hne)
          have hszw:wr.heap.size≤(wr.iterAt (w.heap.size + 1) S (k + 1)).heap.size:=Nat.le_of_eq (Lib.iterAt_size _ _ _ _).symm
          obtain ⟨w1,hw1⟩:∃ w1,wr.iterAt (w.heap.size + 1) S (k + 1) = w1:=⟨_,rfl⟩
          rw [hw1] at hnx hit2 HB2 ho3 hszw
          have HX2:=Lib.hid hx2
          have hit0:=Lib.hid hit
          clear hx hx2 hw1 ho2 hit
          obtain ⟨z,hz⟩:∃ z,digV (m:Int) = z:=⟨_,rfl⟩
          have hzlt:z < 16:=by rw [← hz];exact digV_lt _
          have C:=fun w=>digit_any (m:Int) (by omega) (by omega) w z hz
          by_cases q1:z < 0
          · obtain ⟨rfl,rfl⟩:=Prod.mk.inj (HDN.out (by simp only [hexB,hm,hz];simp;omega))
            go_wp2_with (go_at_call 122;refine (C _).mono ?_;rintro e w2 ⟨rfl,hq⟩;subst w2)
            try rw [Exit.noGoto_ret]
            go_ret2
            exact ⟨rfl,HB2⟩
          · obtain ⟨zn,rfl⟩:∃ zn:Nat,z = (zn:Int):=⟨z.toNat,by omega⟩
            have HDX:=Lib.hid (show dg x = zn by unfold dg;rw [hm,hz];omega)
            have HA:=Lib.hid (show (s.take (k + 1)).all hexB = true by rw [List.take_succ_eq_append_getElem hlt,List.all_append,HALL.out,HX2.out];simp [hexB,hm,hz])
            have HD1:=Lib.hid (show dg (s[k + 1 - 1]?.getD 0) = zn by rw [show k + 1 - 1 = k by omega,List.getElem?_eq_getElem hlt,Option.getD_some,HX2.out];exact HDX.out)
            rcases Nat.mod_two_eq_zero_or_one k with he | he
            · have t4:Int.tmod (k:Int) 2 = 0:=by rw [Int.tmod_eq_emod_of_nonneg (by omega)];omega
              go_wp2_with (go_at_call 122;refine (C _).mono ?_;rintro e w2 ⟨rfl,hq⟩;subst w2)
              go_roundw
              case rel=>exact ⟨k + 1,c2,q,zn,A2,rfl,rfl,by omega,by omega,by omega,by rw [show (k + 1) / 2 = k / 2 by omega];exact ho3,HA.out,fun _=>HD1.out,hit2,HB2⟩
              case measure=>simp only [World.iterPos,hit2,hit0.out];omega
            · have t4:Int.tmod (k:Int) 2 = 1:=by rw [Int.tmod_eq_emod_of_nonneg (by omega)];omega
              have t5:IntKind.i64.wrap (16 * (d:Int)) = 16 * (d:Int):=w64k (by omega) (by omega)
              have t6:IntKind.i64.wrap (16 * (d:Int) + (zn:Int)) = 16 * (d:Int) + (zn:Int):=w64k (by omega) (by omega)
              have t7:IntKind.u8.wrap (16 * (d:Int) + (zn:Int)) = 16 * (d:Int) + (zn:Int):=by rw [IntKind.wrap_u8];omega
              have hrd:Rd (w1.alloc (.cells [Value.int .u8 (16 * (d:Int) + (zn:Int))].toArray 5)) (w1.heap.size + 1) 1 (some ⟨w1.heap.size,0,none⟩) 1 [.int .u8 (16 * (d:Int) + (zn:Int))]:=rd_new rfl rfl
              have hal:=ho3.alloc (.cells #[.int .u8 (16 * (d:Int) + (zn:Int))] 5)
              have hone:∀ u ∈ [Value.int .u8 (16 * (d:Int) + (zn:Int))],u.oneCell' = true:=by intro u hu;rw [List.mem_singleton.1 hu];rfl
              have HU:=Lib.hid (show byts (unpair (s.take (2 * ((k + 1) / 2)))) = byts (unpair (s.take (2 * (k / 2)))) ++ [.int .u8 (16 * (d:Int) + (zn:Int))] by
                have e1:2 * ((k + 1) / 2) = k - 1 + 1 + 1:=by omega
                have e2:2 * (k / 2) = k - 1:=by omega
                have e3:s.take (k - 1 + 1 + 1) = s.take (k - 1) ++ [s[k - 1]'(by omega),x]:=by
                  rw [List.take_succ_eq_append_getElem (by omega),List.take_succ_eq_append_getElem (by omega),List.append_assoc]
                  simp only [show k - 1 + 1 = k by omega,HX2.out,List.singleton_append]
                rw [e1,e2,e3,unpair_app (k / 2) _ _ _ (by rw [List.length_take];omega)]
                have e4:dg (s[k - 1]'(by omega)) = d:=by
                  have:=HDG.out he
                  rwa [List.getElem?_eq_getElem (by omega),Option.getD_some] at this
                rw [e4,HDX.out]
                simp only [byts,List.map_append,List.map_cons,List.map_nil,byt]
                congr 2
                rw [UInt8.toNat_ofNat']
                congr 1)
              go_wp2_with (first | (go_at_call 122;refine (C _).mono ?_;rintro e w2 ⟨rfl,hq⟩;subst w2) | (at_builtin;(refine wp_append El_u8 rfl rfl rfl hal rfl hrd hone (by unfold maxLen;omega) (by omega) (by simp;omega) ?_;intro A' c' w2 ho4 hg2 at2)))
              have hg3:=(World.grownBy_alloc w1 (.cells #[.int .u8 (16 * (d:Int) + (zn:Int))] 5) (blkOf A2)).trans hg2
              rw [← HU.out] at ho4
              have hit3:w2.heap[w.heap.size + 1]? = some (.stringIter S (k + 1)):=by rw [hg3.block _ (by omega) (fun e=>hne e.symm)];exact hit2
              have HB3:=below_grown HB2 hg3 ho3 (Nat.le_refl _)
              clear hg2 at2 hal hrd
              go_wp2_with fail
              go_roundw
              case rel=>exact ⟨k + 1,c',q + 1,zn,A',rfl,rfl,by omega,by omega,by omega,ho4,HA.out,fun _=>HD1.out,hit3,HB3⟩
              case measure=>simp only [World.iterPos,hit3,hit0.out];omega
        · have hnx:=fun ty=>Lib.run_next_any_at (P:=Tryz.prog) wr (w.heap.size + 1) S k ty hit hkS
          obtain ⟨hd1,-⟩:=decode_high S k hkS (by rw [hx,hm];omega)
          have hd2:=decode_le S k
          have HB2:=Lib.below_iterAt HB (k:=w.heap.size + 1) (by omega) S (k + (Utf8.decode S k).2)
          obtain ⟨w1,hw1⟩:∃ w1,wr.iterAt (w.heap.size + 1) S (k + (Utf8.decode S k).2) = w1:=⟨_,rfl⟩
          rw [hw1] at hnx HB2
          clear hw1
          obtain ⟨r,hr⟩:∃ r,(Utf8.decode S k).1 = r:=⟨_,rfl⟩
          rw [hr] at hnx hd1 hd2
          have C:=fun w=>digit_any (r:Int) (by omega) (by omega) w (-1) (by unfold digV;rw [if_neg (by omega),if_neg (by omega)])
          obtain ⟨rfl,rfl⟩:=Prod.mk.inj (HDN.out (by unfold hexB digV;rw [hm,if_neg (by omega),if_neg (by omega)];rfl))
          clear hx hx2 hr ho2 hit
          go_wp2_with (go_at_call 122;refine (C _).mono ?_;rintro e w2 ⟨rfl,hq⟩;subst w2)
          try rw [Exit.noGoto_ret]
          go_ret2
          exact ⟨rfl,HB2⟩
      · have hnx:=fun ty=>Lib.run_next_end_at (P:=Tryz.prog) wr (w.heap.size + 1) S k ty hit (by rw [hsz];exact hlt)
        have e2:=HALL.out
        rw [List.take_of_length_le (by omega)] at e2
        rw [List.take_of_length_le (by omega)] at ho2
        obtain ⟨rfl,rfl⟩:=Prod.mk.inj (HYES.out (by rintro (hh | hh);exact ho hh;rw [e2] at hh;cases hh))
        have hcv:=run_bytes_str (P:=Tryz.prog) wr Tryz.underlying62 Tryz.underlying5 Tryz.underlying9 (c:=c2) ho2.rd
        clear e2 ho2
        go_wp2_with fail
        go_ret2
        exact ⟨rfl,HB⟩
end WanW
end Go.Proofs.YtnpncpoiiikafaaGreatDoor
namespace Go.Proofs.YtnpncpoiiikafaaGreatDoor
open Go.RowKit
namespace WanW
structure Wo (w:World):Prop where
  cut:∃ m,w.cell? ⟨1,0,none⟩ = some (.int .i64 m)
  tab : Lib.TabIs Tryz.prog w "internal/strconv.uint64pow10" .u64 Lib.pow10Tab
theorem gPow : Tryz.prog.globalNamed "internal/strconv.uint64pow10" = some 0 := by kernel_rfl
theorem Wo.below {w w':World} (h:Wo w) (hb:Below w.heap.size w w'):Wo w' :=
  ⟨by
    obtain ⟨m,hm⟩:=h.cut
    exact ⟨m,(hb.cell (p:=⟨1,0,none⟩) (World.block_lt_of_cell? w _ hm)).trans hm⟩,Joins.tab_stays gPow h.tab hb (Nat.le_refl _)⟩
def bef (c:UInt8) (s:List UInt8):List UInt8:=s.takeWhile (· != c)
def aft (c:UInt8) (s:List UInt8):List UInt8:=(s.dropWhile (· != c)).tail
theorem index_one (c:UInt8) (s:List UInt8):Lib.index s [c] = if s.contains c then ((bef c s).length:Int) else -1:=by
  induction s with
  | nil=>rfl
  | cons b s ih =>
    unfold Lib.index
    by_cases h:c = b
    · subst h;simp [bef,List.isPrefixOf]
    · have h2:(b != c) = true:=by simp;exact fun e=>h e.symm
      have h3:[c].isPrefixOf (b :: s) = false:=by simp [List.isPrefixOf,h]
      rw [h3,ih]
      have h4:(b :: s).contains c = s.contains c:=by simp [List.contains_cons,h]
      have h5:bef c (b :: s) = b :: bef c s:=by simp [bef,List.takeWhile_cons,h2]
      rw [h4,h5]
      cases s.contains c <;> simp <;> try omega
theorem bef_aft (c:UInt8) (s:List UInt8):(s.contains c = true → s = bef c s ++ c :: aft c s)∧(s.contains c = false → bef c s = s∧aft c s = []):=by
  induction s with
  | nil=>simp [bef,aft]
  | cons b s ih =>
    by_cases h:b = c
    · subst h;simp [bef,aft]
    · have h2:(b != c) = true:=by simp;exact h
      have h4:(b :: s).contains c = s.contains c:=by simp [List.contains_cons];intro e;exact absurd e.symm h
      have h5:bef c (b :: s) = b :: bef c s:=by simp [bef,List.takeWhile_cons,h2]
      have h6:aft c (b :: s) = aft c s:=by simp [aft,List.dropWhile_cons,h2]
      rw [h4,h5,h6]
      exact ⟨fun e=>by rw [List.cons_append,← ih.1 e],fun e=>by rw [(ih.2 e).1,(ih.2 e).2];exact ⟨rfl,rfl⟩⟩
theorem cut_one (c:UInt8) (s:List UInt8):Lib.cut s [c] = (bef c s,aft c s,s.contains c):=by
  have hba:=bef_aft c s
  unfold Lib.cut
  rw [index_one]
  cases h:s.contains c
  · rw [(hba.2 h).1,(hba.2 h).2];rfl
  · have e:=hba.1 h
    rw [if_pos rfl,if_pos (by omega)]
    simp only [Int.toNat_natCast,List.length_singleton]
    have e1:s.take (bef c s).length = bef c s:=by
      have h1:=congrArg (List.take (bef c s).length) e
      rw [h1]
      simp
    have e2:s.drop ((bef c s).length + 1) = aft c s:=by
      have h1:=congrArg (List.drop ((bef c s).length + 1)) e
      rw [h1,← List.drop_drop]
      simp
    rw [e1,e2]
theorem bef_le (c:UInt8) (s:List UInt8):(bef c s).length≤s.length:=by unfold bef;exact (List.takeWhile_sublist _).length_le
theorem aft_le (c:UInt8) (s:List UInt8):(aft c s).length≤s.length:=by
  unfold aft
  rw [List.length_tail]
  have:=(List.dropWhile_sublist (p:=(· != c)) (l:=s)).length_le
  omega
theorem cut_any (s:List UInt8) (c:UInt8) (w:World) (h:Wo w) (hs:s.length≤100000) :
    Calls Tryz.prog 97 #[str s,.string ⟨#[c]⟩] w fun e w'=>e = .returned (.tuple #[str (bef c s),str (aft c s),.bool (s.contains c)])∧Below w.heap.size w w':=by
  obtain ⟨m,hm⟩:=h.cut
  refine (Tryz.strings_Cut ⟨s.toArray⟩ ⟨#[c]⟩ m w (by show s.toArray.size < _;simp;omega) hm).mono ?_
  rintro e w' ⟨rfl,n,rfl⟩
  refine ⟨?_,(Below.refl _ _).drewN_ n⟩
  show Ending.returned (Value.tuple #[.string ⟨(Lib.cut s [c]).1.toArray⟩,.string ⟨(Lib.cut s [c]).2.1.toArray⟩,.bool (Lib.cut s [c]).2.2]) = _
  rw [cut_one]
theorem decL_dec (n:Nat):Lib.decDigits n = decL n:=by
  induction n using Nat.strongRecOn with
  | ind n ih =>
    rw [Lib.decDigits,decL]
    by_cases h:n < 10
    · rw [dif_pos h,dif_pos h]
    · rw [dif_neg h,dif_neg h,ih (n / 10) (by omega)]
theorem itoa_any (n:Int) (h0:0≤n) (h1:n≤1000000001) (w:World) (h:Wo w) :
    Calls Tryz.prog 48 #[.int .i64 n] w fun e w'=>e = .returned (str (decL n.toNat))∧Below w.heap.size w w':=by
  refine (Tryz.strconv_Itoa n (by omega) (by omega) w h.tab).mono ?_
  rintro e w' ⟨rfl,k,os,rfl⟩
  refine ⟨?_,Lib.below_grow _ w (Nat.le_refl _) k os⟩
  rw [Lib.itoa,if_neg (by omega),decL_dec]
def hi2 (s:List UInt8):Int:=(numV (aft 45 s)).1
end WanW
end Go.Proofs.YtnpncpoiiikafaaGreatDoor
