/- WanP -/
import Derived.Test.YtnpncpoiiikafaaGreatDoorMemQs
import Derived.Laws.RangeAny
import Derived.LoopTactic
set_option linter.unusedVariables false
set_option linter.unusedSimpArgs false
set_option linter.unnecessarySimpa false
namespace Go.Proofs.YtnpncpoiiikafaaGreatDoor
open Go.RowKit
namespace WanW
theorem w64k {x:Int} (h1:-4611686018427387904≤x) (h2:x≤4611686018427387904):IntKind.i64.wrap x = x:=by rw [IntKind.wrap_i64];omega
def decB (b:UInt8):Bool:=decide (48≤b.toNat) && decide (b.toNat≤57)
def numN (s:List UInt8):Nat:=s.foldl (fun n b=>10 * n + (b.toNat - 48)) 0
theorem numN_snoc (s:List UInt8) (b:UInt8):numN (s ++ [b]) = 10 * numN s + (b.toNat - 48):=by simp [numN]
theorem numN_lt (s:List UInt8) (h:s.all decB = true):numN s < 10 ^ s.length:=by
  suffices ∀ n (s:List UInt8),s.length = n → s.all decB = true → numN s < 10 ^ s.length from this _ s rfl h
  intro n
  induction n with
  | zero=>intro s h _;obtain rfl:=List.length_eq_zero_iff.1 h;simp [numN]
  | succ n ih =>
    intro s h h2
    obtain ⟨a,x,rfl⟩:∃ a x,s = a ++ [x]:=⟨s.dropLast,s.getLast (by intro e;subst e;simp at h),(List.dropLast_concat_getLast _).symm⟩
    rw [List.all_append,Bool.and_eq_true] at h2
    have:=ih a (by simpa using h) h2.1
    have hx:=h2.2
    simp [decB] at hx
    rw [numN_snoc,List.length_append,List.length_singleton,Nat.pow_succ]
    omega
def numV (s:List UInt8):Int × Bool :=
  if s.length = 0 ∨ 10 < s.length ∨ (1 < s.length∧s[0]?.getD 0 = 48) ∨ s.all decB = false ∨ 1000000001 < numN s then (0,false) else ((numN s:Int),true)
def digN (n:Nat):Nat:=if n < 10 then 48 + n else 87 + n
def digV (r:Int):Int:=if 48≤r∧r≤57 then r - 48 else if 97≤r∧r≤102 then r - 87 else -1
end WanW
end Go.Proofs.YtnpncpoiiikafaaGreatDoor
namespace Go.Proofs.YtnpncpoiiikafaaGreatDoor
open Go.RowKit
namespace WanW
theorem digit_any (r:Int) (h0:0≤r) (h1:r≤2147483647) (w:World) (v:Int) (hv:digV r = v):Calls Tryz.prog 122 #[.int .i32 r] w fun e w'=>e = .returned (.int .i64 v)∧w' = w:=by
  have hc:(48≤r∧r≤57) ∨ (48≤r∧¬ r≤57∧97≤r∧r≤102) ∨ (48≤r∧¬ r≤57∧¬ 97≤r) ∨ (48≤r∧¬ r≤57∧97≤r∧¬ r≤102) ∨ (¬ 48≤r∧¬ 97≤r):=by omega
  have w1:IntKind.i32.wrap (r - 48) = r - 48:=by rw [IntKind.wrap_i32];omega
  have w2:IntKind.i32.wrap (r - 97) = r - 97:=by rw [IntKind.wrap_i32];omega
  have w3:IntKind.i64.wrap (r - 48) = r - 48:=w64k (by omega) (by omega)
  have w4:IntKind.i64.wrap (r - 97) = r - 97:=w64k (by omega) (by omega)
  have w5:IntKind.i64.wrap (r - 97 + 10) = r - 97 + 10:=w64k (by omega) (by omega)
  unfold digV at hv
  rcases hc with ⟨q1,q2⟩ | ⟨q1,q2,q3,q4⟩ | ⟨q1,q2,q3⟩ | ⟨q1,q2,q3,q4⟩ | ⟨q1,q3⟩
  · rw [if_pos ⟨q1,q2⟩] at hv;subst hv
    go_enter Tryz.func122,Tryz.ntmps122
    go_wp2_with fail
    go_ret
    exact ⟨rfl,rfl⟩
  · rw [if_neg (by omega),if_pos ⟨q3,q4⟩] at hv
    have e:r - 97 + 10 = v:=by omega
    rw [e] at w5
    clear hv
    go_enter Tryz.func122,Tryz.ntmps122
    go_wp2_with fail
    go_ret
    exact ⟨by simp [e],rfl⟩
  iterate 3
    rw [if_neg (by omega),if_neg (by omega)] at hv;subst hv
    go_enter Tryz.func122,Tryz.ntmps122
    go_wp2_with fail
    go_ret
    exact ⟨rfl,rfl⟩
end WanW
end Go.Proofs.YtnpncpoiiikafaaGreatDoor
namespace Go.Proofs.YtnpncpoiiikafaaGreatDoor
open Go.RowKit
namespace WanW
theorem str_at (s:List UInt8) (k:Nat) (h:k < s.length):∃ x:UInt8,(⟨s.toArray⟩:ByteArray)[k]'(by show k < s.toArray.size;simpa using h) = x∧s[k] = x:=⟨_,rfl,rfl⟩
theorem numV_no {s:List UInt8} (h:s.length = 0 ∨ 10 < s.length ∨ (1 < s.length∧s[0]?.getD 0 = 48) ∨ s.all decB = false ∨ 1000000001 < numN s):numV s = (0,false):=by rw [numV,if_pos h]
theorem numV_yes {s:List UInt8} (h:¬ (s.length = 0 ∨ 10 < s.length ∨ (1 < s.length∧s[0]?.getD 0 = 48) ∨ s.all decB = false ∨ 1000000001 < numN s)):numV s = ((numN s:Int),true):=by rw [numV,if_neg h]
theorem take_all_no (s:List UInt8) (k:Nat) (hk:k < s.length) (h:decB s[k] = false):s.all decB = false:=by
  rw [Bool.eq_false_iff]
  intro hh
  rw [List.all_eq_true.1 hh _ (List.getElem_mem hk)] at h
  cases h
end WanW
end Go.Proofs.YtnpncpoiiikafaaGreatDoor
namespace Go.Proofs.YtnpncpoiiikafaaGreatDoor
open Go.RowKit
namespace WanW
set_option maxRecDepth 100000 in
set_option maxHeartbeats 4000000 in
theorem number_any (s:List UInt8) (w:World) (v:Int) (b:Bool) (hv:numV s = (v,b)) (hs:s.length≤100000):Calls Tryz.prog 98 #[str s] w fun e w'=>e = .returned (.tuple #[.int .i64 v,.bool b])∧Below w.heap.size w w':=by
  have hNo:=fun h=>(numV_no (s:=s) h).symm.trans hv
  have hYes:=fun h=>(numV_yes (s:=s) h).symm.trans hv
  have HNO:=Lib.hid hNo
  have HYES:=Lib.hid hYes
  clear hv hNo hYes
  by_cases h0:s.length = 0
  · obtain ⟨rfl,rfl⟩:=Prod.mk.inj (HNO.out (.inl h0))
    obtain rfl:=List.length_eq_zero_iff.1 h0
    clear HNO HYES h0
    go_enter Tryz.func98,Tryz.ntmps98
    go_wp2_with fail
    go_ret2
    exact ⟨rfl,Below.refl _ _⟩
  · by_cases h10:10 < s.length
    · obtain ⟨rfl,rfl⟩:=Prod.mk.inj (HNO.out (.inr (.inl h10)))
      have hI:(10:Int) < (s.length:Int):=by omega
      go_enter Tryz.func98,Tryz.ntmps98
      go_wp2_with fail
      go_ret2
      exact ⟨rfl,Below.refl _ _⟩
    · have hI:¬ (10:Int) < (s.length:Int):=by omega
      obtain ⟨c0,e0,e0'⟩:=str_at s 0 (by omega)
      have h0I:¬ (s.length:Int) = 0:=by omega
      have h0P:(0:Int) < (s.length:Int):=by omega
      have h0Q:¬ (s.length:Int) < 1:=by omega
      obtain ⟨n0,hn0⟩:∃ n:Nat,c0.toNat = n:=⟨_,rfl⟩
      by_cases hz:c0.toNat = 48∧1 < s.length
      · have hc:c0 = 48:=by
          have:=hz.1
          exact UInt8.toNat_inj.1 (by simpa using this)
        obtain ⟨rfl,rfl⟩:=Prod.mk.inj (HNO.out (.inr (.inr (.inl ⟨hz.2,by rw [List.getElem?_eq_getElem (by omega),e0',hc];rfl⟩))))
        have h1I:(1:Int) < (s.length:Int):=by omega
        subst hc
        clear hn0
        go_enter Tryz.func98,Tryz.ntmps98
        go_wp2_with fail
        go_ret2
        exact ⟨rfl,Below.refl _ _⟩
      · have hg:¬ n0 = 48 ∨ (n0 = 48∧¬ 1 < s.length):=by rw [hn0] at hz;omega
        have HZ:=Lib.hid (show ¬ (1 < s.length∧s[0]?.getD 0 = 48) from fun hh=>hz ⟨by
          have:=hh.2
          rw [List.getElem?_eq_getElem (by omega),e0',Option.getD_some] at this
          rw [this];rfl,hh.1⟩)
        clear hz
        rcases hg with q | ⟨q,q'⟩
        all_goals
          have hq1:¬ n0 = 48 ∨ ¬ (1:Int) < (s.length:Int):=by omega
          first
            | (have q1:((n0:Int) == 48) = false:=by simp;omega)
            | (have q1:¬ (1:Int) < (s.length:Int):=by omega)
          obtain ⟨S,hS⟩:∃ S:ByteArray,(⟨s.toArray⟩:ByteArray) = S:=⟨_,rfl⟩
          have HS:=Lib.hid hS
          have hsz:S.size = s.length:=by rw [← hS];simp [ByteArray.size]
          have HSZ:=Lib.hid hsz
          have eS:S[0]'(by rw [hsz];omega) = c0:=by subst hS;exact e0
          go_enter Tryz.func98,Tryz.ntmps98
          go_wp2_with fail
          all_goals
            go_loopw [4] (fun u v'=>∃ k:Nat,k≤s.length∧u = .int .i64 ((numN (s.take k):Nat):Int)∧(s.take k).all decB = true∧v' = w.iter S k) (fun _ v'=>s.length - v'.iterPos w.heap.size)
            case atStart=>exact ⟨0,by omega,rfl,rfl,rfl⟩
            case round =>
              obtain ⟨k,hk,rfl,hall,rfl⟩:=hrel
              have HALL:=Lib.hid hall
              have hnl:=numN_lt _ hall
              have hpw:10 ^ (s.take k).length≤10 ^ 10:=Nat.pow_le_pow_right (by omega) (by rw [List.length_take];omega)
              obtain ⟨u,hu⟩:∃ u,numN (s.take k) = u:=⟨_,rfl⟩
              rw [hu] at hnl ⊢
              have hub:u < 10000000000:=by
                have:(10:Nat) ^ 10 = 10000000000:=by decide
                omega
              have HU:=Lib.hid hu
              have HBW:=Lib.hid (show ∀ k,Below w.heap.size w (w.iter S k) from fun k=>(Below.refl _ _).alloc (Nat.le_refl _) _)
              clear hall hnl hpw hu
              by_cases hlt:k < s.length
              · have hkS:k < S.size:=by rw [hsz];exact hlt
                obtain ⟨x,hx⟩:∃ x,S[k] = x:=⟨_,rfl⟩
                have hx2:s[k] = x:=by
                  rw [← hx]
                  subst hS
                  rfl
                obtain ⟨m,hm⟩:∃ m:Nat,x.toNat = m:=⟨_,rfl⟩
                have HDN:=Lib.hid (fun hd:decB x = false=>HNO.out (.inr (.inr (.inr (.inl (take_all_no s k hlt (by rw [hx2];exact hd)))))))
                by_cases ha:m < 128
                · have hnx:=fun ty=>run_next_ascii (P:=Tryz.prog) w S k ty hkS (by rw [hx,hm];exact ha)
                  rw [hx,hm] at hnx
                  have HX2:=Lib.hid hx2
                  clear hx hx2
                  by_cases q1:m < 48
                  · have q1I:(m:Int) < 48:=by omega
                    obtain ⟨rfl,rfl⟩:=Prod.mk.inj (HDN.out (by simp [decB,hm];omega))
                    go_wp2_with fail
                    try rw [Exit.noGoto_ret]
                    go_ret2
                    exact ⟨rfl,HBW.out _⟩
                  · have q1I:¬ (m:Int) < 48:=by omega
                    by_cases q2:57 < m
                    · have q2I:(57:Int) < (m:Int):=by omega
                      obtain ⟨rfl,rfl⟩:=Prod.mk.inj (HDN.out (by simp [decB,hm];omega))
                      go_wp2_with fail
                      try rw [Exit.noGoto_ret]
                      go_ret2
                      exact ⟨rfl,HBW.out _⟩
                    · have q2I:¬ (57:Int) < (m:Int):=by omega
                      have ww1:IntKind.i32.wrap ((m:Int) - 48) = (m:Int) - 48:=by rw [IntKind.wrap_i32];omega
                      have ww2:IntKind.i64.wrap ((m:Int) - 48) = (m:Int) - 48:=w64k (by omega) (by omega)
                      have ww3:IntKind.i64.wrap (10 * (u:Int)) = 10 * (u:Int):=w64k (by omega) (by omega)
                      have ww4:IntKind.i64.wrap (10 * (u:Int) + ((m:Int) - 48)) = 10 * (u:Int) + ((m:Int) - 48):=w64k (by omega) (by omega)
                      have HN:=Lib.hid (show ((numN (s.take (k + 1)):Nat):Int) = 10 * (u:Int) + ((m:Int) - 48) by rw [List.take_succ_eq_append_getElem hlt,numN_snoc,HU.out,HX2.out,hm];omega)
                      have HA:=Lib.hid (show (s.take (k + 1)).all decB = true by rw [List.take_succ_eq_append_getElem hlt,List.all_append,HALL.out,HX2.out];simp [decB,hm];omega)
                      go_wp2_with fail
                      go_roundw
                      case rel=>exact ⟨k + 1,by omega,by rw [HN.out],HA.out,rfl⟩
                      case measure=>simp;omega
                · have hnx:=fun ty=>run_next_any (P:=Tryz.prog) w S k ty hkS
                  obtain ⟨hd1,-⟩:=decode_high S k hkS (by rw [hx,hm];omega)
                  obtain ⟨r,hr⟩:∃ r,(Utf8.decode S k).1 = r:=⟨_,rfl⟩
                  rw [hr] at hnx hd1
                  have r1:¬ (r:Int) < 48:=by omega
                  have r2:(57:Int) < (r:Int):=by omega
                  obtain ⟨rfl,rfl⟩:=Prod.mk.inj (HDN.out (by simp [decB,hm];omega))
                  clear hx hx2 hr
                  go_wp2_with fail
                  try rw [Exit.noGoto_ret]
                  go_ret2
                  exact ⟨rfl,HBW.out _⟩
              · have hnx:=fun ty=>run_next_end (P:=Tryz.prog) w S k ty (by rw [hsz];exact hlt)
                have e1:=HU.out
                have e2:=HALL.out
                rw [List.take_of_length_le (by omega)] at e1 e2
                by_cases q3:1000000001 < u
                · have q3I:(1000000001:Int) < (u:Int):=by omega
                  obtain ⟨rfl,rfl⟩:=Prod.mk.inj (HNO.out (.inr (.inr (.inr (.inr (by rw [e1];exact q3))))))
                  clear e1 e2
                  go_wp2_with fail
                  go_ret2
                  exact ⟨rfl,HBW.out _⟩
                · have q3I:¬ (1000000001:Int) < (u:Int):=by omega
                  obtain ⟨rfl,rfl⟩:=Prod.mk.inj (HYES.out (by
                    rintro (hh | hh | hh | hh | hh)
                    · omega
                    · omega
                    · exact HZ.out hh
                    · rw [e2] at hh;cases hh
                    · omega))
                  have HU2:=Lib.hid e1
                  clear e1 e2
                  go_wp2_with fail
                  go_ret2
                  exact ⟨by rw [HU2.out];rfl,HBW.out _⟩
end WanW
end Go.Proofs.YtnpncpoiiikafaaGreatDoor
