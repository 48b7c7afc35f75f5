/- SqP -/
import Derived.Test.YtnpncpoiiikafaaGreatSufPQt
import Derived.Test.YtnpncpoiiikafaaGreatZruPQt
import Derived.Test.YtnpncpoiiikafaaGreatVarFQt
import Derived.Test.YtnpncpoiiikafaaGreatFrontWQt
import Derived.Test.YtnpncpoiiikafaaGreatTabGQt
import Derived.Defers
import Derived.Recover
import Derived.Laws.Pointers
import Derived.Test.YtnpncpoiiikafaaGreatLenBQt
set_option linter.unusedVariables false
set_option linter.unusedSimpArgs false
set_option linter.unnecessarySimpa false
set_option maxRecDepth 100000
set_option maxHeartbeats 32000000
namespace Go.Proofs.YtnpncpoiiikafaaGreat
namespace SqW
open SufW (bwtL invGo Sa letters bwt_len bwt_back prim_in)
open ZruW (packZ unzA unz_pack pack_len pack_sym)
open HufW (encV decV ctsV badS hufB dec_back)
open FrontW (runR textS runR_len runR_ok text_back)
def natL (l:List Int):List Nat:=l.map Int.toNat
def intL (l:List Nat):List Int:=l.map Int.ofNat
theorem natL_int (l:List Nat):natL (intL l) = l:=by simp [natL,intL,Function.comp_def]
theorem intL_nat (l:List Int) (h:∀ x ∈ l,0≤x):intL (natL l) = l:=by
 simp only [natL,intL,List.map_map]
 conv=>rhs;rw [← List.map_id l]
 refine List.map_congr_left fun x hx=>?_
 have:=h x hx
 simp
 omega
def mayP (L:List UInt8) (pr:Int):Bool:=if L = [] then decide (pr = 0) else decide (1≤pr∧pr≤L.length)
def invV (L:List UInt8) (pr:Int):List UInt8 × Int :=
 if 20000 < L.length then ([],3) else if mayP L pr = true then (match invGo L pr.toNat L.length 0 [] with | some t=>(t,0) | none=>([],130)) else ([],130)
def zunV (l:List Int) (limit:Int):List Int × Int :=
 if l.any badS = true then ([],70) else if min limit 100000 < min ((unzA (natL l) []).length:Int) 100001 then ([],3) else (intL (unzA (natL l) []),0)
def textU (sym:List Int) (pr n:Int):List UInt8 × Int :=
 if n < 0 ∨ 20000 < n then ([],2) else
 if (zunV sym n).2 = 0 then
  (if ((zunV sym n).1.length:Int) = n then
   (if (textS (zunV sym n).1).2 = 0 then invV (textS (zunV sym n).1).1 pr else ([],(textS (zunV sym n).1).2))
  else ([],5))
 else ([],(zunV sym n).2)
def unpOf (b:List UInt8) (x:List Int × Int × Int):List UInt8 × Int :=
 if x.2.2 = 0 then
  (if (20000:Int) < (x.1[0]?.getD (0:Int)) ∨ (x.1[0]?.getD (0:Int)) < (x.1[2]?.getD (0:Int)) then ([],3) else
   if (decV (b.drop x.2.1.toNat) (x.1[2]?.getD 0).toNat).2 = 0 then textU (decV (b.drop x.2.1.toNat) (x.1[2]?.getD 0).toNat).1 (x.1[1]?.getD 0) (x.1[0]?.getD 0)
   else ([],(decV (b.drop x.2.1.toNat) (x.1[2]?.getD 0).toNat).2))
 else ([],x.2.2)
def unpackV (b:List UInt8):List UInt8 × Int:=unpOf b (numsV b 3 0)
def symsOf (s:List UInt8) (A:List Nat):List Int:=intL (packZ (natL (runR (bwtL s A)).2) 0)
theorem runR_in (s:List UInt8):∀ x ∈ (runR s).2,0≤x∧x≤255:=fun x hx=>by
 have:=runR_ok s x hx
 omega
theorem syms_in (s:List UInt8) (A:List Nat):∀ x ∈ symsOf s A,0≤x∧x≤256:=by
 intro x hx
 simp only [symsOf,intL,List.mem_map] at hx
 obtain ⟨y,hy,rfl⟩:=hx
 have:=pack_sym (natL (runR (bwtL s A)).2) 0 (fun z hz=>by
  simp only [natL,List.mem_map] at hz
  obtain ⟨u,hu,rfl⟩:=hz
  have:=runR_in _ u hu
  omega) y hy
 exact ⟨Int.natCast_nonneg y,by simp only [Int.ofNat_eq_natCast];omega⟩
theorem syms_bad (s:List UInt8) (A:List Nat):(symsOf s A).any badS = false:=by
 rw [List.any_eq_false]
 intro x hx
 have:=syms_in s A x hx
 simp [badS]
 omega
theorem syms_len (s:List UInt8) (A:List Nat) (hA:Sa (letters s) A):(symsOf s A).length≤s.length:=by
 have h:=pack_len (natL (runR (bwtL s A)).2) 0
 have h1:(natL (runR (bwtL s A)).2).length = s.length:=by rw [natL,List.length_map,runR_len,bwt_len s A hA]
 simp only [symsOf,intL,List.length_map]
 omega
theorem text_syms (s:List UInt8) (A:List Nat) (hA:Sa (letters s) A) (pr:Nat) (hpr:A[pr]? = some 0) (hs:s.length≤20000):textU (symsOf s A) pr s.length = (s,0):=by
 have hb:=syms_bad s A
 have hbl:=bwt_len s A hA
 have hu:unzA (natL (symsOf s A)) [] = natL (runR (bwtL s A)).2:=by
  rw [symsOf,natL_int,unz_pack]
  simp
 have hul:(natL (runR (bwtL s A)).2).length = s.length:=by rw [natL,List.length_map,runR_len,hbl]
 have hz:zunV (symsOf s A) s.length = ((runR (bwtL s A)).2,0):=by
  unfold zunV
  rw [hb,if_neg (by decide),hu,hul,if_neg (by omega),intL_nat _ (fun x hx=>(runR_in _ x hx).1)]
 unfold textU
 rw [if_neg (by omega),hz]
 dsimp only
 rw [if_pos rfl,if_pos (by rw [runR_len,hbl]),text_back,if_pos rfl]
 obtain ⟨h1,h2,h3⟩:=prim_in s A hA pr hpr
 have hm:mayP (bwtL s A) pr = true:=by
  unfold mayP
  by_cases e:s = []
  ·have e2:bwtL s A = []:=List.eq_nil_of_length_eq_zero (by rw [hbl,e];rfl)
   rw [if_pos e2,h2 e]
   rfl
  ·have e2:¬ bwtL s A = []:=fun e3=>e (List.eq_nil_of_length_eq_zero (by rw [← hbl,e3];rfl))
   have:=h3 e
   rw [if_neg e2,hbl]
   simp
   omega
 unfold invV
 rw [if_neg (by rw [hbl];omega),if_pos hm,Int.toNat_natCast,hbl,bwt_back s A hA pr hpr]
theorem enc_syms (s:List UInt8) (A:List Nat) (hA:Sa (letters s) A) (hs:s.length≤20000):encV (symsOf s A) = (textB (hufB (symsOf s A)),0):=by
 have hl:=syms_len s A hA
 have hc:(ctsV (symsOf s A)).2 = 0:=by
  unfold ctsV
  rw [if_neg (by omega),syms_bad,if_neg (by decide)]
 unfold encV
 rw [if_pos hc]
def packB (s:List UInt8) (A:List Nat) (pr:Nat):List UInt8:=lput [(s.length:Int),(pr:Int),((symsOf s A).length:Int)] ++ textB (hufB (symsOf s A))
theorem unpack_pack (s:List UInt8) (A:List Nat) (hA:Sa (letters s) A) (pr:Nat) (hpr:A[pr]? = some 0) (hs:s.length≤20000):unpackV (packB s A pr) = (s,0):=by
 have hl:=syms_len s A hA
 obtain ⟨h1,_,_⟩:=prim_in s A hA pr hpr
 have hn:=numsV_put [(s.length:Int),(pr:Int),((symsOf s A).length:Int)] (by intro n hn;simp at hn;rcases hn with rfl | rfl | rfl <;> omega) [] (textB (hufB (symsOf s A)))
 have hn':numsV (packB s A pr) 3 0 = ([(s.length:Int),(pr:Int),((symsOf s A).length:Int)],(((lput [(s.length:Int),(pr:Int),((symsOf s A).length:Int)]).length:Nat):Int),0):=by
  simpa [packB] using hn
 unfold unpackV unpOf
 rw [hn']
 dsimp only
 rw [if_pos rfl]
 have e0:([(s.length:Int),(pr:Int),((symsOf s A).length:Int)])[0]?.getD (0:Int) = (s.length:Int):=rfl
 have e1:([(s.length:Int),(pr:Int),((symsOf s A).length:Int)])[1]?.getD (0:Int) = (pr:Int):=rfl
 have e2:([(s.length:Int),(pr:Int),((symsOf s A).length:Int)])[2]?.getD (0:Int) = ((symsOf s A).length:Int):=rfl
 have e3:(packB s A pr).drop (lput [(s.length:Int),(pr:Int),((symsOf s A).length:Int)]).length = textB (hufB (symsOf s A)):=by simp [packB]
 rw [e0,e1,e2,if_neg (by omega),Int.toNat_natCast,Int.toNat_natCast,e3,dec_back _ (by omega) (syms_bad s A)]
 dsimp only
 rw [if_pos rfl,text_syms s A hA pr hpr hs]
end SqW
end Go.Proofs.YtnpncpoiiikafaaGreat
namespace Go.Proofs.YtnpncpoiiikafaaGreat
namespace SqW
open SufW (Sa letters leL leL_anti leL_refl)
theorem sa_one {T A B:List Nat} (hA:Sa T A) (hB:Sa T B):A = B:=by
 refine List.Perm.eq_of_pairwise (le:=fun p q=>leL (T.drop p) (T.drop q) = true) ?_ hA.pw hB.pw (hA.perm.trans hB.perm.symm)
 intro p q hp hq h1 h2
 have e:=leL_anti _ _ h1 h2
 have h3:=(hA.mem p).1 hp
 have h4:=(hB.mem q).1 hq
 have:=congrArg List.length e
 rw [List.length_drop,List.length_drop] at this
 omega
def sT:List UInt8:=[97,32,108,111,103,32,111,102,32,97,32,108,111,103,32,111,102,32,97,32,108,111,103,32,111,102,32,97,32,108,111,103]
def aT:List Nat:=[32,26,17,8,28,19,10,1,23,14,5,27,18,9,0,25,16,7,31,22,13,4,29,20,11,2,24,15,6,30,21,12,3]
theorem aT_sa:Sa (letters sT) aT:=by
 refine ⟨by decide,by decide,fun p=>⟨?_,?_⟩,by decide⟩
 ·have h:∀ p ∈ aT,p < (letters sT).length:=by decide
  exact h p
 ·have h:∀ p,p < (letters sT).length → p ∈ aT:=by decide
  exact h p
theorem prim_T {A:List Nat} {pr:Nat} (hA:Sa (letters sT) A) (hpr:A[pr]? = some 0):A = aT∧pr = 14:=by
 obtain rfl:=sa_one hA aT_sa
 refine ⟨rfl,?_⟩
 obtain ⟨h1,h2⟩:=List.getElem?_eq_some_iff.1 hpr
 have h3:aT[14]'(by decide) = 0:=by decide
 exact (List.getElem_inj aT_sa.nodup).1 (h2.trans h3.symm)
theorem pack_T {A:List Nat} {pr:Nat} (hA:Sa (letters sT) A) (hpr:A[pr]? = some 0):(packB sT A pr).length = 24:=by
 obtain ⟨rfl,rfl⟩:=prim_T hA hpr
 decide +kernel
end SqW
end Go.Proofs.YtnpncpoiiikafaaGreat
namespace Go.Proofs.YtnpncpoiiikafaaGreat
open Go.RowKit
namespace VarW
theorem unfix_any (s:List UInt8) (a width:Int) (w:World) (hs:s.length≤9223372036854775807) (x:Int × Int × Int) (hx:unfixV s a width = x) :
 Calls Tryz.prog 171 #[str s,.int .i64 a,.int .i64 width] w fun e w'=>e = .returned (tri x)∧w' = w:=by
 by_cases hw:width < 1 ∨ 8 < width ∨ a < 0 ∨ (s.length:Int) < a
 ·rw [unfixV_arg hw] at hx
  subst hx
  have hw':width < 1 ∨ (¬ width < 1∧8 < width) ∨ (¬ width < 1∧¬ 8 < width∧a < 0) ∨ (¬ width < 1∧¬ 8 < width∧¬ a < 0∧(s.length:Int) < a):=by omega
  clear hw
  rcases hw' with hw | ⟨hw,hw2⟩ | ⟨hw,hw2,hw3⟩ | ⟨hw,hw2,hw3,hw4⟩
  all_goals
   go_enter Tryz.func171,Tryz.ntmps171
   go_wp2_with fail
   go_ret3
   exact ⟨rfl,rfl⟩
 ·obtain ⟨k,rfl⟩:=Int.eq_ofNat_of_zero_le (show 0≤width by omega)
  obtain ⟨p,rfl⟩:=Int.eq_ofNat_of_zero_le (show 0≤a by omega)
  have hk1:¬ (k:Int) < 1:=by omega
  have hk2:¬ (8:Int) < (k:Int):=by omega
  have hp0:¬ (p:Int) < 0:=by omega
  have hp1:¬ (s.length:Int) < (p:Int):=by omega
  have hd1:decide ((k:Int) < 1) = false:=decide_eq_false hk1
  have hd2:decide ((8:Int) < (k:Int)) = false:=decide_eq_false hk2
  have hd3:decide ((p:Int) < 0) = false:=decide_eq_false hp0
  have hd4:decide ((s.length:Int) < (p:Int)) = false:=decide_eq_false hp1
  have hd5:decide (s.length < p) = false:=decide_eq_false (by omega)
  clear hw
  by_cases hsh:s.length < p + k
  ·rw [unfixV_short (by omega) (by omega) (by omega) hsh] at hx
   subst hx
   have hI:(s.length:Int) - (p:Int) < (k:Int):=by omega
   go_enter Tryz.func171,Tryz.ntmps171
   go_wp2_with fail
   go_ret3
   exact ⟨rfl,rfl⟩
  ·rw [unfixV_in (by omega) (by omega) (by omega)] at hx
   have HX:=Lib.hid hx
   have hI:¬ (s.length:Int) - (p:Int) < (k:Int):=by omega
   have hId:decide ((s.length:Int) - (p:Int) < (k:Int)) = false:=decide_eq_false hI
   clear hx
   go_enter Tryz.func171,Tryz.ntmps171
   go_wp2_with fail
   go_loop [9,10] (fun u i=>∃ m:Nat,m≤k∧i = .int .i64 ((m:Int) - 1)∧u = .int .u64 ((fvW s p k m:Nat):Int)) (fun _ i=>(intOf i + 1).toNat)
   case atStart=>exact ⟨k,by omega,by first | rfl | go_num,by rw [fvW_end] <;> rfl⟩
   case round =>
    obtain ⟨m,hm,rfl,rfl⟩:=hrel
    rcases Nat.eq_zero_or_pos m with hm0 | hm0
    ·subst hm0
     have hl0:=fvW_lt0 s p k (by omega)
     by_cases hbig:9223372036854775808≤fvW s p k 0
     ·have hx:x = (0,0,5):=by have:=HX.out;rw [if_pos hbig] at this;exact this.symm
      have hqI:(((fvW s p k 0:Nat):Int) / 9223372036854775808 != 0) = true:=by rw [bne_iff_ne];omega
      subst hx
      clear HX
      go_wp2_with fail
      go_ret3
      exact ⟨rfl,rfl⟩
     ·have hx:x = ((fvW s p k 0:Int),(p:Int) + k,0):=by have:=HX.out;rw [if_neg hbig] at this;exact this.symm
      have hqI:(((fvW s p k 0:Nat):Int) / 9223372036854775808 != 0) = false:=by rw [bne_eq_false_iff_eq];omega
      have hle:fvW s p k 0 < 9223372036854775808:=by omega
      have hwr:wrap64 ((fvW s p k 0:Nat):Int) = ((fvW s p k 0:Nat):Int):=by unfold wrap64;omega
      have HWR:=Lib.hid hwr
      subst hx
      clear HX hwr hbig
      go_wp2_with fail
      go_ret3
      refine ⟨?_,rfl⟩
      try rw [HWR.out]
      rfl
    ·obtain ⟨m,rfl⟩:∃ m',m = m' + 1:=⟨m - 1,by omega⟩
     have hml:p + m < s.length:=by omega
     have HS:=Lib.hid (fvW_step s p k m (by omega) (by omega))
     have hWl:=fvW_lt s p k (m + 1) (by omega) (by omega)
     obtain ⟨d,hd,hd'⟩:∃ d,(⟨s.toArray⟩:ByteArray)[p + m]'(by show p + m < s.toArray.size;simpa using hml) = d∧s[p + m] = d:=⟨_,rfl,rfl⟩
     have HD':=Lib.hid hd'
     have hd256:d.toNat < 256:=d.toNat_lt
     have ho:=bits_u64_or 8 d.toNat (fvW s p k (m + 1)) (by omega) (by omega)
     rw [show ((fvW s p k (m + 1) * 2 ^ 8:Nat):Int) = ((fvW s p k (m + 1):Nat):Int) * 256 by push_cast;rfl] at ho
     have HO:=Lib.hid ho
     clear hd' ho
     go_wp2_with fail
     go_round
     case rel=>exact ⟨m,by omega,by first | rfl | go_num,by rw [HO.out,HS.out,HD'.out];congr 1;omega⟩
     case measure=>first | (simp [intOf];done) | (simp [intOf];omega)
end VarW
end Go.Proofs.YtnpncpoiiikafaaGreat
namespace Go.Proofs.YtnpncpoiiikafaaGreat
open Go.RowKit
namespace TakW
abbrev flt (e a:Int):List PanicEntry:=[{ v:=.iface 103 (.agg #[.int .i64 e,.int .i64 a]),recovered:=false }]
abbrev tk (s:List UInt8) (a:Int):Array Value:=#[str s,.int .i64 a]
theorem at_any (g:Nat) (s:List UInt8) (a:Int) (w:World) (h:Blk w g 145 (tk s a)) :
 Calls Tryz.prog 54 #[.pointer (some ⟨g,0,none⟩)] w fun e w'=>e = .returned (.int .i64 a)∧w' = w:=by
 obtain ⟨c0,c1,f0,f1,z⟩:=blk2 h
 go_enter Tryz.func54,Tryz.ntmps54
 go_wp2_with fail
 go_ret
 exact ⟨rfl,rfl⟩
theorem left_any (g:Nat) (s:List UInt8) (p:Nat) (w:World) (h:Blk w g 145 (tk s p)) (hp:p≤s.length) (hs:s.length≤9223372036854775807) :
 Calls Tryz.prog 86 #[.pointer (some ⟨g,0,none⟩)] w fun e w'=>e = .returned (.int .i64 ((s.length:Int) - p))∧∃ nq,w' = w.drewN nq:=by
 obtain ⟨c0,c1,f0,f1,z⟩:=blk2 h
 have hw:IntKind.i64.wrap ((s.length:Int) - (p:Int)) = (s.length:Int) - (p:Int):=IntWalk.i64_in _ (by omega)
 go_enter Tryz.func86,Tryz.ntmps86
 go_wp2_with fail
 go_quiet (fail)
 go_wp2
 go_ret
 exact ⟨rfl,_,rfl⟩
theorem text_any (g:Nat) (s:List UInt8) (a:Int) (w:World) (h:Blk w g 145 (tk s a)) :
 Calls Tryz.prog 83 #[.pointer (some ⟨g,0,none⟩)] w fun e w'=>e = .returned (str s)∧w' = w:=by
 obtain ⟨c0,c1,f0,f1,z⟩:=blk2 h
 go_enter Tryz.func83,Tryz.ntmps83
 go_wp2_with fail
 go_ret
 exact ⟨rfl,rfl⟩
theorem check_ok (g:Nat) (w:World) :
 Calls Tryz.prog 84 #[.pointer (some ⟨g,0,none⟩),.int .i64 0] w fun e w'=>e = .returned (.tuple #[])∧w' = w:=by
 go_enter Tryz.func84,Tryz.ntmps84
 go_wp2_with fail
 go_end0
 exact ⟨rfl,rfl⟩
theorem check_bad (g:Nat) (s:List UInt8) (a er:Int) (w:World) (h:Blk w g 145 (tk s a)) (he:er ≠ 0) :
 Calls Tryz.prog 84 #[.pointer (some ⟨g,0,none⟩),.int .i64 er] w fun e w'=>e = .panicked (flt er a)∧w' = w:=by
 have heI:(er != 0) = true:=by simp [he]
 clear he
 go_enter Tryz.func84,Tryz.ntmps84
 go_wp2_with fail
 refine (at_any g s a w h).mono ?_
 rintro e w' ⟨rfl,rfl⟩
 go_wp2_with fail
 simp [bodyPost]
def Left (w w':World) (g:Nat) (s:List UInt8) (p:Int):Prop:=Blk w' g 145 (tk s p)∧w.grownBy w' (some g)
theorem Left.drewN {w:World} {g:Nat} {s:List UInt8} {p:Int} (h:Blk w g 145 (tk s p)) (n:Nat):Left w (w.drewN n) g s p:=⟨h.drewN n,⟨rfl,rfl,rfl,Nat.le_refl _,fun _ _ _=>rfl⟩⟩
theorem Left.same {w:World} {g:Nat} {s:List UInt8} {p:Int} (h:Blk w g 145 (tk s p)):Left w w g s p:=⟨h,World.grownBy.refl w _⟩
theorem Left.trans {w w1 w2:World} {g:Nat} {s:List UInt8} {p q:Int} (h:Left w w1 g s p) (k:Left w1 w2 g s q):Left w w2 g s q:=⟨k.1,h.2.trans k.2⟩
theorem ext_str (l:List UInt8) (p q:Nat):(⟨l.toArray⟩:ByteArray).extract p q = ⟨((l.drop p).take (q - p)).toArray⟩:=by
 apply ByteArray.ext
 simp
theorem text_short (g:Nat) (s:List UInt8) (p:Nat) (n:Int) (w:World) (h:Blk w g 145 (tk s p)) (hp:p≤s.length) (hs:s.length≤9223372036854775807) (hn:¬ n < 0) (hl:(s.length:Int) - p < n) :
 Calls Tryz.prog 85 #[.pointer (some ⟨g,0,none⟩),.int .i64 n] w fun e w'=>e = .panicked (flt 4 p)∧Left w w' g s p:=by
 go_enter Tryz.func85,Tryz.ntmps85
 go_wp2_with fail
 refine (left_any g s p w h hp hs).mono ?_
 rintro e w' ⟨rfl,nq,rfl⟩
 go_wp2_with fail
 refine (check_bad g s p 4 _ (h.drewN nq) (by omega)).mono ?_
 rintro e w' ⟨rfl,rfl⟩
 go_wp2_with fail
 simp [bodyPost]
 exact Left.drewN h nq
theorem text_yes (g:Nat) (s:List UInt8) (p n:Nat) (w:World) (h:Blk w g 145 (tk s p)) (hp:p + n≤s.length) (hs:s.length≤9223372036854775807) :
 Calls Tryz.prog 85 #[.pointer (some ⟨g,0,none⟩),.int .i64 n] w fun e w'=>e = .returned (str ((s.drop p).take n))∧Left w w' g s ((p:Int) + n):=by
 have hl1:¬ (s.length:Int) - (p:Int) < (n:Int):=by omega
 have hn1:¬ (n:Int) < 0:=by omega
 rcases Nat.eq_zero_or_pos n with rfl | hn
 ·go_enter Tryz.func85,Tryz.ntmps85
  go_wp2_with fail
  refine (left_any g s p w h (by omega) hs).mono ?_
  rintro e w' ⟨rfl,nq,rfl⟩
  go_wp2_with fail
  go_ret
  exact ⟨by simp,by simpa using Left.drewN h nq⟩
 ·have hnI:((n:Int) == 0) = false:=by rw [beq_eq_false_iff_ne];omega
  go_enter Tryz.func85,Tryz.ntmps85
  go_wp2_with fail
  refine (left_any g s p w h (by omega) hs).mono ?_
  rintro e w' ⟨rfl,nq,rfl⟩
  obtain ⟨c0,c1,f0,f1,z⟩:=blk2 (h.drewN nq)
  go_wp2_with fail
  have h2:Blk ((w.drewN nq).setCell ⟨g,1,none⟩ (.int .i64 ((p:Int) + (n:Int)))) g 145 (tk s ((p:Int) + (n:Int))):=(h.drewN nq).set 1 _
  have hg2:w.grownBy ((w.drewN nq).setCell ⟨g,1,none⟩ (.int .i64 ((p:Int) + (n:Int)))) (some g):=⟨rfl,rfl,rfl,by simp [World.setCell],fun k _ hne=>Below.heap_setCell _ _ _ k (fun e=>hne (by rw [e]))⟩
  generalize (w.drewN nq).setCell ⟨g,1,none⟩ (.int .i64 ((p:Int) + (n:Int))) = w2 at *
  clear c0 c1 f0 f1 z
  have h2':=h2
  obtain ⟨c0,c1,f0,f1,z⟩:=blk2 h2'
  have hw1:IntKind.i64.wrap ((p:Int) + (n:Int) - (n:Int)) = (p:Int):=by rw [show (p:Int) + (n:Int) - (n:Int) = (p:Int) from by omega];exact IntWalk.i64_in _ (by omega)
  have hw2:(p:Int) + (n:Int)≤(s.length:Int):=by omega
  have hp0:(0:Int)≤(p:Int):=by omega
  have hpn:(p:Int)≤(p:Int) + (n:Int):=by omega
  have HX:=Lib.hid (ext_str s p (p + n))
  clear h2'
  go_quiet (fail)
  go_wp2
  go_ret
  refine ⟨?_,h2.drewN nq,⟨hg2.os,hg2.tape,hg2.output,hg2.size,hg2.block⟩⟩
  have e:=HX.out
  rw [show p + n - p = n from by omega] at e
  exact congrArg (fun b=>Ending.returned (Value.string b)) e
theorem byte_yes (g:Nat) (s:List UInt8) (p:Nat) (w:World) (h:Blk w g 145 (tk s p)) (hp:p < s.length) (hs:s.length≤9223372036854775807) :
 Calls Tryz.prog 105 #[.pointer (some ⟨g,0,none⟩)] w fun e w'=>e = .returned (.int .i64 (s[p].toNat:Int))∧Left w w' g s ((p:Int) + 1):=by
 have he:(s.drop p).take 1 = [s[p]]:=by rw [List.drop_eq_getElem_cons hp];rfl
 have C:=text_yes g s p 1 w h (by omega) hs
 rw [he] at C
 generalize s[p] = b at *
 have hb:=b.toNat_lt
 go_enter Tryz.func105,Tryz.ntmps105
 go_wp2_with fail
 refine C.mono ?_
 clear C
 rintro e w' ⟨rfl,hL⟩
 go_wp2_with fail
 go_ret
 refine ⟨?_,hL⟩
 show Ending.returned (.int .i64 (wrap64 (b.toNat:Int))) = _
 rw [show wrap64 (b.toNat:Int) = (b.toNat:Int) from by unfold wrap64;omega]
theorem byte_short (g:Nat) (s:List UInt8) (p:Nat) (w:World) (h:Blk w g 145 (tk s p)) (hp:p≤s.length) (hl:s.length≤p) (hs:s.length≤9223372036854775807) :
 Calls Tryz.prog 105 #[.pointer (some ⟨g,0,none⟩)] w fun e w'=>e = .panicked (flt 4 p)∧Left w w' g s p:=by
 go_enter Tryz.func105,Tryz.ntmps105
 go_wp2_with fail
 refine (text_short g s p 1 w h hp hs (by omega) (by omega)).mono ?_
 rintro e w' ⟨rfl,hL⟩
 go_wp2_with fail
 simp [bodyPost]
 exact hL
theorem num_yes (g:Nat) (s:List UInt8) (p:Nat) (x:Int × Int × Int) (w:World) (h:Blk w g 145 (tk s p)) (hx:getV s p = x) (h0:x.2.2 = 0) (hs:s.length≤9223372036854775807) :
 Calls Tryz.prog 35 #[.pointer (some ⟨g,0,none⟩)] w fun e w'=>e = .returned (.int .i64 x.1)∧Left w w' g s x.2.1:=by
 obtain ⟨c0,c1,f0,f1,z⟩:=blk2 h
 have C:=VarW.get_any s p w hs x hx
 obtain ⟨v,tz,er⟩:=x
 dsimp only at h0
 subst h0
 clear hx
 go_enter Tryz.func35,Tryz.ntmps35
 go_wp2_with fail
 refine (text_any g s p w h).mono ?_
 rintro e w1 ⟨rfl,rfl⟩
 go_wp2_with fail
 refine (at_any g s p _ h).mono ?_
 rintro e w1 ⟨rfl,rfl⟩
 go_wp2_with fail
 refine C.mono ?_
 clear C
 rintro e w1 ⟨rfl,rfl⟩
 go_wp2_with fail
 refine (check_ok g _).mono ?_
 rintro e w1 ⟨rfl,rfl⟩
 go_wp2_with fail
 go_ret
 exact ⟨rfl,h.set 1 _,⟨rfl,rfl,rfl,by simp [World.setCell],fun k _ hne=>Below.heap_setCell _ _ _ k (fun e=>hne (by rw [e]))⟩⟩
theorem num_bad (g:Nat) (s:List UInt8) (p:Nat) (x:Int × Int × Int) (w:World) (h:Blk w g 145 (tk s p)) (hx:getV s p = x) (h0:x.2.2 ≠ 0) (hs:s.length≤9223372036854775807) :
 Calls Tryz.prog 35 #[.pointer (some ⟨g,0,none⟩)] w fun e w'=>e = .panicked (flt x.2.2 p)∧Left w w' g s p:=by
 have C:=VarW.get_any s p w hs x hx
 obtain ⟨v,tz,er⟩:=x
 dsimp only at h0
 clear hx
 go_enter Tryz.func35,Tryz.ntmps35
 go_wp2_with fail
 refine (text_any g s p w h).mono ?_
 rintro e w1 ⟨rfl,rfl⟩
 go_wp2_with fail
 refine (at_any g s p _ h).mono ?_
 rintro e w1 ⟨rfl,rfl⟩
 go_wp2_with fail
 refine C.mono ?_
 clear C
 rintro e w1 ⟨rfl,rfl⟩
 go_wp2_with fail
 refine (check_bad g s p er _ h h0).mono ?_
 rintro e w1 ⟨rfl,rfl⟩
 go_wp2_with fail
 simp [bodyPost]
 exact Left.same h
theorem rest_any (g:Nat) (s:List UInt8) (p:Nat) (w:World) (h:Blk w g 145 (tk s p)) (hp:p≤s.length) (hs:s.length≤9223372036854775807) :
 Calls Tryz.prog 36 #[.pointer (some ⟨g,0,none⟩)] w fun e w'=>e = .returned (str (s.drop p))∧Left w w' g s (s.length:Nat):=by
 go_enter Tryz.func36,Tryz.ntmps36
 go_wp2_with fail
 refine (left_any g s p w h hp hs).mono ?_
 rintro e w1 ⟨rfl,nq,rfl⟩
 go_wp2_with fail
 rw [show (s.length:Int) - (p:Int) = ((s.length - p:Nat):Int) from by omega]
 have C:=text_yes g s p (s.length - p) _ (h.drewN nq) (by omega) hs
 rw [List.take_of_length_le (by simp),show (p:Int) + ((s.length - p:Nat):Int) = (s.length:Int) from by omega] at C
 refine C.mono ?_
 clear C
 rintro e w2 ⟨rfl,hL⟩
 go_wp2_with fail
 go_ret
 exact ⟨rfl,(Left.drewN h nq).trans hL⟩
end TakW
end Go.Proofs.YtnpncpoiiikafaaGreat
namespace Go.Proofs.YtnpncpoiiikafaaGreat
open Go.RowKit
namespace TakW
theorem new_any (s:List UInt8) (w:World) :
 Calls Tryz.prog 34 #[str s] w fun e w'=>e = .returned (.pointer (some ⟨w.heap.size,0,none⟩))∧w' = w.alloc (.cells (tk s 0) 145):=by
 go_enter Tryz.func34,Tryz.ntmps34
 go_wp2_with fail
 go_ret
 exact ⟨rfl,rfl⟩
theorem catch_idle (p q:Addr) (w:World) :
 CallsD Tryz.prog 87 #[.pointer (some p),.pointer (some q)] .returning w fun e u' w'=>e = .returned (.tuple #[])∧u' = .returning∧w' = w:=by
 refine callsD_of_wpS Tryz.func87 rfl fun c₀ cs hu=>?_
 apply wpS_seq
 apply wpS_region
 simp [wpOpsS,go_sem,recoverD,hu,Tryz.ntmps87,Exit.thenS]
 simp only [List.size_toArray,Array.replicate_succ,Array.replicate_zero,List.push_toArray,List.append_toArray,List.nil_append,List.cons_append,List.setIfInBounds_toArray,List.set_cons_succ,List.set_cons_zero]
 refine wpS_of_wp ?_
 go_wp2_with fail
 cases c₀
 simp_all [bodyPostS,results,Tryz.results87]
structure Fell (w w':World) (p q:Nat) (er at_:Int):Prop where
 err:Blk w' p 26 #[.int .i64 er]
 place:Blk w' q 3 #[.int .i64 at_]
 os:w'.os = w.os
 tape:w'.tape = w.tape
 output:w'.output = w.output
 size:w.heap.size≤w'.heap.size
 block:∀ k,k < w.heap.size → k ≠ p → k ≠ q → w'.heap[k]? = w.heap[k]?
theorem fell_of {w w0:World} {p q:Nat} {a b er at_:Int} (hb:Below w.heap.size w w0) (hP:Blk w0 p 26 #[.int .i64 a]) (hQ:Blk w0 q 3 #[.int .i64 b]) (hne:p ≠ q) :
 Fell w ((w0.setCell ⟨p,0,none⟩ (.int .i64 er)).setCell ⟨q,0,none⟩ (.int .i64 at_)).drew p q er at_∧Fell w ((w0.setCell ⟨q,0,none⟩ (.int .i64 at_)).setCell ⟨p,0,none⟩ (.int .i64 er)).drew p q er at_:=by
 refine ⟨⟨((hP.set 0 _).far hne _).drew,((hQ.far (fun e=>hne e.symm) _).set 0 _).drew,hb.os,hb.tape,hb.output,by simpa [World.setCell,World.drew] using hb.size,fun k hk h1 h2=>?_⟩,
  ⟨((hP.far hne _).set 0 _).drew,((hQ.set 0 _).far (fun e=>hne e.symm) _).drew,hb.os,hb.tape,hb.output,by simpa [World.setCell,World.drew] using hb.size,fun k hk h1 h2=>?_⟩⟩
 ·show ((w0.setCell ⟨p,0,none⟩ (.int .i64 er)).setCell ⟨q,0,none⟩ (.int .i64 at_)).heap[k]? = _
  rw [Below.heap_setCell _ _ _ k h2,Below.heap_setCell _ _ _ k h1]
  exact hb.block k hk
 ·show ((w0.setCell ⟨q,0,none⟩ (.int .i64 at_)).setCell ⟨p,0,none⟩ (.int .i64 er)).heap[k]? = _
  rw [Below.heap_setCell _ _ _ k h1,Below.heap_setCell _ _ _ k h2]
  exact hb.block k hk
theorem assert_fault (W:World) (v:Value):(Instr.typeAssert (.iface 103 v) 20 103 true).run Tryz.prog W = .ok (.tuple #[v,.bool true]) W:=by kernel_rfl
theorem catch_fault (p q:Nat) (a b er at_:Int) (w:World) (older:List PanicEntry) (hp:Blk w p 26 #[.int .i64 a]) (hq:Blk w q 3 #[.int .i64 b]) (hne:p ≠ q) :
 CallsD Tryz.prog 87 #[.pointer (some ⟨p,0,none⟩),.pointer (some ⟨q,0,none⟩)] (.panicking ({ v:=.iface 103 (.agg #[.int .i64 er,.int .i64 at_]),recovered:=false } :: older)) w fun e u' w' =>
  e = .returned (.tuple #[])∧u' = .panicking ({ v:=.iface 103 (.agg #[.int .i64 er,.int .i64 at_]),recovered:=true } :: older) ∧
  Fell w w' p q er at_:=by
 refine callsD_of_wpS Tryz.func87 rfl fun c₀ cs hu=>?_
 apply wpS_seq
 apply wpS_region
 simp [wpOpsS,go_sem,recoverD,hu,Tryz.ntmps87,Exit.thenS]
 simp only [List.size_toArray,Array.replicate_succ,Array.replicate_zero,List.push_toArray,List.append_toArray,List.nil_append,List.cons_append,List.setIfInBounds_toArray,List.set_cons_succ,List.set_cons_zero]
 clear hu
 have ta:=assert_fault
 obtain ⟨pc,pf,pz⟩:=blk1 hp
 obtain ⟨qc,qf,qz⟩:=blk1 hq
 refine wpS_of_wp ?_
 go_wp2_with fail
 have hF:Blk (w.alloc (.cells #[.int .i64 er,.int .i64 at_] 103)) w.heap.size 103 #[.int .i64 er,.int .i64 at_]:=Blk.new _ _ _
 have hP:=hp.alloc (.cells #[.int .i64 er,.int .i64 at_] 103)
 have hQ:=hq.alloc (.cells #[.int .i64 er,.int .i64 at_] 103)
 have hb:Below w.heap.size w (w.alloc (.cells #[.int .i64 er,.int .i64 at_] 103)):=(by first | exact Below.refl _ _ | (repeat (first | exact Below.refl _ _ | assumption | refine Below.drew ?_ | refine Below.drewN_ ?_ _ | refine Below.alloc ?_ (by first | exact Nat.le_refl _ | (simp;done) | (simp;omega) | omega) _ | refine Below.setCell ?_ (by first | exact Nat.le_refl _ | (simp;done) | (simp;omega) | omega) _ | (refine Below.trans ?_ (Below.mono (by assumption) (by first | exact Nat.le_refl _ | (simp;done) | (simp;omega) | omega))))))
 generalize w.alloc (.cells #[.int .i64 er,.int .i64 at_] 103) = w0 at *
 clear pc pf qc qf ta hp hq
 obtain ⟨pc,pf,_⟩:=blk1 hP
 obtain ⟨qc,qf,_⟩:=blk1 hQ
 obtain ⟨c0,c1,f0,f1,_⟩:=blk2 hF
 have hqp:q ≠ p:=fun e=>hne e.symm
 have hpw:p ≠ w.heap.size:=by omega
 have hqw:q ≠ w.heap.size:=by omega
 have hwp:w.heap.size ≠ p:=by omega
 have hwq:w.heap.size ≠ q:=by omega
 go_region
 all_goals
  go_wp2_with fail
  have HF:=fell_of (er:=er) (at_:=at_) hb hP hQ hne
  first
  | exact ⟨rfl,_,rfl,_,results_none rfl _ _ _,rfl,rfl,HF.1⟩
  | exact ⟨rfl,_,rfl,_,results_none rfl _ _ _,rfl,rfl,HF.2⟩
end TakW
end Go.Proofs.YtnpncpoiiikafaaGreat
namespace Go.Proofs.YtnpncpoiiikafaaGreat
open Go.RowKit
namespace TakW
theorem caughtK_no (K:FuncId) (hcf:∀ args w,(callFunc K args).run Tryz.prog w = .ok (.enter K args) w) (cap:Array Value) (er:Int) (w:World) (R:World → Prop)
 (hR:∀ w1,R w1 → Blk w1 w.heap.size 26 #[.int .i64 0]∧Blk w1 (w.heap.size + 1) 3 #[.int .i64 0])
 (C:Calls Tryz.prog K cap ((w.alloc (.cells #[.int .i64 0] 26)).alloc (.cells #[.int .i64 0] 3)) fun e w1=>∃ at_,e = .panicked (flt er at_)∧R w1) :
 Calls Tryz.prog 37 #[.func (.func K) #[] cap] w fun e w'=>∃ at_,e = .returned (.tuple #[.int .i64 er,.int .i64 at_])∧∃ w1,R w1∧Fell w1 w' w.heap.size (w.heap.size + 1) er at_:=by
 have hmf:∀ (fn:Fn) (first cap:Array Value) (w:World),(Instr.makeFunc fn first cap).run Tryz.prog w = .ok (.func fn first cap) w:=fun _ _ _ _=>rfl
 go_enter_defers Tryz.func37,Tryz.ntmps37
 go_wp2_with fail
 refine C.mono ?_
 clear C
 rintro e w1 ⟨at_,rfl,hr⟩
 obtain ⟨hP,hQ⟩:=hR w1 hr
 go_wp2_with fail
 refine leaves_cons (f:=87) (args:=#[.pointer (some ⟨w.heap.size,0,none⟩),.pointer (some ⟨w.heap.size + 1,0,none⟩)]) (by simp) (by simp [go_sem]) ?_
 refine (catch_fault w.heap.size (w.heap.size + 1) 0 0 er at_ w1 [] hP hQ (by omega)).mono ?_
 rintro e u' w2 ⟨rfl,rfl,hF⟩
 obtain ⟨pc,pf,pz⟩:=blk1 hF.err
 obtain ⟨qc,qf,qz⟩:=blk1 hF.place
 simp [Leaves,settle,results,Tryz.results37,go_sem,pc,qc]
 exact ⟨w1,hr,hF⟩
theorem caughtK_ok (K:FuncId) (hcf:∀ args w,(callFunc K args).run Tryz.prog w = .ok (.enter K args) w) (cap:Array Value) (w:World) (R:World → Prop)
 (hR:∀ w1,R w1 → Blk w1 w.heap.size 26 #[.int .i64 0]∧Blk w1 (w.heap.size + 1) 3 #[.int .i64 0])
 (C:Calls Tryz.prog K cap ((w.alloc (.cells #[.int .i64 0] 26)).alloc (.cells #[.int .i64 0] 3)) fun e w1=>e = .returned (.tuple #[])∧R w1) :
 Calls Tryz.prog 37 #[.func (.func K) #[] cap] w fun e w'=>e = .returned (.tuple #[.int .i64 0,.int .i64 0])∧∃ w1,R w1∧Fell w1 w' w.heap.size (w.heap.size + 1) 0 0:=by
 have hmf:∀ (fn:Fn) (first cap:Array Value) (w:World),(Instr.makeFunc fn first cap).run Tryz.prog w = .ok (.func fn first cap) w:=fun _ _ _ _=>rfl
 go_enter_defers Tryz.func37,Tryz.ntmps37
 go_wp2_with fail
 refine C.mono ?_
 clear C
 rintro e w1 ⟨rfl,hr⟩
 obtain ⟨hP,hQ⟩:=hR w1 hr
 obtain ⟨pc,pf,pz⟩:=blk1 hP
 obtain ⟨qc,qf,qz⟩:=blk1 hQ
 go_wp2_with fail
 refine leaves_cons (f:=87) (args:=#[.pointer (some ⟨w.heap.size,0,none⟩),.pointer (some ⟨w.heap.size + 1,0,none⟩)]) (by simp) (by simp [go_sem]) ?_
 refine (catch_idle _ _ _).mono ?_
 rintro e u' w2 ⟨rfl,rfl,rfl⟩
 have hF:=(fell_of (er:=0) (at_:=0) (Below.refl w1.heap.size w1) hP hQ (by omega)).1
 simp [Leaves,settle,results,Tryz.results37,go_sem,pc,qc]
 exact ⟨w1,hr,⟨hF.err,hF.place,hF.os,hF.tape,hF.output,hF.size,hF.block⟩⟩
theorem Fell.blk {w w':World} {p q g:Nat} {er at_:Int} {t:TypeId} {cs:Array Value} (h:Fell w w' p q er at_) (hb:Blk w g t cs) (hp:g ≠ p) (hq:g ≠ q):Blk w' g t cs:=(h.block g hb.lt hp hq).trans hb
theorem Fell.below {w0 w w':World} {p q B:Nat} {er at_:Int} (h:Fell w w' p q er at_) (hb:Below B w0 w) (hp:B≤p) (hq:B≤q) (hB:B≤w.heap.size):Below B w0 w' :=
 ⟨h.os.trans hb.os,h.tape.trans hb.tape,h.output.trans hb.output,Nat.le_trans hb.size h.size,fun k hk=>(h.block k (by omega) (by omega) (by omega)).trans (hb.block k hk)⟩
section
variable {P:Program} {ops:Array Oper} {Q:Exit → Act → World → Prop} {md:Region.Mode} {S:World → Prop} {fuel:Nat} {listed:Array Bool} {tmps:Array Value} {defers:List Deferred} {w:World}
theorem take_callip (i:Nat) (f:FuncId) (args:Array Value) (op:Op) (ty:TypeId) {oi:Oper} {d:Nat} (hd:oi.dst = some d) (hop:oi.op = op) (hty:oi.type = ty)
 (hg:Region.wanted oi (yielded ops tmps) = true)
 (he : (execOp (Act.mk tmps defers).eval { dst := some d, op := op, type := ty, pos := "", after := #[], guard := none }).run P w = .ok (.enter f args) w) {K' : Act → World → Prop}
 (h:Calls P f args w fun e w'=>∃ c,e = .panicked c∧Q (.panic c) ⟨tmps,defers⟩ w') {E:Prop} :
 if Region.wanted oi (yielded ops tmps) = true then Oper.wp P oi ⟨tmps,defers⟩ w K' Q else E:=by
 rw [if_pos hg]
 unfold Oper.wp
 rw [execOp_same _ oi { dst := some d, op := op, type := ty, pos := "", after := #[], guard := none } hop hty, he]
 refine h.mono ?_
 rintro e w' ⟨v,rfl,hn⟩
 exact hn
end
end TakW
end Go.Proofs.YtnpncpoiiikafaaGreat
