/- HedI -/
import Derived.Test.YtnpncpoiiikafaaGreatHedHQd
import Derived.Test.YtnpncpoiiikafaaGreatSkpBQd
set_option linter.unusedVariables false
set_option linter.unusedSimpArgs false
set_option linter.unnecessarySimpa false
set_option maxRecDepth 100000
set_option maxHeartbeats 32000000
namespace Go.Proofs.YtnpncpoiiikafaaGreat
open Go.RowKit
namespace ClW
theorem own_fell {w w':World} {p q base e size n c:Nat} {er at_:Int} {A:Option Addr} {xs:List Value} (h:Own w base e size A n c xs) (F:TakW.Fell w w' p q er at_) (hp:p < base) (hq:q < base):Own w' base e size A n c xs:=by
 refine ⟨h.1,?_⟩
 rcases h.2 with hz | ⟨g,cap,cur,hv,hbg,hg,r⟩
 ·exact .inl hz
 ·have hlt:g < w.heap.size:=by
   rcases Nat.lt_or_ge g w.heap.size with h | h
   ·exact h
   ·rw [Array.getElem?_eq_none h] at hg;cases hg
  exact .inr ⟨g,cap,cur,hv,hbg,(F.block g hlt (by omega) (by omega)).trans hg,r⟩
end ClW
namespace HedW
open TakW (tk flt new_any caughtK_no caughtK_ok)
open BloW (num_y num_n getV_three)
open ClW (Cl numV own_fell)
open SkpW (Me mc)
theorem gf_first (b:List UInt8) (c:Nat) (w:World) (I0:Cl w w c (gfL c b 0 none 0 0)) (hs:b.length≤1000000) (v q er:Int) (hx:getV b ((0:Nat):Int) = (v,q,er)) (her:er ≠ 0) :
 Calls Tryz.prog 52 (gfC c) w fun e w'=>GfEnd b w c e w':=by
 have HE:=Lib.hid (takeF_no hx her)
 have hcn:∀ args w,(callFunc 35 args).run Tryz.prog w = .ok (.enter 35 args) w:=fun args w=>run_enter Tryz.func35 (by kernel_rfl) rfl args w
 have cN:=gf_S I0
 have C:=num_n c b 0 v q er w (gf_G I0) hx her hs
 clear hx
 unfold gfC
 go_enter Tryz.func52,Tryz.ntmps52
 go_wp2_with fail
 refine C.mono ?_
 clear C cN
 rintro e w1 ⟨rfl,hL⟩
 have I:=gf_left I0 hL
 clear hL I0
 go_wp2_with fail
 simp [bodyPost]
 exact GfEnd.no HE.out her I
theorem gf_big (b:List UInt8) (c:Nat) (w:World) (I0:Cl w w c (gfL c b 0 none 0 0)) (hs:b.length≤1000000) (v:Int) (q:Nat) (hx:getV b ((0:Nat):Int) = (v,((q:Nat):Int),0)) (hv:1000 < v) :
 Calls Tryz.prog 52 (gfC c) w fun e w'=>GfEnd b w c e w':=by
 have HE:=Lib.hid (takeF_big hx hv)
 have hcn:∀ args w,(callFunc 35 args).run Tryz.prog w = .ok (.enter 35 args) w:=fun args w=>run_enter Tryz.func35 (by kernel_rfl) rfl args w
 have cN:=gf_S I0
 have C:=num_y c b 0 q v w (gf_G I0) hx hs
 clear hx
 unfold gfC
 go_enter Tryz.func52,Tryz.ntmps52
 go_wp2_with fail
 refine C.mono ?_
 clear C cN
 rintro e w1 ⟨rfl,hL⟩
 have I:=gf_left I0 hL
 clear hL I0
 go_wp2_with fail
 simp [bodyPost]
 exact GfEnd.no HE.out (by decide) I
theorem gf_any (b:List UInt8) (c:Nat) (w:World) (I0:Cl w w c (gfL c b 0 none 0 0)) (hs:b.length≤1000000) :
 Calls Tryz.prog 52 (gfC c) w fun e w'=>GfEnd b w c e w':=by
 rcases getV_three b 0 with ⟨v,q,h1⟩ | ⟨v,q,er,hx,her⟩
 ·by_cases hv:1000 < v
  ·exact gf_big b c w I0 hs v q h1 hv
  ·have h0:=(getV_ok (s:=b) (a:=((0:Nat):Int)) (by rw [h1])).2.2.2.1
   rw [h1] at h0
   dsimp only at h0
   obtain ⟨N,rfl⟩:=Int.eq_ofNat_of_zero_le h0
   exact gf_loop b c w none I0 hs N (by omega) q h1
 ·exact gf_first b c w I0 hs v q er hx her
theorem hcf_gf:∀ args w,(callFunc 52 args).run Tryz.prog w = .ok (.enter 52 args) w:=fun args w=>run_enter Tryz.func52 (by kernel_rfl) rfl args w
theorem gf_yes (b:List UInt8) (c:Nat) (w:World) (h:∀ i x,(gfL c b 0 none 0 0)[i]? = some x → Blk w (c + i) x.1 x.2) (hc:c + 4≤w.heap.size) (hs:b.length≤1000000) (h0:(takeF b).2 = 0) :
 Calls Tryz.prog 37 #[.func (.func 52) #[] (gfC c)] w fun e w'=>e = .returned (.tuple #[.int .i64 0,.int .i64 0]) ∧
  (∃ q A n c',(∀ i x,(gfL c b q A n c')[i]? = some x → Blk w' (c + i) x.1 x.2)∧Rd w' w'.heap.size 7 A n (mcells (takeF b).1)∧n≤c')∧Below c w w':=by
 have C2:=caughtK_ok 52 hcf_gf (gfC c) w (fun w1=>∃ q A n c',Cl _ w1 c (gfL c b q A n c')∧Own w1 (w.heap.size + 2) 33 7 A n c' (mcells (takeF b).1)) (fun w1 ⟨q,A,n,c',h,_⟩=>Cl.cells h hc)
  ((gf_any b c _ (Cl.start h hc) hs).mono fun e w1 h=>by
   rcases h with ⟨_,h2,q,A,n,c',h3,h4⟩ | ⟨h1,_⟩
   ·exact ⟨h2,q,A,n,c',h3,by simpa using h4⟩
   ·exact absurd h0 h1)
 exact C2.mono fun e w' ⟨h1,w1,⟨q,A,n,c',I,own⟩,F⟩=>⟨h1,⟨q,A,n,c',(Cl.fell I hc F).1,(own_fell own F (by omega) (by omega)).rd,own.cap⟩,(Cl.fell I hc F).2⟩
theorem gf_no (b:List UInt8) (c:Nat) (w:World) (h:∀ i x,(gfL c b 0 none 0 0)[i]? = some x → Blk w (c + i) x.1 x.2) (hc:c + 4≤w.heap.size) (hs:b.length≤1000000) (h0:(takeF b).2 ≠ 0) :
 Calls Tryz.prog 37 #[.func (.func 52) #[] (gfC c)] w fun e w'=>∃ at_,e = .returned (.tuple #[.int .i64 (takeF b).2,.int .i64 at_])∧Below c w w':=by
 have C2:=caughtK_no 52 hcf_gf (gfC c) (takeF b).2 w (fun w1=>∃ q A n c',Cl _ w1 c (gfL c b q A n c')) (fun w1 ⟨q,A,n,c',h⟩=>Cl.cells h hc)
  ((gf_any b c _ (Cl.start h hc) hs).mono fun e w1 h=>by
   rcases h with ⟨h1,_⟩ | ⟨_,a,h2,h3⟩
   ·exact absurd h1 h0
   ·exact ⟨a,h2,h3⟩)
 exact C2.mono fun e w' ⟨a,h1,w1,⟨q,A,n,c',I⟩,F⟩=>⟨a,h1,(Cl.fell I hc F).2⟩
def wGf (b:List UInt8) (w:World):World :=
 (((w.alloc (.cells (tk b 0) 145)).alloc (.cells #[.pointer (some ⟨w.heap.size,0,none⟩)] 78)).alloc (.cells #[numV w.heap.size] 80)).alloc (.cells #[.slice none 0 0] 25)
theorem wGf_size (b:List UInt8) (w:World):(wGf b w).heap.size = w.heap.size + 4:=by simp [wGf]
theorem wGf_below (b:List UInt8) (w:World):Below w.heap.size w (wGf b w) :=
 ((((Below.refl w.heap.size w).alloc (Nat.le_refl _) _).alloc (by simp) _).alloc (by simp;omega) _).alloc (by simp;omega) _
theorem wGf_fr (b:List UInt8) (w:World):∀ i x,(gfL w.heap.size b 0 none 0 0)[i]? = some x → Blk (wGf b w) (w.heap.size + i) x.1 x.2:=by
 intro i x hx
 match i,hx with
 | 0,hx=>obtain rfl:=Option.some.inj hx;exact Blk.alloc (Blk.alloc (Blk.alloc (blk_at2 _ _ rfl) _) _) _
 | 1,hx=>obtain rfl:=Option.some.inj hx;exact Blk.alloc (Blk.alloc (blk_at2 _ _ (by simp)) _) _
 | 2,hx=>obtain rfl:=Option.some.inj hx;exact Blk.alloc (blk_at2 _ _ (by simp)) _
 | 3,hx=>obtain rfl:=Option.some.inj hx;exact blk_at2 _ _ (by simp)
 | n + 4,hx=>simp [gfL] at hx
theorem GetFoot_any (b:List UInt8) (w:World) (hs:b.length≤1000000) (x:List Me × Int) (hx:getF b = x) :
 Calls Tryz.prog 17 #[str b] w fun e w'=>∃ A n c,e = .returned (.tuple #[.slice A n c,.int .i64 x.2])∧n≤c∧Rd w' w'.heap.size 7 A n (mcells x.1)∧Below w.heap.size w w':=by
 have hmf:∀ (fn:Fn) (first cap:Array Value) (w:World),(Instr.makeFunc fn first cap).run Tryz.prog w = .ok (.func fn first cap) w:=fun _ _ _ _=>rfl
 have HX:=Lib.hid hx
 clear hx
 go_enter Tryz.func17,Tryz.ntmps17
 go_wp2_with fail
 refine (new_any b _).mono ?_
 rintro e w1 ⟨rfl,rfl⟩
 go_wp2_with fail
 have hsz:=wGf_size b w
 have hlow:=wGf_below b w
 by_cases h0:(takeF b).2 = 0
 ·refine (gf_yes b w.heap.size (wGf b w) (wGf_fr b w) (by omega) (by omega) h0).mono ?_
  rintro e w2 ⟨rfl,⟨q,A,n,c',hq,R,hnc⟩,HB⟩
  replace HB:=hlow.trans HB
  have hx1:=HX.out
  unfold getF at hx1
  rw [if_pos h0] at hx1
  have bO:Blk w2 (w.heap.size + 3) 25 #[.slice A n c']:=hq 3 _ rfl
  have hle:n≤1000000:=by
   have hl:=rd_mlen R
   have h1:(takeF b).1.length≤1000:=by
    unfold takeF at h0 ⊢
    by_cases a1:(getV b 0).2.2 = 0
    ·rw [if_pos a1] at h0 ⊢
     by_cases a2:1000 < (getV b 0).1
     ·rw [if_pos a2] at h0;simp at h0
     ·rw [if_neg a2] at h0 ⊢
      by_cases a3:(metsV b (getV b 0).1.toNat (getV b 0).2.1).2.2 = 0
      ·rw [if_pos a3] at h0 ⊢
       by_cases a4:(metsV b (getV b 0).1.toNat (getV b 0).2.1).2.1 = b.length
       ·rw [if_pos a4]
        obtain ⟨g1,g2,g3,g4,g5⟩:=getV_ok a1
        have:=(metsV_ok a3 (by omega) g3).2.2.1
        dsimp only
        omega
       ·rw [if_neg a4] at h0;simp at h0
      ·rw [if_neg a3] at h0;exact absurd h0 a3
    ·rw [if_neg a1] at h0;exact absurd h0 a1
   omega
  have C:=fun w (h:Rd w w.heap.size 7 A n (mcells (takeF b).1))=>Blocks_any A n c' _ w h hle _ rfl
  have C2:=C w2 R
  obtain ⟨l,hl⟩:∃ l,(takeF b).1 = l:=⟨_,rfl⟩
  rw [hl] at hx1 R C2
  obtain ⟨v,hv⟩:∃ v,blocksV l = v:=⟨_,rfl⟩
  rw [hv] at hx1 C2
  have cO:=bO.cell_ 0 rfl
  have HX1:=Lib.hid hx1
  have HR:=Lib.hid R
  clear hq hx1 HX hsz hlow hl hv h0 C R
  go_wp2_with fail
  refine C2.mono ?_
  clear C2 cO
  rintro e w3 ⟨rfl,hb3⟩
  have bO3:=bO.below hb3 bO.lt
  have cO:=bO3.cell_ 0 rfl
  have R3:=(HR.out.below hb3).more hb3.size
  replace HB:=HB.trans (hb3.mono HB.size)
  clear hb3 bO bO3 HR
  by_cases h1:v = 0
  ·subst h1
   have hx2:=HX1.out
   rw [if_pos rfl] at hx2
   subst hx2
   clear HX1
   go_wp2_with fail
   go_ret2
   exact ⟨A,n,c',rfl,hnc,R3,HB⟩
  ·have hx2:=HX1.out
   rw [if_neg h1] at hx2
   subst hx2
   have h1b:(v != 0) = true:=by simp [h1]
   clear HX1
   go_wp2_with fail
   go_ret2
   exact ⟨none,0,0,rfl,Nat.le_refl _,Rd.nil _ _ _ _,HB⟩
 ·refine (gf_no b w.heap.size (wGf b w) (wGf_fr b w) (by omega) (by omega) h0).mono ?_
  rintro e w2 ⟨at_,rfl,HB⟩
  replace HB:=hlow.trans HB
  have hx1:=HX.out
  unfold getF at hx1
  rw [if_neg h0] at hx1
  obtain ⟨er,her⟩:∃ er,(takeF b).2 = er:=⟨_,rfl⟩
  rw [her] at hx1 h0 ⊢
  subst hx1
  have h0b:(er != 0) = true:=by simp [h0]
  clear her HX hsz hlow
  go_wp2_with fail
  go_ret2
  exact ⟨none,0,0,rfl,Nat.le_refl _,Rd.nil _ _ _ _,HB⟩
end HedW
end Go.Proofs.YtnpncpoiiikafaaGreat
namespace Go.Proofs.YtnpncpoiiikafaaGreat
open VarW
namespace ManW
open SkpW (En chkE)
open HedW (at3 lput_app lput_cons)
def nextE (a b:En):Bool:=a.shut && (decide (a.id < b.id) && (decide (b.frst = a.frst + a.count) && (!b.shut || decide (a.late≤b.early))))
def rowE:Option En → List En → Bool
 | _,[]=>true
 | none,e :: l=>decide (chkE e = 0) && rowE (some e) l
 | some a,e :: l=>decide (chkE e = 0) && (nextE a e && rowE (some e) l)
def enZ:En:=⟨0,0,0,false,0,0,0,0,0⟩
def rowEV (l:List En):Int:=if l.length < 1 ∨ 100 < l.length ∨ (l[l.length - 1]?.getD enZ).shut = true then 240 else if rowE none l = true then 0 else 240
structure Mn where
 gen:Int
 next:Int
 now:Int
 floor:Int
 ents:List En
def mnZ:Mn:=⟨0,0,0,0,[]⟩
def chkM (m:Mn):Int :=
 if m.gen < 1 ∨ 1000000000 < m.gen ∨ m.now < 0 ∨ 1000000000 < m.now ∨ rowEV m.ents ≠ 0 then 250 else
 if m.next≤(m.ents[m.ents.length - 1]?.getD enZ).id ∨ 1000000 < m.next ∨ m.floor ≠ (m.ents[0]?.getD enZ).frst ∨ m.ents.any (fun e=>decide (m.now < e.late)) = true then 250 else 0
def flagN (b:Bool):Int:=if b then 1 else 0
def numE (e:En):List Int:=[e.id,e.gen,e.frst,flagN e.shut,e.count,e.blocks,e.early,e.late,e.bytes]
def enOf (l:List Int):En:=⟨at3 l 0,at3 l 1,at3 l 2,decide (at3 l 3 = 1),at3 l 4,at3 l 5,at3 l 6,at3 l 7,at3 l 8⟩
theorem nine {l:List Int} (h:l.length = 9):l = [at3 l 0,at3 l 1,at3 l 2,at3 l 3,at3 l 4,at3 l 5,at3 l 6,at3 l 7,at3 l 8]:=by
 obtain ⟨a,b,c,d,e,f,g,i,j,rfl⟩:∃ a b c d e f g i j,l = [a,b,c,d,e,f,g,i,j]:=by
  match l,h with
  | [a,b,c,d,e,f,g,i,j],_=>exact ⟨a,b,c,d,e,f,g,i,j,rfl⟩
 rfl
theorem numE_enOf {l:List Int} (h:l.length = 9) (h0:at3 l 3 = 0 ∨ at3 l 3 = 1):numE (enOf l) = l:=by
 conv=>rhs;rw [nine h]
 have e:flagN (enOf l).shut = at3 l 3:=by
  show flagN (decide (at3 l 3 = 1)) = at3 l 3
  rcases h0 with h0 | h0 <;> rw [h0] <;> rfl
 unfold numE
 rw [e]
 rfl
def entV (b:List UInt8) (p:Int):List Int × Int × Int :=
 if (numsV b 3 p).2.2 = 0 then
  (if (getV b (numsV b 3 p).2.1).2.2 = 0 then
   (if 1 < (getV b (numsV b 3 p).2.1).1 then ([],p,250) else
    if (numsV b 5 (getV b (numsV b 3 p).2.1).2.1).2.2 = 0 then ((numsV b 3 p).1 ++ ((getV b (numsV b 3 p).2.1).1 :: (numsV b 5 (getV b (numsV b 3 p).2.1).2.1).1),(numsV b 5 (getV b (numsV b 3 p).2.1).2.1).2.1,0)
    else ([],p,(numsV b 5 (getV b (numsV b 3 p).2.1).2.1).2.2))
  else ([],p,(getV b (numsV b 3 p).2.1).2.2))
 else ([],p,(numsV b 3 p).2.2)
theorem entV_ok {b:List UInt8} {p:Int} (h:(entV b p).2.2 = 0) (h0:0≤p) (h1:p≤b.length):p≤(entV b p).2.1∧(entV b p).2.1≤b.length∧(entV b p).1.length = 9∧(at3 (entV b p).1 3 = 0 ∨ at3 (entV b p).1 3 = 1) ∧
 (∀ x ∈ (entV b p).1,0≤x∧x≤9223372036854775807)∧lput (entV b p).1 = (b.drop p.toNat).take ((entV b p).2.1 - p).toNat:=by
 unfold entV at h ⊢
 by_cases a1:(numsV b 3 p).2.2 = 0
 ·rw [if_pos a1] at h ⊢
  have l3:=numsV_len a1
  obtain ⟨n1,n2,n3⟩:=numsV_ok a1 h0 h1
  have ni:=numsV_inv a1 h0 h1
  generalize (numsV b 3 p).1 = A at *
  generalize (numsV b 3 p).2.1 = q at *
  by_cases a2:(getV b q).2.2 = 0
  ·rw [if_pos a2] at h ⊢
   obtain ⟨g1,g2,g3,g4,g5⟩:=getV_ok a2
   have iv:=getV_inv a2
   generalize (getV b q).1 = f at *
   generalize (getV b q).2.1 = r at *
   by_cases a3:1 < f
   ·rw [if_pos a3] at h;simp at h
   ·rw [if_neg a3] at h ⊢
    by_cases a4:(numsV b 5 r).2.2 = 0
    ·rw [if_pos a4]
     have l5:=numsV_len a4
     obtain ⟨m1,m2,m3⟩:=numsV_ok a4 (by omega) g3
     have mi:=numsV_inv a4 (by omega) g3
     generalize (numsV b 5 r).1 = C at *
     generalize (numsV b 5 r).2.1 = z at *
     dsimp only
     refine ⟨by omega,m2,by rw [List.length_append,List.length_cons,l3,l5],?_,?_,?_⟩
     ·have e:at3 (A ++ f :: C) 3 = f:=by
       unfold at3
       rw [List.getElem?_append_right (by omega),l3]
       rfl
      rw [e]
      omega
     ·intro x hx
      rcases List.mem_append.1 hx with hx | hx
      ·exact n3 x hx
      ·rcases List.mem_cons.1 hx with rfl | hx
       ·exact ⟨g4,g5⟩
       ·exact m3 x hx
     ·rw [lput_app,lput_cons,ni,iv,mi]
      have e1:b.drop q.toNat = (b.drop p.toNat).drop (q - p).toNat:=by rw [List.drop_drop];congr 1;omega
      have e2:b.drop r.toNat = ((b.drop p.toNat).drop (q - p).toNat).drop (r - q).toNat:=by rw [List.drop_drop,List.drop_drop];congr 1;omega
      have e3:(z - p).toNat = (q - p).toNat + ((r - q).toNat + (z - r).toNat):=by omega
      rw [e2,e1,e3,List.take_add,List.take_add]
    ·rw [if_neg a4] at h;exact absurd h a4
  ·rw [if_neg a2] at h;exact absurd h a2
 ·rw [if_neg a1] at h;exact absurd h a1
def entsV (b:List UInt8):Nat → Int → List En × Int × Int
 | 0,p=>([],p,0)
 | k + 1,p=>if (entV b p).2.2 = 0 then (enOf (entV b p).1 :: (entsV b k (entV b p).2.1).1,(entsV b k (entV b p).2.1).2) else ([],p,(entV b p).2.2)
theorem entsV_yes {b:List UInt8} {k:Nat} {p tz:Int} {l:List Int} (h:entV b p = (l,tz,0)):entsV b (k + 1) p = (enOf l :: (entsV b k tz).1,(entsV b k tz).2):=by rw [entsV,h];rfl
theorem entsV_no {b:List UInt8} {k:Nat} {p tz e:Int} {l:List Int} (h:entV b p = (l,tz,e)) (he:e ≠ 0):entsV b (k + 1) p = ([],p,e):=by rw [entsV,h];exact if_neg he
theorem entsV_ok {b : List UInt8} : ∀ {k : Nat} {p : Int}, (entsV b k p).2.2 = 0 → 0 ≤ p → p ≤ b.length → p ≤ (entsV b k p).2.1 ∧ (entsV b k p).2.1 ≤ b.length ∧ (entsV b k p).1.length = k ∧
      (∀ x ∈ (entsV b k p).1.flatMap numE,0≤x∧x≤9223372036854775807)∧lput ((entsV b k p).1.flatMap numE) = (b.drop p.toNat).take ((entsV b k p).2.1 - p).toNat
 | 0,p,_,h0,h1=>⟨by simp [entsV],h1,rfl,by simp [entsV],by simp [entsV,lput]⟩
 | k + 1,p,h,h0,h1=>by
  rw [entsV] at h ⊢
  split at h
  ·next hn =>
   rw [if_pos hn]
   obtain ⟨n1,n2,n3,n4,n5,n6⟩:=entV_ok hn h0 h1
   obtain ⟨i1,i2,i3,i4,i5⟩:=entsV_ok h (by omega) n2
   dsimp only
   refine ⟨by omega,i2,by rw [List.length_cons,i3],?_,?_⟩
   ·intro x hx
    rw [List.flatMap_cons,numE_enOf n3 n4] at hx
    rcases List.mem_append.1 hx with hx | hx
    ·exact n5 x hx
    ·exact i4 x hx
   ·rw [List.flatMap_cons,lput_app,numE_enOf n3 n4,n6,i5]
    generalize (entV b p).2.1 = q at *
    generalize (entsV b k q).2.1 = z at *
    have e1:b.drop q.toNat = (b.drop p.toNat).drop (q - p).toNat:=by rw [List.drop_drop];congr 1;omega
    have e2:(z - p).toNat = (q - p).toNat + (z - q).toNat:=by omega
    show _ = List.take ((z - p).toNat) _
    rw [e1,e2,List.take_add]
  ·next hn=>exact absurd h hn
def numsM (m:Mn):List Int:=[m.gen,m.next,m.now,m.floor,(m.ents.length:Int)] ++ m.ents.flatMap numE
def mnOf (l:List Int) (es:List En):Mn:=⟨at3 l 0,at3 l 1,at3 l 2,at3 l 3,es⟩
def takeE (b:List UInt8) (l:List Int) (n:Int) (q:Int):Mn × Int :=
 if 100 < n then (mnZ,3) else
  if (entsV b n.toNat q).2.2 = 0 then (if (entsV b n.toNat q).2.1 = b.length then (mnOf l (entsV b n.toNat q).1,0) else (mnZ,6)) else (mnZ,(entsV b n.toNat q).2.2)
def takeM (b:List UInt8):Mn × Int :=
 if (numsV b 4 0).2.2 = 0 then (if (getV b (numsV b 4 0).2.1).2.2 = 0 then takeE b (numsV b 4 0).1 (getV b (numsV b 4 0).2.1).1 (getV b (numsV b 4 0).2.1).2.1 else (mnZ,(getV b (numsV b 4 0).2.1).2.2))
 else (mnZ,(numsV b 4 0).2.2)
def getM (b:List UInt8):Mn × Int :=
 if (takeM b).2 = 0 then (if chkM (takeM b).1 = 0 then ((takeM b).1,0) else (mnZ,chkM (takeM b).1)) else (mnZ,(takeM b).2)
theorem four {l:List Int} (h:l.length = 4):l = [at3 l 0,at3 l 1,at3 l 2,at3 l 3]:=by
 obtain ⟨a,b,c,d,rfl⟩:∃ a b c d,l = [a,b,c,d]:=by
  match l,h with
  | [a,b,c,d],_=>exact ⟨a,b,c,d,rfl⟩
 rfl
theorem getM_back {b:List UInt8} (h:(getM b).2 = 0):chkM (getM b).1 = 0∧getM b = ((getM b).1,0)∧(∀ n ∈ numsM (getM b).1,0≤n∧n≤9223372036854775807)∧lput (numsM (getM b).1) = b:=by
 unfold getM at h ⊢
 by_cases h1:(takeM b).2 = 0
 ·rw [if_pos h1] at h ⊢
  by_cases h2:chkM (takeM b).1 = 0
  ·rw [if_pos h2]
   refine ⟨h2,rfl,?_⟩
   dsimp only
   clear h2 h
   unfold takeM at h1 ⊢
   by_cases h3:(numsV b 4 0).2.2 = 0
   ·rw [if_pos h3] at h1 ⊢
    by_cases h4:(getV b (numsV b 4 0).2.1).2.2 = 0
    ·rw [if_pos h4] at h1 ⊢
     have hl:=numsV_len h3
     obtain ⟨n1,n2,n3⟩:=numsV_ok h3 (by omega) (by omega)
     have ni:=numsV_inv h3 (by omega) (by omega)
     generalize (numsV b 4 0).1 = A at *
     generalize (numsV b 4 0).2.1 = q at *
     obtain ⟨g1,g2,g3,g4,g5⟩:=getV_ok h4
     have iv:=getV_inv h4
     generalize (getV b q).1 = n at *
     generalize (getV b q).2.1 = r at *
     unfold takeE at h1 ⊢
     by_cases h5:100 < n
     ·rw [if_pos h5] at h1;simp at h1
     ·rw [if_neg h5] at h1 ⊢
      by_cases h6:(entsV b n.toNat r).2.2 = 0
      ·rw [if_pos h6] at h1 ⊢
       by_cases h7:(entsV b n.toNat r).2.1 = b.length
       ·rw [if_pos h7]
        dsimp only
        obtain ⟨i1,i2,i3,i4,i5⟩:=entsV_ok h6 (by omega) g3
        rw [h7] at i5
        have e:numsM (mnOf A (entsV b n.toNat r).1) = A ++ (n :: (entsV b n.toNat r).1.flatMap numE):=by
         unfold numsM mnOf
         dsimp only
         rw [i3]
         conv=>rhs;rw [four hl]
         have:((n.toNat:Nat):Int) = n:=by omega
         rw [this]
         rfl
        rw [e]
        refine ⟨fun x hx=>?_,?_⟩
        ·rcases List.mem_append.1 hx with hx | hx
         ·exact n3 x hx
         ·rcases List.mem_cons.1 hx with rfl | hx
          ·exact ⟨g4,g5⟩
          ·exact i4 x hx
        ·rw [lput_app,lput_cons,ni,iv,i5]
         have e1:b.drop q.toNat = (b.drop (0:Int).toNat).drop (q - 0).toNat:=by rw [List.drop_drop];congr 1;omega
         have e2:b.drop r.toNat = ((b.drop (0:Int).toNat).drop (q - 0).toNat).drop (r - q).toNat:=by rw [List.drop_drop,List.drop_drop];congr 1;omega
         rw [e2,e1,← List.take_add,← List.take_add]
         have:(b.drop (0:Int).toNat) = b:=by simp
         rw [this,List.take_of_length_le (by omega)]
       ·rw [if_neg h7] at h1;simp at h1
      ·rw [if_neg h6] at h1;exact absurd h1 h6
    ·rw [if_neg h4] at h1;exact absurd h1 h4
   ·rw [if_neg h3] at h1;exact absurd h1 h3
  ·rw [if_neg h2] at h;exact absurd h h2
 ·rw [if_neg h1] at h;exact absurd h h1
end ManW
end Go.Proofs.YtnpncpoiiikafaaGreat
