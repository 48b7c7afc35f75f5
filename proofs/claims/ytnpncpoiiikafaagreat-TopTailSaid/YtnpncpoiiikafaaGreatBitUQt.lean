/- BitU -/
import Derived.Test.YtnpncpoiiikafaaGreatBitWQt
import Derived.Test.YtnpncpoiiikafaaGreatZruPQt
import Derived.Test.YtnpncpoiiikafaaGreatCanXQt
import Derived.Laws.EntriesVeiled
import Derived.Test.YtnpncpoiiikafaaGreatFrontWQt
import Derived.Deep.OwnRows
import Derived.Test.YtnpncpoiiikafaaGreatLenBQt
import Derived.Test.YtnpncpoiiikafaaGreatMemQt
set_option linter.unusedVariables false
set_option linter.unusedSimpArgs false
set_option linter.unnecessarySimpa false
set_option maxRecDepth 100000
set_option maxHeartbeats 32000000
namespace Go.Proofs.YtnpncpoiiikafaaGreat
open Go.RowKit
namespace BitW
theorem text_any (base g:Nat) (ab:Option Nat) (l:List Nat) (w:World) (h:Wr w base g ab l) (hl:l.length≤1000000) :
 Calls Tryz.prog 103 #[.pointer (some ⟨g,0,none⟩)] w fun e w'=>e = .returned (str (textB l))∧Below w.heap.size w w':=by
 obtain ⟨⟨A,nb,c,bs,r,k,bG,o,hab,hk,hr,rfl⟩,hgb⟩:=h
 have bG':=bG
 obtain ⟨c0,c1,c2,f0,f1,f2,z⟩:=blk3 bG'
 clear bG'
 have hcv:=run_bytes_str (P:=Tryz.prog) w (c:=c) Tryz.underlying99 Tryz.underlying5 Tryz.underlying9 o.rd
 have hT:=Lib.hid (textB_bits bs (dg k r))
 by_cases hk0:k = 0
 ·subst hk0
  go_enter Tryz.func103,Tryz.ntmps103
  go_wp2_with fail
  go_ret
  refine ⟨?_,Below.refl _ _⟩
  rw [hT.out]
  simp [dg,textB_nil]
 ·have hkI:((k:Int) == 0) = false:=by rw [beq_eq_false_iff_ne];omega
  have hsub:(8:Int) - (k:Int) = ((8 - k:Nat):Int):=by omega
  have hwr:IntKind.i64.wrap ((8 - k:Nat):Int) = ((8 - k:Nat):Int):=IntWalk.i64_in _ (by omega)
  have HF:=Lib.hid (textB_few k r (by omega) hk)
  have HB:=Below.refl w.heap.size w
  have e1:bs.length = nb:=by have:=o.len;simp [byts] at this;omega
  have hbl:bs.length≤1000000:=by rw [List.length_append,bitsB_len] at hl;omega
  have HBV:Hid ([Value.int .u8 (IntKind.u8.wrap (IntKind.u64.wrap ((r:Int) * 2 ^ (8 - k))))] = byts [UInt8.ofNat ((r * 2 ^ (8 - k)) % 256)]):=Lib.hid (by
   have e1:(r:Int) * 2 ^ (8 - k) = ((r * 2 ^ (8 - k):Nat):Int):=by push_cast;rfl
   rw [e1]
   simp only [byts,List.map_cons,List.map_nil,byt]
   congr 2
   rw [UInt8.toNat_ofNat']
   generalize r * 2 ^ (8 - k) = y
   simp [IntKind.wrap,IntKind.bits,IntKind.signed])
  have hnb:¬ 9223372036854775807 < nb + 1:=by omega
  clear hk0 hcv
  go_enter Tryz.func103,Tryz.ntmps103
  go_wp2_with fail
  refine wp_region_held_drew (S:=(fun w'=>w'.cell? ⟨g,0,none⟩ = some (.slice A nb c)∧w'.cell? ⟨g,1,none⟩ = some (.int .u64 (r:Nat))∧w'.cell? ⟨g,2,none⟩ = some (.int .i64 (k:Nat))∧(convert 99 9 (.slice A nb c)).run Tryz.prog w' = .ok (str bs) w')) (by kernel_rfl) ?_ (fun hHeld=>?_)
  ·replace HB:=Below.drew HB;replace o:=Own.drew o;replace bG:=Blk.drew bG;(try dsimp only);exact ⟨bG.cell_ 0 rfl,bG.cell_ 1 rfl,bG.cell_ 2 rfl,run_bytes_str (P:=Tryz.prog) _ (c:=c) Tryz.underlying99 Tryz.underlying5 Tryz.underlying9 o.rd⟩
  replace HB:=Below.drew HB
  replace o:=Own.drew o
  replace bG:=Blk.drew bG
  have zHB:=HB.size
  refine zM 0 (.tmp 0) ?_
  refine zO 1 (.nilCheck (.tmp 15)) 0 ?_
  refine zO 2 (.fieldAddr 171 (.tmp 16) 0) 0 ?_
  refine zO 3 (.load 99 (.tmp 17)) 99 ?_
  refine zO 4 (.convert 99 9 (.tmp 18)) 9 ?_
  refine zM 5 (.tmp 0) ?_
  refine zO 6 (.nilCheck (.tmp 20)) 0 ?_
  refine zO 7 (.fieldAddr 171 (.tmp 21) 1) 0 ?_
  refine zO 8 (.load 169 (.tmp 22)) 169 ?_
  refine zM 9 (.tmp 0) ?_
  refine zO 10 (.nilCheck (.tmp 24)) 0 ?_
  refine zO 11 (.fieldAddr 171 (.tmp 25) 2) 0 ?_
  refine zO 12 (.load 3 (.tmp 26)) 3 ?_
  refine zO 13 (.binOp .sub 3 (.const (Value.int IntKind.i64 8)) (.tmp 27) 3) 3 ?_
  refine zO 14 (.binOp .shl 169 (.tmp 23) (.tmp 28) 3) 169 ?_
  refine zO 15 (.convert 169 5 (.tmp 29)) 5 ?_
  refine zR 16 (fun K16 hK16=>?_)
  refine take_build (e:=5) (len:=1) (size:=1) (w.heap.size) ([Value.int .u8 (IntKind.u8.wrap (IntKind.u64.wrap ((r:Int) * 2 ^ (8 - k))))]) 16 (Op.buildSlice 99 1 #[(0,Operand.tmp 30)]) 99 rfl rfl rfl (by kernel_rfl) ?eu1x16 (by rfl) (by decide) (by first | exact Nat.le_refl _ | (simp only [World.size_alloc,World.size_setCell,World.size_drew] at *;omega) | omega) ?_
  case eu1x16=>(go_simp;try (first | with_reducible rfl | (simp [rcells,rcell];done) | (simp [fcells];done) | (simp [tcells];done) | rfl))
  intro gx16 w16 o16 gr16 l16 m16
  have z16:=gr16.size
  try simp only [World.size_drew] at z16
  replace HB:=below_grow HB gr16
  have zHB16:=HB.size
  replace o:=Own.grow0 o gr16
  replace bG:=Blk.grow0 bG gr16
  refine hK16.out _ _ ?su1x16 (fun hHeld=>?ru1x16)
  case su1x16=>((try dsimp only);exact ⟨bG.cell_ 0 rfl,bG.cell_ 1 rfl,bG.cell_ 2 rfl,run_bytes_str (P:=Tryz.prog) _ (c:=c) Tryz.underlying99 Tryz.underlying5 Tryz.underlying9 o.rd⟩)
  try simp only [zSa,zSb,zSc]
  rw [HBV.out] at o16;have hcv:=run_bytes_str (P:=Tryz.prog) _ (c:=1) Tryz.underlying99 Tryz.underlying5 Tryz.underlying9 o16.rd
  refine' take_run 17 (Op.convert 99 9 (Operand.tmp 31)) 9 (by kernel_rfl) rfl rfl rfl rfl (by kernel_rfl) ?eu1x17 ?su1x17 (fun hHeld=>?ru1x17)
  case eu1x17=>(go_simp;try (first | with_reducible rfl | exact ⟨rfl,rfl⟩))
  case su1x17=>((try dsimp only);(first | assumption | (exact ⟨bG.cell_ 0 rfl,bG.cell_ 1 rfl,bG.cell_ 2 rfl,run_bytes_str (P:=Tryz.prog) _ (c:=c) Tryz.underlying99 Tryz.underlying5 Tryz.underlying9 o.rd⟩)))
  simp only [zSa,zSb,zSc]
  refine zO 18 (.binOp .add 9 (.tmp 19) (.tmp 32) 9) 9 ?_
  refine zO 19 (.assign (.tmp 33)) 9 ?_
  refine wpAnyH_done (by kernel_rfl) ?_ _
  go_wp2_with fail
  go_ret
  refine ⟨?_,HB⟩
  rw [hT.out,HF.out]
  simp [ba_cat]
end BitW
end Go.Proofs.YtnpncpoiiikafaaGreat
namespace Go.Proofs.YtnpncpoiiikafaaGreat
open Go.RowKit
namespace BitW
end BitW
end Go.Proofs.YtnpncpoiiikafaaGreat
namespace Go.Proofs.YtnpncpoiiikafaaGreat
open Go.RowKit
namespace BitW
abbrev rdr (s:List UInt8) (p:Nat):Array Value:=#[str s,.int .i64 p]
theorem new_any (s:List UInt8) (w:World) :
 Calls Tryz.prog 88 #[str s] w fun e w'=>e = .returned (.pointer (some ⟨w.heap.size,0,none⟩))∧w' = w.alloc (.cells (rdr s 0) 198):=by
 go_enter Tryz.func88,Tryz.ntmps88
 go_wp2_with fail
 go_ret
 exact ⟨rfl,rfl⟩
theorem left_any (g:Nat) (s:List UInt8) (p:Nat) (w:World) (h:Blk w g 198 (rdr s p)) (hp:p≤8 * s.length) (hs:s.length≤1000000) :
 Calls Tryz.prog 139 #[.pointer (some ⟨g,0,none⟩)] w fun e w'=>e = .returned (.int .i64 ((8 * s.length - p:Nat):Int))∧∃ nq,w' = w.drewN nq:=by
 obtain ⟨c0,c1,f0,f1,z⟩:=blk2 h
 have w1:IntKind.i64.wrap (8 * (s.length:Int)) = 8 * (s.length:Int):=IntWalk.i64_in _ (by omega)
 have w2:IntKind.i64.wrap (8 * (s.length:Int) - (p:Int)) = ((8 * s.length - p:Nat):Int):=by rw [IntWalk.i64_in _ (by omega)];omega
 have w3:8 * (s.length:Int) - (p:Int) = ((8 * s.length - p:Nat):Int):=by omega
 have HW:=Lib.hid w3
 clear w3 h
 go_enter Tryz.func139,Tryz.ntmps139
 go_wp2_with fail
 go_quiet (fail)
 go_wp2
 go_ret
 exact ⟨by first | rfl | (rw [HW.out]),_,rfl⟩
def cut (s:List UInt8) (a k:Nat):List Nat:=((bitsB s).drop a).take k
theorem w64 (n:Int) (h0:0≤n) (h1:n≤9223372036854775807):wrap64 n = n:=by unfold wrap64;omega
theorem or_piece (n k j cb e:Nat) (hn:n < 2 ^ j) (hjk:j + k≤32) (hk:k≤8) (hcb:cb < 256) :
 bits BinOp.or .i64 (wrap64 ((n:Int) * 2 ^ k)) (bits BinOp.and .i64 ((cb:Int) / 2 ^ e) (wrap64 (wrap64 (2 ^ k) - 1))) = ((n * 2 ^ k + cb / 2 ^ e % 2 ^ k:Nat):Int):=by
 have e0:n * 2 ^ k < 4294967296:=by
  have h1:n * 2 ^ k < 2 ^ j * 2 ^ k:=(Nat.mul_lt_mul_right (Nat.pow_pos (by omega))).2 hn
  rw [← Nat.pow_add] at h1
  exact Nat.lt_of_lt_of_le h1 (Nat.le_trans (Nat.pow_le_pow_right (by omega) hjk) (by decide))
 have e1:(n:Int) * 2 ^ k = ((n * 2 ^ k:Nat):Int):=by push_cast;rfl
 have e2:(2:Int) ^ k = ((2 ^ k:Nat):Int):=by push_cast;rfl
 have e3:(cb:Int) / 2 ^ e = ((cb / 2 ^ e:Nat):Int):=by push_cast;rfl
 have p0:0 < (2:Nat) ^ k:=Nat.pow_pos (by omega)
 have p1:(2:Nat) ^ k≤256:=Nat.le_trans (Nat.pow_le_pow_right (by omega) hk) (by decide)
 have p2:cb / 2 ^ e≤cb:=Nat.div_le_self _ _
 rw [e1,e2,e3]
 have p3:cb / 2 ^ e % 2 ^ k < 2 ^ k:=Nat.mod_lt _ p0
 have h5:=or_shift k (cb / 2 ^ e % 2 ^ k) n p3
 generalize cb / 2 ^ e = c at *
 have h4:c &&& (2 ^ k - 1) = c % 2 ^ k:=Nat.and_two_pow_sub_one_eq_mod _ _
 generalize c % 2 ^ k = m at *
 generalize n * 2 ^ k = y at *
 generalize (2:Nat) ^ k = z at *
 clear e1 e2 e3 hn hjk
 rw [w64 _ (by omega) (by omega),w64 (z:Int) (by omega) (by omega),show (z:Int) - 1 = ((z - 1:Nat):Int) from by omega,w64 _ (by omega) (by omega)]
 rw [bits_nat_and .i64 c (z - 1) (by simp [IntKind.bits];omega) (by simp [IntKind.bits];omega),h4]
 rw [show IntKind.i64.wrap (m:Int) = (m:Int) from IntWalk.i64_in _ (by omega)]
 rw [bits_nat_or .i64 y m (by simp [IntKind.bits];omega) (by simp [IntKind.bits];omega),Nat.or_comm,h5,Nat.add_comm]
 exact IntWalk.i64_in _ (by omega)
theorem cut_len (s:List UInt8) (a k:Nat) (h:a + k≤8 * s.length):(cut s a k).length = k:=by
 unfold cut;rw [List.length_take,List.length_drop,bitsB_len];omega
theorem cut_lt (s:List UInt8) (a k:Nat):∀ d ∈ cut s a k,d < 2:=fun d hd=>bitsB_lt s d (List.mem_of_mem_drop (List.mem_of_mem_take hd))
theorem cut_app (s:List UInt8) (a j k:Nat):cut s a (j + k) = cut s a j ++ cut s (a + j) k:=by
 unfold cut
 rw [List.take_add,List.drop_drop]
theorem cut_step (s:List UInt8) (a j k:Nat) (h:a + j + k≤8 * s.length) (h0:0 < k) (h8:(a + j) % 8 + k≤8) (hq:(a + j) / 8 < s.length) :
 num (cut s a (j + k)) = num (cut s a j) * 2 ^ k + s[(a + j) / 8].toNat / 2 ^ (8 - (a + j) % 8 - k) % 2 ^ k:=by
 rw [cut_app,num_app,cut_len s (a + j) k h]
 congr 1
 have e:a + j = 8 * ((a + j) / 8) + (a + j) % 8:=by omega
 unfold cut
 rw [show (bitsB s).drop (a + j) = (bitsB s).drop (8 * ((a + j) / 8) + (a + j) % 8) from by rw [← e],bits_at s ((a + j) / 8) ((a + j) % 8) hq (by omega) k h8,num_mid _ _ _ h8]
theorem peek_any (g:Nat) (s:List UInt8) (p a W:Nat) (w:World) (h:Blk w g 198 (rdr s p)) (ha:a + W≤8 * s.length) (hW:W≤32) (hs:s.length≤1000000) :
 Calls Tryz.prog 172 #[.pointer (some ⟨g,0,none⟩),.int .i64 a,.int .i64 W] w fun e w'=>e = .returned (.int .i64 (num (cut s a W):Nat))∧∃ nq,w' = w.drewN nq:=by
 obtain ⟨c0,c1,f0,f1,z⟩:=blk2 h
 clear h
 go_enter Tryz.func172,Tryz.ntmps172
 go_wp2_with fail
 go_loopw [1,2,7] (fun at_ wd n wr=>∃ (j nq:Nat),at_ = .int .i64 ((a + j:Nat):Int)∧wd = .int .i64 ((W - j:Nat):Int)∧n = .int .i64 (num (cut s a j):Nat)∧j≤W∧wr = w.drewN nq) (fun _ wd _ _=>(intOf wd).toNat)
 case atStart=>exact ⟨0,0,rfl,rfl,by simp [cut,num],by omega,rfl⟩
 case round =>
  obtain ⟨j,nq0,rfl,rfl,rfl,hj,rfl⟩:=hrel
  by_cases hlt:j < W
  ·have hwI:(0:Int) < ((W - j:Nat):Int):=by omega
   have hq:(a + j) / 8 < s.length:=by omega
   have hnl:=num_lt (cut s a j) (cut_lt s a j)
   rw [cut_len s a j (by omega)] at hnl
   have hstep:=fun k (h1:0 < k) (h2:(a + j) % 8 + k≤8) (h3:j + k≤W)=>cut_step s a j k (by omega) h1 h2 hq
   have HS:=Lib.hid hstep
   obtain ⟨cb,hb,hb'⟩:∃ b,(⟨s.toArray⟩:ByteArray)[(a + j) / 8]'(by show (a + j) / 8 < s.toArray.size;simpa using hq) = b∧s[(a + j) / 8] = b:=⟨_,rfl,rfl⟩
   have HB':=Lib.hid hb'
   generalize hp:a + j = P at *
   clear hstep hb'
   have hk:min ((8 - P % 8:Nat):Int) ((W - j:Nat):Int) = ((min (8 - P % 8) (W - j):Nat):Int):=by omega
   have hf:(8:Int) - (P:Int) % 8 = ((8 - P % 8:Nat):Int):=by omega
   go_wp2_with fail
   try rw [hk]
   obtain ⟨k,hke⟩:∃ k,min (8 - P % 8) (W - j) = k:=⟨_,rfl⟩
   obtain ⟨f,hfe⟩:∃ f,8 - P % 8 = f:=⟨_,rfl⟩
   have hk1:0 < k:=by omega
   have hk2:P % 8 + k≤8:=by omega
   have hk3:j + k≤W:=by omega
   have hk4:k≤f:=by omega
   have hst:=HS.out k hk1 hk2 hk3
   rw [hfe,HB'.out] at hst
   rw [hke,hfe]
   have hcb:cb.toNat < 256:=cb.toNat_lt
   have hnew:=or_piece (num (cut s a j)) k j cb.toNat (f - k) hnl (by omega) (by omega) hcb
   rw [← hst] at hnew
   have h64:min (f - k) 64 = f - k:=by omega
   have HNEW:=Lib.hid hnew
   have hfk:IntKind.i64.wrap ((f:Int) - (k:Int)) = ((f - k:Nat):Int):=by rw [IntWalk.i64_in _ (by omega)];omega
   have hi0:(0:Int)≤(P:Int) / 8:=by omega
   have hi1:(P:Int) / 8 < (s.length:Int):=by omega
   have hcw:IntKind.i64.wrap (cb.toNat:Int) = (cb.toNat:Int):=IntWalk.i64_in _ (by omega)
   clear hst hnew HS HB' hk hf hke hfe
   have hWk:((W - j:Nat):Int) - (k:Int) = ((W - (j + k):Nat):Int):=by omega
   have HWK:=Lib.hid hWk
   clear hWk
   go_quiet (fail)
   go_wp2
   go_roundw
   case rel=>exact ⟨j + k,nq0 + nq,by rw [← hp];congr 1;omega,by rw [HWK.out],by rw [HNEW.out],by omega,rfl⟩
   case measure=>simp [intOf];omega
  ·obtain rfl:j = W:=by omega
   go_wp2_with fail
   go_ret
   exact ⟨rfl,_,rfl⟩
end BitW
end Go.Proofs.YtnpncpoiiikafaaGreat
namespace Go.Proofs.YtnpncpoiiikafaaGreat
open Go.RowKit
namespace BitW
theorem getB_out {l:List Nat} {p w:Int} (h:w < 0 ∨ 32 < w):getB l p w = (0,2):=by unfold getB;rw [if_pos h]
theorem getB_short {l:List Nat} {p w:Int} (h:¬ (w < 0 ∨ 32 < w)) (h2:(l.length:Int) < p + w):getB l p w = (0,4):=by unfold getB;rw [if_neg h,if_pos h2]
theorem getB_yes {l:List Nat} {p w:Nat} (h:w≤32) (h2:p + w≤l.length):getB l p w = ((num ((l.drop p).take w):Int),0):=by
 unfold getB;rw [if_neg (by omega),if_neg (by omega),Int.toNat_natCast,Int.toNat_natCast]
def RLeft (w w':World) (g:Nat) (s:List UInt8) (p:Nat):Prop:=Blk w' g 198 (rdr s p)∧w.grownBy w' (some g)
theorem RLeft.drewN {w:World} {g:Nat} {s:List UInt8} {p:Nat} (h:Blk w g 198 (rdr s p)) (n:Nat):RLeft w (w.drewN n) g s p:=⟨h.drewN n,⟨rfl,rfl,rfl,Nat.le_refl _,fun _ _ _=>rfl⟩⟩
theorem RLeft.same {w:World} {g:Nat} {s:List UInt8} {p:Nat} (h:Blk w g 198 (rdr s p)):RLeft w w g s p:=⟨h,World.grownBy.refl w _⟩
theorem get_any (g:Nat) (s:List UInt8) (p:Nat) (width:Int) (w:World) (h:Blk w g 198 (rdr s p)) (hp:p≤8 * s.length) (hs:s.length≤1000000) (v:Int × Int) (hv:getB (bitsB s) p width = v) :
 Calls Tryz.prog 133 #[.pointer (some ⟨g,0,none⟩),.int .i64 width] w fun e w'=>e = .returned (.tuple #[.int .i64 v.1,.int .i64 v.2])∧RLeft w w' g s (if v.2 = 0 then p + width.toNat else p):=by
 by_cases h1:width < 0 ∨ 32 < width
 ·rw [getB_out h1] at hv
  subst hv
  rw [if_neg (by simp)]
  have h1':width < 0 ∨ (¬ width < 0∧32 < width):=by omega
  clear h1
  rcases h1' with h1 | ⟨h1,h2⟩
  all_goals
   go_enter Tryz.func133,Tryz.ntmps133
   go_wp2_with fail
   go_ret2
   exact ⟨rfl,RLeft.same h⟩
 ·have h2:¬ width < 0:=by omega
  have h3:¬ 32 < width:=by omega
  obtain ⟨W,rfl⟩:=Int.eq_ofNat_of_zero_le (show 0≤width by omega)
  have hbl:=bitsB_len s
  by_cases h4:8 * s.length < p + W
  ·rw [getB_short h1 (by omega)] at hv
   subst hv
   rw [if_neg (by simp)]
   have h5:((8 * s.length - p:Nat):Int) < (W:Int):=by omega
   clear h1 hbl
   go_enter Tryz.func133,Tryz.ntmps133
   go_wp2_with fail
   refine (left_any g s p w h hp hs).mono ?_
   rintro e w1 ⟨rfl,nq,rfl⟩
   go_wp2_with fail
   go_ret2
   exact ⟨rfl,RLeft.drewN h nq⟩
  ·rw [getB_yes (by omega) (by omega)] at hv
   subst hv
   rw [if_pos rfl,Int.toNat_natCast]
   have h5:¬ ((8 * s.length - p:Nat):Int) < (W:Int):=by omega
   by_cases h0:W = 0
   ·subst h0
    clear h1 hbl
    go_enter Tryz.func133,Tryz.ntmps133
    go_wp2_with fail
    refine (left_any g s p w h hp hs).mono ?_
    rintro e w1 ⟨rfl,nq,rfl⟩
    go_wp2_with fail
    go_ret2
    exact ⟨by simp [num],RLeft.drewN h nq⟩
   ·have h0I:((W:Int) == 0) = false:=by rw [beq_eq_false_iff_ne];omega
    have hw:IntKind.i64.wrap ((p:Int) + (W:Int) - (W:Int)) = (p:Int):=by rw [IntWalk.i64_in _ (by omega)];omega
    clear h1 hbl h0
    go_enter Tryz.func133,Tryz.ntmps133
    go_wp2_with fail
    refine (left_any g s p w h hp hs).mono ?_
    rintro e w1 ⟨rfl,nq,rfl⟩
    have h':=h.drewN nq
    obtain ⟨c0,c1,f0,f1,z⟩:=blk2 h'
    go_wp2_with fail
    have h2':Blk ((w.drewN nq).setCell ⟨g,1,none⟩ (.int .i64 ((p:Int) + (W:Int)))) g 198 (rdr s (p + W)):=by
     have:=h'.set 1 (.int .i64 ((p:Int) + (W:Int)))
     exact blk_eq this (by simp)
    have hg2:w.grownBy ((w.drewN nq).setCell ⟨g,1,none⟩ (.int .i64 ((p:Int) + (W:Int)))) (some g):=⟨rfl,rfl,rfl,by simp [World.setCell],fun k _ hne=>Below.heap_setCell _ _ _ k (fun e=>hne (by rw [e]))⟩
    generalize (w.drewN nq).setCell ⟨g,1,none⟩ (.int .i64 ((p:Int) + (W:Int))) = w2 at *
    clear c0 c1 f0 f1 z
    have C:=peek_any g s (p + W) p W w2 h2' (by omega) (by omega) hs
    try rw [show (p:Int) + (W:Int) - (W:Int) = (p:Int) from by omega]
    refine C.mono ?_
    rintro e w3 ⟨rfl,nq2,rfl⟩
    go_wp2_with fail
    go_ret2
    exact ⟨rfl,h2'.drewN nq2,⟨hg2.os,hg2.tape,hg2.output,hg2.size,hg2.block⟩⟩
end BitW
end Go.Proofs.YtnpncpoiiikafaaGreat
namespace Go.Proofs.YtnpncpoiiikafaaGreat
open Go.RowKit
namespace LenW
open BitW (Wr Wfr Fresh Puts Put_yes)
theorem word_fits (l:List Int) (hk:chkL l = 0) (s:Int) (h:(wordV l s).2 = 0):fitsB (wordV l s).1.1 (wordV l s).1.2 = true∧I64 (wordV l s).1.1:=by
 obtain ⟨h257,hok,hsum⟩:=chk0 hk
 unfold wordV at h ⊢
 by_cases hc:0≤s∧s < l.length∧¬ (wordF l s.toNat).2 = 0
 ·rw [if_pos hc]
  obtain ⟨h0,h1,h2⟩:=hc
  have hkl:s.toNat < l.length:=by omega
  by_cases hp:0 < l[s.toNat]
  ·rw [word_at l _ hkl hp]
   have h15:=okL_at l _ hkl hok
   generalize s.toNat = k at *
   obtain ⟨y,hy⟩:=Int.eq_ofNat_of_zero_le (show 0≤l[k] by omega)
   have hr:=room l y (by omega) hsum
   have hs:=cntL_snoc l k y hkl
   rw [if_pos ⟨hp,hy⟩] at hs
   have ht:=cntL_take l (k + 1) y
   rw [hy]
   simp only [Int.toNat_natCast]
   have hlt:fstL l y + cntL (l.take k) y < 2 ^ y:=by omega
   have h2y:(2:Nat) ^ y≤2 ^ 15:=Nat.pow_le_pow_right (by omega) (by omega)
   constructor
   ·unfold fitsB
    simp only [Int.toNat_natCast,Bool.and_eq_true,decide_eq_true_eq]
    refine ⟨⟨⟨by omega,by omega⟩,by omega⟩,?_⟩
    have:((fstL l y + cntL (l.take k) y:Nat):Int) < ((2 ^ y:Nat):Int):=by exact_mod_cast hlt
    simpa using this
   ·unfold I64
    omega
  ·exact absurd (by rw [word_no l _ hkl hp]) h2
 ·rw [if_neg hc] at h
  simp at h
theorem wfr_pre {w w1 w2:World} {g:Nat} {ab:Option Nat} (hb:Below w.heap.size w w1) (h:Wfr w1 w2 g ab):Wfr w w2 g ab :=
 ⟨h.os.trans hb.os,h.tape.trans hb.tape,h.output.trans hb.output,Nat.le_trans hb.size h.size,fun k hk hg ha=>(h.block k (Nat.lt_of_lt_of_le hk hb.size) hg ha).trans (hb.block k hk)⟩
theorem Wr.low {w w':World} {base g:Nat} {ab:Option Nat} {l:List Nat} (h:Wr w base g ab l) (hb:Below w.heap.size w w'):Wr w' base g ab l:=by
 obtain ⟨⟨A,nb,c,bs,r,k,bG,o,hab,hk,hr,e⟩,hgb⟩:=h
 exact ⟨⟨A,nb,c,bs,r,k,bG.below hb bG.lt,o.below hb,hab,hk,hr,e⟩,hgb⟩
theorem cput_yes (l:List Int) (hk:chkL l = 0) (B g:Nat) (s:Int) (base gw:Nat) (ab:Option Nat) (L:List Nat) (w:World) (hC:CodeAt w B g l) (hs:I64 s) (hv:(wordV l s).2 = 0) (hW:Wr w base gw ab L) (hl:L.length≤1000000) (hbs:base≤w.heap.size) :
 Calls Tryz.prog 102 #[.pointer (some ⟨g,0,none⟩),.pointer (some ⟨gw,0,none⟩),.int .i64 s] w fun e w'=>e = .returned (.int .i64 0)∧∃ ab',Wr w' base gw ab' (L ++ dg (wordV l s).1.2.toNat (wordV l s).1.1.toNat)∧Fresh w ab ab'∧Wfr w w' gw ab:=by
 have C:=word_any l B g s w hC hs _ rfl
 obtain ⟨hfit,h64⟩:=word_fits l hk s hv
 obtain ⟨v,hvw⟩:∃ v,wordV l s = v:=⟨_,rfl⟩
 rw [hvw] at hv hfit h64 C ⊢
 obtain ⟨⟨x,y⟩,er⟩:=v
 dsimp only at hv hfit h64 ⊢
 subst hv
 dsimp only at C
 go_enter Tryz.func102,Tryz.ntmps102
 go_wp2_with fail
 refine C.mono ?_
 rintro e w1 ⟨rfl,hb1⟩
 have bf:=Blk.new w1 228 #[.int .i64 x,.int .i64 y]
 have hb2:Below w.heap.size w (w1.alloc (.cells #[.int .i64 x,.int .i64 y] 228)):=hb1.alloc hb1.size _
 obtain ⟨c0,c1,_,_,_⟩:=blk2 bf
 have C2:=Put_yes base gw ab L x y _ hfit h64 (Wr.low hW hb2) hl (by have:=hb2.size;omega)
 clear hfit h64
 go_wp2_with fail
 refine C2.mono ?_
 rintro e w2 ⟨rfl,ab',⟨p1,p2,p3⟩⟩
 go_wp2_with fail
 go_ret
 refine ⟨rfl,ab',p1,?_,wfr_pre hb2 p3⟩
 rcases p2 with h | ⟨k,h,h2⟩
 ·exact .inl h
 ·exact .inr ⟨k,h,by have:=hb2.size;omega⟩
end LenW
end Go.Proofs.YtnpncpoiiikafaaGreat
namespace Go.Proofs.YtnpncpoiiikafaaGreat
open Go.RowKit
namespace LenW
open BitW (Wr Wfr Fresh Puts)
def symsB (l:List Int):List Int → List Nat
 | []=>[]
 | s :: r=>dg (wordV l s).1.2.toNat (wordV l s).1.1.toNat ++ symsB l r
def symsOk (l:List Int) (r:List Int):Bool:=r.all fun s=>decide ((wordV l s).2 = 0)
theorem symsB_app (l a b:List Int):symsB l (a ++ b) = symsB l a ++ symsB l b:=by
 induction a with
 | nil=>rfl
 | cons x a ih=>simp [symsB,ih]
theorem symsB_snoc (l r:List Int) (k:Nat) (h:k < r.length):symsB l (r.take (k + 1)) = symsB l (r.take k) ++ dg (wordV l r[k]).1.2.toNat (wordV l r[k]).1.1.toNat:=by
 rw [List.take_succ_eq_append_getElem h,symsB_app]
 simp [symsB]
theorem wordV_width (l:List Int) (hk:chkL l = 0) (s:Int) (h:(wordV l s).2 = 0):(wordV l s).1.2.toNat≤32:=by
 have:=(word_fits l hk s h).1
 unfold fitsB at this
 simp only [Bool.and_eq_true,decide_eq_true_eq] at this
 omega
theorem symsB_len (l:List Int) (hk:chkL l = 0) (r:List Int) (h:symsOk l r = true):(symsB l r).length≤32 * r.length:=by
 induction r with
 | nil=>simp [symsB]
 | cons s r ih =>
  unfold symsOk at h ih
  rw [List.all_cons,Bool.and_eq_true,decide_eq_true_eq] at h
  have:=ih h.2
  have hw:=wordV_width l hk s h.1
  simp only [symsB,List.length_append,List.length_cons,dg_len]
  omega
end LenW
end Go.Proofs.YtnpncpoiiikafaaGreat
namespace Go.Proofs.YtnpncpoiiikafaaGreat
open Go.RowKit
namespace LenW
open BitW (Wr Wfr Fresh Puts text_any)
theorem CodeAt.below {w w':World} {B g:Nat} {l:List Int} (h:CodeAt w B g l) (hb:Below w.heap.size w w'):CodeAt w' B g l:=by
 obtain ⟨gW,gS,h1,h2,h3,b1,b2,b3⟩:=h
 exact ⟨gW,gS,h1,h2,h3,b1.below hb b1.lt,b2.below hb b2.lt,b3.below hb b3.lt⟩
end LenW
end Go.Proofs.YtnpncpoiiikafaaGreat
namespace Go.Proofs.YtnpncpoiiikafaaGreat
open Go.RowKit
namespace BitW
theorem dg_more (m n:Nat):dg (m + 1) n = (n / 2 ^ m % 2) :: dg m n:=by
 rw [Nat.add_comm,dg_app]
 rfl
end BitW
end Go.Proofs.YtnpncpoiiikafaaGreat
namespace Go.Proofs.YtnpncpoiiikafaaGreat
open Go.RowKit
namespace BitW
theorem El_int2:El Tryz.prog 84 3 1 8:=El.mk' Tryz.underlying84 (z:=.int .i64 0) (by kernel_rfl) rfl (by decide)
end BitW
end Go.Proofs.YtnpncpoiiikafaaGreat
namespace Go.Proofs.YtnpncpoiiikafaaGreat
open Go.RowKit
namespace BitW
end BitW
end Go.Proofs.YtnpncpoiiikafaaGreat
