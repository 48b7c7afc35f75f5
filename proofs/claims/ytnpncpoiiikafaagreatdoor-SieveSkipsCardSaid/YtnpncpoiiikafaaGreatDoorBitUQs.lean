/- BitU -/
import Derived.Test.YtnpncpoiiikafaaGreatDoorBitWQs
import Derived.Test.YtnpncpoiiikafaaGreatDoorSieJQs
import Derived.Test.YtnpncpoiiikafaaGreatDoorCanXQs
import Derived.Laws.EntriesVeiled
import Derived.Deep.DeepCutAuto
import Derived.BigQuiet
import Derived.Test.YtnpncpoiiikafaaGreatDoorFrontWQs
import Derived.Deep.OwnRows
import Derived.Test.YtnpncpoiiikafaaGreatDoorAppQs
import Derived.Test.YtnpncpoiiikafaaGreatDoorCanWQs
import Derived.Test.YtnpncpoiiikafaaGreatDoorLenKQs
import Derived.Test.YtnpncpoiiikafaaGreatDoorMemQs
set_option linter.unusedVariables false
set_option linter.unusedSimpArgs false
set_option linter.unnecessarySimpa false
namespace Go.Proofs.YtnpncpoiiikafaaGreatDoor
open Go.RowKit
namespace BitW
set_option maxRecDepth 100000 in
set_option maxHeartbeats 2000000 in
theorem text_any (base g:Nat) (ab:Option Nat) (l:List Nat) (w:World) (h:Wr w base g ab l) (hl:l.length≤1000000) :
    Calls Tryz.prog 62 #[.pointer (some ⟨g,0,none⟩)] w fun e w'=>e = .returned (str (textB l))∧Below w.heap.size w w':=by
  obtain ⟨⟨A,nb,c,bs,r,k,bG,o,hab,hk,hr,rfl⟩,hgb⟩:=h
  have bG':=bG
  obtain ⟨c0,c1,c2,f0,f1,f2,z⟩:=blk3 bG'
  clear bG'
  have hcv:=run_bytes_str (P:=Tryz.prog) w (c:=c) Tryz.underlying62 Tryz.underlying5 Tryz.underlying9 o.rd
  have hT:=Lib.hid (textB_bits bs (dg k r))
  by_cases hk0:k = 0
  · subst hk0
    go_enter Tryz.func62,Tryz.ntmps62
    go_wp2_with fail
    go_ret
    refine ⟨?_,Below.refl _ _⟩
    rw [hT.out]
    simp [dg,textB_nil]
  · have hkI:((k:Int) == 0) = false:=by rw [beq_eq_false_iff_ne];omega
    have hsub:(8:Int) - (k:Int) = ((8 - k:Nat):Int):=by omega
    have hwr:IntKind.i64.wrap ((8 - k:Nat):Int) = ((8 - k:Nat):Int):=IntWalk.i64_in _ (by omega)
    have HF:=Lib.hid (textB_few k r (by omega) hk)
    have HB:=Below.refl w.heap.size w
    have e1:bs.length = nb:=by have:=o.len;simp [byts] at this;omega
    have hbl:bs.length≤1000000:=by rw [List.length_append,bitsB_len] at hl;omega
    have HBV:Hid ([Value.int .u8 (IntKind.u8.wrap (IntKind.u64.wrap ((r:Int) * 2 ^ (8 - k))))] = byts [UInt8.ofNat ((r * 2 ^ (8 - k)) % 256)]):=Lib.hid (by
      have e1:(r:Int) * 2 ^ (8 - k) = ((r * 2 ^ (8 - k):Nat):Int):=by push_cast;rfl
      rw [e1]
      simp only [byts,List.map_cons,List.map_nil,byt]
      congr 2
      rw [UInt8.toNat_ofNat']
      generalize r * 2 ^ (8 - k) = y
      simp [IntKind.wrap,IntKind.bits,IntKind.signed])
    have hnb:¬ 9223372036854775807 < nb + 1:=by omega
    clear hk0 hcv
    go_enter Tryz.func62,Tryz.ntmps62
    go_wp2_with fail
    refine wp_region_held_drew (S:=(fun w'=>w'.cell? ⟨g,0,none⟩ = some (.slice A nb c)∧w'.cell? ⟨g,1,none⟩ = some (.int .u64 (r:Nat))∧w'.cell? ⟨g,2,none⟩ = some (.int .i64 (k:Nat))∧(convert 62 9 (.slice A nb c)).run Tryz.prog w' = .ok (str bs) w')) (by kernel_rfl) ?_ (fun hHeld=>?_)
    · replace HB:=Below.drew HB;replace o:=Own.drew o;replace bG:=Blk.drew bG;(try dsimp only);exact ⟨bG.cell_ 0 rfl,bG.cell_ 1 rfl,bG.cell_ 2 rfl,run_bytes_str (P:=Tryz.prog) _ (c:=c) Tryz.underlying62 Tryz.underlying5 Tryz.underlying9 o.rd⟩
    replace HB:=Below.drew HB
    replace o:=Own.drew o
    replace bG:=Blk.drew bG
    have zHB:=HB.size
    refine take_movev (v:=?vu1x0) 0 (Operand.tmp 0) rfl rfl (by first | exact .inl rfl | exact .inr rfl) rfl (by kernel_rfl) (by kernel_rfl) (by kernel_rfl) (fun _ _ _ h=>h) (by assumption) ?yu1x0 ?ru1x0
    case yu1x0=>(go_simp;try (with_reducible rfl))
    simp only [zSa,zSb,zSc]
    refine take_op (v:=?vu1x1) 1 (Op.nilCheck (Operand.tmp 15)) 0 rfl rfl rfl rfl rfl (by kernel_rfl) (by kernel_rfl) (by kernel_rfl) (fun _ _ _ h=>h) ?yu1x1 (by assumption) ?ru1x1
    case yu1x1=>(intro w' hSw;(try dsimp only at hSw);go_simp;try (with_reducible rfl))
    simp only [zSa,zSb,zSc]
    refine take_op (v:=?vu1x2) 2 (Op.fieldAddr 126 (Operand.tmp 16) 0) 0 rfl rfl rfl rfl rfl (by kernel_rfl) (by kernel_rfl) (by kernel_rfl) (fun _ _ _ h=>h) ?yu1x2 (by assumption) ?ru1x2
    case yu1x2=>(intro w' hSw;(try dsimp only at hSw);go_simp;try (with_reducible rfl))
    simp only [zSa,zSb,zSc]
    refine take_op (v:=?vu1x3) 3 (Op.load 62 (Operand.tmp 17)) 62 rfl rfl rfl rfl rfl (by kernel_rfl) (by kernel_rfl) (by kernel_rfl) (fun _ _ _ h=>h) ?yu1x3 (by assumption) ?ru1x3
    case yu1x3=>(intro w' hSw;(try dsimp only at hSw);go_simp;try (with_reducible rfl))
    simp only [zSa,zSb,zSc]
    refine take_op (v:=?vu1x4) 4 (Op.convert 62 9 (Operand.tmp 18)) 9 rfl rfl rfl rfl rfl (by kernel_rfl) (by kernel_rfl) (by kernel_rfl) (fun _ _ _ h=>h) ?yu1x4 (by assumption) ?ru1x4
    case yu1x4=>(intro w' hSw;(try dsimp only at hSw);go_simp;try (with_reducible rfl))
    simp only [zSa,zSb,zSc]
    refine take_movev (v:=?vu1x5) 5 (Operand.tmp 0) rfl rfl (by first | exact .inl rfl | exact .inr rfl) rfl (by kernel_rfl) (by kernel_rfl) (by kernel_rfl) (fun _ _ _ h=>h) (by assumption) ?yu1x5 ?ru1x5
    case yu1x5=>(go_simp;try (with_reducible rfl))
    simp only [zSa,zSb,zSc]
    refine take_op (v:=?vu1x6) 6 (Op.nilCheck (Operand.tmp 20)) 0 rfl rfl rfl rfl rfl (by kernel_rfl) (by kernel_rfl) (by kernel_rfl) (fun _ _ _ h=>h) ?yu1x6 (by assumption) ?ru1x6
    case yu1x6=>(intro w' hSw;(try dsimp only at hSw);go_simp;try (with_reducible rfl))
    simp only [zSa,zSb,zSc]
    refine take_op (v:=?vu1x7) 7 (Op.fieldAddr 126 (Operand.tmp 21) 1) 0 rfl rfl rfl rfl rfl (by kernel_rfl) (by kernel_rfl) (by kernel_rfl) (fun _ _ _ h=>h) ?yu1x7 (by assumption) ?ru1x7
    case yu1x7=>(intro w' hSw;(try dsimp only at hSw);go_simp;try (with_reducible rfl))
    simp only [zSa,zSb,zSc]
    refine take_op (v:=?vu1x8) 8 (Op.load 124 (Operand.tmp 22)) 124 rfl rfl rfl rfl rfl (by kernel_rfl) (by kernel_rfl) (by kernel_rfl) (fun _ _ _ h=>h) ?yu1x8 (by assumption) ?ru1x8
    case yu1x8=>(intro w' hSw;(try dsimp only at hSw);go_simp;try (with_reducible rfl))
    simp only [zSa,zSb,zSc]
    refine take_movev (v:=?vu1x9) 9 (Operand.tmp 0) rfl rfl (by first | exact .inl rfl | exact .inr rfl) rfl (by kernel_rfl) (by kernel_rfl) (by kernel_rfl) (fun _ _ _ h=>h) (by assumption) ?yu1x9 ?ru1x9
    case yu1x9=>(go_simp;try (with_reducible rfl))
    simp only [zSa,zSb,zSc]
    refine take_op (v:=?vu1x10) 10 (Op.nilCheck (Operand.tmp 24)) 0 rfl rfl rfl rfl rfl (by kernel_rfl) (by kernel_rfl) (by kernel_rfl) (fun _ _ _ h=>h) ?yu1x10 (by assumption) ?ru1x10
    case yu1x10=>(intro w' hSw;(try dsimp only at hSw);go_simp;try (with_reducible rfl))
    simp only [zSa,zSb,zSc]
    refine take_op (v:=?vu1x11) 11 (Op.fieldAddr 126 (Operand.tmp 25) 2) 0 rfl rfl rfl rfl rfl (by kernel_rfl) (by kernel_rfl) (by kernel_rfl) (fun _ _ _ h=>h) ?yu1x11 (by assumption) ?ru1x11
    case yu1x11=>(intro w' hSw;(try dsimp only at hSw);go_simp;try (with_reducible rfl))
    simp only [zSa,zSb,zSc]
    refine take_op (v:=?vu1x12) 12 (Op.load 3 (Operand.tmp 26)) 3 rfl rfl rfl rfl rfl (by kernel_rfl) (by kernel_rfl) (by kernel_rfl) (fun _ _ _ h=>h) ?yu1x12 (by assumption) ?ru1x12
    case yu1x12=>(intro w' hSw;(try dsimp only at hSw);go_simp;try (with_reducible rfl))
    simp only [zSa,zSb,zSc]
    refine take_op (v:=?vu1x13) 13 (Op.binOp BinOp.sub 3 (Operand.const (Value.int IntKind.i64 8)) (Operand.tmp 27) 3) 3 rfl rfl rfl rfl rfl (by kernel_rfl) (by kernel_rfl) (by kernel_rfl) (fun _ _ _ h=>h) ?yu1x13 (by assumption) ?ru1x13
    case yu1x13=>(intro w' hSw;(try dsimp only at hSw);go_simp;try (with_reducible rfl))
    simp only [zSa,zSb,zSc]
    refine take_op (v:=?vu1x14) 14 (Op.binOp BinOp.shl 124 (Operand.tmp 23) (Operand.tmp 28) 3) 124 rfl rfl rfl rfl rfl (by kernel_rfl) (by kernel_rfl) (by kernel_rfl) (fun _ _ _ h=>h) ?yu1x14 (by assumption) ?ru1x14
    case yu1x14=>(intro w' hSw;(try dsimp only at hSw);go_simp;try (with_reducible rfl))
    simp only [zSa,zSb,zSc]
    refine take_op (v:=?vu1x15) 15 (Op.convert 124 5 (Operand.tmp 29)) 5 rfl rfl rfl rfl rfl (by kernel_rfl) (by kernel_rfl) (by kernel_rfl) (fun _ _ _ h=>h) ?yu1x15 (by assumption) ?ru1x15
    case yu1x15=>(intro w' hSw;(try dsimp only at hSw);go_simp;try (with_reducible rfl))
    simp only [zSa,zSb,zSc]
    refine wpAnyH_ready (rs:=[16]) (by kernel_rfl) (by simp) (AllReadyH.cons rfl (fun K16 hK16=>?ku1x16) AllReadyH.nil)
    refine take_build (e:=5) (len:=1) (size:=1) (w.heap.size) ([Value.int .u8 (IntKind.u8.wrap (IntKind.u64.wrap ((r:Int) * 2 ^ (8 - k))))]) 16 (Op.buildSlice 62 1 #[(0,Operand.tmp 30)]) 62 rfl rfl rfl (by kernel_rfl) ?eu1x16 (by rfl) (by decide) (by first | exact Nat.le_refl _ | (simp only [World.size_alloc,World.size_setCell,World.size_drew] at *;omega) | omega) ?_
    case eu1x16=>(go_simp;try (first | with_reducible rfl | (simp [rcells,rcell];done) | (simp [fcells];done) | (simp [tcells];done) | rfl))
    intro gx16 w16 o16 gr16 l16 m16
    have z16:=gr16.size
    try simp only [World.size_drew] at z16
    replace HB:=below_grow HB gr16
    have zHB16:=HB.size
    replace o:=Own.grow0 o gr16
    replace bG:=Blk.grow0 bG gr16
    refine hK16.out _ _ ?su1x16 (fun hHeld=>?ru1x16)
    case su1x16=>((try dsimp only);exact ⟨bG.cell_ 0 rfl,bG.cell_ 1 rfl,bG.cell_ 2 rfl,run_bytes_str (P:=Tryz.prog) _ (c:=c) Tryz.underlying62 Tryz.underlying5 Tryz.underlying9 o.rd⟩)
    try simp only [zSa,zSb,zSc]
    rw [HBV.out] at o16;have hcv:=run_bytes_str (P:=Tryz.prog) _ (c:=1) Tryz.underlying62 Tryz.underlying5 Tryz.underlying9 o16.rd
    refine' take_run 17 (Op.convert 62 9 (Operand.tmp 31)) 9 (by kernel_rfl) rfl rfl rfl rfl (by kernel_rfl) ?eu1x17 ?su1x17 (fun hHeld=>?ru1x17)
    case eu1x17=>(go_simp;try (first | with_reducible rfl | exact ⟨rfl,rfl⟩))
    case su1x17=>((try dsimp only);(first | assumption | (exact ⟨bG.cell_ 0 rfl,bG.cell_ 1 rfl,bG.cell_ 2 rfl,run_bytes_str (P:=Tryz.prog) _ (c:=c) Tryz.underlying62 Tryz.underlying5 Tryz.underlying9 o.rd⟩)))
    simp only [zSa,zSb,zSc]
    refine take_op (v:=?vu1x18) 18 (Op.binOp BinOp.add 9 (Operand.tmp 19) (Operand.tmp 32) 9) 9 rfl rfl rfl rfl rfl (by kernel_rfl) (by kernel_rfl) (by kernel_rfl) (fun _ _ _ h=>h) ?yu1x18 (by assumption) ?ru1x18
    case yu1x18=>(intro w' hSw;(try dsimp only at hSw);go_simp;try (with_reducible rfl))
    simp only [zSa,zSb,zSc]
    refine take_op (v:=?vu1x19) 19 (Op.assign (Operand.tmp 33)) 9 rfl rfl rfl rfl rfl (by kernel_rfl) (by kernel_rfl) (by kernel_rfl) (fun _ _ _ h=>h) ?yu1x19 (by assumption) ?ru1x19
    case yu1x19=>(intro w' hSw;(try dsimp only at hSw);go_simp;try (with_reducible rfl))
    simp only [zSa,zSb,zSc]
    refine wpAnyH_done (by kernel_rfl) ?_ _
    go_wp2_with fail
    go_ret
    refine ⟨?_,HB⟩
    rw [hT.out,HF.out]
    simp [ba_cat]
end BitW
end Go.Proofs.YtnpncpoiiikafaaGreatDoor
namespace Go.Proofs.YtnpncpoiiikafaaGreatDoor
open Go.RowKit
namespace BitW
end BitW
end Go.Proofs.YtnpncpoiiikafaaGreatDoor
namespace Go.Proofs.YtnpncpoiiikafaaGreatDoor
open Go.RowKit
namespace BitW
def cut (s:List UInt8) (a k:Nat):List Nat:=((bitsB s).drop a).take k
theorem w64 (n:Int) (h0:0≤n) (h1:n≤9223372036854775807):wrap64 n = n:=by unfold wrap64;omega
theorem cut_len (s:List UInt8) (a k:Nat) (h:a + k≤8 * s.length):(cut s a k).length = k:=by
  unfold cut;rw [List.length_take,List.length_drop,bitsB_len];omega
theorem cut_lt (s:List UInt8) (a k:Nat):∀ d ∈ cut s a k,d < 2:=fun d hd=>bitsB_lt s d (List.mem_of_mem_drop (List.mem_of_mem_take hd))
theorem cut_app (s:List UInt8) (a j k:Nat):cut s a (j + k) = cut s a j ++ cut s (a + j) k:=by
  unfold cut
  rw [List.take_add,List.drop_drop]
end BitW
end Go.Proofs.YtnpncpoiiikafaaGreatDoor
namespace Go.Proofs.YtnpncpoiiikafaaGreatDoor
open Go.RowKit
namespace BitW
end BitW
end Go.Proofs.YtnpncpoiiikafaaGreatDoor
namespace Go.Proofs.YtnpncpoiiikafaaGreatDoor
open Go.RowKit
namespace LenW
open BitW (Wr Wfr Fresh Puts Put_yes)
theorem word_fits (l:List Int) (hk:chkL l = 0) (s:Int) (h:(wordV l s).2 = 0):fitsB (wordV l s).1.1 (wordV l s).1.2 = true∧I64 (wordV l s).1.1:=by
  obtain ⟨h257,hok,hsum⟩:=chk0 hk
  unfold wordV at h ⊢
  by_cases hc:0≤s∧s < l.length∧¬ (wordF l s.toNat).2 = 0
  · rw [if_pos hc]
    obtain ⟨h0,h1,h2⟩:=hc
    have hkl:s.toNat < l.length:=by omega
    by_cases hp:0 < l[s.toNat]
    · rw [word_at l _ hkl hp]
      have h15:=okL_at l _ hkl hok
      generalize s.toNat = k at *
      obtain ⟨y,hy⟩:=Int.eq_ofNat_of_zero_le (show 0≤l[k] by omega)
      have hr:=room l y (by omega) hsum
      have hs:=cntL_snoc l k y hkl
      rw [if_pos ⟨hp,hy⟩] at hs
      have ht:=cntL_take l (k + 1) y
      rw [hy]
      simp only [Int.toNat_natCast]
      have hlt:fstL l y + cntL (l.take k) y < 2 ^ y:=by omega
      have h2y:(2:Nat) ^ y≤2 ^ 15:=Nat.pow_le_pow_right (by omega) (by omega)
      constructor
      · unfold fitsB
        simp only [Int.toNat_natCast,Bool.and_eq_true,decide_eq_true_eq]
        refine ⟨⟨⟨by omega,by omega⟩,by omega⟩,?_⟩
        have:((fstL l y + cntL (l.take k) y:Nat):Int) < ((2 ^ y:Nat):Int):=by exact_mod_cast hlt
        simpa using this
      · unfold I64
        omega
    · exact absurd (by rw [word_no l _ hkl hp]) h2
  · rw [if_neg hc] at h
    simp at h
theorem wfr_pre {w w1 w2:World} {g:Nat} {ab:Option Nat} (hb:Below w.heap.size w w1) (h:Wfr w1 w2 g ab):Wfr w w2 g ab :=
  ⟨h.os.trans hb.os,h.tape.trans hb.tape,h.output.trans hb.output,Nat.le_trans hb.size h.size,fun k hk hg ha=>(h.block k (Nat.lt_of_lt_of_le hk hb.size) hg ha).trans (hb.block k hk)⟩
theorem Wr.low {w w':World} {base g:Nat} {ab:Option Nat} {l:List Nat} (h:Wr w base g ab l) (hb:Below w.heap.size w w'):Wr w' base g ab l:=by
  obtain ⟨⟨A,nb,c,bs,r,k,bG,o,hab,hk,hr,e⟩,hgb⟩:=h
  exact ⟨⟨A,nb,c,bs,r,k,bG.below hb bG.lt,o.below hb,hab,hk,hr,e⟩,hgb⟩
set_option maxRecDepth 100000 in
set_option maxHeartbeats 4000000 in
theorem cput_yes (l:List Int) (hk:chkL l = 0) (B g:Nat) (s:Int) (base gw:Nat) (ab:Option Nat) (L:List Nat) (w:World) (hC:CodeAt w B g l) (hs:I64 s) (hv:(wordV l s).2 = 0) (hW:Wr w base gw ab L) (hl:L.length≤1000000) (hbs:base≤w.heap.size) :
    Calls Tryz.prog 61 #[.pointer (some ⟨g,0,none⟩),.pointer (some ⟨gw,0,none⟩),.int .i64 s] w fun e w'=>e = .returned (.int .i64 0)∧∃ ab',Wr w' base gw ab' (L ++ dg (wordV l s).1.2.toNat (wordV l s).1.1.toNat)∧Fresh w ab ab'∧Wfr w w' gw ab:=by
  have C:=word_any l B g s w hC hs _ rfl
  obtain ⟨hfit,h64⟩:=word_fits l hk s hv
  obtain ⟨v,hvw⟩:∃ v,wordV l s = v:=⟨_,rfl⟩
  rw [hvw] at hv hfit h64 C ⊢
  obtain ⟨⟨x,y⟩,er⟩:=v
  dsimp only at hv hfit h64 ⊢
  subst hv
  dsimp only at C
  go_enter Tryz.func61,Tryz.ntmps61
  go_wp2_with fail
  refine C.mono ?_
  rintro e w1 ⟨rfl,hb1⟩
  have bf:=Blk.new w1 165 #[.int .i64 x,.int .i64 y]
  have hb2:Below w.heap.size w (w1.alloc (.cells #[.int .i64 x,.int .i64 y] 165)):=hb1.alloc hb1.size _
  obtain ⟨c0,c1,_,_,_⟩:=blk2 bf
  have C2:=Put_yes base gw ab L x y _ hfit h64 (Wr.low hW hb2) hl (by have:=hb2.size;omega)
  clear hfit h64
  go_wp2_with fail
  refine C2.mono ?_
  rintro e w2 ⟨rfl,ab',⟨p1,p2,p3⟩⟩
  go_wp2_with fail
  go_ret
  refine ⟨rfl,ab',p1,?_,wfr_pre hb2 p3⟩
  rcases p2 with h | ⟨k,h,h2⟩
  · exact .inl h
  · exact .inr ⟨k,h,by have:=hb2.size;omega⟩
end LenW
end Go.Proofs.YtnpncpoiiikafaaGreatDoor
namespace Go.Proofs.YtnpncpoiiikafaaGreatDoor
open Go.RowKit
namespace LenW
open BitW (Wr Wfr Fresh Puts)
def symsB (l:List Int):List Int → List Nat
  | []=>[]
  | s :: r=>dg (wordV l s).1.2.toNat (wordV l s).1.1.toNat ++ symsB l r
def symsOk (l:List Int) (r:List Int):Bool:=r.all fun s=>decide ((wordV l s).2 = 0)
theorem symsB_app (l a b:List Int):symsB l (a ++ b) = symsB l a ++ symsB l b:=by
  induction a with
  | nil=>rfl
  | cons x a ih=>simp [symsB,ih]
theorem symsB_snoc (l r:List Int) (k:Nat) (h:k < r.length):symsB l (r.take (k + 1)) = symsB l (r.take k) ++ dg (wordV l r[k]).1.2.toNat (wordV l r[k]).1.1.toNat:=by
  rw [List.take_succ_eq_append_getElem h,symsB_app]
  simp [symsB]
theorem wordV_width (l:List Int) (hk:chkL l = 0) (s:Int) (h:(wordV l s).2 = 0):(wordV l s).1.2.toNat≤32:=by
  have:=(word_fits l hk s h).1
  unfold fitsB at this
  simp only [Bool.and_eq_true,decide_eq_true_eq] at this
  omega
theorem symsB_len (l:List Int) (hk:chkL l = 0) (r:List Int) (h:symsOk l r = true):(symsB l r).length≤32 * r.length:=by
  induction r with
  | nil=>simp [symsB]
  | cons s r ih =>
    unfold symsOk at h ih
    rw [List.all_cons,Bool.and_eq_true,decide_eq_true_eq] at h
    have:=ih h.2
    have hw:=wordV_width l hk s h.1
    simp only [symsB,List.length_append,List.length_cons,dg_len]
    omega
end LenW
end Go.Proofs.YtnpncpoiiikafaaGreatDoor
namespace Go.Proofs.YtnpncpoiiikafaaGreatDoor
open Go.RowKit
namespace LenW
open BitW (Wr Wfr Fresh Puts text_any)
theorem CodeAt.below {w w':World} {B g:Nat} {l:List Int} (h:CodeAt w B g l) (hb:Below w.heap.size w w'):CodeAt w' B g l:=by
  obtain ⟨gW,gS,h1,h2,h3,b1,b2,b3⟩:=h
  exact ⟨gW,gS,h1,h2,h3,b1.below hb b1.lt,b2.below hb b2.lt,b3.below hb b3.lt⟩
end LenW
end Go.Proofs.YtnpncpoiiikafaaGreatDoor
namespace Go.Proofs.YtnpncpoiiikafaaGreatDoor
open Go.RowKit
namespace LenW
end LenW
end Go.Proofs.YtnpncpoiiikafaaGreatDoor
namespace Go.Proofs.YtnpncpoiiikafaaGreatDoor
open Go.RowKit
namespace LenW
end LenW
end Go.Proofs.YtnpncpoiiikafaaGreatDoor
namespace Go.Proofs.YtnpncpoiiikafaaGreatDoor
open Go.RowKit
namespace LenW
theorem grown_below {w w':World} {gl:Nat} (h:w.grownBy w' (some gl)) (hl:gl < w.heap.size):Below gl w w':=⟨h.os,h.tape,h.output,h.size,fun k hk=>h.block k (by omega) (by simp;omega)⟩
end LenW
end Go.Proofs.YtnpncpoiiikafaaGreatDoor
namespace Go.Proofs.YtnpncpoiiikafaaGreatDoor
open Go.RowKit
namespace LenW
end LenW
end Go.Proofs.YtnpncpoiiikafaaGreatDoor
namespace Go.Proofs.YtnpncpoiiikafaaGreatDoor
open Go.RowKit
namespace LenW
end LenW
end Go.Proofs.YtnpncpoiiikafaaGreatDoor
namespace Go.Proofs.YtnpncpoiiikafaaGreatDoor
open Go.RowKit
namespace LenW
theorem wordV_at (l:List Int) (k:Nat) (h:k < l.length):wordV l k = if (wordF l k).2 = 0 then ((0,0),70) else (wordF l k,0):=by
  unfold wordV
  rw [Int.toNat_natCast]
  by_cases h2:(wordF l k).2 = 0
  · rw [if_pos h2,if_neg (by simp [h2])]
  · rw [if_neg h2,if_pos ⟨by omega,by omega,h2⟩]
theorem wordV_out (l:List Int) (s:Int) (h:s < 0 ∨ (l.length:Int)≤s):wordV l s = ((0,0),70):=by
  unfold wordV
  rw [if_neg (by omega)]
end LenW
end Go.Proofs.YtnpncpoiiikafaaGreatDoor
namespace Go.Proofs.YtnpncpoiiikafaaGreatDoor
open Go.RowKit
namespace LenW
end LenW
end Go.Proofs.YtnpncpoiiikafaaGreatDoor
namespace Go.Proofs.YtnpncpoiiikafaaGreatDoor
open Go.RowKit
namespace LenW
open Classical
theorem wordV_V {l:List Int} {s:Nat} (h:Vs l s):wordV l s = (((nm l s:Int),(wd l s:Int)),0):=by
  obtain ⟨h1,h2⟩:=id h
  have:=wd_pos h
  rw [wordV_at l s h1,wordF_V h,if_neg (by simp;omega)]
theorem wordV_N {l:List Int} {s:Nat} (h:¬ Vs l s):wordV l s = ((0,0),70):=by
  by_cases h1:s < l.length
  · rw [wordV_at l s h1,wordF_N h,if_pos rfl]
  · exact wordV_out l s (.inr (by omega))
theorem Vs_iff {l:List Int} {s:Nat}:(wordV l s).2 = 0 ↔ Vs l s:=by
  constructor
  · intro h
    exact Decidable.byContradiction fun e=>by rw [wordV_N e] at h;exact absurd h (by decide)
  · intro h;rw [wordV_V h]
end LenW
end Go.Proofs.YtnpncpoiiikafaaGreatDoor
namespace Go.Proofs.YtnpncpoiiikafaaGreatDoor
open Go.RowKit
namespace LenW
end LenW
end Go.Proofs.YtnpncpoiiikafaaGreatDoor
namespace Go.Proofs.YtnpncpoiiikafaaGreatDoor
open Go.RowKit
namespace LenW
open Classical
end LenW
end Go.Proofs.YtnpncpoiiikafaaGreatDoor
namespace Go.Proofs.YtnpncpoiiikafaaGreatDoor
open Go.RowKit
namespace BitW
theorem cut_one (s:List UInt8) (a m:Nat) (h:a + (m + 1)≤8 * s.length):∃ d,cut s a 1 = [d]∧d < 2∧cut s a (m + 1) = d :: cut s (a + 1) m:=by
  have hl:=cut_len s a 1 (by omega)
  obtain ⟨d,hd⟩:=List.length_eq_one_iff.1 hl
  refine ⟨d,hd,cut_lt s a 1 d (by rw [hd];simp),?_⟩
  rw [Nat.add_comm m 1,cut_app,hd]
  rfl
end BitW
end Go.Proofs.YtnpncpoiiikafaaGreatDoor
namespace Go.Proofs.YtnpncpoiiikafaaGreatDoor
open Go.RowKit
namespace BitW
end BitW
end Go.Proofs.YtnpncpoiiikafaaGreatDoor
namespace Go.Proofs.YtnpncpoiiikafaaGreatDoor
open Go.RowKit
namespace BitW
end BitW
end Go.Proofs.YtnpncpoiiikafaaGreatDoor
namespace Go.Proofs.YtnpncpoiiikafaaGreatDoor
open Go.RowKit
namespace BitW
theorem gam_len {x:Nat} (h0:0 < x) (h:x < 2 ^ 32):(gam x).length + 1 = 2 * blen x∧1≤blen x∧blen x≤32:=by
  obtain ⟨a1,a2,_,_⟩:=blen_facts h0 h
  refine ⟨?_,a1,a2⟩
  rw [gam,List.length_append,dg_len,dg_len]
  omega
end BitW
end Go.Proofs.YtnpncpoiiikafaaGreatDoor
