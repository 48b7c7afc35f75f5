/- SieB -/
import Derived.Test.YtnpncpoiiikafaaGreatDoorSieAQs
import Derived.Test.YtnpncpoiiikafaaGreatDoorMemQs
set_option linter.unusedVariables false
set_option linter.unusedSimpArgs false
set_option linter.unnecessarySimpa false
namespace Go.Proofs.YtnpncpoiiikafaaGreatDoor
open Go.RowKit
namespace SieW
structure Wg (w:World) (base bs bo bf:Nat) (s:List UInt8) (o:List Wd) (fr:Int):Prop where
  bS:Blk w bs 9 #[str s]
  bF:Blk w bf 3 #[.int .i64 fr]
  row:∃ A n c,Blk w bo 48 #[.slice A n c]∧Own w base 57 2 A n c (wcells o)
theorem ext_take (s:List UInt8) (p i:Nat):((⟨s.toArray⟩:ByteArray).extract p i) = ⟨((s.take i).drop p).toArray⟩:=by
  apply ByteArray.ext
  simp [List.drop_take]
theorem shut_neg (s:List UInt8) (o:List Wd) (i:Nat):shut s o (-1) i = o:=by unfold shut;rw [if_neg (by omega)]
theorem shut_pos (s:List UInt8) (o:List Wd) (p i:Nat):shut s o (p:Int) i = o ++ [((s.take i).drop p,(p:Int))]:=by unfold shut;rw [if_pos (by omega)];simp
set_option maxRecDepth 100000 in
set_option maxHeartbeats 2000000 in
theorem end_any (B base bs bo bf:Nat) (s:List UInt8) (o:List Wd) (fr:Int) (i:Nat) (w:World) (h1:B≤bs) (h2:bs < bo) (h3:bo < bf) (h4:bf < base) (h5:base≤w.heap.size)
    (h:Wg w base bs bo bf s o fr) (hfr:fr = -1 ∨ ∃ p:Nat,fr = p∧p < i) (hi:i≤s.length) (hs:s.length≤1000) (ho:o.length≤1000) :
    Calls Tryz.prog 26 #[.int .i64 i,.pointer (some ⟨bf,0,none⟩),.pointer (some ⟨bo,0,none⟩),.pointer (some ⟨bs,0,none⟩)] w fun e w'=>e = .returned (.tuple #[])∧Wg w' base bs bo bf s (shut s o fr i) (-1)∧Below B w w':=by
  obtain ⟨bS,bF,A,n,c,bO,oW⟩:=h
  have hol:=oW.len
  rw [wcells_len] at hol
  have hn:n≤1000:=by omega
  clear hol
  obtain ⟨cS,fS,zS⟩:=blk1 bS
  obtain ⟨cF,fF,zF⟩:=blk1 bF
  rcases hfr with rfl | ⟨p,rfl,hp⟩
  · go_enter Tryz.func26,Tryz.ntmps26
    go_wp2_with fail
    go_end0
    refine ⟨rfl,?_,?_⟩
    · rw [shut_neg]
      exact ⟨bS.far (by show bs ≠ bf;omega) _,bF.set 0 _,A,n,c,bO.far (by show bo ≠ bf;omega) _,oW.far (fun e=>by have:=(oW.blk _ e).1;dsimp only at this;omega) _⟩
    · exact (Below.refl B w).setCell (by show B≤bf;omega) _
  · have hp0:(0:Int)≤(p:Int):=by omega
    have hpi:(p:Int)≤(i:Int):=by omega
    have hil:(i:Int)≤(s.length:Int):=by omega
    have HE:=Lib.hid (ext_take s p i)
    have hAb:=oW.blk
    have hBs:B≤w.heap.size:=by omega
    go_enter Tryz.func26,Tryz.ntmps26
    go_wp2_with fail
    have HBV:Hid ([.string ((⟨s.toArray⟩:ByteArray).extract p i),.int .i64 (p:Int)] = wcells [((s.take i).drop p,(p:Int))]):=Lib.hid (by rw [HE.out];rfl)
    refine wp_region_held_drew (S:=(fun w'=>w'.cell? ⟨bs,0,none⟩ = some (str s)∧w'.cell? ⟨bf,0,none⟩ = some (.int .i64 (p:Nat)))) (by kernel_rfl) ?_ (fun hHeld=>?_)
    · replace oW:=Own.drew oW;replace bS:=Blk.drew bS;replace bF:=Blk.drew bF;replace bO:=Blk.drew bO;(try dsimp only);exact ⟨bS.cell_ 0 rfl,bF.cell_ 0 rfl⟩
    replace oW:=Own.drew oW
    replace bS:=Blk.drew bS
    replace bF:=Blk.drew bF
    replace bO:=Blk.drew bO
    refine take_op (v:=?vu1x1) 1 (Op.load 9 (Operand.tmp 3)) 9 rfl rfl rfl rfl rfl (by kernel_rfl) (by kernel_rfl) (by kernel_rfl) (fun _ _ _ h=>h) ?yu1x1 (by assumption) ?ru1x1
    case yu1x1=>(intro w' hSw;(try dsimp only at hSw);go_simp;try (with_reducible rfl))
    simp only [zSa,zSb,zSc]
    refine take_op (v:=?vu1x2) 2 (Op.load 3 (Operand.tmp 1)) 3 rfl rfl rfl rfl rfl (by kernel_rfl) (by kernel_rfl) (by kernel_rfl) (fun _ _ _ h=>h) ?yu1x2 (by assumption) ?ru1x2
    case yu1x2=>(intro w' hSw;(try dsimp only at hSw);go_simp;try (with_reducible rfl))
    simp only [zSa,zSb,zSc]
    refine take_movev (v:=?vu1x3) 3 (Operand.tmp 0) rfl rfl (by first | exact .inl rfl | exact .inr rfl) rfl (by kernel_rfl) (by kernel_rfl) (by kernel_rfl) (fun _ _ _ h=>h) (by assumption) ?yu1x3 ?ru1x3
    case yu1x3=>(go_simp;try (with_reducible rfl))
    simp only [zSa,zSb,zSc]
    refine take_op (v:=?vu1x4) 4 (Op.slice 9 (Operand.tmp 8) (some (Operand.tmp 9)) (some (Operand.tmp 10)) none) 9 rfl rfl rfl rfl rfl (by kernel_rfl) (by kernel_rfl) (by kernel_rfl) (fun _ _ _ h=>h) ?yu1x4 (by assumption) ?ru1x4
    case yu1x4=>(intro w' hSw;(try dsimp only at hSw);go_simp;try (with_reducible rfl))
    simp only [zSa,zSb,zSc]
    refine take_op (v:=?vu1x5) 5 (Op.load 3 (Operand.tmp 1)) 3 rfl rfl rfl rfl rfl (by kernel_rfl) (by kernel_rfl) (by kernel_rfl) (fun _ _ _ h=>h) ?yu1x5 (by assumption) ?ru1x5
    case yu1x5=>(intro w' hSw;(try dsimp only at hSw);go_simp;try (with_reducible rfl))
    simp only [zSa,zSb,zSc]
    refine take_op (v:=?vu1x6) 6 (Op.build 57 #[(0,Operand.tmp 11),(1,Operand.tmp 12)]) 57 rfl rfl rfl rfl rfl (by kernel_rfl) (by kernel_rfl) (by kernel_rfl) (fun _ _ _ h=>h) ?yu1x6 (by assumption) ?ru1x6
    case yu1x6=>(intro w' hSw;(try dsimp only at hSw);go_simp;try (with_reducible rfl))
    simp only [zSa,zSb,zSc]
    refine wpAnyH_ready (rs:=[0,7]) (by kernel_rfl) (by simp) (AllReadyH.cons rfl (fun K0 hK0=>?ku1x0) (AllReadyH.cons rfl (fun K7 hK7=>?ku1x7) AllReadyH.nil))
    case ku1x0 =>
      refine take_any 0 (Op.load 48 (Operand.tmp 2)) 48 rfl rfl rfl (by kernel_rfl) (v:=.slice A n c) (by have cL:=bO.cell_ 0 rfl;go_simp;try (with_reducible rfl)) ?_
      refine hK0.out _ _ ?su1xb1x0 (fun hHeld=>?ru1xb1x0)
      case su1xb1x0=>((try dsimp only);exact ⟨bS.cell_ 0 rfl,bF.cell_ 0 rfl⟩)
      try simp only [zSa,zSb,zSc]
      refine wpAnyH_ready (rs:=[7]) (by kernel_rfl) (by simp) (AllReadyH.cons rfl (fun K7 hK7=>?ku1xb1x7) AllReadyH.nil)
      refine take_build (e:=57) (len:=1) (size:=2) (base) ([.string ((⟨s.toArray⟩:ByteArray).extract p i),.int .i64 (p:Int)]) 7 (Op.buildSlice 48 1 #[(0,Operand.tmp 13)]) 48 rfl rfl rfl (by kernel_rfl) ?eu1xb1x7 (by rfl) (by decide) (by first | exact Nat.le_refl _ | (simp only [World.size_alloc,World.size_setCell,World.size_drew] at *;omega) | omega) ?_
      case eu1xb1x7=>(go_simp;try (first | with_reducible rfl | (simp [rcells,rcell];done) | (simp [fcells];done) | (simp [tcells];done) | rfl))
      intro gx7 w7 o7 gr7 l7 m7
      have z7:=gr7.size
      try simp only [World.size_drew] at z7
      replace oW:=Own.grow0 oW gr7
      replace bS:=Blk.grow0 bS gr7
      replace bF:=Blk.grow0 bF gr7
      replace bO:=Blk.grow0 bO gr7
      refine hK7.out _ _ ?su1xb1x7 (fun hHeld=>?ru1xb1x7)
      case su1xb1x7=>((try dsimp only);exact ⟨bS.cell_ 0 rfl,bF.cell_ 0 rfl⟩)
      try simp only [zSa,zSb,zSc]
      refine wpAnyH_ready (rs:=[8]) (by kernel_rfl) (by simp) (AllReadyH.cons rfl (fun K8 hK8=>?ku1xb1x8) AllReadyH.nil)
      refine take_app El_word 8 (Operand.tmp 7) (Operand.tmp 14) 48 rfl rfl rfl (by kernel_rfl) oW rfl ((HBV.out ▸ o7.rd)) rfl (wcells_one _) (by unfold maxLen;omega) (by omega) (by first | exact Nat.le_refl _ | (simp only [World.size_alloc,World.size_setCell,World.size_drew] at *;omega) | omega) ?_
      intro A8 c8 w8 o8 gr8 at8
      have z8:=gr8.size
      try simp only [World.size_drew] at z8
      replace bS:=Blk.grown bS gr8 (by intro e;have:=oW.blk _ e.symm;omega)
      replace bF:=Blk.grown bF gr8 (by intro e;have:=oW.blk _ e.symm;omega)
      replace bO:=Blk.grown bO gr8 (by intro e;have:=oW.blk _ e.symm;omega)
      refine hK8.out _ _ ?su1xb1x8 (fun hHeld=>?ru1xb1x8)
      case su1xb1x8=>((try dsimp only);exact ⟨bS.cell_ 0 rfl,bF.cell_ 0 rfl⟩)
      try simp only [zSa,zSb,zSc]
      refine wpAnyH_ready (rs:=[9]) (by kernel_rfl) (by simp) (AllReadyH.cons rfl (fun K9 hK9=>?ku1xb1x9) AllReadyH.nil)
      refine take_store 9 (Op.store 48 (Operand.tmp 2) (Operand.tmp 15)) 0 rfl rfl rfl (by kernel_rfl) (w':=w8.setCell ⟨bo,0,none⟩ (.slice A8 (n + 1) c8)) (by obtain ⟨cL,fL,_⟩:=blk1 bO;go_simp;try (with_reducible rfl)) ?_
      refine hK9.out _ _ (⟨(bS.far (p:=⟨bo,0,none⟩) (by dsimp only;omega) _).cell_ 0 rfl,(bF.far (p:=⟨bo,0,none⟩) (by dsimp only;omega) _).cell_ 0 rfl⟩) (fun hHeld=>?_)
      refine wpAnyH_done (by kernel_rfl) ?_ _
      rw [← wcells_app] at o8
      have hA8:=o8.blk
      have bO2:Blk (w8.setCell ⟨bo,0,none⟩ (.slice A8 (n + 1) c8)) bo 48 #[.slice A8 (n + 1) c8]:=bO.set 0 _
      have oW2:=o8.far (p:=⟨bo,0,none⟩) (fun e=>by have:=(hA8 _ e).1;dsimp only at this;omega) (.slice A8 (n + 1) c8)
      have bS2:=bS.far (p:=⟨bo,0,none⟩) (by dsimp only;omega) (.slice A8 (n + 1) c8)
      have bF2:=bF.far (p:=⟨bo,0,none⟩) (by dsimp only;omega) (.slice A8 (n + 1) c8)
      have HB7:=(Below.refl B w).drew.grown gr7 hBs (fun k hk=>by cases hk)
      have HB8:=HB7.grown gr8 (Nat.le_trans hBs HB7.size) (fun k hk=>by have:=(hAb k hk).1;omega)
      have HB2:=below_set HB8 bo 0 (.slice A8 (n + 1) c8) (by omega)
      generalize w8.setCell ⟨bo,0,none⟩ (.slice A8 (n + 1) c8) = w9 at *
      obtain ⟨cF2,fF2,zF2⟩:=blk1 bF2
      go_wp2_with fail
      go_end0
      refine ⟨rfl,?_,?_⟩
      · rw [shut_pos]
        exact ⟨bS2.far (by show bs ≠ bf;omega) _,bF2.set 0 _,A8,n + 1,c8,bO2.far (by show bo ≠ bf;omega) _,oW2.far (fun e=>by have:=(oW2.blk _ e).1;dsimp only at this;omega) _⟩
      · exact HB2.setCell (by show B≤bf;omega) _
    case ku1x7 =>
      refine take_build (e:=57) (len:=1) (size:=2) (base) ([.string ((⟨s.toArray⟩:ByteArray).extract p i),.int .i64 (p:Int)]) 7 (Op.buildSlice 48 1 #[(0,Operand.tmp 13)]) 48 rfl rfl rfl (by kernel_rfl) ?eu1xb5x7 (by rfl) (by decide) (by first | exact Nat.le_refl _ | (simp only [World.size_alloc,World.size_setCell,World.size_drew] at *;omega) | omega) ?_
      case eu1xb5x7=>(go_simp;try (first | with_reducible rfl | (simp [rcells,rcell];done) | (simp [fcells];done) | (simp [tcells];done) | rfl))
      intro gx7 w7 o7 gr7 l7 m7
      have z7:=gr7.size
      try simp only [World.size_drew] at z7
      replace oW:=Own.grow0 oW gr7
      replace bS:=Blk.grow0 bS gr7
      replace bF:=Blk.grow0 bF gr7
      replace bO:=Blk.grow0 bO gr7
      refine hK7.out _ _ ?su1xb5x7 (fun hHeld=>?ru1xb5x7)
      case su1xb5x7=>((try dsimp only);exact ⟨bS.cell_ 0 rfl,bF.cell_ 0 rfl⟩)
      try simp only [zSa,zSb,zSc]
      refine wpAnyH_ready (rs:=[0]) (by kernel_rfl) (by simp) (AllReadyH.cons rfl (fun K0 hK0=>?ku1xb5x0) AllReadyH.nil)
      refine take_any 0 (Op.load 48 (Operand.tmp 2)) 48 rfl rfl rfl (by kernel_rfl) (v:=.slice A n c) (by have cL:=bO.cell_ 0 rfl;go_simp;try (with_reducible rfl)) ?_
      refine hK0.out _ _ ?su1xb5x0 (fun hHeld=>?ru1xb5x0)
      case su1xb5x0=>((try dsimp only);exact ⟨bS.cell_ 0 rfl,bF.cell_ 0 rfl⟩)
      try simp only [zSa,zSb,zSc]
      refine wpAnyH_ready (rs:=[8]) (by kernel_rfl) (by simp) (AllReadyH.cons rfl (fun K8 hK8=>?ku1xb5x8) AllReadyH.nil)
      refine take_app El_word 8 (Operand.tmp 7) (Operand.tmp 14) 48 rfl rfl rfl (by kernel_rfl) oW rfl ((HBV.out ▸ o7.rd)) rfl (wcells_one _) (by unfold maxLen;omega) (by omega) (by first | exact Nat.le_refl _ | (simp only [World.size_alloc,World.size_setCell,World.size_drew] at *;omega) | omega) ?_
      intro A8 c8 w8 o8 gr8 at8
      have z8:=gr8.size
      try simp only [World.size_drew] at z8
      replace bS:=Blk.grown bS gr8 (by intro e;have:=oW.blk _ e.symm;omega)
      replace bF:=Blk.grown bF gr8 (by intro e;have:=oW.blk _ e.symm;omega)
      replace bO:=Blk.grown bO gr8 (by intro e;have:=oW.blk _ e.symm;omega)
      refine hK8.out _ _ ?su1xb5x8 (fun hHeld=>?ru1xb5x8)
      case su1xb5x8=>((try dsimp only);exact ⟨bS.cell_ 0 rfl,bF.cell_ 0 rfl⟩)
      try simp only [zSa,zSb,zSc]
      refine wpAnyH_ready (rs:=[9]) (by kernel_rfl) (by simp) (AllReadyH.cons rfl (fun K9 hK9=>?ku1xb5x9) AllReadyH.nil)
      refine take_store 9 (Op.store 48 (Operand.tmp 2) (Operand.tmp 15)) 0 rfl rfl rfl (by kernel_rfl) (w':=w8.setCell ⟨bo,0,none⟩ (.slice A8 (n + 1) c8)) (by obtain ⟨cL,fL,_⟩:=blk1 bO;go_simp;try (with_reducible rfl)) ?_
      refine hK9.out _ _ (⟨(bS.far (p:=⟨bo,0,none⟩) (by dsimp only;omega) _).cell_ 0 rfl,(bF.far (p:=⟨bo,0,none⟩) (by dsimp only;omega) _).cell_ 0 rfl⟩) (fun hHeld=>?_)
      refine wpAnyH_done (by kernel_rfl) ?_ _
      rw [← wcells_app] at o8
      have hA8:=o8.blk
      have bO2:Blk (w8.setCell ⟨bo,0,none⟩ (.slice A8 (n + 1) c8)) bo 48 #[.slice A8 (n + 1) c8]:=bO.set 0 _
      have oW2:=o8.far (p:=⟨bo,0,none⟩) (fun e=>by have:=(hA8 _ e).1;dsimp only at this;omega) (.slice A8 (n + 1) c8)
      have bS2:=bS.far (p:=⟨bo,0,none⟩) (by dsimp only;omega) (.slice A8 (n + 1) c8)
      have bF2:=bF.far (p:=⟨bo,0,none⟩) (by dsimp only;omega) (.slice A8 (n + 1) c8)
      have HB7:=(Below.refl B w).drew.grown gr7 hBs (fun k hk=>by cases hk)
      have HB8:=HB7.grown gr8 (Nat.le_trans hBs HB7.size) (fun k hk=>by have:=(hAb k hk).1;omega)
      have HB2:=below_set HB8 bo 0 (.slice A8 (n + 1) c8) (by omega)
      generalize w8.setCell ⟨bo,0,none⟩ (.slice A8 (n + 1) c8) = w9 at *
      obtain ⟨cF2,fF2,zF2⟩:=blk1 bF2
      go_wp2_with fail
      go_end0
      refine ⟨rfl,?_,?_⟩
      · rw [shut_pos]
        exact ⟨bS2.far (by show bs ≠ bf;omega) _,bF2.set 0 _,A8,n + 1,c8,bO2.far (by show bo ≠ bf;omega) _,oW2.far (fun e=>by have:=(oW2.blk _ e).1;dsimp only at this;omega) _⟩
      · exact HB2.setCell (by show B≤bf;omega) _
theorem wst_len (s:List UInt8):∀ k,k≤s.length → (wst s k).1.length≤k:=by
  intro k
  have hs:∀ (o:List Wd) (fr:Int) (i:Nat),(shut s o fr i).length≤o.length + (if 0≤fr then 1 else 0):=by
    intro o fr i;unfold shut;split <;> simp
  suffices ∀ k,k≤s.length → (wst s k).1.length + (if 0≤(wst s k).2 then 1 else 0)≤k from fun h=>by have:=this k h;omega
  clear k
  intro k
  induction k with
  | zero=>intro _;simp [wst]
  | succ k ih =>
    intro h
    have ih:=ih (by omega)
    have h1:=hs (wst s k).1 (wst s k).2 k
    rw [wst]
    split
    · simp only [show ¬ (0:Int)≤-1 by omega,if_false];omega
    · split
      · simp only [show ¬ (0:Int)≤-1 by omega,if_false,List.length_append,List.length_singleton];omega
      · simp only
        split <;> split at ih <;> split <;> omega
theorem wst_fr2 (s:List UInt8) (k:Nat) (h:k≤s.length):(wst s k).2 = -1 ∨ ∃ p:Nat,(wst s k).2 = p∧p < k:=by
  rcases wst_fr s k h with h | ⟨h1,h2⟩
  · exact .inl h
  · exact .inr ⟨(wst s k).2.toNat,by omega,by omega⟩
theorem wst_sp {s:List UInt8} {k:Nat} (hk:k < s.length) (h:s[k] = 32):wst s (k + 1) = (shut s (wst s k).1 (wst s k).2 k,-1):=by
  rw [wst,List.getElem?_eq_getElem hk,Option.getD_some,if_pos h]
theorem wst_br {s:List UInt8} {k:Nat} (hk:k < s.length) (h:s[k] = 40 ∨ s[k] = 41):wst s (k + 1) = (shut s (wst s k).1 (wst s k).2 k ++ [([s[k]],(k:Int))],-1):=by
  rw [wst,List.getElem?_eq_getElem hk,Option.getD_some,if_neg (by rcases h with h | h <;> rw [h] <;> decide),if_pos h]
theorem wst_no {s:List UInt8} {k:Nat} (hk:k < s.length) (h1:s[k] ≠ 32) (h2:¬ (s[k] = 40 ∨ s[k] = 41)):wst s (k + 1) = ((wst s k).1,if (wst s k).2 < 0 then (k:Int) else (wst s k).2):=by
  rw [wst,List.getElem?_eq_getElem hk,Option.getD_some,if_neg h1,if_neg h2]
theorem ext_one {s:List UInt8} {k:Nat} (hk:k < s.length):((⟨s.toArray⟩:ByteArray).extract k (k + 1)) = ⟨[s[k]].toArray⟩:=by
  rw [ext_take]
  congr 2
  rw [List.take_succ_eq_append_getElem hk,List.drop_append_of_le_length (by simp;omega),List.drop_eq_nil_of_le (by simp;omega)]
  rfl
set_option maxRecDepth 100000 in
set_option maxHeartbeats 4000000 in
theorem words_any (s:List UInt8) (w:World) (hs:s.length≤1000) :
    Calls Tryz.prog 15 #[str s] w fun e w'=>∃ A n c,e = .returned (.slice A n c)∧n≤c∧c≤maxLen∧Rd w' w'.heap.size 2 A n (wcells (wordsP s))∧Below w.heap.size w w':=by
  have hmf:∀ (fn:Fn) (first cap:Array Value) (w:World),(Instr.makeFunc fn first cap).run Tryz.prog w = .ok (.func fn first cap) w:=fun _ _ _ _=>rfl
  obtain ⟨B,hbs⟩:∃ b,w.heap.size = b:=⟨_,rfl⟩
  go_enter Tryz.func15,Tryz.ntmps15
  go_wp2_with fail
  have HB0:Below B w (((w.alloc (.cells #[str s] 9)).alloc (.cells #[.slice none 0 0] 48)).alloc (.cells #[.int .i64 (-1)] 3)) :=
    (((Below.refl B w).alloc (by omega) _).alloc (by simp;omega) _).alloc (by simp;omega) _
  have W0:Wg (((w.alloc (.cells #[str s] 9)).alloc (.cells #[.slice none 0 0] 48)).alloc (.cells #[.int .i64 (-1)] 3)) (B + 1 + 1 + 1) B (B + 1) (B + 1 + 1) s [] (-1):=by
    subst hbs
    refine ⟨((Blk.new _ _ _).alloc _).alloc _,?_,none,0,0,?_,Own.nil _ _ _ _⟩
    · have:=Blk.new ((w.alloc (.cells #[str s] 9)).alloc (.cells #[.slice none 0 0] 48)) 3 #[.int .i64 (-1)]
      simpa using this
    · have:=(Blk.new (w.alloc (.cells #[str s] 9)) 48 #[.slice none 0 0]).alloc (.cells #[.int .i64 (-1)] 3)
      simpa using this
  have hz0:B + 1 + 1 + 1≤(((w.alloc (.cells #[str s] 9)).alloc (.cells #[.slice none 0 0] 48)).alloc (.cells #[.int .i64 (-1)] 3)).heap.size:=by simp;omega
  have HBS:=Lib.hid hbs
  clear hbs
  go_loopw [6] (fun i wr=>∃ k:Nat,k≤s.length∧i = .int .i64 k∧Wg wr (B + 1 + 1 + 1) B (B + 1) (B + 1 + 1) s (wst s k).1 (wst s k).2∧Below B w wr∧B + 1 + 1 + 1≤wr.heap.size) (fun i _=>s.length - (intOf i).toNat)
  case atStart=>exact ⟨0,by omega,rfl,W0,HB0,hz0⟩
  case round =>
    obtain ⟨k,hk,rfl,hW,hbw,hzr⟩:=hrel
    have hfr:=wst_fr2 s k hk
    have hol:=wst_len s k hk
    clear W0 HB0 hz0
    by_cases hlt:k < s.length
    · have hW':=hW
      obtain ⟨bS,bF,A,n,c,bO,oW⟩:=hW'
      obtain ⟨cS,fS,zS⟩:=blk1 bS
      obtain ⟨cF,fF,zF⟩:=blk1 bF
      have HN1:=Lib.hid (fun h=>wst_sp (s:=s) hlt h)
      have HN2:=Lib.hid (fun h=>wst_br (s:=s) hlt h)
      have HN3:=Lib.hid (fun h h'=>wst_no (s:=s) hlt h h')
      generalize wst s k = st at *
      obtain ⟨o,fr⟩:=st
      dsimp only at *
      have E:=end_any B (B + 1 + 1 + 1) B (B + 1) (B + 1 + 1) s o fr k wr (by omega) (by omega) (by omega) (by omega) hzr hW hfr (by omega) hs (by omega)
      obtain ⟨x,hx1,hx2⟩:=WanW.str_at s k hlt
      rw [hx2] at HN1 HN2 HN3
      have HX:=Lib.hid hx2
      have HOX:=Lib.hid (ext_one hlt)
      have hw1:IntKind.i64.wrap ((k:Int) + 1) = (k:Int) + 1:=IntWalk.i64_in _ (by omega)
      have hk0:(0:Int)≤(k:Int):=by omega
      have hk1:(k:Int)≤(k:Int) + 1:=by omega
      have hk2:(k:Int) + 1≤(s.length:Int):=by omega
      clear hx2
      by_cases h32:x = 32
      · have e32:((x.toNat:Int) == 32) = true:=by rw [h32];decide
        have HN:=Lib.hid (HN1.out h32)
        clear HN1 HN2 HN3 h32
        go_wp2_with fail
        refine E.mono ?_
        clear E
        rintro e w1 ⟨rfl,W1,hb1⟩
        have hz1:=hb1.size
        go_wp2_with fail
        go_roundw
        case rel=>exact ⟨k + 1,by omega,by go_num,by rw [HN.out];exact W1,hbw.trans hb1,by omega⟩
        case measure=>simp [intOf];omega
      · have e32:((x.toNat:Int) == 32) = false:=by rw [beq_eq_false_iff_ne];intro h;exact h32 (UInt8.toNat_inj.1 (by show x.toNat = 32;omega))
        by_cases hbr:x = 40 ∨ x = 41
        · have e41:(((x.toNat:Int) == 40) = true) ∨ (((x.toNat:Int) == 40) = false∧((x.toNat:Int) == 41) = true):=by
            rcases hbr with h | h
            · exact .inl (by rw [h];decide)
            · exact .inr (by rw [h];exact ⟨by decide,by decide⟩)
          have HN:=Lib.hid (HN2.out hbr)
          clear HN1 HN2 HN3 h32 hbr
          rcases e41 with e41 | ⟨e40,e41⟩
          · go_wp2_with fail
            refine E.mono ?_
            clear E
            rintro e w1 ⟨rfl,W1,hb1⟩
            have hz1:=hb1.size
            have hol2:(shut s o fr k).length≤k + 1:=by unfold shut;split <;> (try simp only [List.length_append,List.length_singleton]) <;> omega
            obtain ⟨bS1,bF1,A1,n1,c1,bO1,oW1⟩:=W1
            have hn1:n1≤1001:=by have:=oW1.len;rw [wcells_len] at this;omega
            have hAb:=oW1.blk
            generalize shut s o fr k = o1 at *
            clear hol2 bS bF cS fS cF fF bO oW hW hfr hol
            have HBV:Hid ([.string ((⟨s.toArray⟩:ByteArray).extract k (k + 1)),.int .i64 (k:Int)] = wcells [([x],(k:Int))]):=Lib.hid (by rw [HOX.out,HX.out];rfl)
            go_wp2_with fail
            refine wp_region_held_drew (S:=(fun w'=>w'.cell? ⟨B,0,none⟩ = some (str s))) (by kernel_rfl) ?_ (fun hHeld=>?_)
            · replace oW1:=Own.drew oW1;replace bS1:=Blk.drew bS1;replace bF1:=Blk.drew bF1;replace bO1:=Blk.drew bO1;(try dsimp only);exact bS1.cell_ 0 rfl
            replace oW1:=Own.drew oW1
            replace bS1:=Blk.drew bS1
            replace bF1:=Blk.drew bF1
            replace bO1:=Blk.drew bO1
            refine take_op (v:=?vu2x1) 1 (Op.load 9 (Operand.tmp 1)) 9 rfl rfl rfl rfl rfl (by kernel_rfl) (by kernel_rfl) (by kernel_rfl) (fun _ _ _ h=>h) ?yu2x1 (by assumption) ?ru2x1
            case yu2x1=>(intro w' hSw;(try dsimp only at hSw);go_simp;try (with_reducible rfl))
            simp only [zSa,zSb,zSc]
            refine take_movev (v:=?vu2x2) 2 (Operand.tmp 6) rfl rfl (by first | exact .inl rfl | exact .inr rfl) rfl (by kernel_rfl) (by kernel_rfl) (by kernel_rfl) (fun _ _ _ h=>h) (by assumption) ?yu2x2 ?ru2x2
            case yu2x2=>(go_simp;try (with_reducible rfl))
            simp only [zSa,zSb,zSc]
            refine take_movev (v:=?vu2x3) 3 (Operand.tmp 6) rfl rfl (by first | exact .inl rfl | exact .inr rfl) rfl (by kernel_rfl) (by kernel_rfl) (by kernel_rfl) (fun _ _ _ h=>h) (by assumption) ?yu2x3 ?ru2x3
            case yu2x3=>(go_simp;try (with_reducible rfl))
            simp only [zSa,zSb,zSc]
            refine take_op (v:=?vu2x4) 4 (Op.binOp BinOp.add 3 (Operand.tmp 34) (Operand.const (Value.int IntKind.i64 1)) 3) 3 rfl rfl rfl rfl rfl (by kernel_rfl) (by kernel_rfl) (by kernel_rfl) (fun _ _ _ h=>h) ?yu2x4 (by assumption) ?ru2x4
            case yu2x4=>(intro w' hSw;(try dsimp only at hSw);go_simp;try (with_reducible rfl))
            simp only [zSa,zSb,zSc]
            refine take_op (v:=?vu2x5) 5 (Op.slice 9 (Operand.tmp 32) (some (Operand.tmp 33)) (some (Operand.tmp 35)) none) 9 rfl rfl rfl rfl rfl (by kernel_rfl) (by kernel_rfl) (by kernel_rfl) (fun _ _ _ h=>h) ?yu2x5 (by assumption) ?ru2x5
            case yu2x5=>(intro w' hSw;(try dsimp only at hSw);go_simp;try (with_reducible rfl))
            simp only [zSa,zSb,zSc]
            refine take_movev (v:=?vu2x6) 6 (Operand.tmp 6) rfl rfl (by first | exact .inl rfl | exact .inr rfl) rfl (by kernel_rfl) (by kernel_rfl) (by kernel_rfl) (fun _ _ _ h=>h) (by assumption) ?yu2x6 ?ru2x6
            case yu2x6=>(go_simp;try (with_reducible rfl))
            simp only [zSa,zSb,zSc]
            refine take_op (v:=?vu2x7) 7 (Op.build 57 #[(0,Operand.tmp 36),(1,Operand.tmp 37)]) 57 rfl rfl rfl rfl rfl (by kernel_rfl) (by kernel_rfl) (by kernel_rfl) (fun _ _ _ h=>h) ?yu2x7 (by assumption) ?ru2x7
            case yu2x7=>(intro w' hSw;(try dsimp only at hSw);go_simp;try (with_reducible rfl))
            simp only [zSa,zSb,zSc]
            refine wpAnyH_ready (rs:=[0,8]) (by kernel_rfl) (by simp) (AllReadyH.cons rfl (fun K0 hK0=>?ku2x0) (AllReadyH.cons rfl (fun K8 hK8=>?ku2x8) AllReadyH.nil))
            case ku2x0 =>
              refine take_any 0 (Op.load 48 (Operand.tmp 3)) 48 rfl rfl rfl (by kernel_rfl) (v:=.slice A1 n1 c1) (by have cL:=bO1.cell_ 0 rfl;go_simp;try (with_reducible rfl)) ?_
              refine hK0.out _ _ ?su2xb1x0 (fun hHeld=>?ru2xb1x0)
              case su2xb1x0=>((try dsimp only);exact bS1.cell_ 0 rfl)
              try simp only [zSa,zSb,zSc]
              refine wpAnyH_ready (rs:=[8]) (by kernel_rfl) (by simp) (AllReadyH.cons rfl (fun K8 hK8=>?ku2xb1x8) AllReadyH.nil)
              refine take_build (e:=57) (len:=1) (size:=2) (B + 1 + 1 + 1) ([.string ((⟨s.toArray⟩:ByteArray).extract k (k + 1)),.int .i64 (k:Int)]) 8 (Op.buildSlice 48 1 #[(0,Operand.tmp 38)]) 48 rfl rfl rfl (by kernel_rfl) ?eu2xb1x8 (by rfl) (by decide) (by first | exact Nat.le_refl _ | (simp only [World.size_alloc,World.size_setCell,World.size_drew] at *;omega) | omega) ?_
              case eu2xb1x8=>(go_simp;try (first | with_reducible rfl | (simp [rcells,rcell];done) | (simp [fcells];done) | (simp [tcells];done) | rfl))
              intro gx8 w8 o8 gr8 l8 m8
              have z8:=gr8.size
              try simp only [World.size_drew] at z8
              replace oW1:=Own.grow0 oW1 gr8
              replace bS1:=Blk.grow0 bS1 gr8
              replace bF1:=Blk.grow0 bF1 gr8
              replace bO1:=Blk.grow0 bO1 gr8
              refine hK8.out _ _ ?su2xb1x8 (fun hHeld=>?ru2xb1x8)
              case su2xb1x8=>((try dsimp only);exact bS1.cell_ 0 rfl)
              try simp only [zSa,zSb,zSc]
              refine wpAnyH_ready (rs:=[9]) (by kernel_rfl) (by simp) (AllReadyH.cons rfl (fun K9 hK9=>?ku2xb1x9) AllReadyH.nil)
              refine take_app El_word 9 (Operand.tmp 31) (Operand.tmp 39) 48 rfl rfl rfl (by kernel_rfl) oW1 rfl ((HBV.out ▸ o8.rd)) rfl (wcells_one _) (by unfold maxLen;omega) (by omega) (by first | exact Nat.le_refl _ | (simp only [World.size_alloc,World.size_setCell,World.size_drew] at *;omega) | omega) ?_
              intro A9 c9 w9 o9 gr9 at9
              have z9:=gr9.size
              try simp only [World.size_drew] at z9
              replace bS1:=Blk.grown bS1 gr9 (by intro e;have:=oW1.blk _ e.symm;omega)
              replace bF1:=Blk.grown bF1 gr9 (by intro e;have:=oW1.blk _ e.symm;omega)
              replace bO1:=Blk.grown bO1 gr9 (by intro e;have:=oW1.blk _ e.symm;omega)
              refine hK9.out _ _ ?su2xb1x9 (fun hHeld=>?ru2xb1x9)
              case su2xb1x9=>((try dsimp only);exact bS1.cell_ 0 rfl)
              try simp only [zSa,zSb,zSc]
              refine wpAnyH_ready (rs:=[10]) (by kernel_rfl) (by simp) (AllReadyH.cons rfl (fun K10 hK10=>?ku2xb1x10) AllReadyH.nil)
              refine take_store 10 (Op.store 48 (Operand.tmp 3) (Operand.tmp 40)) 0 rfl rfl rfl (by kernel_rfl) (w':=w9.setCell ⟨B + 1,0,none⟩ (.slice A9 (n1 + 1) c9)) (by obtain ⟨cL,fL,_⟩:=blk1 bO1;go_simp;try (with_reducible rfl)) ?_
              refine hK10.out _ _ ((bS1.far (p:=⟨B + 1,0,none⟩) (by dsimp only;omega) _).cell_ 0 rfl) (fun hHeld=>?_)
              refine wpAnyH_done (by kernel_rfl) ?_ _
              rw [← wcells_app] at o9
              have hA9:=o9.blk
              have bO2:Blk (w9.setCell ⟨B + 1,0,none⟩ (.slice A9 (n1 + 1) c9)) (B + 1) 48 #[.slice A9 (n1 + 1) c9]:=bO1.set 0 _
              have oW2:=o9.far (p:=⟨B + 1,0,none⟩) (fun e=>by have:=(hA9 _ e).1;dsimp only at this;omega) (.slice A9 (n1 + 1) c9)
              have bS2:=bS1.far (p:=⟨B + 1,0,none⟩) (by dsimp only;omega) (.slice A9 (n1 + 1) c9)
              have bF2:=bF1.far (p:=⟨B + 1,0,none⟩) (by dsimp only;omega) (.slice A9 (n1 + 1) c9)
              have HB8:=(hbw.trans hb1).drew.grown gr8 (by show B≤w1.heap.size;omega) (fun k hk=>by cases hk)
              have HB9:=HB8.grown gr9 (by have:=gr8.size;simp only [World.size_drew] at this;omega) (fun k hk=>by have:=(hAb k hk).1;omega)
              have HB2:=below_set HB9 (B + 1) 0 (.slice A9 (n1 + 1) c9) (by omega)
              have hz2:B + 1 + 1 + 1≤(w9.setCell ⟨B + 1,0,none⟩ (.slice A9 (n1 + 1) c9)).heap.size:=by simp only [World.size_setCell];have:=gr8.size;have:=gr9.size;simp only [World.size_drew] at *;omega
              generalize w9.setCell ⟨B + 1,0,none⟩ (.slice A9 (n1 + 1) c9) = w10 at *
              go_wp2_with fail
              go_roundw
              case rel=>exact ⟨k + 1,by omega,by go_num,by rw [HN.out];exact ⟨bS2,bF2,A9,n1 + 1,c9,bO2,oW2⟩,HB2,hz2⟩
              case measure=>simp [intOf];omega
            case ku2x8 =>
              refine take_build (e:=57) (len:=1) (size:=2) (B + 1 + 1 + 1) ([.string ((⟨s.toArray⟩:ByteArray).extract k (k + 1)),.int .i64 (k:Int)]) 8 (Op.buildSlice 48 1 #[(0,Operand.tmp 38)]) 48 rfl rfl rfl (by kernel_rfl) ?eu2xb5x8 (by rfl) (by decide) (by first | exact Nat.le_refl _ | (simp only [World.size_alloc,World.size_setCell,World.size_drew] at *;omega) | omega) ?_
              case eu2xb5x8=>(go_simp;try (first | with_reducible rfl | (simp [rcells,rcell];done) | (simp [fcells];done) | (simp [tcells];done) | rfl))
              intro gx8 w8 o8 gr8 l8 m8
              have z8:=gr8.size
              try simp only [World.size_drew] at z8
              replace oW1:=Own.grow0 oW1 gr8
              replace bS1:=Blk.grow0 bS1 gr8
              replace bF1:=Blk.grow0 bF1 gr8
              replace bO1:=Blk.grow0 bO1 gr8
              refine hK8.out _ _ ?su2xb5x8 (fun hHeld=>?ru2xb5x8)
              case su2xb5x8=>((try dsimp only);exact bS1.cell_ 0 rfl)
              try simp only [zSa,zSb,zSc]
              refine wpAnyH_ready (rs:=[0]) (by kernel_rfl) (by simp) (AllReadyH.cons rfl (fun K0 hK0=>?ku2xb5x0) AllReadyH.nil)
              refine take_any 0 (Op.load 48 (Operand.tmp 3)) 48 rfl rfl rfl (by kernel_rfl) (v:=.slice A1 n1 c1) (by have cL:=bO1.cell_ 0 rfl;go_simp;try (with_reducible rfl)) ?_
              refine hK0.out _ _ ?su2xb5x0 (fun hHeld=>?ru2xb5x0)
              case su2xb5x0=>((try dsimp only);exact bS1.cell_ 0 rfl)
              try simp only [zSa,zSb,zSc]
              refine wpAnyH_ready (rs:=[9]) (by kernel_rfl) (by simp) (AllReadyH.cons rfl (fun K9 hK9=>?ku2xb5x9) AllReadyH.nil)
              refine take_app El_word 9 (Operand.tmp 31) (Operand.tmp 39) 48 rfl rfl rfl (by kernel_rfl) oW1 rfl ((HBV.out ▸ o8.rd)) rfl (wcells_one _) (by unfold maxLen;omega) (by omega) (by first | exact Nat.le_refl _ | (simp only [World.size_alloc,World.size_setCell,World.size_drew] at *;omega) | omega) ?_
              intro A9 c9 w9 o9 gr9 at9
              have z9:=gr9.size
              try simp only [World.size_drew] at z9
              replace bS1:=Blk.grown bS1 gr9 (by intro e;have:=oW1.blk _ e.symm;omega)
              replace bF1:=Blk.grown bF1 gr9 (by intro e;have:=oW1.blk _ e.symm;omega)
              replace bO1:=Blk.grown bO1 gr9 (by intro e;have:=oW1.blk _ e.symm;omega)
              refine hK9.out _ _ ?su2xb5x9 (fun hHeld=>?ru2xb5x9)
              case su2xb5x9=>((try dsimp only);exact bS1.cell_ 0 rfl)
              try simp only [zSa,zSb,zSc]
              refine wpAnyH_ready (rs:=[10]) (by kernel_rfl) (by simp) (AllReadyH.cons rfl (fun K10 hK10=>?ku2xb5x10) AllReadyH.nil)
              refine take_store 10 (Op.store 48 (Operand.tmp 3) (Operand.tmp 40)) 0 rfl rfl rfl (by kernel_rfl) (w':=w9.setCell ⟨B + 1,0,none⟩ (.slice A9 (n1 + 1) c9)) (by obtain ⟨cL,fL,_⟩:=blk1 bO1;go_simp;try (with_reducible rfl)) ?_
              refine hK10.out _ _ ((bS1.far (p:=⟨B + 1,0,none⟩) (by dsimp only;omega) _).cell_ 0 rfl) (fun hHeld=>?_)
              refine wpAnyH_done (by kernel_rfl) ?_ _
              rw [← wcells_app] at o9
              have hA9:=o9.blk
              have bO2:Blk (w9.setCell ⟨B + 1,0,none⟩ (.slice A9 (n1 + 1) c9)) (B + 1) 48 #[.slice A9 (n1 + 1) c9]:=bO1.set 0 _
              have oW2:=o9.far (p:=⟨B + 1,0,none⟩) (fun e=>by have:=(hA9 _ e).1;dsimp only at this;omega) (.slice A9 (n1 + 1) c9)
              have bS2:=bS1.far (p:=⟨B + 1,0,none⟩) (by dsimp only;omega) (.slice A9 (n1 + 1) c9)
              have bF2:=bF1.far (p:=⟨B + 1,0,none⟩) (by dsimp only;omega) (.slice A9 (n1 + 1) c9)
              have HB8:=(hbw.trans hb1).drew.grown gr8 (by show B≤w1.heap.size;omega) (fun k hk=>by cases hk)
              have HB9:=HB8.grown gr9 (by have:=gr8.size;simp only [World.size_drew] at this;omega) (fun k hk=>by have:=(hAb k hk).1;omega)
              have HB2:=below_set HB9 (B + 1) 0 (.slice A9 (n1 + 1) c9) (by omega)
              have hz2:B + 1 + 1 + 1≤(w9.setCell ⟨B + 1,0,none⟩ (.slice A9 (n1 + 1) c9)).heap.size:=by simp only [World.size_setCell];have:=gr8.size;have:=gr9.size;simp only [World.size_drew] at *;omega
              generalize w9.setCell ⟨B + 1,0,none⟩ (.slice A9 (n1 + 1) c9) = w10 at *
              go_wp2_with fail
              go_roundw
              case rel=>exact ⟨k + 1,by omega,by go_num,by rw [HN.out];exact ⟨bS2,bF2,A9,n1 + 1,c9,bO2,oW2⟩,HB2,hz2⟩
              case measure=>simp [intOf];omega
          · go_wp2_with fail
            refine E.mono ?_
            clear E
            rintro e w1 ⟨rfl,W1,hb1⟩
            have hz1:=hb1.size
            have hol2:(shut s o fr k).length≤k + 1:=by unfold shut;split <;> (try simp only [List.length_append,List.length_singleton]) <;> omega
            obtain ⟨bS1,bF1,A1,n1,c1,bO1,oW1⟩:=W1
            have hn1:n1≤1001:=by have:=oW1.len;rw [wcells_len] at this;omega
            have hAb:=oW1.blk
            generalize shut s o fr k = o1 at *
            clear hol2 bS bF cS fS cF fF bO oW hW hfr hol
            have HBV:Hid ([.string ((⟨s.toArray⟩:ByteArray).extract k (k + 1)),.int .i64 (k:Int)] = wcells [([x],(k:Int))]):=Lib.hid (by rw [HOX.out,HX.out];rfl)
            go_wp2_with fail
            refine wp_region_held_drew (S:=(fun w'=>w'.cell? ⟨B,0,none⟩ = some (str s))) (by kernel_rfl) ?_ (fun hHeld=>?_)
            · replace oW1:=Own.drew oW1;replace bS1:=Blk.drew bS1;replace bF1:=Blk.drew bF1;replace bO1:=Blk.drew bO1;(try dsimp only);exact bS1.cell_ 0 rfl
            replace oW1:=Own.drew oW1
            replace bS1:=Blk.drew bS1
            replace bF1:=Blk.drew bF1
            replace bO1:=Blk.drew bO1
            refine take_op (v:=?vu3x1) 1 (Op.load 9 (Operand.tmp 1)) 9 rfl rfl rfl rfl rfl (by kernel_rfl) (by kernel_rfl) (by kernel_rfl) (fun _ _ _ h=>h) ?yu3x1 (by assumption) ?ru3x1
            case yu3x1=>(intro w' hSw;(try dsimp only at hSw);go_simp;try (with_reducible rfl))
            simp only [zSa,zSb,zSc]
            refine take_movev (v:=?vu3x2) 2 (Operand.tmp 6) rfl rfl (by first | exact .inl rfl | exact .inr rfl) rfl (by kernel_rfl) (by kernel_rfl) (by kernel_rfl) (fun _ _ _ h=>h) (by assumption) ?yu3x2 ?ru3x2
            case yu3x2=>(go_simp;try (with_reducible rfl))
            simp only [zSa,zSb,zSc]
            refine take_movev (v:=?vu3x3) 3 (Operand.tmp 6) rfl rfl (by first | exact .inl rfl | exact .inr rfl) rfl (by kernel_rfl) (by kernel_rfl) (by kernel_rfl) (fun _ _ _ h=>h) (by assumption) ?yu3x3 ?ru3x3
            case yu3x3=>(go_simp;try (with_reducible rfl))
            simp only [zSa,zSb,zSc]
            refine take_op (v:=?vu3x4) 4 (Op.binOp BinOp.add 3 (Operand.tmp 34) (Operand.const (Value.int IntKind.i64 1)) 3) 3 rfl rfl rfl rfl rfl (by kernel_rfl) (by kernel_rfl) (by kernel_rfl) (fun _ _ _ h=>h) ?yu3x4 (by assumption) ?ru3x4
            case yu3x4=>(intro w' hSw;(try dsimp only at hSw);go_simp;try (with_reducible rfl))
            simp only [zSa,zSb,zSc]
            refine take_op (v:=?vu3x5) 5 (Op.slice 9 (Operand.tmp 32) (some (Operand.tmp 33)) (some (Operand.tmp 35)) none) 9 rfl rfl rfl rfl rfl (by kernel_rfl) (by kernel_rfl) (by kernel_rfl) (fun _ _ _ h=>h) ?yu3x5 (by assumption) ?ru3x5
            case yu3x5=>(intro w' hSw;(try dsimp only at hSw);go_simp;try (with_reducible rfl))
            simp only [zSa,zSb,zSc]
            refine take_movev (v:=?vu3x6) 6 (Operand.tmp 6) rfl rfl (by first | exact .inl rfl | exact .inr rfl) rfl (by kernel_rfl) (by kernel_rfl) (by kernel_rfl) (fun _ _ _ h=>h) (by assumption) ?yu3x6 ?ru3x6
            case yu3x6=>(go_simp;try (with_reducible rfl))
            simp only [zSa,zSb,zSc]
            refine take_op (v:=?vu3x7) 7 (Op.build 57 #[(0,Operand.tmp 36),(1,Operand.tmp 37)]) 57 rfl rfl rfl rfl rfl (by kernel_rfl) (by kernel_rfl) (by kernel_rfl) (fun _ _ _ h=>h) ?yu3x7 (by assumption) ?ru3x7
            case yu3x7=>(intro w' hSw;(try dsimp only at hSw);go_simp;try (with_reducible rfl))
            simp only [zSa,zSb,zSc]
            refine wpAnyH_ready (rs:=[0,8]) (by kernel_rfl) (by simp) (AllReadyH.cons rfl (fun K0 hK0=>?ku3x0) (AllReadyH.cons rfl (fun K8 hK8=>?ku3x8) AllReadyH.nil))
            case ku3x0 =>
              refine take_any 0 (Op.load 48 (Operand.tmp 3)) 48 rfl rfl rfl (by kernel_rfl) (v:=.slice A1 n1 c1) (by have cL:=bO1.cell_ 0 rfl;go_simp;try (with_reducible rfl)) ?_
              refine hK0.out _ _ ?su3xb1x0 (fun hHeld=>?ru3xb1x0)
              case su3xb1x0=>((try dsimp only);exact bS1.cell_ 0 rfl)
              try simp only [zSa,zSb,zSc]
              refine wpAnyH_ready (rs:=[8]) (by kernel_rfl) (by simp) (AllReadyH.cons rfl (fun K8 hK8=>?ku3xb1x8) AllReadyH.nil)
              refine take_build (e:=57) (len:=1) (size:=2) (B + 1 + 1 + 1) ([.string ((⟨s.toArray⟩:ByteArray).extract k (k + 1)),.int .i64 (k:Int)]) 8 (Op.buildSlice 48 1 #[(0,Operand.tmp 38)]) 48 rfl rfl rfl (by kernel_rfl) ?eu3xb1x8 (by rfl) (by decide) (by first | exact Nat.le_refl _ | (simp only [World.size_alloc,World.size_setCell,World.size_drew] at *;omega) | omega) ?_
              case eu3xb1x8=>(go_simp;try (first | with_reducible rfl | (simp [rcells,rcell];done) | (simp [fcells];done) | (simp [tcells];done) | rfl))
              intro gx8 w8 o8 gr8 l8 m8
              have z8:=gr8.size
              try simp only [World.size_drew] at z8
              replace oW1:=Own.grow0 oW1 gr8
              replace bS1:=Blk.grow0 bS1 gr8
              replace bF1:=Blk.grow0 bF1 gr8
              replace bO1:=Blk.grow0 bO1 gr8
              refine hK8.out _ _ ?su3xb1x8 (fun hHeld=>?ru3xb1x8)
              case su3xb1x8=>((try dsimp only);exact bS1.cell_ 0 rfl)
              try simp only [zSa,zSb,zSc]
              refine wpAnyH_ready (rs:=[9]) (by kernel_rfl) (by simp) (AllReadyH.cons rfl (fun K9 hK9=>?ku3xb1x9) AllReadyH.nil)
              refine take_app El_word 9 (Operand.tmp 31) (Operand.tmp 39) 48 rfl rfl rfl (by kernel_rfl) oW1 rfl ((HBV.out ▸ o8.rd)) rfl (wcells_one _) (by unfold maxLen;omega) (by omega) (by first | exact Nat.le_refl _ | (simp only [World.size_alloc,World.size_setCell,World.size_drew] at *;omega) | omega) ?_
              intro A9 c9 w9 o9 gr9 at9
              have z9:=gr9.size
              try simp only [World.size_drew] at z9
              replace bS1:=Blk.grown bS1 gr9 (by intro e;have:=oW1.blk _ e.symm;omega)
              replace bF1:=Blk.grown bF1 gr9 (by intro e;have:=oW1.blk _ e.symm;omega)
              replace bO1:=Blk.grown bO1 gr9 (by intro e;have:=oW1.blk _ e.symm;omega)
              refine hK9.out _ _ ?su3xb1x9 (fun hHeld=>?ru3xb1x9)
              case su3xb1x9=>((try dsimp only);exact bS1.cell_ 0 rfl)
              try simp only [zSa,zSb,zSc]
              refine wpAnyH_ready (rs:=[10]) (by kernel_rfl) (by simp) (AllReadyH.cons rfl (fun K10 hK10=>?ku3xb1x10) AllReadyH.nil)
              refine take_store 10 (Op.store 48 (Operand.tmp 3) (Operand.tmp 40)) 0 rfl rfl rfl (by kernel_rfl) (w':=w9.setCell ⟨B + 1,0,none⟩ (.slice A9 (n1 + 1) c9)) (by obtain ⟨cL,fL,_⟩:=blk1 bO1;go_simp;try (with_reducible rfl)) ?_
              refine hK10.out _ _ ((bS1.far (p:=⟨B + 1,0,none⟩) (by dsimp only;omega) _).cell_ 0 rfl) (fun hHeld=>?_)
              refine wpAnyH_done (by kernel_rfl) ?_ _
              rw [← wcells_app] at o9
              have hA9:=o9.blk
              have bO2:Blk (w9.setCell ⟨B + 1,0,none⟩ (.slice A9 (n1 + 1) c9)) (B + 1) 48 #[.slice A9 (n1 + 1) c9]:=bO1.set 0 _
              have oW2:=o9.far (p:=⟨B + 1,0,none⟩) (fun e=>by have:=(hA9 _ e).1;dsimp only at this;omega) (.slice A9 (n1 + 1) c9)
              have bS2:=bS1.far (p:=⟨B + 1,0,none⟩) (by dsimp only;omega) (.slice A9 (n1 + 1) c9)
              have bF2:=bF1.far (p:=⟨B + 1,0,none⟩) (by dsimp only;omega) (.slice A9 (n1 + 1) c9)
              have HB8:=(hbw.trans hb1).drew.grown gr8 (by show B≤w1.heap.size;omega) (fun k hk=>by cases hk)
              have HB9:=HB8.grown gr9 (by have:=gr8.size;simp only [World.size_drew] at this;omega) (fun k hk=>by have:=(hAb k hk).1;omega)
              have HB2:=below_set HB9 (B + 1) 0 (.slice A9 (n1 + 1) c9) (by omega)
              have hz2:B + 1 + 1 + 1≤(w9.setCell ⟨B + 1,0,none⟩ (.slice A9 (n1 + 1) c9)).heap.size:=by simp only [World.size_setCell];have:=gr8.size;have:=gr9.size;simp only [World.size_drew] at *;omega
              generalize w9.setCell ⟨B + 1,0,none⟩ (.slice A9 (n1 + 1) c9) = w10 at *
              go_wp2_with fail
              go_roundw
              case rel=>exact ⟨k + 1,by omega,by go_num,by rw [HN.out];exact ⟨bS2,bF2,A9,n1 + 1,c9,bO2,oW2⟩,HB2,hz2⟩
              case measure=>simp [intOf];omega
            case ku3x8 =>
              refine take_build (e:=57) (len:=1) (size:=2) (B + 1 + 1 + 1) ([.string ((⟨s.toArray⟩:ByteArray).extract k (k + 1)),.int .i64 (k:Int)]) 8 (Op.buildSlice 48 1 #[(0,Operand.tmp 38)]) 48 rfl rfl rfl (by kernel_rfl) ?eu3xb5x8 (by rfl) (by decide) (by first | exact Nat.le_refl _ | (simp only [World.size_alloc,World.size_setCell,World.size_drew] at *;omega) | omega) ?_
              case eu3xb5x8=>(go_simp;try (first | with_reducible rfl | (simp [rcells,rcell];done) | (simp [fcells];done) | (simp [tcells];done) | rfl))
              intro gx8 w8 o8 gr8 l8 m8
              have z8:=gr8.size
              try simp only [World.size_drew] at z8
              replace oW1:=Own.grow0 oW1 gr8
              replace bS1:=Blk.grow0 bS1 gr8
              replace bF1:=Blk.grow0 bF1 gr8
              replace bO1:=Blk.grow0 bO1 gr8
              refine hK8.out _ _ ?su3xb5x8 (fun hHeld=>?ru3xb5x8)
              case su3xb5x8=>((try dsimp only);exact bS1.cell_ 0 rfl)
              try simp only [zSa,zSb,zSc]
              refine wpAnyH_ready (rs:=[0]) (by kernel_rfl) (by simp) (AllReadyH.cons rfl (fun K0 hK0=>?ku3xb5x0) AllReadyH.nil)
              refine take_any 0 (Op.load 48 (Operand.tmp 3)) 48 rfl rfl rfl (by kernel_rfl) (v:=.slice A1 n1 c1) (by have cL:=bO1.cell_ 0 rfl;go_simp;try (with_reducible rfl)) ?_
              refine hK0.out _ _ ?su3xb5x0 (fun hHeld=>?ru3xb5x0)
              case su3xb5x0=>((try dsimp only);exact bS1.cell_ 0 rfl)
              try simp only [zSa,zSb,zSc]
              refine wpAnyH_ready (rs:=[9]) (by kernel_rfl) (by simp) (AllReadyH.cons rfl (fun K9 hK9=>?ku3xb5x9) AllReadyH.nil)
              refine take_app El_word 9 (Operand.tmp 31) (Operand.tmp 39) 48 rfl rfl rfl (by kernel_rfl) oW1 rfl ((HBV.out ▸ o8.rd)) rfl (wcells_one _) (by unfold maxLen;omega) (by omega) (by first | exact Nat.le_refl _ | (simp only [World.size_alloc,World.size_setCell,World.size_drew] at *;omega) | omega) ?_
              intro A9 c9 w9 o9 gr9 at9
              have z9:=gr9.size
              try simp only [World.size_drew] at z9
              replace bS1:=Blk.grown bS1 gr9 (by intro e;have:=oW1.blk _ e.symm;omega)
              replace bF1:=Blk.grown bF1 gr9 (by intro e;have:=oW1.blk _ e.symm;omega)
              replace bO1:=Blk.grown bO1 gr9 (by intro e;have:=oW1.blk _ e.symm;omega)
              refine hK9.out _ _ ?su3xb5x9 (fun hHeld=>?ru3xb5x9)
              case su3xb5x9=>((try dsimp only);exact bS1.cell_ 0 rfl)
              try simp only [zSa,zSb,zSc]
              refine wpAnyH_ready (rs:=[10]) (by kernel_rfl) (by simp) (AllReadyH.cons rfl (fun K10 hK10=>?ku3xb5x10) AllReadyH.nil)
              refine take_store 10 (Op.store 48 (Operand.tmp 3) (Operand.tmp 40)) 0 rfl rfl rfl (by kernel_rfl) (w':=w9.setCell ⟨B + 1,0,none⟩ (.slice A9 (n1 + 1) c9)) (by obtain ⟨cL,fL,_⟩:=blk1 bO1;go_simp;try (with_reducible rfl)) ?_
              refine hK10.out _ _ ((bS1.far (p:=⟨B + 1,0,none⟩) (by dsimp only;omega) _).cell_ 0 rfl) (fun hHeld=>?_)
              refine wpAnyH_done (by kernel_rfl) ?_ _
              rw [← wcells_app] at o9
              have hA9:=o9.blk
              have bO2:Blk (w9.setCell ⟨B + 1,0,none⟩ (.slice A9 (n1 + 1) c9)) (B + 1) 48 #[.slice A9 (n1 + 1) c9]:=bO1.set 0 _
              have oW2:=o9.far (p:=⟨B + 1,0,none⟩) (fun e=>by have:=(hA9 _ e).1;dsimp only at this;omega) (.slice A9 (n1 + 1) c9)
              have bS2:=bS1.far (p:=⟨B + 1,0,none⟩) (by dsimp only;omega) (.slice A9 (n1 + 1) c9)
              have bF2:=bF1.far (p:=⟨B + 1,0,none⟩) (by dsimp only;omega) (.slice A9 (n1 + 1) c9)
              have HB8:=(hbw.trans hb1).drew.grown gr8 (by show B≤w1.heap.size;omega) (fun k hk=>by cases hk)
              have HB9:=HB8.grown gr9 (by have:=gr8.size;simp only [World.size_drew] at this;omega) (fun k hk=>by have:=(hAb k hk).1;omega)
              have HB2:=below_set HB9 (B + 1) 0 (.slice A9 (n1 + 1) c9) (by omega)
              have hz2:B + 1 + 1 + 1≤(w9.setCell ⟨B + 1,0,none⟩ (.slice A9 (n1 + 1) c9)).heap.size:=by simp only [World.size_setCell];have:=gr8.size;have:=gr9.size;simp only [World.size_drew] at *;omega
              generalize w9.setCell ⟨B + 1,0,none⟩ (.slice A9 (n1 + 1) c9) = w10 at *
              go_wp2_with fail
              go_roundw
              case rel=>exact ⟨k + 1,by omega,by go_num,by rw [HN.out];exact ⟨bS2,bF2,A9,n1 + 1,c9,bO2,oW2⟩,HB2,hz2⟩
              case measure=>simp [intOf];omega
        · have e40:((x.toNat:Int) == 40) = false:=by rw [beq_eq_false_iff_ne];intro h;exact hbr (.inl (UInt8.toNat_inj.1 (by show x.toNat = 40;omega)))
          have e41:((x.toNat:Int) == 41) = false:=by rw [beq_eq_false_iff_ne];intro h;exact hbr (.inr (UInt8.toNat_inj.1 (by show x.toNat = 41;omega)))
          have HN:=Lib.hid (HN3.out h32 hbr)
          clear HN1 HN2 HN3 h32 hbr E
          rcases hfr with rfl | ⟨p,rfl,hp⟩
          · go_wp2_with fail
            have bF2:=bF.set 0 (.int .i64 (k:Int))
            go_roundw
            case rel=>exact ⟨k + 1,by omega,by go_num,by rw [HN.out];exact ⟨bS.far (by show B ≠ B + 1 + 1;omega) _,bF2,A,n,c,bO.far (by show B + 1 ≠ B + 1 + 1;omega) _,oW.far (fun e=>by have:=(oW.blk _ e).1;dsimp only at this;omega) _⟩,below_set hbw _ 0 _ (by omega),by simpa using hzr⟩
            case measure=>simp [intOf];omega
          · have hpn:¬ (p:Int) < 0:=by omega
            go_wp2_with fail
            go_roundw
            case rel=>exact ⟨k + 1,by omega,by go_num,by rw [HN.out];simp only [if_neg hpn];exact ⟨bS,bF,A,n,c,bO,oW⟩,hbw,hzr⟩
            case measure=>simp [intOf];omega
    · have HF:Hid (wordsP s = shut s (wst s k).1 (wst s k).2 k∧k = s.length):=Lib.hid (by
        have e:k = s.length:=by omega
        rw [e]
        exact ⟨rfl,rfl⟩)
      generalize wst s k = st at *
      obtain ⟨o,fr⟩:=st
      dsimp only at *
      have E:=end_any B (B + 1 + 1 + 1) B (B + 1) (B + 1 + 1) s o fr k wr (by omega) (by omega) (by omega) (by omega) hzr hW hfr (by omega) hs (by omega)
      have HKE:=HF.out.2
      rw [HKE] at E
      have hlt':¬ (k:Int) < (s.length:Int):=by omega
      obtain ⟨bS,bF,A,n,c,bO,oW⟩:=hW
      obtain ⟨cS,fS,zS⟩:=blk1 bS
      clear HKE
      go_wp2_with fail
      refine E.mono ?_
      clear E
      rintro e w1 ⟨rfl,W1,hb1⟩
      obtain ⟨bS1,bF1,A1,n1,c1,bO1,oW1⟩:=W1
      obtain ⟨cO1,fO1,zO1⟩:=blk1 bO1
      go_wp2_with fail
      go_ret
      refine ⟨A1,n1,c1,rfl,oW1.cap,oW1.capm,?_,?_⟩
      · rw [HF.out.1,HF.out.2];exact oW1.rd
      · rw [HBS.out];exact hbw.trans hb1
end SieW
end Go.Proofs.YtnpncpoiiikafaaGreatDoor
