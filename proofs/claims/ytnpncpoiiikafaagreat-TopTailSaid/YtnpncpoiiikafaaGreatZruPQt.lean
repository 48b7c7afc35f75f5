/- ZruP -/
import Derived.Test.YtnpncpoiiikafaaGreatMemQt
import Derived.IntWalk
set_option linter.unusedVariables false
set_option linter.unusedSimpArgs false
set_option linter.unnecessarySimpa false
set_option maxRecDepth 100000
set_option maxHeartbeats 32000000
namespace Go.Proofs.YtnpncpoiiikafaaGreat
namespace ZruW
def syZ (m:Nat):List Nat:=if h:m≤1 then [] else (m % 2) :: syZ (m / 2)
termination_by m
decreasing_by omega
def valZ:List Nat → Nat
 | []=>0
 | d :: l=>2 * valZ l + d + 1
theorem syZ_one (m:Nat) (h:m≤1):syZ m = []:=by rw [syZ,dif_pos h]
theorem syZ_two (m:Nat) (h:¬ m≤1):syZ m = (m % 2) :: syZ (m / 2):=by rw [syZ,dif_neg h]
theorem val_sy (m:Nat) (h:1≤m):valZ (syZ m) = m - 1:=by
 suffices ∀ k m,m≤k → 1≤m → valZ (syZ m) = m - 1 from this m m (Nat.le_refl _) h
 intro k
 induction k with
 | zero=>intro m h1 h2;omega
 | succ k ih =>
  intro m h1 h2
  by_cases c:m≤1
  ·rw [syZ_one m c,valZ];omega
  ·rw [syZ_two m c,valZ,ih (m / 2) (by omega) (by omega)];omega
theorem sy_bit (m:Nat):∀ x ∈ syZ m,x≤1:=by
 suffices ∀ k m,m≤k → ∀ x ∈ syZ m,x≤1 from this m m (Nat.le_refl _)
 intro k
 induction k with
 | zero=>intro m h x hx;rw [syZ_one m (by omega)] at hx;cases hx
 | succ k ih =>
  intro m h x hx
  by_cases c:m≤1
  ·rw [syZ_one m c] at hx;cases hx
  ·rw [syZ_two m c] at hx
   rcases List.mem_cons.1 hx with e | e
   ·omega
   ·exact ih (m / 2) (by omega) x e
theorem sy_len (m:Nat) (h:1≤m):(syZ m).length≤m - 1:=by
 suffices ∀ k m,m≤k → 1≤m → (syZ m).length≤m - 1 from this m m (Nat.le_refl _) h
 intro k
 induction k with
 | zero=>intro m h1 h2;omega
 | succ k ih =>
  intro m h1 h2
  by_cases c:m≤1
  ·rw [syZ_one m c];simp
  ·rw [syZ_two m c,List.length_cons]
   have:=ih (m / 2) (by omega) (by omega)
   omega
def packZ:List Nat → Nat → List Nat
 | [],k=>syZ (k + 1)
 | 0 :: r,k=>packZ r (k + 1)
 | (n + 1) :: r,k=>syZ (k + 1) ++ (n + 2) :: packZ r 0
def unzA:List Nat → List Nat → List Nat
 | [],ds=>List.replicate (valZ ds) 0
 | x :: l,ds=>if x≤1 then unzA l (ds ++ [x]) else List.replicate (valZ ds) 0 ++ (x - 1) :: unzA l []
theorem unzA_bits (b l:List Nat) (h:∀ x ∈ b,x≤1):∀ ds,unzA (b ++ l) ds = unzA l (ds ++ b):=by
 induction b with
 | nil=>intro ds;simp
 | cons x b ih =>
  intro ds
  rw [List.cons_append,unzA,if_pos (h x (by simp)),ih (fun y hy=>h y (by simp [hy])),List.append_assoc]
  rfl
theorem unz_pack:∀ (r:List Nat) (k:Nat),unzA (packZ r k) [] = List.replicate k 0 ++ r
 | [],k=>by
  have:=unzA_bits (syZ (k + 1)) [] (sy_bit _) []
  rw [List.append_nil] at this
  rw [packZ,this,unzA,List.nil_append,val_sy _ (by omega)]
  simp
 | 0 :: r,k=>by
  rw [packZ,unz_pack r (k + 1),List.replicate_succ']
  simp
 | (n + 1) :: r,k=>by
  rw [packZ,unzA_bits _ _ (sy_bit _),List.nil_append,unzA,if_neg (by omega),val_sy _ (by omega),unz_pack r 0]
  simp
theorem pack_len:∀ (r:List Nat) (k:Nat),(packZ r k).length≤k + r.length
 | [],k=>by rw [packZ];have:=sy_len (k + 1) (by omega);simp;omega
 | 0 :: r,k=>by rw [packZ];have:=pack_len r (k + 1);simp;omega
 | (n + 1) :: r,k=>by
  rw [packZ]
  have:=pack_len r 0
  have:=sy_len (k + 1) (by omega)
  simp only [List.length_append,List.length_cons]
  omega
theorem pack_sym:∀ (r:List Nat) (k:Nat),(∀ x ∈ r,x≤255) → ∀ x ∈ packZ r k,x≤256
 | [],k,h,x,hx=>by rw [packZ] at hx;have:=sy_bit _ x hx;omega
 | 0 :: r,k,h,x,hx=>by rw [packZ] at hx;exact pack_sym r (k + 1) (fun y hy=>h y (by simp [hy])) x hx
 | (n + 1) :: r,k,h,x,hx=>by
  rw [packZ] at hx
  rcases List.mem_append.1 hx with e | e
  ·have:=sy_bit _ x e;omega
  ·rcases List.mem_cons.1 e with e | e
   ·have:=h (n + 1) (by simp);omega
   ·exact pack_sym r 0 (fun y hy=>h y (by simp [hy])) x e
end ZruW
end Go.Proofs.YtnpncpoiiikafaaGreat
namespace Go.Proofs.YtnpncpoiiikafaaGreat
open Go.RowKit
def vput:Nat → Nat → List UInt8
 | 0,_=>[]
 | f + 1,n=>if n < 128 then [UInt8.ofNat n] else UInt8.ofNat (128 + n % 128) :: vput f (n / 128)
def vbytes (n:Nat):List UInt8:=vput 9 n
def vl:Nat → Nat → Nat
 | 0,_=>0
 | f + 1,n=>if n < 128 then 1 else 1 + vl f (n / 128)
def vlen (n:Nat):Nat:=vl 9 n
theorem vput_len (f n:Nat):(vput f n).length = vl f n:=by
 induction f generalizing n with
 | zero=>rfl
 | succ f ih=>unfold vput vl;split <;> simp [ih];omega
theorem vbytes_len (n:Nat):(vbytes n).length = vlen n:=vput_len 9 n
theorem vl_le (f n:Nat):vl f n≤f:=by
 induction f generalizing n with
 | zero=>exact Nat.le_refl _
 | succ f ih=>unfold vl;have:=ih (n / 128);split <;> omega
theorem vl_pos (f n:Nat):1≤vl (f + 1) n:=by unfold vl;split <;> omega
theorem vlen_le (n:Nat):vlen n≤9:=vl_le 9 n
theorem vlen_pos (n:Nat):1≤vlen n:=vl_pos 8 n
theorem ba_cat (a b:Array UInt8):((⟨a⟩:ByteArray) ++ ⟨b⟩) = ⟨a ++ b⟩:=by
 apply ByteArray.ext
 simp
theorem str_cat (l m:List UInt8):((⟨l.toArray⟩:ByteArray) ++ ⟨m.toArray⟩) = ⟨(l ++ m).toArray⟩:=by rw [ba_cat];simp
abbrev Rc:=Int × Int × List UInt8
abbrev recv (r:Rc):Value:=.agg #[.int .i64 r.1,.int .i64 r.2.1,str r.2.2]
def rcell (r:Rc):List Value:=[.int .i64 r.1,.int .i64 r.2.1,str r.2.2]
def rcells (l:List Rc):List Value:=l.flatMap rcell
theorem rcells_len (l:List Rc):(rcells l).length = l.length * 3:=by
 induction l with
 | nil=>rfl
 | cons x l ih=>simp only [rcells,rcell,List.flatMap_cons,List.length_append,List.length_cons,List.length_nil] at *;omega
theorem rcells_cons (p:Rc) (l:List Rc):rcells (p :: l) = .int .i64 p.1 :: .int .i64 p.2.1 :: str p.2.2 :: rcells l:=rfl
theorem rcells_append (l m:List Rc):rcells (l ++ m) = rcells l ++ rcells m:=by simp [rcells]
theorem rcells_one (l:List Rc):∀ u ∈ rcells l,u.oneCell' = true:=by
 intro u hu
 obtain ⟨r,_,h⟩:=List.mem_flatMap.1 hu
 simp only [rcell,List.mem_cons,List.not_mem_nil,or_false] at h
 rcases h with rfl | rfl | rfl <;> rfl
theorem rcells_get (l:List Rc) (k:Nat) (h:k < l.length) :
 (rcells l)[k * 3]? = some (.int .i64 l[k].1)∧(rcells l)[k * 3 + 1]? = some (.int .i64 l[k].2.1)∧(rcells l)[k * 3 + 2]? = some (str l[k].2.2):=by
 induction l generalizing k with
 | nil=>simp at h
 | cons p l ih =>
  rw [rcells_cons]
  cases k with
  | zero=>simp
  | succ k =>
   have:=ih k (by simpa using h)
   simpa [Nat.add_mul] using this
theorem rd_recs {w:World} {B:Nat} {A:Option Addr} {n:Nat} {l:List Rc} (h:Rd w B 3 A n (rcells l)) (hn:0 < n) :
 ∃ b o,A = some ⟨b,o,none⟩∧b < B∧∀ k (hk:k < l.length),w.cell? ⟨b,o + k * 3,none⟩ = some (.int .i64 l[k].1)∧w.cell? ⟨b,o + k * 3 + 1,none⟩ = some (.int .i64 l[k].2.1)∧w.cell? ⟨b,o + k * 3 + 2,none⟩ = some (str l[k].2.2):=by
 obtain ⟨b,o,rfl,hb,hc⟩:=h.at_ hn
 refine ⟨b,o,rfl,hb,fun k hk=>?_⟩
 have hlen:=rcells_len l
 obtain ⟨e0,e1,e2⟩:=rcells_get l k hk
 refine ⟨?_,?_,?_⟩
 ·rw [hc (k * 3) (by omega)];rw [List.getElem?_eq_getElem (by omega)] at e0;exact e0
 ·rw [Nat.add_assoc,hc (k * 3 + 1) (by omega)];rw [List.getElem?_eq_getElem (by omega)] at e1;exact e1
 ·rw [Nat.add_assoc,hc (k * 3 + 2) (by omega)];rw [List.getElem?_eq_getElem (by omega)] at e2;exact e2
theorem rd_rlen {w:World} {B:Nat} {A:Option Addr} {n:Nat} {l:List Rc} (h:Rd w B 3 A n (rcells l)):l.length = n:=by have:=h.len;rw [rcells_len] at this;omega
def okR (r:Rc):Bool:=decide (1≤r.1) && decide (r.1≤1000000000) && decide (0≤r.2.1) && decide (r.2.1≤1000000000) && decide (r.2.2.length≤2000)
def chkR (r:Rc):Int:=if okR r then 0 else 150
theorem okR_iff (r:Rc):okR r = true ↔ 1≤r.1∧r.1≤1000000000∧0≤r.2.1∧r.2.1≤1000000000∧r.2.2.length≤2000:=by simp [okR,and_assoc]
theorem chkR_yes {r:Rc} (h:okR r = true):chkR r = 0:=by simp [chkR,h]
theorem chkR_no {r:Rc} (h:okR r = false):chkR r = 150:=by simp [chkR,h]
def putR (r:Rc):List UInt8:=vbytes r.1.toNat ++ (vbytes r.2.1.toNat ++ (vbytes r.2.2.length ++ r.2.2))
def nextB (p r:Rc):Bool:=decide (r.1 = p.1 + 1) && decide (p.2.1≤r.2.1)
def rowFrom:Option Rc → List Rc → Int
 | _,[]=>0
 | p,r :: l=>if okR r then (match p with | none=>rowFrom (some r) l | some q=>if nextB q r then rowFrom (some r) l else 151) else 150
def rowN (l:List Rc):Int:=rowFrom none l
end Go.Proofs.YtnpncpoiiikafaaGreat
namespace Go.Proofs.YtnpncpoiiikafaaGreat
open Go.RowKit
theorem u8_in (n:Int) (h0:0≤n) (h1:n < 256):IntKind.u8.wrap n = n:=by
 simp [IntKind.wrap,IntKind.bits,IntKind.signed];omega
theorem u64_in (n:Int) (h0:0≤n) (h1:n < 18446744073709551616):IntKind.u64.wrap n = n:=by
 simp [IntKind.wrap,IntKind.bits,IntKind.signed];omega
theorem ofInt_nat (k n:Nat):BitVec.ofInt k (n:Int) = BitVec.ofNat k n:=by simp
theorem bits_nat_or (kd:IntKind) (x y:Nat) (hx:x < 2 ^ kd.bits) (hy:y < 2 ^ kd.bits):bits .or kd (x:Int) (y:Int) = kd.wrap ((x ||| y:Nat):Int):=by
 unfold bits
 simp only [ofInt_nat,BitVec.toNat_or,BitVec.toNat_ofNat]
 rw [Nat.mod_eq_of_lt hx,Nat.mod_eq_of_lt hy]
theorem bits_nat_and (kd:IntKind) (x y:Nat) (hx:x < 2 ^ kd.bits) (hy:y < 2 ^ kd.bits):bits .and kd (x:Int) (y:Int) = kd.wrap ((x &&& y:Nat):Int):=by
 unfold bits
 simp only [ofInt_nat,BitVec.toNat_and,BitVec.toNat_ofNat]
 rw [Nat.mod_eq_of_lt hx,Nat.mod_eq_of_lt hy]
theorem bits_u8_127 (x:Nat) (h:x < 256):bits .and .u8 (x:Int) 127 = ((x % 128:Nat):Int):=by
 have:=bits_nat_and .u8 x 127 (by simpa [IntKind.bits] using h) (by simp [IntKind.bits])
 rw [show ((127:Nat):Int) = 127 from rfl] at this
 rw [this,show (127:Nat) = 2 ^ 7 - 1 from rfl,Nat.and_two_pow_sub_one_eq_mod]
 exact u8_in _ (by omega) (by omega)
theorem bits_u8_128 (x:Nat) (h:x < 256):bits .or .u8 (x:Int) 128 = ((128 + x % 128:Nat):Int):=by
 have:=bits_nat_or .u8 x 128 (by simpa [IntKind.bits] using h) (by simp [IntKind.bits])
 rw [show ((128:Nat):Int) = 128 from rfl] at this
 rw [this]
 have e:x ||| 128 = 128 + x % 128:=by
  have h1:∀ x:Fin 256,x.val ||| 128 = 128 + x.val % 128:=by decide +kernel
  exact h1 ⟨x,h⟩
 rw [e]
 exact u8_in _ (by omega) (by omega)
theorem or_shift (k v b:Nat) (hv:v < 2 ^ k):v ||| (b * 2 ^ k) = v + b * 2 ^ k:=by
 have:=Nat.two_pow_add_eq_or_of_lt hv b
 rw [Nat.mul_comm b,Nat.or_comm,← this,Nat.add_comm]
theorem bits_i64_or (k v b:Nat) (hv:v < 2 ^ k) (h:v + b * 2 ^ k < 9223372036854775808):bits .or .i64 (v:Int) ((b * 2 ^ k:Nat):Int) = ((v + b * 2 ^ k:Nat):Int):=by
 rw [bits_nat_or .i64 v (b * 2 ^ k) (by simp [IntKind.bits];omega) (by simp [IntKind.bits];omega),or_shift k v b hv]
 exact IntWalk.i64_in _ (by omega)
theorem bits_u64_or (k v b:Nat) (hv:v < 2 ^ k) (h:v + b * 2 ^ k < 18446744073709551616):bits .or .u64 ((b * 2 ^ k:Nat):Int) (v:Int) = ((v + b * 2 ^ k:Nat):Int):=by
 rw [bits_nat_or .u64 (b * 2 ^ k) v (by simp [IntKind.bits];omega) (by simp [IntKind.bits];omega),Nat.or_comm,or_shift k v b hv]
 exact u64_in _ (by omega) (by omega)
end Go.Proofs.YtnpncpoiiikafaaGreat
namespace Go.Proofs.YtnpncpoiiikafaaGreat
def dg:Nat → Nat → List Nat
 | 0,_=>[]
 | w + 1,n=>dg w (n / 2) ++ [n % 2]
def num (l:List Nat):Nat:=l.foldl (fun a d=>2 * a + d) 0
theorem dg_len (w:Nat):∀ n,(dg w n).length = w:=by
 induction w with
 | zero=>intro n;rfl
 | succ w ih=>intro n;simp [dg,ih]
theorem dg_lt (w:Nat):∀ n,∀ d ∈ dg w n,d < 2:=by
 induction w with
 | zero=>intro n d h;cases h
 | succ w ih =>
  intro n d h
  rw [dg,List.mem_append] at h
  rcases h with h | h
  ·exact ih _ d h
  ·simp only [List.mem_singleton] at h;omega
theorem num_snoc (l:List Nat) (d:Nat):num (l ++ [d]) = 2 * num l + d:=by simp [num]
theorem num_app (a:List Nat):∀ (b:List Nat),num (a ++ b) = num a * 2 ^ b.length + num b:=by
 intro b
 generalize hk:b.length = k
 induction k generalizing b with
 | zero =>
  have:b = []:=List.eq_nil_of_length_eq_zero hk
  subst this
  simp [num]
 | succ k ih =>
  obtain ⟨c,d,rfl⟩:∃ c d,b = c ++ [d]:=⟨b.dropLast,b.getLast (by intro e;rw [e] at hk;cases hk),(List.dropLast_concat_getLast _).symm⟩
  have hc:c.length = k:=by simp at hk;omega
  rw [← List.append_assoc,num_snoc,num_snoc,ih c hc,Nat.pow_succ]
  rw [Nat.mul_add,Nat.add_assoc,← Nat.mul_assoc,Nat.mul_comm 2 (num a),Nat.mul_assoc,Nat.mul_comm 2 (2 ^ k)]
theorem num_dg (w:Nat):∀ n,num (dg w n) = n % 2 ^ w:=by
 induction w with
 | zero=>intro n;simp [dg,num];omega
 | succ w ih =>
  intro n
  rw [dg,num_snoc,ih,Nat.pow_succ,Nat.mul_comm (2 ^ w) 2,Nat.mod_mul]
  omega
theorem dg_app (a b:Nat):∀ n,dg (a + b) n = dg a (n / 2 ^ b) ++ dg b n:=by
 induction b with
 | zero=>intro n;simp [dg]
 | succ b ih =>
  intro n
  rw [← Nat.add_assoc,dg,ih,dg,List.append_assoc,Nat.div_div_eq_div_mul,Nat.pow_succ,Nat.mul_comm 2 (2 ^ b)]
theorem dg_mod (w:Nat):∀ n k,w≤k → dg w (n % 2 ^ k) = dg w n:=by
 induction w with
 | zero=>intro n k _;rfl
 | succ w ih =>
  intro n k hk
  obtain ⟨k,rfl⟩:∃ j,k = j + 1:=⟨k - 1,by omega⟩
  have e1:n % 2 ^ (k + 1) / 2 = n / 2 % 2 ^ k:=by
   rw [Nat.pow_succ,Nat.mul_comm (2 ^ k) 2,Nat.mod_mul]
   have:n % 2 < 2:=Nat.mod_lt _ (by omega)
   omega
  have e2:n % 2 ^ (k + 1) % 2 = n % 2:=by
   rw [Nat.pow_succ,Nat.mul_comm (2 ^ k) 2,Nat.mod_mul]
   omega
  rw [dg,dg,e1,e2,ih _ k (by omega)]
theorem dg_num (l:List Nat) (h:∀ d ∈ l,d < 2):dg l.length (num l) = l:=by
 generalize hk:l.length = k
 induction k generalizing l with
 | zero=>rw [List.eq_nil_of_length_eq_zero hk];rfl
 | succ k ih =>
  obtain ⟨c,d,rfl⟩:∃ c d,l = c ++ [d]:=⟨l.dropLast,l.getLast (by intro e;rw [e] at hk;cases hk),(List.dropLast_concat_getLast _).symm⟩
  have hc:c.length = k:=by simp at hk;omega
  have hd:d < 2:=h d (by simp)
  rw [num_snoc,dg,show (2 * num c + d) / 2 = num c from by omega,show (2 * num c + d) % 2 = d from by omega,ih c (fun x hx=>h x (by simp [hx])) hc]
theorem num_lt (l:List Nat) (h:∀ d ∈ l,d < 2):num l < 2 ^ l.length:=by
 have:=num_dg l.length (num l)
 rw [dg_num l h] at this
 rw [this]
 exact Nat.mod_lt _ (Nat.pow_pos (by omega))
theorem num_rep (n:Nat):num (List.replicate n 0) = 0:=by
 induction n with
 | zero=>rfl
 | succ n ih=>rw [List.replicate_succ',num_snoc,ih]
theorem dg_cat (a b r x:Nat) (hx:x < 2 ^ b):dg a r ++ dg b x = dg (a + b) (r * 2 ^ b + x):=by
 rw [dg_app]
 have e1:(r * 2 ^ b + x) / 2 ^ b = r:=by
  rw [Nat.add_comm,Nat.add_mul_div_right _ _ (Nat.pow_pos (by omega)),Nat.div_eq_of_lt hx,Nat.zero_add]
 have e2:dg b (r * 2 ^ b + x) = dg b x:=by
  rw [← dg_mod b (r * 2 ^ b + x) b (Nat.le_refl _),Nat.add_comm,Nat.add_mul_mod_self_right,dg_mod b x b (Nat.le_refl _)]
 rw [e1,e2]
def bitsB (s:List UInt8):List Nat:=s.flatMap fun c=>dg 8 c.toNat
theorem bitsB_app (a b:List UInt8):bitsB (a ++ b) = bitsB a ++ bitsB b:=by simp [bitsB]
theorem bitsB_cons (c:UInt8) (s:List UInt8):bitsB (c :: s) = dg 8 c.toNat ++ bitsB s:=rfl
theorem bitsB_len (s:List UInt8):(bitsB s).length = 8 * s.length:=by
 induction s with
 | nil=>rfl
 | cons c s ih=>rw [bitsB_cons,List.length_append,dg_len,ih,List.length_cons];omega
theorem bitsB_lt (s:List UInt8):∀ d ∈ bitsB s,d < 2:=by
 intro d h
 obtain ⟨c,_,hd⟩:=List.mem_flatMap.1 h
 exact dg_lt _ _ d hd
def oct (l:List Nat):UInt8:=UInt8.ofNat (num (l.take 8 ++ List.replicate (8 - l.length) 0))
def textF:Nat → List Nat → List UInt8
 | 0,_=>[]
 | f + 1,l=>if l = [] then [] else oct l :: textF f (l.drop 8)
def textB (l:List Nat):List UInt8:=textF l.length l
theorem textF_nil (f:Nat):textF f [] = []:=by cases f <;> simp [textF]
theorem textF_more (f:Nat):∀ (l:List Nat),l.length≤f → textF f l = textF l.length l:=by
 intro l
 generalize hn:l.length = n
 induction n using Nat.strongRecOn generalizing f l with
 | ind n ih =>
  intro h
  cases l with
  | nil=>subst hn;rw [textF_nil];rfl
  | cons x r =>
   obtain ⟨f,rfl⟩:∃ g,f = g + 1:=⟨f - 1,by simp at hn;omega⟩
   obtain ⟨m,rfl⟩:∃ g,n = g + 1:=⟨n - 1,by simp at hn;omega⟩
   rw [textF,textF,if_neg (by simp),if_neg (by simp)]
   have hd:((x :: r).drop 8).length = (m + 1) - 8:=by rw [List.length_drop,hn]
   congr 1
   rw [ih _ (by omega) f _ hd (by omega),ih _ (by omega) m _ hd (by omega)]
theorem textB_cons {l:List Nat} (h:l ≠ []):textB l = oct l :: textB (l.drop 8):=by
 unfold textB
 obtain ⟨n,hn⟩:∃ n,l.length = n + 1:=⟨l.length - 1,by have:=List.length_pos_iff.2 h;omega⟩
 rw [hn,textF,if_neg h,textF_more n _ (by rw [List.length_drop];omega)]
theorem oct_dg (c:UInt8) (r:List Nat):oct (dg 8 c.toNat ++ r) = c:=by
 unfold oct
 rw [List.take_append_of_le_length (by rw [dg_len];exact Nat.le_refl _),List.take_of_length_le (by rw [dg_len];exact Nat.le_refl _),List.length_append,dg_len,
  show 8 - (8 + r.length) = 0 from by omega,List.replicate_zero,List.append_nil,num_dg,Nat.mod_eq_of_lt (by have:=c.toNat_lt;simpa using this)]
 simp
theorem textB_bits (s:List UInt8) (r:List Nat):textB (bitsB s ++ r) = s ++ textB r:=by
 induction s with
 | nil=>rfl
 | cons c s ih =>
  rw [bitsB_cons,List.append_assoc,textB_cons (by have:=dg_len 8 c.toNat;intro e;rw [List.append_eq_nil_iff] at e;rw [e.1] at this;simp at this),oct_dg,List.drop_append_of_le_length (by rw [dg_len];exact Nat.le_refl _),
   List.drop_of_length_le (by rw [dg_len];exact Nat.le_refl _),List.nil_append,ih]
  rfl
theorem textB_nil:textB [] = []:=rfl
theorem textB_few (n r:Nat) (h0:0 < n) (h8:n < 8):textB (dg n r) = [UInt8.ofNat ((r * 2 ^ (8 - n)) % 256)]:=by
 have hl:=dg_len n r
 rw [textB_cons (by intro e;rw [e] at hl;simp at hl;omega),List.drop_of_length_le (by omega),textB_nil]
 congr 1
 unfold oct
 rw [List.take_of_length_le (by omega),hl,num_app,num_rep,List.length_replicate,num_dg]
 have e:r % 2 ^ n * 2 ^ (8 - n) + 0 = (r * 2 ^ (8 - n)) % 256:=by
  rw [Nat.add_zero,show (256:Nat) = 2 ^ n * 2 ^ (8 - n) from by rw [← Nat.pow_add,show n + (8 - n) = 8 from by omega],Nat.mul_mod_mul_right]
 rw [e]
theorem textB_len (l:List Nat):(textB l).length = (l.length + 7) / 8:=by
 generalize hn:l.length = n
 induction n using Nat.strongRecOn generalizing l with
 | ind n ih =>
  cases l with
  | nil=>subst hn;rfl
  | cons x r =>
   rw [textB_cons (by simp),List.length_cons,ih ((x :: r).drop 8).length (by rw [List.length_drop,hn];simp at hn;omega) _ rfl,List.length_drop,hn]
   simp at hn
   omega
theorem bits_oct (l:List Nat) (h:∀ d ∈ l,d < 2):dg 8 (oct l).toNat = l.take 8 ++ List.replicate (8 - l.length) 0:=by
 have hl:(l.take 8 ++ List.replicate (8 - l.length) 0).length = 8:=by simp;omega
 have h2:∀ d ∈ l.take 8 ++ List.replicate (8 - l.length) 0,d < 2:=by
  intro d hd
  rcases List.mem_append.1 hd with hd | hd
  ·exact h d (List.mem_of_mem_take hd)
  ·have:=(List.mem_replicate.1 hd).2;omega
 have h3:=num_lt _ h2
 rw [hl] at h3
 unfold oct
 rw [show (UInt8.ofNat (num (l.take 8 ++ List.replicate (8 - l.length) 0))).toNat = num (l.take 8 ++ List.replicate (8 - l.length) 0) from by simp;omega]
 have:=dg_num _ h2
 rw [hl] at this
 exact this
theorem bits_text (l:List Nat) (h:∀ d ∈ l,d < 2):∃ k,k < 8∧bitsB (textB l) = l ++ List.replicate k 0:=by
 generalize hn:l.length = n
 induction n using Nat.strongRecOn generalizing l with
 | ind n ih =>
  by_cases hl:l = []
  ·subst hl;exact ⟨0,by omega,rfl⟩
  ·rw [textB_cons hl,bitsB_cons,bits_oct l h]
   have hpos:=List.length_pos_iff.2 hl
   by_cases h8:l.length≤8
   ·rw [List.drop_of_length_le h8,textB_nil,List.take_of_length_le h8]
    exact ⟨8 - l.length,by omega,by simp [bitsB]⟩
   ·obtain ⟨k,hk,e⟩:=ih (l.drop 8).length (by rw [List.length_drop];omega) (l.drop 8) (fun d hd=>h d (List.mem_of_mem_drop hd)) rfl
    refine ⟨k,hk,?_⟩
    rw [e,show 8 - l.length = 0 from by omega,List.replicate_zero,List.append_nil,← List.append_assoc,List.take_append_drop]
theorem num_mid (c a k:Nat) (h:a + k≤8):num (((dg 8 c).drop a).take k) = c / 2 ^ (8 - a - k) % 2 ^ k:=by
 have e:dg 8 c = dg a (c / 2 ^ (8 - a)) ++ (dg k (c / 2 ^ (8 - a - k)) ++ dg (8 - a - k) c):=by
  rw [← dg_app,show k + (8 - a - k) = 8 - a from by omega,← dg_app,show a + (8 - a) = 8 from by omega]
 have l1:=dg_len a (c / 2 ^ (8 - a))
 have l2:=dg_len k (c / 2 ^ (8 - a - k))
 rw [e,List.drop_append_of_le_length (by omega),List.drop_of_length_le (by omega),List.nil_append,List.take_append_of_le_length (by omega),List.take_of_length_le (by omega),num_dg]
theorem bits_at (s:List UInt8) (q a:Nat) (h:q < s.length) (ha:a < 8) (k:Nat) (hk:a + k≤8):((bitsB s).drop (8 * q + a)).take k = ((dg 8 s[q].toNat).drop a).take k:=by
 have e:bitsB s = bitsB (s.take q) ++ (dg 8 s[q].toNat ++ bitsB (s.drop (q + 1))):=by
  rw [← bitsB_cons,← bitsB_app,List.getElem_cons_drop,List.take_append_drop]
 have l1:(bitsB (s.take q)).length = 8 * q:=by rw [bitsB_len,List.length_take];omega
 have l2:=dg_len 8 s[q].toNat
 rw [e,← List.drop_drop,List.drop_left' l1,List.drop_append_of_le_length (by omega),List.take_append_of_le_length (by rw [List.length_drop];omega)]
end Go.Proofs.YtnpncpoiiikafaaGreat
namespace Go.Proofs.YtnpncpoiiikafaaGreat
open Go.RowKit
def vdec:Nat → Bool → List UInt8 → Nat × Nat × Int
 | 0,_,_=>(0,0,5)
 | _ + 1,_,[]=>(0,0,4)
 | f + 1,fst,b :: r =>
  if 128≤b.toNat then (if (vdec f false r).2.2 = 0 then (b.toNat - 128 + 128 * (vdec f false r).1,(vdec f false r).2.1 + 1,0) else (0,0,(vdec f false r).2.2))
  else if b.toNat = 0∧fst = false then (0,0,5) else (b.toNat,1,0)
def resV (p j v:Nat) (x:Nat × Nat × Int):Int × Int × Int:=if x.2.2 = 0 then (((v + 128 ^ j * x.1:Nat):Int),((p + j + x.2.1:Nat):Int),0) else (0,0,x.2.2)
def getV (s:List UInt8) (at_:Int):Int × Int × Int:=if at_ < 0 ∨ (s.length:Int) < at_ then (0,0,2) else resV at_.toNat 0 0 (vdec 9 true (s.drop at_.toNat))
theorem getV_in {s:List UInt8} {p:Nat} (h:p≤s.length):getV s p = resV p 0 0 (vdec 9 true (s.drop p)):=by
 unfold getV
 rw [if_neg (by omega),Int.toNat_natCast]
theorem getV_out {s:List UInt8} {a:Int} (h:a < 0 ∨ (s.length:Int) < a):getV s a = (0,0,2):=by
 unfold getV
 rw [if_pos h]
theorem vdec_more (f:Nat) (fst:Bool) (s:List UInt8) (k:Nat) (h:k < s.length) (hb:128≤s[k].toNat) (p j v:Nat) :
 resV p j v (vdec (f + 1) fst (s.drop k)) = resV p (j + 1) (v + (s[k].toNat % 128) * 128 ^ j) (vdec f false (s.drop (k + 1))):=by
 rw [List.drop_eq_getElem_cons h,vdec,if_pos hb]
 have hlt:s[k].toNat < 256:=s[k].toNat_lt
 have hm:s[k].toNat % 128 = s[k].toNat - 128:=by omega
 unfold resV
 by_cases he:(vdec f false (s.drop (k + 1))).2.2 = 0
 ·rw [if_pos he,if_pos rfl,if_pos he,hm]
  dsimp only
  generalize (vdec f false (s.drop (k + 1))).1 = q
  generalize (vdec f false (s.drop (k + 1))).2.1 = y
  have e1:v + 128 ^ j * (s[k].toNat - 128 + 128 * q) = v + (s[k].toNat - 128) * 128 ^ j + 128 ^ (j + 1) * q:=by
   rw [Nat.pow_succ,Nat.mul_add,Nat.mul_comm (128 ^ j) (s[k].toNat - 128),← Nat.mul_assoc,Nat.add_assoc]
  have e2:p + j + (y + 1) = p + (j + 1) + y:=by omega
  rw [e1,e2]
 ·rw [if_neg he]
  dsimp only
  rw [if_neg he,if_neg he]
theorem vdec_last (f:Nat) (fst:Bool) (s:List UInt8) (k:Nat) (h:k < s.length) (hb:s[k].toNat < 128) (h0:s[k].toNat = 0 → fst = true) (p j v:Nat) :
 resV p j v (vdec (f + 1) fst (s.drop k)) = (((v + s[k].toNat * 128 ^ j:Nat):Int),((p + j + 1:Nat):Int),0):=by
 rw [List.drop_eq_getElem_cons h,vdec,if_neg (by omega),if_neg (by rintro ⟨h1,h2⟩;rw [h0 h1] at h2;cases h2)]
 unfold resV
 rw [if_pos rfl,Nat.mul_comm]
theorem vdec_zero (f:Nat) (s:List UInt8) (k:Nat) (h:k < s.length) (hb:s[k].toNat = 0) (p j v:Nat):resV p j v (vdec (f + 1) false (s.drop k)) = (0,0,5):=by
 rw [List.drop_eq_getElem_cons h,vdec,if_neg (by omega),if_pos ⟨hb,rfl⟩]
 rfl
theorem vdec_short (f:Nat) (fst:Bool) (s:List UInt8) (k:Nat) (h:s.length≤k) (p j v:Nat):resV p j v (vdec (f + 1) fst (s.drop k)) = (0,0,4):=by
 rw [List.drop_of_length_le h]
 rfl
theorem vdec_full (fst:Bool) (l:List UInt8) (p j v:Nat):resV p j v (vdec 0 fst l) = (0,0,5):=by
 cases l <;> rfl
theorem pow7 (j:Nat):2 ^ (7 * j) = 128 ^ j:=by rw [Nat.pow_mul]
theorem or7 (v j b:Nat) (hv:v < 128 ^ j) (hb:b < 256) (hj:j < 9) :
 bits .or .i64 (v:Int) (wrap64 (wrap64 (bits .and .u8 (b:Int) 127) * 2 ^ (7 * j))) = ((v + (b % 128) * 128 ^ j:Nat):Int)∧v + (b % 128) * 128 ^ j < 128 ^ (j + 1)∧128 ^ (j + 1)≤9223372036854775808:=by
 have h1:128 ^ (j + 1)≤128 ^ 9:=Nat.pow_le_pow_right (by omega) hj
 have h2:(128:Nat) ^ 9 = 9223372036854775808:=by decide
 have h3:v + (b % 128) * 128 ^ j < 128 ^ (j + 1):=by
  have:(b % 128) * 128 ^ j≤127 * 128 ^ j:=Nat.mul_le_mul_right _ (by omega)
  rw [Nat.pow_succ]
  omega
 refine ⟨?_,h3,by omega⟩
 rw [bits_u8_127 b hb]
 have h4:wrap64 ((b % 128:Nat):Int) = ((b % 128:Nat):Int):=by unfold wrap64;omega
 rw [h4]
 have h5:((b % 128:Nat):Int) * 2 ^ (7 * j) = (((b % 128) * 2 ^ (7 * j):Nat):Int):=by push_cast;rfl
 rw [h5]
 have h6:wrap64 (((b % 128) * 2 ^ (7 * j):Nat):Int) = (((b % 128) * 2 ^ (7 * j):Nat):Int):=by
  rw [pow7]
  unfold wrap64
  omega
 rw [h6,bits_i64_or (7 * j) v (b % 128) (by rw [pow7];exact hv) (by rw [pow7];omega),pow7]
def hor:List UInt8 → Nat
 | []=>0
 | b :: r=>b.toNat % 128 + 128 * hor r
def fbytes:Nat → Nat → List UInt8
 | 0,_=>[]
 | k + 1,n=>UInt8.ofNat (n % 256) :: fbytes k (n / 256)
def fval:List UInt8 → Nat
 | []=>0
 | b :: r=>b.toNat + 256 * fval r
theorem fval_lt (l:List UInt8):fval l < 256 ^ l.length:=by
 induction l with
 | nil=>simp [fval]
 | cons b l ih =>
  have:=b.toNat_lt
  simp only [fval,List.length_cons,Nat.pow_succ]
  omega
def fixV (n width:Int):List UInt8 × Int:=if width < 1 ∨ 8 < width ∨ n < 0 ∨ (256:Int) ^ width.toNat≤n then ([],2) else (fbytes width.toNat n.toNat,0)
def unfixV (s:List UInt8) (a width:Int):Int × Int × Int :=
 if width < 1 ∨ 8 < width ∨ a < 0 ∨ (s.length:Int) < a then (0,0,2) else if (s.length:Int) < a + width then (0,0,4)
 else if 9223372036854775808≤fval ((s.drop a.toNat).take width.toNat) then (0,0,5) else ((fval ((s.drop a.toNat).take width.toNat):Int),a + width,0)
theorem vdec_ok (f:Nat) (fst:Bool) (l:List UInt8) (h:(vdec f fst l).2.2 = 0):1≤(vdec f fst l).2.1∧(vdec f fst l).2.1≤l.length∧(vdec f fst l).2.1≤f∧(vdec f fst l).1 < 128 ^ f:=by
 induction f generalizing fst l with
 | zero=>simp [vdec] at h
 | succ f ih =>
  cases l with
  | nil=>simp [vdec] at h
  | cons b r =>
   have hb:=b.toNat_lt
   by_cases h1:128≤b.toNat
   ·by_cases h2:(vdec f false r).2.2 = 0
    ·have e:vdec (f + 1) fst (b :: r) = (b.toNat - 128 + 128 * (vdec f false r).1,(vdec f false r).2.1 + 1,0):=by rw [vdec,if_pos h1,if_pos h2]
     obtain ⟨i1,i2,i3,i4⟩:=ih false r h2
     rw [e]
     refine ⟨by simp,by simpa using i2,by simpa using i3,?_⟩
     show b.toNat - 128 + 128 * (vdec f false r).1 < 128 ^ (f + 1)
     rw [Nat.pow_succ]
     omega
    ·have e:vdec (f + 1) fst (b :: r) = (0,0,(vdec f false r).2.2):=by rw [vdec,if_pos h1,if_neg h2]
     rw [e] at h
     exact absurd h h2
   ·by_cases h3:b.toNat = 0∧fst = false
    ·have e:vdec (f + 1) fst (b :: r) = (0,0,5):=by rw [vdec,if_neg h1,if_pos h3]
     rw [e] at h;cases h
    ·have e:vdec (f + 1) fst (b :: r) = (b.toNat,1,0):=by rw [vdec,if_neg h1,if_neg h3]
     rw [e]
     refine ⟨by simp,by simp,by simp,?_⟩
     show b.toNat < 128 ^ (f + 1)
     have:0 < 128 ^ f:=Nat.pow_pos (by omega)
     rw [Nat.pow_succ]
     omega
theorem getV_ok {s:List UInt8} {a:Int} (h:(getV s a).2.2 = 0):0≤a∧a < (getV s a).2.1∧(getV s a).2.1≤s.length∧0≤(getV s a).1∧(getV s a).1≤9223372036854775807:=by
 by_cases h1:a < 0 ∨ (s.length:Int) < a
 ·rw [getV_out h1] at h;cases h
 ·obtain ⟨p,rfl⟩:=Int.eq_ofNat_of_zero_le (show 0≤a by omega)
  rw [getV_in (by omega)] at h ⊢
  unfold resV at *
  by_cases h2:(vdec 9 true (s.drop p)).2.2 = 0
  ·rw [if_pos h2]
   obtain ⟨i1,i2,i3,i4⟩:=vdec_ok 9 true (s.drop p) h2
   have h4:(128:Nat) ^ 9 = 9223372036854775808:=by decide
   rw [List.length_drop] at i2
   simp only [Nat.pow_zero]
   omega
  ·rw [if_neg h2] at h;exact absurd h h2
def lput (l:List Int):List UInt8:=l.flatMap fun n=>vbytes n.toNat
def okL (l:List Int):Bool:=l.all fun n=>decide (0≤n)
theorem lput_snoc (l:List Int) (k:Nat) (h:k < l.length):lput (l.take (k + 1)) = lput (l.take k) ++ vbytes l[k].toNat:=by
 unfold lput
 rw [List.take_succ_eq_append_getElem h,List.flatMap_append]
 simp
end Go.Proofs.YtnpncpoiiikafaaGreat
