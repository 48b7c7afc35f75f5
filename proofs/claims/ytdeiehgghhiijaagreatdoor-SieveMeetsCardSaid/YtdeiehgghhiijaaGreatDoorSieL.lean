/- Walk of the statement on contraries and rows of sentences (SieveNot). Walk of the statement on sentences that were written (SieveBack). -/
import Derived.Test.YtdeiehgghhiijaaGreatDoorSieJ
namespace Go.Proofs.YtdeiehgghhiijaaGreatDoor
set_option linter.unusedVariables false
set_option linter.unusedSimpArgs false
set_option linter.unnecessarySimpa false
open Go.RowKit
namespace SieW
open WanW (w64k str_cat)

theorem facS_err {en : Int} {fn fs : List Wd → Nat → Nat → PR} {l : List Wd} {sz dp : Nat} {e a : Int} (hn : ∀ l sz dp e a, fn l sz dp = .err e a → e = 3 ∨ e = 380) (hs : ∀ l sz dp e a, fs l sz dp = .err e a → e = 3 ∨ e = 380)
    (h : facS en fn fs l sz dp = .err e a) : e = 3 ∨ e = 380 := by
  unfold facS at h
  split at h
  · split at h
    · cases h; exact .inl rfl
    · split at h
      · cases h
      · cases h; exact .inr rfl
  · split at h
    · split at h
      · cases h; exact .inl rfl
      · split at h
        · cases h
        · cases h; exact .inr rfl
    · split at h
      · split at h
        · cases h; exact .inl rfl
        · cases h
      · split at h
        · split at h
          · cases h; exact .inl rfl
          · split at h
            · cases h
            · exact hn _ _ _ _ _ h
        · split at h
          · split at h
            · cases h; exact .inl rfl
            · split at h
              · split at h
                · cases h
                · cases h; exact .inr rfl
              · exact hs _ _ _ _ _ h
          · cases h; exact .inr rfl
theorem pG_err (en : Int) : ∀ (f m : Nat) (acc : List Nd) (l : List Wd) (sz dp : Nat) (e a : Int), pG en f m acc l sz dp = .err e a → e = 3 ∨ e = 380
  | 0, _, _, _, _, _, _, _, h => by simp [pG] at h
  | f + 1, 0, acc, l, sz, dp, e, a, h => by
    rw [pG] at h
    exact facS_err (fun l sz dp e a => pG_err en f 0 [] l sz dp e a) (fun l sz dp e a => pG_err en f 2 [] l sz dp e a) h
  | f + 1, m + 1, acc, l, sz, dp, e, a, h => by
    rw [pG] at h
    split at h
    · split at h
      · exact pG_err en f (m + 1) _ _ _ _ _ _ h
      · cases h
    · exact pG_err en f m _ _ _ _ _ _ h
theorem parse_err {s : List UInt8} {p e : Int} (h : parseP s = (none, p, e)) : e = 3 ∨ e = 380 := by
  rw [parse_pM] at h
  split at h
  · cases h; exact .inl rfl
  · split at h
    · split at h
      · cases h
      · cases h; exact .inr rfl
    · next h1 => cases h; exact pG_err _ _ _ _ _ _ _ _ _ h1
    · next h1 => exact absurd h1 (pM_out _ _ _ _ _ _ (by omega))
theorem parse_fine {s : List UInt8} {n : Nd} {z : Nat} {p e : Int} (h : parseP s = (some (n, z), p, e)) : e = 0 := by
  rw [parse_pM] at h
  split at h
  · cases h
  · split at h
    · split at h
      · cases h; rfl
      · cases h
    · cases h
    · cases h
/-- Parse's answer, whatever the text. -/
theorem parse_some (s : List UInt8) (w : World) (hW : WanW.Wo w) (hs : s.length ≤ 100000) (p e : Int) (hp : (parseP s).2 = (p, e)) :
    Calls Tryz.prog 5 #[str s] w fun r w' => ∃ x, r = .returned (.tuple #[.pointer x, .int .i64 p, .int .i64 e]) ∧ Below w.heap.size w w' := by
  obtain ⟨⟨n, p', e'⟩, h⟩ : ∃ r, parseP s = r := ⟨_, rfl⟩
  rw [h] at hp; cases hp
  cases n with
  | none => exact (parse_no_any h w hW hs).mono fun r w' ⟨h1, h2⟩ => ⟨_, h1, h2⟩
  | some nz => obtain ⟨n, z⟩ := nz; exact (parse_sv_any h w hW hs).mono fun r w' ⟨g, h1, h2, h3⟩ => ⟨_, h1, h3⟩

theorem joined_any (o : Bool) {a b : List UInt8} {n1 n2 : Nd} {z1 z2 : Nat} {p1 p2 e1 e2 : Int} (h1 : parseP a = (some (n1, z1), p1, e1)) (h2 : parseP b = (some (n2, z2), p2, e2)) (hab : a.length + b.length ≤ 900) (w : World) (hW : WanW.Wo w) :
    Calls Tryz.prog 5 #[str (joinT o a b)] w fun r w' => ∃ (x : Option Addr) (e p : Int), r = .returned (.tuple #[.pointer x, .int .i64 p, .int .i64 e]) ∧
      (e = 3 ∨ (e = 0 ∧ ∃ g n z, x = some ⟨g, 0, none⟩ ∧ Sv w' g n z ∧ ∀ q t d, meetN q t d n = if o = true then (meetN q t d n1 || meetN q t d n2) else (meetN q t d n1 && meetN q t d n2))) ∧ Below w.heap.size w w' := by
  have hT : (joinT o a b).length ≤ 1000 := by cases o <;> simp [joinT] <;> omega
  rcases join_parse o a b n1 n2 z1 z2 p1 p2 e1 e2 h1 h2 hab with ⟨p, h⟩ | ⟨n, z, h, hm⟩
  · exact (parse_no_any h w hW (by omega)).mono fun r w' ⟨h1, h2⟩ => ⟨_, _, _, h1, .inl rfl, h2⟩
  · exact (parse_sv_any h w hW (by omega)).mono fun r w' ⟨g, h1, h2, h3⟩ => ⟨_, _, _, h1, .inr ⟨rfl, g, n, z, rfl, h2, hm⟩, h3⟩

end SieW
end Go.Proofs.YtdeiehgghhiijaaGreatDoor

namespace Go.Proofs.YtdeiehgghhiijaaGreatDoor
set_option linter.unusedVariables false
set_option linter.unusedSimpArgs false
set_option linter.unnecessarySimpa false
open Go.RowKit
namespace SieW

end SieW
end Go.Proofs.YtdeiehgghhiijaaGreatDoor
