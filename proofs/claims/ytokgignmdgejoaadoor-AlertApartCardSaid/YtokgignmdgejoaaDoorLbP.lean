/- Labels, plain. -/
import Derived.Test.YtokgignmdgejoaaDoorAlP
namespace Go.Proofs.YtokgignmdgejoaaDoor
open Go.RowKit Go.Lib
set_option linter.unusedVariables false

def dig (c : UInt8) : Bool := decide (48 ≤ c.toNat) && decide (c.toNat ≤ 57)
def lch (c : UInt8) : Bool := decide (c.toNat = 95) || (decide (97 ≤ c.toNat) && decide (c.toNat ≤ 122)) || dig c
/-- Is a text a name? -/
def lname (s : List UInt8) : Bool := decide (s.length ≤ 16) && !s.isEmpty && !(s.head?.map dig).getD false && s.all lch
def Pr.nb (p : Pr) : List UInt8 := p.name.data.toList
def Pr.long (p : Pr) : Bool := decide (64 < p.val.size)
def Pr.bad (p : Pr) : Bool := decide (p.val.size = 0) || !lname p.nb
def lparts (l : List Pr) : Int := if decide (8 < l.length) || l.any Pr.long then 5 else if l.any Pr.bad then 6 else 0
/-- Do the names rise up to a place? -/
def lord (l : List Pr) (k : Nat) : Prop := ∀ (i : Nat) (a b : Pr), i + 1 < k → l[i]? = some a → l[i + 1]? = some b → bytesBefore a.nb b.nb = true
def lordB : List Pr → Bool
  | a :: b :: r => bytesBefore a.nb b.nb && lordB (b :: r)
  | _ => true
theorem lordB_iff : ∀ (l : List Pr), lordB l = true ↔ lord l l.length
  | [] => ⟨fun _ i a b h1 h2 h3 => by simp at h2, fun _ => rfl⟩
  | [x] => ⟨fun _ i a b h1 h2 h3 => by simp at h3, fun _ => rfl⟩
  | x :: y :: r => by
    have ih := lordB_iff (y :: r)
    simp only [lordB, Bool.and_eq_true, ih]
    constructor
    · rintro ⟨h1, h2⟩ i a b hi ha hb
      cases i with
      | zero =>
        simp at ha hb
        subst ha hb
        exact h1
      | succ i => exact h2 i a b (by simp at hi ⊢; omega) (by simpa using ha) (by simpa using hb)
    · intro h
      exact ⟨h 0 x y (by simp) rfl rfl, fun i a b hi ha hb => h (i + 1) a b (by simp at hi ⊢; omega) (by simpa using ha) (by simpa using hb)⟩
def lcheck (l : List Pr) : Int := if lparts l ≠ 0 then lparts l else if lordB l then 0 else 4
/-- A key's bytes. -/
def lkey (l : List Pr) : List UInt8 := tList (l.flatMap fun p => [tText p.nb, tText p.val.data.toList])
end Go.Proofs.YtokgignmdgejoaaDoor
