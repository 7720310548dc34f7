/- A list of calls that came in, and few. -/
import Derived.Test.YtibeblibminjfaaFork
import Derived.LoopTactic
namespace Go.Proofs.Ytibeblibminjfaa
open Go.RowKit
set_option linter.unusedVariables false

/-- A call, as it lies in memory. -/
structure Ac where
  kind : Nat
  A : Option Addr
  len : Nat
  cap : Nat
  z : List Int
  n : Int
  done : Bool

structure ActAt (w : World) (S : Nat → Prop) (b o : Nat) (x : Ac) : Prop where
  c0 : w.cell? ⟨b, o, none⟩ = some (.int .u8 (x.kind : Int))
  c1 : w.cell? ⟨b, o + 1, none⟩ = some (.slice x.A x.len x.cap)
  c2 : w.cell? ⟨b, o + 2, none⟩ = some (.int .i64 x.n)
  c3 : w.cell? ⟨b, o + 3, none⟩ = some (.bool x.done)
  sb : S b
  lt : b < w.heap.size
  src : Src w S 1 x.A x.len (u8s x.z)
  bare : x.A = none → x.len = 0 ∧ x.cap = 0
  cap : x.len ≤ x.cap
  cap63 : x.cap ≤ 9223372036854775807
  kind : x.kind ≤ 255
  n0 : -9223372036854775808 ≤ x.n
  n1 : x.n ≤ 9223372036854775807
  zl : x.z.length = x.len

def ActsAt (w : World) (S : Nat → Prop) (A : Option Addr) (xs : List Ac) : Prop :=
  0 < xs.length → ∃ b o, A = some ⟨b, o, none⟩ ∧ ∀ (k : Nat) (x : Ac), xs[k]? = some x → ActAt w S b (o + k * 4) x

theorem ActAt.only {w w' : World} {S F : Nat → Prop} {b o : Nat} {x : Ac} (h : ActAt w S b o x) (ho : Only F w w') (hSF : ∀ k, S k → ¬ F k) : ActAt w' S b o x :=
  have hc : ∀ j, w'.cell? ⟨b, j, none⟩ = w.cell? ⟨b, j, none⟩ := fun j => ho.cell (p := ⟨b, j, none⟩) h.lt (hSF b h.sb)
  ⟨(hc _).trans h.c0, (hc _).trans h.c1, (hc _).trans h.c2, (hc _).trans h.c3, h.sb, Nat.lt_of_lt_of_le h.lt ho.size, h.src.only ho hSF, h.bare, h.cap, h.cap63, h.kind, h.n0, h.n1, h.zl⟩
theorem ActsAt.only {w w' : World} {S F : Nat → Prop} {A : Option Addr} {xs : List Ac} (h : ActsAt w S A xs) (ho : Only F w w') (hSF : ∀ k, S k → ¬ F k) : ActsAt w' S A xs := fun hn => by
  obtain ⟨b, o, hA, hx⟩ := h hn
  exact ⟨b, o, hA, fun k x hk => (hx k x hk).only ho hSF⟩

def sumB : List Ac → Nat
  | [] => 0
  | x :: xs => min x.len 10001 + sumB xs
theorem sumB_append (xs ys : List Ac) : sumB (xs ++ ys) = sumB xs + sumB ys := by
  induction xs with
  | nil => simp [sumB]
  | cons x xs ih => simp only [List.cons_append, sumB, ih]; omega
theorem sumB_take (xs : List Ac) (k : Nat) (x : Ac) (h : xs[k]? = some x) : sumB (xs.take (k + 1)) = sumB (xs.take k) + min x.len 10001 := by
  rw [List.take_add_one, h, sumB_append]
  simp [sumB]
theorem sumB_le (xs : List Ac) : sumB xs ≤ xs.length * 10001 := by
  induction xs with
  | nil => simp [sumB]
  | cons x xs ih => simp only [sumB, List.length_cons]; omega
def fewB (xs : List Ac) : Bool := decide (xs.length ≤ 100) && decide (sumB xs ≤ 10000)

theorem few_many (A : Option Addr) (n c : Nat) (w : World) (hn : 100 < n) (hm : n ≤ 9223372036854775807) :
    Calls Try.prog 20 #[.slice A n c] w fun e w' => e = .returned (.bool false) ∧ w = w' := by
  go_enter Try.func20, Try.ntmps20
  go_wp2
  go_ret
  exact ⟨rfl, rfl⟩

theorem few_some (A : Option Addr) (n c : Nat) (xs : List Ac) (w : World) (S : Nat → Prop) (hx : ActsAt w S A xs) (hl : xs.length = n) (hn : n ≤ 100) :
    Calls Try.prog 20 #[.slice A n c] w fun e w' => e = .returned (.bool (decide (sumB xs ≤ 10000))) ∧ w = w' := by
  have HX := Lib.hid hx
  have HL := Lib.hid hl
  clear hx hl
  go_enter Try.func20, Try.ntmps20
  go_wp2
  go_loop [3, 4] (fun s i => ∃ k m : Nat, k ≤ n ∧ i = .int .i64 k ∧ s = .int .i64 m ∧ m ≤ k * 10001 ∧ Hid (m = sumB (xs.take k))) (fun _ i => n - (intOf i).toNat)
  case atStart => exact ⟨0, 0, by omega, rfl, rfl, by omega, Lib.hid (by simp [sumB])⟩
  case round =>
    obtain ⟨k, m, hk, rfl, rfl, hm, HM⟩ := hrel
    by_cases hlt : k < n
    · obtain ⟨b, o, hA, hc⟩ := HX.out (by have := HL.out; omega)
      have hx : xs[k]? = some (xs[k]'(by have := HL.out; omega)) := List.getElem?_eq_getElem _
      obtain ⟨x, hxe⟩ : ∃ x, xs[k]? = some x := ⟨_, hx⟩
      have ha := hc k x hxe
      have c1 := ha.c1
      have hcap := ha.cap
      have hcap2 := ha.cap63
      have hst := sumB_take xs k x hxe
      have HST := Lib.hid hst
      obtain ⟨q, hq⟩ : ∃ q : Nat, q = min x.len 10001 := ⟨_, rfl⟩
      have hif : (if (10001 : Int) < (x.len : Int) then (10001 : Int) else (x.len : Int)) = (q : Int) := by split <;> omega
      have hif' : (if (10001 : Nat) < x.len then (10001 : Int) else (x.len : Int)) = (q : Int) := by split <;> omega
      have hq2 : q ≤ 10001 := by omega
      have HQ := Lib.hid hq
      subst hA
      clear hx hxe ha hst hc hq
      go_wp2
      go_round
      case rel => exact ⟨k + 1, m + q, by omega, by go_num, by go_num, by omega, Lib.hid (by rw [HST.out, ← HM.out, HQ.out])⟩
      case measure => simp [intOf]; omega
    · obtain rfl : k = n := by omega
      go_wp2
      go_ret
      refine ⟨?_, rfl⟩
      have e : m = sumB xs := by rw [HM.out, List.take_of_length_le (by have := HL.out; omega)]
      rw [← e]
      first | rfl | (simp; omega)
end Go.Proofs.Ytibeblibminjfaa
