/- A list of parts that came in, from whom; few. -/
import Derived.Test.YtemeglofblnnmaaRjD
import Derived.LoopTactic
namespace Go.Proofs.Ytemeglofblnnmaa
open Go.RowKit Go.Lib
set_option linter.unusedVariables false
set_option linter.unusedSimpArgs false
set_option maxRecDepth 100000

/-- A part and its sender, as they lie in memory. -/
structure Ak where
  frm : Int
  p : Pt
  v : Value
instance : Inhabited Ak := ⟨⟨0, ⟨0, 0, 0, []⟩, .slice none 0 0⟩⟩
structure AkAt (w : World) (S : Nat → Prop) (b o : Nat) (x : Ak) : Prop where
  c0 : w.cell? ⟨b, o, none⟩ = some (.int .u16 x.frm)
  c1 : w.cell? ⟨b, o + 1, none⟩ = some (.int .i64 x.p.id)
  c2 : w.cell? ⟨b, o + 2, none⟩ = some (.int .i64 x.p.idx)
  c3 : w.cell? ⟨b, o + 3, none⟩ = some (.int .i64 x.p.cnt)
  c4 : w.cell? ⟨b, o + 4, none⟩ = some x.v
  sb : S b
  lt : b < w.heap.size
  bs : BsAt w S x.v x.p.bs
  f0 : 0 ≤ x.frm
def AksAt (w : World) (S : Nat → Prop) (A : Option Addr) (xs : List Ak) : Prop :=
  0 < xs.length → ∃ b o, A = some ⟨b, o, none⟩ ∧ ∀ (k : Nat) (x : Ak), xs[k]? = some x → AkAt w S b (o + k * 5) x
theorem AkAt.only {w w' : World} {S F : Nat → Prop} {b o : Nat} {x : Ak} (h : AkAt w S b o x) (ho : Only F w w') (hSF : ∀ k, S k → ¬ F k) : AkAt w' S b o x :=
  have hc : ∀ j, w'.cell? ⟨b, j, none⟩ = w.cell? ⟨b, j, none⟩ := fun j => ho.cell (p := ⟨b, j, none⟩) h.lt (hSF b h.sb)
  ⟨(hc _).trans h.c0, (hc _).trans h.c1, (hc _).trans h.c2, (hc _).trans h.c3, (hc _).trans h.c4, h.sb, Nat.lt_of_lt_of_le h.lt ho.size, h.bs.only ho hSF, h.f0⟩
theorem AksAt.only {w w' : World} {S F : Nat → Prop} {A : Option Addr} {xs : List Ak} (h : AksAt w S A xs) (ho : Only F w w') (hSF : ∀ k, S k → ¬ F k) : AksAt w' S A xs := fun hn => by
  obtain ⟨b, o, hA, hx⟩ := h hn
  exact ⟨b, o, hA, fun k x hk => (hx k x hk).only ho hSF⟩
def sumB : List Ak → Nat
  | [] => 0
  | x :: xs => min x.p.bs.length 20001 + sumB xs
theorem sumB_append (xs ys : List Ak) : sumB (xs ++ ys) = sumB xs + sumB ys := by
  induction xs with
  | nil => simp [sumB]
  | cons x xs ih => simp only [List.cons_append, sumB, ih]; omega
theorem sumB_take (xs : List Ak) (k : Nat) (x : Ak) (h : xs[k]? = some x) : sumB (xs.take (k + 1)) = sumB (xs.take k) + min x.p.bs.length 20001 := by
  rw [List.take_add_one, h, sumB_append]
  simp [sumB]
theorem sumB_ge (xs : List Ak) (k : Nat) : sumB (xs.take k) ≤ sumB xs := by
  have h := sumB_append (xs.take k) (xs.drop k)
  rw [List.take_append_drop] at h
  omega
theorem ak_small {xs : List Ak} (h : sumB xs ≤ 20000) {k : Nat} {x : Ak} (hx : xs[k]? = some x) : x.p.bs.length ≤ 20000 := by
  have h1 := sumB_take xs k x hx
  have h2 := sumB_ge xs (k + 1)
  omega
def fewB (xs : List Ak) : Bool := decide (xs.length ≤ 120) && decide (sumB xs ≤ 20000)
theorem few_many (A : Option Addr) (n c : Nat) (w : World) (hn : 120 < n) (hm : n ≤ 9223372036854775807) :
    Calls Try.prog 16 #[.slice A n c] w fun e w' => e = .returned (.bool false) ∧ w = w' := by
  go_enter Try.func16, Try.ntmps16
  go_wp2
  go_ret
  exact ⟨rfl, rfl⟩
theorem few_some (A : Option Addr) (n c : Nat) (xs : List Ak) (w : World) (S : Nat → Prop) (hx : AksAt w S A xs) (hl : xs.length = n) (hn : n ≤ 120) :
    Calls Try.prog 16 #[.slice A n c] w fun e w' => e = .returned (.bool (decide (sumB xs ≤ 20000))) ∧ w = w' := by
  have HX := Lib.hid hx
  have HL := Lib.hid hl
  clear hx hl
  go_enter Try.func16, Try.ntmps16
  go_wp2
  go_loop [3, 4] (fun s i => ∃ k m : Nat, k ≤ n ∧ i = .int .i64 k ∧ s = .int .i64 m ∧ m ≤ 20000 ∧ Hid (m = sumB (xs.take k))) (fun _ i => n - (RowKit.intOf i).toNat)
  case atStart => exact ⟨0, 0, by omega, rfl, rfl, by omega, Lib.hid (by simp [sumB])⟩
  case round =>
    obtain ⟨k, m, hk, rfl, rfl, hm, HM⟩ := hrel
    by_cases hlt : k < n
    · obtain ⟨b, o, hA, hc⟩ := HX.out (by have := HL.out; omega)
      have hx : xs[k]? = some (xs[k]'(by have := HL.out; omega)) := List.getElem?_eq_getElem _
      obtain ⟨x, hxe⟩ : ∃ x, xs[k]? = some x := ⟨_, hx⟩
      have ha := hc k x hxe
      obtain ⟨C, cc, hv, _, hcl, hcm⟩ := ha.bs
      have c4 := ha.c4
      rw [hv] at c4
      have hcap : (x.p.bs.length : Int) ≤ 9223372036854775807 := by unfold maxLen at hcm; omega
      have hcap0 : (0 : Int) ≤ x.p.bs.length := by omega
      have hst := sumB_take xs k x hxe
      have hge := sumB_ge xs (k + 1)
      have HST := Lib.hid hst
      have HGE := Lib.hid hge
      obtain ⟨q, hq⟩ : ∃ q : Nat, q = min x.p.bs.length 20001 := ⟨_, rfl⟩
      have hif : (if (20001 : Int) < (x.p.bs.length : Int) then (20001 : Int) else (x.p.bs.length : Int)) = (q : Int) := by split <;> omega
      have hif' : (if (20001 : Nat) < x.p.bs.length then (20001 : Int) else (x.p.bs.length : Int)) = (q : Int) := by split <;> omega
      have hmin : min (x.p.bs.length : Int) 20001 = (q : Int) := by omega
      have hq2 : q ≤ 20001 := by omega
      have HQ := Lib.hid hq
      subst hA
      clear hx hxe ha hst hc hq hv hcl hcm hge
      by_cases hbig : 20000 < m + q
      · have hbi : (20000 : Int) < (m : Int) + (q : Int) := by omega
        go_wp2
        go_ret
        refine ⟨?_, rfl⟩
        have : ¬ sumB xs ≤ 20000 := by
          have := HST.out
          have := HGE.out
          have := HM.out
          have := HQ.out
          omega
        rw [decide_eq_false this]
        rfl
      · have hbi : ¬ (20000 : Int) < (m : Int) + (q : Int) := by omega
        go_wp2
        go_round
        case rel => exact ⟨k + 1, m + q, by omega, by go_num, by go_num, by omega, Lib.hid (by rw [HST.out, ← HM.out, HQ.out])⟩
        case measure => simp [RowKit.intOf]; omega
    · obtain rfl : k = n := by omega
      go_wp2
      go_ret
      refine ⟨?_, rfl⟩
      have e : m = sumB xs := by rw [HM.out, List.take_of_length_le (by have := HL.out; omega)]
      rw [← e, decide_eq_true hm]
      rfl
theorem few_no (A : Option Addr) (n c : Nat) (xs : List Ak) (w : World) (S : Nat → Prop) (hx : AksAt w S A xs) (hl : xs.length = n) (hm : n ≤ 9223372036854775807) (h : fewB xs = false) :
    Calls Try.prog 16 #[.slice A n c] w fun e w' => e = .returned (.bool false) ∧ w = w' := by
  by_cases hn : n ≤ 120
  · have h1 := few_some A n c xs w S hx hl hn
    have h2 : ¬ sumB xs ≤ 20000 := by
      intro h2
      unfold fewB at h
      rw [hl, decide_eq_true hn, decide_eq_true h2] at h
      cases h
    rw [decide_eq_false h2] at h1
    exact h1
  · exact few_many A n c w (by omega) hm
theorem few_yes (A : Option Addr) (n c : Nat) (xs : List Ak) (w : World) (S : Nat → Prop) (hx : AksAt w S A xs) (hl : xs.length = n) (h : fewB xs = true) :
    (Calls Try.prog 16 #[.slice A n c] w fun e w' => e = .returned (.bool true) ∧ w = w') ∧ n ≤ 120 ∧ sumB xs ≤ 20000 := by
  unfold fewB at h
  simp only [Bool.and_eq_true, decide_eq_true_eq] at h
  have h1 := few_some A n c xs w S hx hl (by omega)
  rw [decide_eq_true h.2] at h1
  exact ⟨h1, by omega, h.2⟩
end Go.Proofs.Ytemeglofblnnmaa
