/- Contracts of package file's functions over a disk in memory. -/
import Derived.Test.YtibeblibminjfaaMem
import Derived.Deep.RegionLaw
import Derived.Deep.QuietTactic
import Derived.BigQuiet
import Derived.StillTailTactics
import Derived.Lib.Hide
namespace Go.Proofs.Ytibeblibminjfaa
open Go.RowKit
set_option linter.unusedVariables false

theorem u8info : (Try.prog.info? 5).map (fun i => (i.zero, i.size, i.bytes)) = some (some (.int .u8 0), 1, 1) := by kernel_rfl

theorem up_ok (b : Nat) (w : World) (c7 : w.cell? ⟨b, 7, none⟩ = some (.bool false)) :
    Calls Try.prog 26 #[.pointer (some ⟨b, 0, none⟩)] w fun e w' => e = .returned (.int .i64 0) ∧ w = w' := by
  go_enter Try.func26, Try.ntmps26
  go_wp2
  go_ret
  exact ⟨rfl, rfl⟩
theorem up_down (b : Nat) (w : World) (c7 : w.cell? ⟨b, 7, none⟩ = some (.bool true)) :
    Calls Try.prog 26 #[.pointer (some ⟨b, 0, none⟩)] w fun e w' => e = .returned (.int .i64 12) ∧ w = w' := by
  go_enter Try.func26, Try.ntmps26
  go_wp2
  go_ret
  exact ⟨rfl, rfl⟩
theorem up_nil (w : World) :
    Calls Try.prog 26 #[.pointer none] w fun e w' => e = .returned (.int .i64 1) ∧ w = w' := by
  go_enter Try.func26, Try.ntmps26
  go_wp2
  go_ret
  exact ⟨rfl, rfl⟩

/-- The cells of a disk. -/
def dcells (vs vl : Value) (sf cp op fu : Int) (dn dw : Bool) : Array Value := #[vs, vl, .int .i64 sf, .int .i64 cp, .int .i64 op, .int .i64 fu, .bool dn, .bool dw]

theorem new_any (n : Int) (w : World) :
    Calls Try.prog 9 #[.int .i64 n] w fun e w' => e = .returned (.pointer (some ⟨w.heap.size, 0, none⟩)) ∧
      w' = w.alloc (.cells (dcells (.slice none 0 0) (.slice none 0 0) 0 (max 0 n) 0 (-1) false false) 56) := by
  rcases Int.lt_or_le 0 n with h | h
  · have e : max 0 n = n := by omega
    rw [e]
    clear e
    go_enter Try.func9, Try.ntmps9
    go_wp2
    go_ret
    exact ⟨rfl, rfl⟩
  · have e : max 0 n = 0 := by omega
    rw [e]
    clear e
    rcases Int.lt_or_eq_of_le h with h | rfl
    · go_enter Try.func9, Try.ntmps9
      go_wp2
      go_ret
      exact ⟨rfl, rfl⟩
    · go_enter Try.func9, Try.ntmps9
      go_wp2
      go_ret
      exact ⟨rfl, rfl⟩

theorem dcells_at {w : World} {b : Nat} {vs vl : Value} {sf cp op fu : Int} {dn dw : Bool} (h : Hld w b 56 (dcells vs vl sf cp op fu dn dw)) :
    (w.cell? ⟨b, 0, none⟩ = some vs ∧ w.cell? ⟨b, 1, none⟩ = some vl ∧ w.cell? ⟨b, 2, none⟩ = some (.int .i64 sf) ∧ w.cell? ⟨b, 3, none⟩ = some (.int .i64 cp)) ∧
    (w.cell? ⟨b, 4, none⟩ = some (.int .i64 op) ∧ w.cell? ⟨b, 5, none⟩ = some (.int .i64 fu) ∧ w.cell? ⟨b, 6, none⟩ = some (.bool dn) ∧ w.cell? ⟨b, 7, none⟩ = some (.bool dw)) := by
  simp [h.cell, dcells]

/-- op, where it does not fail. -/
theorem op_fine (b k : Nat) (cap : Array Value) (vs vl : Value) (sf cp op fu : Int) (dn : Bool) (w : World) (hd : Hld w b 56 (dcells vs vl sf cp op fu dn false)) (h1 : 0 ≤ op) (h2 : op ≤ 1000000000) (h3 : fu < 0 ∨ 0 < fu) (h4 : -1 ≤ fu) (h5 : fu ≤ 9223372036854775807)
    (R : World → Prop) (hk : ∀ W, (callFunc k cap).run Try.prog W = .ok (.enter k cap) W)
    (hcl : ∀ W, Hld W b 56 (dcells vs vl sf cp (op + 1) (max (-1) (fu - 1)) dn false) → W = (w.setCell ⟨b, 4, none⟩ (.int .i64 (op + 1))).setCell ⟨b, 5, none⟩ (.int .i64 (max (-1) (fu - 1))) →
      Calls Try.prog k cap W fun e w' => e = .returned (.tuple #[]) ∧ R w') :
    Calls Try.prog 27 #[.pointer (some ⟨b, 0, none⟩), .func (.func k) #[] cap] w fun e w' => e = .returned (.int .i64 0) ∧ R w' := by
  obtain ⟨⟨c0, c1, c2, c3⟩, c4, c5, c6, c7⟩ := dcells_at hd
  have f4 := hd.free 4
  have f5 := hd.free 5
  have H := hcl _ (by unfold Hld at hd ⊢; simp [World.setCell, Array.getElem?_modify, hd, dcells]) rfl
  have z : (fu == 0) = false := by simp; omega
  clear c0 c1 c2 c3 c6 c7 hcl hd
  rcases h3 with h3 | h3
  · obtain rfl : fu = -1 := by omega
    go_enter Try.func27, Try.ntmps27
    go_wp2_with (refine Calls.mono H ?_; rintro e w' ⟨rfl, hr⟩)
    go_ret
    exact ⟨rfl, hr⟩
  · have e : max (-1) (fu - 1) = fu - 1 := by omega
    rw [e] at H
    clear e
    go_enter Try.func27, Try.ntmps27
    go_wp2_with (refine Calls.mono H ?_; rintro e w' ⟨rfl, hr⟩)
    go_ret
    exact ⟨rfl, hr⟩

/-- op, where it fails and is done. -/
theorem op_fails_done (b k : Nat) (cap : Array Value) (vs vl : Value) (sf cp op : Int) (w : World) (hd : Hld w b 56 (dcells vs vl sf cp op 0 true false)) (h1 : 0 ≤ op) (h2 : op ≤ 1000000000)
    (R : World → Prop) (hk : ∀ W, (callFunc k cap).run Try.prog W = .ok (.enter k cap) W)
    (hcl : ∀ W, Hld W b 56 (dcells vs vl sf cp (op + 1) (-1) true false) → W = (w.setCell ⟨b, 4, none⟩ (.int .i64 (op + 1))).setCell ⟨b, 5, none⟩ (.int .i64 (-1)) →
      Calls Try.prog k cap W fun e w' => e = .returned (.tuple #[]) ∧ (R (w'.setCell ⟨b, 7, none⟩ (.bool true)) ∧ ∃ u v s, Hld w' b 56 (dcells u v s cp (op + 1) (-1) true false))) :
    Calls Try.prog 27 #[.pointer (some ⟨b, 0, none⟩), .func (.func k) #[] cap] w fun e w' => e = .returned (.int .i64 12) ∧ R w' := by
  obtain ⟨⟨c0, c1, c2, c3⟩, c4, c5, c6, c7⟩ := dcells_at hd
  have f4 := hd.free 4
  have f5 := hd.free 5
  have H := hcl _ (by unfold Hld at hd ⊢; simp [World.setCell, Array.getElem?_modify, hd, dcells]) rfl
  clear c0 c1 c2 c3 c7 hcl hd
  go_enter Try.func27, Try.ntmps27
  go_wp2_with (refine Calls.mono H ?_; rintro e w' ⟨rfl, hr, u, v, s, hd'⟩; have c7 := (dcells_at hd').2.2.2.2; have f7 := hd'.free 7; clear hd')
  go_ret
  exact ⟨rfl, hr⟩

/-- op, where it fails and is not done. -/
theorem op_fails (b k : Nat) (cap : Array Value) (vs vl : Value) (sf cp op : Int) (w : World) (hd : Hld w b 56 (dcells vs vl sf cp op 0 false false)) (h1 : 0 ≤ op) (h2 : op ≤ 1000000000) :
    Calls Try.prog 27 #[.pointer (some ⟨b, 0, none⟩), .func (.func k) #[] cap] w fun e w' => e = .returned (.int .i64 12) ∧
      w' = ((w.setCell ⟨b, 4, none⟩ (.int .i64 (op + 1))).setCell ⟨b, 5, none⟩ (.int .i64 (-1))).setCell ⟨b, 7, none⟩ (.bool true) := by
  obtain ⟨⟨c0, c1, c2, c3⟩, c4, c5, c6, c7⟩ := dcells_at hd
  have f4 := hd.free 4
  have f5 := hd.free 5
  have f7 := hd.free 7
  clear c0 c1 c2 c3 hd
  go_enter Try.func27, Try.ntmps27
  go_wp2
  go_ret
  exact ⟨rfl, rfl⟩

/-- What Append's closure leaves. -/
def AppLeft (b n m : Nat) (Fl : Nat → Prop) (xs news : List Value) (vs : Value) (sf cp op fu : Int) (dn dw : Bool) (w w' : World) : Prop :=
  ∃ vl', Hld w' b 56 (dcells vs vl' sf cp op fu dn dw) ∧ Row w' (Plus Fl w w') 5 1 vl' (n + m) (xs ++ news) ∧ Only (fun k => Fl k ∨ k = b) w w'

theorem append_left {b n m : Nat} {Fl : Nat → Prop} {xs news : List Value} {vs vl v : Value} {sf cp op fu : Int} {dn dw : Bool} {w w' : World} (hd : Hld w' b 56 (dcells vs vl sf cp op fu dn dw))
    (hr : Row w' (Plus Fl w.drew w') 5 1 v (n + m) (xs ++ news)) (ho : Only Fl w.drew w') (hb : ¬ Fl b) (hlt : b < w.heap.size) : AppLeft b n m Fl xs news vs sf cp op fu dn dw w (w'.setCell ⟨b, 1, none⟩ v) := by
  have hnot : ¬ Plus Fl w.drew w' b := by
    rintro (h | h)
    · exact hb h
    · have : w.drew.heap.size = w.heap.size := rfl
      omega
  have hz : (w'.setCell ⟨b, 1, none⟩ v).heap.size = w'.heap.size := by simp [World.setCell]
  refine ⟨v, by simpa [dcells] using hd.set_ 1 v, ?_, ?_⟩
  · refine (hr.setCell (p := ⟨b, 1, none⟩) hnot v).mono (fun k hk _ => ?_)
    rcases hk with h | h
    · exact .inl h
    · exact .inr (by rw [hz]; exact h)
  · exact ((Only.mono (G := fun k => Fl k ∨ k = b) ho (fun j hj _ => .inl hj)).setCell (p := ⟨b, 1, none⟩) (fun _ => .inr rfl) v).undrew

theorem append_cl (p q b n m c : Nat) (A : Option Addr) (Fl S : Nat → Prop) (xs news : List Value) (vs vl : Value) (sf cp op fu : Int) (dn dw : Bool) (w : World)
    (hp : w.cell? ⟨p, 0, none⟩ = some (.pointer (some ⟨b, 0, none⟩))) (hq : w.cell? ⟨q, 0, none⟩ = some (.slice A m c)) (hd : Hld w b 56 (dcells vs vl sf cp op fu dn dw))
    (hr : Row w Fl 5 1 vl n xs) (hs : Src w S 1 A m news) (h1 : ∀ u ∈ news, u.oneCell' = true) (hnm : n + m ≤ 1000000000) (hb : ¬ Fl b) (hpF : ¬ Fl p) :
    Calls Try.prog 28 #[.pointer (some ⟨p, 0, none⟩), .pointer (some ⟨q, 0, none⟩)] w fun e w' => e = .returned (.tuple #[]) ∧ AppLeft b n m Fl xs news vs sf cp op fu dn dw w w' := by
  obtain ⟨i0, hi, hz0, hz1, hz2⟩ := info_parts u8info
  obtain ⟨⟨c0, c1, c2, c3⟩, c4, c5, c6, c7⟩ := dcells_at hd
  have hr' := hr.drew
  have hs' := hs.drew
  have hpl := World.block_lt_of_cell? w _ hp
  have HD := Lib.hid hd
  have HLT := Lib.hid hd.lt
  have HR := Lib.hid hr'
  have HS := Lib.hid hs'
  have HI := Lib.hid hi
  have HZ0 := Lib.hid hz0
  have HZ1 := Lib.hid hz1
  have HZ2 := Lib.hid hz2
  clear c0 c2 c3 c4 c5 c6 c7 hr' hs' hr hs hd hi hz0 hz1 hz2
  go_enter Try.func28, Try.ntmps28
  go_region_law (refine step_append_row _ rfl (.tmp 6) (.tmp 7) 22 rfl 5 i0 (.int .u8 0) 1 1 Try.underlying22 HI.out HZ0.out HZ1.out HZ2.out rfl Fl S vl n xs (by simp [Act.eval]) HR.out A m c news (by simp [Act.eval]) HS.out h1 (by simp only [maxLen]; omega) (by omega) ?_; intro v' w' hrow honly _; obtain ⟨A', cap', hv'⟩ := hrow.shape; subst hv'; have hd1 := (HD.out.drew).only honly hb; have hc1 := (dcells_at hd1).1.2.1; have hf1 := hd1.free 1; have hp1 := (honly.cell (p := ⟨p, 0, none⟩) hpl hpF).trans hp; have HD1 := Lib.hid hd1; have HROW := Lib.hid hrow; have HO := Lib.hid honly; clear hd1 hrow honly)
  all_goals (go_end0; exact ⟨rfl, append_left HD1.out HROW.out HO.out hb HLT.out⟩)

/-- What Sync's closure leaves, and Cut's, and Swap's. -/
theorem sync_cl (p b n c : Nat) (A : Option Addr) (vs : Value) (sf cp op fu : Int) (dn dw : Bool) (w : World)
    (hp : w.cell? ⟨p, 0, none⟩ = some (.pointer (some ⟨b, 0, none⟩))) (hd : Hld w b 56 (dcells vs (.slice A n c) sf cp op fu dn dw)) :
    Calls Try.prog 29 #[.pointer (some ⟨p, 0, none⟩)] w fun e w' => e = .returned (.tuple #[]) ∧ ∃ k, w' = (w.setCell ⟨b, 2, none⟩ (.int .i64 (n : Int))).drewN k := by
  obtain ⟨⟨c0, c1, c2, c3⟩, c4, c5, c6, c7⟩ := dcells_at hd
  have f2 := hd.free 2
  clear c0 c3 c4 c5 c6 c7 hd
  go_enter Try.func29, Try.ntmps29
  go_region
  all_goals (go_end0; exact ⟨rfl, 1, rfl⟩)
end Go.Proofs.Ytibeblibminjfaa
