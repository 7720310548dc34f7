/- Contracts of package file's functions over a disk in memory: Clone, the other closures, Crash, Read. -/
import Derived.Test.YtibeblibminjfaaDisk
import Derived.Deep.RegionHeld3
import Derived.WalkSpells
namespace Go.Proofs.Ytibeblibminjfaa
open Go.RowKit
set_option linter.unusedVariables false

/-- What Clone leaves. -/
def Cloned (e : TypeId) (n : Nat) (xs : List Value) (v : Value) (w w' : World) : Prop := Row w' (Plus Noth w w') e 1 v n xs ∧ Only Noth w w'

theorem eq_nil (a : Option Addr) (n c : Nat) (w : World) : (binOp .eql 22 (.slice a n c) (.slice none 0 0)).run Try.prog w = .ok (.bool a.isNone) w :=
  Lib.run_eql_slice_nil w 22 5 a n c 0 0 Try.underlying22

theorem clone_nil (w : World) : Calls Try.prog 30 #[.slice none 0 0] w fun e w' => e = .returned (.slice none 0 0) ∧ w = w' := by
  have h := eq_nil none 0 0
  go_enter Try.func30, Try.ntmps30
  go_wp2
  go_ret
  exact ⟨rfl, rfl⟩

theorem clone_some (a : Addr) (n c : Nat) (S : Nat → Prop) (xs : List Value) (w : World) (hs : Src w S 1 (some a) n xs) (h1 : ∀ u ∈ xs, u.oneCell' = true) (hn : n ≤ 1000000000) :
    Calls Try.prog 30 #[.slice (some a) n c] w fun e w' => ∃ v, e = .returned v ∧ Cloned 5 n xs v w w' := by
  obtain ⟨i0, hi, hz0, hz1, hz2⟩ := info_parts u8info
  have h := eq_nil (some a) n c
  have HS := Lib.hid (hs.alloc (.cells #[] 5))
  have H1 := Lib.hid h1
  clear hs h1
  go_enter Try.func30, Try.ntmps30
  go_wp2_with (at_builtin; refine wpList_append_row _ rfl (.tmp 5) (.tmp 6) 22 rfl 5 i0 (.int .u8 0) 1 1 Try.underlying22 hi hz0 hz1 hz2 rfl Noth S _ 0 [] rfl (Row.empty _ _ _ _ (some ⟨w.heap.size, 0, none⟩)) (some a) n c xs rfl HS.out H1.out (by simp only [maxLen]; omega) (by omega) ?_; intro v' w' hrow honly hsz; have HR := Lib.hid hrow; have HO := Lib.hid honly; clear hrow honly hsz)
  go_ret
  refine ⟨v', rfl, ?_, ((Only.refl Noth w).alloc _).trans HO.out (fun _ h _ => h)⟩
  have hr := HR.out
  rw [Nat.zero_add, List.nil_append] at hr
  refine hr.mono (fun k hk _ => ?_)
  rcases hk with hk | ⟨h1, h2⟩
  · exact hk.elim
  · exact .inr ⟨by simp at h1; omega, h2⟩

theorem clone_any (A : Option Addr) (n c : Nat) (S : Nat → Prop) (xs : List Value) (w : World) (hA : A = none → n = 0 ∧ c = 0) (hs : Src w S 1 A n xs) (h1 : ∀ u ∈ xs, u.oneCell' = true) (hn : n ≤ 1000000000) :
    Calls Try.prog 30 #[.slice A n c] w fun e w' => ∃ v, e = .returned v ∧ Cloned 5 n xs v w w' := by
  cases A with
  | some a => exact clone_some a n c S xs w hs h1 hn
  | none =>
    obtain ⟨rfl, rfl⟩ := hA rfl
    have hx : xs = [] := List.eq_nil_of_length_eq_zero (by simpa using hs.1)
    subst hx
    refine (clone_nil w).mono fun e w' h => ?_
    obtain ⟨rfl, rfl⟩ := h
    exact ⟨_, rfl, Row.nil _ _ _ _, Only.refl _ _⟩

theorem Cloned.undrew {e : TypeId} {n : Nat} {xs : List Value} {v : Value} {w w' : World} (h : Cloned e n xs v w.drew w') : Cloned e n xs v w w' := ⟨h.1, h.2.undrew⟩

/-- What Swap's closure leaves. -/
def SwapLeft (b m : Nat) (news : List Value) (vl : Value) (sf cp op fu : Int) (dn dw : Bool) (w w' : World) : Prop :=
  ∃ v, Hld w' b 56 (dcells v vl sf cp op fu dn dw) ∧ Row w' (Plus Noth w w') 5 1 v m news ∧ Only (fun k => k = b) w w'

theorem swap_left {b m : Nat} {news : List Value} {vs vl v : Value} {sf cp op fu : Int} {dn dw : Bool} {w w1 w' : World} (hd : Hld w b 56 (dcells vs vl sf cp op fu dn dw))
    (h : Cloned 5 m news v w w1) (hw : w' = w1.setCell ⟨b, 0, none⟩ v) : SwapLeft b m news vl sf cp op fu dn dw w w' := by
  subst hw
  have hlt := hd.lt
  have hd1 := hd.only h.2 (fun h => h)
  have hz : (w1.setCell ⟨b, 0, none⟩ v).heap.size = w1.heap.size := by simp [World.setCell]
  refine ⟨v, by simpa [dcells] using hd1.set_ 0 v, ?_, ?_⟩
  · refine (h.1.setCell (p := ⟨b, 0, none⟩) ?_ v).mono (fun k hk _ => ?_)
    · rintro (h | ⟨h, _⟩)
      · exact h
      · exact absurd h (Nat.not_le.mpr hlt)
    · rcases hk with h | h
      · exact .inl h
      · exact .inr (by rw [hz]; exact h)
  · exact (Only.mono (G := fun k => k = b) h.2 (fun j hj _ => hj.elim)).setCell (p := ⟨b, 0, none⟩) (fun _ => rfl) v

theorem swap_cl (p q b m c : Nat) (A : Option Addr) (S : Nat → Prop) (news : List Value) (vs vl : Value) (sf cp op fu : Int) (dn dw : Bool) (w : World)
    (hp : w.cell? ⟨p, 0, none⟩ = some (.pointer (some ⟨b, 0, none⟩))) (hq : w.cell? ⟨q, 0, none⟩ = some (.slice A m c)) (hd : Hld w b 56 (dcells vs vl sf cp op fu dn dw))
    (hA : A = none → m = 0 ∧ c = 0) (hs : Src w S 1 A m news) (h1 : ∀ u ∈ news, u.oneCell' = true) (hm : m ≤ 1000000000) :
    Calls Try.prog 31 #[.pointer (some ⟨q, 0, none⟩), .pointer (some ⟨p, 0, none⟩)] w fun e w' => e = .returned (.tuple #[]) ∧ SwapLeft b m news vl sf cp op fu dn dw w w' := by
  obtain ⟨⟨c0, c1, c2, c3⟩, c4, c5, c6, c7⟩ := dcells_at hd
  have hpl := World.block_lt_of_cell? w _ hp
  have HC := Lib.hid (clone_any A m c S news w.drew hA hs.drew h1 hm)
  have HD := Lib.hid hd
  clear c1 c2 c3 c4 c5 c6 c7 hs hd hA h1
  go_enter Try.func31, Try.ntmps31
  go_region_with (go_at_call 30; refine HC.out.mono ?_; rintro e w' ⟨v, rfl, hcl⟩; obtain ⟨A', cap', hv'⟩ := hcl.1.shape; subst hv'; have hd1 := (HD.out.drew).only hcl.2 (fun h => h); have hc1 := (dcells_at hd1).1.1; have hf1 := hd1.free 0; have hp1 := (hcl.2.cell (p := ⟨p, 0, none⟩) hpl (fun h => h)).trans hp; have HL := Lib.hid hcl; clear hd1 hcl)
  all_goals (go_end0; exact ⟨rfl, swap_left HD.out HL.out.undrew rfl⟩)

theorem cut_cl (p q b n c k : Nat) (A : Option Addr) (vs : Value) (sf cp op fu : Int) (dn dw : Bool) (w : World)
    (hp : w.cell? ⟨p, 0, none⟩ = some (.pointer (some ⟨b, 0, none⟩))) (hq : w.cell? ⟨q, 0, none⟩ = some (.int .i64 (k : Int))) (hd : Hld w b 56 (dcells vs (.slice A n c) sf cp op fu dn dw))
    (hpb : p ≠ b) (hqb : q ≠ b) (hk : k ≤ n) (hn : n ≤ 1000000000) (hc : n ≤ c) :
    Calls Try.prog 32 #[.pointer (some ⟨p, 0, none⟩), .pointer (some ⟨q, 0, none⟩)] w fun e w' => e = .returned (.tuple #[]) ∧
      ∃ j, w' = ((w.setCell ⟨b, 1, none⟩ (.slice A k k)).setCell ⟨b, 2, none⟩ (.int .i64 (min sf k))).drewN j := by
  obtain ⟨⟨c0, c1, c2, c3⟩, c4, c5, c6, c7⟩ := dcells_at hd
  have f1 := hd.free 1
  have f2 := hd.free 2
  have hkc : k ≤ c := by omega
  clear c0 c3 c4 c5 c6 c7 hd
  rcases Int.lt_or_le sf k with h | h
  · have e : min sf (k : Int) = sf := by omega
    rw [e]
    clear e
    go_enter Try.func32, Try.ntmps32
    go_wp2
    go_region
    all_goals go_wp2
    go_region
    all_goals (go_end0; exact ⟨rfl, 2, rfl⟩)
  · have e : min sf (k : Int) = k := by omega
    rw [e]
    clear e
    rcases Int.lt_or_eq_of_le h with h | rfl
    · go_enter Try.func32, Try.ntmps32
      go_wp2
      go_region
      all_goals go_wp2
      go_region
      all_goals (go_end0; exact ⟨rfl, 2, rfl⟩)
    go_enter Try.func32, Try.ntmps32
    go_wp2
    go_region
    all_goals go_wp2
    go_region
    all_goals (go_end0; exact ⟨rfl, 2, rfl⟩)

theorem safe_any (b : Nat) (sf : Int) (w : World) (c2 : w.cell? ⟨b, 2, none⟩ = some (.int .i64 sf)) :
    Calls Try.prog 19 #[.pointer (some ⟨b, 0, none⟩)] w fun e w' => e = .returned (.int .i64 sf) ∧ w = w' := by
  go_enter Try.func19, Try.ntmps19
  go_wp2
  go_ret
  exact ⟨rfl, rfl⟩
theorem ops_any (b : Nat) (op : Int) (w : World) (c4 : w.cell? ⟨b, 4, none⟩ = some (.int .i64 op)) :
    Calls Try.prog 24 #[.pointer (some ⟨b, 0, none⟩)] w fun e w' => e = .returned (.int .i64 op) ∧ w = w' := by
  go_enter Try.func24, Try.ntmps24
  go_wp2
  go_ret
  exact ⟨rfl, rfl⟩
theorem down_any (b : Nat) (dw : Bool) (w : World) (c7 : w.cell? ⟨b, 7, none⟩ = some (.bool dw)) :
    Calls Try.prog 25 #[.pointer (some ⟨b, 0, none⟩)] w fun e w' => e = .returned (.bool dw) ∧ w = w' := by
  go_enter Try.func25, Try.ntmps25
  go_wp2
  go_ret
  exact ⟨rfl, rfl⟩
theorem safe_nil (w : World) : Calls Try.prog 19 #[.pointer none] w fun e w' => e = .returned (.int .i64 0) ∧ w = w' := by
  go_enter Try.func19, Try.ntmps19
  go_wp2
  go_ret
  exact ⟨rfl, rfl⟩
theorem ops_nil (w : World) : Calls Try.prog 24 #[.pointer none] w fun e w' => e = .returned (.int .i64 0) ∧ w = w' := by
  go_enter Try.func24, Try.ntmps24
  go_wp2
  go_ret
  exact ⟨rfl, rfl⟩
theorem down_nil (w : World) : Calls Try.prog 25 #[.pointer none] w fun e w' => e = .returned (.bool false) ∧ w = w' := by
  go_enter Try.func25, Try.ntmps25
  go_wp2
  go_ret
  exact ⟨rfl, rfl⟩
theorem fail_ok (b : Nat) (n : Int) (dn : Bool) (u5 u6 : Value) (w : World) (hn : 0 ≤ n) (c7 : w.cell? ⟨b, 7, none⟩ = some (.bool false)) (c5 : w.cell? ⟨b, 5, none⟩ = some u5) (f5 : w.frozen? ⟨b, 5, none⟩ = false) (c6 : w.cell? ⟨b, 6, none⟩ = some u6) (f6 : w.frozen? ⟨b, 6, none⟩ = false) :
    Calls Try.prog 16 #[.pointer (some ⟨b, 0, none⟩), .int .i64 n, .bool dn] w fun e w' => e = .returned (.int .i64 0) ∧ w' = (w.setCell ⟨b, 5, none⟩ (.int .i64 n)).setCell ⟨b, 6, none⟩ (.bool dn) := by
  go_enter Try.func16, Try.ntmps16
  go_wp2_with (go_at_call 26; refine (up_ok _ _ (by assumption)).mono ?_; rintro e w' ⟨rfl, rfl⟩)
  go_ret
  exact ⟨rfl, rfl⟩
theorem fail_arg (b : Nat) (n : Int) (dn : Bool) (w : World) (hn : n < 0) (c7 : w.cell? ⟨b, 7, none⟩ = some (.bool false)) :
    Calls Try.prog 16 #[.pointer (some ⟨b, 0, none⟩), .int .i64 n, .bool dn] w fun e w' => e = .returned (.int .i64 2) ∧ w = w' := by
  go_enter Try.func16, Try.ntmps16
  go_wp2_with (go_at_call 26; refine (up_ok _ _ (by assumption)).mono ?_; rintro e w' ⟨rfl, rfl⟩)
  go_ret
  exact ⟨rfl, rfl⟩
theorem fail_down (b : Nat) (n : Int) (dn : Bool) (w : World) (c7 : w.cell? ⟨b, 7, none⟩ = some (.bool true)) :
    Calls Try.prog 16 #[.pointer (some ⟨b, 0, none⟩), .int .i64 n, .bool dn] w fun e w' => e = .returned (.int .i64 12) ∧ w = w' := by
  go_enter Try.func16, Try.ntmps16
  go_wp2_with (go_at_call 26; refine (up_down _ _ (by assumption)).mono ?_; rintro e w' ⟨rfl, rfl⟩)
  go_ret
  exact ⟨rfl, rfl⟩
theorem fail_nil (n : Int) (dn : Bool) (w : World) :
    Calls Try.prog 16 #[.pointer none, .int .i64 n, .bool dn] w fun e w' => e = .returned (.int .i64 1) ∧ w = w' := by
  go_enter Try.func16, Try.ntmps16
  go_wp2_with (go_at_call 26; refine (up_nil _).mono ?_; rintro e w' ⟨rfl, rfl⟩)
  go_ret
  exact ⟨rfl, rfl⟩

theorem crash_nil (k : Int) (w : World) : Calls Try.prog 12 #[.pointer none, .int .i64 k] w fun e w' => e = .returned (.tuple #[]) ∧ w = w' := by
  go_enter Try.func12, Try.ntmps12
  go_wp2
  refine bodyPost_ret (results_none rfl _ _ _) rfl ?_
  exact ⟨rfl, rfl⟩

theorem crash_any (b n c s : Nat) (k : Int) (A : Option Addr) (vs : Value) (cp op fu : Int) (dn dw : Bool) (w : World) (hd : Hld w b 56 (dcells vs (.slice A n c) s cp op fu dn dw))
    (hsn : s ≤ n) (hn : n ≤ 1000000000) (hc : n ≤ c) :
    Calls Try.prog 12 #[.pointer (some ⟨b, 0, none⟩), .int .i64 k] w fun e w' => e = .returned (.tuple #[]) ∧
      ∃ j m, m = s + min (max k 0).toNat (n - s) ∧ w' = ((((w.setCell ⟨b, 2, none⟩ (.int .i64 (m : Nat))).setCell ⟨b, 1, none⟩ (.slice A m m)).setCell ⟨b, 5, none⟩ (.int .i64 (-1))).setCell ⟨b, 7, none⟩ (.bool false)).drewN j := by
  obtain ⟨⟨c0, c1, c2, c3⟩, c4, c5, c6, c7⟩ := dcells_at hd
  have f1 := hd.free 1
  have f2 := hd.free 2
  have f5 := hd.free 5
  have f7 := hd.free 7
  clear c0 c3 c4 c6 hd
  obtain ⟨m, hm⟩ : ∃ m, m = s + min (max k 0).toNat (n - s) := ⟨_, rfl⟩
  refine Calls.mono (R := fun e w' => e = .returned (.tuple #[]) ∧ ∃ j, w' = ((((w.setCell ⟨b, 2, none⟩ (.int .i64 (m : Nat))).setCell ⟨b, 1, none⟩ (.slice A m m)).setCell ⟨b, 5, none⟩ (.int .i64 (-1))).setCell ⟨b, 7, none⟩ (.bool false)).drewN j) ?_ (fun e w' ⟨h1, j, h2⟩ => ⟨h1, j, m, hm, h2⟩)
  rcases Int.lt_or_le k 0 with h | h
  · obtain rfl : m = s := by omega
    have H := Lib.hid hm
    clear hm
    have e1 : (0 : Int) ≤ (n : Int) - (m : Int) := by omega
    go_enter Try.func12, Try.ntmps12
    go_wp2
    go_region
    all_goals go_wp2
    go_region
    all_goals go_wp2
    all_goals (go_end0; exact ⟨rfl, 2, rfl⟩)
  · obtain ⟨t, rfl⟩ := Int.eq_ofNat_of_zero_le h
    rcases Nat.lt_or_ge (n - s) t with h2 | h2
    · obtain rfl : m = n := by omega
      have H := Lib.hid hm
      clear hm
      have e1 : (m : Int) - (s : Int) < (t : Int) := by omega
      have e2 : (s : Int) + ((m : Int) - (s : Int)) = m := by omega
      go_enter Try.func12, Try.ntmps12
      go_wp2
      go_region
      all_goals go_wp2
      go_region
      all_goals go_wp2
      all_goals (go_end0; exact ⟨rfl, 2, rfl⟩)
    · obtain rfl : m = s + t := by omega
      have H := Lib.hid hm
      clear hm
      have e1 : (t : Int) ≤ (n : Int) - (s : Int) := by omega
      have e2 : s + t ≤ n := by omega
      have e3 : s + t ≤ c := by omega
      go_enter Try.func12, Try.ntmps12
      go_wp2
      go_region
      all_goals go_wp2
      go_region
      all_goals go_wp2
      all_goals (go_end0; refine ⟨rfl, 2, ?_⟩; rw [Int.natCast_add]; rfl)
end Go.Proofs.Ytibeblibminjfaa
