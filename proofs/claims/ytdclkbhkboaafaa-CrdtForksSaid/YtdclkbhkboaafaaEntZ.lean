/- Package entry: Above. -/
import Derived.Test.YtdclkbhkboaafaaEntPZ
import Derived.Deep.RegionHeld3
import Derived.Deep.DrawnRows
import Derived.Outline
import Derived.IntWalk
namespace Go.Proofs.Ytdclkbhkboaafaa
open Go.RowKit Go.Lib
set_option linter.unusedVariables false
attribute [local go_sem ↓] Go.wp_at_zero Go.wp_at_succ

/-- cmp.Compare. -/
theorem nan_u16 (x : Int) (w : World) : Calls Try.prog 52 #[.int .u16 x] w fun e w' => e = .returned (.bool false) ∧ w' = w := by
  go_enter Try.func52, Try.ntmps52
  go_wp2
  go_ret
  exact ⟨by simp, rfl⟩
theorem cmp_u16 (x y : Int) (w : World) : Calls Try.prog 42 #[.int .u16 x, .int .u16 y] w fun e w' => e = .returned (.int .i64 (compareInt x y)) ∧ w' = w := by
  rcases Int.lt_trichotomy x y with h | h | h
  · rw [show compareInt x y = -1 by unfold compareInt; rw [if_pos h]]
    go_enter Try.func42, Try.ntmps42
    go_wp2_with (go_at_call 52; refine (nan_u16 _ _).mono ?_; rintro e w' ⟨rfl, rfl⟩)
    go_ret
    exact ⟨rfl, rfl⟩
  · subst h
    rw [show compareInt x x = 0 by unfold compareInt; rw [if_neg (by omega), if_neg (by omega)]]
    go_enter Try.func42, Try.ntmps42
    go_wp2_with (go_at_call 52; refine (nan_u16 _ _).mono ?_; rintro e w' ⟨rfl, rfl⟩)
    go_ret
    exact ⟨rfl, rfl⟩
  · rw [show compareInt x y = 1 by unfold compareInt; rw [if_neg (by omega), if_pos h]]
    go_enter Try.func42, Try.ntmps42
    go_wp2_with (go_at_call 52; refine (nan_u16 _ _).mono ?_; rintro e w' ⟨rfl, rfl⟩)
    go_ret
    exact ⟨rfl, rfl⟩

/-- cmp.Or: the first that is not 0. -/
def orL : List Int → Int
  | [] => 0
  | x :: r => if x = 0 then orL r else x
theorem orL_at {l : List Int} {k : Nat} {x : Int} (hz : ∀ j, j < k → l[j]? = some 0) (hx : l[k]? = some x) (hn : x ≠ 0) : orL l = x := by
  induction l generalizing k with
  | nil => simp at hx
  | cons y r ih =>
    cases k with
    | zero => simp at hx; subst hx; simp [orL, hn]
    | succ k =>
      have h0 := hz 0 (by omega)
      simp at h0
      subst h0
      simp only [orL, if_true]
      exact ih (k := k) (fun j hj => by have := hz (j + 1) (by omega); simpa using this) (by simpa using hx)
theorem orL_zero {l : List Int} (hz : ∀ j, j < l.length → l[j]? = some 0) : orL l = 0 := by
  induction l with
  | nil => rfl
  | cons y r ih =>
    have h0 := hz 0 (by simp)
    simp at h0
    subst h0
    simp only [orL, if_true]
    exact ih (fun j hj => by have := hz (j + 1) (by simp; omega); simpa using this)
def AllZero (l : List Int) (k : Nat) : Prop := ∀ j, j < k → l[j]? = some 0
theorem or_int (ad : Addr) (c : Nat) (l : List Int) (w : World) (hs : Src w (fun k => k < w.heap.size) 1 (some ad) l.length (l.map (Value.int .i64))) (hl : l.length ≤ 9223372036854775807) :
    Calls Try.prog 40 #[.slice (some ad) l.length c] w fun e w' => e = .returned (.int .i64 (orL l)) ∧ w = w' := by
  have HS := Lib.hid hs
  clear hs
  go_enter Try.func40, Try.ntmps40
  go_wp2_with fail
  go_loop [8] (fun i => ∃ k : Nat, k ≤ l.length ∧ i = .int .i64 k ∧ AllZero l k) (fun i => l.length - (RowKit.intOf i).toNat)
  case atStart => exact ⟨0, Nat.zero_le _, rfl, fun j hj => absurd hj (by omega)⟩
  case round =>
    obtain ⟨k, hk, rfl, hz⟩ := hrel
    have HZ := Lib.hid hz
    clear hz
    by_cases hlt : k < l.length
    · obtain ⟨x, hx⟩ : ∃ x, l[k]? = some x := ⟨_, List.getElem?_eq_getElem hlt⟩
      have hcell : w.cell? (ad.add k) = some (.int .i64 x) := by
        obtain ⟨ad', he, _, hlt', hc⟩ := HS.out.2 (by omega)
        injection he with he
        subst he
        exact hc k _ (by rw [List.getElem?_map, hx]; rfl)
      have HX := Lib.hid hx
      clear hx
      by_cases h0 : x = 0
      · subst h0
        go_wp2
        refine ⟨⟨k + 1, by omega, by go_num, fun j hj => ?_⟩, by simp [RowKit.intOf]; omega⟩
        rcases Nat.lt_or_ge j k with h | h
        · exact HZ.out j h
        · obtain rfl : j = k := by omega
          exact HX.out
      · have h1 : (x == 0) = false := by simpa using h0
        have h2 : (x != 0) = true := by simpa using h0
        have HO := Lib.hid (orL_at HZ.out HX.out h0)
        go_wp2
        go_ret
        exact ⟨ret_num HO.out.symm, rfl⟩
    · have HO := Lib.hid (orL_zero (l := l) (fun j hj => HZ.out j (by omega)))
      obtain rfl : k = l.length := by omega
      go_wp2
      go_ret
      exact ⟨ret_num HO.out.symm, rfl⟩
/-- Which entry counts more. -/
def Ent.cmp (a b : Ent) : Int := orL [compareInt a.time b.time, compareInt a.org b.org, compareBytes a.val.data.toList b.val.data.toList, compareInt a.til b.til]
def Ent.above (a b : Ent) : Bool := decide (0 < a.cmp b)
theorem Ent.above_true {a b : Ent} (h : a.above b = true) : 0 < a.cmp b := of_decide_eq_true h
theorem cmpInt_le (x y : Int) : -1 ≤ compareInt x y ∧ compareInt x y ≤ 1 := by unfold compareInt; split; omega; split <;> omega
theorem cmpBytes_le (x y : List UInt8) : -1 ≤ compareBytes x y ∧ compareBytes x y ≤ 1 := by
  induction x generalizing y with
  | nil => cases y <;> simp [compareBytes]
  | cons a x ih =>
    cases y with
    | nil => simp [compareBytes]
    | cons b y =>
      simp only [compareBytes]
      split
      · omega
      · split
        · omega
        · exact ih y
theorem orL_cons (x : Int) (r : List Int) : orL (x :: r) = if x = 0 then orL r else x := rfl
theorem cmp_le (a b : Ent) : -1 ≤ a.cmp b ∧ a.cmp b ≤ 1 := by
  have h1 := cmpInt_le a.time b.time
  have h2 := cmpInt_le a.org b.org
  have h3 := cmpBytes_le a.val.data.toList b.val.data.toList
  have h4 := cmpInt_le a.til b.til
  unfold Ent.cmp
  simp only [orL_cons]
  split
  · split
    · split
      · split
        · simp [orL]
        · exact h4
      · exact h3
    · exact h2
  · exact h1

set_option maxRecDepth 100000 in
theorem entry_above (a b : Ent) (w : World) :
    Calls Try.prog 21 #[.agg #[.string a.key, .int .i64 a.time, .int .u16 a.org, .string a.val, .int .i64 a.til], .agg #[.string b.key, .int .i64 b.time, .int .u16 b.org, .string b.val, .int .i64 b.til]] w
      fun e w' => e = .returned (.bool (a.above b)) ∧ Only Noth w w' := by
  have hle := cmp_le a b
  have H := Lib.hid (show orL [compareInt a.time b.time, compareInt a.org b.org, compareBytes a.val.data.toList b.val.data.toList, compareInt a.til b.til] = a.cmp b from rfl)
  obtain ⟨n, hn⟩ : ∃ n, n = a.cmp b := ⟨_, rfl⟩
  have hnle : -1 ≤ n ∧ n ≤ 1 := by rw [hn]; exact hle
  have hA := Lib.hid (show a.above b = decide (0 < n) by rw [hn]; rfl)
  have HN := Lib.hid hn
  clear hn hle
  go_enter Try.func21, Try.ntmps21
  go_wp2_with fail
  go_region_held3 (fun w' => w'.cell? ⟨w.heap.size, 1, none⟩ = some (.int .i64 a.time) ∧ w'.cell? ⟨w.heap.size, 2, none⟩ = some (.int .u16 a.org) ∧ w'.cell? ⟨w.heap.size, 3, none⟩ = some (.string a.val) ∧ w'.cell? ⟨w.heap.size, 4, none⟩ = some (.int .i64 a.til) ∧
      w'.cell? ⟨w.heap.size + 1, 1, none⟩ = some (.int .i64 b.time) ∧ w'.cell? ⟨w.heap.size + 1, 2, none⟩ = some (.int .u16 b.org) ∧ w'.cell? ⟨w.heap.size + 1, 3, none⟩ = some (.string b.val) ∧ w'.cell? ⟨w.heap.size + 1, 4, none⟩ = some (.int .i64 b.til)) (go_keep)
    (first
      | (go_at_call 41; refine (Try.cmp_Compare_int _ _ _).mono ?_; rintro e w' ⟨rfl, rfl⟩)
      | (go_at_call 42; refine (cmp_u16 _ _ _).mono ?_; rintro e w' ⟨rfl, rfl⟩)
      | (go_at_call 43; refine (Try.strings_Compare _ _ _).mono ?_; rintro e w' ⟨rfl, rfl⟩)
      | (go_at_call 40; go_must (refine (or_int _ _ [compareInt a.time b.time, compareInt a.org b.org, compareBytes a.val.data.toList b.val.data.toList, compareInt a.til b.til] _ (srcb_made _ 3 _ 4 rfl _ (by simp) _ (by simp)) (by simp)).mono ?_); rintro e w' ⟨rfl, rfl⟩; rw [H.out, ← HN.out]))
  all_goals go_wp2
  all_goals go_ret
  all_goals exact ⟨ret_bool hA.out.symm, ((((Only.refl _ _).alloc _).alloc _).alloc _).drew⟩
end Go.Proofs.Ytdclkbhkboaafaa
