/- The document's reader: number. -/
import Derived.Test.YtemeglofblnnmaaDoorRefUZ
import Derived.Lib.IndexBytes
namespace Go.Proofs.YtemeglofblnnmaaDoor
open Go.RowKit Go.Lib
set_option linter.unusedVariables false
set_option maxRecDepth 100000
attribute [local go_sem ↓] Go.wp_at_zero Go.wp_at_succ

def isDig (c : UInt8) : Prop := 48 ≤ c.toNat ∧ c.toNat ≤ 57
/-- The number that digits say. -/
def dval (l : List UInt8) : Nat := l.foldl (fun a c => 10 * a + (c.toNat - 48)) 0
theorem dval_snoc (l : List UInt8) (c : UInt8) : dval (l ++ [c]) = 10 * dval l + (c.toNat - 48) := by simp [dval]
theorem dval_fold (l : List UInt8) (h : ∀ c ∈ l, isDig c) : ∀ a : Nat, l.foldl (fun a c => 10 * a + (c.toNat - 48)) a < (a + 1) * 10 ^ l.length := by
  induction l with
  | nil => intro a; simp
  | cons c t ih =>
    intro a
    have h1 := ih (fun d hd => h d (List.mem_cons_of_mem _ hd)) (10 * a + (c.toNat - 48))
    have h2 := h c (by simp)
    unfold isDig at h2
    simp only [List.foldl_cons, List.length_cons]
    refine Nat.lt_of_lt_of_le h1 ?_
    rw [Nat.pow_succ, Nat.mul_comm (10 ^ t.length) 10, ← Nat.mul_assoc]
    exact Nat.mul_le_mul_right _ (by omega)
theorem dval_lt (l : List UInt8) (h : ∀ c ∈ l, isDig c) : dval l < 10 ^ l.length := by
  have := dval_fold l h 0
  simpa [dval] using this
theorem dval_dec (m : Nat) : dval (decDigits m) = m := by
  induction m using Nat.strongRecOn with
  | _ m ih =>
    by_cases h : m < 10
    · rw [decDigits, dif_pos h]
      simp only [dval, List.foldl_cons, List.foldl_nil]
      rw [ofNat_toNat_dig h]; omega
    · rw [dec_step h, dval_snoc, ih (m / 10) (by omega), ofNat_toNat_dig (by omega)]; omega
def neg? (s : List UInt8) : Bool := match s with
  | c :: _ => c == 45
  | [] => false
def body (s : List UInt8) : List UInt8 := if neg? s then s.drop 1 else s
theorem body_itoa {n : Int} {s : List UInt8} (h0 : -9223372036854775808 ≤ n) (h1 : n ≤ 9223372036854775807) (h : itoa n = s) :
    body s = decDigits n.natAbs ∧ (neg? s = true ↔ n < 0) := by
  subst h
  unfold itoa
  by_cases hn : n < 0
  · rw [if_pos hn]
    simp [body, neg?, hn]
  · rw [if_neg hn]
    have hd := dec_digits n.toNat
    have e : n.natAbs = n.toNat := by omega
    rw [e]
    cases hx : decDigits n.toNat with
    | nil => exact absurd hx (dec_ne _)
    | cons c t =>
      have := hd c (by rw [hx]; simp)
      have h45 : (c == 45) = false := by
        rw [beq_eq_false_iff_ne]
        rintro rfl
        revert this; decide
      simp [body, neg?, h45, hn]
theorem num_body {s : List UInt8} {n : Int} (h : num s = some n) : (∀ c ∈ body s, isDig c) ∧ (body s).length ≤ 19 ∧ dval (body s) = n.natAbs ∧ (neg? s = true ↔ n < 0) ∧ -9223372036854775808 ≤ n ∧ n ≤ 9223372036854775807 ∧ itoa n = s := by
  obtain ⟨h0, h1, h2⟩ := num_some.1 h
  obtain ⟨e1, e2⟩ := body_itoa h0 h1 h2
  rw [e1]
  refine ⟨dec_digits _, ?_, dval_dec _, e2, h0, h1, h2⟩
  rw [decDigits_length]
  exact nd_le _ 18 (by omega)
/-- The number that number tells of digits that say v. -/
def numX (neg : Bool) (v : Nat) : Int := if neg then wrap64 (-(wrap64 v)) else wrap64 v
theorem numX_t (v : Nat) : numX true v = wrap64 (-(wrap64 v)) := by unfold numX; rw [if_pos rfl]
theorem numX_f (v : Nat) : numX false v = wrap64 v := by unfold numX; rw [if_neg (by decide)]
theorem wrap_range (n : Int) : -9223372036854775808 ≤ wrap64 n ∧ wrap64 n ≤ 9223372036854775807 := by unfold wrap64; omega
theorem wrap_in (n : Int) (h : -9223372036854775808 ≤ n ∧ n ≤ 9223372036854775807) : wrap64 n = n := by unfold wrap64; omega
theorem numX_of {s : List UInt8} {n : Int} (h : num s = some n) : numX (neg? s) (dval (body s)) = n := by
  obtain ⟨_, _, hv, hs, h0, h1, _⟩ := num_body h
  rw [hv]
  unfold numX
  by_cases hn : n < 0
  · rw [if_pos (hs.2 hn)]
    by_cases hm : n = -9223372036854775808
    · subst hm; decide +kernel
    · rw [wrap_in (n.natAbs : Int) (by omega), wrap_in _ (by omega)]; omega
  · rw [if_neg (fun h => hn (hs.1 h)), wrap_in _ (by omega)]; omega
theorem num_post {s : List UInt8} {x : Int} (hx : x = numX (neg? s) (dval (body s))) (h : itoa x = s → num s = some x) : True := trivial
/-- What number hands back. -/
def NumPost (s : List UInt8) (w : World) (e : Ending) (w' : World) : Prop := ∃ x : Int, e = .returned (.tuple #[.int .i64 x, .bool (num s).isSome]) ∧ (∀ n, num s = some n → x = n) ∧ w = w'
theorem numPost_none {s : List UInt8} {w : World} (x : Int) (h : num s = none) : NumPost s w (.returned (.tuple #[.int .i64 x, .bool false])) w := ⟨x, by rw [h]; rfl, fun n hn => by rw [h] at hn; (cases hn), rfl⟩
theorem numPost_any {s : List UInt8} {w : World} (S : ByteArray) (hS : S.data.toList = s) (x : Int) (h0 : -9223372036854775808 ≤ x) (h1 : x ≤ 9223372036854775807) (h : ∀ n, num s = some n → x = n) (r : Bool) (hr : r = (itoa x == S.toList)) : NumPost s w (.returned (.tuple #[.int .i64 x, .bool r])) w := by
  rw [ByteArray.toList_eq, hS] at hr
  by_cases he : itoa x = s
  · have hn := num_some.2 ⟨h0, h1, he⟩
    exact ⟨x, by rw [hn, hr]; simp [he], h, rfl⟩
  · have hn : num s = none := by
      cases hn : num s with
      | none => rfl
      | some n =>
        have := h n hn
        subst this
        exact absurd (num_some.1 hn).2.2 he
    exact ⟨x, by rw [hn, hr]; simp [he], h, rfl⟩
theorem num_no_digit {s : List UInt8} {k : Nat} {d : UInt8} (hk : (body s)[k]? = some d) (hd : ¬ isDig d) : num s = none := by
  cases h : num s with
  | none => rfl
  | some n => exact absurd ((num_body h).1 d (List.mem_of_getElem? hk)) hd
theorem num_long {s : List UInt8} (h : 19 < (body s).length) : num s = none := by
  cases hn : num s with
  | none => rfl
  | some n => exact absurd (num_body hn).2.1 (by omega)

theorem head_of (S : ByteArray) (h0 : 0 < S.size) : ∃ t, S.data.toList = S[0] :: t := by
  have hsz : S.data.toList.length = S.size := rfl
  have hg : S.data.toList[0]? = some S[0] := by rw [List.getElem?_eq_getElem (by omega)]; rfl
  cases hx : S.data.toList with
  | nil => rw [hx] at hg; cases hg
  | cons a b => rw [hx] at hg; injection hg with hg; exact ⟨b, by rw [hg]⟩
set_option maxHeartbeats 4000000 in
theorem ref_number_neg (S : ByteArray) (hS : S.size ≤ 100) (h0 : 0 < S.size) (h45 : S[0] = 45) (w : World) :
    Calls Tryd.prog 48 #[.string S] w (NumPost S.data.toList w) := by
  have hsz : S.data.toList.length = S.size := rfl
  have hs2 : (S.size : Int) ≤ 100 := by omega
  have d0 : decide (0 < S.size) = true := by simpa using h0
  obtain ⟨t, ht⟩ := head_of S h0
  have HN := Lib.hid (show neg? S.data.toList = true by rw [ht]; simp [neg?, h45])
  obtain ⟨D, hD⟩ : ∃ D, S.extract 1 S.size = D := ⟨_, rfl⟩
  have HB := Lib.hid (show body S.data.toList = D.data.toList by unfold body; rw [HN.out, if_pos rfl, ← hD]; rw [Go.Lib.extract_to_end])
  have hDs : D.size + 1 = S.size := by
    have e1 : D.data.toList.length = D.size := rfl
    rw [← e1, ← HB.out, body, HN.out, if_pos rfl, List.length_drop]; omega
  have e45 : (((45 : UInt8).toNat : Int) == 45) = true := by decide
  clear ht
  go_enter Tryd.func48, Tryd.ntmps48
  go_wp2_with fail
  go_loop [6, 7] (fun n i => ∃ k v : Nat, k ≤ D.size ∧ k ≤ 19 ∧ i = .int .i64 k ∧ n = .int .u64 v ∧ v = dval (D.data.toList.take k) ∧ (∀ c ∈ D.data.toList.take k, isDig c)) (fun _ i => 100 - (RowKit.intOf i).toNat)
  case atStart => exact ⟨0, 0, by omega, by omega, rfl, rfl, by simp [dval], by simp⟩
  case round =>
    obtain ⟨k, v, hk, hk19, rfl, rfl, hv, hdig⟩ := hrel
    have HV := Lib.hid hv
    have HD := Lib.hid hdig
    have hk0 : (0 : Int) ≤ k := by omega
    have hv0 : (0 : Int) ≤ v := by omega
    have hdl : D.data.toList.length = D.size := rfl
    clear hv hdig
    by_cases hlt : k < D.size
    · have d1 : decide (k < D.size) = true := by simpa using hlt
      by_cases hk2 : k < 19
      · have d2 : decide ((k : Int) < 19) = true := by simp; omega
        obtain ⟨d, hd⟩ : ∃ d, D[k] = d := ⟨_, rfl⟩
        have hget : D.data.toList[k]? = some d := by rw [List.getElem?_eq_getElem (by omega), ← hd]; rfl
        have hdn : d.toNat ≤ 255 := by have := d.toNat_lt; omega
        have GET := Lib.hid hget
        have hvb : v < 1000000000000000000 := by
          rw [HV.out]
          have := dval_lt _ HD.out
          rw [List.length_take, hdl, Nat.min_eq_left (by omega)] at this
          exact Nat.lt_of_lt_of_le this (Nat.pow_le_pow_right (by omega) (by omega : k ≤ 18))
        clear hget
        by_cases hd1 : d.toNat < 48
        · have e1 : decide ((d.toNat : Int) < 48) = true := by simp; omega
          have e1' : decide (d.toNat < 48) = true := by simp; omega
          have NN := Lib.hid (num_no_digit (s := S.data.toList) (k := k) (d := d) (by rw [HB.out]; exact GET.out) (by unfold isDig; omega))
          go_wp2
          go_ret2
          exact numPost_none _ NN.out
        · have e1 : decide ((d.toNat : Int) < 48) = false := by simp; omega
          by_cases hd2 : 57 < d.toNat
          · have e2 : decide ((57 : Int) < d.toNat) = true := by simp; omega
            have NN := Lib.hid (num_no_digit (s := S.data.toList) (k := k) (d := d) (by rw [HB.out]; exact GET.out) (by unfold isDig; omega))
            go_wp2
            go_ret2
            exact numPost_none _ NN.out
          · have e2 : decide ((57 : Int) < d.toNat) = false := by simp; omega
            have b1 : (48 : Int) ≤ d.toNat := by omega
            have b2 : (d.toNat : Int) ≤ 57 := by omega
            have b3 : (v : Int) ≤ 999999999999999999 := by omega
            go_wp2
            go_round
            case rel =>
              refine ⟨k + 1, 10 * v + (d.toNat - 48), by omega, by omega, by go_num, by go_num, ?_, ?_⟩
              · rw [List.take_add_one, GET.out]; simp only [Option.toList_some]; rw [dval_snoc, ← HV.out]
              · rw [List.take_add_one, GET.out]
                intro c hc
                rcases List.mem_append.1 hc with hc | hc
                · exact HD.out c hc
                · simp at hc; subst hc; unfold isDig; omega
            case measure => simp [RowKit.intOf]; omega
      · have d2 : decide ((k : Int) < 19) = false := by simp; omega
        go_wp2_with fail
        refine (ref_told_v (wrap64 (-(wrap64 v))) (wrap_range (-(wrap64 v))).1 (wrap_range (-(wrap64 v))).2 _ rfl _).mono ?_
        rintro e w' ⟨rfl, rfl⟩
        go_wp2_with fail
        go_ret2
        refine numPost_any S rfl _ (wrap_range (-(wrap64 v))).1 (wrap_range (-(wrap64 v))).2 (fun n hn => ?_) _ rfl
        have h1 := num_body hn
        have h2 := h1.2.1
        rw [HB.out, hdl] at h2
        rw [← numX_of hn, HB.out, HN.out, ← show D.data.toList.take k = D.data.toList by rw [List.take_of_length_le (by omega)], ← HV.out]
        exact (numX_t v).symm
    · obtain rfl : k = D.size := by omega
      go_wp2_with fail
      refine (ref_told_v (wrap64 (-(wrap64 v))) (wrap_range (-(wrap64 v))).1 (wrap_range (-(wrap64 v))).2 _ rfl _).mono ?_
      rintro e w' ⟨rfl, rfl⟩
      go_wp2_with fail
      go_ret2
      refine numPost_any S rfl _ (wrap_range (-(wrap64 v))).1 (wrap_range (-(wrap64 v))).2 (fun n hn => ?_) _ rfl
      rw [← numX_of hn, HB.out, HN.out, ← show D.data.toList.take D.size = D.data.toList by rw [List.take_of_length_le (by omega)], ← HV.out]
      exact (numX_t v).symm
set_option maxHeartbeats 4000000 in
theorem ref_number_pos (S : ByteArray) (hS : S.size ≤ 100) (h0 : 0 < S.size) (h45 : ¬ S[0] = 45) (w : World) :
    Calls Tryd.prog 48 #[.string S] w (NumPost S.data.toList w) := by
  have hsz : S.data.toList.length = S.size := rfl
  have hs2 : (S.size : Int) ≤ 100 := by omega
  have d0 : decide (0 < S.size) = true := by simpa using h0
  obtain ⟨t, ht⟩ := head_of S h0
  have HN := Lib.hid (show neg? S.data.toList = false by rw [ht]; simpa [neg?] using h45)
  have HB := Lib.hid (show body S.data.toList = S.data.toList by unfold body; rw [HN.out]; rfl)
  obtain ⟨c0, hc0⟩ : ∃ c, S[0] = c := ⟨_, rfl⟩
  rw [hc0] at h45
  have e45 : ((c0.toNat : Int) == 45) = false := by
    rw [beq_eq_false_iff_ne]
    intro h
    exact h45 (UInt8.toNat_inj.1 (by show c0.toNat = 45; omega))
  clear ht h45
  go_enter Tryd.func48, Tryd.ntmps48
  go_wp2_with fail
  go_loop [6, 7] (fun n i => ∃ k v : Nat, k ≤ S.size ∧ k ≤ 19 ∧ i = .int .i64 k ∧ n = .int .u64 v ∧ v = dval (S.data.toList.take k) ∧ (∀ c ∈ S.data.toList.take k, isDig c)) (fun _ i => 100 - (RowKit.intOf i).toNat)
  case atStart => exact ⟨0, 0, by omega, by omega, rfl, rfl, by simp [dval], by simp⟩
  case round =>
    obtain ⟨k, v, hk, hk19, rfl, rfl, hv, hdig⟩ := hrel
    have HV := Lib.hid hv
    have HD := Lib.hid hdig
    have hk0 : (0 : Int) ≤ k := by omega
    have hv0 : (0 : Int) ≤ v := by omega
    have hdl : S.data.toList.length = S.size := rfl
    clear hv hdig
    by_cases hlt : k < S.size
    · have d1 : decide (k < S.size) = true := by simpa using hlt
      by_cases hk2 : k < 19
      · have d2 : decide ((k : Int) < 19) = true := by simp; omega
        obtain ⟨d, hd⟩ : ∃ d, S[k] = d := ⟨_, rfl⟩
        have hget : S.data.toList[k]? = some d := by rw [List.getElem?_eq_getElem (by omega), ← hd]; rfl
        have hdn : d.toNat ≤ 255 := by have := d.toNat_lt; omega
        have GET := Lib.hid hget
        have hvb : v < 1000000000000000000 := by
          rw [HV.out]
          have := dval_lt _ HD.out
          rw [List.length_take, hdl, Nat.min_eq_left (by omega)] at this
          exact Nat.lt_of_lt_of_le this (Nat.pow_le_pow_right (by omega) (by omega : k ≤ 18))
        clear hget
        by_cases hd1 : d.toNat < 48
        · have e1 : decide ((d.toNat : Int) < 48) = true := by simp; omega
          have e1' : decide (d.toNat < 48) = true := by simp; omega
          have NN := Lib.hid (num_no_digit (s := S.data.toList) (k := k) (d := d) (by rw [HB.out]; exact GET.out) (by unfold isDig; omega))
          go_wp2
          go_ret2
          exact numPost_none _ NN.out
        · have e1 : decide ((d.toNat : Int) < 48) = false := by simp; omega
          by_cases hd2 : 57 < d.toNat
          · have e2 : decide ((57 : Int) < d.toNat) = true := by simp; omega
            have NN := Lib.hid (num_no_digit (s := S.data.toList) (k := k) (d := d) (by rw [HB.out]; exact GET.out) (by unfold isDig; omega))
            go_wp2
            go_ret2
            exact numPost_none _ NN.out
          · have e2 : decide ((57 : Int) < d.toNat) = false := by simp; omega
            have b1 : (48 : Int) ≤ d.toNat := by omega
            have b2 : (d.toNat : Int) ≤ 57 := by omega
            have b3 : (v : Int) ≤ 999999999999999999 := by omega
            go_wp2
            go_round
            case rel =>
              refine ⟨k + 1, 10 * v + (d.toNat - 48), by omega, by omega, by go_num, by go_num, ?_, ?_⟩
              · rw [List.take_add_one, GET.out]; simp only [Option.toList_some]; rw [dval_snoc, ← HV.out]
              · rw [List.take_add_one, GET.out]
                intro c hc
                rcases List.mem_append.1 hc with hc | hc
                · exact HD.out c hc
                · simp at hc; subst hc; unfold isDig; omega
            case measure => simp [RowKit.intOf]; omega
      · have d2 : decide ((k : Int) < 19) = false := by simp; omega
        go_wp2_with fail
        refine (ref_told_v (wrap64 v) (wrap_range v).1 (wrap_range v).2 _ rfl _).mono ?_
        rintro e w' ⟨rfl, rfl⟩
        go_wp2_with fail
        go_ret2
        refine numPost_any S rfl _ (wrap_range v).1 (wrap_range v).2 (fun n hn => ?_) _ rfl
        have h1 := num_body hn
        have h2 := h1.2.1
        rw [HB.out, hdl] at h2
        rw [← numX_of hn, HB.out, HN.out, ← show S.data.toList.take k = S.data.toList by rw [List.take_of_length_le (by omega)], ← HV.out]
        exact (numX_f v).symm
    · obtain rfl : k = S.size := by omega
      go_wp2_with fail
      refine (ref_told_v (wrap64 v) (wrap_range v).1 (wrap_range v).2 _ rfl _).mono ?_
      rintro e w' ⟨rfl, rfl⟩
      go_wp2_with fail
      go_ret2
      refine numPost_any S rfl _ (wrap_range v).1 (wrap_range v).2 (fun n hn => ?_) _ rfl
      rw [← numX_of hn, HB.out, HN.out, ← show S.data.toList.take S.size = S.data.toList by rw [List.take_of_length_le (by omega)], ← HV.out]
      exact (numX_f v).symm
set_option maxHeartbeats 4000000 in
theorem ref_number_nil (S : ByteArray) (hS : S.size ≤ 100) (h0 : ¬ 0 < S.size) (w : World) :
    Calls Tryd.prog 48 #[.string S] w (NumPost S.data.toList w) := by
  have hsz : S.data.toList.length = S.size := rfl
  have hs2 : (S.size : Int) ≤ 100 := by omega
  have d0 : decide (0 < S.size) = false := by simpa using h0
  have hnil : S.data.toList = [] := List.eq_nil_of_length_eq_zero (by omega)
  have HN := Lib.hid (show neg? S.data.toList = false by rw [hnil]; rfl)
  have HB := Lib.hid (show body S.data.toList = S.data.toList by unfold body; rw [HN.out]; rfl)
  clear hnil
  go_enter Tryd.func48, Tryd.ntmps48
  go_wp2_with fail
  go_loop [6, 7] (fun n i => ∃ k v : Nat, k ≤ S.size ∧ k ≤ 19 ∧ i = .int .i64 k ∧ n = .int .u64 v ∧ v = dval (S.data.toList.take k) ∧ (∀ c ∈ S.data.toList.take k, isDig c)) (fun _ i => 100 - (RowKit.intOf i).toNat)
  case atStart => exact ⟨0, 0, by omega, by omega, rfl, rfl, by simp [dval], by simp⟩
  case round =>
    obtain ⟨k, v, hk, hk19, rfl, rfl, hv, hdig⟩ := hrel
    have HV := Lib.hid hv
    have HD := Lib.hid hdig
    have hk0 : (0 : Int) ≤ k := by omega
    have hv0 : (0 : Int) ≤ v := by omega
    have hdl : S.data.toList.length = S.size := rfl
    clear hv hdig
    obtain rfl : k = S.size := by omega
    go_wp2_with fail
    refine (ref_told_v (wrap64 v) (wrap_range v).1 (wrap_range v).2 _ rfl _).mono ?_
    rintro e w' ⟨rfl, rfl⟩
    go_wp2_with fail
    go_ret2
    refine numPost_any S rfl _ (wrap_range v).1 (wrap_range v).2 (fun n hn => ?_) _ rfl
    rw [← numX_of hn, HB.out, HN.out, ← show S.data.toList.take S.size = S.data.toList by rw [List.take_of_length_le (by omega)], ← HV.out]
    exact (numX_f v).symm
theorem ref_number (S : ByteArray) (hS : S.size ≤ 100) (w : World) : Calls Tryd.prog 48 #[.string S] w (NumPost S.data.toList w) := by
  by_cases h0 : 0 < S.size
  · by_cases h45 : S[0] = 45
    · exact ref_number_neg S hS h0 h45 w
    · exact ref_number_pos S hS h0 h45 w
  · exact ref_number_nil S hS h0 w
end Go.Proofs.YtemeglofblnnmaaDoor
