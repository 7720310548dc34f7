/- The walk of NflogCalm. -/
import Derived.Test.YtgclhkknkppmbaaDoorNflD
namespace Go.Proofs.YtgclhkknkppmbaaDoor
open Go.RowKit Go.Lib
set_option linter.unusedVariables false
set_option maxRecDepth 100000
attribute [local go_sem ↓] Go.wp_at_zero Go.wp_at_succ

theorem cntF_nonneg (len : Int) (k : Nat) : ∀ (r : Rd) (f s : Int), 0 ≤ f → 0 ≤ (cntF len k r f s).1 := by
  induction k with
  | zero => intro r f s h; simp [cntF]
  | succ k ih =>
    intro r f s h
    simp only [cntF]
    split
    · split
      · simp
      · split
        · exact ih _ _ _ (by omega)
        · exact ih _ _ _ h
    · split
      · simp
      · exact h
theorem counts_nonneg (l : List UInt8) : 0 ≤ (counts l).1 := cntF_nonneg _ _ _ _ _ (by decide)
theorem group_counts' (s : ByteArray) (hs : s.size ≤ 140737488355000) (a b : Int) (ha : (counts s.data.toList).1 = a) (hb : (counts s.data.toList).2 = b) (w : World) (he : Env w) :
    Calls Tryd.prog 29 #[.string s] w fun e w' => e = .returned (.tuple #[.int .i64 a, .int .i64 b]) ∧ Only Noth w w' := by subst ha; subst hb; exact group_counts s hs w he

theorem Hld.three {w : World} {g : Nat} {t : TypeId} {a b c : Value} (h : Hld w g t #[a, b, c]) : w.cell? ⟨g, 0, none⟩ = some a ∧ w.cell? ⟨g, 1, none⟩ = some b ∧ w.cell? ⟨g, 2, none⟩ = some c := ⟨h.cell 0, h.cell 1, h.cell 2⟩
theorem calm_walk (last : Ent) (was : Bool) (rev : ByteArray) (now rep : Int) (hl : last.val.size ≤ 9223372036854775807) (hr : rev.size ≤ 9223372036854775807) (hn0 : -9223372036854775808 ≤ now) (hn1 : now ≤ 9223372036854775807) (ht0 : -9223372036854775808 ≤ last.time) (ht1 : last.time ≤ 9223372036854775807) (w : World) (he : Env w) :
    Calls Tryd.prog 10 #[.agg #[.string last.key, .int .i64 last.time, .int .u16 last.org, .string last.val, .int .i64 last.til], .bool was, .agg #[.string rev, .int .i64 now, .int .i64 rep]] w fun e w' => e = .returned (.bool true) ∧ Only Noth w w' := by
  have OW := Lib.hid (((Only.refl Noth w).alloc (.cells #[.string last.key, .int .i64 last.time, .int .u16 last.org, .string last.val, .int .i64 last.til] 24)).alloc (.cells #[.string rev, .int .i64 now, .int .i64 rep] 43))
  have E := Lib.hid (he.noth OW.out)
  clear he
  by_cases hbig : 5000 < last.val.size ∨ 5000 < rev.size
  · rcases hbig with h | h
    · have h1 : (5000 : Int) < last.val.size := by omega
      go_enter Tryd.func10, Tryd.ntmps10
      go_wp2_with (go_at_call 22; refine (nfl_awake _ E.out).mono ?_; rintro e w1 ⟨rfl, ho⟩; have O1 := Lib.hid (OW.out.tr ho); clear ho)
      go_ret
      exact ⟨rfl, O1.out⟩
    · have h1 : (5000 : Int) < rev.size := by omega
      by_cases h2 : (5000 : Int) < last.val.size
      · go_enter Tryd.func10, Tryd.ntmps10
        go_wp2_with (go_at_call 22; refine (nfl_awake _ E.out).mono ?_; rintro e w1 ⟨rfl, ho⟩; have O1 := Lib.hid (OW.out.tr ho); clear ho)
        go_ret
        exact ⟨rfl, O1.out⟩
      · have h3 : decide ((5000 : Int) < last.val.size) = false := by simpa using h2
        go_enter Tryd.func10, Tryd.ntmps10
        go_wp2_with (go_at_call 22; refine (nfl_awake _ E.out).mono ?_; rintro e w1 ⟨rfl, ho⟩; have O1 := Lib.hid (OW.out.tr ho); clear ho)
        go_ret
        exact ⟨rfl, O1.out⟩
  · have g1 : ¬ (5000 : Int) < last.val.size := by omega
    have g2 : decide ((5000 : Int) < last.val.size) = false := by simpa using g1
    have g3 : ¬ (5000 : Int) < rev.size := by omega
    have g4 : decide ((5000 : Int) < rev.size) = false := by simpa using g3
    have HL := Lib.hid (show last.val.size ≤ 140737488355000 by omega)
    have HR := Lib.hid (show rev.size ≤ 140737488355000 by omega)
    obtain ⟨a, ha⟩ : ∃ a, (counts rev.data.toList).1 = a := ⟨_, rfl⟩
    obtain ⟨a', ha'⟩ : ∃ a, (counts rev.data.toList).2 = a := ⟨_, rfl⟩
    obtain ⟨b, hb⟩ : ∃ a, (counts last.val.data.toList).1 = a := ⟨_, rfl⟩
    obtain ⟨b', hb'⟩ : ∃ a, (counts last.val.data.toList).2 = a := ⟨_, rfl⟩
    have a0 : 0 ≤ a := by rw [← ha]; exact counts_nonneg _
    have b0 : 0 ≤ b := by rw [← hb]; exact counts_nonneg _
    have fa : firesB rev = decide (0 < a) := by unfold firesB; rw [ha]
    have fb : firesB last.val = decide (0 < b) := by unfold firesB; rw [hb]
    have CA := Lib.hid ha
    have CA' := Lib.hid ha'
    have CB := Lib.hid hb
    have CB' := Lib.hid hb'
    obtain ⟨n, hn⟩ : ∃ n, needB last was rev now rep = n := ⟨_, rfl⟩
    have CN := Lib.hid hn
    clear hbig ha ha' hb hb'
    cases n
    · clear hn fa fb
      have HE0 := Lib.hid ((Hld.new w 24 #[.string last.key, .int .i64 last.time, .int .u16 last.org, .string last.val, .int .i64 last.til]).alloc (.cells #[.string rev, .int .i64 now, .int .i64 rep] 43))
      have HS0 := Lib.hid (Hld.at_ (w.alloc (.cells #[.string last.key, .int .i64 last.time, .int .u16 last.org, .string last.val, .int .i64 last.til] 24)) 43 #[.string rev, .int .i64 now, .int .i64 rep] (w.heap.size + 1) (by simp))
      go_enter Tryd.func10, Tryd.ntmps10
      go_wp2_with fail
      refine (group_counts' rev HR.out _ _ CA.out CA'.out _ E.out).mono ?_
      rintro e w1 ⟨rfl, ho⟩
      have HE1 := Lib.hid (HE0.out.only ho (fun h => h))
      have HS1 := Lib.hid (HS0.out.only ho (fun h => h))
      obtain ⟨c10, c11, c12, c13, c14⟩ := HE1.out.five
      obtain ⟨d10, d11, d12⟩ := HS1.out.three
      have O1 := Lib.hid (OW.out.tr ho)
      have E1 := Lib.hid (E.out.noth ho)
      clear ho
      go_wp2_with fail
      refine (group_counts' last.val HL.out _ _ CB.out CB'.out _ E1.out).mono ?_
      rintro e w2 ⟨rfl, ho⟩
      have HE2 := Lib.hid (HE1.out.only ho (fun h => h))
      have HS2 := Lib.hid (HS1.out.only ho (fun h => h))
      obtain ⟨c20, c21, c22, c23, c24⟩ := HE2.out.five
      obtain ⟨d20, d21, d22⟩ := HS2.out.three
      have O2 := Lib.hid (O1.out.tr ho)
      have E2 := Lib.hid (E1.out.noth ho)
      clear ho
      go_wp2_with fail
      refine (nfl_need last _ rev now rep HR.out HL.out hn0 hn1 ht0 ht1 _ E2.out).mono ?_
      rintro e w3 ⟨rfl, ho⟩
      rw [CN.out]
      have HE3 := Lib.hid (HE2.out.only ho (fun h => h))
      have HS3 := Lib.hid (HS2.out.only ho (fun h => h))
      obtain ⟨c30, c31, c32, c33, c34⟩ := HE3.out.five
      obtain ⟨d30, d31, d32⟩ := HS3.out.three
      have O3 := Lib.hid (O2.out.tr ho)
      have E3 := Lib.hid (E2.out.noth ho)
      clear ho
      go_wp2_with (go_at_call 22; refine (nfl_awake _ E3.out).mono ?_; rintro e w4 ⟨rfl, ho⟩; have O4 := Lib.hid (O3.out.tr ho); clear ho)
      go_ret
      exact ⟨rfl, O4.out⟩
    · cases was
      · have h1 : firesB rev = true := hn
        have h2 : (a == 0) = false := by
          rw [fa] at h1
          have := of_decide_eq_true h1
          simp; omega
        clear hn fa fb h1
        have HE0 := Lib.hid ((Hld.new w 24 #[.string last.key, .int .i64 last.time, .int .u16 last.org, .string last.val, .int .i64 last.til]).alloc (.cells #[.string rev, .int .i64 now, .int .i64 rep] 43))
        have HS0 := Lib.hid (Hld.at_ (w.alloc (.cells #[.string last.key, .int .i64 last.time, .int .u16 last.org, .string last.val, .int .i64 last.til] 24)) 43 #[.string rev, .int .i64 now, .int .i64 rep] (w.heap.size + 1) (by simp))
        go_enter Tryd.func10, Tryd.ntmps10
        go_wp2_with fail
        refine (group_counts' rev HR.out _ _ CA.out CA'.out _ E.out).mono ?_
        rintro e w1 ⟨rfl, ho⟩
        have HE1 := Lib.hid (HE0.out.only ho (fun h => h))
        have HS1 := Lib.hid (HS0.out.only ho (fun h => h))
        obtain ⟨c10, c11, c12, c13, c14⟩ := HE1.out.five
        obtain ⟨d10, d11, d12⟩ := HS1.out.three
        have O1 := Lib.hid (OW.out.tr ho)
        have E1 := Lib.hid (E.out.noth ho)
        clear ho
        go_wp2_with fail
        refine (group_counts' last.val HL.out _ _ CB.out CB'.out _ E1.out).mono ?_
        rintro e w2 ⟨rfl, ho⟩
        have HE2 := Lib.hid (HE1.out.only ho (fun h => h))
        have HS2 := Lib.hid (HS1.out.only ho (fun h => h))
        obtain ⟨c20, c21, c22, c23, c24⟩ := HE2.out.five
        obtain ⟨d20, d21, d22⟩ := HS2.out.three
        have O2 := Lib.hid (O1.out.tr ho)
        have E2 := Lib.hid (E1.out.noth ho)
        clear ho
        go_wp2_with fail
        refine (nfl_need last _ rev now rep HR.out HL.out hn0 hn1 ht0 ht1 _ E2.out).mono ?_
        rintro e w3 ⟨rfl, ho⟩
        rw [CN.out]
        have HE3 := Lib.hid (HE2.out.only ho (fun h => h))
        have HS3 := Lib.hid (HS2.out.only ho (fun h => h))
        obtain ⟨c30, c31, c32, c33, c34⟩ := HE3.out.five
        obtain ⟨d30, d31, d32⟩ := HS3.out.three
        have O3 := Lib.hid (O2.out.tr ho)
        have E3 := Lib.hid (E2.out.noth ho)
        clear ho
        go_wp2_with (go_at_call 22; refine (nfl_awake _ E3.out).mono ?_; rintro e w4 ⟨rfl, ho⟩; have O4 := Lib.hid (O3.out.tr ho); clear ho)
        go_ret
        exact ⟨rfl, O4.out⟩
      · have h0 : ¬ now < last.time := by
          intro h
          unfold needB at hn
          rw [if_neg (by decide), if_pos h] at hn
          cases hn
        have h1 : decide (now < last.time) = false := by simpa using h0
        by_cases hz : a = 0
        · have h2 : (a == 0) = true := by simpa using hz
          have h3 : (b == 0) = false := by
            unfold needB at hn
            rw [if_neg (by decide), if_neg h0, fa, fb, hz] at hn
            split at hn
            · simp at hn
            · simp at hn; simp; omega
          have HZ := Lib.hid hz
          clear hn fa fb hz
          have HE0 := Lib.hid ((Hld.new w 24 #[.string last.key, .int .i64 last.time, .int .u16 last.org, .string last.val, .int .i64 last.til]).alloc (.cells #[.string rev, .int .i64 now, .int .i64 rep] 43))
          have HS0 := Lib.hid (Hld.at_ (w.alloc (.cells #[.string last.key, .int .i64 last.time, .int .u16 last.org, .string last.val, .int .i64 last.til] 24)) 43 #[.string rev, .int .i64 now, .int .i64 rep] (w.heap.size + 1) (by simp))
          go_enter Tryd.func10, Tryd.ntmps10
          go_wp2_with fail
          refine (group_counts' rev HR.out _ _ CA.out CA'.out _ E.out).mono ?_
          rintro e w1 ⟨rfl, ho⟩
          have HE1 := Lib.hid (HE0.out.only ho (fun h => h))
          have HS1 := Lib.hid (HS0.out.only ho (fun h => h))
          obtain ⟨c10, c11, c12, c13, c14⟩ := HE1.out.five
          obtain ⟨d10, d11, d12⟩ := HS1.out.three
          have O1 := Lib.hid (OW.out.tr ho)
          have E1 := Lib.hid (E.out.noth ho)
          clear ho
          go_wp2_with fail
          refine (group_counts' last.val HL.out _ _ CB.out CB'.out _ E1.out).mono ?_
          rintro e w2 ⟨rfl, ho⟩
          have HE2 := Lib.hid (HE1.out.only ho (fun h => h))
          have HS2 := Lib.hid (HS1.out.only ho (fun h => h))
          obtain ⟨c20, c21, c22, c23, c24⟩ := HE2.out.five
          obtain ⟨d20, d21, d22⟩ := HS2.out.three
          have O2 := Lib.hid (O1.out.tr ho)
          have E2 := Lib.hid (E1.out.noth ho)
          clear ho
          go_wp2_with fail
          refine (nfl_need last _ rev now rep HR.out HL.out hn0 hn1 ht0 ht1 _ E2.out).mono ?_
          rintro e w3 ⟨rfl, ho⟩
          rw [CN.out]
          have HE3 := Lib.hid (HE2.out.only ho (fun h => h))
          have HS3 := Lib.hid (HS2.out.only ho (fun h => h))
          obtain ⟨c30, c31, c32, c33, c34⟩ := HE3.out.five
          obtain ⟨d30, d31, d32⟩ := HS3.out.three
          have O3 := Lib.hid (O2.out.tr ho)
          have E3 := Lib.hid (E2.out.noth ho)
          clear ho
          go_wp2_with (go_at_call 22; refine (nfl_awake _ E3.out).mono ?_; rintro e w4 ⟨rfl, ho⟩; have O4 := Lib.hid (O3.out.tr ho); clear ho)
          go_ret
          exact ⟨rfl, O4.out⟩
        · have h2 : (a == 0) = false := by simpa using hz
          clear hn fa fb hz
          have HE0 := Lib.hid ((Hld.new w 24 #[.string last.key, .int .i64 last.time, .int .u16 last.org, .string last.val, .int .i64 last.til]).alloc (.cells #[.string rev, .int .i64 now, .int .i64 rep] 43))
          have HS0 := Lib.hid (Hld.at_ (w.alloc (.cells #[.string last.key, .int .i64 last.time, .int .u16 last.org, .string last.val, .int .i64 last.til] 24)) 43 #[.string rev, .int .i64 now, .int .i64 rep] (w.heap.size + 1) (by simp))
          go_enter Tryd.func10, Tryd.ntmps10
          go_wp2_with fail
          refine (group_counts' rev HR.out _ _ CA.out CA'.out _ E.out).mono ?_
          rintro e w1 ⟨rfl, ho⟩
          have HE1 := Lib.hid (HE0.out.only ho (fun h => h))
          have HS1 := Lib.hid (HS0.out.only ho (fun h => h))
          obtain ⟨c10, c11, c12, c13, c14⟩ := HE1.out.five
          obtain ⟨d10, d11, d12⟩ := HS1.out.three
          have O1 := Lib.hid (OW.out.tr ho)
          have E1 := Lib.hid (E.out.noth ho)
          clear ho
          go_wp2_with fail
          refine (group_counts' last.val HL.out _ _ CB.out CB'.out _ E1.out).mono ?_
          rintro e w2 ⟨rfl, ho⟩
          have HE2 := Lib.hid (HE1.out.only ho (fun h => h))
          have HS2 := Lib.hid (HS1.out.only ho (fun h => h))
          obtain ⟨c20, c21, c22, c23, c24⟩ := HE2.out.five
          obtain ⟨d20, d21, d22⟩ := HS2.out.three
          have O2 := Lib.hid (O1.out.tr ho)
          have E2 := Lib.hid (E1.out.noth ho)
          clear ho
          go_wp2_with fail
          refine (nfl_need last _ rev now rep HR.out HL.out hn0 hn1 ht0 ht1 _ E2.out).mono ?_
          rintro e w3 ⟨rfl, ho⟩
          rw [CN.out]
          have HE3 := Lib.hid (HE2.out.only ho (fun h => h))
          have HS3 := Lib.hid (HS2.out.only ho (fun h => h))
          obtain ⟨c30, c31, c32, c33, c34⟩ := HE3.out.five
          obtain ⟨d30, d31, d32⟩ := HS3.out.three
          have O3 := Lib.hid (O2.out.tr ho)
          have E3 := Lib.hid (E2.out.noth ho)
          clear ho
          go_wp2_with (go_at_call 22; refine (nfl_awake _ E3.out).mono ?_; rintro e w4 ⟨rfl, ho⟩; have O4 := Lib.hid (O3.out.tr ho); clear ho)
          go_ret
          exact ⟨rfl, O4.out⟩
end Go.Proofs.YtgclhkknkppmbaaDoor
