/- Package nflog: Need; awake. -/
import Derived.Test.YtgclhkknkppmbaaDoorNflB
import Derived.Deep.RegionWith
namespace Go.Proofs.YtgclhkknkppmbaaDoor
open Go.RowKit Go.Lib
set_option linter.unusedVariables false
set_option maxRecDepth 100000
attribute [local go_sem ↓] Go.wp_at_zero Go.wp_at_succ

def firesB (s : ByteArray) : Bool := decide (0 < (counts s.data.toList).1)
def needB (last : Ent) (was : Bool) (rev : ByteArray) (now rep : Int) : Bool :=
  if was = false then firesB rev else if now < last.time then false else if last.val = rev then firesB rev && (okT last.time && okT now && okT rep && decide (rep ≤ now - last.time)) else firesB rev || firesB last.val
theorem nfl_fires' (s : ByteArray) (hs : s.size ≤ 140737488355000) (b : Bool) (hb : firesB s = b) (w : World) (he : Env w) :
    Calls Tryd.prog 46 #[.string s] w fun e w' => e = .returned (.bool b) ∧ Only Noth w w' := by subst hb; exact nfl_fires s hs w he
section
variable (last : Ent) (rev : ByteArray) (now rep : Int) (hr : rev.size ≤ 140737488355000) (hl : last.val.size ≤ 140737488355000) (w : World) (he : Env w)
include hr hl he
theorem need_not : Calls Tryd.prog 27 #[.agg #[.string last.key, .int .i64 last.time, .int .u16 last.org, .string last.val, .int .i64 last.til], .bool false, .string rev, .int .i64 now, .int .i64 rep] w fun e w' => e = .returned (.bool (firesB rev)) ∧ Only Noth w w' := by
  have R := Lib.hid hr
  have L := Lib.hid hl
  have E := Lib.hid (he.noth ((Only.refl Noth w).alloc (.cells #[.string last.key, .int .i64 last.time, .int .u16 last.org, .string last.val, .int .i64 last.til] 24)))
  have HE := Lib.hid (Hld.new w 24 #[.string last.key, .int .i64 last.time, .int .u16 last.org, .string last.val, .int .i64 last.til])
  obtain ⟨b1, hb1⟩ : ∃ b1, firesB rev = b1 := ⟨_, rfl⟩
  obtain ⟨b2, hb2⟩ : ∃ b2, firesB last.val = b2 := ⟨_, rfl⟩
  try rw [hb1]
  try rw [hb2]
  have B1 := Lib.hid hb1
  have B2 := Lib.hid hb2
  clear hr hl he hb1 hb2
  go_enter Tryd.func27, Tryd.ntmps27
  go_wp2_with fail
  refine (nfl_fires' rev R.out _ B1.out _ E.out).mono ?_
  rintro e w1 ⟨rfl, ho⟩
  have HE1 := Lib.hid (HE.out.only ho (fun h => h))
  obtain ⟨c0, c1, c2, c3, c4⟩ := HE1.out.five
  have E1 := Lib.hid (E.out.noth ho)
  have HO := Lib.hid ((((Only.refl Noth w).alloc (.cells #[.string last.key, .int .i64 last.time, .int .u16 last.org, .string last.val, .int .i64 last.til] 24))).tr ho)
  clear ho
  go_wp2_with (first | (go_at_call 46; refine (nfl_fires' last.val L.out _ B2.out _ E1.out).mono ?_; rintro e w2 ⟨rfl, ho⟩; have HO := Lib.hid (HO.out.tr ho); clear ho) | (go_at_call 41; refine (nfl_time _ _).mono ?_; rintro e w2 ⟨rfl, rfl⟩; (first | rw [K1.out] | rw [K2.out] | rw [K3.out])))
  go_ret
  exact ⟨by first | rfl | (simp; done), HO.out⟩
theorem need_late (h : now < last.time) : Calls Tryd.prog 27 #[.agg #[.string last.key, .int .i64 last.time, .int .u16 last.org, .string last.val, .int .i64 last.til], .bool true, .string rev, .int .i64 now, .int .i64 rep] w fun e w' => e = .returned (.bool false) ∧ Only Noth w w' := by
  have R := Lib.hid hr
  have L := Lib.hid hl
  have E := Lib.hid (he.noth ((Only.refl Noth w).alloc (.cells #[.string last.key, .int .i64 last.time, .int .u16 last.org, .string last.val, .int .i64 last.til] 24)))
  have HE := Lib.hid (Hld.new w 24 #[.string last.key, .int .i64 last.time, .int .u16 last.org, .string last.val, .int .i64 last.til])
  obtain ⟨b1, hb1⟩ : ∃ b1, firesB rev = b1 := ⟨_, rfl⟩
  obtain ⟨b2, hb2⟩ : ∃ b2, firesB last.val = b2 := ⟨_, rfl⟩
  try rw [hb1]
  try rw [hb2]
  have B1 := Lib.hid hb1
  have B2 := Lib.hid hb2
  clear hr hl he hb1 hb2
  go_enter Tryd.func27, Tryd.ntmps27
  go_wp2_with fail
  refine (nfl_fires' rev R.out _ B1.out _ E.out).mono ?_
  rintro e w1 ⟨rfl, ho⟩
  have HE1 := Lib.hid (HE.out.only ho (fun h => h))
  obtain ⟨c0, c1, c2, c3, c4⟩ := HE1.out.five
  have E1 := Lib.hid (E.out.noth ho)
  have HO := Lib.hid ((((Only.refl Noth w).alloc (.cells #[.string last.key, .int .i64 last.time, .int .u16 last.org, .string last.val, .int .i64 last.til] 24))).tr ho)
  clear ho
  go_wp2_with (first | (go_at_call 46; refine (nfl_fires' last.val L.out _ B2.out _ E1.out).mono ?_; rintro e w2 ⟨rfl, ho⟩; have HO := Lib.hid (HO.out.tr ho); clear ho) | (go_at_call 41; refine (nfl_time _ _).mono ?_; rintro e w2 ⟨rfl, rfl⟩; (first | rw [K1.out] | rw [K2.out] | rw [K3.out])))
  go_ret
  exact ⟨by first | rfl | (simp; done), HO.out⟩
theorem need_other (h : ¬ now < last.time) (hv : ¬ last.val = rev) : Calls Tryd.prog 27 #[.agg #[.string last.key, .int .i64 last.time, .int .u16 last.org, .string last.val, .int .i64 last.til], .bool true, .string rev, .int .i64 now, .int .i64 rep] w fun e w' => e = .returned (.bool (firesB rev || firesB last.val)) ∧ Only Noth w w' := by
  have d1 : decide (now < last.time) = false := by simpa using h
  have v1 : (last.val.toList == rev.toList) = false := by rw [ba_beq]; simpa using hv
  have v2 : ¬ last.val.toList = rev.toList := by simpa using v1
  clear hv
  have R := Lib.hid hr
  have L := Lib.hid hl
  have E := Lib.hid (he.noth ((Only.refl Noth w).alloc (.cells #[.string last.key, .int .i64 last.time, .int .u16 last.org, .string last.val, .int .i64 last.til] 24)))
  have HE := Lib.hid (Hld.new w 24 #[.string last.key, .int .i64 last.time, .int .u16 last.org, .string last.val, .int .i64 last.til])
  obtain ⟨b1, hb1⟩ : ∃ b1, firesB rev = b1 := ⟨_, rfl⟩
  obtain ⟨b2, hb2⟩ : ∃ b2, firesB last.val = b2 := ⟨_, rfl⟩
  try rw [hb1]
  try rw [hb2]
  have B1 := Lib.hid hb1
  have B2 := Lib.hid hb2
  clear hr hl he hb1 hb2
  cases b1
  · skip
    go_enter Tryd.func27, Tryd.ntmps27
    go_wp2_with fail
    refine (nfl_fires' rev R.out _ B1.out _ E.out).mono ?_
    rintro e w1 ⟨rfl, ho⟩
    have HE1 := Lib.hid (HE.out.only ho (fun h => h))
    obtain ⟨c0, c1, c2, c3, c4⟩ := HE1.out.five
    have E1 := Lib.hid (E.out.noth ho)
    have HO := Lib.hid ((((Only.refl Noth w).alloc (.cells #[.string last.key, .int .i64 last.time, .int .u16 last.org, .string last.val, .int .i64 last.til] 24))).tr ho)
    clear ho
    go_wp2_with (first | (go_at_call 46; refine (nfl_fires' last.val L.out _ B2.out _ E1.out).mono ?_; rintro e w2 ⟨rfl, ho⟩; have HO := Lib.hid (HO.out.tr ho); clear ho) | (go_at_call 41; refine (nfl_time _ _).mono ?_; rintro e w2 ⟨rfl, rfl⟩; (first | rw [K1.out] | rw [K2.out] | rw [K3.out])))
    go_ret
    exact ⟨by first | rfl | (simp; done), HO.out⟩
  · skip
    go_enter Tryd.func27, Tryd.ntmps27
    go_wp2_with fail
    refine (nfl_fires' rev R.out _ B1.out _ E.out).mono ?_
    rintro e w1 ⟨rfl, ho⟩
    have HE1 := Lib.hid (HE.out.only ho (fun h => h))
    obtain ⟨c0, c1, c2, c3, c4⟩ := HE1.out.five
    have E1 := Lib.hid (E.out.noth ho)
    have HO := Lib.hid ((((Only.refl Noth w).alloc (.cells #[.string last.key, .int .i64 last.time, .int .u16 last.org, .string last.val, .int .i64 last.til] 24))).tr ho)
    clear ho
    go_wp2_with (first | (go_at_call 46; refine (nfl_fires' last.val L.out _ B2.out _ E1.out).mono ?_; rintro e w2 ⟨rfl, ho⟩; have HO := Lib.hid (HO.out.tr ho); clear ho) | (go_at_call 41; refine (nfl_time _ _).mono ?_; rintro e w2 ⟨rfl, rfl⟩; (first | rw [K1.out] | rw [K2.out] | rw [K3.out])))
    go_ret
    exact ⟨by first | rfl | (simp; done), HO.out⟩
theorem need_same (h : ¬ now < last.time) (hv : last.val = rev) : Calls Tryd.prog 27 #[.agg #[.string last.key, .int .i64 last.time, .int .u16 last.org, .string last.val, .int .i64 last.til], .bool true, .string rev, .int .i64 now, .int .i64 rep] w fun e w' => e = .returned (.bool (firesB rev && (okT last.time && okT now && okT rep && decide (rep ≤ now - last.time)))) ∧ Only Noth w w' := by
  have d1 : decide (now < last.time) = false := by simpa using h
  have v1 : (last.val.toList == rev.toList) = true := by rw [ba_beq]; simpa using hv
  have v2 : last.val.toList = rev.toList := by simpa using v1
  have V2 := Lib.hid v2
  clear hv v2
  have R := Lib.hid hr
  have L := Lib.hid hl
  have E := Lib.hid (he.noth ((Only.refl Noth w).alloc (.cells #[.string last.key, .int .i64 last.time, .int .u16 last.org, .string last.val, .int .i64 last.til] 24)))
  have HE := Lib.hid (Hld.new w 24 #[.string last.key, .int .i64 last.time, .int .u16 last.org, .string last.val, .int .i64 last.til])
  obtain ⟨b1, hb1⟩ : ∃ b1, firesB rev = b1 := ⟨_, rfl⟩
  obtain ⟨b2, hb2⟩ : ∃ b2, firesB last.val = b2 := ⟨_, rfl⟩
  try rw [hb1]
  try rw [hb2]
  have B1 := Lib.hid hb1
  have B2 := Lib.hid hb2
  clear hr hl he hb1 hb2
  cases b1
  · skip
    go_enter Tryd.func27, Tryd.ntmps27
    go_wp2_with fail
    refine (nfl_fires' rev R.out _ B1.out _ E.out).mono ?_
    rintro e w1 ⟨rfl, ho⟩
    have HE1 := Lib.hid (HE.out.only ho (fun h => h))
    obtain ⟨c0, c1, c2, c3, c4⟩ := HE1.out.five
    have E1 := Lib.hid (E.out.noth ho)
    have HO := Lib.hid ((((Only.refl Noth w).alloc (.cells #[.string last.key, .int .i64 last.time, .int .u16 last.org, .string last.val, .int .i64 last.til] 24))).tr ho)
    clear ho
    go_wp2_with (first | (go_at_call 46; refine (nfl_fires' last.val L.out _ B2.out _ E1.out).mono ?_; rintro e w2 ⟨rfl, ho⟩; have HO := Lib.hid (HO.out.tr ho); clear ho) | (go_at_call 41; refine (nfl_time _ _).mono ?_; rintro e w2 ⟨rfl, rfl⟩; (first | rw [K1.out] | rw [K2.out] | rw [K3.out])))
    go_ret
    exact ⟨by first | rfl | (simp; done), HO.out⟩
  · skip
    cases k1 : okT last.time
    · have K1 := Lib.hid k1
      have K2 := Lib.hid k1
      have K3 := Lib.hid k1
      clear k1
      go_enter Tryd.func27, Tryd.ntmps27
      go_wp2_with fail
      refine (nfl_fires' rev R.out _ B1.out _ E.out).mono ?_
      rintro e w1 ⟨rfl, ho⟩
      have HE1 := Lib.hid (HE.out.only ho (fun h => h))
      obtain ⟨c0, c1, c2, c3, c4⟩ := HE1.out.five
      have E1 := Lib.hid (E.out.noth ho)
      have HO := Lib.hid ((((Only.refl Noth w).alloc (.cells #[.string last.key, .int .i64 last.time, .int .u16 last.org, .string last.val, .int .i64 last.til] 24))).tr ho)
      clear ho
      go_wp2_with (first | (go_at_call 46; refine (nfl_fires' last.val L.out _ B2.out _ E1.out).mono ?_; rintro e w2 ⟨rfl, ho⟩; have HO := Lib.hid (HO.out.tr ho); clear ho) | (go_at_call 41; refine (nfl_time _ _).mono ?_; rintro e w2 ⟨rfl, rfl⟩; (first | rw [K1.out] | rw [K2.out] | rw [K3.out])))
      go_ret
      exact ⟨by first | rfl | (simp; done), HO.out⟩
    · cases k2 : okT now
      · have K1 := Lib.hid k1
        have K2 := Lib.hid k2
        have K3 := Lib.hid k2
        clear k1 k2
        go_enter Tryd.func27, Tryd.ntmps27
        go_wp2_with fail
        refine (nfl_fires' rev R.out _ B1.out _ E.out).mono ?_
        rintro e w1 ⟨rfl, ho⟩
        have HE1 := Lib.hid (HE.out.only ho (fun h => h))
        obtain ⟨c0, c1, c2, c3, c4⟩ := HE1.out.five
        have E1 := Lib.hid (E.out.noth ho)
        have HO := Lib.hid ((((Only.refl Noth w).alloc (.cells #[.string last.key, .int .i64 last.time, .int .u16 last.org, .string last.val, .int .i64 last.til] 24))).tr ho)
        clear ho
        go_wp2_with (first | (go_at_call 46; refine (nfl_fires' last.val L.out _ B2.out _ E1.out).mono ?_; rintro e w2 ⟨rfl, ho⟩; have HO := Lib.hid (HO.out.tr ho); clear ho) | (go_at_call 41; refine (nfl_time _ _).mono ?_; rintro e w2 ⟨rfl, rfl⟩; (first | rw [K1.out] | rw [K2.out] | rw [K3.out])))
        go_ret
        exact ⟨by first | rfl | (simp; done), HO.out⟩
      · obtain ⟨b3, b4⟩ := okT_iff.1 k1
        obtain ⟨b5, b6⟩ := okT_iff.1 k2
        cases k3 : okT rep
        · have K1 := Lib.hid k1
          have K2 := Lib.hid k2
          have K3 := Lib.hid k3
          clear k1 k2 k3
          go_enter Tryd.func27, Tryd.ntmps27
          go_wp2_with fail
          refine (nfl_fires' rev R.out _ B1.out _ E.out).mono ?_
          rintro e w1 ⟨rfl, ho⟩
          have HE1 := Lib.hid (HE.out.only ho (fun h => h))
          obtain ⟨c0, c1, c2, c3, c4⟩ := HE1.out.five
          have E1 := Lib.hid (E.out.noth ho)
          have HO := Lib.hid ((((Only.refl Noth w).alloc (.cells #[.string last.key, .int .i64 last.time, .int .u16 last.org, .string last.val, .int .i64 last.til] 24))).tr ho)
          clear ho
          go_wp2_with (first | (go_at_call 46; refine (nfl_fires' last.val L.out _ B2.out _ E1.out).mono ?_; rintro e w2 ⟨rfl, ho⟩; have HO := Lib.hid (HO.out.tr ho); clear ho) | (go_at_call 41; refine (nfl_time _ _).mono ?_; rintro e w2 ⟨rfl, rfl⟩; (first | rw [K1.out] | rw [K2.out] | rw [K3.out])))
          go_ret
          exact ⟨by first | rfl | (simp; done), HO.out⟩
        · have K1 := Lib.hid k1
          have K2 := Lib.hid k2
          have K3 := Lib.hid k3
          clear k1 k2 k3
          go_enter Tryd.func27, Tryd.ntmps27
          go_wp2_with fail
          refine (nfl_fires' rev R.out _ B1.out _ E.out).mono ?_
          rintro e w1 ⟨rfl, ho⟩
          have HE1 := Lib.hid (HE.out.only ho (fun h => h))
          obtain ⟨c0, c1, c2, c3, c4⟩ := HE1.out.five
          have E1 := Lib.hid (E.out.noth ho)
          have HO := Lib.hid ((((Only.refl Noth w).alloc (.cells #[.string last.key, .int .i64 last.time, .int .u16 last.org, .string last.val, .int .i64 last.til] 24))).tr ho)
          clear ho
          go_wp2_with (first | (go_at_call 46; refine (nfl_fires' last.val L.out _ B2.out _ E1.out).mono ?_; rintro e w2 ⟨rfl, ho⟩; have HO := Lib.hid (HO.out.tr ho); clear ho) | (go_at_call 41; refine (nfl_time _ _).mono ?_; rintro e w2 ⟨rfl, rfl⟩; (first | rw [K1.out] | rw [K2.out] | rw [K3.out])))
          go_ret
          exact ⟨by first | rfl | (simp; done), HO.out⟩
end
theorem nfl_need (last : Ent) (was : Bool) (rev : ByteArray) (now rep : Int) (hr : rev.size ≤ 140737488355000) (hl : last.val.size ≤ 140737488355000) (hn0 : -9223372036854775808 ≤ now) (hn1 : now ≤ 9223372036854775807) (ht0 : -9223372036854775808 ≤ last.time) (ht1 : last.time ≤ 9223372036854775807) (w : World) (he : Env w) :
    Calls Tryd.prog 27 #[.agg #[.string last.key, .int .i64 last.time, .int .u16 last.org, .string last.val, .int .i64 last.til], .bool was, .string rev, .int .i64 now, .int .i64 rep] w fun e w' => e = .returned (.bool (needB last was rev now rep)) ∧ Only Noth w w' := by
  cases was
  · rw [show needB last false rev now rep = firesB rev from rfl]
    exact need_not last rev now rep hr hl w he
  · unfold needB
    rw [if_neg (by decide)]
    by_cases h : now < last.time
    · rw [if_pos h]; exact need_late last rev now rep hr hl w he h
    · rw [if_neg h]
      by_cases hv : last.val = rev
      · rw [if_pos hv]; exact need_same last rev now rep hr hl w he h hv
      · rw [if_neg hv]; exact need_other last rev now rep hr hl w he h hv
end Go.Proofs.YtgclhkknkppmbaaDoor
