/- The walk of NflogBack. -/
import Derived.Test.YtgclhkknkppmbaaDoorNBack
namespace Go.Proofs.YtgclhkknkppmbaaDoor
open Go.RowKit Go.Lib
set_option linter.unusedVariables false
set_option maxRecDepth 100000
attribute [local go_sem ↓] Go.wp_at_zero Go.wp_at_succ

structure BkW (w W : World) (s : Snd) (e : Ent) : Prop where
  sb : Hld W w.heap.size 35 #[.string s.rcv, .string s.key, .string s.rev, .int .i64 s.at_]
  eb : Hld W (w.heap.size + 1) 24 #[.string e.key, .int .i64 e.time, .int .u16 e.org, .string e.val, .int .i64 e.til]
  only : Only Noth w W
  env : Env W
theorem BkW.noth {w W W' : World} {s : Snd} {e : Ent} (h : BkW w W s e) (ho : Only Noth W W') : BkW w W' s e := ⟨h.sb.only ho (fun h => h), h.eb.only ho (fun h => h), h.only.tr ho, h.env.noth ho⟩
theorem ent_sizes (s : Snd) (o k : Int) : (s.ent o k).1.key.size ≤ 1024 ∧ (s.ent o k).1.val.size ≤ 8192 := by
  obtain ⟨y, f, h⟩ : ∃ y f, s.ent o k = (y, f) := ⟨_, _, rfl⟩
  rw [h]
  by_cases hf : f = 0
  · subst hf
    obtain ⟨_, _, hk, hv, _, _, _, hy⟩ := ent_ok h
    rw [hy]
    exact ⟨by show s.k.toArray.size ≤ 1024; simpa using hk, hv⟩
  · rw [ent_err h hf]
    exact ⟨Nat.zero_le _, Nat.zero_le _⟩
theorem entry_check_v (a : Ent) (n : Int) (hn : a.check = n) (h1 : a.key.size ≤ 9223372036854775807) (h2 : a.val.size ≤ 9223372036854775807) (w : World) :
    Calls Tryd.prog 19 #[.agg #[.string a.key, .int .i64 a.time, .int .u16 a.org, .string a.val, .int .i64 a.til]] w fun e w' => e = .returned (.int .i64 n) ∧ Only Noth w w' := by subst hn; exact entry_check a h1 h2 w
section
variable (s : Snd) (e : Ent) (keep : Int) (h1 : s.rcv.size ≤ 9223372036854775807) (h2 : s.key.size ≤ 9223372036854775807) (h3 : s.rev.size ≤ 9223372036854775807) (h4 : e.key.size ≤ 9223372036854775807) (w : World) (he : Env w)
include h1 h2 h3 h4 he
theorem nback_heavy (h : 20000 < s.rcv.size ∨ 20000 < s.key.size ∨ 20000 < s.rev.size ∨ 20000 < e.key.size) : Calls Tryd.prog 13 #[.agg #[.string s.rcv, .string s.key, .string s.rev, .int .i64 s.at_], .agg #[.string e.key, .int .i64 e.time, .int .u16 e.org, .string e.val, .int .i64 e.til], .int .i64 keep] w fun x w' => x = .returned (.bool true) ∧ Only Noth w w' := by
  have i1 : (s.rcv.size : Int) ≤ 9223372036854775807 := by omega
  have i2 : (s.key.size : Int) ≤ 9223372036854775807 := by omega
  have i3 : (s.rev.size : Int) ≤ 9223372036854775807 := by omega
  have i4 : (e.key.size : Int) ≤ 9223372036854775807 := by omega
  by_cases g0 : 20000 < s.rcv.size
  · have d0 : decide ((20000 : Int) < s.rcv.size) = true := by simp; omega
    clear h
    go_enter Tryd.func13, Tryd.ntmps13
    go_wp2_with (go_at_call 22; refine (nfl_awake _ (he.noth (((Only.refl Noth w).alloc _).alloc _))).mono ?_; rintro e w1 ⟨rfl, ho⟩; have HO := Lib.hid ho; clear ho)
    go_ret
    exact ⟨rfl, ((((Only.refl Noth w).alloc _).alloc _).tr HO.out)⟩
  · have d0 : decide ((20000 : Int) < s.rcv.size) = false := by simp; omega
    by_cases g1 : 20000 < s.key.size
    · have d1 : decide ((20000 : Int) < s.key.size) = true := by simp; omega
      clear h
      go_enter Tryd.func13, Tryd.ntmps13
      go_wp2_with (go_at_call 22; refine (nfl_awake _ (he.noth (((Only.refl Noth w).alloc _).alloc _))).mono ?_; rintro e w1 ⟨rfl, ho⟩; have HO := Lib.hid ho; clear ho)
      go_ret
      exact ⟨rfl, ((((Only.refl Noth w).alloc _).alloc _).tr HO.out)⟩
    · have d1 : decide ((20000 : Int) < s.key.size) = false := by simp; omega
      by_cases g2 : 20000 < s.rev.size
      · have d2 : decide ((20000 : Int) < s.rev.size) = true := by simp; omega
        clear h
        go_enter Tryd.func13, Tryd.ntmps13
        go_wp2_with (go_at_call 22; refine (nfl_awake _ (he.noth (((Only.refl Noth w).alloc _).alloc _))).mono ?_; rintro e w1 ⟨rfl, ho⟩; have HO := Lib.hid ho; clear ho)
        go_ret
        exact ⟨rfl, ((((Only.refl Noth w).alloc _).alloc _).tr HO.out)⟩
      · have d2 : decide ((20000 : Int) < s.rev.size) = false := by simp; omega
        have d3 : decide ((20000 : Int) < e.key.size) = true := by simp; omega
        clear h
        go_enter Tryd.func13, Tryd.ntmps13
        go_wp2_with (go_at_call 22; refine (nfl_awake _ (he.noth (((Only.refl Noth w).alloc _).alloc _))).mono ?_; rintro e w1 ⟨rfl, ho⟩; have HO := Lib.hid ho; clear ho)
        go_ret
        exact ⟨rfl, ((((Only.refl Noth w).alloc _).alloc _).tr HO.out)⟩
variable (hv : e.val.size ≤ 9223372036854775807) (ht0 : -9223372036854775808 ≤ e.time) (ht1 : e.time ≤ 9223372036854775807) (hu0 : -9223372036854775808 ≤ e.til) (hu1 : e.til ≤ 9223372036854775807)
include hv ht0 ht1 hu0 hu1
set_option maxHeartbeats 8000000 in
theorem nback_light (l1 : s.rcv.size ≤ 20000) (l2 : s.key.size ≤ 20000) (l3 : s.rev.size ≤ 20000) (l4 : e.key.size ≤ 20000) : Calls Tryd.prog 13 #[.agg #[.string s.rcv, .string s.key, .string s.rev, .int .i64 s.at_], .agg #[.string e.key, .int .i64 e.time, .int .u16 e.org, .string e.val, .int .i64 e.til], .int .i64 keep] w fun x w' => x = .returned (.bool true) ∧ Only Noth w w' := by
  have i1 : (s.rcv.size : Int) ≤ 9223372036854775807 := by omega
  have i2 : (s.key.size : Int) ≤ 9223372036854775807 := by omega
  have i3 : (s.rev.size : Int) ≤ 9223372036854775807 := by omega
  have i4 : (e.key.size : Int) ≤ 9223372036854775807 := by omega
  have d0 : decide ((20000 : Int) < s.rcv.size) = false := by simp; omega
  have d1 : decide ((20000 : Int) < s.key.size) = false := by simp; omega
  have d2 : decide ((20000 : Int) < s.rev.size) = false := by simp; omega
  have d3 : decide ((20000 : Int) < e.key.size) = false := by simp; omega
  have W0 := Lib.hid (show BkW w ((w.alloc (.cells #[.string s.rcv, .string s.key, .string s.rev, .int .i64 s.at_] 35)).alloc (.cells #[.string e.key, .int .i64 e.time, .int .u16 e.org, .string e.val, .int .i64 e.til] 24)) s e from ⟨(Hld.new w 35 #[.string s.rcv, .string s.key, .string s.rev, .int .i64 s.at_]).alloc _, Hld.at_ _ _ _ _ (by simp), ((Only.refl Noth w).alloc _).alloc _, he.noth (((Only.refl Noth w).alloc _).alloc _)⟩)
  obtain ⟨y, hy⟩ : ∃ y, s.ent 3 keep = y := ⟨_, rfl⟩
  have Y := Lib.hid hy
  have YS := ent_sizes s 3 keep
  rw [hy] at YS
  have YK := Lib.hid (show y.1.key.size ≤ 140737488355000 by omega)
  have YK2 := Lib.hid (show y.1.key.size ≤ 9223372036854775807 by omega)
  have YV := Lib.hid (show y.1.val.size ≤ 9223372036854775807 by omega)
  have RS := Lib.hid (show s.rcv.size + s.key.size ≤ 140737488355000 by omega)
  have EK := Lib.hid (show e.key.size ≤ 140737488355000 by omega)
  clear hy YS he
  go_enter Tryd.func13, Tryd.ntmps13
  go_wp2_with fail
  refine (nfl_of e EK.out hv _ W0.out.env).mono ?_
  rintro x w1 ⟨s1, b1, hof, rfl, ho⟩
  have B1 := Lib.hid ((W0.out.noth ho).noth ((Only.refl _ _).alloc (.cells #[.string s1.rcv, .string s1.key, .string s1.rev, .int .i64 s1.at_] 35)))
  obtain ⟨c0, c1, c2, c3⟩ := B1.out.sb.four
  clear ho
  cases b1
  · have BK := Lib.hid B1.out
    clear hof
    go_wp2_with fail
    refine (nfl_entry s 3 keep RS.out h3 _ BK.out.env.tab).mono ?_
    rw [Y.out]
    rintro x w3 ⟨rfl, ho⟩
    have B3 := Lib.hid ((BK.out.noth ho).noth ((Only.refl _ _).alloc (.cells #[.string y.1.key, .int .i64 y.1.time, .int .u16 y.1.org, .string y.1.val, .int .i64 y.1.til] 24)))
    have YB := Lib.hid (Hld.new w3 24 #[.string y.1.key, .int .i64 y.1.time, .int .u16 y.1.org, .string y.1.val, .int .i64 y.1.til])
    clear ho c0 c1 c2 c3
    go_wp2_with fail
    refine (nfl_of y.1 YK.out YV.out _ B3.out.env).mono ?_
    rintro x w4 ⟨s2, b2, hof, rfl, ho⟩
    have B4 := Lib.hid (B3.out.noth ho)
    have B5 := Lib.hid (B4.out.noth ((Only.refl _ _).alloc (.cells #[.string s2.rcv, .string s2.key, .string s2.rev, .int .i64 s2.at_] 35)))
    obtain ⟨c0, c1, c2, c3⟩ := B5.out.sb.four
    obtain ⟨y0, y1, y2, y3, y4⟩ := ((YB.out.only ho (fun h => h)).alloc (.cells #[.string s2.rcv, .string s2.key, .string s2.rev, .int .i64 s2.at_] 35)).five
    clear ho
    by_cases hf : y.2 = 0
    · have hy : s.ent 3 keep = (y.1, 0) := by rw [Y.out]; exact Prod.ext rfl hf
      have hb := back2 hy
      rw [hb] at hof
      injection hof with hs2 hb2
      subst hs2 hb2
      have CK := Lib.hid (back3 hy)
      have e1 : (y.2 == 0) = true := by simpa using hf
      have heq := eq_snd s
      have hgd := guard_snd
      clear hy hb hf
      go_wp2_with (first | (go_at_call 19; refine (entry_check_v y.1 0 CK.out YK2.out YV.out _).mono ?_; rintro x w5 ⟨rfl, ho⟩; have B5 := Lib.hid (B5.out.noth ho); clear ho) | (go_at_call 22; refine (nfl_awake _ B5.out.env).mono ?_; rintro x w6 ⟨rfl, ho⟩; have B5 := Lib.hid (B5.out.noth ho); clear ho))
      go_ret
      exact ⟨rfl, B5.out.only⟩
    · have hy : y.1 = z0 := ent_err (s := s) (o := 3) (k := keep) (f := y.2) (by rw [Y.out]) hf
      have e1 : (y.2 == 0) = false := by simpa using hf
      have e2 : (y.2 != 0) = true := by simpa using hf
      rw [hy] at y0 y1 y2 y3 y4 ⊢
      have heq : ∀ V, (binOp .eql 24 (.agg #[.string ⟨#[]⟩, .int .i64 0, .int .u16 0, .string ⟨#[]⟩, .int .i64 0]) (.agg #[.string ⟨#[]⟩, .int .i64 0, .int .u16 0, .string ⟨#[]⟩, .int .i64 0])).run Tryd.prog V = .ok (.bool true) V := fun V => by have := eq_ent z0 z0 V; rw [same_self] at this; exact this
      have hgd := guard_ent
      simp only [z0] at y0 y1 y2 y3 y4 ⊢
      clear hf hy
      go_wp2_with (first | (go_at_call 22; refine (nfl_awake _ B5.out.env).mono ?_; rintro x w6 ⟨rfl, ho⟩; have B5 := Lib.hid (B5.out.noth ho); clear ho))
      go_ret
      exact ⟨rfl, B5.out.only⟩
  · have S1 := back1 hof
    have hb : ofB e = true := by
      unfold ofR at hof
      split at hof
      · assumption
      · simp at hof
    have hst : s1 = (rdS e).2 := by
      rw [ofR_yes hb] at hof
      injection hof with h _
      exact h.symm
    have RS1 := Lib.hid (show s1.rcv.size + s1.key.size ≤ 140737488355000 by have := rdS_len e; rw [← hst] at this; omega)
    have RV1 := Lib.hid (show s1.rev.size ≤ 9223372036854775807 by rw [hst]; exact hv)
    have htm := ofB_time hb
    obtain ⟨k1, k2⟩ := okT_iff.1 htm.1
    obtain ⟨k3, k4⟩ := okT_iff.1 htm.2.1
    have hw : IntKind.i64.wrap (e.til - e.time) = e.til - e.time := IntWalk.i64_in _ (by omega)
    have SE := Lib.hid S1
    obtain ⟨f0, f1, f2, f3, f4⟩ := B1.out.eb.five
    clear S1 hof hb hst htm
    go_wp2_with fail
    refine (nfl_entry s1 e.org (e.til - e.time) RS1.out RV1.out _ B1.out.env.tab).mono ?_
    rw [SE.out]
    rintro x w2 ⟨rfl, ho⟩
    have BK := Lib.hid ((B1.out.noth ho).noth ((Only.refl _ _).alloc (.cells #[.string e.key, .int .i64 e.time, .int .u16 e.org, .string e.val, .int .i64 e.til] 24)))
    clear ho c0 c1 c2 c3 f0 f1 f2 f3 f4
    obtain ⟨c0, c1, c2, c3⟩ := BK.out.sb.four
    obtain ⟨f0, f1, f2, f3, f4⟩ := BK.out.eb.five
    have hne : ∀ V, (binOp .neq 24 (.agg #[.string e.key, .int .i64 e.time, .int .u16 e.org, .string e.val, .int .i64 e.til]) (.agg #[.string e.key, .int .i64 e.time, .int .u16 e.org, .string e.val, .int .i64 e.til])).run Tryd.prog V = .ok (.bool false) V := fun V => by rw [ne_ent e e V, same_self]; rfl
    have hgd := guard_ent
    go_wp2_with fail
    clear hne hgd f0 f1 f2 f3 f4
    refine (nfl_entry s 3 keep RS.out h3 _ BK.out.env.tab).mono ?_
    rw [Y.out]
    rintro x w3 ⟨rfl, ho⟩
    have B3 := Lib.hid ((BK.out.noth ho).noth ((Only.refl _ _).alloc (.cells #[.string y.1.key, .int .i64 y.1.time, .int .u16 y.1.org, .string y.1.val, .int .i64 y.1.til] 24)))
    have YB := Lib.hid (Hld.new w3 24 #[.string y.1.key, .int .i64 y.1.time, .int .u16 y.1.org, .string y.1.val, .int .i64 y.1.til])
    clear ho c0 c1 c2 c3
    go_wp2_with fail
    refine (nfl_of y.1 YK.out YV.out _ B3.out.env).mono ?_
    rintro x w4 ⟨s2, b2, hof, rfl, ho⟩
    have B4 := Lib.hid (B3.out.noth ho)
    have B5 := Lib.hid (B4.out.noth ((Only.refl _ _).alloc (.cells #[.string s2.rcv, .string s2.key, .string s2.rev, .int .i64 s2.at_] 35)))
    obtain ⟨c0, c1, c2, c3⟩ := B5.out.sb.four
    obtain ⟨y0, y1, y2, y3, y4⟩ := ((YB.out.only ho (fun h => h)).alloc (.cells #[.string s2.rcv, .string s2.key, .string s2.rev, .int .i64 s2.at_] 35)).five
    clear ho
    by_cases hf : y.2 = 0
    · have hy : s.ent 3 keep = (y.1, 0) := by rw [Y.out]; exact Prod.ext rfl hf
      have hb := back2 hy
      rw [hb] at hof
      injection hof with hs2 hb2
      subst hs2 hb2
      have CK := Lib.hid (back3 hy)
      have e1 : (y.2 == 0) = true := by simpa using hf
      have heq := eq_snd s
      have hgd := guard_snd
      clear hy hb hf
      go_wp2_with (first | (go_at_call 19; refine (entry_check_v y.1 0 CK.out YK2.out YV.out _).mono ?_; rintro x w5 ⟨rfl, ho⟩; have B5 := Lib.hid (B5.out.noth ho); clear ho) | (go_at_call 22; refine (nfl_awake _ B5.out.env).mono ?_; rintro x w6 ⟨rfl, ho⟩; have B5 := Lib.hid (B5.out.noth ho); clear ho))
      go_ret
      exact ⟨rfl, B5.out.only⟩
    · have hy : y.1 = z0 := ent_err (s := s) (o := 3) (k := keep) (f := y.2) (by rw [Y.out]) hf
      have e1 : (y.2 == 0) = false := by simpa using hf
      have e2 : (y.2 != 0) = true := by simpa using hf
      rw [hy] at y0 y1 y2 y3 y4 ⊢
      have heq : ∀ V, (binOp .eql 24 (.agg #[.string ⟨#[]⟩, .int .i64 0, .int .u16 0, .string ⟨#[]⟩, .int .i64 0]) (.agg #[.string ⟨#[]⟩, .int .i64 0, .int .u16 0, .string ⟨#[]⟩, .int .i64 0])).run Tryd.prog V = .ok (.bool true) V := fun V => by have := eq_ent z0 z0 V; rw [same_self] at this; exact this
      have hgd := guard_ent
      simp only [z0] at y0 y1 y2 y3 y4 ⊢
      clear hf hy
      go_wp2_with (first | (go_at_call 22; refine (nfl_awake _ B5.out.env).mono ?_; rintro x w6 ⟨rfl, ho⟩; have B5 := Lib.hid (B5.out.noth ho); clear ho))
      go_ret
      exact ⟨rfl, B5.out.only⟩
theorem nback_walk : Calls Tryd.prog 13 #[.agg #[.string s.rcv, .string s.key, .string s.rev, .int .i64 s.at_], .agg #[.string e.key, .int .i64 e.time, .int .u16 e.org, .string e.val, .int .i64 e.til], .int .i64 keep] w fun x w' => x = .returned (.bool true) ∧ Only Noth w w' := by
  by_cases g1 : 20000 < s.rcv.size
  · exact nback_heavy s e keep h1 h2 h3 h4 w he (.inl g1)
  · by_cases g2 : 20000 < s.key.size
    · exact nback_heavy s e keep h1 h2 h3 h4 w he (.inr (.inl g2))
    · by_cases g3 : 20000 < s.rev.size
      · exact nback_heavy s e keep h1 h2 h3 h4 w he (.inr (.inr (.inl g3)))
      · by_cases g4 : 20000 < e.key.size
        · exact nback_heavy s e keep h1 h2 h3 h4 w he (.inr (.inr (.inr g4)))
        · exact nback_light s e keep h1 h2 h3 h4 w he hv ht0 ht1 hu0 hu1 (by omega) (by omega) (by omega) (by omega)
end
end Go.Proofs.YtgclhkknkppmbaaDoor
