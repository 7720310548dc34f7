/- The walk of NflogOfs. -/
import Derived.Test.YtgclhkknkppmbaaDoorRefO
namespace Go.Proofs.YtgclhkknkppmbaaDoor
open Go.RowKit Go.Lib
set_option linter.unusedVariables false
set_option maxRecDepth 100000
attribute [local go_sem ↓] Go.wp_at_zero Go.wp_at_succ

set_option maxHeartbeats 4000000 in
theorem nofs_walk (e : Ent) (hk : e.key.size ≤ 9223372036854775807) (hv : e.val.size ≤ 9223372036854775807) (ht0 : -9223372036854775808 ≤ e.time) (ht1 : e.time ≤ 9223372036854775807) (hu0 : -9223372036854775808 ≤ e.til) (hu1 : e.til ≤ 9223372036854775807) (w : World) (he : Env w) :
    Calls Tryd.prog 12 #[.agg #[.string e.key, .int .i64 e.time, .int .u16 e.org, .string e.val, .int .i64 e.til]] w fun x w' => x = .returned (.bool true) ∧ Only Noth w w' := by
  have i1 : (e.key.size : Int) ≤ 9223372036854775807 := by omega
  have i2 : (e.val.size : Int) ≤ 9223372036854775807 := by omega
  by_cases g1 : 20000 < e.key.size
  · have d1 : decide ((20000 : Int) < e.key.size) = true := by simp; omega
    go_enter Tryd.func12, Tryd.ntmps12
    go_wp2_with (go_at_call 22; refine (nfl_awake _ (he.noth ((Only.refl Noth w).alloc _))).mono ?_; rintro e w1 ⟨rfl, ho⟩; have HO := Lib.hid ho; clear ho)
    go_ret
    exact ⟨rfl, (((Only.refl Noth w).alloc _).tr HO.out)⟩
  · have d1 : decide ((20000 : Int) < e.key.size) = false := by simp; omega
    by_cases g2 : 20000 < e.val.size
    · have d2 : decide ((20000 : Int) < e.val.size) = true := by simp; omega
      go_enter Tryd.func12, Tryd.ntmps12
      go_wp2_with (go_at_call 22; refine (nfl_awake _ (he.noth ((Only.refl Noth w).alloc _))).mono ?_; rintro e w1 ⟨rfl, ho⟩; have HO := Lib.hid ho; clear ho)
      go_ret
      exact ⟨rfl, (((Only.refl Noth w).alloc _).tr HO.out)⟩
    · have d2 : decide ((20000 : Int) < e.val.size) = false := by simp; omega
      have EB := Lib.hid (Hld.new w 24 #[.string e.key, .int .i64 e.time, .int .u16 e.org, .string e.val, .int .i64 e.til])
      have ON := Lib.hid ((Only.refl Noth w).alloc (.cells #[.string e.key, .int .i64 e.time, .int .u16 e.org, .string e.val, .int .i64 e.til] 24))
      have E := Lib.hid (he.noth ((Only.refl Noth w).alloc (.cells #[.string e.key, .int .i64 e.time, .int .u16 e.org, .string e.val, .int .i64 e.til] 24)))
      have EK := Lib.hid (show e.key.size ≤ 140737488355000 by omega)
      clear he
      go_enter Tryd.func12, Tryd.ntmps12
      go_wp2_with fail
      refine (nfl_of e EK.out hv _ E.out).mono ?_
      rintro x w1 ⟨s1, b1, hof, rfl, ho⟩
      have ON1 := Lib.hid ((ON.out.tr ho).alloc (.cells #[.string s1.rcv, .string s1.key, .string s1.rev, .int .i64 s1.at_] 35))
      have E1 := Lib.hid ((E.out.noth ho).noth ((Only.refl _ _).alloc (.cells #[.string s1.rcv, .string s1.key, .string s1.rev, .int .i64 s1.at_] 35)))
      obtain ⟨b0, b1', b2, b3, b4⟩ := ((EB.out.only ho (fun h => h)).alloc (.cells #[.string s1.rcv, .string s1.key, .string s1.rev, .int .i64 s1.at_] 35)).five
      have SB := Lib.hid (Hld.new w1 35 #[.string s1.rcv, .string s1.key, .string s1.rev, .int .i64 s1.at_])
      have OF := Lib.hid hof
      clear ho hof
      go_wp2_with fail
      refine (ref_of e EK.out hv ht0 ht1 hu0 hu1 _).mono ?_
      rintro x w2 ⟨s2, b2', hof, rfl, ho⟩
      rw [OF.out] at hof
      injection hof with h1 h2
      subst h1 h2
      clear b0 b1' b2 b3 b4
      have ON2 := Lib.hid ((ON1.out.tr ho).alloc (.cells #[.string s1.rcv, .string s1.key, .string s1.rev, .int .i64 s1.at_] 35))
      have E2 := Lib.hid ((E1.out.noth ho).noth ((Only.refl _ _).alloc (.cells #[.string s1.rcv, .string s1.key, .string s1.rev, .int .i64 s1.at_] 35)))
      obtain ⟨c0, c1, c2, c3⟩ := ((SB.out.only ho (fun h => h)).alloc (.cells #[.string s1.rcv, .string s1.key, .string s1.rev, .int .i64 s1.at_] 35)).four
      have heq := eq_snd s1
      have hgd := guard_snd
      clear ho
      go_wp2_with (go_at_call 22; refine (nfl_awake _ E2.out).mono ?_; rintro x w6 ⟨rfl, ho⟩; have ON2 := Lib.hid (ON2.out.tr ho); clear ho)
      go_ret
      exact ⟨rfl, ON2.out⟩
end Go.Proofs.YtgclhkknkppmbaaDoor
