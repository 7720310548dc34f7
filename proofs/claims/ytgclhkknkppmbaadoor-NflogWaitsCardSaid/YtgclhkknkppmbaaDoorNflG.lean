/- The walk of NflogWaits. -/
import Derived.Test.YtgclhkknkppmbaaDoorNflE
namespace Go.Proofs.YtgclhkknkppmbaaDoor
open Go.RowKit Go.Lib
set_option linter.unusedVariables false
set_option maxRecDepth 100000
attribute [local go_sem ↓] Go.wp_at_zero Go.wp_at_succ

def bS (b : Bool) : ByteArray := if b then fireS else calmS
theorem fires_b (b : Bool) : firesB (bS b) = b := by cases b; exact fires_calm; exact fires_fire
def wKey : ByteArray := ⟨#[110, 108, 49, 58, 114, 49, 58, 103, 101]⟩
theorem wEnt (v : ByteArray) (hv : v.size = 8) (t : Int) (h0 : 0 ≤ t) (h1 : t < 1073741824) : Snd.ent ⟨⟨#[114]⟩, ⟨#[103]⟩, v, t⟩ 1 5 = (⟨wKey, t, 1, v, t + 5⟩, 0) := by
  have hk : Snd.k ⟨⟨#[114]⟩, ⟨#[103]⟩, v, t⟩ = [110, 108, 49, 58, 114, 49, 58, 103, 101] := by
    simp [Snd.k, nKey, tList, tText, itoa, decDigits]
  unfold Snd.ent
  rw [hk]
  have k1 : okT t = true := okT_iff.2 ⟨h0, by omega⟩
  have k2 : okT 5 = true := okT_iff.2 ⟨by omega, by omega⟩
  have k3 : okT (t + 5) = true := okT_iff.2 ⟨by omega, by omega⟩
  simp [ByteArray.toList_eq, k1, k2, k3, hv, wKey]
theorem wNeed (v : ByteArray) (t p now : Int) (h0 : 0 ≤ t) (h1 : t < 1073741824) (p0 : 0 ≤ p) (p1 : p < 1073741824) (n0 : t ≤ now) (n1 : now ≤ 2147483648) :
    needB ⟨wKey, t, 1, v, t + 5⟩ true v now p = (firesB v && decide (p ≤ now - t)) := by
  unfold needB
  rw [if_neg (by decide), if_neg (by simp only; omega), if_pos rfl]
  simp only
  rw [okT_iff.2 ⟨h0, by omega⟩, okT_iff.2 ⟨by omega, by omega⟩, okT_iff.2 ⟨p0, by omega⟩]
  simp
theorem wChange (v u : ByteArray) (hvu : v ≠ u) (t p : Int) : needB ⟨wKey, t, 1, v, t + 5⟩ true u t p = (firesB u || firesB v) := by
  unfold needB
  rw [if_neg (by decide), if_neg (by simp only; omega), if_neg hvu]
theorem need_v (v u : ByteArray) (hv : v.size = 8) (hu : u.size = 8) (t p now : Int) (h0 : 0 ≤ t) (h1 : t < 1073741824) (n0 : -1 ≤ now) (n1 : now ≤ 2147483648) (b : Bool) (hb : needB ⟨wKey, t, 1, v, t + 5⟩ true u now p = b) (w : World) (he : Env w) :
    Calls Tryd.prog 27 #[.agg #[.string wKey, .int .i64 t, .int .u16 1, .string v, .int .i64 (t + 5)], .bool true, .string u, .int .i64 now, .int .i64 p] w fun e w' => e = .returned (.bool b) ∧ Only Noth w w' := by
  subst hb
  exact nfl_need ⟨wKey, t, 1, v, t + 5⟩ true u now p (by omega) (by simp only; omega) (by omega) (by omega) (by simp only; omega) (by simp only; omega) w he
theorem entry_v (v : ByteArray) (hv : v.size = 8) (t : Int) (h0 : 0 ≤ t) (h1 : t < 1073741824) (w : World) (he : Env w) :
    Calls Tryd.prog 23 #[.agg #[.string ⟨#[114]⟩, .string ⟨#[103]⟩, .string v, .int .i64 t], .int .u16 1, .int .i64 5] w fun e w' => e = .returned (.tuple #[.agg #[.string wKey, .int .i64 t, .int .u16 1, .string v, .int .i64 (t + 5)], .int .i64 0]) ∧ Only Noth w w' := by
  have h := nfl_entry ⟨⟨#[114]⟩, ⟨#[103]⟩, v, t⟩ 1 5 (by show (1 + 1 : Nat) ≤ 140737488355000; omega) (by simp only; omega) w he.tab
  rw [wEnt v hv t h0 h1] at h
  exact h

set_option maxHeartbeats 4000000 in
theorem waits_walk (a r : Int) (x y : Bool) (a0 : 0 ≤ a) (a1 : a ≤ 4294967295) (r0 : 0 ≤ r) (r1 : r ≤ 4294967295) (w : World) (he : Env w) :
    Calls Tryd.prog 9 #[.int .u32 a, .int .u32 r, .agg #[.bool x, .bool y]] w fun e w' => e = .returned (.bool true) ∧ Only Noth w w' := by
  obtain ⟨t, ht⟩ : ∃ t, a % 1073741824 = t := ⟨_, rfl⟩
  obtain ⟨p, hp⟩ : ∃ p, r % 1073741824 = p := ⟨_, rfl⟩
  have t0 : 0 ≤ t := by omega
  have t1 : t < 1073741824 := by omega
  have p0 : 0 ≤ p := by omega
  have p1 : p < 1073741824 := by omega
  have wa : IntKind.i64.wrap a = a := IntWalk.i64_in _ (by omega)
  have wr : IntKind.i64.wrap r = r := IntWalk.i64_in _ (by omega)
  have OW := Lib.hid ((Only.refl Noth w).alloc (.cells #[.bool x, .bool y] 49))
  have E := Lib.hid (he.noth (OW.out.drew))
  clear he
  by_cases pp : 0 < p
  · have d1 : decide (0 < p) = true := by simpa using pp
    cases x <;> cases y
    · have NE := Lib.hid (show needB ⟨wKey, t, 1, calmS, t + 5⟩ true calmS (t + p) p = false by
        rw [wNeed calmS t p (t + p) t0 t1 p0 p1 (by omega) (by omega), fires_calm]
        rfl)
      have NA := Lib.hid (show needB ⟨wKey, t, 1, calmS, t + 5⟩ true calmS (t + p - 1) p = false by
        rw [wNeed calmS t p (t + p - 1) t0 t1 p0 p1 (by omega) (by omega)]
        simp; omega)
      obtain ⟨q, hq⟩ : ∃ q, needB ⟨wKey, t, 1, calmS, t + 5⟩ true calmS t p = q := ⟨_, rfl⟩
      have NC := Lib.hid hq
      clear hq
      go_enter Tryd.func9, Tryd.ntmps9
      go_wp2
      go_region
      go_wp2_with fail
      refine (entry_v calmS rfl t t0 t1 _ E.out).mono ?_
      rintro e w1 ⟨h1, ho⟩
      have h1 : e = .returned (.tuple #[.agg #[.string ⟨#[110, 108, 49, 58, 114, 49, 58, 103, 101]⟩, .int .i64 t, .int .u16 1, .string ⟨#[108, 49, 58, 97, 105, 48, 101, 101]⟩, .int .i64 (t + 5)], .int .i64 0]) := h1
      subst h1
      have O1 := Lib.hid ((OW.out.drew.tr ho).alloc (.cells #[.string ⟨#[110, 108, 49, 58, 114, 49, 58, 103, 101]⟩, .int .i64 t, .int .u16 1, .string ⟨#[108, 49, 58, 97, 105, 48, 101, 101]⟩, .int .i64 (t + 5)] 24))
      have E1 := Lib.hid (E.out.noth (ho.alloc (.cells #[.string ⟨#[110, 108, 49, 58, 114, 49, 58, 103, 101]⟩, .int .i64 t, .int .u16 1, .string ⟨#[108, 49, 58, 97, 105, 48, 101, 101]⟩, .int .i64 (t + 5)] 24)))
      have HE1 := Lib.hid (Hld.new w1 24 #[.string ⟨#[110, 108, 49, 58, 114, 49, 58, 103, 101]⟩, .int .i64 t, .int .u16 1, .string ⟨#[108, 49, 58, 97, 105, 48, 101, 101]⟩, .int .i64 (t + 5)])
      clear ho
      go_wp2_with fail
      refine (need_v calmS calmS rfl rfl t p (t + p - 1) t0 t1 (by omega) (by omega) _ NA.out _ E1.out).mono ?_
      rintro e w2 ⟨rfl, ho⟩
      have HE2 := Lib.hid (HE1.out.only ho (fun h => h))
      obtain ⟨c10, c11, c12, c13, c14⟩ := HE2.out.five
      have O2 := Lib.hid (O1.out.tr ho)
      have E2 := Lib.hid (E1.out.noth ho)
      clear ho
      go_wp2_with fail
      refine (need_v calmS calmS rfl rfl t p (t) t0 t1 (by omega) (by omega) _ NC.out _ E2.out).mono ?_
      rintro e w3 ⟨rfl, ho⟩
      have HE3 := Lib.hid (HE2.out.only ho (fun h => h))
      obtain ⟨c20, c21, c22, c23, c24⟩ := HE3.out.five
      have O3 := Lib.hid (O2.out.tr ho)
      have E3 := Lib.hid (E2.out.noth ho)
      clear ho
      go_wp2_with fail
      refine (need_v calmS calmS rfl rfl t p (t + p) t0 t1 (by omega) (by omega) _ NE.out _ E3.out).mono ?_
      rintro e w4 ⟨rfl, ho⟩
      have HE4 := Lib.hid (HE3.out.only ho (fun h => h))
      obtain ⟨c30, c31, c32, c33, c34⟩ := HE4.out.five
      have O4 := Lib.hid (O3.out.tr ho)
      have E4 := Lib.hid (E3.out.noth ho)
      clear ho
      go_wp2_with (go_at_call 22; refine (nfl_awake _ E4.out).mono ?_; rintro e w9 ⟨rfl, ho⟩; have O9 := Lib.hid (O4.out.tr ho); clear ho)
      go_ret
      exact ⟨rfl, O9.out⟩
    · have NE := Lib.hid (show needB ⟨wKey, t, 1, calmS, t + 5⟩ true calmS (t + p) p = false by
        rw [wNeed calmS t p (t + p) t0 t1 p0 p1 (by omega) (by omega), fires_calm]
        rfl)
      have NA := Lib.hid (show needB ⟨wKey, t, 1, calmS, t + 5⟩ true calmS (t + p - 1) p = false by
        rw [wNeed calmS t p (t + p - 1) t0 t1 p0 p1 (by omega) (by omega)]
        simp; omega)
      have NC := Lib.hid (show needB ⟨wKey, t, 1, calmS, t + 5⟩ true fireS t p = true by
        rw [wChange calmS fireS (by decide), fires_fire, fires_calm]
        rfl)
      go_enter Tryd.func9, Tryd.ntmps9
      go_wp2
      go_region
      go_wp2_with fail
      refine (entry_v calmS rfl t t0 t1 _ E.out).mono ?_
      rintro e w1 ⟨h1, ho⟩
      have h1 : e = .returned (.tuple #[.agg #[.string ⟨#[110, 108, 49, 58, 114, 49, 58, 103, 101]⟩, .int .i64 t, .int .u16 1, .string ⟨#[108, 49, 58, 97, 105, 48, 101, 101]⟩, .int .i64 (t + 5)], .int .i64 0]) := h1
      subst h1
      have O1 := Lib.hid ((OW.out.drew.tr ho).alloc (.cells #[.string ⟨#[110, 108, 49, 58, 114, 49, 58, 103, 101]⟩, .int .i64 t, .int .u16 1, .string ⟨#[108, 49, 58, 97, 105, 48, 101, 101]⟩, .int .i64 (t + 5)] 24))
      have E1 := Lib.hid (E.out.noth (ho.alloc (.cells #[.string ⟨#[110, 108, 49, 58, 114, 49, 58, 103, 101]⟩, .int .i64 t, .int .u16 1, .string ⟨#[108, 49, 58, 97, 105, 48, 101, 101]⟩, .int .i64 (t + 5)] 24)))
      have HE1 := Lib.hid (Hld.new w1 24 #[.string ⟨#[110, 108, 49, 58, 114, 49, 58, 103, 101]⟩, .int .i64 t, .int .u16 1, .string ⟨#[108, 49, 58, 97, 105, 48, 101, 101]⟩, .int .i64 (t + 5)])
      clear ho
      go_wp2_with fail
      refine (need_v calmS calmS rfl rfl t p (t + p - 1) t0 t1 (by omega) (by omega) _ NA.out _ E1.out).mono ?_
      rintro e w2 ⟨rfl, ho⟩
      have HE2 := Lib.hid (HE1.out.only ho (fun h => h))
      obtain ⟨c10, c11, c12, c13, c14⟩ := HE2.out.five
      have O2 := Lib.hid (O1.out.tr ho)
      have E2 := Lib.hid (E1.out.noth ho)
      clear ho
      go_wp2_with fail
      refine (need_v calmS fireS rfl rfl t p (t) t0 t1 (by omega) (by omega) _ NC.out _ E2.out).mono ?_
      rintro e w3 ⟨rfl, ho⟩
      have HE3 := Lib.hid (HE2.out.only ho (fun h => h))
      obtain ⟨c20, c21, c22, c23, c24⟩ := HE3.out.five
      have O3 := Lib.hid (O2.out.tr ho)
      have E3 := Lib.hid (E2.out.noth ho)
      clear ho
      go_wp2_with fail
      refine (need_v calmS calmS rfl rfl t p (t + p) t0 t1 (by omega) (by omega) _ NE.out _ E3.out).mono ?_
      rintro e w4 ⟨rfl, ho⟩
      have HE4 := Lib.hid (HE3.out.only ho (fun h => h))
      obtain ⟨c30, c31, c32, c33, c34⟩ := HE4.out.five
      have O4 := Lib.hid (O3.out.tr ho)
      have E4 := Lib.hid (E3.out.noth ho)
      clear ho
      go_wp2_with (go_at_call 22; refine (nfl_awake _ E4.out).mono ?_; rintro e w9 ⟨rfl, ho⟩; have O9 := Lib.hid (O4.out.tr ho); clear ho)
      go_ret
      exact ⟨rfl, O9.out⟩
    · have NE := Lib.hid (show needB ⟨wKey, t, 1, fireS, t + 5⟩ true fireS (t + p) p = true by
        rw [wNeed fireS t p (t + p) t0 t1 p0 p1 (by omega) (by omega), fires_fire]
        simp; omega)
      have NA := Lib.hid (show needB ⟨wKey, t, 1, fireS, t + 5⟩ true fireS (t + p - 1) p = false by
        rw [wNeed fireS t p (t + p - 1) t0 t1 p0 p1 (by omega) (by omega)]
        simp; omega)
      have NC := Lib.hid (show needB ⟨wKey, t, 1, fireS, t + 5⟩ true calmS t p = true by
        rw [wChange fireS calmS (by decide), fires_fire, fires_calm]
        rfl)
      go_enter Tryd.func9, Tryd.ntmps9
      go_wp2
      go_region
      go_wp2_with fail
      refine (entry_v fireS rfl t t0 t1 _ E.out).mono ?_
      rintro e w1 ⟨h1, ho⟩
      have h1 : e = .returned (.tuple #[.agg #[.string ⟨#[110, 108, 49, 58, 114, 49, 58, 103, 101]⟩, .int .i64 t, .int .u16 1, .string ⟨#[108, 49, 58, 97, 105, 49, 101, 101]⟩, .int .i64 (t + 5)], .int .i64 0]) := h1
      subst h1
      have O1 := Lib.hid ((OW.out.drew.tr ho).alloc (.cells #[.string ⟨#[110, 108, 49, 58, 114, 49, 58, 103, 101]⟩, .int .i64 t, .int .u16 1, .string ⟨#[108, 49, 58, 97, 105, 49, 101, 101]⟩, .int .i64 (t + 5)] 24))
      have E1 := Lib.hid (E.out.noth (ho.alloc (.cells #[.string ⟨#[110, 108, 49, 58, 114, 49, 58, 103, 101]⟩, .int .i64 t, .int .u16 1, .string ⟨#[108, 49, 58, 97, 105, 49, 101, 101]⟩, .int .i64 (t + 5)] 24)))
      have HE1 := Lib.hid (Hld.new w1 24 #[.string ⟨#[110, 108, 49, 58, 114, 49, 58, 103, 101]⟩, .int .i64 t, .int .u16 1, .string ⟨#[108, 49, 58, 97, 105, 49, 101, 101]⟩, .int .i64 (t + 5)])
      clear ho
      go_wp2_with fail
      refine (need_v fireS fireS rfl rfl t p (t + p - 1) t0 t1 (by omega) (by omega) _ NA.out _ E1.out).mono ?_
      rintro e w2 ⟨rfl, ho⟩
      have HE2 := Lib.hid (HE1.out.only ho (fun h => h))
      obtain ⟨c10, c11, c12, c13, c14⟩ := HE2.out.five
      have O2 := Lib.hid (O1.out.tr ho)
      have E2 := Lib.hid (E1.out.noth ho)
      clear ho
      go_wp2_with fail
      refine (need_v fireS calmS rfl rfl t p (t) t0 t1 (by omega) (by omega) _ NC.out _ E2.out).mono ?_
      rintro e w3 ⟨rfl, ho⟩
      have HE3 := Lib.hid (HE2.out.only ho (fun h => h))
      obtain ⟨c20, c21, c22, c23, c24⟩ := HE3.out.five
      have O3 := Lib.hid (O2.out.tr ho)
      have E3 := Lib.hid (E2.out.noth ho)
      clear ho
      go_wp2_with fail
      refine (need_v fireS fireS rfl rfl t p (t + p) t0 t1 (by omega) (by omega) _ NE.out _ E3.out).mono ?_
      rintro e w4 ⟨rfl, ho⟩
      have HE4 := Lib.hid (HE3.out.only ho (fun h => h))
      obtain ⟨c30, c31, c32, c33, c34⟩ := HE4.out.five
      have O4 := Lib.hid (O3.out.tr ho)
      have E4 := Lib.hid (E3.out.noth ho)
      clear ho
      go_wp2_with (go_at_call 22; refine (nfl_awake _ E4.out).mono ?_; rintro e w9 ⟨rfl, ho⟩; have O9 := Lib.hid (O4.out.tr ho); clear ho)
      go_ret
      exact ⟨rfl, O9.out⟩
    · have NE := Lib.hid (show needB ⟨wKey, t, 1, fireS, t + 5⟩ true fireS (t + p) p = true by
        rw [wNeed fireS t p (t + p) t0 t1 p0 p1 (by omega) (by omega), fires_fire]
        simp; omega)
      have NA := Lib.hid (show needB ⟨wKey, t, 1, fireS, t + 5⟩ true fireS (t + p - 1) p = false by
        rw [wNeed fireS t p (t + p - 1) t0 t1 p0 p1 (by omega) (by omega)]
        simp; omega)
      obtain ⟨q, hq⟩ : ∃ q, needB ⟨wKey, t, 1, fireS, t + 5⟩ true fireS t p = q := ⟨_, rfl⟩
      have NC := Lib.hid hq
      clear hq
      go_enter Tryd.func9, Tryd.ntmps9
      go_wp2
      go_region
      go_wp2_with fail
      refine (entry_v fireS rfl t t0 t1 _ E.out).mono ?_
      rintro e w1 ⟨h1, ho⟩
      have h1 : e = .returned (.tuple #[.agg #[.string ⟨#[110, 108, 49, 58, 114, 49, 58, 103, 101]⟩, .int .i64 t, .int .u16 1, .string ⟨#[108, 49, 58, 97, 105, 49, 101, 101]⟩, .int .i64 (t + 5)], .int .i64 0]) := h1
      subst h1
      have O1 := Lib.hid ((OW.out.drew.tr ho).alloc (.cells #[.string ⟨#[110, 108, 49, 58, 114, 49, 58, 103, 101]⟩, .int .i64 t, .int .u16 1, .string ⟨#[108, 49, 58, 97, 105, 49, 101, 101]⟩, .int .i64 (t + 5)] 24))
      have E1 := Lib.hid (E.out.noth (ho.alloc (.cells #[.string ⟨#[110, 108, 49, 58, 114, 49, 58, 103, 101]⟩, .int .i64 t, .int .u16 1, .string ⟨#[108, 49, 58, 97, 105, 49, 101, 101]⟩, .int .i64 (t + 5)] 24)))
      have HE1 := Lib.hid (Hld.new w1 24 #[.string ⟨#[110, 108, 49, 58, 114, 49, 58, 103, 101]⟩, .int .i64 t, .int .u16 1, .string ⟨#[108, 49, 58, 97, 105, 49, 101, 101]⟩, .int .i64 (t + 5)])
      clear ho
      go_wp2_with fail
      refine (need_v fireS fireS rfl rfl t p (t + p - 1) t0 t1 (by omega) (by omega) _ NA.out _ E1.out).mono ?_
      rintro e w2 ⟨rfl, ho⟩
      have HE2 := Lib.hid (HE1.out.only ho (fun h => h))
      obtain ⟨c10, c11, c12, c13, c14⟩ := HE2.out.five
      have O2 := Lib.hid (O1.out.tr ho)
      have E2 := Lib.hid (E1.out.noth ho)
      clear ho
      go_wp2_with fail
      refine (need_v fireS fireS rfl rfl t p (t) t0 t1 (by omega) (by omega) _ NC.out _ E2.out).mono ?_
      rintro e w3 ⟨rfl, ho⟩
      have HE3 := Lib.hid (HE2.out.only ho (fun h => h))
      obtain ⟨c20, c21, c22, c23, c24⟩ := HE3.out.five
      have O3 := Lib.hid (O2.out.tr ho)
      have E3 := Lib.hid (E2.out.noth ho)
      clear ho
      go_wp2_with fail
      refine (need_v fireS fireS rfl rfl t p (t + p) t0 t1 (by omega) (by omega) _ NE.out _ E3.out).mono ?_
      rintro e w4 ⟨rfl, ho⟩
      have HE4 := Lib.hid (HE3.out.only ho (fun h => h))
      obtain ⟨c30, c31, c32, c33, c34⟩ := HE4.out.five
      have O4 := Lib.hid (O3.out.tr ho)
      have E4 := Lib.hid (E3.out.noth ho)
      clear ho
      go_wp2_with (go_at_call 22; refine (nfl_awake _ E4.out).mono ?_; rintro e w9 ⟨rfl, ho⟩; have O9 := Lib.hid (O4.out.tr ho); clear ho)
      go_ret
      exact ⟨rfl, O9.out⟩
  · have d1 : decide (0 < p) = false := by simpa using pp
    cases x <;> cases y
    · have NE := Lib.hid (show needB ⟨wKey, t, 1, calmS, t + 5⟩ true calmS (t + p) p = false by
        rw [wNeed calmS t p (t + p) t0 t1 p0 p1 (by omega) (by omega), fires_calm]
        rfl)
      obtain ⟨q, hq⟩ : ∃ q, needB ⟨wKey, t, 1, calmS, t + 5⟩ true calmS t p = q := ⟨_, rfl⟩
      have NC := Lib.hid hq
      clear hq
      go_enter Tryd.func9, Tryd.ntmps9
      go_wp2
      go_region
      go_wp2_with fail
      refine (entry_v calmS rfl t t0 t1 _ E.out).mono ?_
      rintro e w1 ⟨h1, ho⟩
      have h1 : e = .returned (.tuple #[.agg #[.string ⟨#[110, 108, 49, 58, 114, 49, 58, 103, 101]⟩, .int .i64 t, .int .u16 1, .string ⟨#[108, 49, 58, 97, 105, 48, 101, 101]⟩, .int .i64 (t + 5)], .int .i64 0]) := h1
      subst h1
      have O1 := Lib.hid ((OW.out.drew.tr ho).alloc (.cells #[.string ⟨#[110, 108, 49, 58, 114, 49, 58, 103, 101]⟩, .int .i64 t, .int .u16 1, .string ⟨#[108, 49, 58, 97, 105, 48, 101, 101]⟩, .int .i64 (t + 5)] 24))
      have E1 := Lib.hid (E.out.noth (ho.alloc (.cells #[.string ⟨#[110, 108, 49, 58, 114, 49, 58, 103, 101]⟩, .int .i64 t, .int .u16 1, .string ⟨#[108, 49, 58, 97, 105, 48, 101, 101]⟩, .int .i64 (t + 5)] 24)))
      have HE1 := Lib.hid (Hld.new w1 24 #[.string ⟨#[110, 108, 49, 58, 114, 49, 58, 103, 101]⟩, .int .i64 t, .int .u16 1, .string ⟨#[108, 49, 58, 97, 105, 48, 101, 101]⟩, .int .i64 (t + 5)])
      clear ho
      go_wp2_with fail
      refine (need_v calmS calmS rfl rfl t p (t) t0 t1 (by omega) (by omega) _ NC.out _ E1.out).mono ?_
      rintro e w2 ⟨rfl, ho⟩
      have HE2 := Lib.hid (HE1.out.only ho (fun h => h))
      obtain ⟨c10, c11, c12, c13, c14⟩ := HE2.out.five
      have O2 := Lib.hid (O1.out.tr ho)
      have E2 := Lib.hid (E1.out.noth ho)
      clear ho
      go_wp2_with fail
      refine (need_v calmS calmS rfl rfl t p (t + p) t0 t1 (by omega) (by omega) _ NE.out _ E2.out).mono ?_
      rintro e w3 ⟨rfl, ho⟩
      have HE3 := Lib.hid (HE2.out.only ho (fun h => h))
      obtain ⟨c20, c21, c22, c23, c24⟩ := HE3.out.five
      have O3 := Lib.hid (O2.out.tr ho)
      have E3 := Lib.hid (E2.out.noth ho)
      clear ho
      go_wp2_with (go_at_call 22; refine (nfl_awake _ E3.out).mono ?_; rintro e w9 ⟨rfl, ho⟩; have O9 := Lib.hid (O3.out.tr ho); clear ho)
      go_ret
      exact ⟨rfl, O9.out⟩
    · have NE := Lib.hid (show needB ⟨wKey, t, 1, calmS, t + 5⟩ true calmS (t + p) p = false by
        rw [wNeed calmS t p (t + p) t0 t1 p0 p1 (by omega) (by omega), fires_calm]
        rfl)
      have NC := Lib.hid (show needB ⟨wKey, t, 1, calmS, t + 5⟩ true fireS t p = true by
        rw [wChange calmS fireS (by decide), fires_fire, fires_calm]
        rfl)
      go_enter Tryd.func9, Tryd.ntmps9
      go_wp2
      go_region
      go_wp2_with fail
      refine (entry_v calmS rfl t t0 t1 _ E.out).mono ?_
      rintro e w1 ⟨h1, ho⟩
      have h1 : e = .returned (.tuple #[.agg #[.string ⟨#[110, 108, 49, 58, 114, 49, 58, 103, 101]⟩, .int .i64 t, .int .u16 1, .string ⟨#[108, 49, 58, 97, 105, 48, 101, 101]⟩, .int .i64 (t + 5)], .int .i64 0]) := h1
      subst h1
      have O1 := Lib.hid ((OW.out.drew.tr ho).alloc (.cells #[.string ⟨#[110, 108, 49, 58, 114, 49, 58, 103, 101]⟩, .int .i64 t, .int .u16 1, .string ⟨#[108, 49, 58, 97, 105, 48, 101, 101]⟩, .int .i64 (t + 5)] 24))
      have E1 := Lib.hid (E.out.noth (ho.alloc (.cells #[.string ⟨#[110, 108, 49, 58, 114, 49, 58, 103, 101]⟩, .int .i64 t, .int .u16 1, .string ⟨#[108, 49, 58, 97, 105, 48, 101, 101]⟩, .int .i64 (t + 5)] 24)))
      have HE1 := Lib.hid (Hld.new w1 24 #[.string ⟨#[110, 108, 49, 58, 114, 49, 58, 103, 101]⟩, .int .i64 t, .int .u16 1, .string ⟨#[108, 49, 58, 97, 105, 48, 101, 101]⟩, .int .i64 (t + 5)])
      clear ho
      go_wp2_with fail
      refine (need_v calmS fireS rfl rfl t p (t) t0 t1 (by omega) (by omega) _ NC.out _ E1.out).mono ?_
      rintro e w2 ⟨rfl, ho⟩
      have HE2 := Lib.hid (HE1.out.only ho (fun h => h))
      obtain ⟨c10, c11, c12, c13, c14⟩ := HE2.out.five
      have O2 := Lib.hid (O1.out.tr ho)
      have E2 := Lib.hid (E1.out.noth ho)
      clear ho
      go_wp2_with fail
      refine (need_v calmS calmS rfl rfl t p (t + p) t0 t1 (by omega) (by omega) _ NE.out _ E2.out).mono ?_
      rintro e w3 ⟨rfl, ho⟩
      have HE3 := Lib.hid (HE2.out.only ho (fun h => h))
      obtain ⟨c20, c21, c22, c23, c24⟩ := HE3.out.five
      have O3 := Lib.hid (O2.out.tr ho)
      have E3 := Lib.hid (E2.out.noth ho)
      clear ho
      go_wp2_with (go_at_call 22; refine (nfl_awake _ E3.out).mono ?_; rintro e w9 ⟨rfl, ho⟩; have O9 := Lib.hid (O3.out.tr ho); clear ho)
      go_ret
      exact ⟨rfl, O9.out⟩
    · have NE := Lib.hid (show needB ⟨wKey, t, 1, fireS, t + 5⟩ true fireS (t + p) p = true by
        rw [wNeed fireS t p (t + p) t0 t1 p0 p1 (by omega) (by omega), fires_fire]
        simp; omega)
      have NC := Lib.hid (show needB ⟨wKey, t, 1, fireS, t + 5⟩ true calmS t p = true by
        rw [wChange fireS calmS (by decide), fires_fire, fires_calm]
        rfl)
      go_enter Tryd.func9, Tryd.ntmps9
      go_wp2
      go_region
      go_wp2_with fail
      refine (entry_v fireS rfl t t0 t1 _ E.out).mono ?_
      rintro e w1 ⟨h1, ho⟩
      have h1 : e = .returned (.tuple #[.agg #[.string ⟨#[110, 108, 49, 58, 114, 49, 58, 103, 101]⟩, .int .i64 t, .int .u16 1, .string ⟨#[108, 49, 58, 97, 105, 49, 101, 101]⟩, .int .i64 (t + 5)], .int .i64 0]) := h1
      subst h1
      have O1 := Lib.hid ((OW.out.drew.tr ho).alloc (.cells #[.string ⟨#[110, 108, 49, 58, 114, 49, 58, 103, 101]⟩, .int .i64 t, .int .u16 1, .string ⟨#[108, 49, 58, 97, 105, 49, 101, 101]⟩, .int .i64 (t + 5)] 24))
      have E1 := Lib.hid (E.out.noth (ho.alloc (.cells #[.string ⟨#[110, 108, 49, 58, 114, 49, 58, 103, 101]⟩, .int .i64 t, .int .u16 1, .string ⟨#[108, 49, 58, 97, 105, 49, 101, 101]⟩, .int .i64 (t + 5)] 24)))
      have HE1 := Lib.hid (Hld.new w1 24 #[.string ⟨#[110, 108, 49, 58, 114, 49, 58, 103, 101]⟩, .int .i64 t, .int .u16 1, .string ⟨#[108, 49, 58, 97, 105, 49, 101, 101]⟩, .int .i64 (t + 5)])
      clear ho
      go_wp2_with fail
      refine (need_v fireS calmS rfl rfl t p (t) t0 t1 (by omega) (by omega) _ NC.out _ E1.out).mono ?_
      rintro e w2 ⟨rfl, ho⟩
      have HE2 := Lib.hid (HE1.out.only ho (fun h => h))
      obtain ⟨c10, c11, c12, c13, c14⟩ := HE2.out.five
      have O2 := Lib.hid (O1.out.tr ho)
      have E2 := Lib.hid (E1.out.noth ho)
      clear ho
      go_wp2_with fail
      refine (need_v fireS fireS rfl rfl t p (t + p) t0 t1 (by omega) (by omega) _ NE.out _ E2.out).mono ?_
      rintro e w3 ⟨rfl, ho⟩
      have HE3 := Lib.hid (HE2.out.only ho (fun h => h))
      obtain ⟨c20, c21, c22, c23, c24⟩ := HE3.out.five
      have O3 := Lib.hid (O2.out.tr ho)
      have E3 := Lib.hid (E2.out.noth ho)
      clear ho
      go_wp2_with (go_at_call 22; refine (nfl_awake _ E3.out).mono ?_; rintro e w9 ⟨rfl, ho⟩; have O9 := Lib.hid (O3.out.tr ho); clear ho)
      go_ret
      exact ⟨rfl, O9.out⟩
    · have NE := Lib.hid (show needB ⟨wKey, t, 1, fireS, t + 5⟩ true fireS (t + p) p = true by
        rw [wNeed fireS t p (t + p) t0 t1 p0 p1 (by omega) (by omega), fires_fire]
        simp; omega)
      obtain ⟨q, hq⟩ : ∃ q, needB ⟨wKey, t, 1, fireS, t + 5⟩ true fireS t p = q := ⟨_, rfl⟩
      have NC := Lib.hid hq
      clear hq
      go_enter Tryd.func9, Tryd.ntmps9
      go_wp2
      go_region
      go_wp2_with fail
      refine (entry_v fireS rfl t t0 t1 _ E.out).mono ?_
      rintro e w1 ⟨h1, ho⟩
      have h1 : e = .returned (.tuple #[.agg #[.string ⟨#[110, 108, 49, 58, 114, 49, 58, 103, 101]⟩, .int .i64 t, .int .u16 1, .string ⟨#[108, 49, 58, 97, 105, 49, 101, 101]⟩, .int .i64 (t + 5)], .int .i64 0]) := h1
      subst h1
      have O1 := Lib.hid ((OW.out.drew.tr ho).alloc (.cells #[.string ⟨#[110, 108, 49, 58, 114, 49, 58, 103, 101]⟩, .int .i64 t, .int .u16 1, .string ⟨#[108, 49, 58, 97, 105, 49, 101, 101]⟩, .int .i64 (t + 5)] 24))
      have E1 := Lib.hid (E.out.noth (ho.alloc (.cells #[.string ⟨#[110, 108, 49, 58, 114, 49, 58, 103, 101]⟩, .int .i64 t, .int .u16 1, .string ⟨#[108, 49, 58, 97, 105, 49, 101, 101]⟩, .int .i64 (t + 5)] 24)))
      have HE1 := Lib.hid (Hld.new w1 24 #[.string ⟨#[110, 108, 49, 58, 114, 49, 58, 103, 101]⟩, .int .i64 t, .int .u16 1, .string ⟨#[108, 49, 58, 97, 105, 49, 101, 101]⟩, .int .i64 (t + 5)])
      clear ho
      go_wp2_with fail
      refine (need_v fireS fireS rfl rfl t p (t) t0 t1 (by omega) (by omega) _ NC.out _ E1.out).mono ?_
      rintro e w2 ⟨rfl, ho⟩
      have HE2 := Lib.hid (HE1.out.only ho (fun h => h))
      obtain ⟨c10, c11, c12, c13, c14⟩ := HE2.out.five
      have O2 := Lib.hid (O1.out.tr ho)
      have E2 := Lib.hid (E1.out.noth ho)
      clear ho
      go_wp2_with fail
      refine (need_v fireS fireS rfl rfl t p (t + p) t0 t1 (by omega) (by omega) _ NE.out _ E2.out).mono ?_
      rintro e w3 ⟨rfl, ho⟩
      have HE3 := Lib.hid (HE2.out.only ho (fun h => h))
      obtain ⟨c20, c21, c22, c23, c24⟩ := HE3.out.five
      have O3 := Lib.hid (O2.out.tr ho)
      have E3 := Lib.hid (E2.out.noth ho)
      clear ho
      go_wp2_with (go_at_call 22; refine (nfl_awake _ E3.out).mono ?_; rintro e w9 ⟨rfl, ho⟩; have O9 := Lib.hid (O3.out.tr ho); clear ho)
      go_ret
      exact ⟨rfl, O9.out⟩
end Go.Proofs.YtgclhkknkppmbaaDoor
