/- The walk of nflog.Of. -/
import Derived.Test.YtgclhkknkppmbaaDoorNOf
namespace Go.Proofs.YtgclhkknkppmbaaDoor
open Go.RowKit Go.Lib
set_option linter.unusedVariables false
set_option maxRecDepth 100000
attribute [local go_sem ↓] Go.wp_at_zero Go.wp_at_succ

def OfPost (e : Ent) (w : World) (x : Ending) (w' : World) : Prop := ∃ (s : Snd) (b : Bool), ofR e = (s, b) ∧ x = .returned (.tuple #[.agg #[.string s.rcv, .string s.key, .string s.rev, .int .i64 s.at_], .bool b]) ∧ Only Noth w w'
/-- The boxes of a walk of Of. -/
structure OfW (w W : World) (e : Ent) : Prop where
  eb : Hld W w.heap.size 24 #[.string e.key, .int .i64 e.time, .int .u16 e.org, .string e.val, .int .i64 e.til]
  rb : Hld W (w.heap.size + 1) 35 #[.string ⟨#[]⟩, .string ⟨#[]⟩, .string ⟨#[]⟩, .int .i64 0]
  only : Only Noth w W
  env : Env W
theorem OfW.noth {w W W' : World} {e : Ent} (h : OfW w W e) (ho : Only Noth W W') : OfW w W' e := ⟨h.eb.only ho (fun h => h), h.rb.only ho (fun h => h), h.only.tr ho, h.env.noth ho⟩
theorem OfW.at {w W W' : World} {e : Ent} {g : Nat} (h : OfW w W e) (hg : w.heap.size + 1 < g) (hi : Hi g) (ho : Only (At g) W W') : OfW w W' e :=
  ⟨h.eb.only ho (fun h => by have : w.heap.size = g := h; omega), h.rb.only ho (fun h => by have : w.heap.size + 1 = g := h; omega), h.only.trans ho (fun j hj hl => by have : j = g := hj; omega), h.env.at_ ho hi⟩
theorem cut_prefix (s p : ByteArray) (w : World) : Calls Tryd.prog 55 #[.string s, .string p] w fun e w' => e = .returned (.tuple #[.string ⟨(Lib.trimPrefix s.data.toList p.data.toList).toArray⟩, .bool (Lib.hasPrefix s.data.toList p.data.toList)]) ∧ w = w' :=
  (Tryd.strings_CutPrefix s p w).mono fun e w' ⟨h1, h2⟩ => ⟨h1, h2.symm⟩
theorem rdr_new_g (g : Nat) (A : Option Addr) (c : Nat) (l : List UInt8) (n : Nat) (hn : l.length = n) (w : World) (hg : w.heap.size = g) (hp : Part w (.slice A l.length c) l) :
    Calls Tryd.prog 30 #[.slice A n c] w fun e w' => e = .returned (.pointer (some ⟨g, 0, none⟩)) ∧ RdAt w' g ⟨l, 0⟩ ∧ Only Noth w w' := by subst hg hn; exact rdr_new A c l w hp
/-- Behind the reading. -/
def OfRead (w : World) (e : Ent) (s : Snd) (v : Value) (W : World) : Prop := ∃ p, v = .pointer (some ⟨p, 0, none⟩) ∧ OfW w W e ∧ Hld W p 35 #[.string s.rcv, .string s.key, .string s.rev, .int .i64 s.at_] ∧ w.heap.size + 1 < p
section
variable (e : Ent) (hk : e.key.size ≤ 140737488355000) (hv : e.val.size ≤ 9223372036854775807) (ht0 : -9223372036854775808 ≤ e.time) (ht1 : e.time ≤ 9223372036854775807) (hu0 : -9223372036854775808 ≤ e.til) (hu1 : e.til ≤ 9223372036854775807) (w : World) (he : Env w)
theorem of_prefix (h : Lib.hasPrefix e.key.data.toList (ByteArray.mk #[110]).data.toList = false) (hb : ofB e = false) : Calls Tryd.prog 35 #[.agg #[.string e.key, .int .i64 e.time, .int .u16 e.org, .string e.val, .int .i64 e.til]] w (OfPost e w) := by
  have NO := Lib.hid (ofR_no hb)
  have HP := Lib.hid h
  clear h hb
  go_enter Tryd.func35, Tryd.ntmps35
  go_wp2_with fail
  refine (cut_prefix _ _ _).mono ?_
  rintro x w' ⟨rfl, rfl⟩
  rw [HP.out]
  go_wp2
  refine bodyPost_ret (v := .tuple #[.agg #[.string ⟨#[]⟩, .string ⟨#[]⟩, .string ⟨#[]⟩, .int .i64 0], .bool false]) (by simp [results, Tryd.results35, go_sem]) rfl ⟨_, _, NO.out, rfl, ((Only.refl _ _).alloc _).alloc _⟩
theorem of_time (h : Lib.hasPrefix e.key.data.toList (ByteArray.mk #[110]).data.toList = true) (hb : ofB e = false) (ht : okT e.time = false ∨ okT e.til = false) : Calls Tryd.prog 35 #[.agg #[.string e.key, .int .i64 e.time, .int .u16 e.org, .string e.val, .int .i64 e.til]] w (OfPost e w) := by
  have NO := Lib.hid (ofR_no hb)
  have HP := Lib.hid h
  clear h hb
  by_cases k1 : okT e.time = false
  · have K1 := Lib.hid k1
    have K2 := Lib.hid k1
    clear k1 ht
    go_enter Tryd.func35, Tryd.ntmps35
    go_wp2_with fail
    refine (cut_prefix _ _ _).mono ?_
    rintro x w' ⟨rfl, rfl⟩
    rw [HP.out]
    go_wp2_with (first | (go_at_call 41; refine (nfl_time _ _).mono ?_; rintro x w2 ⟨rfl, rfl⟩; (first | rw [K1.out] | rw [K2.out])))
    refine bodyPost_ret (v := .tuple #[.agg #[.string ⟨#[]⟩, .string ⟨#[]⟩, .string ⟨#[]⟩, .int .i64 0], .bool false]) (by simp [results, Tryd.results35, go_sem]) rfl ⟨_, _, NO.out, rfl, ((Only.refl _ _).alloc _).alloc _⟩
  · have K1 := Lib.hid (show okT e.time = true by simpa using k1)
    have K2 := Lib.hid (ht.resolve_left k1)
    clear k1 ht
    go_enter Tryd.func35, Tryd.ntmps35
    go_wp2_with fail
    refine (cut_prefix _ _ _).mono ?_
    rintro x w' ⟨rfl, rfl⟩
    rw [HP.out]
    go_wp2_with (first | (go_at_call 41; refine (nfl_time _ _).mono ?_; rintro x w2 ⟨rfl, rfl⟩; (first | rw [K1.out] | rw [K2.out])))
    refine bodyPost_ret (v := .tuple #[.agg #[.string ⟨#[]⟩, .string ⟨#[]⟩, .string ⟨#[]⟩, .int .i64 0], .bool false]) (by simp [results, Tryd.results35, go_sem]) rfl ⟨_, _, NO.out, rfl, ((Only.refl _ _).alloc _).alloc _⟩
include hk hv he
set_option maxHeartbeats 8000000 in
theorem of_read (h : Lib.hasPrefix e.key.data.toList (ByteArray.mk #[110]).data.toList = true) (ht : Lib.trimPrefix e.key.data.toList (ByteArray.mk #[110]).data.toList = e.key.data.toList.drop 1) (k1 : okT e.time = true) (k2 : okT e.til = true) : Calls Tryd.prog 35 #[.agg #[.string e.key, .int .i64 e.time, .int .u16 e.org, .string e.val, .int .i64 e.til]] w (OfPost e w) := by
  have W0 := Lib.hid (show OfW w ((w.alloc (.cells #[.string e.key, .int .i64 e.time, .int .u16 e.org, .string e.val, .int .i64 e.til] 24)).alloc (.cells #[.string ⟨#[]⟩, .string ⟨#[]⟩, .string ⟨#[]⟩, .int .i64 0] 35)) e from ⟨(Hld.new w 24 #[.string e.key, .int .i64 e.time, .int .u16 e.org, .string e.val, .int .i64 e.til]).alloc _, Hld.at_ _ _ _ _ (by simp), ((Only.refl Noth w).alloc _).alloc _, he.noth (((Only.refl Noth w).alloc _).alloc _)⟩)
  obtain ⟨b1, b2⟩ := okT_iff.1 k1
  obtain ⟨b3, b4⟩ := okT_iff.1 k2
  have HP := Lib.hid h
  have K1 := Lib.hid k1
  have K2 := Lib.hid k2
  obtain ⟨D, hD⟩ : ∃ D, ByteArray.mk (Lib.trimPrefix e.key.data.toList (ByteArray.mk #[110]).data.toList).toArray = D := ⟨_, rfl⟩
  have hDl : D.data.toList = e.key.data.toList.drop 1 := by rw [← hD, ht]
  have hDs : D.size ≤ 140737488355000 := by
    have e1 : D.data.toList.length = D.size := rfl
    have e2 : e.key.data.toList.length = e.key.size := rfl
    rw [← e1, hDl, List.length_drop]; omega
  obtain ⟨A, c, WC, hcv, hp, ho⟩ := conv_bytes D (by omega) ((w.alloc (.cells #[.string e.key, .int .i64 e.time, .int .u16 e.org, .string e.val, .int .i64 e.til] 24)).alloc (.cells #[.string ⟨#[]⟩, .string ⟨#[]⟩, .string ⟨#[]⟩, .int .i64 0] 35))
  have W1 := Lib.hid (W0.out.noth ho)
  have PD := Lib.hid hp
  obtain ⟨r0, hr0⟩ : ∃ r, Rd.byte ⟨D.data.toList, 0⟩ 108 = r := ⟨_, rfl⟩
  obtain ⟨r1, kr, hr1⟩ : ∃ (x : Rd) (k : ByteArray), r0.text 1024 = (x, k.data.toList) := ⟨(r0.text 1024).1, ⟨(r0.text 1024).2.toArray⟩, rfl⟩
  obtain ⟨r2, kk, hr2⟩ : ∃ (x : Rd) (k : ByteArray), r1.text 1024 = (x, k.data.toList) := ⟨(r1.text 1024).1, ⟨(r1.text 1024).2.toArray⟩, rfl⟩
  have hrd : (rdS e).2 = ⟨kr, kk, e.val, e.time⟩ := by
    unfold rdS
    rw [← hDl, hr0, hr1]
    simp only
    rw [hr2]
  obtain ⟨s, hs⟩ : ∃ s : Snd, (⟨kr, kk, e.val, e.time⟩ : Snd) = s := ⟨_, rfl⟩
  have RS := Lib.hid (show s.rcv.size + s.key.size ≤ 140737488355000 by
    have := rdS_len e
    rw [hrd, hs] at this
    omega)
  obtain ⟨y, hy⟩ : ∃ y, s.ent e.org (e.til - e.time) = y := ⟨_, rfl⟩
  have RDS := Lib.hid (hrd.trans hs)
  have X := Lib.hid hy
  have HD := Lib.hid hD
  have R0 := Lib.hid hr0
  have R1 := Lib.hid hr1
  have R2 := Lib.hid hr2
  have HSS := Lib.hid hs
  clear he h ht k1 k2 hD hDl hp ho hr0 hr1 hr2 hrd hs hy
  go_enter Tryd.func35, Tryd.ntmps35
  go_wp2_with fail
  refine (cut_prefix _ _ _).mono ?_
  rintro x w' ⟨rfl, rfl⟩
  rw [HP.out, HD.out]
  go_wp2_with (first | (go_at_call 41; refine (nfl_time _ _).mono ?_; rintro x w2 ⟨rfl, rfl⟩; (first | rw [K1.out] | rw [K2.out])))
  refine (rdr_new_g WC.heap.size A c D.data.toList D.size rfl _ rfl PD.out).mono ?_
  rintro x w3 ⟨rfl, hr, ho⟩
  obtain ⟨g, hg⟩ : ∃ g, WC.heap.size = g := ⟨_, rfl⟩
  rw [hg] at hr
  rw [hg]
  have G := Lib.hid (show w.heap.size + 1 < g by rw [← hg]; exact W1.out.rb.lt)
  have HI := Lib.hid (W1.out.env.hi (g := g) (by omega))
  have W3 := Lib.hid (W1.out.noth ho)
  have RD3 := Lib.hid hr
  clear hr ho hg
  go_wp2_with fail
  refine (rdr_open g _ _ RD3.out).mono ?_
  rw [R0.out]
  rintro x w4 ⟨rfl, hr, ho⟩
  have W4 := Lib.hid (W3.out.at G.out HI.out ho)
  have RD4 := Lib.hid hr
  clear hr ho
  go_upto_region 6 with fail
  go_cut [7] from 36 to 44 (fun v W => Hid (OfRead w e s v W))
  case first =>
    have RD4D := RD4.out.noth ((Only.refl _ _).drew)
    have E0 := W4.out.env.noth ((Only.refl _ _).drew)
    refine wp_region_N (At g) (by kernel_rfl) ?_
    refine wpN_take (i := 0) (d := some 36) rfl rfl (by kernel_rfl) (by kernel_rfl) (by kernel_rfl) (fun _ _ _ h => h) (sure_value (v := .pointer (some ⟨g, 0, none⟩)) (by rfl) (fun _ _ => rfl)) (Only.refl _ _) ?_
    simp only [Act.put, List.setIfInBounds_toArray, List.set_cons_zero, List.set_cons_succ]
    refine wpN_take (i := 2) (d := some 38) rfl rfl (by kernel_rfl) (by kernel_rfl) (by kernel_rfl) (fun _ _ _ h => h) (sure_value (v := .pointer (some ⟨g, 0, none⟩)) (by rfl) (fun _ _ => rfl)) (Only.refl _ _) ?_
    simp only [Act.put, List.setIfInBounds_toArray, List.set_cons_zero, List.set_cons_succ]
    refine wpN_take (i := 4) (d := some 40) rfl rfl (by kernel_rfl) (by kernel_rfl) (by kernel_rfl) (fun _ _ _ h => h) (sure_value (v := .pointer (some ⟨w.heap.size, 3, none⟩)) (by rfl) (fun _ _ => by go_simp)) (Only.refl _ _) ?_
    simp only [Act.put, List.setIfInBounds_toArray, List.set_cons_zero, List.set_cons_succ]
    refine wpN_take (i := 5) (d := some 41) rfl rfl (by kernel_rfl) (by kernel_rfl) (by kernel_rfl) (fun _ _ _ h => h) (sure_str (by rfl) rfl rfl W4.out.eb.drew rfl (by have := G.out; intro h; have : w.heap.size = g := h; omega)) (Only.refl _ _) ?_
    simp only [Act.put, List.setIfInBounds_toArray, List.set_cons_zero, List.set_cons_succ]
    refine wpN_take (i := 6) (d := some 42) rfl rfl (by kernel_rfl) (by kernel_rfl) (by kernel_rfl) (fun _ _ _ h => h) (sure_value (v := .pointer (some ⟨w.heap.size, 1, none⟩)) (by rfl) (fun _ _ => by go_simp)) (Only.refl _ _) ?_
    simp only [Act.put, List.setIfInBounds_toArray, List.set_cons_zero, List.set_cons_succ]
    refine wpN_take (i := 7) (d := some 43) rfl rfl (by kernel_rfl) (by kernel_rfl) (by kernel_rfl) (fun _ _ _ h => h) (sure_num (by rfl) rfl rfl W4.out.eb.drew rfl (by have := G.out; intro h; have : w.heap.size = g := h; omega)) (Only.refl _ _) ?_
    simp only [Act.put, List.setIfInBounds_toArray, List.set_cons_zero, List.set_cons_succ]
    refine wpN_ca (i := 1) (j := 9) (d := some 37) (d' := some 7) (T := (fun u w1 w2 => u = .string kr ∧ RdAt w2 g r1 ∧ Only (At g) w1 w2)) (z := #[.string ⟨#[]⟩, .string ⟨#[]⟩, .string ⟨#[]⟩, .int .i64 0]) (t := 35) (fun w1 ho => (rd_text_v g _ r1 1024 kr R1.out _ (RD4D.noth ho) (E0.noth ho)).mono (fun x w' ⟨h1, h2, h3⟩ => ⟨_, h1, ⟨rfl, h2, h3⟩, (only_up _ _ _ (Only.refl _ _) ho).trans h3 (fun j hj _ => hj)⟩)) (by kernel_rfl) rfl rfl (by rfl) (fun _ => by go_simp) rfl rfl (by rfl) (fun _ => rfl) (Only.refl _ _) ?_ ?_
    · rintro u v2 u2 h3 ⟨rfl, hr, ho4⟩ hS2
      simp only [Act.put, List.setIfInBounds_toArray, List.set_cons_zero, List.set_cons_succ]
      have E2 := (E0.noth h3).at_ ho4 HI.out
      have N2 := h3
      have A2 := ho4
      refine wpN_ca (i := 3) (j := 9) (d := some 39) (d' := some 7) (T := (fun u w1 w2 => u = .string kk ∧ RdAt w2 g r2 ∧ Only (At g) w1 w2)) (z := #[.string ⟨#[]⟩, .string ⟨#[]⟩, .string ⟨#[]⟩, .int .i64 0]) (t := 35) (fun w1 ho => (rd_text_v g _ r2 1024 kk R2.out _ (hr.noth ho) (E2.noth ho)).mono (fun x w' ⟨h1, h2, h3⟩ => ⟨_, h1, ⟨rfl, h2, h3⟩, (only_up _ _ _ hS2 ho).trans h3 (fun j hj _ => hj)⟩)) (by kernel_rfl) rfl rfl (by rfl) (fun _ => by go_simp) rfl rfl (by rfl) (fun _ => rfl) hS2 ?_ ?_
      · rintro u v4 u4 h3 ⟨rfl, hr, ho4⟩ hS4
        simp only [Act.put, List.setIfInBounds_toArray, List.set_cons_zero, List.set_cons_succ]
        have E4 := (E2.noth h3).at_ ho4 HI.out
        have N4 := h3
        have A4 := ho4
        refine wpN_take (i := 8) (d := some 44) rfl rfl (by kernel_rfl) (by kernel_rfl) (by kernel_rfl) (fun _ _ _ h => h) (sure_value (v := .agg #[.string kr, .string kk, .string e.val, .int .i64 e.time]) (by rfl) (fun _ _ => by go_simp)) hS4 ?_
        simp only [Act.put, List.setIfInBounds_toArray, List.set_cons_zero, List.set_cons_succ]
        refine wpN_alloc (i := 9) (d := some 7) (z := #[.string ⟨#[]⟩, .string ⟨#[]⟩, .string ⟨#[]⟩, .int .i64 0]) (t := 35) (by kernel_rfl) rfl rfl (by rfl) hS4 (fun _ => rfl) ?_
        intro w6 p hoA HA hp
        simp only [Act.put, List.setIfInBounds_toArray, List.set_cons_zero, List.set_cons_succ]
        have hp : w4.heap.size ≤ p := by have := (Only.undrew hS4).size; omega
        refine wpN_store (i := 10) (g := p) (cs' := #[.string kr, .string kk, .string e.val, .int .i64 e.time]) (by kernel_rfl) rfl (by rfl) rfl rfl rfl rfl HA (fun h => by have : p < w4.heap.size := h; omega) rfl (by simp [Value.oneCell']) (by kernel_rfl) (only_up _ _ _ hS4 hoA) ?_
        intro W5 W6 ho5 HB ho6 hS6
        refine wpN_done (by kernel_rfl) (fun W7 ho7 => ?_) _
        have HB7 := HB.only ho7 (fun h => h)
        have hS7 := only_up _ _ _ hS6 ho7
        have WF := Lib.hid (show OfRead w e s (.pointer (some ⟨p, 0, none⟩)) W7 from ⟨p, rfl, W4.out.at G.out HI.out (Only.undrew hS7), by rw [← HSS.out]; exact HB7, by have := W4.out.rb.lt; have hp2 : w4.heap.size ≤ p := hp; omega⟩)
        go_wp2_with fail
        go_meet
        exact WF
      · intro w6 p hoA HA hp
        simp only [Act.put, List.setIfInBounds_toArray, List.set_cons_zero, List.set_cons_succ]
        have hp : w4.heap.size ≤ p := by have := (Only.undrew hS2).size; omega
        refine wpN_call (i := 3) (d := some 39) (T := (fun u w1 w2 => u = .string kk ∧ RdAt w2 g r2 ∧ Only (At g) w1 w2)) (fun w1 ho => (rd_text_v g _ r2 1024 kk R2.out _ ((hr.noth hoA).noth ho) ((E2.noth hoA).noth ho)).mono (fun x w' ⟨h1, h2, h3⟩ => ⟨_, h1, ⟨rfl, h2, h3⟩, (only_up _ _ _ (only_up _ _ _ hS2 hoA) ho).trans h3 (fun j hj _ => hj)⟩)) (by kernel_rfl) rfl rfl (by rfl) (fun _ => by go_simp) ?_
        rintro u v3 u3 h3 ⟨rfl, hr, ho4⟩ hS3
        simp only [Act.put, List.setIfInBounds_toArray, List.set_cons_zero, List.set_cons_succ]
        have E3 := ((E2.noth hoA).noth h3).at_ ho4 HI.out
        have N3 := h3
        have A3 := ho4
        have HA := (HA.only N3 (fun h => h)).only A3 (fun h => by have : p = g := h; have := RD4.out.lt; omega)
        refine wpN_take (i := 8) (d := some 44) rfl rfl (by kernel_rfl) (by kernel_rfl) (by kernel_rfl) (fun _ _ _ h => h) (sure_value (v := .agg #[.string kr, .string kk, .string e.val, .int .i64 e.time]) (by rfl) (fun _ _ => by go_simp)) hS3 ?_
        simp only [Act.put, List.setIfInBounds_toArray, List.set_cons_zero, List.set_cons_succ]
        refine wpN_store (i := 10) (g := p) (cs' := #[.string kr, .string kk, .string e.val, .int .i64 e.time]) (by kernel_rfl) rfl (by rfl) rfl rfl rfl rfl HA (fun h => by have : p < w4.heap.size := h; omega) rfl (by simp [Value.oneCell']) (by kernel_rfl) hS3 ?_
        intro W5 W6 ho5 HB ho6 hS6
        refine wpN_done (by kernel_rfl) (fun W7 ho7 => ?_) _
        have HB7 := HB.only ho7 (fun h => h)
        have hS7 := only_up _ _ _ hS6 ho7
        have WF := Lib.hid (show OfRead w e s (.pointer (some ⟨p, 0, none⟩)) W7 from ⟨p, rfl, W4.out.at G.out HI.out (Only.undrew hS7), by rw [← HSS.out]; exact HB7, by have := W4.out.rb.lt; have hp2 : w4.heap.size ≤ p := hp; omega⟩)
        go_wp2_with fail
        go_meet
        exact WF
    · intro w6 p hoA HA hp
      simp only [Act.put, List.setIfInBounds_toArray, List.set_cons_zero, List.set_cons_succ]
      have hp : w4.heap.size ≤ p := hp
      refine wpN_call (i := 1) (d := some 37) (T := (fun u w1 w2 => u = .string kr ∧ RdAt w2 g r1 ∧ Only (At g) w1 w2)) (fun w1 ho => (rd_text_v g _ r1 1024 kr R1.out _ ((RD4D.noth hoA).noth ho) ((E0.noth hoA).noth ho)).mono (fun x w' ⟨h1, h2, h3⟩ => ⟨_, h1, ⟨rfl, h2, h3⟩, (only_up _ _ _ (only_up _ _ _ (Only.refl _ _) hoA) ho).trans h3 (fun j hj _ => hj)⟩)) (by kernel_rfl) rfl rfl (by rfl) (fun _ => by go_simp) ?_
      rintro u v0 u0 h3 ⟨rfl, hr, ho4⟩ hS0
      simp only [Act.put, List.setIfInBounds_toArray, List.set_cons_zero, List.set_cons_succ]
      have E0 := ((E0.noth hoA).noth h3).at_ ho4 HI.out
      have N0 := h3
      have A0 := ho4
      have HA := (HA.only N0 (fun h => h)).only A0 (fun h => by have : p = g := h; have := RD4.out.lt; omega)
      refine wpN_call (i := 3) (d := some 39) (T := (fun u w1 w2 => u = .string kk ∧ RdAt w2 g r2 ∧ Only (At g) w1 w2)) (fun w1 ho => (rd_text_v g _ r2 1024 kk R2.out _ (hr.noth ho) (E0.noth ho)).mono (fun x w' ⟨h1, h2, h3⟩ => ⟨_, h1, ⟨rfl, h2, h3⟩, (only_up _ _ _ hS0 ho).trans h3 (fun j hj _ => hj)⟩)) (by kernel_rfl) rfl rfl (by rfl) (fun _ => by go_simp) ?_
      rintro u v1 u1 h3 ⟨rfl, hr, ho4⟩ hS1
      simp only [Act.put, List.setIfInBounds_toArray, List.set_cons_zero, List.set_cons_succ]
      have E1 := (E0.noth h3).at_ ho4 HI.out
      have N1 := h3
      have A1 := ho4
      have HA := (HA.only N1 (fun h => h)).only A1 (fun h => by have : p = g := h; have := RD4.out.lt; omega)
      refine wpN_take (i := 8) (d := some 44) rfl rfl (by kernel_rfl) (by kernel_rfl) (by kernel_rfl) (fun _ _ _ h => h) (sure_value (v := .agg #[.string kr, .string kk, .string e.val, .int .i64 e.time]) (by rfl) (fun _ _ => by go_simp)) hS1 ?_
      simp only [Act.put, List.setIfInBounds_toArray, List.set_cons_zero, List.set_cons_succ]
      refine wpN_store (i := 10) (g := p) (cs' := #[.string kr, .string kk, .string e.val, .int .i64 e.time]) (by kernel_rfl) rfl (by rfl) rfl rfl rfl rfl HA (fun h => by have : p < w4.heap.size := h; omega) rfl (by simp [Value.oneCell']) (by kernel_rfl) hS1 ?_
      intro W5 W6 ho5 HB ho6 hS6
      refine wpN_done (by kernel_rfl) (fun W7 ho7 => ?_) _
      have HB7 := HB.only ho7 (fun h => h)
      have hS7 := only_up _ _ _ hS6 ho7
      have WF := Lib.hid (show OfRead w e s (.pointer (some ⟨p, 0, none⟩)) W7 from ⟨p, rfl, W4.out.at G.out HI.out (Only.undrew hS7), by rw [← HSS.out]; exact HB7, by have := W4.out.rb.lt; have hp2 : w4.heap.size ≤ p := hp; omega⟩)
      go_wp2_with fail
      go_meet
      exact WF
  case rest =>
    obtain ⟨p, rfl, wr, sb, hp⟩ := hcut.out
    have WR := Lib.hid wr
    have SB := Lib.hid sb
    obtain ⟨b0, b1, b2, b3, b4⟩ := wr.eb.five
    obtain ⟨c0, c1, c2, c3⟩ := sb.four
    clear wr sb W4 RD4 W3 RD3 W1 PD W0 hcut
    have hw : IntKind.i64.wrap (e.til - e.time) = e.til - e.time := IntWalk.i64_in _ (by omega)
    have hrev : s.rev = e.val := by rw [← HSS.out]
    have hv : s.rev.size ≤ 9223372036854775807 := by rw [hrev]; exact hv
    clear hrev
    go_wp2_with fail
    refine (nfl_entry s e.org (e.til - e.time) RS.out hv _ WR.out.env.tab).mono ?_
    rw [X.out]
    rintro x w8 ⟨rfl, ho⟩
    have W8 := Lib.hid (WR.out.noth ho)
    have S8 := Lib.hid (SB.out.only ho (fun h => h))
    clear ho c0 c1 c2 c3 b0 b1 b2 b3 b4
    obtain ⟨b0, b1, b2, b3, b4⟩ := (W8.out.eb.alloc (.cells #[.string y.1.key, .int .i64 y.1.time, .int .u16 y.1.org, .string y.1.val, .int .i64 y.1.til] 24)).five
    obtain ⟨c0, c1, c2, c3⟩ := (S8.out.alloc (.cells #[.string y.1.key, .int .i64 y.1.time, .int .u16 y.1.org, .string y.1.val, .int .i64 y.1.til] 24)).four
    have RB := Lib.hid (W8.out.rb.alloc (.cells #[.string y.1.key, .int .i64 y.1.time, .int .u16 y.1.org, .string y.1.val, .int .i64 y.1.til] 24))
    have ON := Lib.hid (W8.out.only.alloc (.cells #[.string y.1.key, .int .i64 y.1.time, .int .u16 y.1.org, .string y.1.val, .int .i64 y.1.til] 24))
    cases hb : ofB e
    · have NO := Lib.hid (ofR_no hb)
      have hcond : ¬ (y.1.same e = true ∧ y.2 = 0) := by
        rintro ⟨h1, h2⟩
        rw [ofB_iff.2 (by rw [RDS.out, X.out]; exact Prod.ext (same_iff.1 h1) h2)] at hb
        cases hb
      clear hb
      by_cases hf : y.2 = 0
      · have e1 : (y.2 != 0) = false := by simpa using hf
        have hsm : y.1.same e = false := by
          cases hs : y.1.same e
          · rfl
          · exact absurd ⟨hs, hf⟩ hcond
        have hne : ∀ V, (binOp .neq 24 (.agg #[.string y.1.key, .int .i64 y.1.time, .int .u16 y.1.org, .string y.1.val, .int .i64 y.1.til]) (.agg #[.string e.key, .int .i64 e.time, .int .u16 e.org, .string e.val, .int .i64 e.til])).run Tryd.prog V = .ok (.bool true) V := fun V => by rw [ne_ent y.1 e V, hsm]; rfl
        have hgd := guard_ent
        clear hf hsm hcond
        go_wp2_with (refine wpList_store_whole rfl rfl 35 (.tmp 2) (.tmp 64) rfl (w.heap.size + 1) rfl #[.string ⟨#[]⟩, .string ⟨#[]⟩, .string ⟨#[]⟩, .int .i64 0] rfl 35 _ RB.out rfl (by simp [Value.oneCell']) (by kernel_rfl) ?_; intro w9 hb9 ho9 _; obtain ⟨y0, y1, y2, y3⟩ := hb9.four; have O9 := Lib.hid ho9; clear hb9 ho9)
        refine bodyPost_ret (v := .tuple #[.agg #[.string ⟨#[]⟩, .string ⟨#[]⟩, .string ⟨#[]⟩, .int .i64 0], .bool false]) (by simp [results, Tryd.results35, go_sem, y0, y1, y2, y3]) rfl ⟨zs, false, NO.out, rfl, ?_⟩
        exact ON.out.trans O9.out (fun j hj hl => absurd hl (by have : j = w.heap.size + 1 := hj; omega))
      · have e1 : (y.2 != 0) = true := by simpa using hf
        clear hf hcond
        go_wp2_with (refine wpList_store_whole rfl rfl 35 (.tmp 2) (.tmp 64) rfl (w.heap.size + 1) rfl #[.string ⟨#[]⟩, .string ⟨#[]⟩, .string ⟨#[]⟩, .int .i64 0] rfl 35 _ RB.out rfl (by simp [Value.oneCell']) (by kernel_rfl) ?_; intro w9 hb9 ho9 _; obtain ⟨y0, y1, y2, y3⟩ := hb9.four; have O9 := Lib.hid ho9; clear hb9 ho9)
        refine bodyPost_ret (v := .tuple #[.agg #[.string ⟨#[]⟩, .string ⟨#[]⟩, .string ⟨#[]⟩, .int .i64 0], .bool false]) (by simp [results, Tryd.results35, go_sem, y0, y1, y2, y3]) rfl ⟨zs, false, NO.out, rfl, ?_⟩
        exact ON.out.trans O9.out (fun j hj hl => absurd hl (by have : j = w.heap.size + 1 := hj; omega))
    · have YES := Lib.hid (ofR_yes hb)
      have hy := ofB_iff.1 hb
      rw [RDS.out, X.out] at hy
      subst hy
      clear hb
      have hne : ∀ V, (binOp .neq 24 (.agg #[.string e.key, .int .i64 e.time, .int .u16 e.org, .string e.val, .int .i64 e.til]) (.agg #[.string e.key, .int .i64 e.time, .int .u16 e.org, .string e.val, .int .i64 e.til])).run Tryd.prog V = .ok (.bool false) V := fun V => by rw [ne_ent e e V, same_self]; rfl
      have hgd := guard_ent
      go_wp2_with (refine wpList_store_whole rfl rfl 35 (.tmp 2) (.tmp 65) rfl (w.heap.size + 1) rfl #[.string s.rcv, .string s.key, .string s.rev, .int .i64 s.at_] rfl 35 _ RB.out rfl (by simp [Value.oneCell']) (by kernel_rfl) ?_; intro w9 hb9 ho9 _; obtain ⟨y0, y1, y2, y3⟩ := hb9.four; have O9 := Lib.hid ho9; clear hb9 ho9)
      refine bodyPost_ret (v := .tuple #[.agg #[.string s.rcv, .string s.key, .string s.rev, .int .i64 s.at_], .bool true]) (by simp [results, Tryd.results35, go_sem, y0, y1, y2, y3]) rfl ⟨s, true, (by rw [YES.out, RDS.out]), rfl, ?_⟩
      exact ON.out.trans O9.out (fun j hj hl => absurd hl (by have : j = w.heap.size + 1 := hj; omega))
end
theorem nfl_of (e : Ent) (hk : e.key.size ≤ 140737488355000) (hv : e.val.size ≤ 9223372036854775807) (w : World) (he : Env w) : Calls Tryd.prog 35 #[.agg #[.string e.key, .int .i64 e.time, .int .u16 e.org, .string e.val, .int .i64 e.til]] w (OfPost e w) := by
  by_cases h : Lib.hasPrefix e.key.data.toList (ByteArray.mk #[110]).data.toList = true
  · by_cases ht : okT e.time = true ∧ okT e.til = true
    · exact of_read e hk hv w he h (by unfold Lib.trimPrefix; rw [if_pos h]; rfl) ht.1 ht.2
    · refine of_time e w h ?_ ?_
      · cases hb : ofB e
        · rfl
        · exact absurd ⟨(ofB_time hb).1, (ofB_time hb).2.1⟩ ht
      · cases h1 : okT e.time
        · exact .inl rfl
        · cases h2 : okT e.til
          · exact .inr rfl
          · exact absurd ⟨h1, h2⟩ ht
  · refine of_prefix e w (by simpa using h) ?_
    cases hb : ofB e
    · rfl
    · obtain ⟨t, ht⟩ := ofB_key hb
      rw [ht] at h
      exact absurd (by simp [Lib.hasPrefix]) h
end Go.Proofs.YtgclhkknkppmbaaDoor
