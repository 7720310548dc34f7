/- The reference of layer 31: bytes are read as a part; both read the same. -/
import Derived.Test.YtemeglofblnnmaaDoorCkR
import Derived.Test.YtemeglofblnnmaaDoorRefTZ
import Derived.Deep.CutRange
namespace Go.Proofs.YtemeglofblnnmaaDoor
open Go.RowKit Go.Lib
set_option linter.unusedVariables false
set_option linter.unusedSimpArgs false
set_option maxRecDepth 100000
attribute [local go_sem ↓] Go.wp_at_zero Go.wp_at_succ

theorem ptB_app (p : Pt) (z : List UInt8) : ptB p ++ z = 108 :: (tInt p.id ++ (tInt p.idx ++ (tInt p.cnt ++ (tText p.bs ++ 101 :: z)))) := by
  simp [ptB, tList]
/-- The readings of bytes. -/
structure Reading (l : List UInt8) (p : Pt) (r5 : Rd) : Prop where
  ex : ∃ r0 r1 r2 r3 r4, Rd.byte ⟨l, 0⟩ 108 = r0 ∧ r0.int = (r1, p.id) ∧ r1.int = (r2, p.idx) ∧ r2.int = (r3, p.cnt) ∧ r3.text 8192 = (r4, p.bs) ∧ r4.byte 101 = r5
theorem Reading.laid {l : List UInt8} {p : Pt} {r5 : Rd} (h : Reading l p r5) (he : r5.err = 0) (hb : r5.b = []) : ptB p = l := by
  obtain ⟨r0, r1, r2, r3, r4, h0, h1, h2, h3, h4, h5⟩ := h.ex
  subst h5
  obtain ⟨e4, b4⟩ := Rd.byte_back he
  rw [hb] at b4
  have h4e : (r3.text 8192).1.err = 0 := by rw [h4]; exact e4
  obtain ⟨e3, b3, _, _⟩ := Rd.text_back h4e
  rw [h4] at b3
  have h3e : (r2.int).1.err = 0 := by rw [h3]; exact e3
  obtain ⟨e2, b2, _, _⟩ := Rd.int_back h3e
  rw [h3] at b2
  have h2e : (r1.int).1.err = 0 := by rw [h2]; exact e2
  obtain ⟨e1, b1, _, _⟩ := Rd.int_back h2e
  rw [h2] at b1
  have h1e : (r0.int).1.err = 0 := by rw [h1]; exact e1
  obtain ⟨e0, b0, _, _⟩ := Rd.int_back h1e
  rw [h1] at b0
  subst h0
  obtain ⟨_, bl⟩ := Rd.byte_back e0
  have := ptB_app p []
  rw [List.append_nil] at this
  rw [this]
  simp only at bl b0 b1 b2 b3
  rw [show l = (⟨l, 0⟩ : Rd).b from rfl, bl, b0, b1, b2, b3, b4]
theorem Reading.back {l : List UInt8} {p q : Pt} {r5 : Rd} (h : Reading l p r5) (hm : q.may = true) (hl : ptB q = l) : p = q ∧ r5 = ⟨[], 0⟩ := by
  obtain ⟨r0, r1, r2, r3, r4, h0, h1, h2, h3, h4, h5⟩ := h.ex
  have hq := Pt.may_iff.1 hm
  have e := ptB_app q []
  rw [List.append_nil, hl] at e
  rw [e, Rd.byte_laid] at h0
  subst h0
  rw [Rd.int_laid q.id _ (by omega) (by omega)] at h1
  injection h1 with h1 e1
  subst h1
  rw [Rd.int_laid q.idx _ (by omega) (by omega)] at h2
  injection h2 with h2 e2
  subst h2
  rw [Rd.int_laid q.cnt _ (by omega) (by omega)] at h3
  injection h3 with h3 e3
  subst h3
  rw [Rd.text_laid q.bs _ 8192 (by omega) (by omega)] at h4
  injection h4 with h4 e4
  subst h4
  rw [Rd.byte_laid] at h5
  obtain ⟨p1, p2, p3, p4⟩ := p
  obtain ⟨q1, q2, q3, q4⟩ := q
  simp only at e1 e2 e3 e4
  subst e1 e2 e3 e4
  exact ⟨rfl, h5.symm⟩
theorem reading (l : List UInt8) : ∃ p r5, Reading l p r5 ∧ readD l = if r5.err = 0 ∧ r5.b = [] ∧ p.may = true then (p, 0) else (⟨0, 0, 0, []⟩, 4) := ⟨_, _, ⟨_, _, _, _, _, rfl, rfl, rfl, rfl, rfl, rfl⟩, rfl⟩
/-- What is read is what is laid so. -/
theorem read_laid {l : List UInt8} {p : Pt} {r5 : Rd} (h : Reading l p r5) : (r5.err = 0 ∧ r5.b = [] ∧ p.may = true) ↔ (p.may = true ∧ ptB p = l) := by
  constructor
  · rintro ⟨h1, h2, h3⟩
    exact ⟨h3, h.laid h1 h2⟩
  · rintro ⟨h1, h2⟩
    obtain ⟨_, h3⟩ := h.back h1 h2
    rw [h3]
    exact ⟨rfl, rfl, h1⟩
theorem Rv.off {w w' : World} {v : Value} {r : Rd} {b : Nat} {t : TypeId} {cs : Array Value} (h : Rv w v r) (hb : Hld w b t cs) (hc : NoByte cs) (ho : Only (At b) w w') : Rv w' v r := by
  obtain ⟨A, c, rfl, hp, hs⟩ := h
  exact ⟨A, c, rfl, hp.off hb hc ho, hs⟩
def arrK (a b c : Int) (k : Nat) : Array Value := #[.int .i64 (if 0 < k then a else 0), .int .i64 (if 1 < k then b else 0), .int .i64 (if 2 < k then c else 0)]
theorem arrK_no (a b c : Int) (k : Nat) : NoByte (arrK a b c k) := by
  intro i n
  unfold arrK
  match i with
  | 0 => simp
  | 1 => simp
  | 2 => simp
  | i + 3 => simp
/-- The reader behind k numbers; the k-th number. -/
def rdK (r0 r1 r2 r3 : Rd) : Nat → Rd
  | 0 => r0
  | 1 => r1
  | 2 => r2
  | _ => r3
def numK (a b c : Int) : Nat → Int
  | 0 => a
  | 1 => b
  | _ => c
theorem arrK_step (a b c : Int) {k : Nat} (hk : k < 3) : (arrK a b c k).setIfInBounds k (.int .i64 (numK a b c k)) = arrK a b c (k + 1) := by
  have : k = 0 ∨ k = 1 ∨ k = 2 := by omega
  rcases this with rfl | rfl | rfl <;> rfl
theorem arrK_at (a b c : Int) {k : Nat} (hk : k < 3) : (arrK a b c k)[k]? = some (.int .i64 0) := by
  have : k = 0 ∨ k = 1 ∨ k = 2 := by omega
  rcases this with rfl | rfl | rfl <;> rfl
set_option maxHeartbeats 16000000 in
theorem rread_run (A : Option Addr) (c : Nat) (l : List UInt8) (w : World) (hl : l.length ≤ 1000000) (hp : Part w (.slice A l.length c) l) : Calls Tryd.prog 9 #[.slice A l.length c] w (ReadAns (readD l).1 (readD l).2 w) := by
  obtain ⟨p, r5, hR, hD⟩ := reading l
  obtain ⟨r0, r1, r2, r3, r4, h0, h1, h2, h3, h4, h5⟩ := hR.ex
  have hD2 : readD l = if p.may = true ∧ ptB p = l then (p, 0) else (⟨0, 0, 0, []⟩, 4) := by
    rw [hD]
    by_cases h : r5.err = 0 ∧ r5.b = [] ∧ p.may = true
    · rw [if_pos h, if_pos ((read_laid hR).1 h)]
    · rw [if_neg h, if_neg (fun k => h ((read_laid hR).2 k))]
  have hlong : p.bs.length ≤ 8192 := by
    have := text_long r3 8192
    rw [show ((8192 : Nat) : Int) = 8192 from rfl, h4] at this
    exact this
  have hstep : ∀ k, k < 3 → (rdK r0 r1 r2 r3 k).int = (rdK r0 r1 r2 r3 (k + 1), numK p.id p.idx p.cnt k) := fun k hk => by
    have : k = 0 ∨ k = 1 ∨ k = 2 := by omega
    rcases this with rfl | rfl | rfl
    · exact h1
    · exact h2
    · exact h3
  have HST := Lib.hid hstep
  have HD := Lib.hid hD2
  have H0 := Lib.hid h0
  have H4 := Lib.hid h4
  obtain ⟨n, hn⟩ : ∃ n, l.length = n := ⟨_, rfl⟩
  have HN := Lib.hid hn
  rw [hn] at hp hl ⊢
  obtain ⟨W0, hW0⟩ : ∃ W, (w.alloc (.cells #[.int .i64 0, .int .i64 0, .int .i64 0, .slice none 0 0] 24)).alloc (.cells #[.int .i64 0, .int .i64 0, .int .i64 0] 62) = W := ⟨_, rfl⟩
  have o0 : Only Noth w W0 := by rw [← hW0]; exact ((Only.refl Noth w).alloc _).alloc _
  have BR := Lib.hid (show Hld W0 w.heap.size 24 #[.int .i64 0, .int .i64 0, .int .i64 0, .slice none 0 0] by rw [← hW0]; exact (Hld.new w _ _).alloc _)
  have BA := Lib.hid (show Hld W0 (w.heap.size + 1) 62 (arrK p.id p.idx p.cnt 0) by
    have := Hld.new (w.alloc (.cells #[.int .i64 0, .int .i64 0, .int .i64 0, .slice none 0 0] 24)) 62 #[.int .i64 0, .int .i64 0, .int .i64 0]
    rw [hW0] at this
    rw [show arrK p.id p.idx p.cnt 0 = #[.int .i64 0, .int .i64 0, .int .i64 0] from rfl]
    simpa using this)
  have HP := Lib.hid (hp.noth o0)
  have HPW := Lib.hid hp
  have O0 := Lib.hid o0
  have HZ0 := Lib.hid (show W0.heap.size = w.heap.size + 2 by rw [← hW0]; simp)
  clear hR hD h0 h1 h2 h3 h4 h5 hD2 hstep hp o0 hn
  go_enter Tryd.func9, Tryd.ntmps9
  go_wp2_with fail
  clear hW0
  refine (ref_byte _ ⟨l, 0⟩ W0 (show Rv W0 (.agg #[.slice A n c, .int .i64 0]) ⟨l, 0⟩ from ⟨A, c, by rw [← HN.out], by have h := HP.out; rw [← HN.out] at h; exact h, Rd.sane_mk _⟩) 108).mono ?_
  rintro e w1 ⟨v1, rfl, hrv, ho⟩
  rw [H0.out] at hrv
  obtain ⟨A1, c1, rfl, hp1, hs1⟩ := hrv
  have RV1 := Lib.hid (show Rv w1 (.agg #[.slice A1 r0.b.length c1, .int .i64 r0.err]) r0 from ⟨A1, c1, rfl, hp1, hs1⟩)
  have O01 := Lib.hid ho
  have O1 := Lib.hid (O0.out.tr ho)
  have HZ1 := Lib.hid ho.size
  clear hp1 hs1 ho
  go_wp2_with (refine wpList_store_whole rfl rfl 64 (.tmp 5) (.tmp 14) rfl w1.heap.size rfl _ rfl 64 _ (Hld.new w1 _ _) rfl (by simp [Value.oneCell']) (by kernel_rfl) ?_; intro w2 gb ho2 hz2; have B2 := Lib.hid gb; have O2 := Lib.hid (show Only Noth w1 w2 from ((Only.refl Noth w1).alloc _).trans ho2 (fun j hj hl => by have hj : j = w1.heap.size := hj; omega)); clear gb ho2 hz2)
  obtain ⟨b5, hb5⟩ : ∃ b5, w1.heap.size = b5 := ⟨_, rfl⟩
  rw [hb5] at B2
  have HB5 := Lib.hid hb5
  simp only [hb5]
  have HG5 := Lib.hid (show w.heap.size + 2 ≤ b5 by rw [← hb5, ← HZ0.out]; exact HZ1.out)
  have BA2 := Lib.hid (BA.out.only (O01.out.tr O2.out) (fun h => h))
  have BR2 := Lib.hid (BR.out.only (O01.out.tr O2.out) (fun h => h))
  have RV2 := Lib.hid (RV1.out.noth O2.out)
  have OO2 := Lib.hid (O1.out.tr O2.out)
  clear hb5
  go_wp2_with fail
  go_loopw [6] (fun i W => ∃ (k : Nat) (A' : Option Addr) (c' : Nat), k ≤ 3 ∧ i = .int .i64 (k : Int) ∧ Hld W b5 64 #[.slice A' (rdK r0 r1 r2 r3 k).b.length c', .int .i64 (rdK r0 r1 r2 r3 k).err] ∧ Rv W (.agg #[.slice A' (rdK r0 r1 r2 r3 k).b.length c', .int .i64 (rdK r0 r1 r2 r3 k).err]) (rdK r0 r1 r2 r3 k) ∧ Hld W (w.heap.size + 1) 62 (arrK p.id p.idx p.cnt k) ∧ Hld W w.heap.size 24 #[.int .i64 0, .int .i64 0, .int .i64 0, .slice none 0 0] ∧ Only Noth w W) (fun i _ => 3 - (RowKit.intOf i).toNat)
  case atStart => exact ⟨0, A1, c1, by omega, rfl, B2.out, RV2.out, BA2.out, BR2.out, OO2.out⟩
  case round =>
    obtain ⟨k, A', c', hk, rfl, hb, hrv, ha, hbr, ho⟩ := hrel
    have hk0 : (0 : Int) ≤ k := by omega
    obtain ⟨R, hRk⟩ : ∃ R, rdK r0 r1 r2 r3 k = R := ⟨_, rfl⟩
    rw [hRk] at hb hrv
    have BB := Lib.hid hb
    have RV := Lib.hid hrv
    have BA3 := Lib.hid ha
    have BR3 := Lib.hid hbr
    have OK := Lib.hid ho
    have HRK := Lib.hid hRk
    have m0 := hb.cell 0
    have m1 := hb.cell 1
    clear hb hrv ha hbr ho hRk
    by_cases hk3 : k < 3
    · have hk3i : (k : Int) < 3 := by omega
      have hst := HST.out k hk3
      rw [HRK.out] at hst
      obtain ⟨R', hR'⟩ : ∃ R', rdK r0 r1 r2 r3 (k + 1) = R' := ⟨_, rfl⟩
      obtain ⟨z, hz⟩ : ∃ z, numK p.id p.idx p.cnt k = z := ⟨_, rfl⟩
      rw [hR', hz] at hst
      have HR' := Lib.hid hR'
      have HZ := Lib.hid hz
      have HSTK := Lib.hid hst
      clear hst hR' hz
      go_wp2_with fail
      refine (ref_rint _ R wr RV.out).mono ?_
      rintro e w3 ⟨v3, rfl, hrv, ho⟩
      rw [HSTK.out] at hrv ⊢
      obtain ⟨A3, c3, rfl, hp3, hs3⟩ := hrv
      have RV3 := Lib.hid (show Rv w3 (.agg #[.slice A3 R'.b.length c3, .int .i64 R'.err]) R' from ⟨A3, c3, rfl, hp3, hs3⟩)
      have BB3 := Lib.hid (BB.out.only ho (fun h => h))
      have BA4 := Lib.hid (BA3.out.only ho (fun h => h))
      have BR4 := Lib.hid (BR3.out.only ho (fun h => h))
      have O3 := Lib.hid (OK.out.tr ho)
      clear hp3 hs3 ho m0 m1
      go_wp2_with (refine wpList_store_whole rfl rfl 64 (.tmp 5) (.tmp 23) rfl b5 rfl _ rfl 64 _ BB3.out rfl (by simp [Value.oneCell']) (by kernel_rfl) ?_; intro w4 gb ho4 hz4; have B4 := Lib.hid gb; have O4 := Lib.hid ho4; have a0 := ((BA4.out.only ho4 (fun e => by have e : w.heap.size + 1 = b5 := e; have := HG5.out; omega)).cell k).trans (arrK_at _ _ _ hk3); have f0 := (BA4.out.only ho4 (fun e => by have e : w.heap.size + 1 = b5 := e; have := HG5.out; omega)).free k; clear gb ho4 hz4)
      have hg5 := HG5.out
      have BA5 := Lib.hid (BA4.out.only O4.out (fun e => by have e : w.heap.size + 1 = b5 := e; omega))
      have BR5 := Lib.hid (BR4.out.only O4.out (fun e => by have e : w.heap.size = b5 := e; omega))
      have RV4 := Lib.hid (RV3.out.off BB3.out (noByte_rd _ (fun n h => by cases h) _) O4.out)
      have OW4 := Lib.hid (show Only Noth w w4 from O3.out.trans O4.out (fun j hj hl => by have hj : j = b5 := hj; omega))
      have hset := BA5.out.set_ k (.int .i64 z)
      have hst2 := arrK_step p.id p.idx p.cnt hk3
      rw [HZ.out] at hst2
      rw [hst2] at hset
      have h45 := (Only.refl (At (w.heap.size + 1)) w4).setCell (p := ⟨w.heap.size + 1, k, none⟩) (fun _ => rfl) (.int .i64 z)
      have RV5 := Lib.hid (RV4.out.off BA5.out (arrK_no _ _ _ _) h45)
      have B5 := Lib.hid (B4.out.only h45 (fun e => by have e : b5 = w.heap.size + 1 := e; omega))
      have BR6 := Lib.hid (BR5.out.only h45 (fun e => by have e : w.heap.size = w.heap.size + 1 := e; omega))
      have OW5 := Lib.hid (OW4.out.trans h45 (fun j hj hl => by have hj : j = w.heap.size + 1 := hj; omega))
      have BA6 := Lib.hid hset
      clear hset hst2 h45 a0 f0
      go_roundw
      case rel => exact ⟨k + 1, A3, c3, by omega, by go_num, by rw [HR'.out]; exact B5.out, by rw [HR'.out]; exact RV5.out, BA6.out, BR6.out, OW5.out⟩
      case measure => simp [RowKit.intOf]; omega
    · obtain rfl : k = 3 := by omega
      have hR3 : R = r3 := HRK.out.symm
      subst hR3
      go_wp2_with fail
      refine (ref_rtext _ R wr RV.out 8192).mono ?_
      rintro e w3 ⟨v3, rfl, hrv, ho⟩
      rw [H4.out] at hrv ⊢
      obtain ⟨A3, c3, rfl, _, _⟩ := hrv
      have BA4 := Lib.hid (BA3.out.only ho (fun h => h))
      have BR4 := Lib.hid (BR3.out.only ho (fun h => h))
      have O3 := Lib.hid (OK.out.tr ho)
      obtain ⟨s, hs⟩ : ∃ s, p.bs = s := ⟨_, rfl⟩
      have HS := Lib.hid hs
      rw [hs] at hlong ⊢
      clear ho m0 m1 hs
      go_upto_region 8 with (refine wpList_store_whole rfl rfl 64 (.tmp 7) (.tmp 29) rfl w3.heap.size rfl _ rfl 64 _ (Hld.new w3 _ _) rfl (by simp [Value.oneCell']) (by kernel_rfl) ?_; intro w4 gb ho4 hz4; have O4 := Lib.hid (show Only Noth w3 w4 from ((Only.refl Noth w3).alloc _).trans ho4 (fun j hj hl => by have hj : j = w3.heap.size := hj; omega)); clear gb ho4 hz4)
      obtain ⟨AS, cS, w8, kc, hbs, ho8⟩ := conv_new s (by omega) w4
      have BA5 := Lib.hid (BA4.out.only O4.out (fun h => h))
      have d0 : w4.cell? ⟨w.heap.size + 1, 0, none⟩ = some (.int .i64 p.id) := BA5.out.cell 0
      have d1 : w4.cell? ⟨w.heap.size + 1, 1, none⟩ = some (.int .i64 p.idx) := BA5.out.cell 1
      have d2 : w4.cell? ⟨w.heap.size + 1, 2, none⟩ = some (.int .i64 p.cnt) := BA5.out.cell 2
      have O8 := Lib.hid ((O3.out.tr O4.out).tr ho8)
      have BS8 := Lib.hid (hbs.mono (T := fun k => w.heap.size + 1 < k) (fun k hk _ => by have hk : w4.heap.size ≤ k := hk; have h1 := O4.out.size; have h2 := BA4.out.lt; show w.heap.size + 1 < k; omega))
      have BR8 := Lib.hid ((BR4.out.only O4.out (fun h => h)).only ho8 (fun h => h))
      clear hbs ho8
      go_upto_region 9 with (refine wpList_store_whole rfl rfl 24 (.tmp 9) (.tmp 39) rfl w8.heap.size rfl _ rfl 24 _ (Hld.new w8 _ _) rfl (by simp [Value.oneCell']) (by kernel_rfl) ?_; intro w9 gb ho9 hz9; have T9 := Lib.hid gb; have O9 := Lib.hid (show Only Noth w8 w9 from ((Only.refl Noth w8).alloc _).trans ho9 (fun j hj hl => by have hj : j = w8.heap.size := hj; omega)); clear gb ho9 hz9)
      have t0 := T9.out.cell 0
      have t1 := T9.out.cell 1
      have t2 := T9.out.cell 2
      have t3 := T9.out.cell 3
      clear kc d0 d1 d2
      obtain ⟨b9, hb9⟩ : ∃ b9, w8.heap.size = b9 := ⟨_, rfl⟩
      rw [hb9] at T9 t0 t1 t2 t3 ⊢
      have BS9 := Lib.hid (BS8.out.noth O9.out)
      have BR9 := Lib.hid (BR8.out.only O9.out (fun h => h))
      have OT9 := Lib.hid (O8.out.tr O9.out)
      clear hb9
      go_wp2_with fail
      refine (by have := rput_run p (fun k => w.heap.size + 1 < k) AS cS w9 (by rw [HS.out]; exact BS9.out); rw [HS.out] at this; exact this : Calls Tryd.prog 7 #[.agg #[.int .i64 p.id, .int .i64 p.idx, .int .i64 p.cnt, .slice AS s.length cS]] w9 (PutAns (putD p).1 (putD p).2 w9)).mono ?_
      rintro e w10 ⟨AP, cP, rfl, hpp, ho⟩
      have T10 := Lib.hid (T9.out.only ho (fun h => h))
      have BR10 := Lib.hid (BR9.out.only ho (fun h => h))
      have BS10 := Lib.hid (BS9.out.noth ho)
      have OT10 := Lib.hid (OT9.out.tr ho)
      have HPP := Lib.hid hpp
      have u0 := T10.out.cell 0
      have u1 := T10.out.cell 1
      have u2 := T10.out.cell 2
      have u3 := T10.out.cell 3
      clear t0 t1 t2 t3 hpp ho
      obtain ⟨mb, hmb⟩ : ∃ mb, p.may = mb := ⟨_, rfl⟩
      have HMB := Lib.hid hmb
      have HPD := Lib.hid (show putD p = if mb then (ptB p, 0) else ([], 2) by unfold putD; rw [hmb])
      clear hmb
      have hret0 : ∀ W : World, readD l = (⟨0, 0, 0, []⟩, 4) → Only (fun k => k = w.heap.size) w10 W → ReadAns (readD l).1 (readD l).2 w (.returned (.tuple #[.agg #[.int .i64 0, .int .i64 0, .int .i64 0, .slice none 0 0], .int .i64 4])) W := by
        intro W h ho
        rw [h]
        exact ⟨none, 0, rfl, BsAt.nil _ _, OT10.out.trans ho (fun j hj hl => by have hj : j = w.heap.size := hj; omega)⟩
      have HR0 := Lib.hid hret0
      clear hret0
      cases mb
      · have hpd := HPD.out
        simp only [Bool.false_eq_true, if_false] at hpd
        rw [hpd]
        have HDD := Lib.hid (show readD l = (⟨0, 0, 0, []⟩, 4) by rw [HD.out, if_neg (fun h => by rw [HMB.out] at h; cases h.1)])
        clear hpd
        go_wp2_with (refine wpList_store_whole rfl rfl 24 (.tmp 2) (.tmp 54) rfl w.heap.size rfl _ rfl 24 _ BR10.out rfl (by simp [Value.oneCell']) (by kernel_rfl) ?_; intro w13 gr ho13 _; have OR := Lib.hid ho13; have y0 := gr.cell 0; have y1 := gr.cell 1; have y2 := gr.cell 2; have y3 := gr.cell 3; clear gr ho13)
        refine bodyPost_ret (v := .tuple #[.agg #[.int .i64 0, .int .i64 0, .int .i64 0, .slice none 0 0], .int .i64 4]) (by simp [results, Tryd.results9, go_sem, y0, y1, y2, y3]) rfl ?_
        exact HR0.out _ HDD.out OR.out
      · have hpd := HPD.out
        simp only [if_true] at hpd
        have HPQ := Lib.hid (show Part w10 (.slice AP (ptB p).length cP) (ptB p) from by have h := HPP.out; rw [hpd] at h; exact h)
        rw [hpd]
        obtain ⟨L, hL⟩ : ∃ L, ptB p = L := ⟨_, rfl⟩
        have HL := Lib.hid hL
        simp only [hL] at HPQ ⊢
        clear hpd hL
        have k1 := BsAt.conv HPQ.out.bs
        have k2 := BsAt.conv (show BsAt w10 (fun k => k < w10.heap.size) (.slice A n c) l from by have h := (HPW.out.noth OT10.out).bs; exact h)
        by_cases hLl : L = l
        · have HDD := Lib.hid (show readD l = (p, 0) by rw [HD.out, if_pos ⟨HMB.out, by rw [HL.out]; exact hLl⟩])
          have hba : (⟨L.toArray⟩ : ByteArray) = ⟨l.toArray⟩ := by rw [hLl]
          rw [hba] at k1
          clear hLl hba
          go_wp2_with (refine wpList_store_whole rfl rfl 24 (.tmp 2) (.tmp 55) rfl w.heap.size rfl _ rfl 24 _ BR10.out rfl (by simp [Value.oneCell']) (by kernel_rfl) ?_; intro w13 gr ho13 _; have OR := Lib.hid ho13; have y0 := gr.cell 0; have y1 := gr.cell 1; have y2 := gr.cell 2; have y3 := gr.cell 3; clear gr ho13)
          refine bodyPost_ret (v := .tuple #[.agg #[.int .i64 p.id, .int .i64 p.idx, .int .i64 p.cnt, .slice AS s.length cS], .int .i64 0]) (by simp [results, Tryd.results9, go_sem, y0, y1, y2, y3]) rfl ?_
          rw [HDD.out]
          refine ⟨AS, cS, by simp only [HS.out], ?_, OT10.out.trans OR.out (fun j hj hl => by have hj : j = w.heap.size := hj; omega)⟩
          simp only [HS.out]
          exact (BS10.out.only OR.out (fun k hk e => by have e : k = w.heap.size := e; have hk : w.heap.size + 1 < k := hk; omega)).mono (fun k hk _ => by have hk : w.heap.size + 1 < k := hk; show w.heap.size ≤ k; omega)
        · have HDD := Lib.hid (show readD l = (⟨0, 0, 0, []⟩, 4) by rw [HD.out, if_neg (fun h => hLl (by rw [← HL.out]; exact h.2))])
          have hne : ¬ (⟨L.toArray⟩ : ByteArray) = ⟨l.toArray⟩ := fun h => hLl (by have := congrArg (fun b => b.data.toList) h; simpa using this)
          have hne2 : (L == l) = false := by simpa using hLl
          go_wp2_with (refine wpList_store_whole rfl rfl 24 (.tmp 2) (.tmp 54) rfl w.heap.size rfl _ rfl 24 _ BR10.out rfl (by simp [Value.oneCell']) (by kernel_rfl) ?_; intro w13 gr ho13 _; have OR := Lib.hid ho13; have y0 := gr.cell 0; have y1 := gr.cell 1; have y2 := gr.cell 2; have y3 := gr.cell 3; clear gr ho13)
          refine bodyPost_ret (v := .tuple #[.agg #[.int .i64 0, .int .i64 0, .int .i64 0, .slice none 0 0], .int .i64 4]) (by simp [results, Tryd.results9, go_sem, y0, y1, y2, y3]) rfl ?_
          exact HR0.out _ HDD.out OR.out
end Go.Proofs.YtemeglofblnnmaaDoor
