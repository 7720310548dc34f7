/- The reference's disk: Fail, Crash, Read, New; and how it goes with the disk's plain data. -/
import Derived.Test.YtibeblibminjfaaRef
namespace Go.Proofs.Ytibeblibminjfaa
open Go.RowKit
set_option linter.unusedVariables false

set_option maxHeartbeats 1000000 in
theorem rfail_any (r : Rk) (n : Int) (d : Bool) (w : World) :
    Calls Try.prog 37 #[r.v, .int .i64 n, .bool d] w fun e w' => e = .returned (.tuple #[(r.fail n d).1.v, .int .i64 (r.fail n d).2]) ∧ Only Noth w w' := by
  unfold Rk.fail
  obtain ⟨s, l, sf, cp, op, dw, td, af, dn⟩ := r
  unfold Rk.v
  cases dw with
  | true =>
    simp only [if_true]
    go_enter Try.func37, Try.ntmps37
    go_wp2
    refine bodyPost_ret (v := .tuple #[.agg #[.string s, .string l, .int .i64 sf, .int .i64 cp, .int .i64 op, .bool true, .bool td, .int .i64 af, .bool dn], .int .i64 12]) (by simp [results, Try.results37, go_sem]) rfl ?_
    exact ⟨rfl, ((Only.refl _ _).alloc _).alloc _⟩
  | false =>
    simp only [Bool.false_eq_true, if_false]
    by_cases h : n < 0
    · rw [if_pos h]
      go_enter Try.func37, Try.ntmps37
      go_wp2
      refine bodyPost_ret (v := .tuple #[.agg #[.string s, .string l, .int .i64 sf, .int .i64 cp, .int .i64 op, .bool false, .bool td, .int .i64 af, .bool dn], .int .i64 2]) (by simp [results, Try.results37, go_sem]) rfl ?_
      exact ⟨rfl, ((Only.refl _ _).alloc _).alloc _⟩
    · rw [if_neg h]
      go_enter Try.func37, Try.ntmps37
      go_wp2
      refine bodyPost_ret (v := .tuple #[.agg #[.string s, .string l, .int .i64 sf, .int .i64 cp, .int .i64 op, .bool false, .bool true, .int .i64 n, .bool d], .int .i64 0]) (by simp [results, Try.results37, go_sem]) rfl ?_
      exact ⟨rfl, ((Only.refl _ _).alloc _).alloc _⟩

set_option maxHeartbeats 1000000 in
theorem rcrash_any (r : Rk) (k : Int) (w : World) (hr : r.Ok) :
    Calls Try.prog 38 #[r.v, .int .i64 k] w fun e w' => e = .returned (r.crash k).v ∧ Only Noth w w' := by
  unfold Rk.crash
  obtain ⟨s, l, sf, cp, op, dw, td, af, dn⟩ := r
  obtain ⟨h0, h1, a0, a1, b0, b1, hs, hl, f0, f1⟩ := hr
  simp only [] at h0 h1 a0 a1 b0 b1 hs hl f0 f1
  unfold Rk.v
  simp only []
  obtain ⟨m, hm⟩ : ∃ m, m = max k 0 := ⟨_, rfl⟩
  obtain ⟨q, hq⟩ : ∃ q, q = min m ((l.size : Int) - sf) := ⟨_, rfl⟩
  rw [← hm, ← hq]
  have e1 : (if k < 0 then (0 : Int) else k) = m := by split <;> omega
  have e2 : (if (l.size : Int) - sf < m then (l.size : Int) - sf else m) = q := by split <;> omega
  have k0 : 0 ≤ q := by omega
  have k1 : sf + q ≤ l.size := by omega
  have k2 : 0 ≤ sf + q := by omega
  have k3 : 0 ≤ m := by omega
  have k4 : (sf + q).toNat ≤ l.size := by omega
  clear hm hq
  go_enter Try.func38, Try.ntmps38
  go_wp2
  refine region_tail 12 (by kernel_rfl) (by kernel_rfl) ?_
  simp only [List.take_succ_cons, List.take_zero, List.drop_succ_cons, List.drop_zero]
  repeat still_step
  refine wpStill_nil ?_
  go_wp2
  refine bodyPost_ret (v := .agg #[.string s, .string (l.extract 0 (sf + q).toNat), .int .i64 (sf + q), .int .i64 cp, .int .i64 op, .bool false, .bool false, .int .i64 0, .bool false]) (by simp [results, Try.results38, go_sem]) rfl ?_
  exact ⟨rfl, (((Only.refl _ _).alloc _).alloc _).drew⟩

set_option maxHeartbeats 1000000 in
theorem rread_down (r : Rk) (w : World) (h : r.dw = true) :
    Calls Try.prog 33 #[r.v] w fun e w' => e = .returned (.tuple #[.string ⟨#[]⟩, .string ⟨#[]⟩]) ∧ Only Noth w w' := by
  obtain ⟨s, l, sf, cp, op, dw, td, af, dn⟩ := r
  simp only [] at h
  subst h
  unfold Rk.v
  go_enter Try.func33, Try.ntmps33
  go_wp2
  go_ret2
  exact ⟨rfl, (Only.refl _ _).alloc _⟩
set_option maxHeartbeats 1000000 in
theorem rread_up (r : Rk) (w : World) (h : r.dw = false) :
    Calls Try.prog 33 #[r.v] w fun e w' => e = .returned (.tuple #[.string r.s, .string r.l]) ∧ Only Noth w w' := by
  obtain ⟨s, l, sf, cp, op, dw, td, af, dn⟩ := r
  simp only [] at h
  subst h
  unfold Rk.v
  go_enter Try.func33, Try.ntmps33
  go_wp2
  go_region
  all_goals go_wp2
  all_goals go_ret2
  all_goals exact ⟨rfl, ((Only.refl _ _).alloc _).drew⟩

set_option maxHeartbeats 1000000 in
theorem rnew_any (n : Int) (w : World) :
    Calls Try.prog 21 #[.int .i64 n] w fun e w' => e = .returned (Rk.v { s := ⟨#[]⟩, l := ⟨#[]⟩, sf := 0, cp := max 0 n, op := 0, dw := false, td := false, af := 0, dn := false }) ∧ Only Noth w w' := by
  unfold Rk.v
  simp only []
  obtain ⟨m, hm⟩ : ∃ m, m = max 0 n := ⟨_, rfl⟩
  rw [← hm]
  have e1 : (if 0 < n then n else (0 : Int)) = m := by split <;> omega
  clear hm
  go_enter Try.func21, Try.ntmps21
  go_wp2
  refine bodyPost_ret (v := .agg #[.string ⟨#[]⟩, .string ⟨#[]⟩, .int .i64 0, .int .i64 m, .int .i64 0, .bool false, .bool false, .int .i64 0, .bool false]) (by simp [results, Try.results21, go_sem]) rfl ?_
  exact ⟨rfl, (Only.refl _ _).alloc _⟩

/-- The reference's disk goes with the plain data. -/
structure RefOf (d : Dk) (r : Rk) : Prop where
  s : r.s = strOfNums d.snap
  l : r.l = strOfNums d.log
  sf : r.sf = d.sf
  cp : r.cp = d.cp
  op : r.op = d.op
  dw : r.dw = d.dw
  fu : (r.td = false ∧ d.fu = -1) ∨ (r.td = true ∧ r.af = d.fu ∧ 0 ≤ d.fu ∧ r.dn = d.dn)
  af0 : -9223372036854775808 < r.af
  af1 : r.af ≤ 9223372036854775807

theorem RefOf.ok {d : Dk} {r : Rk} (h : RefOf d r) (hd : d.Ok) : r.Ok := by
  obtain ⟨h1, h2, h3, h4, h5, h6, h7, h8, h9⟩ := h
  obtain ⟨g1, g2, g3, g4, g5, g6, g7, g8⟩ := hd
  exact ⟨by omega, by omega, h8, h9, by omega, by omega, by rw [h1, strOfNums_size]; exact g3, by rw [h2, strOfNums_size]; exact g2, by omega, by rw [h2, strOfNums_size]; omega⟩

theorem strOfNums_take (l : List Int) (n : Nat) : strOfNums (l.take n) = (strOfNums l).extract 0 n := by
  apply ByteArray.ext
  apply Array.ext'
  simp [strOfNums, ByteArray.data_extract, List.map_take]

/-- tick, on both. -/
theorem ref_tick {d : Dk} {r : Rk} (h : RefOf d r) (upd : Dk → Dk) (hu : Keeps upd) (turn : Rk → Rk) (ht : ∀ q, (turn q).cp = q.cp ∧ (turn q).op = q.op ∧ (turn q).dw = q.dw ∧ (turn q).td = q.td ∧ (turn q).af = q.af ∧ (turn q).dn = q.dn)
    (hl : ∀ (e : Dk) (q : Rk), q.s = strOfNums e.snap → q.l = strOfNums e.log → q.sf = e.sf → (turn q).s = strOfNums (upd e).snap ∧ (turn q).l = strOfNums (upd e).log ∧ (turn q).sf = (upd e).sf) (hdw : d.dw = false) (h0 : 0 ≤ d.op) :
    (d.tick upd).2 = r.tick.2.2 ∧ RefOf (d.tick upd).1 (if r.tick.2.1 = true then turn r.tick.1 else r.tick.1) := by
  obtain ⟨h1, h2, h3, h4, h5, h6, h7, h8, h9⟩ := h
  unfold Dk.tick Rk.tick
  rcases h7 with ⟨ht1, hf⟩ | ⟨ht1, haf, hf0, hdn⟩
  · rw [if_neg (by omega), if_pos ht1]
    refine ⟨rfl, ?_⟩
    simp only [if_true]
    obtain ⟨t1, t2, t3, t4, t5, t6⟩ := ht { r with op := r.op + 1 }
    obtain ⟨l1, l2, l3⟩ := hl { d with op := d.op + 1, fu := max (-1) (d.fu - 1) } { r with op := r.op + 1 } h1 h2 h3
    exact ⟨l1, l2, l3, by rw [t1, hu.cp]; exact h4, by rw [t2, hu.op]; show r.op + 1 = ((d.op + 1 : Nat) : Int); omega, by rw [t3, hu.dw]; exact h6, .inl ⟨by rw [t4]; exact ht1, by rw [hu.fu]; show max (-1) (d.fu - 1) = -1; omega⟩, by rw [t5]; exact h8, by rw [t5]; exact h9⟩
  · rw [if_neg (show ¬ r.td = false by rw [ht1]; simp)]
    by_cases hz : d.fu = 0
    · rw [if_pos hz, if_neg (show ¬ 0 < r.af by omega)]
      by_cases hd : d.dn = true
      · rw [if_pos hd]
        refine ⟨rfl, ?_⟩
        show RefOf _ (if r.dn = true then _ else _)
        rw [if_pos (hdn.trans hd)]
        obtain ⟨t1, t2, t3, t4, t5, t6⟩ := ht { r with op := r.op + 1, td := false, dw := true }
        obtain ⟨l1, l2, l3⟩ := hl { d with op := d.op + 1, fu := -1 } { r with op := r.op + 1, td := false, dw := true } h1 h2 h3
        exact ⟨l1, l2, l3, (t1.trans h4).trans (hu.cp { d with op := d.op + 1, fu := -1 }).symm, (t2.trans (show r.op + 1 = ((d.op + 1 : Nat) : Int) by omega)).trans (congrArg (fun (n : Nat) => (n : Int)) (hu.op { d with op := d.op + 1, fu := -1 }).symm), t3, .inl ⟨t4, hu.fu { d with op := d.op + 1, fu := -1 }⟩, by rw [t5]; exact h8, by rw [t5]; exact h9⟩
      · rw [if_neg hd]
        refine ⟨rfl, ?_⟩
        show RefOf _ (if r.dn = true then _ else _)
        rw [if_neg (by rw [hdn]; exact hd)]
        exact ⟨h1, h2, h3, h4, by show r.op + 1 = ((d.op + 1 : Nat) : Int); omega, rfl, .inl ⟨rfl, rfl⟩, h8, h9⟩
    · rw [if_neg hz, if_pos (show 0 < r.af by omega)]
      refine ⟨rfl, ?_⟩
      simp only [if_true]
      obtain ⟨t1, t2, t3, t4, t5, t6⟩ := ht { r with op := r.op + 1, af := r.af - 1 }
      obtain ⟨l1, l2, l3⟩ := hl { d with op := d.op + 1, fu := max (-1) (d.fu - 1) } { r with op := r.op + 1, af := r.af - 1 } h1 h2 h3
      exact ⟨l1, l2, l3, by rw [t1, hu.cp]; exact h4, by rw [t2, hu.op]; show r.op + 1 = ((d.op + 1 : Nat) : Int); omega, by rw [t3, hu.dw]; exact h6, .inr ⟨by rw [t4]; exact ht1, by rw [t5, hu.fu]; show r.af - 1 = max (-1) (d.fu - 1); omega, by rw [hu.fu]; show 0 ≤ max (-1) (d.fu - 1); omega, by rw [t6, hu.dn]; exact hdn⟩, by rw [t5]; show _ < r.af - 1; omega, by rw [t5]; show r.af - 1 ≤ _; omega⟩

theorem ref_append {d : Dk} {r : Rk} (h : RefOf d r) (m : List Int) : (r.append (strOfNums m)).2 = (d.append m).2 ∧ RefOf (d.append m).1 (r.append (strOfNums m)).1 := by
  unfold Dk.append Rk.append
  rw [h.dw]
  cases hd : d.dw with
  | true => exact ⟨rfl, h⟩
  | false =>
    simp only [Bool.false_eq_true, if_false]
    rw [h.s, h.l, h.cp, strOfNums_size, strOfNums_size, strOfNums_size]
    by_cases hf : (m.length : Int) > d.cp - d.snap.length - d.log.length
    · rw [if_pos hf, if_pos hf]
      exact ⟨rfl, h⟩
    · rw [if_neg hf, if_neg hf]
      have := ref_tick h (Dk.addLog m) (keeps_addLog m) (fun q => { q with l := q.l ++ strOfNums m }) (fun q => ⟨rfl, rfl, rfl, rfl, rfl, rfl⟩) (fun e q k1 k2 k3 => ⟨k1, by show q.l ++ strOfNums m = strOfNums (e.log ++ m); rw [k2, strOfNums_append], k3⟩) hd (Nat.zero_le _)
      refine ⟨this.1.symm, ?_⟩
      have hl := (tick_keeps r).2.1
      have h2 := this.2
      rw [hl, h.l] at h2
      exact h2
theorem ref_swap {d : Dk} {r : Rk} (h : RefOf d r) (m : List Int) : (r.swap (strOfNums m)).2 = (d.swap m).2 ∧ RefOf (d.swap m).1 (r.swap (strOfNums m)).1 := by
  unfold Dk.swap Rk.swap
  rw [h.dw]
  cases hd : d.dw with
  | true => exact ⟨rfl, h⟩
  | false =>
    simp only [Bool.false_eq_true, if_false]
    rw [h.l, h.cp, strOfNums_size, strOfNums_size]
    by_cases hf : (m.length : Int) > d.cp - d.log.length
    · rw [if_pos hf, if_pos hf]
      exact ⟨rfl, h⟩
    · rw [if_neg hf, if_neg hf]
      have := ref_tick h (Dk.newSnap m) (keeps_newSnap m) (fun q => { q with s := strOfNums m }) (fun q => ⟨rfl, rfl, rfl, rfl, rfl, rfl⟩) (fun e q k1 k2 k3 => ⟨rfl, k2, k3⟩) hd (Nat.zero_le _)
      exact ⟨this.1.symm, this.2⟩
theorem ref_sync {d : Dk} {r : Rk} (h : RefOf d r) : r.sync.2 = d.sync.2 ∧ RefOf d.sync.1 r.sync.1 := by
  unfold Dk.sync Rk.sync
  rw [h.dw]
  cases hd : d.dw with
  | true => exact ⟨rfl, h⟩
  | false =>
    simp only [Bool.false_eq_true, if_false]
    have := ref_tick h Dk.allSafe keeps_allSafe (fun q => { q with sf := q.l.size }) (fun q => ⟨rfl, rfl, rfl, rfl, rfl, rfl⟩) (fun e q k1 k2 k3 => ⟨k1, k2, by show (q.l.size : Int) = (e.log.length : Nat); rw [k2, strOfNums_size]⟩) hd (Nat.zero_le _)
    refine ⟨this.1.symm, ?_⟩
    have hl := (tick_keeps r).2.1
    have h2 := this.2
    rw [hl] at h2
    rw [hl]
    exact h2
theorem ref_cut {d : Dk} {r : Rk} (h : RefOf d r) (n : Int) : (r.cut n).2 = (d.cut n).2 ∧ RefOf (d.cut n).1 (r.cut n).1 := by
  unfold Dk.cut Rk.cut
  rw [h.dw]
  cases hd : d.dw with
  | true => exact ⟨rfl, h⟩
  | false =>
    simp only [Bool.false_eq_true, if_false]
    rw [h.l, strOfNums_size]
    by_cases hf : n < 0 ∨ n > d.log.length
    · rw [if_pos hf, if_pos hf]
      exact ⟨rfl, h⟩
    · rw [if_neg hf, if_neg hf]
      have := ref_tick h (Dk.cutLog n.toNat) (keeps_cutLog n.toNat) (fun q => { q with l := q.l.extract 0 n.toNat, sf := min q.sf n }) (fun q => ⟨rfl, rfl, rfl, rfl, rfl, rfl⟩) (fun e q k1 k2 k3 => ⟨k1, by show q.l.extract 0 n.toNat = strOfNums (e.log.take n.toNat); rw [k2, strOfNums_take], by show min q.sf n = ((min e.sf n.toNat : Nat) : Int); omega⟩) hd (Nat.zero_le _)
      refine ⟨this.1.symm, ?_⟩
      have hl := (tick_keeps r).2.1
      have hs := (tick_keeps r).2.2
      have h2 := this.2
      rw [hl, hs, h.l] at h2
      exact h2
theorem ref_fail {d : Dk} {r : Rk} (h : RefOf d r) (n : Int) (dn : Bool) (hn : n ≤ 9223372036854775807) : (r.fail n dn).2 = (d.fail n dn).2 ∧ RefOf (d.fail n dn).1 (r.fail n dn).1 := by
  unfold Dk.fail Rk.fail
  rw [h.dw]
  cases hd : d.dw with
  | true => exact ⟨rfl, h⟩
  | false =>
    simp only [Bool.false_eq_true, if_false]
    by_cases hf : n < 0
    · rw [if_pos hf, if_pos hf]
      exact ⟨rfl, h⟩
    · rw [if_neg hf, if_neg hf]
      exact ⟨rfl, h.s, h.l, h.sf, h.cp, h.op, rfl, .inr ⟨rfl, rfl, by show 0 ≤ n; omega, rfl⟩, by show _ < n; omega, hn⟩
theorem ref_crash {d : Dk} {r : Rk} (h : RefOf d r) (k : Int) (hd : d.Ok) : RefOf (d.crash k) (r.crash k) := by
  have h1 := hd.sf
  have e : r.sf + min (max k 0) ((r.l.size : Int) - r.sf) = ((d.sf + min (max k 0).toNat (d.log.length - d.sf) : Nat) : Int) := by
    rw [h.sf, h.l, strOfNums_size]
    omega
  refine ⟨h.s, ?_, e, h.cp, h.op, rfl, .inl ⟨rfl, rfl⟩, by show (-9223372036854775808 : Int) < 0; omega, by show (0 : Int) ≤ _; omega⟩
  show r.l.extract 0 (r.sf + min (max k 0) ((r.l.size : Int) - r.sf)).toNat = strOfNums (d.log.take _)
  rw [e, strOfNums_take, h.l]
  rfl
theorem ref_new (n : Int) : RefOf (Dk.new n) { s := ⟨#[]⟩, l := ⟨#[]⟩, sf := 0, cp := max 0 n, op := 0, dw := false, td := false, af := 0, dn := false } :=
  ⟨rfl, rfl, rfl, rfl, rfl, rfl, .inl ⟨rfl, rfl⟩, by show (-9223372036854775808 : Int) < 0; omega, by show (0 : Int) ≤ _; omega⟩
end Go.Proofs.Ytibeblibminjfaa
