/- do: one call, on a disk and on the reference's disk. -/
import Derived.Test.YtibeblibminjfaaSame
namespace Go.Proofs.Ytibeblibminjfaa
open Go.RowKit
set_option linter.unusedVariables false

def doStep (d : Dk) (x : Ac) : Dk × Int :=
  if x.kind % 7 = 2 then d.cut x.n else if x.kind % 7 = 3 then d.sync else if x.kind % 7 = 4 then d.swap x.z else if x.kind % 7 = 5 then d.fail x.n x.done else if x.kind % 7 = 6 then (d.crash x.n, 0) else d.append x.z
def rStep (r : Rk) (x : Ac) : Rk × Int :=
  if x.kind % 7 = 2 then r.cut x.n else if x.kind % 7 = 3 then r.sync else if x.kind % 7 = 4 then r.swap (strOfNums x.z) else if x.kind % 7 = 5 then r.fail x.n x.done else if x.kind % 7 = 6 then (r.crash x.n, 0) else r.append (strOfNums x.z)
theorem ref_step {d : Dk} {r : Rk} (x : Ac) (h : RefOf d r) (hd : d.Ok) (hn : x.n ≤ 9223372036854775807) : (rStep r x).2 = (doStep d x).2 ∧ RefOf (doStep d x).1 (rStep r x).1 := by
  unfold doStep rStep
  split
  · exact ref_cut h x.n
  · split
    · exact ref_sync h
    · split
      · exact ref_swap h x.z
      · split
        · exact ref_fail h x.n x.done hn
        · split
          · exact ⟨rfl, ref_crash h x.n hd⟩
          · exact ref_append h x.z

def rcells (r : Rk) : Array Value := #[.string r.s, .string r.l, .int .i64 r.sf, .int .i64 r.cp, .int .i64 r.op, .bool r.dw, .bool r.td, .int .i64 r.af, .bool r.dn]
def rzero : Array Value := #[.string ⟨#[]⟩, .string ⟨#[]⟩, .int .i64 0, .int .i64 0, .int .i64 0, .bool false, .bool false, .int .i64 0, .bool false]
def acells (x : Ac) : Array Value := #[.int .u8 (x.kind : Int), .slice x.A x.len x.cap, .int .i64 x.n, .bool x.done]

section
variable {r r' : Rk} {er : Int} {w : World}
theorem rcut_at (n : Int) (hr : r.Ok) (he : r.cut n = (r', er)) : Calls Try.prog 34 #[r.v, .int .i64 n] w fun e w' => e = .returned (.tuple #[.agg (rcells r'), .int .i64 er]) ∧ Only Noth w w' := by
  have h := rcut_any r n w hr
  rw [he] at h
  exact h
theorem rsync_at (hr : r.Ok) (he : r.sync = (r', er)) : Calls Try.prog 35 #[r.v] w fun e w' => e = .returned (.tuple #[.agg (rcells r'), .int .i64 er]) ∧ Only Noth w w' := by
  have h := rsync_any r w hr
  rw [he] at h
  exact h
theorem rswap_at (m : ByteArray) (hr : r.Ok) (hm : m.size ≤ 100000000) (he : r.swap m = (r', er)) : Calls Try.prog 36 #[r.v, .string m] w fun e w' => e = .returned (.tuple #[.agg (rcells r'), .int .i64 er]) ∧ Only Noth w w' := by
  have h := rswap_any r m w hr hm
  rw [he] at h
  exact h
theorem rappend_at (m : ByteArray) (hr : r.Ok) (hm : m.size ≤ 100000000) (he : r.append m = (r', er)) : Calls Try.prog 39 #[r.v, .string m] w fun e w' => e = .returned (.tuple #[.agg (rcells r'), .int .i64 er]) ∧ Only Noth w w' := by
  have h := rappend_any r m w hr hm
  rw [he] at h
  exact h
theorem rfail_at (n : Int) (dn : Bool) (he : r.fail n dn = (r', er)) : Calls Try.prog 37 #[r.v, .int .i64 n, .bool dn] w fun e w' => e = .returned (.tuple #[.agg (rcells r'), .int .i64 er]) ∧ Only Noth w w' := by
  have h := rfail_any r n dn w
  rw [he] at h
  exact h
theorem rcrash_at (n : Int) (hr : r.Ok) (he : r.crash n = r') : Calls Try.prog 38 #[r.v, .int .i64 n] w fun e w' => e = .returned (.agg (rcells r')) ∧ Only Noth w w' := by
  have h := rcrash_any r n w hr
  rw [he] at h
  exact h
theorem fail_at {F : Nat → Prop} {b : Nat} {d d' : Dk} (n : Int) (dn : Bool) (hD : DiskAt F w b d) (hn : n ≤ 9223372036854775807) (he : d.fail n dn = (d', er)) :
    Calls Try.prog 16 #[.pointer (some ⟨b, 0, none⟩), .int .i64 n, .bool dn] w fun e w' => e = .returned (.int .i64 er) ∧ Leaves F b d' w w' := by
  have h := disk_fail n dn hD hn
  rwa [he] at h
end

theorem do_boxes {w W : World} {o : Obj} {c1 c2 c3 : Array Value} {t1 t2 t3 : TypeId} (ho : Only Noth ((((w.alloc (.cells c1 t1)).alloc (.cells c2 t2)).alloc (.cells c3 t3)).alloc o) W) :
    Hld W w.heap.size t1 c1 ∧ Hld W (w.heap.size + 1) t2 c2 ∧ Hld W (w.heap.size + 2) t3 c3 ∧ Only Noth w W := by
  have h2 := Hld.new (w.alloc (.cells c1 t1)) t2 c2
  have h3 := Hld.new ((w.alloc (.cells c1 t1)).alloc (.cells c2 t2)) t3 c3
  rw [size_alloc] at h2
  rw [size_alloc, size_alloc] at h3
  exact ⟨((((Hld.new w t1 c1).alloc _).alloc _).alloc _).only ho (fun h => h), ((h2.alloc _).alloc _).only ho (fun h => h), (h3.alloc _).only ho (fun h => h), ((((Only.refl Noth w).alloc _).alloc _).alloc _).alloc _ |>.trans ho (fun _ h _ => h)⟩

/-- Where the disk, the boxes and the row of one's own stand before the call. -/
structure DoAt (F S : Nat → Prop) (b : Nat) (d : Dk) (r : Rk) (x : Ac) (w w0 : World) (G : Nat → Prop) (A : Option Addr) (c : Nat) : Prop where
  disk : DiskAt F w0 b d
  lt : ∀ j, F j → j < w.heap.size
  b4 : Hld w0 w.heap.size 48 (rcells r)
  b5 : Hld w0 (w.heap.size + 1) 45 (acells x)
  b6 : Hld w0 (w.heap.size + 2) 48 rzero
  row : Row w0 G 5 1 (.slice A x.len c) x.len (u8s x.z)
  new : ∀ j, G j → w.heap.size + 3 ≤ j ∧ j < w0.heap.size
  only : Only Noth w w0
  src : Src w0 S 1 x.A x.len (u8s x.z)
  apart : ∀ j, S j → j < w.heap.size ∧ ¬ F j
theorem DoAt.notF {F S G : Nat → Prop} {b c : Nat} {d : Dk} {r : Rk} {x : Ac} {w w0 : World} {A : Option Addr} (h : DoAt F S b d r x w w0 G A c) : ∀ j, G j → ¬ F j := fun j hj hF => by
  have := (h.new j hj).1
  have := h.lt j hF
  omega

/-- What the two calls leave. -/
def DoLeft (F : Nat → Prop) (b : Nat) (d' : Dk) (w : World) (G : Nat → Prop) (A : Option Addr) (n c : Nat) (z : List Int) (s8 s9 : Value) (wx : World) : Prop :=
  ∃ r' er F', s8 = .int .i64 er ∧ s9 = .int .i64 er ∧ RefOf d' r' ∧ DiskAt F' wx b d' ∧ (∀ j, F' j → (F j ∨ w.heap.size ≤ j) ∧ ¬ G j ∧ j ≠ w.heap.size ∧ j ≠ w.heap.size + 2) ∧ Only F w wx ∧
    Hld wx w.heap.size 48 (rcells r') ∧ Hld wx (w.heap.size + 2) 48 rzero ∧ Row wx G 5 1 (.slice A n c) n (u8s z)

theorem do_left {F S G : Nat → Prop} {b c : Nat} {d d' : Dk} {r r' : Rk} {er : Int} {x : Ac} {w w0 w1 w2 w3 : World} {A : Option Addr} (h : DoAt F S b d r x w w0 G A c) (hR : RefOf d' r') (hL : Leaves F b d' w0 w1) (ho2 : Only Noth w1 w2)
    (gb : Hld w3 w.heap.size 48 (rcells r')) (ho3 : Only (fun k => k = w.heap.size) w2 w3) : DoLeft F b d' w G A x.len c x.z (.int .i64 er) (.int .i64 er) w3 := by
  have h6 := h.b6.lt
  have hlt : ∀ j, Plus F w0 w1 j → (F j ∧ j < w.heap.size) ∨ w0.heap.size ≤ j := fun j hj => by
    rcases hj with hj | hj
    · exact .inl ⟨hj, h.lt j hj⟩
    · exact .inr hj.1
  refine ⟨r', er, Plus F w0 w1, rfl, rfl, hR, (hL.1.only ho2 (fun _ _ h => h)).only ho3 (fun j hj h2 => ?_), fun j hj => ?_, ?_, gb, ?_, ?_⟩
  · rcases hlt j hj with h3 | h3 <;> omega
  · rcases hlt j hj with h3 | h3
    · exact ⟨.inl h3.1, fun hG => by have := (h.new j hG).1; omega, by omega, by omega⟩
    · exact ⟨.inr (by omega), fun hG => by have := (h.new j hG).2; omega, by omega, by omega⟩
  · exact (((h.only.mono (fun _ h _ => h.elim)).trans hL.2 (fun _ h _ => h)).trans ho2 (fun _ h _ => h.elim)).trans ho3 (fun j hj hlt => by omega)
  · exact ((h.b6.only hL.2 (fun hF => by have := h.lt _ hF; omega)).only ho2 (fun h => h)).only ho3 (fun h => by omega)
  · exact ((h.row.only hL.2 h.notF).only ho2 (fun _ _ h => h)).only ho3 (fun j hj h2 => by have := (h.new j hj).1; omega)

/-- What can be read behind the disk's call. -/
theorem do_mid {F S G : Nat → Prop} {b c : Nat} {d d' : Dk} {r : Rk} {x : Ac} {w w0 w1 : World} {A : Option Addr} (h : DoAt F S b d r x w w0 G A c) (hL : Leaves F b d' w0 w1) :
    (Hld w1 w.heap.size 48 (rcells r) ∧ Hld w1 (w.heap.size + 1) 45 (acells x)) ∧ Src w1 S 1 x.A x.len (u8s x.z) :=
  ⟨⟨h.b4.only hL.2 (fun hF => by have := h.lt _ hF; omega), h.b5.only hL.2 (fun hF => by have := h.lt _ hF; omega)⟩, h.src.only hL.2 (fun j hj => (h.apart j hj).2)⟩

theorem do_end {F F' G : Nat → Prop} {b n : Nat} {d' : Dk} {w wc wr w4 : World} {A : Option Addr} (hlt : ∀ j, F j → j < w.heap.size) (hG : ∀ j, G j → w.heap.size + 3 ≤ j) (gD : DiskAt F' wc b d') (gF : ∀ j, F' j → (F j ∨ w.heap.size ≤ j) ∧ ¬ G j ∧ j ≠ w.heap.size ∧ j ≠ w.heap.size + 2) (gO : Only F w wc)
    (bk : Bump wc G A n wr) (ho4 : Only (fun k => k = w.heap.size + 2) wr w4) : Leaves F b d' w w4 := by
  have o := (gO.trans bk.1 (fun j hj hl => by have := hG j hj; omega)).trans ho4 (fun j hj hl => by omega)
  have dd := (gD.only bk.1 (fun j hj => (gF j hj).2.1)).only ho4 (fun j hj => (gF j hj).2.2.2)
  refine ⟨dd.more (fun j hj => ?_) (fun j hj => ?_), o⟩
  · rcases (gF j hj).1 with h | h
    · exact .inl h
    · exact .inr ⟨h, dd.lt j hj⟩
  · rcases hj with h | h
    · exact Nat.lt_of_lt_of_le (hlt j h) o.size
    · exact h.2

set_option maxHeartbeats 16000000 in
set_option maxRecDepth 100000 in
theorem do_walk {F S : Nat → Prop} {w : World} {b : Nat} {d : Dk} {r : Rk} (x : Ac) (hD : DiskAt F w b d) (hR : RefOf d r) (hs : Src w S 1 x.A x.len (u8s x.z)) (hzl : x.z.length = x.len) (hbare : x.A = none → x.len = 0 ∧ x.cap = 0)
    (hcap : x.len ≤ x.cap) (hcap2 : x.cap ≤ 9223372036854775807) (hk : x.kind ≤ 255) (hn0 : -9223372036854775808 ≤ x.n) (hn1 : x.n ≤ 9223372036854775807) (hS : ∀ j, S j → j < w.heap.size ∧ ¬ F j) (hlog : d.log.length + x.len ≤ 100000000) (hlen : x.len ≤ 20000) (hop : d.op + 1 ≤ 1000000) :
    Calls Try.prog 23 #[.pointer (some ⟨b, 0, none⟩), r.v, .agg #[.int .u8 (x.kind : Int), .slice x.A x.len x.cap, .int .i64 x.n, .bool x.done]] w fun e w' => ∃ r', e = .returned (.tuple #[r'.v, .bool true]) ∧ RefOf (doStep d x).1 r' ∧ Leaves F b (doStep d x).1 w w' := by
  obtain ⟨i0, hi, hz0, hz1, hz2⟩ := info_parts u8info
  obtain ⟨e1, e2⟩ := ref_step x hR hD.ok hn1
  obtain ⟨d', er, he⟩ : ∃ d' er, doStep d x = (d', er) := ⟨_, _, rfl⟩
  obtain ⟨r', er', hre⟩ : ∃ r' er, rStep r x = (r', er) := ⟨_, _, rfl⟩
  rw [he, hre] at e1 e2
  have e1' : er' = er := e1
  rw [e1'] at hre
  have RO := Lib.hid (show RefOf d' r' from e2)
  have hE1 : (doStep d x).1 = d' := by rw [he]
  rw [hE1]
  have HE := Lib.hid he
  have HRE := Lib.hid hre
  have ROK := Lib.hid (hR.ok hD.ok)
  have HD := Lib.hid hD
  have HSR := Lib.hid hs
  have HZ := Lib.hid hzl
  have HB := Lib.hid hbare
  have HS := Lib.hid hS
  have HLOG := Lib.hid hlog
  have HOPB := Lib.hid hop
  have H1 := Lib.hid (u8s_one x.z)
  have HM := Lib.hid (show (strOfNums x.z).size ≤ 100000000 by rw [strOfNums_size, hzl]; omega)
  obtain ⟨s, l, sf, cp, op, dw, td, af, dn⟩ := r
  unfold Rk.v
  clear hD hR hs hzl hbare hS hlog hop he hre e1 e1' e2 hE1
  go_enter Try.func23, Try.ntmps23
  go_upto_block 0 with (at_builtin; go_must (refine wpList_append_row _ rfl (.tmp 12) (.tmp 14) 22 rfl 5 i0 (.int .u8 0) 1 1 Try.underlying22 hi hz0 hz1 hz2 rfl Noth S _ 0 [] rfl (Row.empty _ _ _ _ _) x.A x.len x.cap (u8s x.z) rfl ((((HSR.out.alloc _).alloc _).alloc _).alloc _) H1.out (by simp only [maxLen]; omega) (by omega) ?_); go_must (intro v' w0 hrow honly hsz; rw [Nat.zero_add, List.nil_append] at hrow; obtain ⟨A', c', hv'⟩ := hrow.shape; subst hv'; obtain ⟨B4, B5, B6, O0⟩ := do_boxes honly; have DA := Lib.hid (show DoAt F S b d ⟨s, l, sf, cp, op, dw, td, af, dn⟩ x w w0 _ A' c' from ⟨HD.out.only O0 (fun _ _ h => h), HD.out.lt, B4, B5, B6, hrow, fun j hj => by (rcases hj with hj | hj; exact hj.elim; simp only [size_alloc] at hj; omega), O0, HSR.out.only O0 (fun _ _ h => h), HS.out⟩); have a0 : w0.cell? ⟨w.heap.size + 1, 0, none⟩ = some (.int .u8 (x.kind : Int)) := B5.cell 0; have a1 : w0.cell? ⟨w.heap.size + 1, 1, none⟩ = some (.slice x.A x.len x.cap) := B5.cell 1; have a2 : w0.cell? ⟨w.heap.size + 1, 2, none⟩ = some (.int .i64 x.n) := B5.cell 2; have a3 : w0.cell? ⟨w.heap.size + 1, 3, none⟩ = some (.bool x.done) := B5.cell 3; clear hrow honly hsz B4 B5 B6 O0))
  obtain ⟨G, DA⟩ : ∃ G, Hid (DoAt F S b d ⟨s, l, sf, cp, op, dw, td, af, dn⟩ x w w0 G A' c') := ⟨_, DA⟩
  go_cut [8, 9] from 18 to 91 (fun s8 s9 wx => Hid (DoLeft F b d' w G A' x.len c' x.z s8 s9 wx))
  case first =>
    have he2 := HE.out
    have hre2 := HRE.out
    unfold doStep at he2
    unfold rStep at hre2
    rcases (show x.kind % 7 = 0 ∨ x.kind % 7 = 1 ∨ x.kind % 7 = 2 ∨ x.kind % 7 = 3 ∨ x.kind % 7 = 4 ∨ x.kind % 7 = 5 ∨ x.kind % 7 = 6 by omega) with hq | hq | hq | hq | hq | hq | hq
    · rw [if_neg (by omega), if_neg (by omega), if_neg (by omega), if_neg (by omega), if_neg (by omega)] at he2 hre2
      have HE2 := Lib.hid he2
      have HRE2 := Lib.hid hre2
      have hr : ((x.kind : Int) % 7) = 0 := by omega
      clear he2 hre2 hq
      go_wp2_with fail
      refine (append_at A' x.z x.len c' HZ.out DA.out.disk DA.out.row.src (fun j hj => DA.out.notF j hj) (by have := HLOG.out; have := HZ.out; omega) HOPB.out HE2.out).mono ?_
      rintro e w1 ⟨rfl, hL⟩
      have HLL := Lib.hid hL
      obtain ⟨⟨m4, m5⟩, m6⟩ := do_mid DA.out hL
      obtain ⟨⟨b0, b1, b2, b3, b4, b5, b6, b7, b8⟩, bf⟩ := box_cells m4 (Only.refl _ _)
      have a1 : w1.cell? ⟨w.heap.size + 1, 1, none⟩ = some (.slice x.A x.len x.cap) := m5.cell 1
      have a2 : w1.cell? ⟨w.heap.size + 1, 2, none⟩ = some (.int .i64 x.n) := m5.cell 2
      have a3 : w1.cell? ⟨w.heap.size + 1, 3, none⟩ = some (.bool x.done) := m5.cell 3
      have kc := conv_strN x.len x.cap HZ.out m6
      have M4 := Lib.hid m4
      clear hL m4 m5 m6 bf
      go_wp2_with fail
      refine (rappend_at (strOfNums x.z) ROK.out HM.out HRE2.out).mono ?_
      rintro e w2 ⟨rfl, ho2⟩
      have HO2 := Lib.hid ho2
      clear ho2
      go_wp2_with (refine wpList_store_whole rfl rfl 48 (.tmp 4) (.tmp 28) rfl w.heap.size rfl (rcells r') rfl 48 _ ((M4.out).only HO2.out (fun h => h)) rfl (by simp [Value.oneCell', rcells]) (by kernel_rfl) ?_; intro w3 gb ho3 _; have GB := Lib.hid gb; have HO3 := Lib.hid ho3; clear gb ho3)
      go_meet
      case rel => exact Lib.hid (do_left DA.out RO.out HLL.out HO2.out GB.out HO3.out)
    · rw [if_neg (by omega), if_neg (by omega), if_neg (by omega), if_neg (by omega), if_neg (by omega)] at he2 hre2
      have HE2 := Lib.hid he2
      have HRE2 := Lib.hid hre2
      have hr : ((x.kind : Int) % 7) = 1 := by omega
      clear he2 hre2 hq
      go_wp2_with fail
      refine (append_at A' x.z x.len c' HZ.out DA.out.disk DA.out.row.src (fun j hj => DA.out.notF j hj) (by have := HLOG.out; have := HZ.out; omega) HOPB.out HE2.out).mono ?_
      rintro e w1 ⟨rfl, hL⟩
      have HLL := Lib.hid hL
      obtain ⟨⟨m4, m5⟩, m6⟩ := do_mid DA.out hL
      obtain ⟨⟨b0, b1, b2, b3, b4, b5, b6, b7, b8⟩, bf⟩ := box_cells m4 (Only.refl _ _)
      have a1 : w1.cell? ⟨w.heap.size + 1, 1, none⟩ = some (.slice x.A x.len x.cap) := m5.cell 1
      have a2 : w1.cell? ⟨w.heap.size + 1, 2, none⟩ = some (.int .i64 x.n) := m5.cell 2
      have a3 : w1.cell? ⟨w.heap.size + 1, 3, none⟩ = some (.bool x.done) := m5.cell 3
      have kc := conv_strN x.len x.cap HZ.out m6
      have M4 := Lib.hid m4
      clear hL m4 m5 m6 bf
      go_wp2_with fail
      refine (rappend_at (strOfNums x.z) ROK.out HM.out HRE2.out).mono ?_
      rintro e w2 ⟨rfl, ho2⟩
      have HO2 := Lib.hid ho2
      clear ho2
      go_wp2_with (refine wpList_store_whole rfl rfl 48 (.tmp 4) (.tmp 28) rfl w.heap.size rfl (rcells r') rfl 48 _ ((M4.out).only HO2.out (fun h => h)) rfl (by simp [Value.oneCell', rcells]) (by kernel_rfl) ?_; intro w3 gb ho3 _; have GB := Lib.hid gb; have HO3 := Lib.hid ho3; clear gb ho3)
      go_meet
      case rel => exact Lib.hid (do_left DA.out RO.out HLL.out HO2.out GB.out HO3.out)
    · rw [if_pos hq] at he2 hre2
      have HE2 := Lib.hid he2
      have HRE2 := Lib.hid hre2
      have hr : ((x.kind : Int) % 7) = 2 := by omega
      clear he2 hre2 hq
      go_wp2_with fail
      refine (cut_at x.n DA.out.disk HOPB.out HE2.out).mono ?_
      rintro e w1 ⟨rfl, hL⟩
      have HLL := Lib.hid hL
      obtain ⟨⟨m4, m5⟩, m6⟩ := do_mid DA.out hL
      obtain ⟨⟨b0, b1, b2, b3, b4, b5, b6, b7, b8⟩, bf⟩ := box_cells m4 (Only.refl _ _)
      have a1 : w1.cell? ⟨w.heap.size + 1, 1, none⟩ = some (.slice x.A x.len x.cap) := m5.cell 1
      have a2 : w1.cell? ⟨w.heap.size + 1, 2, none⟩ = some (.int .i64 x.n) := m5.cell 2
      have a3 : w1.cell? ⟨w.heap.size + 1, 3, none⟩ = some (.bool x.done) := m5.cell 3
      have M4 := Lib.hid m4
      clear hL m4 m5 m6 bf
      go_wp2_with fail
      refine (rcut_at x.n ROK.out HRE2.out).mono ?_
      rintro e w2 ⟨rfl, ho2⟩
      have HO2 := Lib.hid ho2
      clear ho2
      go_wp2_with (refine wpList_store_whole rfl rfl 48 (.tmp 4) (.tmp 41) rfl w.heap.size rfl (rcells r') rfl 48 _ ((M4.out).only HO2.out (fun h => h)) rfl (by simp [Value.oneCell', rcells]) (by kernel_rfl) ?_; intro w3 gb ho3 _; have GB := Lib.hid gb; have HO3 := Lib.hid ho3; clear gb ho3)
      go_meet
      case rel => exact Lib.hid (do_left DA.out RO.out HLL.out HO2.out GB.out HO3.out)
    · rw [if_neg (by omega), if_pos hq] at he2 hre2
      have HE2 := Lib.hid he2
      have HRE2 := Lib.hid hre2
      have hr : ((x.kind : Int) % 7) = 3 := by omega
      clear he2 hre2 hq
      go_wp2_with fail
      refine (sync_at DA.out.disk HOPB.out HE2.out).mono ?_
      rintro e w1 ⟨rfl, hL⟩
      have HLL := Lib.hid hL
      obtain ⟨⟨m4, m5⟩, m6⟩ := do_mid DA.out hL
      obtain ⟨⟨b0, b1, b2, b3, b4, b5, b6, b7, b8⟩, bf⟩ := box_cells m4 (Only.refl _ _)
      have a1 : w1.cell? ⟨w.heap.size + 1, 1, none⟩ = some (.slice x.A x.len x.cap) := m5.cell 1
      have a2 : w1.cell? ⟨w.heap.size + 1, 2, none⟩ = some (.int .i64 x.n) := m5.cell 2
      have a3 : w1.cell? ⟨w.heap.size + 1, 3, none⟩ = some (.bool x.done) := m5.cell 3
      have M4 := Lib.hid m4
      clear hL m4 m5 m6 bf
      go_wp2_with fail
      refine (rsync_at ROK.out HRE2.out).mono ?_
      rintro e w2 ⟨rfl, ho2⟩
      have HO2 := Lib.hid ho2
      clear ho2
      go_wp2_with (refine wpList_store_whole rfl rfl 48 (.tmp 4) (.tmp 50) rfl w.heap.size rfl (rcells r') rfl 48 _ ((M4.out).only HO2.out (fun h => h)) rfl (by simp [Value.oneCell', rcells]) (by kernel_rfl) ?_; intro w3 gb ho3 _; have GB := Lib.hid gb; have HO3 := Lib.hid ho3; clear gb ho3)
      go_meet
      case rel => exact Lib.hid (do_left DA.out RO.out HLL.out HO2.out GB.out HO3.out)
    · rw [if_neg (by omega), if_neg (by omega), if_pos hq] at he2 hre2
      have HE2 := Lib.hid he2
      have HRE2 := Lib.hid hre2
      have hr : ((x.kind : Int) % 7) = 4 := by omega
      clear he2 hre2 hq
      go_wp2_with fail
      refine (swap_at A' x.z x.len c' HZ.out (row_bare DA.out.row) DA.out.disk DA.out.row.src (fun j hj => DA.out.notF j hj) (by have := HZ.out; omega) HOPB.out HE2.out).mono ?_
      rintro e w1 ⟨rfl, hL⟩
      have HLL := Lib.hid hL
      obtain ⟨⟨m4, m5⟩, m6⟩ := do_mid DA.out hL
      obtain ⟨⟨b0, b1, b2, b3, b4, b5, b6, b7, b8⟩, bf⟩ := box_cells m4 (Only.refl _ _)
      have a1 : w1.cell? ⟨w.heap.size + 1, 1, none⟩ = some (.slice x.A x.len x.cap) := m5.cell 1
      have a2 : w1.cell? ⟨w.heap.size + 1, 2, none⟩ = some (.int .i64 x.n) := m5.cell 2
      have a3 : w1.cell? ⟨w.heap.size + 1, 3, none⟩ = some (.bool x.done) := m5.cell 3
      have kc := conv_strN x.len x.cap HZ.out m6
      have M4 := Lib.hid m4
      clear hL m4 m5 m6 bf
      go_wp2_with fail
      refine (rswap_at (strOfNums x.z) ROK.out HM.out HRE2.out).mono ?_
      rintro e w2 ⟨rfl, ho2⟩
      have HO2 := Lib.hid ho2
      clear ho2
      go_wp2_with (refine wpList_store_whole rfl rfl 48 (.tmp 4) (.tmp 63) rfl w.heap.size rfl (rcells r') rfl 48 _ ((M4.out).only HO2.out (fun h => h)) rfl (by simp [Value.oneCell', rcells]) (by kernel_rfl) ?_; intro w3 gb ho3 _; have GB := Lib.hid gb; have HO3 := Lib.hid ho3; clear gb ho3)
      go_meet
      case rel => exact Lib.hid (do_left DA.out RO.out HLL.out HO2.out GB.out HO3.out)
    · rw [if_neg (by omega), if_neg (by omega), if_neg (by omega), if_pos hq] at he2 hre2
      have HE2 := Lib.hid he2
      have HRE2 := Lib.hid hre2
      have hr : ((x.kind : Int) % 7) = 5 := by omega
      clear he2 hre2 hq
      go_wp2_with fail
      refine (fail_at x.n x.done DA.out.disk hn1 HE2.out).mono ?_
      rintro e w1 ⟨rfl, hL⟩
      have HLL := Lib.hid hL
      obtain ⟨⟨m4, m5⟩, m6⟩ := do_mid DA.out hL
      obtain ⟨⟨b0, b1, b2, b3, b4, b5, b6, b7, b8⟩, bf⟩ := box_cells m4 (Only.refl _ _)
      have a1 : w1.cell? ⟨w.heap.size + 1, 1, none⟩ = some (.slice x.A x.len x.cap) := m5.cell 1
      have a2 : w1.cell? ⟨w.heap.size + 1, 2, none⟩ = some (.int .i64 x.n) := m5.cell 2
      have a3 : w1.cell? ⟨w.heap.size + 1, 3, none⟩ = some (.bool x.done) := m5.cell 3
      have M4 := Lib.hid m4
      clear hL m4 m5 m6 bf
      go_wp2_with fail
      refine (rfail_at x.n x.done HRE2.out).mono ?_
      rintro e w2 ⟨rfl, ho2⟩
      have HO2 := Lib.hid ho2
      clear ho2
      go_wp2_with (refine wpList_store_whole rfl rfl 48 (.tmp 4) (.tmp 80) rfl w.heap.size rfl (rcells r') rfl 48 _ ((M4.out).only HO2.out (fun h => h)) rfl (by simp [Value.oneCell', rcells]) (by kernel_rfl) ?_; intro w3 gb ho3 _; have GB := Lib.hid gb; have HO3 := Lib.hid ho3; clear gb ho3)
      go_meet
      case rel => exact Lib.hid (do_left DA.out RO.out HLL.out HO2.out GB.out HO3.out)
    · rw [if_neg (by omega), if_neg (by omega), if_neg (by omega), if_neg (by omega), if_pos hq] at he2 hre2
      have HE2 := Lib.hid he2
      have HRE2 := Lib.hid hre2
      have hr : ((x.kind : Int) % 7) = 6 := by omega
      clear he2 hre2 hq
      obtain rfl : er = 0 := (congrArg Prod.snd HE2.out).symm
      go_wp2_with fail
      refine (crash_at x.n DA.out.disk (congrArg Prod.fst HE2.out)).mono ?_
      rintro e w1 ⟨rfl, hL⟩
      have HLL := Lib.hid hL
      obtain ⟨⟨m4, m5⟩, m6⟩ := do_mid DA.out hL
      obtain ⟨⟨b0, b1, b2, b3, b4, b5, b6, b7, b8⟩, bf⟩ := box_cells m4 (Only.refl _ _)
      have a1 : w1.cell? ⟨w.heap.size + 1, 1, none⟩ = some (.slice x.A x.len x.cap) := m5.cell 1
      have a2 : w1.cell? ⟨w.heap.size + 1, 2, none⟩ = some (.int .i64 x.n) := m5.cell 2
      have a3 : w1.cell? ⟨w.heap.size + 1, 3, none⟩ = some (.bool x.done) := m5.cell 3
      have M4 := Lib.hid m4
      clear hL m4 m5 m6 bf
      go_wp2_with fail
      refine (rcrash_at x.n ROK.out (congrArg Prod.fst HRE2.out)).mono ?_
      rintro e w2 ⟨rfl, ho2⟩
      have HO2 := Lib.hid ho2
      clear ho2
      go_wp2_with (refine wpList_store_whole rfl rfl 48 (.tmp 4) (.tmp 91) rfl w.heap.size rfl (rcells r') rfl 48 _ ((M4.out).only HO2.out (fun h => h)) rfl (by simp [Value.oneCell', rcells]) (by kernel_rfl) ?_; intro w3 gb ho3 _; have GB := Lib.hid gb; have HO3 := Lib.hid ho3; clear gb ho3)
      go_meet
      case rel => exact Lib.hid (do_left DA.out RO.out HLL.out HO2.out GB.out HO3.out)
  case rest =>
    obtain ⟨r2, er2, F', hu8, hu9, gR, gD, gF, gO, gb4, gb6, gRow⟩ := hcut.out
    subst hu8
    subst hu9
    have BB := Lib.hid (bump_start gRow HZ.out)
    have GR := Lib.hid gR
    have GD := Lib.hid gD
    have GF := Lib.hid gF
    have GO := Lib.hid gO
    have GB4 := Lib.hid gb4
    have GB6 := Lib.hid gb6
    have GN := Lib.hid (fun j hj => (DA.out.new j hj).1)
    clear gR gD gF gO gb4 gb6 gRow hcut a0 a1 a2 a3
    go_wp2_with fail
    go_loopg [11] x.len (fun g s11 wy => ∃ k : Nat, k ≤ x.len ∧ g = x.len - k ∧ s11 = .int .i64 (k : Int) ∧ Hid (Bump wc G A' x.len wy))
    case atStart => exact ⟨0, by omega, by omega, rfl, BB⟩
    case round =>
      obtain ⟨k, hk, hg, rfl, BK⟩ := hrel
      by_cases hlt : k < x.len
      · obtain ⟨g1, z, hA, e1, e2, e3⟩ := BK.out.at_ hlt
        subst hA
        have E3 := Lib.hid e3
        have HG := Lib.hid hg
        clear e3 hg
        go_wp2_with fail
        go_roundg (x.len - (k + 1))
        case measure => have := HG.out; omega
        case rel => exact ⟨k + 1, by omega, rfl, by go_num, Lib.hid (E3.out _)⟩
      · obtain rfl : k = x.len := by omega
        have h4 := GB4.out.only BK.out.1 (fun h => by have := GN.out _ h; omega)
        have H6 := Lib.hid (GB6.out.only BK.out.1 (fun h => by have := GN.out _ h; omega))
        obtain ⟨⟨b0, b1, b2, b3, b4, b5, b6, b7, b8⟩, bf⟩ := box_cells h4 (Only.refl _ _)
        clear hg h4 bf
        go_wp2_with (refine wpList_store_whole rfl rfl 48 (.tmp 6) (.tmp 104) rfl (w.heap.size + 2) rfl (rcells r2) rfl 48 _ H6.out rfl (by simp [Value.oneCell', rcells]) (by kernel_rfl) ?_; intro w4 gb ho4 _; obtain ⟨⟨y0, y1, y2, y3, y4, y5, y6, y7, y8⟩, yf⟩ := box_cells gb (Only.refl _ _); have HO4 := Lib.hid ho4; clear gb ho4 yf b0 b1 b2 b3 b4 b5 b6 b7 b8)
        refine bodyPost_ret (v := .tuple #[.agg #[.string r2.s, .string r2.l, .int .i64 r2.sf, .int .i64 r2.cp, .int .i64 r2.op, .bool r2.dw, .bool r2.td, .int .i64 r2.af, .bool r2.dn], .bool true]) (by simp [results, Try.results23, go_sem, y0, y1, y2, y3, y4, y5, y6, y7, y8]) rfl ?_
        exact ⟨r2, rfl, GR.out, do_end HD.out.lt GN.out GD.out GF.out GO.out BK.out HO4.out⟩

end Go.Proofs.Ytibeblibminjfaa
