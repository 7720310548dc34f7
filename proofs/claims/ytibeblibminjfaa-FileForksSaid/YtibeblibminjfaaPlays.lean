/- The walk of FilePlays. -/
import Derived.Test.YtibeblibminjfaaDo
namespace Go.Proofs.Ytibeblibminjfaa
open Go.RowKit
set_option linter.unusedVariables false

theorem tick_grow {d : Dk} {upd : Dk → Dk} {n : Nat} (hu : Keeps upd) (hl : ∀ e : Dk, e.log = d.log → (upd e).log.length ≤ n) (h0 : d.log.length ≤ n) : (d.tick upd).1.log.length ≤ n ∧ (d.tick upd).1.op ≤ d.op + 1 := by
  unfold Dk.tick
  split
  · split
    · exact ⟨hl { d with op := d.op + 1, fu := -1 } rfl, Nat.le_of_eq (hu.op { d with op := d.op + 1, fu := -1 })⟩
    · exact ⟨h0, Nat.le_refl _⟩
  · exact ⟨hl { d with op := d.op + 1, fu := max (-1) (d.fu - 1) } rfl, Nat.le_of_eq (hu.op { d with op := d.op + 1, fu := max (-1) (d.fu - 1) })⟩

theorem do_grow (d : Dk) (x : Ac) : (doStep d x).1.log.length ≤ d.log.length + x.z.length ∧ (doStep d x).1.op ≤ d.op + 1 := by
  have stay : d.log.length ≤ d.log.length + x.z.length ∧ d.op ≤ d.op + 1 := ⟨by omega, by omega⟩
  unfold doStep
  split
  · unfold Dk.cut
    split
    · exact stay
    · split
      · exact stay
      · exact tick_grow (keeps_cutLog _) (fun e he => by show (e.log.take _).length ≤ _; rw [he, List.length_take]; omega) (by omega)
  · split
    · unfold Dk.sync
      split
      · exact stay
      · exact tick_grow keeps_allSafe (fun e he => by show e.log.length ≤ _; rw [he]; omega) (by omega)
    · split
      · unfold Dk.swap
        split
        · exact stay
        · split
          · exact stay
          · exact tick_grow (keeps_newSnap _) (fun e he => by show e.log.length ≤ _; rw [he]; omega) (by omega)
      · split
        · unfold Dk.fail
          split
          · exact stay
          · split <;> exact stay
        · split
          · exact ⟨by show (d.log.take _).length ≤ _; rw [List.length_take]; omega, by show d.op ≤ _; omega⟩
          · unfold Dk.append
            split
            · exact stay
            · split
              · exact stay
              · exact tick_grow (keeps_addLog _) (fun e he => by show (e.log ++ x.z).length ≤ _; rw [he, List.length_append]; omega) (by omega)

/-- What the loop over the calls keeps: a disk, and the reference's disk in its box. -/
structure PlayAt (F : Nat → Prop) (w wx : World) (b g : Nat) (d : Dk) (r : Rk) (k : Nat) : Prop where
  disk : DiskAt F wx b d
  ref : RefOf d r
  box : Hld wx g 48 (rcells r)
  ours : Ours w F wx
  apart : ∀ j, F j → j ≠ g
  new : w.heap.size ≤ g
  log : d.log.length ≤ k * 10001
  op : d.op ≤ k

theorem play_step {F : Nat → Prop} {w wx w1 w2 : World} {b g k : Nat} {d : Dk} {r r' : Rk} {x : Ac} (h : PlayAt F w wx b g d r k) (hx : x.z.length ≤ 10001) (hR : RefOf (doStep d x).1 r') (hL : Leaves F b (doStep d x).1 wx w1) (gb : Hld w2 g 48 (rcells r')) (ho : Only (fun k => k = g) w1 w2) :
    PlayAt (Plus F wx w1) w w2 b g (doStep d x).1 r' (k + 1) := by
  have hg := h.box.lt
  have hap : ∀ j, Plus F wx w1 j → j ≠ g := fun j hj => by
    rcases hj with hj | hj
    · exact h.apart j hj
    · omega
  have h1 := do_grow d x
  have h2 := h.log
  have h3 := h.op
  have hn := h.new
  refine ⟨hL.1.only ho (fun j hj h2 => hap j hj h2), hR, gb, ⟨(h.ours.leaves hL).only.trans ho (fun j hj hl => by omega), (h.ours.leaves hL).new⟩, hap, h.new, by omega, by omega⟩
theorem PlayAt.drew {F : Nat → Prop} {w wx : World} {b g k : Nat} {d : Dk} {r : Rk} (h : PlayAt F w wx b g d r k) : PlayAt F w wx.drew b g d r k := ⟨h.disk, h.ref, h.box, h.ours.quiet ((Only.refl _ _).drew), h.apart, h.new, h.log, h.op⟩
theorem PlayAt.quiet {F : Nat → Prop} {w wx wy : World} {b g k : Nat} {d : Dk} {r : Rk} (h : PlayAt F w wx b g d r k) (ho : Only Noth wx wy) : PlayAt F w wy b g d r k :=
  ⟨h.disk.only ho (fun _ _ h => h), h.ref, h.box.only ho (fun h => h), h.ours.quiet ho, h.apart, h.new, h.log, h.op⟩

theorem rnew_at (n : Int) (w : World) :
    Calls Try.prog 21 #[.int .i64 n] w fun e w' => e = .returned (.agg (rcells { s := ⟨#[]⟩, l := ⟨#[]⟩, sf := 0, cp := max 0 n, op := 0, dw := false, td := false, af := 0, dn := false })) ∧ Only Noth w w' := rnew_any n w

theorem play_start {w w1 w2 w3 : World} {o : Obj} {cp : Int} (hD : DiskAt (fun j => j = w.heap.size) w1 w.heap.size (Dk.new cp)) (hO : Ours w (fun j => j = w.heap.size) w1) (hz : w1.heap.size = w.heap.size + 1) (ho2 : Only Noth w1 w2) (ho3 : Only (fun k => k = w2.heap.size) (w2.alloc o) w3)
    (gb : Hld w3 w2.heap.size 48 (rcells { s := ⟨#[]⟩, l := ⟨#[]⟩, sf := 0, cp := max 0 cp, op := 0, dw := false, td := false, af := 0, dn := false })) :
    PlayAt (fun j => j = w.heap.size) w w3 w.heap.size w2.heap.size (Dk.new cp) { s := ⟨#[]⟩, l := ⟨#[]⟩, sf := 0, cp := max 0 cp, op := 0, dw := false, td := false, af := 0, dn := false } 0 := by
  have h2 := ho2.size
  refine ⟨((hD.only ho2 (fun _ _ h => h)).alloc o).only ho3 (fun j hj h => by omega), ref_new cp, gb, ⟨((hO.quiet ho2).alloc o).only.trans ho3 (fun j hj hl => by omega), fun j hj => by omega⟩, fun j hj => by omega, by omega, ?_, ?_⟩
  · simp [Dk.new]
  · simp [Dk.new]

theorem run_store_box {P : Program} {w : World} {g : Nat} {t : TypeId} {cs cs' : Array Value} (hg : Hld w g t cs) (hs : cs'.size = cs.size) (h1 : ∀ v ∈ cs'.toList, v.oneCell' = true) :
    ∃ w', (storeCells ⟨g, 0, none⟩ cs'.toList).run P w = .ok () w' ∧ Hld w' g t cs' ∧ Only (fun k => k = g) w w' := by
  have hst := run_storeCells_at P g 0 t cs'.toList 0 cs w hg (by simp; omega) h1
  have e : (cs.toList.take (0 + 0) ++ cs'.toList ++ cs.toList.drop (0 + 0 + cs'.toList.length)).toArray = cs' := by
    have hd : cs.toList.drop (0 + 0 + cs'.toList.length) = [] := List.drop_eq_nil_of_le (by simp; omega)
    rw [hd]
    simp
  rw [e] at hst
  exact ⟨_, hst, setRow_heap w g cs cs' t (0, 0) hg, (Only.refl (fun k => k = g) w).setRow (fun _ => rfl) cs'⟩
theorem rcells_one (r : Rk) : ∀ v ∈ (rcells r).toList, v.oneCell' = true := by simp [rcells, Value.oneCell']
theorem rcells_size (r q : Rk) : (rcells r).size = (rcells q).size := rfl

theorem act_len {xs : List Ac} {k : Nat} {x : Ac} (hs : sumB xs ≤ 10000) (hx : xs[k]? = some x) : x.len ≤ 10001 := by
  have h1 := sumB_take xs k x hx
  have h2 : sumB (xs.take (k + 1)) ≤ sumB xs := by
    have := sumB_append (xs.take (k + 1)) (xs.drop (k + 1))
    rw [List.take_append_drop] at this
    omega
  omega

/-- do, for a call out of a list. -/
theorem do_at {F S : Nat → Prop} {w wx : World} {b g k ab ao : Nat} {d : Dk} {r : Rk} {x : Ac} (h : PlayAt F w wx b g d r k) (hk : k ≤ 200) (ha : ActAt wx S ab ao x) (hl : x.len ≤ 10001) (hS : ∀ j, S j → j < w.heap.size) :
    Calls Try.prog 23 #[.pointer (some ⟨b, 0, none⟩), r.v, .agg #[.int .u8 (x.kind : Int), .slice x.A x.len x.cap, .int .i64 x.n, .bool x.done]] wx fun e w' => ∃ r', e = .returned (.tuple #[.agg (rcells r'), .bool true]) ∧ RefOf (doStep d x).1 r' ∧ Leaves F b (doStep d x).1 wx w' := by
  have h1 := h.log
  have h2 := h.op
  exact do_walk x h.disk h.ref ha.src ha.zl ha.bare ha.cap ha.cap63 ha.kind ha.n0 ha.n1 (fun j hj => ⟨Nat.lt_of_lt_of_le (hS j hj) h.ours.only.size, fun hF => by have := hS j hj; have := h.ours.new j hF; omega⟩) (by omega) (by omega) (by omega)

set_option maxHeartbeats 8000000 in
set_option maxRecDepth 100000 in
theorem plays_walk (cp : Int) (A : Option Addr) (n c : Nat) (xs : List Ac) (w : World) (S : Nat → Prop) (hcp : cp ≤ 9223372036854775807) (hn : n ≤ 9223372036854775807) (hx : ActsAt w S A xs) (hl : xs.length = n) (hS : ∀ j, S j → j < w.heap.size) :
    Calls Try.prog 7 #[.int .i64 cp, .slice A n c] w fun e w' => e = .returned (.bool true) ∧ Below w.heap.size w w' := by
  cases hf : fewB xs with
  | false =>
    have HN := Lib.hid (few_no A n c xs w S hx hl hn hf)
    clear hx hl hS hf
    go_enter Try.func7, Try.ntmps7
    go_wp2_with (first | (go_at_call 20; refine HN.out.mono ?_; rintro e w' ⟨rfl, rfl⟩) | (go_at_call 14; refine (awake_any _).mono ?_; rintro e w' ⟨rfl, ho⟩))
    go_ret
    exact ⟨rfl, ho.below (Nat.le_refl _) (fun _ h => h.elim)⟩
  | true =>
    have HN := Lib.hid (few_yes A n c xs w S hx hl hf)
    have hn100 : n ≤ 100 := by simp only [fewB, Bool.and_eq_true, decide_eq_true_eq] at hf; omega
    have hsum : sumB xs ≤ 10000 := by simp only [fewB, Bool.and_eq_true, decide_eq_true_eq] at hf; omega
    have HX := Lib.hid hx
    have HL := Lib.hid hl
    have HS := Lib.hid hS
    have HSUM := Lib.hid hsum
    clear hx hl hS hf hsum
    go_enter Try.func7, Try.ntmps7
    go_wp2_with (first | (go_at_call 20; refine HN.out.mono ?_; rintro e w' ⟨rfl, rfl⟩) | (go_at_call 9; refine (disk_new cp hcp _).mono ?_; rintro e w1 ⟨rfl, hD1, ho1, hz1⟩; have HD1 := Lib.hid hD1; have HO1 := Lib.hid (show Ours w (fun j => j = w.heap.size) w1 from ⟨ho1, fun j hj => by omega⟩); have HZ1 := Lib.hid hz1; clear hD1 ho1 hz1) | (go_at_call 21; refine (rnew_at cp _).mono ?_; rintro e w2 ⟨rfl, ho2⟩; have HO2 := Lib.hid ho2; clear ho2) |
      (refine wpList_store_whole rfl rfl 48 (.tmp 6) (.tmp 16) rfl w2.heap.size rfl (rcells { s := ⟨#[]⟩, l := ⟨#[]⟩, sf := 0, cp := max 0 cp, op := 0, dw := false, td := false, af := 0, dn := false }) rfl 48 _ (Hld.new _ _ _) rfl (by simp [Value.oneCell', rcells]) (by kernel_rfl) ?_; intro w3 gb ho3 _; have HO3 := Lib.hid ho3; have GB := Lib.hid gb; obtain ⟨⟨x0, x1, x2, x3, x4, x5, x6, x7, x8⟩, xf⟩ := box_cells gb (Only.refl _ _); clear gb ho3 xf))
    have PA := Lib.hid (play_start HD1.out HO1.out HZ1.out HO2.out HO3.out GB.out)
    have hnew := Lib.hid PA.out.new
    refine (same_walk PA.out.disk PA.out.ref).mono ?_
    rintro e w4 ⟨rfl, ho4⟩
    have PB := Lib.hid (PA.out.quiet ho4)
    clear PA GB HO3 x0 x1 x2 x3 x4 x5 x6 x7 x8 ho4
    go_wp2_with fail
    go_loopg [7, 8] n (fun g s7 s8 wx => ∃ (k : Nat) (d : Dk) (r : Rk) (F : Nat → Prop), k ≤ n ∧ g = n - k ∧ s7 = .bool true ∧ s8 = .int .i64 (k : Int) ∧ Hid (PlayAt F w wx w.heap.size w2.heap.size d r k))
    case atStart => exact ⟨0, _, _, _, by omega, by omega, rfl, rfl, PB⟩
    case round =>
      obtain ⟨k, d, r, F, hk, hg, rfl, rfl, PK⟩ := hrel
      by_cases hlt : k < n
      · obtain ⟨x, hx⟩ : ∃ x, xs[k]? = some x := ⟨_, List.getElem?_eq_getElem (by have := HL.out; omega)⟩
        have hxl := act_len HSUM.out hx
        obtain ⟨ab, ao, hA, hc⟩ := (HX.out.only PK.out.ours.only (fun _ _ h => h)) (by have := HL.out; omega)
        have ha := hc k x hx
        have a0 := ha.c0
        have a1 := ha.c1
        have a2 := ha.c2
        have a3 := ha.c3
        have HAC := Lib.hid ha
        obtain ⟨⟨x0, x1, x2, x3, x4, x5, x6, x7, x8⟩, xf⟩ := box_cells PK.out.box (Only.refl _ _)
        have HG := Lib.hid hg
        subst hA
        clear hx hc ha xf hg
        go_wp2_with fail
        go_region_with (go_at_call 23; refine (do_at PK.out.drew (by omega) (HAC.out.only ((Only.refl Noth _).drew) (fun _ _ h => h)) hxl HS.out).mono ?_; rintro e w5 ⟨r', rfl, hR, hL⟩; have RR := Lib.hid hR; have LL := Lib.hid hL; obtain ⟨w6, hst, gb, ho6⟩ := run_store_box (P := Try.prog) (PK.out.drew.box.only hL.2 (fun h => PK.out.apart _ h rfl)) (rcells_size r' r) (rcells_one r'); have PS := Lib.hid (play_step PK.out.drew (by have := HAC.out.zl; omega) hR hL gb ho6); clear hR hL gb ho6)
        all_goals
          clear x0 x1 x2 x3 x4 x5 x6 x7 x8 a0 a1 a2 a3 hst
          obtain ⟨⟨y0, y1, y2, y3, y4, y5, y6, y7, y8⟩, yf⟩ := box_cells PS.out.box (Only.refl _ _)
          clear yf
          go_wp2_with fail
          refine (same_walk PS.out.disk PS.out.ref).mono ?_
          rintro e w7 ⟨rfl, ho7⟩
          have PT := Lib.hid (PS.out.quiet ho7)
          clear ho7 y0 y1 y2 y3 y4 y5 y6 y7 y8
          go_wp2_with fail
          go_roundg (n - (k + 1))
          case measure => have := HG.out; omega
          case rel => exact ⟨k + 1, _, _, _, by omega, rfl, rfl, by go_num, PT⟩
      · obtain rfl : k = n := by omega
        clear hg
        go_wp2_with (go_at_call 14; refine (awake_any _).mono ?_; rintro e w' ⟨rfl, ho⟩)
        go_ret
        exact ⟨rfl, (PK.out.ours.only.trans ho (fun _ h _ => h)).below (Nat.le_refl _) (fun _ h => h.elim)⟩
end Go.Proofs.Ytibeblibminjfaa
