/- Package crdt: Delta. -/
import Derived.Test.YtdclkbhkboaafaaCmOps
namespace Go.Proofs.Ytdclkbhkboaafaa
open Go.RowKit Go.Lib Go.Sort
set_option linter.unusedVariables false
set_option linter.unusedSimpArgs false
set_option maxRecDepth 100000
attribute [local go_sem ↓] Go.wp_at_zero Go.wp_at_succ

/-- The best entry of each key, whatever it is. -/
def dstep (L : List Ent) (e : Ent) : List Ent := match cget e.kb L with
  | some old => if e.above old then cput e L else L
  | none => cput e L
def dbest (l : List Ent) : List Ent := l.foldl dstep []
theorem dbest_snoc (l : List Ent) (e : Ent) : dbest (l ++ [e]) = dstep (dbest l) e := by unfold dbest; rw [List.foldl_append]; rfl
theorem dstep_srt {L : List Ent} {e : Ent} (h : Srt L) : Srt (dstep L e) := by
  unfold dstep
  split
  · split
    · exact cput_srt h
    · exact h
  · exact cput_srt h
theorem dstep_len {L : List Ent} {e : Ent} (h : Srt L) : (dstep L e).length ≤ L.length + 1 := by
  have := cput_len (e := e) h
  unfold dstep
  split
  · split
    · rw [this]; split <;> omega
    · omega
  · rw [this]; split <;> omega
theorem dbest_ok (l : List Ent) : ∀ k, Srt (dbest (l.take k)) ∧ (dbest (l.take k)).length ≤ k := by
  intro k
  induction k with
  | zero => simp [dbest, Srt]
  | succ k ih =>
    rw [List.take_add_one]
    cases hk : l[k]? with
    | none => simp only [Option.toList_none, List.append_nil]; exact ⟨ih.1, by omega⟩
    | some x =>
      rw [Option.toList_some, dbest_snoc]
      exact ⟨dstep_srt ih.1, by have := dstep_len (e := x) ih.1; omega⟩
/-- Do others lack it? -/
def lacks (L : List Ent) (x : Ent) : Bool := match cget x.kb L with
  | none => true
  | some old => x.above old
theorem lacks_none {L : List Ent} {x : Ent} (h : (cget x.kb L).isSome = false) : lacks L x = true := by
  unfold lacks
  cases hg : cget x.kb L with
  | none => rfl
  | some y => rw [hg] at h; cases h
theorem lacks_some {L : List Ent} {x : Ent} (h : (cget x.kb L).isSome = true) : lacks L x = x.above (look x.key L) ∧ dstep L x = if x.above (look x.key L) then cput x L else L := by
  unfold lacks dstep look
  cases hg : cget x.kb L with
  | none => rw [hg] at h; cases h
  | some y =>
    have hg' : cget x.key.data.toList L = some y := hg
    rw [hg']
    exact ⟨rfl, rfl⟩
theorem dstep_none {L : List Ent} {x : Ent} (h : (cget x.kb L).isSome = false) : dstep L x = cput x L := by
  unfold dstep
  cases hg : cget x.kb L with
  | none => rfl
  | some y => rw [hg] at h; cases h
set_option maxHeartbeats 1000000 in
theorem delta_cl (w : World) (x : Ent) (cb b2 : Nat) (L2 : List Ent) (hk : x.key.size ≤ 9223372036854775807) (h : Hld w cb 60 #[.map (some b2)]) (hm : MapIs w b2 L2) :
    Calls Try.prog 45 (#[.agg x.arr] ++ #[.pointer (some ⟨cb, 0, none⟩)]) w fun r w' => r = .returned (.bool (lacks L2 x)) ∧ Only Noth w w' := by
  have a1 := (Only.refl Noth w).alloc (.cells x.arr 34)
  have c0 : (w.alloc (.cells x.arr 34)).cell? ⟨cb, 0, none⟩ = some (.map (some b2)) := (h.only a1 (fun h => h)).cell 0
  have hlk := look_ok_run (hm.only a1 (fun h => h)) x.key hk
  have ON := Lib.hid a1
  obtain ⟨old, hold⟩ : ∃ old, look x.key L2 = old := ⟨_, rfl⟩
  obtain ⟨is, his⟩ : ∃ is, (cget x.key.data.toList L2).isSome = is := ⟨_, rfl⟩
  rw [hold, his] at hlk
  have HOLD := Lib.hid hold
  have HIS := Lib.hid his
  clear h hm a1 hold his
  rw [show (#[Value.agg x.arr] ++ #[.pointer (some ⟨cb, 0, none⟩)]) = #[Value.agg x.arr, .pointer (some ⟨cb, 0, none⟩)] from rfl]
  cases is
  · have HL := Lib.hid (lacks_none (L := L2) (x := x) HIS.out)
    go_enter Try.func45, Try.ntmps45
    go_wp2
    go_ret
    exact ⟨ret_bool (by rw [HL.out]), ON.out.alloc _⟩
  · have HL := Lib.hid (lacks_some (L := L2) (x := x) HIS.out).1
    go_enter Try.func45, Try.ntmps45
    go_wp2_with fail
    refine (entry_above x old _).mono ?_
    rintro e w1 ⟨rfl, ho⟩
    have HO := Lib.hid ((ON.out.alloc (.cells old.arr 34)).tr ho)
    clear ho hlk c0
    go_wp2
    go_ret
    exact ⟨ret_bool (by rw [HL.out, HOLD.out]), HO.out⟩
set_option maxHeartbeats 4000000 in
theorem cm_delta (g b : Nat) (L l : List Ent) (A : Option Addr) (c : Nat) (hs : ∀ e ∈ l, e.key.size ≤ 9223372036854775807) (w : World) (h : CmAt w g b L) (he : Ents w (.slice A l.length c) l) :
    Calls Try.prog 24 #[.pointer (some ⟨g, 0, none⟩), .slice A l.length c] w fun e w' => WhichAns w (L.filter (lacks (dbest l))) e w' ∧ Only Noth w w' := by
  have M := Lib.hid h
  have E := Lib.hid he
  have HS := Lib.hid hs
  have hl : l.length ≤ 9223372036854775807 := by obtain ⟨_, _, _, _, h1, h2⟩ := he; omega
  have hl2 : l.length * 56 ≤ 18446744073709551615 * 56 := by omega
  have hn0 : (0 : Int) ≤ l.length := by omega
  have hmm := @run_makeMap Try.prog
  have a1 := (Only.refl Noth w).alloc (.map #[] 0)
  have a2 := (Only.refl Noth (w.alloc (.map #[] 0))).alloc (.cells #[.map (some w.heap.size)] 60)
  have b1 := Hld.new (w.alloc (.map #[] 0)) 60 #[.map (some w.heap.size)]
  simp only [World.size_alloc] at b1
  have B0 := Lib.hid b1
  have MI := Lib.hid ((made_is w).only a2 (fun h => h))
  have O0 := Lib.hid (a1.tr a2)
  clear h he hs a1 a2 b1
  go_enter Try.func24, Try.ntmps24
  go_wp2_with fail
  clear hmm
  go_loopw [13] (fun i W => ∃ k : Nat, k ≤ l.length ∧ i = .int .i64 (k : Int) ∧ Hld W (w.heap.size + 1) 60 #[.map (some w.heap.size)] ∧ MapIs W w.heap.size (dbest (l.take k)) ∧ Only Noth w W) (fun i _ => l.length - (RowKit.intOf i).toNat)
  case atStart => exact ⟨0, Nat.zero_le _, rfl, B0.out, MI.out, O0.out⟩
  case round =>
    obtain ⟨k, hk, rfl, hb, hm, ho⟩ := hrel
    have BX := Lib.hid hb
    have MX := Lib.hid hm
    have ON := Lib.hid ho
    clear hb hm ho B0 MI O0
    by_cases hlt : k < l.length
    · obtain ⟨x, hx⟩ : ∃ x, l[k]? = some x := ⟨_, List.getElem?_eq_getElem hlt⟩
      have HX := Lib.hid hx
      have hxs := HS.out x (List.mem_of_getElem? hx)
      obtain ⟨A', c', q0, hel, _, _⟩ := E.out.noth ON.out
      injection q0 with q1 q2 q3
      subst q1 q3
      clear q2
      obtain ⟨bb, o, hA, _, hbl, e0, e1, e2, e3, e4⟩ := hel.ent hx
      subst hA
      have hb0 : (0 : Int) ≤ k := by omega
      have hb1 : (k : Int) < l.length := by omega
      have a1 := (Only.refl Noth wr).alloc (.cells x.arr 34)
      have c0 : (wr.alloc (.cells x.arr 34)).cell? ⟨w.heap.size + 1, 0, none⟩ = some (.map (some w.heap.size)) := (BX.out.only a1 (fun h => h)).cell 0
      have hlk := look_ok_run (MX.out.only a1 (fun h => h)) x.key hxs
      have A1 := Lib.hid a1
      obtain ⟨LL, hLL⟩ : ∃ LL, dbest (l.take k) = LL := ⟨_, rfl⟩
      have HLL := Lib.hid hLL
      rw [hLL] at hlk MX
      have hLn : LL.length < 9223372036854775807 := by have := (dbest_ok l k).2; rw [hLL] at this; omega
      have SN := Lib.hid (show dbest (l.take (k + 1)) = dstep LL x by rw [List.take_add_one, HX.out, Option.toList_some, dbest_snoc, hLL])
      obtain ⟨old, hold⟩ : ∃ old, look x.key LL = old := ⟨_, rfl⟩
      obtain ⟨is, his⟩ : ∃ is, (cget x.key.data.toList LL).isSome = is := ⟨_, rfl⟩
      rw [hold, his] at hlk
      have HOLD := Lib.hid hold
      have HIS := Lib.hid his
      clear hx hel a1 hLL hold his
      cases is
      · have DN := Lib.hid (dstep_none (L := LL) (x := x) HIS.out)
        have A2 := Lib.hid (A1.out.alloc (.cells old.arr 34))
        have c1 : ((wr.alloc (.cells x.arr 34)).alloc (.cells old.arr 34)).cell? ⟨w.heap.size + 1, 0, none⟩ = some (.map (some w.heap.size)) := (BX.out.only A2.out (fun h => h)).cell 0
        go_wp2_with (at_mapUpdate; refine wpList_put_map _ rfl _ _ _ rfl w.heap.size LL x rfl rfl rfl (MX.out.only A2.out (fun h => h)) hxs hLn ?_; intro w9 hm9 ho9; have M9 := Lib.hid hm9; have O9 := Lib.hid ho9; clear hm9 ho9)
        go_roundw
        case rel => exact ⟨k + 1, by omega, by go_num, (BX.out.only A2.out (fun h => h)).only O9.out (fun e => by have e : w.heap.size + 1 = w.heap.size := e; omega), by rw [SN.out, DN.out]; exact M9.out, (ON.out.tr A2.out).trans O9.out (fun j hj hl => by have hj : j = w.heap.size := hj; omega)⟩
        case measure => simp [RowKit.intOf]; omega
      · have DN := Lib.hid (lacks_some (L := LL) (x := x) HIS.out).2
        go_wp2_with fail
        refine (entry_above x old _).mono ?_
        rintro e w6 ⟨rfl, ho6⟩
        have A2 := Lib.hid ((A1.out.alloc (.cells old.arr 34)).tr ho6)
        have XB := Lib.hid (((Hld.new wr 34 x.arr).only ((Only.refl Noth (wr.alloc (.cells x.arr 34))).alloc (.cells old.arr 34)) (fun h => h)).only ho6 (fun h => h))
        clear ho6 c0 hlk
        cases ha : x.above old
        · go_wp2_with fail
          go_roundw
          case rel => exact ⟨k + 1, by omega, by go_num, BX.out.only A2.out (fun h => h), by rw [SN.out, DN.out, HOLD.out, ha]; exact MX.out.only A2.out (fun h => h), ON.out.tr A2.out⟩
          case measure => simp [RowKit.intOf]; omega
        · have c1 : w6.cell? ⟨w.heap.size + 1, 0, none⟩ = some (.map (some w.heap.size)) := (BX.out.only A2.out (fun h => h)).cell 0
          obtain ⟨x0, x1, x2, x3, x4⟩ := XB.out.five
          go_wp2_with (at_mapUpdate; refine wpList_put_map _ rfl _ _ _ rfl w.heap.size LL x rfl rfl rfl (MX.out.only A2.out (fun h => h)) hxs hLn ?_; intro w9 hm9 ho9; have M9 := Lib.hid hm9; have O9 := Lib.hid ho9; clear hm9 ho9)
          go_roundw
          case rel => exact ⟨k + 1, by omega, by go_num, (BX.out.only A2.out (fun h => h)).only O9.out (fun e => by have e : w.heap.size + 1 = w.heap.size := e; omega), by rw [SN.out, DN.out, HOLD.out, ha]; exact M9.out, (ON.out.tr A2.out).trans O9.out (fun j hj hl => by have hj : j = w.heap.size := hj; omega)⟩
          case measure => simp [RowKit.intOf]; omega
    · obtain rfl : k = l.length := by omega
      rw [List.take_of_length_le (Nat.le_refl _)] at MX
      go_wp2_with fail
      refine (cm_which g b L (lacks (dbest l)) 45 #[.pointer (some ⟨w.heap.size + 1, 0, none⟩)] _ (fun args w => by rfl) (M.out.noth ON.out) (fun W x ho hx => delta_cl W x (w.heap.size + 1) w.heap.size (dbest l) (by have := (ent_small (M.out.ok x hx)).1; omega) (BX.out.only ho (fun h => h)) (MX.out.only ho (fun h => h)))).mono ?_
      rintro e w1 ⟨⟨A, c, rfl, hr⟩, ho⟩
      have HR := Lib.hid (hr.mono (G := New w) (fun k hk _ => by have := ON.out.size; unfold New at hk ⊢; omega))
      have HO := Lib.hid (ON.out.tr ho)
      clear hr ho
      go_wp2
      go_ret
      exact ⟨⟨A, c, rfl, HR.out⟩, HO.out⟩
end Go.Proofs.Ytdclkbhkboaafaa
