/- Package alert: Drop, Fork. -/
import Derived.Test.YtokgignmdgejoaaDoorAlI
import Derived.Lib.SlMapFilter
import Derived.Shelf.SlMaps.Clone
namespace Go.Proofs.YtokgignmdgejoaaDoor
open Go.RowKit Go.Lib Go.Sort
set_option linter.unusedVariables false
set_option linter.unusedSimpArgs false
set_option maxRecDepth 100000
attribute [local go_sem ↓] Go.wp_at_zero Go.wp_at_succ

/-- What Drop strikes, on data. -/
def gone (now : Int) : Lit → DataW Unit → Bool := fun _ d => match d with
  | .agg [_, _, _, _, .lit (.int _ t)] => decide (t < now)
  | .agg [_, _, .lit (.int _ t)] => decide (t < now)
  | _ => false
theorem gone_ent (now : Int) (k : Lit) (e : Al) : gone now k (entD e) = decide (e.en < now) := rfl
theorem gone_map (now : Int) (L : List Al) : Lib.deleteFuncD (gone now) (mapD L) = mapD (L.filter fun x => !decide (x.en < now)) := by
  unfold Lib.deleteFuncD mapD
  simp only [DataW.map.injEq]
  rw [List.filter_map]
  congr 1
theorem drop_cl (w : World) (k : ByteArray) (A : Option Addr) (n c : Nat) (st t : Int) (nb : Nat) (now : Int) (h : Hld w nb 3 #[.int .i64 now]) : Calls Tryd.prog 38 (#[.string k, .agg #[.slice A n c, .int .i64 st, .int .i64 t]] ++ #[.pointer (some ⟨nb, 0, none⟩)]) w fun r w' => r = .returned (.bool (decide (t < now))) ∧ Only Noth w w' := by
  have o0 := (Only.refl Noth w).alloc (.cells #[.slice A n c, .int .i64 st, .int .i64 t] 27)
  have c0 := (h.only o0 (fun h => h)).cell 0
  have O := Lib.hid o0
  clear o0 h
  rw [show (#[Value.string k, .agg #[.slice A n c, .int .i64 st, .int .i64 t]] ++ #[.pointer (some ⟨nb, 0, none⟩)]) = #[Value.string k, .agg #[.slice A n c, .int .i64 st, .int .i64 t], .pointer (some ⟨nb, 0, none⟩)] from rfl]
  go_enter Tryd.func38, Tryd.ntmps38
  go_wp2
  go_ret
  exact ⟨rfl, O.out⟩
theorem raw_arr {yv : Array Value} {yd : DataW Unit} {yp : List MemPlace} (h : entElem (.agg yv) = some (yd, yp)) (now : Int) (kl : Lit) : ∃ A n c st t, yv = #[.slice A n c, .int .i64 st, .int .i64 t] ∧ gone now kl yd = decide (t < now) := by
  rcases entElem_inv h with ⟨e, he, hz⟩ | ⟨he, hz⟩
  · injection he with he
    injection hz with hz _
    exact ⟨_, _, _, _, _, he, by rw [hz, gone_ent]⟩
  · injection he with he
    injection hz with hz _
    exact ⟨_, _, _, _, _, he, by rw [hz]; rfl⟩
/-- At the head of DeleteFunc's loop. -/
def DfAt (now : Int) (w wr : World) (b : Nat) (L : List Al) : Prop := ∃ (left : Lit → Bool) (cnt : Nat), wr.ranges Tryd.prog 9 entElem b w.heap.size L.length (Maps.Fk (gone now) (L.map centry) left) left cnt ∧ Only (fun k => k = b) w wr
set_option maxHeartbeats 4000000 in
theorem df_run (b nb : Nat) (L : List Al) (now : Int) (w : World) (hm : MapIs w b L) (hnow : Hld w nb 3 #[.int .i64 now]) (hne : nb ≠ b) :
    Calls Tryd.prog 37 #[.map (some b), .func (.func 38) #[] #[.pointer (some ⟨nb, 0, none⟩)]] w fun r w' => r = .returned (.tuple #[]) ∧ MapIs w' b (L.filter fun x => !decide (x.en < now)) ∧ Only (fun k => k = b) w w' := by
  obtain ⟨es0, he0, hap, hkeys⟩ := World.ownsMap.entries hm law
  obtain rfl : L.map centry = es0 := by unfold mapD at he0; injection he0
  clear he0
  have M := Lib.hid hm
  have HN := Lib.hid hnow
  have HAP := Lib.hid hap
  have HK := Lib.hid hkeys
  have hbl := hm.lt
  have NB := Lib.hid (Nat.ne_of_lt hbl)
  have NE := Lib.hid hne
  clear hm hnow hap hkeys hbl hne
  go_enter Tryd.func37, Tryd.ntmps37
  go_wp2_with (at_range; refine wpList_range_own _ rfl _ 59 rfl 9 27 law Tryd.underlying59 entElem b L.length (mapD L) rfl M.out ?_; intro w0 hrg0 hg0 hs0)
  have HR0 := Lib.hid hrg0
  have O0 := Lib.hid (only_grown0 hg0)
  clear hrg0 hg0 hs0
  go_frame
  go_loopw [8] (fun _ wr => DfAt now w wr b L) (fun _ wr => wr.rangeLeft b w.heap.size)
  case atStart =>
    refine ⟨Maps.has (mapD L), Maps.size (mapD L), ?_, O0.out.mono (fun j hj _ => hj.elim)⟩
    have h1 := HR0.out
    unfold mapD at h1 ⊢
    rw [Maps.Fk_start HK.out]
    exact h1
  case round =>
    obtain ⟨left, cnt, hrg, ho⟩ := hrel
    have hrgl := Lib.hid hrg.left_eq
    have RG := Lib.hid hrg
    have OW := Lib.hid ho
    clear hrg ho HR0 O0
    go_wp2_with (at_next; refine wpList_next_ranges _ rfl _ rfl 9 law entElem encStr (fun c : Array Value => .agg c) inv_key inv_ent b w.heap.size L.length _ left cnt rfl RG.out ?_ ?_)
    · intro _ hl0
      have HL0 := Lib.hid hl0
      clear hl0
      go_wp2
      go_end0
      refine ⟨rfl, owns_tight (n := L.length) ?_, OW.out⟩
      have h1 := RG.out.owns
      rw [Maps.Fk_end HL0.out] at h1
      have h2 := gone_map now L
      unfold mapD at h2 ⊢
      rw [← h2]
      exact h1
    · intro x yv kl yd yp w1 cnt1 hkey hlx hv hat hrg1 hlt hg1 hs1 hen
      obtain ⟨Ay, ny, cy, sy, ty, hyv, hgo⟩ := raw_arr hv now kl
      subst hyv
      have HGO := Lib.hid hgo
      clear hgo
      have h1 := only_grown hg1
      have OW1 := Lib.hid (OW.out.trans h1 (fun j hj hl => by have hj : j = w.heap.size := hj; omega))
      have RG1 := Lib.hid hrg1
      have HKEY := Lib.hid hkey
      have HLX := Lib.hid hlx
      have HAT := Lib.hid hat
      have hKL := Lib.hid (Maps.Keyed.key law hkey)
      have HN1 := Lib.hid (HN.out.only OW1.out (fun e => NE.out e))
      clear hg1 hs1 h1 hrg1 hkey hlx hv hat RG
      go_wp2_with fail
      refine (drop_cl _ _ Ay ny cy sy ty nb now (HN1.out.only ((Only.refl Noth w1).alloc (.cells #[.slice Ay ny cy, .int .i64 sy, .int .i64 ty] 27)) (fun h => h))).mono ?_
      rintro r w2 ⟨rfl, ho⟩
      have h2 := ((Only.refl Noth w1).alloc (.cells #[.slice Ay ny cy, .int .i64 sy, .int .i64 ty] 27)).tr ho
      have OW2 := Lib.hid (OW1.out.trans h2 (fun j hj hl => hj.elim))
      have RG2 := Lib.hid (ranges_only RG1.out h2 (fun h => h) (fun h => h))
      clear ho h2 hen RG1
      obtain ⟨pv, hpv⟩ : ∃ pv, decide (ty < now) = pv := ⟨_, rfl⟩
      rw [hpv]
      have HPV := Lib.hid (show gone now kl yd = pv by rw [HGO.out, hpv])
      clear hpv
      cases pv
      · go_wp2_with fail
        go_roundw
        case rel =>
          refine ⟨fun z => left z && !z.sameKey kl, cnt1, ?_, OW2.out⟩
          rw [← Maps.Fk_stays HAP.out hKL.out HLX.out HPV.out HAT.out]
          exact RG2.out
        case measure => rw [RG2.out.left_eq, hrgl.out]; exact hlt
      · go_wp2_with (at_delete; refine wpList_delete_ranges _ rfl _ _ 59 9 rfl 27 law Tryd.underlying59 entElem b w.heap.size L.length _ _ _ rfl RG2.out _ _ rfl HKEY.out ?_; intro w3 cnt3 hrg3 hle hturn; have HR3 := Lib.hid hrg3; have HT3 := Lib.hid hturn.grown; clear hrg3 hturn; go_frame)
        go_roundw
        case rel =>
          have h3 := HR3.out
          rw [Maps.strike_twice] at h3
          refine ⟨fun z => left z && !z.sameKey kl, cnt3, ?_, OW2.out.trans (only_grown HT3.out) (fun j hj hl => hj)⟩
          rw [← Maps.Fk_struck HAP.out hKL.out HLX.out HPV.out HAT.out]
          exact h3
        case measure => rw [HR3.out.left_eq, hrgl.out]; omega
set_option maxHeartbeats 2000000 in
theorem clone_run (b : Nat) (L : List Al) (w : World) (hm : MapIs w b L) :
    Calls Tryd.prog 42 #[.map (some b)] w fun r w' => r = .returned (.map (some w.heap.size)) ∧ MapIs w' w.heap.size L ∧ Only Noth w w' := by
  have hq := fun w => run_eql_map_nil_sl (P := Tryd.prog) w 59 _ _ (some b) Tryd.underlying59
  obtain ⟨es, clock, hb, h1, h2, h3⟩ := hm
  have H := Lib.hid (And.intro hb (And.intro h1 (And.intro h2 h3)))
  clear h1 h2 h3
  go_enter Tryd.func42, Tryd.ntmps42
  go_wp2
  rw [run_callFunc_extern Tryd.func53 (by kernel_rfl) (by kernel_rfl) (by kernel_rfl) (e := Extern.MapsClone.clone) (by kernel_rfl), run_maps_clone_sl w 59 hb]
  simp only [Result.andThen]
  rw [Oper.upon_value]
  go_wp2
  rw [run_typeAssert_map_sl _ 59 _ _ _ _ Tryd.underlying59]
  simp only [Result.andThen]
  rw [Oper.upon_value]
  go_wp2
  go_ret
  exact ⟨rfl, ⟨es, clock, heap_alloc_new w _, H.out.2⟩, (Only.refl Noth w).alloc _⟩
theorem AlAt.filter {w w0 : World} {g b : Nat} {L : List Al} (p : Al → Bool) (h : AlAt w0 g b L) (ho : Only (fun k => k = b) w0 w) (h2 : MapIs w b (L.filter p)) : AlAt w g b (L.filter p) :=
  ⟨h.box.only ho h.ne, h2, filter_srt p h.srt, Nat.le_trans (List.length_filter_le p L) h.len, fun e he => by
    obtain ⟨k1, k2, k3⟩ := h.labs e (List.mem_filter.1 he).1
    exact ⟨k1.only ho (fun j hj e2 => by have hj : j = e.blk := hj; have e2 : j = b := e2; exact k3 (hj.symm.trans e2)), k2, k3⟩, fun e he => h.ok e (List.mem_filter.1 he).1⟩
set_option maxHeartbeats 2000000 in
theorem drop_run (g b : Nat) (L : List Al) (now : Int) (w : World) (h : AlAt w g b L) :
    Calls Tryd.prog 18 #[.pointer (some ⟨g, 0, none⟩), .int .i64 now] w fun r w' => r = .returned (.int .i64 ((L.length : Int) - ((L.filter fun x => !decide (x.en < now)).length : Nat))) ∧ AlAt w' g b (L.filter fun x => !decide (x.en < now)) ∧ Only (fun k => k = b) w w' := by
  have a1 := (Only.refl Noth w).alloc (.cells #[.int .i64 now] 3)
  have M := Lib.hid (h.noth a1)
  have B := Lib.hid (Hld.new w 3 #[.int .i64 now])
  have O := Lib.hid a1
  have hlen := h.len
  have NE := Lib.hid (show w.heap.size ≠ b from fun e => by have := h.own.lt; omega)
  clear h a1
  go_enter Tryd.func18, Tryd.ntmps18
  go_wp2_with fail
  refine (len_al g b L _ M.out).mono ?_
  rintro r w1 ⟨rfl, ho⟩
  have M1 := Lib.hid (M.out.noth ho)
  have B1 := Lib.hid (B.out.only ho (fun h => h))
  have O1 := Lib.hid (O.out.tr ho)
  have c0 : w1.cell? ⟨g, 0, none⟩ = some (.map (some b)) := (M.out.noth ho).box.cell 0
  clear ho
  go_wp2_with fail
  refine (df_run b w.heap.size L now w1 M1.out.own B1.out NE.out).mono ?_
  rintro r w2 ⟨rfl, hm, ho⟩
  have M2 := Lib.hid (M1.out.filter (fun x => !decide (x.en < now)) ho hm)
  have O2 := Lib.hid ((O1.out.mono (G := fun k => k = b) (fun j hj _ => hj.elim)).trans ho (fun j hj _ => hj))
  clear hm ho c0
  go_wp2_with fail
  refine (len_al g b _ _ M2.out).mono ?_
  rintro r w3 ⟨rfl, ho⟩
  have M3 := Lib.hid (M2.out.noth ho)
  have O3 := Lib.hid (O2.out.trans ho (fun j hj _ => hj.elim))
  have hfl := List.length_filter_le (fun x => !decide (x.en < now)) L
  obtain ⟨N, hN⟩ : ∃ N, L.filter (fun x => !decide (x.en < now)) = N := ⟨_, rfl⟩
  rw [hN] at hfl M3 ⊢
  have HN := Lib.hid hN
  clear ho hN
  go_wp2
  go_ret
  rw [HN.out]
  exact ⟨rfl, M3.out, O3.out⟩
set_option maxHeartbeats 2000000 in
theorem fork_al (g b : Nat) (L : List Al) (w : World) (h : AlAt w g b L) :
    Calls Tryd.prog 23 #[.pointer (some ⟨g, 0, none⟩)] w fun r w' => (∃ g2 b2, r = .returned (.pointer (some ⟨g2, 0, none⟩)) ∧ AlAt w' g2 b2 L ∧ w.heap.size ≤ g2 ∧ w.heap.size ≤ b2) ∧ Only Noth w w' := by
  have M := Lib.hid h
  have c0 : w.cell? ⟨g, 0, none⟩ = some (.map (some b)) := h.box.cell 0
  have HLB := Lib.hid (show ∀ e ∈ L, e.blk < w.heap.size from fun e he => by
    obtain ⟨k1, _⟩ := h.labs e he
    obtain ⟨bb, oo, hA, hS, hlt, _⟩ := k1.mem (by have := (h.ok e he).2.1; omega)
    have hS : bb = e.blk := hS
    omega)
  clear h
  go_enter Tryd.func23, Tryd.ntmps23
  go_wp2_with fail
  refine (clone_run b L w M.out.own).mono ?_
  rintro r w1 ⟨rfl, hm, ho⟩
  have HM := Lib.hid hm
  have HO := Lib.hid ho
  clear hm ho
  go_wp2
  go_ret
  have hs := HO.out.size
  exact ⟨⟨_, w.heap.size, rfl, ⟨Hld.new _ _ _, HM.out.only ((Only.refl Noth w1).alloc _) (fun h => h), M.out.srt, M.out.len, fun e he => ⟨((M.out.labs e he).1.noth HO.out).noth ((Only.refl Noth w1).alloc _), fun h => by have := HLB.out e he; omega, fun h => by have := HLB.out e he; omega⟩, M.out.ok⟩, by omega, Nat.le_refl _⟩, HO.out.alloc _⟩
end Go.Proofs.YtokgignmdgejoaaDoor
