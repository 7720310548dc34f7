/- Package alert: which. -/
import Derived.Test.YtokgignmdgejoaaDoorAlB
namespace Go.Proofs.YtokgignmdgejoaaDoor
open Go.RowKit Go.Lib Go.Sort
set_option linter.unusedVariables false
set_option linter.unusedSimpArgs false
set_option maxRecDepth 100000
attribute [local go_sem ↓] Go.wp_at_zero Go.wp_at_succ

theorem alinfo : (Tryd.prog.info? 27).map (fun i => (i.zero, i.size, i.bytes)) = some (some (.agg #[.slice none 0 0, .int .i64 0, .int .i64 0]), 3, 40) := by kernel_rfl
theorem strinfo : (Tryd.prog.info? 9).map (fun i => (i.zero, i.size, i.bytes)) = some (some (.string ⟨#[]⟩), 1, 16) := by kernel_rfl
/-- An alert that is told: its labels in memory of its own. -/
def Told1 (w W : World) (A : Option Addr) (c : Nat) (m n : Al) : Prop := n.ls = m.ls ∧ n.st = m.st ∧ n.en = m.en ∧ w.heap.size ≤ n.blk ∧ ¬ OwnB A c n.blk ∧ n.blk < W.heap.size ∧ PsAt W (fun k => k = n.blk) (some ⟨n.blk, 0, none⟩) n.cap n.ls ∧ Wide W n.blk (n.ls.length * 2)
/-- What which hands back: alerts, in new memory. -/
def WhichAns (w : World) (M : List Al) (e : Ending) (w' : World) : Prop := ∃ A c, ∃ N : List Al, e = .returned (.slice A M.length c) ∧ N.length = M.length ∧ (∀ (i : Nat) (m n : Al), M[i]? = some m → N[i]? = some n → Told1 w w' A c m n) ∧ Row w' (New w) 27 3 (.slice A M.length c) M.length (N.map fun e => e.arr.toList).flatten ∧ (N.map Al.blk).Pairwise (· < ·)
/-- At the head of the loop over the keys. -/
def WRO (w : World) (M : List Al) (KB : Nat → Prop) (v i : Value) (wr : World) : Prop :=
  ∃ k : Nat, k ≤ M.length ∧ i = .int .i64 (k : Int) ∧ ∃ (B : Option Addr) (d : Nat) (N : List Al), v = .slice B k d ∧ N.length = k ∧ (∀ (i : Nat) (m n : Al), M[i]? = some m → N[i]? = some n → Told1 w wr B d m n) ∧ Row wr (fun j => w.heap.size < j ∧ ¬ KB j) 27 3 v k (N.map fun e => e.arr.toList).flatten ∧ (N.map Al.blk).Pairwise (· < ·)
set_option maxHeartbeats 8000000 in
theorem which_run (g b : Nat) (L : List Al) (p : Al → Bool) (fn : FuncId) (cb : Array Value) (w : World) (eg : ∀ args w, (callFunc fn args).run Tryd.prog w = .ok (.enter fn args) w) (h : AlAt w g b L)
    (hcl : ∀ W x, Only Noth w W → x ∈ L → Calls Tryd.prog fn (#[.agg x.arr] ++ cb) W fun r w' => r = .returned (.bool (p x)) ∧ Only Noth W w') :
    Calls Tryd.prog 32 #[.pointer (some ⟨g, 0, none⟩), .func (.func fn) #[] cb] w fun r w' => WhichAns w (L.filter p) r w' ∧ Only Noth w w' := by
  have M := Lib.hid h
  have HC := Lib.hid hcl
  have c0 : w.cell? ⟨g, 0, none⟩ = some (.map (some b)) := h.box.cell 0
  have hlen := h.len
  have hbl := h.own.lt
  have NB := Lib.hid (Nat.ne_of_lt hbl)
  obtain ⟨i0, hi, hz0, hz1, hz2⟩ := info_parts strinfo
  obtain ⟨i1, hj, hy0, hy1, hy2⟩ := info_parts alinfo
  clear h hcl hbl
  go_enter Tryd.func32, Tryd.ntmps32
  go_wp2_with (at_range; refine wpList_range_own _ rfl _ 59 rfl 9 27 law Tryd.underlying59 entElem b L.length (mapD L) rfl M.out.own ?_; intro w0 hrg0 hg0 hs0)
  have HR0 := Lib.hid hrg0
  have O0 := Lib.hid (only_grown0 hg0)
  clear hrg0 hg0 hs0
  go_frame
  go_loopw [5] (fun v wr => WR1 w b L p v wr) (fun _ wr => wr.rangeLeft b w.heap.size)
  case atStart =>
    refine ⟨_, _, [], HR0.out, ⟨none, 0, rfl⟩, Row.nil _ _ _ _, List.nodup_nil, fun k => ⟨fun h => absurd h (by simp), ?_⟩, O0.out, by rw [size_map]; simp⟩
    · rintro ⟨x, hx, _, rfl, hl⟩
      rw [has_map, (cget_iff M.out.srt).2 ⟨hx, rfl⟩] at hl
      cases hl
  case round =>
    obtain ⟨left, cnt, ss, hrg, ⟨A, c, rfl⟩, hrow, hnd, hm, ho, hcnt⟩ := hrel
    have hrgl := Lib.hid hrg.left_eq
    have RG := Lib.hid hrg
    have RW := Lib.hid hrow
    have ND := Lib.hid hnd
    have HM := Lib.hid hm
    have OW := Lib.hid ho
    clear hrg hrow hnd hm ho HR0 c0
    go_wp2_with (at_next; refine wpList_next_ranges _ rfl _ rfl 9 law entElem encStr (fun c : Array Value => .agg c) inv_key inv_ent b w.heap.size L.length _ left cnt rfl RG.out ?_ ?_)
    · intro _ hl0
      have HM2 := Lib.hid (show ∀ k, k ∈ ss ↔ ∃ e ∈ L, p e = true ∧ e.kb = k from fun k => by
        rw [HM.out k]
        exact ⟨fun ⟨x, a, b, c, _⟩ => ⟨x, a, b, c⟩, fun ⟨x, a, b, c⟩ => ⟨x, a, b, c, hl0 _⟩⟩)
      clear hl0
      go_wp2_with fail
      refine (sort_row A c ss _ _ RW.out (by omega)).mono ?_
      rintro r w2 ⟨rfl, hrow2, ho2⟩
      rw [sort_keys M.out.srt ND.out HM2.out] at hrow2
      have hl2 : ss.length = (L.filter p).length := by
        have := congrArg List.length (sort_keys M.out.srt ND.out HM2.out)
        rwa [List.length_mergeSort, List.length_map] at this
      obtain ⟨N, hN⟩ : ∃ N, L.filter p = N := ⟨_, rfl⟩
      have HN := Lib.hid hN
      have NL := Lib.hid (show ∀ x ∈ N, x ∈ L from fun x hx => by rw [← hN] at hx; exact (List.mem_filter.1 hx).1)
      have hnl : N.length ≤ 64 := by rw [← hN]; have := List.length_filter_le p L; omega
      rw [hN] at hrow2 hl2
      rw [hl2] at hrow2 ⊢
      have RK := Lib.hid hrow2.tight.1
      have OW2 := Lib.hid (OW.out.trans ho2 (fun j hj hl => by have := (RW.out.tight.2 j hj).1; omega))
      have OB := Lib.hid (show ∀ k, OwnB A c k → w.heap.size < k ∧ k < w2.heap.size from fun k hk => ⟨(hrow2.tight.2 k hk).1, by obtain ⟨_, cur, he⟩ := hrow2.tight.2 k hk; exact (Array.getElem?_eq_some_iff.1 he).1⟩)
      have hn0 : (0 : Int) ≤ N.length := by omega
      clear hrow2 ho2 hN hl2 hcnt RW RG HM ND HM2 OW
      go_wp2_with fail
      go_loopw [8, 34] (fun v i wr => WRO w N (OwnB A c) v i wr ∧ Row wr (OwnB A c) 9 1 (.slice A N.length c) N.length ((N.map Al.kb).map encStr) ∧ Only Noth w wr ∧ w2.heap.size ≤ wr.heap.size) (fun _ i _ => N.length - (RowKit.intOf i).toNat)
      case atStart => exact ⟨⟨0, Nat.zero_le _, rfl, none, 0, [], rfl, rfl, fun i m n _ h => by simp at h, Row.nil _ _ _ _, List.Pairwise.nil⟩, RK.out, OW2.out, Nat.le_refl _⟩
      case round =>
        obtain ⟨⟨k, hk, rfl, B, d, N', rfl, hN', htold, hrow, hpw⟩, hks, ho, hwz⟩ := hrel
        have RW := Lib.hid hrow
        have TL := Lib.hid htold
        have PW := Lib.hid hpw
        have hkm := hk
        have KS := Lib.hid hks
        have OW := Lib.hid ho
        have HN' := Lib.hid hN'
        have WZ := Lib.hid hwz
        have c0 : wr.cell? ⟨g, 0, none⟩ = some (.map (some b)) := (M.out.box.only ho (fun h => h)).cell 0
        clear hrow hks ho OW2 RK htold hN' hwz hpw
        by_cases hlt : k < N.length
        · obtain ⟨x, hx⟩ : ∃ x, N[k]? = some x := ⟨_, List.getElem?_eq_getElem hlt⟩
          have HX := Lib.hid hx
          have hxL := NL.out x (List.mem_of_getElem? hx)
          obtain ⟨ad, hA, _, hal, hc⟩ := KS.out.src.2 (by omega)
          have hcell : wr.cell? (ad.add k) = some (.string x.key) := by
            rw [← enc_key]
            exact hc k _ (by rw [List.getElem?_map, List.getElem?_map, hx]; rfl)
          obtain ⟨ok1, ok2, ok3⟩ := M.out.ok x hxL
          have hlk : (Instr.lookup 59 (.map (some b)) (.string x.key) false).run Tryd.prog wr = .ok (.agg x.arr) wr := by
            have h1 := look_run (M.out.own.only OW.out (fun h => h)) x.key (by rw [ok3]; exact lkey_size ok1)
            have h2 : look x.key L = x.arr := by
              unfold look
              have h3 : cget x.key.data.toList L = some x := (cget_iff M.out.srt).2 ⟨hxL, rfl⟩
              rw [h3]
            rw [h2] at h1
            exact h1
          have OWN := Lib.hid (own_run2 (some ⟨x.blk, 0, none⟩) x.cap x.ls.length (fun k => k = x.blk) x.ls x.st x.en rfl ok2 (by have := (lcheck_small ok1).1; omega) wr ((M.out.labs x hxL).1.noth OW.out))
          have hb0 : (0 : Int) ≤ k := by omega
          have hb1 : (k : Int) < N.length := by omega
          subst hA
          clear hx hc ok1 ok2 ok3
          go_wp2_with fail
          refine OWN.out.mono ?_
          rintro e w3 ⟨⟨b3, c3, rfl, hb3, hb3l, hps, hwd⟩, ho3⟩
          have HWD := Lib.hid hwd
          obtain ⟨nx, hnx⟩ : ∃ nx : Al, (⟨x.key, x.ls, b3, c3, x.st, x.en⟩ : Al) = nx := ⟨_, rfl⟩
          have HNX := Lib.hid hnx
          have HPS := Lib.hid hps
          have HB3 := Lib.hid (And.intro hb3 hb3l)
          have O3 := Lib.hid ho3
          have RWT := Lib.hid (RW.out.tight.1.only ho3 (fun _ _ h => h))
          have SV := Lib.hid (((Hld.new w3 27 #[.slice (some ⟨b3, 0, none⟩) x.ls.length c3, .int .i64 x.st, .int .i64 x.en]).src 3 rfl).regroup (by omega))
          clear hnx hps hb3 hb3l ho3 hwd hlk hcell c0
          go_wp2_with (at_builtin; refine wpList_append_row _ rfl (.tmp 38) (.tmp 46) 32 rfl 27 i1 (.agg #[.slice none 0 0, .int .i64 0, .int .i64 0]) 3 40 Tryd.underlying32 hj hy0 hy1 hy2 rfl (OwnB B d) _ _ k _ rfl (RWT.out.alloc _) (some ⟨w3.heap.size, 0, none⟩) 1 1 [.slice (some ⟨b3, 0, none⟩) x.ls.length c3, .int .i64 x.st, .int .i64 x.en] rfl SV.out (by intro u hu; simp at hu; rcases hu with rfl | rfl | rfl <;> rfl) (by simp only [maxLen]; omega) (by omega) ?_; intro v' w4 hrow4 ho4 _; have HR4 := Lib.hid hrow4; have HO4 := Lib.hid ho4; clear hrow4 ho4)
          obtain ⟨B4, d4, hv4⟩ := HR4.out.shape
          subst hv4
          have OBD := Lib.hid (show ∀ j, OwnB B d j → (w.heap.size < j ∧ ¬ OwnB (some ad) c j) ∧ j < wr.heap.size from fun j hj => ⟨(RW.out.tight.2 j hj).1, by obtain ⟨_, cur, he⟩ := RW.out.tight.2 j hj; exact (Array.getElem?_eq_some_iff.1 he).1⟩)
          have a1 := Lib.hid (O3.out.alloc (.cells #[.slice (some ⟨b3, 0, none⟩) x.ls.length c3, .int .i64 x.st, .int .i64 x.en] 27))
          have NB4 := Lib.hid (show ∀ j, OwnB B4 d4 j → OwnB B d j ∨ w3.heap.size < j + 1 from fun j hj => by
            rcases (HR4.out.tight.2 j hj).1 with h | h
            · exact .inl h
            · have h := h.1
              simp only [World.size_alloc] at h
              exact .inr (by omega))
          have hz3 := O3.out.size
          have hzw := OW.out.size
          go_roundw
          case rel =>
            refine ⟨⟨k + 1, by omega, by go_num, B4, d4, N' ++ [nx], rfl, by rw [List.length_append, HN'.out]; rfl, fun i m n hm hn => ?_, ?_, ?_⟩, (KS.out.only a1.out (fun _ _ h => h)).only HO4.out (fun j hj h => ((OBD.out j h).1.2 hj)), (OW.out.tr a1.out).trans HO4.out (fun j hj hl => by have := (OBD.out j hj).1.1; omega), Nat.le_trans WZ.out (Nat.le_trans a1.out.size HO4.out.size)⟩
            · rcases Nat.lt_or_ge i k with hik | hik
              · rw [List.getElem?_append_left (by rw [HN'.out]; exact hik)] at hn
                obtain ⟨t1, t2, t3, t4, t5, t6, t7, t8⟩ := TL.out i m n hm hn
                refine ⟨t1, t2, t3, t4, fun h => ?_, Nat.lt_of_lt_of_le t6 (Nat.le_trans a1.out.size HO4.out.size), (t7.noth a1.out).only HO4.out (fun j hj h => t5 (by have hj : j = n.blk := hj; rw [← hj]; exact h)), (t8.only a1.out (fun h => h)).only HO4.out (fun h => t5 h)⟩
                rcases NB4.out _ h with h | h
                · exact t5 h
                · omega
              · rw [List.getElem?_append_right (by rw [HN'.out]; exact hik), HN'.out] at hn
                obtain ⟨hi1, _⟩ := List.getElem?_eq_some_iff.1 hn
                have e : i = k := by simp at hi1; omega
                subst e
                rw [HX.out] at hm
                injection hm with hm
                subst hm
                simp at hn
                subst hn
                rw [← HNX.out]
                have h1 := HB3.out.1
                have h2 := HB3.out.2
                refine ⟨rfl, rfl, rfl, show w.heap.size ≤ b3 by omega, fun h => ?_, show b3 < w4.heap.size by have := HO4.out.size; simp only [World.size_alloc] at this; omega, (HPS.out.noth ((Only.refl Noth w3).alloc _)).only HO4.out (fun j hj h => ?_), (HWD.out.only ((Only.refl Noth w3).alloc _) (fun h => h)).only HO4.out (fun h => ?_)⟩
                · rcases NB4.out b3 h with h | h
                  · have := (OBD.out b3 h).2; omega
                  · omega
                · have hj : j = b3 := hj
                  subst hj
                  have := (OBD.out j h).2; omega
                · have := (OBD.out b3 h).2; omega
            · have := HR4.out.mono (G := fun j => w.heap.size < j ∧ ¬ OwnB (some ad) c j) (fun j hj _ => by
                rcases hj with hj | hj
                · exact (OBD.out j hj).1
                · have h := hj.1
                  simp only [World.size_alloc] at h
                  have := WZ.out
                  have := (show w.heap.size ≤ wr.heap.size from hzw)
                  exact ⟨by omega, fun ho => by have := (OB.out j ho).2; omega⟩)
              rw [← HNX.out]
              simp only [List.map_append, List.map_cons, List.map_nil, List.flatten_append, List.flatten_cons, List.flatten_nil, List.append_nil]
              exact this
            · rw [List.map_append]
              refine List.pairwise_append.2 ⟨PW.out, List.pairwise_singleton _ _, fun x hx y hy => ?_⟩
              obtain ⟨n, hn, rfl⟩ := List.mem_map.1 hx
              obtain ⟨i, hi, rfl⟩ := List.mem_iff_getElem.1 hn
              obtain ⟨_, _, _, _, _, t6, _⟩ := TL.out i (N[i]'(by rw [HN'.out] at hi; omega)) _ (List.getElem?_eq_getElem _) (List.getElem?_eq_getElem hi)
              have hy : y = nx.blk := by simpa using hy
              rw [hy, ← HNX.out]
              exact Nat.lt_of_lt_of_le t6 HB3.out.1
          case measure => simp [RowKit.intOf]; omega
        · obtain rfl : k = N.length := by omega
          go_wp2
          go_ret
          rw [HN.out]
          exact ⟨⟨B, d, N', rfl, HN'.out, TL.out, RW.out.mono (fun j hj _ => by show w.heap.size ≤ j; have := hj.1; omega), PW.out⟩, OW.out⟩
    · intro x yv kl yd yp w1 cnt1 hkey hlx hv hat hrg1 hlt hg1 hs1 hen
      obtain ⟨rfl, y, hget, hyv⟩ := met hkey hv hat
      subst hyv
      obtain ⟨hyL, hyk⟩ := cget_some hget
      subst hyk
      have h1 := only_grown hg1
      have OW1 := Lib.hid (OW.out.trans h1 (fun j hj hl => by have hj : j = w.heap.size := hj; omega))
      have RW1 := Lib.hid (RW.out.only h1 (fun k hk e => by have e : k = w.heap.size := e; omega))
      have RG1 := Lib.hid hrg1
      have HYL := Lib.hid hyL
      have HLX := Lib.hid hlx
      clear hg1 hs1 h1 hrg1 hkey hv hat hget RW RG
      go_wp2_with fail
      refine (HC.out _ y (OW1.out.alloc _) HYL.out).mono ?_
      rintro r w2 ⟨rfl, ho⟩
      have h2 := ((Only.refl Noth w1).alloc (.cells y.arr 27)).tr ho
      have OW2 := Lib.hid (OW1.out.tr h2)
      have RW2 := Lib.hid (RW1.out.only h2 (fun _ _ h => h))
      have RG2 := Lib.hid (ranges_only RG1.out h2 (fun h => h) (fun h => h))
      clear ho h2 hen RW1 RG1
      cases hp : p y
      · have HM2 := Lib.hid (ss_stay M.out.srt HM.out HYL.out hp)
        clear hp
        go_wp2_with fail
        go_roundw
        case rel => exact ⟨_, cnt1, ss, RG2.out, ⟨A, c, rfl⟩, RW2.out, ND.out, HM2.out, OW2.out, by omega⟩
        case measure => rw [RG2.out.left_eq, hrgl.out]; exact hlt
      · have HM2 := Lib.hid (ss_more HM.out HYL.out hp)
        have ND2 := Lib.hid (show (ss ++ [y.kb]).Nodup from by
          refine List.nodup_append.2 ⟨ND.out, by simp, fun a ha b hb e => ?_⟩
          simp at hb
          subst hb
          subst e
          obtain ⟨_, _, _, _, h⟩ := (HM.out y.kb).1 ha
          rw [HLX.out] at h
          cases h)
        have SV := Lib.hid ((Hld.new w2 9 #[encStr y.kb]).src 1 rfl)
        have hsz2 := OW2.out.size
        clear hp
        go_wp2_with (at_builtin; refine wpList_append_row _ rfl (.tmp 26) (.tmp 28) 83 rfl 9 i0 (.string ⟨#[]⟩) 1 16 Tryd.underlying83 hi hz0 hz1 hz2 rfl (fun k => w.heap.size < k) _ _ ss.length _ rfl (RW2.out.alloc _) (some ⟨w2.heap.size, 0, none⟩) 1 1 [encStr y.kb] rfl SV.out (by intro u hu; simp at hu; subst hu; rfl) (by simp only [maxLen]; omega) (by omega) ?_; intro v' w3 hrow3 ho3 _; have HR3 := Lib.hid hrow3; have HO3 := Lib.hid ho3; clear hrow3 ho3)
        obtain ⟨A3, c3, hv3⟩ := HR3.out.shape
        subst hv3
        have RG3 := Lib.hid (ranges_only (ranges_only RG2.out ((Only.refl Noth w2).alloc (.cells #[encStr y.kb] 9)) (fun h => h) (fun h => h)) HO3.out (fun h => by have := M.out.own.lt; omega) (fun h => by omega))
        go_roundw
        case rel =>
          refine ⟨_, cnt1, ss ++ [y.kb], RG3.out, ⟨A3, c3, by simp⟩, ?_, ND2.out, HM2.out, (OW2.out.alloc _).trans HO3.out (fun j hj hl => by have hj : w.heap.size < j := hj; omega), by rw [List.length_append]; simp only [List.length_cons, List.length_nil]; omega⟩
          have := HR3.out.mono (G := fun k => w.heap.size < k) (fun k hk _ => by
            rcases hk with hk | hk
            · exact hk
            · have h := hk.1
              simp only [World.size_alloc] at h
              show w.heap.size < k
              have := RG2.out.lt
              omega)
          rw [List.map_append, List.length_append]
          simpa using this
        case measure => rw [RG3.out.left_eq, hrgl.out]; exact hlt
end Go.Proofs.YtokgignmdgejoaaDoor
