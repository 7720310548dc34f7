/- Package crdt: which. -/
import Derived.Test.YtdclkbhkboaafaaCmS
namespace Go.Proofs.Ytdclkbhkboaafaa
open Go.RowKit Go.Lib Go.Sort
set_option linter.unusedVariables false
set_option linter.unusedSimpArgs false
set_option maxRecDepth 100000
attribute [local go_sem ↓] Go.wp_at_zero Go.wp_at_succ

theorem entinfo : (Try.prog.info? 34).map (fun i => (i.zero, i.size, i.bytes)) = some (some (.agg #[.string ⟨#[]⟩, .int .i64 0, .int .u16 0, .string ⟨#[]⟩, .int .i64 0]), 5, 56) := by kernel_rfl
theorem strinfo : (Try.prog.info? 9).map (fun i => (i.zero, i.size, i.bytes)) = some (some (.string ⟨#[]⟩), 1, 16) := by kernel_rfl
/-- What which hands back: entries, in new memory. -/
def WhichAns (w : World) (M : List Ent) (e : Ending) (w' : World) : Prop := ∃ A c, e = .returned (.slice A M.length c) ∧ Row w' (New w) 34 5 (.slice A M.length c) M.length (M.map fun e => e.arr.toList).flatten
set_option maxHeartbeats 8000000 in
theorem cm_which (g b : Nat) (L : List Ent) (p : Ent → Bool) (fn : FuncId) (cb : Array Value) (w : World) (eg : ∀ args w, (callFunc fn args).run Try.prog w = .ok (.enter fn args) w) (h : CmAt w g b L)
    (hcl : ∀ W x, Only Noth w W → x ∈ L → Calls Try.prog fn (#[.agg x.arr] ++ cb) W fun r w' => r = .returned (.bool (p x)) ∧ Only Noth W w') :
    Calls Try.prog 38 #[.pointer (some ⟨g, 0, none⟩), .func (.func fn) #[] cb] w fun r w' => WhichAns w (L.filter p) r w' ∧ Only Noth w w' := by
  have M := Lib.hid h
  have HC := Lib.hid hcl
  have c0 : w.cell? ⟨g, 0, none⟩ = some (.map (some b)) := h.box.cell 0
  have hlen := h.len
  have hbl := h.own.lt
  have NB := Lib.hid (Nat.ne_of_lt hbl)
  obtain ⟨i0, hi, hz0, hz1, hz2⟩ := info_parts strinfo
  obtain ⟨i1, hj, hy0, hy1, hy2⟩ := info_parts entinfo
  clear h hcl hbl
  go_enter Try.func38, Try.ntmps38
  go_wp2_with (at_range; refine wpList_range_own _ rfl _ 60 rfl 9 34 law Try.underlying60 entElem b L.length (mapD L) rfl M.out.own ?_; intro w0 hrg0 hg0 hs0)
  have HR0 := Lib.hid hrg0
  have O0 := Lib.hid (only_grown0 hg0)
  clear hrg0 hg0 hs0
  go_frame
  go_loopw [5] (fun v wr => WR1 w b L p v wr) (fun _ wr => wr.rangeLeft b w.heap.size)
  case atStart =>
    refine ⟨_, _, [], HR0.out, ⟨none, 0, rfl⟩, Row.nil _ _ _ _, List.nodup_nil, fun k => ⟨fun h => absurd h (by simp), ?_⟩, O0.out, by rw [size_map]; simp⟩
    · rintro ⟨x, hx, _, rfl, hl⟩
      rw [has_map, (cget_iff M.out.srt).2 ⟨hx, rfl⟩] at hl
      cases hl
  case round =>
    obtain ⟨left, cnt, ss, hrg, ⟨A, c, rfl⟩, hrow, hnd, hm, ho, hcnt⟩ := hrel
    have hrgl := Lib.hid hrg.left_eq
    have RG := Lib.hid hrg
    have RW := Lib.hid hrow
    have ND := Lib.hid hnd
    have HM := Lib.hid hm
    have OW := Lib.hid ho
    clear hrg hrow hnd hm ho HR0 c0
    go_wp2_with (at_next; refine wpList_next_ranges _ rfl _ rfl 9 law entElem encStr (fun c : Ent => .agg c.arr) inv_key inv_ent b w.heap.size L.length _ left cnt rfl RG.out ?_ ?_)
    · intro _ hl0
      have HM2 := Lib.hid (show ∀ k, k ∈ ss ↔ ∃ e ∈ L, p e = true ∧ e.kb = k from fun k => by
        rw [HM.out k]
        exact ⟨fun ⟨x, a, b, c, _⟩ => ⟨x, a, b, c⟩, fun ⟨x, a, b, c⟩ => ⟨x, a, b, c, hl0 _⟩⟩)
      clear hl0
      go_wp2_with fail
      refine (sort_row A c ss _ _ RW.out (by omega)).mono ?_
      rintro r w2 ⟨rfl, hrow2, ho2⟩
      rw [sort_keys M.out.srt ND.out HM2.out] at hrow2
      have hl2 : ss.length = (L.filter p).length := by
        have := congrArg List.length (sort_keys M.out.srt ND.out HM2.out)
        rwa [List.length_mergeSort, List.length_map] at this
      obtain ⟨N, hN⟩ : ∃ N, L.filter p = N := ⟨_, rfl⟩
      have HN := Lib.hid hN
      have NL := Lib.hid (show ∀ x ∈ N, x ∈ L from fun x hx => by rw [← hN] at hx; exact (List.mem_filter.1 hx).1)
      have hnl : N.length ≤ 256 := by rw [← hN]; have := List.length_filter_le p L; omega
      rw [hN] at hrow2 hl2
      rw [hl2] at hrow2 ⊢
      have RK := Lib.hid hrow2.tight.1
      have OW2 := Lib.hid (OW.out.trans ho2 (fun j hj hl => by have := (RW.out.tight.2 j hj).1; omega))
      have OB := Lib.hid (show ∀ k, OwnB A c k → w.heap.size < k ∧ k < w2.heap.size from fun k hk => ⟨(hrow2.tight.2 k hk).1, by obtain ⟨_, cur, he⟩ := hrow2.tight.2 k hk; exact (Array.getElem?_eq_some_iff.1 he).1⟩)
      have hn0 : (0 : Int) ≤ N.length := by omega
      clear hrow2 ho2 hN hl2 hcnt RW RG HM ND HM2 OW
      go_wp2_with fail
      go_loopw [8, 34] (fun v i wr => WR2 w N A c v i wr ∧ w2.heap.size ≤ wr.heap.size) (fun _ i _ => N.length - (RowKit.intOf i).toNat)
      case atStart => exact ⟨⟨0, Nat.zero_le _, rfl, ⟨none, 0, rfl⟩, by simpa using Row.nil _ _ _ _, RK.out, OW2.out⟩, Nat.le_refl _⟩
      case round =>
        obtain ⟨⟨k, hk, rfl, ⟨B, d, rfl⟩, hrow, hks, ho⟩, hwz⟩ := hrel
        have RW := Lib.hid hrow
        have KS := Lib.hid hks
        have OW := Lib.hid ho
        have c0 : wr.cell? ⟨g, 0, none⟩ = some (.map (some b)) := (M.out.box.only ho (fun h => h)).cell 0
        clear hrow hks ho OW2 RK
        by_cases hlt : k < N.length
        · obtain ⟨x, hx⟩ : ∃ x, N[k]? = some x := ⟨_, List.getElem?_eq_getElem hlt⟩
          have HX := Lib.hid hx
          have hxL := NL.out x (List.mem_of_getElem? hx)
          obtain ⟨ad, hA, _, hal, hc⟩ := KS.out.src.2 (by omega)
          have hcell : wr.cell? (ad.add k) = some (.string x.key) := by
            rw [← enc_key]
            exact hc k _ (by rw [List.getElem?_map, List.getElem?_map, hx]; rfl)
          have hlk : (Instr.lookup 60 (.map (some b)) (.string x.key) false).run Try.prog wr = .ok (.agg x.arr) wr := by
            have h1 := look_run (M.out.own.only OW.out (fun h => h)) x.key (by have := (ent_small (M.out.ok x hxL)).1; omega)
            have h2 : look x.key L = x := by
              unfold look
              have h3 : cget x.key.data.toList L = some x := (cget_iff M.out.srt).2 ⟨hxL, rfl⟩
              rw [h3]
              rfl
            rw [h2] at h1
            exact h1
          have SV := Lib.hid (((Hld.new wr 34 x.arr).src 5 rfl).regroup (by omega))
          have hb0 : (0 : Int) ≤ k := by omega
          have hb1 : (k : Int) < N.length := by omega
          subst hA
          clear hx hc
          go_wp2_with (at_builtin; refine wpList_append_row _ rfl (.tmp 38) (.tmp 45) 22 rfl 34 i1 (.agg #[.string ⟨#[]⟩, .int .i64 0, .int .u16 0, .string ⟨#[]⟩, .int .i64 0]) 5 56 Try.underlying22 hj hy0 hy1 hy2 rfl (fun j => w.heap.size < j ∧ ¬ OwnB (some ad) c j) _ _ k _ rfl (RW.out.alloc _) (some ⟨wr.heap.size, 0, none⟩) 1 1 x.arr.toList rfl SV.out (by intro u hu; simp at hu; rcases hu with rfl | rfl | rfl | rfl | rfl <;> rfl) (by simp only [maxLen]; omega) (by omega) ?_; intro v' w3 hrow3 ho3 _; have HR3 := Lib.hid hrow3; have HO3 := Lib.hid ho3; clear hrow3 ho3)
          obtain ⟨B3, d3, hv3⟩ := HR3.out.shape
          subst hv3
          go_roundw
          case rel =>
            have a1 := (Only.refl Noth wr).alloc (.cells x.arr 34)
            refine ⟨⟨k + 1, by omega, by go_num, ⟨B3, d3, rfl⟩, ?_, (KS.out.only a1 (fun _ _ h => h)).only HO3.out (fun j hj h => h.2 hj), (OW.out.tr a1).trans HO3.out (fun j hj hl => by have hj := hj.1; omega)⟩, Nat.le_trans hwz (Nat.le_trans a1.size HO3.out.size)⟩
            have := HR3.out.mono (G := fun j => w.heap.size < j ∧ ¬ OwnB (some ad) c j) (fun j hj _ => by
              rcases hj with hj | hj
              · exact hj
              · have h := hj.1
                simp only [World.size_alloc] at h
                have := OW.out.size
                exact ⟨by omega, fun ho => by have := (OB.out j ho).2; omega⟩)
            rw [List.take_add_one, HX.out]
            simp only [Option.toList_some, List.map_append, List.map_cons, List.map_nil, List.flatten_append, List.flatten_cons, List.flatten_nil, List.append_nil]
            exact this
          case measure => simp [RowKit.intOf]; omega
        · obtain rfl : k = N.length := by omega
          go_wp2
          go_ret
          rw [HN.out]
          refine ⟨⟨B, d, rfl, ?_⟩, OW.out⟩
          have := RW.out
          rw [List.take_of_length_le (Nat.le_refl _)] at this
          exact this.mono (fun j hj _ => by show w.heap.size ≤ j; have := hj.1; omega)
    · intro x y kl yd yp w1 cnt1 hkey hlx hv hat hrg1 hlt hg1 hs1 hen
      obtain ⟨rfl, hget⟩ := met hkey hv hat
      obtain ⟨hyL, hyk⟩ := cget_some hget
      subst hyk
      have h1 := only_grown hg1
      have OW1 := Lib.hid (OW.out.trans h1 (fun j hj hl => by have hj : j = w.heap.size := hj; omega))
      have RW1 := Lib.hid (RW.out.only h1 (fun k hk e => by have e : k = w.heap.size := e; omega))
      have RG1 := Lib.hid hrg1
      have HYL := Lib.hid hyL
      have HLX := Lib.hid hlx
      clear hg1 hs1 h1 hrg1 hkey hv hat hget RW RG
      go_wp2_with fail
      refine (HC.out _ y (OW1.out.alloc _) HYL.out).mono ?_
      rintro r w2 ⟨rfl, ho⟩
      have h2 := ((Only.refl Noth w1).alloc (.cells y.arr 34)).tr ho
      have OW2 := Lib.hid (OW1.out.tr h2)
      have RW2 := Lib.hid (RW1.out.only h2 (fun _ _ h => h))
      have RG2 := Lib.hid (ranges_only RG1.out h2 (fun h => h) (fun h => h))
      clear ho h2 hen RW1 RG1
      cases hp : p y
      · have HM2 := Lib.hid (ss_stay M.out.srt HM.out HYL.out hp)
        clear hp
        go_wp2_with fail
        go_roundw
        case rel => exact ⟨_, cnt1, ss, RG2.out, ⟨A, c, rfl⟩, RW2.out, ND.out, HM2.out, OW2.out, by omega⟩
        case measure => rw [RG2.out.left_eq, hrgl.out]; exact hlt
      · have HM2 := Lib.hid (ss_more HM.out HYL.out hp)
        have ND2 := Lib.hid (show (ss ++ [y.kb]).Nodup from by
          refine List.nodup_append.2 ⟨ND.out, by simp, fun a ha b hb e => ?_⟩
          simp at hb
          subst hb
          subst e
          obtain ⟨_, _, _, _, h⟩ := (HM.out y.kb).1 ha
          rw [HLX.out] at h
          cases h)
        have SV := Lib.hid ((Hld.new w2 9 #[encStr y.kb]).src 1 rfl)
        have hsz2 := OW2.out.size
        clear hp
        go_wp2_with (at_builtin; refine wpList_append_row _ rfl (.tmp 26) (.tmp 28) 73 rfl 9 i0 (.string ⟨#[]⟩) 1 16 Try.underlying73 hi hz0 hz1 hz2 rfl (fun k => w.heap.size < k) _ _ ss.length _ rfl (RW2.out.alloc _) (some ⟨w2.heap.size, 0, none⟩) 1 1 [encStr y.kb] rfl SV.out (by intro u hu; simp at hu; subst hu; rfl) (by simp only [maxLen]; omega) (by omega) ?_; intro v' w3 hrow3 ho3 _; have HR3 := Lib.hid hrow3; have HO3 := Lib.hid ho3; clear hrow3 ho3)
        obtain ⟨A3, c3, hv3⟩ := HR3.out.shape
        subst hv3
        have RG3 := Lib.hid (ranges_only (ranges_only RG2.out ((Only.refl Noth w2).alloc (.cells #[encStr y.kb] 9)) (fun h => h) (fun h => h)) HO3.out (fun h => by have := M.out.own.lt; omega) (fun h => by omega))
        go_roundw
        case rel =>
          refine ⟨_, cnt1, ss ++ [y.kb], RG3.out, ⟨A3, c3, by simp⟩, ?_, ND2.out, HM2.out, (OW2.out.alloc _).trans HO3.out (fun j hj hl => by have hj : w.heap.size < j := hj; omega), by rw [List.length_append]; simp only [List.length_cons, List.length_nil]; omega⟩
          have := HR3.out.mono (G := fun k => w.heap.size < k) (fun k hk _ => by
            rcases hk with hk | hk
            · exact hk
            · have h := hk.1
              simp only [World.size_alloc] at h
              show w.heap.size < k
              have := RG2.out.lt
              omega)
          rw [List.map_append, List.length_append]
          simpa using this
        case measure => rw [RG3.out.left_eq, hrgl.out]; exact hlt
end Go.Proofs.Ytdclkbhkboaafaa
