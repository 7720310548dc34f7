/- The reference of layer 31: Split. -/
import Derived.Test.YtemeglofblnnmaaJnX
namespace Go.Proofs.Ytemeglofblnnmaa
open Go.RowKit Go.Lib
set_option linter.unusedVariables false
set_option linter.unusedSimpArgs false
set_option maxRecDepth 100000
attribute [local go_sem ↓] Go.wp_at_zero Go.wp_at_succ

theorem nPt_max (len r : Nat) (hr : 1 ≤ r) : max (1 : Int) (((len : Int) + r - 1) / r) = (nPt len r : Int) := by
  have e : ((len : Int) + r - 1) / r = (((len + r - 1) / r : Nat) : Int) := by
    rw [Int.natCast_ediv]
    congr 1
    omega
  rw [e]
  have h1 : (len = 0 → (len + r - 1) / r = 0) := fun h => Nat.div_eq_of_lt (by omega)
  have h2 : (len ≠ 0 → 1 ≤ (len + r - 1) / r) := fun h => Nat.div_pos (by omega) (by omega)
  unfold nPt
  split
  · rename_i h
    rw [h1 h]
    rfl
  · rename_i h
    have := h2 h
    omega
theorem nPt_lt {len room i : Nat} (hr : 1 ≤ room) (h : i < nPt len room) : i * room ≤ len := by
  unfold nPt at h
  split at h
  · obtain rfl : i = 0 := by omega
    omega
  · have h2 : (i + 1) * room ≤ len + room - 1 := by
      have := (Nat.le_div_iff_mul_le (by omega : 0 < room)).1 h
      exact this
    rw [Nat.add_mul] at h2
    omega
theorem wrap_mulN (k r : Nat) (h : k * r ≤ 600000) : IntKind.i64.wrap ((k : Int) * (r : Int)) = ((k * r : Nat) : Int) := by
  rw [← Int.natCast_mul, IntKind.wrap_i64]
  omega
/-- The reference's parts, as far as they are made. -/
structure RMade (W : World) (Sb : Nat → Prop) (id : Int) (r : Nat) (b : List UInt8) (n m : Nat) (css : List (List Value)) : Prop where
  len : css.length = m
  part : ∀ i, i < m → ∃ v, css[i]? = some [.int .i64 id, .int .i64 (i : Int), .int .i64 (n : Int), v] ∧ BsAt W Sb v (chunkOf r b i)
theorem RMade.only {W W' : World} {Sb F : Nat → Prop} {id : Int} {r : Nat} {b : List UInt8} {n m : Nat} {css : List (List Value)} (h : RMade W Sb id r b n m css) (ho : Only F W W') (hF : ∀ k, Sb k → ¬ F k) : RMade W' Sb id r b n m css :=
  ⟨h.len, fun i hi => by obtain ⟨v, h1, h2⟩ := h.part i hi; exact ⟨v, h1, h2.only ho hF⟩⟩
theorem RMade.snoc {W : World} {Sb : Nat → Prop} {id : Int} {r : Nat} {b : List UInt8} {n m : Nat} {css : List (List Value)} {v : Value} (h : RMade W Sb id r b n m css) (hv : BsAt W Sb v (chunkOf r b m)) : RMade W Sb id r b n (m + 1) (css ++ [[.int .i64 id, .int .i64 (m : Int), .int .i64 (n : Int), v]]) := by
  refine ⟨by simp [h.len], fun i hi => ?_⟩
  by_cases e : i = m
  · subst e
    refine ⟨v, ?_, hv⟩
    rw [List.getElem?_append_right (by rw [h.len]; exact Nat.le_refl _), h.len, Nat.sub_self]
    rfl
  · obtain ⟨u, h1, h2⟩ := h.part i (by omega)
    exact ⟨u, by rw [List.getElem?_append_left (by rw [h.len]; omega)]; exact h1, h2⟩
theorem RMade.fours {W : World} {Sb : Nat → Prop} {id : Int} {r : Nat} {b : List UInt8} {n m : Nat} {css : List (List Value)} (h : RMade W Sb id r b n m css) : ∀ cs ∈ css, cs.length = 4 := by
  intro cs hcs
  obtain ⟨i, hi, rfl⟩ := List.mem_iff_getElem.1 hcs
  obtain ⟨v, hv, _⟩ := h.part i (by rw [← h.len]; exact hi)
  rw [List.getElem?_eq_getElem hi] at hv
  injection hv with hv
  rw [hv]
  rfl
theorem rptinfo : (Try.prog.info? 33).map (fun i => (i.zero, i.size, i.bytes)) = some (some (.agg #[.int .i64 0, .int .i64 0, .int .i64 0, .slice none 0 0]), 4, 48) := by kernel_rfl
def RefAns (w : World) (Sb : Nat → Prop) (l : List Pt) (er : Int) (e : Ending) (w' : World) : Prop := ∃ A c, e = .returned (.tuple #[.slice A l.length c, .int .i64 er]) ∧ (0 < l.length → ∃ (g : Nat) (cur : Array Value), A = some ⟨g, 0, none⟩ ∧ w.heap.size ≤ g ∧ Hld w' g 33 cur ∧ ∀ i p, l[i]? = some p → ∃ v, cur[i * 4]? = some (.int .i64 p.id) ∧ cur[i * 4 + 1]? = some (.int .i64 p.idx) ∧ cur[i * 4 + 2]? = some (.int .i64 p.cnt) ∧ cur[i * 4 + 3]? = some v ∧ BsAt w' Sb v p.bs)
set_option maxHeartbeats 4000000 in
theorem rsplit_run (id : Int) (A0 : Option Addr) (c0 : Nat) (Sb : Nat → Prop) (b : List UInt8) (room : Int) (hr0 : -9223372036854775808 ≤ room) (hr1 : room ≤ 9223372036854775807) (w : World) (h : BsAt w Sb (.slice A0 b.length c0) b) (hSb : ∀ k, Sb k → k < w.heap.size) (hbl : b.length ≤ 1000000) :
    Calls Try.prog 10 #[.int .i64 id, .slice A0 b.length c0, .int .i64 room] w fun e w' => RefAns w Sb (splitD id b room).1 (splitD id b room).2 e w' ∧ Only Noth w w' := by
  have HB := Lib.hid h
  have HSb := Lib.hid hSb
  clear h hSb
  have hret : ∀ (er : Int), (splitD id b room) = ([], er) → RefAns w Sb (splitD id b room).1 (splitD id b room).2 (.returned (.tuple #[.slice none 0 0, .int .i64 er])) w ∧ Only Noth w w := by
    intro er he
    rw [he]
    exact ⟨⟨none, 0, rfl, fun h => absurd h (Nat.lt_irrefl _)⟩, Only.refl _ _⟩
  have HRET := Lib.hid hret
  clear hret
  go_enter Try.func10, Try.ntmps10
  by_cases hbad : id < 0 ∨ 1099511627776 < id ∨ room < 1 ∨ 8192 < room
  · have HS := Lib.hid (show splitD id b room = ([], 2) by unfold splitD; rw [if_pos hbad])
    by_cases h1 : id < 0
    · go_wp2
      refine bodyPost_ret (v := .tuple #[.slice none 0 0, .int .i64 2]) (by simp [results, Try.results10, go_sem]) rfl ?_
      exact HRET.out 2 HS.out
    · by_cases h2 : 1099511627776 < id
      · go_wp2
        refine bodyPost_ret (v := .tuple #[.slice none 0 0, .int .i64 2]) (by simp [results, Try.results10, go_sem]) rfl ?_
        exact HRET.out 2 HS.out
      · by_cases h3 : room < 1
        · go_wp2
          refine bodyPost_ret (v := .tuple #[.slice none 0 0, .int .i64 2]) (by simp [results, Try.results10, go_sem]) rfl ?_
          exact HRET.out 2 HS.out
        · have h4 : 8192 < room := by omega
          go_wp2
          refine bodyPost_ret (v := .tuple #[.slice none 0 0, .int .i64 2]) (by simp [results, Try.results10, go_sem]) rfl ?_
          exact HRET.out 2 HS.out
  have h1 : ¬ id < 0 := by omega
  have h2 : ¬ 1099511627776 < id := by omega
  have h3 : ¬ room < 1 := by omega
  have h4 : ¬ 8192 < room := by omega
  have HGOOD := Lib.hid hbad
  obtain ⟨r, rfl⟩ : ∃ r : Nat, room = (r : Int) := ⟨room.toNat, by omega⟩
  clear hbad
  have hmul : IntKind.i64.wrap ((64 : Int) * (r : Int)) = (64 : Int) * r := by rw [IntKind.wrap_i64]; omega
  by_cases hlong : (64 : Int) * (r : Int) < b.length
  · have HS := Lib.hid (show splitD id b (r : Int) = ([], 5) by unfold splitD; rw [if_neg HGOOD.out, if_pos hlong])
    go_wp2
    refine bodyPost_ret (v := .tuple #[.slice none 0 0, .int .i64 5]) (by simp [results, Try.results10, go_sem]) rfl ?_
    exact HRET.out 5 HS.out
  have HS := Lib.hid (show splitD id b (r : Int) = (partsOf id r b, 0) by unfold splitD; rw [if_neg HGOOD.out, if_neg hlong, Int.toNat_natCast])
  have hlen0 : (0 : Int) ≤ b.length := by omega
  have hlenb : (b.length : Int) ≤ 1000000 := by omega
  clear HRET HGOOD
  go_wp2_with fail
  have hmax := nPt_max b.length r (by omega)
  rw [hmax]
  obtain ⟨n, hn⟩ : ∃ n, nPt b.length r = n := ⟨_, rfl⟩
  have hr1 : 1 ≤ r := by omega
  have hn64 : n ≤ 64 := by rw [← hn]; exact nPt_le hr1 (by omega) (by omega)
  have HLT := Lib.hid (fun i (h : i < n) => nPt_lt (len := b.length) (room := r) (i := i) hr1 (by rw [hn]; exact h))
  have HN := Lib.hid hn
  rw [hn]
  have hn0 : (0 : Int) ≤ n := by omega
  obtain ⟨i0, hti, hz0, hzs, hzb⟩ := info_parts rptinfo
  have HTI := Lib.hid hti
  have HZ0 := Lib.hid hz0
  have HZS := Lib.hid hzs
  have HZB := Lib.hid hzb
  clear hmax hn hmul hti hz0 hzs hzb
  go_loopw [9, 10] (fun v9 i W => ∃ (k : Nat) (css : List (List Value)) (A : Option Addr) (c : Nat), k ≤ n ∧ i = .int .i64 (k : Int) ∧ v9 = .slice A k c ∧ Row W (New w) 33 4 (.slice A k c) k css.flatten ∧ RMade W Sb id r b n k css ∧ Only Noth w W) (fun _ i _ => n - (RowKit.intOf i).toNat)
  case atStart => exact ⟨0, [], none, 0, Nat.zero_le _, rfl, rfl, ⟨rfl, none, 0, rfl, Nat.le_refl _, Nat.zero_le _, .inl rfl⟩, ⟨rfl, fun i hi => absurd hi (Nat.not_lt_zero _)⟩, Only.refl _ _⟩
  case round =>
    obtain ⟨k, css, A, c, hk, rfl, rfl, hrow, hmade, ho⟩ := hrel
    have RW := Lib.hid hrow
    have MD := Lib.hid hmade
    have O2 := Lib.hid ho
    have hk0 : (0 : Int) ≤ k := by omega
    clear hrow hmade ho
    by_cases hkn : k < n
    · have hk1 : (k : Int) < n := by omega
      have hlo := HLT.out k hkn
      have hkr : k * r ≤ 64 * 8192 := Nat.mul_le_mul (by omega) (by omega)
      have hkr1 : (k + 1) * r ≤ 64 * 8192 := Nat.mul_le_mul (by omega) (by omega)
      have hm1 := wrap_mulN k r (by omega)
      have hm2 : IntKind.i64.wrap (((k : Int) + 1) * (r : Int)) = (((k + 1) * r : Nat) : Int) := wrap_mulN (k + 1) r (by omega)
      obtain ⟨s, hs⟩ : ∃ s, k * r = s := ⟨_, rfl⟩
      obtain ⟨e, he⟩ : ∃ e, (k + 1) * r = e := ⟨_, rfl⟩
      rw [hs] at hm1 hlo
      rw [he] at hm2
      have HS2 := Lib.hid hs
      have HE2 := Lib.hid he
      have hse : s ≤ e := by rw [← hs, ← he, Nat.add_mul]; omega
      obtain ⟨A3, hr58, hb58⟩ := bs_mid s (min b.length e) (HB.out.noth O2.out) (by omega) (by omega)
      have hmin : min (b.length : Int) (e : Int) = ((min b.length e : Nat) : Int) := by omega
      have hmin2 : (if (b.length : Int) < (e : Int) then (b.length : Int) else (e : Int)) = ((min b.length e : Nat) : Int) := by split <;> omega
      obtain ⟨q, hq⟩ : ∃ q, min b.length e - s = q := ⟨_, rfl⟩
      obtain ⟨cq, hcq⟩ : ∃ cq, c0 - s = cq := ⟨_, rfl⟩
      rw [hq, hcq] at hb58
      have hr58' : ∀ (V : World), (Instr.slice 22 (.slice A0 b.length c0) (some (.int .i64 (s : Int))) (some (.int .i64 ((min b.length e : Nat) : Int))) none).run Try.prog V = .ok (.slice A3 q cq) V := by rw [← hq, ← hcq]; exact hr58
      have HB58 := Lib.hid (show BsAt wr Sb (.slice A3 q cq) (chunkOf r b k) by rw [← mid_chunk, HE2.out, HS2.out]; exact hb58)
      clear hkr hkr1 hs he hq hcq hb58 hr58
      have R3 := Lib.hid (RW.out.alloc (.cells #[.int .i64 id, .int .i64 (k : Int), .int .i64 (n : Int), .slice A3 q cq] 33))
      have SV := Lib.hid (show Src (wr.alloc (.cells #[.int .i64 id, .int .i64 (k : Int), .int .i64 (n : Int), .slice A3 q cq] 33)) (fun _ => True) 4 (some ⟨wr.heap.size, 0, none⟩) 1 [.int .i64 id, .int .i64 (k : Int), .int .i64 (n : Int), .slice A3 q cq] from by
        have hn := Hld.new wr 33 #[.int .i64 id, .int .i64 (k : Int), .int .i64 (n : Int), .slice A3 q cq]
        exact ⟨rfl, fun _ => ⟨_, rfl, trivial, hn.lt, fun j u hu => by rw [add_plain', Nat.zero_add, hn.cell j]; simpa using hu⟩⟩)
      have hti := HTI.out
      go_wp2_with (at_builtin; refine wpList_append_row _ rfl (.tmp 43) (.tmp 60) 28 rfl 33 i0 (.agg #[.int .i64 0, .int .i64 0, .int .i64 0, .slice none 0 0]) 4 48 Try.underlying28 hti HZ0.out HZS.out HZB.out rfl (RowB A c) _ _ k _ rfl R3.out.tightB.1 (some ⟨wr.heap.size, 0, none⟩) 1 1 _ rfl SV.out (by intro u hu; simp at hu; rcases hu with rfl | rfl | rfl | rfl <;> rfl) (by simp only [maxLen]; omega) (by omega) ?_; intro v' w9 hrow9 ho9 hz9; have HR9 := Lib.hid hrow9; have HO9 := Lib.hid ho9; clear hrow9 ho9)
      obtain ⟨A9, c9, hv9⟩ := HR9.out.shape
      subst hv9
      have HB8 := Lib.hid (show ∀ x, RowB A c x → w.heap.size ≤ x from fun x hx => (R3.out.tightB.2 x hx).1)
      have O9 := Lib.hid (show Only Noth w w9 from (O2.out.alloc (.cells #[.int .i64 id, .int .i64 (k : Int), .int .i64 (n : Int), .slice A3 q cq] 33)).trans HO9.out (fun x hx hl => by have := HB8.out x hx; omega))
      have OW := Lib.hid (show Only (RowB A c) wr w9 from ((Only.refl Noth wr).alloc (.cells #[.int .i64 id, .int .i64 (k : Int), .int .i64 (n : Int), .slice A3 q cq] 33)).mono (fun _ h _ => h.elim) |>.trans HO9.out (fun _ h _ => h))
      have HZ2 := Lib.hid O2.out.size
      clear hr58' hm1 hm2 hmin hmin2
      go_roundw
      case rel =>
        refine ⟨k + 1, css ++ [[.int .i64 id, .int .i64 (k : Int), .int .i64 (n : Int), .slice A3 q cq]], A9, c9, by omega, by go_num, rfl, ?_, ?_, O9.out⟩
        · have h9 := HR9.out
          simp only [List.flatten_append, List.flatten_cons, List.flatten_nil, List.append_nil]
          refine h9.mono (fun x hx _ => ?_)
          rcases hx with hx | hx
          · exact HB8.out x hx
          · have h1 := hx.1
            simp only [World.size_alloc] at h1
            have := HZ2.out
            show w.heap.size ≤ x
            omega
        · have hS : ∀ x, Sb x → ¬ RowB A c x := fun x hx h => by have := HSb.out x hx; have := HB8.out x h; omega
          exact (MD.out.only OW.out hS).snoc (HB58.out.only OW.out hS)
      case measure => simp [RowKit.intOf]; omega
    · obtain rfl : k = n := by omega
      go_wp2
      refine bodyPost_ret (v := .tuple #[.slice A k c, .int .i64 0]) (by simp [results, Try.results10, go_sem]) rfl ?_
      have hpl : (partsOf id r b).length = k := by rw [parts_len, HN.out]
      rw [HS.out]
      refine ⟨⟨A, c, by rw [hpl], fun hpos => ?_⟩, O2.out⟩
      rw [hpl] at hpos
      obtain ⟨_, A', cap, hv, h1, h2, h3⟩ := RW.out
      injection hv with e1 _ e3
      subst e1 e3
      rcases h3 with h3 | ⟨g, cur, hA, hF, hg, hc, ht⟩
      · omega
      refine ⟨g, cur, hA, hF, hg, fun i p hp => ?_⟩
      have hil : i < k := by have := (List.getElem?_eq_some_iff.1 hp).1; rwa [hpl] at this
      obtain ⟨v, hv, hbv⟩ := MD.out.part i hil
      have hpe : p = ⟨id, (i : Int), (k : Int), chunkOf r b i⟩ := by
        unfold partsOf at hp
        rw [List.getElem?_map, List.getElem?_range (by rw [HN.out]; exact hil)] at hp
        injection hp with hp
        rw [← hp, HN.out]
      subst hpe
      have hat : ∀ j u, [Value.int .i64 id, .int .i64 (i : Int), .int .i64 (k : Int), v][j]? = some u → j < 4 → cur[i * 4 + j]? = some u := fun j u hj h4 => by
        have h5 := flat_atg MD.out.fours hv h4
        rw [hj, ← ht, List.getElem?_take] at h5
        split at h5
        · simpa using h5
        · cases h5
      exact ⟨v, hat 0 _ rfl (by omega), hat 1 _ rfl (by omega), hat 2 _ rfl (by omega), hat 3 _ rfl (by omega), hbv⟩
end Go.Proofs.Ytemeglofblnnmaa
