/- The reference's joiner: what is missing; whether a part may be. -/
import Derived.Test.YtemeglofblnnmaaRjB
namespace Go.Proofs.Ytemeglofblnnmaa
open Go.RowKit Go.Lib
set_option linter.unusedVariables false
set_option linter.unusedSimpArgs false
set_option maxRecDepth 100000
attribute [local go_sem ↓] Go.wp_at_zero Go.wp_at_succ

/-- A piece's cell. -/
theorem Cs.piece {w : World} {S : Nat → Prop} {B : Option Addr} {t : Tx} (h : Cs w S B (pcs t.pcs)) {k : Nat} (hk : k < t.pcs.length) : ∃ b o, B = some ⟨b, o, none⟩ ∧ S b ∧ b < w.heap.size ∧ w.cell? ⟨b, o + k * 2, none⟩ = some (.bool (t.has k)) ∧ w.cell? ⟨b, o + k * 2 + 1, none⟩ = some (.string ⟨(t.piece k).toArray⟩) := by
  have hp : 0 < (pcs t.pcs).length := by rw [pcs_len]; omega
  obtain ⟨b, o, hB, hS, hb, hc⟩ := h hp
  obtain ⟨h1, h2⟩ := pcs_at (List.getElem?_eq_getElem hk)
  have e1 : t.has k = (t.pcs[k]).isSome := by unfold Tx.has; rw [List.getElem?_eq_getElem hk]; rfl
  have e2 : t.piece k = (t.pcs[k]).getD [] := by unfold Tx.piece; rw [List.getElem?_eq_getElem hk]; rfl
  refine ⟨b, o, hB, hS, hb, ?_, ?_⟩
  · rw [e1]; exact hc _ _ h1
  · rw [e2, Nat.add_assoc]; exact hc _ _ h2
set_option maxHeartbeats 4000000 in
theorem rmiss_run (S : Nat → Prop) (v : Value) (J : Jn) (frm id : Int) (w : World) (h : RJ w S v J) (hl : J.T.length ≤ 1000000) (hok : ∀ t ∈ J.T, t.pcs.length ≤ 64) :
    Calls Try.prog 29 #[v, .int .u16 frm, .int .i64 id] w fun e w' => (∃ v, e = .returned v ∧ NatsAt w' (New w) v (jmiss J frm id)) ∧ Only Noth w w' := by
  have H0 := Lib.hid h
  obtain ⟨u, hv, hT⟩ := h
  subst hv
  have hsh : ∃ A c, u = .slice A J.T.length c := by obtain ⟨A, c, _, h, _⟩ := hT; exact ⟨A, c, h⟩
  obtain ⟨A, c, rfl⟩ := hsh
  have BX := Lib.hid (Hld.new w 48 #[.slice A J.T.length c, .int .i64 J.lost])
  have O := Lib.hid ((Only.refl Noth w).alloc (.cells #[.slice A J.T.length c, .int .i64 J.lost] 48))
  obtain ⟨W, hW⟩ : ∃ W, w.alloc (.cells #[.slice A J.T.length c, .int .i64 J.lost] 48) = W := ⟨_, rfl⟩
  rw [hW] at BX O
  have H1 := Lib.hid (H0.out.noth O.out)
  have HT := Lib.hid (hT.only O.out (fun _ _ h => h))
  have HOK := Lib.hid hok
  have m0 : W.cell? ⟨w.heap.size, 0, none⟩ = some (.slice A J.T.length c) := BX.out.cell 0
  have m1 : W.cell? ⟨w.heap.size, 1, none⟩ = some (.int .i64 J.lost) := BX.out.cell 1
  clear hT hok H0
  go_enter Try.func29, Try.ntmps29
  go_wp2_with fail
  refine (rfind_run S _ J frm id _ H1.out hl).mono ?_
  rintro e w1 ⟨rfl, ho⟩
  have O1 := Lib.hid (O.out.tr ho)
  have BX1 := Lib.hid (BX.out.only ho (fun h => h))
  have HT1 := Lib.hid (HT.out.only ho (fun _ _ h => h))
  have hnil : NatsAt w1 (New w1) (.slice none 0 0) [] := ⟨rfl, none, 0, rfl, Nat.le_refl _, Nat.zero_le _, .inl rfl⟩
  have HNIL := Lib.hid hnil
  clear ho H1 hnil hW m0 m1 HT
  obtain ⟨i, hi⟩ : ∃ i, J.find frm id = i := ⟨_, rfl⟩
  have hm : jmiss J frm id = match J.T[i]? with
    | some t => t.gaps t.pcs.length
    | none => [] := by unfold jmiss; rw [hi]; cases J.T[i]? <;> rfl
  rw [hi]
  have HM := Lib.hid hm
  clear hm hi
  by_cases hlt : i < J.T.length
  · have hp : placeOf i J.T.length = (i : Int) := by unfold placeOf; rw [if_pos hlt]
    rw [hp]
    obtain ⟨t, ht⟩ : ∃ t, J.T[i]? = some t := ⟨_, List.getElem?_eq_getElem hlt⟩
    have hm2 := HM.out
    rw [ht] at hm2
    have HM2 := Lib.hid hm2
    have hn64 := HOK.out t (List.mem_of_getElem? ht)
    obtain ⟨b, o, B, d, hA, _, hb, ⟨_, _, c2⟩, hcs, _, _⟩ := HT1.out.get ht
    subst hA
    have C2 := Lib.hid c2
    have CS := Lib.hid hcs
    have HBL := Lib.hid hb
    have hi0 : (0 : Int) ≤ i := by omega
    have hilt : (i : Int) < J.T.length := by omega
    have hi16 : J.T.length ≤ 1000000 := hl
    obtain ⟨n, hn⟩ : ∃ n, t.pcs.length = n := ⟨_, rfl⟩
    rw [hn] at C2 hn64
    have HN := Lib.hid hn
    have hn0 : (0 : Int) ≤ n := by omega
    obtain ⟨i0, hti, hz0, hzs, hzb⟩ := info_parts intinfo1
    have HTI := Lib.hid hti
    have HZ0 := Lib.hid hz0
    have HZS := Lib.hid hzs
    have HZB := Lib.hid hzb
    clear ht hm2 hb c2 hcs hn hp HM hti hz0 hzs hzb
    go_wp2_with fail
    go_loopw [8, 9] (fun v8 i W => ∃ k : Nat, k ≤ n ∧ i = .int .i64 (k : Int) ∧ NatsAt W (New w1) v8 (t.gaps k) ∧ Only Noth w1 W) (fun _ i _ => n - (RowKit.intOf i).toNat)
    case atStart => exact ⟨0, Nat.zero_le _, rfl, HNIL.out, Only.refl _ _⟩
    case round =>
      obtain ⟨k, hk, rfl, hrow, ho⟩ := hrel
      have RW := Lib.hid hrow
      have O2 := Lib.hid ho
      have hk0 : (0 : Int) ≤ k := by omega
      obtain ⟨A8, c8, rfl⟩ := hrow.shape
      have m0 : wr.cell? ⟨w.heap.size, 0, none⟩ = some (.slice (some ⟨b, o, none⟩) J.T.length c) := (BX1.out.only ho (fun h => h)).cell 0
      have c2 : wr.cell? ⟨b, o + i * 3 + 2, none⟩ = some (.slice B n d) := (ho.cell (p := ⟨b, o + i * 3 + 2, none⟩) HBL.out (fun h => h)).trans C2.out
      clear hrow ho
      by_cases hkn : k < n
      · have hk1 : (k : Int) < n := by omega
        have hgs := Tx.gaps_succ t k
        have hgl := Tx.gaps_len t k
        obtain ⟨q, hq⟩ : ∃ q, t.has k = q := ⟨_, rfl⟩
        obtain ⟨b2, o2, hB, _, _, ck, _⟩ := (CS.out.noth O2.out).piece (k := k) (by rw [HN.out]; exact hkn)
        subst hB
        rw [hq] at hgs ck
        have HGS := Lib.hid hgs
        clear hq hgs
        cases q
        · have HG2 := Lib.hid (show t.gaps (k + 1) = t.gaps k ++ [k] from HGS.out)
          have hti := HTI.out
          have R3 := Lib.hid (RW.out.alloc (.cells #[.int .i64 (k : Int)] 3))
          have SV := Lib.hid (show Src (wr.alloc (.cells #[.int .i64 (k : Int)] 3)) (fun _ => True) 1 (some ⟨wr.heap.size, 0, none⟩) 1 [.int .i64 (k : Int)] from by
            have hn := Hld.new wr 3 #[.int .i64 (k : Int)]
            exact ⟨rfl, fun _ => ⟨_, rfl, trivial, hn.lt, fun j u hu => by rw [add_plain', Nat.zero_add, hn.cell j]; simpa using hu⟩⟩)
          have HZ := Lib.hid (O1.out.size)
          have HZ2 := Lib.hid (O2.out.size)
          obtain ⟨n8, hn8⟩ : ∃ n8, (t.gaps k).length = n8 := ⟨_, rfl⟩
          rw [hn8] at hgl ⊢
          have HN8 := Lib.hid hn8
          clear hn8
          go_wp2_with (at_builtin; refine wpList_append_row _ rfl (.tmp 38) (.tmp 40) 54 rfl 3 i0 (.int .i64 0) 1 8 Try.underlying54 hti HZ0.out HZS.out HZB.out rfl (RowB A8 c8) _ _ n8 _ rfl (by have h := R3.out; unfold NatsAt at h; rw [HN8.out] at h; exact h.tightB.1) (some ⟨wr.heap.size, 0, none⟩) 1 1 _ rfl SV.out (by intro u hu; simp at hu; rw [hu]; rfl) (by simp only [maxLen]; omega) (by omega) ?_; intro v' w9 hrow9 ho9 hz9; have HR9 := Lib.hid hrow9; have HO9 := Lib.hid ho9; clear hrow9 ho9)
          have HB8 := Lib.hid (show ∀ x, RowB A8 c8 x → w1.heap.size ≤ x from fun x hx => (by have h := R3.out; unfold NatsAt at h; exact (h.tightB.2 x hx).1))
          have O9 := Lib.hid (show Only Noth w1 w9 from (O2.out.alloc (.cells #[.int .i64 (k : Int)] 3)).trans HO9.out (fun x hx hl => by have := HB8.out x hx; omega))
          clear ck c2 m0
          go_roundw
          case rel =>
            refine ⟨k + 1, by omega, by go_num, ?_, O9.out⟩
            rw [HG2.out]
            unfold NatsAt natCs
            rw [List.map_append, List.length_append, HN8.out]
            refine HR9.out.mono (fun x hx _ => ?_)
            rcases hx with hx | hx
            · exact HB8.out x hx
            · have h1 := hx.1
              simp only [World.size_alloc] at h1
              have := HZ2.out
              show w1.heap.size ≤ x
              omega
          case measure => simp [RowKit.intOf]; omega
        · have HG2 := Lib.hid (show t.gaps (k + 1) = t.gaps k from HGS.out)
          go_wp2_with fail
          go_roundw
          case rel => exact ⟨k + 1, by omega, by go_num, by rw [HG2.out]; exact RW.out, O2.out⟩
          case measure => simp [RowKit.intOf]; omega
      · obtain rfl : k = n := by omega
        go_wp2
        go_ret
        exact ⟨⟨_, rfl, by rw [HM2.out, HN.out]; exact RW.out.mono (fun x hx _ => Nat.le_trans O1.out.size hx)⟩, O1.out.trans O2.out (fun _ h _ => h)⟩
  · have hp : placeOf i J.T.length = -1 := by unfold placeOf; rw [if_neg hlt]
    rw [hp]
    have hm2 := HM.out
    rw [List.getElem?_eq_none (by omega)] at hm2
    have HM2 := Lib.hid hm2
    clear hp hm2 HM hlt
    go_wp2
    go_ret
    exact ⟨⟨_, rfl, by rw [HM2.out]; exact HNIL.out.mono (fun x hx _ => Nat.le_trans O1.out.size hx)⟩, O1.out⟩
set_option maxHeartbeats 2000000 in
theorem rmay_run (p : Pt) (A : Option Addr) (c : Nat) (hl : p.bs.length ≤ maxLen) (w : World) : Calls Try.prog 34 #[.agg (p.cells (.slice A p.bs.length c))] w fun e w' => e = .returned (.bool p.may) ∧ Only Noth w w' := by
  have hl2 : (p.bs.length : Int) ≤ 9223372036854775807 := by unfold maxLen at hl; omega
  have hl0 : (0 : Int) ≤ p.bs.length := by omega
  have O := Lib.hid ((Only.refl Noth w).alloc (.cells (p.cells (.slice A p.bs.length c)) 33))
  have HM := Lib.hid (show p.may = (decide (0 ≤ p.id) && decide (p.id ≤ 1099511627776) && decide (1 ≤ p.cnt) && decide (p.cnt ≤ 64) && decide (0 ≤ p.idx) && decide (p.idx < p.cnt) && decide ((p.bs.length : Int) ≤ 8192)) by
    unfold Pt.may
    congr 1
    by_cases h : p.bs.length ≤ 8192
    · have : (p.bs.length : Int) ≤ 8192 := by omega
      simp [h, this]
    · have : ¬ (p.bs.length : Int) ≤ 8192 := by omega
      simp [h, this])
  go_enter Try.func34, Try.ntmps34
  go_wp2
  all_goals go_ret
  all_goals refine ⟨ret_bool ?_, O.out⟩
  all_goals rw [HM.out]
  all_goals simp_all
  all_goals omega
end Go.Proofs.Ytemeglofblnnmaa
