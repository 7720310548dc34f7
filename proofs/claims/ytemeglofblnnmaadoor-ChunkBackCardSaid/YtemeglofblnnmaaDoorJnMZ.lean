/- The joiner: what is missing. -/
import Derived.Test.YtemeglofblnnmaaDoorJnIZ
namespace Go.Proofs.YtemeglofblnnmaaDoor
open Go.RowKit Go.Lib
set_option linter.unusedVariables false
set_option linter.unusedSimpArgs false
set_option maxRecDepth 100000
attribute [local go_sem ↓] Go.wp_at_zero Go.wp_at_succ

/-- Which parts did not come yet. -/
def Tx.gaps (t : Tx) (k : Nat) : List Nat := (List.range k).filter fun i => !t.has i
theorem Tx.gaps_succ (t : Tx) (k : Nat) : t.gaps (k + 1) = if t.has k then t.gaps k else t.gaps k ++ [k] := by
  unfold Tx.gaps
  rw [List.range_succ, List.filter_append]
  cases h : t.has k <;> simp [h]
theorem Tx.gaps_len (t : Tx) (k : Nat) : (t.gaps k).length ≤ k := by
  unfold Tx.gaps
  refine Nat.le_trans (List.length_filter_le _ _) (by simp)
def jmiss (J : Jn) (frm id : Int) : List Nat := match J.T[J.find frm id]? with
  | some t => t.gaps t.pcs.length
  | none => []
def natCs (l : List Nat) : List Value := l.map fun (k : Nat) => .int .i64 (k : Int)
/-- A row of small numbers. -/
def NatsAt (w : World) (S : Nat → Prop) (v : Value) (l : List Nat) : Prop := Row w S 3 1 v l.length (natCs l)
theorem intinfo1 : (Tryd.prog.info? 3).map (fun i => (i.zero, i.size, i.bytes)) = some (some (.int .i64 0), 1, 8) := by kernel_rfl
set_option maxHeartbeats 4000000 in
theorem missing_run (R S : Nat → Prop) (g : Nat) (J : Jn) (frm id : Int) (w : World) (h : JoinAt R S w g J) :
    Calls Tryd.prog 14 #[.pointer (some ⟨g, 0, none⟩), .int .u16 frm, .int .i64 id] w fun e w' => (∃ v, e = .returned v ∧ NatsAt w' (New w) v (jmiss J frm id)) ∧ Only Noth w w' := by
  have H := Lib.hid h
  go_enter Tryd.func14, Tryd.ntmps14
  go_wp2_with fail
  refine (find_run R S g J frm id w h).mono ?_
  rintro e w1 ⟨rfl, ho⟩
  have O1 := Lib.hid ho
  have H1 := Lib.hid (h.only ho (fun h => h) (fun _ _ h => h) (fun _ _ h => h))
  have hnil : NatsAt w1 (New w1) (.slice none 0 0) [] := ⟨rfl, none, 0, rfl, Nat.le_refl _, Nat.zero_le _, .inl rfl⟩
  have HNIL := Lib.hid hnil
  clear ho h H hnil
  obtain ⟨i, hi⟩ : ∃ i, J.find frm id = i := ⟨_, rfl⟩
  have hm : jmiss J frm id = match J.T[i]? with
    | some t => t.gaps t.pcs.length
    | none => [] := by unfold jmiss; rw [hi]
  rw [hi]
  have HM := Lib.hid hm
  clear hm hi
  by_cases hlt : i < J.T.length
  · have hp : placeOf i J.T.length = (i : Int) := by unfold placeOf; rw [if_pos hlt]
    rw [hp]
    obtain ⟨t, ht⟩ : ∃ t, J.T[i]? = some t := ⟨_, List.getElem?_eq_getElem hlt⟩
    have hm2 := HM.out
    rw [ht] at hm2
    have HM2 := Lib.hid hm2
    obtain ⟨hok, A, c, css, hst⟩ := H1.out.st
    have htok := hok.all t (List.mem_of_getElem? ht)
    obtain ⟨b, cur, cs, rfl, hc0, hcur, htx, hcs⟩ := hst.blk ht
    have m0 : w1.cell? ⟨g, 0, none⟩ = some (.slice (some ⟨b, 0, none⟩) J.T.length c) := hst.box.cell 0
    have c2 : w1.cell? ⟨b, i * 132 + 2, none⟩ = some (.int .i64 t.pcs.length) := (hcur.cell _).trans (hcs 2 _ htx.c2)
    have HB := Lib.hid hst.box
    have HCUR := Lib.hid hcur
    have HCM := Lib.hid (fun k hk => hcs (4 + k) _ (htx.came k hk))
    have hn64 : t.pcs.length ≤ 64 := htok.n2
    have hi0 : (0 : Int) ≤ i := by omega
    have hilt : (i : Int) < J.T.length := by omega
    have hi16 : J.T.length ≤ 16 := hok.len
    obtain ⟨n, hn⟩ : ∃ n, t.pcs.length = n := ⟨_, rfl⟩
    rw [hn] at c2 hn64
    have HN := Lib.hid hn
    have hn0 : (0 : Int) ≤ n := by omega
    obtain ⟨i0, hti, hz0, hzs, hzb⟩ := info_parts intinfo1
    have HTI := Lib.hid hti
    have HZ0 := Lib.hid hz0
    have HZS := Lib.hid hzs
    have HZB := Lib.hid hzb
    clear ht hm2 hok hst htok hcur htx hcs hn hp HM hti hz0 hzs hzb
    go_wp2_with fail
    clear m0 c2
    go_loopw [8, 24] (fun v8 i W => ∃ k : Nat, k ≤ n ∧ i = .int .i64 (k : Int) ∧ NatsAt W (New w1) v8 (t.gaps k) ∧ Only Noth w1 W) (fun _ i _ => n - (RowKit.intOf i).toNat)
    case atStart => exact ⟨0, Nat.zero_le _, rfl, HNIL.out, Only.refl _ _⟩
    case round =>
      obtain ⟨k, hk, rfl, hrow, ho⟩ := hrel
      have RW := Lib.hid hrow
      have O2 := Lib.hid ho
      have hk0 : (0 : Int) ≤ k := by omega
      obtain ⟨A8, c8, rfl⟩ := hrow.shape
      clear hrow ho
      by_cases hkn : k < n
      · have hk1 : (k : Int) < n := by omega
        have hk64 : (k : Int) < 64 := by omega
        have m0 : wr.cell? ⟨g, 0, none⟩ = some (.slice (some ⟨b, 0, none⟩) J.T.length c) := (HB.out.only O2.out (fun h => h)).cell 0
        have hgs := Tx.gaps_succ t k
        have hgl := Tx.gaps_len t k
        obtain ⟨q, hq⟩ : ∃ q, t.has k = q := ⟨_, rfl⟩
        have ck : wr.cell? ⟨b, i * 132 + (4 + k), none⟩ = some (.bool q) := by rw [← hq]; exact ((HCUR.out.only O2.out (fun h => h)).cell _).trans (HCM.out k (by omega))
        have ck2 : wr.cell? ⟨b, i * 132 + 4 + k, none⟩ = some (.bool q) := by rw [Nat.add_assoc]; exact ck
        rw [hq] at hgs
        have HGS := Lib.hid hgs
        clear hq hgs
        cases q
        · have HG2 := Lib.hid (show t.gaps (k + 1) = t.gaps k ++ [k] from HGS.out)
          have hti := HTI.out
          have R3 := Lib.hid (RW.out.alloc (.cells #[.int .i64 (k : Int)] 3))
          have SV := Lib.hid (show Src (wr.alloc (.cells #[.int .i64 (k : Int)] 3)) (fun _ => True) 1 (some ⟨wr.heap.size, 0, none⟩) 1 [.int .i64 (k : Int)] from by
            have hn := Hld.new wr 3 #[.int .i64 (k : Int)]
            exact ⟨rfl, fun _ => ⟨_, rfl, trivial, hn.lt, fun j u hu => by rw [add_plain', Nat.zero_add, hn.cell j]; simpa using hu⟩⟩)
          have HZ := Lib.hid (O1.out.size)
          have HZ2 := Lib.hid (O2.out.size)
          obtain ⟨n8, hn8⟩ : ∃ n8, (t.gaps k).length = n8 := ⟨_, rfl⟩
          rw [hn8] at hgl ⊢
          have HN8 := Lib.hid hn8
          clear hn8
          go_wp2_with (at_builtin; refine wpList_append_row _ rfl (.tmp 38) (.tmp 40) 47 rfl 3 i0 (.int .i64 0) 1 8 Tryd.underlying47 hti HZ0.out HZS.out HZB.out rfl (RowB A8 c8) _ _ n8 _ rfl (by have h := R3.out; unfold NatsAt at h; rw [HN8.out] at h; exact h.tightB.1) (some ⟨wr.heap.size, 0, none⟩) 1 1 _ rfl SV.out (by intro u hu; simp at hu; rw [hu]; rfl) (by simp only [maxLen]; omega) (by omega) ?_; intro v' w9 hrow9 ho9 hz9; have HR9 := Lib.hid hrow9; have HO9 := Lib.hid ho9; clear hrow9 ho9)
          have HB8 := Lib.hid (show ∀ x, RowB A8 c8 x → w1.heap.size ≤ x from fun x hx => (by have h := R3.out; unfold NatsAt at h; exact (h.tightB.2 x hx).1))
          have O9 := Lib.hid (show Only Noth w1 w9 from (O2.out.alloc (.cells #[.int .i64 (k : Int)] 3)).trans HO9.out (fun x hx hl => by have := HB8.out x hx; omega))
          go_roundw
          case rel =>
            refine ⟨k + 1, by omega, by go_num, ?_, O9.out⟩
            rw [HG2.out]
            unfold NatsAt natCs
            rw [List.map_append, List.length_append, HN8.out]
            refine HR9.out.mono (fun x hx _ => ?_)
            rcases hx with hx | hx
            · exact HB8.out x hx
            · have h1 := hx.1
              simp only [World.size_alloc] at h1
              have := HZ2.out
              show w1.heap.size ≤ x
              omega
          case measure => simp [RowKit.intOf]; omega
        · have HG2 := Lib.hid (show t.gaps (k + 1) = t.gaps k from HGS.out)
          go_wp2_with fail
          go_roundw
          case rel => exact ⟨k + 1, by omega, by go_num, by rw [HG2.out]; exact RW.out, O2.out⟩
          case measure => simp [RowKit.intOf]; omega
      · obtain rfl : k = n := by omega
        go_wp2
        go_ret
        exact ⟨⟨_, rfl, by rw [HM2.out, HN.out]; exact RW.out.mono (fun x hx _ => Nat.le_trans O1.out.size hx)⟩, O1.out.trans O2.out (fun _ h _ => h)⟩
  · have hp : placeOf i J.T.length = -1 := by unfold placeOf; rw [if_neg hlt]
    rw [hp]
    have hm2 := HM.out
    rw [List.getElem?_eq_none (by omega)] at hm2
    have HM2 := Lib.hid hm2
    clear hp hm2 HM hlt
    go_wp2
    go_ret
    exact ⟨⟨_, rfl, by rw [HM2.out]; exact HNIL.out.mono (fun x hx _ => Nat.le_trans O1.out.size hx)⟩, O1.out⟩
end Go.Proofs.YtemeglofblnnmaaDoor
