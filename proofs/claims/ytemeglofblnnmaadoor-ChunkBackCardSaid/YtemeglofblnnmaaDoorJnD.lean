/- slices.IndexFunc over open texts; find; a text takes a part. -/
import Derived.Test.YtemeglofblnnmaaDoorJnC
import Derived.Deep.MidRow
namespace Go.Proofs.YtemeglofblnnmaaDoor
open Go.RowKit Go.Lib
set_option linter.unusedVariables false
set_option linter.unusedSimpArgs false
set_option maxRecDepth 100000
attribute [local go_sem ↓] Go.wp_at_zero Go.wp_at_succ

theorem find_cl (W : World) (cs : List Value) (f d frm id : Int) (b4 b5 : Nat) (h0 : cs[0]? = some (.int .u16 f)) (h1 : cs[1]? = some (.int .i64 d)) (k4 : Hld W b4 46 #[.int .u16 frm]) (k5 : Hld W b5 3 #[.int .i64 id]) :
    Calls Tryd.prog 50 (#[.agg cs.toArray] ++ #[.pointer (some ⟨b4, 0, none⟩), .pointer (some ⟨b5, 0, none⟩)]) W fun e w' => e = .returned (.bool (f == frm && d == id)) ∧ Only Noth W w' := by
  have O := (Only.refl Noth W).alloc (.cells cs.toArray 79)
  have a0 : (W.alloc (.cells cs.toArray 79)).cell? ⟨W.heap.size, 0, none⟩ = some (.int .u16 f) := by rw [(Hld.new W 79 cs.toArray).cell 0]; simpa using h0
  have a1 : (W.alloc (.cells cs.toArray 79)).cell? ⟨W.heap.size, 1, none⟩ = some (.int .i64 d) := by rw [(Hld.new W 79 cs.toArray).cell 1]; simpa using h1
  have a2 : (W.alloc (.cells cs.toArray 79)).cell? ⟨b4, 0, none⟩ = some (.int .u16 frm) := (k4.only O (fun h => h)).cell 0
  have a3 : (W.alloc (.cells cs.toArray 79)).cell? ⟨b5, 0, none⟩ = some (.int .i64 id) := (k5.only O (fun h => h)).cell 0
  have HO := Lib.hid O
  rw [show (#[Value.agg cs.toArray] ++ #[.pointer (some ⟨b4, 0, none⟩), .pointer (some ⟨b5, 0, none⟩)]) = #[Value.agg cs.toArray, .pointer (some ⟨b4, 0, none⟩), .pointer (some ⟨b5, 0, none⟩)] from rfl]
  clear O k4 k5 h0 h1
  cases hq : (f == frm)
  · go_enter Tryd.func50, Tryd.ntmps50
    go_wp2
    go_ret
    exact ⟨rfl, HO.out⟩
  · go_enter Tryd.func50, Tryd.ntmps50
    go_wp2
    go_ret
    exact ⟨rfl, HO.out⟩
theorem run_load_text (w : World) (b off : Nat) (cs : List Value) (hl : cs.length = 132) (hc : ∀ j v, cs[j]? = some v → w.cell? ⟨b, off + j, none⟩ = some v) : (Instr.loadAt 79 (.pointer (some ⟨b, off, none⟩))).run Tryd.prog w = .ok (.agg cs.toArray) w := by
  exact run_loadAt_mid (P := Tryd.prog) w b off 79 cs _ hc Tryd.underlying79 rfl (by rw [hl]; kernel_rfl)
/-- A text is loaded whole. -/
theorem wpList_load_text {ops : Array Oper} {rest : List Oper} {o : Oper} {a : Act} {Q : Exit → Act → World → Prop} (w : World) (hgd : o.guard = none) (x : Operand) (ho : o.op = .load 79 x) (b off : Nat) (hx : a.eval x = .pointer (some ⟨b, off, none⟩)) (cs : List Value)
    (hr : (Instr.loadAt 79 (.pointer (some ⟨b, off, none⟩))).run Tryd.prog w = .ok (.agg cs.toArray) w) (K : wpList Tryd.prog ops Q rest (a.put o.dst (.agg cs.toArray)) w) : wpList Tryd.prog ops Q (o :: rest) a w := by
  refine wpList_plain hgd fun K' hK' => ?_
  unfold Oper.wp execOp
  simp only [ho, hx, Sem.run_bind, hr, Result.andThen_ok, Sem.run_pure]
  exact hK' _ _ K
/-- The place of a text, as Go tells it. -/
def placeOf (i n : Nat) : Int := if i < n then (i : Int) else -1
theorem findIdx_hit {T : List Tx} {q : Tx → Bool} {k : Nat} {t : Tx} (ht : T[k]? = some t) (hq : q t = true) (hno : ∀ (j : Nat), j < k → ∀ (x : Tx), T[j]? = some x → q x = false) : T.findIdx q = k := by
  obtain ⟨hk, rfl⟩ := List.getElem?_eq_some_iff.1 ht
  rw [List.findIdx_eq hk]
  exact ⟨hq, fun j hj => by simpa using hno j hj _ (List.getElem?_eq_getElem (by omega))⟩
theorem findIdx_miss {T : List Tx} {q : Tx → Bool} (hno : ∀ (j : Nat) (x : Tx), T[j]? = some x → q x = false) : T.findIdx q = T.length := by
  rw [List.findIdx_eq_length]
  intro x hx
  obtain ⟨i, hi, rfl⟩ := List.mem_iff_getElem.1 hx
  simpa using hno i _ (List.getElem?_eq_getElem hi)
/-- Where texts lie. -/
def TsAt (w : World) (A : Option Addr) (css : List (List Value)) : Prop := 0 < css.length → ∃ b, A = some ⟨b, 0, none⟩ ∧ b < w.heap.size ∧ ∀ k cs, css[k]? = some cs → ∀ j v, cs[j]? = some v → w.cell? ⟨b, k * 132 + j, none⟩ = some v
theorem TsAt.noth {w w' : World} {A : Option Addr} {css : List (List Value)} (h : TsAt w A css) (ho : Only Noth w w') : TsAt w' A css := fun hp => by
  obtain ⟨b, hA, hb, hc⟩ := h hp
  exact ⟨b, hA, Nat.lt_of_lt_of_le hb ho.size, fun k cs hk j v hv => (ho.cell (p := ⟨b, k * 132 + j, none⟩) hb (fun h => h)).trans (hc k cs hk j v hv)⟩
theorem flat_at {css : List (List Value)} (hs : ∀ cs ∈ css, cs.length = 132) {k j : Nat} {cs : List Value} (hk : css[k]? = some cs) (hj : j < 132) : css.flatten[k * 132 + j]? = cs[j]? := by
  induction css generalizing k with
  | nil => cases hk
  | cons a t ih =>
    have ha := hs a (by simp)
    rw [List.flatten_cons]
    cases k with
    | zero =>
      injection hk with hk
      subst hk
      rw [List.getElem?_append_left (by omega)]
      congr 1
      omega
    | succ k =>
      rw [List.getElem?_append_right (by rw [ha]; omega), ha, show (k + 1) * 132 + j - 132 = k * 132 + j by omega]
      exact ih (fun cs hc => hs cs (by simp [hc])) hk
theorem Row.ts {w : World} {F : Nat → Prop} {A : Option Addr} {c : Nat} {css : List (List Value)} (h : Row w F 79 132 (.slice A css.length c) css.length css.flatten) (hs : ∀ cs ∈ css, cs.length = 132) : TsAt w A css := fun hp => by
  obtain ⟨_, A', cap, hv, h1, h2, h3⟩ := h
  injection hv with e1 _ e3
  subst e1 e3
  rcases h3 with h3 | ⟨g, cur, hA, _, hg, hc, ht⟩
  · omega
  · refine ⟨g, hA, (Array.getElem?_eq_some_iff.1 hg).1, fun k cs hk j v hv => ?_⟩
    have hjl := (List.getElem?_eq_some_iff.1 hv).1
    rw [hs cs (List.mem_of_getElem? hk)] at hjl
    have h5 := flat_at hs hk hjl
    rw [hv, ← ht, List.getElem?_take] at h5
    rw [cell_of_row w g _ cur 79 (0, 0) hg]
    split at h5
    · simpa using h5
    · cases h5
set_option maxHeartbeats 4000000 in
theorem idx_run (A : Option Addr) (c : Nat) (css : List (List Value)) (T : List Tx) (frm id : Int) (b4 b5 : Nat) (S : Nat → Prop) (hn : css.length ≤ 1000) (w : World) (hx : Txs w S css T) (ha : TsAt w A css) (k4 : Hld w b4 46 #[.int .u16 frm]) (k5 : Hld w b5 3 #[.int .i64 id]) :
    Calls Tryd.prog 49 #[.slice A css.length c, .func (.func 50) #[] #[.pointer (some ⟨b4, 0, none⟩), .pointer (some ⟨b5, 0, none⟩)]] w fun e w' => e = .returned (.int .i64 (placeOf (T.findIdx fun t => t.frm == frm && t.id == id) T.length)) ∧ Only Noth w w' := by
  have HX := Lib.hid hx
  have HA := Lib.hid ha
  have K4 := Lib.hid k4
  have K5 := Lib.hid k5
  have hl0 : (0 : Int) ≤ css.length := by omega
  clear hx ha k4 k5
  go_enter Tryd.func49, Tryd.ntmps49
  go_wp2_with fail
  go_loopw [8] (fun i W => ∃ k : Nat, k ≤ css.length ∧ i = .int .i64 (k : Int) ∧ (∀ j, j < k → ∀ x, T[j]? = some x → (x.frm == frm && x.id == id) = false) ∧ Only Noth w W) (fun i _ => css.length - (RowKit.intOf i).toNat)
  case atStart => exact ⟨0, Nat.zero_le _, rfl, fun j hj => absurd hj (Nat.not_lt_zero _), Only.refl _ _⟩
  case round =>
    obtain ⟨k, hk, rfl, hno, ho⟩ := hrel
    have NO := Lib.hid hno
    have O := Lib.hid ho
    have hk0 : (0 : Int) ≤ k := by omega
    clear hno ho
    by_cases hlt : k < css.length
    · obtain ⟨t, ht⟩ : ∃ t, T[k]? = some t := ⟨_, List.getElem?_eq_getElem (by rw [← HX.out.1]; exact hlt)⟩
      obtain ⟨cs, hcs, hti⟩ := HX.out.2 k t ht
      obtain ⟨b, hA, hb, hc⟩ := (HA.out.noth O.out) (by omega)
      have hld := Lib.hid (run_load_text wr b (k * 132) cs hti.len (fun j v hv => hc k cs hcs j v hv))
      have HT := Lib.hid ht
      have HTI := Lib.hid hti
      have hk1 : (k : Int) < css.length := by omega
      subst hA
      clear ht hcs hti hc
      go_wp2_with (refine wpList_load_text _ rfl (.tmp 14) rfl b (k * 132) rfl cs hld.out ?_)
      refine (find_cl wr cs t.frm t.id frm id b4 b5 HTI.out.c0 HTI.out.c1 (K4.out.only O.out (fun h => h)) (K5.out.only O.out (fun h => h))).mono ?_
      rintro e w1 ⟨rfl, ho⟩
      have O1 := Lib.hid (O.out.tr ho)
      obtain ⟨q, hq⟩ : ∃ q, (t.frm == frm && t.id == id) = q := ⟨_, rfl⟩
      rw [hq]
      have HQ := Lib.hid hq
      clear ho hq
      cases q
      · go_wp2_with fail
        go_roundw
        case rel =>
          refine ⟨k + 1, by omega, by go_num, fun j hj x hx => ?_, O1.out⟩
          by_cases e : j = k
          · subst e
            rw [HT.out] at hx
            injection hx with hx
            subst hx
            exact HQ.out
          · exact NO.out j (by omega) x hx
        case measure => simp [RowKit.intOf]; omega
      · go_wp2
        go_ret
        refine ⟨?_, O1.out⟩
        rw [findIdx_hit HT.out HQ.out NO.out]
        unfold placeOf
        rw [if_pos (by rw [← HX.out.1]; exact hlt)]
        rfl
    · obtain rfl : k = css.length := by omega
      go_wp2
      go_ret
      refine ⟨?_, O.out⟩
      rw [findIdx_miss (fun j x hx => NO.out j (by have := (List.getElem?_eq_some_iff.1 hx).1; rw [HX.out.1]; exact this) x hx)]
      unfold placeOf
      rw [if_neg (Nat.lt_irrefl _)]
      rfl
set_option maxHeartbeats 2000000 in
theorem find_run (R S : Nat → Prop) (g : Nat) (J : Jn) (frm id : Int) (w : World) (h : JoinAt R S w g J) :
    Calls Tryd.prog 36 #[.pointer (some ⟨g, 0, none⟩), .int .u16 frm, .int .i64 id] w fun e w' => e = .returned (.int .i64 (placeOf (J.find frm id) J.T.length)) ∧ Only Noth w w' := by
  obtain ⟨_, hok, A, c, css, hb, hr, hx⟩ := h
  have a2 := ((Only.refl Noth w).alloc (.cells #[.int .u16 frm] 46)).alloc (.cells #[.int .i64 id] 3)
  have K4 := Lib.hid ((Hld.new w 46 #[.int .u16 frm]).alloc (.cells #[.int .i64 id] 3))
  have K5 := Lib.hid (show Hld ((w.alloc (.cells #[.int .u16 frm] 46)).alloc (.cells #[.int .i64 id] 3)) (w.heap.size + 1) 3 #[.int .i64 id] by have := Hld.new (w.alloc (.cells #[.int .u16 frm] 46)) 3 #[.int .i64 id]; simpa using this)
  have hlen : css.length = J.T.length := hx.1
  have h16 := hok.len
  have HT := Lib.hid (show TsAt _ A css from (show TsAt w A css from by rw [← hlen] at hr; exact hr.ts hx.len).noth a2)
  have HX := Lib.hid (hx.only a2 (fun _ _ h => h))
  have m0 : _ = some (Value.slice A J.T.length c) := (hb.only a2 (fun h => h)).cell 0
  have O := Lib.hid a2
  clear hb hr hx a2
  go_enter Tryd.func36, Tryd.ntmps36
  go_wp2_with fail
  have hidx := idx_run A c css J.T frm id w.heap.size (w.heap.size + 1) _ (by omega) _ HX.out HT.out K4.out K5.out
  rw [hlen] at hidx
  refine hidx.mono ?_
  rintro e w1 ⟨rfl, ho⟩
  replace O := Lib.hid (O.out.tr ho)
  clear ho
  go_wp2
  go_ret
  exact ⟨rfl, O.out⟩
end Go.Proofs.YtemeglofblnnmaaDoor
