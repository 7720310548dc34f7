/- Package crdt: Len, Get, List, View, Merge, Delta. -/
import Derived.Test.YtdclkbhkboaafaaCmEl
namespace Go.Proofs.Ytdclkbhkboaafaa
open Go.RowKit Go.Lib Go.Sort
set_option linter.unusedVariables false
set_option linter.unusedSimpArgs false
set_option maxRecDepth 100000
attribute [local go_sem ↓] Go.wp_at_zero Go.wp_at_succ


theorem wpList_put_map {ops : Array Oper} {rest : List Oper} {o : Oper} {a : Act} {Q : Exit → Act → World → Prop} (w : World) (hg : o.guard = none) (m x v : Operand) (hop : o.op = .mapUpdate 60 m x v) (b : Nat) (L : List Ent) (e : Ent) (hm : a.eval m = .map (some b)) (hx : a.eval x = .string e.key) (hv : a.eval v = .agg e.arr)
    (h : MapIs w b L) (hk : e.key.size ≤ 9223372036854775807) (hn : L.length < 9223372036854775807) (K : ∀ w', MapIs w' b (cput e L) → Only (fun k => k = b) w w' → wpList Try.prog ops Q rest (a.put o.dst undef) w') : wpList Try.prog ops Q (o :: rest) a w := by
  refine wpList_plain hg fun K' hK' => ?_
  obtain ⟨w', hrun, h2, h3⟩ := put_run h e hk hn
  unfold Oper.wp
  simp [execOp, hop, hm, hx, hv, hrun, Result.andThen]
  exact hK' _ _ (K w' h2 h3)
/-- A list of entries does not lie in a map's block. -/
theorem Ents.beside {w w' : World} {v : Value} {l : List Ent} {b : Nat} {L : List Ent} (h : Ents w v l) (hm : MapIs w b L) (ho : Only (fun k => k = b) w w') : Ents w' v l := by
  refine h.only ho (fun A c hv hl bb o hA e => ?_)
  have e : bb = b := e
  subst e
  obtain ⟨A', c', hv', hel, _⟩ := h
  rw [hv] at hv'
  injection hv' with e1 _ _
  subst e1
  obtain ⟨b2, o2, hA2, _, _, hc⟩ := hel (by simpa using hl)
  rw [hA] at hA2
  injection hA2 with hA2
  injection hA2 with e2 e3
  subst e2 e3
  obtain ⟨x, hx⟩ : ∃ x, l[0]? = some x := ⟨_, List.getElem?_eq_getElem hl⟩
  have h1 := hc 0 x.cl (by rw [List.getElem?_map, hx]; rfl) 0 _ rfl
  obtain ⟨es, clock, h2, _⟩ := hm
  unfold World.cell? at h1
  rw [h2] at h1
  cases h1
theorem cm_len (g b : Nat) (L : List Ent) (w : World) (h : CmAt w g b L) : Calls Try.prog 34 #[.pointer (some ⟨g, 0, none⟩)] w fun e w' => e = .returned (.int .i64 L.length) ∧ Only Noth w w' := by
  have c0 : w.cell? ⟨g, 0, none⟩ = some (.map (some b)) := h.box.cell 0
  have hlr : (Builtin.len_ #[60] 3 #[.map (some b)]).run Try.prog w = .ok (.int .i64 L.length) w := len_run h.own _
  clear h
  go_enter Try.func34, Try.ntmps34
  go_wp2
  go_ret
  exact ⟨rfl, Only.refl _ _⟩
theorem list_cl (w : World) (x : Ent) : Calls Try.prog 39 (#[.agg x.arr] ++ #[]) w fun r w' => r = .returned (.bool true) ∧ Only Noth w w' := by
  rw [Array.append_empty]
  go_enter Try.func39, Try.ntmps39
  go_wp2
  go_ret
  exact ⟨rfl, (Only.refl _ _).alloc _⟩
theorem cm_list (g b : Nat) (L : List Ent) (w : World) (h : CmAt w g b L) : Calls Try.prog 18 #[.pointer (some ⟨g, 0, none⟩)] w fun e w' => WhichAns w L e w' ∧ Only Noth w w' := by
  have M := Lib.hid h
  clear h
  go_enter Try.func18, Try.ntmps18
  go_wp2_with fail
  refine (cm_which g b L (fun _ => true) 39 #[] w (fun args w => by rfl) M.out (fun W x _ _ => list_cl W x)).mono ?_
  rintro e w1 ⟨⟨A, c, rfl, hr⟩, ho⟩
  rw [List.filter_eq_self.2 (fun _ _ => rfl)] at hr ⊢
  have HR := Lib.hid hr
  have HO := Lib.hid ho
  clear hr ho
  go_wp2
  go_ret
  exact ⟨⟨A, c, rfl, HR.out⟩, HO.out⟩
theorem view_cl (w : World) (x : Ent) (nb : Nat) (now : Int) (h : Hld w nb 3 #[.int .i64 now]) : Calls Try.prog 46 (#[.agg x.arr] ++ #[.pointer (some ⟨nb, 0, none⟩)]) w fun r w' => r = .returned (.bool (decide (now < x.til))) ∧ Only Noth w w' := by
  have c0 : (w.alloc (.cells x.arr 34)).cell? ⟨nb, 0, none⟩ = some (.int .i64 now) := (h.only ((Only.refl Noth w).alloc (.cells x.arr 34)) (fun h => h)).cell 0
  rw [show (#[Value.agg x.arr] ++ #[.pointer (some ⟨nb, 0, none⟩)]) = #[Value.agg x.arr, .pointer (some ⟨nb, 0, none⟩)] from rfl]
  go_enter Try.func46, Try.ntmps46
  go_wp2_with fail
  refine (entry_counts x now _).mono ?_
  rintro e w1 ⟨rfl, ho⟩
  have HO := Lib.hid (((Only.refl Noth w).alloc (.cells x.arr 34)).tr ho)
  clear ho c0
  go_wp2
  go_ret
  exact ⟨rfl, HO.out⟩
theorem cm_view (g b : Nat) (L : List Ent) (now : Int) (w : World) (h : CmAt w g b L) : Calls Try.prog 28 #[.pointer (some ⟨g, 0, none⟩), .int .i64 now] w fun e w' => WhichAns w (L.filter fun x => decide (now < x.til)) e w' ∧ Only Noth w w' := by
  have a1 := (Only.refl Noth w).alloc (.cells #[.int .i64 now] 3)
  have M := Lib.hid (h.noth a1)
  have ON := Lib.hid a1
  have B := Lib.hid (Hld.new w 3 #[.int .i64 now])
  clear h a1
  go_enter Try.func28, Try.ntmps28
  go_wp2_with fail
  refine (cm_which g b L (fun x => decide (now < x.til)) 46 #[.pointer (some ⟨w.heap.size, 0, none⟩)] _ (fun args w => by rfl) M.out (fun W x ho _ => view_cl W x w.heap.size now (B.out.only ho (fun h => h)))).mono ?_
  rintro e w1 ⟨⟨A, c, rfl, hr⟩, ho⟩
  have HR := Lib.hid (hr.mono (G := New w) (fun k hk _ => by have := ON.out.size; unfold New at hk ⊢; omega))
  have HO := Lib.hid (ON.out.tr ho)
  clear hr ho
  go_wp2
  go_ret
  exact ⟨⟨A, c, rfl, HR.out⟩, HO.out⟩
/-- Entries are told, one behind the other: the map, and how many were taken. -/
def cmerge (L : List Ent) (l : List Ent) : List Ent × Nat := l.foldl (fun s e => ((cstep s.1 e).1, if (cstep s.1 e).2.1 then s.2 + 1 else s.2)) (L, 0)
theorem cmerge_snoc (L l : List Ent) (e : Ent) : cmerge L (l ++ [e]) = ((cstep (cmerge L l).1 e).1, if (cstep (cmerge L l).1 e).2.1 then (cmerge L l).2 + 1 else (cmerge L l).2) := by unfold cmerge; rw [List.foldl_append]; rfl
theorem cmerge_le (L l : List Ent) : (cmerge L l).2 ≤ l.length := by
  suffices h : ∀ (l : List Ent) (s : List Ent × Nat), (l.foldl (fun s e => ((cstep s.1 e).1, if (cstep s.1 e).2.1 then s.2 + 1 else s.2)) s).2 ≤ s.2 + l.length by
    have h1 := h l (L, 0)
    simp only [Nat.zero_add] at h1
    exact h1
  intro l
  induction l with
  | nil => intro s; simp
  | cons a t ih =>
    intro s
    rw [List.foldl_cons]
    refine Nat.le_trans (ih _) ?_
    simp only [List.length_cons]
    split <;> omega
set_option maxHeartbeats 2000000 in
theorem cm_merge (g b : Nat) (L l : List Ent) (A : Option Addr) (c : Nat) (hs : ∀ e ∈ l, e.key.size ≤ 9223372036854775807 ∧ e.val.size ≤ 9223372036854775807) (w : World) (h : CmAt w g b L) (he : Ents w (.slice A l.length c) l) :
    Calls Try.prog 23 #[.pointer (some ⟨g, 0, none⟩), .slice A l.length c] w fun e w' => e = .returned (.int .i64 (cmerge L l).2) ∧ CmAt w' g b (cmerge L l).1 ∧ Only (fun k => k = b) w w' := by
  have M := Lib.hid h
  have E := Lib.hid he
  have HS := Lib.hid hs
  have hl : l.length ≤ 9223372036854775807 := by obtain ⟨_, _, _, _, h1, h2⟩ := he; omega
  have hn0 : (0 : Int) ≤ l.length := by omega
  clear h he hs
  go_enter Try.func23, Try.ntmps23
  go_wp2_with fail
  go_loopw [5, 12] (fun n i W => ∃ k : Nat, k ≤ l.length ∧ i = .int .i64 (k : Int) ∧ n = .int .i64 ((cmerge L (l.take k)).2 : Int) ∧ CmAt W g b (cmerge L (l.take k)).1 ∧ Ents W (.slice A l.length c) l ∧ Only (fun k => k = b) w W) (fun _ i _ => l.length - (RowKit.intOf i).toNat)
  case atStart => exact ⟨0, Nat.zero_le _, rfl, by simp [cmerge], by simpa [cmerge] using M.out, E.out, Only.refl _ _⟩
  case round =>
    obtain ⟨k, hk, rfl, rfl, hm, he, ho⟩ := hrel
    have M1 := Lib.hid hm
    have E1 := Lib.hid he
    have ON := Lib.hid ho
    clear hm he ho M E
    by_cases hlt : k < l.length
    · obtain ⟨x, hx⟩ : ∃ x, l[k]? = some x := ⟨_, List.getElem?_eq_getElem hlt⟩
      have HX := Lib.hid hx
      have XS := Lib.hid (HS.out x (List.mem_of_getElem? hx))
      obtain ⟨A', c', q0, hel, _, _⟩ := E1.out
      injection q0 with q1 q2 q3
      subst q1 q3
      clear q2
      obtain ⟨bb, o, hA, _, hbl, e0, e1, e2, e3, e4⟩ := hel.ent hx
      subst hA
      have hcn := cmerge_le L (l.take k)
      rw [List.length_take] at hcn
      have hb0 : (0 : Int) ≤ k := by omega
      have hb1 : (k : Int) < l.length := by omega
      obtain ⟨n, hn⟩ : ∃ n, (cmerge L (l.take k)).2 = n := ⟨_, rfl⟩
      have HN := Lib.hid hn
      rw [hn] at hcn ⊢
      have hn1 : (n : Int) + 1 ≤ 9223372036854775807 := by omega
      have hn2 : (0 : Int) ≤ n := by omega
      clear hx hel hn
      go_wp2_with fail
      have a1 := (Only.refl Noth wr).alloc (.cells x.arr 34)
      refine (cm_put g b (cmerge L (l.take k)).1 x XS.out.1 XS.out.2 _ (M1.out.noth a1)).mono ?_
      rintro r w1 ⟨rfl, hm2, ho2⟩
      have M2 := Lib.hid hm2
      have E2 := Lib.hid (((E1.out.noth a1).beside (M1.out.noth a1).own ho2))
      have O2 := Lib.hid ((ON.out.trans a1 (fun j hj _ => hj.elim)).trans ho2 (fun j hj _ => hj))
      have SN := Lib.hid (show cmerge L (l.take (k + 1)) = ((cstep (cmerge L (l.take k)).1 x).1, if (cstep (cmerge L (l.take k)).1 x).2.1 then n + 1 else n) by
        rw [List.take_add_one, HX.out, Option.toList_some, cmerge_snoc, HN.out])
      clear a1 hm2 ho2 e0 e1 e2 e3 e4
      obtain ⟨ok, hok⟩ : ∃ ok, (cstep (cmerge L (l.take k)).1 x).2.1 = ok := ⟨_, rfl⟩
      rw [hok] at SN ⊢
      clear hok
      cases ok
      · go_wp2_with fail
        go_roundw
        case rel => exact ⟨k + 1, by omega, by go_num, by rw [SN.out]; rfl, by rw [SN.out]; exact M2.out, E2.out, O2.out⟩
        case measure => simp [RowKit.intOf]; omega
      · go_wp2_with fail
        go_roundw
        case rel => exact ⟨k + 1, by omega, by go_num, by rw [SN.out]; simp, by rw [SN.out]; exact M2.out, E2.out, O2.out⟩
        case measure => simp [RowKit.intOf]; omega
    · obtain rfl : k = l.length := by omega
      rw [List.take_of_length_le (Nat.le_refl _)] at M1 ⊢
      go_wp2
      go_ret
      exact ⟨rfl, M1.out, ON.out⟩
end Go.Proofs.Ytdclkbhkboaafaa
