/- Layer 13: awake. -/
import Derived.Test.YtjdgmnaemopfdaaDoorPkT
import Derived.Lib.SlBytesConst
namespace Go.Proofs.YtjdgmnaemopfdaaDoor
open Go.RowKit Go.Lib
set_option linter.unusedVariables false
set_option maxRecDepth 100000
attribute [local go_sem ↓] Go.wp_at_zero Go.wp_at_succ

theorem parse_some (l : List UInt8) : ∃ p : Pkt, p.Parse l := by
  obtain ⟨k, f, q, s, z, hh⟩ := head_some l
  obtain ⟨ms, z1, h1, h2, -⟩ := mems_some z.b.length z (Nat.le_refl _) (head_len hh).2
  obtain ⟨es, z2, h3, -, -⟩ := ents_some ((z1.byte 101).byte 108).b.length ((z1.byte 101).byte 108) (Nat.le_refl _) (Rd.byte_sane (Rd.byte_sane h2 _) _)
  exact ⟨⟨k, f, q, s, ms, es⟩, z, z1, z2, hh, h1, h3⟩
/-- The packet of awake. -/
def k13 : Pkt := ⟨0, 1, 2, 3, [], []⟩
theorem k13_bytes : k13.bytes = [108, 105, 48, 101, 105, 49, 101, 105, 50, 101, 105, 51, 101, 108, 101, 108, 101, 101] := by
  simp [Pkt.bytes, k13, tList, tInt, itoa, decDigits]
theorem k13_check : k13.check = 0 := by
  unfold Pkt.check
  rw [k13_bytes]
  simp [k13, firstBad]
theorem k13_fit : k13.Fit := ⟨by decide, by decide, by decide, by decide, by decide, by decide, by decide, by decide, by simp [k13], by simp [k13]⟩
theorem k13_at (w : World) : PkAt w none 0 none 0 k13 := ⟨fun h => absurd h (by simp [k13]), fun h => absurd h (by simp [k13]), Nat.le_refl _, by decide, Nat.le_refl _, by decide⟩
/-- A packet's bytes end in e. -/
theorem bytes_last (p : Pkt) : ∃ t, p.bytes = t ++ [101] := ⟨[108] ++ _, by unfold Pkt.bytes tList; rfl⟩
theorem k13_not {p : Pkt} : p.bytes ≠ k13.bytes ++ [120] := by
  intro h
  obtain ⟨t, ht⟩ := bytes_last p
  rw [ht] at h
  have := (List.append_inj' h rfl).2
  simp at this
section
variable {P : Program} (w : World)
/-- Append to a row of one's own, and the row as it was: it stays below. -/
theorem run_append_keep (t ty e : TypeId) (i : TypeInfo) (z : Value) (size bytes : Nat) (ht : P.underlying t = some (.slice e)) (hi : P.info? e = some i) (hz : i.zero = some z)
    (hsize : i.size = size) (hby : i.bytes = bytes) (hzs : z.cells.size = size)
    (F S : Nat → Prop) (v : Value) (n : Nat) (hn : 0 < n) (xs : List Value) (hrow : Row w F e size v n xs)
    (A : Option Addr) (m c : Nat) (hm : 0 < m) (news : List Value) (hs : Src w S size A m news) (h1 : ∀ u ∈ news, u.oneCell' = true)
    (h63 : n + m ≤ maxLen) (hbytes : (n + m) * bytes ≤ 140737488355328) :
    ∃ v' w', (Builtin.append_ #[t, t] ty #[v, .slice A m c]).run P w = .ok v' w' ∧ Row w' (Plus F w w') e size v' (n + m) (xs ++ news) ∧ Only F w w' ∧ Row w' F e size v n xs := by
  subst hsize
  subst hby
  have hlen : (xs ++ news).length = (n + m) * i.size := by rw [List.length_append, hrow.1, hs.1, Nat.add_mul]
  obtain ⟨ad, rfl, _, _, hnews⟩ := hs.2 hm
  have hrow0 := hrow
  obtain ⟨hl, B, cap, rfl, hc1, hc2, hc3⟩ := hrow
  rcases hc3 with hc3 | ⟨g, cur, rfl, hF, hg, hcs, htake⟩
  · omega
  · by_cases hroom : n + m ≤ cap
    · have hfit : n * i.size + news.length ≤ cur.size := by
        rw [hs.1, ← Nat.add_mul]
        exact Nat.le_trans (Nat.mul_le_mul_right _ hroom) hcs
      have hr := run_append_room (P := P) w t ty e i ht hi g n cap cur hg ad m c news hs.1 hnews h1 hroom hfit
      refine ⟨_, _, hr, ⟨hlen, _, _, rfl, hroom, hc2, .inr ⟨g, _, rfl, .inl hF, setRow_heap w g cur _ e _ hg, ?_, ?_⟩⟩, (Only.refl F w).setRow (fun _ => hF) _, ⟨hl, _, _, rfl, hc1, hc2, .inr ⟨g, _, rfl, hF, setRow_heap w g cur _ e _ hg, ?_, ?_⟩⟩⟩
      · simp only [List.size_toArray, List.length_append, List.length_take, List.length_drop, Array.length_toList]
        omega
      · rw [htake, ← hlen]
        exact List.take_left
      · simp only [List.size_toArray, List.length_append, List.length_take, List.length_drop, Array.length_toList]
        omega
      · simp only [htake, List.append_assoc]
        rw [← hl]
        exact List.take_left
    · have holds : ∀ j u, xs[j]? = some u → w.cell? ((⟨g, 0, none⟩ : Addr).add j) = some u := by
        intro j u hu
        rw [add_plain', Nat.zero_add, cell_of_row w g j cur e (0, 0) hg]
        rw [← htake, List.getElem?_take] at hu
        split at hu
        · simpa using hu
        · cases hu
      have hr := run_append_grow (P := P) w t ty e i z ht hi hz ⟨g, 0, none⟩ n cap xs hl holds ad m c news hs.1 hnews (by omega) (by simp only [maxLen] at h63; omega) (growslice_fits (by omega) hbytes)
      have hge := grownCap_ge w (n + m) cap e
      have hcm : grownCap w (n + m) cap e ≤ maxLen := grownCap_le_maxLen w (n + m) cap e h63
      refine ⟨_, _, hr, ⟨hlen, _, _, rfl, hge, hcm, .inr ⟨w.heap.size, _, rfl, .inr ⟨Nat.le_refl _, by simp⟩, heap_alloc_new w.drew _, ?_, ?_⟩⟩, ((Only.refl F w).drew).alloc _, (hrow0.drew).alloc _⟩
      · simp only [Array.size_append, List.size_toArray, size_zeroCells, hzs, hl, hs.1, ← Nat.add_mul]
        apply Nat.le_of_eq
        congr 1
        omega
      · simp only [Array.toList_append, List.append_assoc]
        rw [← List.append_assoc, ← hlen]
        exact List.take_left
theorem wpList_append_keep {ops : Array Oper} {rest : List Oper} {o : Oper} {a : Act} {Q : Exit → Act → World → Prop} (hgd : o.guard = none) (s x : Operand) (t : TypeId)
    (ho : o.op = .call { callee := .builtin .append, args := #[s, x], argTypes := #[t, t] })
    (e : TypeId) (i : TypeInfo) (z : Value) (size bytes : Nat) (ht : P.underlying t = some (.slice e)) (hi : P.info? e = some i) (hz : i.zero = some z)
    (hsize : i.size = size) (hby : i.bytes = bytes) (hzs : z.cells.size = size)
    (F S : Nat → Prop) (v : Value) (n : Nat) (hn : 0 < n) (xs : List Value) (hv : a.eval s = v) (hrow : Row w F e size v n xs)
    (A : Option Addr) (m c : Nat) (hm : 0 < m) (news : List Value) (hx : a.eval x = .slice A m c) (hs : Src w S size A m news) (h1 : ∀ u ∈ news, u.oneCell' = true)
    (h63 : n + m ≤ maxLen) (hbytes : (n + m) * bytes ≤ 140737488355328)
    (h : ∀ v' w', Row w' (Plus F w w') e size v' (n + m) (xs ++ news) → Only F w w' → Row w' F e size v n xs → wpList P ops Q rest (a.put o.dst v') w') : wpList P ops Q (o :: rest) a w :=
  wpList_plain hgd fun K hK => by
    obtain ⟨v', w', hr, h2, h3, h4⟩ := run_append_keep (P := P) w t o.type e i z size bytes ht hi hz hsize hby hzs F S v n hn xs hrow A m c hm news hs h1 h63 hbytes
    unfold Oper.wp execOp
    simp only [ho, resolve, invoke, builtin, Sem.run_bind, Sem.run_pure, Result.andThen_ok, List.map_toArray, List.map_cons, List.map_nil, hv, hx, hr]
    exact hK _ _ (h v' w' h2 h3 h4)
end
theorem src_block (W : World) (g : Nat) (cs : Array Value) (fr : Nat × Nat) (n : Nat) (hn : cs.size = n) (t : TypeId) (hg : W.heap[g]? = some (.cells cs t fr)) (F : Nat → Prop) (hF : F g) : Src W F 1 (some ⟨g, 0, none⟩) n cs.toList := by
  refine ⟨by simp [hn], fun _ => ⟨_, rfl, hF, (Array.getElem?_eq_some_iff.1 hg).1, fun j u hu => ?_⟩⟩
  rw [add_plain', Nat.zero_add, cell_of_row W g j cs t fr hg]
  simpa using hu
theorem pk_awake (w : World) (he : Env w) : Calls Tryd.prog 29 #[] w fun e w' => e = .returned (.bool true) ∧ Only Noth w w' := by
  have E := Lib.hid he
  clear he
  go_enter Tryd.func29, Tryd.ntmps29
  go_wp2_with fail
  refine (pk_put none 0 none 0 k13 k13_fit w (k13_at w) E.out.tab).mono ?_
  rintro e w1 ⟨⟨s, rfl, hs⟩, ho⟩
  unfold PutAns at hs
  rw [if_pos k13_check, k13_bytes] at hs
  obtain ⟨A, c, rfl, hp, hr⟩ := hs
  have hcv := hp.conv
  simp only [List.length_cons, List.length_nil, Nat.zero_add, Nat.reduceAdd] at hp hr hcv ⊢
  rw [k13_check]
  have HP := Lib.hid hp
  have HR := Lib.hid hr
  have HO := Lib.hid ho
  have E1 := Lib.hid (E.out.noth ho)
  clear hp hr ho
  obtain ⟨i0, hi, hz0, hz1, hz2⟩ := info_parts (show (Tryd.prog.info? 5).map (fun i => (i.zero, i.size, i.bytes)) = some (some (.int .u8 0), 1, 1) by kernel_rfl)
  obtain ⟨p, hpp⟩ := parse_some (k13.bytes ++ [120])
  rw [k13_bytes] at hpp
  have HPP := Lib.hid (show p.Parse [108, 105, 48, 101, 105, 49, 101, 105, 50, 101, 105, 51, 101, 108, 101, 108, 101, 101, 120] from hpp)
  clear hpp
  have HB := Lib.hid (Hld.new w1 5 #[.int .u8 120])
  go_wp2_with (at_builtin; refine wpList_append_keep _ rfl (.tmp 11) (.tmp 12) 23 rfl 5 i0 (.int .u8 0) 1 1 Tryd.underlying23 hi hz0 hz1 hz2 rfl (New w) _ _ 18 (by decide) _ rfl (HR.out.alloc _) (some ⟨w1.heap.size, 0, none⟩) 1 1 (by decide) [.int .u8 120] rfl (HB.out.src 1 rfl) (by intro u hu; simp at hu; subst hu; rfl) (by simp only [maxLen]; omega) (by omega) ?_; intro v2 w2 hrow honly hkeep; have HR2 := Lib.hid hrow; have HO2 := Lib.hid honly; have HK := Lib.hid hkeep; obtain ⟨A2, c2, hv2⟩ := hrow.shape; subst hv2; clear hrow honly hkeep)
  have O2 := Lib.hid ((HO.out.alloc _).trans HO2.out (G := New w) (fun j hj hl => by unfold New at hj; omega))
  have E2 := Lib.hid (E.out.noth O2.out)
  have P2 := Lib.hid (show Part w2 (.slice A2 [108, 105, 48, 101, 105, 49, 101, 105, 50, 101, 105, 51, 101, 108, 101, 108, 101, 101, (120 : UInt8)].length c2) [108, 105, 48, 101, 105, 49, 101, 105, 50, 101, 105, 51, 101, 108, 101, 108, 101, 101, 120] from ⟨_, _, rfl, HR2.out.src.mono (fun k hk hl => hl), HR2.out.caps⟩)
  refine (pk_read A2 c2 [108, 105, 48, 101, 105, 49, 101, 105, 50, 101, 105, 51, 101, 108, 101, 108, 101, 101, 120] p HPP.out w2 P2.out E2.out).mono ?_
  rintro e w3 ⟨hr, ho3⟩
  unfold ReadAns at hr
  rw [if_neg (fun h => k13_not (p := p) (by rw [k13_bytes]; exact h.2.2))] at hr
  subst hr
  have O3 := Lib.hid (O2.out.tr ho3)
  have PS := Lib.hid (show Part w3 (.slice A [108, 105, 48, 101, 105, 49, 101, 105, 50, 101, 105, 51, 101, 108, 101, 108, 101, (101 : UInt8)].length c) [108, 105, 48, 101, 105, 49, 101, 105, 50, 101, 105, 51, 101, 108, 101, 108, 101, 101] from ⟨_, _, rfl, ((HK.out.src.only ho3 (fun _ _ h => h)).mono (fun k hk hl => hl)), HK.out.caps⟩)
  clear ho3 hcv
  have hcv := (PS.out.noth ((Only.refl Noth w3).alloc (.cells (pkc 0 0 0 0 none 0 0 none 0 0) 50))).conv
  simp only [List.length_cons, List.length_nil, Nat.zero_add, Nat.reduceAdd] at hcv
  go_wp2
  go_ret
  exact ⟨rfl, O3.out.alloc _⟩
end Go.Proofs.YtjdgmnaemopfdaaDoor
