/- Layer 13: awake. -/
import Derived.Test.YtjdgmnaemopfdaaDoorMPkT
import Derived.Lib.SlBytesConst
import Derived.Test.YtjdgmnaemopfdaaDoorPkF
namespace Go.Proofs.YtjdgmnaemopfdaaDoor
open Go.RowKit Go.Lib
set_option linter.unusedVariables false
set_option maxRecDepth 100000
attribute [local go_sem ↓] Go.wp_at_zero Go.wp_at_succ

theorem parse_some (l : List UInt8) : ∃ p : Pkt, p.Parse l := by
  obtain ⟨k, f, q, s, z, hh⟩ := head_some l
  obtain ⟨ms, z1, h1, h2, -⟩ := mems_some z.b.length z (Nat.le_refl _) (head_len hh).2
  obtain ⟨es, z2, h3, -, -⟩ := ents_some ((z1.byte 101).byte 108).b.length ((z1.byte 101).byte 108) (Nat.le_refl _) (Rd.byte_sane (Rd.byte_sane h2 _) _)
  exact ⟨⟨k, f, q, s, ms, es⟩, z, z1, z2, hh, h1, h3⟩
/-- The packet of awake. -/
def k13 : Pkt := ⟨0, 1, 2, 3, [], []⟩
theorem k13_bytes : k13.bytes = [108, 105, 48, 101, 105, 49, 101, 105, 50, 101, 105, 51, 101, 108, 101, 108, 101, 101] := by
  simp [Pkt.bytes, k13, tList, tInt, itoa, decDigits]
theorem k13_check : k13.check = 0 := by
  unfold Pkt.check
  rw [k13_bytes]
  simp [k13, firstBad]
theorem k13_fit : k13.Fit := ⟨by decide, by decide, by decide, by decide, by decide, by decide, by decide, by decide, by simp [k13], by simp [k13]⟩
theorem k13_at (w : World) : PkAt w none 0 none 0 k13 := ⟨fun h => absurd h (by simp [k13]), fun h => absurd h (by simp [k13]), Nat.le_refl _, by decide, Nat.le_refl _, by decide⟩
/-- A packet's bytes end in e. -/
theorem bytes_last (p : Pkt) : ∃ t, p.bytes = t ++ [101] := ⟨[108] ++ _, by unfold Pkt.bytes tList; rfl⟩
theorem k13_not {p : Pkt} : p.bytes ≠ k13.bytes ++ [120] := by
  intro h
  obtain ⟨t, ht⟩ := bytes_last p
  rw [ht] at h
  have := (List.append_inj' h rfl).2
  simp at this
section
variable {P : Program} (w : World)
/-- Append to a row of one's own, and the row as it was: it stays below. -/
theorem run_append_keep (t ty e : TypeId) (i : TypeInfo) (z : Value) (size bytes : Nat) (ht : P.underlying t = some (.slice e)) (hi : P.info? e = some i) (hz : i.zero = some z)
    (hsize : i.size = size) (hby : i.bytes = bytes) (hzs : z.cells.size = size)
    (F S : Nat → Prop) (v : Value) (n : Nat) (hn : 0 < n) (xs : List Value) (hrow : Row w F e size v n xs)
    (A : Option Addr) (m c : Nat) (hm : 0 < m) (news : List Value) (hs : Src w S size A m news) (h1 : ∀ u ∈ news, u.oneCell' = true)
    (h63 : n + m ≤ maxLen) (hbytes : (n + m) * bytes ≤ 140737488355328) :
    ∃ v' w', (Builtin.append_ #[t, t] ty #[v, .slice A m c]).run P w = .ok v' w' ∧ Row w' (Plus F w w') e size v' (n + m) (xs ++ news) ∧ Only F w w' ∧ Row w' F e size v n xs := by
  subst hsize
  subst hby
  have hlen : (xs ++ news).length = (n + m) * i.size := by rw [List.length_append, hrow.1, hs.1, Nat.add_mul]
  obtain ⟨ad, rfl, _, _, hnews⟩ := hs.2 hm
  have hrow0 := hrow
  obtain ⟨hl, B, cap, rfl, hc1, hc2, hc3⟩ := hrow
  rcases hc3 with hc3 | ⟨g, cur, rfl, hF, hg, hcs, htake⟩
  · omega
  · by_cases hroom : n + m ≤ cap
    · have hfit : n * i.size + news.length ≤ cur.size := by
        rw [hs.1, ← Nat.add_mul]
        exact Nat.le_trans (Nat.mul_le_mul_right _ hroom) hcs
      have hr := run_append_room (P := P) w t ty e i ht hi g n cap cur hg ad m c news hs.1 hnews h1 hroom hfit
      refine ⟨_, _, hr, ⟨hlen, _, _, rfl, hroom, hc2, .inr ⟨g, _, rfl, .inl hF, setRow_heap w g cur _ e _ hg, ?_, ?_⟩⟩, (Only.refl F w).setRow (fun _ => hF) _, ⟨hl, _, _, rfl, hc1, hc2, .inr ⟨g, _, rfl, hF, setRow_heap w g cur _ e _ hg, ?_, ?_⟩⟩⟩
      · simp only [List.size_toArray, List.length_append, List.length_take, List.length_drop, Array.length_toList]
        omega
      · rw [htake, ← hlen]
        exact List.take_left
      · simp only [List.size_toArray, List.length_append, List.length_take, List.length_drop, Array.length_toList]
        omega
      · simp only [htake, List.append_assoc]
        rw [← hl]
        exact List.take_left
    · have holds : ∀ j u, xs[j]? = some u → w.cell? ((⟨g, 0, none⟩ : Addr).add j) = some u := by
        intro j u hu
        rw [add_plain', Nat.zero_add, cell_of_row w g j cur e (0, 0) hg]
        rw [← htake, List.getElem?_take] at hu
        split at hu
        · simpa using hu
        · cases hu
      have hr := run_append_grow (P := P) w t ty e i z ht hi hz ⟨g, 0, none⟩ n cap xs hl holds ad m c news hs.1 hnews (by omega) (by simp only [maxLen] at h63; omega) (growslice_fits (by omega) hbytes)
      have hge := grownCap_ge w (n + m) cap e
      have hcm : grownCap w (n + m) cap e ≤ maxLen := grownCap_le_maxLen w (n + m) cap e h63
      refine ⟨_, _, hr, ⟨hlen, _, _, rfl, hge, hcm, .inr ⟨w.heap.size, _, rfl, .inr ⟨Nat.le_refl _, by simp⟩, heap_alloc_new w.drew _, ?_, ?_⟩⟩, ((Only.refl F w).drew).alloc _, (hrow0.drew).alloc _⟩
      · simp only [Array.size_append, List.size_toArray, size_zeroCells, hzs, hl, hs.1, ← Nat.add_mul]
        apply Nat.le_of_eq
        congr 1
        omega
      · simp only [Array.toList_append, List.append_assoc]
        rw [← List.append_assoc, ← hlen]
        exact List.take_left
theorem wpList_append_keep {ops : Array Oper} {rest : List Oper} {o : Oper} {a : Act} {Q : Exit → Act → World → Prop} (hgd : o.guard = none) (s x : Operand) (t : TypeId)
    (ho : o.op = .call { callee := .builtin .append, args := #[s, x], argTypes := #[t, t] })
    (e : TypeId) (i : TypeInfo) (z : Value) (size bytes : Nat) (ht : P.underlying t = some (.slice e)) (hi : P.info? e = some i) (hz : i.zero = some z)
    (hsize : i.size = size) (hby : i.bytes = bytes) (hzs : z.cells.size = size)
    (F S : Nat → Prop) (v : Value) (n : Nat) (hn : 0 < n) (xs : List Value) (hv : a.eval s = v) (hrow : Row w F e size v n xs)
    (A : Option Addr) (m c : Nat) (hm : 0 < m) (news : List Value) (hx : a.eval x = .slice A m c) (hs : Src w S size A m news) (h1 : ∀ u ∈ news, u.oneCell' = true)
    (h63 : n + m ≤ maxLen) (hbytes : (n + m) * bytes ≤ 140737488355328)
    (h : ∀ v' w', Row w' (Plus F w w') e size v' (n + m) (xs ++ news) → Only F w w' → Row w' F e size v n xs → wpList P ops Q rest (a.put o.dst v') w') : wpList P ops Q (o :: rest) a w :=
  wpList_plain hgd fun K hK => by
    obtain ⟨v', w', hr, h2, h3, h4⟩ := run_append_keep (P := P) w t o.type e i z size bytes ht hi hz hsize hby hzs F S v n hn xs hrow A m c hm news hs h1 h63 hbytes
    unfold Oper.wp execOp
    simp only [ho, resolve, invoke, builtin, Sem.run_bind, Sem.run_pure, Result.andThen_ok, List.map_toArray, List.map_cons, List.map_nil, hv, hx, hr]
    exact hK _ _ (h v' w' h2 h3 h4)
end
theorem src_block (W : World) (g : Nat) (cs : Array Value) (fr : Nat × Nat) (n : Nat) (hn : cs.size = n) (t : TypeId) (hg : W.heap[g]? = some (.cells cs t fr)) (F : Nat → Prop) (hF : F g) : Src W F 1 (some ⟨g, 0, none⟩) n cs.toList := by
  refine ⟨by simp [hn], fun _ => ⟨_, rfl, hF, (Array.getElem?_eq_some_iff.1 hg).1, fun j u hu => ?_⟩⟩
  rw [add_plain', Nat.zero_add, cell_of_row W g j cs t fr hg]
  simpa using hu
theorem pk_awake (w : World) (he : Env w) : Calls Tryd.prog 29 #[] w fun e w' => e = .returned (.bool true) ∧ Only Noth w w' := by
  have E := Lib.hid he
  clear he
  go_enter Tryd.func29, Tryd.ntmps29
  go_wp2_with fail
  refine (pk_put none 0 none 0 k13 k13_fit w (k13_at w) E.out.tab).mono ?_
  rintro e w1 ⟨⟨s, rfl, hs⟩, ho⟩
  unfold PutAns at hs
  rw [if_pos k13_check, k13_bytes] at hs
  obtain ⟨A, c, rfl, hp, hr⟩ := hs
  have hcv := hp.conv
  simp only [List.length_cons, List.length_nil, Nat.zero_add, Nat.reduceAdd] at hp hr hcv ⊢
  rw [k13_check]
  have HP := Lib.hid hp
  have HR := Lib.hid hr
  have HO := Lib.hid ho
  have E1 := Lib.hid (E.out.noth ho)
  clear hp hr ho
  obtain ⟨i0, hi, hz0, hz1, hz2⟩ := info_parts (show (Tryd.prog.info? 5).map (fun i => (i.zero, i.size, i.bytes)) = some (some (.int .u8 0), 1, 1) by kernel_rfl)
  obtain ⟨p, hpp⟩ := parse_some (k13.bytes ++ [120])
  rw [k13_bytes] at hpp
  have HPP := Lib.hid (show p.Parse [108, 105, 48, 101, 105, 49, 101, 105, 50, 101, 105, 51, 101, 108, 101, 108, 101, 101, 120] from hpp)
  clear hpp
  have HB := Lib.hid (Hld.new w1 5 #[.int .u8 120])
  go_wp2_with (at_builtin; refine wpList_append_keep _ rfl (.tmp 11) (.tmp 12) 23 rfl 5 i0 (.int .u8 0) 1 1 Tryd.underlying23 hi hz0 hz1 hz2 rfl (New w) _ _ 18 (by decide) _ rfl (HR.out.alloc _) (some ⟨w1.heap.size, 0, none⟩) 1 1 (by decide) [.int .u8 120] rfl (HB.out.src 1 rfl) (by intro u hu; simp at hu; subst hu; rfl) (by simp only [maxLen]; omega) (by omega) ?_; intro v2 w2 hrow honly hkeep; have HR2 := Lib.hid hrow; have HO2 := Lib.hid honly; have HK := Lib.hid hkeep; obtain ⟨A2, c2, hv2⟩ := hrow.shape; subst hv2; clear hrow honly hkeep)
  have O2 := Lib.hid ((HO.out.alloc _).trans HO2.out (G := New w) (fun j hj hl => by unfold New at hj; omega))
  have E2 := Lib.hid (E.out.noth O2.out)
  have P2 := Lib.hid (show Part w2 (.slice A2 [108, 105, 48, 101, 105, 49, 101, 105, 50, 101, 105, 51, 101, 108, 101, 108, 101, 101, (120 : UInt8)].length c2) [108, 105, 48, 101, 105, 49, 101, 105, 50, 101, 105, 51, 101, 108, 101, 108, 101, 101, 120] from ⟨_, _, rfl, HR2.out.src.mono (fun k hk hl => hl), HR2.out.caps⟩)
  refine (pk_read A2 c2 [108, 105, 48, 101, 105, 49, 101, 105, 50, 101, 105, 51, 101, 108, 101, 108, 101, 101, 120] p HPP.out w2 P2.out E2.out).mono ?_
  rintro e w3 ⟨hr, ho3⟩
  unfold ReadAns at hr
  rw [if_neg (fun h => k13_not (p := p) (by rw [k13_bytes]; exact h.2.2))] at hr
  subst hr
  have O3 := Lib.hid (O2.out.tr ho3)
  have PS := Lib.hid (show Part w3 (.slice A [108, 105, 48, 101, 105, 49, 101, 105, 50, 101, 105, 51, 101, 108, 101, 108, 101, (101 : UInt8)].length c) [108, 105, 48, 101, 105, 49, 101, 105, 50, 101, 105, 51, 101, 108, 101, 108, 101, 101] from ⟨_, _, rfl, ((HK.out.src.only ho3 (fun _ _ h => h)).mono (fun k hk hl => hl)), HK.out.caps⟩)
  clear ho3 hcv
  have hcv := (PS.out.noth ((Only.refl Noth w3).alloc (.cells (pkc 0 0 0 0 none 0 0 none 0 0) 50))).conv
  simp only [List.length_cons, List.length_nil, Nat.zero_add, Nat.reduceAdd] at hcv
  go_wp2
  go_ret
  exact ⟨rfl, O3.out.alloc _⟩
end Go.Proofs.YtjdgmnaemopfdaaDoor
namespace Go.Proofs.YtjdgmnaemopfdaaDoor
open Go.RowKit Go.Lib
set_option linter.unusedVariables false

theorem pcheck_zero {p : Pkt} : p.check = 0 ↔ (¬ (4 < p.kind ∨ 64 ≤ p.frm ∨ 64 ≤ p.abt ∨ p.seq < 0 ∨ 1099511627776 < p.seq ∨ 64 < p.ms.length ∨ 256 < p.es.length ∨ p.ms.any Mem.wrong = true)) ∧ firstBad p.es = 0 ∧ p.bytes.length ≤ 16384 := by
  unfold Pkt.check
  split
  · rename_i h
    exact ⟨fun k => absurd k (by decide), fun k => absurd h k.1⟩
  · rename_i h
    split
    · rename_i h2
      exact ⟨fun k => absurd k h2, fun k => absurd k.2.1 h2⟩
    · rename_i h2
      split
      · rename_i h3
        exact ⟨fun k => absurd k (by decide), fun k => absurd k.2.2 (by omega)⟩
      · rename_i h3
        exact ⟨fun _ => ⟨h, by omega, by omega⟩, fun _ => rfl⟩
theorem firstBad_all {l : List Ent} : firstBad l = 0 ↔ ∀ e ∈ l, e.check = 0 := by
  induction l with
  | nil => simp [firstBad]
  | cons a t ih =>
    simp only [firstBad, List.mem_cons, forall_eq_or_imp]
    split
    · rename_i h; rw [ih]; simp [h]
    · rename_i h; simp [h]
/-- One entry less. -/
def Pkt.noE (p : Pkt) (l : List Ent) : Pkt := ⟨p.kind, p.frm, p.abt, p.seq, p.ms, l⟩
/-- One member less. -/
def Pkt.noM (p : Pkt) (l : List Mem) : Pkt := ⟨p.kind, p.frm, p.abt, p.seq, l, p.es⟩
theorem noE_len {p : Pkt} {l : List Ent} {x : Ent} (h : p.es = l ++ [x]) : (p.noE l).bytes.length + x.bytes.length = p.bytes.length := by
  unfold Pkt.noE Pkt.bytes
  rw [h]
  simp only [tList, List.map_append, List.map_cons, List.map_nil, List.length_cons, List.length_append, List.flatten_cons, List.flatten_nil, List.flatten_append, List.length_nil]
  omega
theorem noM_len {p : Pkt} {l : List Mem} {x : Mem} (h : p.ms = l ++ [x]) : (p.noM l).bytes.length + (tMem x).length = p.bytes.length := by
  unfold Pkt.noM Pkt.bytes
  rw [h]
  simp only [tList, List.map_append, List.map_cons, List.map_nil, List.length_cons, List.length_append, List.flatten_cons, List.flatten_nil, List.flatten_append, List.length_nil]
  omega
theorem noE_check {p : Pkt} {l : List Ent} {x : Ent} (h : p.es = l ++ [x]) (h0 : p.check = 0) : (p.noE l).check = 0 := by
  rw [pcheck_zero] at h0 ⊢
  obtain ⟨h1, h2, h3⟩ := h0
  have h4 := noE_len h
  rw [h] at h1 h2
  rw [firstBad_all] at h2 ⊢
  simp only [not_or, List.length_append, List.length_cons, List.length_nil] at h1 ⊢
  simp only [Pkt.noE] at h4 ⊢
  obtain ⟨a1, a2, a3, a4, a5, a6, a7, a8⟩ := h1
  exact ⟨⟨a1, a2, a3, a4, a5, a6, by omega, a8⟩, fun e he => h2 e (List.mem_append.2 (.inl he)), by omega⟩
theorem noM_check {p : Pkt} {l : List Mem} {x : Mem} (h : p.ms = l ++ [x]) (h0 : p.check = 0) : (p.noM l).check = 0 := by
  rw [pcheck_zero] at h0 ⊢
  obtain ⟨h1, h2, h3⟩ := h0
  have h4 := noM_len h
  rw [h] at h1
  simp only [not_or, List.length_append, List.length_cons, List.length_nil, List.any_append, Bool.or_eq_true] at h1 ⊢
  simp only [Pkt.noM] at h4 ⊢
  obtain ⟨a1, a2, a3, a4, a5, a6, a7, a8, a9⟩ := h1
  exact ⟨⟨a1, a2, a3, a4, a5, by omega, a7, a8⟩, h2, by omega⟩
theorem noE_fit {p : Pkt} {l : List Ent} {x : Ent} (h : p.es = l ++ [x]) (h0 : p.Fit) : (p.noE l).Fit :=
  ⟨h0.k0, h0.k1, h0.f0, h0.f1, h0.a0, h0.a1, h0.s0, h0.s1, h0.m, fun y hy => h0.e y (by rw [h]; exact List.mem_append.2 (.inl hy))⟩
theorem noM_fit {p : Pkt} {l : List Mem} {x : Mem} (h : p.ms = l ++ [x]) (h0 : p.Fit) : (p.noM l).Fit :=
  ⟨h0.k0, h0.k1, h0.f0, h0.f1, h0.a0, h0.a1, h0.s0, h0.s1, fun y hy => h0.m y (by rw [h]; exact List.mem_append.2 (.inl hy)), h0.e⟩
theorem ElAt.left {w : World} {S : Nat → Prop} {size : Nat} {A : Option Addr} {xs ys : List (List Value)} (h : ElAt w S size A (xs ++ ys)) : ElAt w S size A xs := fun hn => by
  obtain ⟨b, o, hA, hS, hlt, hc⟩ := h (by rw [List.length_append]; omega)
  exact ⟨b, o, hA, hS, hlt, fun k cs hk => hc k cs (by rw [List.getElem?_append_left (List.getElem?_eq_some_iff.1 hk).1]; exact hk)⟩
end Go.Proofs.YtjdgmnaemopfdaaDoor
namespace Go.Proofs.YtjdgmnaemopfdaaDoor
open Go.RowKit Go.Lib
set_option linter.unusedVariables false

theorem small_laid {n most : Int} (h0 : 0 ≤ n) (h1 : n ≤ most) (h2 : n ≤ 9223372036854775807) (r : List UInt8) : Rd.small ⟨tInt n ++ r, 0⟩ most = (⟨r, 0⟩, n) := by
  unfold Rd.small
  rw [Rd.int_laid n r (by omega) h2]
  simp only
  rw [if_neg (by omega)]
theorem wrong_no {m : Mem} (h : m.wrong = false) (hm : m.Ok) : m.node ≤ 63 ∧ m.st ≤ 255 ∧ 0 ≤ m.inc ∧ m.inc ≤ 1073741824 := by
  have := hm.s1
  unfold Mem.wrong at h
  simp at h
  omega
theorem tMem_app (m : Mem) (r : List UInt8) : tMem m ++ r = 108 :: (tInt m.node ++ (tInt m.st ++ (tInt m.inc ++ 101 :: r))) := by simp [tMem, tList]
theorem mem_laid {m : Mem} (h : m.wrong = false) (hm : m.Ok) (r : List UInt8) : Rd.mem ⟨tMem m ++ r, 0⟩ = (⟨r, 0⟩, m) := by
  obtain ⟨a1, a2, a3, a4⟩ := wrong_no h hm
  rw [tMem_app]
  unfold Rd.mem
  simp only [Rd.byte_laid, small_laid (n := m.node) (most := 255) hm.n0 (by omega) (by omega), small_laid (n := m.st) (most := 255) hm.s0 (by omega) (by omega), small_laid (n := m.inc) (most := 1099511627776) a3 (by omega) (by omega)]
theorem more_l (r : List UInt8) : Rd.more ⟨108 :: r, 0⟩ = true := by simp [Rd.more]
theorem more_e (r : List UInt8) : Rd.more ⟨101 :: r, 0⟩ = false := by simp [Rd.more]
theorem mems_laid (ms : List Mem) : ∀ (r : List UInt8) {x : Rd} {xs : List Mem} {z : Rd}, Mems x xs z → x = ⟨(ms.map tMem).flatten ++ 101 :: r, 0⟩ → (∀ m ∈ ms, m.wrong = false ∧ m.Ok) → xs = ms ∧ z = ⟨101 :: r, 0⟩ := by
  induction ms with
  | nil =>
    intro r x xs z h hx _
    simp only [List.map_nil, List.flatten_nil, List.nil_append] at hx
    subst hx
    cases h with
    | stop hm => exact ⟨rfl, rfl⟩
    | step hm _ => rw [more_e] at hm; cases hm
  | cons m ms ih =>
    intro r x xs z h hx hok
    have hm := hok m (by simp)
    simp only [List.map_cons, List.flatten_cons, List.append_assoc] at hx
    cases h with
    | stop hs =>
      rw [hx, tMem_app, more_l] at hs
      cases hs
    | step hs ht =>
      rw [hx, mem_laid hm.1 hm.2] at ht ⊢
      obtain ⟨e1, e2⟩ := ih r ht rfl (fun y hy => hok y (by simp [hy]))
      exact ⟨by rw [e1], e2⟩
theorem reads_on {e y : Ent} {z : Rd} (r : List UInt8) (hr : Ent.Reads ⟨e.bytes ++ r, 0⟩ y z) (hc : e.check = 0) (ho : e.Ok) : y = e ∧ z = ⟨r, 0⟩ := by
  obtain ⟨r1, r2, r3, r4, r5, r6, k, v, t, o, u, hs, hy⟩ := hr
  obtain ⟨c1, c2, c3, -⟩ := check_zero.1 hc
  have a1 := hs.a1
  rw [bytes_app, Rd.byte_laid] at a1
  have a2 := hs.a2
  rw [← a1, Rd.text_laid _ _ _ (by rw [size_len]; omega) (by rw [size_len]; omega)] at a2
  obtain ⟨b1, b2⟩ := Prod.mk.inj a2
  have b2 : e.key = k := ba_inj b2
  have a3 := hs.a3
  rw [← b1, Rd.int_laid _ _ ho.t0 ho.t1] at a3
  obtain ⟨c1, c2⟩ := Prod.mk.inj a3
  have a4 := hs.a4
  rw [← c1, Rd.int_laid _ _ (by have := ho.o0; omega) (by have := ho.o1; omega)] at a4
  obtain ⟨d1, d2⟩ := Prod.mk.inj a4
  have a5 := hs.a5
  rw [← d1, Rd.text_laid _ _ _ (by rw [size_len]; omega) (by rw [size_len]; omega)] at a5
  obtain ⟨e1, e2⟩ := Prod.mk.inj a5
  have e2 : e.val = v := ba_inj e2
  have a6 := hs.a6
  rw [← e1, Rd.int_laid _ _ ho.u0 ho.u1] at a6
  obtain ⟨f1, f2⟩ := Prod.mk.inj a6
  have a7 := hs.a7
  rw [← f1, Rd.byte_laid] at a7
  have he : (Ent.mk k t o v u) = e := by rw [← b2, ← c2, ← d2, ← e2, ← f2]
  rw [he] at hy
  rcases hy with ⟨_, _, _, _, rfl⟩ | ⟨hn, _⟩
  · exact ⟨rfl, a7.symm⟩
  · exact absurd ⟨by rw [← a7], by have := ho.o0; omega, by have := ho.o1; omega, hc⟩ hn
theorem ents_laid (es : List Ent) : ∀ (r : List UInt8) {x : Rd} {xs : List Ent} {z : Rd}, Ents x xs z → x = ⟨(es.map Ent.bytes).flatten ++ 101 :: r, 0⟩ → (∀ e ∈ es, e.check = 0 ∧ e.Ok) → xs = es ∧ z = ⟨101 :: r, 0⟩ := by
  induction es with
  | nil =>
    intro r x xs z h hx _
    simp only [List.map_nil, List.flatten_nil, List.nil_append] at hx
    subst hx
    cases h with
    | stop hm => exact ⟨rfl, rfl⟩
    | step hm _ _ => rw [more_e] at hm; cases hm
  | cons m ms ih =>
    intro r x xs z h hx hok
    have hm := hok m (by simp)
    simp only [List.map_cons, List.flatten_cons, List.append_assoc] at hx
    cases h with
    | stop hs =>
      rw [hx, bytes_app, more_l] at hs
      cases hs
    | step hs hr ht =>
      rw [hx] at hr
      obtain ⟨g1, g2⟩ := reads_on _ hr hm.1 hm.2
      rw [g2] at ht
      obtain ⟨e1, e2⟩ := ih r ht rfl (fun y hy => hok y (by simp [hy]))
      exact ⟨by rw [e1, g1], e2⟩
theorem pbytes_app (p : Pkt) : p.bytes = 108 :: (tInt p.kind ++ (tInt p.frm ++ (tInt p.abt ++ (tInt p.seq ++ 108 :: ((p.ms.map tMem).flatten ++ 101 :: (108 :: ((p.es.map Ent.bytes).flatten ++ 101 :: [101]))))))) := by
  simp [Pkt.bytes, tList]
theorem parse_laid {p q : Pkt} (hf : q.Fit) (h0 : q.check = 0) (hp : p.Parse q.bytes) : p = q := by
  obtain ⟨z, z1, z2, ⟨r1, r2, r3, r4, r5, b0, b1, b2, b3, b4, b5⟩, hms, hes⟩ := hp
  obtain ⟨g1, g2, -⟩ := pcheck_zero.1 h0
  simp only [not_or] at g1
  obtain ⟨a1, a2, a3, a4, a5, a6, a7, a8⟩ := g1
  rw [pbytes_app, Rd.byte_laid] at b0
  rw [← b0, small_laid hf.k0 (by omega) (by omega)] at b1
  obtain ⟨c1, d1⟩ := Prod.mk.inj b1
  rw [← c1, small_laid hf.f0 (by omega) (by omega)] at b2
  obtain ⟨c2, d2⟩ := Prod.mk.inj b2
  rw [← c2, small_laid hf.a0 (by omega) (by omega)] at b3
  obtain ⟨c3, d3⟩ := Prod.mk.inj b3
  rw [← c3, small_laid (by omega) (by omega) (by omega)] at b4
  obtain ⟨c4, d4⟩ := Prod.mk.inj b4
  rw [← c4, Rd.byte_laid] at b5
  obtain ⟨e1, e2⟩ := mems_laid q.ms _ hms b5.symm (fun m hm => ⟨by
    have := a8
    simp only [Bool.not_eq_true, List.any_eq_false] at this
    simpa using this m hm, hf.m m hm⟩)
  rw [e2, Rd.byte_laid, Rd.byte_laid] at hes
  obtain ⟨e3, -⟩ := ents_laid q.es _ hes rfl (fun e he => ⟨firstBad_all.1 g2 e he, (hf.e e he).1⟩)
  cases p
  cases q
  simp only at d1 d2 d3 d4 e1 e3
  subst d1 d2 d3 d4 e1 e3
  rfl
/-- Bytes of a packet that may be. -/
def Pkt.Of (l : List UInt8) (q : Pkt) : Prop := q.Fit ∧ q.check = 0 ∧ q.bytes = l
theorem Pkt.Of.one {l : List UInt8} {p q : Pkt} (h : q.Of l) (hp : p.Parse l) : p = q := by
  obtain ⟨h1, h2, rfl⟩ := h
  exact parse_laid h1 h2 hp
theorem parse_fit {l : List UInt8} {p : Pkt} (hp : p.Parse l) : p.Fit := by
  obtain ⟨z, z1, z2, hh, hms, hes⟩ := hp
  obtain ⟨k1, k2, k3, k4, k5⟩ := head_nums hh
  obtain ⟨-, hs⟩ := head_len hh
  obtain ⟨-, hz, hm⟩ := mems_long hms hs
  exact ⟨k1.1, k1.2, k2.1, by omega, k3.1, by omega, by omega, by omega, fun m h => by obtain ⟨h1, h2, h3⟩ := hm m h; exact ⟨h1.1, by omega, h2.1, h2.2, by omega, by omega⟩, ents_fit hes⟩
end Go.Proofs.YtjdgmnaemopfdaaDoor
