/- The walk of NflogKeys. -/
import Derived.Test.YtgclhkknkppmbaaDoorNflE
import Derived.ChangeKeysEq
namespace Go.Proofs.YtgclhkknkppmbaaDoor
open Go.RowKit Go.Lib
set_option linter.unusedVariables false
set_option maxRecDepth 100000
attribute [local go_sem ↓] Go.wp_at_zero Go.wp_at_succ

/-- What is laid for a text is read off it: so unlike texts, unlike keys. -/
theorem tText_inj {a b r s : List UInt8} (ha : a.length ≤ 1000000000) (hb : b.length ≤ 1000000000) (h : tText a ++ r = tText b ++ s) : a = b ∧ r = s := by
  have h1 := Rd.text_laid a r 1000000000 ha (by omega)
  have h2 := Rd.text_laid b s 1000000000 hb (by omega)
  rw [h, h2] at h1
  injection h1 with h3 h4
  injection h3 with h5 _
  exact ⟨h4.symm, h5.symm⟩
theorem nKey_inj {r g r' g' : List UInt8} (h1 : r.length ≤ 1000000000) (h2 : g.length ≤ 1000000000) (h3 : r'.length ≤ 1000000000) (h4 : g'.length ≤ 1000000000) (h : nKey r g = nKey r' g') : r = r' ∧ g = g' := by
  unfold nKey tList at h
  injection h with _ h
  injection h with _ h
  simp only [List.flatten_cons, List.flatten_nil, List.append_nil, List.append_assoc] at h
  obtain ⟨e1, e2⟩ := tText_inj h1 h3 h
  obtain ⟨e3, _⟩ := tText_inj h2 h4 e2
  exact ⟨e1, e3⟩
theorem ba_len (s : ByteArray) : s.data.toList.length = s.size := rfl

/-- '==' on pairs of texts. -/
theorem eq_arr (a b c d : ByteArray) (w : World) : (binOp .eql 46 (.agg #[.string a, .string b]) (.agg #[.string c, .string d])).run Tryd.prog w = .ok (.bool (decide (a = c ∧ b = d))) w := by
  obtain ⟨i, hi⟩ : ∃ i, Tryd.prog.info? 9 = some i := Option.isSome_iff_exists.1 (by kernel_rfl)
  have hp : Tryd.prog.plainKey 9 = true := by kernel_rfl
  have hc : Tryd.prog.cellsOf 9 = 1 := by kernel_rfl
  rw [run_eql_struct, show (10000 : Nat) = 9998 + 1 + 1 from rfl, run_equalIn_array w (9998 + 1) _ _ Tryd.underlying46 hi, hc]
  have p0 := run_part_plain (w := w) hp (xs := #[Value.string a, .string b]) (off := 0 * 1) (v := .string a) rfl
  have p1 := run_part_plain (w := w) hp (xs := #[Value.string a, .string b]) (off := 1 * 1) (v := .string b) rfl
  have q0 := run_part_plain (w := w) hp (xs := #[Value.string c, .string d]) (off := 0 * 1) (v := .string c) rfl
  have q1 := run_part_plain (w := w) hp (xs := #[Value.string c, .string d]) (off := 1 * 1) (v := .string d) rfl
  have e1 := run_equalIn_string (P := Tryd.prog) w 9998 9 a c Tryd.underlying9
  have e2 := run_equalIn_string (P := Tryd.prog) w 9998 9 b d Tryd.underlying9
  rw [show List.range 2 = [0, 1] from rfl]
  simp only [Op.eqItems, Sem.run_bind, p0, q0, Result.andThen_ok, e1]
  by_cases h1 : a = c
  · subst h1
    simp only [ba_beq, decide_true, Bool.not_true, Bool.false_eq_true, if_false, Sem.run_bind, p1, q1, Result.andThen_ok, e2]
    by_cases h2 : b = d
    · subst h2
      simp [Result.andThen]
    · simp [h2, Result.andThen]
  · simp [ba_beq, h1, Result.andThen]

theorem nfl_key' (r g : ByteArray) (hs : r.size + g.size ≤ 140737488355000) (K : ByteArray) (hK : ByteArray.mk (nKey r.data.toList g.data.toList).toArray = K) (w : World) (ht : Tab w) :
    Calls Tryd.prog 25 #[.string r, .string g] w fun e w' => e = .returned (.string K) ∧ Only Noth w w' := by subst hK; exact nfl_key r g hs w ht
theorem keys_walk (a b c d : ByteArray) (ha : a.size ≤ 9223372036854775807) (hb : b.size ≤ 9223372036854775807) (hc : c.size ≤ 9223372036854775807) (hd : d.size ≤ 9223372036854775807)
    (ha2 : a.size ≤ 140737488355328) (hb2 : b.size ≤ 140737488355328) (hc2 : c.size ≤ 140737488355328) (hd2 : d.size ≤ 140737488355328) (w : World) (he : Env w) :
    Calls Tryd.prog 8 #[.agg #[.string a, .string b], .agg #[.string c, .string d]] w fun e w' => e = .returned (.bool true) ∧ Only Noth w w' := by
  have OW := Lib.hid (((Only.refl Noth w).alloc (.cells #[.string a, .string b] 46)).alloc (.cells #[.string c, .string d] 46))
  have E := Lib.hid (he.noth OW.out)
  have ea : (a.size : Int) ≤ 140737488355328 := by omega
  have eb : (b.size : Int) ≤ 140737488355328 := by omega
  have ec : (c.size : Int) ≤ 140737488355328 := by omega
  have ed : (d.size : Int) ≤ 140737488355328 := by omega
  clear he
  by_cases g1 : (20000 : Int) < (a.size : Int) + b.size
  · clear ha hb hc hd ha2 hb2 hc2 hd2
    go_enter Tryd.func8, Tryd.ntmps8
    go_wp2_with (go_at_call 22; refine (nfl_awake _ E.out).mono ?_; rintro e w1 ⟨rfl, ho⟩; have O1 := Lib.hid (OW.out.tr ho); clear ho)
    go_ret
    exact ⟨rfl, O1.out⟩
  · have g2 : decide ((20000 : Int) < (a.size : Int) + b.size) = false := by simpa using g1
    by_cases g3 : (20000 : Int) < (c.size : Int) + d.size
    · clear ha hb hc hd ha2 hb2 hc2 hd2
      go_enter Tryd.func8, Tryd.ntmps8
      go_wp2_with (go_at_call 22; refine (nfl_awake _ E.out).mono ?_; rintro e w1 ⟨rfl, ho⟩; have O1 := Lib.hid (OW.out.tr ho); clear ho)
      go_ret
      exact ⟨rfl, O1.out⟩
    · have g4 : decide ((20000 : Int) < (c.size : Int) + d.size) = false := by simpa using g3
      have HA := Lib.hid (show a.size + b.size ≤ 140737488355000 by omega)
      have HC := Lib.hid (show c.size + d.size ≤ 140737488355000 by omega)
      obtain ⟨K, hK⟩ : ∃ K, ByteArray.mk (nKey a.data.toList b.data.toList).toArray = K := ⟨_, rfl⟩
      obtain ⟨L, hL⟩ : ∃ L, ByteArray.mk (nKey c.data.toList d.data.toList).toArray = L := ⟨_, rfl⟩
      obtain ⟨v, hv⟩ : ∃ v, decide (a = c ∧ b = d) = v := ⟨_, rfl⟩
      have hkl : (K.toList == L.toList) = v := by
        rw [ba_beq, ← hv, Bool.eq_iff_iff, decide_eq_true_iff, decide_eq_true_iff, ← hK, ← hL]
        constructor
        · intro h
          have h2 : nKey a.data.toList b.data.toList = nKey c.data.toList d.data.toList := by
            have := congrArg (fun x : ByteArray => x.data.toList) h
            simpa using this
          obtain ⟨h3, h4⟩ := nKey_inj (by rw [ba_len]; omega) (by rw [ba_len]; omega) (by rw [ba_len]; omega) (by rw [ba_len]; omega) h2
          exact ⟨ba_inj h3, ba_inj h4⟩
        · rintro ⟨rfl, rfl⟩; rfl
      have heq : ∀ V, (binOp .eql 46 (.agg #[.string a, .string b]) (.agg #[.string c, .string d])).run Tryd.prog V = .ok (.bool v) V := fun V => by rw [eq_arr, hv]
      have HK := Lib.hid hK
      have HL := Lib.hid hL
      obtain ⟨W, hW⟩ : ∃ W, W = (w.alloc (.cells #[.string a, .string b] 46)).alloc (.cells #[.string c, .string d] 46) := ⟨_, rfl⟩
      have WW := Lib.hid hW
      clear ha hb hc hd ha2 hb2 hc2 hd2 hK hL hv hW
      cases v
      all_goals
        go_enter Tryd.func8, Tryd.ntmps8
        go_wp2_with fail
        rw [← WW.out] at OW E
        rw [← WW.out]
        have hsz0 : w.heap.size + 1 < W.heap.size := by rw [WW.out]; simp
        have OW := Lib.hid (OW.out.drew)
        have E := Lib.hid (E.out.noth (Only.refl Noth W).drew)
        obtain ⟨a0, a1⟩ := (show W.cell? ⟨w.heap.size, 0, none⟩ = some (.string a) ∧ W.cell? ⟨w.heap.size, 1, none⟩ = some (.string b) by rw [WW.out]; exact ⟨((Hld.new w _ _).alloc _).cell 0, ((Hld.new w _ _).alloc _).cell 1⟩)
        obtain ⟨b0, b1⟩ := (show W.cell? ⟨w.heap.size + 1, 0, none⟩ = some (.string c) ∧ W.cell? ⟨w.heap.size + 1, 1, none⟩ = some (.string d) by rw [WW.out]; exact ⟨(Hld.at_ _ _ _ _ (by simp)).cell 0, (Hld.at_ _ _ _ _ (by simp)).cell 1⟩)
        clear WW
        go_region_held3 (fun w' => w'.cell? ⟨w.heap.size, 0, none⟩ = some (.string a) ∧ w'.cell? ⟨w.heap.size, 1, none⟩ = some (.string b) ∧ w'.cell? ⟨w.heap.size + 1, 0, none⟩ = some (.string c) ∧ w'.cell? ⟨w.heap.size + 1, 1, none⟩ = some (.string d)) (go_keep)
          (first
            | (go_at_call 25; (first | (with_reducible refine (nfl_key' a b HA.out K HK.out _ E.out.tab).mono ?_) | (with_reducible refine (nfl_key' c d HC.out L HL.out _ E.out.tab).mono ?_)); rintro e w1 ⟨rfl, ho⟩; have hcs0 := (fun (o : Nat) => ho.cells w.heap.size o (by (try simp); (try omega))); have hcs1 := (fun (o : Nat) => ho.cells (w.heap.size + 1) o (by (try simp); (try omega))); have hsz : w.heap.size + 1 < w1.heap.size := (by have h8 := ho.size; (try simp at h8); omega); have OW := Lib.hid (OW.out.tr ho); have E := Lib.hid (E.out.noth ho); clear ho)
            | (go_at_call 22; refine (nfl_awake _ E.out).mono ?_; rintro e w1 ⟨rfl, ho⟩; have hcs0 := (fun (o : Nat) => ho.cells w.heap.size o (by (try simp); (try omega))); have hcs1 := (fun (o : Nat) => ho.cells (w.heap.size + 1) o (by (try simp); (try omega))); have hsz : w.heap.size + 1 < w1.heap.size := (by have h8 := ho.size; (try simp at h8); omega); have OW := Lib.hid (OW.out.tr ho); clear ho))
        all_goals go_wp2
        all_goals go_ret
        all_goals exact ⟨rfl, OW.out⟩
end Go.Proofs.YtgclhkknkppmbaaDoor
