/- The reference: Check and Put of a packet. -/
import Derived.Test.YtjdgmnaemopfdaaDoorRefY
import Derived.Test.YtjdgmnaemopfdaaDoorMoreP
namespace Go.Proofs.YtjdgmnaemopfdaaDoor
open Go.RowKit Go.Lib
set_option linter.unusedVariables false
set_option maxRecDepth 100000
attribute [local go_sem ↓] Go.wp_at_zero Go.wp_at_succ

theorem check_any {p : Pkt} (h : ∃ m ∈ p.ms, m.wrong = true) : p.check = 14 := by
  unfold Pkt.check
  rw [if_pos]
  exact .inr (.inr (.inr (.inr (.inr (.inr (.inr (by rw [List.any_eq_true]; exact h)))))))
theorem any_none {l : List Mem} (h : ∀ m ∈ l, m.wrong = false) : l.any Mem.wrong = false := by
  rw [List.any_eq_false]
  intro m hm
  rw [h m hm]
  decide
set_option maxHeartbeats 4000000 in
theorem ref_pcheck (A : Option Addr) (c : Nat) (B : Option Addr) (d : Nat) (p : Pkt) (hp : p.Fit) (w : World) (hat : PkAt w A c B d p) : Calls Tryd.prog 53 #[.agg #[.int .u8 p.kind, .int .u16 p.frm, .int .u16 p.abt, .int .i64 p.seq, .slice A p.ms.length c, .slice B p.es.length d]] w
    fun e w' => e = .returned (.int .i64 p.check) ∧ Only Noth w w' := by
  have HP := Lib.hid hp
  have B0 := Lib.hid (Hld.new w 50 #[.int .u8 p.kind, .int .u16 p.frm, .int .u16 p.abt, .int .i64 p.seq, .slice A p.ms.length c, .slice B p.es.length d])
  have ON := Lib.hid ((Only.refl Noth w).alloc (.cells #[.int .u8 p.kind, .int .u16 p.frm, .int .u16 p.abt, .int .i64 p.seq, .slice A p.ms.length c, .slice B p.es.length d] 50))
  have AT := Lib.hid (hat.noth ON.out)
  have ml0 : (0 : Int) ≤ p.ms.length := by omega
  have el0 : (0 : Int) ≤ p.es.length := by omega
  clear hat hp
  obtain ⟨w0, hw0⟩ : ∃ x, x = w.alloc (.cells #[.int .u8 p.kind, .int .u16 p.frm, .int .u16 p.abt, .int .i64 p.seq, .slice A p.ms.length c, .slice B p.es.length d] 50) := ⟨_, rfl⟩
  rw [← hw0] at B0 ON AT
  go_enter Tryd.func53, Tryd.ntmps53
  go_wp2_with fail
  all_goals rw [← hw0]
  all_goals clear hw0
  all_goals first
    | (go_ret; refine ⟨ret_num ?_, ON.out⟩; unfold Pkt.check; rw [if_pos (by omega)]; done)
    | skip
  go_loopw [3] (fun i W => ∃ k : Nat, k ≤ p.ms.length ∧ i = .int .i64 (k : Int) ∧ (∀ m ∈ p.ms.take k, m.wrong = false) ∧ Only Noth w0 W) (fun i _ => p.ms.length - (RowKit.intOf i).toNat)
  case atStart => exact ⟨0, Nat.zero_le _, rfl, by simp, Only.refl _ _⟩
  case round =>
    obtain ⟨k, hk, rfl, ha, ho⟩ := hrel
    have HA := Lib.hid ha
    have ON1 := Lib.hid ho
    have OX := Lib.hid (ON.out.tr ho)
    have c4 : wr.cell? ⟨w.heap.size, 4, none⟩ = some (.slice A p.ms.length c) := (B0.out.only ho (fun h => h)).cell 4
    clear ha ho
    by_cases hlt : k < p.ms.length
    · obtain ⟨x, hx⟩ : ∃ x, p.ms[k]? = some x := ⟨_, List.getElem?_eq_getElem hlt⟩
      have HX := Lib.hid hx
      obtain ⟨b, o, hBe, hbw, hbl, e0, e1, e2⟩ := ((AT.out.noth ON1.out).ms).mem hx
      rw [hBe] at c4 ⊢
      have hb0 : (0 : Int) ≤ k := by omega
      have hb1 : (k : Int) < p.ms.length := by omega
      clear hx hbw hbl hBe
      go_wp2_with fail
      refine (ref_okm x _).mono ?_
      rintro e w1 ⟨rfl, ho1⟩
      have O1 := Lib.hid ho1
      clear ho1 c4 e0 e1 e2
      cases hw : x.wrong
      · have HW := Lib.hid hw
        clear hw
        go_wp2_with fail
        go_roundw
        case rel =>
          refine ⟨k + 1, by omega, by go_num, ?_, ON1.out.tr O1.out⟩
          rw [List.take_add_one, HX.out]
          intro m hm
          rcases List.mem_append.1 hm with hm | hm
          · exact HA.out m hm
          · simp at hm
            subst hm
            exact HW.out
        case measure => simp [RowKit.intOf]; omega
      · have HC := Lib.hid (check_any ⟨x, List.mem_of_getElem? HX.out, hw⟩)
        clear hw
        go_wp2
        go_ret
        exact ⟨ret_num HC.out.symm, OX.out.tr O1.out⟩
    · obtain rfl : k = p.ms.length := by omega
      have h0 := HA.out
      rw [List.take_of_length_le (Nat.le_refl _)] at h0
      have HBB := Lib.hid (any_none h0)
      obtain ⟨wm, rfl⟩ : ∃ x, x = wr := ⟨_, rfl⟩
      have BX := Lib.hid (B0.out.only ON1.out (fun h => h))
      have AT1 := Lib.hid (AT.out.noth ON1.out)
      clear h0 HA
      go_wp2_with fail
      go_loopw [4] (fun i W => (∃ k : Nat, k ≤ p.es.length ∧ i = .int .i64 (k : Int) ∧ firstBad p.es = firstBad (p.es.drop k)) ∧ Only Noth wm W) (fun i _ => p.es.length - (RowKit.intOf i).toNat)
      case atStart => exact ⟨⟨0, Nat.zero_le _, rfl, rfl⟩, Only.refl _ _⟩
      case round =>
        obtain ⟨⟨k, hk, rfl, ha⟩, ho⟩ := hrel
        have ON2 := Lib.hid ho
        have HA := Lib.hid ha
        have c5 : wr.cell? ⟨w.heap.size, 5, none⟩ = some (.slice B p.es.length d) := (BX.out.only ho (fun h => h)).cell 5
        clear ho ha
        by_cases hlt : k < p.es.length
        · obtain ⟨x, hx⟩ : ∃ x, p.es[k]? = some x := ⟨_, List.getElem?_eq_getElem hlt⟩
          have HX := Lib.hid (HP.out.e x (List.mem_of_getElem? hx))
          have HD := Lib.hid (show firstBad p.es = firstBad (x :: p.es.drop (k + 1)) by rw [HA.out, List.drop_eq_getElem_cons hlt]; rw [List.getElem?_eq_getElem hlt] at hx; cases hx; rfl)
          obtain ⟨b, o, hBe, hbw, hbl, e0, e1, e2, e3, e4⟩ := ((AT1.out.noth ON2.out).es).ent hx
          rw [hBe] at c5 ⊢
          have hb0 : (0 : Int) ≤ k := by omega
          have hb1 : (k : Int) < p.es.length := by omega
          clear hx hbw hbl hBe
          go_wp2_with fail
          refine (ref_check x HX.out.2.1 HX.out.2.2 _).mono ?_
          rintro e w2 ⟨rfl, ho1⟩
          have ON3 := Lib.hid (ON2.out.tr ho1)
          clear ho1 e0 e1 e2 e3 e4 c5
          by_cases h0 : x.check = 0
          · have HD1 := Lib.hid (show firstBad p.es = firstBad (p.es.drop (k + 1)) by rw [HD.out, firstBad, if_pos h0])
            rw [h0]
            go_wp2_with fail
            go_roundw
            case rel => exact ⟨⟨k + 1, by omega, by go_num, HD1.out⟩, ON3.out⟩
            case measure => simp [RowKit.intOf]; omega
          · have HD1 := Lib.hid (show firstBad p.es = x.check by rw [HD.out, firstBad, if_neg h0])
            go_wp2
            go_ret
            refine ⟨ret_num ?_, OX.out.tr ON3.out⟩
            unfold Pkt.check
            rw [if_neg, if_pos, HD1.out]
            · rw [HD1.out]; exact h0
            · simp only [HBB.out, Bool.false_eq_true, or_false]
              omega
        · obtain rfl : k = p.es.length := by omega
          have h0 := HA.out
          rw [List.drop_of_length_le (Nat.le_refl _)] at h0
          have H0 := Lib.hid h0
          have O3 := Lib.hid (OX.out.tr ON2.out)
          obtain ⟨c0, c1, c2, c3, c4', c5'⟩ := (BX.out.only ON2.out (fun h => h)).six
          have OK := Lib.hid (HP.out.ok (by omega) (by omega) H0.out)
          have HC := Lib.hid (show p.check = if 16384 < p.bytes.length then 5 else 0 by
            unfold Pkt.check
            rw [if_neg, if_neg]
            · rw [H0.out]; simp [firstBad]
            · simp only [HBB.out, Bool.false_eq_true, or_false]
              omega)
          clear h0
          go_wp2_with fail
          refine (ref_lay A c B d p OK.out _ rfl _ (AT1.out.noth ON2.out)).mono ?_
          rintro e w3 ⟨A3, c3, rfl, -, ho3, -, -⟩
          have ON4 := Lib.hid (O3.out.tr ho3)
          clear ho3
          go_wp2
          all_goals go_ret
          all_goals refine ⟨ret_num ?_, ON4.out⟩
          all_goals rw [HC.out]
          all_goals split
          all_goals first | rfl | omega
/-- What the reference's Put gives. -/
def RPutAns (p : Pkt) (s : Value) (w' : World) : Prop := if p.check = 0 then ∃ A c, s = .slice A p.bytes.length c ∧ Part w' s p.bytes else s = .slice none 0 0
set_option maxHeartbeats 2000000 in
theorem ref_pput (A : Option Addr) (c : Nat) (B : Option Addr) (d : Nat) (p : Pkt) (hp : p.Fit) (w : World) (hat : PkAt w A c B d p) : Calls Tryd.prog 32 #[.agg #[.int .u8 p.kind, .int .u16 p.frm, .int .u16 p.abt, .int .i64 p.seq, .slice A p.ms.length c, .slice B p.es.length d]] w
    fun e w' => (∃ s : Value, e = .returned (.tuple #[s, .int .i64 p.check]) ∧ RPutAns p s w') ∧ Only Noth w w' := by
  have HP := Lib.hid hp
  have B0 := Lib.hid (Hld.new w 50 #[.int .u8 p.kind, .int .u16 p.frm, .int .u16 p.abt, .int .i64 p.seq, .slice A p.ms.length c, .slice B p.es.length d])
  have ON := Lib.hid ((Only.refl Noth w).alloc (.cells #[.int .u8 p.kind, .int .u16 p.frm, .int .u16 p.abt, .int .i64 p.seq, .slice A p.ms.length c, .slice B p.es.length d] 50))
  have AT := Lib.hid hat
  clear hat hp
  go_enter Tryd.func32, Tryd.ntmps32
  go_wp2_with fail
  refine (ref_pcheck A c B d p HP.out _ (AT.out.noth ON.out)).mono ?_
  rintro e w1 ⟨rfl, ho⟩
  have ON1 := Lib.hid (ON.out.tr ho)
  obtain ⟨c0, c1, c2, c3, c4, c5⟩ := (B0.out.only ho (fun h => h)).six
  clear ho
  by_cases h0 : p.check = 0
  · have OK := Lib.hid (HP.out.ok0 h0)
    have H0 := Lib.hid h0
    rw [h0]
    clear h0
    go_wp2_with fail
    refine (ref_lay A c B d p OK.out _ rfl _ (AT.out.noth ON1.out)).mono ?_
    rintro e w3 hg
    obtain ⟨A3, c3, rfl, hp3, ho3⟩ := hg.p
    have ON4 := Lib.hid (ON1.out.tr ho3)
    have HP3 := Lib.hid hp3
    clear hp3 ho3 hg
    go_wp2
    refine bodyPost_ret (v := .tuple #[.slice A3 p.bytes.length c3, .int .i64 0]) (by simp [results, Tryd.results32, go_sem]) rfl ?_
    exact ⟨⟨_, by rw [H0.out], by unfold RPutAns; rw [if_pos H0.out]; exact ⟨_, _, rfl, HP3.out⟩⟩, ON4.out⟩
  · have H0 := Lib.hid h0
    go_wp2
    all_goals first | (exfalso; exact H0.out (by assumption)) | skip
    refine bodyPost_ret (v := .tuple #[.slice none 0 0, .int .i64 p.check]) (by simp [results, Tryd.results32, go_sem]) rfl ?_
    exact ⟨⟨_, rfl, by unfold RPutAns; rw [if_neg H0.out]⟩, ON1.out⟩
end Go.Proofs.YtjdgmnaemopfdaaDoor
