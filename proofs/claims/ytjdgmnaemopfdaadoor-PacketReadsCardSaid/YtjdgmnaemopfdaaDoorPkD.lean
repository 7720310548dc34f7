/- Package packet: Check, Put. -/
import Derived.Test.YtjdgmnaemopfdaaDoorPkC
namespace Go.Proofs.YtjdgmnaemopfdaaDoor
open Go.RowKit Go.Lib
set_option linter.unusedVariables false
set_option maxRecDepth 100000
attribute [local go_sem ↓] Go.wp_at_zero Go.wp_at_succ

def firstBad : List Ent → Int
  | [] => 0
  | e :: t => if e.check = 0 then firstBad t else e.check
theorem firstBad_zero {l : List Ent} (h : firstBad l = 0) : ∀ e ∈ l, e.check = 0 := by
  induction l with
  | nil => simp
  | cons a t ih =>
    simp only [firstBad] at h
    split at h
    · rename_i h0
      intro e he
      rcases List.mem_cons.1 he with rfl | he
      · exact h0
      · exact ih h e he
    · rename_i h0
      exact absurd h h0
def Pkt.check (p : Pkt) : Int :=
  if 4 < p.kind ∨ 64 ≤ p.frm ∨ 64 ≤ p.abt ∨ p.seq < 0 ∨ 1099511627776 < p.seq ∨ 64 < p.ms.length ∨ 256 < p.es.length ∨ p.ms.any Mem.wrong = true then 14
  else if firstBad p.es ≠ 0 then firstBad p.es else if 16384 < p.bytes.length then 5 else 0
/-- What a packet that is checked is. -/
structure Pkt.Fit (p : Pkt) : Prop where
  k0 : 0 ≤ p.kind
  k1 : p.kind ≤ 255
  f0 : 0 ≤ p.frm
  f1 : p.frm ≤ 65535
  a0 : 0 ≤ p.abt
  a1 : p.abt ≤ 65535
  s0 : -9223372036854775808 ≤ p.seq
  s1 : p.seq ≤ 9223372036854775807
  m : ∀ x ∈ p.ms, x.Ok
  e : ∀ x ∈ p.es, x.Ok ∧ x.key.size ≤ 9223372036854775807 ∧ x.val.size ≤ 9223372036854775807
theorem check_small {e : Ent} (h : e.check = 0) : e.key.size + e.val.size ≤ 100000 := by
  unfold Ent.check at h
  split at h <;> omega
theorem Pkt.Fit.ok {p : Pkt} (h : p.Fit) (hm : p.ms.length ≤ 64) (he : p.es.length ≤ 256) (hf : firstBad p.es = 0) : p.Ok :=
  ⟨h.k0, h.k1, h.f0, h.f1, h.a0, h.a1, h.s0, h.s1, h.m, fun x hx => ⟨(h.e x hx).1, check_small (firstBad_zero hf x hx)⟩, by omega, by omega⟩
set_option maxHeartbeats 4000000 in
theorem pk_check (A : Option Addr) (c : Nat) (B : Option Addr) (d : Nat) (p : Pkt) (hp : p.Fit) (w : World) (hat : PkAt w A c B d p) (ht : Tab w) : Calls Tryd.prog 33 #[.agg #[.int .u8 p.kind, .int .u16 p.frm, .int .u16 p.abt, .int .i64 p.seq, .slice A p.ms.length c, .slice B p.es.length d]] w
    fun e w' => e = .returned (.int .i64 p.check) ∧ Only Noth w w' := by
  have T := Lib.hid ht
  have HP := Lib.hid hp
  have B0 := Lib.hid (Hld.new w 50 #[.int .u8 p.kind, .int .u16 p.frm, .int .u16 p.abt, .int .i64 p.seq, .slice A p.ms.length c, .slice B p.es.length d])
  have ON := Lib.hid ((Only.refl Noth w).alloc (.cells #[.int .u8 p.kind, .int .u16 p.frm, .int .u16 p.abt, .int .i64 p.seq, .slice A p.ms.length c, .slice B p.es.length d] 50))
  have AT := Lib.hid hat
  have ml0 : (0 : Int) ≤ p.ms.length := by omega
  have el0 : (0 : Int) ≤ p.es.length := by omega
  clear ht hat hp
  go_enter Tryd.func33, Tryd.ntmps33
  go_wp2_with fail
  all_goals first
    | (go_ret; refine ⟨ret_num ?_, ON.out⟩; unfold Pkt.check; rw [if_pos (by omega)]; done)
    | skip
  refine (pk_contains A p.ms.length c p.ms rfl AT.out.c0 AT.out.c1 (by omega) _ ((AT.out.noth ON.out).ms)).mono ?_
  rintro e w1 ⟨rfl, ho⟩
  have ON1 := Lib.hid (ON.out.tr ho)
  have B1 := Lib.hid (B0.out.only ho (fun h => h))
  have c5 : w1.cell? ⟨w.heap.size, 5, none⟩ = some (.slice B p.es.length d) := B1.out.cell 5
  clear ho
  obtain hb | hb : p.ms.any Mem.wrong = true ∨ p.ms.any Mem.wrong = false := by cases p.ms.any Mem.wrong <;> simp
  all_goals rw [hb]
  all_goals have HBB := Lib.hid hb
  all_goals clear hb
  · go_wp2
    go_ret
    refine ⟨ret_num ?_, ON1.out⟩
    unfold Pkt.check
    rw [if_pos (by simp only [HBB.out]; simp)]
  go_wp2_with fail
  go_loopw [47] (fun i W => (∃ k : Nat, k ≤ p.es.length ∧ i = .int .i64 (k : Int) ∧ firstBad p.es = firstBad (p.es.drop k)) ∧ Only Noth w1 W) (fun i _ => p.es.length - (RowKit.intOf i).toNat)
  case atStart => exact ⟨⟨0, Nat.zero_le _, rfl, rfl⟩, Only.refl _ _⟩
  case round =>
    obtain ⟨⟨k, hk, rfl, ha⟩, ho⟩ := hrel
    have ON2 := Lib.hid ho
    have HA := Lib.hid ha
    clear ho ha c5
    by_cases hlt : k < p.es.length
    · obtain ⟨x, hx⟩ : ∃ x, p.es[k]? = some x := ⟨_, List.getElem?_eq_getElem hlt⟩
      have HX := Lib.hid (HP.out.e x (List.mem_of_getElem? hx))
      have HD := Lib.hid (show firstBad p.es = firstBad (x :: p.es.drop (k + 1)) by rw [HA.out, List.drop_eq_getElem_cons hlt]; rw [List.getElem?_eq_getElem hlt] at hx; cases hx; rfl)
      obtain ⟨b, o, hBe, hbw, hbl, e0, e1, e2, e3, e4⟩ := (((AT.out.noth ON1.out).noth ON2.out).es).ent hx
      rw [hBe]
      have hb0 : (0 : Int) ≤ k := by omega
      have hb1 : (k : Int) < p.es.length := by omega
      clear hx hbw hbl
      go_wp2_with fail
      refine (entry_check x HX.out.2.1 HX.out.2.2 _).mono ?_
      rintro e w2 ⟨rfl, ho1⟩
      have ON3 := Lib.hid (ON2.out.tr (((Only.refl Noth wr).alloc (.cells #[.string x.key, .int .i64 x.time, .int .u16 x.org, .string x.val, .int .i64 x.til] 64)).tr ho1))
      clear ho1 e0 e1 e2 e3 e4
      by_cases h0 : x.check = 0
      · have HD1 := Lib.hid (show firstBad p.es = firstBad (p.es.drop (k + 1)) by rw [HD.out, firstBad, if_pos h0])
        rw [h0]
        go_wp2_with fail
        go_roundw
        case rel => exact ⟨⟨k + 1, by omega, by go_num, HD1.out⟩, ON3.out⟩
        case measure => simp [RowKit.intOf]; omega
      · have HD1 := Lib.hid (show firstBad p.es = x.check by rw [HD.out, firstBad, if_neg h0])
        go_wp2
        go_ret
        refine ⟨ret_num ?_, ON1.out.tr ON3.out⟩
        unfold Pkt.check
        rw [if_neg, if_pos, HD1.out]
        · rw [HD1.out]; exact h0
        · simp only [HBB.out, Bool.false_eq_true, or_false]
          omega
    · obtain rfl : k = p.es.length := by omega
      have h0 := HA.out
      rw [List.drop_of_length_le (Nat.le_refl _)] at h0
      have H0 := Lib.hid h0
      have B2 := B1.out.only ON2.out (fun h => h)
      have c0 : wr.cell? ⟨w.heap.size, 0, none⟩ = some (.int .u8 p.kind) := B2.cell 0
      have c1 : wr.cell? ⟨w.heap.size, 1, none⟩ = some (.int .u16 p.frm) := B2.cell 1
      have c2 : wr.cell? ⟨w.heap.size, 2, none⟩ = some (.int .u16 p.abt) := B2.cell 2
      have c3 : wr.cell? ⟨w.heap.size, 3, none⟩ = some (.int .i64 p.seq) := B2.cell 3
      have c4 : wr.cell? ⟨w.heap.size, 4, none⟩ = some (.slice A p.ms.length c) := B2.cell 4
      have c5 : wr.cell? ⟨w.heap.size, 5, none⟩ = some (.slice B p.es.length d) := B2.cell 5
      have OK := Lib.hid (HP.out.ok (by omega) (by omega) H0.out)
      have HC := Lib.hid (show p.check = if 16384 < p.bytes.length then 5 else 0 by
        unfold Pkt.check
        rw [if_neg, if_neg]
        · rw [H0.out]; simp [firstBad]
        · simp only [HBB.out, Bool.false_eq_true, or_false]
          omega)
      clear h0 B2
      go_wp2_with fail
      refine (pk_lay A c B d p OK.out _ rfl _ ((AT.out.noth ON1.out).noth ON2.out) ((T.out.noth ON1.out).noth ON2.out)).mono ?_
      rintro e w3 ⟨A3, c3, rfl, -, ho3, -, -⟩
      have ON4 := Lib.hid ((ON1.out.tr ON2.out).tr ho3)
      clear ho3
      go_wp2
      all_goals go_ret
      all_goals refine ⟨ret_num ?_, ON4.out⟩
      all_goals rw [HC.out]
      all_goals split
      all_goals first | rfl | omega
/-- What Put gives beside the answer. -/
def PutAns (w : World) (p : Pkt) (s : Value) (w' : World) : Prop := if p.check = 0 then ∃ A c, s = .slice A p.bytes.length c ∧ Part w' s p.bytes ∧ Row w' (New w) 5 1 s p.bytes.length (byteCells p.bytes) else s = .slice none 0 0
theorem Pkt.Fit.ok0 {p : Pkt} (h : p.Fit) (h0 : p.check = 0) : p.Ok := by
  unfold Pkt.check at h0
  split at h0
  · exact absurd h0 (by decide)
  · rename_i hn
    split at h0
    · rename_i h1
      exact absurd h0 h1
    · rename_i h1
      have h2 : firstBad p.es = 0 := by omega
      exact h.ok (by omega) (by omega) h2
set_option maxHeartbeats 2000000 in
theorem pk_put (A : Option Addr) (c : Nat) (B : Option Addr) (d : Nat) (p : Pkt) (hp : p.Fit) (w : World) (hat : PkAt w A c B d p) (ht : Tab w) : Calls Tryd.prog 31 #[.agg #[.int .u8 p.kind, .int .u16 p.frm, .int .u16 p.abt, .int .i64 p.seq, .slice A p.ms.length c, .slice B p.es.length d]] w
    fun e w' => (∃ s : Value, e = .returned (.tuple #[s, .int .i64 p.check]) ∧ PutAns w p s w') ∧ Only Noth w w' := by
  have T := Lib.hid ht
  have HP := Lib.hid hp
  have B0 := Lib.hid (Hld.new w 50 #[.int .u8 p.kind, .int .u16 p.frm, .int .u16 p.abt, .int .i64 p.seq, .slice A p.ms.length c, .slice B p.es.length d])
  have ON := Lib.hid ((Only.refl Noth w).alloc (.cells #[.int .u8 p.kind, .int .u16 p.frm, .int .u16 p.abt, .int .i64 p.seq, .slice A p.ms.length c, .slice B p.es.length d] 50))
  have AT := Lib.hid hat
  clear ht hat hp
  go_enter Tryd.func31, Tryd.ntmps31
  go_wp2_with fail
  refine (pk_check A c B d p HP.out _ (AT.out.noth ON.out) (T.out.noth ON.out)).mono ?_
  rintro e w1 ⟨rfl, ho⟩
  have ON1 := Lib.hid (ON.out.tr ho)
  have B1 := Lib.hid (B0.out.only ho (fun h => h))
  have c0 : w1.cell? ⟨w.heap.size, 0, none⟩ = some (.int .u8 p.kind) := B1.out.cell 0
  have c1 : w1.cell? ⟨w.heap.size, 1, none⟩ = some (.int .u16 p.frm) := B1.out.cell 1
  have c2 : w1.cell? ⟨w.heap.size, 2, none⟩ = some (.int .u16 p.abt) := B1.out.cell 2
  have c3 : w1.cell? ⟨w.heap.size, 3, none⟩ = some (.int .i64 p.seq) := B1.out.cell 3
  have c4 : w1.cell? ⟨w.heap.size, 4, none⟩ = some (.slice A p.ms.length c) := B1.out.cell 4
  have c5 : w1.cell? ⟨w.heap.size, 5, none⟩ = some (.slice B p.es.length d) := B1.out.cell 5
  clear ho
  by_cases h0 : p.check = 0
  · have OK := Lib.hid (HP.out.ok0 h0)
    have H0 := Lib.hid h0
    rw [h0]
    clear h0
    go_wp2_with fail
    refine (pk_lay A c B d p OK.out _ rfl _ (AT.out.noth ON1.out) (T.out.noth ON1.out)).mono ?_
    rintro e w3 hg3
    obtain ⟨A3', c3', e3, hp3, -⟩ := hg3.part
    obtain ⟨A3, c3, rfl, hr3, ho3, -, -⟩ := hg3
    injection e3 with e3
    injection e3 with e31 e32 e33
    subst e31 e33
    have ON4 := Lib.hid (ON1.out.tr ho3)
    have HP3 := Lib.hid hp3
    have HR3 := Lib.hid (show Row w3 (New w) 5 1 (.slice A3 p.bytes.length c3) p.bytes.length (byteCells p.bytes) from hr3.mono (fun k hk _ => by have := ON1.out.size; unfold New at hk ⊢; omega))
    clear hp3 ho3 hr3
    go_wp2
    refine bodyPost_ret (v := .tuple #[.slice A3 p.bytes.length c3, .int .i64 0]) (by simp [results, Tryd.results31, go_sem]) rfl ?_
    exact ⟨⟨_, by rw [H0.out], by unfold PutAns; rw [if_pos H0.out]; exact ⟨_, _, rfl, HP3.out, HR3.out⟩⟩, ON4.out⟩
  · have H0 := Lib.hid h0
    go_wp2
    all_goals first | (exfalso; exact H0.out (by assumption)) | skip
    refine bodyPost_ret (v := .tuple #[.slice none 0 0, .int .i64 p.check]) (by simp [results, Tryd.results31, go_sem]) rfl ?_
    exact ⟨⟨_, rfl, by unfold PutAns; rw [if_neg H0.out]⟩, ON1.out⟩
end Go.Proofs.YtjdgmnaemopfdaaDoor
