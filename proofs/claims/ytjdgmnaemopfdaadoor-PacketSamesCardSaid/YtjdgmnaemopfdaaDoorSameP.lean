/- Whether two packets are one: packet.Same, and the reference's. -/
import Derived.Test.YtjdgmnaemopfdaaDoorEqS
import Derived.Test.YtjdgmnaemopfdaaDoorPkF
namespace Go.Proofs.YtjdgmnaemopfdaaDoor
open Go.RowKit Go.Lib
set_option linter.unusedVariables false
set_option linter.unusedSimpArgs false
set_option maxRecDepth 100000
attribute [local go_sem ↓] Go.wp_at_zero Go.wp_at_succ

theorem pkt_eq {p q : Pkt} : p = q ↔ p.kind = q.kind ∧ p.frm = q.frm ∧ p.abt = q.abt ∧ p.seq = q.seq ∧ p.ms = q.ms ∧ p.es = q.es := by
  cases p
  cases q
  simp
set_option maxHeartbeats 2000000 in
theorem pk_same (A : Option Addr) (c : Nat) (B : Option Addr) (d : Nat) (p : Pkt) (A' : Option Addr) (c' : Nat) (B' : Option Addr) (d' : Nat) (q : Pkt) (w : World) (hat : PkAt w A c B d p) (hat' : PkAt w A' c' B' d' q) : Calls Tryd.prog 39 #[.agg #[.int .u8 p.kind, .int .u16 p.frm, .int .u16 p.abt, .int .i64 p.seq, .slice A p.ms.length c, .slice B p.es.length d], .agg #[.int .u8 q.kind, .int .u16 q.frm, .int .u16 q.abt, .int .i64 q.seq, .slice A' q.ms.length c', .slice B' q.es.length d']] w
    fun e w' => EqAns (p = q) e ∧ Only Noth w w' := by
  have AP := Lib.hid hat
  have AQ := Lib.hid hat'
  have B0 := Lib.hid ((Hld.new w 50 #[.int .u8 p.kind, .int .u16 p.frm, .int .u16 p.abt, .int .i64 p.seq, .slice A p.ms.length c, .slice B p.es.length d]).only ((Only.refl Noth (w.alloc (.cells #[.int .u8 p.kind, .int .u16 p.frm, .int .u16 p.abt, .int .i64 p.seq, .slice A p.ms.length c, .slice B p.es.length d] 50))).alloc (.cells #[.int .u8 q.kind, .int .u16 q.frm, .int .u16 q.abt, .int .i64 q.seq, .slice A' q.ms.length c', .slice B' q.es.length d'] 50)) (fun h => h))
  have B1 := Lib.hid (Hld.new (w.alloc (.cells #[.int .u8 p.kind, .int .u16 p.frm, .int .u16 p.abt, .int .i64 p.seq, .slice A p.ms.length c, .slice B p.es.length d] 50)) 50 #[.int .u8 q.kind, .int .u16 q.frm, .int .u16 q.abt, .int .i64 q.seq, .slice A' q.ms.length c', .slice B' q.es.length d'])
  have ON := Lib.hid (((Only.refl Noth w).alloc (.cells #[.int .u8 p.kind, .int .u16 p.frm, .int .u16 p.abt, .int .i64 p.seq, .slice A p.ms.length c, .slice B p.es.length d] 50)).alloc (.cells #[.int .u8 q.kind, .int .u16 q.frm, .int .u16 q.abt, .int .i64 q.seq, .slice A' q.ms.length c', .slice B' q.es.length d'] 50))
  clear hat hat'
  go_enter Tryd.func39, Tryd.ntmps39
  obtain h0 | h0 : (p.kind == q.kind) = false ∨ (p.kind == q.kind) = true := by cases (p.kind == q.kind) <;> simp
  · go_wp2
    go_ret
    exact ⟨.no rfl (fun e => by rw [e] at h0; simp at h0), ON.out⟩
  obtain h1 | h1 : (p.frm == q.frm) = false ∨ (p.frm == q.frm) = true := by cases (p.frm == q.frm) <;> simp
  · go_wp2
    go_ret
    exact ⟨.no rfl (fun e => by rw [e] at h1; simp at h1), ON.out⟩
  obtain h2 | h2 : (p.abt == q.abt) = false ∨ (p.abt == q.abt) = true := by cases (p.abt == q.abt) <;> simp
  · go_wp2
    go_ret
    exact ⟨.no rfl (fun e => by rw [e] at h2; simp at h2), ON.out⟩
  obtain h3 | h3 : (p.seq == q.seq) = false ∨ (p.seq == q.seq) = true := by cases (p.seq == q.seq) <;> simp
  · go_wp2
    go_ret
    exact ⟨.no rfl (fun e => by rw [e] at h3; simp at h3), ON.out⟩
  go_wp2_with fail
  refine (eq_mems A A' c c' p.ms q.ms _ _ _ (AP.out.noth ON.out).ms (AQ.out.noth ON.out).ms (by have := AP.out.c0; have := AP.out.c1; omega) (by have := AQ.out.c0; have := AQ.out.c1; omega)).mono ?_
  rintro e w1 ⟨⟨b, rfl, hb⟩, ho⟩
  have HB := Lib.hid hb
  have ON1 := Lib.hid (ON.out.tr ho)
  have X0 := (B0.out.only ho (fun h => h)).cell 5
  have X1 := (B1.out.only ho (fun h => h)).cell 5
  simp only [World.size_alloc] at X1
  have c0 : w1.cell? ⟨w.heap.size, 5, none⟩ = some (.slice B p.es.length d) := X0
  have c1 : w1.cell? ⟨w.heap.size + 1, 5, none⟩ = some (.slice B' q.es.length d') := X1
  clear hb ho X0 X1
  cases b
  · go_wp2
    go_ret
    exact ⟨.no rfl (fun e => absurd (HB.out.2 (by rw [e])) (by decide)), ON1.out⟩
  go_wp2_with fail
  refine (eq_ents B B' d d' p.es q.es _ _ _ (AP.out.noth ON1.out).es (AQ.out.noth ON1.out).es (by have := AP.out.d0; have := AP.out.d1; omega) (by have := AQ.out.d0; have := AQ.out.d1; omega)).mono ?_
  rintro e w2 ⟨⟨b2, rfl, hb2⟩, ho⟩
  have HB2 := Lib.hid hb2
  have ON2 := Lib.hid (ON1.out.tr ho)
  clear hb2 ho
  cases b2
  · go_wp2
    go_ret
    exact ⟨.no rfl (fun e => absurd (HB2.out.2 (by rw [e])) (by decide)), ON2.out⟩
  · go_wp2
    go_ret
    exact ⟨.yes rfl (pkt_eq.2 ⟨eq_of_beq h0, eq_of_beq h1, eq_of_beq h2, eq_of_beq h3, HB.out.1 (by simp), HB2.out.1 (by simp)⟩), ON2.out⟩
set_option maxHeartbeats 2000000 in
theorem ref_same (A : Option Addr) (c : Nat) (B : Option Addr) (d : Nat) (p : Pkt) (A' : Option Addr) (c' : Nat) (B' : Option Addr) (d' : Nat) (q : Pkt) (w : World) (hat : PkAt w A c B d p) (hat' : PkAt w A' c' B' d' q) : Calls Tryd.prog 34 #[.agg #[.int .u8 p.kind, .int .u16 p.frm, .int .u16 p.abt, .int .i64 p.seq, .slice A p.ms.length c, .slice B p.es.length d], .agg #[.int .u8 q.kind, .int .u16 q.frm, .int .u16 q.abt, .int .i64 q.seq, .slice A' q.ms.length c', .slice B' q.es.length d']] w
    fun e w' => EqAns (p = q) e ∧ Only Noth w w' := by
  have AP := Lib.hid hat
  have AQ := Lib.hid hat'
  have B0 := Lib.hid ((Hld.new w 50 #[.int .u8 p.kind, .int .u16 p.frm, .int .u16 p.abt, .int .i64 p.seq, .slice A p.ms.length c, .slice B p.es.length d]).only ((Only.refl Noth (w.alloc (.cells #[.int .u8 p.kind, .int .u16 p.frm, .int .u16 p.abt, .int .i64 p.seq, .slice A p.ms.length c, .slice B p.es.length d] 50))).alloc (.cells #[.int .u8 q.kind, .int .u16 q.frm, .int .u16 q.abt, .int .i64 q.seq, .slice A' q.ms.length c', .slice B' q.es.length d'] 50)) (fun h => h))
  have B1 := Lib.hid (Hld.new (w.alloc (.cells #[.int .u8 p.kind, .int .u16 p.frm, .int .u16 p.abt, .int .i64 p.seq, .slice A p.ms.length c, .slice B p.es.length d] 50)) 50 #[.int .u8 q.kind, .int .u16 q.frm, .int .u16 q.abt, .int .i64 q.seq, .slice A' q.ms.length c', .slice B' q.es.length d'])
  have ON := Lib.hid (((Only.refl Noth w).alloc (.cells #[.int .u8 p.kind, .int .u16 p.frm, .int .u16 p.abt, .int .i64 p.seq, .slice A p.ms.length c, .slice B p.es.length d] 50)).alloc (.cells #[.int .u8 q.kind, .int .u16 q.frm, .int .u16 q.abt, .int .i64 q.seq, .slice A' q.ms.length c', .slice B' q.es.length d'] 50))
  clear hat hat'
  go_enter Tryd.func34, Tryd.ntmps34
  obtain h0 | h0 : (p.kind == q.kind) = false ∨ (p.kind == q.kind) = true := by cases (p.kind == q.kind) <;> simp
  · go_wp2
    go_ret
    exact ⟨.no rfl (fun e => by rw [e] at h0; simp at h0), ON.out⟩
  obtain h1 | h1 : (p.frm == q.frm) = false ∨ (p.frm == q.frm) = true := by cases (p.frm == q.frm) <;> simp
  · go_wp2
    go_ret
    exact ⟨.no rfl (fun e => by rw [e] at h1; simp at h1), ON.out⟩
  obtain h2 | h2 : (p.abt == q.abt) = false ∨ (p.abt == q.abt) = true := by cases (p.abt == q.abt) <;> simp
  · go_wp2
    go_ret
    exact ⟨.no rfl (fun e => by rw [e] at h2; simp at h2), ON.out⟩
  obtain h3 | h3 : (p.seq == q.seq) = false ∨ (p.seq == q.seq) = true := by cases (p.seq == q.seq) <;> simp
  · go_wp2
    go_ret
    exact ⟨.no rfl (fun e => by rw [e] at h3; simp at h3), ON.out⟩
  go_wp2_with fail
  refine (ref_mems A A' c c' p.ms q.ms _ _ _ (AP.out.noth ON.out).ms (AQ.out.noth ON.out).ms (by have := AP.out.c0; have := AP.out.c1; omega) (by have := AQ.out.c0; have := AQ.out.c1; omega)).mono ?_
  rintro e w1 ⟨⟨b, rfl, hb⟩, ho⟩
  have HB := Lib.hid hb
  have ON1 := Lib.hid (ON.out.tr ho)
  have X0 := (B0.out.only ho (fun h => h)).cell 5
  have X1 := (B1.out.only ho (fun h => h)).cell 5
  simp only [World.size_alloc] at X1
  have c0 : w1.cell? ⟨w.heap.size, 5, none⟩ = some (.slice B p.es.length d) := X0
  have c1 : w1.cell? ⟨w.heap.size + 1, 5, none⟩ = some (.slice B' q.es.length d') := X1
  clear hb ho X0 X1
  cases b
  · go_wp2
    go_ret
    exact ⟨.no rfl (fun e => absurd (HB.out.2 (by rw [e])) (by decide)), ON1.out⟩
  go_wp2_with fail
  refine (ref_ents B B' d d' p.es q.es _ _ _ (AP.out.noth ON1.out).es (AQ.out.noth ON1.out).es (by have := AP.out.d0; have := AP.out.d1; omega) (by have := AQ.out.d0; have := AQ.out.d1; omega)).mono ?_
  rintro e w2 ⟨⟨b2, rfl, hb2⟩, ho⟩
  have HB2 := Lib.hid hb2
  have ON2 := Lib.hid (ON1.out.tr ho)
  clear hb2 ho
  cases b2
  · go_wp2
    go_ret
    exact ⟨.no rfl (fun e => absurd (HB2.out.2 (by rw [e])) (by decide)), ON2.out⟩
  · go_wp2
    go_ret
    exact ⟨.yes rfl (pkt_eq.2 ⟨eq_of_beq h0, eq_of_beq h1, eq_of_beq h2, eq_of_beq h3, HB.out.1 (by simp), HB2.out.1 (by simp)⟩), ON2.out⟩
end Go.Proofs.YtjdgmnaemopfdaaDoor
