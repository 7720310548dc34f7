/- Package packet: a whole packet laid. -/
import Derived.Test.YtjdgmnaemopfdaaDoorPkL
namespace Go.Proofs.YtjdgmnaemopfdaaDoor
open Go.RowKit Go.Lib
set_option linter.unusedVariables false
set_option maxRecDepth 100000
attribute [local go_sem ↓] Go.wp_at_zero Go.wp_at_succ

/-- A packet. -/
structure Pkt where
  kind : Int
  frm : Int
  abt : Int
  seq : Int
  ms : List Mem
  es : List Ent
def Pkt.bytes (p : Pkt) : List UInt8 := tList [tInt p.kind, tInt p.frm, tInt p.abt, tInt p.seq, tList (p.ms.map tMem), tList (p.es.map Ent.bytes)]
/-- What every packet that comes here is. -/
structure Pkt.Ok (p : Pkt) : Prop where
  k0 : 0 ≤ p.kind
  k1 : p.kind ≤ 255
  f0 : 0 ≤ p.frm
  f1 : p.frm ≤ 65535
  a0 : 0 ≤ p.abt
  a1 : p.abt ≤ 65535
  s0 : -9223372036854775808 ≤ p.seq
  s1 : p.seq ≤ 9223372036854775807
  m : ∀ x ∈ p.ms, x.Ok
  e : ∀ x ∈ p.es, x.Ok ∧ x.key.size + x.val.size ≤ 100000
  ml : p.ms.length ≤ 100000
  el : p.es.length ≤ 100000
/-- Its lists in memory. -/
structure PkAt (w : World) (A : Option Addr) (c : Nat) (B : Option Addr) (d : Nat) (p : Pkt) : Prop where
  ms : ElAt w (fun k => k < w.heap.size) 3 A (p.ms.map Mem.cl)
  es : ElAt w (fun k => k < w.heap.size) 5 B (p.es.map Ent.cl)
  c0 : p.ms.length ≤ c
  c1 : c ≤ 9223372036854775807
  d0 : p.es.length ≤ d
  d1 : d ≤ 9223372036854775807
theorem PkAt.noth {w w' : World} {A B : Option Addr} {c d : Nat} {p : Pkt} (h : PkAt w A c B d p) (ho : Only Noth w w') : PkAt w' A c B d p :=
  ⟨(h.ms.noth ho).mono (fun k _ h => h), (h.es.noth ho).mono (fun k _ h => h), h.c0, h.c1, h.d0, h.d1⟩
theorem flat_le (l : List (List UInt8)) (K : Nat) (h : ∀ x ∈ l, x.length ≤ K) : l.flatten.length ≤ l.length * K := by
  induction l with
  | nil => simp
  | cons a t ih =>
    have h1 := h a (by simp)
    have h2 := ih (fun x hx => h x (by simp [hx]))
    simp only [List.flatten_cons, List.length_append, List.length_cons, Nat.succ_mul]
    omega
theorem tMem_le {m : Mem} (h : m.Ok) : (tMem m).length ≤ 70 := by
  have l1 := tInt_le m.node (by have := h.n0; omega) (by have := h.n1; omega)
  have l2 := tInt_le m.st (by have := h.s0; omega) (by have := h.s1; omega)
  have l3 := tInt_le m.inc h.i0 h.i1
  simp only [tMem, tList, List.length_cons, List.length_append, List.flatten_cons, List.flatten_nil, List.length_nil]
  omega
theorem bytes_le {e : Ent} (h : e.Ok) (hs : e.key.size + e.val.size ≤ 140737488355000) : e.bytes.length ≤ e.key.size + e.val.size + 120 := by
  have l1 := tInt_le e.time h.t0 h.t1
  have l2 := tInt_le e.org (by have := h.o0; omega) (by have := h.o1; omega)
  have l3 := tInt_le e.til h.u0 h.u1
  have e1 : e.key.data.toList.length = e.key.size := rfl
  have e2 : e.val.data.toList.length = e.val.size := rfl
  have k1 := itoa_len20 (e.key.data.toList.length : Int) (by omega) (by omega)
  have k2 := itoa_len20 (e.val.data.toList.length : Int) (by omega) (by omega)
  simp only [Ent.bytes, tEnt, tList, List.length_cons, List.length_append, List.flatten_cons, List.flatten_nil, List.length_nil, tText_length]
  omega
theorem mems_le {p : Pkt} (h : p.Ok) : (p.ms.map tMem).flatten.length ≤ 7000000 := by
  have h1 := flat_le (p.ms.map tMem) 70 (fun x hx => by obtain ⟨m, hm, rfl⟩ := List.mem_map.1 hx; exact tMem_le (h.m m hm))
  rw [List.length_map] at h1
  have := Nat.mul_le_mul_right 70 h.ml
  omega
theorem ents_le {p : Pkt} (h : p.Ok) : (p.es.map Ent.bytes).flatten.length ≤ 10012000000 := by
  have h1 := flat_le (p.es.map Ent.bytes) 100120 (fun x hx => by obtain ⟨m, hm, rfl⟩ := List.mem_map.1 hx; have := bytes_le (h.e m hm).1 (by have := (h.e m hm).2; omega); have := (h.e m hm).2; omega)
  rw [List.length_map] at h1
  have := Nat.mul_le_mul_right 100120 h.el
  omega
set_option maxHeartbeats 4000000 in
theorem pk_lay (A : Option Addr) (c : Nat) (B : Option Addr) (d : Nat) (p : Pkt) (hp : p.Ok) (L : List UInt8) (hL : p.bytes = L) (w : World) (hat : PkAt w A c B d p) (ht : Tab w) : Calls Tryd.prog 52 #[.agg #[.int .u8 p.kind, .int .u16 p.frm, .int .u16 p.abt, .int .i64 p.seq, .slice A p.ms.length c, .slice B p.es.length d]] w (Given w L) := by
  have T := Lib.hid (ht.alloc (.cells #[.int .u8 p.kind, .int .u16 p.frm, .int .u16 p.abt, .int .i64 p.seq, .slice A p.ms.length c, .slice B p.es.length d] 50))
  have B0 := Lib.hid (Hld.new w 50 #[.int .u8 p.kind, .int .u16 p.frm, .int .u16 p.abt, .int .i64 p.seq, .slice A p.ms.length c, .slice B p.es.length d])
  have ON := Lib.hid ((Only.refl Noth w).alloc (.cells #[.int .u8 p.kind, .int .u16 p.frm, .int .u16 p.abt, .int .i64 p.seq, .slice A p.ms.length c, .slice B p.es.length d] 50))
  have AT := Lib.hid (hat.noth ((Only.refl Noth w).alloc (.cells #[.int .u8 p.kind, .int .u16 p.frm, .int .u16 p.abt, .int .i64 p.seq, .slice A p.ms.length c, .slice B p.es.length d] 50)))
  obtain ⟨L1, hL1⟩ : ∃ L, tInt p.kind = L := ⟨_, rfl⟩
  obtain ⟨L2, hL2⟩ : ∃ L, tInt p.frm = L := ⟨_, rfl⟩
  obtain ⟨L3, hL3⟩ : ∃ L, tInt p.abt = L := ⟨_, rfl⟩
  obtain ⟨L4, hL4⟩ : ∃ L, tInt p.seq = L := ⟨_, rfl⟩
  obtain ⟨L5, hL5⟩ : ∃ L, tList (p.ms.map tMem) = L := ⟨_, rfl⟩
  obtain ⟨L6, hL6⟩ : ∃ L, tList (p.es.map Ent.bytes) = L := ⟨_, rfl⟩
  have LL := Lib.hid (show tList [L1, L2, L3, L4, L5, L6] = L by rw [← hL, ← hL1, ← hL2, ← hL3, ← hL4, ← hL5, ← hL6]; rfl)
  have l1 := tInt_le p.kind (by have := hp.k0; omega) (by have := hp.k1; omega)
  have l2 := tInt_le p.frm (by have := hp.f0; omega) (by have := hp.f1; omega)
  have l3 := tInt_le p.abt (by have := hp.a0; omega) (by have := hp.a1; omega)
  have l4 := tInt_le p.seq hp.s0 hp.s1
  have l5 := mems_le hp
  have l6 := ents_le hp
  have l5' : L5.length = (p.ms.map tMem).flatten.length + 2 := by rw [← hL5]; simp [tList]
  have l6' : L6.length = (p.es.map Ent.bytes).flatten.length + 2 := by rw [← hL6]; simp [tList]
  rw [hL1] at l1
  rw [hL2] at l2
  rw [hL3] at l3
  rw [hL4] at l4
  have LB := Lib.hid (show [L1, L2, L3, L4, L5, L6].flatten.length + 2 ≤ 140737488355328 by simp only [List.flatten_cons, List.flatten_nil, List.length_append, List.length_nil]; omega)
  have LM := Lib.hid (show (p.ms.map tMem).flatten.length + 2 ≤ 140737488355328 by omega)
  have LE := Lib.hid (show (p.es.map Ent.bytes).flatten.length + 2 ≤ 140737488355328 by omega)
  have H1 := Lib.hid hL1
  have H2 := Lib.hid hL2
  have H3 := Lib.hid hL3
  have H4 := Lib.hid hL4
  have C5 := Lib.hid (show ∀ W, PkAt W A c B d p → Tab W → Calls Tryd.prog 79 #[.slice A p.ms.length c, .func (.func 38) #[] #[]] W (GivenP W L5) from fun W h t => by
    rw [← hL5]; exact pk_list_mem A p.ms.length c p.ms rfl h.c0 h.c1 (by have := hp.ml; omega) W h.ms hp.m LM.out t)
  have C6 := Lib.hid (show ∀ W, PkAt W A c B d p → Tab W → Calls Tryd.prog 80 #[.slice B p.es.length d, .func (.func 64) #[] #[]] W (GivenP W L6) from fun W h t => by
    rw [← hL6]; exact pk_list_ent B p.es.length d p.es rfl h.d0 h.d1 (by have := hp.el; omega) W h.es (fun x hx => ⟨(hp.e x hx).1, by have := (hp.e x hx).2; omega⟩) LE.out t)
  clear ht hL hL1 hL2 hL3 hL4 hL5 hL6 l1 l2 l3 l4 l5 l6 l5' l6' hat
  go_enter Tryd.func52, Tryd.ntmps52
  go_wp2_with fail
  refine wp_region_N Noth (by kernel_rfl) ?_
  refine wpN_take (i := 0) (d := some 3) rfl rfl (by kernel_rfl) (by kernel_rfl) (by kernel_rfl) (fun _ _ _ h => h) (sure_value (v := .pointer (some ⟨w.heap.size, 0, none⟩)) (by rfl) (fun _ _ => by go_simp)) (Only.refl _ _) ?_
  simp only [Act.put, List.setIfInBounds_toArray, List.set_cons_zero, List.set_cons_succ]
  refine wpN_take (i := 1) (d := some 4) rfl rfl (by kernel_rfl) (by kernel_rfl) (by kernel_rfl) (fun _ _ _ h => h) (sure_lit (v := .int .u8 p.kind) (i := 0) B0.out.drew rfl (fun h => h) (by rfl) (fun _ h => by go_simp)) (Only.refl _ _) ?_
  simp only [Act.put, List.setIfInBounds_toArray, List.set_cons_zero, List.set_cons_succ]
  refine wpN_take (i := 3) (d := some 6) rfl rfl (by kernel_rfl) (by kernel_rfl) (by kernel_rfl) (fun _ _ _ h => h) (sure_value (v := .pointer (some ⟨w.heap.size, 1, none⟩)) (by rfl) (fun _ _ => by go_simp)) (Only.refl _ _) ?_
  simp only [Act.put, List.setIfInBounds_toArray, List.set_cons_zero, List.set_cons_succ]
  refine wpN_take (i := 4) (d := some 7) rfl rfl (by kernel_rfl) (by kernel_rfl) (by kernel_rfl) (fun _ _ _ h => h) (sure_lit (v := .int .u16 p.frm) (i := 1) B0.out.drew rfl (fun h => h) (by rfl) (fun _ h => by go_simp)) (Only.refl _ _) ?_
  simp only [Act.put, List.setIfInBounds_toArray, List.set_cons_zero, List.set_cons_succ]
  refine wpN_take (i := 6) (d := some 9) rfl rfl (by kernel_rfl) (by kernel_rfl) (by kernel_rfl) (fun _ _ _ h => h) (sure_value (v := .pointer (some ⟨w.heap.size, 2, none⟩)) (by rfl) (fun _ _ => by go_simp)) (Only.refl _ _) ?_
  simp only [Act.put, List.setIfInBounds_toArray, List.set_cons_zero, List.set_cons_succ]
  refine wpN_take (i := 7) (d := some 10) rfl rfl (by kernel_rfl) (by kernel_rfl) (by kernel_rfl) (fun _ _ _ h => h) (sure_lit (v := .int .u16 p.abt) (i := 2) B0.out.drew rfl (fun h => h) (by rfl) (fun _ h => by go_simp)) (Only.refl _ _) ?_
  simp only [Act.put, List.setIfInBounds_toArray, List.set_cons_zero, List.set_cons_succ]
  refine wpN_take (i := 9) (d := some 12) rfl rfl (by kernel_rfl) (by kernel_rfl) (by kernel_rfl) (fun _ _ _ h => h) (sure_value (v := .pointer (some ⟨w.heap.size, 3, none⟩)) (by rfl) (fun _ _ => by go_simp)) (Only.refl _ _) ?_
  simp only [Act.put, List.setIfInBounds_toArray, List.set_cons_zero, List.set_cons_succ]
  refine wpN_take (i := 10) (d := some 13) rfl rfl (by kernel_rfl) (by kernel_rfl) (by kernel_rfl) (fun _ _ _ h => h) (sure_lit (v := .int .i64 p.seq) (i := 3) B0.out.drew rfl (fun h => h) (by rfl) (fun _ h => by go_simp)) (Only.refl _ _) ?_
  simp only [Act.put, List.setIfInBounds_toArray, List.set_cons_zero, List.set_cons_succ]
  refine wpN_take (i := 12) (d := some 15) rfl rfl (by kernel_rfl) (by kernel_rfl) (by kernel_rfl) (fun _ _ _ h => h) (sure_value (v := .pointer (some ⟨w.heap.size, 4, none⟩)) (by rfl) (fun _ _ => by go_simp)) (Only.refl _ _) ?_
  simp only [Act.put, List.setIfInBounds_toArray, List.set_cons_zero, List.set_cons_succ]
  refine wpN_take (i := 13) (d := some 16) rfl rfl (by kernel_rfl) (by kernel_rfl) (by kernel_rfl) (fun _ _ _ h => h) (sure_lit (v := .slice A p.ms.length c) (i := 4) B0.out.drew rfl (fun h => h) (by rfl) (fun _ h => by go_simp)) (Only.refl _ _) ?_
  simp only [Act.put, List.setIfInBounds_toArray, List.set_cons_zero, List.set_cons_succ]
  refine wpN_take (i := 15) (d := some 18) rfl rfl (by kernel_rfl) (by kernel_rfl) (by kernel_rfl) (fun _ _ _ h => h) (sure_value (v := .pointer (some ⟨w.heap.size, 5, none⟩)) (by rfl) (fun _ _ => by go_simp)) (Only.refl _ _) ?_
  simp only [Act.put, List.setIfInBounds_toArray, List.set_cons_zero, List.set_cons_succ]
  refine wpN_take (i := 16) (d := some 19) rfl rfl (by kernel_rfl) (by kernel_rfl) (by kernel_rfl) (fun _ _ _ h => h) (sure_lit (v := .slice B p.es.length d) (i := 5) B0.out.drew rfl (fun h => h) (by rfl) (fun _ h => by go_simp)) (Only.refl _ _) ?_
  simp only [Act.put, List.setIfInBounds_toArray, List.set_cons_zero, List.set_cons_succ]
  have ON0 := Lib.hid ON.out.drew
  have P0 := Lib.hid (Parts.nil ((w.alloc (.cells #[.int .u8 p.kind, .int .u16 p.frm, .int .u16 p.abt, .int .i64 p.seq, .slice A p.ms.length c, .slice B p.es.length d] 50)).drew))
  refine wpN_givenp (i := 2) (d := some 5) (L := L1) (fun w1 ho => num_u8 p.kind hp.k0 hp.k1 L1 H1.out _ (T.out.noth (Only.undrew ho))) (Only.refl _ _) (by kernel_rfl) rfl rfl (by rfl) (fun _ => by go_simp) ?_
  intro A1 c1 w1 hp ho
  have P1 := Lib.hid ((P0.out.noth ho).snoc hp)
  have ON1 := Lib.hid (ON0.out.tr ho)
  have T := Lib.hid (T.out.noth (Only.undrew ho))
  have AT := Lib.hid (AT.out.noth (Only.undrew ho))
  clear hp ho
  simp only [Act.put, List.setIfInBounds_toArray, List.set_cons_zero, List.set_cons_succ]
  refine wpN_givenp (i := 5) (d := some 8) (L := L2) (fun w1 ho => num_u16 p.frm hp.f0 hp.f1 L2 H2.out _ (T.out.noth ho)) (Only.refl _ _) (by kernel_rfl) rfl rfl (by rfl) (fun _ => by go_simp) ?_
  intro A2 c2 w2 hp ho
  have P2 := Lib.hid ((P1.out.noth ho).snoc hp)
  have ON2 := Lib.hid (ON1.out.tr ho)
  have T := Lib.hid (T.out.noth ho)
  have AT := Lib.hid (AT.out.noth ho)
  clear hp ho
  simp only [Act.put, List.setIfInBounds_toArray, List.set_cons_zero, List.set_cons_succ]
  refine wpN_givenp (i := 8) (d := some 11) (L := L3) (fun w1 ho => num_u16 p.abt hp.a0 hp.a1 L3 H3.out _ (T.out.noth ho)) (Only.refl _ _) (by kernel_rfl) rfl rfl (by rfl) (fun _ => by go_simp) ?_
  intro A3 c3 w3 hp ho
  have P3 := Lib.hid ((P2.out.noth ho).snoc hp)
  have ON3 := Lib.hid (ON2.out.tr ho)
  have T := Lib.hid (T.out.noth ho)
  have AT := Lib.hid (AT.out.noth ho)
  clear hp ho
  simp only [Act.put, List.setIfInBounds_toArray, List.set_cons_zero, List.set_cons_succ]
  refine wpN_givenp (i := 11) (d := some 14) (L := L4) (fun w1 ho => num_int p.seq hp.s0 hp.s1 L4 H4.out _ (T.out.noth ho)) (Only.refl _ _) (by kernel_rfl) rfl rfl (by rfl) (fun _ => by go_simp) ?_
  intro A4 c4 w4 hp ho
  have P4 := Lib.hid ((P3.out.noth ho).snoc hp)
  have ON4 := Lib.hid (ON3.out.tr ho)
  have T := Lib.hid (T.out.noth ho)
  have AT := Lib.hid (AT.out.noth ho)
  clear hp ho
  simp only [Act.put, List.setIfInBounds_toArray, List.set_cons_zero, List.set_cons_succ]
  refine wpN_givenp (i := 14) (d := some 17) (L := L5) (fun w1 ho => C5.out _ (AT.out.noth ho) (T.out.noth ho)) (Only.refl _ _) (by kernel_rfl) rfl rfl (by rfl) (fun _ => by go_simp) ?_
  intro A5 c5 w5 hp ho
  have P5 := Lib.hid ((P4.out.noth ho).snoc hp)
  have ON5 := Lib.hid (ON4.out.tr ho)
  have T := Lib.hid (T.out.noth ho)
  have AT := Lib.hid (AT.out.noth ho)
  clear hp ho
  simp only [Act.put, List.setIfInBounds_toArray, List.set_cons_zero, List.set_cons_succ]
  refine wpN_givenp (i := 17) (d := some 20) (L := L6) (fun w1 ho => C6.out _ (AT.out.noth ho) (T.out.noth ho)) (Only.refl _ _) (by kernel_rfl) rfl rfl (by rfl) (fun _ => by go_simp) ?_
  intro A6 c6 w6 hp ho
  have P6 := Lib.hid ((P5.out.noth ho).snoc hp)
  have ON6 := Lib.hid (ON5.out.tr ho)
  have T := Lib.hid (T.out.noth ho)
  have AT := Lib.hid (AT.out.noth ho)
  clear hp ho
  simp only [Act.put, List.setIfInBounds_toArray, List.set_cons_zero, List.set_cons_succ]
  refine wpN_build (m := 6) (i := 18) (d := some 21) (z := #[.slice A1 L1.length c1, .slice A2 L2.length c2, .slice A3 L3.length c3, .slice A4 L4.length c4, .slice A5 L5.length c5, .slice A6 L6.length c6]) (t := 23) (by kernel_rfl) rfl rfl (by rfl) (Only.refl _ _) (fun _ => by go_simp) ?_
  intro w7 p9 ho HB hp9
  simp only [Act.put, List.setIfInBounds_toArray, List.set_cons_zero, List.set_cons_succ]
  refine wpN_rebase ho ?_
  have ON7 := Lib.hid (ON6.out.tr ho)
  have PP := Lib.hid (P6.out.noth ho)
  have HBB := Lib.hid HB
  clear ho HB
  refine wpN_givenr (i := 19) (d := some 22) (L := L) (fun w1 ho => by have := ben_list (some ⟨p9, 0, none⟩) 6 _ [L1, L2, L3, L4, L5, L6] _ (((HBB.out.src 6 rfl).only ho (fun _ _ h => h)).mono (fun k h hl => hl)) (PP.out.noth ho) (Nat.le_refl _) (by simp) LB.out; rw [LL.out] at this; exact this) (Only.refl _ _) (by kernel_rfl) rfl rfl (by rfl) (fun _ => by go_simp) ?_
  intro A9 c9 w9 hp9 ho9
  have HP9 := Lib.hid hp9
  have ON9 := Lib.hid (ON7.out.tr ho9)
  clear hp9 ho9
  simp only [Act.put, List.setIfInBounds_toArray, List.set_cons_zero, List.set_cons_succ]
  refine wpN_take (i := 20) (d := some 2) rfl rfl (by kernel_rfl) (by kernel_rfl) (by kernel_rfl) (fun _ _ _ h => h) (sure_value (v := .slice A9 L.length c9) (by rfl) (fun _ _ => rfl)) (Only.refl _ _) ?_
  simp only [Act.put, List.setIfInBounds_toArray, List.set_cons_zero, List.set_cons_succ]
  refine wpN_done (by kernel_rfl) (fun w10 ho => ?_) _
  go_wp2
  go_ret
  have hs := (ON7.out).size
  refine Given.mk rfl rfl ((HP9.out.only ho (fun _ _ h => h)).mono (fun k hk _ => ?_)) (ON9.out.tr ho)
  unfold New at hk ⊢
  omega
end Go.Proofs.YtjdgmnaemopfdaaDoor
