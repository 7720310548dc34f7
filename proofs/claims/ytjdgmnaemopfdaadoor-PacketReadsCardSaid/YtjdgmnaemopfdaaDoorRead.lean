/- Package entry: Read. -/
import Derived.Test.YtjdgmnaemopfdaaDoorEntK
import Derived.Test.YtjdgmnaemopfdaaDoorEntQ
import Derived.Test.YtjdgmnaemopfdaaDoorRdrF
namespace Go.Proofs.YtjdgmnaemopfdaaDoor
open Go.RowKit Go.Lib
set_option linter.unusedVariables false
set_option maxRecDepth 100000
attribute [local go_sem ↓] Go.wp_at_zero Go.wp_at_succ

theorem text_long (r : Rd) (m : Int) : ((r.text m).2.length : Int) ≤ max m 0 := by
  unfold Rd.text
  split
  · simp; omega
  · split
    · simp; omega
    · split
      · simp; omega
      · split
        · simp; omega
        · unfold Rd.rest
          split
          · simp; omega
          · split
            · simp; omega
            · split
              · simp; omega
              · simp only [List.length_take]; omega

/-- What entry.Read makes of the text. -/
def Ent.ok (r : Rd) (o : Int) (e : Ent) : Bool := decide (r.err = 0 ∧ 0 ≤ o ∧ o ≤ 65535 ∧ e.check = 0)
def Ent.nil : Ent := ⟨⟨#[]⟩, 0, 0, ⟨#[]⟩, 0⟩
structure Ent.Steps (r r1 r2 r3 r4 r5 r6 r7 : Rd) (k v : ByteArray) (t o u : Int) : Prop where
  a1 : r.byte 108 = r1
  a2 : r1.text 1024 = (r2, k.data.toList)
  a3 : r2.int = (r3, t)
  a4 : r3.int = (r4, o)
  a5 : r4.text 8192 = (r5, v.data.toList)
  a6 : r5.int = (r6, u)
  a7 : r6.byte 101 = r7
theorem Ent.steps (r : Rd) : ∃ r1 r2 r3 r4 r5 r6 r7 k v t o u, Ent.Steps r r1 r2 r3 r4 r5 r6 r7 k v t o u :=
  ⟨_, _, _, _, _, _, _, ⟨((r.byte 108).text 1024).2.toArray⟩, ⟨((((r.byte 108).text 1024).1.int.1.int.1).text 8192).2.toArray⟩, _, _, _, ⟨rfl, rfl, rfl, rfl, rfl, rfl, rfl⟩⟩
theorem rdr_text_v (g : Nat) (r r' : Rd) (m : Int) (k : ByteArray) (hx : r.text m = (r', k.data.toList)) (w : World) (h : RdAt w g r) (he : Env w) :
    Calls Tryd.prog 23 #[.pointer (some ⟨g, 0, none⟩), .int .i64 m] w fun x w' => x = .returned (.string k) ∧ RdAt w' g r' ∧ Only (At g) w w' := by
  have := rdr_text g r m w h he
  rw [hx] at this
  exact this
theorem rdr_int_v (g : Nat) (r r' : Rd) (n : Int) (hx : r.int = (r', n)) (w : World) (h : RdAt w g r) (he : Env w) (hg : Hi g) :
    Calls Tryd.prog 20 #[.pointer (some ⟨g, 0, none⟩)] w fun x w' => x = .returned (.int .i64 n) ∧ RdAt w' g r' ∧ Only (At g) w w' := by
  have := rdr_int g r w h he hg
  rw [hx] at this
  exact this
theorem rdr_open_v (g : Nat) (r r' : Rd) (hx : r.byte 108 = r') (w : World) (h : RdAt w g r) :
    Calls Tryd.prog 25 #[.pointer (some ⟨g, 0, none⟩)] w fun x w' => x = .returned (.tuple #[]) ∧ RdAt w' g r' ∧ Only (At g) w w' := by
  subst hx; exact rdr_open g r w h
theorem rdr_close_v (g : Nat) (r r' : Rd) (hx : r.byte 101 = r') (w : World) (h : RdAt w g r) :
    Calls Tryd.prog 27 #[.pointer (some ⟨g, 0, none⟩)] w fun x w' => x = .returned (.tuple #[]) ∧ RdAt w' g r' ∧ Only (At g) w w' := by
  subst hx; exact rdr_close g r w h

/-- No cell of these is a byte. -/
def NoU8 (cs : Array Value) : Prop := ∀ (i : Nat) (n : Int), cs[i]? ≠ some (.int .u8 n)
theorem Src.off {w : World} {S : Nat → Prop} {A : Option Addr} {l : List UInt8} {b : Nat} {t : TypeId} {cs : Array Value} (h : Src w S 1 A l.length (byteCells l)) (hb : Hld w b t cs) (hc : NoU8 cs) : Src w (fun k => S k ∧ k ≠ b) 1 A l.length (byteCells l) := by
  refine ⟨h.1, fun hl => ?_⟩
  obtain ⟨ad, hA, hS, hlt, hcell⟩ := h.2 hl
  refine ⟨ad, hA, ⟨hS, fun e => ?_⟩, hlt, hcell⟩
  cases l with
  | nil => simp at hl
  | cons c tl =>
    have h0 := hcell 0 (.int .u8 c.toNat) rfl
    have e0 : ad.add 0 = ad := by unfold Addr.add; simp
    rw [e0] at h0
    obtain ⟨bl, off, sp⟩ := ad
    simp only at e
    subst e
    unfold World.cell? at h0
    unfold Hld at hb
    simp only [hb] at h0
    split at h0
    · cases h0
    · exact hc off _ h0
theorem RdAt.far {w w' : World} {g b : Nat} {r : Rd} {t : TypeId} {cs : Array Value} (h : RdAt w g r) (hb : Hld w b t cs) (hc : NoU8 cs) (hne : g ≠ b) (ho : Only (fun k => k = b) w w') : RdAt w' g r := by
  obtain ⟨hs, A, c, h1, h2, h3, h4⟩ := h
  exact ⟨hs, A, c, h1.only ho hne, ((h2.off hb hc).only ho (fun k hk => hk.2)).mono (fun k hk _ => hk.1), h3, h4⟩
theorem noU8_ent (k v : ByteArray) (t o u : Int) : NoU8 #[.string k, .int .i64 t, .int .u16 o, .string v, .int .i64 u] := by
  intro i n
  match i with
  | 0 => simp
  | 1 => simp
  | 2 => simp
  | 3 => simp
  | 4 => simp
  | i + 5 => simp

/-- Within Read: the reader, the result's box, the entry's box. -/
structure Mid (w : World) (g a b : Nat) (W : World) (r : Rd) (k : ByteArray) (t o : Int) (v : ByteArray) (u : Int) : Prop where
  rd : RdAt W g r
  env : Env W
  res : Hld W a 64 #[.string ⟨#[]⟩, .int .i64 0, .int .u16 0, .string ⟨#[]⟩, .int .i64 0]
  ent : Hld W b 64 #[.string k, .int .i64 t, .int .u16 o, .string v, .int .i64 u]
  only : Only (At g) w W
  g_lt : g < w.heap.size
  a_le : w.heap.size ≤ a
  b_gt : a < b
  hi : Hi g
section
variable {w W W' : World} {g a b : Nat} {r r' : Rd} {k v : ByteArray} {t o u : Int}
theorem Mid.call (h : Mid w g a b W r k t o v u) (hr : RdAt W' g r') (ho : Only (At g) W W') : Mid w g a b W' r' k t o v u :=
  ⟨hr, h.env.at_ ho h.hi, h.res.only ho (fun e => by have := h.g_lt; have := h.a_le; have e : a = g := e; omega), h.ent.only ho (fun e => by have := h.g_lt; have := h.a_le; have := h.b_gt; have e : b = g := e; omega), h.only.at_tr ho, h.g_lt, h.a_le, h.b_gt, h.hi⟩
theorem Mid.hib (h : Mid w g a b W r k t o v u) : Hi b := by
  obtain ⟨x, y, z⟩ := h.hi
  have := h.g_lt; have := h.a_le; have := h.b_gt
  exact ⟨by omega, by omega, by omega⟩
theorem Mid.put {k' v' : ByteArray} {t' o' u' : Int} (h : Mid w g a b W r k t o v u) (hb : Hld W' b 64 #[.string k', .int .i64 t', .int .u16 o', .string v', .int .i64 u']) (ho : Only (fun j => j = b) W W') : Mid w g a b W' r k' t' o' v' u' := by
  have := h.g_lt; have := h.a_le; have := h.b_gt
  exact ⟨h.rd.far h.ent (noU8_ent k v t o u) (by omega) ho, h.env.at_ ho h.hib, h.res.only ho (by omega), hb, h.only.trans ho (fun j hj hl => by omega), h.g_lt, h.a_le, h.b_gt, h.hi⟩
theorem Mid.set3 (h : Mid w g a b W r k t o v u) (v' : ByteArray) : Mid w g a b (W.setCell ⟨b, 3, none⟩ (.string v')) r k t o v' u :=
  h.put (h.ent.set_ 3 (.string v')) ((Only.refl (fun j => j = b) W).setCell (p := ⟨b, 3, none⟩) (fun _ => rfl) _)
theorem Mid.set4 (h : Mid w g a b W r k t o v u) (u' : Int) : Mid w g a b (W.setCell ⟨b, 4, none⟩ (.int .i64 u')) r k t o v u' :=
  h.put (h.ent.set_ 4 (.int .i64 u')) ((Only.refl (fun j => j = b) W).setCell (p := ⟨b, 4, none⟩) (fun _ => rfl) _)
theorem Mid.set2 (h : Mid w g a b W r k t o v u) (o' : Int) : Mid w g a b (W.setCell ⟨b, 2, none⟩ (.int .u16 o')) r k t o' v u :=
  h.put (h.ent.set_ 2 (.int .u16 o')) ((Only.refl (fun j => j = b) W).setCell (p := ⟨b, 2, none⟩) (fun _ => rfl) _)
theorem Mid.noth (h : Mid w g a b W r k t o v u) (ho : Only Noth W W') : Mid w g a b W' r k t o v u :=
  h.call (h.rd.noth ho) (Only.at_of ho)
theorem Mid.out {cs : Array Value} (h : Mid w g a b W r k t o v u) (hb : Hld W' a 64 cs) (ho : Only (fun j => j = a) W W') : RdAt W' g r ∧ Only (At g) w W' := by
  have := h.g_lt; have := h.a_le; have := h.b_gt
  exact ⟨h.rd.far h.res (noU8_ent _ _ _ _ _) (by omega) ho, h.only.trans ho (fun j hj hl => by omega)⟩
end
/-- Ahead of the entry's box. -/
structure Pre (w : World) (g : Nat) (W : World) (r : Rd) : Prop where
  rd : RdAt W g r
  env : Env W
  res : Hld W w.heap.size 64 #[.string ⟨#[]⟩, .int .i64 0, .int .u16 0, .string ⟨#[]⟩, .int .i64 0]
  only : Only (At g) w W
  g_lt : g < w.heap.size
  hi : Hi g
theorem Pre.call {w W W' : World} {g : Nat} {r r' : Rd} (h : Pre w g W r) (hr : RdAt W' g r') (ho : Only (At g) W W') : Pre w g W' r' :=
  ⟨hr, h.env.at_ ho h.hi, h.res.only ho (fun e => by have := h.g_lt; have e : w.heap.size = g := e; omega), h.only.at_tr ho, h.g_lt, h.hi⟩
theorem Pre.mid {w W W' : World} {g : Nat} {r : Rd} {k v : ByteArray} {t o u : Int} (h : Pre w g W r) (c : Obj) (hc : c = .cells #[.string ⟨#[]⟩, .int .i64 0, .int .u16 0, .string ⟨#[]⟩, .int .i64 0] 64) (hb : Hld W' W.heap.size 64 #[.string k, .int .i64 t, .int .u16 o, .string v, .int .i64 u]) (ho : Only (fun j => j = W.heap.size) (W.alloc c) W') : Mid w g w.heap.size W.heap.size W' r k t o v u := by
  subst hc
  have hx := h.res.lt
  have hr := h.rd.lt
  have hz := h.only.size
  have ho2 : Only (At g) W W' := ((Only.refl (At g) W).alloc _).trans ho (fun j hj hl => by omega)
  have ho3 : Only Noth W W' := ((Only.refl Noth W).alloc _).trans ho (fun j hj hl => by omega)
  exact ⟨h.rd.noth ho3, h.env.noth ho3, h.res.only ho3 (fun h => h), hb, h.only.at_tr ho2, h.g_lt, Nat.le_refl _, hx, h.hi⟩

set_option maxHeartbeats 4000000 in
theorem read_walk (g : Nat) (r r1 r2 r3 r4 r5 r6 r7 : Rd) (k v : ByteArray) (t o u q c : Int) (hst : Ent.Steps r r1 r2 r3 r4 r5 r6 r7 k v t o u) (hq : IntKind.u16.wrap o = q) (hc : (Ent.mk k t q v u).check = c)
    (hk : k.size ≤ 9223372036854775807) (hv : v.size ≤ 9223372036854775807) (w : World) (h : RdAt w g r) (he : Env w) (hg : Hi g) (d1 d2 d3 d4 : Bool) (h1 : (r7.err != 0) = d1) (h2 : decide (o < 0) = d2) (h3 : decide (65535 < o) = d3) (h4 : (c != 0) = d4) :
    Calls Tryd.prog 61 #[.pointer (some ⟨g, 0, none⟩)] w fun e w' =>
      e = .returned (if (d1 || d2 || d3 || d4) = true then .agg #[.string ⟨#[]⟩, .int .i64 0, .int .u16 0, .string ⟨#[]⟩, .int .i64 0] else .agg #[.string k, .int .i64 t, .int .u16 q, .string v, .int .i64 u]) ∧ RdAt w' g r7 ∧ Only (At g) w w' := by
  obtain ⟨x1, x2, x3, x4, x5, x6, x7⟩ := hst
  have X1 := Lib.hid x1
  have X2 := Lib.hid x2
  have X3 := Lib.hid x3
  have X4 := Lib.hid x4
  have X5 := Lib.hid x5
  have X6 := Lib.hid x6
  have X7 := Lib.hid x7
  have HC := Lib.hid hc
  have P := Lib.hid (show Pre w g (w.alloc (.cells #[.string ⟨#[]⟩, .int .i64 0, .int .u16 0, .string ⟨#[]⟩, .int .i64 0] 64)) r from ⟨h.noth ((Only.refl _ _).alloc _), he.noth ((Only.refl _ _).alloc _), Hld.new _ _ _, (Only.refl _ _).alloc _, h.lt, hg⟩)
  have HH := Lib.hid (And.intro hg h.lt)
  clear x1 x2 x3 x4 x5 x6 x7 hc h he hg
  go_enter Tryd.func61, Tryd.ntmps61
  go_wp2_with fail
  refine (rdr_open_v g _ _ X1.out _ P.out.rd).mono ?_
  rintro e w1 ⟨rfl, hr, ho⟩
  have P1 := Lib.hid (P.out.call hr ho)
  clear hr ho P
  go_wp2_with fail
  refine (rdr_text_v g _ _ 1024 k X2.out _ P1.out.rd P1.out.env).mono ?_
  rintro e w2 ⟨rfl, hr, ho⟩
  have P2 := Lib.hid (P1.out.call hr ho)
  clear hr ho P1
  go_wp2_with fail
  refine (rdr_int_v g _ _ t X3.out _ P2.out.rd P2.out.env P2.out.hi).mono ?_
  rintro e w3 ⟨rfl, hr, ho⟩
  have P3 := Lib.hid (P2.out.call hr ho)
  clear hr ho P2
  go_wp2_with (refine wpList_store_whole rfl rfl 64 (.tmp 3) (.tmp 11) rfl w3.heap.size rfl #[.string k, .int .i64 t, .int .u16 0, .string ⟨#[]⟩, .int .i64 0] rfl 64 _ (Hld.new _ _ _) rfl (by simp [Value.oneCell']) (by kernel_rfl) ?_; intro w4 gb ho3 _; have M := Lib.hid (P3.out.mid _ rfl gb ho3); clear gb ho3)
  refine (rdr_int_v g _ _ o X4.out _ M.out.rd M.out.env M.out.hi).mono ?_
  rintro e w5 ⟨rfl, hr, ho⟩
  have M1 := Lib.hid (M.out.call hr ho)
  clear hr ho
  go_wp2_with fail
  refine (rdr_text_v g _ _ 8192 v X5.out _ M1.out.rd M1.out.env).mono ?_
  rintro e w6 ⟨rfl, hr, ho⟩
  have M2 := Lib.hid (M1.out.call hr ho)
  obtain ⟨y0, y1, y2, y3, y4⟩ := M2.out.ent.five
  have f3 := M2.out.ent.free 3
  clear hr ho M1 M P3
  go_wp2_with fail
  have M3 := Lib.hid (M2.out.set3 v)
  clear y0 y1 y2 y3 y4 f3
  refine (rdr_int_v g _ _ u X6.out _ M3.out.rd M3.out.env M3.out.hi).mono ?_
  rintro e w7 ⟨rfl, hr, ho⟩
  have M4 := Lib.hid (M3.out.call hr ho)
  obtain ⟨y0, y1, y2, y3, y4⟩ := M4.out.ent.five
  have f4 := M4.out.ent.free 4
  clear hr ho M2 M3
  go_wp2_with fail
  have M5 := Lib.hid (M4.out.set4 u)
  clear y0 y1 y2 y3 y4 f4
  refine (rdr_close_v g _ _ X7.out _ M5.out.rd).mono ?_
  rintro e w8 ⟨rfl, hr, ho⟩
  have M6 := Lib.hid (M5.out.call hr ho)
  obtain ⟨y0, y1, y2, y3, y4⟩ := M6.out.ent.five
  have f2 := M6.out.ent.free 2
  clear hr ho M4 M5
  go_wp2_with fail
  have M7 := Lib.hid (M6.out.set2 q)
  clear y0 y1 y2 y3 y4 f2
  refine (rdr_err g _ _ M7.out.rd).mono ?_
  rintro e w9 ⟨rfl, rfl⟩
  clear M6
  obtain ⟨y0, y1, y2, y3, y4⟩ := M7.out.ent.five
  have HD1 := h1
  cases d1
  · cases d2
    · cases d3
      · go_wp2_with fail
        refine (entry_check ⟨k, t, q, v, u⟩ hk hv _).mono ?_
        rintro e wa ⟨rfl, ho⟩
        rw [HC.out]
        have M8 := Lib.hid (M7.out.noth ho)
        clear y0 y1 y2 y3 y4 ho
        obtain ⟨y0, y1, y2, y3, y4⟩ := M8.out.ent.five
        cases d4
        · skip
          go_wp2_with (refine wpList_store_whole rfl rfl 64 (.tmp 2) (.tmp 42) rfl w.heap.size rfl #[.string k, .int .i64 t, .int .u16 q, .string v, .int .i64 u] rfl 64 _ (M8.out.res) rfl (by simp [Value.oneCell']) (by kernel_rfl) ?_; intro wz gb ho3 _; have Z := Lib.hid (M8.out.out gb ho3); obtain ⟨z0, z1, z2, z3, z4⟩ := gb.five; clear gb ho3)
          refine bodyPost_ret (v := .agg #[.string k, .int .i64 t, .int .u16 q, .string v, .int .i64 u]) (by simp [results, Tryd.results61, go_sem, z0, z1, z2, z3, z4]) rfl ⟨by simp, Z.out⟩
        · skip
          go_wp2_with (refine wpList_store_whole rfl rfl 64 (.tmp 2) (.tmp 41) rfl w.heap.size rfl #[.string ⟨#[]⟩, .int .i64 0, .int .u16 0, .string ⟨#[]⟩, .int .i64 0] rfl 64 _ (M8.out.res) rfl (by simp [Value.oneCell']) (by kernel_rfl) ?_; intro wz gb ho3 _; have Z := Lib.hid (M8.out.out gb ho3); obtain ⟨z0, z1, z2, z3, z4⟩ := gb.five; clear gb ho3)
          refine bodyPost_ret (v := .agg #[.string ⟨#[]⟩, .int .i64 0, .int .u16 0, .string ⟨#[]⟩, .int .i64 0]) (by simp [results, Tryd.results61, go_sem, z0, z1, z2, z3, z4]) rfl ⟨by simp, Z.out⟩
      · skip
        go_wp2_with (refine wpList_store_whole rfl rfl 64 (.tmp 2) (.tmp 41) rfl w.heap.size rfl #[.string ⟨#[]⟩, .int .i64 0, .int .u16 0, .string ⟨#[]⟩, .int .i64 0] rfl 64 _ (M7.out.res) rfl (by simp [Value.oneCell']) (by kernel_rfl) ?_; intro wz gb ho3 _; have Z := Lib.hid (M7.out.out gb ho3); obtain ⟨z0, z1, z2, z3, z4⟩ := gb.five; clear gb ho3)
        refine bodyPost_ret (v := .agg #[.string ⟨#[]⟩, .int .i64 0, .int .u16 0, .string ⟨#[]⟩, .int .i64 0]) (by simp [results, Tryd.results61, go_sem, z0, z1, z2, z3, z4]) rfl ⟨by simp, Z.out⟩
    · skip
      go_wp2_with (refine wpList_store_whole rfl rfl 64 (.tmp 2) (.tmp 41) rfl w.heap.size rfl #[.string ⟨#[]⟩, .int .i64 0, .int .u16 0, .string ⟨#[]⟩, .int .i64 0] rfl 64 _ (M7.out.res) rfl (by simp [Value.oneCell']) (by kernel_rfl) ?_; intro wz gb ho3 _; have Z := Lib.hid (M7.out.out gb ho3); obtain ⟨z0, z1, z2, z3, z4⟩ := gb.five; clear gb ho3)
      refine bodyPost_ret (v := .agg #[.string ⟨#[]⟩, .int .i64 0, .int .u16 0, .string ⟨#[]⟩, .int .i64 0]) (by simp [results, Tryd.results61, go_sem, z0, z1, z2, z3, z4]) rfl ⟨by simp, Z.out⟩
  · skip
    go_wp2_with (refine wpList_store_whole rfl rfl 64 (.tmp 2) (.tmp 41) rfl w.heap.size rfl #[.string ⟨#[]⟩, .int .i64 0, .int .u16 0, .string ⟨#[]⟩, .int .i64 0] rfl 64 _ (M7.out.res) rfl (by simp [Value.oneCell']) (by kernel_rfl) ?_; intro wz gb ho3 _; have Z := Lib.hid (M7.out.out gb ho3); obtain ⟨z0, z1, z2, z3, z4⟩ := gb.five; clear gb ho3)
    refine bodyPost_ret (v := .agg #[.string ⟨#[]⟩, .int .i64 0, .int .u16 0, .string ⟨#[]⟩, .int .i64 0]) (by simp [results, Tryd.results61, go_sem, z0, z1, z2, z3, z4]) rfl ⟨by simp, Z.out⟩
end Go.Proofs.YtjdgmnaemopfdaaDoor
