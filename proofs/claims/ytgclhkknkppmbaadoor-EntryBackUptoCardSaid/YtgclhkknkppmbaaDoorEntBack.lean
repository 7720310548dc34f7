/- The walk of EntryBack. -/
import Derived.Test.YtgclhkknkppmbaaDoorReadB
namespace Go.Proofs.YtgclhkknkppmbaaDoor
open Go.RowKit Go.Lib
set_option linter.unusedVariables false
set_option maxRecDepth 100000
attribute [local go_sem ↓] Go.wp_at_zero Go.wp_at_succ

def Ent.cells (e : Ent) : Array Value := #[.string e.key, .int .i64 e.time, .int .u16 e.org, .string e.val, .int .i64 e.til]
theorem put_v (e : Ent) (L : List UInt8) (hL : e.bytes = L) (t0 : -9223372036854775808 ≤ e.time) (t1 : e.time ≤ 9223372036854775807) (o0 : 0 ≤ e.org) (o1 : e.org ≤ 65535) (u0 : -9223372036854775808 ≤ e.til) (u1 : e.til ≤ 9223372036854775807)
    (hkv : e.key.size + e.val.size ≤ 140737488355000) (w : World) (ht : Tab w) :
    Calls Tryd.prog 31 #[.agg #[.string e.key, .int .i64 e.time, .int .u16 e.org, .string e.val, .int .i64 e.til]] w (Given w L) := by
  subst hL; exact entry_put e.key e.val e.time e.org e.til t0 t1 o0 o1 u0 u1 hkv w ht
theorem check_v (e : Ent) (c : Int) (hc : e.check = c) (h1 : e.key.size + e.val.size ≤ 140737488355000) (w : World) :
    Calls Tryd.prog 19 #[.agg #[.string e.key, .int .i64 e.time, .int .u16 e.org, .string e.val, .int .i64 e.til]] w
      fun x w' => x = .returned (.int .i64 c) ∧ Only Noth w w' := by
  subst hc; exact entry_check e (by omega) (by omega) w
theorem left_v (g : Nat) (r : Rd) (n : Int) (hn : (r.b.length : Int) = n) (w : World) (h : RdAt w g r) :
    Calls Tryd.prog 33 #[.pointer (some ⟨g, 0, none⟩)] w fun x w' => x = .returned (.int .i64 n) ∧ w = w' := by
  subst hn; exact rdr_left g r w h
theorem err_v (g : Nat) (r : Rd) (n : Int) (hn : r.err = n) (w : World) (h : RdAt w g r) :
    Calls Tryd.prog 34 #[.pointer (some ⟨g, 0, none⟩)] w fun x w' => x = .returned (.int .i64 n) ∧ w = w' := by
  subst hn; exact rdr_err g r w h
theorem read_v (g : Nat) (r : Rd) (y : Ent) (z : Rd) (hr : Ent.Reads r y z) (w : World) (h : RdAt w g r) (he : Env w) (hg : Hi g) (w0 : World) (h0 : Only Noth w0 w) (hg0 : w0.heap.size ≤ g) :
    Calls Tryd.prog 32 #[.pointer (some ⟨g, 0, none⟩)] w fun e w' =>
      e = .returned (.agg #[.string y.key, .int .i64 y.time, .int .u16 y.org, .string y.val, .int .i64 y.til]) ∧ RdAt w' g z ∧ Only (At g) w w' ∧ Only Noth w0 w' ∧ Env w' := by
  refine (entry_read g r y z hr w h he hg).mono ?_
  rintro e w' ⟨h1, h2, h3⟩
  exact ⟨h1, h2, h3, h0.trans h3 (fun j hj hl => by have : j = g := hj; omega), he.at_ h3 hg⟩

/-- Within EntryBack: the entry's box, the reader, the box of what was read. -/
structure Back (w0 W : World) (b g x : Nat) (e : Ent) (z : Rd) (y : Ent) : Prop where
  ent : Hld W b 24 e.cells
  rd : RdAt W g z
  box : Hld W x 24 y.cells
  env : Env W
  only : Only Noth w0 W
theorem Back.noth {w0 W W' : World} {b g x : Nat} {e y : Ent} {z : Rd} (h : Back w0 W b g x e z y) (ho : Only Noth W W') : Back w0 W' b g x e z y :=
  ⟨h.ent.only ho (fun h => h), h.rd.noth ho, h.box.only ho (fun h => h), h.env.noth ho, h.only.tr ho⟩

set_option maxHeartbeats 4000000 in
theorem back_walk (e : Ent) (hsz : e.key.size + e.val.size ≤ 1000000000) (t0 : -9223372036854775808 ≤ e.time) (t1 : e.time ≤ 9223372036854775807) (o0 : 0 ≤ e.org) (o1 : e.org ≤ 65535) (u0 : -9223372036854775808 ≤ e.til) (u1 : e.til ≤ 9223372036854775807)
    (A : Option Addr) (c : Nat) (l : List UInt8) (w : World) (hsrc : Src w (fun k => k < w.heap.size) 1 A l.length (byteCells l)) (hc1 : l.length ≤ c) (hc2 : c ≤ 9223372036854775807) (he : Env w) :
    Calls Tryd.prog 11 #[.agg #[.string e.key, .int .i64 e.time, .int .u16 e.org, .string e.val, .int .i64 e.til], .slice A l.length c] w fun e w' => e = .returned (.bool true) ∧ Only Noth w w' := by
  have hl : l.length ≤ 9223372036854775807 := by omega
  obtain ⟨L, hL⟩ : ∃ L, e.bytes = L := ⟨_, rfl⟩
  have LL := Lib.hid hL
  obtain ⟨y, z, hR⟩ := reads_some ⟨L, 0⟩
  have hlaid := reads_laid (e := e) (y := y) (z := z) (by rw [hL]; exact hR) (by omega) (by omega) t0 t1 o0 o1 u0 u1
  have RR := Lib.hid hR
  have LD := Lib.hid hlaid
  have SB := Lib.hid (show Part w (.slice A l.length c) l from ⟨A, c, rfl, hsrc, hc1, hc2⟩)
  have HE0 := Lib.hid (Hld.new w 24 e.cells)
  have E := Lib.hid (he.noth ((Only.refl Noth w).alloc (.cells e.cells 24)))
  have O := Lib.hid ((Only.refl Noth w).alloc (.cells e.cells 24))
  obtain ⟨y2, z2, hR2⟩ := reads_some ⟨l, 0⟩
  have RR2 := Lib.hid hR2
  have RB := Lib.hid (reads_back hR2)
  have SR := Lib.hid hsrc
  clear hL hR hlaid hsrc he hR2
  go_enter Tryd.func11, Tryd.ntmps11
  go_wp2_with fail
  refine (put_v e L LL.out t0 t1 o0 o1 u0 u1 (by omega) _ E.out.tab).mono ?_
  rintro x w1 hg
  obtain ⟨A1, c1, rfl, hp, ho⟩ := hg.part
  have E1 := Lib.hid (E.out.noth ho)
  have O1 := Lib.hid (O.out.tr ho)
  have HE1 := Lib.hid (HE0.out.only ho (fun h => h))
  have P1 := Lib.hid hp
  clear hg hp ho
  go_wp2_with fail
  refine (rdr_new A1 c1 L _ P1.out).mono ?_
  rintro x w2 ⟨rfl, hr, ho⟩
  obtain ⟨g, hg⟩ : ∃ g, w1.heap.size = g := ⟨_, rfl⟩
  rw [hg] at hr
  rw [hg]
  have E2 := Lib.hid (E1.out.noth ho)
  have G := Lib.hid (E1.out.hi (g := g) (by omega))
  have GL := Lib.hid (show w.heap.size + 1 ≤ g from by have := HE1.out.lt; omega)
  have O2 := Lib.hid (O1.out.tr ho)
  have HE2 := Lib.hid (HE1.out.only ho (fun h => h))
  have R2 := Lib.hid hr
  clear hr ho hg E1 O1 HE1 P1
  go_wp2_with fail
  refine (read_v g _ y z RR.out _ R2.out E2.out G.out w O2.out (by have := GL.out; omega)).mono ?_
  rintro x w3 ⟨rfl, hr, ho, h0, he⟩
  have R3 := Lib.hid hr
  have E3 := Lib.hid he
  have O3 := Lib.hid h0
  have HE3 := Lib.hid (HE2.out.only ho (fun h => by have := GL.out; have h : w.heap.size = g := h; omega))
  clear hr ho h0 he
  go_wp2_with (refine wpList_store_whole rfl rfl 24 (.tmp 6) (.tmp 13) rfl w3.heap.size rfl #[.string y.key, .int .i64 y.time, .int .u16 y.org, .string y.val, .int .i64 y.til] rfl 24 _ (Hld.new _ _ _) rfl (by simp [Value.oneCell']) (by kernel_rfl) ?_; intro w4 gb ho3 _; have hn := ((Only.refl Noth w3).alloc _).trans ho3 (fun j hj hl => by have : j = w3.heap.size := hj; omega); have B := Lib.hid (show Back w w4 w.heap.size g w3.heap.size e z y from ⟨HE3.out.only hn (fun h => h), R3.out.noth hn, gb, E3.out.noth hn, O3.out.tr hn⟩); clear gb ho3 hn; obtain ⟨x0, x1, x2, x3, x4⟩ := B.out.ent.five; obtain ⟨y0, y1, yy2, y3, y4⟩ := B.out.box.five)
  by_cases hc : e.check = 0
  · obtain ⟨rfl, rfl⟩ := LD.out.1 hc
    have HC := Lib.hid hc
    have NE : ∀ W : World, (binOp .neq 24 (.agg #[.string y.key, .int .i64 y.time, .int .u16 y.org, .string y.val, .int .i64 y.til]) (.agg #[.string y.key, .int .i64 y.time, .int .u16 y.org, .string y.val, .int .i64 y.til])).run Tryd.prog W = .ok (.bool false) W := fun W => by rw [ne_ent, same_self]; rfl
    clear hc
    refine (check_v y 0 HC.out (by omega) _).mono ?_
    rintro x w5 ⟨rfl, ho⟩
    have B5 := Lib.hid (B.out.noth ho)
    clear x0 x1 x2 x3 x4 y0 y1 yy2 y3 y4 ho B
    obtain ⟨x0, x1, x2, x3, x4⟩ := B5.out.ent.five
    obtain ⟨y0, y1, yy2, y3, y4⟩ := B5.out.box.five
    go_wp2_with fail
    refine (left_v g _ 0 rfl _ B5.out.rd).mono ?_
    rintro x w6 ⟨rfl, rfl⟩
    go_wp2_with fail
    refine (err_v g _ 0 rfl _ B5.out.rd).mono ?_
    rintro x w6 ⟨rfl, rfl⟩
    go_wp2_with fail
    refine (check_v y 0 HC.out (by omega) _).mono ?_
    rintro x w6 ⟨rfl, ho⟩
    have B6 := Lib.hid (B5.out.noth ho)
    clear x0 x1 x2 x3 x4 y0 y1 yy2 y3 y4 ho
    obtain ⟨OW, EW⟩ := And.intro (Lib.hid B6.out.only) (Lib.hid B6.out.env)
    clear B5 B6
    go_wp2_with fail
    refine (rdr_new A c l _ (SB.out.noth OW.out)).mono ?_
    rintro x v1 ⟨rfl, hr, ho⟩
    obtain ⟨g2, hg2⟩ : ∃ g, w6.heap.size = g := ⟨_, rfl⟩
    rw [hg2] at hr
    rw [hg2]
    have F2 := Lib.hid (EW.out.noth ho)
    have G2 := Lib.hid (EW.out.hi (g := g2) (by omega))
    have GL2 := Lib.hid (show w.heap.size ≤ g2 from by have := OW.out.size; omega)
    have U2 := Lib.hid (OW.out.tr ho)
    have S2 := Lib.hid hr
    clear hr ho hg2 
    go_wp2_with fail
    refine (read_v g2 _ y2 z2 RR2.out _ S2.out F2.out G2.out w U2.out GL2.out).mono ?_
    rintro x v2 ⟨rfl, hr, ho, h0, he⟩
    have S3 := Lib.hid hr
    have F3 := Lib.hid he
    have U3 := Lib.hid h0
    clear hr ho h0 he
    by_cases hk : y2.key.size = 0
    · have hy := RB.out.1 hk
      subst hy
      have EQ : ∀ W : World, (binOp .eql 24 (.agg #[.string ⟨#[]⟩, .int .i64 0, .int .u16 0, .string ⟨#[]⟩, .int .i64 0]) (.agg #[.string ⟨#[]⟩, .int .i64 0, .int .u16 0, .string ⟨#[]⟩, .int .i64 0])).run Tryd.prog W = .ok (.bool true) W := fun W => by rw [show (Value.agg #[.string ⟨#[]⟩, .int .i64 0, .int .u16 0, .string ⟨#[]⟩, .int .i64 0] : Value) = .agg #[.string Ent.nil.key, .int .i64 Ent.nil.time, .int .u16 Ent.nil.org, .string Ent.nil.val, .int .i64 Ent.nil.til] from rfl, eq_ent, same_self]
      go_wp2_with (refine wpList_store_whole rfl rfl 24 (.tmp 8) (.tmp 45) rfl v2.heap.size rfl #[.string ⟨#[]⟩, .int .i64 0, .int .u16 0, .string ⟨#[]⟩, .int .i64 0] rfl 24 _ (Hld.new _ _ _) rfl (by simp [Value.oneCell']) (by kernel_rfl) ?_; intro v3 gb ho3 _; have hn := ((Only.refl Noth v2).alloc _).trans ho3 (fun j hj hl => by have : j = v2.heap.size := hj; omega); have U4 := Lib.hid (U3.out.tr hn); have F4 := Lib.hid (F3.out.noth hn); clear ho3 hn; obtain ⟨y0, y1, yy2, y3, y4⟩ := gb.five)
      refine (entry_awake _ F4.out.tab).mono ?_
      rintro x v4 ⟨rfl, ho⟩
      have U5 := Lib.hid (U4.out.tr ho)
      clear ho
      go_wp2
      go_ret
      exact ⟨rfl, U5.out⟩
    · obtain ⟨q1, q2, q3, q4, q5⟩ := RB.out.2 hk
      have kk : y2.key.toList.isEmpty = false := by
        cases hh : y2.key.toList.isEmpty with
        | false => rfl
        | true => exact absurd ((ba_nil _).2 (List.isEmpty_iff.1 hh)) hk
      obtain ⟨L2, hL2⟩ : ∃ L, y2.bytes = L := ⟨_, rfl⟩
      rw [hL2] at q3
      obtain ⟨s2, hs2⟩ : ∃ s : ByteArray, ⟨L2.toArray⟩ = s := ⟨_, rfl⟩
      obtain ⟨nz, hnz⟩ : ∃ n : Int, (z2.b.length : Int) = n := ⟨_, rfl⟩
      have hlen : l.length = L2.length + z2.b.length := by rw [q3, List.length_append]
      have hw : IntKind.i64.wrap ((l.length : Int) - nz) = (L2.length : Int) := by rw [IntWalk.i64_in _ (by omega)]; omega
      have hL2n : (L2.length : Int) ≤ 9223372036854775807 := by omega
      obtain ⟨A', hsl, hs3⟩ := slice_to c L2.length SR.out (by omega) hc1
      rw [show l.take L2.length = L2 by rw [q3, List.take_left]] at hs3
      have PS := Lib.hid (Part.of_src (c := c) hs3 (by omega) hc2)
      obtain ⟨c1', c2', c3', c4', c5', c6'⟩ := check_zero.1 q2
      have Q1 := Lib.hid q1
      have Q2 := Lib.hid q2
      have Q4 := Lib.hid (And.intro q4 q5)
      have QT := Lib.hid (show (-9223372036854775808 ≤ y2.time ∧ y2.time ≤ 9223372036854775807) ∧ (-9223372036854775808 ≤ y2.til ∧ y2.til ≤ 9223372036854775807) ∧ y2.key.size + y2.val.size ≤ 140737488355000 from ⟨⟨by omega, by omega⟩, ⟨by omega, by omega⟩, by omega⟩)
      have NZ := Lib.hid hnz
      have H2 := Lib.hid hL2
      have HS2 := Lib.hid hs2
      clear q1 q2 q3 q4 q5 hL2 hs2 hnz hlen hs3 c1' c2' c3' c4' c5' c6' hk
      go_wp2_with (refine wpList_store_whole rfl rfl 24 (.tmp 8) (.tmp 45) rfl v2.heap.size rfl #[.string y2.key, .int .i64 y2.time, .int .u16 y2.org, .string y2.val, .int .i64 y2.til] rfl 24 _ (Hld.new _ _ _) rfl (by simp [Value.oneCell']) (by kernel_rfl) ?_; intro v3 gb ho3 _; have hn := ((Only.refl Noth v2).alloc _).trans ho3 (fun j hj hl => by have : j = v2.heap.size := hj; omega); have U4 := Lib.hid (U3.out.tr hn); have F4 := Lib.hid (F3.out.noth hn); have S4 := Lib.hid (S3.out.noth hn); clear ho3 hn; obtain ⟨y0, y1, yy2, y3, y4⟩ := gb.five; have GB := Lib.hid gb; clear gb)
      have PS := Lib.hid ((PS.out.noth U4.out).noth (Only.refl Noth _).drew)
      have S4 := Lib.hid (S4.out.noth (Only.refl Noth _).drew)
      have F4 := Lib.hid (F4.out.noth (Only.refl Noth _).drew)
      have U4 := Lib.hid U4.out.drew
      have hcS := PS.out.conv
      rw [HS2.out] at hcS
      have hvz : v2.heap.size < v3.heap.size := GB.out.lt
      go_region_with
        (first
          | (go_at_call 34; refine (err_v g2 _ 0 Q1.out _ S4.out).mono ?_; rintro x u1 ⟨rfl, rfl⟩)
          | (go_at_call 19; refine (check_v y2 0 Q2.out QT.out.2.2 _).mono ?_; rintro x u1 ⟨rfl, ho⟩; have hcs0 := (fun (o : Nat) => ho.cells v2.heap.size o (by (try simp); (try omega))); have hsz1 : v2.heap.size < u1.heap.size := (by have h8 := ho.size; (try simp at h8); omega); have PS := Lib.hid (PS.out.noth ho); have S4 := Lib.hid (S4.out.noth ho); have F4 := Lib.hid (F4.out.noth ho); have U4 := Lib.hid (U4.out.tr ho); have hcS1 := PS.out.conv; rw [HS2.out] at hcS1; clear ho)
          | (go_at_call 31; refine (put_v y2 L2 H2.out QT.out.1.1 QT.out.1.2 Q4.out.1 Q4.out.2 QT.out.2.1.1 QT.out.2.1.2 QT.out.2.2 _ F4.out.tab).mono ?_; rintro x u2 hg; obtain ⟨A5, c5, rfl, hp, ho⟩ := hg.part; have PP := Lib.hid hp; have hcP := hp.conv; rw [HS2.out] at hcP; have hcs1 := (fun (o : Nat) => ho.cells v2.heap.size o (by (try simp); (try omega))); have hsz2 : v2.heap.size < u2.heap.size := (by have h8 := ho.size; (try simp at h8); omega); have PS := Lib.hid (PS.out.noth ho); have S4 := Lib.hid (S4.out.noth ho); have F4 := Lib.hid (F4.out.noth ho); have U4 := Lib.hid (U4.out.tr ho); have hcS2 := PS.out.conv; rw [HS2.out] at hcS2; clear hg hp ho)
          | (go_at_call 33; refine (left_v g2 _ nz NZ.out _ S4.out).mono ?_; rintro x u3 ⟨rfl, rfl⟩)
          | (go_at_call 15; refine (entry_awake _ F4.out.tab).mono ?_; rintro x u3 ⟨rfl, ho⟩; have hcP3 := (PP.out.noth ho).conv; rw [HS2.out] at hcP3; have hcs2 := (fun (o : Nat) => ho.cells v2.heap.size o (by (try simp); (try omega))); have PS := Lib.hid (PS.out.noth ho); have U4 := Lib.hid (U4.out.tr ho); have hcS3 := PS.out.conv; rw [HS2.out] at hcS3; clear ho))
      all_goals go_wp2
      all_goals go_ret
      all_goals exact ⟨rfl, U4.out⟩
  · obtain rfl := LD.out.2 hc
    have HC := Lib.hid hc
    have NE : ∀ W : World, (binOp .neq 24 (.agg #[.string ⟨#[]⟩, .int .i64 0, .int .u16 0, .string ⟨#[]⟩, .int .i64 0]) (.agg #[.string ⟨#[]⟩, .int .i64 0, .int .u16 0, .string ⟨#[]⟩, .int .i64 0])).run Tryd.prog W = .ok (.bool false) W := fun W => by rw [show (Value.agg #[.string ⟨#[]⟩, .int .i64 0, .int .u16 0, .string ⟨#[]⟩, .int .i64 0] : Value) = .agg #[.string Ent.nil.key, .int .i64 Ent.nil.time, .int .u16 Ent.nil.org, .string Ent.nil.val, .int .i64 Ent.nil.til] from rfl, ne_ent, same_self]; rfl
    obtain ⟨n, hn⟩ : ∃ n, e.check = n := ⟨_, rfl⟩
    have HN := Lib.hid hn
    have n1 : (n == 0) = false := by rw [← hn]; simpa using hc
    have n2 : (n != 0) = true := by rw [← hn]; simpa using hc
    clear hc hn
    refine (check_v e n HN.out (by omega) _).mono ?_
    rintro x w5 ⟨rfl, ho⟩
    have B5 := Lib.hid (B.out.noth ho)
    clear x0 x1 x2 x3 x4 y0 y1 yy2 y3 y4 ho B
    obtain ⟨x0, x1, x2, x3, x4⟩ := B5.out.ent.five
    obtain ⟨y0, y1, yy2, y3, y4⟩ := B5.out.box.five
    go_wp2_with fail
    refine (check_v e n HN.out (by omega) _).mono ?_
    rintro x w6 ⟨rfl, ho⟩
    have B6 := Lib.hid (B5.out.noth ho)
    clear x0 x1 x2 x3 x4 y0 y1 yy2 y3 y4 ho
    obtain ⟨y0, y1, yy2, y3, y4⟩ := B6.out.box.five
    simp only [Ent.nil] at y0 y1 yy2 y3 y4
    obtain ⟨OW, EW⟩ := And.intro (Lib.hid B6.out.only) (Lib.hid B6.out.env)
    clear B5 B6
    go_wp2_with fail
    refine (rdr_new A c l _ (SB.out.noth OW.out)).mono ?_
    rintro x v1 ⟨rfl, hr, ho⟩
    obtain ⟨g2, hg2⟩ : ∃ g, w6.heap.size = g := ⟨_, rfl⟩
    rw [hg2] at hr
    rw [hg2]
    have F2 := Lib.hid (EW.out.noth ho)
    have G2 := Lib.hid (EW.out.hi (g := g2) (by omega))
    have GL2 := Lib.hid (show w.heap.size ≤ g2 from by have := OW.out.size; omega)
    have U2 := Lib.hid (OW.out.tr ho)
    have S2 := Lib.hid hr
    clear hr ho hg2 
    go_wp2_with fail
    refine (read_v g2 _ y2 z2 RR2.out _ S2.out F2.out G2.out w U2.out GL2.out).mono ?_
    rintro x v2 ⟨rfl, hr, ho, h0, he⟩
    have S3 := Lib.hid hr
    have F3 := Lib.hid he
    have U3 := Lib.hid h0
    clear hr ho h0 he
    by_cases hk : y2.key.size = 0
    · have hy := RB.out.1 hk
      subst hy
      have EQ : ∀ W : World, (binOp .eql 24 (.agg #[.string ⟨#[]⟩, .int .i64 0, .int .u16 0, .string ⟨#[]⟩, .int .i64 0]) (.agg #[.string ⟨#[]⟩, .int .i64 0, .int .u16 0, .string ⟨#[]⟩, .int .i64 0])).run Tryd.prog W = .ok (.bool true) W := fun W => by rw [show (Value.agg #[.string ⟨#[]⟩, .int .i64 0, .int .u16 0, .string ⟨#[]⟩, .int .i64 0] : Value) = .agg #[.string Ent.nil.key, .int .i64 Ent.nil.time, .int .u16 Ent.nil.org, .string Ent.nil.val, .int .i64 Ent.nil.til] from rfl, eq_ent, same_self]
      go_wp2_with (refine wpList_store_whole rfl rfl 24 (.tmp 8) (.tmp 45) rfl v2.heap.size rfl #[.string ⟨#[]⟩, .int .i64 0, .int .u16 0, .string ⟨#[]⟩, .int .i64 0] rfl 24 _ (Hld.new _ _ _) rfl (by simp [Value.oneCell']) (by kernel_rfl) ?_; intro v3 gb ho3 _; have hn := ((Only.refl Noth v2).alloc _).trans ho3 (fun j hj hl => by have : j = v2.heap.size := hj; omega); have U4 := Lib.hid (U3.out.tr hn); have F4 := Lib.hid (F3.out.noth hn); clear ho3 hn; obtain ⟨y0, y1, yy2, y3, y4⟩ := gb.five)
      refine (entry_awake _ F4.out.tab).mono ?_
      rintro x v4 ⟨rfl, ho⟩
      have U5 := Lib.hid (U4.out.tr ho)
      clear ho
      go_wp2
      go_ret
      exact ⟨rfl, U5.out⟩
    · obtain ⟨q1, q2, q3, q4, q5⟩ := RB.out.2 hk
      have kk : y2.key.toList.isEmpty = false := by
        cases hh : y2.key.toList.isEmpty with
        | false => rfl
        | true => exact absurd ((ba_nil _).2 (List.isEmpty_iff.1 hh)) hk
      obtain ⟨L2, hL2⟩ : ∃ L, y2.bytes = L := ⟨_, rfl⟩
      rw [hL2] at q3
      obtain ⟨s2, hs2⟩ : ∃ s : ByteArray, ⟨L2.toArray⟩ = s := ⟨_, rfl⟩
      obtain ⟨nz, hnz⟩ : ∃ n : Int, (z2.b.length : Int) = n := ⟨_, rfl⟩
      have hlen : l.length = L2.length + z2.b.length := by rw [q3, List.length_append]
      have hw : IntKind.i64.wrap ((l.length : Int) - nz) = (L2.length : Int) := by rw [IntWalk.i64_in _ (by omega)]; omega
      have hL2n : (L2.length : Int) ≤ 9223372036854775807 := by omega
      obtain ⟨A', hsl, hs3⟩ := slice_to c L2.length SR.out (by omega) hc1
      rw [show l.take L2.length = L2 by rw [q3, List.take_left]] at hs3
      have PS := Lib.hid (Part.of_src (c := c) hs3 (by omega) hc2)
      obtain ⟨c1', c2', c3', c4', c5', c6'⟩ := check_zero.1 q2
      have Q1 := Lib.hid q1
      have Q2 := Lib.hid q2
      have Q4 := Lib.hid (And.intro q4 q5)
      have QT := Lib.hid (show (-9223372036854775808 ≤ y2.time ∧ y2.time ≤ 9223372036854775807) ∧ (-9223372036854775808 ≤ y2.til ∧ y2.til ≤ 9223372036854775807) ∧ y2.key.size + y2.val.size ≤ 140737488355000 from ⟨⟨by omega, by omega⟩, ⟨by omega, by omega⟩, by omega⟩)
      have NZ := Lib.hid hnz
      have H2 := Lib.hid hL2
      have HS2 := Lib.hid hs2
      clear q1 q2 q3 q4 q5 hL2 hs2 hnz hlen hs3 c1' c2' c3' c4' c5' c6' hk
      go_wp2_with (refine wpList_store_whole rfl rfl 24 (.tmp 8) (.tmp 45) rfl v2.heap.size rfl #[.string y2.key, .int .i64 y2.time, .int .u16 y2.org, .string y2.val, .int .i64 y2.til] rfl 24 _ (Hld.new _ _ _) rfl (by simp [Value.oneCell']) (by kernel_rfl) ?_; intro v3 gb ho3 _; have hn := ((Only.refl Noth v2).alloc _).trans ho3 (fun j hj hl => by have : j = v2.heap.size := hj; omega); have U4 := Lib.hid (U3.out.tr hn); have F4 := Lib.hid (F3.out.noth hn); have S4 := Lib.hid (S3.out.noth hn); clear ho3 hn; obtain ⟨y0, y1, yy2, y3, y4⟩ := gb.five; have GB := Lib.hid gb; clear gb)
      have PS := Lib.hid ((PS.out.noth U4.out).noth (Only.refl Noth _).drew)
      have S4 := Lib.hid (S4.out.noth (Only.refl Noth _).drew)
      have F4 := Lib.hid (F4.out.noth (Only.refl Noth _).drew)
      have U4 := Lib.hid U4.out.drew
      have hcS := PS.out.conv
      rw [HS2.out] at hcS
      have hvz : v2.heap.size < v3.heap.size := GB.out.lt
      go_region_with
        (first
          | (go_at_call 34; refine (err_v g2 _ 0 Q1.out _ S4.out).mono ?_; rintro x u1 ⟨rfl, rfl⟩)
          | (go_at_call 19; refine (check_v y2 0 Q2.out QT.out.2.2 _).mono ?_; rintro x u1 ⟨rfl, ho⟩; have hcs0 := (fun (o : Nat) => ho.cells v2.heap.size o (by (try simp); (try omega))); have hsz1 : v2.heap.size < u1.heap.size := (by have h8 := ho.size; (try simp at h8); omega); have PS := Lib.hid (PS.out.noth ho); have S4 := Lib.hid (S4.out.noth ho); have F4 := Lib.hid (F4.out.noth ho); have U4 := Lib.hid (U4.out.tr ho); have hcS1 := PS.out.conv; rw [HS2.out] at hcS1; clear ho)
          | (go_at_call 31; refine (put_v y2 L2 H2.out QT.out.1.1 QT.out.1.2 Q4.out.1 Q4.out.2 QT.out.2.1.1 QT.out.2.1.2 QT.out.2.2 _ F4.out.tab).mono ?_; rintro x u2 hg; obtain ⟨A5, c5, rfl, hp, ho⟩ := hg.part; have PP := Lib.hid hp; have hcP := hp.conv; rw [HS2.out] at hcP; have hcs1 := (fun (o : Nat) => ho.cells v2.heap.size o (by (try simp); (try omega))); have hsz2 : v2.heap.size < u2.heap.size := (by have h8 := ho.size; (try simp at h8); omega); have PS := Lib.hid (PS.out.noth ho); have S4 := Lib.hid (S4.out.noth ho); have F4 := Lib.hid (F4.out.noth ho); have U4 := Lib.hid (U4.out.tr ho); have hcS2 := PS.out.conv; rw [HS2.out] at hcS2; clear hg hp ho)
          | (go_at_call 33; refine (left_v g2 _ nz NZ.out _ S4.out).mono ?_; rintro x u3 ⟨rfl, rfl⟩)
          | (go_at_call 15; refine (entry_awake _ F4.out.tab).mono ?_; rintro x u3 ⟨rfl, ho⟩; have hcP3 := (PP.out.noth ho).conv; rw [HS2.out] at hcP3; have hcs2 := (fun (o : Nat) => ho.cells v2.heap.size o (by (try simp); (try omega))); have PS := Lib.hid (PS.out.noth ho); have U4 := Lib.hid (U4.out.tr ho); have hcS3 := PS.out.conv; rw [HS2.out] at hcS3; clear ho))
      all_goals go_wp2
      all_goals go_ret
      all_goals exact ⟨rfl, U4.out⟩
end Go.Proofs.YtgclhkknkppmbaaDoor
