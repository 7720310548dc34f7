/- Package packet: Read's walk. -/
import Derived.Test.YtjdgmnaemopfdaaDoorMPS
import Derived.Test.YtjdgmnaemopfdaaDoorMOE
import Derived.Deep.LoopGhost
namespace Go.Proofs.YtjdgmnaemopfdaaDoor
open Go.RowKit Go.Lib
set_option linter.unusedVariables false
set_option maxRecDepth 100000
set_option linter.unusedSimpArgs false
attribute [local go_sem ↓] Go.wp_at_zero Go.wp_at_succ

theorem Src.regroup {w : World} {S : Nat → Prop} {A : Option Addr} {n : Nat} {xs : List Value} (hn : 0 < n) (h : Src w S 1 A n xs) : Src w S n A 1 xs :=
  ⟨by have := h.1; omega, fun _ => h.2 hn⟩
theorem in_new (S : Nat → Prop) (g : Nat) (A : Option Addr) (c : Nat) (l : List UInt8) (w : World) (hg : w.heap.size = g) (hp : Src w S 1 A l.length (byteCells l)) (hS : ∀ k, S k → k < w.heap.size) (h1 : l.length ≤ c) (h2 : c ≤ 9223372036854775807) :
    Calls Tryd.prog 19 #[.slice A l.length c] w fun e w' => e = .returned (.pointer (some ⟨g, 0, none⟩)) ∧ In.RdAt S w' g ⟨l, 0⟩ ∧ Only Noth w w' := by
  subst hg
  have HP := Lib.hid hp
  have HS := Lib.hid hS
  clear hp hS
  go_enter Tryd.func19, Tryd.ntmps19
  go_wp2
  go_ret
  refine ⟨rfl, ⟨Rd.sane_mk _, A, c, Hld.new _ _ _, ?_, h1, h2⟩, (Only.refl _ _).alloc _⟩
  exact (HP.out.alloc _).mono (fun k hk _ => ⟨Nat.ne_of_lt (HS.out k hk), hk⟩)
theorem head_len {l : List UInt8} {k f q s : Int} {z : Rd} (h : Head l k f q s z) : z.b.length ≤ l.length ∧ z.Sane := by
  obtain ⟨r1, r2, r3, r4, r5, h0, h1, h2, h3, h4, h5⟩ := h
  have s0 : Rd.Sane ⟨l, 0⟩ := Rd.sane_mk _
  have s1 := Rd.byte_sane s0 108
  have l1 := byte_le ⟨l, 0⟩ 108
  rw [h0] at s1 l1
  have s2 := small_sane s1 255
  have l2 : (r1.small 255).1.b.length ≤ r1.b.length := int_le s1
  rw [h1] at s2 l2
  have s3 := small_sane s2 255
  have l3 : (r2.small 255).1.b.length ≤ r2.b.length := int_le s2
  rw [h2] at s3 l3
  have s4 := small_sane s3 255
  have l4 : (r3.small 255).1.b.length ≤ r3.b.length := int_le s3
  rw [h3] at s4 l4
  have s5 := small_sane s4 1099511627777
  have l5 : (r4.small 1099511627777).1.b.length ≤ r4.b.length := int_le s4
  rw [h4] at s5 l5
  have s6 := Rd.byte_sane s5 108
  have l6 := byte_le r5 108
  rw [h5] at s6 l6
  simp only at *
  exact ⟨by omega, s6⟩
theorem ents_len2 {r z : Rd} {es : List Ent} (h : Ents r es z) : r.Sane → es.length + z.b.length ≤ r.b.length ∧ z.Sane := by
  induction h with
  | stop _ => intro hs; exact ⟨by simp, hs⟩
  | step hm hr _ ih =>
    intro hs
    have h1 := reads_less hr hs hm
    obtain ⟨h2, h3⟩ := ih (reads_sane hr hs)
    exact ⟨by simp only [List.length_cons]; omega, h3⟩
theorem ents_fit {r z : Rd} {es : List Ent} (h : Ents r es z) : ∀ e ∈ es, e.Ok ∧ e.key.size ≤ 9223372036854775807 ∧ e.val.size ≤ 9223372036854775807 := by
  induction h with
  | stop _ => simp
  | step hm hr _ ih =>
    intro e he
    rcases List.mem_cons.1 he with rfl | he
    · obtain ⟨r1, r2, r3, r4, r5, r6, k, v, t, o, u, _, hy⟩ := hr
      rcases hy with ⟨_, o0, o1, hc, rfl⟩ | ⟨_, rfl⟩
      · have := check_zero.1 hc
        simp only at this
        exact ⟨⟨by simp only; omega, by simp only; omega, o0, o1, by simp only; omega, by simp only; omega⟩, by simp only; omega, by simp only; omega⟩
      · exact ⟨⟨by decide, by decide, by decide, by decide, by decide, by decide⟩, by decide, by decide⟩
    · exact ih e he
def ReadAns (l : List UInt8) (p : Pkt) (e : Ending) (w' : World) : Prop :=
  if l.length ≤ 16384 ∧ p.check = 0 ∧ p.bytes = l then ∃ A c B d, e = .returned (.tuple #[.agg (pkc p.kind p.frm p.abt p.seq A p.ms.length c B p.es.length d), .int .i64 0]) ∧ PkAt w' A c B d p
  else e = .returned (.tuple #[.agg (pkc 0 0 0 0 none 0 0 none 0 0), .int .i64 14])
/-- The packet that stands in these bytes, may it be or not. -/
def Pkt.Parse (l : List UInt8) (p : Pkt) : Prop := ∃ z z1 z2, Head l p.kind p.frm p.abt p.seq z ∧ Mems z p.ms z1 ∧ Ents ((z1.byte 101).byte 108) p.es z2
set_option maxHeartbeats 4000000 in
theorem pk_read (A : Option Addr) (c : Nat) (l : List UInt8) (p : Pkt) (hp : p.Parse l) (w : World) (hl : Part w (.slice A l.length c) l) (he : Env w) : Calls Tryd.prog 35 #[.slice A l.length c] w
    fun e w' => ReadAns l p e w' ∧ Only Noth w w' := by
  have PP := Lib.hid hp
  have PT := Lib.hid hl
  have E := Lib.hid he
  have O0 := Lib.hid ((Only.refl Noth w).alloc (.cells (pkc 0 0 0 0 none 0 0 none 0 0) 50))
  have R0 := Lib.hid (Hld.new w 50 (pkc 0 0 0 0 none 0 0 none 0 0))
  obtain ⟨_, _, hA, hs, h1, h2⟩ := hl
  injection hA with hA1 hA2 hA3
  subst hA1
  subst hA3
  have SR := Lib.hid hs
  have hl0 : (l.length : Int) ≤ c := by omega
  have hl1 : (c : Int) ≤ 9223372036854775807 := by omega
  clear hp he hs
  obtain ⟨i0, hi, hz0, hz1, hz2⟩ := info_parts meminfo
  obtain ⟨i1, hj, hy0, hy1, hy2⟩ := info_parts entinfo
  go_enter Tryd.func35, Tryd.ntmps35
  by_cases hbig : 16384 < l.length
  · have hb2 : (16384 : Int) < l.length := by omega
    go_wp2
    refine bodyPost_ret (v := .tuple #[.agg (pkc 0 0 0 0 none 0 0 none 0 0), .int .i64 14]) (by simp [results, Tryd.results35, go_sem]) rfl ?_
    exact ⟨by unfold ReadAns; rw [if_neg (fun h => by omega)], O0.out⟩
  · have hb2 : ¬ (16384 : Int) < l.length := by omega
    obtain ⟨z, z1, z2, hh, hm, hes⟩ := PP.out
    have HHd := hh
    obtain ⟨r1, r2, r3, r4, r5, e1, e2, e3, e4, e5, e6⟩ := hh
    have HN := head_nums ⟨r1, r2, r3, r4, r5, e1, e2, e3, e4, e5, e6⟩
    have k8 : p.kind % 256 = p.kind := by omega
    have k8' : IntKind.u8.wrap p.kind = p.kind := IntWalk.u8_in _ (by omega)
    have f16 : IntKind.u16.wrap p.frm = p.frm := IntWalk.u16_in _ (by omega)
    have q16 : IntKind.u16.wrap p.abt = p.abt := IntWalk.u16_in _ (by omega)
    have s64 : IntKind.i64.wrap p.seq = p.seq := IntWalk.i64_in _ (by omega)
    clear HN
    have HH := Lib.hid (head_nums ⟨r1, r2, r3, r4, r5, e1, e2, e3, e4, e5, e6⟩)
    have HM := Lib.hid hm
    have HE := Lib.hid hes
    have e1 := Lib.hid e1
    have e2 := Lib.hid e2
    have e3 := Lib.hid e3
    have e4 := Lib.hid e4
    have e5 := Lib.hid e5
    have e6 := Lib.hid e6
    have HZ := Lib.hid (head_len HHd)
    have HML := Lib.hid (mems_long hm HZ.out.2)
    clear hm hes HHd
    go_wp2_with fail
    refine (in_new (Old w) (w.heap.size + 1) A c l _ (by simp) (SR.out.only O0.out (fun _ _ h => h)) (fun k hk => by have hk : k < w.heap.size := hk; simp; omega) h1 h2).mono ?_
    rintro e w1 ⟨rfl, hr, ho⟩
    have P1 := Lib.hid (show RPre w w1 (w.heap.size + 1) _ from ⟨hr, (E.out.noth O0.out).noth ho, R0.out.only ho (fun h => h), by omega, E.out.hi (by omega), O0.out.tr ho⟩)
    clear hr ho
    go_wp2_with fail
    refine (In.rdr_open_v (w.heap.size + 1) _ _ e1.out _ P1.out.rd).mono ?_
    rintro e w2 ⟨rfl, hr, ho⟩
    have P2 := Lib.hid (P1.out.call hr ho)
    clear hr ho
    go_wp2_with fail
    refine (pk_small_in (w.heap.size + 1) _ _ 255 _ e2.out _ P2.out.rd P2.out.env P2.out.hi).mono ?_
    rintro e w3 ⟨rfl, hr, ho⟩
    have P3 := Lib.hid (P2.out.call hr ho)
    clear hr ho
    go_wp2_with fail
    refine (pk_small_in (w.heap.size + 1) _ _ 255 _ e3.out _ P3.out.rd P3.out.env P3.out.hi).mono ?_
    rintro e w4 ⟨rfl, hr, ho⟩
    have P4 := Lib.hid (P3.out.call hr ho)
    clear hr ho
    go_wp2_with fail
    refine (pk_small_in (w.heap.size + 1) _ _ 255 _ e4.out _ P4.out.rd P4.out.env P4.out.hi).mono ?_
    rintro e w5 ⟨rfl, hr, ho⟩
    have P5 := Lib.hid (P4.out.call hr ho)
    clear hr ho
    go_wp2_with fail
    refine (pk_small_in (w.heap.size + 1) _ _ 1099511627777 _ e5.out _ P5.out.rd P5.out.env P5.out.hi).mono ?_
    rintro e w6 ⟨rfl, hr, ho⟩
    have P6 := Lib.hid (P5.out.call hr ho)
    clear hr ho
    go_wp2_with (refine wpList_store_whole rfl rfl 50 (.tmp 5) (.tmp 28) rfl w6.heap.size rfl (pkc p.kind p.frm p.abt p.seq none 0 0 none 0 0) rfl 50 _ (Hld.new _ _ _) rfl (by simp [Value.oneCell']) (by kernel_rfl) ?_; intro w7 gb ho3 _; have P7 := Lib.hid (P6.out.box (k := p.kind) (f := p.frm) (q := p.abt) (s := p.seq) gb (Nat.le_refl _) (((Only.refl Noth w6).alloc _).trans ho3 (fun j hj hl => by have hj : j = w6.heap.size := hj; omega))); clear gb ho3)
    refine (In.rdr_open_v (w.heap.size + 1) _ _ e6.out _ P7.out.rd).mono ?_
    rintro e w8 ⟨rfl, hr, ho⟩
    have P8 := Lib.hid (P7.out.call hr ho)
    clear hr ho k8 k8' f16 q16 s64
    go_wp2_with fail
    go_loopg [] z.b.length (fun gh W => ∃ (r : Rd) (ms1 ms2 : List Mem) (A : Option Addr) (c : Nat), ms1 ++ ms2 = p.ms ∧ Mems r ms2 z1 ∧ RPk w W (w.heap.size + 1) w6.heap.size r p.kind p.frm p.abt p.seq A c none 0 ms1 [] ∧ gh = r.b.length)
    case atStart => exact ⟨z, [], p.ms, none, 0, rfl, HM.out, P8.out, rfl⟩
    case round =>
      obtain ⟨r, ms1, ms2, A1, c1, hms, hmems, hR, hgh⟩ := hrel
      have MS := Lib.hid hms
      have RR := Lib.hid hR
      have GH := Lib.hid hgh
      have hsane : r.Sane := hR.rd.1
      have hml : ms1.length ≤ 16384 := by
        have x1 := HML.out.1
        have x2 := HZ.out.1
        rw [← hms, List.length_append] at x1
        omega
      clear hms hR hgh
      cases hm : r.more
      · have HMo := Lib.hid hm
        cases hmems with
        | step hx _ => rw [hx] at hm; cases hm
        | stop hx =>
          have hms := MS.out
          rw [List.append_nil] at hms
          subst hms
          obtain ⟨y1, hy1⟩ : ∃ x, z1.byte 101 = x := ⟨_, rfl⟩
          obtain ⟨y2, hy2⟩ : ∃ x, y1.byte 108 = x := ⟨_, rfl⟩
          have hes := HE.out
          rw [hy1, hy2] at hes
          have HE := Lib.hid hes
          have HEL := Lib.hid (show p.es.length ≤ 16384 by
            have x0 := HML.out.1
            have x2 := HZ.out.1
            have x3 := byte_le z1 101
            have x4 := byte_le y1 108
            rw [hy1] at x3
            rw [hy2] at x4
            have x5 := (ents_len2 hes (by rw [← hy2, ← hy1]; exact Rd.byte_sane (Rd.byte_sane HML.out.2.1 _) _)).1
            omega)
          have Y1 := Lib.hid hy1
          have Y2 := Lib.hid hy2
          clear hm hx hes hy1 hy2
          go_wp2_with fail
          refine (In.rdr_more (w.heap.size + 1) z1 _ RR.out.rd).mono ?_
          rintro e w9 ⟨rfl, rfl⟩
          rw [HMo.out]
          go_wp2_with fail
          refine (In.rdr_close_v (w.heap.size + 1) _ _ Y1.out _ RR.out.rd).mono ?_
          rintro e w10 ⟨rfl, hr, ho⟩
          have K1 := Lib.hid (RR.out.call hr ho)
          clear hr ho
          go_wp2_with fail
          refine (In.rdr_open_v (w.heap.size + 1) _ _ Y2.out _ K1.out.rd).mono ?_
          rintro e w11 ⟨rfl, hr, ho⟩
          have K2 := Lib.hid (K1.out.call hr ho)
          clear hr ho
          go_wp2_with fail
          go_loopg [] y2.b.length (fun gh W => ∃ (r : Rd) (es1 es2 : List Ent) (B : Option Addr) (d : Nat), es1 ++ es2 = p.es ∧ Ents r es2 z2 ∧ RPk w W (w.heap.size + 1) w6.heap.size r p.kind p.frm p.abt p.seq A1 c1 B d p.ms es1 ∧ gh = r.b.length)
          case atStart => exact ⟨y2, [], p.es, none, 0, rfl, HE.out, K2.out, rfl⟩
          case round =>
            obtain ⟨r2, es1, es2, B1, d1, hes, hents, hR, hgh⟩ := hrel
            have ES := Lib.hid hes
            have RR2 := Lib.hid hR
            have GH2 := Lib.hid hgh
            have hsane : r2.Sane := hR.rd.1
            have hel : es1.length ≤ 16384 := by
              have x1 := HEL.out
              rw [← hes, List.length_append] at x1
              omega
            clear hes hR hgh
            cases hm : r2.more
            · have HMo2 := Lib.hid hm
              cases hents with
              | step hx _ _ => rw [hx] at hm; cases hm
              | stop hx =>
              have hes := ES.out
              rw [List.append_nil] at hes
              subst hes
              have FIT := Lib.hid (show p.Fit from ⟨HH.out.1.1, HH.out.1.2, HH.out.2.1.1, by have := HH.out.2.1.2; omega, HH.out.2.2.1.1, by have := HH.out.2.2.1.2; omega, by have := HH.out.2.2.2.1; omega, by have := HH.out.2.2.2.2; omega,
                fun x hx => by have := HML.out.2.2 x hx; exact ⟨by omega, by omega, by omega, by omega, by omega, by omega⟩, ents_fit HE.out⟩)
              clear hm hx hsane
              go_wp2_with fail
              refine (In.rdr_more (w.heap.size + 1) _ _ RR2.out.rd).mono ?_
              rintro e w12 ⟨rfl, rfl⟩
              rw [HMo2.out]
              obtain ⟨c0, c1', c2, c3, c4, c5⟩ := RR2.out.box.six
              have EMS := Lib.hid (show ElAt wr (Side w (w.heap.size + 1) w6.heap.size) 3 A1 (p.ms.map Mem.cl) ∧ ElAt wr (Side w (w.heap.size + 1) w6.heap.size) 5 B1 (p.es.map Ent.cl) ∧ p.ms.length ≤ c1 ∧ c1 ≤ 9223372036854775807 ∧ p.es.length ≤ d1 ∧ d1 ≤ 9223372036854775807 by
                obtain ⟨A', c', hv, k1, k2, hel⟩ := RR2.out.msr.el (mem_len _) (by omega) (by rw [List.length_map])
                obtain ⟨B', d', hv', k3, k4, hel'⟩ := RR2.out.esr.el (ent_len _) (by omega) (by rw [List.length_map])
                injection hv with q1 _ q2
                injection hv' with q3 _ q4
                subst q1 q2 q3 q4
                exact ⟨hel, hel', k1, k2, k3, k4⟩)
              have PA := Lib.hid (show PkAt wr A1 c1 B1 d1 p from ⟨EMS.out.1.mono (fun k _ h => h), EMS.out.2.1.mono (fun k _ h => h), EMS.out.2.2.1, EMS.out.2.2.2.1, EMS.out.2.2.2.2.1, EMS.out.2.2.2.2.2⟩)
              go_wp2_with fail
              refine (pk_put A1 c1 B1 d1 p FIT.out _ PA.out RR2.out.env.tab).mono ?_
              rintro e w13 ⟨⟨s, rfl, hs⟩, ho⟩
              have OW := Lib.hid ho
              have OY := Lib.hid (RR2.out.only.tr ho)
              have RS0 := Lib.hid (RR2.out.res.only ho (fun h => h))
              have BX := Lib.hid (RR2.out.box.only ho (fun h => h))
              have PA2 := Lib.hid (PA.out.noth ho)
              clear ho c0 c1' c2 c3 c4 c5
              by_cases h0 : p.check = 0
              · unfold PutAns at hs
                rw [if_pos h0] at hs
                obtain ⟨A3, c3, rfl, hp3, -⟩ := hs
                have H0 := Lib.hid h0
                have b0 : (p.check != 0) = false := by simp [h0]
                obtain ⟨_, _, hv3, hs3, hq1, hq2⟩ := hp3
                injection hv3 with v1 _ v2
                subst v1 v2
                have S3 := Lib.hid hs3
                have SL := Lib.hid (SR.out.only OY.out (fun _ _ h => h))
                rw [h0]
                clear h0 hs3
                go_wp2_with fail
                refine (bytes_equal A3 A c3 c p.bytes l _ _ _ S3.out SL.out (by omega) (by omega)).mono ?_
                rintro e w14 ⟨rfl, ho2⟩
                have OV := Lib.hid ho2
                have OX := Lib.hid (OY.out.tr ho2)
                have RS := Lib.hid (RS0.out.only ho2 (fun h => h))
                have PA3 := Lib.hid (PA2.out.noth ho2)
                obtain ⟨c0, c1', c2, c3', c4, c5⟩ := (BX.out.only ho2 (fun h => h)).six
                clear ho2
                by_cases hb : p.bytes = l
                · have HBB := Lib.hid hb
                  rw [decide_eq_true hb]
                  clear hb
                  go_wp2_with (refine wpList_store_whole rfl rfl 50 (.tmp 2) (.tmp 79) rfl w.heap.size rfl (pkc p.kind p.frm p.abt p.seq A1 p.ms.length c1 B1 p.es.length d1) rfl 50 _ RS.out rfl (by simp [Value.oneCell']) (by kernel_rfl) ?_; intro w20 gb ho3 _; obtain ⟨y0, y1, y2, y3, y4, y5⟩ := gb.six; have OF := Lib.hid (OX.out.trans ho3 (fun j hj hl => by have hj : j = w.heap.size := hj; omega)); have HO3 := Lib.hid ho3; clear gb ho3)
                  refine bodyPost_ret (v := .tuple #[.agg (pkc p.kind p.frm p.abt p.seq A1 p.ms.length c1 B1 p.es.length d1), .int .i64 0]) (by simp [results, Tryd.results35, go_sem, y0, y1, y2, y3, y4, y5]) rfl ?_
                  have PF : PkAt w20 A1 c1 B1 d1 p := ⟨(((EMS.out.1.noth OW.out).noth OV.out).only HO3.out (fun k hk e => by have := hk.1; have e : k = w.heap.size := e; omega)).mono (fun k _ h => h), (((EMS.out.2.1.noth OW.out).noth OV.out).only HO3.out (fun k hk e => by have := hk.1; have e : k = w.heap.size := e; omega)).mono (fun k _ h => h), EMS.out.2.2.1, EMS.out.2.2.2.1, EMS.out.2.2.2.2.1, EMS.out.2.2.2.2.2⟩
                  exact ⟨by unfold ReadAns; rw [if_pos ⟨by omega, H0.out, HBB.out⟩]; exact ⟨A1, c1, B1, d1, rfl, PF⟩, OF.out⟩
                · have HBB := Lib.hid hb
                  rw [decide_eq_false hb]
                  clear hb
                  go_wp2_with (refine wpList_store_whole rfl rfl 50 (.tmp 2) (.tmp 78) rfl w.heap.size rfl (pkc 0 0 0 0 none 0 0 none 0 0) rfl 50 _ RS.out rfl (by simp [Value.oneCell']) (by kernel_rfl) ?_; intro w20 gb ho3 _; obtain ⟨y0, y1, y2, y3, y4, y5⟩ := gb.six; have OF := Lib.hid (OX.out.trans ho3 (fun j hj hl => by have hj : j = w.heap.size := hj; omega)); have HO3 := Lib.hid ho3; clear gb ho3)
                  refine bodyPost_ret (v := .tuple #[.agg (pkc 0 0 0 0 none 0 0 none 0 0), .int .i64 14]) (by simp [results, Tryd.results35, go_sem, y0, y1, y2, y3, y4, y5]) rfl ?_
                  exact ⟨by unfold ReadAns; rw [if_neg (fun h => HBB.out h.2.2)], OF.out⟩
              · have H0 := Lib.hid h0
                have b0 : (p.check != 0) = true := by simpa using h0
                unfold PutAns at hs
                rw [if_neg h0] at hs
                subst hs
                have OX := Lib.hid OY.out
                have RS := Lib.hid RS0.out
                go_wp2_with (refine wpList_store_whole rfl rfl 50 (.tmp 2) (.tmp 78) rfl w.heap.size rfl (pkc 0 0 0 0 none 0 0 none 0 0) rfl 50 _ RS.out rfl (by simp [Value.oneCell']) (by kernel_rfl) ?_; intro w20 gb ho3 _; obtain ⟨y0, y1, y2, y3, y4, y5⟩ := gb.six; have OF := Lib.hid (OX.out.trans ho3 (fun j hj hl => by have hj : j = w.heap.size := hj; omega)); have HO3 := Lib.hid ho3; clear gb ho3)
                refine bodyPost_ret (v := .tuple #[.agg (pkc 0 0 0 0 none 0 0 none 0 0), .int .i64 14]) (by simp [results, Tryd.results35, go_sem, y0, y1, y2, y3, y4, y5]) rfl ?_
                exact ⟨by unfold ReadAns; rw [if_neg (fun h => H0.out h.2.1)], OF.out⟩
            · have HMo2 := Lib.hid hm
              cases hents with
              | stop hx => rw [hx] at hm; cases hm
              | @step _ zz y t _ hx hread hrest =>
              have hless := reads_less hread hsane hm
              have RD := Lib.hid hread
              have HL := Lib.hid hless
              have HT := Lib.hid hrest
              clear hm hx hread hless hrest hsane
              go_wp2_with fail
              refine (In.rdr_more (w.heap.size + 1) r2 _ RR2.out.rd).mono ?_
              rintro e w12 ⟨rfl, rfl⟩
              rw [HMo2.out]
              go_wp2_with fail
              have BG := Lib.hid (show ¬ w6.heap.size = w.heap.size + 1 from fun e => by have := RR2.out.hb; omega)
              refine wp_region_N (fun k => k = w.heap.size + 1 ∨ OwnB B1 d1 k ∨ k = w6.heap.size) (by kernel_rfl) ?_
              refine wpN_take (i := 0) (d := some 58) rfl rfl (by kernel_rfl) (by kernel_rfl) (by kernel_rfl) (fun _ _ _ h => h) (sure_value (v := .pointer (some ⟨w6.heap.size, 5, none⟩)) (by rfl) (fun _ _ => by first | rfl | go_simp)) (Only.refl _ _) ?_
              simp only [Act.put, List.setIfInBounds_toArray, List.set_cons_zero, List.set_cons_succ]
              refine wpN_take (i := 2) (d := some 60) rfl rfl (by kernel_rfl) (by kernel_rfl) (by kernel_rfl) (fun _ _ _ h => h) (sure_value (v := .pointer (some ⟨w.heap.size + 1, 0, none⟩)) (by rfl) (fun _ _ => by first | rfl | go_simp)) (Only.refl _ _) ?_
              simp only [Act.put, List.setIfInBounds_toArray, List.set_cons_zero, List.set_cons_succ]
              refine wpN_lcb (i := 1) (j := 3) (k := 4) (d := some 59) (d' := some 61) (d'' := some 62) (m := 1) (v := .slice B1 es1.length d1) (u := .agg #[.string y.key, .int .i64 y.time, .int .u16 y.org, .string y.val, .int .i64 y.til]) (z := #[.string y.key, .int .i64 y.time, .int .u16 y.org, .string y.val, .int .i64 y.til]) (t := 64) (G := At (w.heap.size + 1)) (T := fun v1 v2 => In.RdAt (Old w) v2 (w.heap.size + 1) zz ∧ Only (At (w.heap.size + 1)) v1 v2) (by kernel_rfl) (by kernel_rfl) (by kernel_rfl) (by kernel_rfl) (by kernel_rfl) rfl rfl rfl rfl rfl rfl rfl rfl rfl (fun e h => by cases h; decide) (fun e h => by cases h; decide) (by decide) (by decide) (Only.refl _ _) (fun v1 h1 => by have c5 : v1.cell? ⟨w6.heap.size, 5, none⟩ = some (.slice B1 es1.length d1) := (RR2.out.box.only (Only.undrew h1) BG.out).cell 5; go_simp) (fun v1 h1 => by have c5 : v1.cell? ⟨w6.heap.size, 5, none⟩ = some (.slice B1 es1.length d1) := (RR2.out.box.only (Only.undrew h1) BG.out).cell 5; go_simp) (fun q v1 h1 => by have c5 : v1.cell? ⟨w6.heap.size, 5, none⟩ = some (.slice B1 es1.length d1) := (RR2.out.box.only (Only.undrew h1) BG.out).cell 5; go_simp) (fun _ => by go_simp) (fun _ => by go_simp) (fun v1 h1 => (In.entry_read (w.heap.size + 1) r2 y zz RD.out v1 (RR2.out.noth (Only.undrew h1)).rd (RR2.out.noth (Only.undrew h1)).env RR2.out.hi).mono (fun e v2 ⟨q1, q2, q3⟩ => ⟨q1, ⟨q2, q3⟩, (h1.mono (fun _ h _ => h.elim)).trans q3 (fun j hj _ => .inl hj), (Only.at_of h1).at_tr q3⟩)) (fun _ => by go_simp) (fun _ => by go_simp) ?_
              rintro v1 v2 v3 p4 k1 ⟨hrd, hoat⟩ k2 HB4 hF
              have M4 := Lib.hid (((RR2.out.noth (Only.undrew k1)).call hrd hoat).noth k2)
              have HF4 := Lib.hid hF
              have SV := Lib.hid ((HB4.src 5 rfl).regroup (by omega))
              clear k1 hrd hoat k2 HB4 hF
              simp only [Act.put, List.setIfInBounds_toArray, List.set_cons_zero, List.set_cons_succ]
              refine wpN_one (i := 5) (by kernel_rfl) rfl (by rfl) (fun v4 h4 => ?_)
              have M5 := Lib.hid (M4.out.noth h4)
              have SV5 := Lib.hid ((SV.out.only h4 (fun _ _ h => h)))
              have HF5 := Lib.hid (only_up _ _ _ HF4.out h4)
              refine wp_append_row v4 (.tmp 59) (.tmp 62) 48 rfl 64 i1 (.agg #[.string ⟨#[]⟩, .int .i64 0, .int .u16 0, .string ⟨#[]⟩, .int .i64 0]) 5 56 Tryd.underlying48 hj hy0 hy1 hy2 rfl (OwnB B1 d1) _ _ es1.length _ rfl (M5.out.esr.tight.1) (some ⟨p4, 0, none⟩) 1 1 [.string y.key, .int .i64 y.time, .int .u16 y.org, .string y.val, .int .i64 y.til] rfl SV5.out (by intro u hu; simp at hu; rcases hu with rfl | rfl | rfl | rfl | rfl <;> rfl) (by simp only [maxLen]; omega) (by omega) ?_
              intro v' v5 hrow ho _
              obtain ⟨B2, d2, hv'⟩ := hrow.shape
              subst hv'
              have HR := Lib.hid hrow
              have HS := Lib.hid ho
              have BX := Lib.hid (M5.out.box.only ho (fun e => (M5.out.esr.tight.2 _ e).1.2.2 rfl))
              have HF6 := Lib.hid (HF5.out.trans ho (fun j hj _ => .inr (.inl hj)))
              refine ⟨HF6.out, ?_⟩
              clear hrow ho h4
              simp only [Act.put, List.setIfInBounds_toArray, List.set_cons_zero, List.set_cons_succ]
              refine wpN_take (i := 6) (d := some 64) rfl rfl (by kernel_rfl) (by kernel_rfl) (by kernel_rfl) (fun _ _ _ h => h) (sure_value (v := .pointer (some ⟨w6.heap.size, 5, none⟩)) (by rfl) (fun _ _ => by first | rfl | go_simp)) HF6.out ?_
              simp only [Act.put, List.setIfInBounds_toArray, List.set_cons_zero, List.set_cons_succ]
              refine wpN_store_ent (i := 7) (by kernel_rfl) rfl (by rfl) rfl (.tmp 64) (.tmp 63) rfl w6.heap.size 5 rfl B2 _ d2 rfl 50 _ BX.out (.slice B1 es1.length d1) rfl HF6.out (.inr (.inr rfl)) ?_
              intro v6 hb6 ho6 hF7
              have M7 := Lib.hid (M5.out.adde E.out (x := y) HR.out HS.out hb6 ho6)
              clear hb6 ho6 hF7
              try simp only [Act.put, List.setIfInBounds_toArray, List.set_cons_zero, List.set_cons_succ]
              refine wpN_done (by kernel_rfl) (fun v7 ho => ?_) _
              have M8 := Lib.hid (M7.out.noth ho)
              clear ho
              go_wp2_with fail
              go_roundg zz.b.length
              case rel => exact ⟨zz, es1 ++ [y], t, B2, d2, by rw [List.append_assoc]; exact ES.out, HT.out, M8.out, rfl⟩
              case measure => have := HL.out; have := GH2.out; omega
      · have HMo := Lib.hid hm
        have hless := mem_less hsane hm
        cases hmems with
        | stop hx => rw [hx] at hm; cases hm
        | @step _ t _ hx hmt =>
          obtain ⟨q1, hq1⟩ : ∃ x, r.byte 108 = x := ⟨_, rfl⟩
          obtain ⟨q2, n1, hq2⟩ : ∃ x y, q1.small 255 = (x, y) := ⟨_, _, rfl⟩
          obtain ⟨q3, n2, hq3⟩ : ∃ x y, q2.small 255 = (x, y) := ⟨_, _, rfl⟩
          obtain ⟨q4, n3, hq4⟩ : ∃ x y, q3.small 1099511627776 = (x, y) := ⟨_, _, rfl⟩
          obtain ⟨q5, hq5⟩ : ∃ x, q4.byte 101 = x := ⟨_, rfl⟩
          have hmem : r.mem = (q5, ⟨n1, n2, n3⟩) := by
            simp only [Rd.mem, hq1, hq2, hq3, hq4, hq5]
          rw [hmem] at hmt hless MS
          have a1 := q1.small_ge (most := 255) (by omega)
          have a2 := q2.small_ge (most := 255) (by omega)
          have a3 := q3.small_ge (most := 1099511627776) (by omega)
          rw [hq2] at a1
          rw [hq3] at a2
          rw [hq4] at a3
          simp only at hmt hless a1 a2 a3
          have HL := Lib.hid hless
          have HT := Lib.hid hmt
          have Q1 := Lib.hid hq1
          have Q2 := Lib.hid hq2
          have Q3 := Lib.hid hq3
          have Q4 := Lib.hid hq4
          have Q5 := Lib.hid hq5
          have u1 : IntKind.u16.wrap n1 = n1 := IntWalk.u16_in _ (by omega)
          have u2 : n2 % 256 = n2 := by omega
          have u2' : IntKind.u8.wrap n2 = n2 := IntWalk.u8_in _ (by omega)
          clear hm hx hmt hless hq1 hq2 hq3 hq4 hq5 hmem a1 a2 a3 hsane
          go_wp2_with fail
          refine (In.rdr_more (w.heap.size + 1) r _ RR.out.rd).mono ?_
          rintro e w9 ⟨rfl, rfl⟩
          rw [HMo.out]
          go_wp2_with fail
          refine (In.rdr_open_v (w.heap.size + 1) _ _ Q1.out _ RR.out.rd).mono ?_
          rintro e w10 ⟨rfl, hr, ho⟩
          have K1 := Lib.hid (RR.out.call hr ho)
          clear hr ho
          go_wp2_with fail
          refine (pk_small_in (w.heap.size + 1) _ _ 255 _ Q2.out _ K1.out.rd K1.out.env K1.out.hi).mono ?_
          rintro e w11 ⟨rfl, hr, ho⟩
          have K2 := Lib.hid (K1.out.call hr ho)
          clear hr ho
          go_wp2_with fail
          refine (pk_small_in (w.heap.size + 1) _ _ 255 _ Q3.out _ K2.out.rd K2.out.env K2.out.hi).mono ?_
          rintro e w12 ⟨rfl, hr, ho⟩
          have K3 := Lib.hid (K2.out.call hr ho)
          clear hr ho
          go_wp2_with fail
          refine (pk_small_in (w.heap.size + 1) _ _ 1099511627776 _ Q4.out _ K3.out.rd K3.out.env K3.out.hi).mono ?_
          rintro e w13 ⟨rfl, hr, ho⟩
          have K4 := Lib.hid (K3.out.call hr ho)
          clear hr ho
          go_wp2_with (refine wpList_store_whole rfl rfl 68 (.tmp 6) (.tmp 43) rfl w13.heap.size rfl #[.int .u16 n1, .int .u8 n2, .int .i64 n3] rfl 68 _ (Hld.new _ _ _) rfl (by simp [Value.oneCell']) (by kernel_rfl) ?_; intro w14 gb ho3 _; have K5 := Lib.hid (K4.out.noth (((Only.refl Noth w13).alloc _).trans ho3 (fun j hj hl => by have hj : j = w13.heap.size := hj; omega))); have MB := Lib.hid gb; clear gb ho3)
          refine (In.rdr_close_v (w.heap.size + 1) _ _ Q5.out _ K5.out.rd).mono ?_
          rintro e w15 ⟨rfl, hr, ho⟩
          have K6 := Lib.hid (K5.out.call hr ho)
          have MB2 := Lib.hid (MB.out.only ho (fun h => by have h : w13.heap.size = w.heap.size + 1 := h; obtain ⟨_, _, _, g1, _⟩ := K4.out.rd; have := g1.lt; omega))
          clear hr ho u1 u2 u2'
          have m0 : w15.cell? ⟨w13.heap.size, 0, none⟩ = some (.int .u16 n1) := MB2.out.cell 0
          have m1 : w15.cell? ⟨w13.heap.size, 1, none⟩ = some (.int .u8 n2) := MB2.out.cell 1
          have m2 : w15.cell? ⟨w13.heap.size, 2, none⟩ = some (.int .i64 n3) := MB2.out.cell 2
          have b4 : w15.cell? ⟨w6.heap.size, 4, none⟩ = some (.slice A1 ms1.length c1) := K6.out.box.cell 4
          have K7 := Lib.hid (K6.out.noth ((Only.refl Noth w15).alloc (.cells #[.int .u16 n1, .int .u8 n2, .int .i64 n3] 68)))
          have SV := Lib.hid (((Hld.new w15 68 #[.int .u16 n1, .int .u8 n2, .int .i64 n3]).src 3 rfl).regroup (by omega))
          go_wp2_with (first
            | (at_builtin; refine wpList_append_row _ rfl (.tmp 47) (.tmp 49) 47 rfl 68 i0 (.agg #[.int .u16 0, .int .u8 0, .int .i64 0]) 3 16 Tryd.underlying47 hi hz0 hz1 hz2 rfl (OwnB A1 c1) _ _ ms1.length _ rfl (K7.out.msr.tight.1) (some ⟨w15.heap.size, 0, none⟩) 1 1 [.int .u16 n1, .int .u8 n2, .int .i64 n3] rfl (SV.out) (by intro u hu; simp at hu; rcases hu with rfl | rfl | rfl <;> rfl) (by simp only [maxLen]; omega) (by omega) ?_; intro v' w16 hrow ho _; obtain ⟨A2, c2, hv'⟩ := hrow.shape; subst hv'; have HR := Lib.hid (hrow.mono (G := Plus (Side w (w.heap.size + 1) w6.heap.size) (w15.alloc (.cells #[.int .u16 n1, .int .u8 n2, .int .i64 n3] 68)) w16) (fun k hk _ => by rcases hk with hk | hk; exact .inl (K7.out.msr.tight.2 k hk).1; exact .inr hk)); have HS := Lib.hid (show Only (Side w (w.heap.size + 1) w6.heap.size) (w15.alloc (.cells #[.int .u16 n1, .int .u8 n2, .int .i64 n3] 68)) w16 from ho.mono (fun k hk _ => (K7.out.msr.tight.2 k hk).1)); have BX := Lib.hid (K7.out.box.only HS.out (fun e => e.2.2 rfl)); clear hrow ho)
            | (refine wpList_store_mem rfl rfl (.tmp 51) (.tmp 50) rfl w6.heap.size 4 rfl A2 _ c2 rfl 50 _ BX.out (.slice A1 ms1.length c1) rfl ?_; intro w17 hb2 ho2; have K8 := Lib.hid (K7.out.addm E.out (m := ⟨n1, n2, n3⟩) HR.out HS.out (Row.nil _ _ _ _) hb2 ho2); clear hb2 ho2))
          go_roundg q5.b.length
          case rel => exact ⟨q5, ms1 ++ [⟨n1, n2, n3⟩], t, A2, c2, by rw [List.append_assoc]; exact MS.out, HT.out, K8.out, rfl⟩
          case measure => have := HL.out; have := GH.out; omega
end Go.Proofs.YtjdgmnaemopfdaaDoor
