/- A call of the law: few, do. -/
import Derived.Test.YtokgignmdgejoaaDoorRaD
import Derived.Test.YtokgignmdgejoaaDoorRaE
import Derived.Test.YtokgignmdgejoaaDoorAlJ
namespace Go.Proofs.YtokgignmdgejoaaDoor
open Go.RowKit Go.Lib
set_option linter.unusedVariables false
set_option linter.unusedSimpArgs false
set_option maxRecDepth 100000
attribute [local go_sem ↓] Go.wp_at_zero Go.wp_at_succ

/-- A call. -/
structure Qc where
  kind : Nat
  ls : List Pr
  a : Option Addr
  c : Nat
  st : Int
  en : Int
  n : Int
abbrev Qc.al (x : Qc) : Array Value := #[.slice x.a x.ls.length x.c, .int .i64 x.st, .int .i64 x.en]
abbrev Qc.arr (x : Qc) : Array Value := #[.int .u8 (x.kind : Int), .slice x.a x.ls.length x.c, .int .i64 x.st, .int .i64 x.en, .int .i64 x.n]
instance : Inhabited Qc := ⟨⟨0, [], none, 0, 0, 0, 0⟩⟩
/-- A call in memory. -/
structure QcAt (w : World) (S : Nat → Prop) (b o : Nat) (x : Qc) : Prop where
  c0 : w.cell? ⟨b, o, none⟩ = some (.int .u8 (x.kind : Int))
  c1 : w.cell? ⟨b, o + 1, none⟩ = some (.slice x.a x.ls.length x.c)
  c2 : w.cell? ⟨b, o + 2, none⟩ = some (.int .i64 x.st)
  c3 : w.cell? ⟨b, o + 3, none⟩ = some (.int .i64 x.en)
  c4 : w.cell? ⟨b, o + 4, none⟩ = some (.int .i64 x.n)
  sb : S b
  lt : b < w.heap.size
  ps : PsAt w S x.a x.c x.ls
  kd : x.kind ≤ 255
def QsAt (w : World) (S : Nat → Prop) (A : Option Addr) (xs : List Qc) : Prop :=
  0 < xs.length → ∃ b o, A = some ⟨b, o, none⟩ ∧ ∀ (k : Nat) (x : Qc), xs[k]? = some x → QcAt w S b (o + k * 5) x
theorem QcAt.only {w w' : World} {S F : Nat → Prop} {b o : Nat} {x : Qc} (h : QcAt w S b o x) (ho : Only F w w') (hSF : ∀ k, S k → k < w.heap.size → ¬ F k) : QcAt w' S b o x :=
  have hc : ∀ j, w'.cell? ⟨b, j, none⟩ = w.cell? ⟨b, j, none⟩ := fun j => ho.cell (p := ⟨b, j, none⟩) h.lt (hSF b h.sb h.lt)
  ⟨(hc _).trans h.c0, (hc _).trans h.c1, (hc _).trans h.c2, (hc _).trans h.c3, (hc _).trans h.c4, h.sb, Nat.lt_of_lt_of_le h.lt ho.size, ((h.ps.mono (T := fun k => S k ∧ k < w.heap.size) (fun k hk hl => ⟨hk, hl⟩)).only ho (fun k hk => hSF k hk.1 hk.2)).mono (fun k hk _ => hk.1), h.kd⟩
theorem QsAt.only {w w' : World} {S F : Nat → Prop} {A : Option Addr} {xs : List Qc} (h : QsAt w S A xs) (ho : Only F w w') (hSF : ∀ k, S k → k < w.heap.size → ¬ F k) : QsAt w' S A xs := fun hn => by
  obtain ⟨b, o, hA, hx⟩ := h hn
  exact ⟨b, o, hA, fun k x hk => (hx k x hk).only ho hSF⟩
def fewB (xs : List Qc) : Bool := decide (xs.length ≤ 80) && xs.all fun x => decide (x.ls.length ≤ 12)
set_option maxHeartbeats 2000000 in
theorem few_run (A : Option Addr) (n c : Nat) (xs : List Qc) (w : World) (S : Nat → Prop) (hx : QsAt w S A xs) (hl : xs.length = n) (hm : n ≤ 9223372036854775807) :
    Calls Tryd.prog 15 #[.slice A n c] w fun e w' => e = .returned (.bool (fewB xs)) ∧ Only Noth w w' := by
  have HX := Lib.hid hx
  have HL := Lib.hid hl
  have hn0 : (0 : Int) ≤ n := by omega
  clear hx hl
  by_cases h80 : (n : Int) > 80
  · have HP := Lib.hid (show fewB xs = false by unfold fewB; rw [HL.out, decide_eq_false (by omega)]; rfl)
    go_enter Tryd.func15, Tryd.ntmps15
    go_wp2
    go_ret
    exact ⟨by rw [HP.out]; rfl, Only.refl _ _⟩
  have H8 := Lib.hid (show decide (xs.length ≤ 80) = true by rw [HL.out]; exact decide_eq_true (by omega))
  go_enter Tryd.func15, Tryd.ntmps15
  go_wp2_with fail
  go_loopw [3] (fun i W => ∃ k : Nat, k ≤ n ∧ i = .int .i64 (k : Int) ∧ (∀ (j : Nat) (x : Qc), j < k → xs[j]? = some x → x.ls.length ≤ 12) ∧ W = w) (fun i _ => n - (RowKit.intOf i).toNat)
  case atStart => exact ⟨0, Nat.zero_le _, rfl, fun j x hj => absurd hj (Nat.not_lt_zero _), rfl⟩
  case round =>
    obtain ⟨k, hk, rfl, hno, hW⟩ := hrel
    replace hW := hW.symm
    subst hW
    have NO := Lib.hid hno
    have hk0 : (0 : Int) ≤ k := by omega
    clear hno
    by_cases hlt : k < n
    · obtain ⟨x, hx⟩ : ∃ x, xs[k]? = some x := ⟨_, List.getElem?_eq_getElem (by rw [HL.out]; exact hlt)⟩
      obtain ⟨b, o, hA, hc⟩ := HX.out (by rw [HL.out]; omega)
      have ha := hc k x hx
      have c1 := ha.c1
      have HXK := Lib.hid hx
      have hsz : (x.ls.length : Int) ≤ 9223372036854775807 := by have := ha.ps.cap; have := ha.ps.top; omega
      have hs0 : (0 : Int) ≤ x.ls.length := by omega
      have hk1 : (k : Int) < n := by omega
      subst hA
      clear hx hc ha
      by_cases h12 : (12 : Int) < x.ls.length
      · have HP := Lib.hid (show fewB xs = false by
          unfold fewB
          rw [H8.out, Bool.true_and, List.all_eq_false]
          exact ⟨x, List.mem_of_getElem? HXK.out, by simp; omega⟩)
        go_wp2
        go_ret
        exact ⟨by rw [HP.out]; rfl, Only.refl _ _⟩
      · go_wp2_with fail
        go_roundw
        case rel =>
          refine ⟨k + 1, by omega, by go_num, fun j z hj hz => ?_, by first | rfl | trivial⟩
          by_cases e : j = k
          · subst e
            rw [HXK.out] at hz
            injection hz with hz
            subst hz
            omega
          · exact NO.out j z (by omega) hz
        case measure => simp [RowKit.intOf]; omega
    · obtain rfl : k = n := by omega
      have HP := Lib.hid (show fewB xs = true by
        unfold fewB
        rw [H8.out, Bool.true_and, List.all_eq_true]
        intro x hx
        obtain ⟨j, hj, rfl⟩ := List.mem_iff_getElem.1 hx
        exact decide_eq_true (NO.out j _ (by rw [← HL.out]; exact hj) (List.getElem?_eq_getElem hj)))
      go_wp2
      go_ret
      exact ⟨by rw [HP.out]; rfl, Only.refl _ _⟩
theorem few_at {xs : List Qc} (h : fewB xs = true) : xs.length ≤ 80 ∧ ∀ x ∈ xs, x.ls.length ≤ 12 := by
  unfold fewB at h
  rw [Bool.and_eq_true, decide_eq_true_eq, List.all_eq_true] at h
  exact ⟨h.1, fun x hx => by simpa using h.2 x hx⟩
theorem AlAt.only {w w' : World} {F : Nat → Prop} {g b : Nat} {L : List Al} (h : AlAt w g b L) (ho : Only F w w') (hF : ∀ k, F k → k ≠ g ∧ k ≠ b ∧ ∀ e ∈ L, k ≠ e.blk) : AlAt w' g b L :=
  ⟨h.box.only ho (fun hf => (hF g hf).1 rfl), h.own.only ho (fun hf => (hF b hf).2.1 rfl), h.srt, h.len, fun e he => ⟨(h.labs e he).1.only ho (fun k hk hf => by have hk : k = e.blk := hk; exact (hF k hf).2.2 e he hk), (h.labs e he).2⟩, h.ok⟩
theorem AlAt.blk {w : World} {g b : Nat} {L : List Al} (h : AlAt w g b L) : ∀ e ∈ L, e.blk < w.heap.size := fun e he => by
  obtain ⟨k1, _⟩ := h.labs e he
  obtain ⟨bb, oo, hA, hS, hlt, _⟩ := k1.mem (by have := (h.ok e he).2.1; omega)
  have hS : bb = e.blk := hS
  omega
/-- A row of labels of one's own. -/
theorem Row.ps0 {w : World} {F : Nat → Prop} {A : Option Addr} {c n : Nat} {l : List Pr} (h : Row w F 63 2 (.slice A n c) n (prCs l)) (hn : l.length = n) (hsz : ∀ p ∈ l, p.name.size ≤ 9223372036854775807 ∧ p.val.size ≤ 9223372036854775807) : PsAt w (OwnB A c) A c l ∧ (1 ≤ n → ∃ g, A = some ⟨g, 0, none⟩ ∧ F g ∧ OwnB A c g ∧ Wide w g (n * 2)) := by
  rcases Nat.eq_zero_or_pos n with h0 | h0
  · subst h0
    obtain ⟨hl, A', cap, hv, k1, k2, k3⟩ := h
    injection hv with e1 _ e3
    subst e1 e3
    exact ⟨⟨fun hp => by omega, hsz, by omega, by simpa [maxLen] using k2⟩, fun h => by omega⟩
  · have ht := h.tight
    obtain ⟨g, rfl, hg, hgl, hps⟩ := ht.1.ps hn h0 hsz
    exact ⟨hps, fun _ => ⟨g, rfl, (ht.2 g hg).1, hg, h.wide (by omega)⟩⟩
/-- What do leaves. -/
def DoAns (g b : Nat) (S : Nat → Prop) (w : World) (e : Ending) (w' : World) : Prop :=
  ∃ L' A' c' N', e = .returned (.tuple #[.agg #[.slice A' N'.length c'], .bool true]) ∧ AlAt w' g b L' ∧ RfAt w' (fun k => S k ∨ w.heap.size ≤ k) A' c' N' ∧ Tw L' N'
theorem RfAt.lt {w : World} {S : Nat → Prop} {A : Option Addr} {c : Nat} {N : List Al} (h : RfAt w S A c N) : RfAt w (fun k => S k ∧ k < w.heap.size) A c N := h.mono (fun k hk hl => ⟨hk, hl⟩)
set_option maxHeartbeats 16000000 in
theorem do_run (g b : Nat) (S S2 : Nat → Prop) (A : Option Addr) (c : Nat) (L N : List Al) (x : Qc) (w : World) (hs : AlAt w g b L) (hr : RfAt w S A c N) (htw : Tw L N) (hSb : ¬ S b) (hp : PsAt w S2 x.a x.c x.ls) (hS2 : ¬ S2 b) (h12 : x.ls.length ≤ 12) (hk : x.kind ≤ 255) (ht : Tab w) :
    Calls Tryd.prog 16 #[.pointer (some ⟨g, 0, none⟩), .agg #[.slice A N.length c], .agg x.arr] w fun e w' => DoAns g b S w e w' ∧ Only (fun k => k = b) w w' := by
  have HS := Lib.hid hs
  have HR := Lib.hid hr.lt
  have HP := Lib.hid hp
  have TW := Lib.hid htw
  have TB := Lib.hid ht
  have NSB := Lib.hid (And.intro hSb hS2)
  have GB := Lib.hid (And.intro hs.box.lt hs.own.lt)
  have hnl := hr.len
  have hn0 : (0 : Int) ≤ N.length := by omega
  obtain ⟨W0, hW0⟩ : ∃ W, ((w.alloc (.cells #[.slice A N.length c] 40)).alloc (.cells x.arr 44)).alloc (.cells #[.slice none 0 0] 40) = W := ⟨_, rfl⟩
  have B4 := Lib.hid (show Hld W0 w.heap.size 40 #[.slice A N.length c] by rw [← hW0]; exact ((Hld.new w _ _).alloc _).alloc _)
  have B5 := Lib.hid (show Hld W0 (w.heap.size + 1) 44 x.arr by
    have := (Hld.new (w.alloc (.cells #[.slice A N.length c] 40)) 44 x.arr).alloc (.cells #[.slice none 0 0] 40)
    rw [hW0] at this
    simpa using this)
  have B6 := Lib.hid (show Hld W0 (w.heap.size + 1 + 1) 40 #[.slice none 0 0] by
    have := Hld.new ((w.alloc (.cells #[.slice A N.length c] 40)).alloc (.cells x.arr 44)) 40 #[.slice none 0 0]
    rw [hW0] at this
    simpa using this)
  have O0 := Lib.hid (show Only Noth w W0 by rw [← hW0]; exact (((Only.refl Noth w).alloc _).alloc _).alloc _)
  have Z0 := Lib.hid (show W0.heap.size = w.heap.size + 3 by rw [← hW0]; simp)
  have k0 := B5.out.cell 0
  have k1 := B5.out.cell 1
  have k2 := B5.out.cell 2
  have k3 := B5.out.cell 3
  have k4 := B5.out.cell 4
  have hki : (x.kind : Int) ≤ 255 := by omega
  have hk0 : (0 : Int) ≤ x.kind := by omega
  clear hs hr htw hSb hS2 hp ht
  by_cases hkd : x.kind % 4 = 3
  · have hq : ((x.kind : Int) % 4) = 3 := by omega
    go_enter Tryd.func16, Tryd.ntmps16
    go_wp2_with fail
    refine (drop_run g b L x.n W0 (HS.out.noth O0.out)).mono ?_
    rintro e w1 ⟨rfl, ha, ho⟩
    have HA := Lib.hid ha
    have O1 := Lib.hid ho
    replace B4 := Lib.hid (B4.out.only ho (fun e => by have e : w.heap.size = b := e; have := GB.out.2; omega))
    replace B5 := Lib.hid (B5.out.only ho (fun e => by have e : w.heap.size + 1 = b := e; have := GB.out.2; omega))
    replace B6 := Lib.hid (B6.out.only ho (fun e => by have e : w.heap.size + 1 + 1 = b := e; have := GB.out.2; omega))
    have HR1 := Lib.hid ((HR.out.noth O0.out).only ho (fun k hk e => by have e : k = b := e; subst e; exact NSB.out.1 hk.1))
    have m4 := B4.out.cell 0
    have k4 := B5.out.cell 4
    clear ha ho k0 k1 k2 k3 hW0
    obtain ⟨L1, hL1⟩ : ∃ L1, L.filter (fun x_1 => !decide (x_1.en < x.n)) = L1 := ⟨_, rfl⟩
    rw [hL1] at HA ⊢
    have HL1 := Lib.hid hL1
    clear hL1
    go_wp2_with fail
    refine (rdrop_run A c N x.n _ w1 HR1.out.ls hnl).mono ?_
    rintro e w2 ⟨⟨A2, c2, M, hM, rfl, hls⟩, ho⟩
    have HM := Lib.hid hM
    have LS := Lib.hid hls
    have O2 := Lib.hid ho
    replace B4 := Lib.hid (B4.out.only ho (fun h => h))
    replace B6 := Lib.hid (B6.out.only ho (fun h => h))
    have TW2 := Lib.hid (show Tw L1 M by rw [← HL1.out, hM]; exact Tw.filter (fun x y hxy => by rw [hxy.en]) TW.out)
    have hmn : M.length ≤ N.length := by rw [hM]; exact List.length_filter_le _ _
    have hdn : ((L.length : Int) - (L1.length : Nat)) = ((N.length - M.length : Nat) : Int) := by rw [TW.out.len, TW2.out.len]; omega
    rw [hdn]
    obtain ⟨dn, hdn2⟩ : ∃ dn : Int, ((N.length - M.length : Nat) : Int) = dn := ⟨_, rfl⟩
    rw [hdn2]
    have z6 := B6.out.lt
    have HMS := Lib.hid (show M.length ≤ 64 ∧ Srt M ∧ ∀ e ∈ M, lcheck e.ls = 0 ∧ 1 ≤ e.ls.length ∧ e.key = ⟨(lkey e.ls).toArray⟩ by
      rw [hM]
      exact ⟨by have := List.length_filter_le (fun x_1 : Al => !decide (x_1.en < x.n)) N; omega, filter_srt _ HR.out.srt, fun e he => HR.out.ok e (List.mem_filter.1 he).1⟩)
    clear hM hls ho hdn hdn2 m4 k4 hmn
    go_wp2_with (first | (refine wpList_store_whole rfl rfl 40 (.tmp 9) (.tmp 29) rfl w2.heap.size rfl #[.slice A2 M.length c2] rfl 40 _ (Hld.new w2 _ _) rfl (by simp [Value.oneCell']) (by kernel_rfl) ?_; intro w5 gb ho5 hz5; have y9 := gb.cell 0; have O5 := Lib.hid (show Only Noth w2 w5 from ((Only.refl Noth w2).alloc _).trans ho5 (fun j hj hl => by have hj : j = w2.heap.size := hj; omega)); clear gb ho5 hz5) | (refine wpList_store_whole rfl rfl 40 (.tmp 6) (.tmp 31) rfl (w.heap.size + 1 + 1) rfl #[.slice A2 M.length c2] rfl 40 _ (B6.out.only O5.out (fun h => h)) rfl (by simp [Value.oneCell']) (by kernel_rfl) ?_; intro w9 hb9 ho9 _; have y0 := hb9.cell 0; have O9 := Lib.hid ho9; clear hb9 ho9))
    refine bodyPost_ret (v := .tuple #[.agg #[.slice A2 M.length c2], .bool true]) (by simp [results, Tryd.results16, go_sem, y0]) rfl ?_
    have hz1 := O1.out.size
    have hz0 := Z0.out
    have ho25 : Only (fun k => k = w.heap.size + 1 + 1) w2 w9 := (O5.out.mono (fun j hj _ => hj.elim)).trans O9.out (fun j hj _ => hj)
    have ho19 : Only (fun k => k = w.heap.size + 1 + 1) w1 w9 := (O2.out.mono (fun j hj _ => hj.elim)).trans ho25 (fun j hj _ => hj)
    have hof : Only (fun k => k = b) w w9 := ((O0.out.mono (fun j hj _ => hj.elim)).trans O1.out (fun j hj _ => hj)).trans ho19 (fun j hj hl => by have hj : j = w.heap.size + 1 + 1 := hj; omega)
    refine ⟨⟨L1, A2, c2, M, rfl, HA.out.only ho19 (fun k hk => ?_), ⟨((LS.out.only ho25 ?_).mono ?_), HMS.out.2.1, HMS.out.1, HMS.out.2.2⟩, TW2.out⟩, hof⟩
    · have hk : k = w.heap.size + 1 + 1 := hk
      subst hk
      refine ⟨by have := GB.out.1; omega, by have := GB.out.2; omega, fun e he => ?_⟩
      have := HS.out.blk e (by rw [← HL1.out] at he; exact (List.mem_filter.1 he).1)
      omega
    · intro k hk e
      have e : k = w.heap.size + 1 + 1 := e
      rcases hk with hk | hk
      · have := hk.2; omega
      · omega
    · intro k hk _
      rcases hk with hk | hk
      · exact .inl hk.1
      · exact .inr (by omega)
  · have hq : (((x.kind : Int) % 4) == 3) = false := by rw [beq_eq_false_iff_ne]; omega
    go_enter Tryd.func16, Tryd.ntmps16
    go_upto_region 6 with (refine wpList_store_whole rfl rfl 27 (.tmp 11) (.tmp 36) rfl W0.heap.size rfl x.al rfl 27 _ (Hld.new W0 _ _) rfl (by simp [Value.oneCell']) (by kernel_rfl) ?_; intro w1 gb ho1 hz1; have B11 := Lib.hid gb; have O1 := Lib.hid (show Only Noth W0 w1 from ((Only.refl Noth W0).alloc _).trans ho1 (fun j hj hl => by have hj : j = W0.heap.size := hj; omega)); clear gb ho1 hz1)
    obtain ⟨g11, hg11⟩ : ∃ g11, W0.heap.size = g11 := ⟨_, rfl⟩
    have HG11 := Lib.hid (show g11 = w.heap.size + 3 by rw [← hg11, Z0.out])
    rw [hg11] at B11
    simp only [hg11]
    replace B4 := Lib.hid (B4.out.only O1.out (fun h => h))
    replace B5 := Lib.hid (B5.out.only O1.out (fun h => h))
    replace B6 := Lib.hid (B6.out.only O1.out (fun h => h))
    have OA := Lib.hid (O0.out.tr O1.out)
    have hzA : w.heap.size + 3 < w1.heap.size := by have := B11.out.lt; have := HG11.out; omega
    clear hW0 hg11 k0 k1 k2 k3 k4
    obtain ⟨ip, hip, hz0', hz1', hz2'⟩ := info_parts prinfo
    have RW := Lib.hid (Row.empty (w1.alloc (.cells #[] 63)) (New w1) 63 2 (some ⟨w1.heap.size, 0, none⟩))
    have SV := Lib.hid ((HP.out.noth OA.out).src.alloc (.cells #[] 63))
    have BA := Lib.hid (B11.out.alloc (.cells #[] 63))
    have n1 := (B5.out.alloc (.cells #[] 63)).cell 1
    go_upto_region 7 with (at_builtin; refine wpList_append_row _ rfl (.tmp 37) (.tmp 40) 25 rfl 63 ip (.agg #[.string ⟨#[]⟩, .string ⟨#[]⟩]) 2 32 Tryd.underlying25 hip hz0' hz1' hz2' rfl (New w1) _ _ 0 _ rfl RW.out x.a x.ls.length x.c (prCs x.ls) rfl SV.out (prCs_one x.ls) (by simp only [maxLen]; omega) (by omega) ?_; intro v' w2 hrow2 ho2 _; obtain ⟨A9, c9, hv9⟩ := hrow2.shape; subst hv9; have HR3 := Lib.hid hrow2; have HO3 := Lib.hid ho2; have q0 := (BA.out.only ho2 (fun h => by have h : w1.heap.size ≤ g11 := h; have := HG11.out; omega)).cell 0; have f0 := (BA.out.only ho2 (fun h => by have h : w1.heap.size ≤ g11 := h; have := HG11.out; omega)).free 0; clear hrow2 ho2)
    have hr3 := HR3.out
    rw [List.nil_append, Nat.zero_add] at hr3
    have hr4 : Row w2 (New w1) 63 2 (.slice A9 x.ls.length c9) x.ls.length (prCs x.ls) := hr3.mono (fun k hk _ => by
      rcases hk with hk | hk
      · exact hk
      · have := hk.1
        simp only [World.size_alloc] at this
        show w1.heap.size ≤ k
        omega)
    have OWN := Lib.hid (show ∀ j, OwnB A9 c9 j → w1.heap.size ≤ j ∧ j < w2.heap.size from fun j hj => by
      obtain ⟨h1, cur, h2⟩ := hr4.tight.2 j hj
      exact ⟨h1, (Array.getElem?_eq_some_iff.1 h2).1⟩)
    obtain ⟨hps, hwide⟩ := hr4.ps0 rfl HP.out.sz
    have ho12 : Only Noth w1 w2 := ((Only.refl Noth w1).alloc (.cells #[] 63)).trans HO3.out (fun j hj hl => by have hj : w1.heap.size ≤ j := hj; omega)
    obtain ⟨wt, hwt⟩ : ∃ W, w2.setCell ⟨g11, 0, none⟩ (.slice A9 (0 + x.ls.length) c9) = W := ⟨_, rfl⟩
    have O2t : Only (fun k => k = g11) w2 wt := by rw [← hwt]; exact (Only.refl (fun k => k = g11) w2).setCell (p := ⟨g11, 0, none⟩) (fun _ => rfl) _
    have hng : ∀ j, OwnB A9 c9 j → ¬ j = g11 := fun j hj e => by have := (OWN.out j hj).1; have := HG11.out; omega
    have OT := Lib.hid (show Only Noth w wt from (OA.out.tr ho12).trans O2t (fun j hj hl => by have hj : j = g11 := hj; have := HG11.out; omega))
    replace B4 := Lib.hid ((B4.out.only ho12 (fun h => h)).only O2t (fun e => by have e : w.heap.size = g11 := e; have := HG11.out; omega))
    replace B5 := Lib.hid ((B5.out.only ho12 (fun h => h)).only O2t (fun e => by have e : w.heap.size + 1 = g11 := e; have := HG11.out; omega))
    replace B6 := Lib.hid ((B6.out.only ho12 (fun h => h)).only O2t (fun e => by have e : w.heap.size + 1 + 1 = g11 := e; have := HG11.out; omega))
    replace B11 := Lib.hid (show Hld wt g11 27 #[.slice A9 x.ls.length c9, .int .i64 x.st, .int .i64 x.en] by rw [← hwt]; have := (B11.out.only ho12 (fun h => h)).set_ 0 (.slice A9 (0 + x.ls.length) c9); simpa using this)
    have PT := Lib.hid (show PsAt wt (OwnB A9 c9) A9 c9 x.ls from hps.only O2t hng)
    have WD := Lib.hid (show 1 ≤ x.ls.length → ∃ g, A9 = some ⟨g, 0, none⟩ ∧ OwnB A9 c9 g ∧ Wide wt g (x.ls.length * 2) from fun h => by
      obtain ⟨g, h1, _, h2, h3⟩ := hwide h
      exact ⟨g, h1, h2, h3.only O2t (hng g h2)⟩)
    have ZT := Lib.hid (show w1.heap.size ≤ w2.heap.size ∧ w2.heap.size ≤ wt.heap.size from ⟨ho12.size, O2t.size⟩)
    simp only [Nat.zero_add] at hwt ⊢
    rw [hwt]
    clear hr3 hr4 hps hwide ho12 O2t hwt q0 f0 n1 HR3 HO3 RW SV BA hng
    have q0 := B11.out.cell 0
    have q1 := B11.out.cell 1
    have q2 := B11.out.cell 2
    go_wp2_with fail
    refine (aput_run g b L x.ls x.st x.en A9 c9 (OwnB A9 c9) wt (HS.out.noth OT.out) PT.out (TB.out.noth OT.out)).mono ?_
    rintro e w4 ⟨rfl, ⟨L', hL', hno, hyes⟩, ho4⟩
    obtain ⟨er, her⟩ : ∃ er, aerr L x.ls x.st x.en = er := ⟨_, rfl⟩
    have HER := Lib.hid her
    rw [her]
    have HL' := Lib.hid hL'
    have HNO := Lib.hid hno
    have HYES := Lib.hid hyes
    have O4 := Lib.hid ho4
    have hbw := GB.out.2
    replace B4 := Lib.hid (B4.out.only ho4 (fun e => by have e : w.heap.size = b := e; omega))
    replace B5 := Lib.hid (B5.out.only ho4 (fun e => by have e : w.heap.size + 1 = b := e; omega))
    replace B6 := Lib.hid (B6.out.only ho4 (fun e => by have e : w.heap.size + 1 + 1 = b := e; omega))
    replace B11 := Lib.hid (B11.out.only ho4 (fun e => by have e : g11 = b := e; have := HG11.out; omega))
    have WD4 := Lib.hid (show 1 ≤ x.ls.length → ∃ g, A9 = some ⟨g, 0, none⟩ ∧ OwnB A9 c9 g ∧ Wide w4 g (x.ls.length * 2) from fun h => by
      obtain ⟨g, h1, h2, h3⟩ := WD.out h
      exact ⟨g, h1, h2, h3.only ho4 (fun e => by have e : g = b := e; have := (OWN.out g h2).1; omega)⟩)
    clear her hL' hno hyes ho4 q0 q1 q2 hbw WD PT
    go_wp2_with fail
    go_loopw [13] (fun i W => ∃ k : Nat, k ≤ x.ls.length ∧ i = .int .i64 (k : Int) ∧ Only (OwnB A9 c9) w4 W ∧ (1 ≤ x.ls.length → ∃ g, A9 = some ⟨g, 0, none⟩ ∧ OwnB A9 c9 g ∧ Wide W g (x.ls.length * 2))) (fun i _ => x.ls.length - (RowKit.intOf i).toNat)
    case atStart => exact ⟨0, Nat.zero_le _, rfl, Only.refl _ _, WD4.out⟩
    case round =>
      obtain ⟨k, hk, rfl, ho, hwd⟩ := hrel
      have O5 := Lib.hid ho
      have WK := Lib.hid hwd
      have hk0 : (0 : Int) ≤ k := by omega
      have hng : ∀ j, OwnB A9 c9 j → w.heap.size + 3 < j := fun j hj => by have := (OWN.out j hj).1; omega
      have BX := Lib.hid (B11.out.only ho (fun h => by have := hng _ h; have := HG11.out; omega))
      have q0 := BX.out.cell 0
      have hln0 : (0 : Int) ≤ x.ls.length := by omega
      have hlnm : (x.ls.length : Int) ≤ 12 := by omega
      clear ho hwd
      by_cases hlt : k < x.ls.length
      · obtain ⟨g9, hA9, hO9, hW9⟩ := WK.out (by omega)
        have hk1 : (k : Int) < x.ls.length := by omega
        obtain ⟨⟨v9, hv9⟩, hf9⟩ := hW9.at (k := k * 2 + 1) (by omega)
        have HW9 := Lib.hid hW9
        have HO9 := Lib.hid hO9
        subst hA9
        clear hW9 hO9 hng
        go_wp2_with fail
        go_roundw
        case rel => exact ⟨k + 1, by omega, by go_num, O5.out.setCell (p := ⟨g9, k * 2 + 1, none⟩) (fun _ => HO9.out) _, fun _ => ⟨g9, rfl, HO9.out, HW9.out.set g9 (k * 2 + 1) _⟩⟩
        case measure => simp [RowKit.intOf]; omega
      · obtain rfl : k = x.ls.length := by omega
        have B4r := Lib.hid (B4.out.only O5.out (fun h => by have := hng _ h; omega))
        have B5r := Lib.hid (B5.out.only O5.out (fun h => by have := hng _ h; omega))
        have B6r := Lib.hid (B6.out.only O5.out (fun h => by have := hng _ h; omega))
        have RFr := Lib.hid (show RfAt wr (fun k => S k ∧ k < w.heap.size) A c N from ((HR.out.noth OT.out).only O4.out (fun k hk e => by have e : k = b := e; subst e; exact NSB.out.1 hk.1)).only O5.out (fun k hk h => by have := hng _ h; have := hk.2; omega))
        have PSr := Lib.hid (show PsAt wr (fun k => S2 k ∧ k < w.heap.size) x.a x.c x.ls from (((HP.out.mono (T := fun k => S2 k ∧ k < w.heap.size) (fun k hk hl => ⟨hk, hl⟩)).noth OT.out).only O4.out (fun k hk e => by have e : k = b := e; subst e; exact NSB.out.2 hk.1)).only O5.out (fun k hk h => by have := hng _ h; have := hk.2; omega))
        have m4 := B4r.out.cell 0
        have k1 := B5r.out.cell 1
        have k2 := B5r.out.cell 2
        have k3 := B5r.out.cell 3
        clear hng
        go_wp2_with fail
        refine (rput_run A c N x.ls x.st x.en x.a x.c _ _ wr RFr.out PSr.out).mono ?_
        rintro e w6 ⟨⟨A2, c2, N2, rfl, hrf, hno2, hyes2⟩, ho6⟩
        rw [← TW.out.err, HER.out]
        rw [← TW.out.err, HER.out] at hno2 hyes2
        have RF6 := Lib.hid hrf
        have HNO2 := Lib.hid hno2
        have HYES2 := Lib.hid hyes2
        have O6 := Lib.hid ho6
        have B66 := Lib.hid (B6r.out.only ho6 (fun h => h))
        have z6 := B66.out.lt
        clear hrf hno2 hyes2 ho6 m4 k1 k2 k3 q0
        go_wp2_with (first | (refine wpList_store_whole rfl rfl 40 (.tmp 14) (.tmp 63) rfl w6.heap.size rfl #[.slice A2 N2.length c2] rfl 40 _ (Hld.new w6 _ _) rfl (by simp [Value.oneCell']) (by kernel_rfl) ?_; intro w8 gb ho8 hz8; have y9 := gb.cell 0; have O8 := Lib.hid (show Only Noth w6 w8 from ((Only.refl Noth w6).alloc _).trans ho8 (fun j hj hl => by have hj : j = w6.heap.size := hj; omega)); clear gb ho8 hz8) | (refine wpList_store_whole rfl rfl 40 (.tmp 6) (.tmp 65) rfl (w.heap.size + 1 + 1) rfl #[.slice A2 N2.length c2] rfl 40 _ (B66.out.only O8.out (fun h => h)) rfl (by simp [Value.oneCell']) (by kernel_rfl) ?_; intro w9 hb9 ho9 _; have y0 := hb9.cell 0; have O9 := Lib.hid ho9; clear hb9 ho9))
        refine bodyPost_ret (v := .tuple #[.agg #[.slice A2 N2.length c2], .bool true]) (by simp [results, Tryd.results16, go_sem, y0]) rfl ?_
        have hng : ∀ j, OwnB A9 c9 j → w.heap.size + 3 < j ∧ j < wt.heap.size := fun j hj => by have h1 := OWN.out j hj; have := ZT.out; omega
        have ho69 : Only (fun k => k = w.heap.size + 1 + 1) w6 w9 := (O8.out.mono (fun j hj _ => hj.elim)).trans O9.out (fun j hj _ => hj)
        have ho49 : Only (fun k => OwnB A9 c9 k ∨ k = w.heap.size + 1 + 1) w4 w9 := ((O5.out.mono (fun j hj _ => .inl hj)).trans O6.out (fun j hj _ => hj.elim)).trans ho69 (fun j hj _ => .inr hj)
        have hzr := O5.out.size
        have hz4 := O4.out.size
        have hzt := ZT.out
        refine ⟨⟨L', A2, c2, N2, rfl, HL'.out.only ho49 (fun k hk => ?_), (RF6.out.only ho69 (fun k hk e => ?_)).mono (fun k hk _ => ?_), ?_⟩, ((OT.out.mono (fun j hj _ => hj.elim)).trans O4.out (fun j hj _ => hj)).trans ho49 (fun j hj hl => ?_)⟩
        · have hkk : w.heap.size ≤ k ∧ k < wt.heap.size := by
            rcases hk with hk | hk
            · have := hng k hk; omega
            · have hk : k = w.heap.size + 1 + 1 := hk; omega
          refine ⟨by have := GB.out.1; omega, by have := GB.out.2; omega, fun e he => ?_⟩
          by_cases h0 : er = 0
          · obtain ⟨blk, cap, hL2, hbk⟩ := HYES.out (HER.out.trans h0)
            rw [hL2] at he
            rcases cput_mem.1 he with rfl | ⟨he, _⟩
            · show k ≠ blk
              omega
            · have := HS.out.blk e he; omega
          · rw [HNO.out (by rw [HER.out]; exact h0)] at he
            have := HS.out.blk e he; omega
        · have e : k = w.heap.size + 1 + 1 := e
          rcases hk with hk | hk
          · have := hk.2; omega
          · omega
        · rcases hk with hk | hk
          · exact .inl hk.1
          · exact .inr (by omega)
        · by_cases h0 : er = 0
          · obtain ⟨blk, cap, hL2, hbk⟩ := HYES.out (HER.out.trans h0)
            obtain ⟨blk2, cap2, hN2⟩ := HYES2.out h0
            rw [hL2, hN2, ← TW.out.ast]
            exact Tw.put (e := ⟨⟨(lkey x.ls).toArray⟩, x.ls, blk, cap, ast L x.ls x.st x.en, x.en⟩) (f := ⟨⟨(lkey x.ls).toArray⟩, x.ls, blk2, cap2, ast L x.ls x.st x.en, x.en⟩) ⟨rfl, rfl⟩ TW.out
          · rw [HNO.out (by rw [HER.out]; exact h0), HNO2.out h0]
            exact TW.out
        · rcases hj with hj | hj
          · have := hng j hj; omega
          · have hj : j = w.heap.size + 1 + 1 := hj; omega
end Go.Proofs.YtokgignmdgejoaaDoor
