/- The walk of ChunkSplits. -/
import Derived.Test.YtemeglofblnnmaaJnY
namespace Go.Proofs.Ytemeglofblnnmaa
open Go.RowKit Go.Lib
set_option linter.unusedVariables false
set_option linter.unusedSimpArgs false
set_option maxRecDepth 100000
attribute [local go_sem ↓] Go.wp_at_zero Go.wp_at_succ

/-- Since w the bytes of a row have been turned, no other thing. -/
def Bump (w : World) (G : Nat → Prop) (A : Option Addr) (n : Nat) (wx : World) : Prop :=
  Only G w wx ∧ (0 < n → ∃ g cur, A = some ⟨g, 0, none⟩ ∧ G g ∧ Hld wx g 5 cur ∧ ∀ j, j < n → ∃ z : Int, cur[j]? = some (.int .u8 z))
theorem bump_start {w : World} {G : Nat → Prop} {A : Option Addr} {n c : Nat} {l : List UInt8} (h : OwnB w G (.slice A n c) l) (hl : l.length = n) : Bump w G A n w := by
  subst hl
  refine ⟨Only.refl _ _, fun hn => ?_⟩
  obtain ⟨⟨_, A', cap, hv, h1, h2, h3⟩, _⟩ := h
  injection hv with e1 e2 e3
  subst e1
  subst e3
  rcases h3 with h3 | ⟨g, cur, hA, hF, hg, hc, ht⟩
  · omega
  · refine ⟨g, cur, hA, hF, hg, fun j hj => ?_⟩
    have h5 : (byteCs l)[j]? = some (.int .u8 (l[j]'hj).toNat) := by simp [byteCs, hj]
    rw [← ht, List.getElem?_take, if_pos (by omega)] at h5
    exact ⟨_, by simpa using h5⟩
theorem Bump.at_ {w wx : World} {G : Nat → Prop} {A : Option Addr} {n : Nat} (h : Bump w G A n wx) {k : Nat} (hk : k < n) :
    ∃ g z, A = some ⟨g, 0, none⟩ ∧ G g ∧ wx.cell? ⟨g, k, none⟩ = some (.int .u8 z) ∧ wx.frozen? ⟨g, k, none⟩ = false ∧ ∀ u, Bump w G A n (wx.setCell ⟨g, k, none⟩ (.int .u8 u)) := by
  obtain ⟨g, cur, hA, hG, hg, hc⟩ := h.2 (by omega)
  obtain ⟨z, hz⟩ := hc k hk
  refine ⟨g, z, hA, hG, (hg.cell k).trans hz, hg.free k, fun u => ⟨h.1.setCell (fun _ => hG) _, fun _ => ⟨g, _, hA, hG, hg.set_ k _, fun j hj => ?_⟩⟩⟩
  rw [Array.getElem?_setIfInBounds]
  split
  · rename_i e
    subst e
    rw [if_pos (by have := (Array.getElem?_eq_some_iff.1 hz).1; omega)]
    exact ⟨u, rfl⟩
  · exact hc j hj
/-- The parts of both, side by side: the i-th one of the program's, its bytes in blocks D i; the reference's in blocks of Sb. -/
structure Both (D : Nat → Nat → Prop) (Sb : Nat → Prop) (A B : Option Addr) (W : World) (i : Nat) : Prop where
  it : ∃ (g h : Nat) (id idx cnt : Int) (C E : Option Addr) (c e : Nat) (l : List UInt8), A = some ⟨g, 0, none⟩ ∧ B = some ⟨h, 0, none⟩ ∧ (∀ j, ¬ D j g) ∧ (∀ j, ¬ D j h) ∧
    (W.cell? ⟨g, i * 4, none⟩ = some (.int .i64 id) ∧ W.cell? ⟨g, i * 4 + 1, none⟩ = some (.int .i64 idx) ∧ W.cell? ⟨g, i * 4 + 2, none⟩ = some (.int .i64 cnt) ∧ W.cell? ⟨g, i * 4 + 3, none⟩ = some (.slice C l.length c)) ∧
    (W.cell? ⟨h, i * 4, none⟩ = some (.int .i64 id) ∧ W.cell? ⟨h, i * 4 + 1, none⟩ = some (.int .i64 idx) ∧ W.cell? ⟨h, i * 4 + 2, none⟩ = some (.int .i64 cnt) ∧ W.cell? ⟨h, i * 4 + 3, none⟩ = some (.slice E l.length e)) ∧
    OwnB W (D i) (.slice C l.length c) l ∧ BsAt W Sb (.slice E l.length e) l ∧ g < W.heap.size ∧ h < W.heap.size
theorem cell_only {F : Nat → Prop} {w w' : World} (ho : Only F w w') {g k : Nat} {v : Value} (hg : g < w.heap.size) (hF : ¬ F g) (h : w.cell? ⟨g, k, none⟩ = some v) : w'.cell? ⟨g, k, none⟩ = some v := (ho.cell (p := ⟨g, k, none⟩) hg hF).trans h
theorem Both.only {D : Nat → Nat → Prop} {Sb : Nat → Prop} {A B : Option Addr} {W W' : World} {i : Nat} (h : Both D Sb A B W i) (ho : Only (fun x => ∃ j, j < i ∧ D j x) W W') (hDD : ∀ i j x, D i x → D j x → i = j) (hDS : ∀ j x, D j x → ¬ Sb x) : Both D Sb A B W' i := by
  obtain ⟨g, h, id, idx, cnt, C, E, c, e, l, hA, hB, hg, hh, ⟨a0, a1, a2, a3⟩, ⟨b0, b1, b2, b3⟩, hc, he, lg, lh⟩ := h.it
  have ng : ¬ ∃ j, j < i ∧ D j g := fun ⟨j, _, hj⟩ => hg j hj
  have nh : ¬ ∃ j, j < i ∧ D j h := fun ⟨j, _, hj⟩ => hh j hj
  exact ⟨⟨g, h, id, idx, cnt, C, E, c, e, l, hA, hB, hg, hh, ⟨cell_only ho lg ng a0, cell_only ho lg ng a1, cell_only ho lg ng a2, cell_only ho lg ng a3⟩, ⟨cell_only ho lh nh b0, cell_only ho lh nh b1, cell_only ho lh nh b2, cell_only ho lh nh b3⟩,
    hc.only ho (fun x hx ⟨j, hj, hd⟩ => by have := hDD i j x hx hd; omega), he.only ho (fun x hx ⟨j, _, hd⟩ => hDS j x hd hx), Nat.lt_of_lt_of_le lg ho.size, Nat.lt_of_lt_of_le lh ho.size⟩⟩
/-- The reference's parts alone, in a world. -/
structure Half (Sb : Nat → Prop) (B : Option Addr) (L : List Pt) (W : World) : Prop where
  it : ∀ i p, L[i]? = some p → ∃ (h : Nat) (E : Option Addr) (e : Nat), B = some ⟨h, 0, none⟩ ∧ h < W.heap.size ∧ (W.cell? ⟨h, i * 4, none⟩ = some (.int .i64 p.id) ∧ W.cell? ⟨h, i * 4 + 1, none⟩ = some (.int .i64 p.idx) ∧ W.cell? ⟨h, i * 4 + 2, none⟩ = some (.int .i64 p.cnt) ∧ W.cell? ⟨h, i * 4 + 3, none⟩ = some (.slice E p.bs.length e)) ∧ BsAt W Sb (.slice E p.bs.length e) p.bs
theorem ref_half {w w' : World} {Sb : Nat → Prop} {L : List Pt} {er : Int} {e : Ending} (h : RefAns w Sb L er e w') : ∃ B c, e = .returned (.tuple #[.slice B L.length c, .int .i64 er]) ∧ Half Sb B L w' ∧ (∀ k, B = some ⟨k, 0, none⟩ → 0 < L.length → w.heap.size ≤ k) := by
  obtain ⟨B, c, he, h⟩ := h
  refine ⟨B, c, he, ⟨fun i p hp => ?_⟩, fun k hk hl => ?_⟩
  · obtain ⟨g, cur, hB, hg, hc, h⟩ := h (by have := (List.getElem?_eq_some_iff.1 hp).1; omega)
    obtain ⟨v, b0, b1, b2, b3, hb⟩ := h i p hp
    obtain ⟨E, e, rfl, _⟩ := hb
    exact ⟨g, E, e, hB, hc.lt, ⟨(hc.cell _).trans b0, (hc.cell _).trans b1, (hc.cell _).trans b2, (hc.cell _).trans b3⟩, ⟨E, e, rfl, by assumption⟩⟩
  · obtain ⟨g, cur, hB, hg, _⟩ := h hl
    rw [hB] at hk
    injection hk with hk
    injection hk with hk
    omega
theorem Half.only {Sb F : Nat → Prop} {B : Option Addr} {L : List Pt} {W W' : World} (h : Half Sb B L W) (ho : Only F W W') (hB : ∀ k, B = some ⟨k, 0, none⟩ → 0 < L.length → ¬ F k) (hS : ∀ k, Sb k → ¬ F k) : Half Sb B L W' := by
  refine ⟨fun i p hp => ?_⟩
  obtain ⟨g, E, e, h1, h2, ⟨b0, b1, b2, b3⟩, hb⟩ := h.it i p hp
  have ng := hB g h1 (by have := (List.getElem?_eq_some_iff.1 hp).1; omega)
  exact ⟨g, E, e, h1, Nat.lt_of_lt_of_le h2 ho.size, ⟨cell_only ho h2 ng b0, cell_only ho h2 ng b1, cell_only ho h2 ng b2, cell_only ho h2 ng b3⟩, hb.only ho hS⟩
theorem two_parts {w w2 w3 : World} {Sb : Nat → Prop} {L : List Pt} {er : Int} {e : Ending} (h : SplitAns w L er e w2) (h23 : Only Noth w2 w3) {B : Option Addr} (hb : Half Sb B L w3) (hB : ∀ k, B = some ⟨k, 0, none⟩ → 0 < L.length → w2.heap.size ≤ k) :
    ∃ A c, e = .returned (.tuple #[.slice A L.length c, .int .i64 er]) ∧ ∃ D : Nat → Nat → Prop, (∀ i x, D i x → w.heap.size ≤ x ∧ x < w2.heap.size) ∧ (∀ i j x, D i x → D j x → i = j) ∧ ∀ i, i < L.length → Both D Sb A B w3 i := by
  obtain ⟨A, c, he, h⟩ := h
  by_cases hl : 0 < L.length
  · obtain ⟨g, cur, D, hA, hg, hcur, _, hD, hDD, hp⟩ := h hl
    refine ⟨A, c, he, D, fun i x hx => ⟨(hD i x hx).1, (hD i x hx).2.1⟩, hDD, fun i hi => ?_⟩
    obtain ⟨p, hpi⟩ : ∃ p, L[i]? = some p := ⟨_, List.getElem?_eq_getElem hi⟩
    obtain ⟨v, a0, a1, a2, a3, ov⟩ := hp i p hpi
    obtain ⟨k, E, e, hk, lk, bb, hbs⟩ := hb.it i p hpi
    obtain ⟨C, cc, rfl⟩ := ov.1.shape
    have hc3 := hcur.only h23 (fun h => h)
    exact ⟨⟨g, k, p.id, p.idx, p.cnt, C, E, cc, e, p.bs, hA, hk, fun j hj => (hD j g hj).2.2 rfl, fun j hj => by have := (hD j k hj).2.1; have := hB k hk hl; omega,
      ⟨(hc3.cell _).trans a0, (hc3.cell _).trans a1, (hc3.cell _).trans a2, (hc3.cell _).trans a3⟩, bb, ov.noth h23, hbs, hc3.lt, lk⟩⟩
  · exact ⟨A, c, he, fun _ _ => False, fun _ _ h => h.elim, fun _ _ _ h => h.elim, fun i hi => absurd hi (by omega)⟩
set_option maxHeartbeats 8000000 in
theorem splits_run (id : Int) (A0 : Option Addr) (c0 : Nat) (Sb : Nat → Prop) (b : List UInt8) (room : Int) (hr0 : -9223372036854775808 ≤ room) (hr1 : room ≤ 9223372036854775807) (w : World) (h : BsAt w Sb (.slice A0 b.length c0) b) (hSb : ∀ k, Sb k → k < w.heap.size) :
    Calls Try.prog 3 #[.int .i64 id, .slice A0 b.length c0, .int .i64 room] w fun e w' => e = .returned (.bool true) ∧ Only Noth w w' := by
  have HB := Lib.hid h
  have HSb := Lib.hid hSb
  have hbl0 : (b.length : Int) ≤ 9223372036854775807 := by obtain ⟨_, _, _, _, h1, h2⟩ := h; unfold maxLen at h2; omega
  have hb0 : (0 : Int) ≤ b.length := by omega
  clear h hSb
  go_enter Try.func3, Try.ntmps3
  by_cases hlong : (20000 : Int) < b.length
  · go_wp2_with fail
    refine (awake_run _).mono ?_
    rintro e w2 ⟨rfl, ho⟩
    have O2 := Lib.hid ho
    clear ho
    go_wp2
    go_ret
    exact ⟨rfl, O2.out⟩
  have hbl : b.length ≤ 20000 := by omega
  go_wp2_with fail
  refine (split_run id A0 c0 Sb b room hr0 hr1 _ HB.out HSb.out).mono ?_
  rintro e w2 ⟨hsp, ho⟩
  have HSP := Lib.hid hsp
  have O2 := Lib.hid ho
  have HRS := Lib.hid (rsplit_run id A0 c0 Sb b room hr0 hr1 w2 (HB.out.noth ho) (fun k hk => by have := HSb.out k hk; have := ho.size; omega) (by omega))
  obtain ⟨A, c, he, _⟩ := hsp
  subst he
  obtain ⟨L, hL⟩ : ∃ L, (splitD id b room).1 = L := ⟨_, rfl⟩
  obtain ⟨er, her⟩ : ∃ er, (splitD id b room).2 = er := ⟨_, rfl⟩
  rw [hL, her] at HSP HRS ⊢
  have HLE := Lib.hid (And.intro hL her)
  clear hL her ho
  go_wp2_with fail
  refine HRS.out.mono ?_
  rintro e w3 ⟨hra, ho⟩
  obtain ⟨B, d, rfl, hhalf, hBlo⟩ := ref_half hra
  obtain ⟨A', c', he, D, hD, hDD, hboth⟩ := two_parts HSP.out ho hhalf hBlo
  injection he with he
  injection he with he
  have he1 : Value.slice A L.length c = .slice A' L.length c' := by simpa using he
  injection he1 with e1 _ e3
  subst e1 e3
  have O3 := Lib.hid (O2.out.tr ho)
  have HD := Lib.hid hD
  have HDD := Lib.hid hDD
  have HBO := Lib.hid hboth
  have HBL := Lib.hid hBlo
  have HH := Lib.hid hhalf
  have HZ2 := Lib.hid ho.size
  have HDS := Lib.hid (show ∀ j x, D j x → ¬ Sb x from fun j x hx hs => by have := (hD j x hx).1; have := HSb.out x hs; omega)
  clear hra he hD hDD hboth hBlo hhalf ho HSP HRS
  obtain ⟨n, hn⟩ : ∃ n, L.length = n := ⟨_, rfl⟩
  rw [hn] at HBL HBO ⊢
  have HN := Lib.hid hn
  have hn64 : n ≤ 64 := by
    have hh : (splitD id b room).1.length ≤ 64 := by
      unfold splitD
      split
      · simp
      · split
        · simp
        · rename_i g1 g2
          rw [parts_len]
          exact nPt_le (by omega) (by omega) (by omega)
    rw [HLE.out.1, hn] at hh
    exact hh
  have hn0 : (0 : Int) ≤ n := by omega
  clear hn
  go_wp2_with fail
  go_loopw [11] (fun i W => ∃ k : Nat, k ≤ n ∧ i = .int .i64 (k : Int) ∧ Only (fun x => ∃ j, j < k ∧ D j x) w3 W) (fun i _ => n - (RowKit.intOf i).toNat)
  case atStart => exact ⟨0, Nat.zero_le _, rfl, Only.refl _ _⟩
  case round =>
    obtain ⟨k, hk, rfl, ho⟩ := hrel
    have OK := Lib.hid ho
    have hk0 : (0 : Int) ≤ k := by omega
    clear ho
    by_cases hkn : k < n
    · have hk1 : (k : Int) < n := by omega
      obtain ⟨g, h, id', idx, cnt, C, E, cc, ee, l, hA, hB, hg, hh, ⟨a0, a1, a2, a3⟩, ⟨b0, b1, b2, b3⟩, hc, he, lg, lh⟩ := ((HBO.out k hkn).only OK.out HDD.out HDS.out).it
      subst hA hB
      have HC := Lib.hid hc
      have HE := Lib.hid he
      have HG := Lib.hid hg
      have HLG := Lib.hid lg
      have A3 := Lib.hid a3
      clear hg hh hc he lg lh
      go_wp2_with fail
      refine region_tail 8 (by kernel_rfl) (by kernel_rfl) ?_
      simp only [List.take_succ_cons, List.take_zero, List.drop_succ_cons, List.drop_zero]
      repeat still_step
      refine wpStill_nil ?_
      clear a0 a1 a2 b0 b1 b2 b3
      go_wp2_with fail
      refine (same_run id' idx cnt l C E _ cc _ ee (D k) Sb _ (HC.out.bs.noth ((Only.refl Noth wr).drew)) (HE.out.noth ((Only.refl Noth wr).drew))).mono ?_
      rintro e w5 ⟨rfl, ho⟩
      have O5 := Lib.hid (((Only.refl Noth wr).drew).tr ho)
      clear ho
      go_wp2_with fail
      have BS := Lib.hid (bump_start (HC.out.noth O5.out) rfl)
      have A5 := Lib.hid (cell_only O5.out HLG.out (fun h => h) A3.out)
      have LG5 := Lib.hid (show g < w5.heap.size from Nat.lt_of_lt_of_le HLG.out O5.out.size)
      obtain ⟨m, hm⟩ : ∃ m, l.length = m := ⟨_, rfl⟩
      rw [hm] at A5 BS
      have hm0 : (0 : Int) ≤ m := by omega
      have hmb : m ≤ 1000000 := by rw [← hm]; exact HC.out.2
      clear a3 hm
      go_loopw [12] (fun i W => ∃ j : Nat, j ≤ m ∧ i = .int .i64 (j : Int) ∧ Hid (Bump w5 (D k) C m W)) (fun i _ => m - (RowKit.intOf i).toNat)
      case atStart => exact ⟨0, Nat.zero_le _, rfl, BS⟩
      case round =>
        obtain ⟨j, hj, rfl, BK⟩ := hrel
        have hj0 : (0 : Int) ≤ j := by omega
        have q3 : wr.cell? ⟨g, k * 4 + 3, none⟩ = some (.slice C m cc) := cell_only BK.out.1 LG5.out (HG.out k) A5.out
        by_cases hjm : j < m
        · have hj1 : (j : Int) < m := by omega
          obtain ⟨g1, z, hA, hDg, e1, e2, e3⟩ := BK.out.at_ hjm
          subst hA
          have E3 := Lib.hid e3
          clear e3 hDg
          go_wp2_with fail
          go_roundw
          case rel => exact ⟨j + 1, by omega, by go_num, Lib.hid (E3.out _)⟩
          case measure => simp [RowKit.intOf]; omega
        · obtain rfl : j = m := by omega
          go_wp2_with fail
          go_roundw
          case rel => exact ⟨k + 1, by omega, by go_num, (OK.out.mono (fun x ⟨j, hj, hx⟩ _ => ⟨j, by omega, hx⟩)).trans ((O5.out.mono (fun _ h _ => h.elim)).trans BK.out.1 (fun x hx _ => ⟨k, by omega, hx⟩)) (fun x hx _ => hx)⟩
          case measure => simp [RowKit.intOf]; omega
    · obtain rfl : k = n := by omega
      have hSD : ∀ x, Sb x → ¬ ∃ j, j < k ∧ D j x := fun x hx ⟨j, _, hd⟩ => HDS.out j x hd hx
      have HB4 := Lib.hid ((HB.out.noth O3.out).only OK.out hSD)
      have HM := Lib.hid (HH.out.only OK.out (fun x hx hl ⟨j, _, hd⟩ => by have h1 := HBL.out x hx (by rw [HN.out] at hl; exact hl); have := (HD.out j x hd).2; omega) hSD)
      have OW := Lib.hid (show Only Noth w wr from O3.out.trans OK.out (fun x hx hl => by obtain ⟨j, _, hd⟩ := hx; have := (HD.out j x hd).1; omega))
      clear hSD OK
      go_wp2_with fail
      refine (rsplit_run id A0 c0 Sb b room hr0 hr1 wr HB4.out (fun x hx => by have := HSb.out x hx; have := OW.out.size; omega) (by omega)).mono ?_
      rintro e w7 ⟨hra, ho⟩
      rw [HLE.out.1, HLE.out.2] at hra
      obtain ⟨B2, d2, rfl, hhalf, _⟩ := ref_half hra
      have H1 := Lib.hid (HM.out.only ho (fun _ _ _ h => h) (fun _ _ h => h))
      have H2 := Lib.hid hhalf
      have O7 := Lib.hid (OW.out.tr ho)
      clear hra hhalf ho HB4 HM HBO HH HBL HD HDD HDS
      rw [HN.out]
      go_wp2_with fail
      go_loopw [15] (fun i W => ∃ m : Nat, m ≤ k ∧ i = .int .i64 (m : Int) ∧ Only Noth w7 W) (fun i _ => k - (RowKit.intOf i).toNat)
      case atStart => exact ⟨0, Nat.zero_le _, rfl, Only.refl _ _⟩
      case round =>
        obtain ⟨m, hm, rfl, ho⟩ := hrel
        have OK := Lib.hid ho
        have hm0 : (0 : Int) ≤ m := by omega
        clear ho
        by_cases hmk : m < k
        · have hm1 : (m : Int) < k := by omega
          obtain ⟨p, hp⟩ : ∃ p, L[m]? = some p := ⟨_, List.getElem?_eq_getElem (by rw [HN.out]; exact hmk)⟩
          obtain ⟨h, E, ee, hA, lh, ⟨a0, a1, a2, a3⟩, he⟩ := (H1.out.only OK.out (fun _ _ _ h => h) (fun _ _ h => h)).it m p hp
          obtain ⟨h2, E2, ee2, hA2, lh2, ⟨b0, b1, b2, b3⟩, he2⟩ := (H2.out.only OK.out (fun _ _ _ h => h) (fun _ _ h => h)).it m p hp
          subst hA hA2
          have HE := Lib.hid he
          have HE2 := Lib.hid he2
          clear hp he he2 lh lh2
          go_wp2_with fail
          refine region_tail 8 (by kernel_rfl) (by kernel_rfl) ?_
          simp only [List.take_succ_cons, List.take_zero, List.drop_succ_cons, List.drop_zero]
          repeat still_step
          refine wpStill_nil ?_
          clear a0 a1 a2 a3 b0 b1 b2 b3
          go_wp2_with fail
          refine (same_run p.id p.idx p.cnt p.bs E2 E _ ee2 _ ee Sb Sb _ (HE2.out.noth ((Only.refl Noth wr).drew)) (HE.out.noth ((Only.refl Noth wr).drew))).mono ?_
          rintro e w8 ⟨rfl, ho⟩
          have O8 := Lib.hid (OK.out.tr (((Only.refl Noth wr).drew).tr ho))
          clear ho
          go_wp2_with fail
          go_roundw
          case rel => exact ⟨m + 1, by omega, by go_num, O8.out⟩
          case measure => simp [RowKit.intOf]; omega
        · obtain rfl : m = k := by omega
          go_wp2_with fail
          refine (awake_run _).mono ?_
          rintro e w9 ⟨rfl, ho⟩
          have O9 := Lib.hid ((O7.out.tr OK.out).tr ho)
          clear ho
          go_wp2
          go_ret
          exact ⟨rfl, O9.out⟩
end Go.Proofs.Ytemeglofblnnmaa
