/- Layer 31: the parts of a text, laid and read, in any order, come to the text. -/
import Derived.Test.YtemeglofblnnmaaDoorCkQ
import Derived.Test.YtemeglofblnnmaaDoorCkB
namespace Go.Proofs.YtemeglofblnnmaaDoor
open Go.RowKit Go.Lib
set_option linter.unusedVariables false
set_option linter.unusedSimpArgs false
set_option maxRecDepth 100000
attribute [local go_sem ↓] Go.wp_at_zero Go.wp_at_succ

theorem readD_put {p : Pt} (hm : p.may = true) : readD (ptB p) = (p, 0) := by
  obtain ⟨p', r5, hR, hD⟩ := reading (ptB p)
  obtain ⟨e, hr⟩ := hR.back hm rfl
  subst e
  rw [hD, hr]
  simp [hm]
theorem boolinfo : (Tryd.prog.info? 4).map (fun i => (i.zero, i.size, i.bytes)) = some (some (.bool false), 1, 1) := by kernel_rfl
theorem made_bools (n : Nat) : madeCells #[Value.bool false] (n * 1) = boolCs (List.replicate n none) := by
  rw [boolCs_none]
  apply Array.ext
  · simp [madeCells]
  · intro i h1 h2
    simp [madeCells, Nat.mod_one]
theorem make_bools (n : Nat) (hn : n ≤ 1000) (w : World) : (Instr.makeSlice 43 (.int .i64 n) (.int .i64 n)).run Tryd.prog w = .ok (.slice (some ⟨w.heap.size, 0, none⟩) n n) (w.alloc (.cells (boolCs (List.replicate n none)) 4)) := by
  obtain ⟨i0, hi, hz0, hz1, hz2⟩ := info_parts boolinfo
  have := run_makeSlice (P := Tryd.prog) w 43 4 i0 (.bool false) Tryd.underlying43 hi hz0 .i64 .i64 n n (by omega) (by omega) (by rw [hz1]; simp; omega) (by rw [hz2]; omega) (by omega)
  simp only [Int.toNat_natCast, hz1] at this
  rw [this, show (Value.bool false).cells = #[Value.bool false] from rfl, made_bools]
/-- The parts in memory: a row in a block, each one's bytes; all below a size. -/
structure PartsIn (w : World) (M g : Nat) (id : Int) (r : Nat) (b : List UInt8) : Prop where
  lo : g < M
  at_ : ∀ (i : Nat), i < nPt b.length r → ∃ (A : Option Addr) (c : Nat), w.cell? ⟨g, i * 4, none⟩ = some (.int .i64 id) ∧ w.cell? ⟨g, i * 4 + 1, none⟩ = some (.int .i64 i) ∧ w.cell? ⟨g, i * 4 + 2, none⟩ = some (.int .i64 ((chunksOf r b).length : Int)) ∧ w.cell? ⟨g, i * 4 + 3, none⟩ = some (.slice A (chunkOf r b i).length c) ∧ BsAt w (fun k => k < M) (.slice A (chunkOf r b i).length c) (chunkOf r b i)
theorem PartsIn.only {w w' : World} {M g r : Nat} {id : Int} {b : List UInt8} (h : PartsIn w M g id r b) (ho : Only (From M) w w') (hlt : M ≤ w.heap.size) : PartsIn w' M g id r b := by
  refine ⟨h.lo, fun i hi => ?_⟩
  obtain ⟨A, c, h0, h1, h2, h3, h4⟩ := h.at_ i hi
  have hc : ∀ k v, w.cell? ⟨g, k, none⟩ = some v → w'.cell? ⟨g, k, none⟩ = some v := fun k v hv => by
    have := ho.block g (by have := h.lo; omega) (fun e => by have e : M ≤ g := e; have := h.lo; omega)
    unfold World.cell? at hv ⊢
    rw [this]
    exact hv
  exact ⟨A, c, hc _ _ h0, hc _ _ h1, hc _ _ h2, hc _ _ h3, h4.only ho (fun k hk e => by have hk : k < M := hk; have e : M ≤ k := e; omega)⟩
theorem split_partsIn {w w2 : World} {id : Int} {r : Nat} {b : List UInt8} {e : Ending} (hr : 1 ≤ r) (h : SplitAns w (partsOf id r b) 0 e w2) : ∃ g c, e = .returned (.tuple #[.slice (some ⟨g, 0, none⟩) (nPt b.length r) c, .int .i64 0]) ∧ PartsIn w2 w2.heap.size g id r b := by
  obtain ⟨A, c, rfl, h⟩ := h
  rw [parts_len] at h ⊢
  obtain ⟨g, cur, D, rfl, hg, hcur, hcl, hD, _, hp⟩ := h (nPt_pos _ _ hr)
  refine ⟨g, c, rfl, hcur.lt, fun i hi => ?_⟩
  obtain ⟨v, x0, x1, x2, x3, bv⟩ := hp i _ (parts_at id r b hi).1
  obtain ⟨A', c', rfl, hs⟩ := bv.bs
  exact ⟨A', c', (hcur.cell _).trans x0, (hcur.cell _).trans x1, (hcur.cell _).trans x2, (hcur.cell _).trans x3, A', c', rfl, hs.1.mono (fun k hk hl => hl), hs.2⟩
theorem split_back {b : List UInt8} {x : Int} (h : b.length ≤ 3000) (h0 : 0 ≤ x) (h1 : x ≤ 255) : splitD 5 b (50 + x) = (partsOf 5 (50 + x).toNat b, 0) := by
  unfold splitD
  rw [if_neg (by omega), if_neg (by omega)]
theorem bkJ_start (n : Nat) : bkJ (List.replicate n none) = ⟨[], 0⟩ := by
  unfold bkJ
  have : (bkT (List.replicate n none)).left = n := by unfold bkT Tx.left; rw [List.countP_replicate]; rfl
  rw [this, if_neg (by simp)]
theorem tmod_nat (a b : Nat) : (a : Int).tmod (b : Int) = ((a % b : Nat) : Int) := by rw [Int.ofNat_tmod]
theorem bkT_len {P : List (Option (List UInt8))} {n : Nat} (h : P.length = n) (k : Nat) (b : List UInt8) : ((bkT P).put k b).pcs.length = n := by rw [Tx.put_len]; exact h
set_option maxHeartbeats 16000000 in
theorem back_run (b od : List UInt8) (A C : Option Addr) (c d : Nat) (x : Int) (hx : 0 ≤ x ∧ x ≤ 255) (hod : od.length ≤ 140737488351232) (w : World) (hb : BsAt w (fun k => k < w.heap.size) (.slice A b.length c) b) (ho : BsAt w (fun k => k < w.heap.size) (.slice C od.length d) od) (he : Env w) :
    Calls Tryd.prog 4 #[.slice A b.length c, .int .u8 x, .slice C od.length d] w fun e w' => e = .returned (.bool true) ∧ Only Noth w w' := by
  have HB := Lib.hid hb
  have HO := Lib.hid ho
  have E := Lib.hid he
  have hal : (b.length : Int) ≤ 9223372036854775807 := by obtain ⟨_, _, _, _, h1, h2⟩ := hb; unfold maxLen at h2; omega
  have hx1 := hx.1
  have hx2 := hx.2
  clear hb ho he hx
  by_cases h1 : (3000 : Int) < b.length
  · go_enter Tryd.func4, Tryd.ntmps4
    go_wp2_with fail
    refine (awake_run _).mono ?_
    rintro e w2 ⟨rfl, ho⟩
    go_wp2
    go_ret
    exact ⟨rfl, ho⟩
  go_enter Tryd.func4, Tryd.ntmps4
  go_wp2_with fail
  refine (split_run 5 A c _ b (50 + x) (by omega) (by omega) _ HB.out (fun k hk => hk)).mono ?_
  rintro e w2 ⟨hsp, ho⟩
  rw [split_back (by omega) (by omega) (by omega)] at hsp
  obtain ⟨r, hr⟩ : ∃ r, (50 + x).toNat = r := ⟨_, rfl⟩
  have HR := Lib.hid (show 50 ≤ r ∧ r ≤ 305 by omega)
  rw [hr] at hsp
  obtain ⟨g, cP, rfl, hpa⟩ := split_partsIn (by have := HR.out; omega) hsp
  obtain ⟨n, hn⟩ : ∃ n, nPt b.length r = n := ⟨_, rfl⟩
  have NA := Lib.hid hn
  have hn1 : 1 ≤ n := by rw [← hn]; exact nPt_pos _ _ (by have := HR.out; omega)
  have hn60 : n ≤ 60 := by rw [← hn]; exact nPt_le (by have := HR.out; omega) (by omega) (by have := HR.out; omega)
  have hni1 : (1 : Int) ≤ n := by omega
  have hni60 : (n : Int) ≤ 60 := by omega
  have CA := Lib.hid (show (chunksOf r b).length = n by rw [chunks_len, hn])
  have PA2 := Lib.hid hpa
  have O2 := Lib.hid ho
  have HX := Lib.hid (And.intro hx1 hx2)
  rw [hn]
  clear hsp ho hpa hr hn hx1 hx2
  go_wp2_with fail
  refine (new_run w2).mono ?_
  rintro e w3 ⟨rfl, hj, hlt, ho⟩
  obtain ⟨gJ, hgJ⟩ : ∃ gJ, w2.heap.size = gJ := ⟨_, rfl⟩
  have GJ := Lib.hid hgJ
  rw [hgJ] at hj hlt ⊢
  have J3 := Lib.hid hj
  have LT3 := Lib.hid hlt
  have O23 := Lib.hid ho
  have hmk := make_bools n (by omega)
  clear hj hlt ho hgJ
  obtain ⟨m, hm⟩ : ∃ m, od.length = m := ⟨_, rfl⟩
  have HM := Lib.hid hm
  rw [hm] at hod ⊢
  have hm0 : (0 : Int) ≤ m := by omega
  have hm1 : (m : Int) ≤ 140737488351232 := by omega
  have hmn : (m : Int) + n ≤ 9223372036854775807 := by omega
  clear hm
  go_wp2_with fail
  clear hmk
  obtain ⟨gC, hgC⟩ : ∃ gC, w3.heap.size = gC := ⟨_, rfl⟩
  have GC := Lib.hid (show gJ < gC by rw [← hgC]; exact LT3.out)
  obtain ⟨W4, hW4⟩ : ∃ W, w3.alloc (.cells (boolCs (List.replicate n none)) 4) = W := ⟨_, rfl⟩
  have o34 : Only Noth w3 W4 := by rw [← hW4]; exact (Only.refl Noth w3).alloc _
  have B4 := Lib.hid (show Hld W4 gC 4 (boolCs (List.replicate n none)) by rw [← hW4, ← hgC]; exact Hld.new w3 _ _)
  have HN4 : W4.heap.size = gC + 1 := by rw [← hW4, ← hgC]; simp
  have O24 := Lib.hid (O23.out.tr o34)
  have J4 := Lib.hid (show JoinAt (From (gC + 1)) (From (gC + 1)) W4 gJ ⟨[], 0⟩ from (J3.out.only o34 (fun h => h) (fun _ h _ => h) (fun _ h _ => h)).tight (fun _ h _ => h.elim) (fun _ h _ => h.elim) (fun h => by have h : gC + 1 ≤ gJ := h; have := GC.out; omega) (fun h => by have h : gC + 1 ≤ gJ := h; have := GC.out; omega))
  have N4 := Lib.hid HN4
  simp only [hgC, hW4]
  clear o34 HN4 hgC hW4
  go_loopw [11, 12, 13, 14, 15, 16, 17, 18, 19, 20] (fun lf i _ _ _ _ _ _ _ _ W => ∃ (P : List (Option (List UInt8))) (iN : Nat), lf = .int .i64 ((bkT P).left : Int) ∧ i = .int .i64 (iN : Int) ∧ BkFit (chunksOf r b) P ∧ (0 < iN → (bkT P).left < n) ∧ iN ≤ m + n ∧ JoinAt (From (gC + 1)) (From (gC + 1)) W gJ (bkJ P) ∧ Hld W gC 4 (boolCs P) ∧ Only (From gJ) w2 W ∧ gC + 1 ≤ W.heap.size) (fun _ i _ _ _ _ _ _ _ _ _ => m + n - (RowKit.intOf i).toNat)
  case atStart =>
    refine ⟨List.replicate n none, 0, ?_, rfl, ⟨by rw [List.length_replicate, CA.out], fun j y hj => ?_⟩, fun h => absurd h (by omega), by omega, by rw [bkJ_start]; exact J4.out, B4.out, O24.out.mono (fun _ h _ => h.elim), by rw [N4.out]; omega⟩
    · unfold bkT Tx.left
      rw [List.countP_replicate]
      rfl
    · rw [List.getElem?_replicate] at hj
      split at hj <;> cases hj
  case round =>
    obtain ⟨P, iN, rfl, rfl, hft, hil, him, hj, hh, ho, hnw⟩ := hrel
    have FT := Lib.hid hft
    have IL := Lib.hid hil
    have JR := Lib.hid hj
    have BR := Lib.hid hh
    have OR := Lib.hid ho
    have NR := Lib.hid hnw
    have PL := Lib.hid (show P.length = n by rw [hft.len, CA.out])
    have ORN := Lib.hid (show Only Noth w wr from O2.out.trans ho (fun j hj hl => by have hj : gJ ≤ j := hj; have h1 := GJ.out; have h2 := O2.out.size; omega))
    have hi0 : (0 : Int) ≤ iN := by omega
    have him1 : (iN : Int) ≤ m + n := by omega
    obtain ⟨lf, hlf⟩ : ∃ lf, (bkT P).left = lf := ⟨_, rfl⟩
    have LF := Lib.hid hlf
    have hlfn : lf ≤ n := by rw [← hlf, ← PL.out]; exact Tx.left_le _
    rw [hlf]
    have hlf0 : (0 : Int) ≤ lf := by omega
    have hlfi : (lf : Int) ≤ n := by omega
    clear hft hil hj hh ho hnw hlf
    by_cases hgo : (iN : Int) < (m : Int) + n ∧ (0 : Int) < lf
    · obtain ⟨hgo1, hgo2⟩ := hgo
      have hmod := tmod_nat iN n
      go_upto_if 61 with fail
      clear hmod
      go_cut [13] from 41 to 134 (fun s13 W => ∃ k : Nat, k < n ∧ s13 = .int .i64 (k : Int) ∧ W = wr)
      case first =>
        by_cases hio : (iN : Int) < m
        · obtain ⟨C0, d0, e0, hsrc, _⟩ := HO.out.noth ORN.out
          injection e0 with e1 _ e3
          subst e1 e3
          have hlt : iN < od.length := by rw [HM.out]; omega
          obtain ⟨ad, rfl, _, _, hcell⟩ := hsrc.2 (by omega)
          have d1 := hcell iN (.int .u8 od[iN].toNat) (by simp [byteCs, hlt])
          obtain ⟨z, hz⟩ : ∃ z, od[iN].toNat = z := ⟨_, rfl⟩
          have hz2 : z < 256 := by rw [← hz]; exact od[iN].toNat_lt
          rw [hz] at d1
          have hz3 : (0 : Int) ≤ z := by omega
          have hz4 : (z : Int) ≤ 255 := by omega
          have hmod := tmod_nat z n
          clear hcell hsrc hz hlt
          go_wp2_with fail
          go_meet
          case rel => exact ⟨z % n, Nat.mod_lt _ (by omega), rfl, rfl⟩
        · go_wp2_with fail
          go_meet
          case rel => exact ⟨iN % n, Nat.mod_lt _ (by omega), rfl, rfl⟩
      case rest =>
        obtain ⟨k, hk, hs13, hwc⟩ := hcut
        subst hs13 hwc
        have hki : (k : Int) < n := by omega
        have hk0 : (0 : Int) ≤ k := by omega
        have hkn : k < nPt b.length r := by rw [NA.out]; exact hk
        obtain ⟨Ak, ck, q0, q1, q2, q3, hbk⟩ := ((PA2.out.only (M := w2.heap.size) (by rw [GJ.out]; exact OR.out) (Nat.le_refl _)).at_ k hkn)
        rw [CA.out] at q2
        obtain ⟨bk, hbkd⟩ : ∃ l, chunkOf r b k = l := ⟨_, rfl⟩
        have hps := (parts_at 5 r b hkn).2
        rw [hbkd] at hps hbk q3
        have HPS := Lib.hid hps
        have HBK := Lib.hid hbk
        obtain ⟨s0, hs0⟩ : ∃ s0, wc.heap.size = s0 := ⟨_, rfl⟩
        have JT := Lib.hid (show JoinAt (fun j => gC + 1 ≤ j ∧ j < s0) (fun j => gC + 1 ≤ j ∧ j < s0) wc gJ (bkJ P) from JR.out.tight (fun j hj hl => ⟨hj, by omega⟩) (fun j hj hl => ⟨hj, by omega⟩) (fun h => by have := GC.out; omega) (fun h => by have := GC.out; omega))
        have S0 := Lib.hid hs0
        have SN := Lib.hid (show gC + 1 ≤ s0 by have := NR.out; omega)
        have hbl : bk.length ≤ 305 := by rw [← hbkd]; have := chunk_small r b k; have := HR.out; omega
        have HBL := Lib.hid hbl
        obtain ⟨p, hp⟩ : ∃ p : Pt, (⟨5, (k : Int), (n : Int), bk⟩ : Pt) = p := ⟨_, rfl⟩
        have hmay : p.may = true := by
          rw [← hp]
          exact Pt.may_iff.2 ⟨show (0 : Int) ≤ 5 by decide, show (5 : Int) ≤ 1099511627776 by decide, show (1 : Int) ≤ n by omega, show (n : Int) ≤ 64 by omega, show (0 : Int) ≤ k by omega, show (k : Int) < n by omega, show bk.length ≤ 8192 by omega⟩
        have MAY := Lib.hid hmay
        have HP := Lib.hid hp
        clear hps hbk hbl hmay hp hbkd hkn hs0
        go_wp2_with fail
        refine (by have := put_run p _ Ak ck wc (E.out.only ORN.out (fun _ h => h.elim)).tab (by rw [← HP.out]; exact HBK.out); rw [show putD p = (ptB p, 0) by unfold putD; rw [MAY.out]; rfl, ← HP.out] at this; exact this : Calls Tryd.prog 6 #[.agg #[.int .i64 5, .int .i64 k, .int .i64 n, .slice Ak bk.length ck]] wc (PutAns (ptB ⟨5, k, n, bk⟩) 0 wc)).mono ?_
        rw [HP.out]
        obtain ⟨L, hL⟩ : ∃ L, ptB p = L := ⟨_, rfl⟩
        have HL := Lib.hid hL
        rw [hL]
        rintro e w5 ⟨A5, c5, rfl, hp5, ho5⟩
        have P5 := Lib.hid hp5
        have O5 := Lib.hid ho5
        clear hp5 ho5 hL q0 q1 q2 q3
        go_wp2_with fail
        refine (by have := read_run A5 c5 L w5 P5.out (E.out.only (ORN.out.tr O5.out) (fun _ h => h.elim)); rw [← HL.out, readD_put MAY.out, HL.out, ← HP.out] at this; exact this : Calls Tryd.prog 8 #[.slice A5 L.length c5] w5 (ReadAns ⟨5, k, n, bk⟩ 0 w5)).mono ?_
        rintro e w6 ⟨A6, c6, rfl, hp6, ho6⟩
        have P6 := Lib.hid (show BsAt w6 (New w5) (.slice A6 bk.length c6) bk from hp6)
        have O6 := Lib.hid ho6
        clear hp6 ho6
        go_upto_region 17 with (refine wpList_store_whole rfl rfl 29 (.tmp 16) (.tmp 81) rfl w6.heap.size rfl _ rfl 29 _ (Hld.new w6 _ _) rfl (by simp [Value.oneCell']) (by kernel_rfl) ?_; intro w7 gb ho7 hz7; have X7 := Lib.hid gb; have O7 := Lib.hid (show Only Noth w6 w7 from ((Only.refl Noth w6).alloc _).trans ho7 (fun j hj hl => by have hj : j = w6.heap.size := hj; omega)); clear gb ho7 hz7)
        obtain ⟨g6, hg6⟩ : ∃ g6, w6.heap.size = g6 := ⟨_, rfl⟩
        have G6 := Lib.hid (show gC + 1 ≤ g6 by rw [← hg6]; have h1 := NR.out; have h2 := O5.out.size; have h3 := O6.out.size; omega)
        rw [hg6] at X7
        simp only [hg6]
        clear hg6
        have OC7 := Lib.hid ((O5.out.tr O6.out).tr O7.out)
        have BR7 := Lib.hid (BR.out.only OC7.out (fun h => h))
        obtain ⟨hs, hhs⟩ : ∃ hs, (bkT P).has k = hs := ⟨_, rfl⟩
        have b7 := (BR7.out.cell k).trans (boolCs_at (P := P) (by rw [PL.out]; exact hk))
        rw [hhs] at b7
        have HS := Lib.hid hhs
        clear hhs
        go_upto_if 93 with fail
        go_cut [11] from 41 to 134 (fun s11 W => s11 = .int .i64 (((bkT P).put k bk).left : Int) ∧ Hld W gC 4 (boolCs ((bkT P).put k bk).pcs) ∧ Only (At gC) w7 W)
        case first =>
          have hleft := bk_left (P := P) (k := k) (b := bk) (by rw [PL.out]; exact hk)
          rw [HS.out, LF.out] at hleft
          cases hs
          · simp only [Bool.false_eq_true, if_false] at hleft
            have hset := BR7.out.set_ k (.bool true)
            rw [boolCs_set (b := bk) HS.out] at hset
            have HSET := Lib.hid hset
            have f7 := BR7.out.free k
            have hl1 : (((lf - 1 : Nat)) : Int) = (lf : Int) - 1 := by omega
            have HLE := Lib.hid hleft
            clear hset hleft
            go_wp2_with fail
            go_meet
            case rel => exact ⟨by rw [HLE.out, hl1], HSET.out, (Only.refl (At gC) w7).setCell (p := ⟨gC, k, none⟩) (fun _ => rfl) _⟩
          · simp only [if_true] at hleft
            have HLE := Lib.hid hleft
            have heq : (bkT P).put k bk = bkT P := Tx.put_has HS.out
            have HEQ := Lib.hid heq
            clear hleft heq
            go_wp2_with fail
            go_meet
            case rel => exact ⟨by rw [HLE.out], by rw [HEQ.out]; exact BR7.out, Only.refl _ _⟩
        case rest =>
          obtain ⟨hs11, hB8, hO8⟩ := hcut
          obtain ⟨P', hP'⟩ : ∃ P', ((bkT P).put k bk).pcs = P' := ⟨_, rfl⟩
          obtain ⟨l2, hl2⟩ : ∃ l2, ((bkT P).put k bk).left = l2 := ⟨_, rfl⟩
          have hbt : bkT P' = (bkT P).put k bk := by rw [← hP', bkT_put]
          have LF2 := Lib.hid (show (bkT P').left = l2 by rw [hbt, hl2])
          have FT2 := Lib.hid (show BkFit (chunksOf r b) P' by rw [← hP']; exact bk_fit FT.out HPS.out)
          have LT2 := Lib.hid (show l2 < n by rw [← hl2, ← PL.out]; exact bk_lt (by rw [PL.out]; exact hk))
          have PL2 := Lib.hid (show P'.length = n by rw [← hP']; exact bkT_len PL.out k bk)
          have ADD := Lib.hid (show jadd (bkJ P) 3 ⟨5, (k : Int), (n : Int), bk⟩ = (bkJ P', if l2 = 0 then some b else none, 0) by
            have := bk_add FT.out (by rw [LF.out]; omega) HPS.out (by rw [CA.out]; omega) (by have := HBL.out; omega)
            rw [CA.out, hP', hl2, chunks_flat r b (by have := HR.out; omega)] at this
            exact this)
          have MISS := Lib.hid (show (jmiss (bkJ P') 3 5).length = l2 by rw [← LF2.out]; exact bk_miss (by rw [LF2.out, PL2.out]; exact LT2.out))
          rw [hl2] at hs11
          rw [hP'] at hB8
          subst hs11
          have hl20 : (0 : Int) ≤ l2 := by omega
          have hl2n : (l2 : Int) ≤ n := by have := LT2.out; omega
          have B8 := Lib.hid hB8
          have O8 := Lib.hid hO8
          have X8 := X7.out.only hO8 (fun e => by have e : g6 = gC := e; have := G6.out; omega)
          have x0 := X8.cell 0
          have x1 := X8.cell 1
          have x2 := X8.cell 2
          have x3 := X8.cell 3
          have J8 := Lib.hid ((JT.out.only OC7.out (fun h => h) (fun _ _ h => h) (fun _ _ h => h)).only hO8 (fun e => by have e : gJ = gC := e; have := GC.out; omega) (fun j hj e => by have e : j = gC := e; have := hj.1; omega) (fun j hj e => by have e : j = gC := e; have := hj.1; omega))
          have P8 := Lib.hid ((P6.out.noth O7.out).only hO8 (fun j hj e => by have hj : w5.heap.size ≤ j := hj; have e : j = gC := e; have h1 := O5.out.size; have h2 := S0.out; have h3 := SN.out; omega))
          have S5 := Lib.hid (show s0 ≤ w5.heap.size by rw [← S0.out]; exact O5.out.size)
          have S8 := Lib.hid (show s0 ≤ wc.heap.size by rw [← S0.out]; exact Nat.le_trans OC7.out.size hO8.size)
          have OR8 := Lib.hid ((OR.out.trans OC7.out (fun _ h _ => h.elim)).trans hO8 (fun j hj hl => by have hj : j = gC := hj; show gJ ≤ j; have := GC.out; omega))
          clear hP' hl2 hbt hB8 hO8 X8
          go_wp2_with fail
          refine (add_run _ _ (New w5) gJ (bkJ P) 3 5 k n bk (.slice A6 bk.length c6) wc J8.out (by omega) (by rw [bkJ_lost]; omega) P8.out (fun j hj => by have hj : w5.heap.size ≤ j := hj; have h1 := S5.out; have h2 := SN.out; have h3 := GC.out; exact ⟨by omega, fun h => by have := h.2; omega⟩)).mono ?_
          rintro e w9 ⟨⟨u, rfl, hu⟩, hj9, ho9⟩
          rw [ADD.out] at hu hj9 ⊢
          have J9 := Lib.hid (show JoinAt (From (gC + 1)) (From (gC + 1)) w9 gJ (bkJ P') from hj9.tight (fun j hj hl => by
            rcases hj with hj | hj
            · exact hj.1
            · have hj : wc.heap.size ≤ j := hj; have h1 := S8.out; have h2 := SN.out; show gC + 1 ≤ j; omega) (fun j hj hl => by
            rcases hj with hj | hj
            · exact hj.1
            · have hj : wc.heap.size ≤ j := hj; have h1 := S8.out; have h2 := SN.out; show gC + 1 ≤ j; omega) (fun h => by have h : gC + 1 ≤ gJ := h; have := GC.out; omega) (fun h => by have h : gC + 1 ≤ gJ := h; have := GC.out; omega))
          have B9 := Lib.hid (B8.out.only ho9 (fun e => by
            rcases e with e | e
            · have := GC.out; omega
            · have := e.1; omega))
          have OR9 := Lib.hid (OR8.out.trans ho9 (fun j hj hl => by
            show gJ ≤ j
            have := GC.out
            rcases hj with hj | hj
            · omega
            · have := hj.1; omega))
          have N9 := Lib.hid (show gC + 1 ≤ w9.heap.size by have h1 := S8.out; have h2 := SN.out; have h3 := ho9.size; omega)
          clear hj9 ho9 x0 x1 x2 x3
          by_cases hz : l2 = 0
          · subst hz
            rw [if_pos rfl] at hu ⊢
            rw [Option.getD_some] at hu
            obtain ⟨Au, cu, rfl, hu⟩ := hu
            have hcv := BsAt.conv (l := b) (show BsAt w9 _ (.slice Au b.length cu) b from ⟨Au, cu, rfl, hu⟩)
            have hcb := BsAt.conv (HB.out.noth (show Only Noth w w9 from O2.out.trans OR9.out (fun j hj hl => by have hj : gJ ≤ j := hj; have h1 := GJ.out; have h2 := O2.out.size; omega)))
            clear hu
            go_wp2_with fail
            go_roundw
            case rel => exact ⟨P', iN + 1, by rw [LF2.out]; rfl, by go_num, FT2.out, fun _ => by rw [LF2.out]; exact LT2.out, by omega, J9.out, B9.out, OR9.out, N9.out⟩
            case measure => simp [RowKit.intOf]; omega
          · have hz1 : ¬ (l2 : Int) = 0 := by omega
            rw [if_neg hz] at hu ⊢
            rw [Option.getD_none] at hu
            obtain ⟨Au, cu, rfl, hu⟩ := hu
            clear hu
            go_wp2_with fail
            refine (missing_run _ _ gJ (bkJ P') 3 5 w9 J9.out).mono ?_
            rintro e w10 ⟨⟨v10, rfl, hv10⟩, ho10⟩
            obtain ⟨A10, c10, rfl⟩ := Row.shape hv10
            rw [MISS.out]
            have O10 := Lib.hid ho10
            clear ho10
            go_wp2_with fail
            go_roundw
            case rel => exact ⟨P', iN + 1, by rw [LF2.out], by go_num, FT2.out, fun _ => by rw [LF2.out]; exact LT2.out, by omega, J9.out.only O10.out (fun h => h) (fun _ _ h => h) (fun _ _ h => h), B9.out.only O10.out (fun h => h), OR9.out.trans O10.out (fun _ h _ => h.elim), Nat.le_trans N9.out O10.out.size⟩
            case measure => simp [RowKit.intOf]; omega
    · have hlt : lf < n := by
        by_cases h0 : lf = 0
        · omega
        · have hi : ¬ (iN : Int) < (m : Int) + n := fun h => hgo ⟨h, by omega⟩
          have := IL.out (by omega)
          rw [LF.out] at this
          exact this
      have MISS := Lib.hid (show (jmiss (bkJ P) 3 5).length = lf by rw [← LF.out]; exact bk_miss (by rw [LF.out, PL.out]; exact hlt))
      by_cases hio : (iN : Int) < (m : Int) + n
      · have hlz : lf = 0 := by
          by_cases h0 : lf = 0
          · exact h0
          · exact absurd ⟨hio, by omega⟩ hgo
        subst hlz
        clear hgo
        go_wp2_with fail
        refine (missing_run _ _ gJ (bkJ P) 3 5 wr JR.out).mono ?_
        rintro e w10 ⟨⟨v10, rfl, hv10⟩, ho10⟩
        obtain ⟨A10, c10, rfl⟩ := Row.shape hv10
        rw [MISS.out]
        have O10 := Lib.hid ho10
        clear ho10
        go_wp2_with fail
        refine (awake_run _).mono ?_
        rintro e w11 ⟨rfl, ho11⟩
        have O11 := Lib.hid ho11
        clear ho11
        go_wp2
        go_ret
        exact ⟨rfl, (ORN.out.tr O10.out).tr O11.out⟩
      · clear hgo
        go_wp2_with fail
        refine (missing_run _ _ gJ (bkJ P) 3 5 wr JR.out).mono ?_
        rintro e w10 ⟨⟨v10, rfl, hv10⟩, ho10⟩
        obtain ⟨A10, c10, rfl⟩ := Row.shape hv10
        rw [MISS.out]
        have O10 := Lib.hid ho10
        clear ho10
        go_wp2_with fail
        refine (awake_run _).mono ?_
        rintro e w11 ⟨rfl, ho11⟩
        have O11 := Lib.hid ho11
        clear ho11
        go_wp2
        go_ret
        exact ⟨rfl, (ORN.out.tr O10.out).tr O11.out⟩
end Go.Proofs.YtemeglofblnnmaaDoor
