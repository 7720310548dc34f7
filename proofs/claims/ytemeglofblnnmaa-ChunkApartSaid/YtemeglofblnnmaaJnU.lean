/- The walk of ChunkApart. -/
import Derived.Test.YtemeglofblnnmaaJnV
import Derived.Test.YtemeglofblnnmaaJnT
namespace Go.Proofs.Ytemeglofblnnmaa
open Go.RowKit Go.Lib
set_option linter.unusedVariables false
set_option linter.unusedSimpArgs false
set_option maxRecDepth 100000
attribute [local go_sem ↓] Go.wp_at_zero Go.wp_at_succ

theorem opn_over {frm id : Int} {ps : List (List UInt8)} {i : Nat} (h : ps.length ≤ i) : opn frm id ps (i + 1) = opn frm id ps i := by unfold opn; rw [if_neg (by omega), if_neg (by omega)]
/-- The parts in memory: a row of n parts in a block, each one's bytes in blocks of its own. -/
structure PartsAt (w : World) (N gJ : Nat) (g : Nat) (id : Int) (b : List UInt8) : Prop where
  lo : g < N ∧ g ≠ gJ
  at_ : ∀ i, i < nPt b.length 100 → ∃ v S, w.cell? ⟨g, i * 4, none⟩ = some (.int .i64 id) ∧ w.cell? ⟨g, i * 4 + 1, none⟩ = some (.int .i64 i) ∧ w.cell? ⟨g, i * 4 + 2, none⟩ = some (.int .i64 ((chunksOf 100 b).length : Int)) ∧ w.cell? ⟨g, i * 4 + 3, none⟩ = some v ∧ BsAt w S v (chunkOf 100 b i) ∧ ∀ k, S k → k ≠ gJ ∧ k < N
theorem PartsAt.only {w w' : World} {N gJ g : Nat} {id : Int} {b : List UInt8} (h : PartsAt w N gJ g id b) (ho : Only (fun k => k = gJ ∨ From N k) w w') (hlt : g < w.heap.size) : PartsAt w' N gJ g id b := by
  refine ⟨h.lo, fun i hi => ?_⟩
  obtain ⟨v, S, h0, h1, h2, h3, h4, h5⟩ := h.at_ i hi
  have hg : ¬ (g = gJ ∨ From N g) := by
    rintro (e | e)
    · exact h.lo.2 e
    · have e : N ≤ g := e
      have := h.lo.1
      omega
  have hc : ∀ k v, w.cell? ⟨g, k, none⟩ = some v → w'.cell? ⟨g, k, none⟩ = some v := fun k v hv => by
    have := ho.block g hlt hg
    unfold World.cell? at hv ⊢
    rw [this]
    exact hv
  exact ⟨v, S, hc _ _ h0, hc _ _ h1, hc _ _ h2, hc _ _ h3, h4.only ho (fun k hk hf => by
    have := h5 k hk
    rcases hf with e | e
    · exact this.1 e
    · have e : N ≤ k := e
      omega), h5⟩
def strIf (n i : Nat) (b : List UInt8) : Value := .string (if n ≤ i then ⟨b.toArray⟩ else ⟨#[]⟩)
theorem split_parts {w w2 : World} {id : Int} {b : List UInt8} {e : Ending} (h : SplitAns w (partsOf id 100 b) 0 e w2) : ∃ g c, e = .returned (.tuple #[.slice (some ⟨g, 0, none⟩) (nPt b.length 100) c, .int .i64 0]) ∧ g < w2.heap.size ∧ ∀ (w4 : World) (gJ N : Nat), Only Noth w2 w4 → w2.heap.size ≤ gJ → gJ < N → PartsAt w4 N gJ g id b := by
  obtain ⟨A, c, rfl, h⟩ := h
  rw [parts_len] at h ⊢
  obtain ⟨g, cur, D, rfl, hg, hcur, hcl, hD, _, hp⟩ := h (nPt_pos _ _ (by omega))
  refine ⟨g, c, rfl, hcur.lt, fun w4 gJ N ho h1 h2 => ⟨⟨by have := hcur.lt; omega, by have := hcur.lt; omega⟩, fun i hi => ?_⟩⟩
  obtain ⟨v, x0, x1, x2, x3, bv⟩ := hp i _ (parts_at id 100 b hi).1
  have hc := hcur.only ho (fun h => h)
  exact ⟨v, D i, (hc.cell _).trans x0, (hc.cell _).trans x1, (hc.cell _).trans x2, (hc.cell _).trans x3, bv.noth ho, fun k hk => by have := hD i k hk; omega⟩
theorem split_short {id : Int} {b : List UInt8} (h : b.length ≤ 2000) (h0 : 0 ≤ id) (h1 : id ≤ 1099511627776) : splitD id b 100 = (partsOf id 100 b, 0) := by
  unfold splitD
  rw [if_neg (by omega), if_neg (by omega)]
  rfl
set_option maxHeartbeats 4000000 in
theorem apart_run (a b : List UInt8) (A B : Option Addr) (c d : Nat) (x y : Int) (hx : 0 ≤ x ∧ x < 256) (hy : 0 ≤ y ∧ y < 256) (Sa Sb : Nat → Prop) (w : World) (ha : BsAt w Sa (.slice A a.length c) a) (hSa : ∀ k, Sa k → k < w.heap.size) (hb : BsAt w Sb (.slice B b.length d) b) (hSb : ∀ k, Sb k → k < w.heap.size) :
    Calls Try.prog 4 #[.slice A a.length c, .slice B b.length d, .agg #[.int .u8 x, .int .u8 y]] w fun e w' => e = .returned (.bool true) ∧ Only Noth w w' := by
  have HA := Lib.hid ha
  have HB := Lib.hid hb
  have HSA := Lib.hid hSa
  have HSB := Lib.hid hSb
  have hal : (a.length : Int) ≤ 9223372036854775807 := by obtain ⟨_, _, _, _, h1, h2⟩ := ha; unfold maxLen at h2; omega
  have hbl : (b.length : Int) ≤ 9223372036854775807 := by obtain ⟨_, _, _, _, h1, h2⟩ := hb; unfold maxLen at h2; omega
  clear ha hb hSa hSb
  have a1 := (Only.refl Noth w).alloc (.cells #[.int .u8 x, .int .u8 y] 36)
  have O1 := Lib.hid a1
  have HA1 := Lib.hid (HA.out.noth a1)
  have HB1 := Lib.hid (HB.out.noth a1)
  clear a1
  by_cases hab : 2000 < a.length ∨ 2000 < b.length
  · by_cases h1 : (2000 : Int) < a.length
    · go_enter Try.func4, Try.ntmps4
      go_wp2_with fail
      refine (awake_run _).mono ?_
      rintro e w2 ⟨rfl, ho⟩
      have O2 := Lib.hid (O1.out.tr ho)
      clear ho
      go_wp2
      go_ret
      exact ⟨rfl, O2.out⟩
    · have h2 : (2000 : Int) < b.length := by omega
      go_enter Try.func4, Try.ntmps4
      go_wp2_with fail
      refine (awake_run _).mono ?_
      rintro e w2 ⟨rfl, ho⟩
      have O2 := Lib.hid (O1.out.tr ho)
      clear ho
      go_wp2
      go_ret
      exact ⟨rfl, O2.out⟩
  have h1 : ¬ (2000 : Int) < a.length := by omega
  have h2 : ¬ (2000 : Int) < b.length := by omega
  clear hab
  go_enter Try.func4, Try.ntmps4
  go_wp2_with fail
  refine (split_run 1 A c Sa a 100 (by omega) (by omega) _ HA1.out (fun k hk => by have := HSA.out k hk; have := O1.out.size; omega)).mono ?_
  rintro e w2 ⟨hsp, ho⟩
  rw [split_short (by omega) (by omega) (by omega)] at hsp
  obtain ⟨ga, ca, rfl, hga, hpa⟩ := split_parts hsp
  have HGA := Lib.hid hga
  have HPA := Lib.hid hpa
  have O2 := Lib.hid (O1.out.tr ho)
  have HB2 := Lib.hid (HB1.out.noth ho)
  clear hsp hga hpa ho
  go_wp2_with fail
  refine (split_run 2 B d Sb b 100 (by omega) (by omega) _ HB2.out (fun k hk => by have := HSB.out k hk; have := O2.out.size; omega)).mono ?_
  rintro e w3 ⟨hsp, ho⟩
  rw [split_short (by omega) (by omega) (by omega)] at hsp
  obtain ⟨gb, cb, rfl, hgb, hpb⟩ := split_parts hsp
  have HGB := Lib.hid hgb
  have HPB := Lib.hid hpb
  have O23 := Lib.hid ho
  have O3 := Lib.hid (O2.out.tr ho)
  clear hsp hgb hpb ho
  go_wp2_with fail
  refine (new_run w3).mono ?_
  rintro e w4 ⟨rfl, hj, hlt, ho⟩
  have HN4 := Lib.hid (show w3.heap.size < w4.heap.size from hlt)
  have PAx := Lib.hid (HPA.out w4 w3.heap.size w4.heap.size (O23.out.tr ho) O23.out.size hlt)
  have PBx := Lib.hid (HPB.out w4 w3.heap.size w4.heap.size ho (Nat.le_refl _) hlt)
  have PAL := Lib.hid (show ga < w4.heap.size by have := HGA.out; have := O23.out.size; omega)
  have PBL := Lib.hid (show gb < w4.heap.size by have := HGB.out; omega)
  have O4 := Lib.hid (O3.out.tr ho)
  have J0 := Lib.hid (show JoinAt (From w4.heap.size) (From w4.heap.size) w4 w3.heap.size ⟨[], 0⟩ from hj.tight (fun _ h _ => h.elim) (fun _ h _ => h.elim) (fun h => by have h : w4.heap.size ≤ w3.heap.size := h; omega) (fun h => by have h : w4.heap.size ≤ w3.heap.size := h; omega))
  have H3 := Lib.hid O3.out.size
  obtain ⟨gJ, hgJ⟩ : ∃ gJ, w3.heap.size = gJ := ⟨_, rfl⟩
  obtain ⟨N, hNN⟩ : ∃ N, w4.heap.size = N := ⟨_, rfl⟩
  obtain ⟨frm, hfrm⟩ : ∃ frm, x % 64 = frm := ⟨_, rfl⟩
  obtain ⟨to, hto⟩ : ∃ to, y % 64 = to := ⟨_, rfl⟩
  obtain ⟨n, hn⟩ : ∃ n, nPt a.length 100 = n := ⟨_, rfl⟩
  obtain ⟨m, hm⟩ : ∃ m, nPt b.length 100 = m := ⟨_, rfl⟩
  have hn20 : n ≤ 20 := by rw [← hn]; exact nPt_le (by omega) (by omega) (by omega)
  have hm20 : m ≤ 20 := by rw [← hm]; exact nPt_le (by omega) (by omega) (by omega)
  have F0 := Lib.hid (show 0 ≤ frm ∧ frm < 64 ∧ 0 ≤ to ∧ to < 64 by omega)
  have NA := Lib.hid hn
  have NB := Lib.hid hm
  have CA := Lib.hid (show (chunksOf 100 a).length = n by rw [chunks_len, hn])
  have CB := Lib.hid (show (chunksOf 100 b).length = m by rw [chunks_len, hm])
  rw [hgJ, hNN] at PAx PBx J0
  rw [hgJ, hNN] at HN4
  rw [hgJ] at H3
  have GN := HN4
  rw [hgJ, hfrm, hto, hn, hm]
  have PA := PAx
  have PB := PBx
  have NN4 := Lib.hid (show N ≤ w4.heap.size by omega)
  have hn0 : (0 : Int) ≤ n := by omega
  have hm0 : (0 : Int) ≤ m := by omega
  clear hj hlt ho HPA HPB hfrm hto hn hm HN4 PAx PBx O1 O2 O3 HA1 HB1 HB2 hgJ hNN
  go_wp2_with fail
  go_loopw [14, 15, 16, 17, 18, 19, 20, 21, 22] (fun s t i _ _ _ _ _ _ W => ∃ k : Nat, (k ≤ n ∨ k ≤ m) ∧ i = .int .i64 (k : Int) ∧ s = strIf n k a ∧ t = strIf m k b ∧ JoinAt (From N) (From N) W gJ (apJ frm to (chunksOf 100 a) (chunksOf 100 b) k k) ∧ N ≤ W.heap.size ∧ Only (fun j => j = gJ ∨ From N j) w4 W) (fun _ _ i _ _ _ _ _ _ _ => n + m - (RowKit.intOf i).toNat)
  case atStart =>
    refine ⟨0, .inl (Nat.zero_le _), rfl, ?_, ?_, by rw [apJ_start]; exact J0.out, NN4.out, Only.refl _ _⟩
    · unfold strIf
      rw [if_neg (by have := NA.out; have := nPt_pos a.length 100 (by omega); omega)]
    · unfold strIf
      rw [if_neg (by have := NB.out; have := nPt_pos b.length 100 (by omega); omega)]
  case round =>
    obtain ⟨k, hk, rfl, rfl, rfl, hj, hnw, ho⟩ := hrel
    have HJ := Lib.hid hj
    have NNr := Lib.hid hnw
    have Hr := Lib.hid ho
    have hk0 : (0 : Int) ≤ k := by omega
    clear hj hnw ho
    by_cases hkn : k < n
    · have hk1 : (k : Int) < n := by omega
      have hpt := PA.out.only Hr.out PAL.out
      obtain ⟨vA, SA, q0, q1, q2, q3, hbv, hsv⟩ := hpt.at_ k (by have := NA.out; omega)
      rw [CA.out] at q2
      have BVA := Lib.hid hbv
      have SVA := Lib.hid hsv
      clear hpt hbv hsv
      go_wp2_with fail
      refine (add_from N gJ _ frm _ k n (chunkOf 100 a k) vA SA _ HJ.out GN.out NNr.out (by have := F0.out; omega) (by simp [apJ]) BVA.out SVA.out).mono ?_
      rintro e w5 ⟨⟨uA, rfl, hu⟩, hj2, ho2, hn2⟩
      have hlaw := apJ_one (frm := frm) (to := to) (qs := chunksOf 100 b) (k := k) (parts_at 1 100 a (show k < nPt a.length 100 by rw [NA.out]; exact hkn)).2 (by rw [CA.out]; omega) (Nat.le_trans (chunk_small _ _ _) (by omega)) F0.out.2.1 (fun h => h)
      rw [CA.out] at hlaw
      rw [hlaw] at hu hj2 ⊢
      have NNw5 := Lib.hid hn2
      have HJw5 := Lib.hid hj2
      have Hw5 := Lib.hid (Hr.out.trans ho2 (fun j hj _ => hj))
      clear q0 q1 q2 q3 ho2 hn2 hj2 hlaw
      by_cases hla : k + 1 = n
      · obtain rfl : n = k + 1 := hla.symm
        rw [if_pos (by omega)] at hu ⊢
        rw [Option.getD_some, chunks_flat 100 a (by omega)] at hu
        obtain ⟨AuA, cuA, rfl, hu⟩ := hu
        have hcvA := BsAt.conv (l := a) (show BsAt w5 _ (.slice AuA a.length cuA) a from ⟨AuA, cuA, rfl, hu⟩)
        clear hu
        by_cases hkm : k < m
        · have hk2 : (k : Int) < m := by omega
          have hpt := PB.out.only Hw5.out PBL.out
          obtain ⟨vB, SB, q0, q1, q2, q3, hbv, hsv⟩ := hpt.at_ k (by have := NB.out; omega)
          rw [CB.out] at q2
          have BVB := Lib.hid hbv
          have SVB := Lib.hid hsv
          clear hpt hbv hsv
          go_wp2_with fail
          refine (add_from N gJ _ to _ k m (chunkOf 100 b k) vB SB _ HJw5.out GN.out NNw5.out (by have := F0.out; omega) (by simp [apJ]) BVB.out SVB.out).mono ?_
          rintro e w6 ⟨⟨uB, rfl, hu⟩, hj2, ho2, hn2⟩
          have hlaw := apJ_two (frm := frm) (to := to) (ps := chunksOf 100 a) (i := k + 1) (k := k) (parts_at 2 100 b (show k < nPt b.length 100 by rw [NB.out]; exact hkm)).2 (by rw [CB.out]; omega) (Nat.le_trans (chunk_small _ _ _) (by omega)) F0.out.2.2.2
          rw [CB.out] at hlaw
          rw [hlaw] at hu hj2 ⊢
          have NNw6 := Lib.hid hn2
          have HJw6 := Lib.hid hj2
          have Hw6 := Lib.hid (Hw5.out.trans ho2 (fun j hj _ => hj))
          clear q0 q1 q2 q3 ho2 hn2 hj2 hlaw
          by_cases hlb : k + 1 = m
          · obtain rfl : m = k + 1 := hlb.symm
            rw [if_pos (by omega)] at hu ⊢
            rw [Option.getD_some, chunks_flat 100 b (by omega)] at hu
            obtain ⟨AuB, cuB, rfl, hu⟩ := hu
            have hcvB := BsAt.conv (l := b) (show BsAt w6 _ (.slice AuB b.length cuB) b from ⟨AuB, cuB, rfl, hu⟩)
            clear hu
            go_wp2_with fail
            go_roundw
            case rel => exact ⟨k + 1, by omega, by go_num, by first | (unfold strIf; rw [if_pos (by omega)]; done) | (unfold strIf; rw [if_neg (by omega)]; done) | (unfold strIf; rw [if_pos (by omega), if_pos (by omega)]; done), by first | (unfold strIf; rw [if_pos (by omega)]; done) | (unfold strIf; rw [if_neg (by omega)]; done) | (unfold strIf; rw [if_pos (by omega), if_pos (by omega)]; done), HJw6.out, NNw6.out, Hw6.out⟩
            case measure => simp [RowKit.intOf]; omega
          · have hnb : ¬ (k : Int) = (m : Int) - 1 := by omega
            rw [if_neg (by omega)] at hu ⊢
            rw [Option.getD_none] at hu
            obtain ⟨AuB, cuB, rfl, hu⟩ := hu
            have hcvB := BsAt.conv (n := 0) (l := []) (show BsAt w6 _ (.slice AuB 0 cuB) [] from ⟨AuB, cuB, rfl, hu⟩)
            clear hu
            go_wp2_with fail
            go_roundw
            case rel => exact ⟨k + 1, by omega, by go_num, by first | (unfold strIf; rw [if_pos (by omega)]; done) | (unfold strIf; rw [if_neg (by omega)]; done) | (unfold strIf; rw [if_pos (by omega), if_pos (by omega)]; done), by first | (unfold strIf; rw [if_pos (by omega)]; done) | (unfold strIf; rw [if_neg (by omega)]; done) | (unfold strIf; rw [if_pos (by omega), if_pos (by omega)]; done), HJw6.out, NNw6.out, Hw6.out⟩
            case measure => simp [RowKit.intOf]; omega
        · have hk2 : ¬ (k : Int) < m := by omega
          go_wp2_with fail
          go_roundw
          case rel => exact ⟨k + 1, by omega, by go_num, by first | (unfold strIf; rw [if_pos (by omega)]; done) | (unfold strIf; rw [if_neg (by omega)]; done) | (unfold strIf; rw [if_pos (by omega), if_pos (by omega)]; done), by first | (unfold strIf; rw [if_pos (by omega)]; done) | (unfold strIf; rw [if_neg (by omega)]; done) | (unfold strIf; rw [if_pos (by omega), if_pos (by omega)]; done), by have h := HJw5.out; unfold apJ at h ⊢; rw [opn_over (frm := to) (by rw [CB.out]; omega)]; exact h, NNw5.out, Hw5.out⟩
          case measure => simp [RowKit.intOf]; omega
      · have hna : ¬ (k : Int) = (n : Int) - 1 := by omega
        rw [if_neg (by omega)] at hu ⊢
        rw [Option.getD_none] at hu
        obtain ⟨AuA, cuA, rfl, hu⟩ := hu
        have hcvA := BsAt.conv (n := 0) (l := []) (show BsAt w5 _ (.slice AuA 0 cuA) [] from ⟨AuA, cuA, rfl, hu⟩)
        clear hu
        by_cases hkm : k < m
        · have hk2 : (k : Int) < m := by omega
          have hpt := PB.out.only Hw5.out PBL.out
          obtain ⟨vB, SB, q0, q1, q2, q3, hbv, hsv⟩ := hpt.at_ k (by have := NB.out; omega)
          rw [CB.out] at q2
          have BVB := Lib.hid hbv
          have SVB := Lib.hid hsv
          clear hpt hbv hsv
          go_wp2_with fail
          refine (add_from N gJ _ to _ k m (chunkOf 100 b k) vB SB _ HJw5.out GN.out NNw5.out (by have := F0.out; omega) (by simp [apJ]) BVB.out SVB.out).mono ?_
          rintro e w6 ⟨⟨uB, rfl, hu⟩, hj2, ho2, hn2⟩
          have hlaw := apJ_two (frm := frm) (to := to) (ps := chunksOf 100 a) (i := k + 1) (k := k) (parts_at 2 100 b (show k < nPt b.length 100 by rw [NB.out]; exact hkm)).2 (by rw [CB.out]; omega) (Nat.le_trans (chunk_small _ _ _) (by omega)) F0.out.2.2.2
          rw [CB.out] at hlaw
          rw [hlaw] at hu hj2 ⊢
          have NNw6 := Lib.hid hn2
          have HJw6 := Lib.hid hj2
          have Hw6 := Lib.hid (Hw5.out.trans ho2 (fun j hj _ => hj))
          clear q0 q1 q2 q3 ho2 hn2 hj2 hlaw
          by_cases hlb : k + 1 = m
          · obtain rfl : m = k + 1 := hlb.symm
            rw [if_pos (by omega)] at hu ⊢
            rw [Option.getD_some, chunks_flat 100 b (by omega)] at hu
            obtain ⟨AuB, cuB, rfl, hu⟩ := hu
            have hcvB := BsAt.conv (l := b) (show BsAt w6 _ (.slice AuB b.length cuB) b from ⟨AuB, cuB, rfl, hu⟩)
            clear hu
            go_wp2_with fail
            go_roundw
            case rel => exact ⟨k + 1, by omega, by go_num, by first | (unfold strIf; rw [if_pos (by omega)]; done) | (unfold strIf; rw [if_neg (by omega)]; done) | (unfold strIf; rw [if_pos (by omega), if_pos (by omega)]; done), by first | (unfold strIf; rw [if_pos (by omega)]; done) | (unfold strIf; rw [if_neg (by omega)]; done) | (unfold strIf; rw [if_pos (by omega), if_pos (by omega)]; done), HJw6.out, NNw6.out, Hw6.out⟩
            case measure => simp [RowKit.intOf]; omega
          · have hnb : ¬ (k : Int) = (m : Int) - 1 := by omega
            rw [if_neg (by omega)] at hu ⊢
            rw [Option.getD_none] at hu
            obtain ⟨AuB, cuB, rfl, hu⟩ := hu
            have hcvB := BsAt.conv (n := 0) (l := []) (show BsAt w6 _ (.slice AuB 0 cuB) [] from ⟨AuB, cuB, rfl, hu⟩)
            clear hu
            go_wp2_with fail
            go_roundw
            case rel => exact ⟨k + 1, by omega, by go_num, by first | (unfold strIf; rw [if_pos (by omega)]; done) | (unfold strIf; rw [if_neg (by omega)]; done) | (unfold strIf; rw [if_pos (by omega), if_pos (by omega)]; done), by first | (unfold strIf; rw [if_pos (by omega)]; done) | (unfold strIf; rw [if_neg (by omega)]; done) | (unfold strIf; rw [if_pos (by omega), if_pos (by omega)]; done), HJw6.out, NNw6.out, Hw6.out⟩
            case measure => simp [RowKit.intOf]; omega
        · have hk2 : ¬ (k : Int) < m := by omega
          go_wp2_with fail
          go_roundw
          case rel => exact ⟨k + 1, by omega, by go_num, by first | (unfold strIf; rw [if_pos (by omega)]; done) | (unfold strIf; rw [if_neg (by omega)]; done) | (unfold strIf; rw [if_pos (by omega), if_pos (by omega)]; done), by first | (unfold strIf; rw [if_pos (by omega)]; done) | (unfold strIf; rw [if_neg (by omega)]; done) | (unfold strIf; rw [if_pos (by omega), if_pos (by omega)]; done), by have h := HJw5.out; unfold apJ at h ⊢; rw [opn_over (frm := to) (by rw [CB.out]; omega)]; exact h, NNw5.out, Hw5.out⟩
          case measure => simp [RowKit.intOf]; omega
    · have hk1 : ¬ (k : Int) < n := by omega
      by_cases hkm : k < m
      · have hk2 : (k : Int) < m := by omega
        have hpt := PB.out.only Hr.out PBL.out
        obtain ⟨vB, SB, q0, q1, q2, q3, hbv, hsv⟩ := hpt.at_ k (by have := NB.out; omega)
        rw [CB.out] at q2
        have BVB := Lib.hid hbv
        have SVB := Lib.hid hsv
        clear hpt hbv hsv
        go_wp2_with fail
        refine (add_from N gJ _ to _ k m (chunkOf 100 b k) vB SB _ HJ.out GN.out NNr.out (by have := F0.out; omega) (by simp [apJ]) BVB.out SVB.out).mono ?_
        rintro e w6 ⟨⟨uB, rfl, hu⟩, hj2, ho2, hn2⟩
        have hlaw := apJ_two (frm := frm) (to := to) (ps := chunksOf 100 a) (i := k) (k := k) (parts_at 2 100 b (show k < nPt b.length 100 by rw [NB.out]; exact hkm)).2 (by rw [CB.out]; omega) (Nat.le_trans (chunk_small _ _ _) (by omega)) F0.out.2.2.2
        rw [CB.out] at hlaw
        rw [hlaw] at hu hj2 ⊢
        have NNw6 := Lib.hid hn2
        have HJw6 := Lib.hid hj2
        have Hw6 := Lib.hid (Hr.out.trans ho2 (fun j hj _ => hj))
        clear q0 q1 q2 q3 ho2 hn2 hj2 hlaw
        by_cases hlb : k + 1 = m
        · obtain rfl : m = k + 1 := hlb.symm
          rw [if_pos (by omega)] at hu ⊢
          rw [Option.getD_some, chunks_flat 100 b (by omega)] at hu
          obtain ⟨AuB, cuB, rfl, hu⟩ := hu
          have hcvB := BsAt.conv (l := b) (show BsAt w6 _ (.slice AuB b.length cuB) b from ⟨AuB, cuB, rfl, hu⟩)
          clear hu
          go_wp2_with fail
          go_roundw
          case rel => exact ⟨k + 1, by omega, by go_num, by first | (unfold strIf; rw [if_pos (by omega)]; done) | (unfold strIf; rw [if_neg (by omega)]; done) | (unfold strIf; rw [if_pos (by omega), if_pos (by omega)]; done), by first | (unfold strIf; rw [if_pos (by omega)]; done) | (unfold strIf; rw [if_neg (by omega)]; done) | (unfold strIf; rw [if_pos (by omega), if_pos (by omega)]; done), by have h := HJw6.out; unfold apJ at h ⊢; rw [opn_over (by rw [CA.out]; omega)]; exact h, NNw6.out, Hw6.out⟩
          case measure => simp [RowKit.intOf]; omega
        · have hnb : ¬ (k : Int) = (m : Int) - 1 := by omega
          rw [if_neg (by omega)] at hu ⊢
          rw [Option.getD_none] at hu
          obtain ⟨AuB, cuB, rfl, hu⟩ := hu
          have hcvB := BsAt.conv (n := 0) (l := []) (show BsAt w6 _ (.slice AuB 0 cuB) [] from ⟨AuB, cuB, rfl, hu⟩)
          clear hu
          go_wp2_with fail
          go_roundw
          case rel => exact ⟨k + 1, by omega, by go_num, by first | (unfold strIf; rw [if_pos (by omega)]; done) | (unfold strIf; rw [if_neg (by omega)]; done) | (unfold strIf; rw [if_pos (by omega), if_pos (by omega)]; done), by first | (unfold strIf; rw [if_pos (by omega)]; done) | (unfold strIf; rw [if_neg (by omega)]; done) | (unfold strIf; rw [if_pos (by omega), if_pos (by omega)]; done), by have h := HJw6.out; unfold apJ at h ⊢; rw [opn_over (by rw [CA.out]; omega)]; exact h, NNw6.out, Hw6.out⟩
          case measure => simp [RowKit.intOf]; omega
      · have hk2 : ¬ (k : Int) < m := by omega
        rw [show strIf n k a = .string ⟨a.toArray⟩ by unfold strIf; rw [if_pos (by omega)], show strIf m k b = .string ⟨b.toArray⟩ by unfold strIf; rw [if_pos (by omega)]]
        have hfar : ∀ z, z < w.heap.size → ¬ (z = gJ ∨ From N z) := fun z hz h => by
          have h3 := H3.out
          have h4 := GN.out
          rcases h with h | h
          · omega
          · have h : N ≤ z := h
            omega
        have hca := BsAt.conv ((HA.out.noth O4.out).only Hr.out (fun z hz => hfar z (HSA.out z hz)))
        have hcb := BsAt.conv ((HB.out.noth O4.out).only Hr.out (fun z hz => hfar z (HSB.out z hz)))
        have hjn := HJ.out
        rw [apJ_end (by rw [CA.out]; omega) (by rw [CB.out]; omega)] at hjn
        have JE := Lib.hid hjn
        have OE := Lib.hid (show Only Noth w wr from O4.out.trans Hr.out (fun z hz hl => hfar z hl hz))
        clear hfar hjn
        go_wp2_with fail
        refine (open_run _ _ _ _ _ JE.out).mono ?_
        rintro e w7 ⟨rfl, ho7⟩
        have JE7 := Lib.hid (JE.out.only ho7 (fun h => h) (fun _ _ h => h) (fun _ _ h => h))
        have OE7 := Lib.hid (OE.out.tr ho7)
        clear ho7
        go_wp2_with fail
        refine (lost_run _ _ _ _ _ JE7.out).mono ?_
        rintro e w8 ⟨rfl, ho8⟩
        have OE8 := Lib.hid (OE7.out.tr ho8)
        clear ho8
        go_wp2_with fail
        refine (awake_run _).mono ?_
        rintro e w9 ⟨rfl, ho9⟩
        have OE9 := Lib.hid (OE8.out.tr ho9)
        clear ho9
        go_wp2
        go_ret
        exact ⟨rfl, OE9.out⟩
end Go.Proofs.Ytemeglofblnnmaa
