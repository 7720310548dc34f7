/- A row of one's own whose bytes are turned one by one; same: a disk is as the reference's disk. -/
import Derived.Test.YtibeblibminjfaaRefB
import Derived.Test.YtibeblibminjfaaFulls
namespace Go.Proofs.Ytibeblibminjfaa
open Go.RowKit
set_option linter.unusedVariables false

/-- Since w the bytes of a row have been turned, no other thing. -/
def Bump (w : World) (G : Nat → Prop) (A : Option Addr) (n : Nat) (wx : World) : Prop :=
  Only G w wx ∧ (0 < n → ∃ g cur, A = some ⟨g, 0, none⟩ ∧ G g ∧ Hld wx g 5 cur ∧ ∀ j, j < n → ∃ z : Int, cur[j]? = some (.int .u8 z))
theorem bump_start {w : World} {G : Nat → Prop} {A : Option Addr} {n c : Nat} {l : List Int} (h : Row w G 5 1 (.slice A n c) n (u8s l)) (hl : l.length = n) : Bump w G A n w := by
  refine ⟨Only.refl _ _, fun hn => ?_⟩
  obtain ⟨_, A', cap, hv, h1, h2, h3⟩ := h
  injection hv with e1 e2 e3
  subst e1
  subst e3
  rcases h3 with h3 | ⟨g, cur, hA, hF, hg, hc, ht⟩
  · omega
  · refine ⟨g, cur, hA, hF, hg, fun j hj => ?_⟩
    have h5 : (u8s l)[j]? = some (.int .u8 (l[j]'(by omega))) := by simp [u8s, hl, hj]
    rw [← ht, List.getElem?_take, if_pos (by omega)] at h5
    exact ⟨_, by simpa using h5⟩
theorem Bump.at_ {w wx : World} {G : Nat → Prop} {A : Option Addr} {n : Nat} (h : Bump w G A n wx) {k : Nat} (hk : k < n) :
    ∃ g z, A = some ⟨g, 0, none⟩ ∧ wx.cell? ⟨g, k, none⟩ = some (.int .u8 z) ∧ wx.frozen? ⟨g, k, none⟩ = false ∧ ∀ u, Bump w G A n (wx.setCell ⟨g, k, none⟩ (.int .u8 u)) := by
  obtain ⟨g, cur, hA, hG, hg, hc⟩ := h.2 (by omega)
  obtain ⟨z, hz⟩ := hc k hk
  refine ⟨g, z, hA, (hg.cell k).trans hz, hg.free k, fun u => ⟨h.1.setCell (fun _ => hG) _, fun _ => ⟨g, _, hA, hG, hg.set_ k _, fun j hj => ?_⟩⟩⟩
  rw [Array.getElem?_setIfInBounds]
  split
  · rename_i e
    subst e
    rw [if_pos (by have := (Array.getElem?_eq_some_iff.1 hz).1; omega)]
    exact ⟨u, rfl⟩
  · exact hc j hj

theorem rread_of {d : Dk} {r : Rk} (h : RefOf d r) (w : World) :
    Calls Try.prog 33 #[r.v] w fun e w' => e = .returned (.tuple #[.string (strOfNums (if d.dw then [] else d.snap)), .string (strOfNums (if d.dw then [] else d.log))]) ∧ Only Noth w w' := by
  cases hd : d.dw with
  | true => exact rread_down r w (h.dw.trans hd)
  | false =>
    have := rread_up r w (h.dw.trans hd)
    rw [h.s, h.l] at this
    exact this

theorem disk_read' {F : Nat → Prop} {w : World} {b : Nat} {d : Dk} {S L : List Int} (hD : DiskAt F w b d) (hS : S = if d.dw then [] else d.snap) (hL : L = if d.dw then [] else d.log) :
    Calls Try.prog 13 #[.pointer (some ⟨b, 0, none⟩)] w fun e w' => ∃ A1 c1 A2 c2, e = .returned (.tuple #[.slice A1 S.length c1, .slice A2 L.length c2]) ∧
      ∃ G1 G2 : Nat → Prop, Row w' G1 5 1 (.slice A1 S.length c1) S.length (u8s S) ∧ Row w' G2 5 1 (.slice A2 L.length c2) L.length (u8s L) ∧ (∀ k, G1 k → w.heap.size ≤ k) ∧ (∀ k, G2 k → w.heap.size ≤ k) ∧ (∀ k, G1 k → ¬ G2 k) ∧ Only Noth w w' := by
  subst hS
  subst hL
  refine (disk_read hD).mono ?_
  rintro e w' ⟨v1, v2, rfl, G1, G2, r1, r2, g1, g2, g3, ho⟩
  obtain ⟨A1, c1, hv1⟩ := r1.shape
  obtain ⟨A2, c2, hv2⟩ := r2.shape
  subst hv1
  subst hv2
  exact ⟨A1, c1, A2, c2, rfl, G1, G2, r1, r2, fun k hk => (g1 k hk).1, fun k hk => (g2 k hk).1, g3, ho⟩

set_option maxHeartbeats 8000000 in
set_option maxRecDepth 100000 in
theorem same_walk {F : Nat → Prop} {w : World} {b : Nat} {d : Dk} {r : Rk} (hD : DiskAt F w b d) (hR : RefOf d r) :
    Calls Try.prog 22 #[.pointer (some ⟨b, 0, none⟩), r.v] w fun e w' => e = .returned (.bool true) ∧ Only Noth w w' := by
  obtain ⟨S, hS⟩ : ∃ S, S = if d.dw then [] else d.snap := ⟨_, rfl⟩
  obtain ⟨L, hL⟩ : ∃ L, L = if d.dw then [] else d.log := ⟨_, rfl⟩
  have HRD := Lib.hid (fun W => rread_of hR W)
  rw [← hS, ← hL] at HRD
  have hsl : S.length ≤ 100000000 := by have := hD.ok.snap; rw [hS]; split <;> simp <;> omega
  have hll : L.length ≤ 100000000 := by have := hD.ok.log; rw [hL]; split <;> simp <;> omega
  have HS := Lib.hid hS
  have HL := Lib.hid hL
  have HD := Lib.hid hD
  have HB := Lib.hid hD.lt
  obtain ⟨s, l, sf, cp, op, dw, td, af, dn⟩ := r
  obtain ⟨q1, q2, q3, q4, q5, q6, _, _, _⟩ := hR
  simp only [] at q1 q2 q3 q4 q5 q6
  subst q3 q5 q6
  unfold Rk.v at HRD ⊢
  simp only [] at HRD
  obtain ⟨o, ho⟩ : ∃ o, o = Obj.cells #[.string s, .string l, .int .i64 d.sf, .int .i64 cp, .int .i64 d.op, .bool d.dw, .bool td, .int .i64 af, .bool dn] 48 := ⟨_, rfl⟩
  have HBX := Lib.hid (fun W (hoo : Only Noth (w.alloc (Obj.cells #[.string s, .string l, .int .i64 d.sf, .int .i64 cp, .int .i64 d.op, .bool d.dw, .bool td, .int .i64 af, .bool dn] 48)) W) => box_cells (Hld.new w _ _) hoo)
  clear hS hL hD q1 q2 q4 ho
  go_enter Try.func22, Try.ntmps22
  go_wp2_with fail
  refine (disk_read' (HD.out.alloc _) HS.out HL.out).mono ?_
  rintro e w2 ⟨A1, c1, A2, c2, rfl, G1, G2, r1, r2, g1, g2, g3, ho2⟩
  obtain ⟨⟨b0, b1, b2, b3, b4, b5, b6, b7, b8⟩, bf⟩ := HBX.out w2 ho2
  have R1 := Lib.hid r1
  have R2 := Lib.hid r2
  have G1' := Lib.hid g1
  have G2' := Lib.hid g2
  have G3 := Lib.hid g3
  have O2 := Lib.hid ho2
  clear r1 r2 g1 g2 g3 ho2 bf
  go_wp2_with fail
  refine (HRD.out _).mono ?_
  rintro e w3 ⟨rfl, ho3⟩
  have O3 := Lib.hid (O2.out.trans ho3 (fun _ h _ => h))
  have O13 := Lib.hid ho3
  obtain ⟨⟨b0, b1, b2, b3, b4, b5, b6, b7, b8⟩, bf⟩ := HBX.out w3 O3.out
  have HD3 := Lib.hid ((HD.out.alloc _).only O3.out (fun _ _ h => h))
  have k1 := conv_str c1 (R1.out.src.only ho3 (fun _ _ h => h)).drew
  have k2 := conv_str c2 (R2.out.src.only ho3 (fun _ _ h => h)).drew
  have HSF := Lib.hid ((disk_safe HD3.out.drew).mono (R' := fun e w' => e = .returned (.int .i64 (d.sf : Int)) ∧ w' = w3.drew) (fun e w' h => ⟨h.1, h.2.symm⟩))
  have HOP := Lib.hid ((disk_ops HD3.out.drew).mono (R' := fun e w' => e = .returned (.int .i64 (d.op : Int)) ∧ w' = w3.drew) (fun e w' h => ⟨h.1, h.2.symm⟩))
  have HDN := Lib.hid ((disk_down HD3.out.drew).mono (R' := fun e w' => e = .returned (.bool d.dw) ∧ w' = w3.drew) (fun e w' h => ⟨h.1, h.2.symm⟩))
  clear ho3 bf
  go_wp2_with fail
  refine region_tail 31 (by kernel_rfl) (by kernel_rfl) ?_
  simp only [List.take_succ_cons, List.take_zero, List.drop_succ_cons, List.drop_zero]
  repeat still_step
  still_call HSF.out
  repeat still_step
  still_call HOP.out
  repeat still_step
  still_call HDN.out
  repeat still_step
  refine wpStill_nil ?_
  clear b0 b1 b2 b3 b4 b5 b6 b7 b8
  have B1 := Lib.hid (bump_start ((R1.out.only O13.out (fun _ _ h => h)).drew) rfl)
  clear k1 k2
  go_wp2_with fail
  go_loopg [10] S.length (fun g s10 wx => ∃ k : Nat, k ≤ S.length ∧ g = S.length - k ∧ s10 = .int .i64 (k : Int) ∧ Hid (Bump w3.drew G1 A1 S.length wx))
  case atStart => exact ⟨0, by omega, by omega, rfl, B1⟩
  case round =>
    obtain ⟨k, hk, hg, rfl, BK⟩ := hrel
    by_cases hlt : k < S.length
    · obtain ⟨g1, z, hA, e1, e2, e3⟩ := BK.out.at_ hlt
      subst hA
      have E3 := Lib.hid e3
      have HG := Lib.hid hg
      clear e3 hg
      go_wp2_with fail
      go_roundg (S.length - (k + 1))
      case measure => have := HG.out; omega
      case rel => exact ⟨k + 1, by omega, rfl, by go_num, Lib.hid (E3.out _)⟩
    · obtain rfl : k = S.length := by omega
      have HX := Lib.hid BK.out.1
      have BB := Lib.hid (bump_start (R2.out.only ((O13.out.drew.mono (fun _ h _ => h.elim)).trans BK.out.1 (fun _ h _ => h)) (fun j h2 h1 => G3.out j h1 h2)) rfl)
      have HXX := Lib.hid (O3.out.drew.trans HX.out (fun j hj hlt => absurd (G1'.out j hj) (by omega)))
      clear hg
      go_wp2_with fail
      go_loopg [11] L.length (fun g s11 wy => ∃ k : Nat, k ≤ L.length ∧ g = L.length - k ∧ s11 = .int .i64 (k : Int) ∧ Hid (Bump wr G2 A2 L.length wy))
      case atStart => exact ⟨0, by omega, by omega, rfl, BB⟩
      case round =>
        obtain ⟨k, hk, hg, rfl, BK2⟩ := hrel
        by_cases hlt : k < L.length
        · obtain ⟨g1, z, hA, e1, e2, e3⟩ := BK2.out.at_ hlt
          subst hA
          have E3 := Lib.hid e3
          have HG := Lib.hid hg
          clear e3 hg
          go_wp2_with fail
          go_roundg (L.length - (k + 1))
          case measure => have := HG.out; omega
          case rel => exact ⟨k + 1, by omega, rfl, by go_num, Lib.hid (E3.out _)⟩
        · obtain rfl : k = L.length := by omega
          have O4 := Lib.hid (HXX.out.trans BK2.out.1 (fun j hj hlt => absurd (G2'.out j hj) (by omega)))
          clear hg
          go_wp2_with fail
          refine (disk_read' ((HD.out.alloc _).only O4.out (fun _ _ h => h)) HS.out HL.out).mono ?_
          rintro e w6 ⟨A3, c3, A4, c4, rfl, G5, G6, r1, r2, g1, g2, g3, ho6⟩
          have k1 := conv_str c3 r1.src
          have k2 := conv_str c4 r2.src
          have O6 := Lib.hid (((Only.refl Noth w).alloc _).trans (O4.out.trans ho6 (fun _ h _ => h)) (fun _ h _ => h))
          clear r1 r2 g1 g2 g3 ho6
          go_wp2_with fail
          go_ret
          exact ⟨rfl, O6.out⟩
end Go.Proofs.Ytibeblibminjfaa
