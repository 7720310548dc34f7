/- ben.Reader: the pieces: what the environment holds, slices.Index, strconv's numbers, New, fail, first. -/
import Derived.Test.YtemeglofblnnmaaDoorConv
import Derived.Deep.RegionHeld3
import Derived.Deep.DrawnRows
import Derived.Outline
import Derived.IntWalk
import Derived.DataElems
import Derived.Lib.AtoiTie
import Derived.Lib.ParseIntBTie
namespace Go.Proofs.YtemeglofblnnmaaDoor
open Go.RowKit Go.Lib
set_option linter.unusedVariables false
attribute [local go_sem ↓] Go.wp_at_zero Go.wp_at_succ

/-- What the package variables hold. -/
structure Env (w : World) : Prop where
  tab : Tab w
  syn : ∃ te pe, w.cell? ⟨1, 0, none⟩ = some (.iface te pe)
  rng : ∃ te pe, w.cell? ⟨2, 0, none⟩ = some (.iface te pe)
/-- Blocks above the package variables. -/
def Hi (g : Nat) : Prop := 0 < g ∧ 1 < g ∧ 2 < g
theorem Env.only {w w' : World} (h : Env w) {F : Nat → Prop} (ho : Only F w w') (hF : ∀ k, F k → Hi k) : Env w' := by
  refine ⟨h.tab.only ho (fun k hk => (hF k hk).1), ?_, ?_⟩
  · obtain ⟨te, pe, hc⟩ := h.syn
    exact ⟨te, pe, (ho.cell (World.block_lt_of_cell? w _ hc) (fun hf => by have := (hF _ hf).2.1; simp at this)).trans hc⟩
  · obtain ⟨te, pe, hc⟩ := h.rng
    exact ⟨te, pe, (ho.cell (World.block_lt_of_cell? w _ hc) (fun hf => by have := (hF _ hf).2.2; simp at this)).trans hc⟩
theorem Env.noth {w w' : World} (h : Env w) (ho : Only Noth w w') : Env w' := h.only ho (fun _ hk => hk.elim)
theorem Env.at_ {w w' : World} (h : Env w) {g : Nat} (ho : Only (fun k => k = g) w w') (hg : Hi g) : Env w' := h.only ho (fun k hk => by rw [hk]; exact hg)
theorem Env.hi {w : World} (h : Env w) {g : Nat} (hg : w.heap.size ≤ g) : Hi g := by
  obtain ⟨te, pe, hc⟩ := h.syn
  obtain ⟨te', pe', hc'⟩ := h.rng
  have h1 := World.block_lt_of_cell? w _ hc
  have h2 := World.block_lt_of_cell? w _ hc'
  have h3 := h.tab.lt
  simp only at h1 h2
  exact ⟨by omega, by omega, by omega⟩

theorem only_bytes (w : World) (t : TypeId) (s : ByteArray) : Only Noth w (bytesWorld w t s) :=
  ⟨rfl, rfl, rfl, by rw [bytesWorld_size]; omega, fun k hk _ => bytesWorld_at_old w t s k hk⟩
theorem only_grow (w : World) (k : Nat) (os : Array Obj) : Only Noth w (Go.Sort.grow (w.drewN k) os) :=
  ⟨rfl, rfl, rfl, by show w.heap.size ≤ (w.heap ++ os).size; simp, fun j hj _ => by
    show (w.heap ++ os)[j]? = w.heap[j]?
    rw [Array.getElem?_append, if_pos hj]⟩

theorem format_int (n : Int) (h0 : -9223372036854775808 ≤ n) (h1 : n ≤ 9223372036854775807) (w : World) (ht : Tab w) :
    Calls Tryd.prog 56 #[.int .i64 n, .int .i64 10] w fun e w' => e = .returned (.string ⟨(itoa n).toArray⟩) ∧ Only Noth w w' :=
  (Tryd.strconv_FormatInt_10 n h0 h1 w (TabBelow.here ht)).mono fun e w' ⟨he, k, os, hw⟩ => ⟨he, by rw [hw]; exact only_grow w k os⟩
theorem parse_ok (s : ByteArray) (hs : s.size ≤ 281474976710656) (n : Int) (h : atoiAll s.data.toList = .ok n) (w : World) :
    Calls Tryd.prog 55 #[.string s, .int .i64 10, .int .i64 64] w fun e w' => e = .returned (.tuple #[.int .i64 n, .nilIface]) ∧ Only Noth w w' :=
  (Tryd.strconv_ParseInt_10_at64_ok s (by omega) n (by rw [parseIntB_64]; exact h) w).mono fun e w' ⟨he, hw⟩ => ⟨he, by
    rcases hw with rfl | ⟨t, rfl⟩
    · exact Only.refl _ _
    · exact only_bytes _ _ _⟩
theorem parse_err (s : ByteArray) (hs : s.size ≤ 281474976710656) (h : ∀ n, atoiAll s.data.toList ≠ .ok n) (w : World) (he : Env w) :
    Calls Tryd.prog 55 #[.string s, .int .i64 10, .int .i64 64] w fun e w' => ∃ n T N, e = .returned (.tuple #[.int .i64 n, .iface T (.pointer (some ⟨N, 0, none⟩))]) ∧ Only Noth w w' := by
  obtain ⟨te, pe, hc⟩ := he.syn
  obtain ⟨te', pe', hc'⟩ := he.rng
  cases hk : atoiAll s.data.toList with
  | ok n => exact absurd hk (h n)
  | «syntax» => exact (Tryd.strconv_ParseInt_10_at64_syntax s hs (by rw [parseIntB_64]; exact hk) _ w hc (.inr ⟨_, _, rfl⟩)).mono fun e w' ⟨N, he, _, _, hb⟩ => ⟨_, _, N, he, Only.of_new hb⟩
  | range => exact (Tryd.strconv_ParseInt_10_at64_range s hs (by rw [parseIntB_64]; exact hk) _ w hc' (.inr ⟨_, _, rfl⟩)).mono fun e w' ⟨N, he, _, _, hb⟩ => ⟨_, _, N, he, Only.of_new hb⟩

/-- slices.Index over bytes. -/
def idxI (l : List UInt8) (c : UInt8) : Int := match l.findIdx? (· == c) with
  | some i => i
  | none => -1
def NoC (l : List UInt8) (c : UInt8) (k : Nat) : Prop := ∀ (j : Nat) d, j < k → l[j]? = some d → (d == c) = false
theorem idx_hit {l : List UInt8} {c : UInt8} {k : Nat} (hn : NoC l c k) (hk : l[k]? = some c) : idxI l c = k := by
  have : l.findIdx? (· == c) = some k := by
    rw [List.findIdx?_eq_some_iff_getElem]
    have hlt := (List.getElem?_eq_some_iff.1 hk).1
    refine ⟨hlt, by have := (List.getElem?_eq_some_iff.1 hk).2; simp [this], fun j hj => ?_⟩
    have := hn j l[j] hj (List.getElem?_eq_getElem (by omega))
    simp [this]
  unfold idxI
  rw [this]
theorem idx_miss {l : List UInt8} {c : UInt8} (hn : NoC l c l.length) : idxI l c = -1 := by
  have : l.findIdx? (· == c) = none := by
    rw [List.findIdx?_eq_none_iff]
    intro x hx
    obtain ⟨j, hj, rfl⟩ := List.getElem_of_mem hx
    exact hn j _ hj (List.getElem?_eq_getElem hj)
  unfold idxI
  rw [this]
theorem u8_beq (c d : UInt8) : ((c.toNat : Int) == (d.toNat : Int)) = (c == d) := by
  rw [Bool.eq_iff_iff, beq_iff_eq, beq_iff_eq]
  constructor
  · intro h; exact UInt8.toNat_inj.1 (by omega)
  · intro h; rw [h]
theorem idx_bytes (A : Option Addr) (c : Nat) (l : List UInt8) (b : UInt8) (w : World) (S : Nat → Prop) (hs : Src w S 1 A l.length (byteCells l)) (hl : l.length ≤ 9223372036854775807) :
    Calls Tryd.prog 54 #[.slice A l.length c, .int .u8 b.toNat] w fun e w' => e = .returned (.int .i64 (idxI l b)) ∧ w = w' := by
  have HS := Lib.hid hs
  clear hs
  go_enter Tryd.func54, Tryd.ntmps54
  go_wp2_with fail
  go_loop [8] (fun i => ∃ k : Nat, k ≤ l.length ∧ i = .int .i64 k ∧ NoC l b k) (fun i => l.length - (RowKit.intOf i).toNat)
  case atStart => exact ⟨0, Nat.zero_le _, rfl, fun j d hj => absurd hj (by omega)⟩
  case round =>
    obtain ⟨k, hk, rfl, hz⟩ := hrel
    have HZ := Lib.hid hz
    clear hz
    by_cases hlt : k < l.length
    · obtain ⟨x, hx⟩ : ∃ x, l[k]? = some x := ⟨_, List.getElem?_eq_getElem hlt⟩
      obtain ⟨ad, rfl, _, _, hc⟩ := HS.out.2 (by omega)
      have hcell : w.cell? (ad.add k) = some (.int .u8 x.toNat) := hc k _ (by rw [byteCells, List.getElem?_map, hx]; rfl)
      have HX := Lib.hid hx
      clear hx hc
      by_cases h0 : b = x
      · subst h0
        have HO := Lib.hid (idx_hit HZ.out HX.out)
        go_wp2
        go_ret
        exact ⟨ret_num HO.out.symm, rfl⟩
      · have h1 : ((b.toNat : Int) == (x.toNat : Int)) = false := by rw [u8_beq]; simpa using h0
        go_wp2
        refine ⟨⟨k + 1, by omega, by go_num, fun j d hj hd => ?_⟩, by simp [RowKit.intOf]; omega⟩
        rcases Nat.lt_or_ge j k with h | h
        · exact HZ.out j d h hd
        · obtain rfl : j = k := by omega
          rw [HX.out] at hd
          injection hd with hd
          subst hd
          rw [beq_eq_false_iff_ne]
          exact fun h => h0 h.symm
    · obtain rfl : k = l.length := by omega
      have HO := Lib.hid (idx_miss HZ.out)
      go_wp2
      go_ret
      exact ⟨ret_num HO.out.symm, rfl⟩

/-- A slice expression on bytes that can be read. -/
theorem slice_from {w : World} {S : Nat → Prop} {A : Option Addr} {l : List UInt8} (c k : Nat) (h : Src w S 1 A l.length (byteCells l)) (hk : k ≤ l.length) (hc : l.length ≤ c) :
    ∃ A', (∀ V : World, (Instr.slice 22 (.slice A l.length c) (some (.int .i64 k)) none none).run Tryd.prog V = .ok (.slice A' (l.length - k) (c - k)) V) ∧ Src w S 1 A' (l.drop k).length (byteCells (l.drop k)) := by
  refine ⟨if c = k then A else A.map (·.add (k * 1)), fun V => ?_, ?_⟩
  · have hz := Tryd.sizeOf5 V
    have hr := run_slice_l (P := Tryd.prog) V 22 A l.length c (by kernel_rfl) .i64 (k : Int) (by omega) (by omega)
    rw [show Tryd.prog.elem 22 = 5 by kernel_rfl, hz] at hr
    rw [hr]
    simp [Result.andThen, sliced]
  · rw [List.length_drop]
    refine ⟨by simp [byteCells], fun hn => ?_⟩
    obtain ⟨ad, rfl, hS, hlt, hcell⟩ := h.2 (by omega)
    by_cases hck : c = k
    · omega
    · rw [if_neg hck]
      refine ⟨ad.add (k * 1), rfl, by rw [block_add]; exact hS, by rw [block_add]; exact hlt, fun j u hu => ?_⟩
      rw [Go.Addr.add_add, Nat.mul_one]
      refine hcell (k + j) u ?_
      simp only [byteCells, List.map_drop, List.getElem?_drop] at hu ⊢
      exact hu
theorem slice_to {w : World} {S : Nat → Prop} {A : Option Addr} {l : List UInt8} (c k : Nat) (h : Src w S 1 A l.length (byteCells l)) (hk : k ≤ l.length) (hc : l.length ≤ c) :
    ∃ A', (∀ V : World, (Instr.slice 22 (.slice A l.length c) none (some (.int .i64 k)) none).run Tryd.prog V = .ok (.slice A' k c) V) ∧ Src w S 1 A' (l.take k).length (byteCells (l.take k)) := by
  refine ⟨if c = 0 then A else A.map (·.add 0), fun V => ?_, ?_⟩
  · have hz := Tryd.sizeOf5 V
    have hr := run_slice_h (P := Tryd.prog) V 22 A l.length c (by kernel_rfl) .i64 (k : Int) (by omega) (by omega)
    rw [show Tryd.prog.elem 22 = 5 by kernel_rfl, hz] at hr
    rw [hr]
    simp [Result.andThen, sliced]
  · have hlen : (l.take k).length = k := by rw [List.length_take]; omega
    rw [hlen]
    refine ⟨by simp [byteCells]; omega, fun hn => ?_⟩
    obtain ⟨ad, rfl, hS, hlt, hcell⟩ := h.2 (by omega)
    rw [if_neg (by omega)]
    refine ⟨ad.add 0, rfl, by rw [block_add]; exact hS, by rw [block_add]; exact hlt, fun j u hu => ?_⟩
    rw [Go.Addr.add_add, Nat.zero_add]
    refine hcell j u ?_
    simp only [byteCells, List.map_take] at hu ⊢
    rw [List.getElem?_take] at hu
    split at hu
    · exact hu
    · cases hu
end Go.Proofs.YtemeglofblnnmaaDoor
