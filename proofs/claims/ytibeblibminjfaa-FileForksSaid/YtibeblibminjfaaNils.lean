/- Calls on a disk that is not there; two disks side by side. -/
import Derived.Test.YtibeblibminjfaaPlays
namespace Go.Proofs.Ytibeblibminjfaa
open Go.RowKit
set_option linter.unusedVariables false

theorem append_nil (w : World) : Calls Try.prog 10 #[.pointer none, .slice none 0 0] w fun e w' => e = .returned (.int .i64 1) ∧ Only Noth w w' := by
  have ho := Lib.hid (((Only.refl Noth w).alloc (.cells #[.pointer none] 23)).alloc (.cells #[.slice none 0 0] 22))
  go_enter Try.func10, Try.ntmps10
  go_wp2_with (go_at_call 26; refine (up_nil _).mono ?_; rintro e w' ⟨rfl, rfl⟩)
  go_ret
  exact ⟨rfl, ho.out⟩
theorem swap_nil (w : World) : Calls Try.prog 15 #[.pointer none, .slice none 0 0] w fun e w' => e = .returned (.int .i64 1) ∧ Only Noth w w' := by
  have ho := Lib.hid (((Only.refl Noth w).alloc (.cells #[.pointer none] 23)).alloc (.cells #[.slice none 0 0] 22))
  go_enter Try.func15, Try.ntmps15
  go_wp2_with (go_at_call 26; refine (up_nil _).mono ?_; rintro e w' ⟨rfl, rfl⟩)
  go_ret
  exact ⟨rfl, ho.out⟩
theorem cut_nil (n : Int) (w : World) : Calls Try.prog 17 #[.pointer none, .int .i64 n] w fun e w' => e = .returned (.int .i64 1) ∧ Only Noth w w' := by
  have ho := Lib.hid (((Only.refl Noth w).alloc (.cells #[.pointer none] 23)).alloc (.cells #[.int .i64 n] 3))
  go_enter Try.func17, Try.ntmps17
  go_wp2_with (go_at_call 26; refine (up_nil _).mono ?_; rintro e w' ⟨rfl, rfl⟩)
  go_ret
  exact ⟨rfl, ho.out⟩
theorem sync_nil (w : World) : Calls Try.prog 11 #[.pointer none] w fun e w' => e = .returned (.int .i64 1) ∧ Only Noth w w' := by
  have ho := Lib.hid ((Only.refl Noth w).alloc (.cells #[.pointer none] 23))
  go_enter Try.func11, Try.ntmps11
  go_wp2_with (go_at_call 26; refine (up_nil _).mono ?_; rintro e w' ⟨rfl, rfl⟩)
  go_ret
  exact ⟨rfl, ho.out⟩

/-- Two disks with their fellows: the second, made later, shares nothing with the first. -/
structure Two (F F2 : Nat → Prop) (w wx : World) (b g b2 g2 : Nat) (d d2 : Dk) (r r2 : Rk) (k k2 : Nat) : Prop where
  one : PlayAt F w wx b g d r k
  two : PlayAt F2 w wx b2 g2 d2 r2 k2
  ap : ∀ j, F2 j → ¬ F j ∧ j ≠ g
  ap2 : ¬ F g2 ∧ g2 ≠ g

theorem PlayAt.later {F G : Nat → Prop} {w wx wy : World} {b g k : Nat} {d : Dk} {r : Rk} (h : PlayAt F w wx b g d r k) (ho : Only G wx wy) (hG : ∀ j, G j → ¬ F j ∧ j ≠ g ∧ w.heap.size ≤ j) : PlayAt F w wy b g d r k :=
  ⟨h.disk.only ho (fun j hj hg => (hG j hg).1 hj), h.ref, h.box.only ho (fun hg => (hG g hg).2.1 rfl), ⟨h.ours.only.trans ho (fun j hj hl => by have := (hG j hj).2.2; omega), h.ours.new⟩, h.apart, h.new, h.log, h.op⟩

theorem two_step {F F2 : Nat → Prop} {w wx w1 w2 : World} {b g b2 g2 k k2 : Nat} {d d2 : Dk} {r r2 r' : Rk} {x : Ac} (h : Two F F2 w wx b g b2 g2 d d2 r r2 k k2) (hx : x.z.length ≤ 10001) (hR : RefOf (doStep d2 x).1 r') (hL : Leaves F2 b2 (doStep d2 x).1 wx w1)
    (gb : Hld w2 g2 48 (rcells r')) (ho : Only (fun k => k = g2) w1 w2) : Two F (Plus F2 wx w1) w w2 b g b2 g2 d (doStep d2 x).1 r r' k (k2 + 1) := by
  have hg := h.one.box.lt
  refine ⟨(h.one.later hL.2 (fun j hj => ⟨(h.ap j hj).1, (h.ap j hj).2, h.two.ours.new j hj⟩)).later ho (fun j hj => ?_), play_step h.two hx hR hL gb ho, fun j hj => ?_, h.ap2⟩
  · subst hj
    exact ⟨h.ap2.1, h.ap2.2, h.two.new⟩
  · rcases hj with hj | hj
    · exact h.ap j hj
    · exact ⟨fun hF => by have := h.one.disk.lt j hF; omega, by omega⟩
theorem Two.quiet {F F2 : Nat → Prop} {w wx wy : World} {b g b2 g2 k k2 : Nat} {d d2 : Dk} {r r2 : Rk} (h : Two F F2 w wx b g b2 g2 d d2 r r2 k k2) (ho : Only Noth wx wy) : Two F F2 w wy b g b2 g2 d d2 r r2 k k2 :=
  ⟨h.one.quiet ho, h.two.quiet ho, h.ap, h.ap2⟩
theorem two_start {F F2 : Nat → Prop} {w wr wx : World} {b g b2 g2 k : Nat} {d : Dk} {r : Rk} (h : PlayAt F w wr b g d r k) (ho : Only Noth wr wx) (hd : DiskAt F2 wx b2 d) (hF : ∀ j, F2 j → wr.heap.size ≤ j) (gb : Hld wx g2 48 (rcells r)) (hg : wr.heap.size ≤ g2) (hn : ¬ F2 g2) :
    Two F F2 w wx b g b2 g2 d d r r k k := by
  have hz := h.ours.only.size
  have hb := h.box.lt
  refine ⟨h.quiet ho, ⟨hd, h.ref, gb, ⟨(h.ours.quiet ho).only, fun j hj => Nat.le_trans hz (hF j hj)⟩, fun j hj e => hn (e ▸ hj), by omega, h.log, h.op⟩, fun j hj => ⟨fun hF1 => ?_, ?_⟩, fun hF1 => ?_, by omega⟩
  · have := h.disk.lt j hF1
    have := hF j hj
    omega
  · have := hF j hj
    omega
  · have := h.disk.lt g2 hF1
    omega

/-- What Fork and the making of the second box leave. -/
def ForkLeft (F : Nat → Prop) (w : World) (b g : Nat) (d : Dk) (r : Rk) (k : Nat) (s8 s9 s10 : Value) (wx : World) : Prop :=
  ∃ F2 b2 g2, s8 = .pointer (some ⟨b2, 0, none⟩) ∧ s9 = .pointer (some ⟨g2, 0, none⟩) ∧ s10 = .bool true ∧ Two F F2 w wx b g b2 g2 d d r r k k
/-- Fork first, the box behind it. -/
theorem fork_then {F : Nat → Prop} {w wr w5 : World} {b g b2 k : Nat} {d : Dk} {r : Rk} {W : World} (h : PlayAt F w wr b g d r k) (ho : Only Noth wr W) (hL : Leaves Noth b2 d W w5) :
    ForkLeft F w b g d r k (.pointer (some ⟨b2, 0, none⟩)) (.pointer (some ⟨w5.heap.size, 0, none⟩)) (.bool true) (w5.alloc (.cells (rcells r) 48)) := by
  have hz := ho.size
  have hz2 := hL.2.size
  refine ⟨Plus Noth W w5, b2, w5.heap.size, rfl, rfl, rfl, two_start h ((ho.trans hL.2 (fun _ h _ => h)).alloc _) (hL.1.alloc _) (fun j hj => ?_) (Hld.new _ _ _) (by omega) (fun hj => ?_)⟩
  · rcases hj with hj | hj
    · exact hj.elim
    · omega
  · rcases hj with hj | hj
    · exact hj.elim
    · omega
/-- The box first, Fork behind it. -/
theorem then_fork {F : Nat → Prop} {w wr w5 wx : World} {b g b2 k : Nat} {d : Dk} {r : Rk} {W : World} {cs : Array Value} (h : PlayAt F w wr b g d r k) (ho : Only Noth wr W) (hL : Leaves Noth b2 d (W.alloc (.cells cs 48)) w5) (gb : Hld wx W.heap.size 48 (rcells r)) (ho2 : Only (fun k => k = W.heap.size) w5 wx) :
    ForkLeft F w b g d r k (.pointer (some ⟨b2, 0, none⟩)) (.pointer (some ⟨W.heap.size, 0, none⟩)) (.bool true) wx := by
  have hz := ho.size
  have hz2 := hL.2.size
  rw [size_alloc] at hz2
  have hF : ∀ j, Plus Noth (W.alloc (.cells cs 48)) w5 j → W.heap.size + 1 ≤ j := fun j hj => by
    rcases hj with hj | hj
    · exact hj.elim
    · rw [size_alloc] at hj
      omega
  refine ⟨Plus Noth (W.alloc (.cells cs 48)) w5, b2, W.heap.size, rfl, rfl, rfl, two_start h (((ho.alloc _).trans hL.2 (fun _ h _ => h)).trans ho2 (fun j hj hl => by omega)) (hL.1.only ho2 (fun j hj he => by have := hF j hj; omega)) (fun j hj => by have := hF j hj; omega) gb (by omega) (fun hj => by have := hF _ hj; omega)⟩
end Go.Proofs.Ytibeblibminjfaa
