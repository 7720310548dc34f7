/- A disk as plain data, and the contracts of its calls over that. -/
import Derived.Test.YtibeblibminjfaaDiskB
namespace Go.Proofs.Ytibeblibminjfaa
open Go.RowKit
set_option linter.unusedVariables false

/-- A disk as plain data. -/
structure Dk where
  snap : List Int
  log : List Int
  sf : Nat
  cp : Int
  op : Nat
  fu : Int
  dn : Bool
  dw : Bool

def u8s (l : List Int) : List Value := l.map (Value.int .u8)
theorem u8s_one (l : List Int) : ∀ u ∈ u8s l, u.oneCell' = true := ints_oneCell .u8 l
theorem u8s_append (l m : List Int) : u8s (l ++ m) = u8s l ++ u8s m := by simp [u8s]
theorem u8s_take (l : List Int) (n : Nat) : u8s (l.take n) = (u8s l).take n := by simp [u8s, List.map_take]
theorem u8s_length (l : List Int) : (u8s l).length = l.length := by simp [u8s]

structure Dk.Ok (d : Dk) : Prop where
  sf : d.sf ≤ d.log.length
  log : d.log.length ≤ 100000000
  snap : d.snap.length ≤ 100000000
  cp0 : 0 ≤ d.cp
  cp1 : d.cp ≤ 9223372036854775807
  op : d.op ≤ 1000000
  fu0 : -1 ≤ d.fu
  fu1 : d.fu ≤ 9223372036854775807

/-- The disk d lies at block b; its memory is F. -/
def DiskAt (F : Nat → Prop) (w : World) (b : Nat) (d : Dk) : Prop :=
  ∃ (vs vl : Value) (Fs Fl : Nat → Prop), Hld w b 56 (dcells vs vl d.sf d.cp d.op d.fu d.dn d.dw) ∧
    Row w Fs 5 1 vs d.snap.length (u8s d.snap) ∧ Row w Fl 5 1 vl d.log.length (u8s d.log) ∧
    (∀ k, Fs k → F k ∧ k ≠ b ∧ ¬ Fl k) ∧ (∀ k, Fl k → F k ∧ k ≠ b) ∧ F b ∧ (∀ k, F k → k < w.heap.size) ∧ d.Ok

theorem DiskAt.ok {F : Nat → Prop} {w : World} {b : Nat} {d : Dk} (h : DiskAt F w b d) : d.Ok := by
  obtain ⟨_, _, _, _, _, _, _, _, _, _, _, h⟩ := h
  exact h
theorem DiskAt.only {F G : Nat → Prop} {w w' : World} {b : Nat} {d : Dk} (h : DiskAt F w b d) (ho : Only G w w') (hFG : ∀ k, F k → ¬ G k) : DiskAt F w' b d := by
  obtain ⟨vs, vl, Fs, Fl, h1, h2, h3, h4, h5, h6, h7, h8⟩ := h
  exact ⟨vs, vl, Fs, Fl, h1.only ho (hFG b h6), h2.only ho (fun k hk => hFG k (h4 k hk).1), h3.only ho (fun k hk => hFG k (h5 k hk).1), h4, h5, h6, fun k hk => Nat.lt_of_lt_of_le (h7 k hk) ho.size, h8⟩
theorem DiskAt.more {F G : Nat → Prop} {w : World} {b : Nat} {d : Dk} (h : DiskAt F w b d) (hFG : ∀ k, F k → G k) (hG : ∀ k, G k → k < w.heap.size) : DiskAt G w b d := by
  obtain ⟨vs, vl, Fs, Fl, h1, h2, h3, h4, h5, h6, h7, h8⟩ := h
  exact ⟨vs, vl, Fs, Fl, h1, h2, h3, fun k hk => ⟨hFG k (h4 k hk).1, (h4 k hk).2⟩, fun k hk => ⟨hFG k (h5 k hk).1, (h5 k hk).2⟩, hFG b h6, hG, h8⟩
theorem DiskAt.drew {F : Nat → Prop} {w : World} {b : Nat} {d : Dk} (h : DiskAt F w b d) : DiskAt F w.drew b d := h
theorem DiskAt.drewN {F : Nat → Prop} {w : World} {b : Nat} {d : Dk} (h : DiskAt F w b d) (n : Nat) : DiskAt F (w.drewN n) b d := h
theorem DiskAt.alloc {F : Nat → Prop} {w : World} {b : Nat} {d : Dk} (h : DiskAt F w b d) (o : Obj) : DiskAt F (w.alloc o) b d := h.only ((Only.refl Noth w).alloc o) (fun _ _ h => h)

/-- An op: upd is what it does. -/
def Dk.tick (d : Dk) (upd : Dk → Dk) : Dk × Int :=
  if d.fu = 0 then
    (if d.dn then ({ upd { d with op := d.op + 1, fu := -1 } with dw := true }, 12) else ({ d with op := d.op + 1, fu := -1, dw := true }, 12))
  else (upd { d with op := d.op + 1, fu := max (-1) (d.fu - 1) }, 0)

/-- What every change by an op keeps. -/
structure Keeps (upd : Dk → Dk) : Prop where
  cp : ∀ d, (upd d).cp = d.cp
  op : ∀ d, (upd d).op = d.op
  fu : ∀ d, (upd d).fu = d.fu
  dn : ∀ d, (upd d).dn = d.dn
  dw : ∀ d, (upd d).dw = d.dw

/-- What the call leaves of a disk. -/
def Leaves (F : Nat → Prop) (b : Nat) (d' : Dk) (w w' : World) : Prop := DiskAt (Plus F w w') w' b d' ∧ Only F w w'

theorem disk_store {F : Nat → Prop} {w w' : World} {b : Nat} {d d' : Dk} {vs vl : Value} {Fs Fl : Nat → Prop}
    (h2 : Row w Fs 5 1 vs d.snap.length (u8s d.snap)) (h3 : Row w Fl 5 1 vl d.log.length (u8s d.log))
    (h4 : ∀ k, Fs k → F k ∧ k ≠ b ∧ ¬ Fl k) (h5 : ∀ k, Fl k → F k ∧ k ≠ b) (h6 : F b) (h7 : ∀ k, F k → k < w.heap.size)
    (ho : Only (fun k => k = b) w w') (hd : Hld w' b 56 (dcells vs vl d'.sf d'.cp d'.op d'.fu d'.dn d'.dw)) (es : d'.snap = d.snap) (el : d'.log = d.log) (hok : d'.Ok) : DiskAt F w' b d' :=
  ⟨vs, vl, Fs, Fl, hd, by rw [es]; exact h2.only ho (fun k hk => (h4 k hk).2.1), by rw [el]; exact h3.only ho (fun k hk => (h5 k hk).2), h4, h5, h6, fun k hk => Nat.lt_of_lt_of_le (h7 k hk) ho.size, hok⟩

theorem op_abs (F : Nat → Prop) (b k : Nat) (cap : Array Value) (d : Dk) (w : World) (upd : Dk → Dk) (hu : Keeps upd) (hD : DiskAt F w b d) (hop : d.op + 1 ≤ 1000000) (hdw : d.dw = false)
    (hk : ∀ W, (callFunc k cap).run Try.prog W = .ok (.enter k cap) W)
    (hcl : ∀ W d1, DiskAt F W b d1 → Only (fun k => k = b) w W → W.heap.size = w.heap.size → d1 = { d with op := d.op + 1, fu := max (-1) (d.fu - 1) } → Calls Try.prog k cap W fun e w' => e = .returned (.tuple #[]) ∧ Leaves F b (upd d1) W w') :
    Calls Try.prog 27 #[.pointer (some ⟨b, 0, none⟩), .func (.func k) #[] cap] w fun e w' => e = .returned (.int .i64 (d.tick upd).2) ∧ Leaves F b (d.tick upd).1 w w' := by
  obtain ⟨vs, vl, Fs, Fl, h1, h2, h3, h4, h5, h6, h7, h8⟩ := hD
  have hb := h1.lt
  have hp1 := h8.fu1
  have hp0 := h8.fu0
  rw [hdw] at h1
  -- the world behind the two counts
  have step : ∀ (fu' : Int) (W : World), W = (w.setCell ⟨b, 4, none⟩ (.int .i64 ((d.op : Int) + 1))).setCell ⟨b, 5, none⟩ (.int .i64 fu') →
      Only (fun k => k = b) w W ∧ W.heap.size = w.heap.size := by
    rintro fu' W rfl
    exact ⟨((Only.refl (fun k => k = b) w).setCell (p := ⟨b, 4, none⟩) (fun _ => rfl) _).setCell (p := ⟨b, 5, none⟩) (fun _ => rfl) _, by simp [World.setCell]⟩
  have ok1 : Dk.Ok { d with op := d.op + 1, fu := max (-1) (d.fu - 1) } := ⟨h8.sf, h8.log, h8.snap, h8.cp0, h8.cp1, hop, by show -1 ≤ max (-1) (d.fu - 1); omega, by show max (-1) (d.fu - 1) ≤ _; omega⟩
  have closes : ∀ W, Hld W b 56 (dcells vs vl d.sf d.cp ((d.op : Int) + 1) (max (-1) (d.fu - 1)) d.dn false) →
      W = (w.setCell ⟨b, 4, none⟩ (.int .i64 ((d.op : Int) + 1))).setCell ⟨b, 5, none⟩ (.int .i64 (max (-1) (d.fu - 1))) →
      Calls Try.prog k cap W fun e w' => e = .returned (.tuple #[]) ∧ (Leaves F b (upd { d with op := d.op + 1, fu := max (-1) (d.fu - 1) }) W w' ∧ Only (fun k => k = b) w W ∧ W.heap.size = w.heap.size) := by
    intro W hW hWe
    obtain ⟨s1, s2⟩ := step _ _ hWe
    have hD1 : DiskAt F W b { d with op := d.op + 1, fu := max (-1) (d.fu - 1) } := disk_store h2 h3 h4 h5 h6 h7 s1 (by simpa [hdw] using hW) rfl rfl ok1
    exact (hcl W _ hD1 s1 s2 rfl).mono fun e w' ⟨he, hl⟩ => ⟨he, hl, s1, s2⟩
  have lift : ∀ {W w' : World} {d' : Dk}, Leaves F b d' W w' → Only (fun k => k = b) w W → W.heap.size = w.heap.size → Leaves F b d' w w' := by
    intro W w' d' hl s1 s2
    refine ⟨?_, (s1.mono (G := F) (fun j hj _ => by subst hj; exact h6)).trans hl.2 (fun j hj _ => hj)⟩
    have := hl.1
    unfold Plus at this ⊢
    rw [s2] at this
    exact this
  unfold Dk.tick
  by_cases hf : d.fu = 0
  · rw [if_pos hf]
    have hm : max (-1 : Int) (d.fu - 1) = -1 := by omega
    rw [hm] at closes
    cases hdn : d.dn with
    | true =>
      rw [if_pos rfl]
      rw [hf, hdn] at h1
      rw [hdn] at closes
      refine op_fails_done b k cap vs vl d.sf d.cp d.op w h1 (by omega) (by have := h8.op; omega) _ hk fun W hW hWe => (closes W hW hWe).mono fun e w' ⟨he, hl, s1, s2⟩ => ⟨he, ?_⟩
      obtain ⟨us, ul, Gs, Gl, g1, g2, g3, g4, g5, g6, g7, g8⟩ := hl.1
      simp only [hu.cp, hu.op, hu.fu, hu.dn, hu.dw] at g1
      refine ⟨lift (W := W) ⟨?_, hl.2.setCell (p := ⟨b, 7, none⟩) (fun _ => h6) _⟩ s1 s2, us, ul, _, by simpa [hdw] using g1⟩
      have hz : (w'.setCell ⟨b, 7, none⟩ (.bool true)).heap.size = w'.heap.size := by simp [World.setCell]
      have : Plus F W (w'.setCell ⟨b, 7, none⟩ (.bool true)) = Plus F W w' := by unfold Plus; rw [hz]
      rw [this]
      refine disk_store (d := upd { d with op := d.op + 1, fu := -1, dn := true }) g2 g3 g4 g5 g6 g7 ((Only.refl (fun k => k = b) w').setCell (p := ⟨b, 7, none⟩) (fun _ => rfl) _) ?_ rfl rfl ⟨g8.sf, g8.log, g8.snap, g8.cp0, g8.cp1, g8.op, g8.fu0, g8.fu1⟩
      simpa [dcells, hu.cp, hu.op, hu.fu, hu.dn] using g1.set_ 7 (.bool true)
    | false =>
      rw [if_neg (by simp)]
      rw [hf, hdn] at h1
      refine (op_fails b k cap vs vl d.sf d.cp d.op w h1 (by omega) (by have := h8.op; omega)).mono fun e w' ⟨he, hw⟩ => ⟨he, ?_⟩
      subst hw
      have ho : Only (fun k => k = b) w (((w.setCell ⟨b, 4, none⟩ (.int .i64 ((d.op : Int) + 1))).setCell ⟨b, 5, none⟩ (.int .i64 (-1))).setCell ⟨b, 7, none⟩ (.bool true)) :=
        (((Only.refl (fun k => k = b) w).setCell (p := ⟨b, 4, none⟩) (fun _ => rfl) _).setCell (p := ⟨b, 5, none⟩) (fun _ => rfl) _).setCell (p := ⟨b, 7, none⟩) (fun _ => rfl) _
      refine ⟨?_, ho.mono (fun j hj _ => by subst hj; exact h6)⟩
      have hz : (((w.setCell ⟨b, 4, none⟩ (.int .i64 ((d.op : Int) + 1))).setCell ⟨b, 5, none⟩ (.int .i64 (-1))).setCell ⟨b, 7, none⟩ (.bool true)).heap.size = w.heap.size := by simp [World.setCell]
      refine DiskAt.more (F := F) (disk_store h2 h3 h4 h5 h6 h7 ho ?_ rfl rfl ⟨h8.sf, h8.log, h8.snap, h8.cp0, h8.cp1, hop, by simp, by simp⟩) (fun k hk => .inl hk) (fun k hk => ?_)
      · simpa [dcells, hdn] using ((h1.set_ 4 (.int .i64 ((d.op : Int) + 1))).set_ 5 (.int .i64 (-1))).set_ 7 (.bool true)
      · rcases hk with hk | hk
        · rw [hz]; exact h7 k hk
        · exact hk.2
  · rw [if_neg hf]
    refine op_fine b k cap vs vl d.sf d.cp d.op d.fu d.dn w h1 (by omega) (by have := h8.op; omega) (by omega) hp0 hp1 _ hk fun W hW hWe => (closes W hW hWe).mono fun e w' ⟨he, hl, s1, s2⟩ => ⟨he, lift hl s1 s2⟩
end Go.Proofs.Ytibeblibminjfaa
