/- The disk's calls over plain data: Append, Sync, Cut, Swap. -/
import Derived.Test.YtibeblibminjfaaDiskC
namespace Go.Proofs.Ytibeblibminjfaa
open Go.RowKit
set_option linter.unusedVariables false

/-- What Append, Cut, Sync and Swap do, where they do. -/
def Dk.addLog (l : List Int) (d : Dk) : Dk := { d with log := d.log ++ l }
def Dk.cutLog (n : Nat) (d : Dk) : Dk := { d with log := d.log.take n, sf := min d.sf n }
def Dk.allSafe (d : Dk) : Dk := { d with sf := d.log.length }
def Dk.newSnap (l : List Int) (d : Dk) : Dk := { d with snap := l }
theorem keeps_addLog (l : List Int) : Keeps (Dk.addLog l) := ⟨fun _ => rfl, fun _ => rfl, fun _ => rfl, fun _ => rfl, fun _ => rfl⟩
theorem keeps_cutLog (n : Nat) : Keeps (Dk.cutLog n) := ⟨fun _ => rfl, fun _ => rfl, fun _ => rfl, fun _ => rfl, fun _ => rfl⟩
theorem keeps_allSafe : Keeps Dk.allSafe := ⟨fun _ => rfl, fun _ => rfl, fun _ => rfl, fun _ => rfl, fun _ => rfl⟩
theorem keeps_newSnap (l : List Int) : Keeps (Dk.newSnap l) := ⟨fun _ => rfl, fun _ => rfl, fun _ => rfl, fun _ => rfl, fun _ => rfl⟩

def Dk.append (d : Dk) (l : List Int) : Dk × Int :=
  if d.dw then (d, 12) else if (l.length : Int) > d.cp - d.snap.length - d.log.length then (d, 11) else d.tick (Dk.addLog l)
def Dk.cut (d : Dk) (n : Int) : Dk × Int :=
  if d.dw then (d, 12) else if n < 0 ∨ n > d.log.length then (d, 15) else d.tick (Dk.cutLog n.toNat)
def Dk.sync (d : Dk) : Dk × Int := if d.dw then (d, 12) else d.tick Dk.allSafe
def Dk.swap (d : Dk) (l : List Int) : Dk × Int :=
  if d.dw then (d, 12) else if (l.length : Int) > d.cp - d.log.length then (d, 11) else d.tick (Dk.newSnap l)
def Dk.fail (d : Dk) (n : Int) (done : Bool) : Dk × Int := if d.dw then (d, 12) else if n < 0 then (d, 2) else ({ d with fu := n, dn := done }, 0)
def Dk.crash (d : Dk) (k : Int) : Dk :=
  { d with log := d.log.take (d.sf + min (max k 0).toNat (d.log.length - d.sf)), sf := d.sf + min (max k 0).toNat (d.log.length - d.sf), fu := -1, dw := false }

section
variable {F S : Nat → Prop} {w w' : World} {b : Nat} {d : Dk}

theorem append_abs (p q m c : Nat) (A : Option Addr) (l : List Int) (hp : w.cell? ⟨p, 0, none⟩ = some (.pointer (some ⟨b, 0, none⟩))) (hq : w.cell? ⟨q, 0, none⟩ = some (.slice A l.length c)) (hpF : ¬ F p)
    (hD : DiskAt F w b d) (hs : Src w S 1 A l.length (u8s l)) (hl : d.log.length + l.length ≤ 100000000) :
    Calls Try.prog 28 #[.pointer (some ⟨p, 0, none⟩), .pointer (some ⟨q, 0, none⟩)] w fun e w' => e = .returned (.tuple #[]) ∧ Leaves F b (d.addLog l) w w' := by
  obtain ⟨vs, vl, Fs, Fl, h1, h2, h3, h4, h5, h6, h7, h8⟩ := hD
  refine (append_cl p q b d.log.length l.length c A Fl S (u8s d.log) (u8s l) vs vl d.sf d.cp d.op d.fu d.dn d.dw w hp hq h1 h3 hs (u8s_one l) (by omega) (fun h => (h5 b h).2 rfl) (fun h => hpF (h5 p h).1)).mono fun e w' h => ⟨h.1, ?_⟩
  obtain ⟨vl', g1, g2, g3⟩ := h.2
  refine ⟨⟨vs, vl', Fs, Plus Fl w w', g1, h2.only g3 (fun k hk hg => ?_), ?_, fun k hk => ⟨.inl (h4 k hk).1, (h4 k hk).2.1, ?_⟩, fun k hk => ?_, .inl h6, ?_, ?_⟩, g3.mono (fun j hj _ => ?_)⟩
  · rcases hg with hg | hg
    · exact (h4 k hk).2.2 hg
    · exact (h4 k hk).2.1 hg
  · show Row w' _ _ 1 vl' (d.log ++ l).length (u8s (d.log ++ l))
    rw [u8s_append, List.length_append]
    exact g2
  · rintro (hg | hg)
    · exact (h4 k hk).2.2 hg
    · have := h7 k (h4 k hk).1
      omega
  · rcases hk with hk | hk
    · exact ⟨.inl (h5 k hk).1, (h5 k hk).2⟩
    · have := h7 b h6
      exact ⟨.inr hk, by omega⟩
  · rintro k (hk | hk)
    · exact Nat.lt_of_lt_of_le (h7 k hk) g3.size
    · exact hk.2
  · exact ⟨by have := h8.sf; show d.sf ≤ (d.log ++ l).length; rw [List.length_append]; omega, by show (d.log ++ l).length ≤ _; rw [List.length_append]; exact hl, h8.snap, h8.cp0, h8.cp1, h8.op, h8.fu0, h8.fu1⟩
  · rcases hj with hj | hj
    · exact (h5 j hj).1
    · subst hj; exact h6

theorem swap_abs (p q c : Nat) (A : Option Addr) (l : List Int) (hp : w.cell? ⟨p, 0, none⟩ = some (.pointer (some ⟨b, 0, none⟩))) (hq : w.cell? ⟨q, 0, none⟩ = some (.slice A l.length c))
    (hA : A = none → l.length = 0 ∧ c = 0) (hD : DiskAt F w b d) (hs : Src w S 1 A l.length (u8s l)) (hl : l.length ≤ 100000000) :
    Calls Try.prog 31 #[.pointer (some ⟨q, 0, none⟩), .pointer (some ⟨p, 0, none⟩)] w fun e w' => e = .returned (.tuple #[]) ∧ Leaves F b (d.newSnap l) w w' := by
  obtain ⟨vs, vl, Fs, Fl, h1, h2, h3, h4, h5, h6, h7, h8⟩ := hD
  refine (swap_cl p q b l.length c A S (u8s l) vs vl d.sf d.cp d.op d.fu d.dn d.dw w hp hq h1 hA hs (u8s_one l) (by omega)).mono fun e w' h => ⟨h.1, ?_⟩
  obtain ⟨v, g1, g2, g3⟩ := h.2
  refine ⟨⟨v, vl, Plus Noth w w', Fl, g1, g2, h3.only g3 (fun k hk hg => (h5 k hk).2 hg), fun k hk => ?_, fun k hk => ⟨.inl (h5 k hk).1, (h5 k hk).2⟩, .inl h6, ?_, ?_⟩, g3.mono (fun j hj _ => by subst hj; exact h6)⟩
  · rcases hk with hk | hk
    · exact hk.elim
    · have := h7 b h6
      exact ⟨.inr hk, by omega, fun hg => by have := h7 k (h5 k hg).1; omega⟩
  · rintro k (hk | hk)
    · exact Nat.lt_of_lt_of_le (h7 k hk) g3.size
    · exact hk.2
  · exact ⟨h8.sf, h8.log, hl, h8.cp0, h8.cp1, h8.op, h8.fu0, h8.fu1⟩

theorem plus_same {F : Nat → Prop} {w w' : World} (h : w'.heap.size = w.heap.size) {b : Nat} {d : Dk} (hD : DiskAt F w' b d) : DiskAt (Plus F w w') w' b d :=
  hD.more (fun k hk => .inl hk) (fun k hk => by
    rcases hk with hk | hk
    · obtain ⟨_, _, _, _, _, _, _, _, _, _, h7, _⟩ := hD
      exact h7 k hk
    · exact hk.2)

theorem sync_abs (p : Nat) (hp : w.cell? ⟨p, 0, none⟩ = some (.pointer (some ⟨b, 0, none⟩))) (hD : DiskAt F w b d) :
    Calls Try.prog 29 #[.pointer (some ⟨p, 0, none⟩)] w fun e w' => e = .returned (.tuple #[]) ∧ Leaves F b d.allSafe w w' := by
  obtain ⟨vs, vl, Fs, Fl, h1, h2, h3, h4, h5, h6, h7, h8⟩ := hD
  obtain ⟨A, c, rfl⟩ := h3.shape
  refine (sync_cl p b d.log.length c A vs d.sf d.cp d.op d.fu d.dn d.dw w hp h1).mono fun e w' h => ⟨h.1, ?_⟩
  obtain ⟨j, rfl⟩ := h.2
  have ho : Only (fun k => k = b) w ((w.setCell ⟨b, 2, none⟩ (.int .i64 (d.log.length : Int))).drewN j) := ((Only.refl (fun k => k = b) w).setCell (p := ⟨b, 2, none⟩) (fun _ => rfl) _).drewN j
  refine ⟨plus_same (by simp [World.setCell]) ?_, ho.mono (fun j hj _ => by subst hj; exact h6)⟩
  refine disk_store (d := d) h2 h3 h4 h5 h6 h7 ho ?_ rfl rfl ⟨Nat.le_refl _, h8.log, h8.snap, h8.cp0, h8.cp1, h8.op, h8.fu0, h8.fu1⟩
  simpa [dcells, Dk.allSafe] using (h1.set_ 2 (.int .i64 (d.log.length : Int))).drewN j

theorem cut_abs (p q n : Nat) (hp : w.cell? ⟨p, 0, none⟩ = some (.pointer (some ⟨b, 0, none⟩))) (hq : w.cell? ⟨q, 0, none⟩ = some (.int .i64 (n : Int))) (hpb : p ≠ b) (hqb : q ≠ b) (hD : DiskAt F w b d) (hn : n ≤ d.log.length) :
    Calls Try.prog 32 #[.pointer (some ⟨p, 0, none⟩), .pointer (some ⟨q, 0, none⟩)] w fun e w' => e = .returned (.tuple #[]) ∧ Leaves F b (d.cutLog n) w w' := by
  obtain ⟨vs, vl, Fs, Fl, h1, h2, h3, h4, h5, h6, h7, h8⟩ := hD
  have hll := h8.log
  have h30 := h3
  obtain ⟨_, A0, c, hv, hc, hcm, hrest⟩ := h3
  subst hv
  obtain ⟨A, c', he, hrow⟩ := h30.cutAt hn
  injection he with e1 e2 e3
  subst e1
  subst e3
  refine (cut_cl p q b d.log.length c n A0 vs d.sf d.cp d.op d.fu d.dn d.dw w hp hq h1 hpb hqb hn (by omega) hc).mono fun e w' h => ⟨h.1, ?_⟩
  obtain ⟨j, rfl⟩ := h.2
  have ho : Only (fun k => k = b) w (((w.setCell ⟨b, 1, none⟩ (.slice A0 n n)).setCell ⟨b, 2, none⟩ (.int .i64 (min (d.sf : Int) n))).drewN j) :=
    (((Only.refl (fun k => k = b) w).setCell (p := ⟨b, 1, none⟩) (fun _ => rfl) _).setCell (p := ⟨b, 2, none⟩) (fun _ => rfl) _).drewN j
  refine ⟨plus_same (by simp [World.setCell]) ⟨vs, .slice A0 n n, Fs, Fl, ?_, h2.only ho (fun k hk => (h4 k hk).2.1), ?_, h4, h5, h6, fun k hk => Nat.lt_of_lt_of_le (h7 k hk) ho.size, ?_⟩, ho.mono (fun j hj _ => by subst hj; exact h6)⟩
  · have e : ((min d.sf n : Nat) : Int) = min (d.sf : Int) n := by omega
    simpa [dcells, Dk.cutLog, e] using ((h1.set_ 1 (.slice A0 n n)).set_ 2 (.int .i64 (min (d.sf : Int) n))).drewN j
  · show Row _ Fl _ 1 _ (d.log.take n).length (u8s (d.log.take n))
    rw [u8s_take, List.length_take, Nat.min_eq_left hn]
    simpa using hrow.only ho (fun k hk => (h5 k hk).2)
  · exact ⟨by show min d.sf n ≤ (d.log.take n).length; rw [List.length_take]; have := h8.sf; omega, by show (d.log.take n).length ≤ _; rw [List.length_take]; omega, h8.snap, h8.cp0, h8.cp1, h8.op, h8.fu0, h8.fu1⟩
end
end Go.Proofs.Ytibeblibminjfaa
