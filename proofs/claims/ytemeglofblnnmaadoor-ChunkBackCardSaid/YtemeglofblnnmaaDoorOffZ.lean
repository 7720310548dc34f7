/- Stores beside the bytes: no cell of the written block is a byte. -/
import Derived.Test.YtemeglofblnnmaaDoorRdrFZ
namespace Go.Proofs.YtemeglofblnnmaaDoor
open Go.RowKit Go.Lib
set_option linter.unusedVariables false

/-- No cell of these is a byte. -/
def NoByte (cs : Array Value) : Prop := ∀ (i : Nat) (n : Int), cs[i]? ≠ some (.int .u8 n)
theorem src_off {w : World} {S : Nat → Prop} {A : Option Addr} {l : List UInt8} {b : Nat} {t : TypeId} {cs : Array Value} (h : Src w S 1 A l.length (byteCells l)) (hb : Hld w b t cs) (hc : NoByte cs) : Src w (fun k => S k ∧ k ≠ b) 1 A l.length (byteCells l) := by
  refine ⟨h.1, fun hl => ?_⟩
  obtain ⟨ad, hA, hS, hlt, hcell⟩ := h.2 hl
  refine ⟨ad, hA, ⟨hS, fun e => ?_⟩, hlt, hcell⟩
  cases l with
  | nil => simp at hl
  | cons c tl =>
    have h0 := hcell 0 (.int .u8 c.toNat) rfl
    have e0 : ad.add 0 = ad := by unfold Addr.add; simp
    rw [e0] at h0
    obtain ⟨bl, off, sp⟩ := ad
    simp only at e
    subst e
    unfold World.cell? at h0
    unfold Hld at hb
    simp only [hb] at h0
    split at h0
    · cases h0
    · exact hc off _ h0
theorem noByte_rd (v : Value) (hv : ∀ n, v ≠ .int .u8 n) (e : Int) : NoByte #[v, .int .i64 e] := by
  intro i n
  match i with
  | 0 => simpa using hv n
  | 1 => simp
  | i + 2 => simp
theorem RdAt.off {w w' : World} {g b : Nat} {r : Rd} {t : TypeId} {cs : Array Value} (h : RdAt w g r) (hb : Hld w b t cs) (hc : NoByte cs) (hne : g ≠ b) (ho : Only (At b) w w') : RdAt w' g r := by
  obtain ⟨hs, A, c, h1, h2, h3, h4⟩ := h
  exact ⟨hs, A, c, h1.only ho hne, ((src_off h2 hb hc).only ho (fun k hk => hk.2)).mono (fun k hk _ => hk.1), h3, h4⟩
theorem Part.off {w w' : World} {v : Value} {l : List UInt8} {b : Nat} {t : TypeId} {cs : Array Value} (h : Part w v l) (hb : Hld w b t cs) (hc : NoByte cs) (ho : Only (At b) w w') : Part w' v l := by
  obtain ⟨A, c, e, hs, h1, h2⟩ := h
  exact ⟨A, c, e, ((src_off hs hb hc).only ho (fun k hk => hk.2)).mono (fun k _ h => h), h1, h2⟩
theorem RdAt.beside {w w' : World} {g b : Nat} {r r' : Rd} (h : RdAt w g r) (hb : RdAt w b r') (hne : g ≠ b) (ho : Only (At b) w w') : RdAt w' g r := by
  obtain ⟨_, A, c, h1, _⟩ := hb
  exact h.off h1 (noByte_rd _ (fun n h => by cases h) _) hne ho
theorem Part.beside {w w' : World} {v : Value} {l : List UInt8} {b : Nat} {r : Rd} (h : Part w v l) (hb : RdAt w b r) (ho : Only (At b) w w') : Part w' v l := by
  obtain ⟨_, A, c, h1, _⟩ := hb
  exact h.off h1 (noByte_rd _ (fun n h => by cases h) _) ho

theorem ben_int_v (n : Int) (h0 : -9223372036854775808 ≤ n) (h1 : n ≤ 9223372036854775807) (L : List UInt8) (hL : tInt n = L) (w : World) (ht : Tab w) : Calls Tryd.prog 18 #[.int .i64 n] w (Given w L) := by subst hL; exact ben_int n h0 h1 w ht
theorem ben_text_v (s : ByteArray) (hs : s.size ≤ 140737488355300) (L : List UInt8) (hL : tText s.data.toList = L) (w : World) (ht : Tab w) : Calls Tryd.prog 19 #[.string s] w (Given w L) := by subst hL; exact ben_text s hs w ht
theorem rd_left_v (g : Nat) (r : Rd) (n : Int) (hn : (r.b.length : Int) = n) (w : World) (h : RdAt w g r) :
    Calls Tryd.prog 30 #[.pointer (some ⟨g, 0, none⟩)] w fun x w' => x = .returned (.int .i64 n) ∧ w = w' := by
  subst hn; exact rdr_left g r w h
theorem rd_err_v (g : Nat) (r : Rd) (n : Int) (hn : r.err = n) (w : World) (h : RdAt w g r) :
    Calls Tryd.prog 29 #[.pointer (some ⟨g, 0, none⟩)] w fun x w' => x = .returned (.int .i64 n) ∧ w = w' := by
  subst hn; exact rdr_err g r w h
theorem rd_text_v (g : Nat) (r r' : Rd) (m : Int) (k : ByteArray) (hx : r.text m = (r', k.data.toList)) (w : World) (h : RdAt w g r) (he : Env w) :
    Calls Tryd.prog 27 #[.pointer (some ⟨g, 0, none⟩), .int .i64 m] w fun x w' => x = .returned (.string k) ∧ RdAt w' g r' ∧ Only (At g) w w' := by
  have := rdr_text g r m w h he
  rw [hx] at this
  exact this
theorem rd_int_v (g : Nat) (r r' : Rd) (n : Int) (hx : r.int = (r', n)) (w : World) (h : RdAt w g r) (he : Env w) (hg : Hi g) :
    Calls Tryd.prog 26 #[.pointer (some ⟨g, 0, none⟩)] w fun x w' => x = .returned (.int .i64 n) ∧ RdAt w' g r' ∧ Only (At g) w w' := by
  have := rdr_int g r w h he hg
  rw [hx] at this
  exact this

/-- Two readers and the bytes that they read. -/
structure Duo (w0 W : World) (a b : Nat) (r q : Rd) (v : Value) (l : List UInt8) : Prop where
  one : RdAt W a r
  two : RdAt W b q
  src : Part W v l
  env : Env W
  only : Only Noth w0 W
  hi1 : Hi a
  hi2 : Hi b
  ge1 : w0.heap.size ≤ a
  ge2 : w0.heap.size ≤ b
  ne : a ≠ b
section
variable {w0 W W' : World} {a b : Nat} {r q r' q' : Rd} {v : Value} {l : List UInt8}
theorem Duo.noth (h : Duo w0 W a b r q v l) (ho : Only Noth W W') : Duo w0 W' a b r q v l :=
  ⟨h.one.noth ho, h.two.noth ho, h.src.noth ho, h.env.noth ho, h.only.tr ho, h.hi1, h.hi2, h.ge1, h.ge2, h.ne⟩
theorem Duo.at1 (h : Duo w0 W a b r q v l) (hr : RdAt W' a r') (ho : Only (At a) W W') : Duo w0 W' a b r' q v l :=
  ⟨hr, h.two.beside h.one (fun e => h.ne e.symm) ho, h.src.beside h.one ho, h.env.at_ ho h.hi1, h.only.trans ho (fun j hj hl => by have : j = a := hj; have := h.ge1; omega), h.hi1, h.hi2, h.ge1, h.ge2, h.ne⟩
theorem Duo.at2 (h : Duo w0 W a b r q v l) (hr : RdAt W' b q') (ho : Only (At b) W W') : Duo w0 W' a b r q' v l :=
  ⟨h.one.beside h.two h.ne ho, hr, h.src.beside h.two ho, h.env.at_ ho h.hi2, h.only.trans ho (fun j hj hl => by have : j = b := hj; have := h.ge2; omega), h.hi1, h.hi2, h.ge1, h.ge2, h.ne⟩
end
end Go.Proofs.YtemeglofblnnmaaDoor
