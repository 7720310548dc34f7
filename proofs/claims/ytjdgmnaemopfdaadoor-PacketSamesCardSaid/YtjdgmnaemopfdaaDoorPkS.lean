/- Package packet: within Read: the reader, the result's box, the packet's box. -/
import Derived.Test.YtjdgmnaemopfdaaDoorPkR
import Derived.Test.YtjdgmnaemopfdaaDoorReIn
namespace Go.Proofs.YtjdgmnaemopfdaaDoor
open Go.RowKit Go.Lib
set_option linter.unusedVariables false
set_option maxRecDepth 100000
attribute [local go_sem ↓] Go.wp_at_zero Go.wp_at_succ

theorem pk_small_in {S : Nat → Prop} (g : Nat) (r r' : Rd) (most n : Int) (hx : r.small most = (r', n)) (w : World) (h : In.RdAt S w g r) (he : Env w) (hg : Hi g) :
    Calls Tryd.prog 60 #[.pointer (some ⟨g, 0, none⟩), .int .i64 most] w fun e w' => e = .returned (.int .i64 n) ∧ In.RdAt S w' g r' ∧ Only (At g) w w' := by
  obtain ⟨rfl, rfl⟩ := Prod.mk.inj hx
  have H := Lib.hid h
  have E := Lib.hid he
  have G := Lib.hid hg
  clear h he hg hx
  go_enter Tryd.func60, Tryd.ntmps60
  go_wp2_with fail
  refine (In.rdr_int g r _ H.out E.out G.out).mono ?_
  rintro e w1 ⟨rfl, hr, ho⟩
  have R1 := Lib.hid hr
  have O1 := Lib.hid ho
  clear hr ho
  go_wp2
  all_goals go_ret
  all_goals refine ⟨ret_num ?_, R1.out, O1.out⟩
  all_goals first | rfl | (split <;> omega)
/-- Blocks that were. -/
def Old (w : World) : Nat → Prop := fun k => k < w.heap.size
abbrev pkc (k f q s : Int) (A : Option Addr) (n c : Nat) (B : Option Addr) (m d : Nat) : Array Value := #[.int .u8 k, .int .u16 f, .int .u16 q, .int .i64 s, .slice A n c, .slice B m d]
def Side (w : World) (g b : Nat) : Nat → Prop := fun k => w.heap.size < k ∧ k ≠ g ∧ k ≠ b
/-- Ahead of the packet's box. -/
structure RPre (w W : World) (g : Nat) (r : Rd) : Prop where
  rd : In.RdAt (Old w) W g r
  env : Env W
  res : Hld W w.heap.size 50 (pkc 0 0 0 0 none 0 0 none 0 0)
  hg : w.heap.size < g
  hi : Hi g
  only : Only Noth w W
structure RPk (w W : World) (g b : Nat) (r : Rd) (k f q s : Int) (A : Option Addr) (c : Nat) (B : Option Addr) (d : Nat) (ms : List Mem) (es : List Ent) : Prop where
  rd : In.RdAt (Old w) W g r
  env : Env W
  res : Hld W w.heap.size 50 (pkc 0 0 0 0 none 0 0 none 0 0)
  box : Hld W b 50 (pkc k f q s A ms.length c B es.length d)
  hg : w.heap.size < g
  hb : g < b
  hi : Hi g
  msr : Row W (Side w g b) 68 3 (.slice A ms.length c) ms.length (ms.map Mem.cl).flatten
  esr : Row W (Side w g b) 64 5 (.slice B es.length d) es.length (es.map Ent.cl).flatten
  only : Only Noth w W
theorem inrd_only {S F : Nat → Prop} {w w' : World} {g : Nat} {r : Rd} (h : In.RdAt S w g r) (ho : Only F w w') (hg : ¬ F g) (hS : ∀ k, S k → ¬ F k) : In.RdAt S w' g r := by
  obtain ⟨hs, A, c, h1, h2, h3, h4⟩ := h
  exact ⟨hs, A, c, h1.only ho hg, h2.only ho (fun k hk => hS k hk.2), h3, h4⟩
section
variable {w W W' : World} {g b : Nat} {r r' : Rd} {k f q s : Int} {A B : Option Addr} {c d : Nat} {ms : List Mem} {es : List Ent}
theorem RPre.call (h : RPre w W g r) (hr : In.RdAt (Old w) W' g r') (ho : Only (At g) W W') : RPre w W' g r' :=
  ⟨hr, h.env.at_ ho h.hi, h.res.only ho (fun e => by have := h.hg; have e : w.heap.size = g := e; omega), h.hg, h.hi, h.only.trans ho (fun j hj hl => by have := h.hg; have hj : j = g := hj; omega)⟩
theorem RPk.call (h : RPk w W g b r k f q s A c B d ms es) (hr : In.RdAt (Old w) W' g r') (ho : Only (At g) W W') : RPk w W' g b r' k f q s A c B d ms es :=
  ⟨hr, h.env.at_ ho h.hi, h.res.only ho (fun e => by have := h.hg; have e : w.heap.size = g := e; omega), h.box.only ho (fun e => by have := h.hb; have e : b = g := e; omega), h.hg, h.hb, h.hi,
    h.msr.only ho (fun j hj e => hj.2.1 e), h.esr.only ho (fun j hj e => hj.2.1 e), h.only.trans ho (fun j hj hl => by have := h.hg; have hj : j = g := hj; omega)⟩
theorem RPk.noth (h : RPk w W g b r k f q s A c B d ms es) (ho : Only Noth W W') : RPk w W' g b r k f q s A c B d ms es :=
  ⟨inrd_only h.rd ho (fun h => h) (fun _ _ h => h), h.env.noth ho, h.res.only ho (fun h => h), h.box.only ho (fun h => h), h.hg, h.hb, h.hi, h.msr.only ho (fun _ _ h => h), h.esr.only ho (fun _ _ h => h), h.only.tr ho⟩
theorem RPre.noth (h : RPre w W g r) (ho : Only Noth W W') : RPre w W' g r :=
  ⟨inrd_only h.rd ho (fun h => h) (fun _ _ h => h), h.env.noth ho, h.res.only ho (fun h => h), h.hg, h.hi, h.only.tr ho⟩
theorem RPre.box (h : RPre w W g r) (hb : Hld W' b 50 (pkc k f q s none 0 0 none 0 0)) (hle : W.heap.size ≤ b) (ho : Only Noth W W') : RPk w W' g b r k f q s none 0 none 0 [] [] := by
  have h1 := h.rd
  obtain ⟨_, _, _, h2, _⟩ := h1
  have h3 := h2.lt
  exact ⟨inrd_only h.rd ho (fun h => h) (fun _ _ h => h), h.env.noth ho, h.res.only ho (fun h => h), hb, h.hg, by omega, h.hi, Row.nil _ _ _ _, Row.nil _ _ _ _, h.only.tr ho⟩
theorem RPk.hib (h : RPk w W g b r k f q s A c B d ms es) : Hi b := by
  obtain ⟨x, y, z⟩ := h.hi
  have := h.hb
  exact ⟨by omega, by omega, by omega⟩
theorem RPk.hiside (h : RPk w W g b r k f q s A c B d ms es) (j : Nat) (hj : w.heap.size < j) (he : Env w) : Hi j := he.hi (by omega)
/-- A member more. -/
theorem RPk.addm (h : RPk w W g b r k f q s A c B d ms es) (he : Env w) {m : Mem} {A' : Option Addr} {c' : Nat} {V : World}
    (hrow : Row V (Plus (Side w g b) W V) 68 3 (.slice A' (ms.length + 1) c') (ms.length + 1) ((ms.map Mem.cl).flatten ++ m.cl)) (ho : Only (Side w g b) W V)
    (hes : Row V (Side w g b) 64 5 (.slice B es.length d) es.length (es.map Ent.cl).flatten)
    (hb' : Hld W' b 50 (pkc k f q s A' (ms.length + 1) c' B es.length d)) (ho' : Only (At b) V W') : RPk w W' g b r k f q s A' c' B d (ms ++ [m]) es := by
  have hgl : g < W.heap.size := by
    obtain ⟨_, _, _, h2, _⟩ := h.rd
    exact h2.lt
  have hbl := h.box.lt
  have hw := h.only.size
  have e1 : (ms ++ [m]).length = ms.length + 1 := by simp
  have e2 : ((ms ++ [m]).map Mem.cl).flatten = (ms.map Mem.cl).flatten ++ m.cl := by simp
  have hrow2 : Row W' (Side w g b) 68 3 (.slice A' (ms.length + 1) c') (ms.length + 1) ((ms.map Mem.cl).flatten ++ m.cl) := by
    refine (hrow.mono (G := Side w g b) (fun j hj _ => ?_)).only ho' (fun j hj e => hj.2.2 e)
    rcases hj with hj | hj
    · exact hj
    · have := h.hg; exact ⟨by omega, by omega, by omega⟩
  refine ⟨?_, ?_, ?_, by rw [e1]; exact hb', h.hg, h.hb, h.hi, by rw [e1, e2]; exact hrow2, hes.only ho' (fun j hj e => hj.2.2 e), ?_⟩
  · refine inrd_only (inrd_only h.rd ho (fun e => e.2.1 rfl) (fun j hj e => ?_)) ho' (fun e => ?_) (fun j hj e => ?_)
    · have := e.1; have hj : j < w.heap.size := hj; omega
    · have := h.hb; have e : g = b := e; omega
    · have hj : j < w.heap.size := hj; have e : j = b := e; have := h.hb; have := h.hg; omega
  · exact (h.env.only ho (fun j hj => h.hiside j hj.1 he)).at_ ho' h.hib
  · exact (h.res.only ho (fun e => by have := e.1; omega)).only ho' (fun e => by have e : w.heap.size = b := e; have := h.hb; have := h.hg; omega)
  · exact (h.only.trans ho (fun j hj hl => by have := hj.1; omega)).trans ho' (fun j hj hl => by have hj : j = b := hj; have := h.hb; have := h.hg; omega)
end
/-- A row, its own block alone. -/
def OwnB (A : Option Addr) (c : Nat) : Nat → Prop := fun k => c ≠ 0 ∧ A = some ⟨k, 0, none⟩
theorem Row.tight {w : World} {F : Nat → Prop} {e : TypeId} {size n c : Nat} {A : Option Addr} {xs : List Value} (h : Row w F e size (.slice A n c) n xs) : Row w (OwnB A c) e size (.slice A n c) n xs ∧ ∀ k, OwnB A c k → F k ∧ ∃ cur, w.heap[k]? = some (.cells cur e (0, 0)) := by
  obtain ⟨hl, A', cap, hv, h1, h2, h3⟩ := h
  injection hv with e1 e2 e3
  subst e1
  subst e3
  rcases h3 with h3 | ⟨g, cur, hA, hF, hg, hc, ht⟩
  · exact ⟨⟨hl, A, c, rfl, h1, h2, .inl h3⟩, fun k hk => absurd h3 hk.1⟩
  · by_cases hc0 : c = 0
    · exact ⟨⟨hl, A, c, rfl, h1, h2, .inl hc0⟩, fun k hk => absurd hc0 hk.1⟩
    · refine ⟨⟨hl, A, c, rfl, h1, h2, .inr ⟨g, cur, hA, ⟨hc0, hA⟩, hg, hc, ht⟩⟩, fun k hk => ?_⟩
      have := hk.2
      rw [hA] at this
      injection this with this
      injection this with this
      subst this
      exact ⟨hF, cur, hg⟩
theorem Row.apart {w : World} {F G : Nat → Prop} {e e' : TypeId} {size size' n n' c c' : Nat} {A B : Option Addr} {xs ys : List Value} (h : Row w F e size (.slice A n c) n xs) (h' : Row w G e' size' (.slice B n' c') n' ys) (hne : e ≠ e') : ∀ k, OwnB A c k → ¬ OwnB B c' k := fun k h1 h2 => by
  obtain ⟨_, cur, e1⟩ := h.tight.2 k h1
  obtain ⟨_, cur', e2⟩ := h'.tight.2 k h2
  rw [e1] at e2
  injection e2 with e2
  injection e2 with _ e3
  exact hne e3
/-- The head of what Read reads. -/
def Head (l : List UInt8) (k f q s : Int) (z : Rd) : Prop :=
  ∃ r1 r2 r3 r4 r5, Rd.byte ⟨l, 0⟩ 108 = r1 ∧ r1.small 255 = (r2, k) ∧ r2.small 255 = (r3, f) ∧ r3.small 255 = (r4, q) ∧ r4.small 1099511627777 = (r5, s) ∧ r5.byte 108 = z
theorem head_some (l : List UInt8) : ∃ k f q s z, Head l k f q s z := ⟨_, _, _, _, _, _, _, _, _, _, rfl, rfl, rfl, rfl, rfl, rfl⟩
theorem head_nums {l : List UInt8} {k f q s : Int} {z : Rd} (h : Head l k f q s z) : (0 ≤ k ∧ k ≤ 255) ∧ (0 ≤ f ∧ f ≤ 255) ∧ (0 ≤ q ∧ q ≤ 255) ∧ 0 ≤ s ∧ s ≤ 1099511627777 := by
  obtain ⟨r1, r2, r3, r4, r5, _, h1, h2, h3, h4, _⟩ := h
  have a1 := r1.small_ge (most := 255) (by omega)
  have a2 := r2.small_ge (most := 255) (by omega)
  have a3 := r3.small_ge (most := 255) (by omega)
  have a4 := r4.small_ge (most := 1099511627777) (by omega)
  rw [h1] at a1
  rw [h2] at a2
  rw [h3] at a3
  rw [h4] at a4
  exact ⟨a1, a2, a3, a4⟩
theorem mems_long {r z : Rd} {ms : List Mem} (h : Mems r ms z) : r.Sane → ms.length + z.b.length ≤ r.b.length ∧ z.Sane ∧ ∀ m ∈ ms, (0 ≤ m.node ∧ m.node ≤ 255) ∧ (0 ≤ m.st ∧ m.st ≤ 255) ∧ 0 ≤ m.inc ∧ m.inc ≤ 1099511627776 := by
  induction h with
  | stop _ => intro hs; exact ⟨by simp, hs, by simp⟩
  | step hm _ ih =>
    intro hs
    have h1 := mem_less hs hm
    obtain ⟨h2, h3, h4⟩ := ih (mem_sane hs)
    refine ⟨by simp only [List.length_cons]; omega, h3, fun m hm => ?_⟩
    rcases List.mem_cons.1 hm with rfl | hm
    · exact ⟨Rd.small_ge _ (by omega), Rd.small_ge _ (by omega), Rd.small_ge _ (by omega)⟩
    · exact h4 m hm
end Go.Proofs.YtjdgmnaemopfdaaDoor
