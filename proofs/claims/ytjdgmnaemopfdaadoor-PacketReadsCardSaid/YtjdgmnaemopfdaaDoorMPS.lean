/- Package packet: small; what Read reads; a reader besides a box that is turned. -/
import Derived.Test.YtjdgmnaemopfdaaDoorPkF
import Derived.Test.YtjdgmnaemopfdaaDoorMRd
import Derived.Test.YtjdgmnaemopfdaaDoorMOE
namespace Go.Proofs.YtjdgmnaemopfdaaDoor
open Go.RowKit Go.Lib
set_option linter.unusedVariables false
set_option maxRecDepth 100000
attribute [local go_sem ↓] Go.wp_at_zero Go.wp_at_succ

/-- A number that is small; else the most. -/
def Rd.small (r : Rd) (most : Int) : Rd × Int := (r.int.1, if r.int.2 < 0 ∨ most < r.int.2 then most else r.int.2)
theorem Rd.small_ge (r : Rd) {most : Int} (h : 0 ≤ most) : 0 ≤ (r.small most).2 ∧ (r.small most).2 ≤ most := by
  simp only [Rd.small]
  split <;> omega
theorem pk_small (g : Nat) (r : Rd) (most : Int) (x : Rd × Int) (hx : r.small most = x) (w : World) (h : RdAt w g r) (he : Env w) (hg : Hi g) :
    Calls Tryd.prog 60 #[.pointer (some ⟨g, 0, none⟩), .int .i64 most] w fun e w' => e = .returned (.int .i64 x.2) ∧ RdAt w' g x.1 ∧ Only (At g) w w' := by
  subst hx
  have H := Lib.hid h
  have E := Lib.hid he
  have G := Lib.hid hg
  clear h he hg
  go_enter Tryd.func60, Tryd.ntmps60
  go_wp2_with fail
  refine (rdr_int g r _ H.out E.out G.out).mono ?_
  rintro e w1 ⟨rfl, hr, ho⟩
  have R1 := Lib.hid hr
  have O1 := Lib.hid ho
  clear hr ho
  go_wp2
  all_goals go_ret
  all_goals refine ⟨ret_num ?_, R1.out, O1.out⟩
  all_goals (simp only [Rd.small]; split)
  all_goals omega
theorem Src.setOff {w w' : World} {S : Nat → Prop} {A : Option Addr} {l : List UInt8} {b i : Nat} {t : TypeId} {cs : Array Value} {v : Value} (h : Src w S 1 A l.length (byteCells l)) (hb : Hld w b t cs) (hb' : Hld w' b t (cs.setIfInBounds i v)) (hi : ∀ n : Int, cs[i]? ≠ some (.int .u8 n)) (ho : Only (At b) w w') : Src w' S 1 A l.length (byteCells l) := by
  refine ⟨h.1, fun hn => ?_⟩
  obtain ⟨ad, hA, hS, hlt, hc⟩ := h.2 hn
  refine ⟨ad, hA, hS, Nat.lt_of_lt_of_le hlt ho.size, fun j u hu => ?_⟩
  by_cases hbk : ad.block = b
  · have h0 := hc j u hu
    obtain ⟨n, rfl⟩ : ∃ n : Int, u = .int .u8 n := by
      have := List.mem_of_getElem? hu
      simp only [byteCells, List.mem_map] at this
      obtain ⟨c, _, rfl⟩ := this
      exact ⟨_, rfl⟩
    have hblk := block_add ad j
    rw [hbk] at hblk
    generalize ad.add j = a at h0 hblk ⊢
    obtain ⟨bl, off, sp⟩ := a
    have hblk : bl = b := hblk
    subst hblk
    unfold World.cell? at h0 ⊢
    unfold Hld at hb hb'
    simp only [hb, hb'] at h0 ⊢
    split at h0
    · cases h0
    · rename_i hsp
      have hne : i ≠ off := fun e => hi n (e ▸ h0)
      rw [if_neg hsp, Array.getElem?_setIfInBounds, if_neg hne]
      exact h0
  · exact (ho.cell (by rw [block_add]; exact hlt) (by rw [block_add]; exact hbk)).trans (hc j u hu)
theorem RdAt.setOff {w w' : World} {g b i : Nat} {r : Rd} {t : TypeId} {cs : Array Value} {v : Value} (h : RdAt w g r) (hb : Hld w b t cs) (hb' : Hld w' b t (cs.setIfInBounds i v)) (hi : ∀ n : Int, cs[i]? ≠ some (.int .u8 n)) (hne : g ≠ b) (ho : Only (At b) w w') : RdAt w' g r := by
  obtain ⟨hs, A, c, h1, h2, h3, h4⟩ := h
  exact ⟨hs, A, c, h1.only ho hne, h2.setOff hb hb' hi ho, h3, h4⟩

theorem byte_le (r : Rd) (c : UInt8) : (r.byte c).b.length ≤ r.b.length := by
  unfold Rd.byte
  split
  · exact Nat.le_refl _
  · split
    · simp [Rd.stop]
    · split
      · simp [Rd.stop]
      · rename_i hb _; rw [hb]; simp
theorem byte_less {r : Rd} (hs : r.Sane) (hm : r.more = true) (c : UInt8) : (r.byte c).b.length < r.b.length := by
  have he : r.err = 0 := by
    by_cases h : r.err = 0
    · exact h
    · have := hs h
      unfold Rd.more at hm
      rw [this] at hm
      cases hm
  cases hb : r.b with
  | nil =>
    unfold Rd.more at hm
    rw [hb] at hm
    cases hm
  | cons x t =>
    unfold Rd.byte
    rw [if_neg (by simpa using he), hb]
    simp only
    split <;> simp [Rd.stop]
theorem int_le {r : Rd} (h : r.Sane) : r.int.1.b.length ≤ r.b.length := by
  by_cases he : r.int.1.err = 0
  · have := (Rd.int_back he).2.1
    conv => rhs; rw [this]
    simp
  · rw [Rd.int_sane h he]
    simp
theorem text_le {r : Rd} (h : r.Sane) (m : Int) : (r.text m).1.b.length ≤ r.b.length := by
  by_cases he : (r.text m).1.err = 0
  · have := (Rd.text_back he).2.1
    conv => rhs; rw [this]
    simp
  · rw [Rd.text_sane h m he]
    simp
/-- Members as they are read. -/
def Rd.mem (r : Rd) : Rd × Mem :=
  ((((((r.byte 108).small 255).1.small 255).1.small 1099511627776).1.byte 101), ⟨((r.byte 108).small 255).2, (((r.byte 108).small 255).1.small 255).2, ((((r.byte 108).small 255).1.small 255).1.small 1099511627776).2⟩)
theorem small_sane {r : Rd} (h : r.Sane) (m : Int) : (r.small m).1.Sane := Rd.int_sane h
theorem mem_sane {r : Rd} (h : r.Sane) : r.mem.1.Sane := Rd.byte_sane (small_sane (small_sane (small_sane (Rd.byte_sane h _) _) _) _) _
theorem mem_less {r : Rd} (h : r.Sane) (hm : r.more = true) : r.mem.1.b.length < r.b.length := by
  have h1 := byte_less h hm 108
  have s1 := Rd.byte_sane h 108
  have h2 := int_le s1
  have s2 := small_sane s1 255
  have h3 := int_le s2
  have s3 := small_sane s2 255
  have h4 := int_le s3
  have h5 := byte_le (((((r.byte 108).small 255).1.small 255).1.small 1099511627776).1) 101
  simp only [Rd.mem, Rd.small] at *
  omega
theorem reads_sane {r z : Rd} {y : Ent} (hr : Ent.Reads r y z) (h : r.Sane) : z.Sane := by
  obtain ⟨r1, r2, r3, r4, r5, r6, k, v, t, o, u, hs, _⟩ := hr
  have s1 := Rd.byte_sane h 108
  rw [hs.a1] at s1
  have s2 := Rd.text_sane s1 1024
  rw [hs.a2] at s2
  have s3 := Rd.int_sane s2
  rw [hs.a3] at s3
  have s4 := Rd.int_sane s3
  rw [hs.a4] at s4
  have s5 := Rd.text_sane s4 8192
  rw [hs.a5] at s5
  have s6 := Rd.int_sane s5
  rw [hs.a6] at s6
  have s7 := Rd.byte_sane s6 101
  rw [hs.a7] at s7
  exact s7
theorem reads_less {r z : Rd} {y : Ent} (hr : Ent.Reads r y z) (h : r.Sane) (hm : r.more = true) : z.b.length < r.b.length := by
  obtain ⟨r1, r2, r3, r4, r5, r6, k, v, t, o, u, hs, _⟩ := hr
  have h1 := byte_less h hm 108
  have s1 := Rd.byte_sane h 108
  rw [hs.a1] at s1 h1
  have h2 := text_le s1 1024
  have s2 := Rd.text_sane s1 1024
  rw [hs.a2] at s2 h2
  have h3 := int_le s2
  have s3 := Rd.int_sane s2
  rw [hs.a3] at s3 h3
  have h4 := int_le s3
  have s4 := Rd.int_sane s3
  rw [hs.a4] at s4 h4
  have h5 := text_le s4 8192
  have s5 := Rd.text_sane s4 8192
  rw [hs.a5] at s5 h5
  have h6 := int_le s5
  have s6 := Rd.int_sane s5
  rw [hs.a6] at s6 h6
  have h7 := byte_le r6 101
  rw [hs.a7] at h7
  simp only at *
  omega
/-- A list of members, of entries, as it is read. -/
inductive Mems : Rd → List Mem → Rd → Prop
  | stop {r : Rd} : r.more = false → Mems r [] r
  | step {r : Rd} {ms : List Mem} {z : Rd} : r.more = true → Mems r.mem.1 ms z → Mems r (r.mem.2 :: ms) z
inductive Ents : Rd → List Ent → Rd → Prop
  | stop {r : Rd} : r.more = false → Ents r [] r
  | step {r z : Rd} {y : Ent} {es : List Ent} {q : Rd} : r.more = true → Ent.Reads r y z → Ents z es q → Ents r (y :: es) q
theorem mems_some (n : Nat) : ∀ r : Rd, r.b.length ≤ n → r.Sane → ∃ ms z, Mems r ms z ∧ z.Sane ∧ ms.length ≤ n := by
  induction n with
  | zero =>
    intro r hn hs
    have hb : r.b = [] := List.eq_nil_of_length_eq_zero (by omega)
    exact ⟨[], r, .stop (by unfold Rd.more; rw [hb]), hs, by simp⟩
  | succ n ih =>
    intro r hn hs
    cases hm : r.more
    · exact ⟨[], r, .stop hm, hs, by simp⟩
    · have hl := mem_less hs hm
      obtain ⟨ms, z, h1, h2, h3⟩ := ih r.mem.1 (by omega) (mem_sane hs)
      exact ⟨_, z, .step hm h1, h2, by simp; omega⟩
theorem ents_some (n : Nat) : ∀ r : Rd, r.b.length ≤ n → r.Sane → ∃ es z, Ents r es z ∧ z.Sane ∧ es.length ≤ n := by
  induction n with
  | zero =>
    intro r hn hs
    have hb : r.b = [] := List.eq_nil_of_length_eq_zero (by omega)
    exact ⟨[], r, .stop (by unfold Rd.more; rw [hb]), hs, by simp⟩
  | succ n ih =>
    intro r hn hs
    cases hm : r.more
    · exact ⟨[], r, .stop hm, hs, by simp⟩
    · obtain ⟨y, z, hr⟩ := reads_some r
      have hl := reads_less hr hs hm
      obtain ⟨ms, q, h1, h2, h3⟩ := ih z (by omega) (reads_sane hr hs)
      exact ⟨_, q, .step hm hr h1, h2, by simp; omega⟩
end Go.Proofs.YtjdgmnaemopfdaaDoor
namespace Go.Proofs.YtjdgmnaemopfdaaDoor
open Go.RowKit Go.Lib
set_option linter.unusedVariables false
set_option maxRecDepth 100000
attribute [local go_sem ↓] Go.wp_at_zero Go.wp_at_succ

theorem pk_small_in {S : Nat → Prop} (g : Nat) (r r' : Rd) (most n : Int) (hx : r.small most = (r', n)) (w : World) (h : In.RdAt S w g r) (he : Env w) (hg : Hi g) :
    Calls Tryd.prog 60 #[.pointer (some ⟨g, 0, none⟩), .int .i64 most] w fun e w' => e = .returned (.int .i64 n) ∧ In.RdAt S w' g r' ∧ Only (At g) w w' := by
  obtain ⟨rfl, rfl⟩ := Prod.mk.inj hx
  have H := Lib.hid h
  have E := Lib.hid he
  have G := Lib.hid hg
  clear h he hg hx
  go_enter Tryd.func60, Tryd.ntmps60
  go_wp2_with fail
  refine (In.rdr_int g r _ H.out E.out G.out).mono ?_
  rintro e w1 ⟨rfl, hr, ho⟩
  have R1 := Lib.hid hr
  have O1 := Lib.hid ho
  clear hr ho
  go_wp2
  all_goals go_ret
  all_goals refine ⟨ret_num ?_, R1.out, O1.out⟩
  all_goals first | rfl | (split <;> omega)
/-- Blocks that were. -/
def Old (w : World) : Nat → Prop := fun k => k < w.heap.size
abbrev pkc (k f q s : Int) (A : Option Addr) (n c : Nat) (B : Option Addr) (m d : Nat) : Array Value := #[.int .u8 k, .int .u16 f, .int .u16 q, .int .i64 s, .slice A n c, .slice B m d]
def Side (w : World) (g b : Nat) : Nat → Prop := fun k => w.heap.size < k ∧ k ≠ g ∧ k ≠ b
/-- Ahead of the packet's box. -/
structure RPre (w W : World) (g : Nat) (r : Rd) : Prop where
  rd : In.RdAt (Old w) W g r
  env : Env W
  res : Hld W w.heap.size 50 (pkc 0 0 0 0 none 0 0 none 0 0)
  hg : w.heap.size < g
  hi : Hi g
  only : Only Noth w W
structure RPk (w W : World) (g b : Nat) (r : Rd) (k f q s : Int) (A : Option Addr) (c : Nat) (B : Option Addr) (d : Nat) (ms : List Mem) (es : List Ent) : Prop where
  rd : In.RdAt (Old w) W g r
  env : Env W
  res : Hld W w.heap.size 50 (pkc 0 0 0 0 none 0 0 none 0 0)
  box : Hld W b 50 (pkc k f q s A ms.length c B es.length d)
  hg : w.heap.size < g
  hb : g < b
  hi : Hi g
  msr : Row W (Side w g b) 68 3 (.slice A ms.length c) ms.length (ms.map Mem.cl).flatten
  esr : Row W (Side w g b) 64 5 (.slice B es.length d) es.length (es.map Ent.cl).flatten
  only : Only Noth w W
theorem inrd_only {S F : Nat → Prop} {w w' : World} {g : Nat} {r : Rd} (h : In.RdAt S w g r) (ho : Only F w w') (hg : ¬ F g) (hS : ∀ k, S k → ¬ F k) : In.RdAt S w' g r := by
  obtain ⟨hs, A, c, h1, h2, h3, h4⟩ := h
  exact ⟨hs, A, c, h1.only ho hg, h2.only ho (fun k hk => hS k hk.2), h3, h4⟩
section
variable {w W W' : World} {g b : Nat} {r r' : Rd} {k f q s : Int} {A B : Option Addr} {c d : Nat} {ms : List Mem} {es : List Ent}
theorem RPre.call (h : RPre w W g r) (hr : In.RdAt (Old w) W' g r') (ho : Only (At g) W W') : RPre w W' g r' :=
  ⟨hr, h.env.at_ ho h.hi, h.res.only ho (fun e => by have := h.hg; have e : w.heap.size = g := e; omega), h.hg, h.hi, h.only.trans ho (fun j hj hl => by have := h.hg; have hj : j = g := hj; omega)⟩
theorem RPk.call (h : RPk w W g b r k f q s A c B d ms es) (hr : In.RdAt (Old w) W' g r') (ho : Only (At g) W W') : RPk w W' g b r' k f q s A c B d ms es :=
  ⟨hr, h.env.at_ ho h.hi, h.res.only ho (fun e => by have := h.hg; have e : w.heap.size = g := e; omega), h.box.only ho (fun e => by have := h.hb; have e : b = g := e; omega), h.hg, h.hb, h.hi,
    h.msr.only ho (fun j hj e => hj.2.1 e), h.esr.only ho (fun j hj e => hj.2.1 e), h.only.trans ho (fun j hj hl => by have := h.hg; have hj : j = g := hj; omega)⟩
theorem RPk.noth (h : RPk w W g b r k f q s A c B d ms es) (ho : Only Noth W W') : RPk w W' g b r k f q s A c B d ms es :=
  ⟨inrd_only h.rd ho (fun h => h) (fun _ _ h => h), h.env.noth ho, h.res.only ho (fun h => h), h.box.only ho (fun h => h), h.hg, h.hb, h.hi, h.msr.only ho (fun _ _ h => h), h.esr.only ho (fun _ _ h => h), h.only.tr ho⟩
theorem RPre.noth (h : RPre w W g r) (ho : Only Noth W W') : RPre w W' g r :=
  ⟨inrd_only h.rd ho (fun h => h) (fun _ _ h => h), h.env.noth ho, h.res.only ho (fun h => h), h.hg, h.hi, h.only.tr ho⟩
theorem RPre.box (h : RPre w W g r) (hb : Hld W' b 50 (pkc k f q s none 0 0 none 0 0)) (hle : W.heap.size ≤ b) (ho : Only Noth W W') : RPk w W' g b r k f q s none 0 none 0 [] [] := by
  have h1 := h.rd
  obtain ⟨_, _, _, h2, _⟩ := h1
  have h3 := h2.lt
  exact ⟨inrd_only h.rd ho (fun h => h) (fun _ _ h => h), h.env.noth ho, h.res.only ho (fun h => h), hb, h.hg, by omega, h.hi, Row.nil _ _ _ _, Row.nil _ _ _ _, h.only.tr ho⟩
theorem RPk.hib (h : RPk w W g b r k f q s A c B d ms es) : Hi b := by
  obtain ⟨x, y, z⟩ := h.hi
  have := h.hb
  exact ⟨by omega, by omega, by omega⟩
theorem RPk.hiside (h : RPk w W g b r k f q s A c B d ms es) (j : Nat) (hj : w.heap.size < j) (he : Env w) : Hi j := he.hi (by omega)
/-- A member more. -/
theorem RPk.addm (h : RPk w W g b r k f q s A c B d ms es) (he : Env w) {m : Mem} {A' : Option Addr} {c' : Nat} {V : World}
    (hrow : Row V (Plus (Side w g b) W V) 68 3 (.slice A' (ms.length + 1) c') (ms.length + 1) ((ms.map Mem.cl).flatten ++ m.cl)) (ho : Only (Side w g b) W V)
    (hes : Row V (Side w g b) 64 5 (.slice B es.length d) es.length (es.map Ent.cl).flatten)
    (hb' : Hld W' b 50 (pkc k f q s A' (ms.length + 1) c' B es.length d)) (ho' : Only (At b) V W') : RPk w W' g b r k f q s A' c' B d (ms ++ [m]) es := by
  have hgl : g < W.heap.size := by
    obtain ⟨_, _, _, h2, _⟩ := h.rd
    exact h2.lt
  have hbl := h.box.lt
  have hw := h.only.size
  have e1 : (ms ++ [m]).length = ms.length + 1 := by simp
  have e2 : ((ms ++ [m]).map Mem.cl).flatten = (ms.map Mem.cl).flatten ++ m.cl := by simp
  have hrow2 : Row W' (Side w g b) 68 3 (.slice A' (ms.length + 1) c') (ms.length + 1) ((ms.map Mem.cl).flatten ++ m.cl) := by
    refine (hrow.mono (G := Side w g b) (fun j hj _ => ?_)).only ho' (fun j hj e => hj.2.2 e)
    rcases hj with hj | hj
    · exact hj
    · have := h.hg; exact ⟨by omega, by omega, by omega⟩
  refine ⟨?_, ?_, ?_, by rw [e1]; exact hb', h.hg, h.hb, h.hi, by rw [e1, e2]; exact hrow2, hes.only ho' (fun j hj e => hj.2.2 e), ?_⟩
  · refine inrd_only (inrd_only h.rd ho (fun e => e.2.1 rfl) (fun j hj e => ?_)) ho' (fun e => ?_) (fun j hj e => ?_)
    · have := e.1; have hj : j < w.heap.size := hj; omega
    · have := h.hb; have e : g = b := e; omega
    · have hj : j < w.heap.size := hj; have e : j = b := e; have := h.hb; have := h.hg; omega
  · exact (h.env.only ho (fun j hj => h.hiside j hj.1 he)).at_ ho' h.hib
  · exact (h.res.only ho (fun e => by have := e.1; omega)).only ho' (fun e => by have e : w.heap.size = b := e; have := h.hb; have := h.hg; omega)
  · exact (h.only.trans ho (fun j hj hl => by have := hj.1; omega)).trans ho' (fun j hj hl => by have hj : j = b := hj; have := h.hb; have := h.hg; omega)
end
/-- A row, its own block alone. -/
def OwnB (A : Option Addr) (c : Nat) : Nat → Prop := fun k => c ≠ 0 ∧ A = some ⟨k, 0, none⟩
theorem Row.tight {w : World} {F : Nat → Prop} {e : TypeId} {size n c : Nat} {A : Option Addr} {xs : List Value} (h : Row w F e size (.slice A n c) n xs) : Row w (OwnB A c) e size (.slice A n c) n xs ∧ ∀ k, OwnB A c k → F k ∧ ∃ cur, w.heap[k]? = some (.cells cur e (0, 0)) := by
  obtain ⟨hl, A', cap, hv, h1, h2, h3⟩ := h
  injection hv with e1 e2 e3
  subst e1
  subst e3
  rcases h3 with h3 | ⟨g, cur, hA, hF, hg, hc, ht⟩
  · exact ⟨⟨hl, A, c, rfl, h1, h2, .inl h3⟩, fun k hk => absurd h3 hk.1⟩
  · by_cases hc0 : c = 0
    · exact ⟨⟨hl, A, c, rfl, h1, h2, .inl hc0⟩, fun k hk => absurd hc0 hk.1⟩
    · refine ⟨⟨hl, A, c, rfl, h1, h2, .inr ⟨g, cur, hA, ⟨hc0, hA⟩, hg, hc, ht⟩⟩, fun k hk => ?_⟩
      have := hk.2
      rw [hA] at this
      injection this with this
      injection this with this
      subst this
      exact ⟨hF, cur, hg⟩
theorem Row.apart {w : World} {F G : Nat → Prop} {e e' : TypeId} {size size' n n' c c' : Nat} {A B : Option Addr} {xs ys : List Value} (h : Row w F e size (.slice A n c) n xs) (h' : Row w G e' size' (.slice B n' c') n' ys) (hne : e ≠ e') : ∀ k, OwnB A c k → ¬ OwnB B c' k := fun k h1 h2 => by
  obtain ⟨_, cur, e1⟩ := h.tight.2 k h1
  obtain ⟨_, cur', e2⟩ := h'.tight.2 k h2
  rw [e1] at e2
  injection e2 with e2
  injection e2 with _ e3
  exact hne e3
/-- The head of what Read reads. -/
def Head (l : List UInt8) (k f q s : Int) (z : Rd) : Prop :=
  ∃ r1 r2 r3 r4 r5, Rd.byte ⟨l, 0⟩ 108 = r1 ∧ r1.small 255 = (r2, k) ∧ r2.small 255 = (r3, f) ∧ r3.small 255 = (r4, q) ∧ r4.small 1099511627777 = (r5, s) ∧ r5.byte 108 = z
theorem head_some (l : List UInt8) : ∃ k f q s z, Head l k f q s z := ⟨_, _, _, _, _, _, _, _, _, _, rfl, rfl, rfl, rfl, rfl, rfl⟩
theorem head_nums {l : List UInt8} {k f q s : Int} {z : Rd} (h : Head l k f q s z) : (0 ≤ k ∧ k ≤ 255) ∧ (0 ≤ f ∧ f ≤ 255) ∧ (0 ≤ q ∧ q ≤ 255) ∧ 0 ≤ s ∧ s ≤ 1099511627777 := by
  obtain ⟨r1, r2, r3, r4, r5, _, h1, h2, h3, h4, _⟩ := h
  have a1 := r1.small_ge (most := 255) (by omega)
  have a2 := r2.small_ge (most := 255) (by omega)
  have a3 := r3.small_ge (most := 255) (by omega)
  have a4 := r4.small_ge (most := 1099511627777) (by omega)
  rw [h1] at a1
  rw [h2] at a2
  rw [h3] at a3
  rw [h4] at a4
  exact ⟨a1, a2, a3, a4⟩
theorem mems_long {r z : Rd} {ms : List Mem} (h : Mems r ms z) : r.Sane → ms.length + z.b.length ≤ r.b.length ∧ z.Sane ∧ ∀ m ∈ ms, (0 ≤ m.node ∧ m.node ≤ 255) ∧ (0 ≤ m.st ∧ m.st ≤ 255) ∧ 0 ≤ m.inc ∧ m.inc ≤ 1099511627776 := by
  induction h with
  | stop _ => intro hs; exact ⟨by simp, hs, by simp⟩
  | step hm _ ih =>
    intro hs
    have h1 := mem_less hs hm
    obtain ⟨h2, h3, h4⟩ := ih (mem_sane hs)
    refine ⟨by simp only [List.length_cons]; omega, h3, fun m hm => ?_⟩
    rcases List.mem_cons.1 hm with rfl | hm
    · exact ⟨Rd.small_ge _ (by omega), Rd.small_ge _ (by omega), Rd.small_ge _ (by omega)⟩
    · exact h4 m hm
end Go.Proofs.YtjdgmnaemopfdaaDoor
namespace Go.Proofs.YtjdgmnaemopfdaaDoor
open Go.RowKit Go.Lib
set_option linter.unusedVariables false
set_option maxRecDepth 100000
attribute [local go_sem ↓] Go.wp_at_zero Go.wp_at_succ

section
variable {w W W' : World} {g b : Nat} {r r' : Rd} {k f q s : Int} {A B : Option Addr} {c d : Nat} {ms : List Mem} {es : List Ent}
theorem RPk.adde (h : RPk w W g b r k f q s A c B d ms es) (he : Env w) {x : Ent} {B' : Option Addr} {d' : Nat} {V : World}
    (hrow : Row V (Plus (OwnB B d) W V) 64 5 (.slice B' (es.length + 1) d') (es.length + 1) ((es.map Ent.cl).flatten ++ x.cl)) (ho1 : Only (OwnB B d) W V)
    (hb' : Hld W' b 50 (pkc k f q s A ms.length c B' (es.length + 1) d')) (ho' : Only (At b) V W') : RPk w W' g b r k f q s A c B' d' ms (es ++ [x]) := by
  have hgl : g < W.heap.size := by
    obtain ⟨_, _, _, h2, _⟩ := h.rd
    exact h2.lt
  have hbl := h.box.lt
  have hw := h.only.size
  have ho : Only (Side w g b) W V := ho1.mono (fun j hj _ => (h.esr.tight.2 j hj).1)
  have e1 : (es ++ [x]).length = es.length + 1 := by simp
  have e2 : ((es ++ [x]).map Ent.cl).flatten = (es.map Ent.cl).flatten ++ x.cl := by simp
  have hrow2 : Row W' (Side w g b) 64 5 (.slice B' (es.length + 1) d') (es.length + 1) ((es.map Ent.cl).flatten ++ x.cl) := by
    refine (hrow.mono (G := Side w g b) (fun j hj _ => ?_)).only ho' (fun j hj e => hj.2.2 e)
    rcases hj with hj | hj
    · exact (h.esr.tight.2 j hj).1
    · have := h.hg; exact ⟨by omega, by omega, by omega⟩
  have hms : Row V (Side w g b) 68 3 (.slice A ms.length c) ms.length (ms.map Mem.cl).flatten :=
    (h.msr.tight.1.only ho1 (fun j hj => Row.apart h.msr h.esr (by decide) j hj)).mono (fun j hj _ => (h.msr.tight.2 j hj).1)
  refine ⟨?_, ?_, ?_, by rw [e1]; exact hb', h.hg, h.hb, h.hi, hms.only ho' (fun j hj e => hj.2.2 e), by rw [e1, e2]; exact hrow2, ?_⟩
  · refine inrd_only (inrd_only h.rd ho (fun e => e.2.1 rfl) (fun j hj e => ?_)) ho' (fun e => ?_) (fun j hj e => ?_)
    · have := e.1; have hj : j < w.heap.size := hj; omega
    · have := h.hb; have e : g = b := e; omega
    · have hj : j < w.heap.size := hj; have e : j = b := e; have := h.hb; have := h.hg; omega
  · exact (h.env.only ho (fun j hj => h.hiside j hj.1 he)).at_ ho' h.hib
  · exact (h.res.only ho (fun e => by have := e.1; omega)).only ho' (fun e => by have e : w.heap.size = b := e; have := h.hb; have := h.hg; omega)
  · exact (h.only.trans ho (fun j hj hl => by have := hj.1; omega)).trans ho' (fun j hj hl => by have hj : j = b := hj; have := h.hb; have := h.hg; omega)
end
theorem wpN_store_ent {ops : Array Oper} {Q : Exit → Act → World → Prop} {md : Region.Mode} {F : Nat → Prop} {w0 : World} {i : Nat} {o : Oper} {n : Nat} {listed : Array Bool} {a : Act} {w : World} (hr : Region.ready md ops listed = [i]) (hi : ops[i]? = some o) (hw : Region.wanted o (yielded ops a.tmps) = true)
    (hdst : o.dst = none) (x y : Operand) (ho : o.op = .store 48 x y) (g k : Nat) (hx : a.eval x = .pointer (some ⟨g, k, none⟩)) (A : Option Addr) (m c : Nat) (hy : a.eval y = .slice A m c) (t : TypeId) (cs : Array Value) (hg : Hld w g t cs) (u : Value) (hu : cs[k]? = some u)
    (hS : Only F w0 w) (hF : F g)
    (h : ∀ w', Hld w' g t (cs.setIfInBounds k (.slice A m c)) → Only (At g) w w' → Only F w0 w' → wpN Tryd.prog md ops Q F w0 n (listed.setIfInBounds i true) a w') : wpN Tryd.prog md ops Q F w0 (n + 1) listed a w := by
  refine wpN_one hr hi hw (fun w1 h1 => ?_)
  have hg1 := hg.only h1 (fun h => h)
  have c0 := (hg1.cell k).trans hu
  have f0 := hg1.free k
  have hA : Only (At g) w (w1.setCell ⟨g, k, none⟩ (.slice A m c)) := (Only.at_of h1).at_tr ((Only.refl (At g) w1).setCell (p := ⟨g, k, none⟩) (fun _ => rfl) _)
  have hE : Only F w0 (w1.setCell ⟨g, k, none⟩ (.slice A m c)) := hS.trans hA (fun j hj _ => by have hj : j = g := hj; rw [hj]; exact hF)
  have K := And.intro hE (h _ (hg1.set_ k (.slice A m c)) hA hE)
  have hp : ∀ v, a.put none v = a := fun _ => rfl
  unfold Oper.wp execOp
  simp only [ho, hx, hy]
  go_simp
  first | done | simpa [Oper.upon, hdst, hp] using K
end Go.Proofs.YtjdgmnaemopfdaaDoor
