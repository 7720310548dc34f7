/- Within the document's Read of a packet. -/
import Derived.Test.YtjdgmnaemopfdaaDoorMRE
import Derived.Test.YtjdgmnaemopfdaaDoorMPB
import Derived.Test.YtjdgmnaemopfdaaDoorMRZ
namespace Go.Proofs.YtjdgmnaemopfdaaDoor
open Go.RowKit Go.Lib
set_option linter.unusedVariables false
set_option maxRecDepth 100000

theorem int_range (r : Rd) : -9223372036854775808 ≤ r.int.2 ∧ r.int.2 ≤ 9223372036854775807 := by
  by_cases h : r.int.1.err = 0
  · exact (Rd.int_back h).2.2
  · have h0 : r.int.2 = 0 := by
      unfold Rd.int at h ⊢
      by_cases he : r.err ≠ 0
      · rw [if_pos he]
      · rw [if_neg he] at h ⊢
        cases hb : r.b with
        | nil => rfl
        | cons c t =>
          rw [hb] at h
          simp only [] at h ⊢
          by_cases hc : c ≠ 105
          · rw [if_pos hc]
          · rw [if_neg hc] at h ⊢
            simp only [] at h ⊢
            unfold Rd.till at h ⊢
            split
            · rfl
            · rename_i k hk
              simp only [hk] at h
              split
              · rfl
              · rename_i n hn
                simp only [hn] at h
                exact absurd trivial h
    rw [h0]
    omega
/-- Four numbers, three numbers, as far as they are read. -/
def arr4 (vs : List Int) : Array Value := ((vs ++ List.replicate (4 - vs.length) 0).map fun n => Value.int .i64 n).toArray
def arr3 (vs : List Int) : Array Value := ((vs ++ List.replicate (3 - vs.length) 0).map fun n => Value.int .i64 n).toArray
theorem arr4_at {vs : List Int} {k : Nat} (h : vs.length = k) (hk : k < 4) : (arr4 vs)[k]? = some (.int .i64 0) := by
  subst h
  match vs, hk with
  | [], _ => rfl
  | [_], _ => rfl
  | [_, _], _ => rfl
  | [_, _, _], _ => rfl
theorem arr3_at {vs : List Int} {k : Nat} (h : vs.length = k) (hk : k < 3) : (arr3 vs)[k]? = some (.int .i64 0) := by
  subst h
  match vs, hk with
  | [], _ => rfl
  | [_], _ => rfl
  | [_, _], _ => rfl
theorem arr4_set {vs : List Int} {k : Nat} (v : Int) (h : vs.length = k) (hk : k < 4) : (arr4 vs).setIfInBounds k (.int .i64 v) = arr4 (vs ++ [v]) := by
  subst h
  match vs, hk with
  | [], _ => rfl
  | [_], _ => rfl
  | [_, _], _ => rfl
  | [_, _, _], _ => rfl
theorem arr3_set {vs : List Int} {k : Nat} (v : Int) (h : vs.length = k) (hk : k < 3) : (arr3 vs).setIfInBounds k (.int .i64 v) = arr3 (vs ++ [v]) := by
  subst h
  match vs, hk with
  | [], _ => rfl
  | [_], _ => rfl
  | [_, _], _ => rfl
theorem arr4_got {vs : List Int} {k : Nat} (v : Int) (h : vs.length = k) (hk : k < 4) : (arr4 (vs ++ [v]))[k]? = some (.int .i64 v) := by
  subst h
  match vs, hk with
  | [], _ => rfl
  | [_], _ => rfl
  | [_, _], _ => rfl
  | [_, _, _], _ => rfl
theorem arr3_got {vs : List Int} {k : Nat} (v : Int) (h : vs.length = k) (hk : k < 3) : (arr3 (vs ++ [v]))[k]? = some (.int .i64 v) := by
  subst h
  match vs, hk with
  | [], _ => rfl
  | [_], _ => rfl
  | [_, _], _ => rfl
/-- Each number is not too great; the last of m may be any. -/
def Nice (m : Nat) (vs : List Int) : Prop := ∀ (j : Nat) v, vs[j]? = some v → 0 ≤ v ∧ v ≤ 9223372036854775807 ∧ (j + 1 < m → v ≤ 255)
theorem Nice.snoc {m k : Nat} {vs : List Int} {v : Int} (h : Nice m vs) (hk : vs.length = k) (h0 : 0 ≤ v) (h1 : v ≤ 9223372036854775807) (h2 : k + 1 < m → v ≤ 255) : Nice m (vs ++ [v]) := fun j u hj => by
  by_cases hlt : j < vs.length
  · rw [List.getElem?_append_left hlt] at hj
    exact h j u hj
  · have := (List.getElem?_eq_some_iff.1 hj).1
    rw [List.length_append] at this
    simp at this
    have hj2 : j = vs.length := by omega
    subst hj2
    rw [List.getElem?_append_right (Nat.le_refl _)] at hj
    simp at hj
    subst hj
    exact ⟨h0, h1, fun h => h2 (by omega)⟩
/-- The numbers of a packet, of a member, and what stands behind them. -/
def Pkt.nums (q : Pkt) : List Int := [q.kind, q.frm, q.abt, q.seq]
def Mem.nums (m : Mem) : List Int := [m.node, m.st, m.inc]
def Pkt.back (q : Pkt) : List UInt8 := 108 :: ((q.es.map Ent.bytes).flatten ++ [101, 101])
def left (ns : List Int) (k : Nat) (t : List UInt8) : Rd := ⟨((ns.drop k).map tInt).flatten ++ t, 0⟩
theorem left_step {ns : List Int} {k : Nat} {n : Int} {t : List UInt8} (h : ns[k]? = some n) (h0 : -9223372036854775808 ≤ n) (h1 : n ≤ 9223372036854775807) : (left ns k t).int = (left ns (k + 1) t, n) := by
  obtain ⟨hk, rfl⟩ := List.getElem?_eq_some_iff.1 h
  unfold left
  rw [List.drop_eq_getElem_cons hk, List.map_cons, List.flatten_cons, List.append_assoc, Rd.int_laid _ _ h0 h1]
theorem left_end {ns : List Int} {k : Nat} {t : List UInt8} (h : ns.length ≤ k) : left ns k t = ⟨t, 0⟩ := by
  unfold left
  rw [List.drop_of_length_le h]
  rfl
/-- The readers of a packet that may be. -/
theorem of_head {l : List UInt8} {q : Pkt} (h : q.Of l) : Rd.byte ⟨l, 0⟩ 108 = left q.nums 0 (108 :: ((q.ms.map tMem).flatten ++ 101 :: q.back)) := by
  obtain ⟨_, _, rfl⟩ := h
  rw [pbytes_app, Rd.byte_laid]
  simp [left, Pkt.nums, Pkt.back]
theorem of_nums {l : List UInt8} {q : Pkt} (h : q.Of l) : Nice 4 q.nums ∧ q.nums.length = 4 := by
  obtain ⟨hf, h0, -⟩ := h
  obtain ⟨g1, -, -⟩ := pcheck_zero.1 h0
  simp only [not_or] at g1
  obtain ⟨a1, a2, a3, a4, a5, -⟩ := g1
  refine ⟨fun j v hj => ?_, rfl⟩
  have := hf.k0
  have := hf.f0
  have := hf.a0
  match j, hj with
  | 0, hj => simp [Pkt.nums] at hj; subst hj; omega
  | 1, hj => simp [Pkt.nums] at hj; subst hj; omega
  | 2, hj => simp [Pkt.nums] at hj; subst hj; omega
  | 3, hj => simp [Pkt.nums] at hj; subst hj; omega
  | j + 4, hj => simp [Pkt.nums] at hj
theorem of_mem {l : List UInt8} {q : Pkt} (h : q.Of l) {m : Mem} (hm : m ∈ q.ms) : m.wrong = false ∧ m.Ok := by
  obtain ⟨hf, h0, -⟩ := h
  obtain ⟨g1, -, -⟩ := pcheck_zero.1 h0
  simp only [not_or] at g1
  obtain ⟨-, -, -, -, -, -, -, a8⟩ := g1
  simp only [Bool.not_eq_true, List.any_eq_false] at a8
  exact ⟨by simpa using a8 m hm, hf.m m hm⟩
theorem of_mnums {l : List UInt8} {q : Pkt} (h : q.Of l) {m : Mem} (hm : m ∈ q.ms) : Nice 3 m.nums := by
  obtain ⟨h1, h2⟩ := of_mem h hm
  obtain ⟨a1, a2, a3, a4⟩ := wrong_no h1 h2
  intro j v hj
  have := h2.n0
  have := h2.s0
  match j, hj with
  | 0, hj => simp [Mem.nums] at hj; subst hj; omega
  | 1, hj => simp [Mem.nums] at hj; subst hj; omega
  | 2, hj => simp [Mem.nums] at hj; subst hj; omega
  | j + 3, hj => simp [Mem.nums] at hj
theorem of_ent {l : List UInt8} {q : Pkt} (h : q.Of l) {e : Ent} (he : e ∈ q.es) : e.check = 0 ∧ e.Ok := by
  obtain ⟨hf, h0, -⟩ := h
  exact ⟨firstBad_all.1 (pcheck_zero.1 h0).2.1 e he, (hf.e e he).1⟩
theorem mem_left (m : Mem) (t : List UInt8) : Rd.byte ⟨tMem m ++ t, 0⟩ 108 = left m.nums 0 (101 :: t) := by
  rw [tMem_app, Rd.byte_laid]
  simp [left, Mem.nums]
/-- The numbers that were read are those of a packet that may be: how they stand when one more is read. -/
theorem nums_step {ns vs : List Int} {k m : Nat} {t : List UInt8} {r r' : Rd} {v : Int} (hn : Nice m ns) (hk : k < ns.length) (hr : r = left ns k t) (hv : vs = ns.take k) (hint : r.int = (r', v)) : (0 ≤ v ∧ (k + 1 < m → v ≤ 255)) ∧ r' = left ns (k + 1) t ∧ vs ++ [v] = ns.take (k + 1) := by
  have hg : ns[k]? = some ns[k] := List.getElem?_eq_getElem hk
  obtain ⟨a1, a2, a3⟩ := hn k _ hg
  rw [hr, left_step hg (by omega) a2] at hint
  injection hint with e1 e2
  subst e1 e2 hv
  exact ⟨⟨a1, a3⟩, rfl, by rw [List.take_add_one, hg]; rfl⟩
/-- What the document's Read of a packet hands back. -/
def RReadAns (l : List UInt8) (e : Ending) (w' : World) : Prop :=
  (∃ q : Pkt, q.Of l ∧ ∃ A c B d, e = .returned (.tuple #[.agg (pkc q.kind q.frm q.abt q.seq A q.ms.length c B q.es.length d), .int .i64 0]) ∧ PkAt w' A c B d q) ∨
  ((∀ q : Pkt, ¬ q.Of l) ∧ e = .returned (.tuple #[.agg (pkc 0 0 0 0 none 0 0 none 0 0), .int .i64 14]))
/-- New blocks, none of the boxes. -/
def Fresh (w : World) (rb : Nat) : Nat → Prop := fun k => w.heap.size + 1 + 1 < k ∧ k ≠ rb
/-- The boxes: the answer's, the packet's, the numbers', the reader's. -/
structure RQ (w W : World) (rb : Nat) (A : Option Addr) (c : Nat) (r : Rd) (ns pk : Array Value) : Prop where
  box : Hld W rb 40 #[.slice A r.b.length c, .int .i64 r.err]
  rv : In.Rv (Old w) W (.agg #[.slice A r.b.length c, .int .i64 r.err]) r
  res : Hld W w.heap.size 50 (pkc 0 0 0 0 none 0 0 none 0 0)
  p : Hld W (w.heap.size + 1) 50 pk
  n : Hld W (w.heap.size + 1 + 1) 98 ns
  only : Only Noth w W
  hrb : w.heap.size + 1 + 1 < rb
section
variable {w W W1 W2 : World} {rb : Nat} {A A' : Option Addr} {c c' : Nat} {r r' : Rd} {ns ns' pk pk' : Array Value}
theorem rv_old {F : Nat → Prop} {v : Value} (h : In.Rv (Old w) W v r) (ho : Only F W W2) (hF : ∀ k, F k → w.heap.size ≤ k) : In.Rv (Old w) W2 v r :=
  rv_only2 (w := w) h (fun k hk => hk) ho hF
theorem RQ.fresh {F : Nat → Prop} (h : RQ w W rb A c r ns pk) (ho : Only F W W1) (hF : ∀ k, F k → Fresh w rb k) : RQ w W1 rb A c r ns pk :=
  ⟨h.box.only ho (fun e => (hF _ e).2 rfl), rv_old h.rv ho (fun k hk => by have := (hF k hk).1; omega), h.res.only ho (fun e => by have := (hF _ e).1; omega), h.p.only ho (fun e => by have := (hF _ e).1; omega), h.n.only ho (fun e => by have := (hF _ e).1; omega), h.only.trans ho (fun j hj hl => by have := (hF j hj).1; omega), h.hrb⟩
theorem RQ.call (h : RQ w W rb A c r ns pk) (ho : Only Noth W W1) : RQ w W1 rb A c r ns pk := h.fresh ho (fun _ h => h.elim)
theorem RQ.putr (h : RQ w W rb A c r ns pk) (hv : In.Rv (Old w) W (.agg #[.slice A' r'.b.length c', .int .i64 r'.err]) r') (hb : Hld W2 rb 40 #[.slice A' r'.b.length c', .int .i64 r'.err]) (ho : Only (fun k => k = rb) W W2) : RQ w W2 rb A' c' r' ns pk := by
  have hr := h.hrb
  exact ⟨hb, rv_old hv ho (fun k hk => by have hk : k = rb := hk; omega), h.res.only ho (fun e => by have e : w.heap.size = rb := e; omega), h.p.only ho (fun e => by have e : w.heap.size + 1 = rb := e; omega), h.n.only ho (fun e => by have e : w.heap.size + 1 + 1 = rb := e; omega), h.only.trans ho (fun j hj hl => by have hj : j = rb := hj; omega), h.hrb⟩
theorem RQ.putn (h : RQ w W rb A c r ns pk) (hb : Hld W2 (w.heap.size + 1 + 1) 98 ns') (ho : Only (fun k => k = w.heap.size + 1 + 1) W W2) : RQ w W2 rb A c r ns' pk := by
  have hr := h.hrb
  exact ⟨h.box.only ho (fun e => by have e : rb = w.heap.size + 1 + 1 := e; omega), rv_old h.rv ho (fun k hk => by have hk : k = w.heap.size + 1 + 1 := hk; omega), h.res.only ho (fun e => by have e : w.heap.size = w.heap.size + 1 + 1 := e; omega), h.p.only ho (fun e => by have e : w.heap.size + 1 = w.heap.size + 1 + 1 := e; omega), hb, h.only.trans ho (fun j hj hl => by have hj : j = w.heap.size + 1 + 1 := hj; omega), h.hrb⟩
theorem RQ.putp (h : RQ w W rb A c r ns pk) (hb : Hld W2 (w.heap.size + 1) 50 pk') (ho : Only (fun k => k = w.heap.size + 1) W W2) : RQ w W2 rb A c r ns pk' := by
  have hr := h.hrb
  exact ⟨h.box.only ho (fun e => by have e : rb = w.heap.size + 1 := e; omega), rv_old h.rv ho (fun k hk => by have hk : k = w.heap.size + 1 := hk; omega), h.res.only ho (fun e => by have e : w.heap.size = w.heap.size + 1 := e; omega), hb, h.n.only ho (fun e => by have e : w.heap.size + 1 + 1 = w.heap.size + 1 := e; omega), h.only.trans ho (fun j hj hl => by have hj : j = w.heap.size + 1 := hj; omega), h.hrb⟩
end
end Go.Proofs.YtjdgmnaemopfdaaDoor
namespace Go.Proofs.YtjdgmnaemopfdaaDoor
open Go.RowKit Go.Lib
set_option linter.unusedVariables false
set_option maxRecDepth 100000

def FrX (w : World) (rb xb : Nat) : Nat → Prop := fun k => Fresh w rb k ∧ k ≠ xb
/-- The boxes and the two lists. -/
structure RQY (w W : World) (rb : Nat) (A : Option Addr) (c : Nat) (r : Rd) (ns pk : Array Value) (A1 : Option Addr) (c1 : Nat) (ms : List Mem) (B1 : Option Addr) (d1 : Nat) (es : List Ent) : Prop where
  q : RQ w W rb A c r ns pk
  msr : Row W (Fresh w rb) 68 3 (.slice A1 ms.length c1) ms.length (ms.map Mem.cl).flatten
  esr : Row W (Fresh w rb) 64 5 (.slice B1 es.length d1) es.length (es.map Ent.cl).flatten
/-- And one box more. -/
structure RQX (w W : World) (rb xb : Nat) (A : Option Addr) (c : Nat) (r : Rd) (ns pk : Array Value) (t : TypeId) (xs : Array Value) (A1 : Option Addr) (c1 : Nat) (ms : List Mem) (B1 : Option Addr) (d1 : Nat) (es : List Ent) : Prop where
  q : RQ w W rb A c r ns pk
  x : Hld W xb t xs
  hx : Fresh w rb xb
  msr : Row W (FrX w rb xb) 68 3 (.slice A1 ms.length c1) ms.length (ms.map Mem.cl).flatten
  esr : Row W (FrX w rb xb) 64 5 (.slice B1 es.length d1) es.length (es.map Ent.cl).flatten
section
variable {w W W1 W2 V : World} {rb xb : Nat} {A A' A1 B1 : Option Addr} {c c' c1 d1 : Nat} {r r' : Rd} {ns ns' pk pk' xs xs' : Array Value} {t : TypeId} {ms : List Mem} {es : List Ent}
theorem RQY.call (h : RQY w W rb A c r ns pk A1 c1 ms B1 d1 es) (ho : Only Noth W W1) : RQY w W1 rb A c r ns pk A1 c1 ms B1 d1 es := ⟨h.q.call ho, h.msr.only ho (fun _ _ h => h), h.esr.only ho (fun _ _ h => h)⟩
theorem RQX.call (h : RQX w W rb xb A c r ns pk t xs A1 c1 ms B1 d1 es) (ho : Only Noth W W1) : RQX w W1 rb xb A c r ns pk t xs A1 c1 ms B1 d1 es := ⟨h.q.call ho, h.x.only ho (fun h => h), h.hx, h.msr.only ho (fun _ _ h => h), h.esr.only ho (fun _ _ h => h)⟩
theorem RQY.putr (h : RQY w W rb A c r ns pk A1 c1 ms B1 d1 es) (hv : In.Rv (Old w) W (.agg #[.slice A' r'.b.length c', .int .i64 r'.err]) r') (hb : Hld W2 rb 40 #[.slice A' r'.b.length c', .int .i64 r'.err]) (ho : Only (fun k => k = rb) W W2) : RQY w W2 rb A' c' r' ns pk A1 c1 ms B1 d1 es :=
  ⟨h.q.putr hv hb ho, h.msr.only ho (fun k hk e => hk.2 e), h.esr.only ho (fun k hk e => hk.2 e)⟩
theorem RQX.putr (h : RQX w W rb xb A c r ns pk t xs A1 c1 ms B1 d1 es) (hv : In.Rv (Old w) W (.agg #[.slice A' r'.b.length c', .int .i64 r'.err]) r') (hb : Hld W2 rb 40 #[.slice A' r'.b.length c', .int .i64 r'.err]) (ho : Only (fun k => k = rb) W W2) : RQX w W2 rb xb A' c' r' ns pk t xs A1 c1 ms B1 d1 es :=
  ⟨h.q.putr hv hb ho, h.x.only ho (fun e => h.hx.2 e), h.hx, h.msr.only ho (fun k hk e => hk.1.2 e), h.esr.only ho (fun k hk e => hk.1.2 e)⟩
theorem RQX.putx (h : RQX w W rb xb A c r ns pk t xs A1 c1 ms B1 d1 es) (hb : Hld W2 xb t xs') (ho : Only (fun k => k = xb) W W2) : RQX w W2 rb xb A c r ns pk t xs' A1 c1 ms B1 d1 es :=
  ⟨h.q.fresh ho (fun k hk => by have hk : k = xb := hk; subst hk; exact h.hx), hb, h.hx, h.msr.only ho (fun k hk e => hk.2 e), h.esr.only ho (fun k hk e => hk.2 e)⟩
theorem RQY.enter (h : RQY w W rb A c r ns pk A1 c1 ms B1 d1 es) (t : TypeId) (xs : Array Value) : RQX w (W.alloc (.cells xs t)) rb W.heap.size A c r ns pk t xs A1 c1 ms B1 d1 es := by
  have a := (Only.refl Noth W).alloc (.cells xs t)
  have h2 := h.q.n.lt
  have h3 := h.q.box.lt
  have hlt : ∀ k, k < W.heap.size → k ≠ W.heap.size := fun k hk => by omega
  have r1 := (h.msr.mono (G := FrX w rb W.heap.size) (fun k hk hl => ⟨hk, hlt k hl⟩)).only a (fun _ _ h => h)
  have r2 := (h.esr.mono (G := FrX w rb W.heap.size) (fun k hk hl => ⟨hk, hlt k hl⟩)).only a (fun _ _ h => h)
  exact ⟨h.q.call a, Hld.new _ _ _, ⟨h2, by omega⟩, r1, r2⟩
theorem RQX.leave (h : RQX w W rb xb A c r ns pk t xs A1 c1 ms B1 d1 es) : RQY w W rb A c r ns pk A1 c1 ms B1 d1 es := ⟨h.q, h.msr.mono (fun k hk _ => hk.1), h.esr.mono (fun k hk _ => hk.1)⟩
theorem plus_fresh {F : Nat → Prop} (h : RQ w W rb A c r ns pk) (hF : ∀ k, F k → Fresh w rb k) : ∀ k, Plus F W V k → Fresh w rb k := fun k hk => by
  rcases hk with hk | hk
  · exact hF k hk
  · have h2 := h.n.lt
    have h3 := h.box.lt
    exact ⟨by have := hk.1; omega, by have := hk.1; omega⟩
theorem RQY.addm (h : RQY w W rb A c r ns pk A1 c1 ms B1 d1 es) {m : Mem} {k f q s : Int} (hrow : Row V (Plus (OwnB A1 c1) W V) 68 3 (.slice A' (ms.length + 1) c') (ms.length + 1) ((ms.map Mem.cl).flatten ++ m.cl)) (ho : Only (OwnB A1 c1) W V)
    (hb : Hld W2 (w.heap.size + 1) 50 (pkc k f q s A' (ms.length + 1) c' B1 es.length d1)) (ho2 : Only (fun k => k = w.heap.size + 1) V W2) : RQY w W2 rb A c r ns (pkc k f q s A' (ms ++ [m]).length c' B1 es.length d1) A' c' (ms ++ [m]) B1 d1 es := by
  have hown : ∀ k, OwnB A1 c1 k → Fresh w rb k := fun k hk => (h.msr.tight.2 k hk).1
  have hne : ∀ k, Fresh w rb k → k ≠ w.heap.size + 1 := fun k hk e => by have := hk.1; omega
  have e1 : (ms ++ [m]).length = ms.length + 1 := by simp
  have e2 : ((ms ++ [m]).map Mem.cl).flatten = (ms.map Mem.cl).flatten ++ m.cl := by simp
  refine ⟨(h.q.fresh ho hown).putp (by rw [e1]; exact hb) ho2, ?_, ?_⟩
  · rw [e1, e2]
    exact (hrow.mono (fun k hk _ => plus_fresh h.q hown k hk)).only ho2 (fun k hk e => hne k hk e)
  · exact ((h.esr.tight.1.only ho (fun k hk => h.esr.apart h.msr (by decide) k hk)).mono (fun k hk _ => (h.esr.tight.2 k hk).1)).only ho2 (fun k hk e => hne k hk e)
theorem RQY.adde (h : RQY w W rb A c r ns pk A1 c1 ms B1 d1 es) {x : Ent} {k f q s : Int} (hrow : Row V (Plus (OwnB B1 d1) W V) 64 5 (.slice A' (es.length + 1) c') (es.length + 1) ((es.map Ent.cl).flatten ++ x.cl)) (ho : Only (OwnB B1 d1) W V)
    (hb : Hld W2 (w.heap.size + 1) 50 (pkc k f q s A1 ms.length c1 A' (es.length + 1) c')) (ho2 : Only (fun k => k = w.heap.size + 1) V W2) : RQY w W2 rb A c r ns (pkc k f q s A1 ms.length c1 A' (es ++ [x]).length c') A1 c1 ms A' c' (es ++ [x]) := by
  have hown : ∀ k, OwnB B1 d1 k → Fresh w rb k := fun k hk => (h.esr.tight.2 k hk).1
  have hne : ∀ k, Fresh w rb k → k ≠ w.heap.size + 1 := fun k hk e => by have := hk.1; omega
  have e1 : (es ++ [x]).length = es.length + 1 := by simp
  have e2 : ((es ++ [x]).map Ent.cl).flatten = (es.map Ent.cl).flatten ++ x.cl := by simp
  refine ⟨(h.q.fresh ho hown).putp (by rw [e1]; exact hb) ho2, ?_, ?_⟩
  · exact ((h.msr.tight.1.only ho (fun k hk => h.msr.apart h.esr (by decide) k hk)).mono (fun k hk _ => (h.msr.tight.2 k hk).1)).only ho2 (fun k hk e => hne k hk e)
  · rw [e1, e2]
    exact (hrow.mono (fun k hk _ => plus_fresh h.q hown k hk)).only ho2 (fun k hk e => hne k hk e)
end
/-- At the head of the members' loop. -/
def RMs (w : World) (l : List UInt8) (rb : Nat) (a b d s : Int) (gh : Nat) (W : World) : Prop :=
  ∃ (A : Option Addr) (c : Nat) (r : Rd) (A1 : Option Addr) (c1 : Nat) (ms : List Mem), RQY w W rb A c r (arr4 [a, b, d, s]) (pkc a b d s A1 ms.length c1 none 0 0) A1 c1 ms none 0 [] ∧ (∀ m ∈ ms, m.Ok) ∧ ms.length + r.b.length ≤ l.length ∧
    (∀ q : Pkt, q.Of l → [a, b, d, s] = q.nums ∧ ∃ ms2, q.ms = ms ++ ms2 ∧ r = ⟨(ms2.map tMem).flatten ++ 101 :: q.back, 0⟩) ∧ gh = r.b.length
/-- At the head of the loop over a member's numbers. -/
def RM3 (w : World) (l : List UInt8) (rb xb : Nat) (a b d s : Int) (A1 : Option Addr) (c1 : Nat) (ms : List Mem) (len : Nat) (u : Value) (W : World) : Prop :=
  ∃ (k : Nat) (A : Option Addr) (c : Nat) (r : Rd) (vs : List Int), k ≤ 3 ∧ u = .int .i64 (k : Int) ∧ vs.length = k ∧ RQX w W rb xb A c r (arr4 [a, b, d, s]) (pkc a b d s A1 ms.length c1 none 0 0) 99 (arr3 vs) A1 c1 ms none 0 [] ∧ Nice 3 vs ∧ r.b.length < len ∧
    ∀ q : Pkt, q.Of l → [a, b, d, s] = q.nums ∧ ∃ x ms2, q.ms = ms ++ x :: ms2 ∧ vs = x.nums.take k ∧ r = left x.nums k (101 :: ((ms2.map tMem).flatten ++ 101 :: q.back))
/-- At the head of the entries' loop. -/
def REs (w : World) (l : List UInt8) (rb : Nat) (a b d s : Int) (A1 : Option Addr) (c1 : Nat) (ms : List Mem) (gh : Nat) (W : World) : Prop :=
  ∃ (A : Option Addr) (c : Nat) (r : Rd) (B1 : Option Addr) (d1 : Nat) (es : List Ent), RQY w W rb A c r (arr4 [a, b, d, s]) (pkc a b d s A1 ms.length c1 B1 es.length d1) A1 c1 ms B1 d1 es ∧ (∀ e ∈ es, e.Ok ∧ e.key.size ≤ 9223372036854775807 ∧ e.val.size ≤ 9223372036854775807) ∧ es.length + r.b.length ≤ l.length ∧
    (∀ q : Pkt, q.Of l → [a, b, d, s] = q.nums ∧ q.ms = ms ∧ ∃ es2, q.es = es ++ es2 ∧ r = ⟨(es2.map Ent.bytes).flatten ++ [101, 101], 0⟩) ∧ gh = r.b.length
end Go.Proofs.YtjdgmnaemopfdaaDoor
