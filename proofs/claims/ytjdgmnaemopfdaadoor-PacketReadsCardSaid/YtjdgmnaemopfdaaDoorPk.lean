/- Packets: data, and as they lie in memory. -/
import Derived.Test.YtjdgmnaemopfdaaDoorReadB
import Derived.Test.YtjdgmnaemopfdaaDoorOrdC
import Derived.Test.YtjdgmnaemopfdaaDoorRefL
namespace Go.Proofs.YtjdgmnaemopfdaaDoor
open Go.RowKit Go.Lib
set_option linter.unusedVariables false
set_option maxRecDepth 100000

/-- A member. -/
structure Mem where
  node : Int
  st : Int
  inc : Int
abbrev Mem.cl (m : Mem) : List Value := [.int .u16 m.node, .int .u8 m.st, .int .i64 m.inc]
abbrev Ent.cl (e : Ent) : List Value := [.string e.key, .int .i64 e.time, .int .u16 e.org, .string e.val, .int .i64 e.til]
structure Mem.Ok (m : Mem) : Prop where
  n0 : 0 ≤ m.node
  n1 : m.node ≤ 65535
  s0 : 0 ≤ m.st
  s1 : m.st ≤ 255
  i0 : -9223372036854775808 ≤ m.inc
  i1 : m.inc ≤ 9223372036854775807
structure Ent.Ok (e : Ent) : Prop where
  t0 : -9223372036854775808 ≤ e.time
  t1 : e.time ≤ 9223372036854775807
  o0 : 0 ≤ e.org
  o1 : e.org ≤ 65535
  u0 : -9223372036854775808 ≤ e.til
  u1 : e.til ≤ 9223372036854775807
/-- What is laid for a member. -/
def tMem (m : Mem) : List UInt8 := tList [tInt m.node, tInt m.st, tInt m.inc]
/-- Elements of some cells each lie one behind the other, in a block of S. -/
def ElAt (w : World) (S : Nat → Prop) (size : Nat) (A : Option Addr) (xs : List (List Value)) : Prop :=
  0 < xs.length → ∃ b o, A = some ⟨b, o, none⟩ ∧ S b ∧ b < w.heap.size ∧ ∀ (k : Nat) cs, xs[k]? = some cs → ∀ (j : Nat) v, cs[j]? = some v → w.cell? ⟨b, o + k * size + j, none⟩ = some v
theorem ElAt.only {w w' : World} {S F : Nat → Prop} {size : Nat} {A : Option Addr} {xs : List (List Value)} (h : ElAt w S size A xs) (ho : Only F w w') (hSF : ∀ k, S k → ¬ F k) : ElAt w' S size A xs := fun hn => by
  obtain ⟨b, o, hA, hS, hlt, hc⟩ := h hn
  exact ⟨b, o, hA, hS, Nat.lt_of_lt_of_le hlt ho.size, fun k cs hk j v hv => (ho.cell (p := ⟨b, o + k * size + j, none⟩) hlt (hSF b hS)).trans (hc k cs hk j v hv)⟩
theorem ElAt.noth {w w' : World} {S : Nat → Prop} {size : Nat} {A : Option Addr} {xs : List (List Value)} (h : ElAt w S size A xs) (ho : Only Noth w w') : ElAt w' S size A xs := h.only ho (fun _ _ h => h)
theorem ElAt.mono {w : World} {S S' : Nat → Prop} {size : Nat} {A : Option Addr} {xs : List (List Value)} (h : ElAt w S size A xs) (hS : ∀ k, S k → k < w.heap.size → S' k) : ElAt w S' size A xs := fun hn => by
  obtain ⟨b, o, hA, h1, hlt, hc⟩ := h hn
  exact ⟨b, o, hA, hS b h1 hlt, hlt, hc⟩
/-- A member's, an entry's cells. -/
theorem ElAt.mem {w : World} {S : Nat → Prop} {A : Option Addr} {ms : List Mem} (h : ElAt w S 3 A (ms.map Mem.cl)) {k : Nat} {m : Mem} (hk : ms[k]? = some m) :
    ∃ b o, A = some ⟨b, o, none⟩ ∧ S b ∧ b < w.heap.size ∧ w.cell? ⟨b, o + k * 3, none⟩ = some (.int .u16 m.node) ∧ w.cell? ⟨b, o + k * 3 + 1, none⟩ = some (.int .u8 m.st) ∧ w.cell? ⟨b, o + k * 3 + 2, none⟩ = some (.int .i64 m.inc) := by
  have hlt := (List.getElem?_eq_some_iff.1 hk).1
  obtain ⟨b, o, hA, hS, hb, hc⟩ := h (by rw [List.length_map]; omega)
  have hc := hc k m.cl (by rw [List.getElem?_map, hk]; rfl)
  exact ⟨b, o, hA, hS, hb, hc 0 _ rfl, hc 1 _ rfl, hc 2 _ rfl⟩
theorem ElAt.ent {w : World} {S : Nat → Prop} {A : Option Addr} {es : List Ent} (h : ElAt w S 5 A (es.map Ent.cl)) {k : Nat} {e : Ent} (hk : es[k]? = some e) :
    ∃ b o, A = some ⟨b, o, none⟩ ∧ S b ∧ b < w.heap.size ∧ w.cell? ⟨b, o + k * 5, none⟩ = some (.string e.key) ∧ w.cell? ⟨b, o + k * 5 + 1, none⟩ = some (.int .i64 e.time) ∧ w.cell? ⟨b, o + k * 5 + 2, none⟩ = some (.int .u16 e.org) ∧ w.cell? ⟨b, o + k * 5 + 3, none⟩ = some (.string e.val) ∧ w.cell? ⟨b, o + k * 5 + 4, none⟩ = some (.int .i64 e.til) := by
  have hlt := (List.getElem?_eq_some_iff.1 hk).1
  obtain ⟨b, o, hA, hS, hb, hc⟩ := h (by rw [List.length_map]; omega)
  have hc := hc k e.cl (by rw [List.getElem?_map, hk]; rfl)
  exact ⟨b, o, hA, hS, hb, hc 0 _ rfl, hc 1 _ rfl, hc 2 _ rfl, hc 3 _ rfl, hc 4 _ rfl⟩
section
variable {P : Program} {ops : Array Oper} {Q : Exit → Act → World → Prop} {md : Region.Mode} {F : Nat → Prop} {w0 : World}
/-- A slice that is made of values, alone. -/
theorem wpN_build {i : Nat} {o : Oper} {d : Option Tmp} {n m : Nat} {listed : Array Bool} {a : Act} {w : World} {t : TypeId} {z : Array Value} (hr : Region.ready md ops listed = [i]) (hi : ops[i]? = some o) (hd : o.dst = d) (hw : Region.wanted o (yielded ops a.tmps) = true)
    (hS : Only F w0 w) (he : ∀ w1, (execOp a.eval o).run P w1 = .ok (.value (.slice (some ⟨w1.heap.size, 0, none⟩) m m)) (w1.alloc (.cells z t)))
    (h : ∀ w2 p, Only Noth w w2 → Hld w2 p t z → w.heap.size ≤ p → wpN P md ops Q F w0 n (listed.setIfInBounds i true) (a.put d (.slice (some ⟨p, 0, none⟩) m m)) w2) : wpN P md ops Q F w0 (n + 1) listed a w := by
  subst hd
  refine wpN_one hr hi hw (fun w1 h1 => ?_)
  unfold Oper.wp
  rw [he w1]
  exact ⟨only_up _ _ _ hS (h1.alloc _), h _ _ (h1.alloc _) (Hld.new w1 t z) h1.size⟩
end
theorem Hld.src {w : World} {g : Nat} {t : TypeId} {cs : Array Value} (h : Hld w g t cs) (n : Nat) (hn : cs.size = n) : Src w (fun k => k < w.heap.size) 1 (some ⟨g, 0, none⟩) n cs.toList := by
  refine ⟨by simp [hn], fun _ => ⟨_, rfl, h.lt, h.lt, fun j u hu => ?_⟩⟩
  rw [add_plain', Nat.zero_add, h.cell j]
  simpa using hu
end Go.Proofs.YtjdgmnaemopfdaaDoor
