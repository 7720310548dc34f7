/- Maps of alerts, as they lie in memory. -/
import Derived.Test.YtokgignmdgejoaaDoorAlP
import Derived.Maps.OwnSet
import Derived.Maps.RangeWalk
import Derived.Maps.Ext
namespace Go.Proofs.YtokgignmdgejoaaDoor
open Go.RowKit Go.Lib
open Go.Maps (Keyed)
set_option linter.unusedVariables false

abbrev Al.arr (e : Al) : Array Value := #[.slice (some ⟨e.blk, 0, none⟩) e.ls.length e.cap, .int .i64 e.st, .int .i64 e.en]
/-- How an alert reads (its labels by their place). -/
def rawD (b n c : Nat) (s t : Int) : DataW Unit := .agg [.lit (.int .i64 b), .lit (.int .i64 n), .lit (.int .i64 c), .lit (.int .i64 s), .lit (.int .i64 t)]
def nilD (c : Nat) (s t : Int) : DataW Unit := .agg [.lit (.int .i64 c), .lit (.int .i64 s), .lit (.int .i64 t)]
def entD (e : Al) : DataW Unit := rawD e.blk e.ls.length e.cap e.st e.en
theorem entD_inj {a b : Al} (h : entD a = entD b) : a.arr = b.arr := by
  unfold entD rawD at h
  simp only [DataW.agg.injEq, List.cons.injEq, DataW.lit.injEq, Lit.int.injEq, and_true, true_and] at h
  obtain ⟨h1, h2, h3, h4, h5⟩ := h
  unfold Al.arr
  rw [show a.blk = b.blk by omega, show a.ls.length = b.ls.length by omega, show a.cap = b.cap by omega, h4, h5]
abbrev zeroArr : Array Value := #[.slice none 0 0, .int .i64 0, .int .i64 0]
def entElem (v : Value) : Option (DataW Unit × List MemPlace) :=
  match v with
  | .agg a => match a.toList with
    | [.slice (some ⟨b, 0, none⟩) n c, .int .i64 s, .int .i64 t] => some (rawD b n c s t, [])
    | [.slice none 0 0, .int .i64 0, .int .i64 0] => some (nilD 0 0 0, [])
    | _ => none
  | _ => none
theorem entElem_mk (e : Al) : entElem (.agg e.arr) = some (entD e, []) := rfl
theorem entElem_zero : entElem (.agg zeroArr) = some (nilD 0 0 0, []) := rfl
theorem entElem_inv {v : Value} {z : DataW Unit × List MemPlace} (h : entElem v = some z) : (∃ e : Al, v = .agg e.arr ∧ z = (entD e, [])) ∨ (v = .agg zeroArr ∧ z = (nilD 0 0 0, [])) := by
  unfold entElem at h
  split at h
  · rename_i a
    split at h
    · rename_i b n c s t ha
      cases h
      refine .inl ⟨⟨⟨#[]⟩, List.replicate n ⟨⟨#[]⟩, ⟨#[]⟩⟩, b, c, s, t⟩, ?_, by simp [entD]⟩
      have : a = #[.slice (some ⟨b, 0, none⟩) n c, .int .i64 s, .int .i64 t] := by
        apply Array.toList_inj.1
        exact ha
      rw [this]
      simp
    · rename_i ha
      cases h
      refine .inr ⟨?_, rfl⟩
      have : a = zeroArr := by
        apply Array.toList_inj.1
        exact ha
      rw [this]
    · cases h
  · cases h
theorem raw_nil {b n c : Nat} {s t : Int} {c' : Nat} {s' t' : Int} : rawD b n c s t ≠ nilD c' s' t' := by
  unfold rawD nilD
  intro h
  injection h with h
  have := congrArg List.length h
  simp at this
def centry (e : Al) : Lit × DataW Unit := (.string e.kb, entD e)
/-- How the map reads. -/
def mapD (L : List Al) : DataW Unit := .map (L.map centry)
theorem ins_map (e : Al) (L : List Al) : DataW.insert (centry e) (L.map centry) = (cins e L).map centry := by
  induction L with
  | nil => rfl
  | cons y r ih =>
    simp only [List.map_cons, DataW.insert, cins]
    have : (centry e).1.before (centry y).1 = bytesBefore e.kb y.kb := rfl
    rw [this]
    split
    · rfl
    · rw [ih]; rfl
theorem put_map (e : Al) (L : List Al) : (mapD L).put (.string e.kb) (entD e) = mapD (cput e L) := by
  unfold mapD DataW.put cput
  simp only [DataW.map.injEq]
  rw [← ins_map, List.filter_map]
  rfl
theorem get_map (k : List UInt8) (L : List Al) (z : DataW Unit) : (mapD L).atKey (.string k) z = match cget k L with | some e => entD e | none => z := by
  unfold mapD DataW.atKey cget
  simp only [List.find?_map]
  have : ((fun p : Lit × DataW Unit => p.1.sameKey (.string k)) ∘ centry) = fun x => x.kb == k := rfl
  rw [this]
  cases L.find? fun x => x.kb == k <;> rfl
theorem has_map (k : List UInt8) (L : List Al) : Maps.has (mapD L) (.string k) = (cget k L).isSome := by
  unfold mapD Maps.has cget
  induction L with
  | nil => rfl
  | cons y r ih =>
    simp only [List.map_cons, List.any_cons, List.find?_cons]
    have : (centry y).1.sameKey (.string k) = (y.kb == k) := rfl
    rw [this]
    cases y.kb == k
    · simpa using ih
    · rfl
theorem size_map (L : List Al) : Maps.size (mapD L) = L.length := by
  unfold mapD
  rw [Maps.size_eq, List.length_map]
theorem del_map (k : List UInt8) (L : List Al) : (mapD L).del (.string k) = mapD (L.filter fun x => !(x.kb == k)) := by
  unfold mapD DataW.del
  simp only [DataW.map.injEq]
  rw [List.filter_map]
  rfl
theorem law : Keyed Tryd.prog 9 := Maps.string_keyed Tryd.underlying9
theorem zeroE (w : World) : (zeroValue 27).run Tryd.prog w = .ok (.agg zeroArr) w := by kernel_rfl
/-- Block b is the map of these entries. -/
def MapIs (w : World) (b : Nat) (L : List Al) : Prop := w.ownsMap Tryd.prog 9 entElem b L.length (mapD L)
theorem owns_tight {w : World} {b n : Nat} {L : List Al} (h : w.ownsMap Tryd.prog 9 entElem b n (mapD L)) : MapIs w b L := by
  obtain ⟨es, clock, h1, h2, h3, h4⟩ := h
  refine ⟨es, clock, h1, h2, ?_, h4⟩
  have h5 := h4
  unfold mapD at h5
  injection h5 with h5
  have := congrArg List.length h5
  rw [List.length_map, length_sorted, List.length_map] at this
  have e : es.toList.length = es.size := rfl
  omega
theorem MapIs.only {w w' : World} {F : Nat → Prop} {b : Nat} {L : List Al} (h : MapIs w b L) (ho : Only F w w') (hF : ¬ F b) : MapIs w' b L := by
  obtain ⟨es, clock, h1, h2⟩ := h
  exact ⟨es, clock, (ho.block b (Array.getElem?_eq_some_iff.1 h1).1 hF).trans h1, h2⟩
theorem MapIs.lt {w : World} {b : Nat} {L : List Al} (h : MapIs w b L) : b < w.heap.size := World.ownsMap.lt h
theorem only_grown {w w' : World} {b : Nat} (h : w.grownBy w' (some b)) : Only (fun k => k = b) w w' :=
  ⟨h.os, h.tape, h.output, h.size, fun i hi hn => h.block i hi (fun e => hn (Option.some.inj e))⟩
/-- What a look-up yields. -/
def look (k : ByteArray) (L : List Al) : Array Value := match cget k.data.toList L with | some e => e.arr | none => zeroArr
theorem key_of (k : ByteArray) (hk : k.size ≤ 9223372036854775807) : keyOf Tryd.prog 9 (.string k) = some (.string k.data.toList) := WideMaps.keyOf_string_mk Tryd.underlying9 hk
theorem look_read (k : ByteArray) (L : List Al) {v : Value} {ps : List MemPlace} (h : entElem v = some ((mapD L).atKey (.string k.data.toList) (nilD 0 0 0), ps)) : v = .agg (look k L) := by
  unfold look
  rw [get_map] at h
  rcases entElem_inv h with ⟨e, rfl, hz⟩ | ⟨rfl, hz⟩
  · injection hz with hz _
    cases hg : cget k.data.toList L with
    | none => rw [hg] at hz; exact absurd hz.symm raw_nil
    | some d => rw [hg] at hz; rw [entD_inj hz.symm]
  · injection hz with hz _
    cases hg : cget k.data.toList L with
    | none => rfl
    | some d => rw [hg] at hz; exact absurd hz raw_nil
theorem look_ok_run {w : World} {b : Nat} {L : List Al} (h : MapIs w b L) (k : ByteArray) (hk : k.size ≤ 9223372036854775807) :
    (Instr.lookup 59 (.map (some b)) (.string k) true).run Tryd.prog w = .ok (.tuple #[.agg (look k L), .bool (cget k.data.toList L).isSome]) w := by
  obtain ⟨v, ps, hr, hv⟩ := World.ownsMap.look_ok h law Tryd.underlying59 (zeroE w) entElem_zero (key_of k hk)
  rw [hr, look_read k L hv, has_map]
theorem look_run {w : World} {b : Nat} {L : List Al} (h : MapIs w b L) (k : ByteArray) (hk : k.size ≤ 9223372036854775807) :
    (Instr.lookup 59 (.map (some b)) (.string k) false).run Tryd.prog w = .ok (.agg (look k L)) w := by
  obtain ⟨v, ps, hr, hv⟩ := World.ownsMap.lookup h law Tryd.underlying59 (zeroE w) entElem_zero (key_of k hk)
  rw [hr, look_read k L hv]
theorem put_run {w : World} {b : Nat} {L : List Al} (h : MapIs w b L) (e : Al) (hk : e.key.size ≤ 9223372036854775807) (hn : L.length < 9223372036854775807) :
    ∃ w', (Instr.mapUpdate 59 (.map (some b)) (.string e.key) (.agg e.arr)).run Tryd.prog w = .ok () w' ∧ MapIs w' b (cput e L) ∧ Only (fun k => k = b) w w' := by
  obtain ⟨w', hr, ho, hg⟩ := World.ownsMap.update h law Tryd.underlying59 hn (key_of e.key hk) (entElem_mk e)
  have e1 : (mapD L).put (.string e.key.data.toList) (entD e) = mapD (cput e L) := put_map e L
  rw [e1] at ho
  exact ⟨w', hr, owns_tight ho, only_grown hg⟩
theorem len_run {w : World} {b : Nat} {L : List Al} (h : MapIs w b L) (ty : TypeId) : (Builtin.len_ #[59] ty #[.map (some b)]).run Tryd.prog w = .ok (.int .i64 L.length) w := by
  rw [World.ownsMap.len h Tryd.underlying59 ty, size_map]
theorem made_is (w : World) : MapIs (w.alloc (.map #[] 0)) w.heap.size [] := World.ownsMap_made w Tryd.prog 9 entElem
end Go.Proofs.YtokgignmdgejoaaDoor
