/- Maps of entries: the plain map, and as it lies in memory. -/
import Derived.Test.YtdclkbhkboaafaaCmQ
import Derived.Maps.OwnSet
import Derived.Maps.RangeWalk
import Derived.Maps.Ext
namespace Go.Proofs.Ytdclkbhkboaafaa
open Go.RowKit Go.Lib
open Go.Maps (Keyed)
set_option linter.unusedVariables false

/-- How an entry reads. -/
def entD (e : Ent) : DataW Unit := .agg [.lit (.string e.kb), .lit (.int .i64 e.time), .lit (.int .u16 e.org), .lit (.string e.val.data.toList), .lit (.int .i64 e.til)]
theorem entD_inj {a b : Ent} (h : entD a = entD b) : a = b := by
  unfold entD Ent.kb at h
  cases a
  cases b
  simp only [DataW.agg.injEq, List.cons.injEq, DataW.lit.injEq, Lit.string.injEq, Lit.int.injEq, and_true, true_and] at h
  obtain ⟨h1, h2, h3, h4, h5⟩ := h
  rw [ba_inj h1, ba_inj h4, h2, h3, h5]
abbrev Ent.arr (e : Ent) : Array Value := #[.string e.key, .int .i64 e.time, .int .u16 e.org, .string e.val, .int .i64 e.til]
def entElem (v : Value) : Option (DataW Unit × List MemPlace) :=
  match v with
  | .agg a => match a.toList with
    | [.string k, .int .i64 t, .int .u16 o, .string u, .int .i64 n] => some (entD ⟨k, t, o, u, n⟩, [])
    | _ => none
  | _ => none
theorem entElem_mk (e : Ent) : entElem (.agg e.arr) = some (entD e, []) := rfl
theorem entElem_inv {v : Value} {z : DataW Unit × List MemPlace} (h : entElem v = some z) : ∃ e : Ent, v = .agg e.arr ∧ z = (entD e, []) := by
  unfold entElem at h
  split at h
  · rename_i a
    split at h
    · rename_i k t o u n ha
      cases h
      refine ⟨⟨k, t, o, u, n⟩, ?_, rfl⟩
      have : a = #[.string k, .int .i64 t, .int .u16 o, .string u, .int .i64 n] := by
        apply Array.toList_inj.1
        exact ha
      rw [this]
    · cases h
  · cases h
def centry (e : Ent) : Lit × DataW Unit := (.string e.kb, entD e)
/-- How the map reads. -/
def mapD (L : List Ent) : DataW Unit := .map (L.map centry)
theorem ins_map (e : Ent) (L : List Ent) : DataW.insert (centry e) (L.map centry) = (cins e L).map centry := by
  induction L with
  | nil => rfl
  | cons y r ih =>
    simp only [List.map_cons, DataW.insert, cins]
    have : (centry e).1.before (centry y).1 = bytesBefore e.kb y.kb := rfl
    rw [this]
    split
    · rfl
    · rw [ih]; rfl
theorem put_map (e : Ent) (L : List Ent) : (mapD L).put (.string e.kb) (entD e) = mapD (cput e L) := by
  unfold mapD DataW.put cput
  simp only [DataW.map.injEq]
  rw [← ins_map, List.filter_map]
  rfl
theorem get_map (k : List UInt8) (L : List Ent) (z : DataW Unit) : (mapD L).atKey (.string k) z = match cget k L with | some e => entD e | none => z := by
  unfold mapD DataW.atKey cget
  simp only [List.find?_map]
  have : ((fun p : Lit × DataW Unit => p.1.sameKey (.string k)) ∘ centry) = fun x => x.kb == k := rfl
  rw [this]
  cases L.find? fun x => x.kb == k <;> rfl
theorem has_map (k : List UInt8) (L : List Ent) : Maps.has (mapD L) (.string k) = (cget k L).isSome := by
  unfold mapD Maps.has cget
  induction L with
  | nil => rfl
  | cons y r ih =>
    simp only [List.map_cons, List.any_cons, List.find?_cons]
    have : (centry y).1.sameKey (.string k) = (y.kb == k) := rfl
    rw [this]
    cases y.kb == k
    · simpa using ih
    · rfl
theorem size_map (L : List Ent) : Maps.size (mapD L) = L.length := by
  unfold mapD
  rw [Maps.size_eq, List.length_map]
theorem del_map (k : List UInt8) (L : List Ent) : (mapD L).del (.string k) = mapD (L.filter fun x => !(x.kb == k)) := by
  unfold mapD DataW.del
  simp only [DataW.map.injEq]
  rw [List.filter_map]
  rfl
theorem law : Keyed Try.prog 9 := Maps.string_keyed Try.underlying9
theorem zeroE (w : World) : (zeroValue 34).run Try.prog w = .ok (.agg (⟨⟨#[]⟩, 0, 0, ⟨#[]⟩, 0⟩ : Ent).arr) w := by kernel_rfl
/-- Block b is the map of these entries. -/
def MapIs (w : World) (b : Nat) (L : List Ent) : Prop := w.ownsMap Try.prog 9 entElem b L.length (mapD L)
theorem owns_tight {w : World} {b n : Nat} {L : List Ent} (h : w.ownsMap Try.prog 9 entElem b n (mapD L)) : MapIs w b L := by
  obtain ⟨es, clock, h1, h2, h3, h4⟩ := h
  refine ⟨es, clock, h1, h2, ?_, h4⟩
  have h5 := h4
  unfold mapD at h5
  injection h5 with h5
  have := congrArg List.length h5
  rw [List.length_map, length_sorted, List.length_map] at this
  have e : es.toList.length = es.size := rfl
  omega
theorem MapIs.only {w w' : World} {F : Nat → Prop} {b : Nat} {L : List Ent} (h : MapIs w b L) (ho : Only F w w') (hF : ¬ F b) : MapIs w' b L := by
  obtain ⟨es, clock, h1, h2⟩ := h
  exact ⟨es, clock, (ho.block b (Array.getElem?_eq_some_iff.1 h1).1 hF).trans h1, h2⟩
theorem MapIs.lt {w : World} {b : Nat} {L : List Ent} (h : MapIs w b L) : b < w.heap.size := World.ownsMap.lt h
theorem only_grown {w w' : World} {b : Nat} (h : w.grownBy w' (some b)) : Only (fun k => k = b) w w' :=
  ⟨h.os, h.tape, h.output, h.size, fun i hi hn => h.block i hi (fun e => hn (Option.some.inj e))⟩
/-- What a look-up yields. -/
def Ent.none : Ent := ⟨⟨#[]⟩, 0, 0, ⟨#[]⟩, 0⟩
def look (k : ByteArray) (L : List Ent) : Ent := (cget k.data.toList L).getD Ent.none
theorem key_of (k : ByteArray) (hk : k.size ≤ 9223372036854775807) : keyOf Try.prog 9 (.string k) = some (.string k.data.toList) := WideMaps.keyOf_string_mk Try.underlying9 hk
theorem look_read (k : ByteArray) (L : List Ent) {v : Value} {ps : List MemPlace} (h : entElem v = some ((mapD L).atKey (.string k.data.toList) (entD Ent.none), ps)) : v = .agg (look k L).arr := by
  obtain ⟨e, rfl, hz⟩ := entElem_inv h
  injection hz with hz _
  rw [get_map] at hz
  have : e = look k L := by
    unfold look
    apply entD_inj
    rw [← hz]
    cases cget k.data.toList L <;> rfl
  rw [this]
theorem look_ok_run {w : World} {b : Nat} {L : List Ent} (h : MapIs w b L) (k : ByteArray) (hk : k.size ≤ 9223372036854775807) :
    (Instr.lookup 60 (.map (some b)) (.string k) true).run Try.prog w = .ok (.tuple #[.agg (look k L).arr, .bool (cget k.data.toList L).isSome]) w := by
  obtain ⟨v, ps, hr, hv⟩ := World.ownsMap.look_ok h law Try.underlying60 (zeroE w) (entElem_mk Ent.none) (key_of k hk)
  rw [hr, look_read k L hv, has_map]
theorem look_run {w : World} {b : Nat} {L : List Ent} (h : MapIs w b L) (k : ByteArray) (hk : k.size ≤ 9223372036854775807) :
    (Instr.lookup 60 (.map (some b)) (.string k) false).run Try.prog w = .ok (.agg (look k L).arr) w := by
  obtain ⟨v, ps, hr, hv⟩ := World.ownsMap.lookup h law Try.underlying60 (zeroE w) (entElem_mk Ent.none) (key_of k hk)
  rw [hr, look_read k L hv]
theorem put_run {w : World} {b : Nat} {L : List Ent} (h : MapIs w b L) (e : Ent) (hk : e.key.size ≤ 9223372036854775807) (hn : L.length < 9223372036854775807) :
    ∃ w', (Instr.mapUpdate 60 (.map (some b)) (.string e.key) (.agg e.arr)).run Try.prog w = .ok () w' ∧ MapIs w' b (cput e L) ∧ Only (fun k => k = b) w w' := by
  obtain ⟨w', hr, ho, hg⟩ := World.ownsMap.update h law Try.underlying60 hn (key_of e.key hk) (entElem_mk e)
  have e1 : (mapD L).put (.string e.key.data.toList) (entD e) = mapD (cput e L) := put_map e L
  rw [e1] at ho
  exact ⟨w', hr, owns_tight ho, only_grown hg⟩
theorem len_run {w : World} {b : Nat} {L : List Ent} (h : MapIs w b L) (ty : TypeId) : (Builtin.len_ #[60] ty #[.map (some b)]).run Try.prog w = .ok (.int .i64 L.length) w := by
  rw [World.ownsMap.len h Try.underlying60 ty, size_map]
theorem made_is (w : World) : MapIs (w.alloc (.map #[] 0)) w.heap.size [] := World.ownsMap_made w Try.prog 9 entElem
end Go.Proofs.Ytdclkbhkboaafaa
