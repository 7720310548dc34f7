/- Package entry: Put. -/
import Derived.Test.YtjdgmnaemopfdaaDoorStr
import Derived.Deep.RegionHeld3
import Derived.Deep.DrawnRows
import Derived.Outline
import Derived.IntWalk
namespace Go.Proofs.YtjdgmnaemopfdaaDoor
open Go.RowKit Go.Lib
set_option linter.unusedVariables false
attribute [local go_sem ↓] Go.wp_at_zero Go.wp_at_succ

theorem Only.cells {w w' : World} (h : Only Noth w w') : ∀ b o, b < w.heap.size → w'.cell? ⟨b, o, none⟩ = w.cell? ⟨b, o, none⟩ := fun b o hb => h.cell (p := ⟨b, o, none⟩) hb (fun h => h)

theorem Given.of {w W w' : World} {l : List UInt8} {e : Ending} (h : Given W l e w') (ho : Only Noth w W) : Given w l e w' := by
  obtain ⟨A, c, e, hr, ho2, h1, h2⟩ := h
  exact ⟨A, c, e, hr.mono (fun k hk _ => Nat.le_trans ho.size hk), ho.tr ho2, h1, h2⟩

/-- What is laid for an entry. -/
def tEnt (k : List UInt8) (t o : Int) (v : List UInt8) (u : Int) : List UInt8 := tList [tText k, tInt t, tInt o, tText v, tInt u]

set_option maxRecDepth 100000 in
theorem entry_put (k v : ByteArray) (t o u : Int) (ht0 : -9223372036854775808 ≤ t) (ht1 : t ≤ 9223372036854775807) (ho0 : 0 ≤ o) (ho1 : o ≤ 65535) (hu0 : -9223372036854775808 ≤ u) (hu1 : u ≤ 9223372036854775807)
    (hkv : k.size + v.size ≤ 140737488355000) (w : World) (ht : Tab w) :
    Calls Tryd.prog 64 #[.agg #[.string k, .int .i64 t, .int .u16 o, .string v, .int .i64 u]] w (Given w (tEnt k.data.toList t o v.data.toList u)) := by
  have HK := Lib.hid hkv
  clear hkv
  have HT := Lib.hid ((ht.alloc (.cells #[.string k, .int .i64 t, .int .u16 o, .string v, .int .i64 u] 64)).drew)
  have HON := Lib.hid (((Only.refl Noth w).alloc (.cells #[.string k, .int .i64 t, .int .u16 o, .string v, .int .i64 u] 64)).drew)
  have HACC := Lib.hid (Parts.nil ((w.alloc (.cells #[.string k, .int .i64 t, .int .u16 o, .string v, .int .i64 u] 64)).drew))
  have HL1 := Lib.hid (tText_length k.data.toList)
  have HL2 := Lib.hid (tText_length v.data.toList)
  have l1 := tInt_le t ht0 ht1
  have l2 := tInt_le o (by omega) (by omega)
  have l3 := tInt_le u hu0 hu1
  have l4 := itoa_len20 (k.data.toList.length : Int) (by omega) (by have := HK.out; have : k.data.toList.length = k.size := rfl; omega)
  have l5 := itoa_len20 (v.data.toList.length : Int) (by omega) (by have := HK.out; have : v.data.toList.length = v.size := rfl; omega)
  have HLL := Lib.hid (show ([tText k.data.toList, tInt t, tInt o, tText v.data.toList, tInt u].flatten).length + 2 ≤ 140737488355328 by
    have h1 := HL1.out; have h2 := HL2.out; have h3 := HK.out
    have e1 : k.data.toList.length = k.size := rfl
    have e2 : v.data.toList.length = v.size := rfl
    simp only [List.flatten_cons, List.flatten_nil, List.length_append, List.length_nil]
    omega)
  clear ht l1 l2 l3 l4 l5
  have hwo : IntKind.i64.wrap o = o := IntWalk.i64_in _ (by omega)
  go_enter Tryd.func64, Tryd.ntmps64
  go_wp2_with fail
  go_region_held3 (fun w' => w'.cell? ⟨w.heap.size, 0, none⟩ = some (.string k) ∧ w'.cell? ⟨w.heap.size, 1, none⟩ = some (.int .i64 t) ∧ w'.cell? ⟨w.heap.size, 2, none⟩ = some (.int .u16 o) ∧ w'.cell? ⟨w.heap.size, 3, none⟩ = some (.string v) ∧ w'.cell? ⟨w.heap.size, 4, none⟩ = some (.int .i64 u)) (go_keep)
    (first
      | (go_at_call 14; refine (ben_text _ (by have := HK.out; omega) _ HT.out).mono ?_; rintro e w1 hg; obtain ⟨A, c, rfl, hp, ho⟩ := hg.part; clear hg; have HT := Lib.hid (HT.out.noth ho); have HACC := Lib.hid ((HACC.out.noth ho).snoc hp); have HON := Lib.hid (HON.out.tr ho); have hcs := (fun (o : Nat) => ho.cells w.heap.size o (by (try simp); (try omega))); have hsz : w.heap.size < w1.heap.size := (by have h8 := ho.size; (try simp at h8); omega); clear hp ho)
      | (go_at_call 12; refine (ben_int _ (by omega) (by omega) _ HT.out).mono ?_; rintro e w1 hg; obtain ⟨A, c, rfl, hp, ho⟩ := hg.part; clear hg; have HT := Lib.hid (HT.out.noth ho); have HACC := Lib.hid ((HACC.out.noth ho).snoc hp); have HON := Lib.hid (HON.out.tr ho); have hcs := (fun (o : Nat) => ho.cells w.heap.size o (by (try simp); (try omega))); have hsz : w.heap.size < w1.heap.size := (by have h8 := ho.size; (try simp at h8); omega); clear hp ho)
      | (go_at_call 16; go_must (refine (ben_list _ _ _ [tText k.data.toList, tInt t, tInt o, tText v.data.toList, tInt u] _ (srcb_new _ 23 _ 5 rfl _ (by simp)) (HACC.out.noth ((Only.refl Noth _).alloc _)) (Nat.le_refl _) (by simp) HLL.out).mono ?_); rintro e w1 hg; have HG := Lib.hid hg; obtain ⟨A, c, rfl, hp, ho⟩ := hg.part; clear hg; have hcs := (fun (o : Nat) => ho.cells w.heap.size o (by (try simp); (try omega))); have hsz : w.heap.size < w1.heap.size := (by have h8 := ho.size; (try simp at h8); omega); clear hp ho))
  all_goals go_wp2
  all_goals go_ret
  all_goals exact Given.of HG.out (HON.out.alloc _)
/-- An entry. -/
structure Ent where
  key : ByteArray
  time : Int
  org : Int
  val : ByteArray
  til : Int
end Go.Proofs.YtjdgmnaemopfdaaDoor
