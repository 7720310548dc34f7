/- Package crdt: Get. -/
import Derived.Test.YtdclkbhkboaafaaCmM
namespace Go.Proofs.Ytdclkbhkboaafaa
open Go.RowKit Go.Lib Go.Sort
set_option linter.unusedVariables false
set_option linter.unusedSimpArgs false
set_option maxRecDepth 100000
attribute [local go_sem ↓] Go.wp_at_zero Go.wp_at_succ

set_option maxHeartbeats 2000000 in
theorem cm_get (g b : Nat) (L : List Ent) (k : ByteArray) (hk : k.size ≤ 9223372036854775807) (w : World) (h : CmAt w g b L) :
    Calls Try.prog 20 #[.pointer (some ⟨g, 0, none⟩), .string k] w fun e w' => e = .returned (.tuple #[.agg (look k L).arr, .bool (cget k.data.toList L).isSome]) ∧ Only Noth w w' := by
  have a1 := (Only.refl Noth w).alloc (.cells #[.string ⟨#[]⟩, .int .i64 0, .int .u16 0, .string ⟨#[]⟩, .int .i64 0] 34)
  have c0 : (w.alloc (.cells #[.string ⟨#[]⟩, .int .i64 0, .int .u16 0, .string ⟨#[]⟩, .int .i64 0] 34)).cell? ⟨g, 0, none⟩ = some (.map (some b)) := (h.box.only a1 (fun h => h)).cell 0
  have hlk := look_ok_run (h.own.only a1 (fun h => h)) k hk
  obtain ⟨old, hold⟩ : ∃ old, look k L = old := ⟨_, rfl⟩
  obtain ⟨is, his⟩ : ∃ is, (cget k.data.toList L).isSome = is := ⟨_, rfl⟩
  rw [hold, his] at hlk ⊢
  have O := Lib.hid a1
  clear h a1 hold his
  go_enter Try.func20, Try.ntmps20
  go_wp2
  refine bodyPost_ret (v := .tuple #[.agg old.arr, .bool is]) (by simp [results, Try.results20, go_sem]) rfl ?_
  exact ⟨rfl, ((Only.refl Noth w).alloc _).alloc _⟩
end Go.Proofs.Ytdclkbhkboaafaa
