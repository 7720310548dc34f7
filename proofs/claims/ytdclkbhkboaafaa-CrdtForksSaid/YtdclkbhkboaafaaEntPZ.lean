/- Package entry: Put. -/
import Derived.Test.YtdclkbhkboaafaaStrZ
import Derived.Deep.RegionHeld3
import Derived.Deep.DrawnRows
import Derived.Outline
import Derived.IntWalk
namespace Go.Proofs.Ytdclkbhkboaafaa
open Go.RowKit Go.Lib
set_option linter.unusedVariables false
attribute [local go_sem ↓] Go.wp_at_zero Go.wp_at_succ

theorem Only.cells {w w' : World} (h : Only Noth w w') : ∀ b o, b < w.heap.size → w'.cell? ⟨b, o, none⟩ = w.cell? ⟨b, o, none⟩ := fun b o hb => h.cell (p := ⟨b, o, none⟩) hb (fun h => h)

theorem Given.of {w W w' : World} {l : List UInt8} {e : Ending} (h : Given W l e w') (ho : Only Noth w W) : Given w l e w' := by
  obtain ⟨A, c, e, hr, ho2, h1, h2⟩ := h
  exact ⟨A, c, e, hr.mono (fun k hk _ => Nat.le_trans ho.size hk), ho.tr ho2, h1, h2⟩

/-- What is laid for an entry. -/
def tEnt (k : List UInt8) (t o : Int) (v : List UInt8) (u : Int) : List UInt8 := tList [tText k, tInt t, tInt o, tText v, tInt u]

/-- An entry. -/
structure Ent where
  key : ByteArray
  time : Int
  org : Int
  val : ByteArray
  til : Int
end Go.Proofs.Ytdclkbhkboaafaa
