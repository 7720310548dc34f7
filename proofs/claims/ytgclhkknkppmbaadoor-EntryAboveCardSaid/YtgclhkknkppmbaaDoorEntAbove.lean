/- The walk of EntryAbove. -/
import Derived.Test.YtgclhkknkppmbaaDoorEntE
namespace Go.Proofs.YtgclhkknkppmbaaDoor
open Go.RowKit Go.Lib
set_option linter.unusedVariables false
attribute [local go_sem ↓] Go.wp_at_zero Go.wp_at_succ

section
variable (k1 : ByteArray) (t1 o1 : Int) (v1 : ByteArray) (u1 : Int) (k2 : ByteArray) (t2 o2 : Int) (v2 : ByteArray) (u2 : Int) (w : World)
theorem ab_above :
    Calls Tryd.prog 14 #[.agg #[.string k1, .int .i64 t1, .int .u16 o1, .string v1, .int .i64 u1], .agg #[.string k2, .int .i64 t2, .int .u16 o2, .string v2, .int .i64 u2]] w
      fun e w' => e = .returned (.bool (Ent.above ⟨k1, t1, o1, v1, u1⟩ ⟨k2, t2, o2, v2, u2⟩)) ∧ Only Noth w w' := entry_above ⟨k1, t1, o1, v1, u1⟩ ⟨k2, t2, o2, v2, u2⟩ w
theorem ab_refabove :
    Calls Tryd.prog 17 #[.agg #[.string k1, .int .i64 t1, .int .u16 o1, .string v1, .int .i64 u1], .agg #[.string k2, .int .i64 t2, .int .u16 o2, .string v2, .int .i64 u2]] w
      fun e w' => e = .returned (.bool (Ent.above ⟨k1, t1, o1, v1, u1⟩ ⟨k2, t2, o2, v2, u2⟩)) ∧ Only Noth w w' := ref_above ⟨k1, t1, o1, v1, u1⟩ ⟨k2, t2, o2, v2, u2⟩ w
theorem ab_later (x : Ent) (hx : Ent.later ⟨k1, t1, o1, v1, u1⟩ ⟨k2, t2, o2, v2, u2⟩ = x) :
    Calls Tryd.prog 16 #[.agg #[.string k1, .int .i64 t1, .int .u16 o1, .string v1, .int .i64 u1], .agg #[.string k2, .int .i64 t2, .int .u16 o2, .string v2, .int .i64 u2]] w
      fun e w' => e = .returned (.agg #[.string x.key, .int .i64 x.time, .int .u16 x.org, .string x.val, .int .i64 x.til]) ∧ Only Noth w w' := by subst hx; exact entry_later ⟨k1, t1, o1, v1, u1⟩ ⟨k2, t2, o2, v2, u2⟩ w
theorem ab_reflater (x : Ent) (hx : Ent.later ⟨k1, t1, o1, v1, u1⟩ ⟨k2, t2, o2, v2, u2⟩ = x) :
    Calls Tryd.prog 18 #[.agg #[.string k1, .int .i64 t1, .int .u16 o1, .string v1, .int .i64 u1], .agg #[.string k2, .int .i64 t2, .int .u16 o2, .string v2, .int .i64 u2]] w
      fun e w' => e = .returned (.agg #[.string x.key, .int .i64 x.time, .int .u16 x.org, .string x.val, .int .i64 x.til]) ∧ Only Noth w w' := by subst hx; exact ref_later ⟨k1, t1, o1, v1, u1⟩ ⟨k2, t2, o2, v2, u2⟩ w
end

set_option maxRecDepth 100000 in
theorem above_walk (a b : Ent) (n : Int) (hk : a.key.size ≤ 9223372036854775807) (hv : a.val.size ≤ 9223372036854775807) (w : World) (ht : Tab w) :
    Calls Tryd.prog 5 #[.agg #[.string a.key, .int .i64 a.time, .int .u16 a.org, .string a.val, .int .i64 a.til], .agg #[.string b.key, .int .i64 b.time, .int .u16 b.org, .string b.val, .int .i64 b.til], .int .i64 n] w
      fun e w' => e = .returned (.bool true) ∧ Only Noth w w' := by
  have HT := Lib.hid ht
  have HK := Lib.hid hk
  have HV := Lib.hid hv
  clear ht hk hv
  obtain ⟨z, hz⟩ : ∃ z, Ent.above ⟨a.key, a.time, a.org, a.val, a.til⟩ ⟨b.key, b.time, b.org, b.val, b.til⟩ = z := ⟨_, rfl⟩
  have Z := Lib.hid hz
  obtain ⟨x, hx⟩ : ∃ x, Ent.later ⟨a.key, a.time, a.org, a.val, a.til⟩ ⟨b.key, b.time, b.org, b.val, b.til⟩ = x := ⟨_, rfl⟩
  have X := Lib.hid hx
  obtain ⟨c, hc⟩ : ∃ c, a.check = c := ⟨_, rfl⟩
  have C := Lib.hid hc
  clear hz hx hc
  have heq : ∀ V, (binOp .eql 24 (.agg #[.string x.key, .int .i64 x.time, .int .u16 x.org, .string x.val, .int .i64 x.til]) (.agg #[.string x.key, .int .i64 x.time, .int .u16 x.org, .string x.val, .int .i64 x.til])).run Tryd.prog V = .ok (.bool true) V := fun V => by
    rw [eq_ent x x V, same_self]
  go_enter Tryd.func5, Tryd.ntmps5
  go_wp2_with fail
  obtain ⟨W, hW⟩ : ∃ W, W = ((w.alloc (.cells #[.string a.key, .int .i64 a.time, .int .u16 a.org, .string a.val, .int .i64 a.til] 24)).alloc (.cells #[.string b.key, .int .i64 b.time, .int .u16 b.org, .string b.val, .int .i64 b.til] 24)) := ⟨_, rfl⟩
  rw [← hW]
  have HON := Lib.hid (show Only Noth w W.drew by rw [hW]; exact (((Only.refl _ _).alloc _).alloc _).drew)
  have hsz0 : w.heap.size + 1 < W.heap.size := by rw [hW]; simp
  obtain ⟨a0, a1, a2, a3, a4⟩ := (show Hld W w.heap.size 24 #[.string a.key, .int .i64 a.time, .int .u16 a.org, .string a.val, .int .i64 a.til] by rw [hW]; exact ((Hld.new w _ _).alloc _)).five
  obtain ⟨b0, b1, b2, b3, b4⟩ := (show Hld W (w.heap.size + 1) 24 #[.string b.key, .int .i64 b.time, .int .u16 b.org, .string b.val, .int .i64 b.til] by rw [hW]; exact (Hld.at_ _ _ _ _ (by simp))).five
  clear hW
  go_region_held3 (fun w' => w'.cell? ⟨w.heap.size, 0, none⟩ = some (.string a.key) ∧ w'.cell? ⟨w.heap.size, 1, none⟩ = some (.int .i64 a.time) ∧ w'.cell? ⟨w.heap.size, 2, none⟩ = some (.int .u16 a.org) ∧ w'.cell? ⟨w.heap.size, 3, none⟩ = some (.string a.val) ∧ w'.cell? ⟨w.heap.size, 4, none⟩ = some (.int .i64 a.til) ∧ w'.cell? ⟨w.heap.size + 1, 0, none⟩ = some (.string b.key) ∧ w'.cell? ⟨w.heap.size + 1, 1, none⟩ = some (.int .i64 b.time) ∧ w'.cell? ⟨w.heap.size + 1, 2, none⟩ = some (.int .u16 b.org) ∧ w'.cell? ⟨w.heap.size + 1, 3, none⟩ = some (.string b.val) ∧ w'.cell? ⟨w.heap.size + 1, 4, none⟩ = some (.int .i64 b.til)) (go_keep)
    (first
      | (go_at_call 14; refine (ab_above _ _ _ _ _ _ _ _ _ _ _).mono ?_; rintro e w1 ⟨rfl, ho⟩; rw [Z.out]; have hcs0 := (fun (o : Nat) => ho.cells w.heap.size o (by (try simp); (try omega))); have hcs1 := (fun (o : Nat) => ho.cells (w.heap.size + 1) o (by (try simp); (try omega))); have hsz : w.heap.size + 1 < w1.heap.size := (by have h8 := ho.size; (try simp at h8); omega); have HON := Lib.hid (HON.out.tr ho); clear ho)
      | (go_at_call 17; refine (ab_refabove _ _ _ _ _ _ _ _ _ _ _).mono ?_; rintro e w1 ⟨rfl, ho⟩; rw [Z.out]; have hcs0 := (fun (o : Nat) => ho.cells w.heap.size o (by (try simp); (try omega))); have hcs1 := (fun (o : Nat) => ho.cells (w.heap.size + 1) o (by (try simp); (try omega))); have hsz : w.heap.size + 1 < w1.heap.size := (by have h8 := ho.size; (try simp at h8); omega); have HON := Lib.hid (HON.out.tr ho); clear ho)
      | (go_at_call 16; refine (ab_later _ _ _ _ _ _ _ _ _ _ _ x X.out).mono ?_; rintro e w1 ⟨rfl, ho⟩; have hcs0 := (fun (o : Nat) => ho.cells w.heap.size o (by (try simp); (try omega))); have hcs1 := (fun (o : Nat) => ho.cells (w.heap.size + 1) o (by (try simp); (try omega))); have hsz : w.heap.size + 1 < w1.heap.size := (by have h8 := ho.size; (try simp at h8); omega); have HON := Lib.hid (HON.out.tr ho); clear ho)
      | (go_at_call 18; refine (ab_reflater _ _ _ _ _ _ _ _ _ _ _ x X.out).mono ?_; rintro e w1 ⟨rfl, ho⟩; have hcs0 := (fun (o : Nat) => ho.cells w.heap.size o (by (try simp); (try omega))); have hcs1 := (fun (o : Nat) => ho.cells (w.heap.size + 1) o (by (try simp); (try omega))); have hsz : w.heap.size + 1 < w1.heap.size := (by have h8 := ho.size; (try simp at h8); omega); have HON := Lib.hid (HON.out.tr ho); clear ho)
      | (go_at_call 19; refine (entry_check a HK.out HV.out _).mono ?_; rintro e w1 ⟨rfl, ho⟩; rw [C.out]; have hcs0 := (fun (o : Nat) => ho.cells w.heap.size o (by (try simp); (try omega))); have hcs1 := (fun (o : Nat) => ho.cells (w.heap.size + 1) o (by (try simp); (try omega))); have hsz : w.heap.size + 1 < w1.heap.size := (by have h8 := ho.size; (try simp at h8); omega); have HON := Lib.hid (HON.out.tr ho); clear ho)
      | (go_at_call 20; refine (ref_check a HK.out HV.out _).mono ?_; rintro e w1 ⟨rfl, ho⟩; rw [C.out]; have hcs0 := (fun (o : Nat) => ho.cells w.heap.size o (by (try simp); (try omega))); have hcs1 := (fun (o : Nat) => ho.cells (w.heap.size + 1) o (by (try simp); (try omega))); have hsz : w.heap.size + 1 < w1.heap.size := (by have h8 := ho.size; (try simp at h8); omega); have HON := Lib.hid (HON.out.tr ho); clear ho)
      | (go_at_call 21; refine (entry_counts a n _).mono ?_; rintro e w1 ⟨rfl, ho⟩; have hcs0 := (fun (o : Nat) => ho.cells w.heap.size o (by (try simp); (try omega))); have hcs1 := (fun (o : Nat) => ho.cells (w.heap.size + 1) o (by (try simp); (try omega))); have hsz : w.heap.size + 1 < w1.heap.size := (by have h8 := ho.size; (try simp at h8); omega); have HON := Lib.hid (HON.out.tr ho); clear ho)
      | (go_at_call 15; refine (entry_awake _ (HT.out.noth HON.out)).mono ?_; rintro e w1 ⟨rfl, ho⟩; have hcs0 := (fun (o : Nat) => ho.cells w.heap.size o (by (try simp); (try omega))); have hcs1 := (fun (o : Nat) => ho.cells (w.heap.size + 1) o (by (try simp); (try omega))); have hsz : w.heap.size + 1 < w1.heap.size := (by have h8 := ho.size; (try simp at h8); omega); have HON := Lib.hid (HON.out.tr ho); clear ho))
  all_goals go_wp2
  all_goals go_ret
  all_goals exact ⟨rfl, HON.out⟩
end Go.Proofs.YtgclhkknkppmbaaDoor
