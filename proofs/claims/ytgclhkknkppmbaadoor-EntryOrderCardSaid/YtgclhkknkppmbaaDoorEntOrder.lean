/- The walk of EntryOrder. -/
import Derived.Test.YtgclhkknkppmbaaDoorEntE
namespace Go.Proofs.YtgclhkknkppmbaaDoor
open Go.RowKit Go.Lib
set_option linter.unusedVariables false
attribute [local go_sem ↓] Go.wp_at_zero Go.wp_at_succ

theorem entry_above' (k1 : ByteArray) (t1 o1 : Int) (v1 : ByteArray) (u1 : Int) (k2 : ByteArray) (t2 o2 : Int) (v2 : ByteArray) (u2 : Int) (w : World) :
    Calls Tryd.prog 14 #[.agg #[.string k1, .int .i64 t1, .int .u16 o1, .string v1, .int .i64 u1], .agg #[.string k2, .int .i64 t2, .int .u16 o2, .string v2, .int .i64 u2]] w
      fun e w' => e = .returned (.bool (Ent.above ⟨k1, t1, o1, v1, u1⟩ ⟨k2, t2, o2, v2, u2⟩)) ∧ Only Noth w w' := entry_above ⟨k1, t1, o1, v1, u1⟩ ⟨k2, t2, o2, v2, u2⟩ w

set_option maxRecDepth 100000 in
theorem order_TFT (k : ByteArray) (t1 o1 : Int) (v1 : ByteArray) (u1 : Int) (k2 : ByteArray) (t2 o2 : Int) (v2 : ByteArray) (u2 : Int) (k3 : ByteArray) (t3 o3 : Int) (v3 : ByteArray) (u3 : Int) (w : World) (ht : Tab w)
    (x : Ent.above ⟨k, t1, o1, v1, u1⟩ ⟨k, t2, o2, v2, u2⟩ = true) (y : Ent.above ⟨k, t2, o2, v2, u2⟩ ⟨k, t1, o1, v1, u1⟩ = false) (z : Ent.above ⟨k, t2, o2, v2, u2⟩ ⟨k, t3, o3, v3, u3⟩ = true)  (t : Ent.above ⟨k, t1, o1, v1, u1⟩ ⟨k, t3, o3, v3, u3⟩ = true)
    (s : Ent.above ⟨k, t1, o1, v1, u1⟩ ⟨k, t1, o1, v1, u1⟩ = false) (q : Ent.same ⟨k, t1, o1, v1, u1⟩ ⟨k, t2, o2, v2, u2⟩ = false) :
    Calls Tryd.prog 3 #[.agg #[.string k, .int .i64 t1, .int .u16 o1, .string v1, .int .i64 u1], .agg #[.string k2, .int .i64 t2, .int .u16 o2, .string v2, .int .i64 u2], .agg #[.string k3, .int .i64 t3, .int .u16 o3, .string v3, .int .i64 u3]] w
      fun e w' => e = .returned (.bool true) ∧ Only Noth w w' := by
  have X := Lib.hid x
  have Y := Lib.hid y
  have Z := Lib.hid z
  have T := Lib.hid t
  have S := Lib.hid s
  have HT := Lib.hid ht
  have Q := Lib.hid q
  clear x y z t s q ht
  go_enter Tryd.func3, Tryd.ntmps3
  go_wp2
  go_region
  go_wp2_with fail
  obtain ⟨W, hW⟩ : ∃ W, W = (((w.alloc (.cells #[.string k, .int .i64 t1, .int .u16 o1, .string v1, .int .i64 u1] 24)).alloc (.cells #[.string k, .int .i64 t2, .int .u16 o2, .string v2, .int .i64 u2] 24)).alloc (.cells #[.string k, .int .i64 t3, .int .u16 o3, .string v3, .int .i64 u3] 24)).drew := ⟨_, rfl⟩
  rw [← hW]
  have HON := Lib.hid (show Only Noth w W by rw [hW]; exact ((((Only.refl _ _).alloc _).alloc _).alloc _).drew)
  have hsz0 : w.heap.size + 1 + 1 < W.heap.size := by rw [hW]; simp
  obtain ⟨a0, a1, a2, a3, a4⟩ := (show Hld W w.heap.size 24 #[.string k, .int .i64 t1, .int .u16 o1, .string v1, .int .i64 u1] by rw [hW]; exact (((Hld.new w _ _).alloc _).alloc _).drew).five
  obtain ⟨b0, b1, b2, b3, b4⟩ := (show Hld W (w.heap.size + 1) 24 #[.string k, .int .i64 t2, .int .u16 o2, .string v2, .int .i64 u2] by rw [hW]; exact ((Hld.at_ _ _ _ _ (by simp)).alloc _).drew).five
  obtain ⟨c0, c1, c2, c3, c4⟩ := (show Hld W (w.heap.size + 1 + 1) 24 #[.string k, .int .i64 t3, .int .u16 o3, .string v3, .int .i64 u3] by rw [hW]; exact (Hld.at_ _ _ _ _ (by simp)).drew).five
  clear hW
  have HON := Lib.hid HON.out.drew
  go_region_held3 (fun w' => w'.cell? ⟨w.heap.size, 0, none⟩ = some (.string k) ∧ w'.cell? ⟨w.heap.size, 1, none⟩ = some (.int .i64 t1) ∧ w'.cell? ⟨w.heap.size, 2, none⟩ = some (.int .u16 o1) ∧ w'.cell? ⟨w.heap.size, 3, none⟩ = some (.string v1) ∧ w'.cell? ⟨w.heap.size, 4, none⟩ = some (.int .i64 u1) ∧ w'.cell? ⟨w.heap.size + 1, 0, none⟩ = some (.string k) ∧ w'.cell? ⟨w.heap.size + 1, 1, none⟩ = some (.int .i64 t2) ∧ w'.cell? ⟨w.heap.size + 1, 2, none⟩ = some (.int .u16 o2) ∧ w'.cell? ⟨w.heap.size + 1, 3, none⟩ = some (.string v2) ∧ w'.cell? ⟨w.heap.size + 1, 4, none⟩ = some (.int .i64 u2) ∧ w'.cell? ⟨w.heap.size + 1 + 1, 0, none⟩ = some (.string k) ∧ w'.cell? ⟨w.heap.size + 1 + 1, 1, none⟩ = some (.int .i64 t3) ∧ w'.cell? ⟨w.heap.size + 1 + 1, 2, none⟩ = some (.int .u16 o3) ∧ w'.cell? ⟨w.heap.size + 1 + 1, 3, none⟩ = some (.string v3) ∧ w'.cell? ⟨w.heap.size + 1 + 1, 4, none⟩ = some (.int .i64 u3)) (go_keep)
    ((go_at_call 14; refine (entry_above' _ _ _ _ _ _ _ _ _ _ _).mono ?_; rintro e w1 ⟨rfl, ho⟩; (first | rw [X.out] | rw [Y.out] | rw [Z.out]); have hcs0 := (fun (o : Nat) => ho.cells w.heap.size o (by (try simp); (try omega))); have hcs1 := (fun (o : Nat) => ho.cells (w.heap.size + 1) o (by (try simp); (try omega))); have hcs2 := (fun (o : Nat) => ho.cells (w.heap.size + 1 + 1) o (by (try simp); (try omega))); have hsz : w.heap.size + 1 + 1 < w1.heap.size := (by have h8 := ho.size; (try simp at h8); omega); have HON := Lib.hid (HON.out.tr ho); clear ho))
  have hne : ∀ V, (binOp .neq 24 (.agg #[.string k, .int .i64 t1, .int .u16 o1, .string v1, .int .i64 u1]) (.agg #[.string k, .int .i64 t2, .int .u16 o2, .string v2, .int .i64 u2])).run Tryd.prog V = .ok (.bool true) V := fun V => by
    rw [ne_ent ⟨k, t1, o1, v1, u1⟩ ⟨k, t2, o2, v2, u2⟩ V, Q.out]
    rfl
  go_wp2_with (first | (go_at_call 14; refine (entry_above' _ _ _ _ _ _ _ _ _ _ _).mono ?_; rintro e w1 ⟨rfl, ho⟩; (first | rw [X.out] | rw [Y.out] | rw [Z.out] | rw [T.out] | rw [S.out]); have hcs0 := (fun (o : Nat) => ho.cells w.heap.size o (by (try simp); (try omega))); have hcs1 := (fun (o : Nat) => ho.cells (w.heap.size + 1) o (by (try simp); (try omega))); have hcs2 := (fun (o : Nat) => ho.cells (w.heap.size + 1 + 1) o (by (try simp); (try omega))); have hsz : w.heap.size + 1 + 1 < w1.heap.size := (by have h8 := ho.size; (try simp at h8); omega); have HON := Lib.hid (HON.out.tr ho); clear ho) | (go_at_call 15; refine (entry_awake _ (HT.out.noth HON.out)).mono ?_; rintro e w1 ⟨rfl, ho⟩; have HON := Lib.hid (HON.out.tr ho); clear ho))
  go_ret
  exact ⟨rfl, HON.out⟩
set_option maxRecDepth 100000 in
theorem order_TFF (k : ByteArray) (t1 o1 : Int) (v1 : ByteArray) (u1 : Int) (k2 : ByteArray) (t2 o2 : Int) (v2 : ByteArray) (u2 : Int) (k3 : ByteArray) (t3 o3 : Int) (v3 : ByteArray) (u3 : Int) (w : World) (ht : Tab w)
    (x : Ent.above ⟨k, t1, o1, v1, u1⟩ ⟨k, t2, o2, v2, u2⟩ = true) (y : Ent.above ⟨k, t2, o2, v2, u2⟩ ⟨k, t1, o1, v1, u1⟩ = false) (z : Ent.above ⟨k, t2, o2, v2, u2⟩ ⟨k, t3, o3, v3, u3⟩ = false) 
    (s : Ent.above ⟨k, t1, o1, v1, u1⟩ ⟨k, t1, o1, v1, u1⟩ = false) (q : Ent.same ⟨k, t1, o1, v1, u1⟩ ⟨k, t2, o2, v2, u2⟩ = false) :
    Calls Tryd.prog 3 #[.agg #[.string k, .int .i64 t1, .int .u16 o1, .string v1, .int .i64 u1], .agg #[.string k2, .int .i64 t2, .int .u16 o2, .string v2, .int .i64 u2], .agg #[.string k3, .int .i64 t3, .int .u16 o3, .string v3, .int .i64 u3]] w
      fun e w' => e = .returned (.bool true) ∧ Only Noth w w' := by
  have X := Lib.hid x
  have Y := Lib.hid y
  have Z := Lib.hid z
  have S := Lib.hid s
  have HT := Lib.hid ht
  have Q := Lib.hid q
  clear x y z s q ht
  go_enter Tryd.func3, Tryd.ntmps3
  go_wp2
  go_region
  go_wp2_with fail
  obtain ⟨W, hW⟩ : ∃ W, W = (((w.alloc (.cells #[.string k, .int .i64 t1, .int .u16 o1, .string v1, .int .i64 u1] 24)).alloc (.cells #[.string k, .int .i64 t2, .int .u16 o2, .string v2, .int .i64 u2] 24)).alloc (.cells #[.string k, .int .i64 t3, .int .u16 o3, .string v3, .int .i64 u3] 24)).drew := ⟨_, rfl⟩
  rw [← hW]
  have HON := Lib.hid (show Only Noth w W by rw [hW]; exact ((((Only.refl _ _).alloc _).alloc _).alloc _).drew)
  have hsz0 : w.heap.size + 1 + 1 < W.heap.size := by rw [hW]; simp
  obtain ⟨a0, a1, a2, a3, a4⟩ := (show Hld W w.heap.size 24 #[.string k, .int .i64 t1, .int .u16 o1, .string v1, .int .i64 u1] by rw [hW]; exact (((Hld.new w _ _).alloc _).alloc _).drew).five
  obtain ⟨b0, b1, b2, b3, b4⟩ := (show Hld W (w.heap.size + 1) 24 #[.string k, .int .i64 t2, .int .u16 o2, .string v2, .int .i64 u2] by rw [hW]; exact ((Hld.at_ _ _ _ _ (by simp)).alloc _).drew).five
  obtain ⟨c0, c1, c2, c3, c4⟩ := (show Hld W (w.heap.size + 1 + 1) 24 #[.string k, .int .i64 t3, .int .u16 o3, .string v3, .int .i64 u3] by rw [hW]; exact (Hld.at_ _ _ _ _ (by simp)).drew).five
  clear hW
  have HON := Lib.hid HON.out.drew
  go_region_held3 (fun w' => w'.cell? ⟨w.heap.size, 0, none⟩ = some (.string k) ∧ w'.cell? ⟨w.heap.size, 1, none⟩ = some (.int .i64 t1) ∧ w'.cell? ⟨w.heap.size, 2, none⟩ = some (.int .u16 o1) ∧ w'.cell? ⟨w.heap.size, 3, none⟩ = some (.string v1) ∧ w'.cell? ⟨w.heap.size, 4, none⟩ = some (.int .i64 u1) ∧ w'.cell? ⟨w.heap.size + 1, 0, none⟩ = some (.string k) ∧ w'.cell? ⟨w.heap.size + 1, 1, none⟩ = some (.int .i64 t2) ∧ w'.cell? ⟨w.heap.size + 1, 2, none⟩ = some (.int .u16 o2) ∧ w'.cell? ⟨w.heap.size + 1, 3, none⟩ = some (.string v2) ∧ w'.cell? ⟨w.heap.size + 1, 4, none⟩ = some (.int .i64 u2) ∧ w'.cell? ⟨w.heap.size + 1 + 1, 0, none⟩ = some (.string k) ∧ w'.cell? ⟨w.heap.size + 1 + 1, 1, none⟩ = some (.int .i64 t3) ∧ w'.cell? ⟨w.heap.size + 1 + 1, 2, none⟩ = some (.int .u16 o3) ∧ w'.cell? ⟨w.heap.size + 1 + 1, 3, none⟩ = some (.string v3) ∧ w'.cell? ⟨w.heap.size + 1 + 1, 4, none⟩ = some (.int .i64 u3)) (go_keep)
    ((go_at_call 14; refine (entry_above' _ _ _ _ _ _ _ _ _ _ _).mono ?_; rintro e w1 ⟨rfl, ho⟩; (first | rw [X.out] | rw [Y.out] | rw [Z.out]); have hcs0 := (fun (o : Nat) => ho.cells w.heap.size o (by (try simp); (try omega))); have hcs1 := (fun (o : Nat) => ho.cells (w.heap.size + 1) o (by (try simp); (try omega))); have hcs2 := (fun (o : Nat) => ho.cells (w.heap.size + 1 + 1) o (by (try simp); (try omega))); have hsz : w.heap.size + 1 + 1 < w1.heap.size := (by have h8 := ho.size; (try simp at h8); omega); have HON := Lib.hid (HON.out.tr ho); clear ho))
  have hne : ∀ V, (binOp .neq 24 (.agg #[.string k, .int .i64 t1, .int .u16 o1, .string v1, .int .i64 u1]) (.agg #[.string k, .int .i64 t2, .int .u16 o2, .string v2, .int .i64 u2])).run Tryd.prog V = .ok (.bool true) V := fun V => by
    rw [ne_ent ⟨k, t1, o1, v1, u1⟩ ⟨k, t2, o2, v2, u2⟩ V, Q.out]
    rfl
  go_wp2_with (first | (go_at_call 14; refine (entry_above' _ _ _ _ _ _ _ _ _ _ _).mono ?_; rintro e w1 ⟨rfl, ho⟩; (first | rw [X.out] | rw [Y.out] | rw [Z.out] | rw [S.out]); have hcs0 := (fun (o : Nat) => ho.cells w.heap.size o (by (try simp); (try omega))); have hcs1 := (fun (o : Nat) => ho.cells (w.heap.size + 1) o (by (try simp); (try omega))); have hcs2 := (fun (o : Nat) => ho.cells (w.heap.size + 1 + 1) o (by (try simp); (try omega))); have hsz : w.heap.size + 1 + 1 < w1.heap.size := (by have h8 := ho.size; (try simp at h8); omega); have HON := Lib.hid (HON.out.tr ho); clear ho) | (go_at_call 15; refine (entry_awake _ (HT.out.noth HON.out)).mono ?_; rintro e w1 ⟨rfl, ho⟩; have HON := Lib.hid (HON.out.tr ho); clear ho))
  go_ret
  exact ⟨rfl, HON.out⟩
set_option maxRecDepth 100000 in
theorem order_FT (k : ByteArray) (t1 o1 : Int) (v1 : ByteArray) (u1 : Int) (k2 : ByteArray) (t2 o2 : Int) (v2 : ByteArray) (u2 : Int) (k3 : ByteArray) (t3 o3 : Int) (v3 : ByteArray) (u3 : Int) (w : World) (z0 : Bool) (ht : Tab w)
    (x : Ent.above ⟨k, t1, o1, v1, u1⟩ ⟨k, t2, o2, v2, u2⟩ = false) (y : Ent.above ⟨k, t2, o2, v2, u2⟩ ⟨k, t1, o1, v1, u1⟩ = true) (z : Ent.above ⟨k, t2, o2, v2, u2⟩ ⟨k, t3, o3, v3, u3⟩ = z0)
    (s : Ent.above ⟨k, t1, o1, v1, u1⟩ ⟨k, t1, o1, v1, u1⟩ = false) (q : Ent.same ⟨k, t1, o1, v1, u1⟩ ⟨k, t2, o2, v2, u2⟩ = false) :
    Calls Tryd.prog 3 #[.agg #[.string k, .int .i64 t1, .int .u16 o1, .string v1, .int .i64 u1], .agg #[.string k2, .int .i64 t2, .int .u16 o2, .string v2, .int .i64 u2], .agg #[.string k3, .int .i64 t3, .int .u16 o3, .string v3, .int .i64 u3]] w
      fun e w' => e = .returned (.bool true) ∧ Only Noth w w' := by
  have X := Lib.hid x
  have Y := Lib.hid y
  have Z := Lib.hid z
  have S := Lib.hid s
  have HT := Lib.hid ht
  have Q := Lib.hid q
  clear x y z s q ht
  go_enter Tryd.func3, Tryd.ntmps3
  go_wp2
  go_region
  go_wp2_with fail
  obtain ⟨W, hW⟩ : ∃ W, W = (((w.alloc (.cells #[.string k, .int .i64 t1, .int .u16 o1, .string v1, .int .i64 u1] 24)).alloc (.cells #[.string k, .int .i64 t2, .int .u16 o2, .string v2, .int .i64 u2] 24)).alloc (.cells #[.string k, .int .i64 t3, .int .u16 o3, .string v3, .int .i64 u3] 24)).drew := ⟨_, rfl⟩
  rw [← hW]
  have HON := Lib.hid (show Only Noth w W by rw [hW]; exact ((((Only.refl _ _).alloc _).alloc _).alloc _).drew)
  have hsz0 : w.heap.size + 1 + 1 < W.heap.size := by rw [hW]; simp
  obtain ⟨a0, a1, a2, a3, a4⟩ := (show Hld W w.heap.size 24 #[.string k, .int .i64 t1, .int .u16 o1, .string v1, .int .i64 u1] by rw [hW]; exact (((Hld.new w _ _).alloc _).alloc _).drew).five
  obtain ⟨b0, b1, b2, b3, b4⟩ := (show Hld W (w.heap.size + 1) 24 #[.string k, .int .i64 t2, .int .u16 o2, .string v2, .int .i64 u2] by rw [hW]; exact ((Hld.at_ _ _ _ _ (by simp)).alloc _).drew).five
  obtain ⟨c0, c1, c2, c3, c4⟩ := (show Hld W (w.heap.size + 1 + 1) 24 #[.string k, .int .i64 t3, .int .u16 o3, .string v3, .int .i64 u3] by rw [hW]; exact (Hld.at_ _ _ _ _ (by simp)).drew).five
  clear hW
  have HON := Lib.hid HON.out.drew
  go_region_held3 (fun w' => w'.cell? ⟨w.heap.size, 0, none⟩ = some (.string k) ∧ w'.cell? ⟨w.heap.size, 1, none⟩ = some (.int .i64 t1) ∧ w'.cell? ⟨w.heap.size, 2, none⟩ = some (.int .u16 o1) ∧ w'.cell? ⟨w.heap.size, 3, none⟩ = some (.string v1) ∧ w'.cell? ⟨w.heap.size, 4, none⟩ = some (.int .i64 u1) ∧ w'.cell? ⟨w.heap.size + 1, 0, none⟩ = some (.string k) ∧ w'.cell? ⟨w.heap.size + 1, 1, none⟩ = some (.int .i64 t2) ∧ w'.cell? ⟨w.heap.size + 1, 2, none⟩ = some (.int .u16 o2) ∧ w'.cell? ⟨w.heap.size + 1, 3, none⟩ = some (.string v2) ∧ w'.cell? ⟨w.heap.size + 1, 4, none⟩ = some (.int .i64 u2) ∧ w'.cell? ⟨w.heap.size + 1 + 1, 0, none⟩ = some (.string k) ∧ w'.cell? ⟨w.heap.size + 1 + 1, 1, none⟩ = some (.int .i64 t3) ∧ w'.cell? ⟨w.heap.size + 1 + 1, 2, none⟩ = some (.int .u16 o3) ∧ w'.cell? ⟨w.heap.size + 1 + 1, 3, none⟩ = some (.string v3) ∧ w'.cell? ⟨w.heap.size + 1 + 1, 4, none⟩ = some (.int .i64 u3)) (go_keep)
    ((go_at_call 14; refine (entry_above' _ _ _ _ _ _ _ _ _ _ _).mono ?_; rintro e w1 ⟨rfl, ho⟩; (first | rw [X.out] | rw [Y.out] | rw [Z.out]); have hcs0 := (fun (o : Nat) => ho.cells w.heap.size o (by (try simp); (try omega))); have hcs1 := (fun (o : Nat) => ho.cells (w.heap.size + 1) o (by (try simp); (try omega))); have hcs2 := (fun (o : Nat) => ho.cells (w.heap.size + 1 + 1) o (by (try simp); (try omega))); have hsz : w.heap.size + 1 + 1 < w1.heap.size := (by have h8 := ho.size; (try simp at h8); omega); have HON := Lib.hid (HON.out.tr ho); clear ho))
  have hne : ∀ V, (binOp .neq 24 (.agg #[.string k, .int .i64 t1, .int .u16 o1, .string v1, .int .i64 u1]) (.agg #[.string k, .int .i64 t2, .int .u16 o2, .string v2, .int .i64 u2])).run Tryd.prog V = .ok (.bool true) V := fun V => by
    rw [ne_ent ⟨k, t1, o1, v1, u1⟩ ⟨k, t2, o2, v2, u2⟩ V, Q.out]
    rfl
  go_wp2_with (first | (go_at_call 14; refine (entry_above' _ _ _ _ _ _ _ _ _ _ _).mono ?_; rintro e w1 ⟨rfl, ho⟩; (first | rw [X.out] | rw [Y.out] | rw [Z.out] | rw [S.out]); have hcs0 := (fun (o : Nat) => ho.cells w.heap.size o (by (try simp); (try omega))); have hcs1 := (fun (o : Nat) => ho.cells (w.heap.size + 1) o (by (try simp); (try omega))); have hcs2 := (fun (o : Nat) => ho.cells (w.heap.size + 1 + 1) o (by (try simp); (try omega))); have hsz : w.heap.size + 1 + 1 < w1.heap.size := (by have h8 := ho.size; (try simp at h8); omega); have HON := Lib.hid (HON.out.tr ho); clear ho) | (go_at_call 15; refine (entry_awake _ (HT.out.noth HON.out)).mono ?_; rintro e w1 ⟨rfl, ho⟩; have HON := Lib.hid (HON.out.tr ho); clear ho))
  go_ret
  exact ⟨rfl, HON.out⟩
set_option maxRecDepth 100000 in
theorem order_FF (k : ByteArray) (t1 o1 : Int) (v1 : ByteArray) (u1 : Int) (k2 : ByteArray) (t2 o2 : Int) (v2 : ByteArray) (u2 : Int) (k3 : ByteArray) (t3 o3 : Int) (v3 : ByteArray) (u3 : Int) (w : World) (z0 : Bool) (ht : Tab w)
    (x : Ent.above ⟨k, t1, o1, v1, u1⟩ ⟨k, t2, o2, v2, u2⟩ = false) (y : Ent.above ⟨k, t2, o2, v2, u2⟩ ⟨k, t1, o1, v1, u1⟩ = false) (z : Ent.above ⟨k, t2, o2, v2, u2⟩ ⟨k, t3, o3, v3, u3⟩ = z0)
    (s : Ent.above ⟨k, t1, o1, v1, u1⟩ ⟨k, t1, o1, v1, u1⟩ = false) (q : Ent.same ⟨k, t1, o1, v1, u1⟩ ⟨k, t2, o2, v2, u2⟩ = true) :
    Calls Tryd.prog 3 #[.agg #[.string k, .int .i64 t1, .int .u16 o1, .string v1, .int .i64 u1], .agg #[.string k2, .int .i64 t2, .int .u16 o2, .string v2, .int .i64 u2], .agg #[.string k3, .int .i64 t3, .int .u16 o3, .string v3, .int .i64 u3]] w
      fun e w' => e = .returned (.bool true) ∧ Only Noth w w' := by
  have X := Lib.hid x
  have Y := Lib.hid y
  have Z := Lib.hid z
  have S := Lib.hid s
  have HT := Lib.hid ht
  have Q := Lib.hid q
  clear x y z s q ht
  go_enter Tryd.func3, Tryd.ntmps3
  go_wp2
  go_region
  go_wp2_with fail
  obtain ⟨W, hW⟩ : ∃ W, W = (((w.alloc (.cells #[.string k, .int .i64 t1, .int .u16 o1, .string v1, .int .i64 u1] 24)).alloc (.cells #[.string k, .int .i64 t2, .int .u16 o2, .string v2, .int .i64 u2] 24)).alloc (.cells #[.string k, .int .i64 t3, .int .u16 o3, .string v3, .int .i64 u3] 24)).drew := ⟨_, rfl⟩
  rw [← hW]
  have HON := Lib.hid (show Only Noth w W by rw [hW]; exact ((((Only.refl _ _).alloc _).alloc _).alloc _).drew)
  have hsz0 : w.heap.size + 1 + 1 < W.heap.size := by rw [hW]; simp
  obtain ⟨a0, a1, a2, a3, a4⟩ := (show Hld W w.heap.size 24 #[.string k, .int .i64 t1, .int .u16 o1, .string v1, .int .i64 u1] by rw [hW]; exact (((Hld.new w _ _).alloc _).alloc _).drew).five
  obtain ⟨b0, b1, b2, b3, b4⟩ := (show Hld W (w.heap.size + 1) 24 #[.string k, .int .i64 t2, .int .u16 o2, .string v2, .int .i64 u2] by rw [hW]; exact ((Hld.at_ _ _ _ _ (by simp)).alloc _).drew).five
  obtain ⟨c0, c1, c2, c3, c4⟩ := (show Hld W (w.heap.size + 1 + 1) 24 #[.string k, .int .i64 t3, .int .u16 o3, .string v3, .int .i64 u3] by rw [hW]; exact (Hld.at_ _ _ _ _ (by simp)).drew).five
  clear hW
  have HON := Lib.hid HON.out.drew
  go_region_held3 (fun w' => w'.cell? ⟨w.heap.size, 0, none⟩ = some (.string k) ∧ w'.cell? ⟨w.heap.size, 1, none⟩ = some (.int .i64 t1) ∧ w'.cell? ⟨w.heap.size, 2, none⟩ = some (.int .u16 o1) ∧ w'.cell? ⟨w.heap.size, 3, none⟩ = some (.string v1) ∧ w'.cell? ⟨w.heap.size, 4, none⟩ = some (.int .i64 u1) ∧ w'.cell? ⟨w.heap.size + 1, 0, none⟩ = some (.string k) ∧ w'.cell? ⟨w.heap.size + 1, 1, none⟩ = some (.int .i64 t2) ∧ w'.cell? ⟨w.heap.size + 1, 2, none⟩ = some (.int .u16 o2) ∧ w'.cell? ⟨w.heap.size + 1, 3, none⟩ = some (.string v2) ∧ w'.cell? ⟨w.heap.size + 1, 4, none⟩ = some (.int .i64 u2) ∧ w'.cell? ⟨w.heap.size + 1 + 1, 0, none⟩ = some (.string k) ∧ w'.cell? ⟨w.heap.size + 1 + 1, 1, none⟩ = some (.int .i64 t3) ∧ w'.cell? ⟨w.heap.size + 1 + 1, 2, none⟩ = some (.int .u16 o3) ∧ w'.cell? ⟨w.heap.size + 1 + 1, 3, none⟩ = some (.string v3) ∧ w'.cell? ⟨w.heap.size + 1 + 1, 4, none⟩ = some (.int .i64 u3)) (go_keep)
    ((go_at_call 14; refine (entry_above' _ _ _ _ _ _ _ _ _ _ _).mono ?_; rintro e w1 ⟨rfl, ho⟩; (first | rw [X.out] | rw [Y.out] | rw [Z.out]); have hcs0 := (fun (o : Nat) => ho.cells w.heap.size o (by (try simp); (try omega))); have hcs1 := (fun (o : Nat) => ho.cells (w.heap.size + 1) o (by (try simp); (try omega))); have hcs2 := (fun (o : Nat) => ho.cells (w.heap.size + 1 + 1) o (by (try simp); (try omega))); have hsz : w.heap.size + 1 + 1 < w1.heap.size := (by have h8 := ho.size; (try simp at h8); omega); have HON := Lib.hid (HON.out.tr ho); clear ho))
  have hne : ∀ V, (binOp .neq 24 (.agg #[.string k, .int .i64 t1, .int .u16 o1, .string v1, .int .i64 u1]) (.agg #[.string k, .int .i64 t2, .int .u16 o2, .string v2, .int .i64 u2])).run Tryd.prog V = .ok (.bool false) V := fun V => by
    rw [ne_ent ⟨k, t1, o1, v1, u1⟩ ⟨k, t2, o2, v2, u2⟩ V, Q.out]
    rfl
  go_wp2_with (first | (go_at_call 14; refine (entry_above' _ _ _ _ _ _ _ _ _ _ _).mono ?_; rintro e w1 ⟨rfl, ho⟩; (first | rw [X.out] | rw [Y.out] | rw [Z.out] | rw [S.out]); have hcs0 := (fun (o : Nat) => ho.cells w.heap.size o (by (try simp); (try omega))); have hcs1 := (fun (o : Nat) => ho.cells (w.heap.size + 1) o (by (try simp); (try omega))); have hcs2 := (fun (o : Nat) => ho.cells (w.heap.size + 1 + 1) o (by (try simp); (try omega))); have hsz : w.heap.size + 1 + 1 < w1.heap.size := (by have h8 := ho.size; (try simp at h8); omega); have HON := Lib.hid (HON.out.tr ho); clear ho) | (go_at_call 15; refine (entry_awake _ (HT.out.noth HON.out)).mono ?_; rintro e w1 ⟨rfl, ho⟩; have HON := Lib.hid (HON.out.tr ho); clear ho))
  go_ret
  exact ⟨rfl, HON.out⟩

theorem order_walk (a b c : Ent) (w : World) (ht : Tab w) :
    Calls Tryd.prog 3 #[.agg #[.string a.key, .int .i64 a.time, .int .u16 a.org, .string a.val, .int .i64 a.til], .agg #[.string b.key, .int .i64 b.time, .int .u16 b.org, .string b.val, .int .i64 b.til], .agg #[.string c.key, .int .i64 c.time, .int .u16 c.org, .string c.val, .int .i64 c.til]] w
      fun e w' => e = .returned (.bool true) ∧ Only Noth w w' := by
  have hs := above_irrefl a
  cases hx : Ent.above ⟨a.key, a.time, a.org, a.val, a.til⟩ ⟨a.key, b.time, b.org, b.val, b.til⟩ with
  | true =>
    have hy := above_anti hx
    have hq : Ent.same ⟨a.key, a.time, a.org, a.val, a.til⟩ ⟨a.key, b.time, b.org, b.val, b.til⟩ = false := by
      cases h : Ent.same ⟨a.key, a.time, a.org, a.val, a.til⟩ ⟨a.key, b.time, b.org, b.val, b.til⟩ with
      | false => rfl
      | true =>
        rw [same_iff.1 h, above_irrefl] at hx
        cases hx
    cases hz : Ent.above ⟨a.key, b.time, b.org, b.val, b.til⟩ ⟨a.key, c.time, c.org, c.val, c.til⟩ with
    | true => exact order_TFT _ _ _ _ _ _ _ _ _ _ _ _ _ _ _ w ht hx hy hz (above_trans hx hz) hs hq
    | false => exact order_TFF _ _ _ _ _ _ _ _ _ _ _ _ _ _ _ w ht hx hy hz hs hq
  | false =>
    cases hy : Ent.above ⟨a.key, b.time, b.org, b.val, b.til⟩ ⟨a.key, a.time, a.org, a.val, a.til⟩ with
    | true =>
      have hq : Ent.same ⟨a.key, a.time, a.org, a.val, a.til⟩ ⟨a.key, b.time, b.org, b.val, b.til⟩ = false := by
        cases h : Ent.same ⟨a.key, a.time, a.org, a.val, a.til⟩ ⟨a.key, b.time, b.org, b.val, b.til⟩ with
        | false => rfl
        | true =>
          rw [same_iff.1 h, above_irrefl] at hy
          cases hy
      exact order_FT _ _ _ _ _ _ _ _ _ _ _ _ _ _ _ w _ ht hx hy rfl hs hq
    | false =>
      have hq : Ent.same ⟨a.key, a.time, a.org, a.val, a.til⟩ ⟨a.key, b.time, b.org, b.val, b.til⟩ = true := same_iff.2 (above_total rfl hx hy)
      exact order_FF _ _ _ _ _ _ _ _ _ _ _ _ _ _ _ w _ ht hx hy rfl hs hq
end Go.Proofs.YtgclhkknkppmbaaDoor
