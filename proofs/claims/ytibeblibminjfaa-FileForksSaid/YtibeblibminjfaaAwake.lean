/- The closed case awake. -/
import Derived.Test.YtibeblibminjfaaDiskF
import Derived.Lib.SlBytesConst
namespace Go.Proofs.Ytibeblibminjfaa
open Go.RowKit
set_option linter.unusedVariables false

theorem src_new (w : World) (l : List Int) (cs : Array Value) (fr : Nat × Nat) (h : cs.toList = u8s l) : Src (w.alloc (.cells cs 5 fr)) (fun k => k = w.heap.size) 1 (some ⟨w.heap.size, 0, none⟩) l.length (u8s l) := by
  refine ⟨by simp [u8s], fun _ => ⟨_, rfl, rfl, by simp, fun j u hu => ?_⟩⟩
  rw [add_plain', cell_of_row _ w.heap.size _ cs 5 fr (heap_alloc_new w _)]
  rw [← h] at hu
  simpa using hu

theorem conv_str {S : Nat → Prop} {A : Option Addr} {l : List Int} {w : World} (c : Nat) (hs : Src w S 1 A l.length (u8s l)) :
    (convert 22 9 (.slice A l.length c)).run Try.prog w = .ok (.string (strOfNums l)) w := by
  have hnil : strOfNums [] = ByteArray.empty := rfl
  cases A with
  | none =>
    have hl : l.length = 0 := by
      rcases Nat.eq_zero_or_pos l.length with h | h
      · exact h
      · obtain ⟨ad, h, _⟩ := hs.2 h
        cases h
    have hl' : l = [] := List.eq_nil_of_length_eq_zero hl
    subst hl'
    rw [hnil]
    exact run_convert_bytes_nil w 22 5 Try.underlying22 Try.underlying5 _ c 9 Try.underlying9
  | some a =>
    have hld : (loadCells a l.length).run Try.prog w = .ok (l.map (Value.int .u8)).toArray w := by
      have hc : ∀ j v, (u8s l)[j]? = some v → w.cell? (a.add j) = some v := by
        rcases Nat.eq_zero_or_pos l.length with h | h
        · intro j v hj
          have hl' : l = [] := List.eq_nil_of_length_eq_zero h
          subst hl'
          simp [u8s] at hj
        · obtain ⟨ad, h, _, _, hc⟩ := hs.2 h
          injection h with h
          subst h
          exact hc
      have := run_loadCells_list (P := Try.prog) w a (u8s l) hc
      simpa [u8s] using this
    rw [run_convert_bytes_string w 22 9 5 _ l.length c Try.underlying22 Try.underlying5 Try.underlying9, run_bytesToString w a l.length c l hld, foldl_push_bytes]
    simp [strOfNums, ByteArray.empty, ByteArray.emptyWithCapacity]
    rfl

theorem conv_strN {S : Nat → Prop} {A : Option Addr} {l : List Int} {w : World} (n c : Nat) (hn : l.length = n) (hs : Src w S 1 A n (u8s l)) :
    (convert 22 9 (.slice A n c)).run Try.prog w = .ok (.string (strOfNums l)) w := by
  subst hn
  exact conv_str c hs

theorem strOfNums_append (l m : List Int) : strOfNums (l ++ m) = strOfNums l ++ strOfNums m := by
  unfold strOfNums
  rw [ByteArray.mk_append_mk, List.map_append]

def k1 : Dk := { snap := [], log := [97, 98], sf := 0, cp := 10, op := 1, fu := -1, dn := false, dw := false }
def k2 : Dk := { snap := [], log := [97, 98], sf := 2, cp := 10, op := 2, fu := -1, dn := false, dw := false }
def k3 : Dk := { snap := [], log := [97, 98, 99, 100], sf := 2, cp := 10, op := 3, fu := -1, dn := false, dw := false }
def k4 : Dk := { snap := [], log := [97, 98, 99], sf := 3, cp := 10, op := 3, fu := -1, dn := false, dw := false }
theorem k1_eq : (Dk.new 10).append [97, 98] = (k1, 0) := rfl
theorem k2_eq : k1.sync = (k2, 0) := rfl
theorem k3_eq : k2.append [99, 100] = (k3, 0) := rfl
theorem k4_eq : k3.crash 1 = k4 := rfl
theorem k5_eq : k4.append [0, 0, 0, 0, 0, 0, 0, 0] = (k4, 11) := rfl

theorem append_at {F S : Nat → Prop} {w : World} {b : Nat} {d d' : Dk} {er : Int} (A : Option Addr) (l : List Int) (n c : Nat) (hn : l.length = n) (hD : DiskAt F w b d) (hs : Src w S 1 A n (u8s l)) (hSF : ∀ k, S k → ¬ F k) (hl : d.log.length + l.length ≤ 100000000) (hop : d.op + 1 ≤ 1000000)
    (he : d.append l = (d', er)) : Calls Try.prog 10 #[.pointer (some ⟨b, 0, none⟩), .slice A n c] w fun e w' => e = .returned (.int .i64 er) ∧ Leaves F b d' w w' := by
  subst hn
  have h := disk_append A l c hD hs hSF hl hop
  rwa [he] at h

theorem DiskAt.lt {F : Nat → Prop} {w : World} {b : Nat} {d : Dk} (h : DiskAt F w b d) : ∀ k, F k → k < w.heap.size := by
  obtain ⟨_, _, _, _, _, _, _, _, _, _, h7, _⟩ := h
  exact h7
theorem DiskAt.apart {F : Nat → Prop} {w : World} {b : Nat} {d : Dk} (h : DiskAt F w b d) : ∀ k, k = w.heap.size → ¬ F k := fun k hk hF => by
  have := h.lt k hF
  omega

/-- What has turned since w is new; so is F. -/
structure Ours (w : World) (F : Nat → Prop) (a : World) : Prop where
  only : Only Noth w a
  new : ∀ j, F j → w.heap.size ≤ j
theorem Ours.leaves {w a c : World} {F : Nat → Prop} {b : Nat} {d : Dk} (h : Ours w F a) (hl : Leaves F b d a c) : Ours w (Plus F a c) c :=
  ⟨h.only.trans hl.2 (fun j hj hlt => by have := h.new j hj; omega), fun j hj => by
    rcases hj with hj | hj
    · exact h.new j hj
    · exact Nat.le_trans h.only.size hj.1⟩
theorem Ours.quiet {w a c : World} {F : Nat → Prop} (h : Ours w F a) (ho : Only Noth a c) : Ours w F c := ⟨h.only.trans ho (fun _ h _ => h), h.new⟩
theorem Ours.alloc {w a : World} {F : Nat → Prop} (h : Ours w F a) (o : Obj) : Ours w F (a.alloc o) := ⟨h.only.alloc o, h.new⟩

theorem make8 (w : World) : (Instr.makeSlice 22 (.int .i64 8) (.int .i64 8)).run Try.prog w = .ok (.slice (some ⟨w.heap.size, 0, none⟩) 8 8) (w.alloc (.cells #[.int .u8 0, .int .u8 0, .int .u8 0, .int .u8 0, .int .u8 0, .int .u8 0, .int .u8 0, .int .u8 0] 5)) := by kernel_rfl

theorem awake_any (w : World) : Calls Try.prog 14 #[] w fun e w' => e = .returned (.bool true) ∧ Only Noth w w' := by
  have hcv := fun (w : World) (C : Array Value) (n c : Nat) => Lib.run_convert_bytes_const (P := Try.prog) w 22 5 C n c Try.underlying22 Try.underlying5
  have hmk := make8
  go_enter Try.func14, Try.ntmps14
  go_wp2_with fail
  refine (disk_new 10 (by omega) _).mono ?_
  rintro e w1 ⟨rfl, hD1, ho1, hz1⟩
  have HD1 := Lib.hid hD1
  have HO1 := Lib.hid ho1
  clear hD1 ho1 hz1
  go_wp2_with fail
  refine (append_at _ [97, 98] 2 2 rfl (HD1.out.alloc _) (src_new _ [97, 98] _ _ rfl) HD1.out.apart (by decide) (by decide) k1_eq).mono ?_
  rintro e w2 ⟨rfl, hL2⟩
  have HL2 := Lib.hid hL2
  clear hL2
  go_wp2_with fail
  have h3 := disk_sync HL2.out.1 (by decide)
  rw [k2_eq] at h3
  refine h3.mono ?_
  clear h3
  rintro e w3 ⟨rfl, hL3⟩
  have HL3 := Lib.hid hL3
  clear hL3
  go_wp2_with fail
  refine (append_at _ [99, 100] 2 2 rfl (HL3.out.1.alloc _) (src_new _ [99, 100] _ _ rfl) HL3.out.1.apart (by decide) (by decide) k3_eq).mono ?_
  rintro e w4 ⟨rfl, hL4⟩
  have HL4 := Lib.hid hL4
  clear hL4
  go_wp2_with fail
  have h5 := disk_crash 1 HL4.out.1
  rw [k4_eq] at h5
  refine h5.mono ?_
  clear h5
  rintro e w5 ⟨rfl, hL5⟩
  have HL5 := Lib.hid hL5
  clear hL5
  go_wp2_with fail
  refine (disk_read HL5.out.1).mono ?_
  rintro e w6 ⟨v1, v2, rfl, G1, G2, r1, r2, g1, g2, g3, ho6⟩
  obtain ⟨A1, c1, hv1⟩ := r1.shape
  obtain ⟨A2, c2, hv2⟩ := r2.shape
  subst hv1
  subst hv2
  have cs : (convert 22 9 (.slice A2 k4.log.length c2)).run Try.prog w6 = .ok (.string ⟨#[97, 98, 99]⟩) w6 := conv_str c2 r2.src
  have HD6 := Lib.hid (HL5.out.1.only ho6 (fun _ _ h => h))
  have HO6 := Lib.hid ho6
  clear r1 r2 g1 g2 g3 ho6
  go_wp2_with fail
  refine (disk_safe HD6.out).mono ?_
  rintro e w7 ⟨rfl, rfl⟩
  go_wp2_with fail
  refine (disk_ops HD6.out).mono ?_
  rintro e w7 ⟨rfl, rfl⟩
  go_wp2_with fail
  refine (append_at _ [0, 0, 0, 0, 0, 0, 0, 0] 8 8 rfl (HD6.out.alloc _) (src_new _ [0, 0, 0, 0, 0, 0, 0, 0] _ _ rfl) HD6.out.apart (by decide) (by decide) k5_eq).mono ?_
  rintro e w8 ⟨rfl, hL8⟩
  have HL8 := Lib.hid hL8
  clear hL8
  go_wp2_with fail
  go_ret
  refine ⟨rfl, ?_⟩
  have o1 : Ours w (fun k => k = w.heap.size) w1 := ⟨HO1.out, fun j hj => by omega⟩
  exact ((((((((o1.alloc _).leaves HL2.out).leaves HL3.out).alloc _).leaves HL4.out).leaves HL5.out).quiet HO6.out).alloc _ |>.leaves HL8.out).only
end Go.Proofs.Ytibeblibminjfaa
