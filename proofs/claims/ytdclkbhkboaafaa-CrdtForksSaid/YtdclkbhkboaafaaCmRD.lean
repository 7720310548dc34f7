/- The reference's map: Delta, Forget; the check's same. -/
import Derived.Test.YtdclkbhkboaafaaCmRM
namespace Go.Proofs.Ytdclkbhkboaafaa
open Go.RowKit Go.Lib Go.Sort
set_option linter.unusedVariables false
set_option linter.unusedSimpArgs false
set_option maxRecDepth 100000
attribute [local go_sem ↓] Go.wp_at_zero Go.wp_at_succ

/-- Is x above all others of its key? -/
def dl (x : Ent) (m : List Ent) : Bool := m.all fun y => !(y.key.data.toList == x.key.data.toList) || x.above y
theorem dl_lacks (l : List Ent) (x : Ent) : dl x l = lacks (dbest l) x := by
  rw [Bool.eq_iff_iff, lacks_iff]
  unfold dl
  rw [List.all_eq_true]
  refine forall_congr' fun y => forall_congr' fun _ => ?_
  show _ ↔ (y.key.data.toList = x.key.data.toList → _)
  rw [Bool.or_eq_true, Bool.not_eq_true', beq_eq_false_iff_ne]
  constructor
  · rintro (h | h) e
    · exact absurd e h
    · exact h
  · intro h
    by_cases e : y.key.data.toList = x.key.data.toList
    · exact .inr (h e)
    · exact .inl e
theorem dl_snoc {l : List Ent} {k : Nat} {x y : Ent} (hy : l[k]? = some y) : dl x (l.take (k + 1)) = (dl x (l.take k) && (!(y.key.data.toList == x.key.data.toList) || x.above y)) := by
  unfold dl
  rw [List.take_add_one, hy, Option.toList_some, List.all_append]
  simp
set_option maxHeartbeats 16000000 in
theorem rm_delta (A A2 : Option Addr) (c c2 : Nat) (L l : List Ent) (hL : L.length ≤ 256) (w : World) (h : Ents w (.slice A L.length c) L) (hl : Ents w (.slice A2 l.length c2) l) :
    Calls Try.prog 30 #[.agg #[.slice A L.length c], .slice A2 l.length c2] w fun r w' => FiltAns (L.filter (lacks (dbest l))) r w' ∧ Only Noth w w' := by
  have a1 := (Only.refl Noth w).alloc (.cells #[.slice A L.length c] 28)
  have B1 := Lib.hid (Hld.new w 28 #[.slice A L.length c])
  have O1 := Lib.hid a1
  have E := Lib.hid (h.noth a1)
  have EL := Lib.hid (hl.noth a1)
  have hl0 : (0 : Int) ≤ L.length := by omega
  have hl1 : (0 : Int) ≤ l.length := by omega
  have hle : l.length ≤ 9223372036854775807 := by obtain ⟨_, _, _, _, h1, h2⟩ := hl; omega
  clear h hl a1
  go_enter Try.func30, Try.ntmps30
  go_wp2_with fail
  go_loopw [5, 6] (fun s i W => ∃ n : Nat, n ≤ L.length ∧ i = .int .i64 (n : Int) ∧ (∃ N B d, N = (L.take n).filter (lacks (dbest l)) ∧ s = .slice B N.length d ∧ ERow (w.alloc (.cells #[.slice A L.length c] 28)) W B d N) ∧ Only Noth (w.alloc (.cells #[.slice A L.length c] 28)) W) (fun _ i _ => L.length - (RowKit.intOf i).toNat)
  case atStart => exact ⟨0, Nat.zero_le _, rfl, ⟨[], none, 0, by simp, rfl, ERow.empty _ _ _⟩, Only.refl _ _⟩
  case round =>
    obtain ⟨n, hn, rfl, ⟨N, B, d, hN, rfl, hr⟩, ho⟩ := hrel
    replace B1 := Lib.hid (B1.out.only ho (fun h => h))
    replace E := Lib.hid (E.out.noth ho)
    replace EL := Lib.hid (EL.out.noth ho)
    have O := Lib.hid ho
    have ER := Lib.hid hr
    have HN := Lib.hid hN
    have hn0 : (0 : Int) ≤ n := by omega
    have m0 : _ = some (Value.slice A L.length c) := B1.out.cell 0
    have hNl : N.length ≤ L.length := by rw [hN]; exact Nat.le_trans (List.length_filter_le _ _) (by rw [List.length_take]; omega)
    clear ho hN hr
    by_cases hlt : n < L.length
    · obtain ⟨x, hx⟩ : ∃ x, L[n]? = some x := ⟨_, List.getElem?_eq_getElem hlt⟩
      have HF := Lib.hid (filter_snoc (p := lacks (dbest l)) hx)
      obtain ⟨xb, xo, hA, hcx⟩ := E.out.at hx
      subst hA
      have CX := Lib.hid hcx
      have hk1 : (n : Int) < L.length := by omega
      clear hx hcx
      go_wp2_with fail
      obtain ⟨wm, rfl⟩ : ∃ x, x = wr := ⟨_, rfl⟩
      go_loopw [7, 8] (fun s i W => ∃ k : Nat, k ≤ l.length ∧ i = .int .i64 (k : Int) ∧ s = .bool (dl x (l.take k)) ∧ Only Noth wm W) (fun _ i _ => l.length - (RowKit.intOf i).toNat)
      case atStart => exact ⟨0, Nat.zero_le _, rfl, by simp [dl], Only.refl _ _⟩
      case round =>
        obtain ⟨k, hk, rfl, rfl, ho⟩ := hrel
        replace B1 := Lib.hid (B1.out.only ho (fun h => h))
        replace EL := Lib.hid (EL.out.noth ho)
        replace CX := Lib.hid (CX.out.noth ho)
        have OM := Lib.hid ho
        have hk0 : (0 : Int) ≤ k := by omega
        clear ho m0
        by_cases hlk : k < l.length
        · obtain ⟨y, hy⟩ : ∃ y, l[k]? = some y := ⟨_, List.getElem?_eq_getElem hlk⟩
          have HD := Lib.hid (dl_snoc (x := x) hy)
          obtain ⟨yb, yo, hA2, hcy⟩ := EL.out.at hy
          subst hA2
          have CY := Lib.hid hcy
          have hk2 : (k : Int) < l.length := by omega
          clear hy hcy
          obtain ⟨kq, hkq⟩ : ∃ kq, (y.key.data.toList == x.key.data.toList) = kq := ⟨_, rfl⟩
          obtain ⟨av, hav⟩ : ∃ av, x.above y = av := ⟨_, rfl⟩
          obtain ⟨dv, hdv⟩ : ∃ dv, dl x (l.take k) = dv := ⟨_, rfl⟩
          have HD2 := Lib.hid (show dl x (l.take (k + 1)) = (dv && (!kq || av)) by rw [HD.out, hkq, hav, hdv])
          rw [hdv]
          have HK := Lib.hid hkq
          have HV := Lib.hid hav
          clear hkq hav hdv HD
          cases kq
          · go_wp2_with fail
            refine wp_region_N Noth (by kernel_rfl) ?_
            refine wpN_take (i := 0) (d := some 22) rfl rfl (by kernel_rfl) (by kernel_rfl) (by kernel_rfl) (fun _ _ _ h => h) (sure_value (v := .slice (some ⟨yb, yo, none⟩) l.length c2) (by rfl) (fun v1 h1 => by first | rfl | (go_simp; done) | (go_simp; intro h9; exact absurd h9 (by omega)) | (go_simp; assumption))) (Only.refl _ _) ?_
            simp only [Act.put, List.setIfInBounds_toArray, List.set_cons_zero, List.set_cons_succ]
            refine wpN_take (i := 1) (d := some 23) rfl rfl (by kernel_rfl) (by kernel_rfl) (by kernel_rfl) (fun _ _ _ h => h) (sure_value (v := .int .i64 (k : Int)) (by rfl) (fun v1 h1 => by first | rfl | (go_simp; done) | (go_simp; intro h9; exact absurd h9 (by omega)) | (go_simp; assumption))) (Only.refl _ _) ?_
            simp only [Act.put, List.setIfInBounds_toArray, List.set_cons_zero, List.set_cons_succ]
            refine wpN_take (i := 2) (d := some 24) rfl rfl (by kernel_rfl) (by kernel_rfl) (by kernel_rfl) (fun _ _ _ h => h) (sure_value (v := .pointer (some ⟨yb, yo + k * 5, none⟩)) (by rfl) (fun v1 h1 => by first | rfl | (go_simp; done) | (go_simp; intro h9; exact absurd h9 (by omega)) | (go_simp; assumption))) (Only.refl _ _) ?_
            simp only [Act.put, List.setIfInBounds_toArray, List.set_cons_zero, List.set_cons_succ]
            refine wpN_take (i := 3) (d := some 25) rfl rfl (by kernel_rfl) (by kernel_rfl) (by kernel_rfl) (fun _ _ _ h => h) (sure_value (v := .pointer (some ⟨yb, yo + k * 5, none⟩)) (by rfl) (fun v1 h1 => by first | rfl | (go_simp; done) | (go_simp; intro h9; exact absurd h9 (by omega)) | (go_simp; assumption))) (Only.refl _ _) ?_
            simp only [Act.put, List.setIfInBounds_toArray, List.set_cons_zero, List.set_cons_succ]
            refine wpN_take (i := 4) (d := some 26) rfl rfl (by kernel_rfl) (by kernel_rfl) (by kernel_rfl) (fun _ _ _ h => h) (sure_key CY.out.drew (fun h => h) (by rfl) rfl rfl) (Only.refl _ _) ?_
            simp only [Act.put, List.setIfInBounds_toArray, List.set_cons_zero, List.set_cons_succ]
            refine wpN_take (i := 5) (d := some 27) rfl rfl (by kernel_rfl) (by kernel_rfl) (by kernel_rfl) (fun _ _ _ h => h) (sure_value (v := .pointer (some ⟨w.heap.size, 0, none⟩)) (by rfl) (fun v1 h1 => by first | rfl | (go_simp; done) | (go_simp; intro h9; exact absurd h9 (by omega)) | (go_simp; assumption))) (Only.refl _ _) ?_
            simp only [Act.put, List.setIfInBounds_toArray, List.set_cons_zero, List.set_cons_succ]
            refine wpN_take (i := 6) (d := some 28) rfl rfl (by kernel_rfl) (by kernel_rfl) (by kernel_rfl) (fun _ _ _ h => h) (sure_lit (v := .slice (some ⟨xb, xo, none⟩) L.length c) (i := 0) B1.out.drew rfl (fun h => h) (by rfl) (fun _ h => by go_simp)) (Only.refl _ _) ?_
            simp only [Act.put, List.setIfInBounds_toArray, List.set_cons_zero, List.set_cons_succ]
            refine wpN_take (i := 7) (d := some 29) rfl rfl (by kernel_rfl) (by kernel_rfl) (by kernel_rfl) (fun _ _ _ h => h) (sure_value (v := .int .i64 (n : Int)) (by rfl) (fun v1 h1 => by first | rfl | (go_simp; done) | (go_simp; intro h9; exact absurd h9 (by omega)) | (go_simp; assumption))) (Only.refl _ _) ?_
            simp only [Act.put, List.setIfInBounds_toArray, List.set_cons_zero, List.set_cons_succ]
            refine wpN_take (i := 8) (d := some 30) rfl rfl (by kernel_rfl) (by kernel_rfl) (by kernel_rfl) (fun _ _ _ h => h) (sure_value (v := .pointer (some ⟨xb, xo + n * 5, none⟩)) (by rfl) (fun v1 h1 => by first | rfl | (go_simp; done) | (go_simp; intro h9; exact absurd h9 (by omega)) | (go_simp; assumption))) (Only.refl _ _) ?_
            simp only [Act.put, List.setIfInBounds_toArray, List.set_cons_zero, List.set_cons_succ]
            refine wpN_take (i := 9) (d := some 31) rfl rfl (by kernel_rfl) (by kernel_rfl) (by kernel_rfl) (fun _ _ _ h => h) (sure_value (v := .pointer (some ⟨xb, xo + n * 5, none⟩)) (by rfl) (fun v1 h1 => by first | rfl | (go_simp; done) | (go_simp; intro h9; exact absurd h9 (by omega)) | (go_simp; assumption))) (Only.refl _ _) ?_
            simp only [Act.put, List.setIfInBounds_toArray, List.set_cons_zero, List.set_cons_succ]
            refine wpN_take (i := 10) (d := some 32) rfl rfl (by kernel_rfl) (by kernel_rfl) (by kernel_rfl) (fun _ _ _ h => h) (sure_key CX.out.drew (fun h => h) (by rfl) rfl rfl) (Only.refl _ _) ?_
            simp only [Act.put, List.setIfInBounds_toArray, List.set_cons_zero, List.set_cons_succ]
            refine wpN_take (i := 11) (d := some 33) rfl rfl (by kernel_rfl) (by kernel_rfl) (by kernel_rfl) (fun _ _ _ h => h) (sure_keq HK.out (by rfl) rfl rfl rfl) (Only.refl _ _) ?_
            simp only [Act.put, List.setIfInBounds_toArray, List.set_cons_zero, List.set_cons_succ]
            refine wpN_take (i := 12) (d := some 34) rfl rfl (by kernel_rfl) (by kernel_rfl) (by kernel_rfl) (fun _ _ _ h => h) (sure_value (v := .bool false) (by rfl) (fun v1 h1 => by first | rfl | (go_simp; done) | (go_simp; intro h9; exact absurd h9 (by omega)) | (go_simp; assumption))) (Only.refl _ _) ?_
            simp only [Act.put, List.setIfInBounds_toArray, List.set_cons_zero, List.set_cons_succ]
            refine wpN_take (i := 13) (d := some 35) rfl rfl (by kernel_rfl) (by kernel_rfl) (by kernel_rfl) (fun _ _ _ h => h) (sure_skip (by rfl)) (Only.refl _ _) ?_
            simp only [Act.put, List.setIfInBounds_toArray, List.set_cons_zero, List.set_cons_succ]
            refine wpN_take (i := 14) (d := some 36) rfl rfl (by kernel_rfl) (by kernel_rfl) (by kernel_rfl) (fun _ _ _ h => h) (sure_skip (by rfl)) (Only.refl _ _) ?_
            simp only [Act.put, List.setIfInBounds_toArray, List.set_cons_zero, List.set_cons_succ]
            refine wpN_take (i := 15) (d := some 37) rfl rfl (by kernel_rfl) (by kernel_rfl) (by kernel_rfl) (fun _ _ _ h => h) (sure_skip (by rfl)) (Only.refl _ _) ?_
            simp only [Act.put, List.setIfInBounds_toArray, List.set_cons_zero, List.set_cons_succ]
            refine wpN_take (i := 16) (d := some 38) rfl rfl (by kernel_rfl) (by kernel_rfl) (by kernel_rfl) (fun _ _ _ h => h) (sure_skip (by rfl)) (Only.refl _ _) ?_
            simp only [Act.put, List.setIfInBounds_toArray, List.set_cons_zero, List.set_cons_succ]
            refine wpN_take (i := 17) (d := some 39) rfl rfl (by kernel_rfl) (by kernel_rfl) (by kernel_rfl) (fun _ _ _ h => h) (sure_skip (by rfl)) (Only.refl _ _) ?_
            simp only [Act.put, List.setIfInBounds_toArray, List.set_cons_zero, List.set_cons_succ]
            refine wpN_take (i := 18) (d := some 40) rfl rfl (by kernel_rfl) (by kernel_rfl) (by kernel_rfl) (fun _ _ _ h => h) (sure_skip (by rfl)) (Only.refl _ _) ?_
            simp only [Act.put, List.setIfInBounds_toArray, List.set_cons_zero, List.set_cons_succ]
            refine wpN_take (i := 19) (d := some 41) rfl rfl (by kernel_rfl) (by kernel_rfl) (by kernel_rfl) (fun _ _ _ h => h) (sure_skip (by rfl)) (Only.refl _ _) ?_
            simp only [Act.put, List.setIfInBounds_toArray, List.set_cons_zero, List.set_cons_succ]
            refine wpN_take (i := 20) (d := some 42) rfl rfl (by kernel_rfl) (by kernel_rfl) (by kernel_rfl) (fun _ _ _ h => h) (sure_skip (by rfl)) (Only.refl _ _) ?_
            simp only [Act.put, List.setIfInBounds_toArray, List.set_cons_zero, List.set_cons_succ]
            refine wpN_take (i := 21) (d := some 43) rfl rfl (by kernel_rfl) (by kernel_rfl) (by kernel_rfl) (fun _ _ _ h => h) (sure_skip (by rfl)) (Only.refl _ _) ?_
            simp only [Act.put, List.setIfInBounds_toArray, List.set_cons_zero, List.set_cons_succ]
            refine wpN_take (i := 22) (d := some 44) rfl rfl (by kernel_rfl) (by kernel_rfl) (by kernel_rfl) (fun _ _ _ h => h) (sure_skip (by rfl)) (Only.refl _ _) ?_
            simp only [Act.put, List.setIfInBounds_toArray, List.set_cons_zero, List.set_cons_succ]
            refine wpN_take (i := 23) (d := some 45) rfl rfl (by kernel_rfl) (by kernel_rfl) (by kernel_rfl) (fun _ _ _ h => h) (sure_skip (by rfl)) (Only.refl _ _) ?_
            simp only [Act.put, List.setIfInBounds_toArray, List.set_cons_zero, List.set_cons_succ]
            refine wpN_take (i := 24) (d := some 46) rfl rfl (by kernel_rfl) (by kernel_rfl) (by kernel_rfl) (fun _ _ _ h => h) (sure_value (v := .bool false) (by rfl) (fun v1 h1 => by first | rfl | (go_simp; done) | (go_simp; intro h9; exact absurd h9 (by omega)) | (go_simp; assumption))) (Only.refl _ _) ?_
            simp only [Act.put, List.setIfInBounds_toArray, List.set_cons_zero, List.set_cons_succ]
            refine wpN_done (by kernel_rfl) (fun w7 ho => ?_) _
            have OM7 := Lib.hid (OM.out.tr (Only.undrew ho))
            clear ho
            go_wp2_with fail
            go_roundw
            case rel => exact ⟨k + 1, by omega, by go_num, by rw [HD2.out]; simp, OM7.out⟩
            case measure => simp [RowKit.intOf]; omega
          · go_wp2_with fail
            refine wp_region_N Noth (by kernel_rfl) ?_
            refine wpN_take (i := 0) (d := some 22) rfl rfl (by kernel_rfl) (by kernel_rfl) (by kernel_rfl) (fun _ _ _ h => h) (sure_value (v := .slice (some ⟨yb, yo, none⟩) l.length c2) (by rfl) (fun v1 h1 => by first | rfl | (go_simp; done) | (go_simp; intro h9; exact absurd h9 (by omega)) | (go_simp; assumption))) (Only.refl _ _) ?_
            simp only [Act.put, List.setIfInBounds_toArray, List.set_cons_zero, List.set_cons_succ]
            refine wpN_take (i := 1) (d := some 23) rfl rfl (by kernel_rfl) (by kernel_rfl) (by kernel_rfl) (fun _ _ _ h => h) (sure_value (v := .int .i64 (k : Int)) (by rfl) (fun v1 h1 => by first | rfl | (go_simp; done) | (go_simp; intro h9; exact absurd h9 (by omega)) | (go_simp; assumption))) (Only.refl _ _) ?_
            simp only [Act.put, List.setIfInBounds_toArray, List.set_cons_zero, List.set_cons_succ]
            refine wpN_take (i := 2) (d := some 24) rfl rfl (by kernel_rfl) (by kernel_rfl) (by kernel_rfl) (fun _ _ _ h => h) (sure_value (v := .pointer (some ⟨yb, yo + k * 5, none⟩)) (by rfl) (fun v1 h1 => by first | rfl | (go_simp; done) | (go_simp; intro h9; exact absurd h9 (by omega)) | (go_simp; assumption))) (Only.refl _ _) ?_
            simp only [Act.put, List.setIfInBounds_toArray, List.set_cons_zero, List.set_cons_succ]
            refine wpN_take (i := 3) (d := some 25) rfl rfl (by kernel_rfl) (by kernel_rfl) (by kernel_rfl) (fun _ _ _ h => h) (sure_value (v := .pointer (some ⟨yb, yo + k * 5, none⟩)) (by rfl) (fun v1 h1 => by first | rfl | (go_simp; done) | (go_simp; intro h9; exact absurd h9 (by omega)) | (go_simp; assumption))) (Only.refl _ _) ?_
            simp only [Act.put, List.setIfInBounds_toArray, List.set_cons_zero, List.set_cons_succ]
            refine wpN_take (i := 4) (d := some 26) rfl rfl (by kernel_rfl) (by kernel_rfl) (by kernel_rfl) (fun _ _ _ h => h) (sure_key CY.out.drew (fun h => h) (by rfl) rfl rfl) (Only.refl _ _) ?_
            simp only [Act.put, List.setIfInBounds_toArray, List.set_cons_zero, List.set_cons_succ]
            refine wpN_take (i := 5) (d := some 27) rfl rfl (by kernel_rfl) (by kernel_rfl) (by kernel_rfl) (fun _ _ _ h => h) (sure_value (v := .pointer (some ⟨w.heap.size, 0, none⟩)) (by rfl) (fun v1 h1 => by first | rfl | (go_simp; done) | (go_simp; intro h9; exact absurd h9 (by omega)) | (go_simp; assumption))) (Only.refl _ _) ?_
            simp only [Act.put, List.setIfInBounds_toArray, List.set_cons_zero, List.set_cons_succ]
            refine wpN_take (i := 6) (d := some 28) rfl rfl (by kernel_rfl) (by kernel_rfl) (by kernel_rfl) (fun _ _ _ h => h) (sure_lit (v := .slice (some ⟨xb, xo, none⟩) L.length c) (i := 0) B1.out.drew rfl (fun h => h) (by rfl) (fun _ h => by go_simp)) (Only.refl _ _) ?_
            simp only [Act.put, List.setIfInBounds_toArray, List.set_cons_zero, List.set_cons_succ]
            refine wpN_take (i := 7) (d := some 29) rfl rfl (by kernel_rfl) (by kernel_rfl) (by kernel_rfl) (fun _ _ _ h => h) (sure_value (v := .int .i64 (n : Int)) (by rfl) (fun v1 h1 => by first | rfl | (go_simp; done) | (go_simp; intro h9; exact absurd h9 (by omega)) | (go_simp; assumption))) (Only.refl _ _) ?_
            simp only [Act.put, List.setIfInBounds_toArray, List.set_cons_zero, List.set_cons_succ]
            refine wpN_take (i := 8) (d := some 30) rfl rfl (by kernel_rfl) (by kernel_rfl) (by kernel_rfl) (fun _ _ _ h => h) (sure_value (v := .pointer (some ⟨xb, xo + n * 5, none⟩)) (by rfl) (fun v1 h1 => by first | rfl | (go_simp; done) | (go_simp; intro h9; exact absurd h9 (by omega)) | (go_simp; assumption))) (Only.refl _ _) ?_
            simp only [Act.put, List.setIfInBounds_toArray, List.set_cons_zero, List.set_cons_succ]
            refine wpN_take (i := 9) (d := some 31) rfl rfl (by kernel_rfl) (by kernel_rfl) (by kernel_rfl) (fun _ _ _ h => h) (sure_value (v := .pointer (some ⟨xb, xo + n * 5, none⟩)) (by rfl) (fun v1 h1 => by first | rfl | (go_simp; done) | (go_simp; intro h9; exact absurd h9 (by omega)) | (go_simp; assumption))) (Only.refl _ _) ?_
            simp only [Act.put, List.setIfInBounds_toArray, List.set_cons_zero, List.set_cons_succ]
            refine wpN_take (i := 10) (d := some 32) rfl rfl (by kernel_rfl) (by kernel_rfl) (by kernel_rfl) (fun _ _ _ h => h) (sure_key CX.out.drew (fun h => h) (by rfl) rfl rfl) (Only.refl _ _) ?_
            simp only [Act.put, List.setIfInBounds_toArray, List.set_cons_zero, List.set_cons_succ]
            refine wpN_take (i := 11) (d := some 33) rfl rfl (by kernel_rfl) (by kernel_rfl) (by kernel_rfl) (fun _ _ _ h => h) (sure_keq HK.out (by rfl) rfl rfl rfl) (Only.refl _ _) ?_
            simp only [Act.put, List.setIfInBounds_toArray, List.set_cons_zero, List.set_cons_succ]
            refine wpN_take (i := 12) (d := some 34) rfl rfl (by kernel_rfl) (by kernel_rfl) (by kernel_rfl) (fun _ _ _ h => h) (sure_value (v := .bool true) (by rfl) (fun v1 h1 => by first | rfl | (go_simp; done) | (go_simp; intro h9; exact absurd h9 (by omega)) | (go_simp; assumption))) (Only.refl _ _) ?_
            simp only [Act.put, List.setIfInBounds_toArray, List.set_cons_zero, List.set_cons_succ]
            refine wpN_take (i := 13) (d := some 35) rfl rfl (by kernel_rfl) (by kernel_rfl) (by kernel_rfl) (fun _ _ _ h => h) (sure_value (v := .pointer (some ⟨w.heap.size, 0, none⟩)) (by rfl) (fun v1 h1 => by first | rfl | (go_simp; done) | (go_simp; intro h9; exact absurd h9 (by omega)) | (go_simp; assumption))) (Only.refl _ _) ?_
            simp only [Act.put, List.setIfInBounds_toArray, List.set_cons_zero, List.set_cons_succ]
            refine wpN_take (i := 14) (d := some 36) rfl rfl (by kernel_rfl) (by kernel_rfl) (by kernel_rfl) (fun _ _ _ h => h) (sure_lit (v := .slice (some ⟨xb, xo, none⟩) L.length c) (i := 0) B1.out.drew rfl (fun h => h) (by rfl) (fun _ h => by go_simp)) (Only.refl _ _) ?_
            simp only [Act.put, List.setIfInBounds_toArray, List.set_cons_zero, List.set_cons_succ]
            refine wpN_take (i := 15) (d := some 37) rfl rfl (by kernel_rfl) (by kernel_rfl) (by kernel_rfl) (fun _ _ _ h => h) (sure_value (v := .int .i64 (n : Int)) (by rfl) (fun v1 h1 => by first | rfl | (go_simp; done) | (go_simp; intro h9; exact absurd h9 (by omega)) | (go_simp; assumption))) (Only.refl _ _) ?_
            simp only [Act.put, List.setIfInBounds_toArray, List.set_cons_zero, List.set_cons_succ]
            refine wpN_take (i := 16) (d := some 38) rfl rfl (by kernel_rfl) (by kernel_rfl) (by kernel_rfl) (fun _ _ _ h => h) (sure_value (v := .pointer (some ⟨xb, xo + n * 5, none⟩)) (by rfl) (fun v1 h1 => by first | rfl | (go_simp; done) | (go_simp; intro h9; exact absurd h9 (by omega)) | (go_simp; assumption))) (Only.refl _ _) ?_
            simp only [Act.put, List.setIfInBounds_toArray, List.set_cons_zero, List.set_cons_succ]
            refine wpN_take (i := 17) (d := some 39) rfl rfl (by kernel_rfl) (by kernel_rfl) (by kernel_rfl) (fun _ _ _ h => h) (sure_at CX.out.drew (fun h => h) (by rfl) rfl rfl) (Only.refl _ _) ?_
            simp only [Act.put, List.setIfInBounds_toArray, List.set_cons_zero, List.set_cons_succ]
            refine wpN_take (i := 18) (d := some 40) rfl rfl (by kernel_rfl) (by kernel_rfl) (by kernel_rfl) (fun _ _ _ h => h) (sure_value (v := .slice (some ⟨yb, yo, none⟩) l.length c2) (by rfl) (fun v1 h1 => by first | rfl | (go_simp; done) | (go_simp; intro h9; exact absurd h9 (by omega)) | (go_simp; assumption))) (Only.refl _ _) ?_
            simp only [Act.put, List.setIfInBounds_toArray, List.set_cons_zero, List.set_cons_succ]
            refine wpN_take (i := 19) (d := some 41) rfl rfl (by kernel_rfl) (by kernel_rfl) (by kernel_rfl) (fun _ _ _ h => h) (sure_value (v := .int .i64 (k : Int)) (by rfl) (fun v1 h1 => by first | rfl | (go_simp; done) | (go_simp; intro h9; exact absurd h9 (by omega)) | (go_simp; assumption))) (Only.refl _ _) ?_
            simp only [Act.put, List.setIfInBounds_toArray, List.set_cons_zero, List.set_cons_succ]
            refine wpN_take (i := 20) (d := some 42) rfl rfl (by kernel_rfl) (by kernel_rfl) (by kernel_rfl) (fun _ _ _ h => h) (sure_value (v := .pointer (some ⟨yb, yo + k * 5, none⟩)) (by rfl) (fun v1 h1 => by first | rfl | (go_simp; done) | (go_simp; intro h9; exact absurd h9 (by omega)) | (go_simp; assumption))) (Only.refl _ _) ?_
            simp only [Act.put, List.setIfInBounds_toArray, List.set_cons_zero, List.set_cons_succ]
            refine wpN_take (i := 21) (d := some 43) rfl rfl (by kernel_rfl) (by kernel_rfl) (by kernel_rfl) (fun _ _ _ h => h) (sure_at CY.out.drew (fun h => h) (by rfl) rfl rfl) (Only.refl _ _) ?_
            simp only [Act.put, List.setIfInBounds_toArray, List.set_cons_zero, List.set_cons_succ]
            refine wpN_take (i := 22) (d := some 44) rfl rfl (by kernel_rfl) (by kernel_rfl) (by kernel_rfl) (fun _ _ _ h => h) (sure_call (v := .bool av) (fun w' h' => by have := ref_above x y w'; rw [HV.out] at this; exact this) (by rfl) (fun _ => by go_simp)) (Only.refl _ _) ?_
            simp only [Act.put, List.setIfInBounds_toArray, List.set_cons_zero, List.set_cons_succ]
            refine wpN_take (i := 23) (d := some 45) rfl rfl (by kernel_rfl) (by kernel_rfl) (by kernel_rfl) (fun _ _ _ h => h) (sure_value (v := .bool (!av)) (by rfl) (fun v1 h1 => by first | rfl | (go_simp; done) | (go_simp; intro h9; exact absurd h9 (by omega)) | (go_simp; assumption))) (Only.refl _ _) ?_
            simp only [Act.put, List.setIfInBounds_toArray, List.set_cons_zero, List.set_cons_succ]
            refine wpN_take (i := 24) (d := some 46) rfl rfl (by kernel_rfl) (by kernel_rfl) (by kernel_rfl) (fun _ _ _ h => h) (sure_value (v := .bool (!av)) (by rfl) (fun v1 h1 => by first | rfl | (go_simp; done) | (go_simp; intro h9; exact absurd h9 (by omega)) | (go_simp; assumption))) (Only.refl _ _) ?_
            simp only [Act.put, List.setIfInBounds_toArray, List.set_cons_zero, List.set_cons_succ]
            refine wpN_done (by kernel_rfl) (fun w7 ho => ?_) _
            have OM7 := Lib.hid (OM.out.tr (Only.undrew ho))
            clear ho
            cases av
            · go_wp2_with fail
              go_roundw
              case rel => exact ⟨k + 1, by omega, by go_num, by rw [HD2.out]; simp, OM7.out⟩
              case measure => simp [RowKit.intOf]; omega
            · go_wp2_with fail
              go_roundw
              case rel => exact ⟨k + 1, by omega, by go_num, by rw [HD2.out]; simp, OM7.out⟩
              case measure => simp [RowKit.intOf]; omega
        · obtain rfl : k = l.length := by omega
          rw [List.take_of_length_le (Nat.le_refl _), dl_lacks]
          have O2 := Lib.hid (O.out.tr OM.out)
          have ER2 := Lib.hid (ER.out.noth OM.out)
          obtain ⟨_, e0, e1, e2, e3, e4⟩ := CX.out
          have m0 : _ = some (Value.slice (some ⟨xb, xo, none⟩) L.length c) := B1.out.cell 0
          cases hq : lacks (dbest l) x
          · have HQ := Lib.hid (show (L.take (n + 1)).filter (lacks (dbest l)) = N by rw [HF.out, HN.out, hq]; simp)
            clear HF hq
            go_wp2_with fail
            go_roundw
            case rel => exact ⟨n + 1, by omega, by go_num, ⟨N, B, d, HQ.out.symm, rfl, ER2.out⟩, O2.out⟩
            case measure => simp [RowKit.intOf]; omega
          · have HQ := Lib.hid (show (L.take (n + 1)).filter (lacks (dbest l)) = N ++ [x] by rw [HF.out, HN.out, hq]; simp)
            clear HF hq
            go_wp2_with (at_builtin; refine wpList_app_ents _ _ rfl (.tmp 48) (.tmp 54) rfl (l := N) (m := [x]) rfl (ER2.out.noth ((Only.refl Noth wr).alloc _)) rfl (ents_one (Hld.new wr 34 x.arr)) (by simp only [List.length_cons, List.length_nil]; omega) (O2.out.alloc _) ?_; intro B9 d9 M9 w9 hM hr ho; have ER9 := Lib.hid hr; have O9 := Lib.hid ho; have HM9 := Lib.hid hM; clear hr ho hM)
            go_roundw
            case rel => exact ⟨n + 1, by omega, by go_num, ⟨M9, B9, d9, by rw [HM9.out, HQ.out], rfl, ER9.out⟩, O9.out⟩
            case measure => simp [RowKit.intOf]; omega
    · obtain rfl : n = L.length := by omega
      rw [List.take_of_length_le (Nat.le_refl _)] at HN
      go_wp2
      go_ret
      exact ⟨⟨N, B, d, HN.out, rfl, ER.out.ents⟩, O1.out.tr O.out⟩
/-- What Forget of the reference hands back. -/
def RForgetAns (N : List Ent) (k : Int) (e : Ending) (w : World) : Prop := ∃ B d M, M = N ∧ e = .returned (.tuple #[.agg #[.slice B M.length d], .int .i64 k]) ∧ Ents w (.slice B M.length d) M
set_option maxHeartbeats 8000000 in
theorem rm_forget (A : Option Addr) (c : Nat) (L : List Ent) (now : Int) (hL : L.length ≤ 256) (w : World) (h : Ents w (.slice A L.length c) L) :
    Calls Try.prog 33 #[.agg #[.slice A L.length c], .int .i64 now] w fun r w' => RForgetAns (L.filter fun x => decide (now < x.til)) ((L.length : Int) - ((L.filter fun x => decide (now < x.til)).length : Nat)) r w' ∧ Only Noth w w' := by
  have a2 := ((Only.refl Noth w).alloc (.cells #[.slice A L.length c] 28)).alloc (.cells #[.slice none 0 0] 28)
  have B1 := Lib.hid ((Hld.new w 28 #[.slice A L.length c]).alloc (.cells #[.slice none 0 0] 28))
  have BR := Lib.hid (show Hld ((w.alloc (.cells #[.slice A L.length c] 28)).alloc (.cells #[.slice none 0 0] 28)) (w.heap.size + 1) 28 #[.slice none 0 0] by have := Hld.new (w.alloc (.cells #[.slice A L.length c] 28)) 28 #[.slice none 0 0]; simpa using this)
  have O := Lib.hid a2
  have E := Lib.hid (h.noth a2)
  have hl0 : (0 : Int) ≤ L.length := by omega
  have m0 : _ = some (Value.slice A L.length c) := B1.out.cell 0
  clear h a2
  go_enter Try.func33, Try.ntmps33
  go_wp2_with fail
  refine (rm_view A c L now hL _ E.out).mono ?_
  rintro r w1 ⟨⟨N, B, d, hN, rfl, hn⟩, ho⟩
  replace B1 := Lib.hid (B1.out.only ho (fun h => h))
  replace BR := Lib.hid (BR.out.only ho (fun h => h))
  replace O := Lib.hid (O.out.tr ho)
  have EN := Lib.hid hn
  have HN := Lib.hid hN
  have hNl : N.length ≤ L.length := by rw [hN]; exact List.length_filter_le _ _
  have hn0 : (0 : Int) ≤ N.length := by omega
  clear ho hn hN m0
  have hsub : IntKind.i64.wrap ((L.length : Int) - N.length) = (L.length : Int) - N.length := by rw [IntKind.wrap_i64]; omega
  have HSUB := Lib.hid hsub
  clear hsub
  have NE := Lib.hid (show ¬ w.heap.size = w.heap.size + 1 by omega)
  go_wp2_with fail
  refine wp_region_N (fun k => k = w.heap.size + 1) (by kernel_rfl) ?_
  refine wpN_take (i := 0) (d := some 10) rfl rfl (by kernel_rfl) (by kernel_rfl) (by kernel_rfl) (fun _ _ _ h => h) (sure_value (v := .slice B N.length d) (by rfl) (fun v1 h1 => by first | rfl | (go_simp; done) | (go_simp; intro h9; exact absurd h9 (by omega)) | (go_simp; assumption))) (Only.refl _ _) ?_
  simp only [Act.put, List.setIfInBounds_toArray, List.set_cons_zero, List.set_cons_succ]
  refine wpN_take (i := 1) (d := some 11) rfl rfl (by kernel_rfl) (by kernel_rfl) (by kernel_rfl) (fun _ _ _ h => h) (sure_value (v := .agg #[.slice B N.length d]) (by rfl) (fun v1 h1 => by first | rfl | (go_simp; done) | (go_simp; intro h9; exact absurd h9 (by omega)) | (go_simp; assumption))) (Only.refl _ _) ?_
  simp only [Act.put, List.setIfInBounds_toArray, List.set_cons_zero, List.set_cons_succ]
  refine wpN_take (i := 2) (d := some 12) rfl rfl (by kernel_rfl) (by kernel_rfl) (by kernel_rfl) (fun _ _ _ h => h) (sure_value (v := .pointer (some ⟨w.heap.size, 0, none⟩)) (by rfl) (fun v1 h1 => by first | rfl | (go_simp; done) | (go_simp; intro h9; exact absurd h9 (by omega)) | (go_simp; assumption))) (Only.refl _ _) ?_
  simp only [Act.put, List.setIfInBounds_toArray, List.set_cons_zero, List.set_cons_succ]
  refine wpN_take (i := 3) (d := some 13) rfl rfl (by kernel_rfl) (by kernel_rfl) (by kernel_rfl) (fun _ _ _ h => h) (sure_lit (v := .slice A L.length c) (i := 0) B1.out.drew rfl (fun h => NE.out h) (by rfl) (fun _ h => by go_simp)) (Only.refl _ _) ?_
  simp only [Act.put, List.setIfInBounds_toArray, List.set_cons_zero, List.set_cons_succ]
  refine wpN_take (i := 4) (d := some 14) rfl rfl (by kernel_rfl) (by kernel_rfl) (by kernel_rfl) (fun _ _ _ h => h) (sure_value (v := .int .i64 L.length) (by rfl) (fun v1 h1 => by first | rfl | (go_simp; done) | (go_simp; intro h9; exact absurd h9 (by omega)) | (go_simp; assumption))) (Only.refl _ _) ?_
  simp only [Act.put, List.setIfInBounds_toArray, List.set_cons_zero, List.set_cons_succ]
  refine wpN_take (i := 5) (d := some 15) rfl rfl (by kernel_rfl) (by kernel_rfl) (by kernel_rfl) (fun _ _ _ h => h) (sure_value (v := .slice B N.length d) (by rfl) (fun v1 h1 => by first | rfl | (go_simp; done) | (go_simp; intro h9; exact absurd h9 (by omega)) | (go_simp; assumption))) (Only.refl _ _) ?_
  simp only [Act.put, List.setIfInBounds_toArray, List.set_cons_zero, List.set_cons_succ]
  refine wpN_take (i := 6) (d := some 16) rfl rfl (by kernel_rfl) (by kernel_rfl) (by kernel_rfl) (fun _ _ _ h => h) (sure_value (v := .int .i64 N.length) (by rfl) (fun v1 h1 => by first | rfl | (go_simp; done) | (go_simp; intro h9; exact absurd h9 (by omega)) | (go_simp; assumption))) (Only.refl _ _) ?_
  simp only [Act.put, List.setIfInBounds_toArray, List.set_cons_zero, List.set_cons_succ]
  refine wpN_take (i := 7) (d := some 17) rfl rfl (by kernel_rfl) (by kernel_rfl) (by kernel_rfl) (fun _ _ _ h => h) (sure_value (v := .int .i64 ((L.length : Int) - N.length)) (by rfl) (fun v1 h1 => by have hw := HSUB.out; go_simp)) (Only.refl _ _) ?_
  simp only [Act.put, List.setIfInBounds_toArray, List.set_cons_zero, List.set_cons_succ]
  refine wpN_store (i := 8) (g := w.heap.size + 1) (cs' := #[.slice B N.length d]) (by kernel_rfl) rfl (by rfl) rfl rfl rfl rfl BR.out.drew (fun _ => rfl) rfl (by simp [Value.oneCell']) (by kernel_rfl) (Only.refl _ _) ?_
  intro w5 w6 ho5 P2 ho6 hS6
  refine wpN_take (i := 9) (d := some 5) rfl rfl (by kernel_rfl) (by kernel_rfl) (by kernel_rfl) (fun _ _ _ h => h) (sure_value (v := .int .i64 ((L.length : Int) - N.length)) (by rfl) (fun v1 h1 => by first | rfl | (go_simp; done) | (go_simp; intro h9; exact absurd h9 (by omega)) | (go_simp; assumption))) hS6 ?_
  simp only [Act.put, List.setIfInBounds_toArray, List.set_cons_zero, List.set_cons_succ]
  refine wpN_done (by kernel_rfl) (fun w7 ho7 => ?_) _
  have PB := P2.only ho7 (fun h => h)
  have y0 : _ = some (Value.slice B N.length d) := PB.cell 0
  have hW := Only.undrew (only_up _ _ _ hS6 ho7)
  have EN7 := Lib.hid (EN.out.aside BR.out hW)
  have O7 := Lib.hid (O.out.trans hW (fun j hj hl => by have hj : j = w.heap.size + 1 := hj; omega))
  clear ho5 P2 ho6 hS6 ho7 PB hW
  go_wp2_with fail
  refine bodyPost_ret (v := .tuple #[.agg #[.slice B N.length d], .int .i64 ((L.length : Int) - N.length)]) (by simp [results, Try.results33, go_sem, *]) rfl ?_
  rw [← HN.out]
  exact ⟨⟨B, d, N, rfl, rfl, EN7.out⟩, O7.out⟩
theorem light_run (A : Option Addr) (c : Nat) (l : List Ent) (hl : l.length ≤ 9223372036854775807) (w : World) : Calls Try.prog 11 #[.slice A l.length c] w fun e w' => e = .returned (.bool (decide ((l.length : Int) ≤ 300))) ∧ Only Noth w w' := by
  have hl0 : (0 : Int) ≤ l.length := by omega
  go_enter Try.func11, Try.ntmps11
  go_wp2
  go_ret
  exact ⟨rfl, Only.refl _ _⟩
theorem ref_self {A B : Option Addr} {c d : Nat} {l m : List Ent} {w : World} (ha : Ents w (.slice A l.length c) l) (hb : Ents w (.slice B m.length d) m) (e : l = m) : Calls Try.prog 27 #[.slice A l.length c, .slice B m.length d] w fun e w' => e = .returned (.bool true) ∧ Only Noth w w' := by
  obtain ⟨A', c', e1, h1, h2, h3⟩ := ha
  obtain ⟨B', d', e2, k1, k2, k3⟩ := hb
  injection e1 with a1 _ a3
  injection e2 with b1 _ b3
  subst a1 a3 b1 b3
  refine (ref_ents A B c d l m w _ _ h1 k1 (by omega) (by omega)).mono ?_
  rintro r w' ⟨⟨b, rfl, hb⟩, ho⟩
  exact ⟨by rw [hb.2 e], ho⟩
theorem list_val {L : List Ent} {g b : Nat} {w : World} (h : CmAt w g b L) : Calls Try.prog 18 #[.pointer (some ⟨g, 0, none⟩)] w fun e w' => ∃ v, e = .returned v ∧ (∃ A c, v = .slice A L.length c ∧ Ents w' (.slice A L.length c) L) ∧ Only Noth w w' := by
  refine (list_run h).mono ?_
  rintro e w' ⟨⟨A, c, rfl, he⟩, ho⟩
  exact ⟨_, rfl, ⟨A, c, rfl, he⟩, ho⟩
theorem len_val {L : List Ent} {g b : Nat} {w : World} (h : CmAt w g b L) : Calls Try.prog 34 #[.pointer (some ⟨g, 0, none⟩)] w fun e w' => e = .returned (.int .i64 L.length) ∧ Only Noth w w' := cm_len g b L w h
/-- The list that the check may turn lies in a block of its own. -/
def Mine (w0 : World) (W : World) (A : Option Addr) (n : Nat) : Prop := 0 < n → ∃ g cur, A = some ⟨g, 0, none⟩ ∧ w0.heap.size ≤ g ∧ W.heap[g]? = some (.cells cur 34 (0, 0)) ∧ n * 5 ≤ cur.size
theorem Mine.of {w0 W : World} {A : Option Addr} {c n : Nat} {xs : List Value} (h : Row W (New w0) 34 5 (.slice A n c) n xs) : Mine w0 W A n := fun hn => by
  obtain ⟨_, A', cap, hv, h1, h2, h3⟩ := h
  injection hv with e1 _ e3
  subst e1 e3
  rcases h3 with h3 | ⟨g, cur, hA, hF, hg, hc, _⟩
  · omega
  · exact ⟨g, cur, hA, hF, hg, Nat.le_trans (Nat.mul_le_mul_right _ h1) hc⟩
theorem Mine.noth {w0 W W' : World} {A : Option Addr} {n : Nat} (h : Mine w0 W A n) (ho : Only Noth W W') : Mine w0 W' A n := fun hn => by
  obtain ⟨g, cur, h1, h2, h3, h4⟩ := h hn
  exact ⟨g, cur, h1, h2, (ho.block g (Array.getElem?_eq_some_iff.1 h3).1 (fun h => h)).trans h3, h4⟩
set_option maxHeartbeats 16000000 in
theorem same_law (g b : Nat) (A : Option Addr) (c : Nat) (L M : List Ent) (w : World) (h : CmAt w g b L) (hr : Ents w (.slice A M.length c) M) (hLM : L = M) :
    Calls Try.prog 16 #[.pointer (some ⟨g, 0, none⟩), .agg #[.slice A M.length c]] w fun e w' => e = .returned (.bool true) ∧ Only Noth w w' := by
  subst hLM
  have a1 := (Only.refl Noth w).alloc (.cells #[.slice A L.length c] 28)
  have B1 := Lib.hid (Hld.new w 28 #[.slice A L.length c])
  have O := Lib.hid a1
  have E := Lib.hid (hr.noth a1)
  have CM := Lib.hid (h.noth a1)
  have BS := Lib.hid B1.out
  have ES := Lib.hid E.out
  have CS := Lib.hid CM.out
  have OA := Lib.hid (Only.refl Noth (w.alloc (.cells #[.slice A L.length c] 28)))
  have hlen := h.len
  have hl0 : (0 : Int) ≤ L.length := by omega
  clear h hr a1
  go_enter Try.func16, Try.ntmps16
  go_wp2_with fail
  refine (cm_list g b L _ CM.out).mono ?_
  rintro r w1 ⟨hwa, ho⟩
  obtain ⟨A1, c1, rfl, he1, hrow⟩ := hwa.ents
  replace B1 := Lib.hid (B1.out.only ho (fun h => h))
  replace O := Lib.hid (O.out.tr ho)
  replace OA := Lib.hid (OA.out.tr ho)
  replace E := Lib.hid (E.out.noth ho)
  replace CM := Lib.hid (CM.out.noth ho)
  have MN := Lib.hid (Mine.of hrow)
  have E1 := Lib.hid he1
  clear ho hwa he1 hrow
  go_wp2_with fail
  refine wp_region_N Noth (by kernel_rfl) ?_
  refine wpN_take (i := 0) (d := some 10) rfl rfl (by kernel_rfl) (by kernel_rfl) (by kernel_rfl) (fun _ _ _ h => h) (sure_value (v := .slice A1 L.length c1) (by rfl) (fun v1 h1 => by first | rfl | (go_simp; done) | (go_simp; intro h9; exact absurd h9 (by omega)) | (go_simp; assumption))) (Only.refl _ _) ?_
  simp only [Act.put, List.setIfInBounds_toArray, List.set_cons_zero, List.set_cons_succ]
  refine wpN_take (i := 1) (d := some 11) rfl rfl (by kernel_rfl) (by kernel_rfl) (by kernel_rfl) (fun _ _ _ h => h) (sure_value (v := .pointer (some ⟨w.heap.size, 0, none⟩)) (by rfl) (fun v1 h1 => by first | rfl | (go_simp; done) | (go_simp; intro h9; exact absurd h9 (by omega)) | (go_simp; assumption))) (Only.refl _ _) ?_
  simp only [Act.put, List.setIfInBounds_toArray, List.set_cons_zero, List.set_cons_succ]
  refine wpN_take (i := 2) (d := some 12) rfl rfl (by kernel_rfl) (by kernel_rfl) (by kernel_rfl) (fun _ _ _ h => h) (sure_lit (v := .slice A L.length c) (i := 0) B1.out.drew rfl (fun h => h) (by rfl) (fun _ h => by go_simp)) (Only.refl _ _) ?_
  simp only [Act.put, List.setIfInBounds_toArray, List.set_cons_zero, List.set_cons_succ]
  refine wpN_take (i := 3) (d := some 13) rfl rfl (by kernel_rfl) (by kernel_rfl) (by kernel_rfl) (fun _ _ _ h => h) (sure_call (v := .bool true) (fun w' h' => ref_self (E1.out.noth (Only.undrew h')) (E.out.noth (Only.undrew h')) rfl) (by rfl) (fun _ => by go_simp)) (Only.refl _ _) ?_
  simp only [Act.put, List.setIfInBounds_toArray, List.set_cons_zero, List.set_cons_succ]
  refine wpN_take (i := 4) (d := some 14) rfl rfl (by kernel_rfl) (by kernel_rfl) (by kernel_rfl) (fun _ _ _ h => h) (sure_value (v := .bool true) (by rfl) (fun v1 h1 => by first | rfl | (go_simp; done) | (go_simp; intro h9; exact absurd h9 (by omega)) | (go_simp; assumption))) (Only.refl _ _) ?_
  simp only [Act.put, List.setIfInBounds_toArray, List.set_cons_zero, List.set_cons_succ]
  refine wpN_take (i := 5) (d := some 15) rfl rfl (by kernel_rfl) (by kernel_rfl) (by kernel_rfl) (fun _ _ _ h => h) (sure_value (v := .pointer (some ⟨g, 0, none⟩)) (by rfl) (fun v1 h1 => by first | rfl | (go_simp; done) | (go_simp; intro h9; exact absurd h9 (by omega)) | (go_simp; assumption))) (Only.refl _ _) ?_
  simp only [Act.put, List.setIfInBounds_toArray, List.set_cons_zero, List.set_cons_succ]
  refine wpN_take (i := 6) (d := some 16) rfl rfl (by kernel_rfl) (by kernel_rfl) (by kernel_rfl) (fun _ _ _ h => h) (sure_call (v := .int .i64 L.length) (fun w' h' => len_val (CM.out.noth (Only.undrew h'))) (by rfl) (fun _ => by go_simp)) (Only.refl _ _) ?_
  simp only [Act.put, List.setIfInBounds_toArray, List.set_cons_zero, List.set_cons_succ]
  refine wpN_take (i := 7) (d := some 17) rfl rfl (by kernel_rfl) (by kernel_rfl) (by kernel_rfl) (fun _ _ _ h => h) (sure_value (v := .pointer (some ⟨w.heap.size, 0, none⟩)) (by rfl) (fun v1 h1 => by first | rfl | (go_simp; done) | (go_simp; intro h9; exact absurd h9 (by omega)) | (go_simp; assumption))) (Only.refl _ _) ?_
  simp only [Act.put, List.setIfInBounds_toArray, List.set_cons_zero, List.set_cons_succ]
  refine wpN_take (i := 8) (d := some 18) rfl rfl (by kernel_rfl) (by kernel_rfl) (by kernel_rfl) (fun _ _ _ h => h) (sure_lit (v := .slice A L.length c) (i := 0) B1.out.drew rfl (fun h => h) (by rfl) (fun _ h => by go_simp)) (Only.refl _ _) ?_
  simp only [Act.put, List.setIfInBounds_toArray, List.set_cons_zero, List.set_cons_succ]
  refine wpN_take (i := 9) (d := some 19) rfl rfl (by kernel_rfl) (by kernel_rfl) (by kernel_rfl) (fun _ _ _ h => h) (sure_value (v := .int .i64 L.length) (by rfl) (fun v1 h1 => by first | rfl | (go_simp; done) | (go_simp; intro h9; exact absurd h9 (by omega)) | (go_simp; assumption))) (Only.refl _ _) ?_
  simp only [Act.put, List.setIfInBounds_toArray, List.set_cons_zero, List.set_cons_succ]
  refine wpN_take (i := 10) (d := some 20) rfl rfl (by kernel_rfl) (by kernel_rfl) (by kernel_rfl) (fun _ _ _ h => h) (sure_value (v := .bool true) (by rfl) (fun v1 h1 => by first | rfl | (go_simp; done) | (go_simp; intro h9; exact absurd h9 (by omega)) | (go_simp; assumption))) (Only.refl _ _) ?_
  simp only [Act.put, List.setIfInBounds_toArray, List.set_cons_zero, List.set_cons_succ]
  refine wpN_take (i := 11) (d := some 21) rfl rfl (by kernel_rfl) (by kernel_rfl) (by kernel_rfl) (fun _ _ _ h => h) (sure_value (v := .bool true) (by rfl) (fun v1 h1 => by first | rfl | (go_simp; done) | (go_simp; intro h9; exact absurd h9 (by omega)) | (go_simp; assumption))) (Only.refl _ _) ?_
  simp only [Act.put, List.setIfInBounds_toArray, List.set_cons_zero, List.set_cons_succ]
  refine wpN_take (i := 12) (d := some 6) rfl rfl (by kernel_rfl) (by kernel_rfl) (by kernel_rfl) (fun _ _ _ h => h) (sure_value (v := .bool true) (by rfl) (fun v1 h1 => by first | rfl | (go_simp; done) | (go_simp; intro h9; exact absurd h9 (by omega)) | (go_simp; assumption))) (Only.refl _ _) ?_
  simp only [Act.put, List.setIfInBounds_toArray, List.set_cons_zero, List.set_cons_succ]
  refine wpN_done (by kernel_rfl) (fun w2 ho => ?_) _
  replace ho := Only.undrew ho
  replace B1 := Lib.hid (B1.out.only ho (fun h => h))
  replace O := Lib.hid (O.out.tr ho)
  replace OA := Lib.hid (OA.out.tr ho)
  replace E := Lib.hid (E.out.noth ho)
  replace CM := Lib.hid (CM.out.noth ho)
  replace MN := Lib.hid (MN.out.noth ho)
  have zb : w.heap.size + 1 ≤ w2.heap.size := B1.out.lt
  clear ho E1
  go_wp2_with fail
  go_loopw [7] (fun i W => ∃ k : Nat, k ≤ L.length ∧ i = .int .i64 (k : Int) ∧ Mine (w.alloc (.cells #[.slice A L.length c] 28)) W A1 L.length ∧ Only (fun k => w.heap.size + 1 ≤ k) (w.alloc (.cells #[.slice A L.length c] 28)) W ∧ Only Noth w W) (fun i _ => L.length - (RowKit.intOf i).toNat)
  case atStart => exact ⟨0, Nat.zero_le _, rfl, MN.out, (OA.out.mono (fun j hj _ => hj.elim)), O.out⟩
  case round =>
    obtain ⟨k, hk, rfl, hm, hoa, ho⟩ := hrel
    have MK := Lib.hid hm
    have OB := Lib.hid hoa
    have OK := Lib.hid ho
    have hk0 : (0 : Int) ≤ k := by omega
    clear hm hoa ho
    by_cases hlt : k < L.length
    · have hk1 : (k : Int) < L.length := by omega
      obtain ⟨p, cur, hA, hp, hg, hc⟩ := MK.out (by omega)
      subst hA
      have hp' : w.heap.size + 1 ≤ p := by simpa using hp
      have HG := Lib.hid (show Hld wr p 34 cur from hg)
      have hcell : ∃ u, wr.cell? ⟨p, k * 5, none⟩ = some u := ⟨cur[k * 5]'(by omega), by rw [HG.out.cell]; exact Array.getElem?_eq_getElem _⟩
      obtain ⟨u, hu⟩ := hcell
      have hfz := HG.out.free (k * 5)
      clear hg
      go_wp2_with fail
      go_roundw
      case rel =>
        refine ⟨k + 1, by omega, by go_num, fun _ => ⟨p, _, rfl, hp, HG.out.set_ (k * 5) _, by simpa using hc⟩, OB.out.setCell (fun _ => hp') _, OK.out.setCell (fun hl => by have hl : p < w.heap.size := hl; omega) _⟩
      case measure => simp [RowKit.intOf]; omega
    · obtain rfl : k = L.length := by omega
      replace B1 := Lib.hid (BS.out.only OB.out (fun hj => by have hj : w.heap.size + 1 ≤ w.heap.size := hj; omega))
      replace E := Lib.hid (ES.out.only OB.out (fun A1 c1 hv hp b o hA hj => by
        have hj : w.heap.size + 1 ≤ b := hj
        obtain ⟨A', c', q0, hel, _⟩ := ES.out
        injection q0 with q1 _ _
        injection hv with v1 _ _
        obtain ⟨b', o', hA', hS, _⟩ := hel (by rw [List.length_map]; exact hp)
        rw [← q1, v1, hA] at hA'
        injection hA' with hA'
        injection hA' with hA'
        have hS : b' < (w.alloc _).heap.size := hS
        simp at hS
        omega))
      replace CM := Lib.hid (CS.out.only OB.out (fun hj => by have hj : w.heap.size + 1 ≤ g := hj; have := CS.out.box.lt; simp at this; omega) (fun hj => by have hj : w.heap.size + 1 ≤ b := hj; have := CS.out.own.lt; simp at this; omega))
      go_wp2_with fail
      refine wp_region_N Noth (by kernel_rfl) ?_
      refine wpN_take (i := 0) (d := some 32) rfl rfl (by kernel_rfl) (by kernel_rfl) (by kernel_rfl) (fun _ _ _ h => h) (sure_value (v := .bool true) (by rfl) (fun v1 h1 => by first | rfl | (go_simp; done) | (go_simp; intro h9; exact absurd h9 (by omega)) | (go_simp; assumption))) (Only.refl _ _) ?_
      simp only [Act.put, List.setIfInBounds_toArray, List.set_cons_zero, List.set_cons_succ]
      refine wpN_take (i := 1) (d := some 33) rfl rfl (by kernel_rfl) (by kernel_rfl) (by kernel_rfl) (fun _ _ _ h => h) (sure_value (v := .bool true) (by rfl) (fun v1 h1 => by first | rfl | (go_simp; done) | (go_simp; intro h9; exact absurd h9 (by omega)) | (go_simp; assumption))) (Only.refl _ _) ?_
      simp only [Act.put, List.setIfInBounds_toArray, List.set_cons_zero, List.set_cons_succ]
      refine wpN_take (i := 2) (d := some 34) rfl rfl (by kernel_rfl) (by kernel_rfl) (by kernel_rfl) (fun _ _ _ h => h) (sure_value (v := .pointer (some ⟨g, 0, none⟩)) (by rfl) (fun v1 h1 => by first | rfl | (go_simp; done) | (go_simp; intro h9; exact absurd h9 (by omega)) | (go_simp; assumption))) (Only.refl _ _) ?_
      simp only [Act.put, List.setIfInBounds_toArray, List.set_cons_zero, List.set_cons_succ]
      refine wpN_take (i := 4) (d := some 36) rfl rfl (by kernel_rfl) (by kernel_rfl) (by kernel_rfl) (fun _ _ _ h => h) (sure_value (v := .pointer (some ⟨w.heap.size, 0, none⟩)) (by rfl) (fun v1 h1 => by first | rfl | (go_simp; done) | (go_simp; intro h9; exact absurd h9 (by omega)) | (go_simp; assumption))) (Only.refl _ _) ?_
      simp only [Act.put, List.setIfInBounds_toArray, List.set_cons_zero, List.set_cons_succ]
      refine wpN_take (i := 5) (d := some 37) rfl rfl (by kernel_rfl) (by kernel_rfl) (by kernel_rfl) (fun _ _ _ h => h) (sure_lit (v := .slice A L.length c) (i := 0) B1.out.drew rfl (fun h => h) (by rfl) (fun _ h => by go_simp)) (Only.refl _ _) ?_
      simp only [Act.put, List.setIfInBounds_toArray, List.set_cons_zero, List.set_cons_succ]
      refine wpN_call (i := 3) (d := some 35) (T := fun v w1 w' => (∃ A c, v = .slice A L.length c ∧ Ents w' (.slice A L.length c) L) ∧ Only Noth w1 w') (fun w1 h1 => (list_val (CM.out.noth (Only.undrew h1))).mono (fun r w' h => by obtain ⟨v, e1, e2, e3⟩ := h; exact ⟨v, e1, ⟨e2, e3⟩, h1.tr e3⟩)) (by kernel_rfl) rfl rfl (by rfl) (fun _ => by go_simp) ?_
      rintro v w1 w3 h1 ⟨⟨A3, c3, rfl, he3⟩, _⟩ h3
      simp only [Act.put, List.setIfInBounds_toArray, List.set_cons_zero, List.set_cons_succ]
      refine wpN_rebase h3 ?_
      have E3 := Lib.hid he3
      have E4 := Lib.hid (E.out.noth (Only.undrew h3))
      clear he3
      refine wpN_take (i := 6) (d := some 38) rfl rfl (by kernel_rfl) (by kernel_rfl) (by kernel_rfl) (fun _ _ _ h => h) (sure_call (v := .bool true) (fun w' h' => ref_self (E3.out.noth h') (E4.out.noth h') rfl) (by rfl) (fun _ => by go_simp)) (Only.refl _ _) ?_
      simp only [Act.put, List.setIfInBounds_toArray, List.set_cons_zero, List.set_cons_succ]
      refine wpN_take (i := 7) (d := some 39) rfl rfl (by kernel_rfl) (by kernel_rfl) (by kernel_rfl) (fun _ _ _ h => h) (sure_value (v := .bool true) (by rfl) (fun v1 h1 => by first | rfl | (go_simp; done) | (go_simp; intro h9; exact absurd h9 (by omega)) | (go_simp; assumption))) (Only.refl _ _) ?_
      simp only [Act.put, List.setIfInBounds_toArray, List.set_cons_zero, List.set_cons_succ]
      refine wpN_take (i := 8) (d := some 4) rfl rfl (by kernel_rfl) (by kernel_rfl) (by kernel_rfl) (fun _ _ _ h => h) (sure_value (v := .bool true) (by rfl) (fun v1 h1 => by first | rfl | (go_simp; done) | (go_simp; intro h9; exact absurd h9 (by omega)) | (go_simp; assumption))) (Only.refl _ _) ?_
      simp only [Act.put, List.setIfInBounds_toArray, List.set_cons_zero, List.set_cons_succ]
      refine wpN_done (by kernel_rfl) (fun w4 ho => ?_) _
      replace ho := Only.undrew (h3.tr ho)
      have OF := Lib.hid (OK.out.tr ho)
      clear ho h1 h3
      go_wp2_with fail
      go_ret
      exact ⟨rfl, OF.out⟩
end Go.Proofs.Ytdclkbhkboaafaa
