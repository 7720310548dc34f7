/- Package chunk: Split. -/
import Derived.Test.YtemeglofblnnmaaDoorJnA
import Derived.Test.YtemeglofblnnmaaDoorRowS
namespace Go.Proofs.YtemeglofblnnmaaDoor
open Go.RowKit Go.Lib
set_option linter.unusedVariables false
set_option linter.unusedSimpArgs false
set_option maxRecDepth 100000
attribute [local go_sem ↓] Go.wp_at_zero Go.wp_at_succ

/-- A part's bytes; how many parts there are. -/
def chunkOf (room : Nat) (b : List UInt8) (i : Nat) : List UInt8 := (b.drop (i * room)).take room
def nPt (len room : Nat) : Nat := if len = 0 then 1 else (len + room - 1) / room
theorem nPt_eq {len room m : Nat} (hr : 1 ≤ room) (h2 : len - m * room ≤ room) (h3 : m * room ≤ len) (h4 : m = 0 ∨ m * room < len) : nPt len room = m + 1 := by
  unfold nPt
  split
  · rename_i h0
    subst h0
    rcases h4 with h4 | h4
    · omega
    · omega
  · rename_i h0
    have h5 : m * room < len := by
      rcases h4 with h4 | h4
      · subst h4; simp; omega
      · exact h4
    apply Nat.div_eq_of_lt_le
    · rw [Nat.add_mul]; omega
    · rw [Nat.add_mul, Nat.add_mul]; omega
def partsOf (id : Int) (room : Nat) (b : List UInt8) : List Pt := (List.range (nPt b.length room)).map fun (i : Nat) => ⟨id, (i : Int), nPt b.length room, chunkOf room b i⟩
theorem bs_to {w : World} {S : Nat → Prop} {A : Option Addr} {l : List UInt8} {c : Nat} (k : Nat) (h : BsAt w S (.slice A l.length c) l) (hk : k ≤ l.length) :
    ∃ A', (∀ V : World, (Instr.slice 22 (.slice A l.length c) none (some (.int .i64 k)) none).run Tryd.prog V = .ok (.slice A' k c) V) ∧ BsAt w S (.slice A' (l.take k).length c) (l.take k) := by
  obtain ⟨A0, c0, e, h, hc, hm⟩ := h
  injection e with e1 _ e3
  subst e1 e3
  unfold maxLen at hm
  have hlen : (l.take k).length = k := by rw [List.length_take]; omega
  refine ⟨if c = 0 then A else A.map (·.add 0), fun V => ?_, _, c, rfl, ?_, by omega, by unfold maxLen; omega⟩
  · have hz := Tryd.sizeOf5 V
    have hr := run_slice_h (P := Tryd.prog) V 22 A l.length c (by kernel_rfl) .i64 (k : Int) (by omega) (by omega)
    rw [show Tryd.prog.elem 22 = 5 by kernel_rfl, hz] at hr
    rw [hr]
    simp [Result.andThen, sliced]
  · rw [hlen]
    refine ⟨by simp [byteCs]; omega, fun hn => ?_⟩
    obtain ⟨ad, rfl, hS, hlt, hcell⟩ := h.2 (by omega)
    rw [if_neg (by omega)]
    refine ⟨ad.add 0, rfl, by rw [block_add]; exact hS, by rw [block_add]; exact hlt, fun j u hu => ?_⟩
    rw [Go.Addr.add_add, Nat.zero_add]
    refine hcell j u ?_
    simp only [byteCs, List.map_take] at hu ⊢
    rw [List.getElem?_take] at hu
    split at hu
    · exact hu
    · cases hu
theorem bs_from {w : World} {S : Nat → Prop} {A : Option Addr} {l : List UInt8} {c : Nat} (k : Nat) (h : BsAt w S (.slice A l.length c) l) (hk : k ≤ l.length) :
    ∃ A' c', (∀ V : World, (Instr.slice 22 (.slice A l.length c) (some (.int .i64 k)) none none).run Tryd.prog V = .ok (.slice A' (l.drop k).length c') V) ∧ BsAt w S (.slice A' (l.drop k).length c') (l.drop k) := by
  obtain ⟨A0, c0, e, h, hc, hm⟩ := h
  injection e with e1 _ e3
  subst e1 e3
  unfold maxLen at hm
  have hlen : (l.drop k).length = l.length - k := List.length_drop
  refine ⟨if c = k then A else A.map (·.add (k * 1)), c - k, fun V => ?_, _, c - k, rfl, ?_, by omega, by unfold maxLen; omega⟩
  · have hz := Tryd.sizeOf5 V
    have hr := run_slice_l (P := Tryd.prog) V 22 A l.length c (by kernel_rfl) .i64 (k : Int) (by omega) (by omega)
    rw [show Tryd.prog.elem 22 = 5 by kernel_rfl, hz] at hr
    rw [hr, hlen]
    simp [Result.andThen, sliced]
  · rw [hlen]
    refine ⟨by simp [byteCs], fun hn => ?_⟩
    obtain ⟨ad, rfl, hS, hlt, hcell⟩ := h.2 (by omega)
    by_cases hck : c = k
    · omega
    · rw [if_neg hck]
      refine ⟨ad.add (k * 1), rfl, by rw [block_add]; exact hS, by rw [block_add]; exact hlt, fun j u hu => ?_⟩
      rw [Go.Addr.add_add, Nat.mul_one]
      refine hcell (k + j) u ?_
      simp only [byteCs, List.map_drop, List.getElem?_drop] at hu ⊢
      exact hu
theorem ptinfo : (Tryd.prog.info? 29).map (fun i => (i.zero, i.size, i.bytes)) = some (some (.agg #[.int .i64 0, .int .i64 0, .int .i64 0, .slice none 0 0]), 4, 48) := by kernel_rfl
/-- The parts that were made: count m of them have their bytes; the one behind them (if there is one) has none yet. -/
structure Made (w W : World) (id : Int) (room : Nat) (b : List UInt8) (m n k : Nat) (D : Nat → Nat → Prop) (css : List (List Value)) : Prop where
  len : css.length = n
  part : ∀ i, i < m → ∃ v, css[i]? = some [.int .i64 id, .int .i64 (i : Int), .int .i64 (if i < k then (n : Int) else 0), v] ∧ OwnB W (D i) v (chunkOf room b i)
  rest : ∀ i, m ≤ i → i < n → css[i]? = some [.int .i64 id, .int .i64 (i : Int), .int .i64 0, .slice none 0 0]
  new : ∀ i x, D i x → w.heap.size ≤ x ∧ x < W.heap.size
  one : ∀ i j x, D i x → D j x → i = j
section
variable {w W W' : World} {id : Int} {room m n k : Nat} {b : List UInt8} {D : Nat → Nat → Prop} {css : List (List Value)}
theorem Made.fours (h : Made w W id room b m n k D css) (hmn : m ≤ n) : ∀ cs ∈ css, cs.length = 4 := by
  intro cs hcs
  obtain ⟨i, hi, rfl⟩ := List.mem_iff_getElem.1 hcs
  rw [h.len] at hi
  by_cases him : i < m
  · obtain ⟨v, hv, _⟩ := h.part i him
    rw [List.getElem?_eq_getElem (by rw [h.len]; exact hi)] at hv
    injection hv with hv
    rw [hv]
    rfl
  · have hv := h.rest i (by omega) hi
    rw [List.getElem?_eq_getElem (by rw [h.len]; exact hi)] at hv
    injection hv with hv
    rw [hv]
    rfl
theorem Made.only {F : Nat → Prop} (h : Made w W id room b m n k D css) (ho : Only F W W') (hF : ∀ i x, D i x → ¬ F x) : Made w W' id room b m n k D css :=
  ⟨h.len, fun i hi => by obtain ⟨v, h1, h2⟩ := h.part i hi; exact ⟨v, h1, h2.only ho (hF i)⟩, h.rest, fun i x hx => ⟨(h.new i x hx).1, Nat.lt_of_lt_of_le (h.new i x hx).2 ho.size⟩, h.one⟩
/-- The last part gets its bytes. -/
theorem Made.fill {v : Value} (h : Made w W id room b m (m + 1) 0 D css) (ho : Only Noth W W') (hv : OwnB W' (New W) v (chunkOf room b m)) (hw : w.heap.size ≤ W.heap.size) (hD : ∀ x, ¬ D m x) :
    Made w W' id room b (m + 1) (m + 1) 0 (fun i x => if i = m then W.heap.size ≤ x ∧ x < W'.heap.size else D i x) (css.set m ([.int .i64 id, .int .i64 (m : Int), .int .i64 0, .slice none 0 0].set 3 v)) := by
  refine ⟨by rw [List.length_set, h.len], fun i hi => ?_, fun i h1 h2 => by omega, fun i x hx => ?_, fun i j x hi hj => ?_⟩
  · by_cases e : i = m
    · subst e
      refine ⟨v, ?_, ?_⟩
      · rw [List.getElem?_set_self (by rw [h.len]; omega)]
        simp
      · simp only [if_true]
        exact hv.mono (fun x hx hl => ⟨hx, hl⟩)
    · obtain ⟨u, h1, h2⟩ := h.part i (by omega)
      refine ⟨u, ?_, ?_⟩
      · rw [List.getElem?_set_ne (fun e2 => e e2.symm)]
        simpa using h1
      · simp only [if_neg e]
        exact h2.noth ho
  · by_cases e : i = m
    · simp only [if_pos e] at hx
      exact ⟨Nat.le_trans hw hx.1, hx.2⟩
    · simp only [if_neg e] at hx
      exact ⟨(h.new i x hx).1, Nat.lt_of_lt_of_le (h.new i x hx).2 ho.size⟩
  · by_cases e : i = m <;> by_cases e2 : j = m
    · rw [e, e2]
    · simp only [if_pos e] at hi
      simp only [if_neg e2] at hj
      have := (h.new j x hj).2
      omega
    · simp only [if_neg e] at hi
      simp only [if_pos e2] at hj
      have := (h.new i x hi).2
      omega
    · simp only [if_neg e] at hi
      simp only [if_neg e2] at hj
      exact h.one i j x hi hj
theorem Made.more (h : Made w W id room b (m + 1) (m + 1) 0 D css) : Made w W id room b (m + 1) (m + 1 + 1) 0 D (css ++ [[.int .i64 id, .int .i64 ((m + 1 : Nat) : Int), .int .i64 0, .slice none 0 0]]) := by
  refine ⟨by simp [h.len], fun i hi => ?_, fun i h1 h2 => ?_, h.new, h.one⟩
  · obtain ⟨v, h1, h2⟩ := h.part i hi
    exact ⟨v, by rw [List.getElem?_append_left (by rw [h.len]; exact hi)]; simpa using h1, h2⟩
  · obtain rfl : i = m + 1 := by omega
    rw [List.getElem?_append_right (by rw [h.len]; exact Nat.le_refl _), h.len]
    simp
/-- A part gets the count. -/
theorem Made.count (h : Made w W id room b n n k D css) (hk : k < n) {v : Value} (hv : css[k]? = some [.int .i64 id, .int .i64 (k : Int), .int .i64 0, v]) : Made w W id room b n n (k + 1) D (css.set k ([.int .i64 id, .int .i64 (k : Int), .int .i64 0, v].set 2 (.int .i64 (n : Int)))) := by
  refine ⟨by rw [List.length_set, h.len], fun i hi => ?_, fun i h1 h2 => by omega, h.new, h.one⟩
  obtain ⟨u, h1, h2⟩ := h.part i hi
  by_cases e : i = k
  · subst e
    rw [hv] at h1
    simp at h1
    refine ⟨u, ?_, h2⟩
    rw [List.getElem?_set_self (by rw [h.len]; exact hi), h1]
    simp
  · refine ⟨u, ?_, h2⟩
    rw [List.getElem?_set_ne (fun e2 => e e2.symm), h1]
    congr 3
    by_cases hik : i < k
    · rw [if_pos hik, if_pos (by omega)]
    · rw [if_neg hik, if_neg (by omega)]
end
/-- What Split hands back: the parts, in memory of its own. -/
def SplitAns (w : World) (l : List Pt) (er : Int) (e : Ending) (w' : World) : Prop := ∃ A c, e = .returned (.tuple #[.slice A l.length c, .int .i64 er]) ∧ (0 < l.length → ∃ (g : Nat) (cur : Array Value) (D : Nat → Nat → Prop), A = some ⟨g, 0, none⟩ ∧ w.heap.size ≤ g ∧ Hld w' g 29 cur ∧ l.length * 4 ≤ cur.size ∧ (∀ i x, D i x → w.heap.size ≤ x ∧ x < w'.heap.size ∧ x ≠ g) ∧ (∀ i j x, D i x → D j x → i = j) ∧
  ∀ i p, l[i]? = some p → ∃ v, cur[i * 4]? = some (.int .i64 p.id) ∧ cur[i * 4 + 1]? = some (.int .i64 p.idx) ∧ cur[i * 4 + 2]? = some (.int .i64 p.cnt) ∧ cur[i * 4 + 3]? = some v ∧ OwnB w' (D i) v p.bs)
/-- Split, over plain data. -/
def splitD (id : Int) (b : List UInt8) (room : Int) : List Pt × Int :=
  if id < 0 ∨ 1099511627776 < id ∨ room < 1 ∨ 8192 < room then ([], 2) else if (64 : Int) * room < b.length then ([], 5) else (partsOf id room.toNat b, 0)
theorem clone_v {S : Nat → Prop} {l : List UInt8} {n : Nat} {A : Option Addr} {c : Nat} {w1 : World} (hn : l.length = n) (hz : l.length ≤ 1000000) (h : BsAt w1 S (.slice A n c) l) : Calls Tryd.prog 35 #[.slice A n c] w1 fun e w' => (∃ A' c', e = .returned (.slice A' l.length c') ∧ OwnB w' (New w1) (.slice A' l.length c') l) ∧ Only Noth w1 w' := by
  subst hn
  refine (clone_own A c S l hz w1 h).mono ?_
  rintro e w' ⟨⟨u, rfl, hu⟩, ho⟩
  obtain ⟨A', c', rfl⟩ := hu.1.shape
  exact ⟨⟨A', c', rfl, hu⟩, ho⟩
/-- At the head of Split's first loop. -/
def SpAt (w : World) (Sb : Nat → Prop) (id : Int) (r : Nat) (b : List UInt8) (m : Nat) (v1 v8 : Value) (W : World) : Prop := ∃ (A' : Option Addr) (c' : Nat) (rs : List UInt8) (css : List (List Value)) (A : Option Addr) (c : Nat) (D : Nat → Nat → Prop), rs = b.drop (m * r) ∧ v1 = .slice A' rs.length c' ∧ BsAt W Sb (.slice A' rs.length c') rs ∧ v8 = .slice A (m + 1) c ∧ Row W (New w) 29 4 (.slice A (m + 1) c) (m + 1) css.flatten ∧
  Made w W id r b m (m + 1) 0 D css ∧ (∀ i x, D i x → ¬ RowB A c x) ∧ (∀ i, m ≤ i → ∀ x, ¬ D i x) ∧ Only Noth w W
theorem rest_len (room m : Nat) (b : List UInt8) : (b.drop (m * room)).length = b.length - m * room := List.length_drop
set_option maxHeartbeats 16000000 in
theorem split_run (id : Int) (A0 : Option Addr) (c0 : Nat) (Sb : Nat → Prop) (b : List UInt8) (room : Int) (hr0 : -9223372036854775808 ≤ room) (hr1 : room ≤ 9223372036854775807) (w : World) (h : BsAt w Sb (.slice A0 b.length c0) b) (hSb : ∀ k, Sb k → k < w.heap.size) :
    Calls Tryd.prog 11 #[.int .i64 id, .slice A0 b.length c0, .int .i64 room] w fun e w' => SplitAns w (splitD id b room).1 (splitD id b room).2 e w' ∧ Only Noth w w' := by
  have HB := Lib.hid h
  have HSb := Lib.hid hSb
  have hbl : (b.length : Int) ≤ 9223372036854775807 := by obtain ⟨_, _, _, _, h1, h2⟩ := h; unfold maxLen at h2; omega
  have hb0 : (0 : Int) ≤ b.length := by omega
  clear h hSb
  have hret : ∀ (er : Int) (W : World), Only Noth w W → (splitD id b room) = ([], er) → SplitAns w (splitD id b room).1 (splitD id b room).2 (.returned (.tuple #[.slice none 0 0, .int .i64 er])) W ∧ Only Noth w W := by
    intro er W ho he
    rw [he]
    exact ⟨⟨none, 0, rfl, fun h => absurd h (by simp)⟩, ho⟩
  have HRET := Lib.hid hret
  clear hret
  go_enter Tryd.func11, Tryd.ntmps11
  go_wp2_with fail
  refine (number_run id _).mono ?_
  rintro e w1 ⟨rfl, ho⟩
  replace HB := Lib.hid (HB.out.noth ho)
  have O := Lib.hid ho
  clear ho
  by_cases hbad : id < 0 ∨ 1099511627776 < id ∨ room < 1 ∨ 8192 < room
  · have HS := Lib.hid (show splitD id b room = ([], 2) by unfold splitD; rw [if_pos hbad])
    obtain ⟨nb, hnb⟩ : ∃ nb, (decide (0 ≤ id) && decide (id ≤ 1099511627776)) = nb := ⟨_, rfl⟩
    rw [hnb]
    cases nb
    · clear hnb hbad
      go_wp2
      refine bodyPost_ret (v := .tuple #[.slice none 0 0, .int .i64 2]) (by simp [results, Tryd.results11, go_sem]) rfl ?_
      exact HRET.out 2 _ O.out HS.out
    · have hrr : room < 1 ∨ 8192 < room := by
        rw [Bool.and_eq_true, decide_eq_true_eq, decide_eq_true_eq] at hnb
        omega
      clear hnb hbad
      by_cases hr : room < 1
      · go_wp2
        refine bodyPost_ret (v := .tuple #[.slice none 0 0, .int .i64 2]) (by simp [results, Tryd.results11, go_sem]) rfl ?_
        exact HRET.out 2 _ O.out HS.out
      · have hr2 : 8192 < room := by omega
        go_wp2
        refine bodyPost_ret (v := .tuple #[.slice none 0 0, .int .i64 2]) (by simp [results, Tryd.results11, go_sem]) rfl ?_
        exact HRET.out 2 _ O.out HS.out
  have hnb : (decide (0 ≤ id) && decide (id ≤ 1099511627776)) = true := by
    rw [Bool.and_eq_true, decide_eq_true_eq, decide_eq_true_eq]
    omega
  rw [hnb]
  have hg1 : ¬ room < 1 := by omega
  have hg2 : ¬ 8192 < room := by omega
  have HGOOD := Lib.hid hbad
  obtain ⟨r, rfl⟩ : ∃ r : Nat, room = (r : Int) := ⟨room.toNat, by omega⟩
  clear hnb hbad
  have hmul : IntKind.i64.wrap ((64 : Int) * (r : Int)) = (64 : Int) * r := by rw [IntKind.wrap_i64]; omega
  by_cases hlong : (64 : Int) * (r : Int) < b.length
  · have HS := Lib.hid (show splitD id b (r : Int) = ([], 5) by unfold splitD; rw [if_neg HGOOD.out, if_pos hlong])
    go_wp2
    refine bodyPost_ret (v := .tuple #[.slice none 0 0, .int .i64 5]) (by simp [results, Tryd.results11, go_sem]) rfl ?_
    exact HRET.out 5 _ O.out HS.out
  have HS := Lib.hid (show splitD id b (r : Int) = (partsOf id r b, 0) by unfold splitD; rw [if_neg HGOOD.out, if_neg hlong, Int.toNat_natCast])
  have hshort : b.length ≤ 64 * r := by omega
  have hrn : r ≤ 8192 := by omega
  have hrn1 : 1 ≤ r := by omega
  clear HRET HGOOD
  go_wp2_with fail
  have hz1 := O.out.size
  have R0 := Lib.hid (show Row (w1.alloc (.cells #[.int .i64 id, .int .i64 0, .int .i64 0, .slice none 0 0] 29)) (New w) 29 4 (.slice (some ⟨w1.heap.size, 0, none⟩) 1 1) 1 [.int .i64 id, .int .i64 0, .int .i64 0, .slice none 0 0] from
    ⟨rfl, _, 1, rfl, Nat.le_refl _, by unfold maxLen; omega, .inr ⟨w1.heap.size, _, rfl, hz1, heap_alloc_new w1 _, by simp, by simp⟩⟩)
  have a1 := (Only.refl Noth w1).alloc (.cells #[.int .i64 id, .int .i64 0, .int .i64 0, .slice none 0 0] 29)
  have HB1 := Lib.hid (HB.out.noth a1)
  have O1 := Lib.hid (O.out.tr a1)
  obtain ⟨i0, hti, hz0, hzs, hzb⟩ := info_parts ptinfo
  have HTI := Lib.hid hti
  have HZ0 := Lib.hid hz0
  have HZS := Lib.hid hzs
  have HZB := Lib.hid hzb
  clear a1 hti hz0 hzs hzb hmul hg1 hg2 hlong
  go_loopw [1, 8] (fun v1 v8 W => ∃ m : Nat, m * r ≤ b.length ∧ (m = 0 ∨ m * r < b.length) ∧ SpAt w Sb id r b m v1 v8 W) (fun v1 _ _ => match v1 with | .slice _ n _ => n | _ => 0)
  case atStart =>
    refine ⟨0, by simp, .inl rfl, A0, c0, b, [[.int .i64 id, .int .i64 0, .int .i64 0, .slice none 0 0]], _, 1, fun _ _ => False, by simp, rfl, HB1.out, rfl, by simpa using R0.out, ⟨rfl, fun i hi => absurd hi (Nat.not_lt_zero _), fun i h1 h2 => ?_, fun _ _ h => h.elim, fun _ _ _ h => h.elim⟩, fun _ _ h => h.elim, fun _ _ _ h => h, O1.out⟩
    obtain rfl : i = 0 := by omega
    rfl
  case round =>
    obtain ⟨m, hm1, hm2, A', c', rs, css, A, c, D, hrs, rfl, hbs, rfl, hrow, hmade, hdr, hdm, ho⟩ := hrel
    have HRS := Lib.hid hrs
    have BS := Lib.hid hbs
    have RW := Lib.hid hrow
    have MD := Lib.hid hmade
    have DR := Lib.hid hdr
    have DM := Lib.hid hdm
    have O2 := Lib.hid ho
    have HRL := Lib.hid (show rs.length = b.length - m * r by rw [hrs, List.length_drop])
    have HM2 := Lib.hid hm2
    have HM1 := Lib.hid hm1
    have hm64 : m < 64 := by
      rcases hm2 with h | h
      · omega
      · exact Nat.lt_of_mul_lt_mul_right (a := r) (by omega)
    have hrl0 : (0 : Int) ≤ rs.length := by omega
    have hrlb : rs.length ≤ 600000 := by
      have : 64 * r ≤ 64 * 8192 := Nat.mul_le_mul_left _ hrn
      have := HRL.out
      omega
    clear hrs hbs hrow hmade hdr hdm ho hm1 hm2 HB HB1 R0 O1
    by_cases hgt : (r : Int) < rs.length
    · obtain ⟨A2, hr41, hb41⟩ := bs_to r BS.out (by omega)
      obtain ⟨A3, c3, hr54, hb54⟩ := bs_from r BS.out (by omega)
      have htl : (rs.take r).length = r := by rw [List.length_take]; omega
      rw [htl] at hb41
      obtain ⟨ch, hch⟩ : ∃ ch, rs.take r = ch := ⟨_, rfl⟩
      obtain ⟨rs2, hrs2⟩ : ∃ rs2, rs.drop r = rs2 := ⟨_, rfl⟩
      rw [hch] at htl hb41
      rw [hrs2] at hr54 hb54
      have HCH := Lib.hid hch
      have HRS2 := Lib.hid hrs2
      clear hch hrs2
      have B41 := Lib.hid hb41
      have B54 := Lib.hid hb54
      have HTL := Lib.hid htl
      have hcss := MD.out.len
      have h4 := MD.out.fours (by omega)
      have hlast := MD.out.rest m (Nat.le_refl _) (by omega)
      have HLAST := Lib.hid hlast
      have H4 := Lib.hid h4
      have HCL := Lib.hid hcss
      clear hb41 hb54 htl hcss h4 hlast
      go_wp2_with fail
      refine (clone_v HTL.out (by rw [HTL.out]; omega) B41.out).mono ?_
      rintro e w2 ⟨⟨Au, cu, rfl, hu⟩, ho⟩
      have hrow2 := RW.out.only ho (fun _ _ h => h)
      rw [← HCL.out] at hrow2
      obtain ⟨g, cur, rfl, hg, hcur, hcu, hst⟩ := hrow2.cell_at H4.out HLAST.out (r := 3) rfl
      have q3 : w2.cell? ⟨g, m * 4 + 3, none⟩ = some (.slice none 0 0) := (hcur.cell _).trans hcu
      have f3 := hcur.free (m * 4 + 3)
      have HCUR := Lib.hid hcur
      have HST := Lib.hid hst
      have HU := Lib.hid hu
      have HO := Lib.hid ho
      have HGN := Lib.hid (show w.heap.size ≤ g from hg)
      clear hrow2 hst hu ho hcu hcur hg
      have hrow3 := HST.out (w2.setCell ⟨g, m * 4 + 3, none⟩ (.slice Au ch.length cu)) (.slice Au ch.length cu) (HCUR.out.set_ (m * 4 + 3) (.slice Au ch.length cu))
      obtain ⟨css2, hcss2⟩ : ∃ css2, css.set m ([.int .i64 id, .int .i64 (m : Int), .int .i64 0, .slice none 0 0].set 3 (.slice Au ch.length cu)) = css2 := ⟨_, rfl⟩
      have hmd2 := MD.out.fill HO.out (v := .slice Au ch.length cu) (by rw [show chunkOf r b m = ch from by unfold chunkOf; rw [← HRS.out, HCH.out]]; exact HU.out) O2.out.size (DM.out m (Nat.le_refl _))
      rw [hcss2] at hrow3 hmd2
      have hl2 : css2.length = m + 1 := hmd2.len
      rw [hl2] at hrow3
      have hgw2 : g < w2.heap.size := HCUR.out.lt
      have hgwr : g < wr.heap.size := by
        obtain ⟨_, cu2, hcu2⟩ := RW.out.tight4 ⟨by have := RW.out.cap4; omega, rfl⟩
        exact (Array.getElem?_eq_some_iff.1 hcu2).1
      have hro : Only (fun k => k = g) w2 (w2.setCell ⟨g, m * 4 + 3, none⟩ (.slice Au ch.length cu)) := (Only.refl (fun k => k = g) w2).setCell (p := ⟨g, m * 4 + 3, none⟩) (fun _ => rfl) _
      have R3 := Lib.hid (hrow3.alloc (.cells #[.int .i64 id, .int .i64 ((m : Int) + 1), .int .i64 0, .slice none 0 0] 29))
      have SV := Lib.hid (show Src ((w2.setCell ⟨g, m * 4 + 3, none⟩ (.slice Au ch.length cu)).alloc (.cells #[.int .i64 id, .int .i64 ((m : Int) + 1), .int .i64 0, .slice none 0 0] 29)) (fun _ => True) 4 (some ⟨w2.heap.size, 0, none⟩) 1 [.int .i64 id, .int .i64 ((m : Int) + 1), .int .i64 0, .slice none 0 0] from by
        have hn := Hld.new (w2.setCell ⟨g, m * 4 + 3, none⟩ (.slice Au ch.length cu)) 29 #[.int .i64 id, .int .i64 ((m : Int) + 1), .int .i64 0, .slice none 0 0]
        have hz : (w2.setCell ⟨g, m * 4 + 3, none⟩ (.slice Au ch.length cu)).heap.size = w2.heap.size := by simp [World.setCell]
        rw [hz] at hn
        exact ⟨rfl, fun _ => ⟨_, rfl, trivial, hn.lt, fun j u hu => by rw [add_plain', Nat.zero_add, hn.cell j]; simpa using hu⟩⟩)
      have MD2 := Lib.hid hmd2
      have RO := Lib.hid hro
      have hti := HTI.out
      have hm1 : (m : Int) + 1 ≤ 64 := by omega
      have hcz : c ≠ 0 := by have := RW.out.cap4; omega
      clear hrow3 hcss2 hmd2 hl2 hro
      go_wp2_with (at_builtin; refine wpList_append_row _ rfl (.tmp 45) (.tmp 50) 38 rfl 29 i0 (.agg #[.int .i64 0, .int .i64 0, .int .i64 0, .slice none 0 0]) 4 48 Tryd.underlying38 hti HZ0.out HZS.out HZB.out rfl (RowB (some ⟨g, 0, none⟩) c) _ _ (m + 1) _ rfl R3.out.tightB.1 (some ⟨w2.heap.size, 0, none⟩) 1 1 _ rfl SV.out (by intro u hu; simp at hu; rcases hu with rfl | rfl | rfl | rfl <;> rfl) (by simp only [maxLen]; omega) (by omega) ?_; intro v' w9 hrow9 ho9 hz9; have HR9 := Lib.hid hrow9; have HO9 := Lib.hid ho9; clear hrow9 ho9)
      obtain ⟨A9, c9, hv9⟩ := HR9.out.shape
      subst hv9
      have e1 : ∀ k, RowB (some ⟨g, 0, none⟩) c k → k = g := fun k hk => by
        have := hk.2
        injection this with this
        injection this with this
        exact this.symm
      have hDg : ∀ i x, (if i = m then wr.heap.size ≤ x ∧ x < w2.heap.size else D i x) → x ≠ g := fun i x hx e => by
        by_cases em : i = m
        · rw [if_pos em] at hx
          omega
        · rw [if_neg em] at hx
          exact DR.out i x hx ⟨hcz, by rw [e]⟩
      have HDG := Lib.hid hDg
      have HE1 := Lib.hid e1
      have hz2 : ((w2.setCell ⟨g, m * 4 + 3, none⟩ (.slice Au ch.length cu)).alloc (.cells #[.int .i64 id, .int .i64 ((m : Int) + 1), .int .i64 0, .slice none 0 0] 29)).heap.size = w2.heap.size + 1 := by simp [World.setCell]
      have OA := Lib.hid (show Only (fun k => k = g) w2 w9 from (RO.out.alloc (.cells #[.int .i64 id, .int .i64 ((m : Int) + 1), .int .i64 0, .slice none 0 0] 29)).trans HO9.out (fun j hj _ => HE1.out j hj))
      clear e1 hDg q3 f3 hr41 hr54
      go_roundw
      case rel =>
        refine ⟨m + 1, by have := HRL.out; rw [Nat.add_mul]; omega, .inr (by have := HRL.out; rw [Nat.add_mul]; omega), A3, c3, rs2, css2 ++ [[.int .i64 id, .int .i64 ((m + 1 : Nat) : Int), .int .i64 0, .slice none 0 0]], A9, c9, _, ?_, rfl, ?_, rfl, ?_, (MD2.out.only OA.out (fun i x hx e => HDG.out i x hx e)).more, ?_, ?_, ?_⟩
        · rw [← HRS2.out, HRS.out, List.drop_drop, Nat.add_mul]
          congr 1
          omega
        · exact (B54.out.noth HO.out).only OA.out (fun k hk e => by have := HSb.out k hk; have := HGN.out; omega)
        · have h9 := HR9.out
          simp only [List.flatten_append, List.flatten_cons, List.flatten_nil, List.append_nil]
          refine h9.mono (fun k hk _ => ?_)
          rcases hk with hk | hk
          · rw [HE1.out k hk]
            exact HGN.out
          · have h1 := hk.1
            rw [hz2] at h1
            have := O2.out.size
            have := HO.out.size
            show w.heap.size ≤ k
            omega
        · intro i x hx hr
          rcases (HR9.out.tightB.2 x hr).1 with h1 | h1
          · exact HDG.out i x hx (HE1.out x h1)
          · have h2 := h1.1
            rw [hz2] at h2
            have := (MD2.out.new i x hx).2
            omega
        · intro i hi x hx
          rw [if_neg (by omega)] at hx
          exact DM.out i (by omega) x hx
        · exact (O2.out.tr HO.out).trans OA.out (fun j hj hl => by have hj : j = g := hj; have := HGN.out; omega)
      case measure =>
        have := HRL.out
        have h2 : rs2.length = rs.length - r := by rw [← HRS2.out, List.length_drop]
        show rs2.length < rs.length
        omega
    · have hn := nPt_eq (len := b.length) (room := r) (m := m) hrn1 (by have := HRL.out; omega) HM1.out HM2.out
      have HN := Lib.hid hn
      have hcss := MD.out.len
      have h4 := MD.out.fours (by omega)
      have hlast := MD.out.rest m (Nat.le_refl _) (by omega)
      have HLAST := Lib.hid hlast
      have H4 := Lib.hid h4
      have HCL := Lib.hid hcss
      have hgt2 : (rs.length : Int) ≤ r := by omega
      clear hn hcss h4 hlast
      go_wp2_with fail
      refine (clone_v rfl (by omega) BS.out).mono ?_
      rintro e w2 ⟨⟨Au, cu, rfl, hu⟩, ho⟩
      have hrow2 := RW.out.only ho (fun _ _ h => h)
      rw [← HCL.out] at hrow2
      obtain ⟨g, cur, rfl, hg, hcur, hcu, hst⟩ := hrow2.cell_at H4.out HLAST.out (r := 3) rfl
      have q3 : w2.cell? ⟨g, m * 4 + 3, none⟩ = some (.slice none 0 0) := (hcur.cell _).trans hcu
      have f3 := hcur.free (m * 4 + 3)
      have HGN := Lib.hid (show w.heap.size ≤ g from hg)
      have hrow3 := hst (w2.setCell ⟨g, m * 4 + 3, none⟩ (.slice Au rs.length cu)) (.slice Au rs.length cu) (hcur.set_ (m * 4 + 3) (.slice Au rs.length cu))
      obtain ⟨css2, hcss2⟩ : ∃ css2, css.set m ([.int .i64 id, .int .i64 (m : Int), .int .i64 0, .slice none 0 0].set 3 (.slice Au rs.length cu)) = css2 := ⟨_, rfl⟩
      have hmd2 := MD.out.fill ho (v := .slice Au rs.length cu) (by rw [show chunkOf r b m = rs from by unfold chunkOf; rw [← HRS.out]; exact List.take_of_length_le (by omega)]; exact hu) O2.out.size (DM.out m (Nat.le_refl _))
      rw [hcss2] at hrow3 hmd2
      have hl2 : css2.length = m + 1 := hmd2.len
      rw [hl2] at hrow3
      have hgw2 : g < w2.heap.size := hcur.lt
      have hgwr : g < wr.heap.size := by
        obtain ⟨_, cu2, hcu2⟩ := RW.out.tight4 ⟨by have := RW.out.cap4; omega, rfl⟩
        exact (Array.getElem?_eq_some_iff.1 hcu2).1
      have hro : Only (fun k => k = g) w2 (w2.setCell ⟨g, m * 4 + 3, none⟩ (.slice Au rs.length cu)) := (Only.refl (fun k => k = g) w2).setCell (p := ⟨g, m * 4 + 3, none⟩) (fun _ => rfl) _
      have hcz : c ≠ 0 := by have := RW.out.cap4; omega
      have hDg : ∀ i x, (if i = m then wr.heap.size ≤ x ∧ x < w2.heap.size else D i x) → x ≠ g := fun i x hx e => by
        by_cases em : i = m
        · rw [if_pos em] at hx
          omega
        · rw [if_neg em] at hx
          exact DR.out i x hx ⟨hcz, by rw [e]⟩
      obtain ⟨D2, hD2⟩ : ∃ D2 : Nat → Nat → Prop, (fun i x => if i = m then wr.heap.size ≤ x ∧ x < w2.heap.size else D i x) = D2 := ⟨_, rfl⟩
      have hDg2 : ∀ i x, D2 i x → x ≠ g := by rw [← hD2]; exact hDg
      rw [hD2] at hmd2
      obtain ⟨W3, hW3⟩ : ∃ W3, w2.setCell ⟨g, m * 4 + 3, none⟩ (.slice Au rs.length cu) = W3 := ⟨_, rfl⟩
      rw [hW3] at hrow3 hro
      have R3 := Lib.hid hrow3
      have MD3 := Lib.hid (hmd2.only hro (fun i x hx e => hDg2 i x hx e))
      have HDG := Lib.hid hDg2
      have O3 := Lib.hid ((O2.out.tr ho).trans hro (fun j hj hl => by have hj : j = g := hj; have := HGN.out; omega))
      have hm0 : (0 : Int) ≤ m := by omega
      clear hrow2 hst hu hcur hcu hg hrow3 hcss2 hmd2 hl2 hDg hD2 hDg2 RW MD DR DM BS HLAST H4 HCL hro ho
      go_wp2_with fail
      clear q3 f3 hW3
      go_loopw [65] (fun i W => ∃ (k : Nat) (css : List (List Value)), k ≤ m + 1 ∧ i = .int .i64 (k : Int) ∧ Row W (New w) 29 4 (.slice (some ⟨g, 0, none⟩) (m + 1) c) (m + 1) css.flatten ∧ Made w W id r b (m + 1) (m + 1) k D2 css ∧ Only Noth w W) (fun i _ => m + 1 - (RowKit.intOf i).toNat)
      case atStart => exact ⟨0, css2, Nat.zero_le _, rfl, R3.out, MD3.out, O3.out⟩
      case round =>
        obtain ⟨k, css, hk, rfl, hrow, hmade, ho⟩ := hrel
        have R4 := Lib.hid hrow
        have M4 := Lib.hid hmade
        have O4 := Lib.hid ho
        have hk0 : (0 : Int) ≤ k := by omega
        clear hrow hmade ho R3 MD3 O3
        by_cases hlt : k < m + 1
        · obtain ⟨v, hv, hbv⟩ := M4.out.part k hlt
          rw [if_neg (Nat.lt_irrefl _)] at hv
          have HV := Lib.hid hv
          have hrow4 := R4.out
          rw [← M4.out.len] at hrow4
          obtain ⟨g2, cur, hA, hg, hcur, hcu, hst⟩ := hrow4.cell_at (M4.out.fours (Nat.le_refl _)) HV.out (r := 2) rfl
          injection hA with hA
          injection hA with hA
          subst hA
          have q2 : wr.cell? ⟨g, k * 4 + 2, none⟩ = some (.int .i64 0) := (hcur.cell _).trans hcu
          have f2 := hcur.free (k * 4 + 2)
          have hk1 : (k : Int) < (m : Int) + 1 := by omega
          have hrow5 := hst (wr.setCell ⟨g, k * 4 + 2, none⟩ (.int .i64 ((m + 1 : Nat) : Int))) (.int .i64 ((m + 1 : Nat) : Int)) (hcur.set_ (k * 4 + 2) _)
          have hmd5 := M4.out.count hlt HV.out
          obtain ⟨css5, hcss5⟩ : ∃ css5, css.set k ([.int .i64 id, .int .i64 (k : Int), .int .i64 0, v].set 2 (.int .i64 ((m + 1 : Nat) : Int))) = css5 := ⟨_, rfl⟩
          rw [hcss5] at hrow5 hmd5
          have hl5 : css5.length = m + 1 := hmd5.len
          rw [hl5] at hrow5
          have hro : Only (fun k => k = g) wr (wr.setCell ⟨g, k * 4 + 2, none⟩ (.int .i64 ((m + 1 : Nat) : Int))) := (Only.refl (fun k => k = g) wr).setCell (p := ⟨g, k * 4 + 2, none⟩) (fun _ => rfl) _
          have hcast : ((m + 1 : Nat) : Int) = (m : Int) + 1 := by omega
          have R5 := Lib.hid (show Row (wr.setCell ⟨g, k * 4 + 2, none⟩ (.int .i64 ((m : Int) + 1))) (New w) 29 4 (.slice (some ⟨g, 0, none⟩) (m + 1) c) (m + 1) css5.flatten by rw [← hcast]; exact hrow5)
          have M5 := Lib.hid (show Made w (wr.setCell ⟨g, k * 4 + 2, none⟩ (.int .i64 ((m : Int) + 1))) id r b (m + 1) (m + 1) (k + 1) D2 css5 by rw [← hcast]; exact hmd5.only hro (fun i x hx e => HDG.out i x hx e))
          have O5 := Lib.hid (show Only Noth w (wr.setCell ⟨g, k * 4 + 2, none⟩ (.int .i64 ((m : Int) + 1))) by rw [← hcast]; exact O4.out.trans hro (fun j hj hl => by have hj : j = g := hj; have := HGN.out; omega))
          clear hv hbv hrow4 hg hcur hcu hst hrow5 hmd5 hcss5 hl5 hro hcast
          go_wp2_with fail
          go_roundw
          case rel => exact ⟨k + 1, css5, by omega, by go_num, R5.out, M5.out, O5.out⟩
          case measure => simp [RowKit.intOf]; omega
        · obtain rfl : k = m + 1 := by omega
          have hk2 : ¬ ((m + 1 : Nat) : Int) < (m : Int) + 1 := by omega
          go_wp2
          refine bodyPost_ret (v := .tuple #[.slice (some ⟨g, 0, none⟩) (m + 1) c, .int .i64 0]) (by simp [results, Tryd.results11, go_sem]) rfl ?_
          have hpl : (partsOf id r b).length = m + 1 := by unfold partsOf; simp [HN.out]
          rw [HS.out]
          refine ⟨⟨some ⟨g, 0, none⟩, c, by rw [hpl], fun _ => ?_⟩, O4.out⟩
          obtain ⟨_, A', cap, hv, h1, h2, h3⟩ := R4.out
          injection hv with e1 _ e3
          subst e1 e3
          rcases h3 with h3 | ⟨g2, cur, hA, hF, hg, hc, ht⟩
          · omega
          injection hA with hA
          injection hA with hA
          subst hA
          refine ⟨g, cur, D2, rfl, HGN.out, hg, by rw [hpl]; exact Nat.le_trans (Nat.mul_le_mul_right _ h1) hc, fun i x hx => ⟨(M4.out.new i x hx).1, (M4.out.new i x hx).2, HDG.out i x hx⟩, M4.out.one, fun i p hp => ?_⟩
          have hil : i < m + 1 := by have := (List.getElem?_eq_some_iff.1 hp).1; rwa [hpl] at this
          obtain ⟨v, hv, hbv⟩ := M4.out.part i hil
          rw [if_pos hil] at hv
          have hpe : p = ⟨id, (i : Int), ((m + 1 : Nat) : Int), chunkOf r b i⟩ := by
            unfold partsOf at hp
            rw [List.getElem?_map, List.getElem?_range (by rw [HN.out]; exact hil)] at hp
            injection hp with hp
            rw [← hp, HN.out]
          subst hpe
          have hat : ∀ j u, [Value.int .i64 id, .int .i64 (i : Int), .int .i64 ((m + 1 : Nat) : Int), v][j]? = some u → j < 4 → cur[i * 4 + j]? = some u := fun j u hj h4 => by
            have h5 := flat_atg (M4.out.fours (Nat.le_refl _)) hv h4
            rw [hj, ← ht, List.getElem?_take] at h5
            split at h5
            · simpa using h5
            · cases h5
          exact ⟨v, hat 0 _ rfl (by omega), hat 1 _ rfl (by omega), hat 2 _ rfl (by omega), hat 3 _ rfl (by omega), hbv⟩
end Go.Proofs.YtemeglofblnnmaaDoor
