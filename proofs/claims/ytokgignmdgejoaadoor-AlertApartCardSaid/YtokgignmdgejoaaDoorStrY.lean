/- Rows of bytes: what a call gives that makes bytes; a string appended; what package ben lays. -/
import Derived.Test.YtokgignmdgejoaaDoorMem
import Derived.Test.YtokgignmdgejoaaDoorBen
import Derived.Test.YtokgignmdgejoaaDoorShelf
import Derived.Lib.AppendStr
import Derived.Lib.Hide
import Derived.WalkLawsBesides
import Derived.WalkSpells
namespace Go.Proofs.YtokgignmdgejoaaDoor
open Go.RowKit Go.Lib
set_option linter.unusedVariables false

theorem ret_num {k : IntKind} {a b : Int} (h : a = b) : Ending.returned (.int k a) = .returned (.int k b) := by rw [h]
theorem b8info : (Tryd.prog.info? 5).map (fun i => (i.zero, i.size, i.bytes)) = some (some (.int .u8 0), 1, 1) := by kernel_rfl
theorem cells_length (l : List UInt8) : (byteCells l).length = l.length := by simp [byteCells]
theorem cells_append (l r : List UInt8) : byteCells (l ++ r) = byteCells l ++ byteCells r := by simp [byteCells]
theorem cells_cons (c : UInt8) (r : List UInt8) : byteCells (c :: r) = Value.int .u8 c.toNat :: byteCells r := rfl
theorem cells_one (l : List UInt8) : ∀ u ∈ byteCells l, u.oneCell' = true := by
  intro u hu
  simp only [byteCells, List.mem_map] at hu
  obtain ⟨b, _, rfl⟩ := hu
  rfl
theorem cells_str (s : ByteArray) : strCells s = byteCells s.data.toList := rfl

/-- A call gives the bytes l in memory of its own; nothing that was there has turned. -/
def Given (w : World) (l : List UInt8) (e : Ending) (w' : World) : Prop :=
  ∃ A c, e = .returned (.slice A l.length c) ∧ Row w' (New w) 5 1 (.slice A l.length c) l.length (byteCells l) ∧ Only Noth w w' ∧ l.length ≤ c ∧ c ≤ 9223372036854775807

theorem Given.mk {w w' : World} {A : Option Addr} {c n : Nat} {l : List UInt8} {xs : List Value} (hl : l.length = n) (hx : xs = byteCells l) (hr : Row w' (New w) 5 1 (.slice A n c) n xs) (ho : Only Noth w w') : Given w l (.returned (.slice A n c)) w' := by
  subst hl
  subst hx
  refine ⟨A, c, rfl, hr, ho, ?_⟩
  obtain ⟨_, A', cap, hv, h1, h2, _⟩ := hr
  injection hv with _ _ e
  subst e
  exact ⟨h1, by simpa [maxLen] using h2⟩
theorem Only.of_new {w w' : World} (h : Below w.heap.size w w') : Only Noth w w' := (Only.of_below h).mono fun j hj hl => by omega
theorem Row.of_owns {w : World} {base : Nat} {e : TypeId} {size : Nat} {v : Value} {n : Nat} {xs : List Value} (h : w.ownsRow base e size v n xs) : Row w (fun k => base ≤ k) e size v n xs := by
  obtain ⟨hl, h⟩ := h
  rcases h with ⟨rfl, rfl⟩ | ⟨g, cap, cur, rfl, hb, hg, h1, h2, h3, h4⟩
  · obtain rfl : xs = [] := List.eq_nil_of_length_eq_zero (by simpa using hl)
    exact Row.nil _ _ _ _
  · exact ⟨hl, _, cap, rfl, h1, h2, .inr ⟨g, cur, rfl, hb, hg, by omega, h4⟩⟩
theorem Row.caps {w : World} {F : Nat → Prop} {e : TypeId} {size : Nat} {A : Option Addr} {n c m : Nat} {xs : List Value} (h : Row w F e size (.slice A n c) m xs) : m ≤ c ∧ c ≤ 9223372036854775807 := by
  obtain ⟨_, A', cap, hv, h1, h2, _⟩ := h
  injection hv with _ _ e
  subst e
  exact ⟨h1, by simpa [maxLen] using h2⟩
theorem owns_new (w : World) (t : TypeId) (cs : Array Value) (n : Nat) (hn : cs.size = n) (hm : n ≤ 9223372036854775807) : (w.alloc (.cells cs t)).ownsRow w.heap.size t 1 (.slice (some ⟨w.heap.size, 0, none⟩) n n) n cs.toList :=
  ⟨by simp [hn], .inr ⟨w.heap.size, n, cs, rfl, Nat.le_refl _, heap_alloc_new w _, Nat.le_refl _, by simpa [maxLen] using hm, by simp [hn], List.take_of_length_le (by simp [hn])⟩⟩
theorem srcb_new (w : World) (t : TypeId) (cs : Array Value) (n : Nat) (hn : cs.size = n) (F : Nat → Prop) (hF : F w.heap.size) : Src (w.alloc (.cells cs t)) F 1 (some ⟨w.heap.size, 0, none⟩) n cs.toList := by
  refine ⟨by simp [hn], fun _ => ⟨_, rfl, hF, by simp, fun j u hu => ?_⟩⟩
  rw [add_plain', Nat.zero_add, cell_of_row _ w.heap.size j cs t (0, 0) (heap_alloc_new w _)]
  simpa using hu

theorem srcb_made (W : World) (t : TypeId) (cs : Array Value) (n : Nat) (hn : cs.size = n) (g : Nat) (hg : W.heap.size = g) (F : Nat → Prop) (hF : F g) : Src (W.alloc (.cells cs t)).drew F 1 (some ⟨g, 0, none⟩) n cs.toList := by
  subst hg
  exact (srcb_new W t cs n hn F hF).drew

/-- A table of strconv's is as it was laid, whatever becomes of what stands above the package's variables. -/
def Tab (w : World) : Prop := TabBelow Tryd.prog (1 + 1) w "internal/strconv.uint64pow10" .u64 pow10Tab
theorem Tab.below {w w' : World} (h : Tab w) {B : Nat} (hB : 1 + 1 ≤ B) (hb : Below B w w') : Tab w' := TabBelow.on h (hb.mono hB)
theorem Tab.lt {w : World} (h : Tab w) : 1 < w.heap.size := by
  have h0 := TabBelow.here h
  unfold TabIs World.var? at h0
  rw [show Tryd.prog.globalNamed "internal/strconv.uint64pow10" = some 1 by kernel_rfl] at h0
  simp only [Option.bind_some] at h0
  rcases Nat.lt_or_ge 1 w.heap.size with h' | h'
  · exact h'
  · rw [Array.getElem?_eq_none h'] at h0; simp at h0
theorem Tab.only {w w' : World} (h : Tab w) {F : Nat → Prop} (ho : Only F w w') (hF : ∀ k, F k → 1 < k) : Tab w' :=
  h.below (Nat.le_refl _) (ho.below h.lt (fun k hk => hF k hk))
theorem Tab.noth {w w' : World} (h : Tab w) (ho : Only Noth w w') : Tab w' := h.only ho (fun _ hk => hk.elim)
theorem Tab.on_ {w : World} (h : Tab w) {B : Nat} (hB : 1 < B) : TabBelow Tryd.prog B w "internal/strconv.uint64pow10" .u64 pow10Tab := fun w' hb => TabBelow.on h (hb.mono (show _ ≤ B from hB)) w' (Below.refl _ _)
theorem Tab.drew {w : World} (h : Tab w) : Tab w.drew := h.noth ((Only.refl _ _).drew)
theorem Tab.alloc {w : World} (h : Tab w) (o : Obj) : Tab (w.alloc o) := h.noth ((Only.refl _ _).alloc o)
theorem Tab.of_is {w : World} (h : TabIs Tryd.prog w "internal/strconv.uint64pow10" .u64 pow10Tab) : Tab w := fun w' hb => by
  unfold TabIs World.var? at *
  rw [show Tryd.prog.globalNamed "internal/strconv.uint64pow10" = some 1 by kernel_rfl] at *
  simp only [Option.bind_some] at *
  rw [hb.block _ (Nat.lt_succ_self _)]
  exact h

section
variable {P : Program} (w : World)
theorem run_append_row_str (t u ty e : TypeId) (i : TypeInfo) (z : Value) (ht : P.underlying t = some (.slice e)) (hu : P.underlying u = some .string) (hi : P.info? e = some i) (hz : i.zero = some z)
    (hsize : i.size = 1) (hby : i.bytes = 1) (hzs : z.cells.size = 1)
    (F : Nat → Prop) (v : Value) (n : Nat) (xs : List Value) (hrow : Row w F e 1 v n xs) (hn : 0 < n) (s : ByteArray)
    (hbytes : n + s.size ≤ 140737488355328) :
    ∃ v' w', (Builtin.append_ #[t, u] ty #[v, .string s]).run P w = .ok v' w' ∧ Row w' (Plus F w w') e 1 v' (n + s.size) (xs ++ strCells s) ∧ Only F w w' ∧ w'.heap.size ≤ w.heap.size + 1 := by
  have hlen : (xs ++ strCells s).length = (n + s.size) * 1 := by rw [List.length_append, hrow.1, strCells_length]; omega
  obtain ⟨hl, B, cap, rfl, hc1, hc2, hc3⟩ := hrow
  rcases hc3 with hc3 | ⟨g, cur, rfl, hF, hg, hcs, htake⟩
  · omega
  · by_cases hroom : n + s.size ≤ cap
    · have hr := run_append_room_string (P := P) w t u ty e i ht hu hi hsize g n cap cur hg s hroom (by omega)
      refine ⟨_, _, hr, ⟨hlen, _, _, rfl, hroom, hc2, .inr ⟨g, _, rfl, .inl hF, setRow_heap w g cur _ e _ hg, ?_, ?_⟩⟩, (Only.refl F w).setRow (fun _ => hF) _, by simp [World.setRow]⟩
      · simp only [List.size_toArray, List.length_append, List.length_take, List.length_drop, Array.length_toList, strCells_length]
        omega
      · rw [Nat.mul_one] at htake
        rw [htake, ← hlen]
        exact List.take_left
    · have holds : ∀ j u, xs[j]? = some u → w.cell? ((⟨g, 0, none⟩ : Addr).add j) = some u := by
        intro j u hu
        rw [add_plain', Nat.zero_add, cell_of_row w g j cur e (0, 0) hg]
        rw [← htake, List.getElem?_take] at hu
        split at hu
        · simpa using hu
        · cases hu
      have hr := run_append_grow_string (P := P) w t u ty e i z ht hu hi hz ⟨g, 0, none⟩ n cap xs (by rw [hsize]; exact hl) holds s (by omega) (by omega) (growslice_fits (by omega) (by rw [hby]; omega))
      have hge := grownCap_ge w (n + s.size) cap e
      have hcm : grownCap w (n + s.size) cap e ≤ maxLen := grownCap_le_maxLen w (n + s.size) cap e (by simp only [maxLen]; omega)
      refine ⟨_, _, hr, ?_, ((Only.refl F w).drew).alloc _, by simp⟩
      have hrow : Row (w.drew.alloc (.cells (xs.toArray ++ (strCells s).toArray ++ Builtin.zeroCells z.cells (grownCap w (n + s.size) cap e - (n + s.size))) e)) (fun k => k = w.heap.size) e 1
          (.slice (some ⟨w.heap.size, 0, none⟩) (n + s.size) (grownCap w (n + s.size) cap e)) (n + s.size) (xs ++ strCells s) := by
        refine ⟨hlen, _, _, rfl, hge, hcm, .inr ⟨w.heap.size, _, rfl, rfl, heap_alloc_new w.drew _, ?_, ?_⟩⟩
        · simp only [Array.size_append, List.size_toArray, size_zeroCells, hzs, hl, strCells_length]
          omega
        · simp only [Array.toList_append, List.append_assoc]
          rw [← List.append_assoc, ← hlen]
          exact List.take_left
      exact hrow.mono (fun k hk _ => Or.inr (by subst hk; exact ⟨Nat.le_refl _, by simp⟩))

theorem wpList_append_row_str {ops : Array Oper} {rest : List Oper} {o : Oper} {a : Act} {Q : Exit → Act → World → Prop} (hgd : o.guard = none) (s x : Operand) (t u : TypeId)
    (ho : o.op = .call { callee := .builtin .append, args := #[s, x], argTypes := #[t, u] })
    (e : TypeId) (i : TypeInfo) (z : Value) (ht : P.underlying t = some (.slice e)) (hu : P.underlying u = some .string) (hi : P.info? e = some i) (hz : i.zero = some z)
    (hsize : i.size = 1) (hby : i.bytes = 1) (hzs : z.cells.size = 1)
    (F : Nat → Prop) (v : Value) (n : Nat) (xs : List Value) (hv : a.eval s = v) (hrow : Row w F e 1 v n xs) (hn : 0 < n) (sb : ByteArray) (hx : a.eval x = .string sb)
    (hbytes : n + sb.size ≤ 140737488355328)
    (h : ∀ v' w', Row w' (Plus F w w') e 1 v' (n + sb.size) (xs ++ strCells sb) → Only F w w' → w'.heap.size ≤ w.heap.size + 1 → wpList P ops Q rest (a.put o.dst v') w') : wpList P ops Q (o :: rest) a w :=
  wpList_plain hgd fun K hK => by
    obtain ⟨v', w', hr, h2, h3, h4⟩ := run_append_row_str (P := P) w t u o.type e i z ht hu hi hz hsize hby hzs F v n xs hrow hn sb hbytes
    unfold Oper.wp execOp
    simp only [ho, resolve, invoke, builtin, Sem.run_bind, Sem.run_pure, Result.andThen_ok, List.map_toArray, List.map_cons, List.map_nil, hv, hx, hr]
    exact hK _ _ (h v' w' h2 h3 h4)
end

theorem tInt_length (n : Int) : (tInt n).length = (itoa n).length + 2 := by simp [tInt]
theorem tInt_le (n : Int) (h0 : -9223372036854775808 ≤ n) (h1 : n ≤ 9223372036854775807) : (tInt n).length ≤ 22 := by have := itoa_len20 n h0 h1; rw [tInt_length]; omega

theorem tText_length (s : List UInt8) : (tText s).length = (itoa s.length).length + 1 + s.length := by simp [tText]; omega
set_option maxRecDepth 100000 in
/-- ben.Text lays a text. -/
theorem ben_text (s : ByteArray) (hs : s.size ≤ 140737488355300) (w : World) (ht : Tab w) :
    Calls Tryd.prog 48 #[.string s] w (Given w (tText s.data.toList)) := by
  have hG := ht.lt
  have HT := Lib.hid ht
  clear ht
  have hlen := itoa_len20 (s.size : Int) (by omega) (by omega)
  have HS := Lib.hid hs
  have hi64 : (s.size : Int) ≤ 9223372036854775807 := by omega
  clear hs
  obtain ⟨i0, hi, hz0, hz1, hz2⟩ := info_parts b8info
  go_enter Tryd.func48, Tryd.ntmps48
  go_wp2_with fail
  refine (Tryd.strconv_AppendInt_10 w.heap.size 0 (s.size : Int) (by omega) hi64 _ [] _ ⟨rfl, .inl ⟨rfl, rfl⟩⟩ (by simp) (by omega) (HT.out.on_ hG)).mono ?_
  rintro e w1 ⟨v1, rfl, hr1, hb1, _⟩
  rw [Nat.zero_add, List.nil_append] at hr1
  have HB := Lib.hid hb1
  have HR := Lib.hid (Row.of_owns hr1)
  have hz : w.heap.size ≤ w1.heap.size := hb1.size
  clear hr1 hb1
  go_wp2_with (first | (at_builtin; refine wpList_append_row _ rfl (.tmp 5) (.tmp 6) 75 rfl 5 i0 (.int .u8 0) 1 1 Tryd.underlying75 hi hz0 hz1 hz2 rfl (New w) (New w) _ _ _ rfl (HR.out.alloc _) _ 1 1 [.int .u8 58] rfl (srcb_new w1 5 #[.int .u8 58] 1 rfl (New w) (show w.heap.size ≤ w1.heap.size by omega)) (by intro u hu; simp at hu; subst hu; rfl) (by simp only [maxLen]; omega) (by omega) ?_; intro v' w2 hrow honly hsz; obtain ⟨A', c', hv'⟩ := hrow.shape; subst hv'; have HR2 := Lib.hid (hrow.mono (G := New w) (fun k hk _ => by rcases hk with hk | hk; exact hk; simp at hk; show w.heap.size ≤ k; omega)); have HO := Lib.hid honly; clear hrow honly hsz) | (at_builtin; refine wpList_append_row_str _ rfl (.tmp 7) (.tmp 8) 75 9 rfl 5 i0 (.int .u8 0) Tryd.underlying75 Tryd.underlying9 hi hz0 hz1 hz2 rfl (New w) _ _ _ rfl HR2.out (by omega) s rfl (by have := HS.out; omega) ?_; intro v3 w3 hrow3 honly3 hsz3; obtain ⟨A3, c3, hv3⟩ := hrow3.shape; subst hv3; have HR3 := Lib.hid hrow3; have HO3 := Lib.hid honly3; clear hrow3 honly3 hsz3))
  go_ret
  have ho := HO.out
  have ho3 := HO3.out
  have hw : Only Noth w w3 := Only.of_new (HB.out.trans ((((Only.refl (New w) w1).alloc (.cells #[.int .u8 58] 5)).trans ho (fun _ h _ => h)).trans ho3 (fun _ h _ => h) |>.below (by omega) (fun _ h => h)))
  have hz2 := ho.size
  simp at hz2
  have es : s.data.toList.length = s.size := rfl
  exact Given.mk (by rw [tText_length, es]) (by rw [cells_str]; simp [tText, byteCells]) (HR3.out.mono (fun k hk _ => by rcases hk with hk | hk; exact hk; show w.heap.size ≤ k; omega)) hw

/-- A part: its bytes can be read. -/
def Part (w : World) (v : Value) (l : List UInt8) : Prop := ∃ A c, v = .slice A l.length c ∧ Src w (fun k => k < w.heap.size) 1 A l.length (byteCells l) ∧ l.length ≤ c ∧ c ≤ 9223372036854775807
/-- Parts, by place. -/
def Parts (w : World) (vs : List Value) (ls : List (List UInt8)) : Prop := vs.length = ls.length ∧ ∀ (i : Nat) l, ls[i]? = some l → ∃ v, vs[i]? = some v ∧ Part w v l
theorem Part.of_src {w : World} {S : Nat → Prop} {A : Option Addr} {c : Nat} {l : List UInt8} (h : Src w S 1 A l.length (byteCells l)) (h1 : l.length ≤ c) (h2 : c ≤ 9223372036854775807) : Part w (.slice A l.length c) l := ⟨A, c, rfl, h.mono (fun _ _ h => h), h1, h2⟩
theorem Part.only {w w' : World} {v : Value} {l : List UInt8} (h : Part w v l) {F : Nat → Prop} (ho : Only F w w') (hF : ∀ k, F k → w.heap.size ≤ k) : Part w' v l := by
  obtain ⟨A, c, e, hs, h1, h2⟩ := h
  exact ⟨A, c, e, (hs.only ho (fun k hk hf => by have := hF k hf; omega)).mono (fun _ _ h => h), h1, h2⟩
theorem Part.noth {w w' : World} {v : Value} {l : List UInt8} (h : Part w v l) (ho : Only Noth w w') : Part w' v l := h.only ho (fun _ h => h.elim)
theorem Given.part {w w' : World} {l : List UInt8} {e : Ending} (h : Given w l e w') : ∃ A c, e = .returned (.slice A l.length c) ∧ Part w' (.slice A l.length c) l ∧ Only Noth w w' := by
  obtain ⟨A, c, rfl, hr, ho, h1, h2⟩ := h
  exact ⟨A, c, rfl, Part.of_src hr.src h1 h2, ho⟩

theorem Parts.nil (w : World) : Parts w [] [] := ⟨rfl, fun i l h => by simp at h⟩
theorem Parts.noth {w w' : World} {vs : List Value} {ls : List (List UInt8)} (h : Parts w vs ls) (ho : Only Noth w w') : Parts w' vs ls :=
  ⟨h.1, fun i l hl => by obtain ⟨v, hv, hp⟩ := h.2 i l hl; exact ⟨v, hv, hp.noth ho⟩⟩
theorem Parts.snoc {w : World} {vs : List Value} {ls : List (List UInt8)} {v : Value} {l : List UInt8} (h : Parts w vs ls) (hp : Part w v l) : Parts w (vs ++ [v]) (ls ++ [l]) := by
  refine ⟨by simp [h.1], fun i l' hl => ?_⟩
  rw [List.getElem?_append] at hl
  rw [List.getElem?_append, h.1]
  split at hl
  · rename_i hi
    rw [if_pos hi]
    exact h.2 i l' hl
  · rename_i hi
    rw [if_neg hi]
    cases hk : i - ls.length with
    | zero => rw [hk] at hl; simp at hl; subst hl; exact ⟨v, by simp, hp⟩
    | succ k => rw [hk] at hl; simp at hl

/-- The loop of List: what has been laid behind k parts. -/
def Laid (w : World) (ls : List (List UInt8)) (v i : Value) (wr : World) : Prop :=
  ∃ (k : Nat) (A : Option Addr) (n c : Nat), k ≤ ls.length ∧ i = .int .i64 k ∧ v = .slice A n c ∧ n = ((ls.take k).flatten).length + 1 ∧ n ≤ c ∧ c ≤ 9223372036854775807 ∧
    Row wr (New w) 5 1 (.slice A n c) n (byteCells (108 :: (ls.take k).flatten)) ∧ Only Noth w wr
theorem flat_take_le (ls : List (List UInt8)) (k : Nat) : ((ls.take k).flatten).length ≤ (ls.flatten).length := by
  conv => rhs; rw [← List.take_append_drop k ls, List.flatten_append, List.length_append]
  omega
theorem flat_take_succ {ls : List (List UInt8)} {k : Nat} {l : List UInt8} (h : ls[k]? = some l) : (ls.take (k + 1)).flatten = (ls.take k).flatten ++ l := by
  rw [List.take_add_one, h]
  simp

set_option maxRecDepth 100000 in
theorem ben_list (A0 : Option Addr) (c : Nat) (vs : List Value) (ls : List (List UInt8)) (w : World) (hs : Src w (fun k => k < w.heap.size) 1 A0 ls.length vs) (hp : Parts w vs ls) (hc0 : ls.length ≤ c) (hc1 : c ≤ 9223372036854775807)
    (hbytes : ls.flatten.length + 2 ≤ 140737488355328) :
    Calls Tryd.prog 49 #[.slice A0 ls.length c] w (Given w (tList ls)) := by
  have HS := Lib.hid hs
  have HP := Lib.hid hp
  have HB := Lib.hid hbytes
  have hlen : ls.length ≤ 9223372036854775807 := by omega
  clear hs hp hbytes
  obtain ⟨i0, hi, hz0, hz1, hz2⟩ := info_parts b8info
  go_enter Tryd.func49, Tryd.ntmps49
  go_wp2_with fail
  go_loopw [3, 9] (fun v i wr => Laid w ls v i wr) (fun _ i _ => ls.length - (RowKit.intOf i).toNat)
  case atStart =>
    refine ⟨0, _, 1, 1, Nat.zero_le _, rfl, rfl, rfl, Nat.le_refl _, by omega, ?_, (Only.refl _ _).alloc _⟩
    exact (Row.of_owns (owns_new w 5 #[.int .u8 108] 1 rfl (by omega))).mono (fun k hk _ => hk)
  case round =>
    obtain ⟨k, A, n, cc, hk, rfl, rfl, hn, hnc, hcm, hrow, hon⟩ := hrel
    have HN := Lib.hid hn
    have HR := Lib.hid hrow
    have HO := Lib.hid hon
    have hwz : w.heap.size ≤ wr.heap.size := hon.size
    clear hn hrow hon
    by_cases hlt : k < ls.length
    · obtain ⟨l, hl⟩ : ∃ l, ls[k]? = some l := ⟨_, List.getElem?_eq_getElem hlt⟩
      obtain ⟨v, hv, Ap, cp, rfl, hps, hp1, hp2⟩ := HP.out.2 k l hl
      obtain ⟨ad, rfl, _, hlt', hc⟩ := HS.out.2 (by omega)
      have hcell : wr.cell? (ad.add k) = some (.slice Ap l.length cp) := by
        exact (HO.out.cell (p := ad.add k) (by rw [block_add]; exact hlt') (fun h => h)).trans (hc k _ hv)
      have HPS := Lib.hid ((hps.only HO.out (fun _ _ h => h)).mono (G := fun k => k < w.heap.size) (fun _ h _ => h))
      have HL := Lib.hid hl
      have hfl : n + l.length ≤ 140737488355327 := by
        have h1 := flat_take_succ HL.out
        have h2 := flat_take_le ls (k + 1)
        have h3 := HN.out
        have h4 := HB.out
        rw [h1, List.length_append] at h2
        omega
      clear hps hl hv hc
      go_wp2_with (at_builtin; refine wpList_append_row _ rfl (.tmp 13) (.tmp 14) 75 rfl 5 i0 (.int .u8 0) 1 1 Tryd.underlying75 hi hz0 hz1 hz2 rfl (New w) (fun k => k < w.heap.size) _ _ _ rfl HR.out Ap l.length cp (byteCells l) rfl HPS.out (cells_one l) (by simp only [maxLen]; omega) (by omega) ?_; intro v' w2 hrow honly hsz; obtain ⟨A', c', hv'⟩ := hrow.shape; subst hv'; have HR2 := Lib.hid hrow; have HO2 := Lib.hid honly; clear hrow honly hsz)
      refine ⟨⟨k + 1, A', n + l.length, c', by omega, by go_num, rfl, ?_, HR2.out.caps.1, HR2.out.caps.2, ?_, ?_⟩, by simp [RowKit.intOf]; omega⟩
      · rw [flat_take_succ HL.out, List.length_append]
        have := HN.out
        omega
      · have h := HR2.out
        rw [← cells_append] at h
        rw [flat_take_succ HL.out]
        refine Row.mono (F := Plus (New w) wr w2) h (fun j hj _ => ?_)
        rcases hj with hj | hj
        · exact hj
        · show w.heap.size ≤ j; omega
      · exact HO.out.trans HO2.out (fun j hj hl => by have : w.heap.size ≤ j := hj; omega)
    · obtain rfl : k = ls.length := by omega
      have hfl : n + 1 ≤ 140737488355328 := by
        have h1 := flat_take_le ls ls.length
        have h3 := HN.out
        have h4 := HB.out
        omega
      go_wp2_with (at_builtin; refine wpList_append_row _ rfl (.tmp 17) (.tmp 18) 75 rfl 5 i0 (.int .u8 0) 1 1 Tryd.underlying75 hi hz0 hz1 hz2 rfl (New w) (New w) _ _ _ rfl (HR.out.alloc _) _ 1 1 [.int .u8 101] rfl (srcb_new wr 5 #[.int .u8 101] 1 rfl (New w) (show w.heap.size ≤ wr.heap.size by omega)) (by intro u hu; simp at hu; subst hu; rfl) (by simp only [maxLen]; omega) (by omega) ?_; intro v' w2 hrow honly hsz; obtain ⟨A', c', hv'⟩ := hrow.shape; subst hv'; have HR2 := Lib.hid hrow; have HO2 := Lib.hid honly; clear hrow honly hsz)
      go_ret
      have hn := HN.out
      rw [List.take_of_length_le (Nat.le_refl _)] at hn
      refine Given.mk (by rw [hn]; simp [tList]) ?_ (HR2.out.mono (fun k hk _ => by rcases hk with hk | hk; exact hk; simp at hk; show w.heap.size ≤ k; omega)) ?_
      · rw [List.take_of_length_le (Nat.le_refl _)]; simp [tList, byteCells]
      · exact (HO.out.alloc _).trans HO2.out (fun j hj hl => by have : w.heap.size ≤ j := hj; omega)
end Go.Proofs.YtokgignmdgejoaaDoor
