/- The walks of ChunkOpen and ChunkJoins. -/
import Derived.Test.YtemeglofblnnmaaRjG
namespace Go.Proofs.Ytemeglofblnnmaa
open Go.RowKit Go.Lib
set_option linter.unusedVariables false
set_option linter.unusedSimpArgs false
set_option maxRecDepth 100000
attribute [local go_sem ↓] Go.wp_at_zero Go.wp_at_succ

/-- Both joiners, the reference's in its variable's block b; at most k texts were opened. -/
structure RunAt (N : Nat) (W : World) (g b : Nat) (u : Value) (J : Jn) (k : Nat) : Prop where
  ex : ∃ R S Sr, PJ N R S Sr W g (.agg #[u, .int .i64 J.lost]) J ∧ ∀ j, R j ∨ S j ∨ Sr j → j ≠ b
  bx : Hld W b 48 #[u, .int .i64 J.lost]
  bl : N ≤ b ∧ b ≠ g
  sum : J.T.length + J.lost ≤ k
theorem RunAt.noth {N : Nat} {W W' : World} {g b : Nat} {u : Value} {J : Jn} {k : Nat} (h : RunAt N W g b u J k) (ho : Only Noth W W') : RunAt N W' g b u J k := by
  obtain ⟨R, S, Sr, hp, hs⟩ := h.ex
  exact ⟨⟨R, S, Sr, hp.noth ho, hs⟩, h.bx.only ho (fun h => h), h.bl, h.sum⟩
theorem RunAt.shape {N : Nat} {W : World} {g b : Nat} {u : Value} {J : Jn} {k : Nat} (h : RunAt N W g b u J k) : ∃ A c, u = .slice A J.T.length c := by
  obtain ⟨R, S, Sr, hp, _⟩ := h.ex
  obtain ⟨u', he, hT⟩ := hp.r
  have : u = u' := by simpa using he
  rw [this]
  exact hT.shape
theorem RunAt.ok {N : Nat} {W : World} {g b : Nat} {u : Value} {J : Jn} {k : Nat} (h : RunAt N W g b u J k) : J.Ok := by
  obtain ⟨R, S, Sr, hp, _⟩ := h.ex
  exact hp.j.2.1
theorem RunAt.open {N : Nat} {W : World} {g b : Nat} {u : Value} {J : Jn} {k : Nat} (h : RunAt N W g b u J k) : Calls Try.prog 14 #[.pointer (some ⟨g, 0, none⟩)] W fun e w' => e = .returned (.int .i64 J.T.length) ∧ Only Noth W w' := by
  obtain ⟨R, S, Sr, hp, _⟩ := h.ex
  exact open_run R S g J W hp.j
theorem RunAt.lost_ {N : Nat} {W : World} {g b : Nat} {u : Value} {J : Jn} {k : Nat} (h : RunAt N W g b u J k) : Calls Try.prog 15 #[.pointer (some ⟨g, 0, none⟩)] W fun e w' => e = .returned (.int .i64 J.lost) ∧ Only Noth W w' := by
  obtain ⟨R, S, Sr, hp, _⟩ := h.ex
  exact lost_run R S g J W hp.j
theorem RunAt.same {N : Nat} {W : World} {g b : Nat} {u : Value} {J : Jn} {k : Nat} (h : RunAt N W g b u J k) (frm id : Int) : Calls Try.prog 18 #[.pointer (some ⟨g, 0, none⟩), .agg #[u, .int .i64 J.lost], .int .u16 frm, .int .i64 id] W fun e w' => e = .returned (.bool true) ∧ Only Noth W w' := by
  obtain ⟨R, S, Sr, hp, _⟩ := h.ex
  exact same_at N R S Sr W g _ J frm id hp
/-- What add hands back. -/
def AddedTo (N g b : Nat) (J' : Jn) (v : Value) (w' : World) : Prop := ∃ u', v = .tuple #[.agg #[u', .int .i64 J'.lost], .bool true] ∧ ∃ R S Sr, PJ N R S Sr w' g (.agg #[u', .int .i64 J'.lost]) J' ∧ ∀ j, R j ∨ S j ∨ Sr j → j ≠ b
/-- What add may turn. -/
def Turned (N b : Nat) : Nat → Prop := fun j => N ≤ j ∧ j ≠ b
theorem RunAt.add {N : Nat} {W w1 : World} {g b : Nat} {u : Value} {J : Jn} {k : Nat} {Sa : Nat → Prop} (h : RunAt N W g b u J k) (ho : Only Noth W w1) (hk : k ≤ 1000) (x : Ak) (hb : BsAt W Sa x.v x.p.bs) (hf : 0 ≤ x.frm) (hbl : x.p.bs.length ≤ 20000) (hSa : ∀ k, Sa k → k < N) :
    Calls Try.prog 17 #[.pointer (some ⟨g, 0, none⟩), .agg #[u, .int .i64 J.lost], .agg #[.int .u16 x.frm, .int .i64 x.p.id, .int .i64 x.p.idx, .int .i64 x.p.cnt, x.v]] w1 fun e w' => ∃ v, e = .returned v ∧ AddedTo N g b (jadd J x.frm x.p).1 v w' ∧ Only (Turned N b) w1 w' := by
  obtain ⟨R, S, Sr, hp, hs⟩ := h.ex
  have hs0 := h.sum
  have hbw : b < W.heap.size := h.bx.lt
  refine (add_at N R S Sr Sa w1 g _ J x.frm x.p x.v (hp.noth ho) (by omega) hf (hb.noth ho) hbl hSa).mono ?_
  rintro e w' ⟨v', rfl, ⟨R', S', Sr', hp', hR, hS, hSr⟩, hon⟩
  obtain ⟨u', hv, hT⟩ := hp'.r
  subst hv
  refine ⟨_, rfl, ⟨u', rfl, R', S', Sr', hp', fun j hj => ?_⟩, hon.mono (fun j hj _ => ?_)⟩
  · have hz := ho.size
    rcases hj with hj | hj | hj
    · rcases hR j hj with h1 | h1
      · exact hs j (.inl h1)
      · omega
    · rcases hS j hj with h1 | h1
      · exact hs j (.inr (.inl h1))
      · omega
    · rcases hSr j hj with h1 | h1
      · exact hs j (.inr (.inr h1))
      · omega
  · rcases hj with hj | hj
    · subst hj
      exact ⟨hp.gl.1, fun e => h.bl.2 e.symm⟩
    · exact ⟨(hp.rl j hj).1, hs j (.inl hj)⟩
theorem RunAt.next {N : Nat} {W w2 w3 w4 w5 : World} {g b : Nat} {u u' : Value} {J J' : Jn} {k : Nat} (h : RunAt N W g b u J k) (hx : ∃ R S Sr, PJ N R S Sr w2 g (.agg #[u', .int .i64 J'.lost]) J' ∧ ∀ j, R j ∨ S j ∨ Sr j → j ≠ b) (hs : J'.T.length + J'.lost ≤ J.T.length + J.lost + 1)
    (h3 : Only Noth w2 w3) (h4 : Only (fun k => k = b) w3 w4) (hb : Hld w4 b 48 #[u', .int .i64 J'.lost]) (h5 : Only Noth w4 w5) : RunAt N w5 g b u' J' (k + 1) := by
  obtain ⟨R, S, Sr, hp, hd⟩ := hx
  refine ⟨⟨R, S, Sr, ((hp.noth h3).only h4 (fun e => h.bl.2 e.symm) (fun j hj => hd j (.inl hj)) (fun j hj => hd j (.inr (.inl hj))) (fun j hj => hd j (.inr (.inr hj)))).noth h5, hd⟩, hb.only h5 (fun h => h), h.bl, by have := h.sum; omega⟩
section
variable {P : Program} {ops : Array Oper} {o : Oper} {a : Act} {w0 : World} {F S : Nat → Prop}
theorem sure_ak {x : Ak} {b i : Nat} {v : Value} (h : AkAt w0 S b i x) (hv : x.v = v) (hSF : ∀ k, S k → ¬ F k) (hw : Region.wanted o (yielded ops a.tmps) = true)
    (he : ∀ w, w.cell? ⟨b, i, none⟩ = some (.int .u16 x.frm) → w.cell? ⟨b, i + 1, none⟩ = some (.int .i64 x.p.id) → w.cell? ⟨b, i + 2, none⟩ = some (.int .i64 x.p.idx) → w.cell? ⟨b, i + 3, none⟩ = some (.int .i64 x.p.cnt) → w.cell? ⟨b, i + 4, none⟩ = some v → (execOp a.eval o).run P w = .ok (.value (.agg #[.int .u16 x.frm, .int .i64 x.p.id, .int .i64 x.p.idx, .int .i64 x.p.cnt, v])) w) :
    Sure P ops (Only Noth) (Only F w0) o (.agg #[.int .u16 x.frm, .int .i64 x.p.id, .int .i64 x.p.idx, .int .i64 x.p.cnt, v]) a := by
  subst hv
  exact sure_value hw (fun w1 k1 => by have h1 := h.only k1 hSF; exact he w1 h1.c0 h1.c1 h1.c2 h1.c3 h1.c4)
end
theorem AkAt.drew {w : World} {S : Nat → Prop} {b i : Nat} {x : Ak} (h : AkAt w S b i x) : AkAt w.drew S b i x := h.only ((Only.refl Noth w).drew) (fun _ _ h => h)
/-- Both joiners, just made. -/
theorem run_start {w w1 w2 : World} (hj : JoinAt Noth Noth w1 w.heap.size ⟨[], 0⟩) (h1 : w.heap.size < w1.heap.size) (h2 : Only Noth w1 w2) (hb : Hld w2 w1.heap.size 48 #[.slice none 0 0, .int .i64 0]) : RunAt w.heap.size w2 w.heap.size w1.heap.size (.slice none 0 0) ⟨[], 0⟩ 0 := by
  refine ⟨⟨Noth, Noth, Noth, ⟨(hj.only h2 (fun h => h) (fun _ _ h => h) (fun _ _ h => h)), ⟨_, rfl, none, 0, [], rfl, Cs.nil _ _ _, ⟨rfl, fun i t ht => by cases ht⟩, Nat.le_refl _, Nat.zero_le _⟩, ⟨Nat.le_refl _, Nat.lt_of_lt_of_le h1 h2.size⟩, fun _ h => h.elim, fun _ h => h.elim, fun _ h => h.elim, fun _ h => h.elim⟩, fun j hj => by rcases hj with h | h | h <;> exact h.elim⟩, hb, ⟨by omega, by omega⟩, by simp⟩
set_option maxHeartbeats 16000000 in
theorem open_walk (A : Option Addr) (n c : Nat) (xs : List Ak) (w : World) (S : Nat → Prop) (hn : n ≤ 9223372036854775807) (hx : AksAt w S A xs) (hl : xs.length = n) (hS : ∀ j, S j → j < w.heap.size) :
    Calls Try.prog 5 #[.slice A n c] w fun e w' => e = .returned (.bool true) ∧ Below w.heap.size w w' := by
  cases hf : fewB xs with
  | false =>
    have HN := Lib.hid (few_no A n c xs w S hx hl hn hf)
    clear hx hl hS hf
    go_enter Try.func5, Try.ntmps5
    go_wp2_with (first | (go_at_call 16; refine HN.out.mono ?_; rintro e w' ⟨rfl, rfl⟩) | (go_at_call 8; refine (awake_run _).mono ?_; rintro e w' ⟨rfl, ho⟩))
    go_ret
    exact ⟨rfl, ho.below (Nat.le_refl _) (fun _ h => h.elim)⟩
  | true =>
    obtain ⟨hfy, hn120, hsum⟩ := few_yes A n c xs w S hx hl hf
    have HN := Lib.hid hfy
    have HX := Lib.hid hx
    have HL := Lib.hid hl
    have HS := Lib.hid hS
    have HSUM := Lib.hid hsum
    have hn0 : (0 : Int) ≤ n := by omega
    clear hx hl hS hf hfy hsum
    go_enter Try.func5, Try.ntmps5
    go_wp2_with (first | (go_at_call 16; refine HN.out.mono ?_; rintro e w' ⟨rfl, rfl⟩) | (go_at_call 12; refine (new_run _).mono ?_; rintro e w1 ⟨rfl, hj, hlt, ho⟩; have HJ := Lib.hid hj; have HLT := Lib.hid hlt; have O1 := Lib.hid ho; clear hj hlt ho) | (refine wpList_store_whole rfl rfl 48 (.tmp 4) (.tmp 11) rfl w1.heap.size rfl _ rfl 48 _ (Hld.new w1 _ _) rfl (by simp [Value.oneCell']) (by kernel_rfl) ?_; intro w2 gb ho2 hz2; have RN0 := Lib.hid (run_start HJ.out HLT.out (((Only.refl Noth w1).alloc _).trans ho2 (fun j hj hl => by have hj : j = w1.heap.size := hj; omega)) gb); have O2 := Lib.hid (show Only Noth w w2 from O1.out.tr (((Only.refl Noth w1).alloc _).trans ho2 (fun j hj hl => by have hj : j = w1.heap.size := hj; omega))); clear gb ho2 hz2))
    obtain ⟨N, hN⟩ : ∃ N, w.heap.size = N := ⟨_, rfl⟩
    obtain ⟨b, hb⟩ : ∃ b, w1.heap.size = b := ⟨_, rfl⟩
    have HNN := Lib.hid hN
    rw [hN, hb] at RN0
    rw [hN] at HS
    simp only [hN, hb]
    clear hN hb HJ HLT O1
    go_wp2_with fail
    go_loopw [5] (fun i W => ∃ (k : Nat) (u : Value) (J : Jn), k ≤ n ∧ i = .int .i64 (k : Int) ∧ RunAt N W N b u J k ∧ Only (fun j => N ≤ j) w2 W) (fun i _ => n - (RowKit.intOf i).toNat)
    case atStart => exact ⟨0, _, _, Nat.zero_le _, rfl, RN0.out, Only.refl _ _⟩
    case round =>
      obtain ⟨k, u, J, hk, rfl, hrn, ho⟩ := hrel
      have RN := Lib.hid hrn
      have OK := Lib.hid ho
      have hk0 : (0 : Int) ≤ k := by omega
      clear hrn ho
      by_cases hkn : k < n
      · have hk1 : (k : Int) < n := by omega
        obtain ⟨x, hx⟩ : ∃ x, xs[k]? = some x := ⟨_, List.getElem?_eq_getElem (by rw [HL.out]; exact hkn)⟩
        obtain ⟨ab, ao, hA, hat⟩ := ((HX.out.only O2.out (fun _ _ h => h)).only OK.out (fun j hj h => by have := HS.out j hj; omega)) (by rw [HL.out]; omega)
        have HAK := Lib.hid (hat k x hx)
        have HF0 := Lib.hid (hat k x hx).f0
        have HBS := Lib.hid (hat k x hx).bs
        have HSM := Lib.hid (ak_small HSUM.out hx)
        obtain ⟨C, cc, hv, _⟩ := (hat k x hx).bs
        have HXV := Lib.hid hv
        subst hA
        clear hx hat hv
        go_wp2_with fail
        refine wp_region_G (Turned N b) (fun j => N ≤ j) 10 (by kernel_rfl) ?_
        refine wpG_take (i := 0) (d := some 19) rfl rfl (by kernel_rfl) (by kernel_rfl) (by kernel_rfl) (fun _ _ _ h => h) (sure_value (v := .pointer (some ⟨N, 0, none⟩)) (by rfl) (fun v1 h1 => by first | rfl | (go_simp; done) | (go_simp; intro h9; exact absurd h9 (by omega)) | (go_simp; assumption))) (Only.refl _ _) ?_
        simp only [Act.put, List.setIfInBounds_toArray, List.set_cons_zero, List.set_cons_succ]
        refine wpG_take (i := 1) (d := some 20) rfl rfl (by kernel_rfl) (by kernel_rfl) (by kernel_rfl) (fun _ _ _ h => h) (sure_pair RN.out.bx.drew (fun h => h.2 rfl) (by rfl) (fun _ h h2 => by go_simp)) (Only.refl _ _) ?_
        simp only [Act.put, List.setIfInBounds_toArray, List.set_cons_zero, List.set_cons_succ]
        refine wpG_take (i := 2) (d := some 21) rfl rfl (by kernel_rfl) (by kernel_rfl) (by kernel_rfl) (fun _ _ _ h => h) (sure_value (v := .slice (some ⟨ab, ao, none⟩) n c) (by rfl) (fun v1 h1 => by first | rfl | (go_simp; done) | (go_simp; intro h9; exact absurd h9 (by omega)) | (go_simp; assumption))) (Only.refl _ _) ?_
        simp only [Act.put, List.setIfInBounds_toArray, List.set_cons_zero, List.set_cons_succ]
        refine wpG_take (i := 3) (d := some 22) rfl rfl (by kernel_rfl) (by kernel_rfl) (by kernel_rfl) (fun _ _ _ h => h) (sure_value (v := .int .i64 (k : Int)) (by rfl) (fun v1 h1 => by first | rfl | (go_simp; done) | (go_simp; intro h9; exact absurd h9 (by omega)) | (go_simp; assumption))) (Only.refl _ _) ?_
        simp only [Act.put, List.setIfInBounds_toArray, List.set_cons_zero, List.set_cons_succ]
        refine wpG_take (i := 4) (d := some 23) rfl rfl (by kernel_rfl) (by kernel_rfl) (by kernel_rfl) (fun _ _ _ h => h) (sure_value (v := .pointer (some ⟨ab, ao + k * 5, none⟩)) (by rfl) (fun v1 h1 => by first | rfl | (go_simp; done) | (go_simp; intro h9; exact absurd h9 (by omega)) | (go_simp; assumption))) (Only.refl _ _) ?_
        simp only [Act.put, List.setIfInBounds_toArray, List.set_cons_zero, List.set_cons_succ]
        refine wpG_take (i := 5) (d := some 24) rfl rfl (by kernel_rfl) (by kernel_rfl) (by kernel_rfl) (fun _ _ _ h => h) (sure_ak HAK.out.drew HXV.out (fun j hj h => by have h1 := HS.out j hj; have h2 := h.1; omega) (by rfl) (fun _ h h2 h3 h4 h5 => by go_simp)) (Only.refl _ _) ?_
        simp only [Act.put, List.setIfInBounds_toArray, List.set_cons_zero, List.set_cons_succ]
        refine wpG_call (i := 6) (d := some 25) (fun v w1 w' => AddedTo N N b (jadd J x.frm x.p).1 v w') (fun w3 h3 => ((RN.out.noth ((Only.refl Noth wr).drew)).add h3 (by omega) x (HBS.out.noth ((Only.refl Noth wr).drew)) HF0.out HSM.out HS.out).mono (fun e w' h => by obtain ⟨v, e1, e2, e3⟩ := h; exact ⟨v, e1, e2, (h3.mono (fun _ h _ => h.elim)).trans e3 (fun _ h _ => h)⟩)) (by kernel_rfl) rfl rfl (by rfl) (fun _ => by go_simp; rw [HXV.out]) ?_
        rintro v w3 w4 h3 ⟨u', rfl, hadd⟩ h4
        simp only [Act.put, List.setIfInBounds_toArray, List.set_cons_zero, List.set_cons_succ]
        have HADD := Lib.hid hadd
        clear hadd
        refine wpG_take (i := 7) (d := some 18) rfl rfl (by kernel_rfl) (by kernel_rfl) (by kernel_rfl) (fun _ _ _ h => h) (sure_value (v := .tuple #[.agg #[u', .int .i64 (jadd J x.frm x.p).1.lost], .bool true]) (by rfl) (fun v1 h1 => by first | rfl | (go_simp; done) | (go_simp; intro h9; exact absurd h9 (by omega)) | (go_simp; assumption))) h4 ?_
        simp only [Act.put, List.setIfInBounds_toArray, List.set_cons_zero, List.set_cons_succ]
        refine wpG_take (i := 8) (d := some 26) rfl rfl (by kernel_rfl) (by kernel_rfl) (by kernel_rfl) (fun _ _ _ h => h) (sure_value (v := .agg #[u', .int .i64 (jadd J x.frm x.p).1.lost]) (by rfl) (fun v1 h1 => by first | rfl | (go_simp; done) | (go_simp; intro h9; exact absurd h9 (by omega)) | (go_simp; assumption))) h4 ?_
        simp only [Act.put, List.setIfInBounds_toArray, List.set_cons_zero, List.set_cons_succ]
        refine wpG_free (i := 9) (v := .bool true) (d := some 27) rfl rfl (by kernel_rfl) (by kernel_rfl) (by kernel_rfl) (fun _ _ _ h => h) (.inl ⟨by rfl, fun w hS b K Q he hk => by unfold Oper.wp; rw [he]; exact hk w (Only.refl _ w) hS⟩) h4 ?_
        simp only [Act.put, List.setIfInBounds_toArray, List.set_cons_zero, List.set_cons_succ]
        refine wpG_store (i := 10) (g := b) (cs' := #[u', .int .i64 (jadd J x.frm x.p).1.lost]) (by kernel_rfl) rfl (by rfl) rfl rfl rfl rfl ((RN.out.bx.drew).only h4 (fun h => h.2 rfl)) (fun _ => RN.out.bl.1) rfl (by intro z hz; simp at hz; rcases hz with rfl | rfl; obtain ⟨R, S', Sr, hp, _⟩ := HADD.out; obtain ⟨u2, e2, hT2⟩ := hp.r; obtain ⟨A2, c2, rfl⟩ := hT2.shape; (have e3 : z = _ := (by simpa using e2)); rw [e3]; rfl; rfl) (by kernel_rfl) h4 (fun _ h => h.1) ?_
        intro w5 w6 h5 hb6 h6 h36
        refine wpN_done (by kernel_rfl) (fun w7 ho7 => ?_) _
        have RN2 := Lib.hid (RN.out.next HADD.out (jadd_sum J x.frm x.p) h5 h6 hb6 ho7)
        have OW2 := Lib.hid (show Only (fun j => N ≤ j) wr w7 from Only.undrew (only_up _ _ _ h36 ho7))
        obtain ⟨J2, hJ2⟩ : ∃ J2, (jadd J x.frm x.p).1 = J2 := ⟨_, rfl⟩
        rw [hJ2] at RN2
        simp only [hJ2]
        clear h3 h4 h5 hb6 h6 h36 ho7 HADD hJ2
        have hok := RN2.out.ok.len
        have hsm := RN2.out.sum
        have ho16 : (J2.T.length : Int) ≤ 16 := by omega
        have ho0 : (0 : Int) ≤ J2.T.length := by omega
        have hl0 : (0 : Int) ≤ J2.lost := by omega
        have hls : (J2.T.length : Int) + J2.lost ≤ (k : Int) + 1 := by omega
        have hl1 : (J2.lost : Int) ≤ 1000 := by omega
        clear hok hsm
        go_wp2_with fail
        refine RN2.out.open.mono ?_
        rintro e w8 ⟨rfl, ho⟩
        have RN3 := Lib.hid (RN2.out.noth ho)
        have OA := Lib.hid ho
        clear ho
        go_wp2_with fail
        refine RN3.out.open.mono ?_
        rintro e w9 ⟨rfl, ho⟩
        have RN4 := Lib.hid (RN3.out.noth ho)
        have OB := Lib.hid (OA.out.tr ho)
        clear ho
        go_wp2_with fail
        refine RN4.out.lost_.mono ?_
        rintro e w10 ⟨rfl, ho⟩
        have RN5 := Lib.hid (RN4.out.noth ho)
        have OC := Lib.hid (OB.out.tr ho)
        clear ho
        go_wp2_with fail
        refine RN5.out.open.mono ?_
        rintro e w11 ⟨rfl, ho⟩
        have RN6 := Lib.hid (RN5.out.noth ho)
        have OD := Lib.hid (OC.out.tr ho)
        clear ho
        go_wp2_with fail
        refine RN6.out.lost_.mono ?_
        rintro e w12 ⟨rfl, ho⟩
        have RN7 := Lib.hid (RN6.out.noth ho)
        have OE := Lib.hid (OD.out.tr ho)
        clear ho
        go_wp2_with fail
        go_roundw
        case rel => exact ⟨k + 1, _, J2, by omega, by go_num, RN7.out, (OK.out.trans OW2.out (fun _ h _ => h)).tr OE.out⟩
        case measure => simp [RowKit.intOf]; omega
      · obtain rfl : k = n := by omega
        go_wp2_with fail
        refine (awake_run _).mono ?_
        rintro e w13 ⟨rfl, ho⟩
        have OF := Lib.hid ho
        clear ho
        go_wp2
        go_ret
        refine ⟨rfl, ?_⟩
        rw [HNN.out]
        exact (((O2.out.mono (fun _ h _ => h.elim)).trans OK.out (fun _ h _ => h)).tr OF.out).below (by rw [← HNN.out]; exact Nat.le_refl _) (fun _ h => h)
set_option maxHeartbeats 16000000 in
theorem joins_walk (A : Option Addr) (n c : Nat) (xs : List Ak) (w : World) (S : Nat → Prop) (hn : n ≤ 9223372036854775807) (hx : AksAt w S A xs) (hl : xs.length = n) (hS : ∀ j, S j → j < w.heap.size) :
    Calls Try.prog 6 #[.slice A n c] w fun e w' => e = .returned (.bool true) ∧ Below w.heap.size w w' := by
  cases hf : fewB xs with
  | false =>
    have HN := Lib.hid (few_no A n c xs w S hx hl hn hf)
    clear hx hl hS hf
    go_enter Try.func6, Try.ntmps6
    go_wp2_with (first | (go_at_call 16; refine HN.out.mono ?_; rintro e w' ⟨rfl, rfl⟩) | (go_at_call 8; refine (awake_run _).mono ?_; rintro e w' ⟨rfl, ho⟩))
    go_ret
    exact ⟨rfl, ho.below (Nat.le_refl _) (fun _ h => h.elim)⟩
  | true =>
    obtain ⟨hfy, hn120, hsum⟩ := few_yes A n c xs w S hx hl hf
    have HN := Lib.hid hfy
    have HX := Lib.hid hx
    have HL := Lib.hid hl
    have HS := Lib.hid hS
    have HSUM := Lib.hid hsum
    have hn0 : (0 : Int) ≤ n := by omega
    clear hx hl hS hf hfy hsum
    go_enter Try.func6, Try.ntmps6
    go_wp2_with (first | (go_at_call 16; refine HN.out.mono ?_; rintro e w' ⟨rfl, rfl⟩) | (go_at_call 12; refine (new_run _).mono ?_; rintro e w1 ⟨rfl, hj, hlt, ho⟩; have HJ := Lib.hid hj; have HLT := Lib.hid hlt; have O1 := Lib.hid ho; clear hj hlt ho) | (refine wpList_store_whole rfl rfl 48 (.tmp 4) (.tmp 12) rfl w1.heap.size rfl _ rfl 48 _ (Hld.new w1 _ _) rfl (by simp [Value.oneCell']) (by kernel_rfl) ?_; intro w2 gb ho2 hz2; have RN0 := Lib.hid (run_start HJ.out HLT.out (((Only.refl Noth w1).alloc _).trans ho2 (fun j hj hl => by have hj : j = w1.heap.size := hj; omega)) gb); have O2 := Lib.hid (show Only Noth w w2 from O1.out.tr (((Only.refl Noth w1).alloc _).trans ho2 (fun j hj hl => by have hj : j = w1.heap.size := hj; omega))); clear gb ho2 hz2))
    obtain ⟨N, hN⟩ : ∃ N, w.heap.size = N := ⟨_, rfl⟩
    obtain ⟨b, hb⟩ : ∃ b, w1.heap.size = b := ⟨_, rfl⟩
    have HNN := Lib.hid hN
    rw [hN, hb] at RN0
    rw [hN] at HS
    simp only [hN, hb]
    clear hN hb HJ HLT O1
    go_wp2_with fail
    go_loopw [5, 6] (fun s i W => ∃ (k : Nat) (u : Value) (J : Jn), k ≤ n ∧ i = .int .i64 (k : Int) ∧ s = .bool true ∧ RunAt N W N b u J k ∧ Only (fun j => N ≤ j) w2 W) (fun _ i _ => n - (RowKit.intOf i).toNat)
    case atStart => exact ⟨0, _, _, Nat.zero_le _, rfl, rfl, RN0.out, Only.refl _ _⟩
    case round =>
      obtain ⟨k, u, J, hk, rfl, rfl, hrn, ho⟩ := hrel
      have RN := Lib.hid hrn
      have OK := Lib.hid ho
      have hk0 : (0 : Int) ≤ k := by omega
      clear hrn ho
      by_cases hkn : k < n
      · have hk1 : (k : Int) < n := by omega
        obtain ⟨x, hx⟩ : ∃ x, xs[k]? = some x := ⟨_, List.getElem?_eq_getElem (by rw [HL.out]; exact hkn)⟩
        obtain ⟨ab, ao, hA, hat⟩ := ((HX.out.only O2.out (fun _ _ h => h)).only OK.out (fun j hj h => by have := HS.out j hj; omega)) (by rw [HL.out]; omega)
        have HAK := Lib.hid (hat k x hx)
        have HF0 := Lib.hid (hat k x hx).f0
        have HBS := Lib.hid (hat k x hx).bs
        have HSM := Lib.hid (ak_small HSUM.out hx)
        obtain ⟨C, cc, hv, _⟩ := (hat k x hx).bs
        have HXV := Lib.hid hv
        subst hA
        clear hx hat hv
        go_wp2_with fail
        refine wp_region_G (Turned N b) (fun j => N ≤ j) 10 (by kernel_rfl) ?_
        refine wpG_take (i := 0) (d := some 20) rfl rfl (by kernel_rfl) (by kernel_rfl) (by kernel_rfl) (fun _ _ _ h => h) (sure_value (v := .pointer (some ⟨N, 0, none⟩)) (by rfl) (fun v1 h1 => by first | rfl | (go_simp; done) | (go_simp; intro h9; exact absurd h9 (by omega)) | (go_simp; assumption))) (Only.refl _ _) ?_
        simp only [Act.put, List.setIfInBounds_toArray, List.set_cons_zero, List.set_cons_succ]
        refine wpG_take (i := 1) (d := some 21) rfl rfl (by kernel_rfl) (by kernel_rfl) (by kernel_rfl) (fun _ _ _ h => h) (sure_pair RN.out.bx.drew (fun h => h.2 rfl) (by rfl) (fun _ h h2 => by go_simp)) (Only.refl _ _) ?_
        simp only [Act.put, List.setIfInBounds_toArray, List.set_cons_zero, List.set_cons_succ]
        refine wpG_take (i := 2) (d := some 22) rfl rfl (by kernel_rfl) (by kernel_rfl) (by kernel_rfl) (fun _ _ _ h => h) (sure_value (v := .slice (some ⟨ab, ao, none⟩) n c) (by rfl) (fun v1 h1 => by first | rfl | (go_simp; done) | (go_simp; intro h9; exact absurd h9 (by omega)) | (go_simp; assumption))) (Only.refl _ _) ?_
        simp only [Act.put, List.setIfInBounds_toArray, List.set_cons_zero, List.set_cons_succ]
        refine wpG_take (i := 3) (d := some 23) rfl rfl (by kernel_rfl) (by kernel_rfl) (by kernel_rfl) (fun _ _ _ h => h) (sure_value (v := .int .i64 (k : Int)) (by rfl) (fun v1 h1 => by first | rfl | (go_simp; done) | (go_simp; intro h9; exact absurd h9 (by omega)) | (go_simp; assumption))) (Only.refl _ _) ?_
        simp only [Act.put, List.setIfInBounds_toArray, List.set_cons_zero, List.set_cons_succ]
        refine wpG_take (i := 4) (d := some 24) rfl rfl (by kernel_rfl) (by kernel_rfl) (by kernel_rfl) (fun _ _ _ h => h) (sure_value (v := .pointer (some ⟨ab, ao + k * 5, none⟩)) (by rfl) (fun v1 h1 => by first | rfl | (go_simp; done) | (go_simp; intro h9; exact absurd h9 (by omega)) | (go_simp; assumption))) (Only.refl _ _) ?_
        simp only [Act.put, List.setIfInBounds_toArray, List.set_cons_zero, List.set_cons_succ]
        refine wpG_take (i := 5) (d := some 25) rfl rfl (by kernel_rfl) (by kernel_rfl) (by kernel_rfl) (fun _ _ _ h => h) (sure_ak HAK.out.drew HXV.out (fun j hj h => by have h1 := HS.out j hj; have h2 := h.1; omega) (by rfl) (fun _ h h2 h3 h4 h5 => by go_simp)) (Only.refl _ _) ?_
        simp only [Act.put, List.setIfInBounds_toArray, List.set_cons_zero, List.set_cons_succ]
        refine wpG_call (i := 6) (d := some 26) (fun v w1 w' => AddedTo N N b (jadd J x.frm x.p).1 v w') (fun w3 h3 => ((RN.out.noth ((Only.refl Noth wr).drew)).add h3 (by omega) x (HBS.out.noth ((Only.refl Noth wr).drew)) HF0.out HSM.out HS.out).mono (fun e w' h => by obtain ⟨v, e1, e2, e3⟩ := h; exact ⟨v, e1, e2, (h3.mono (fun _ h _ => h.elim)).trans e3 (fun _ h _ => h)⟩)) (by kernel_rfl) rfl rfl (by rfl) (fun _ => by go_simp; rw [HXV.out]) ?_
        rintro v w3 w4 h3 ⟨u', rfl, hadd⟩ h4
        simp only [Act.put, List.setIfInBounds_toArray, List.set_cons_zero, List.set_cons_succ]
        have HADD := Lib.hid hadd
        clear hadd
        refine wpG_take (i := 7) (d := some 19) rfl rfl (by kernel_rfl) (by kernel_rfl) (by kernel_rfl) (fun _ _ _ h => h) (sure_value (v := .tuple #[.agg #[u', .int .i64 (jadd J x.frm x.p).1.lost], .bool true]) (by rfl) (fun v1 h1 => by first | rfl | (go_simp; done) | (go_simp; intro h9; exact absurd h9 (by omega)) | (go_simp; assumption))) h4 ?_
        simp only [Act.put, List.setIfInBounds_toArray, List.set_cons_zero, List.set_cons_succ]
        refine wpG_take (i := 8) (d := some 27) rfl rfl (by kernel_rfl) (by kernel_rfl) (by kernel_rfl) (fun _ _ _ h => h) (sure_value (v := .agg #[u', .int .i64 (jadd J x.frm x.p).1.lost]) (by rfl) (fun v1 h1 => by first | rfl | (go_simp; done) | (go_simp; intro h9; exact absurd h9 (by omega)) | (go_simp; assumption))) h4 ?_
        simp only [Act.put, List.setIfInBounds_toArray, List.set_cons_zero, List.set_cons_succ]
        refine wpG_free (i := 9) (v := .bool true) (d := some 28) rfl rfl (by kernel_rfl) (by kernel_rfl) (by kernel_rfl) (fun _ _ _ h => h) (.inl ⟨by rfl, fun w hS b K Q he hk => by unfold Oper.wp; rw [he]; exact hk w (Only.refl _ w) hS⟩) h4 ?_
        simp only [Act.put, List.setIfInBounds_toArray, List.set_cons_zero, List.set_cons_succ]
        refine wpG_store (i := 10) (g := b) (cs' := #[u', .int .i64 (jadd J x.frm x.p).1.lost]) (by kernel_rfl) rfl (by rfl) rfl rfl rfl rfl ((RN.out.bx.drew).only h4 (fun h => h.2 rfl)) (fun _ => RN.out.bl.1) rfl (by intro z hz; simp at hz; rcases hz with rfl | rfl; obtain ⟨R, S', Sr, hp, _⟩ := HADD.out; obtain ⟨u2, e2, hT2⟩ := hp.r; obtain ⟨A2, c2, rfl⟩ := hT2.shape; (have e3 : z = _ := (by simpa using e2)); rw [e3]; rfl; rfl) (by kernel_rfl) h4 (fun _ h => h.1) ?_
        intro w5 w6 h5 hb6 h6 h36
        refine wpN_take (i := 11) (d := some 5) rfl rfl (by kernel_rfl) (by kernel_rfl) (by kernel_rfl) (fun _ _ _ h => h) (sure_value (v := .bool true) (by rfl) (fun v1 h1 => by first | rfl | (go_simp; done) | (go_simp; intro h9; exact absurd h9 (by omega)) | (go_simp; assumption))) h36 ?_
        simp only [Act.put, List.setIfInBounds_toArray, List.set_cons_zero, List.set_cons_succ]
        refine wpN_done (by kernel_rfl) (fun w7 ho7 => ?_) _
        have RN2 := Lib.hid (RN.out.next HADD.out (jadd_sum J x.frm x.p) h5 h6 hb6 ho7)
        have OW2 := Lib.hid (show Only (fun j => N ≤ j) wr w7 from Only.undrew (only_up _ _ _ h36 ho7))
        obtain ⟨J2, hJ2⟩ : ∃ J2, (jadd J x.frm x.p).1 = J2 := ⟨_, rfl⟩
        rw [hJ2] at RN2
        simp only [hJ2]
        clear h3 h4 h5 hb6 h6 h36 ho7 HADD hJ2
        have HAK2 := Lib.hid (HAK.out.only OW2.out (fun j hj h => by have := HS.out j hj; omega))
        go_wp2_with fail
        refine wp_region_N Noth (by kernel_rfl) ?_
        refine wpN_take (i := 0) (d := some 29) rfl rfl (by kernel_rfl) (by kernel_rfl) (by kernel_rfl) (fun _ _ _ h => h) (sure_value (v := .bool true) (by rfl) (fun v1 h1 => by first | rfl | (go_simp; done) | (go_simp; intro h9; exact absurd h9 (by omega)) | (go_simp; assumption))) (Only.refl _ _) ?_
        simp only [Act.put, List.setIfInBounds_toArray, List.set_cons_zero, List.set_cons_succ]
        refine wpN_take (i := 1) (d := some 30) rfl rfl (by kernel_rfl) (by kernel_rfl) (by kernel_rfl) (fun _ _ _ h => h) (sure_value (v := .bool false) (by rfl) (fun v1 h1 => by first | rfl | (go_simp; done) | (go_simp; intro h9; exact absurd h9 (by omega)) | (go_simp; assumption))) (Only.refl _ _) ?_
        simp only [Act.put, List.setIfInBounds_toArray, List.set_cons_zero, List.set_cons_succ]
        refine wpN_take (i := 2) (d := some 31) rfl rfl (by kernel_rfl) (by kernel_rfl) (by kernel_rfl) (fun _ _ _ h => h) (sure_value (v := .bool false) (by rfl) (fun v1 h1 => by first | rfl | (go_simp; done) | (go_simp; intro h9; exact absurd h9 (by omega)) | (go_simp; assumption))) (Only.refl _ _) ?_
        simp only [Act.put, List.setIfInBounds_toArray, List.set_cons_zero, List.set_cons_succ]
        refine wpN_take (i := 3) (d := some 32) rfl rfl (by kernel_rfl) (by kernel_rfl) (by kernel_rfl) (fun _ _ _ h => h) (sure_value (v := .pointer (some ⟨N, 0, none⟩)) (by rfl) (fun v1 h1 => by first | rfl | (go_simp; done) | (go_simp; intro h9; exact absurd h9 (by omega)) | (go_simp; assumption))) (Only.refl _ _) ?_
        simp only [Act.put, List.setIfInBounds_toArray, List.set_cons_zero, List.set_cons_succ]
        refine wpN_take (i := 4) (d := some 33) rfl rfl (by kernel_rfl) (by kernel_rfl) (by kernel_rfl) (fun _ _ _ h => h) (sure_pair RN2.out.bx.drew (fun h => h) (by rfl) (fun _ h h2 => by go_simp)) (Only.refl _ _) ?_
        simp only [Act.put, List.setIfInBounds_toArray, List.set_cons_zero, List.set_cons_succ]
        refine wpN_take (i := 5) (d := some 34) rfl rfl (by kernel_rfl) (by kernel_rfl) (by kernel_rfl) (fun _ _ _ h => h) (sure_value (v := .slice (some ⟨ab, ao, none⟩) n c) (by rfl) (fun v1 h1 => by first | rfl | (go_simp; done) | (go_simp; intro h9; exact absurd h9 (by omega)) | (go_simp; assumption))) (Only.refl _ _) ?_
        simp only [Act.put, List.setIfInBounds_toArray, List.set_cons_zero, List.set_cons_succ]
        refine wpN_take (i := 6) (d := some 35) rfl rfl (by kernel_rfl) (by kernel_rfl) (by kernel_rfl) (fun _ _ _ h => h) (sure_value (v := .int .i64 (k : Int)) (by rfl) (fun v1 h1 => by first | rfl | (go_simp; done) | (go_simp; intro h9; exact absurd h9 (by omega)) | (go_simp; assumption))) (Only.refl _ _) ?_
        simp only [Act.put, List.setIfInBounds_toArray, List.set_cons_zero, List.set_cons_succ]
        refine wpN_take (i := 7) (d := some 36) rfl rfl (by kernel_rfl) (by kernel_rfl) (by kernel_rfl) (fun _ _ _ h => h) (sure_value (v := .pointer (some ⟨ab, ao + k * 5, none⟩)) (by rfl) (fun v1 h1 => by first | rfl | (go_simp; done) | (go_simp; intro h9; exact absurd h9 (by omega)) | (go_simp; assumption))) (Only.refl _ _) ?_
        simp only [Act.put, List.setIfInBounds_toArray, List.set_cons_zero, List.set_cons_succ]
        refine wpN_take (i := 8) (d := some 37) rfl rfl (by kernel_rfl) (by kernel_rfl) (by kernel_rfl) (fun _ _ _ h => h) (sure_value (v := .pointer (some ⟨ab, ao + k * 5, none⟩)) (by rfl) (fun v1 h1 => by first | rfl | (go_simp; done) | (go_simp; intro h9; exact absurd h9 (by omega)) | (go_simp; assumption))) (Only.refl _ _) ?_
        simp only [Act.put, List.setIfInBounds_toArray, List.set_cons_zero, List.set_cons_succ]
        refine wpN_take (i := 9) (d := some 38) rfl rfl (by kernel_rfl) (by kernel_rfl) (by kernel_rfl) (fun _ _ _ h => h) (sure_cellv (v := .int .u16 x.frm) HAK2.out.c0 HAK2.out.lt (fun h => h) (by rfl) (fun _ h => by go_simp)) (Only.refl _ _) ?_
        simp only [Act.put, List.setIfInBounds_toArray, List.set_cons_zero, List.set_cons_succ]
        refine wpN_take (i := 10) (d := some 39) rfl rfl (by kernel_rfl) (by kernel_rfl) (by kernel_rfl) (fun _ _ _ h => h) (sure_value (v := .slice (some ⟨ab, ao, none⟩) n c) (by rfl) (fun v1 h1 => by first | rfl | (go_simp; done) | (go_simp; intro h9; exact absurd h9 (by omega)) | (go_simp; assumption))) (Only.refl _ _) ?_
        simp only [Act.put, List.setIfInBounds_toArray, List.set_cons_zero, List.set_cons_succ]
        refine wpN_take (i := 11) (d := some 40) rfl rfl (by kernel_rfl) (by kernel_rfl) (by kernel_rfl) (fun _ _ _ h => h) (sure_value (v := .int .i64 (k : Int)) (by rfl) (fun v1 h1 => by first | rfl | (go_simp; done) | (go_simp; intro h9; exact absurd h9 (by omega)) | (go_simp; assumption))) (Only.refl _ _) ?_
        simp only [Act.put, List.setIfInBounds_toArray, List.set_cons_zero, List.set_cons_succ]
        refine wpN_take (i := 12) (d := some 41) rfl rfl (by kernel_rfl) (by kernel_rfl) (by kernel_rfl) (fun _ _ _ h => h) (sure_value (v := .pointer (some ⟨ab, ao + k * 5, none⟩)) (by rfl) (fun v1 h1 => by first | rfl | (go_simp; done) | (go_simp; intro h9; exact absurd h9 (by omega)) | (go_simp; assumption))) (Only.refl _ _) ?_
        simp only [Act.put, List.setIfInBounds_toArray, List.set_cons_zero, List.set_cons_succ]
        refine wpN_take (i := 13) (d := some 42) rfl rfl (by kernel_rfl) (by kernel_rfl) (by kernel_rfl) (fun _ _ _ h => h) (sure_value (v := .pointer (some ⟨ab, ao + k * 5 + 1, none⟩)) (by rfl) (fun v1 h1 => by first | rfl | (go_simp; done) | (go_simp; intro h9; exact absurd h9 (by omega)) | (go_simp; assumption))) (Only.refl _ _) ?_
        simp only [Act.put, List.setIfInBounds_toArray, List.set_cons_zero, List.set_cons_succ]
        refine wpN_take (i := 14) (d := some 43) rfl rfl (by kernel_rfl) (by kernel_rfl) (by kernel_rfl) (fun _ _ _ h => h) (sure_value (v := .pointer (some ⟨ab, ao + k * 5 + 1, none⟩)) (by rfl) (fun v1 h1 => by first | rfl | (go_simp; done) | (go_simp; intro h9; exact absurd h9 (by omega)) | (go_simp; assumption))) (Only.refl _ _) ?_
        simp only [Act.put, List.setIfInBounds_toArray, List.set_cons_zero, List.set_cons_succ]
        refine wpN_take (i := 15) (d := some 44) rfl rfl (by kernel_rfl) (by kernel_rfl) (by kernel_rfl) (fun _ _ _ h => h) (sure_cellv (v := .int .i64 x.p.id) HAK2.out.c1 HAK2.out.lt (fun h => h) (by rfl) (fun _ h => by go_simp)) (Only.refl _ _) ?_
        simp only [Act.put, List.setIfInBounds_toArray, List.set_cons_zero, List.set_cons_succ]
        refine wpN_take (i := 16) (d := some 45) rfl rfl (by kernel_rfl) (by kernel_rfl) (by kernel_rfl) (fun _ _ _ h => h) (sure_call (v := .bool true) (fun w' h' => (RN2.out.noth (Only.undrew h')).same x.frm x.p.id) (by rfl) (fun _ => by go_simp)) (Only.refl _ _) ?_
        simp only [Act.put, List.setIfInBounds_toArray, List.set_cons_zero, List.set_cons_succ]
        refine wpN_take (i := 17) (d := some 46) rfl rfl (by kernel_rfl) (by kernel_rfl) (by kernel_rfl) (fun _ _ _ h => h) (sure_value (v := .bool false) (by rfl) (fun v1 h1 => by first | rfl | (go_simp; done) | (go_simp; intro h9; exact absurd h9 (by omega)) | (go_simp; assumption))) (Only.refl _ _) ?_
        simp only [Act.put, List.setIfInBounds_toArray, List.set_cons_zero, List.set_cons_succ]
        refine wpN_take (i := 18) (d := some 47) rfl rfl (by kernel_rfl) (by kernel_rfl) (by kernel_rfl) (fun _ _ _ h => h) (sure_value (v := .bool false) (by rfl) (fun v1 h1 => by first | rfl | (go_simp; done) | (go_simp; intro h9; exact absurd h9 (by omega)) | (go_simp; assumption))) (Only.refl _ _) ?_
        simp only [Act.put, List.setIfInBounds_toArray, List.set_cons_zero, List.set_cons_succ]
        refine wpN_done (by kernel_rfl) (fun w8 ho8 => ?_) _
        have RN3 := Lib.hid (RN2.out.noth (Only.undrew ho8))
        have OE := Lib.hid (Only.undrew ho8)
        clear ho8
        go_wp2_with fail
        go_roundw
        case rel => exact ⟨k + 1, _, J2, by omega, by go_num, rfl, RN3.out, (OK.out.trans OW2.out (fun _ h _ => h)).tr OE.out⟩
        case measure => simp [RowKit.intOf]; omega
      · obtain rfl : k = n := by omega
        go_wp2_with fail
        refine (awake_run _).mono ?_
        rintro e w13 ⟨rfl, ho⟩
        have OF := Lib.hid ho
        clear ho
        go_wp2
        go_ret
        refine ⟨rfl, ?_⟩
        rw [HNN.out]
        exact (((O2.out.mono (fun _ h _ => h.elim)).trans OK.out (fun _ h _ => h)).tr OF.out).below (by rw [← HNN.out]; exact Nat.le_refl _) (fun _ h => h)
end Go.Proofs.Ytemeglofblnnmaa
