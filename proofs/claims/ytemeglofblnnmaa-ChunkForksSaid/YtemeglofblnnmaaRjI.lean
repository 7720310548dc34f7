/- The walk of ChunkForks. -/
import Derived.Test.YtemeglofblnnmaaRjH
import Derived.Test.YtemeglofblnnmaaJnK
import Derived.Deep.CutRange
namespace Go.Proofs.Ytemeglofblnnmaa
open Go.RowKit Go.Lib
set_option linter.unusedVariables false
set_option linter.unusedSimpArgs false
set_option maxRecDepth 100000
attribute [local go_sem ↓] Go.wp_at_zero Go.wp_at_succ

/-- As RunAt; what add turns lies from M on. -/
structure RunM (N M : Nat) (W : World) (g b : Nat) (u : Value) (J : Jn) (k : Nat) : Prop where
  ex : ∃ R S Sr, PJ N R S Sr W g (.agg #[u, .int .i64 J.lost]) J ∧ (∀ j, R j ∨ S j ∨ Sr j → j ≠ b) ∧ ∀ j, R j → M ≤ j
  bx : Hld W b 48 #[u, .int .i64 J.lost]
  bl : N ≤ b ∧ b ≠ g
  ml : M ≤ b ∧ M ≤ g
  sum : J.T.length + J.lost ≤ k
theorem RunM.run {N M : Nat} {W : World} {g b : Nat} {u : Value} {J : Jn} {k : Nat} (h : RunM N M W g b u J k) : RunAt N W g b u J k := by
  obtain ⟨R, S, Sr, hp, hs, _⟩ := h.ex
  exact ⟨⟨R, S, Sr, hp, hs⟩, h.bx, h.bl, h.sum⟩
theorem RunAt.toM {N : Nat} {W : World} {g b : Nat} {u : Value} {J : Jn} {k : Nat} (h : RunAt N W g b u J k) : RunM N N W g b u J k := by
  obtain ⟨R, S, Sr, hp, hs⟩ := h.ex
  exact ⟨⟨R, S, Sr, hp, hs, fun j hj => (hp.rl j hj).1⟩, h.bx, h.bl, ⟨h.bl.1, hp.gl.1⟩, h.sum⟩
theorem RunM.noth {N M : Nat} {W W' : World} {g b : Nat} {u : Value} {J : Jn} {k : Nat} (h : RunM N M W g b u J k) (ho : Only Noth W W') : RunM N M W' g b u J k := by
  obtain ⟨R, S, Sr, hp, hs, hm⟩ := h.ex
  exact ⟨⟨R, S, Sr, hp.noth ho, hs, hm⟩, h.bx.only ho (fun h => h), h.bl, h.ml, h.sum⟩
/-- What lies ahead of M stays. -/
theorem RunAt.keep {N M : Nat} {W W' : World} {g b : Nat} {u : Value} {J : Jn} {k : Nat} (h : RunAt N W g b u J k) (ho : Only (fun j => M ≤ j) W W') (hM : W.heap.size ≤ M) : RunAt N W' g b u J k := by
  obtain ⟨R, S, Sr, hp, hs⟩ := h.ex
  have hb := h.bx.lt
  exact ⟨⟨R, S, Sr, hp.only ho (fun h => by have := hp.gl.2; omega) (fun k hk h => by have := (hp.rl k hk).2; omega) (fun k hk h => by have := (hp.sl k hk).2; omega) (fun k hk h => by have := (hp.srl k hk).2; omega), hs⟩, h.bx.only ho (fun h => by omega), h.bl, h.sum⟩
/-- What add hands back. -/
def AddedM (N M g b : Nat) (J' : Jn) (v : Value) (w' : World) : Prop := ∃ u', v = .tuple #[.agg #[u', .int .i64 J'.lost], .bool true] ∧ ∃ R S Sr, PJ N R S Sr w' g (.agg #[u', .int .i64 J'.lost]) J' ∧ (∀ j, R j ∨ S j ∨ Sr j → j ≠ b) ∧ ∀ j, R j → M ≤ j
theorem RunM.add {N M : Nat} {W w1 : World} {g b : Nat} {u : Value} {J : Jn} {k : Nat} {Sa : Nat → Prop} (h : RunM N M W g b u J k) (hMW : M ≤ W.heap.size) (ho : Only Noth W w1) (hk : k ≤ 1000) (x : Ak) (hb : BsAt W Sa x.v x.p.bs) (hf : 0 ≤ x.frm) (hbl : x.p.bs.length ≤ 20000) (hSa : ∀ k, Sa k → k < N) :
    Calls Try.prog 17 #[.pointer (some ⟨g, 0, none⟩), .agg #[u, .int .i64 J.lost], .agg #[.int .u16 x.frm, .int .i64 x.p.id, .int .i64 x.p.idx, .int .i64 x.p.cnt, x.v]] w1 fun e w' => ∃ v, e = .returned v ∧ AddedM N M g b (jadd J x.frm x.p).1 v w' ∧ Only (Turned M b) w1 w' := by
  obtain ⟨R, S, Sr, hp, hs, hm⟩ := h.ex
  have hs0 := h.sum
  have hbw : b < W.heap.size := h.bx.lt
  refine (add_at N R S Sr Sa w1 g _ J x.frm x.p x.v (hp.noth ho) (by omega) hf (hb.noth ho) hbl hSa).mono ?_
  rintro e w' ⟨v', rfl, ⟨R', S', Sr', hp', hR, hS, hSr⟩, hon⟩
  obtain ⟨u', hv, hT⟩ := hp'.r
  subst hv
  have hz := ho.size
  refine ⟨_, rfl, ⟨u', rfl, R', S', Sr', hp', fun j hj => ?_, fun j hj => ?_⟩, hon.mono (fun j hj _ => ?_)⟩
  · rcases hj with hj | hj | hj
    · rcases hR j hj with h1 | h1
      · exact hs j (.inl h1)
      · omega
    · rcases hS j hj with h1 | h1
      · exact hs j (.inr (.inl h1))
      · omega
    · rcases hSr j hj with h1 | h1
      · exact hs j (.inr (.inr h1))
      · omega
  · rcases hR j hj with h1 | h1
    · exact hm j h1
    · omega
  · rcases hj with hj | hj
    · subst hj
      exact ⟨h.ml.2, fun e => h.bl.2 e.symm⟩
    · exact ⟨hm j hj, hs j (.inl hj)⟩
theorem RunM.next {N M : Nat} {W w2 w3 w4 w5 : World} {g b : Nat} {u u' : Value} {J J' : Jn} {k : Nat} (h : RunM N M W g b u J k) (hx : ∃ R S Sr, PJ N R S Sr w2 g (.agg #[u', .int .i64 J'.lost]) J' ∧ (∀ j, R j ∨ S j ∨ Sr j → j ≠ b) ∧ ∀ j, R j → M ≤ j) (hs : J'.T.length + J'.lost ≤ J.T.length + J.lost + 1)
    (h3 : Only Noth w2 w3) (h4 : Only (fun k => k = b) w3 w4) (hb : Hld w4 b 48 #[u', .int .i64 J'.lost]) (h5 : Only Noth w4 w5) : RunM N M w5 g b u' J' (k + 1) := by
  obtain ⟨R, S, Sr, hp, hd, hm⟩ := hx
  refine ⟨⟨R, S, Sr, ((hp.noth h3).only h4 (fun e => h.bl.2 e.symm) (fun j hj => hd j (.inl hj)) (fun j hj => hd j (.inr (.inl hj))) (fun j hj => hd j (.inr (.inr hj)))).noth h5, hd, hm⟩, hb.only h5 (fun h => h), h.bl, h.ml, by have := h.sum; omega⟩
/-- A fork of the joiner, and the reference's in another variable. -/
theorem RunAt.fork {N : Nat} {W w1 w2 w3 w4 : World} {g b p b2 : Nat} {u : Value} {J : Jn} {k : Nat} (h : RunAt N W g b u J k) (h1 : Only Noth W w1) (hj : ∃ R S Sr, PJ N R S Sr W g (.agg #[u, .int .i64 J.lost]) J ∧ JoinAt (fun x => New w1 x ∧ x ≠ p) (fun x => S x ∧ x < w1.heap.size) w2 p J) (hp : w1.heap.size ≤ p) (hpl : p < w2.heap.size) (h12 : Only Noth w1 w2) (h24 : Only (fun k => k = b2) w2 w4) (hb2 : W.heap.size ≤ b2) (hbp : b2 ≠ p)
    (hnb : ¬ (w1.heap.size ≤ b2 ∧ b2 < w2.heap.size)) (hb : Hld w4 b2 48 #[u, .int .i64 J.lost]) : RunM N W.heap.size w4 p b2 u J k := by
  obtain ⟨R, S, Sr, hpj, hj⟩ := hj
  have hN : N ≤ W.heap.size := Nat.le_trans hpj.gl.1 (Nat.le_of_lt hpj.gl.2)
  have hz1 := h1.size
  have hz2 := h12.size
  have hz4 := h24.size
  have hjt : JoinAt (fun x => w1.heap.size ≤ x ∧ x < w2.heap.size ∧ x ≠ p) S w4 p J := by
    refine (hj.tight (R' := fun x => w1.heap.size ≤ x ∧ x < w2.heap.size ∧ x ≠ p) (S' := S) (fun k hk hl => ⟨hk.1, hl, hk.2⟩) (fun k hk _ => hk.1) (fun hk => hk.2.2 rfl) (fun hk => by have := (hpj.sl p hk).2; omega)).only h24 (fun e => hbp e.symm) (fun k hk e => by have e : k = b2 := e; subst e; exact hnb ⟨hk.1, hk.2.1⟩) (fun k hk e => by have e : k = b2 := e; have := (hpj.sl k hk).2; omega)
  have hz : W.heap.size ≤ w4.heap.size := by omega
  refine ⟨⟨_, S, Sr, ⟨hjt, ((hpj.r.noth h1).noth h12).only h24 (fun k hk e => by have e : k = b2 := e; have := (hpj.srl k hk).2; omega), ⟨by omega, by omega⟩, fun k hk => ⟨by omega, by omega⟩, fun k hk => ?_, fun k hk => ?_, fun k hk => ?_⟩, fun j hj => ?_, fun j hj => by omega⟩, hb, ⟨by omega, hbp⟩, ⟨hb2, by omega⟩, h.sum⟩
  · have := hpj.sl k hk
    omega
  · have := hpj.srl k hk
    omega
  · have := hpj.srl k hk
    exact ⟨by omega, fun hr => by omega⟩
  · rcases hj with hj | hj | hj
    · intro e
      subst e
      exact hnb ⟨hj.1, hj.2.1⟩
    · have := (hpj.sl j hj).2
      omega
    · have := (hpj.srl j hj).2
      omega
theorem RunAt.fork_call {N : Nat} {W w1 : World} {g b : Nat} {u : Value} {J : Jn} {k : Nat} (h : RunAt N W g b u J k) (ho : Only Noth W w1) : Calls Try.prog 19 #[.pointer (some ⟨g, 0, none⟩)] w1 fun e w' => ∃ v, e = .returned v ∧ (∃ p, v = .pointer (some ⟨p, 0, none⟩) ∧ w1.heap.size ≤ p ∧ p < w'.heap.size ∧ ∃ R S Sr, PJ N R S Sr W g (.agg #[u, .int .i64 J.lost]) J ∧ JoinAt (fun x => New w1 x ∧ x ≠ p) (fun x => S x ∧ x < w1.heap.size) w' p J) ∧ Only Noth w1 w' := by
  obtain ⟨R, S, Sr, hp, hs⟩ := h.ex
  refine (fork_run R S g J w1 (hp.noth ho).j).mono ?_
  rintro e w' ⟨⟨p, rfl, h1, h2, h3⟩, h4⟩
  exact ⟨_, rfl, ⟨p, rfl, h1, h2, R, S, Sr, hp, h3⟩, h4⟩
set_option maxHeartbeats 16000000 in
theorem forks_walk (A : Option Addr) (n c : Nat) (xs : List Ak) (B : Option Addr) (m e : Nat) (ys : List Ak) (w : World) (S : Nat → Prop) (hn : n ≤ 9223372036854775807) (hm : m ≤ 9223372036854775807) (hx : AksAt w S A xs) (hl : xs.length = n) (hy : AksAt w S B ys) (hyl : ys.length = m) (hS : ∀ j, S j → j < w.heap.size) :
    Calls Try.prog 7 #[.slice A n c, .slice B m e] w fun e w' => e = .returned (.bool true) ∧ Below w.heap.size w w' := by
  cases hf : fewB xs with
  | false =>
    have HN := Lib.hid (few_no A n c xs w S hx hl hn hf)
    clear hx hl hS hf hy hyl
    go_enter Try.func7, Try.ntmps7
    go_wp2_with (first | (go_at_call 16; refine HN.out.mono ?_; rintro e w' ⟨rfl, rfl⟩) | (go_at_call 8; refine (awake_run _).mono ?_; rintro e w' ⟨rfl, ho⟩))
    go_ret
    exact ⟨rfl, ho.below (Nat.le_refl _) (fun _ h => h.elim)⟩
  | true =>
  cases hf2 : fewB ys with
  | false =>
    obtain ⟨hfy, _, _⟩ := few_yes A n c xs w S hx hl hf
    have HN := Lib.hid hfy
    have HN2 := Lib.hid (few_no B m e ys w S hy hyl hm hf2)
    clear hx hl hS hf hy hyl hf2 hfy
    go_enter Try.func7, Try.ntmps7
    go_wp2_with fail
    refine HN.out.mono ?_
    rintro e w' ⟨rfl, rfl⟩
    go_wp2_with fail
    refine HN2.out.mono ?_
    rintro e w' ⟨rfl, rfl⟩
    go_wp2_with fail
    refine (awake_run _).mono ?_
    rintro e w' ⟨rfl, ho⟩
    go_wp2
    go_ret
    exact ⟨rfl, ho.below (Nat.le_refl _) (fun _ h => h.elim)⟩
  | true =>
    obtain ⟨hfy, hn120, hsum⟩ := few_yes A n c xs w S hx hl hf
    obtain ⟨hfy2, hm120, hsum2⟩ := few_yes B m e ys w S hy hyl hf2
    have HN := Lib.hid hfy
    have HN2 := Lib.hid hfy2
    have HX := Lib.hid hx
    have HL := Lib.hid hl
    have HY := Lib.hid hy
    have HYL := Lib.hid hyl
    have HS := Lib.hid hS
    have HSUM := Lib.hid hsum
    have HSUM2 := Lib.hid hsum2
    have hn0 : (0 : Int) ≤ n := by omega
    have hm0 : (0 : Int) ≤ m := by omega
    clear hx hl hS hf hfy hsum hy hyl hf2 hfy2 hsum2
    go_enter Try.func7, Try.ntmps7
    go_wp2_with fail
    refine HN.out.mono ?_
    rintro e w' ⟨rfl, rfl⟩
    go_wp2_with fail
    refine HN2.out.mono ?_
    rintro e w' ⟨rfl, rfl⟩
    go_wp2_with (first | (go_at_call 12; refine (new_run _).mono ?_; rintro e w1 ⟨rfl, hj, hlt, ho⟩; have HJ := Lib.hid hj; have HLT := Lib.hid hlt; have O1 := Lib.hid ho; clear hj hlt ho) | (refine wpList_store_whole rfl rfl 48 (.tmp 6) (.tmp 27) rfl w1.heap.size rfl _ rfl 48 _ (Hld.new w1 _ _) rfl (by simp [Value.oneCell']) (by kernel_rfl) ?_; intro w2 gb ho2 hz2; have RN0 := Lib.hid (run_start HJ.out HLT.out (((Only.refl Noth w1).alloc _).trans ho2 (fun j hj hl => by have hj : j = w1.heap.size := hj; omega)) gb).toM; have O2 := Lib.hid (show Only Noth w w2 from O1.out.tr (((Only.refl Noth w1).alloc _).trans ho2 (fun j hj hl => by have hj : j = w1.heap.size := hj; omega))); clear gb ho2 hz2))
    obtain ⟨N, hN⟩ : ∃ N, w.heap.size = N := ⟨_, rfl⟩
    obtain ⟨b, hb⟩ : ∃ b, w1.heap.size = b := ⟨_, rfl⟩
    have HNN := Lib.hid hN
    rw [hN, hb] at RN0
    rw [hN] at HS
    have HNW := Lib.hid (show N ≤ w2.heap.size by rw [← hN]; exact O2.out.size)
    simp only [hN, hb]
    clear hN hb HJ HLT O1
    go_wp2_with fail
    go_loopw [7] (fun i W => ∃ (k : Nat) (u : Value) (J : Jn), k ≤ n ∧ i = .int .i64 (k : Int) ∧ RunM N N W N b u J k ∧ Only (fun j => N ≤ j) w2 W) (fun i _ => n - (RowKit.intOf i).toNat)
    case atStart => exact ⟨0, _, _, Nat.zero_le _, rfl, RN0.out, Only.refl _ _⟩
    case round =>
      obtain ⟨k, u, J, hk, rfl, hrn, ho⟩ := hrel
      have RN := Lib.hid hrn
      have OK := Lib.hid ho
      have hk0 : (0 : Int) ≤ k := by omega
      clear hrn ho
      by_cases hkn : k < n
      · have hk1 : (k : Int) < n := by omega
        obtain ⟨x, hx⟩ : ∃ x, xs[k]? = some x := ⟨_, List.getElem?_eq_getElem (by rw [HL.out]; exact hkn)⟩
        obtain ⟨ab, ao, hA, hat⟩ := ((HX.out.only O2.out (fun _ _ h => h)).only OK.out (fun j hj h => by have := HS.out j hj; omega)) (by rw [HL.out]; omega)
        have HAK := Lib.hid (hat k x hx)
        have HF0 := Lib.hid (hat k x hx).f0
        have HBS := Lib.hid (hat k x hx).bs
        have HSM := Lib.hid (ak_small HSUM.out hx)
        obtain ⟨C, cc, hv, _⟩ := (hat k x hx).bs
        have HXV := Lib.hid hv
        subst hA
        clear hx hat hv
        go_wp2_with fail
        have HNM := Lib.hid (Nat.le_refl N)
        have HMW := Lib.hid (show N ≤ wr.heap.size from Nat.le_trans HNW.out OK.out.size)
        refine wp_region_G (Turned N b) (fun j => N ≤ j) 10 (by kernel_rfl) ?_
        refine wpG_take (i := 0) (d := some 35) rfl rfl (by kernel_rfl) (by kernel_rfl) (by kernel_rfl) (fun _ _ _ h => h) (sure_value (v := .pointer (some ⟨N, 0, none⟩)) (by rfl) (fun v1 h1 => by first | rfl | (go_simp; done) | (go_simp; intro h9; exact absurd h9 (by omega)) | (go_simp; assumption))) (Only.refl _ _) ?_
        simp only [Act.put, List.setIfInBounds_toArray, List.set_cons_zero, List.set_cons_succ]
        refine wpG_take (i := 1) (d := some 36) rfl rfl (by kernel_rfl) (by kernel_rfl) (by kernel_rfl) (fun _ _ _ h => h) (sure_pair RN.out.bx.drew (fun h => h.2 rfl) (by rfl) (fun _ h h2 => by go_simp)) (Only.refl _ _) ?_
        simp only [Act.put, List.setIfInBounds_toArray, List.set_cons_zero, List.set_cons_succ]
        refine wpG_take (i := 2) (d := some 37) rfl rfl (by kernel_rfl) (by kernel_rfl) (by kernel_rfl) (fun _ _ _ h => h) (sure_value (v := .slice (some ⟨ab, ao, none⟩) n c) (by rfl) (fun v1 h1 => by first | rfl | (go_simp; done) | (go_simp; intro h9; exact absurd h9 (by omega)) | (go_simp; assumption))) (Only.refl _ _) ?_
        simp only [Act.put, List.setIfInBounds_toArray, List.set_cons_zero, List.set_cons_succ]
        refine wpG_take (i := 3) (d := some 38) rfl rfl (by kernel_rfl) (by kernel_rfl) (by kernel_rfl) (fun _ _ _ h => h) (sure_value (v := .int .i64 (k : Int)) (by rfl) (fun v1 h1 => by first | rfl | (go_simp; done) | (go_simp; intro h9; exact absurd h9 (by omega)) | (go_simp; assumption))) (Only.refl _ _) ?_
        simp only [Act.put, List.setIfInBounds_toArray, List.set_cons_zero, List.set_cons_succ]
        refine wpG_take (i := 4) (d := some 39) rfl rfl (by kernel_rfl) (by kernel_rfl) (by kernel_rfl) (fun _ _ _ h => h) (sure_value (v := .pointer (some ⟨ab, ao + k * 5, none⟩)) (by rfl) (fun v1 h1 => by first | rfl | (go_simp; done) | (go_simp; intro h9; exact absurd h9 (by omega)) | (go_simp; assumption))) (Only.refl _ _) ?_
        simp only [Act.put, List.setIfInBounds_toArray, List.set_cons_zero, List.set_cons_succ]
        refine wpG_take (i := 5) (d := some 40) rfl rfl (by kernel_rfl) (by kernel_rfl) (by kernel_rfl) (fun _ _ _ h => h) (sure_ak HAK.out.drew HXV.out (fun j hj h => by have h1 := HS.out j hj; have h2 := h.1; have h3 := HNM.out; omega) (by rfl) (fun _ h h2 h3 h4 h5 => by go_simp)) (Only.refl _ _) ?_
        simp only [Act.put, List.setIfInBounds_toArray, List.set_cons_zero, List.set_cons_succ]
        refine wpG_call (i := 6) (d := some 41) (fun v w1 w' => AddedM N N N b (jadd J x.frm x.p).1 v w') (fun w3 h3 => ((RN.out.noth ((Only.refl Noth wr).drew)).add HMW.out h3 (by omega) x (HBS.out.noth ((Only.refl Noth wr).drew)) HF0.out HSM.out HS.out).mono (fun e w' h => by obtain ⟨v, e1, e2, e3⟩ := h; exact ⟨v, e1, e2, (h3.mono (fun _ h _ => h.elim)).trans e3 (fun _ h _ => h)⟩)) (by kernel_rfl) rfl rfl (by rfl) (fun _ => by go_simp; rw [HXV.out]) ?_
        rintro v w3 w4 h3 ⟨u', rfl, hadd⟩ h4
        simp only [Act.put, List.setIfInBounds_toArray, List.set_cons_zero, List.set_cons_succ]
        have HADD := Lib.hid hadd
        clear hadd
        refine wpG_take (i := 7) (d := some 34) rfl rfl (by kernel_rfl) (by kernel_rfl) (by kernel_rfl) (fun _ _ _ h => h) (sure_value (v := .tuple #[.agg #[u', .int .i64 (jadd J x.frm x.p).1.lost], .bool true]) (by rfl) (fun v1 h1 => by first | rfl | (go_simp; done) | (go_simp; intro h9; exact absurd h9 (by omega)) | (go_simp; assumption))) h4 ?_
        simp only [Act.put, List.setIfInBounds_toArray, List.set_cons_zero, List.set_cons_succ]
        refine wpG_take (i := 8) (d := some 42) rfl rfl (by kernel_rfl) (by kernel_rfl) (by kernel_rfl) (fun _ _ _ h => h) (sure_value (v := .agg #[u', .int .i64 (jadd J x.frm x.p).1.lost]) (by rfl) (fun v1 h1 => by first | rfl | (go_simp; done) | (go_simp; intro h9; exact absurd h9 (by omega)) | (go_simp; assumption))) h4 ?_
        simp only [Act.put, List.setIfInBounds_toArray, List.set_cons_zero, List.set_cons_succ]
        refine wpG_free (i := 9) (v := .bool true) (d := some 43) rfl rfl (by kernel_rfl) (by kernel_rfl) (by kernel_rfl) (fun _ _ _ h => h) (.inl ⟨by rfl, fun w hS b K Q he hk => by unfold Oper.wp; rw [he]; exact hk w (Only.refl _ w) hS⟩) h4 ?_
        simp only [Act.put, List.setIfInBounds_toArray, List.set_cons_zero, List.set_cons_succ]
        refine wpG_store (i := 10) (g := b) (cs' := #[u', .int .i64 (jadd J x.frm x.p).1.lost]) (by kernel_rfl) rfl (by rfl) rfl rfl rfl rfl ((RN.out.bx.drew).only h4 (fun h => h.2 rfl)) (fun _ => RN.out.ml.1) rfl (by intro z hz; simp at hz; rcases hz with rfl | rfl; obtain ⟨R, S', Sr, hp, _⟩ := HADD.out; obtain ⟨u2, e2, hT2⟩ := hp.r; obtain ⟨A2, c2, rfl⟩ := hT2.shape; (have e3 : z = _ := (by simpa using e2)); rw [e3]; rfl; rfl) (by kernel_rfl) h4 (fun _ h => h.1) ?_
        intro w5 w6 h5 hb6 h6 h36
        refine wpN_done (by kernel_rfl) (fun w7 ho7 => ?_) _
        have RN2 := Lib.hid (RN.out.next HADD.out (jadd_sum J x.frm x.p) h5 h6 hb6 ho7)
        have OW2 := Lib.hid (show Only (fun j => N ≤ j) wr w7 from Only.undrew (only_up _ _ _ h36 ho7))
        obtain ⟨J2, hJ2⟩ : ∃ J2, (jadd J x.frm x.p).1 = J2 := ⟨_, rfl⟩
        rw [hJ2] at RN2
        simp only [hJ2]
        clear h3 h4 h5 hb6 h6 h36 ho7 HADD hJ2
        go_wp2_with fail
        go_roundw
        case rel => exact ⟨k + 1, _, J2, by omega, by go_num, RN2.out, (OK.out.trans OW2.out (fun _ h _ => h))⟩
        case measure => simp [RowKit.intOf]; omega
      · obtain rfl : k = n := by omega
        have RA := Lib.hid RN.out.run
        have HWM := Lib.hid (show N ≤ wr.heap.size from Nat.le_trans HNW.out OK.out.size)
        have OKK := OK
        go_upto_region 8 with fail
        go_cut [8, 9, 10] from 44 to 46 (fun s8 s9 s10 W => ∃ p b2, s8 = .pointer (some ⟨p, 0, none⟩) ∧ s9 = .pointer (some ⟨b2, 0, none⟩) ∧ s10 = .bool true ∧ RunM N wr.heap.size W p b2 u J k ∧ Only Noth wr W)
        case first =>
          refine wp_region_N Noth (by kernel_rfl) ?_
          refine wpN_take (i := 0) (d := some 44) rfl rfl (by kernel_rfl) (by kernel_rfl) (by kernel_rfl) (fun _ _ _ h => h) (sure_value (v := .pointer (some ⟨N, 0, none⟩)) (by rfl) (fun v1 h1 => by first | rfl | (go_simp; done) | (go_simp; intro h9; exact absurd h9 (by omega)) | (go_simp; assumption))) (Only.refl _ _) ?_
          simp only [Act.put, List.setIfInBounds_toArray, List.set_cons_zero, List.set_cons_succ]
          refine wpN_take (i := 2) (d := some 46) rfl rfl (by kernel_rfl) (by kernel_rfl) (by kernel_rfl) (fun _ _ _ h => h) (sure_pair RA.out.bx.drew (fun h => h) (by rfl) (fun _ h h2 => by go_simp)) (Only.refl _ _) ?_
          simp only [Act.put, List.setIfInBounds_toArray, List.set_cons_zero, List.set_cons_succ]
          refine wpN_ca (i := 1) (j := 3) (d := some 45) (d' := some 9) (z := #[.slice none 0 0, .int .i64 0]) (t := 48) (T := fun v w1 w' => (∃ p, v = .pointer (some ⟨p, 0, none⟩) ∧ w1.heap.size ≤ p ∧ p < w'.heap.size ∧ ∃ R S Sr, PJ N R S Sr wr N (.agg #[u, .int .i64 J.lost]) J ∧ JoinAt (fun x => New w1 x ∧ x ≠ p) (fun x => S x ∧ x < w1.heap.size) w' p J) ∧ Only Noth w1 w') (fun w1 h1 => (RA.out.fork_call (Only.undrew h1)).mono (fun e w' h => by obtain ⟨v, e1, e2, e3⟩ := h; exact ⟨v, e1, ⟨e2, e3⟩, h1.tr e3⟩)) (by kernel_rfl) rfl rfl (by rfl) (fun _ => by go_simp) rfl rfl (by rfl) (fun _ => rfl) (Only.refl _ _) ?_ ?_
          · rintro v w1 w3 h1 ⟨⟨p, rfl, hp1, hp2, hj⟩, hcall⟩ h3
            simp only [Act.put, List.setIfInBounds_toArray, List.set_cons_zero, List.set_cons_succ]
            refine wpN_alloc (i := 3) (d := some 9) (z := #[.slice none 0 0, .int .i64 0]) (t := 48) (by kernel_rfl) rfl rfl (by rfl) h3 (fun _ => rfl) ?_
            intro w4 b2 ho4 P1 hb2
            simp only [Act.put, List.setIfInBounds_toArray, List.set_cons_zero, List.set_cons_succ]
            have hS4 := only_up _ _ _ h3 ho4
            refine wpN_take (i := 4) (d := some 8) rfl rfl (by kernel_rfl) (by kernel_rfl) (by kernel_rfl) (fun _ _ _ h => h) (sure_value (v := .pointer (some ⟨p, 0, none⟩)) (by rfl) (fun v1 h1 => by first | rfl | (go_simp; done) | (go_simp; intro h9; exact absurd h9 (by omega)) | (go_simp; assumption))) hS4 ?_
            simp only [Act.put, List.setIfInBounds_toArray, List.set_cons_zero, List.set_cons_succ]
            refine wpN_store (i := 5) (g := b2) (cs' := #[u, .int .i64 J.lost]) (by kernel_rfl) rfl (by rfl) rfl rfl rfl rfl P1 (fun h => absurd h (Nat.not_lt.2 (Nat.le_trans h3.size hb2))) rfl (by obtain ⟨A2, c2, hA2⟩ := RA.out.shape; simp [hA2, Value.oneCell']) (by kernel_rfl) hS4 ?_
            intro w5 w6 ho5 P2 ho6 hS6
            refine wpN_take (i := 6) (d := some 10) rfl rfl (by kernel_rfl) (by kernel_rfl) (by kernel_rfl) (fun _ _ _ h => h) (sure_value (v := .bool true) (by rfl) (fun v1 h1 => by first | rfl | (go_simp; done) | (go_simp; intro h9; exact absurd h9 (by omega)) | (go_simp; assumption))) hS6 ?_
            simp only [Act.put, List.setIfInBounds_toArray, List.set_cons_zero, List.set_cons_succ]
            refine wpN_done (by kernel_rfl) (fun w7 ho7 => ?_) _
            have h37 : Only Noth w3 w7 := (ho4.tr ho5).trans (ho6.trans ho7 (fun j hj _ => hj.elim)) (fun j hj hl => by have hj : j = b2 := hj; omega)
            have hz1 := (Only.undrew h1).size
            have RF := Lib.hid (RA.out.fork (p := p) (b2 := b2) (w1 := w1) (w2 := w3) (w3 := w4) (w4 := w7) (Only.undrew h1) hj hp1 hp2 hcall (h37.mono (fun _ h _ => h.elim)) (Nat.le_trans (Nat.le_trans hz1 hcall.size) hb2) (by omega) (by omega) (P2.only ho7 (fun h => h)))
            have OF := Lib.hid (show Only Noth wr w7 from (Only.undrew h3).tr h37)
            clear h1 hj hp1 hp2 hcall h3 ho4 P1 hb2 hS4 ho5 P2 ho6 hS6 ho7 h37 hz1
            go_wp2_with fail
            go_meet
            case rel => exact ⟨p, b2, rfl, rfl, rfl, RF.out, OF.out⟩
          · intro w2' b2 ho2 P1 hb2
            simp only [Act.put, List.setIfInBounds_toArray, List.set_cons_zero, List.set_cons_succ]
            refine wpN_call (i := 1) (d := some 45) (T := fun v w1 w' => (∃ p, v = .pointer (some ⟨p, 0, none⟩) ∧ w1.heap.size ≤ p ∧ p < w'.heap.size ∧ ∃ R S Sr, PJ N R S Sr wr N (.agg #[u, .int .i64 J.lost]) J ∧ JoinAt (fun x => New w1 x ∧ x ≠ p) (fun x => S x ∧ x < w1.heap.size) w' p J) ∧ Only Noth w1 w') (fun w1 h1 => (RA.out.fork_call (Only.undrew (ho2.tr h1))).mono (fun e w' h => by obtain ⟨v, e1, e2, e3⟩ := h; exact ⟨v, e1, ⟨e2, e3⟩, (ho2.tr h1).tr e3⟩)) (by kernel_rfl) rfl rfl (by rfl) (fun _ => by go_simp) ?_
            rintro v w1 w3 h1 ⟨⟨p, rfl, hp1, hp2, hj⟩, hcall⟩ h3
            have P3 := (P1.only h1 (fun h => h)).only hcall (fun h => h)
            simp only [Act.put, List.setIfInBounds_toArray, List.set_cons_zero, List.set_cons_succ]
            refine wpN_take (i := 4) (d := some 8) rfl rfl (by kernel_rfl) (by kernel_rfl) (by kernel_rfl) (fun _ _ _ h => h) (sure_value (v := .pointer (some ⟨p, 0, none⟩)) (by rfl) (fun v1 h1 => by first | rfl | (go_simp; done) | (go_simp; intro h9; exact absurd h9 (by omega)) | (go_simp; assumption))) h3 ?_
            simp only [Act.put, List.setIfInBounds_toArray, List.set_cons_zero, List.set_cons_succ]
            refine wpN_store (i := 5) (g := b2) (cs' := #[u, .int .i64 J.lost]) (by kernel_rfl) rfl (by rfl) rfl rfl rfl rfl P3 (fun h => absurd h (Nat.not_lt.2 hb2)) rfl (by obtain ⟨A2, c2, hA2⟩ := RA.out.shape; simp [hA2, Value.oneCell']) (by kernel_rfl) h3 ?_
            intro w5 w6 ho5 P2 ho6 hS6
            refine wpN_take (i := 6) (d := some 10) rfl rfl (by kernel_rfl) (by kernel_rfl) (by kernel_rfl) (fun _ _ _ h => h) (sure_value (v := .bool true) (by rfl) (fun v1 h1 => by first | rfl | (go_simp; done) | (go_simp; intro h9; exact absurd h9 (by omega)) | (go_simp; assumption))) hS6 ?_
            simp only [Act.put, List.setIfInBounds_toArray, List.set_cons_zero, List.set_cons_succ]
            refine wpN_done (by kernel_rfl) (fun w7 ho7 => ?_) _
            have h37 : Only (fun k => k = b2) w3 w7 := (ho5.mono (fun _ h _ => h.elim)).trans (ho6.trans ho7 (fun j hj _ => hj.elim)) (fun j hj _ => hj)
            have hz1 := (Only.undrew ho2).size
            have hz2 := h1.size
            have hbl := P1.lt
            have RF := Lib.hid (RA.out.fork (p := p) (b2 := b2) (w1 := w1) (w2 := w3) (w3 := w3) (w4 := w7) ((Only.undrew ho2).tr h1) hj hp1 hp2 hcall h37 hb2 (by omega) (by omega) (P2.only ho7 (fun h => h)))
            have hb2w : wr.heap.size ≤ b2 := hb2
            have OF := Lib.hid (show Only Noth wr w7 from (Only.undrew h3).trans h37 (fun j hj hl => by have hj : j = b2 := hj; omega))
            clear h1 hj hp1 hp2 hcall h3 ho2 P1 hb2 ho5 P2 ho6 hS6 ho7 h37 hz1 hz2 hbl hb2w P3
            go_wp2_with fail
            go_meet
            case rel => exact ⟨p, b2, rfl, rfl, rfl, RF.out, OF.out⟩
        case rest =>
          obtain ⟨p, b2, hu8, hu9, hu10, hrn, ho⟩ := hcut
          subst hu8 hu9 hu10
          have RN0' := Lib.hid hrn
          have OF := Lib.hid ho
          obtain ⟨M, hM⟩ : ∃ M, wr.heap.size = M := ⟨_, rfl⟩
          have HMM := Lib.hid hM
          rw [hM] at RN0' HWM
          have HPM := Lib.hid (show M ≤ wc.heap.size by rw [← hM]; exact ho.size)
          clear hrn ho hM
          go_wp2_with fail
          have RA0 := Lib.hid (RA.out.noth OF.out)
          go_loopw [10, 11] (fun s i W => ∃ (k' : Nat) (u' : Value) (J' : Jn), k' ≤ m ∧ i = .int .i64 (k' : Int) ∧ s = .bool true ∧ RunM N M W p b2 u' J' (k + k') ∧ Only (fun j => M ≤ j) wc W) (fun _ i _ => m - (RowKit.intOf i).toNat)
          case atStart => exact ⟨0, u, J, Nat.zero_le _, rfl, rfl, RN0'.out, Only.refl _ _⟩
          case round =>
            obtain ⟨q, u2, J3, hk, rfl, rfl, hrn, ho⟩ := hrel
            have RN := Lib.hid hrn
            have OK := Lib.hid ho
            have hk0 : (0 : Int) ≤ q := by omega
            clear hrn ho
            by_cases hkn : q < m
            · have hk1 : (q : Int) < m := by omega
              obtain ⟨x, hx⟩ : ∃ x, ys[q]? = some x := ⟨_, List.getElem?_eq_getElem (by rw [HYL.out]; exact hkn)⟩
              obtain ⟨ab, ao, hA, hat⟩ := (((HY.out.only O2.out (fun _ _ h => h)).only OKK.out (fun j hj h => by have := HS.out j hj; omega)).only OF.out (fun _ _ h => h)).only OK.out (fun j hj h => by have := HS.out j hj; have := HWM.out; omega) (by rw [HYL.out]; omega)
              have HAK := Lib.hid (hat q x hx)
              have HF0 := Lib.hid (hat q x hx).f0
              have HBS := Lib.hid (hat q x hx).bs
              have HSM := Lib.hid (ak_small HSUM2.out hx)
              obtain ⟨C, cc, hv, _⟩ := (hat q x hx).bs
              have HXV := Lib.hid hv
              subst hA
              clear hx hat hv
              go_wp2_with fail
              have HNM := Lib.hid HWM.out
              have HMW := Lib.hid (show M ≤ wr.heap.size from Nat.le_trans HPM.out OK.out.size)
              refine wp_region_G (Turned M b2) (fun j => M ≤ j) 10 (by kernel_rfl) ?_
              refine wpG_take (i := 0) (d := some 56) rfl rfl (by kernel_rfl) (by kernel_rfl) (by kernel_rfl) (fun _ _ _ h => h) (sure_value (v := .pointer (some ⟨p, 0, none⟩)) (by rfl) (fun v1 h1 => by first | rfl | (go_simp; done) | (go_simp; intro h9; exact absurd h9 (by omega)) | (go_simp; assumption))) (Only.refl _ _) ?_
              simp only [Act.put, List.setIfInBounds_toArray, List.set_cons_zero, List.set_cons_succ]
              refine wpG_take (i := 1) (d := some 57) rfl rfl (by kernel_rfl) (by kernel_rfl) (by kernel_rfl) (fun _ _ _ h => h) (sure_pair RN.out.bx.drew (fun h => h.2 rfl) (by rfl) (fun _ h h2 => by go_simp)) (Only.refl _ _) ?_
              simp only [Act.put, List.setIfInBounds_toArray, List.set_cons_zero, List.set_cons_succ]
              refine wpG_take (i := 2) (d := some 58) rfl rfl (by kernel_rfl) (by kernel_rfl) (by kernel_rfl) (fun _ _ _ h => h) (sure_value (v := .slice (some ⟨ab, ao, none⟩) m e) (by rfl) (fun v1 h1 => by first | rfl | (go_simp; done) | (go_simp; intro h9; exact absurd h9 (by omega)) | (go_simp; assumption))) (Only.refl _ _) ?_
              simp only [Act.put, List.setIfInBounds_toArray, List.set_cons_zero, List.set_cons_succ]
              refine wpG_take (i := 3) (d := some 59) rfl rfl (by kernel_rfl) (by kernel_rfl) (by kernel_rfl) (fun _ _ _ h => h) (sure_value (v := .int .i64 (q : Int)) (by rfl) (fun v1 h1 => by first | rfl | (go_simp; done) | (go_simp; intro h9; exact absurd h9 (by omega)) | (go_simp; assumption))) (Only.refl _ _) ?_
              simp only [Act.put, List.setIfInBounds_toArray, List.set_cons_zero, List.set_cons_succ]
              refine wpG_take (i := 4) (d := some 60) rfl rfl (by kernel_rfl) (by kernel_rfl) (by kernel_rfl) (fun _ _ _ h => h) (sure_value (v := .pointer (some ⟨ab, ao + q * 5, none⟩)) (by rfl) (fun v1 h1 => by first | rfl | (go_simp; done) | (go_simp; intro h9; exact absurd h9 (by omega)) | (go_simp; assumption))) (Only.refl _ _) ?_
              simp only [Act.put, List.setIfInBounds_toArray, List.set_cons_zero, List.set_cons_succ]
              refine wpG_take (i := 5) (d := some 61) rfl rfl (by kernel_rfl) (by kernel_rfl) (by kernel_rfl) (fun _ _ _ h => h) (sure_ak HAK.out.drew HXV.out (fun j hj h => by have h1 := HS.out j hj; have h2 := h.1; have h3 := HNM.out; omega) (by rfl) (fun _ h h2 h3 h4 h5 => by go_simp)) (Only.refl _ _) ?_
              simp only [Act.put, List.setIfInBounds_toArray, List.set_cons_zero, List.set_cons_succ]
              refine wpG_call (i := 6) (d := some 62) (fun v w1 w' => AddedM N M p b2 (jadd J3 x.frm x.p).1 v w') (fun w3 h3 => ((RN.out.noth ((Only.refl Noth wr).drew)).add HMW.out h3 (by omega) x (HBS.out.noth ((Only.refl Noth wr).drew)) HF0.out HSM.out HS.out).mono (fun e w' h => by obtain ⟨v, e1, e2, e3⟩ := h; exact ⟨v, e1, e2, (h3.mono (fun _ h _ => h.elim)).trans e3 (fun _ h _ => h)⟩)) (by kernel_rfl) rfl rfl (by rfl) (fun _ => by go_simp; rw [HXV.out]) ?_
              rintro v w3 w4 h3 ⟨u', rfl, hadd⟩ h4
              simp only [Act.put, List.setIfInBounds_toArray, List.set_cons_zero, List.set_cons_succ]
              have HADD := Lib.hid hadd
              clear hadd
              refine wpG_take (i := 7) (d := some 55) rfl rfl (by kernel_rfl) (by kernel_rfl) (by kernel_rfl) (fun _ _ _ h => h) (sure_value (v := .tuple #[.agg #[u', .int .i64 (jadd J3 x.frm x.p).1.lost], .bool true]) (by rfl) (fun v1 h1 => by first | rfl | (go_simp; done) | (go_simp; intro h9; exact absurd h9 (by omega)) | (go_simp; assumption))) h4 ?_
              simp only [Act.put, List.setIfInBounds_toArray, List.set_cons_zero, List.set_cons_succ]
              refine wpG_take (i := 8) (d := some 63) rfl rfl (by kernel_rfl) (by kernel_rfl) (by kernel_rfl) (fun _ _ _ h => h) (sure_value (v := .agg #[u', .int .i64 (jadd J3 x.frm x.p).1.lost]) (by rfl) (fun v1 h1 => by first | rfl | (go_simp; done) | (go_simp; intro h9; exact absurd h9 (by omega)) | (go_simp; assumption))) h4 ?_
              simp only [Act.put, List.setIfInBounds_toArray, List.set_cons_zero, List.set_cons_succ]
              refine wpG_free (i := 9) (v := .bool true) (d := some 64) rfl rfl (by kernel_rfl) (by kernel_rfl) (by kernel_rfl) (fun _ _ _ h => h) (.inl ⟨by rfl, fun w hS b K Q he hk => by unfold Oper.wp; rw [he]; exact hk w (Only.refl _ w) hS⟩) h4 ?_
              simp only [Act.put, List.setIfInBounds_toArray, List.set_cons_zero, List.set_cons_succ]
              refine wpG_store (i := 10) (g := b2) (cs' := #[u', .int .i64 (jadd J3 x.frm x.p).1.lost]) (by kernel_rfl) rfl (by rfl) rfl rfl rfl rfl ((RN.out.bx.drew).only h4 (fun h => h.2 rfl)) (fun _ => RN.out.ml.1) rfl (by intro z hz; simp at hz; rcases hz with rfl | rfl; obtain ⟨R, S', Sr, hp, _⟩ := HADD.out; obtain ⟨u2, e2, hT2⟩ := hp.r; obtain ⟨A2, c2, rfl⟩ := hT2.shape; (have e3 : z = _ := (by simpa using e2)); rw [e3]; rfl; rfl) (by kernel_rfl) h4 (fun _ h => h.1) ?_
              intro w5 w6 h5 hb6 h6 h36
              refine wpN_take (i := 11) (d := some 10) rfl rfl (by kernel_rfl) (by kernel_rfl) (by kernel_rfl) (fun _ _ _ h => h) (sure_value (v := .bool true) (by rfl) (fun v1 h1 => by first | rfl | (go_simp; done) | (go_simp; intro h9; exact absurd h9 (by omega)) | (go_simp; assumption))) h36 ?_
              simp only [Act.put, List.setIfInBounds_toArray, List.set_cons_zero, List.set_cons_succ]
              refine wpN_done (by kernel_rfl) (fun w7 ho7 => ?_) _
              have RN2 := Lib.hid (RN.out.next HADD.out (jadd_sum J3 x.frm x.p) h5 h6 hb6 ho7)
              have OW2 := Lib.hid (show Only (fun j => M ≤ j) wr w7 from Only.undrew (only_up _ _ _ h36 ho7))
              obtain ⟨J2, hJ2⟩ : ∃ J2, (jadd J3 x.frm x.p).1 = J2 := ⟨_, rfl⟩
              rw [hJ2] at RN2
              simp only [hJ2]
              clear h3 h4 h5 hb6 h6 h36 ho7 HADD hJ2
              have HAK2 := Lib.hid (HAK.out.only OW2.out (fun j hj h => by have := HS.out j hj; have := HNM.out; omega))
              go_wp2_with fail
              refine wp_region_N Noth (by kernel_rfl) ?_
              refine wpN_take (i := 0) (d := some 65) rfl rfl (by kernel_rfl) (by kernel_rfl) (by kernel_rfl) (fun _ _ _ h => h) (sure_value (v := .bool true) (by rfl) (fun v1 h1 => by first | rfl | (go_simp; done) | (go_simp; intro h9; exact absurd h9 (by omega)) | (go_simp; assumption))) (Only.refl _ _) ?_
              simp only [Act.put, List.setIfInBounds_toArray, List.set_cons_zero, List.set_cons_succ]
              refine wpN_take (i := 1) (d := some 66) rfl rfl (by kernel_rfl) (by kernel_rfl) (by kernel_rfl) (fun _ _ _ h => h) (sure_value (v := .bool false) (by rfl) (fun v1 h1 => by first | rfl | (go_simp; done) | (go_simp; intro h9; exact absurd h9 (by omega)) | (go_simp; assumption))) (Only.refl _ _) ?_
              simp only [Act.put, List.setIfInBounds_toArray, List.set_cons_zero, List.set_cons_succ]
              refine wpN_take (i := 2) (d := some 67) rfl rfl (by kernel_rfl) (by kernel_rfl) (by kernel_rfl) (fun _ _ _ h => h) (sure_value (v := .bool false) (by rfl) (fun v1 h1 => by first | rfl | (go_simp; done) | (go_simp; intro h9; exact absurd h9 (by omega)) | (go_simp; assumption))) (Only.refl _ _) ?_
              simp only [Act.put, List.setIfInBounds_toArray, List.set_cons_zero, List.set_cons_succ]
              refine wpN_take (i := 3) (d := some 68) rfl rfl (by kernel_rfl) (by kernel_rfl) (by kernel_rfl) (fun _ _ _ h => h) (sure_value (v := .pointer (some ⟨p, 0, none⟩)) (by rfl) (fun v1 h1 => by first | rfl | (go_simp; done) | (go_simp; intro h9; exact absurd h9 (by omega)) | (go_simp; assumption))) (Only.refl _ _) ?_
              simp only [Act.put, List.setIfInBounds_toArray, List.set_cons_zero, List.set_cons_succ]
              refine wpN_take (i := 4) (d := some 69) rfl rfl (by kernel_rfl) (by kernel_rfl) (by kernel_rfl) (fun _ _ _ h => h) (sure_pair RN2.out.bx.drew (fun h => h) (by rfl) (fun _ h h2 => by go_simp)) (Only.refl _ _) ?_
              simp only [Act.put, List.setIfInBounds_toArray, List.set_cons_zero, List.set_cons_succ]
              refine wpN_take (i := 5) (d := some 70) rfl rfl (by kernel_rfl) (by kernel_rfl) (by kernel_rfl) (fun _ _ _ h => h) (sure_value (v := .slice (some ⟨ab, ao, none⟩) m e) (by rfl) (fun v1 h1 => by first | rfl | (go_simp; done) | (go_simp; intro h9; exact absurd h9 (by omega)) | (go_simp; assumption))) (Only.refl _ _) ?_
              simp only [Act.put, List.setIfInBounds_toArray, List.set_cons_zero, List.set_cons_succ]
              refine wpN_take (i := 6) (d := some 71) rfl rfl (by kernel_rfl) (by kernel_rfl) (by kernel_rfl) (fun _ _ _ h => h) (sure_value (v := .int .i64 (q : Int)) (by rfl) (fun v1 h1 => by first | rfl | (go_simp; done) | (go_simp; intro h9; exact absurd h9 (by omega)) | (go_simp; assumption))) (Only.refl _ _) ?_
              simp only [Act.put, List.setIfInBounds_toArray, List.set_cons_zero, List.set_cons_succ]
              refine wpN_take (i := 7) (d := some 72) rfl rfl (by kernel_rfl) (by kernel_rfl) (by kernel_rfl) (fun _ _ _ h => h) (sure_value (v := .pointer (some ⟨ab, ao + q * 5, none⟩)) (by rfl) (fun v1 h1 => by first | rfl | (go_simp; done) | (go_simp; intro h9; exact absurd h9 (by omega)) | (go_simp; assumption))) (Only.refl _ _) ?_
              simp only [Act.put, List.setIfInBounds_toArray, List.set_cons_zero, List.set_cons_succ]
              refine wpN_take (i := 8) (d := some 73) rfl rfl (by kernel_rfl) (by kernel_rfl) (by kernel_rfl) (fun _ _ _ h => h) (sure_value (v := .pointer (some ⟨ab, ao + q * 5, none⟩)) (by rfl) (fun v1 h1 => by first | rfl | (go_simp; done) | (go_simp; intro h9; exact absurd h9 (by omega)) | (go_simp; assumption))) (Only.refl _ _) ?_
              simp only [Act.put, List.setIfInBounds_toArray, List.set_cons_zero, List.set_cons_succ]
              refine wpN_take (i := 9) (d := some 74) rfl rfl (by kernel_rfl) (by kernel_rfl) (by kernel_rfl) (fun _ _ _ h => h) (sure_cellv (v := .int .u16 x.frm) HAK2.out.c0 HAK2.out.lt (fun h => h) (by rfl) (fun _ h => by go_simp)) (Only.refl _ _) ?_
              simp only [Act.put, List.setIfInBounds_toArray, List.set_cons_zero, List.set_cons_succ]
              refine wpN_take (i := 10) (d := some 75) rfl rfl (by kernel_rfl) (by kernel_rfl) (by kernel_rfl) (fun _ _ _ h => h) (sure_value (v := .slice (some ⟨ab, ao, none⟩) m e) (by rfl) (fun v1 h1 => by first | rfl | (go_simp; done) | (go_simp; intro h9; exact absurd h9 (by omega)) | (go_simp; assumption))) (Only.refl _ _) ?_
              simp only [Act.put, List.setIfInBounds_toArray, List.set_cons_zero, List.set_cons_succ]
              refine wpN_take (i := 11) (d := some 76) rfl rfl (by kernel_rfl) (by kernel_rfl) (by kernel_rfl) (fun _ _ _ h => h) (sure_value (v := .int .i64 (q : Int)) (by rfl) (fun v1 h1 => by first | rfl | (go_simp; done) | (go_simp; intro h9; exact absurd h9 (by omega)) | (go_simp; assumption))) (Only.refl _ _) ?_
              simp only [Act.put, List.setIfInBounds_toArray, List.set_cons_zero, List.set_cons_succ]
              refine wpN_take (i := 12) (d := some 77) rfl rfl (by kernel_rfl) (by kernel_rfl) (by kernel_rfl) (fun _ _ _ h => h) (sure_value (v := .pointer (some ⟨ab, ao + q * 5, none⟩)) (by rfl) (fun v1 h1 => by first | rfl | (go_simp; done) | (go_simp; intro h9; exact absurd h9 (by omega)) | (go_simp; assumption))) (Only.refl _ _) ?_
              simp only [Act.put, List.setIfInBounds_toArray, List.set_cons_zero, List.set_cons_succ]
              refine wpN_take (i := 13) (d := some 78) rfl rfl (by kernel_rfl) (by kernel_rfl) (by kernel_rfl) (fun _ _ _ h => h) (sure_value (v := .pointer (some ⟨ab, ao + q * 5 + 1, none⟩)) (by rfl) (fun v1 h1 => by first | rfl | (go_simp; done) | (go_simp; intro h9; exact absurd h9 (by omega)) | (go_simp; assumption))) (Only.refl _ _) ?_
              simp only [Act.put, List.setIfInBounds_toArray, List.set_cons_zero, List.set_cons_succ]
              refine wpN_take (i := 14) (d := some 79) rfl rfl (by kernel_rfl) (by kernel_rfl) (by kernel_rfl) (fun _ _ _ h => h) (sure_value (v := .pointer (some ⟨ab, ao + q * 5 + 1, none⟩)) (by rfl) (fun v1 h1 => by first | rfl | (go_simp; done) | (go_simp; intro h9; exact absurd h9 (by omega)) | (go_simp; assumption))) (Only.refl _ _) ?_
              simp only [Act.put, List.setIfInBounds_toArray, List.set_cons_zero, List.set_cons_succ]
              refine wpN_take (i := 15) (d := some 80) rfl rfl (by kernel_rfl) (by kernel_rfl) (by kernel_rfl) (fun _ _ _ h => h) (sure_cellv (v := .int .i64 x.p.id) HAK2.out.c1 HAK2.out.lt (fun h => h) (by rfl) (fun _ h => by go_simp)) (Only.refl _ _) ?_
              simp only [Act.put, List.setIfInBounds_toArray, List.set_cons_zero, List.set_cons_succ]
              refine wpN_take (i := 16) (d := some 81) rfl rfl (by kernel_rfl) (by kernel_rfl) (by kernel_rfl) (fun _ _ _ h => h) (sure_call (v := .bool true) (fun w' h' => (RN2.out.run.noth (Only.undrew h')).same x.frm x.p.id) (by rfl) (fun _ => by go_simp)) (Only.refl _ _) ?_
              simp only [Act.put, List.setIfInBounds_toArray, List.set_cons_zero, List.set_cons_succ]
              refine wpN_take (i := 17) (d := some 82) rfl rfl (by kernel_rfl) (by kernel_rfl) (by kernel_rfl) (fun _ _ _ h => h) (sure_value (v := .bool false) (by rfl) (fun v1 h1 => by first | rfl | (go_simp; done) | (go_simp; intro h9; exact absurd h9 (by omega)) | (go_simp; assumption))) (Only.refl _ _) ?_
              simp only [Act.put, List.setIfInBounds_toArray, List.set_cons_zero, List.set_cons_succ]
              refine wpN_take (i := 18) (d := some 83) rfl rfl (by kernel_rfl) (by kernel_rfl) (by kernel_rfl) (fun _ _ _ h => h) (sure_value (v := .bool false) (by rfl) (fun v1 h1 => by first | rfl | (go_simp; done) | (go_simp; intro h9; exact absurd h9 (by omega)) | (go_simp; assumption))) (Only.refl _ _) ?_
              simp only [Act.put, List.setIfInBounds_toArray, List.set_cons_zero, List.set_cons_succ]
              refine wpN_done (by kernel_rfl) (fun w8 ho8 => ?_) _
              have RN3 := Lib.hid (RN2.out.noth (Only.undrew ho8))
              have OE := Lib.hid (Only.undrew ho8)
              clear ho8
              go_wp2_with fail
              go_roundw
              case rel => exact ⟨q + 1, _, J2, by omega, by go_num, rfl, RN3.out, (OK.out.trans OW2.out (fun _ h _ => h)).tr OE.out⟩
              case measure => simp [RowKit.intOf]; omega
            · obtain rfl : q = m := by omega
              have RA1 := Lib.hid (RA.out.keep (M := M) ((OF.out.mono (fun _ h _ => h.elim)).trans OK.out (fun _ h _ => h)) (by rw [HMM.out]; exact Nat.le_refl _))
              have HX1 := Lib.hid (((HX.out.only O2.out (fun _ _ h => h)).only OKK.out (fun j hj h => by have := HS.out j hj; omega)).only ((OF.out.mono (fun _ h _ => h.elim)).trans OK.out (fun _ h _ => h)) (fun j hj h => by have := HS.out j hj; have := HWM.out; omega))
              have OTOT := Lib.hid (show Only (fun j => N ≤ j) w wr from ((O2.out.mono (fun _ h _ => h.elim)).trans OKK.out (fun _ h _ => h)).trans ((OF.out.mono (fun _ h _ => h.elim)).trans OK.out (fun j h _ => by have := HWM.out; omega)) (fun _ h _ => h))
              clear RN OK
              go_wp2_with fail
              go_loopw [12] (fun i W => ∃ j : Nat, j ≤ k ∧ i = .int .i64 (j : Int) ∧ Only Noth wr W) (fun i _ => k - (RowKit.intOf i).toNat)
              case atStart => exact ⟨0, Nat.zero_le _, rfl, Only.refl _ _⟩
              case round =>
                obtain ⟨j, hj, rfl, ho⟩ := hrel
                have OK := Lib.hid ho
                have hj0 : (0 : Int) ≤ j := by omega
                clear ho
                by_cases hjk : j < k
                · have hj1 : (j : Int) < k := by omega
                  obtain ⟨x, hx⟩ : ∃ x, xs[j]? = some x := ⟨_, List.getElem?_eq_getElem (by rw [HL.out]; exact hjk)⟩
                  obtain ⟨ab, ao, hA, hat⟩ := (HX1.out.only OK.out (fun _ _ h => h)) (by rw [HL.out]; omega)
                  have HAK2 := Lib.hid (hat j x hx)
                  subst hA
                  clear hx hat
                  have RB := Lib.hid (RA1.out.noth OK.out)
                  go_wp2_with fail
                  refine wp_region_N Noth (by kernel_rfl) ?_
                  refine wpN_take (i := 0) (d := some 90) rfl rfl (by kernel_rfl) (by kernel_rfl) (by kernel_rfl) (fun _ _ _ h => h) (sure_value (v := .pointer (some ⟨N, 0, none⟩)) (by rfl) (fun v1 h1 => by first | rfl | (go_simp; done) | (go_simp; intro h9; exact absurd h9 (by omega)) | (go_simp; assumption))) (Only.refl _ _) ?_
                  simp only [Act.put, List.setIfInBounds_toArray, List.set_cons_zero, List.set_cons_succ]
                  refine wpN_take (i := 1) (d := some 91) rfl rfl (by kernel_rfl) (by kernel_rfl) (by kernel_rfl) (fun _ _ _ h => h) (sure_pair RB.out.bx.drew (fun h => h) (by rfl) (fun _ h h2 => by go_simp)) (Only.refl _ _) ?_
                  simp only [Act.put, List.setIfInBounds_toArray, List.set_cons_zero, List.set_cons_succ]
                  refine wpN_take (i := 2) (d := some 92) rfl rfl (by kernel_rfl) (by kernel_rfl) (by kernel_rfl) (fun _ _ _ h => h) (sure_value (v := .slice (some ⟨ab, ao, none⟩) k c) (by rfl) (fun v1 h1 => by first | rfl | (go_simp; done) | (go_simp; intro h9; exact absurd h9 (by omega)) | (go_simp; assumption))) (Only.refl _ _) ?_
                  simp only [Act.put, List.setIfInBounds_toArray, List.set_cons_zero, List.set_cons_succ]
                  refine wpN_take (i := 3) (d := some 93) rfl rfl (by kernel_rfl) (by kernel_rfl) (by kernel_rfl) (fun _ _ _ h => h) (sure_value (v := .int .i64 (j : Int)) (by rfl) (fun v1 h1 => by first | rfl | (go_simp; done) | (go_simp; intro h9; exact absurd h9 (by omega)) | (go_simp; assumption))) (Only.refl _ _) ?_
                  simp only [Act.put, List.setIfInBounds_toArray, List.set_cons_zero, List.set_cons_succ]
                  refine wpN_take (i := 4) (d := some 94) rfl rfl (by kernel_rfl) (by kernel_rfl) (by kernel_rfl) (fun _ _ _ h => h) (sure_value (v := .pointer (some ⟨ab, ao + j * 5, none⟩)) (by rfl) (fun v1 h1 => by first | rfl | (go_simp; done) | (go_simp; intro h9; exact absurd h9 (by omega)) | (go_simp; assumption))) (Only.refl _ _) ?_
                  simp only [Act.put, List.setIfInBounds_toArray, List.set_cons_zero, List.set_cons_succ]
                  refine wpN_take (i := 5) (d := some 95) rfl rfl (by kernel_rfl) (by kernel_rfl) (by kernel_rfl) (fun _ _ _ h => h) (sure_value (v := .pointer (some ⟨ab, ao + j * 5, none⟩)) (by rfl) (fun v1 h1 => by first | rfl | (go_simp; done) | (go_simp; intro h9; exact absurd h9 (by omega)) | (go_simp; assumption))) (Only.refl _ _) ?_
                  simp only [Act.put, List.setIfInBounds_toArray, List.set_cons_zero, List.set_cons_succ]
                  refine wpN_take (i := 6) (d := some 96) rfl rfl (by kernel_rfl) (by kernel_rfl) (by kernel_rfl) (fun _ _ _ h => h) (sure_cellv (v := .int .u16 x.frm) HAK2.out.c0 HAK2.out.lt (fun h => h) (by rfl) (fun _ h => by go_simp)) (Only.refl _ _) ?_
                  simp only [Act.put, List.setIfInBounds_toArray, List.set_cons_zero, List.set_cons_succ]
                  refine wpN_take (i := 7) (d := some 97) rfl rfl (by kernel_rfl) (by kernel_rfl) (by kernel_rfl) (fun _ _ _ h => h) (sure_value (v := .slice (some ⟨ab, ao, none⟩) k c) (by rfl) (fun v1 h1 => by first | rfl | (go_simp; done) | (go_simp; intro h9; exact absurd h9 (by omega)) | (go_simp; assumption))) (Only.refl _ _) ?_
                  simp only [Act.put, List.setIfInBounds_toArray, List.set_cons_zero, List.set_cons_succ]
                  refine wpN_take (i := 8) (d := some 98) rfl rfl (by kernel_rfl) (by kernel_rfl) (by kernel_rfl) (fun _ _ _ h => h) (sure_value (v := .int .i64 (j : Int)) (by rfl) (fun v1 h1 => by first | rfl | (go_simp; done) | (go_simp; intro h9; exact absurd h9 (by omega)) | (go_simp; assumption))) (Only.refl _ _) ?_
                  simp only [Act.put, List.setIfInBounds_toArray, List.set_cons_zero, List.set_cons_succ]
                  refine wpN_take (i := 9) (d := some 99) rfl rfl (by kernel_rfl) (by kernel_rfl) (by kernel_rfl) (fun _ _ _ h => h) (sure_value (v := .pointer (some ⟨ab, ao + j * 5, none⟩)) (by rfl) (fun v1 h1 => by first | rfl | (go_simp; done) | (go_simp; intro h9; exact absurd h9 (by omega)) | (go_simp; assumption))) (Only.refl _ _) ?_
                  simp only [Act.put, List.setIfInBounds_toArray, List.set_cons_zero, List.set_cons_succ]
                  refine wpN_take (i := 10) (d := some 100) rfl rfl (by kernel_rfl) (by kernel_rfl) (by kernel_rfl) (fun _ _ _ h => h) (sure_value (v := .pointer (some ⟨ab, ao + j * 5 + 1, none⟩)) (by rfl) (fun v1 h1 => by first | rfl | (go_simp; done) | (go_simp; intro h9; exact absurd h9 (by omega)) | (go_simp; assumption))) (Only.refl _ _) ?_
                  simp only [Act.put, List.setIfInBounds_toArray, List.set_cons_zero, List.set_cons_succ]
                  refine wpN_take (i := 11) (d := some 101) rfl rfl (by kernel_rfl) (by kernel_rfl) (by kernel_rfl) (fun _ _ _ h => h) (sure_value (v := .pointer (some ⟨ab, ao + j * 5 + 1, none⟩)) (by rfl) (fun v1 h1 => by first | rfl | (go_simp; done) | (go_simp; intro h9; exact absurd h9 (by omega)) | (go_simp; assumption))) (Only.refl _ _) ?_
                  simp only [Act.put, List.setIfInBounds_toArray, List.set_cons_zero, List.set_cons_succ]
                  refine wpN_take (i := 12) (d := some 102) rfl rfl (by kernel_rfl) (by kernel_rfl) (by kernel_rfl) (fun _ _ _ h => h) (sure_cellv (v := .int .i64 x.p.id) HAK2.out.c1 HAK2.out.lt (fun h => h) (by rfl) (fun _ h => by go_simp)) (Only.refl _ _) ?_
                  simp only [Act.put, List.setIfInBounds_toArray, List.set_cons_zero, List.set_cons_succ]
                  refine wpN_take (i := 13) (d := some 103) rfl rfl (by kernel_rfl) (by kernel_rfl) (by kernel_rfl) (fun _ _ _ h => h) (sure_call (v := .bool true) (fun w' h' => (RB.out.noth (Only.undrew h')).same x.frm x.p.id) (by rfl) (fun _ => by go_simp)) (Only.refl _ _) ?_
                  simp only [Act.put, List.setIfInBounds_toArray, List.set_cons_zero, List.set_cons_succ]
                  refine wpN_take (i := 14) (d := some 104) rfl rfl (by kernel_rfl) (by kernel_rfl) (by kernel_rfl) (fun _ _ _ h => h) (sure_value (v := .bool false) (by rfl) (fun v1 h1 => by first | rfl | (go_simp; done) | (go_simp; intro h9; exact absurd h9 (by omega)) | (go_simp; assumption))) (Only.refl _ _) ?_
                  simp only [Act.put, List.setIfInBounds_toArray, List.set_cons_zero, List.set_cons_succ]
                  refine wpN_done (by kernel_rfl) (fun w8 ho8 => ?_) _
                  have OE := Lib.hid (Only.undrew ho8)
                  clear ho8
                  go_wp2_with fail
                  go_roundw
                  case rel => exact ⟨j + 1, by omega, by go_num, OK.out.tr OE.out⟩
                  case measure => simp [RowKit.intOf]; omega
                · obtain rfl : j = k := by omega
                  go_wp2_with fail
                  refine (nil_add _ 1 ⟨0, 0, 1, []⟩ (.slice none 0 0)).mono ?_
                  rintro e w20 ⟨rfl, ho⟩
                  have P1 := Lib.hid ho
                  clear ho
                  go_wp2_with fail
                  refine (nil_missing _ 1 1).mono ?_
                  rintro e w21 ⟨rfl, ho⟩
                  have P2 := Lib.hid (P1.out.tr ho)
                  clear ho
                  go_wp2_with fail
                  refine (nil_open _).mono ?_
                  rintro e w22 ⟨rfl, ho⟩
                  have P3 := Lib.hid (P2.out.tr ho)
                  clear ho
                  go_wp2_with fail
                  refine (nil_lost _).mono ?_
                  rintro e w23 ⟨rfl, ho⟩
                  have P4 := Lib.hid (P3.out.tr ho)
                  clear ho
                  go_wp2_with fail
                  refine (nil_fork _).mono ?_
                  rintro e w24 ⟨rfl, ho⟩
                  have P5 := Lib.hid (P4.out.tr ho)
                  clear ho
                  go_wp2_with fail
                  refine (awake_run _).mono ?_
                  rintro e w25 ⟨rfl, ho⟩
                  have P6 := Lib.hid (P5.out.tr ho)
                  clear ho
                  go_wp2
                  go_ret
                  refine ⟨rfl, ?_⟩
                  rw [HNN.out]
                  exact ((OTOT.out.tr OK.out).tr P6.out).below (by rw [← HNN.out]; exact Nat.le_refl _) (fun _ h => h)
end Go.Proofs.Ytemeglofblnnmaa
