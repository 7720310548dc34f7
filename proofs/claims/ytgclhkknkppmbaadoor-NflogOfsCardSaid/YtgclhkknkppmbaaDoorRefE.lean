/- Package nflog as the document has it: Key, Entry. -/
import Derived.Test.YtgclhkknkppmbaaDoorNflB
import Derived.Test.YtgclhkknkppmbaaDoorRefL
namespace Go.Proofs.YtgclhkknkppmbaaDoor
open Go.RowKit Go.Lib
set_option linter.unusedVariables false
set_option maxRecDepth 100000
attribute [local go_sem ↓] Go.wp_at_zero Go.wp_at_succ

theorem ref_nkey (r g : ByteArray) (hs : r.size + g.size ≤ 140737488355000) (w : World) :
    Calls Tryd.prog 26 #[.string r, .string g] w fun e w' => e = .returned (.string ⟨(nKey r.data.toList g.data.toList).toArray⟩) ∧ Only Noth w w' := by
  have HS := Lib.hid hs
  have hr : r.size ≤ 140737488355300 := by omega
  have hg : g.size ≤ 140737488355300 := by omega
  have l1 := itoa_len20 (r.data.toList.length : Int) (by omega) (by have : r.data.toList.length = r.size := rfl; omega)
  have l2 := itoa_len20 (g.data.toList.length : Int) (by omega) (by have : g.data.toList.length = g.size := rfl; omega)
  have HL := Lib.hid (show ([tText r.data.toList, tText g.data.toList].flatten).length + 2 ≤ 140737488355328 by
    have e1 : r.data.toList.length = r.size := rfl
    have e2 : g.data.toList.length = g.size := rfl
    simp only [List.flatten_cons, List.flatten_nil, List.length_append, List.length_nil, tText_length]
    omega)
  have HR := Lib.hid hr
  have HG := Lib.hid hg
  clear hs hr hg l1 l2
  go_enter Tryd.func26, Tryd.ntmps26
  go_wp2_with fail
  refine (ref_text r HR.out _).mono ?_
  rintro e w1 ⟨A, c, rfl, hp, ho⟩
  have P1 := Lib.hid ((Parts.nil w1).snoc hp)
  have O1 := Lib.hid ho
  clear hp ho
  go_wp2_with fail
  refine (ref_text g HG.out _).mono ?_
  rintro e w2 ⟨A2, c2, rfl, hp, ho⟩
  have P2 := Lib.hid ((P1.out.noth ho).snoc hp)
  have O2 := Lib.hid (O1.out.tr ho)
  clear hp ho
  go_wp2_with fail
  refine (ref_list _ _ _ [tText r.data.toList, tText g.data.toList] _ (srcb_new _ 53 _ 2 rfl _ (by simp)) (P2.out.noth ((Only.refl Noth _).alloc _)) (Nat.le_refl _) (by simp) HL.out).mono ?_
  rintro e w3 hg
  obtain ⟨l, hl⟩ : ∃ l, l = tList [tText r.data.toList, tText g.data.toList] := ⟨_, rfl⟩
  rw [← hl] at hg
  obtain ⟨A3, c3, rfl, hp, ho⟩ := hg
  have hcv := hp.conv
  have HLL := Lib.hid (show ByteArray.mk (nKey r.data.toList g.data.toList).toArray = ByteArray.mk (110 :: l).toArray by rw [hl]; rfl)
  have O3 := Lib.hid ((O2.out.alloc _).tr ho)
  have hll : l.length ≤ 140737488355328 := by
    have := HL.out
    rw [hl]
    simp only [tList, List.length_cons, List.length_append, List.length_nil]
    omega
  have hl2 : (ByteArray.mk l.toArray).size = l.length := by show l.toArray.size = _; simp
  clear hp ho hl
  go_wp2_with fail
  go_ret
  refine ⟨?_, O3.out⟩
  rw [HLL.out]
  show Ending.returned (Value.string (ByteArray.mk #[110] ++ ByteArray.mk l.toArray)) = _
  rw [ByteArray.mk_append_mk]
  simp

section
variable (s : Snd) (o keep : Int) (hs : s.rcv.size + s.key.size ≤ 140737488355000) (hv : s.rev.size ≤ 9223372036854775807) (w : World)
include hs hv
theorem ref_ne_arg (h : s.rcv.toList = [] ∨ s.key.toList = []) :
    Calls Tryd.prog 24 #[.agg #[.string s.rcv, .string s.key, .string s.rev, .int .i64 s.at_], .int .u16 o, .int .i64 keep] w (EntPost w (z0, 2)) := by
  obtain ⟨K, hK⟩ : ∃ K, K = ByteArray.mk s.k.toArray := ⟨_, rfl⟩
  have HK := Lib.hid hK.symm
  have HKS := Lib.hid (show (K.size : Int) = s.k.length by rw [hK]; show ((s.k.toArray.size : Nat) : Int) = _; simp)
  have HA := Lib.hid ((Hld.new w 35 #[.string s.rcv, .string s.key, .string s.rev, .int .i64 s.at_]).alloc (.cells #[.string ⟨#[]⟩, .int .i64 0, .int .u16 0, .string ⟨#[]⟩, .int .i64 0] 24))
  have HR := Lib.hid (Hld.at_ (w.alloc (.cells #[.string s.rcv, .string s.key, .string s.rev, .int .i64 s.at_] 35)) 24 #[.string ⟨#[]⟩, .int .i64 0, .int .u16 0, .string ⟨#[]⟩, .int .i64 0] (w.heap.size + 1) (by simp))
  have HS := Lib.hid hs
  have hv2 : (s.rev.size : Int) ≤ 9223372036854775807 := by omega
  have hk2 : (K.size : Int) ≤ 9223372036854775807 := by
    rw [HKS.out]
    have e1 : s.rcv.data.toList.length = s.rcv.size := rfl
    have e2 : s.key.data.toList.length = s.key.size := rfl
    have l1 := itoa_len20 (s.rcv.data.toList.length : Int) (by omega) (by omega)
    have l2 := itoa_len20 (s.key.data.toList.length : Int) (by omega) (by omega)
    simp only [Snd.k, nKey, tList, List.length_cons, List.flatten_cons, List.flatten_nil, List.length_append, List.length_nil, tText_length]
    omega
  clear hK hs hv
  rcases h with h | h
  · go_enter Tryd.func24, Tryd.ntmps24
    go_wp2_with (first | (go_at_call 26; refine (ref_nkey s.rcv s.key HS.out _).mono ?_; rintro e w1 ⟨rfl, ho⟩; rw [show ByteArray.mk (nKey s.rcv.data.toList s.key.data.toList).toArray = K from HK.out]; have HA1 := Lib.hid (HA.out.only ho (fun h => h)); have c0 := HA1.out.cell 0; have c1 := HA1.out.cell 1; have c2 := HA1.out.cell 2; have c3 := HA1.out.cell 3; simp at c0 c1 c2 c3; have HO := Lib.hid ho; clear ho) | (refine wpList_store_whole rfl rfl 24 (.tmp 6) (.tmp 23) rfl (w.heap.size + 1) rfl _ rfl 24 _ (HR.out.only HO.out (fun h => h)) rfl (by simp [Value.oneCell']) (by kernel_rfl) ?_; intro w3 gb ho3 _; obtain ⟨y0, y1, y2, y3, y4⟩ := gb.five; have HO3 := Lib.hid ho3; clear gb ho3))
    refine bodyPost_ret (v := .tuple #[.agg #[.string ⟨#[]⟩, .int .i64 0, .int .u16 0, .string ⟨#[]⟩, .int .i64 0], .int .i64 2]) (by simp [results, Tryd.results24, go_sem, y0, y1, y2, y3, y4]) rfl ⟨rfl, ?_⟩
    exact ((((Only.refl _ _).alloc _).alloc _).tr HO.out).trans HO3.out (fun j hj hl => absurd hl (by rw [hj]; omega))
  · by_cases h1 : s.rcv.toList = []
    · go_enter Tryd.func24, Tryd.ntmps24
      go_wp2_with (first | (go_at_call 26; refine (ref_nkey s.rcv s.key HS.out _).mono ?_; rintro e w1 ⟨rfl, ho⟩; rw [show ByteArray.mk (nKey s.rcv.data.toList s.key.data.toList).toArray = K from HK.out]; have HA1 := Lib.hid (HA.out.only ho (fun h => h)); have c0 := HA1.out.cell 0; have c1 := HA1.out.cell 1; have c2 := HA1.out.cell 2; have c3 := HA1.out.cell 3; simp at c0 c1 c2 c3; have HO := Lib.hid ho; clear ho) | (refine wpList_store_whole rfl rfl 24 (.tmp 6) (.tmp 23) rfl (w.heap.size + 1) rfl _ rfl 24 _ (HR.out.only HO.out (fun h => h)) rfl (by simp [Value.oneCell']) (by kernel_rfl) ?_; intro w3 gb ho3 _; obtain ⟨y0, y1, y2, y3, y4⟩ := gb.five; have HO3 := Lib.hid ho3; clear gb ho3))
      refine bodyPost_ret (v := .tuple #[.agg #[.string ⟨#[]⟩, .int .i64 0, .int .u16 0, .string ⟨#[]⟩, .int .i64 0], .int .i64 2]) (by simp [results, Tryd.results24, go_sem, y0, y1, y2, y3, y4]) rfl ⟨rfl, ?_⟩
      exact ((((Only.refl _ _).alloc _).alloc _).tr HO.out).trans HO3.out (fun j hj hl => absurd hl (by rw [hj]; omega))
    · have h2 : s.rcv.toList.isEmpty = false := by rw [List.isEmpty_eq_false_iff]; exact h1
      go_enter Tryd.func24, Tryd.ntmps24
      go_wp2_with (first | (go_at_call 26; refine (ref_nkey s.rcv s.key HS.out _).mono ?_; rintro e w1 ⟨rfl, ho⟩; rw [show ByteArray.mk (nKey s.rcv.data.toList s.key.data.toList).toArray = K from HK.out]; have HA1 := Lib.hid (HA.out.only ho (fun h => h)); have c0 := HA1.out.cell 0; have c1 := HA1.out.cell 1; have c2 := HA1.out.cell 2; have c3 := HA1.out.cell 3; simp at c0 c1 c2 c3; have HO := Lib.hid ho; clear ho) | (refine wpList_store_whole rfl rfl 24 (.tmp 6) (.tmp 23) rfl (w.heap.size + 1) rfl _ rfl 24 _ (HR.out.only HO.out (fun h => h)) rfl (by simp [Value.oneCell']) (by kernel_rfl) ?_; intro w3 gb ho3 _; obtain ⟨y0, y1, y2, y3, y4⟩ := gb.five; have HO3 := Lib.hid ho3; clear gb ho3))
      refine bodyPost_ret (v := .tuple #[.agg #[.string ⟨#[]⟩, .int .i64 0, .int .u16 0, .string ⟨#[]⟩, .int .i64 0], .int .i64 2]) (by simp [results, Tryd.results24, go_sem, y0, y1, y2, y3, y4]) rfl ⟨rfl, ?_⟩
      exact ((((Only.refl _ _).alloc _).alloc _).tr HO.out).trans HO3.out (fun j hj hl => absurd hl (by rw [hj]; omega))
theorem ref_ne_long (h1 : ¬ s.rcv.toList = []) (h2 : ¬ s.key.toList = []) (h : 1024 < s.k.length ∨ 8192 < s.rev.size) :
    Calls Tryd.prog 24 #[.agg #[.string s.rcv, .string s.key, .string s.rev, .int .i64 s.at_], .int .u16 o, .int .i64 keep] w (EntPost w (z0, 5)) := by
  obtain ⟨K, hK⟩ : ∃ K, K = ByteArray.mk s.k.toArray := ⟨_, rfl⟩
  have HK := Lib.hid hK.symm
  have HKS := Lib.hid (show (K.size : Int) = s.k.length by rw [hK]; show ((s.k.toArray.size : Nat) : Int) = _; simp)
  have HA := Lib.hid ((Hld.new w 35 #[.string s.rcv, .string s.key, .string s.rev, .int .i64 s.at_]).alloc (.cells #[.string ⟨#[]⟩, .int .i64 0, .int .u16 0, .string ⟨#[]⟩, .int .i64 0] 24))
  have HR := Lib.hid (Hld.at_ (w.alloc (.cells #[.string s.rcv, .string s.key, .string s.rev, .int .i64 s.at_] 35)) 24 #[.string ⟨#[]⟩, .int .i64 0, .int .u16 0, .string ⟨#[]⟩, .int .i64 0] (w.heap.size + 1) (by simp))
  have HS := Lib.hid hs
  have hv2 : (s.rev.size : Int) ≤ 9223372036854775807 := by omega
  have hk2 : (K.size : Int) ≤ 9223372036854775807 := by
    rw [HKS.out]
    have e1 : s.rcv.data.toList.length = s.rcv.size := rfl
    have e2 : s.key.data.toList.length = s.key.size := rfl
    have l1 := itoa_len20 (s.rcv.data.toList.length : Int) (by omega) (by omega)
    have l2 := itoa_len20 (s.key.data.toList.length : Int) (by omega) (by omega)
    simp only [Snd.k, nKey, tList, List.length_cons, List.flatten_cons, List.flatten_nil, List.length_append, List.length_nil, tText_length]
    omega
  clear hK hs hv
  have e1 : s.rcv.toList.isEmpty = false := by rw [List.isEmpty_eq_false_iff]; exact h1
  have e2 : s.key.toList.isEmpty = false := by rw [List.isEmpty_eq_false_iff]; exact h2
  rcases h with h | h
  · have g1 : (1024 : Int) < K.size := by rw [HKS.out]; omega
    clear h
    go_enter Tryd.func24, Tryd.ntmps24
    go_wp2_with (first | (go_at_call 26; refine (ref_nkey s.rcv s.key HS.out _).mono ?_; rintro e w1 ⟨rfl, ho⟩; rw [show ByteArray.mk (nKey s.rcv.data.toList s.key.data.toList).toArray = K from HK.out]; have HA1 := Lib.hid (HA.out.only ho (fun h => h)); have c0 := HA1.out.cell 0; have c1 := HA1.out.cell 1; have c2 := HA1.out.cell 2; have c3 := HA1.out.cell 3; simp at c0 c1 c2 c3; have HO := Lib.hid ho; clear ho) | (refine wpList_store_whole rfl rfl 24 (.tmp 6) (.tmp 34) rfl (w.heap.size + 1) rfl _ rfl 24 _ (HR.out.only HO.out (fun h => h)) rfl (by simp [Value.oneCell']) (by kernel_rfl) ?_; intro w3 gb ho3 _; obtain ⟨y0, y1, y2, y3, y4⟩ := gb.five; have HO3 := Lib.hid ho3; clear gb ho3))
    refine bodyPost_ret (v := .tuple #[.agg #[.string ⟨#[]⟩, .int .i64 0, .int .u16 0, .string ⟨#[]⟩, .int .i64 0], .int .i64 5]) (by simp [results, Tryd.results24, go_sem, y0, y1, y2, y3, y4]) rfl ⟨rfl, ?_⟩
    exact ((((Only.refl _ _).alloc _).alloc _).tr HO.out).trans HO3.out (fun j hj hl => absurd hl (by rw [hj]; omega))
  · have g0 : (8192 : Int) < s.rev.size := by omega
    clear h
    by_cases g1 : (1024 : Int) < K.size
    · go_enter Tryd.func24, Tryd.ntmps24
      go_wp2_with (first | (go_at_call 26; refine (ref_nkey s.rcv s.key HS.out _).mono ?_; rintro e w1 ⟨rfl, ho⟩; rw [show ByteArray.mk (nKey s.rcv.data.toList s.key.data.toList).toArray = K from HK.out]; have HA1 := Lib.hid (HA.out.only ho (fun h => h)); have c0 := HA1.out.cell 0; have c1 := HA1.out.cell 1; have c2 := HA1.out.cell 2; have c3 := HA1.out.cell 3; simp at c0 c1 c2 c3; have HO := Lib.hid ho; clear ho) | (refine wpList_store_whole rfl rfl 24 (.tmp 6) (.tmp 34) rfl (w.heap.size + 1) rfl _ rfl 24 _ (HR.out.only HO.out (fun h => h)) rfl (by simp [Value.oneCell']) (by kernel_rfl) ?_; intro w3 gb ho3 _; obtain ⟨y0, y1, y2, y3, y4⟩ := gb.five; have HO3 := Lib.hid ho3; clear gb ho3))
      refine bodyPost_ret (v := .tuple #[.agg #[.string ⟨#[]⟩, .int .i64 0, .int .u16 0, .string ⟨#[]⟩, .int .i64 0], .int .i64 5]) (by simp [results, Tryd.results24, go_sem, y0, y1, y2, y3, y4]) rfl ⟨rfl, ?_⟩
      exact ((((Only.refl _ _).alloc _).alloc _).tr HO.out).trans HO3.out (fun j hj hl => absurd hl (by rw [hj]; omega))
    · have g2 : decide ((1024 : Int) < K.size) = false := by simpa using g1
      go_enter Tryd.func24, Tryd.ntmps24
      go_wp2_with (first | (go_at_call 26; refine (ref_nkey s.rcv s.key HS.out _).mono ?_; rintro e w1 ⟨rfl, ho⟩; rw [show ByteArray.mk (nKey s.rcv.data.toList s.key.data.toList).toArray = K from HK.out]; have HA1 := Lib.hid (HA.out.only ho (fun h => h)); have c0 := HA1.out.cell 0; have c1 := HA1.out.cell 1; have c2 := HA1.out.cell 2; have c3 := HA1.out.cell 3; simp at c0 c1 c2 c3; have HO := Lib.hid ho; clear ho) | (refine wpList_store_whole rfl rfl 24 (.tmp 6) (.tmp 34) rfl (w.heap.size + 1) rfl _ rfl 24 _ (HR.out.only HO.out (fun h => h)) rfl (by simp [Value.oneCell']) (by kernel_rfl) ?_; intro w3 gb ho3 _; obtain ⟨y0, y1, y2, y3, y4⟩ := gb.five; have HO3 := Lib.hid ho3; clear gb ho3))
      refine bodyPost_ret (v := .tuple #[.agg #[.string ⟨#[]⟩, .int .i64 0, .int .u16 0, .string ⟨#[]⟩, .int .i64 0], .int .i64 5]) (by simp [results, Tryd.results24, go_sem, y0, y1, y2, y3, y4]) rfl ⟨rfl, ?_⟩
      exact ((((Only.refl _ _).alloc _).alloc _).tr HO.out).trans HO3.out (fun j hj hl => absurd hl (by rw [hj]; omega))
set_option maxHeartbeats 2000000 in
theorem ref_ne_time (h1 : ¬ s.rcv.toList = []) (h2 : ¬ s.key.toList = []) (h3 : ¬ 1024 < s.k.length) (h4 : ¬ 8192 < s.rev.size) (h : s.at_ < 0 ∨ keep < 0 ∨ 1099511627776 < s.at_ ∨ 1099511627776 - s.at_ < keep) (hk1 : -9223372036854775808 ≤ keep) (hk3 : keep ≤ 9223372036854775807) :
    Calls Tryd.prog 24 #[.agg #[.string s.rcv, .string s.key, .string s.rev, .int .i64 s.at_], .int .u16 o, .int .i64 keep] w (EntPost w (z0, 13)) := by
  obtain ⟨K, hK⟩ : ∃ K, K = ByteArray.mk s.k.toArray := ⟨_, rfl⟩
  have HK := Lib.hid hK.symm
  have HKS := Lib.hid (show (K.size : Int) = s.k.length by rw [hK]; show ((s.k.toArray.size : Nat) : Int) = _; simp)
  have HA := Lib.hid ((Hld.new w 35 #[.string s.rcv, .string s.key, .string s.rev, .int .i64 s.at_]).alloc (.cells #[.string ⟨#[]⟩, .int .i64 0, .int .u16 0, .string ⟨#[]⟩, .int .i64 0] 24))
  have HR := Lib.hid (Hld.at_ (w.alloc (.cells #[.string s.rcv, .string s.key, .string s.rev, .int .i64 s.at_] 35)) 24 #[.string ⟨#[]⟩, .int .i64 0, .int .u16 0, .string ⟨#[]⟩, .int .i64 0] (w.heap.size + 1) (by simp))
  have HS := Lib.hid hs
  have hv2 : (s.rev.size : Int) ≤ 9223372036854775807 := by omega
  have hk2 : (K.size : Int) ≤ 9223372036854775807 := by
    rw [HKS.out]
    have e1 : s.rcv.data.toList.length = s.rcv.size := rfl
    have e2 : s.key.data.toList.length = s.key.size := rfl
    have l1 := itoa_len20 (s.rcv.data.toList.length : Int) (by omega) (by omega)
    have l2 := itoa_len20 (s.key.data.toList.length : Int) (by omega) (by omega)
    simp only [Snd.k, nKey, tList, List.length_cons, List.flatten_cons, List.flatten_nil, List.length_append, List.length_nil, tText_length]
    omega
  clear hK hs hv
  have e1 : s.rcv.toList.isEmpty = false := by rw [List.isEmpty_eq_false_iff]; exact h1
  have e2 : s.key.toList.isEmpty = false := by rw [List.isEmpty_eq_false_iff]; exact h2
  have g1 : ¬ (1024 : Int) < K.size := by rw [HKS.out]; omega
  have g2 : decide ((1024 : Int) < K.size) = false := by simpa using g1
  have g3 : ¬ (8192 : Int) < s.rev.size := by omega
  have g4 : decide ((8192 : Int) < s.rev.size) = false := by simpa using g3
  have HH := Lib.hid h
  clear h h3 h4
  by_cases t1 : s.at_ < 0
  · have d1 : decide (s.at_ < 0) = true := by simp; omega
    go_enter Tryd.func24, Tryd.ntmps24
    go_wp2_with (first | (go_at_call 26; refine (ref_nkey s.rcv s.key HS.out _).mono ?_; rintro e w1 ⟨rfl, ho⟩; rw [show ByteArray.mk (nKey s.rcv.data.toList s.key.data.toList).toArray = K from HK.out]; have HA1 := Lib.hid (HA.out.only ho (fun h => h)); have c0 := HA1.out.cell 0; have c1 := HA1.out.cell 1; have c2 := HA1.out.cell 2; have c3 := HA1.out.cell 3; simp at c0 c1 c2 c3; have HO := Lib.hid ho; clear ho) | (refine wpList_store_whole rfl rfl 24 (.tmp 6) (.tmp 55) rfl (w.heap.size + 1) rfl _ rfl 24 _ (HR.out.only HO.out (fun h => h)) rfl (by simp [Value.oneCell']) (by kernel_rfl) ?_; intro w3 gb ho3 _; obtain ⟨y0, y1, y2, y3, y4⟩ := gb.five; have HO3 := Lib.hid ho3; clear gb ho3))
    refine bodyPost_ret (v := .tuple #[.agg #[.string ⟨#[]⟩, .int .i64 0, .int .u16 0, .string ⟨#[]⟩, .int .i64 0], .int .i64 13]) (by simp [results, Tryd.results24, go_sem, y0, y1, y2, y3, y4]) rfl ⟨rfl, ?_⟩
    exact ((((Only.refl _ _).alloc _).alloc _).tr HO.out).trans HO3.out (fun j hj hl => absurd hl (by rw [hj]; omega))
  · have d1 : decide (s.at_ < 0) = false := by simp; omega
    by_cases t2 : keep < 0
    · have d2 : decide (keep < 0) = true := by simp; omega
      go_enter Tryd.func24, Tryd.ntmps24
      go_wp2_with (first | (go_at_call 26; refine (ref_nkey s.rcv s.key HS.out _).mono ?_; rintro e w1 ⟨rfl, ho⟩; rw [show ByteArray.mk (nKey s.rcv.data.toList s.key.data.toList).toArray = K from HK.out]; have HA1 := Lib.hid (HA.out.only ho (fun h => h)); have c0 := HA1.out.cell 0; have c1 := HA1.out.cell 1; have c2 := HA1.out.cell 2; have c3 := HA1.out.cell 3; simp at c0 c1 c2 c3; have HO := Lib.hid ho; clear ho) | (refine wpList_store_whole rfl rfl 24 (.tmp 6) (.tmp 55) rfl (w.heap.size + 1) rfl _ rfl 24 _ (HR.out.only HO.out (fun h => h)) rfl (by simp [Value.oneCell']) (by kernel_rfl) ?_; intro w3 gb ho3 _; obtain ⟨y0, y1, y2, y3, y4⟩ := gb.five; have HO3 := Lib.hid ho3; clear gb ho3))
      refine bodyPost_ret (v := .tuple #[.agg #[.string ⟨#[]⟩, .int .i64 0, .int .u16 0, .string ⟨#[]⟩, .int .i64 0], .int .i64 13]) (by simp [results, Tryd.results24, go_sem, y0, y1, y2, y3, y4]) rfl ⟨rfl, ?_⟩
      exact ((((Only.refl _ _).alloc _).alloc _).tr HO.out).trans HO3.out (fun j hj hl => absurd hl (by rw [hj]; omega))
    · have d2 : decide (keep < 0) = false := by simp; omega
      by_cases t3 : 1099511627776 < s.at_
      · have d3 : decide (1099511627776 < s.at_) = true := by simp; omega
        go_enter Tryd.func24, Tryd.ntmps24
        go_wp2_with (first | (go_at_call 26; refine (ref_nkey s.rcv s.key HS.out _).mono ?_; rintro e w1 ⟨rfl, ho⟩; rw [show ByteArray.mk (nKey s.rcv.data.toList s.key.data.toList).toArray = K from HK.out]; have HA1 := Lib.hid (HA.out.only ho (fun h => h)); have c0 := HA1.out.cell 0; have c1 := HA1.out.cell 1; have c2 := HA1.out.cell 2; have c3 := HA1.out.cell 3; simp at c0 c1 c2 c3; have HO := Lib.hid ho; clear ho) | (refine wpList_store_whole rfl rfl 24 (.tmp 6) (.tmp 55) rfl (w.heap.size + 1) rfl _ rfl 24 _ (HR.out.only HO.out (fun h => h)) rfl (by simp [Value.oneCell']) (by kernel_rfl) ?_; intro w3 gb ho3 _; obtain ⟨y0, y1, y2, y3, y4⟩ := gb.five; have HO3 := Lib.hid ho3; clear gb ho3))
        refine bodyPost_ret (v := .tuple #[.agg #[.string ⟨#[]⟩, .int .i64 0, .int .u16 0, .string ⟨#[]⟩, .int .i64 0], .int .i64 13]) (by simp [results, Tryd.results24, go_sem, y0, y1, y2, y3, y4]) rfl ⟨rfl, ?_⟩
        exact ((((Only.refl _ _).alloc _).alloc _).tr HO.out).trans HO3.out (fun j hj hl => absurd hl (by rw [hj]; omega))
      · have d3 : decide (1099511627776 < s.at_) = false := by simp; omega
        have t4 : 1099511627776 - s.at_ < keep := by rcases HH.out with h | h | h | h; exact absurd h t1; exact absurd h t2; exact absurd h t3; exact h
        have d4 : decide (1099511627776 - s.at_ < keep) = true := by simp; omega
        go_enter Tryd.func24, Tryd.ntmps24
        go_wp2_with (first | (go_at_call 26; refine (ref_nkey s.rcv s.key HS.out _).mono ?_; rintro e w1 ⟨rfl, ho⟩; rw [show ByteArray.mk (nKey s.rcv.data.toList s.key.data.toList).toArray = K from HK.out]; have HA1 := Lib.hid (HA.out.only ho (fun h => h)); have c0 := HA1.out.cell 0; have c1 := HA1.out.cell 1; have c2 := HA1.out.cell 2; have c3 := HA1.out.cell 3; simp at c0 c1 c2 c3; have HO := Lib.hid ho; clear ho) | (refine wpList_store_whole rfl rfl 24 (.tmp 6) (.tmp 55) rfl (w.heap.size + 1) rfl _ rfl 24 _ (HR.out.only HO.out (fun h => h)) rfl (by simp [Value.oneCell']) (by kernel_rfl) ?_; intro w3 gb ho3 _; obtain ⟨y0, y1, y2, y3, y4⟩ := gb.five; have HO3 := Lib.hid ho3; clear gb ho3))
        refine bodyPost_ret (v := .tuple #[.agg #[.string ⟨#[]⟩, .int .i64 0, .int .u16 0, .string ⟨#[]⟩, .int .i64 0], .int .i64 13]) (by simp [results, Tryd.results24, go_sem, y0, y1, y2, y3, y4]) rfl ⟨rfl, ?_⟩
        exact ((((Only.refl _ _).alloc _).alloc _).tr HO.out).trans HO3.out (fun j hj hl => absurd hl (by rw [hj]; omega))
set_option maxHeartbeats 2000000 in
theorem ref_ne_ok (h1 : ¬ s.rcv.toList = []) (h2 : ¬ s.key.toList = []) (h3 : ¬ 1024 < s.k.length) (h4 : ¬ 8192 < s.rev.size) (t1 : 0 ≤ s.at_) (t2 : 0 ≤ keep) (t3 : s.at_ ≤ 1099511627776) (t4 : keep ≤ 1099511627776 - s.at_) :
    Calls Tryd.prog 24 #[.agg #[.string s.rcv, .string s.key, .string s.rev, .int .i64 s.at_], .int .u16 o, .int .i64 keep] w (EntPost w (⟨⟨s.k.toArray⟩, s.at_, o, s.rev, s.at_ + keep⟩, 0)) := by
  obtain ⟨K, hK⟩ : ∃ K, K = ByteArray.mk s.k.toArray := ⟨_, rfl⟩
  have HK := Lib.hid hK.symm
  have HKS := Lib.hid (show (K.size : Int) = s.k.length by rw [hK]; show ((s.k.toArray.size : Nat) : Int) = _; simp)
  have HA := Lib.hid ((Hld.new w 35 #[.string s.rcv, .string s.key, .string s.rev, .int .i64 s.at_]).alloc (.cells #[.string ⟨#[]⟩, .int .i64 0, .int .u16 0, .string ⟨#[]⟩, .int .i64 0] 24))
  have HR := Lib.hid (Hld.at_ (w.alloc (.cells #[.string s.rcv, .string s.key, .string s.rev, .int .i64 s.at_] 35)) 24 #[.string ⟨#[]⟩, .int .i64 0, .int .u16 0, .string ⟨#[]⟩, .int .i64 0] (w.heap.size + 1) (by simp))
  have HS := Lib.hid hs
  have hv2 : (s.rev.size : Int) ≤ 9223372036854775807 := by omega
  have hk2 : (K.size : Int) ≤ 9223372036854775807 := by
    rw [HKS.out]
    have e1 : s.rcv.data.toList.length = s.rcv.size := rfl
    have e2 : s.key.data.toList.length = s.key.size := rfl
    have l1 := itoa_len20 (s.rcv.data.toList.length : Int) (by omega) (by omega)
    have l2 := itoa_len20 (s.key.data.toList.length : Int) (by omega) (by omega)
    simp only [Snd.k, nKey, tList, List.length_cons, List.flatten_cons, List.flatten_nil, List.length_append, List.length_nil, tText_length]
    omega
  clear hK hs hv
  have e1 : s.rcv.toList.isEmpty = false := by rw [List.isEmpty_eq_false_iff]; exact h1
  have e2 : s.key.toList.isEmpty = false := by rw [List.isEmpty_eq_false_iff]; exact h2
  have g1 : ¬ (1024 : Int) < K.size := by rw [HKS.out]; omega
  have g2 : decide ((1024 : Int) < K.size) = false := by simpa using g1
  have g3 : ¬ (8192 : Int) < s.rev.size := by omega
  have g4 : decide ((8192 : Int) < s.rev.size) = false := by simpa using g3
  have d1 : decide (s.at_ < 0) = false := by simp; omega
  have d2 : decide (keep < 0) = false := by simp; omega
  have d3 : decide (1099511627776 < s.at_) = false := by simp; omega
  have d4 : decide (1099511627776 - s.at_ < keep) = false := by simp; omega
  rw [HK.out]
  clear h3 h4
  go_enter Tryd.func24, Tryd.ntmps24
  go_wp2_with (first | (go_at_call 26; refine (ref_nkey s.rcv s.key HS.out _).mono ?_; rintro e w1 ⟨rfl, ho⟩; rw [show ByteArray.mk (nKey s.rcv.data.toList s.key.data.toList).toArray = K from HK.out]; have HA1 := Lib.hid (HA.out.only ho (fun h => h)); have c0 := HA1.out.cell 0; have c1 := HA1.out.cell 1; have c2 := HA1.out.cell 2; have c3 := HA1.out.cell 3; simp at c0 c1 c2 c3; have HO := Lib.hid ho; clear ho) | (refine wpList_store_whole rfl rfl 24 (.tmp 6) (.tmp 66) rfl (w.heap.size + 1) rfl _ rfl 24 _ (HR.out.only HO.out (fun h => h)) rfl (by simp [Value.oneCell']) (by kernel_rfl) ?_; intro w3 gb ho3 _; obtain ⟨y0, y1, y2, y3, y4⟩ := gb.five; have HO3 := Lib.hid ho3; clear gb ho3))
  refine bodyPost_ret (v := .tuple #[.agg #[.string K, .int .i64 s.at_, .int .u16 o, .string s.rev, .int .i64 (s.at_ + keep)], .int .i64 0]) (by simp [results, Tryd.results24, go_sem, y0, y1, y2, y3, y4]) rfl ⟨rfl, ?_⟩
  exact ((((Only.refl _ _).alloc _).alloc _).tr HO.out).trans HO3.out (fun j hj hl => absurd hl (by rw [hj]; omega))
end
theorem ref_nentry (s : Snd) (o keep : Int) (hs : s.rcv.size + s.key.size ≤ 140737488355000) (hv : s.rev.size ≤ 9223372036854775807) (hk1 : -9223372036854775808 ≤ keep) (hk3 : keep ≤ 9223372036854775807) (w : World) :
    Calls Tryd.prog 24 #[.agg #[.string s.rcv, .string s.key, .string s.rev, .int .i64 s.at_], .int .u16 o, .int .i64 keep] w (EntPost w (s.ent o keep)) := by
  unfold Snd.ent
  by_cases h : s.rcv.toList = [] ∨ s.key.toList = []
  · rw [if_pos h]; exact ref_ne_arg s o keep hs hv w h
  · rw [if_neg h]
    have h1 : ¬ s.rcv.toList = [] := fun e => h (.inl e)
    have h2 : ¬ s.key.toList = [] := fun e => h (.inr e)
    by_cases k : 1024 < s.k.length ∨ 8192 < s.rev.size
    · rw [if_pos k]; exact ref_ne_long s o keep hs hv w h1 h2 k
    · rw [if_neg k]
      have h3 : ¬ 1024 < s.k.length := fun e => k (.inl e)
      have h4 : ¬ 8192 < s.rev.size := fun e => k (.inr e)
      have hok : ∀ t, okT t = false ↔ ¬ (0 ≤ t ∧ t ≤ 1099511627776) := fun t => by
        cases e : okT t
        · simp only [true_iff]; intro h; rw [okT_iff.2 h] at e; cases e
        · simp only [Bool.true_eq_false, false_iff, Classical.not_not]; exact okT_iff.1 e
      by_cases m : okT s.at_ = false ∨ okT keep = false ∨ okT (s.at_ + keep) = false
      · rw [if_pos m]
        refine ref_ne_time s o keep hs hv w h1 h2 h3 h4 ?_ hk1 hk3
        simp only [hok] at m
        omega
      · rw [if_neg m]
        simp only [hok] at m
        exact ref_ne_ok s o keep hs hv w h1 h2 h3 h4 (by omega) (by omega) (by omega) (by omega)
end Go.Proofs.YtgclhkknkppmbaaDoor
