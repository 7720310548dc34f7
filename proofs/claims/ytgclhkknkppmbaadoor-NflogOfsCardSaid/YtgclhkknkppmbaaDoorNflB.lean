/- Package nflog: Entry. -/
import Derived.Test.YtgclhkknkppmbaaDoorNfl
namespace Go.Proofs.YtgclhkknkppmbaaDoor
open Go.RowKit Go.Lib
set_option linter.unusedVariables false
set_option maxRecDepth 100000
attribute [local go_sem ↓] Go.wp_at_zero Go.wp_at_succ

/-- A sending. -/
structure Snd where
  rcv : ByteArray
  key : ByteArray
  rev : ByteArray
  at_ : Int
def z0 : Ent := ⟨⟨#[]⟩, 0, 0, ⟨#[]⟩, 0⟩
def Snd.k (s : Snd) : List UInt8 := nKey s.rcv.data.toList s.key.data.toList
/-- A sending as an entry. -/
def Snd.ent (s : Snd) (o keep : Int) : Ent × Int :=
  if s.rcv.toList = [] ∨ s.key.toList = [] then (z0, 2)
  else if 1024 < s.k.length ∨ 8192 < s.rev.size then (z0, 5)
  else if okT s.at_ = false ∨ okT keep = false ∨ okT (s.at_ + keep) = false then (z0, 13)
  else (⟨⟨s.k.toArray⟩, s.at_, o, s.rev, s.at_ + keep⟩, 0)
theorem okT_iff {t : Int} : okT t = true ↔ 0 ≤ t ∧ t ≤ 1099511627776 := by unfold okT; rw [decide_eq_true_iff]

def EntPost (w : World) (x : Ent × Int) (e : Ending) (w' : World) : Prop := e = .returned (.tuple #[.agg #[.string x.1.key, .int .i64 x.1.time, .int .u16 x.1.org, .string x.1.val, .int .i64 x.1.til], .int .i64 x.2]) ∧ Only Noth w w'
section
variable (s : Snd) (o keep : Int) (hs : s.rcv.size + s.key.size ≤ 140737488355000) (hv : s.rev.size ≤ 9223372036854775807) (w : World) (ht : Tab w)
include hs hv ht
theorem nfl_entry_arg (h : s.rcv.toList = [] ∨ s.key.toList = []) :
    Calls Tryd.prog 23 #[.agg #[.string s.rcv, .string s.key, .string s.rev, .int .i64 s.at_], .int .u16 o, .int .i64 keep] w (EntPost w (z0, 2)) := by
  obtain ⟨K, hK⟩ : ∃ K, K = ByteArray.mk s.k.toArray := ⟨_, rfl⟩
  have HK := Lib.hid hK.symm
  have HKS := Lib.hid (show (K.size : Int) = s.k.length by rw [hK]; show ((s.k.toArray.size : Nat) : Int) = _; simp)
  have T := Lib.hid ((ht.alloc (.cells #[.string s.rcv, .string s.key, .string s.rev, .int .i64 s.at_] 35)).alloc (.cells #[.string ⟨#[]⟩, .int .i64 0, .int .u16 0, .string ⟨#[]⟩, .int .i64 0] 24))
  have HA := Lib.hid ((Hld.new w 35 #[.string s.rcv, .string s.key, .string s.rev, .int .i64 s.at_]).alloc (.cells #[.string ⟨#[]⟩, .int .i64 0, .int .u16 0, .string ⟨#[]⟩, .int .i64 0] 24))
  have HR := Lib.hid (Hld.at_ (w.alloc (.cells #[.string s.rcv, .string s.key, .string s.rev, .int .i64 s.at_] 35)) 24 #[.string ⟨#[]⟩, .int .i64 0, .int .u16 0, .string ⟨#[]⟩, .int .i64 0] (w.heap.size + 1) (by simp))
  have HS := Lib.hid hs
  have hv2 : (s.rev.size : Int) ≤ 9223372036854775807 := by omega
  have hk2 : (K.size : Int) ≤ 9223372036854775807 := by
    rw [HKS.out]
    have e1 : s.rcv.data.toList.length = s.rcv.size := rfl
    have e2 : s.key.data.toList.length = s.key.size := rfl
    have l1 := itoa_len20 (s.rcv.data.toList.length : Int) (by omega) (by omega)
    have l2 := itoa_len20 (s.key.data.toList.length : Int) (by omega) (by omega)
    simp only [Snd.k, nKey, tList, List.length_cons, List.flatten_cons, List.flatten_nil, List.length_append, List.length_nil, tText_length]
    omega
  clear hK ht hs hv
  rcases h with h | h
  · go_enter Tryd.func23, Tryd.ntmps23
    go_wp2_with (first | (go_at_call 25; refine (nfl_key s.rcv s.key HS.out _ T.out).mono ?_; rintro e w1 ⟨rfl, ho⟩; rw [show ByteArray.mk (nKey s.rcv.data.toList s.key.data.toList).toArray = K from HK.out]; have HA1 := Lib.hid (HA.out.only ho (fun h => h)); have c0 := HA1.out.cell 0; have c1 := HA1.out.cell 1; have c2 := HA1.out.cell 2; have c3 := HA1.out.cell 3; simp at c0 c1 c2 c3; have HO := Lib.hid ho; clear ho) | (refine wpList_store_whole rfl rfl 24 (.tmp 6) (.tmp 23) rfl (w.heap.size + 1) rfl _ rfl 24 _ (HR.out.only HO.out (fun h => h)) rfl (by simp [Value.oneCell']) (by kernel_rfl) ?_; intro w3 gb ho3 _; obtain ⟨y0, y1, y2, y3, y4⟩ := gb.five; have HO3 := Lib.hid ho3; clear gb ho3))
    refine bodyPost_ret (v := .tuple #[.agg #[.string ⟨#[]⟩, .int .i64 0, .int .u16 0, .string ⟨#[]⟩, .int .i64 0], .int .i64 2]) (by simp [results, Tryd.results23, go_sem, y0, y1, y2, y3, y4]) rfl ⟨rfl, ?_⟩
    exact ((((Only.refl _ _).alloc _).alloc _).tr HO.out).trans HO3.out (fun j hj hl => absurd hl (by rw [hj]; omega))
  · by_cases h1 : s.rcv.toList = []
    · go_enter Tryd.func23, Tryd.ntmps23
      go_wp2_with (first | (go_at_call 25; refine (nfl_key s.rcv s.key HS.out _ T.out).mono ?_; rintro e w1 ⟨rfl, ho⟩; rw [show ByteArray.mk (nKey s.rcv.data.toList s.key.data.toList).toArray = K from HK.out]; have HA1 := Lib.hid (HA.out.only ho (fun h => h)); have c0 := HA1.out.cell 0; have c1 := HA1.out.cell 1; have c2 := HA1.out.cell 2; have c3 := HA1.out.cell 3; simp at c0 c1 c2 c3; have HO := Lib.hid ho; clear ho) | (refine wpList_store_whole rfl rfl 24 (.tmp 6) (.tmp 23) rfl (w.heap.size + 1) rfl _ rfl 24 _ (HR.out.only HO.out (fun h => h)) rfl (by simp [Value.oneCell']) (by kernel_rfl) ?_; intro w3 gb ho3 _; obtain ⟨y0, y1, y2, y3, y4⟩ := gb.five; have HO3 := Lib.hid ho3; clear gb ho3))
      refine bodyPost_ret (v := .tuple #[.agg #[.string ⟨#[]⟩, .int .i64 0, .int .u16 0, .string ⟨#[]⟩, .int .i64 0], .int .i64 2]) (by simp [results, Tryd.results23, go_sem, y0, y1, y2, y3, y4]) rfl ⟨rfl, ?_⟩
      exact ((((Only.refl _ _).alloc _).alloc _).tr HO.out).trans HO3.out (fun j hj hl => absurd hl (by rw [hj]; omega))
    · have h2 : s.rcv.toList.isEmpty = false := by rw [List.isEmpty_eq_false_iff]; exact h1
      go_enter Tryd.func23, Tryd.ntmps23
      go_wp2_with (first | (go_at_call 25; refine (nfl_key s.rcv s.key HS.out _ T.out).mono ?_; rintro e w1 ⟨rfl, ho⟩; rw [show ByteArray.mk (nKey s.rcv.data.toList s.key.data.toList).toArray = K from HK.out]; have HA1 := Lib.hid (HA.out.only ho (fun h => h)); have c0 := HA1.out.cell 0; have c1 := HA1.out.cell 1; have c2 := HA1.out.cell 2; have c3 := HA1.out.cell 3; simp at c0 c1 c2 c3; have HO := Lib.hid ho; clear ho) | (refine wpList_store_whole rfl rfl 24 (.tmp 6) (.tmp 23) rfl (w.heap.size + 1) rfl _ rfl 24 _ (HR.out.only HO.out (fun h => h)) rfl (by simp [Value.oneCell']) (by kernel_rfl) ?_; intro w3 gb ho3 _; obtain ⟨y0, y1, y2, y3, y4⟩ := gb.five; have HO3 := Lib.hid ho3; clear gb ho3))
      refine bodyPost_ret (v := .tuple #[.agg #[.string ⟨#[]⟩, .int .i64 0, .int .u16 0, .string ⟨#[]⟩, .int .i64 0], .int .i64 2]) (by simp [results, Tryd.results23, go_sem, y0, y1, y2, y3, y4]) rfl ⟨rfl, ?_⟩
      exact ((((Only.refl _ _).alloc _).alloc _).tr HO.out).trans HO3.out (fun j hj hl => absurd hl (by rw [hj]; omega))
theorem nfl_entry_long (h1 : ¬ s.rcv.toList = []) (h2 : ¬ s.key.toList = []) (h : 1024 < s.k.length ∨ 8192 < s.rev.size) :
    Calls Tryd.prog 23 #[.agg #[.string s.rcv, .string s.key, .string s.rev, .int .i64 s.at_], .int .u16 o, .int .i64 keep] w (EntPost w (z0, 5)) := by
  obtain ⟨K, hK⟩ : ∃ K, K = ByteArray.mk s.k.toArray := ⟨_, rfl⟩
  have HK := Lib.hid hK.symm
  have HKS := Lib.hid (show (K.size : Int) = s.k.length by rw [hK]; show ((s.k.toArray.size : Nat) : Int) = _; simp)
  have T := Lib.hid ((ht.alloc (.cells #[.string s.rcv, .string s.key, .string s.rev, .int .i64 s.at_] 35)).alloc (.cells #[.string ⟨#[]⟩, .int .i64 0, .int .u16 0, .string ⟨#[]⟩, .int .i64 0] 24))
  have HA := Lib.hid ((Hld.new w 35 #[.string s.rcv, .string s.key, .string s.rev, .int .i64 s.at_]).alloc (.cells #[.string ⟨#[]⟩, .int .i64 0, .int .u16 0, .string ⟨#[]⟩, .int .i64 0] 24))
  have HR := Lib.hid (Hld.at_ (w.alloc (.cells #[.string s.rcv, .string s.key, .string s.rev, .int .i64 s.at_] 35)) 24 #[.string ⟨#[]⟩, .int .i64 0, .int .u16 0, .string ⟨#[]⟩, .int .i64 0] (w.heap.size + 1) (by simp))
  have HS := Lib.hid hs
  have hv2 : (s.rev.size : Int) ≤ 9223372036854775807 := by omega
  have hk2 : (K.size : Int) ≤ 9223372036854775807 := by
    rw [HKS.out]
    have e1 : s.rcv.data.toList.length = s.rcv.size := rfl
    have e2 : s.key.data.toList.length = s.key.size := rfl
    have l1 := itoa_len20 (s.rcv.data.toList.length : Int) (by omega) (by omega)
    have l2 := itoa_len20 (s.key.data.toList.length : Int) (by omega) (by omega)
    simp only [Snd.k, nKey, tList, List.length_cons, List.flatten_cons, List.flatten_nil, List.length_append, List.length_nil, tText_length]
    omega
  clear hK ht hs hv
  have e1 : s.rcv.toList.isEmpty = false := by rw [List.isEmpty_eq_false_iff]; exact h1
  have e2 : s.key.toList.isEmpty = false := by rw [List.isEmpty_eq_false_iff]; exact h2
  rcases h with h | h
  · have g1 : (1024 : Int) < K.size := by rw [HKS.out]; omega
    clear h
    go_enter Tryd.func23, Tryd.ntmps23
    go_wp2_with (first | (go_at_call 25; refine (nfl_key s.rcv s.key HS.out _ T.out).mono ?_; rintro e w1 ⟨rfl, ho⟩; rw [show ByteArray.mk (nKey s.rcv.data.toList s.key.data.toList).toArray = K from HK.out]; have HA1 := Lib.hid (HA.out.only ho (fun h => h)); have c0 := HA1.out.cell 0; have c1 := HA1.out.cell 1; have c2 := HA1.out.cell 2; have c3 := HA1.out.cell 3; simp at c0 c1 c2 c3; have HO := Lib.hid ho; clear ho) | (refine wpList_store_whole rfl rfl 24 (.tmp 6) (.tmp 34) rfl (w.heap.size + 1) rfl _ rfl 24 _ (HR.out.only HO.out (fun h => h)) rfl (by simp [Value.oneCell']) (by kernel_rfl) ?_; intro w3 gb ho3 _; obtain ⟨y0, y1, y2, y3, y4⟩ := gb.five; have HO3 := Lib.hid ho3; clear gb ho3))
    refine bodyPost_ret (v := .tuple #[.agg #[.string ⟨#[]⟩, .int .i64 0, .int .u16 0, .string ⟨#[]⟩, .int .i64 0], .int .i64 5]) (by simp [results, Tryd.results23, go_sem, y0, y1, y2, y3, y4]) rfl ⟨rfl, ?_⟩
    exact ((((Only.refl _ _).alloc _).alloc _).tr HO.out).trans HO3.out (fun j hj hl => absurd hl (by rw [hj]; omega))
  · have g0 : (8192 : Int) < s.rev.size := by omega
    clear h
    by_cases g1 : (1024 : Int) < K.size
    · go_enter Tryd.func23, Tryd.ntmps23
      go_wp2_with (first | (go_at_call 25; refine (nfl_key s.rcv s.key HS.out _ T.out).mono ?_; rintro e w1 ⟨rfl, ho⟩; rw [show ByteArray.mk (nKey s.rcv.data.toList s.key.data.toList).toArray = K from HK.out]; have HA1 := Lib.hid (HA.out.only ho (fun h => h)); have c0 := HA1.out.cell 0; have c1 := HA1.out.cell 1; have c2 := HA1.out.cell 2; have c3 := HA1.out.cell 3; simp at c0 c1 c2 c3; have HO := Lib.hid ho; clear ho) | (refine wpList_store_whole rfl rfl 24 (.tmp 6) (.tmp 34) rfl (w.heap.size + 1) rfl _ rfl 24 _ (HR.out.only HO.out (fun h => h)) rfl (by simp [Value.oneCell']) (by kernel_rfl) ?_; intro w3 gb ho3 _; obtain ⟨y0, y1, y2, y3, y4⟩ := gb.five; have HO3 := Lib.hid ho3; clear gb ho3))
      refine bodyPost_ret (v := .tuple #[.agg #[.string ⟨#[]⟩, .int .i64 0, .int .u16 0, .string ⟨#[]⟩, .int .i64 0], .int .i64 5]) (by simp [results, Tryd.results23, go_sem, y0, y1, y2, y3, y4]) rfl ⟨rfl, ?_⟩
      exact ((((Only.refl _ _).alloc _).alloc _).tr HO.out).trans HO3.out (fun j hj hl => absurd hl (by rw [hj]; omega))
    · have g2 : decide ((1024 : Int) < K.size) = false := by simpa using g1
      go_enter Tryd.func23, Tryd.ntmps23
      go_wp2_with (first | (go_at_call 25; refine (nfl_key s.rcv s.key HS.out _ T.out).mono ?_; rintro e w1 ⟨rfl, ho⟩; rw [show ByteArray.mk (nKey s.rcv.data.toList s.key.data.toList).toArray = K from HK.out]; have HA1 := Lib.hid (HA.out.only ho (fun h => h)); have c0 := HA1.out.cell 0; have c1 := HA1.out.cell 1; have c2 := HA1.out.cell 2; have c3 := HA1.out.cell 3; simp at c0 c1 c2 c3; have HO := Lib.hid ho; clear ho) | (refine wpList_store_whole rfl rfl 24 (.tmp 6) (.tmp 34) rfl (w.heap.size + 1) rfl _ rfl 24 _ (HR.out.only HO.out (fun h => h)) rfl (by simp [Value.oneCell']) (by kernel_rfl) ?_; intro w3 gb ho3 _; obtain ⟨y0, y1, y2, y3, y4⟩ := gb.five; have HO3 := Lib.hid ho3; clear gb ho3))
      refine bodyPost_ret (v := .tuple #[.agg #[.string ⟨#[]⟩, .int .i64 0, .int .u16 0, .string ⟨#[]⟩, .int .i64 0], .int .i64 5]) (by simp [results, Tryd.results23, go_sem, y0, y1, y2, y3, y4]) rfl ⟨rfl, ?_⟩
      exact ((((Only.refl _ _).alloc _).alloc _).tr HO.out).trans HO3.out (fun j hj hl => absurd hl (by rw [hj]; omega))
set_option maxHeartbeats 2000000 in
theorem nfl_entry_time (h1 : ¬ s.rcv.toList = []) (h2 : ¬ s.key.toList = []) (h3 : ¬ 1024 < s.k.length) (h4 : ¬ 8192 < s.rev.size) (h : okT s.at_ = false ∨ okT keep = false ∨ okT (s.at_ + keep) = false) :
    Calls Tryd.prog 23 #[.agg #[.string s.rcv, .string s.key, .string s.rev, .int .i64 s.at_], .int .u16 o, .int .i64 keep] w (EntPost w (z0, 13)) := by
  obtain ⟨K, hK⟩ : ∃ K, K = ByteArray.mk s.k.toArray := ⟨_, rfl⟩
  have HK := Lib.hid hK.symm
  have HKS := Lib.hid (show (K.size : Int) = s.k.length by rw [hK]; show ((s.k.toArray.size : Nat) : Int) = _; simp)
  have T := Lib.hid ((ht.alloc (.cells #[.string s.rcv, .string s.key, .string s.rev, .int .i64 s.at_] 35)).alloc (.cells #[.string ⟨#[]⟩, .int .i64 0, .int .u16 0, .string ⟨#[]⟩, .int .i64 0] 24))
  have HA := Lib.hid ((Hld.new w 35 #[.string s.rcv, .string s.key, .string s.rev, .int .i64 s.at_]).alloc (.cells #[.string ⟨#[]⟩, .int .i64 0, .int .u16 0, .string ⟨#[]⟩, .int .i64 0] 24))
  have HR := Lib.hid (Hld.at_ (w.alloc (.cells #[.string s.rcv, .string s.key, .string s.rev, .int .i64 s.at_] 35)) 24 #[.string ⟨#[]⟩, .int .i64 0, .int .u16 0, .string ⟨#[]⟩, .int .i64 0] (w.heap.size + 1) (by simp))
  have HS := Lib.hid hs
  have hv2 : (s.rev.size : Int) ≤ 9223372036854775807 := by omega
  have hk2 : (K.size : Int) ≤ 9223372036854775807 := by
    rw [HKS.out]
    have e1 : s.rcv.data.toList.length = s.rcv.size := rfl
    have e2 : s.key.data.toList.length = s.key.size := rfl
    have l1 := itoa_len20 (s.rcv.data.toList.length : Int) (by omega) (by omega)
    have l2 := itoa_len20 (s.key.data.toList.length : Int) (by omega) (by omega)
    simp only [Snd.k, nKey, tList, List.length_cons, List.flatten_cons, List.flatten_nil, List.length_append, List.length_nil, tText_length]
    omega
  clear hK ht hs hv
  have e1 : s.rcv.toList.isEmpty = false := by rw [List.isEmpty_eq_false_iff]; exact h1
  have e2 : s.key.toList.isEmpty = false := by rw [List.isEmpty_eq_false_iff]; exact h2
  have g1 : ¬ (1024 : Int) < K.size := by rw [HKS.out]; omega
  have g2 : decide ((1024 : Int) < K.size) = false := by simpa using g1
  have g3 : ¬ (8192 : Int) < s.rev.size := by omega
  have g4 : decide ((8192 : Int) < s.rev.size) = false := by simpa using g3
  have HH := Lib.hid h
  clear h h3 h4
  cases k1 : okT s.at_
  · have K1 := Lib.hid k1
    have K2 := Lib.hid k1
    have K3 := Lib.hid k1
    clear k1
    go_enter Tryd.func23, Tryd.ntmps23
    go_wp2_with (first | (go_at_call 25; refine (nfl_key s.rcv s.key HS.out _ T.out).mono ?_; rintro e w1 ⟨rfl, ho⟩; rw [show ByteArray.mk (nKey s.rcv.data.toList s.key.data.toList).toArray = K from HK.out]; have HA1 := Lib.hid (HA.out.only ho (fun h => h)); have c0 := HA1.out.cell 0; have c1 := HA1.out.cell 1; have c2 := HA1.out.cell 2; have c3 := HA1.out.cell 3; simp at c0 c1 c2 c3; have HO := Lib.hid ho; clear ho) | (go_at_call 41; refine (nfl_time _ _).mono ?_; rintro e w2 ⟨rfl, rfl⟩; (first | rw [K1.out] | rw [K2.out] | rw [K3.out])) | (refine wpList_store_whole rfl rfl 24 (.tmp 6) (.tmp 53) rfl (w.heap.size + 1) rfl _ rfl 24 _ (HR.out.only HO.out (fun h => h)) rfl (by simp [Value.oneCell']) (by kernel_rfl) ?_; intro w3 gb ho3 _; obtain ⟨y0, y1, y2, y3, y4⟩ := gb.five; have HO3 := Lib.hid ho3; clear gb ho3))
    refine bodyPost_ret (v := .tuple #[.agg #[.string ⟨#[]⟩, .int .i64 0, .int .u16 0, .string ⟨#[]⟩, .int .i64 0], .int .i64 13]) (by simp [results, Tryd.results23, go_sem, y0, y1, y2, y3, y4]) rfl ⟨rfl, ?_⟩
    exact ((((Only.refl _ _).alloc _).alloc _).tr HO.out).trans HO3.out (fun j hj hl => absurd hl (by rw [hj]; omega))
  · cases k2 : okT keep
    · have K1 := Lib.hid k1
      have K2 := Lib.hid k2
      have K3 := Lib.hid k2
      clear k1 k2
      go_enter Tryd.func23, Tryd.ntmps23
      go_wp2_with (first | (go_at_call 25; refine (nfl_key s.rcv s.key HS.out _ T.out).mono ?_; rintro e w1 ⟨rfl, ho⟩; rw [show ByteArray.mk (nKey s.rcv.data.toList s.key.data.toList).toArray = K from HK.out]; have HA1 := Lib.hid (HA.out.only ho (fun h => h)); have c0 := HA1.out.cell 0; have c1 := HA1.out.cell 1; have c2 := HA1.out.cell 2; have c3 := HA1.out.cell 3; simp at c0 c1 c2 c3; have HO := Lib.hid ho; clear ho) | (go_at_call 41; refine (nfl_time _ _).mono ?_; rintro e w2 ⟨rfl, rfl⟩; (first | rw [K1.out] | rw [K2.out] | rw [K3.out])) | (refine wpList_store_whole rfl rfl 24 (.tmp 6) (.tmp 53) rfl (w.heap.size + 1) rfl _ rfl 24 _ (HR.out.only HO.out (fun h => h)) rfl (by simp [Value.oneCell']) (by kernel_rfl) ?_; intro w3 gb ho3 _; obtain ⟨y0, y1, y2, y3, y4⟩ := gb.five; have HO3 := Lib.hid ho3; clear gb ho3))
      refine bodyPost_ret (v := .tuple #[.agg #[.string ⟨#[]⟩, .int .i64 0, .int .u16 0, .string ⟨#[]⟩, .int .i64 0], .int .i64 13]) (by simp [results, Tryd.results23, go_sem, y0, y1, y2, y3, y4]) rfl ⟨rfl, ?_⟩
      exact ((((Only.refl _ _).alloc _).alloc _).tr HO.out).trans HO3.out (fun j hj hl => absurd hl (by rw [hj]; omega))
    · have k3 : okT (s.at_ + keep) = false := by rcases HH.out with h | h | h; rw [k1] at h; cases h; rw [k2] at h; cases h; exact h
      have b1 := okT_iff.1 k1
      have b2 := okT_iff.1 k2
      obtain ⟨b3, b4⟩ := b1
      obtain ⟨b5, b6⟩ := b2
      have K1 := Lib.hid k1
      have K2 := Lib.hid k2
      have K3 := Lib.hid k3
      clear k1 k2 k3
      go_enter Tryd.func23, Tryd.ntmps23
      go_wp2_with (first | (go_at_call 25; refine (nfl_key s.rcv s.key HS.out _ T.out).mono ?_; rintro e w1 ⟨rfl, ho⟩; rw [show ByteArray.mk (nKey s.rcv.data.toList s.key.data.toList).toArray = K from HK.out]; have HA1 := Lib.hid (HA.out.only ho (fun h => h)); have c0 := HA1.out.cell 0; have c1 := HA1.out.cell 1; have c2 := HA1.out.cell 2; have c3 := HA1.out.cell 3; simp at c0 c1 c2 c3; have HO := Lib.hid ho; clear ho) | (go_at_call 41; refine (nfl_time _ _).mono ?_; rintro e w2 ⟨rfl, rfl⟩; (first | rw [K1.out] | rw [K2.out] | rw [K3.out])) | (refine wpList_store_whole rfl rfl 24 (.tmp 6) (.tmp 53) rfl (w.heap.size + 1) rfl _ rfl 24 _ (HR.out.only HO.out (fun h => h)) rfl (by simp [Value.oneCell']) (by kernel_rfl) ?_; intro w3 gb ho3 _; obtain ⟨y0, y1, y2, y3, y4⟩ := gb.five; have HO3 := Lib.hid ho3; clear gb ho3))
      refine bodyPost_ret (v := .tuple #[.agg #[.string ⟨#[]⟩, .int .i64 0, .int .u16 0, .string ⟨#[]⟩, .int .i64 0], .int .i64 13]) (by simp [results, Tryd.results23, go_sem, y0, y1, y2, y3, y4]) rfl ⟨rfl, ?_⟩
      exact ((((Only.refl _ _).alloc _).alloc _).tr HO.out).trans HO3.out (fun j hj hl => absurd hl (by rw [hj]; omega))
set_option maxHeartbeats 2000000 in
theorem nfl_entry_ok (h1 : ¬ s.rcv.toList = []) (h2 : ¬ s.key.toList = []) (h3 : ¬ 1024 < s.k.length) (h4 : ¬ 8192 < s.rev.size) (k1 : okT s.at_ = true) (k2 : okT keep = true) (k3 : okT (s.at_ + keep) = true) :
    Calls Tryd.prog 23 #[.agg #[.string s.rcv, .string s.key, .string s.rev, .int .i64 s.at_], .int .u16 o, .int .i64 keep] w (EntPost w (⟨⟨s.k.toArray⟩, s.at_, o, s.rev, s.at_ + keep⟩, 0)) := by
  obtain ⟨K, hK⟩ : ∃ K, K = ByteArray.mk s.k.toArray := ⟨_, rfl⟩
  have HK := Lib.hid hK.symm
  have HKS := Lib.hid (show (K.size : Int) = s.k.length by rw [hK]; show ((s.k.toArray.size : Nat) : Int) = _; simp)
  have T := Lib.hid ((ht.alloc (.cells #[.string s.rcv, .string s.key, .string s.rev, .int .i64 s.at_] 35)).alloc (.cells #[.string ⟨#[]⟩, .int .i64 0, .int .u16 0, .string ⟨#[]⟩, .int .i64 0] 24))
  have HA := Lib.hid ((Hld.new w 35 #[.string s.rcv, .string s.key, .string s.rev, .int .i64 s.at_]).alloc (.cells #[.string ⟨#[]⟩, .int .i64 0, .int .u16 0, .string ⟨#[]⟩, .int .i64 0] 24))
  have HR := Lib.hid (Hld.at_ (w.alloc (.cells #[.string s.rcv, .string s.key, .string s.rev, .int .i64 s.at_] 35)) 24 #[.string ⟨#[]⟩, .int .i64 0, .int .u16 0, .string ⟨#[]⟩, .int .i64 0] (w.heap.size + 1) (by simp))
  have HS := Lib.hid hs
  have hv2 : (s.rev.size : Int) ≤ 9223372036854775807 := by omega
  have hk2 : (K.size : Int) ≤ 9223372036854775807 := by
    rw [HKS.out]
    have e1 : s.rcv.data.toList.length = s.rcv.size := rfl
    have e2 : s.key.data.toList.length = s.key.size := rfl
    have l1 := itoa_len20 (s.rcv.data.toList.length : Int) (by omega) (by omega)
    have l2 := itoa_len20 (s.key.data.toList.length : Int) (by omega) (by omega)
    simp only [Snd.k, nKey, tList, List.length_cons, List.flatten_cons, List.flatten_nil, List.length_append, List.length_nil, tText_length]
    omega
  clear hK ht hs hv
  have e1 : s.rcv.toList.isEmpty = false := by rw [List.isEmpty_eq_false_iff]; exact h1
  have e2 : s.key.toList.isEmpty = false := by rw [List.isEmpty_eq_false_iff]; exact h2
  have g1 : ¬ (1024 : Int) < K.size := by rw [HKS.out]; omega
  have g2 : decide ((1024 : Int) < K.size) = false := by simpa using g1
  have g3 : ¬ (8192 : Int) < s.rev.size := by omega
  have g4 : decide ((8192 : Int) < s.rev.size) = false := by simpa using g3
  obtain ⟨b3, b4⟩ := okT_iff.1 k1
  obtain ⟨b5, b6⟩ := okT_iff.1 k2
  have K1 := Lib.hid k1
  have K2 := Lib.hid k2
  have K3 := Lib.hid k3
  clear k1 k2 k3 h3 h4
  rw [HK.out]
  go_enter Tryd.func23, Tryd.ntmps23
  go_wp2_with (first | (go_at_call 25; refine (nfl_key s.rcv s.key HS.out _ T.out).mono ?_; rintro e w1 ⟨rfl, ho⟩; rw [show ByteArray.mk (nKey s.rcv.data.toList s.key.data.toList).toArray = K from HK.out]; have HA1 := Lib.hid (HA.out.only ho (fun h => h)); have c0 := HA1.out.cell 0; have c1 := HA1.out.cell 1; have c2 := HA1.out.cell 2; have c3 := HA1.out.cell 3; simp at c0 c1 c2 c3; have HO := Lib.hid ho; clear ho) | (go_at_call 41; refine (nfl_time _ _).mono ?_; rintro e w2 ⟨rfl, rfl⟩; (first | rw [K1.out] | rw [K2.out] | rw [K3.out])) | (refine wpList_store_whole rfl rfl 24 (.tmp 6) (.tmp 64) rfl (w.heap.size + 1) rfl _ rfl 24 _ (HR.out.only HO.out (fun h => h)) rfl (by simp [Value.oneCell']) (by kernel_rfl) ?_; intro w3 gb ho3 _; obtain ⟨y0, y1, y2, y3, y4⟩ := gb.five; have HO3 := Lib.hid ho3; clear gb ho3))
  refine bodyPost_ret (v := .tuple #[.agg #[.string K, .int .i64 s.at_, .int .u16 o, .string s.rev, .int .i64 (s.at_ + keep)], .int .i64 0]) (by simp [results, Tryd.results23, go_sem, y0, y1, y2, y3, y4]) rfl ⟨rfl, ?_⟩
  exact ((((Only.refl _ _).alloc _).alloc _).tr HO.out).trans HO3.out (fun j hj hl => absurd hl (by rw [hj]; omega))
end
theorem nfl_entry (s : Snd) (o keep : Int) (hs : s.rcv.size + s.key.size ≤ 140737488355000) (hv : s.rev.size ≤ 9223372036854775807) (w : World) (ht : Tab w) :
    Calls Tryd.prog 23 #[.agg #[.string s.rcv, .string s.key, .string s.rev, .int .i64 s.at_], .int .u16 o, .int .i64 keep] w (EntPost w (s.ent o keep)) := by
  unfold Snd.ent
  by_cases h : s.rcv.toList = [] ∨ s.key.toList = []
  · rw [if_pos h]; exact nfl_entry_arg s o keep hs hv w ht h
  · rw [if_neg h]
    have h1 : ¬ s.rcv.toList = [] := fun e => h (.inl e)
    have h2 : ¬ s.key.toList = [] := fun e => h (.inr e)
    by_cases k : 1024 < s.k.length ∨ 8192 < s.rev.size
    · rw [if_pos k]; exact nfl_entry_long s o keep hs hv w ht h1 h2 k
    · rw [if_neg k]
      have h3 : ¬ 1024 < s.k.length := fun e => k (.inl e)
      have h4 : ¬ 8192 < s.rev.size := fun e => k (.inr e)
      by_cases m : okT s.at_ = false ∨ okT keep = false ∨ okT (s.at_ + keep) = false
      · rw [if_pos m]; exact nfl_entry_time s o keep hs hv w ht h1 h2 h3 h4 m
      · rw [if_neg m]
        refine nfl_entry_ok s o keep hs hv w ht h1 h2 h3 h4 ?_ ?_ ?_
        · cases e : okT s.at_; exact absurd (.inl e) m; rfl
        · cases e : okT keep; exact absurd (.inr (.inl e)) m; rfl
        · cases e : okT (s.at_ + keep); exact absurd (.inr (.inr e)) m; rfl
end Go.Proofs.YtgclhkknkppmbaaDoor
