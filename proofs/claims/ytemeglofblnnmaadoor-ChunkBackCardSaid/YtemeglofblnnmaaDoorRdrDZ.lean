/- ben.Reader: until where the end stands. -/
import Derived.Test.YtemeglofblnnmaaDoorRdrCZ
namespace Go.Proofs.YtemeglofblnnmaaDoor
open Go.RowKit Go.Lib
set_option linter.unusedVariables false
attribute [local go_sem ↓] Go.wp_at_zero Go.wp_at_succ

set_option maxRecDepth 100000 in
set_option maxHeartbeats 800000 in
theorem rdr_until_ok (g : Nat) (b : List UInt8) (c : UInt8) (L : Nat) (hL : L ≤ 100) (i : Nat) (hx : Rd.at? b c L = some i) (n : Int) (hn : num (b.take i) = some n) (w : World) (h : RdAt w g ⟨b, 0⟩) (he : Env w) :
    Calls Tryd.prog 45 #[.pointer (some ⟨g, 0, none⟩), .int .u8 c.toNat, .int .i64 L] w fun x w' => x = .returned (.tuple #[.int .i64 n, .bool true]) ∧ RdAt w' g ⟨b.drop (i + 1), 0⟩ ∧ Only (At g) w w' := by
  have E := Lib.hid (he.noth (Only.refl Noth w).drew)
  obtain ⟨hs, A, cc, h1, h2, h3, h4⟩ := h
  simp only at h1 h2 h3
  have hsz := h1.lt
  have c0 := h1.cell 0
  simp at c0
  obtain ⟨m, hm⟩ : ∃ m, m = min b.length (L + 1) := ⟨_, rfl⟩
  obtain ⟨hi1, hi2, -, -, -⟩ := Rd.at_some hx
  obtain ⟨n0, n1, hni⟩ := num_some.1 hn
  obtain ⟨A', hsl, hs2⟩ := slice_to cc m h2 (by omega) h3
  obtain ⟨A2, hsl2, hs3⟩ := slice_to cc i h2 (by omega) h3
  obtain ⟨A3, hsl3, hs4⟩ := slice_from cc (i + 1) h2 (by omega) h3
  rw [show ((i + 1 : Nat) : Int) = (i : Int) + 1 from rfl] at hsl3
  have hb : b.length ≤ 9223372036854775807 := by omega
  have hil : (b.take i).length = i := by rw [List.length_take]; omega
  have hcv := conv_b8n i cc hil (by rw [hil] at hs3; exact hs3.drew)
  have hok : atoiAll (ByteArray.mk (b.take i).toArray).data.toList = .ok n := by
    show atoiAll (b.take i) = .ok n
    rw [← hni]
    exact atoi_itoa n n0 n1
  have hsmall : (ByteArray.mk (b.take i).toArray).size ≤ 281474976710656 := by
    show (b.take i).toArray.size ≤ _
    rw [List.size_toArray, hil]
    omega
  obtain ⟨s, hsv⟩ : ∃ s, s = ByteArray.mk (b.take i).toArray := ⟨_, rfl⟩
  have hits : ByteArray.mk (itoa n).toArray = s := by rw [hsv, hni]
  rw [← hsv] at hcv hok hsmall
  have hif : (if (L : Int) + 1 < (b.length : Int) then (L : Int) + 1 else (b.length : Int)) = (m : Int) := by split <;> omega
  have hml : m ≤ 9223372036854775807 := by omega
  have hwr : IntKind.i64.wrap ((L : Int) + 1) = (L : Int) + 1 := IntWalk.i64_in _ (by omega)
  have hmn : min (b.length : Int) ((L : Int) + 1) = (m : Int) := by omega
  have HS := Lib.hid hs2
  have HS4 := Lib.hid hs4
  have HM := Lib.hid (take_min b L m hm)
  have HLN := Lib.hid (show (b.take m).length = m by rw [List.length_take]; omega)
  have HI := Lib.hid (idxI_some hx)
  have HLD := Lib.hid h1
  have HOK := Lib.hid hok
  have H3 := Lib.hid h3
  have HSM := Lib.hid hsmall
  have HIT := Lib.hid hits
  have hilc : (i : Int) < b.length := by omega
  have HCV := Lib.hid hcv
  have HSL2 := Lib.hid hsl2
  have HSL3 := Lib.hid hsl3
  have hdl : (b.drop (i + 1)).length = b.length - (i + 1) := by rw [List.length_drop]
  have HDL := Lib.hid hdl
  clear h1 h2 hs hs2 hs3 hs4 hm hx h3 hn hni hil hok hsmall hsv hits he hdl hcv hsl2 hsl3
  go_enter Tryd.func45, Tryd.ntmps45
  go_wp2_with fail
  go_region_held3 (fun w' => w'.cell? ⟨g, 0, none⟩ = some (.slice A b.length cc)) (go_keep)
    ((go_at_call 54; refine (idx_bytes_n A' m cc (b.take m) HLN.out c _ _ HS.out.drew hml).mono ?_; rintro e w1 ⟨rfl, rfl⟩; rw [HM.out, HI.out]))
  have hcv := HCV.out
  have hsl2 := HSL2.out
  have hsl3 := HSL3.out
  go_wp2_with fail
  refine (parse_ok s HSM.out n HOK.out _).mono ?_
  rintro e w1 ⟨rfl, ho⟩
  have HO := Lib.hid ho
  have E1 := Lib.hid (E.out.noth ho)
  have HLD1 := Lib.hid (HLD.out.drew.only ho (fun h => h))
  clear ho
  go_wp2_with fail
  refine (format_int n n0 n1 _ E1.out.tab).mono ?_
  rintro e w2 ⟨rfl, ho⟩
  rw [HIT.out]
  have HO2 := Lib.hid (HO.out.tr ho)
  have HLD2 := Lib.hid (HLD1.out.only ho (fun h => h))
  have d0 := HLD2.out.cell 0
  have f0 := HLD2.out.free 0
  simp at d0
  clear ho
  go_wp2
  go_ret2
  refine ⟨rfl, ⟨Rd.sane_mk _, A3, cc - (i + 1), ?_, ?_, ?_, by omega⟩, ?_⟩
  · rw [HDL.out]; exact HLD2.out.set_ 0 _
  · exact (HS4.out.drew.only HO2.out (fun _ _ h => h)).setCell (p := ⟨g, 0, none⟩) (fun h => h rfl) _
  · simp only; rw [HDL.out]; have := H3.out; omega
  · exact (Only.at_of HO2.out).undrew.setCell (p := ⟨g, 0, none⟩) (fun _ => rfl) _

set_option maxRecDepth 100000 in
set_option maxHeartbeats 800000 in
theorem rdr_until_bad (g : Nat) (b : List UInt8) (c : UInt8) (L : Nat) (hL : L ≤ 100) (i : Nat) (hx : Rd.at? b c L = some i) (hn : num (b.take i) = none) (w : World) (h : RdAt w g ⟨b, 0⟩) (he : Env w) :
    Calls Tryd.prog 45 #[.pointer (some ⟨g, 0, none⟩), .int .u8 c.toNat, .int .i64 L] w fun x w' => x = .returned (.tuple #[.int .i64 0, .bool false]) ∧ RdAt w' g (Rd.stop 4) ∧ Only (At g) w w' := by
  have E := Lib.hid (he.noth (Only.refl Noth w).drew)
  have H := Lib.hid h
  obtain ⟨hs, A, cc, h1, h2, h3, h4⟩ := h
  simp only at h1 h2 h3
  have c0 := h1.cell 0
  simp at c0
  obtain ⟨m, hm⟩ : ∃ m, m = min b.length (L + 1) := ⟨_, rfl⟩
  obtain ⟨hi1, hi2, -, -, -⟩ := Rd.at_some hx
  obtain ⟨A', hsl, hs2⟩ := slice_to cc m h2 (by omega) h3
  obtain ⟨A2, hsl2, hs3⟩ := slice_to cc i h2 (by omega) h3
  have hb : b.length ≤ 9223372036854775807 := by omega
  have hil : (b.take i).length = i := by rw [List.length_take]; omega
  have hcv := conv_b8n i cc hil (by rw [hil] at hs3; exact hs3.drew)
  have hsmall : (ByteArray.mk (b.take i).toArray).size ≤ 281474976710656 := by
    show (b.take i).toArray.size ≤ _
    rw [List.size_toArray, hil]
    omega
  obtain ⟨s, hsv⟩ : ∃ s, s = ByteArray.mk (b.take i).toArray := ⟨_, rfl⟩
  have hsd : s.data.toList = b.take i := by rw [hsv]
  rw [← hsv] at hcv hsmall
  have hif : (if (L : Int) + 1 < (b.length : Int) then (L : Int) + 1 else (b.length : Int)) = (m : Int) := by split <;> omega
  have hml : m ≤ 9223372036854775807 := by omega
  have hwr : IntKind.i64.wrap ((L : Int) + 1) = (L : Int) + 1 := IntWalk.i64_in _ (by omega)
  have hmn : min (b.length : Int) ((L : Int) + 1) = (m : Int) := by omega
  have HS := Lib.hid hs2
  have HM := Lib.hid (take_min b L m hm)
  have HLN := Lib.hid (show (b.take m).length = m by rw [List.length_take]; omega)
  have HI := Lib.hid (idxI_some hx)
  have HSM := Lib.hid hsmall
  have hilc : (i : Int) < b.length := by omega
  have HCV := Lib.hid hcv
  have HSL2 := Lib.hid hsl2
  clear hcv hsl2 h1 h2 hs hs2 hs3 hm hx h3 hil hsmall hsv he
  by_cases hk : ∃ k, atoiAll s.data.toList = .ok k
  · obtain ⟨k, hk⟩ := hk
    have hr := atoi_range hk
    have hne : ((ByteArray.mk (itoa k).toArray).toList == s.toList) = false := by
      rw [ByteArray.toList_eq, ByteArray.toList_eq, beq_eq_false_iff_ne]
      intro e
      rw [hsd] at e
      exact num_none.1 hn k hr.1 hr.2 e
    obtain ⟨s2, hs2v⟩ : ∃ s2, s2 = ByteArray.mk (itoa k).toArray := ⟨_, rfl⟩
    rw [← hs2v] at hne
    have HK := Lib.hid hk
    have H2 := Lib.hid hs2v.symm
    have hne2 : ¬ s2.toList = s.toList := by simpa using hne
    clear hk hsd hn hs2v
    go_enter Tryd.func45, Tryd.ntmps45
    go_wp2_with fail
    go_region_held3 (fun w' => w'.cell? ⟨g, 0, none⟩ = some (.slice A b.length cc)) (go_keep)
      ((go_at_call 54; refine (idx_bytes_n A' m cc (b.take m) HLN.out c _ _ HS.out.drew hml).mono ?_; rintro e w1 ⟨rfl, rfl⟩; rw [HM.out, HI.out]))
    have hcv := HCV.out
    have hsl2 := HSL2.out
    go_wp2_with fail
    refine (parse_ok s HSM.out k HK.out _).mono ?_
    rintro e w1 ⟨rfl, ho⟩
    have HO := Lib.hid ho
    have E1 := Lib.hid (E.out.noth ho)
    clear ho
    go_wp2_with fail
    refine (format_int k hr.1 hr.2 _ E1.out.tab).mono ?_
    rintro e w2 ⟨rfl, ho⟩
    rw [H2.out]
    have HO2 := Lib.hid (HO.out.tr ho)
    clear ho
    go_wp2_with fail
    refine (rdr_fail g _ _ (by decide) _ ((H.out.noth (Only.refl Noth w).drew).noth HO2.out)).mono ?_
    rintro e w3 ⟨rfl, hr, ho⟩
    have HR := Lib.hid hr
    have HO3 := Lib.hid ho
    clear hr ho
    go_wp2
    go_ret2
    exact ⟨rfl, HR.out, ((Only.at_of HO2.out).at_tr HO3.out).undrew⟩
  · have hk : ∀ k, atoiAll s.data.toList ≠ .ok k := fun k h => hk ⟨k, h⟩
    have HK := Lib.hid hk
    clear hk hsd hn
    go_enter Tryd.func45, Tryd.ntmps45
    go_wp2_with fail
    go_region_held3 (fun w' => w'.cell? ⟨g, 0, none⟩ = some (.slice A b.length cc)) (go_keep)
      ((go_at_call 54; refine (idx_bytes_n A' m cc (b.take m) HLN.out c _ _ HS.out.drew hml).mono ?_; rintro e w1 ⟨rfl, rfl⟩; rw [HM.out, HI.out]))
    have hcv := HCV.out
    have hsl2 := HSL2.out
    go_wp2_with fail
    refine (parse_err s HSM.out HK.out _ E.out).mono ?_
    rintro e w1 ⟨k, T, N, rfl, ho⟩
    have HO := Lib.hid ho
    clear ho
    go_wp2_with fail
    refine (rdr_fail g _ _ (by decide) _ ((H.out.noth (Only.refl Noth w).drew).noth HO.out)).mono ?_
    rintro e w3 ⟨rfl, hr, ho⟩
    have HR := Lib.hid hr
    have HO3 := Lib.hid ho
    clear hr ho
    go_wp2
    go_ret2
    exact ⟨rfl, HR.out, ((Only.at_of HO.out).at_tr HO3.out).undrew⟩

theorem rdr_until (g : Nat) (b : List UInt8) (c : UInt8) (L : Nat) (hL : L ≤ 100) (w : World) (h : RdAt w g ⟨b, 0⟩) (he : Env w) :
    Calls Tryd.prog 45 #[.pointer (some ⟨g, 0, none⟩), .int .u8 c.toNat, .int .i64 L] w fun x w' => x = .returned (.tuple #[.int .i64 (Rd.till b c L).2.1, .bool (Rd.till b c L).2.2]) ∧ RdAt w' g (Rd.till b c L).1 ∧ Only (At g) w w' := by
  cases hx : Rd.at? b c L with
  | none =>
    rw [show Rd.till b c L = (Rd.stop (if L < b.length then 4 else 3), 0, false) by unfold Rd.till; rw [hx]]
    exact rdr_until_none g b c L hL hx w h
  | some i =>
    cases hn : num (b.take i) with
    | none =>
      rw [show Rd.till b c L = (Rd.stop 4, 0, false) by unfold Rd.till; rw [hx]; simp only; rw [hn]]
      exact rdr_until_bad g b c L hL i hx hn w h he
    | some n =>
      rw [show Rd.till b c L = (⟨b.drop (i + 1), 0⟩, n, true) by unfold Rd.till; rw [hx]; simp only; rw [hn]]
      exact rdr_until_ok g b c L hL i hx n hn w h he
end Go.Proofs.YtemeglofblnnmaaDoor
