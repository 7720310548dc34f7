/- Two lists of alerts that are alike; a list with one put in, by its place: plain. -/
import Derived.Test.YtokgignmdgejoaaDoorAlB
namespace Go.Proofs.YtokgignmdgejoaaDoor
open Go.RowKit Go.Lib
set_option linter.unusedVariables false

theorem srt_split {A B : List Al} {e : Al} (hA : Srt A) (hB : Srt B) (h1 : ∀ x ∈ A, bytesBefore x.kb e.kb = true) (h2 : ∀ x ∈ B, bytesBefore e.kb x.kb = true) : Srt (A ++ e :: B) := by
  refine List.pairwise_append.2 ⟨hA, List.pairwise_cons.2 ⟨h2, hB⟩, fun x hx y hy => ?_⟩
  rcases List.mem_cons.1 hy with rfl | hy
  · exact h1 x hx
  · exact WideShapes.bytes_trans _ _ _ (h1 x hx) (h2 y hy)
theorem split_at {L : List Al} {i : Nat} {x : Al} (hx : L[i]? = some x) : L = L.take i ++ x :: L.drop (i + 1) := by
  obtain ⟨h1, h2⟩ := List.getElem?_eq_some_iff.1 hx
  rw [← h2, ← List.drop_eq_getElem_cons h1, List.take_append_drop]
theorem put_at_eq {L : List Al} {i : Nat} {x e : Al} (hs : Srt L) (hx : L[i]? = some x) (hk : x.kb = e.kb) : cget e.kb L = some x ∧ cput e L = L.take i ++ e :: L.drop (i + 1) := by
  have hsp := split_at hx
  have hmem := List.mem_of_getElem? hx
  refine ⟨(cget_iff hs).2 ⟨hmem, hk⟩, ?_⟩
  obtain ⟨A, hA⟩ : ∃ A, L.take i = A := ⟨_, rfl⟩
  obtain ⟨B, hB⟩ : ∃ B, L.drop (i + 1) = B := ⟨_, rfl⟩
  rw [hA, hB] at hsp ⊢
  have hs2 := hs
  rw [hsp] at hs2
  obtain ⟨p1, p2, p3⟩ := List.pairwise_append.1 hs2
  have p4 := List.pairwise_cons.1 p2
  have hS : Srt (A ++ e :: B) := srt_split p1 p4.2 (fun y hy => by have := p3 y hy x (by simp); rwa [hk] at this) (fun y hy => by have := p4.1 y hy; rwa [hk] at this)
  refine srt_ext (cput_srt hs) hS (fun y => ?_)
  rw [cput_mem, hsp]
  simp only [List.mem_append, List.mem_cons]
  constructor
  · rintro (rfl | ⟨h | rfl | h, hne⟩)
    · simp
    · simp [h]
    · exact absurd hk hne
    · simp [h]
  · rintro (h | rfl | h)
    · exact .inr ⟨.inl h, before_ne (by have := p3 y h x (by simp); rwa [hk] at this)⟩
    · exact .inl rfl
    · exact .inr ⟨.inr (.inr h), fun e1 => before_ne (by have := p4.1 y h; rwa [hk] at this) e1.symm⟩
theorem put_at_ne {L : List Al} {i : Nat} {e : Al} (hs : Srt L) (hb : ∀ x ∈ L.take i, bytesBefore x.kb e.kb = true) (ha : ∀ x, L[i]? = some x → bytesBefore x.kb e.kb = false ∧ x.kb ≠ e.kb) : cget e.kb L = none ∧ cput e L = L.take i ++ e :: L.drop i := by
  have hsp : L = L.take i ++ L.drop i := (List.take_append_drop i L).symm
  have hd : ∀ y ∈ L.drop i, bytesBefore e.kb y.kb = true := fun y hy => by
    cases hg : L[i]? with
    | none =>
      rw [List.getElem?_eq_none_iff] at hg
      rw [List.drop_eq_nil_of_le hg] at hy
      cases hy
    | some x =>
      obtain ⟨h1, h2⟩ := ha x hg
      have hex : bytesBefore e.kb x.kb = true := by
        rcases WideAt.bytes_total _ _ h2 with h | h
        · rw [h1] at h; cases h
        · exact h
      obtain ⟨h3, h4⟩ := List.getElem?_eq_some_iff.1 hg
      rw [List.drop_eq_getElem_cons h3, h4] at hy
      rcases List.mem_cons.1 hy with rfl | hy
      · exact hex
      · have hs2 : Srt (L.drop i) := List.Pairwise.sublist (List.drop_sublist i L) hs
        rw [List.drop_eq_getElem_cons h3, h4] at hs2
        exact WideShapes.bytes_trans _ _ _ hex ((List.pairwise_cons.1 hs2).1 y hy)
  have hno : ∀ y ∈ L, y.kb ≠ e.kb := fun y hy => by
    rw [hsp] at hy
    rcases List.mem_append.1 hy with hy | hy
    · exact before_ne (hb y hy)
    · exact fun e1 => before_ne (hd y hy) e1.symm
  refine ⟨cget_none.2 hno, srt_ext (cput_srt hs) (srt_split (List.Pairwise.sublist (List.take_sublist i L) hs) (List.Pairwise.sublist (List.drop_sublist i L) hs) hb hd) (fun y => ?_)⟩
  rw [cput_mem]
  simp only [List.mem_append, List.mem_cons]
  constructor
  · rintro (rfl | ⟨h, _⟩)
    · simp
    · rw [hsp] at h
      rcases List.mem_append.1 h with h | h <;> simp [h]
  · rintro (h | rfl | h)
    · have := List.mem_of_mem_take h; exact .inr ⟨this, hno y this⟩
    · exact .inl rfl
    · have := List.mem_of_mem_drop h; exact .inr ⟨this, hno y this⟩
/-- What an alert says: its labels and its times. -/
def Al.core (e : Al) : List Pr × Int × Int := (e.ls, e.st, e.en)
def Alike (x y : Al) : Prop := x.core = y.core ∧ x.kb = y.kb
/-- Lists of alike alerts. -/
def Tw : List Al → List Al → Prop
  | [], [] => True
  | x :: l, y :: m => Alike x y ∧ Tw l m
  | [], _ :: _ => False
  | _ :: _, [] => False
theorem Alike.ls {x y : Al} (h : Alike x y) : x.ls = y.ls := congrArg (·.1) h.1
theorem Alike.st {x y : Al} (h : Alike x y) : x.st = y.st := congrArg (·.2.1) h.1
theorem Alike.en {x y : Al} (h : Alike x y) : x.en = y.en := congrArg (·.2.2) h.1
theorem Tw.refl : ∀ l : List Al, Tw l l
  | [] => trivial
  | x :: l => ⟨⟨rfl, rfl⟩, Tw.refl l⟩
theorem Tw.len : ∀ {l m : List Al}, Tw l m → l.length = m.length
  | [], [], _ => rfl
  | x :: l, y :: m, h => by have := Tw.len h.2; simp [this]
theorem Tw.core : ∀ {l m : List Al}, Tw l m → l.map Al.core = m.map Al.core
  | [], [], _ => rfl
  | x :: l, y :: m, h => by rw [List.map_cons, List.map_cons, h.1.1, Tw.core h.2]
theorem Tw.filter {p q : Al → Bool} (hp : ∀ x y, Alike x y → p x = q y) : ∀ {l m : List Al}, Tw l m → Tw (l.filter p) (m.filter q)
  | [], [], _ => trivial
  | x :: l, y :: m, h => by
    have ih := Tw.filter hp h.2
    rw [List.filter_cons, List.filter_cons, hp x y h.1]
    split
    · exact ⟨h.1, ih⟩
    · exact ih
theorem Tw.get {k : List UInt8} : ∀ {l m : List Al}, Tw l m → (cget k l = none ∧ cget k m = none) ∨ ∃ x y, cget k l = some x ∧ cget k m = some y ∧ Alike x y
  | [], [], _ => .inl ⟨rfl, rfl⟩
  | x :: l, y :: m, h => by
    have ih := Tw.get (k := k) h.2
    unfold cget at ih ⊢
    simp only [List.find?_cons]
    rw [h.1.2]
    cases hk : (y.kb == k)
    · exact ih
    · exact .inr ⟨x, y, rfl, rfl, h.1⟩
theorem Tw.cins {e f : Al} (he : Alike e f) : ∀ {l m : List Al}, Tw l m → Tw (cins e l) (cins f m)
  | [], [], _ => ⟨he, trivial⟩
  | x :: l, y :: m, h => by
    have ih := Tw.cins he h.2
    simp only [Proofs.YtokgignmdgejoaaDoor.cins]
    rw [he.2, h.1.2]
    split
    · exact ⟨he, h⟩
    · exact ⟨h.1, ih⟩
theorem Tw.put {e f : Al} (he : Alike e f) {l m : List Al} (h : Tw l m) : Tw (cput e l) (cput f m) := by
  unfold cput
  exact Tw.cins he (Tw.filter (fun x y hxy => by rw [hxy.2, he.2]) h)
theorem Tw.some {k : List UInt8} {l m : List Al} (h : Tw l m) : (cget k l).isSome = (cget k m).isSome := by
  rcases Tw.get (k := k) h with ⟨h1, h2⟩ | ⟨x, y, h1, h2, _⟩
  · rw [h1, h2]
  · rw [h1, h2]; rfl
theorem Tw.err {l m : List Al} (h : Tw l m) (ls : List Pr) (st en : Int) : aerr l ls st en = aerr m ls st en := by
  unfold aerr
  rw [h.some, h.len]
theorem Tw.ast {l m : List Al} (h : Tw l m) (ls : List Pr) (st en : Int) : ast l ls st en = ast m ls st en := by
  unfold Proofs.YtokgignmdgejoaaDoor.ast
  rcases Tw.get (k := lkey ls) h with ⟨h1, h2⟩ | ⟨x, y, h1, h2, h3⟩
  · rw [h1, h2]
  · rw [h1, h2]
    simp only
    rw [h3.st, h3.en]
end Go.Proofs.YtokgignmdgejoaaDoor
