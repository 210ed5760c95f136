import Derived.Test.YtpibjjhfckopaaaDoorM
namespace Go.Proofs.YtpibjjhfckopaaaDoor
open Go.RowKit Go.Proofs.YtpibjjhfckopaaaDoorW.PrintWords Go.Proofs.YtpibjjhfckopaaaDoorW.PrintLast Go.Proofs.YtpibjjhfckopaaaDoorW.PrintMore Go.Proofs.YtpibjjhfckopaaaDoor.PBlobsScript
set_option linter.unusedVariables false

/-! ## whatever the order: the plain law -/
/-- no two unlike texts have one digest -/
def NoClash (all : List ByteArray) : Prop := ∀ a ∈ all, ∀ b ∈ all, dig a = dig b → a = b
/-- the store holds exactly these texts -/
def Holds (ts : List ByteArray) (xs : List S50) : Prop := SortedB xs ∧ ∀ x, x ∈ xs ↔ ∃ t ∈ ts, x = ⟨dig t, t⟩
theorem Holds.nil : Holds [] [] := ⟨List.Pairwise.nil, fun x => by simp⟩
theorem getD_mem {xs : List S50} {k : Nat} (h : k < xs.length) : xs.getD k z50 ∈ xs := by
  rw [List.getD_eq_getElem?_getD, List.getElem?_eq_getElem h]
  exact List.getElem_mem h
theorem Holds.put {all ts : List ByteArray} {xs : List S50} {t : ByteArray} (hn : NoClash all) (hts : ∀ a ∈ ts, a ∈ all) (ht : t ∈ all) (h : Holds ts xs) : (putB xs t).2.2 = 0 ∧ Holds (t :: ts) (putB xs t).1 := by
  have hs := putB_sorted h.1 t
  rcases putB_cases xs t with ⟨hh, he, e⟩ | ⟨hh, he, e⟩ | ⟨hh, e⟩
  · rw [e] at hs ⊢
    refine ⟨rfl, hs, fun x => ?_⟩
    obtain ⟨t', ht', e'⟩ := (h.2 _).1 (getD_mem (hasB_lt hh))
    have : t' = t := by rw [e'] at he; exact he
    subst this
    rw [show x ∈ (xs, dig t', (0 : Int)).1 ↔ x ∈ xs from Iff.rfl, h.2]
    constructor
    · rintro ⟨a, ha, rfl⟩; exact ⟨a, List.mem_cons_of_mem _ ha, rfl⟩
    · rintro ⟨a, ha, rfl⟩
      rcases List.mem_cons.1 ha with rfl | ha
      · exact ⟨a, ht', rfl⟩
      · exact ⟨a, ha, rfl⟩
  · exfalso
    obtain ⟨t', ht', e'⟩ := (h.2 _).1 (getD_mem (hasB_lt hh))
    have h0 := hh
    unfold hasB at h0
    have h1 := (of_decide_eq_true h0).2
    rw [e'] at h1
    have : t' = t := hn t' (hts t' ht') t ht h1
    rw [e'] at he
    exact he this
  · rw [e] at hs ⊢
    refine ⟨rfl, hs, fun x => ?_⟩
    rw [show x ∈ (insB xs (place xs (dig t)) ⟨dig t, t⟩, dig t, (0 : Int)).1 ↔ x ∈ insB xs (place xs (dig t)) ⟨dig t, t⟩ from Iff.rfl, mem_insB, h.2]
    constructor
    · rintro (rfl | ⟨a, ha, rfl⟩)
      · exact ⟨t, List.mem_cons_self, rfl⟩
      · exact ⟨a, List.mem_cons_of_mem _ ha, rfl⟩
    · rintro ⟨a, ha, rfl⟩
      rcases List.mem_cons.1 ha with rfl | ha
      · exact .inl rfl
      · exact .inr ⟨a, ha, rfl⟩
theorem sorted_eq : ∀ {xs ys : List S50}, SortedB xs → SortedB ys → (∀ x, x ∈ xs ↔ x ∈ ys) → xs = ys := by
  intro xs
  induction xs with
  | nil =>
    intro ys _ _ h
    cases ys with
    | nil => rfl
    | cons y ys => exact absurd ((h y).2 List.mem_cons_self) (by simp)
  | cons x xs ih =>
    intro ys hx hy h
    cases ys with
    | nil => exact absurd ((h x).1 List.mem_cons_self) (by simp)
    | cons y ys =>
      have hx1 := (List.pairwise_cons.1 hx).1
      have hy1 := (List.pairwise_cons.1 hy).1
      have hxy : x = y := by
        rcases List.mem_cons.1 ((h x).1 List.mem_cons_self) with e | e
        · exact e
        · rcases List.mem_cons.1 ((h y).2 List.mem_cons_self) with e2 | e2
          · exact e2.symm
          · exact absurd (ltS_trans (hx1 y e2) (hy1 x e)) (ltS_irrefl _)
      subst hxy
      rw [ih (List.pairwise_cons.1 hx).2 (List.pairwise_cons.1 hy).2 (fun z => ?_)]
      constructor
      · intro hz
        rcases List.mem_cons.1 ((h z).1 (List.mem_cons_of_mem _ hz)) with rfl | e
        · exact absurd (hx1 z hz) (ltS_irrefl _)
        · exact e
      · intro hz
        rcases List.mem_cons.1 ((h z).2 (List.mem_cons_of_mem _ hz)) with rfl | e
        · exact absurd (hy1 z hz) (ltS_irrefl _)
        · exact e
theorem Holds.eq {ts us : List ByteArray} {xs ys : List S50} (h : Holds ts xs) (k : Holds us ys) (e : ∀ t, t ∈ ts ↔ t ∈ us) : xs = ys :=
  sorted_eq h.1 k.1 fun x => by
    rw [h.2, k.2]
    constructor
    · rintro ⟨a, ha, rfl⟩; exact ⟨a, (e a).1 ha, rfl⟩
    · rintro ⟨a, ha, rfl⟩; exact ⟨a, (e a).2 ha, rfl⟩
theorem Holds.get {ts : List ByteArray} {xs : List S50} (h : Holds ts xs) {t : ByteArray} (ht : t ∈ ts) : getB xs (dig t) = (t, true) := by
  obtain ⟨k, hk, hx⟩ := List.getElem_of_mem ((h.2 ⟨dig t, t⟩).2 ⟨t, ht, rfl⟩)
  exact getB_of h.1 hk (x := ⟨dig t, t⟩) (by rw [List.getD_eq_getElem?_getD, List.getElem?_eq_getElem hk]; exact hx) rfl
end Go.Proofs.YtpibjjhfckopaaaDoor
