import Derived.Test.YtpibjjhfckopaaaDoorL
namespace Go.Proofs.YtpibjjhfckopaaaDoor
open Go.RowKit Go.Proofs.YtpibjjhfckopaaaDoorW.PrintWords Go.Proofs.YtpibjjhfckopaaaDoorW.PrintLast Go.Proofs.YtpibjjhfckopaaaDoorW.PrintMore Go.Proofs.YtpibjjhfckopaaaDoor.PBlobsScript
set_option linter.unusedVariables false

/-! ## the plain law of the store -/
/-- every blob has its digest -/
def DigB (xs : List S50) : Prop := ∀ x ∈ xs, x.f0 = dig x.f1
theorem take_lt {xs : List S50} {d : ByteArray} : ∀ x ∈ xs.take (place xs d), ltS x.f0 d := by
  induction xs with
  | nil => intro x h; simp at h
  | cons y ys ih =>
    intro x h
    unfold place at h
    rw [List.takeWhile_cons] at h
    by_cases hy : ltS y.f0 d
    · rw [if_pos (by simpa using hy)] at h
      simp only [List.length_cons, List.take_succ_cons, List.mem_cons] at h
      rcases h with rfl | h
      · exact hy
      · exact ih x h
    · rw [if_neg (by simpa using hy)] at h
      simp at h
theorem drop_ge {xs : List S50} (hs : SortedB xs) {d : ByteArray} (hh : hasB xs d = false) : ∀ x ∈ xs.drop (place xs d), ltS d x.f0 := by
  induction xs with
  | nil => intro x h; simp at h
  | cons y ys ih =>
    intro x h
    have hs1 := (List.pairwise_cons.1 hs).1
    have hs2 : SortedB ys := (List.pairwise_cons.1 hs).2
    unfold hasB at hh
    have hh := of_decide_eq_false hh
    have hp : place (y :: ys) d = if ltS y.f0 d then place ys d + 1 else 0 := by
      unfold place
      rw [List.takeWhile_cons]
      by_cases hy : ltS y.f0 d
      · rw [if_pos (by simpa using hy), if_pos hy]; rfl
      · rw [if_neg (by simpa using hy), if_neg hy]; rfl
    by_cases hy : ltS y.f0 d
    · rw [if_pos hy] at hp
      rw [hp] at h hh
      refine ih hs2 ?_ x (by simpa using h)
      unfold hasB
      refine decide_eq_false fun hc => hh ⟨by simpa using hc.1, by simpa using hc.2⟩
    · rw [if_neg hy] at hp
      rw [hp] at h hh
      have hyd : y.f0 ≠ d := fun e => hh ⟨by simp, by simpa using e⟩
      have hdy : ltS d y.f0 := by
        rcases ltS_tri y.f0 d with h1 | h1 | h1
        · exact absurd h1 hy
        · exact absurd h1 hyd
        · exact h1
      have h : x = y ∨ x ∈ ys := by simpa using h
      rcases h with rfl | h
      · exact hdy
      · exact ltS_trans hdy (hs1 x h)
theorem insB_sorted {xs : List S50} (hs : SortedB xs) {p : S50} (hh : hasB xs p.f0 = false) : SortedB (insB xs (place xs p.f0) p) := by
  unfold insB SortedB
  have hs' : SortedB (xs.take (place xs p.f0) ++ xs.drop (place xs p.f0)) := by rw [List.take_append_drop]; exact hs
  obtain ⟨h1, h2, h3⟩ := List.pairwise_append.1 hs'
  refine List.pairwise_append.2 ⟨h1, List.pairwise_cons.2 ⟨fun x hx => drop_ge hs hh x hx, h2⟩, fun a ha b hb => ?_⟩
  rcases List.mem_cons.1 hb with rfl | hb
  · exact take_lt a ha
  · exact h3 a ha b hb
theorem mem_insB {xs : List S50} {i : Nat} {p x : S50} : x ∈ insB xs i p ↔ x = p ∨ x ∈ xs := by
  unfold insB
  rw [List.mem_append, List.mem_cons]
  constructor
  · rintro (h | h | h)
    · exact .inr (List.mem_of_mem_take h)
    · exact .inl h
    · exact .inr (List.mem_of_mem_drop h)
  · rintro (h | h)
    · exact .inr (.inl h)
    · rw [← List.take_append_drop i xs, List.mem_append] at h
      rcases h with h | h
      · exact .inl h
      · exact .inr (.inr h)
/-- what a put leaves: told apart -/
theorem putB_cases (xs : List S50) (t : ByteArray) :
    (hasB xs (dig t) = true ∧ (xs.getD (place xs (dig t)) z50).f1 = t ∧ putB xs t = (xs, dig t, 0)) ∨
    (hasB xs (dig t) = true ∧ (xs.getD (place xs (dig t)) z50).f1 ≠ t ∧ putB xs t = (xs, ⟨#[]⟩, 9)) ∨
    (hasB xs (dig t) = false ∧ putB xs t = (insB xs (place xs (dig t)) ⟨dig t, t⟩, dig t, 0)) := by
  unfold putB
  by_cases hh : hasB xs (dig t) = true
  · rw [if_pos hh]
    by_cases he : (xs.getD (place xs (dig t)) z50).f1 = t
    · exact .inl ⟨hh, he, by rw [if_pos he]⟩
    · exact .inr (.inl ⟨hh, he, by rw [if_neg he]⟩)
  · exact .inr (.inr ⟨by simpa using hh, by rw [if_neg hh]⟩)
theorem putB_sorted {xs : List S50} (hs : SortedB xs) (t : ByteArray) : SortedB (putB xs t).1 := by
  rcases putB_cases xs t with ⟨_, _, e⟩ | ⟨_, _, e⟩ | ⟨h, e⟩ <;> rw [e]
  · exact hs
  · exact hs
  · exact insB_sorted (p := ⟨dig t, t⟩) hs h
theorem putB_len (xs : List S50) (t : ByteArray) : (putB xs t).1.length ≤ xs.length + 1 := by
  rcases putB_cases xs t with ⟨_, _, e⟩ | ⟨_, _, e⟩ | ⟨h, e⟩ <;> rw [e]
  · exact Nat.le_succ _
  · exact Nat.le_succ _
  · show (insB xs _ _).length ≤ _
    unfold insB
    have := place_le xs (dig t)
    simp
    omega
theorem place_insB (xs : List S50) (p : S50) : place (insB xs (place xs p.f0) p) p.f0 = place xs p.f0 := by
  induction xs with
  | nil => simp [insB, place, ltS_irrefl]
  | cons y ys ih =>
    have hp : place (y :: ys) p.f0 = if ltS y.f0 p.f0 then place ys p.f0 + 1 else 0 := by
      unfold place
      rw [List.takeWhile_cons]
      by_cases hy : ltS y.f0 p.f0
      · rw [if_pos (by simpa using hy), if_pos hy]; rfl
      · rw [if_neg (by simpa using hy), if_neg hy]; rfl
    rw [hp]
    by_cases hy : ltS y.f0 p.f0
    · rw [if_pos hy]
      have : insB (y :: ys) (place ys p.f0 + 1) p = y :: insB ys (place ys p.f0) p := rfl
      rw [this]
      unfold place at ih ⊢
      rw [List.takeWhile_cons, if_pos (by simpa using hy), List.length_cons, ih]
    · rw [if_neg hy]
      simp [insB, place, ltS_irrefl]
theorem getB_putB {xs : List S50} (t : ByteArray) (h0 : (putB xs t).2.2 = 0) : getB (putB xs t).1 (putB xs t).2.1 = (t, true) := by
  rcases putB_cases xs t with ⟨h, he, e⟩ | ⟨h, he, e⟩ | ⟨h, e⟩
  · rw [e]
    show getB xs (dig t) = _
    unfold getB
    rw [if_pos h, he]
  · rw [e] at h0
    exact absurd (show (9 : Int) = 0 from h0) (by decide)
  · rw [e]
    show getB (insB xs _ _) (dig t) = _
    have hpl := place_insB xs ⟨dig t, t⟩
    have hpl : place (insB xs (place xs (dig t)) ⟨dig t, t⟩) (dig t) = place xs (dig t) := hpl
    have hle := place_le xs (dig t)
    have hat : (insB xs (place xs (dig t)) ⟨dig t, t⟩).getD (place xs (dig t)) z50 = ⟨dig t, t⟩ := by
      unfold insB
      rw [List.getD_eq_getElem?_getD, List.getElem?_append_right (by rw [List.length_take]; omega), List.length_take, Nat.min_eq_left hle, Nat.sub_self]
      rfl
    have hh : hasB (insB xs (place xs (dig t)) ⟨dig t, t⟩) (dig t) = true := by
      unfold hasB
      rw [hpl, hat]
      refine decide_eq_true ⟨?_, rfl⟩
      unfold insB
      simp
      omega
    unfold getB
    rw [if_pos hh, hpl, hat]
theorem putB_dig {xs : List S50} (hd : DigB xs) (t : ByteArray) : DigB (putB xs t).1 := by
  rcases putB_cases xs t with ⟨_, _, e⟩ | ⟨_, _, e⟩ | ⟨h, e⟩ <;> rw [e]
  · exact hd
  · exact hd
  · intro x hx
    rcases mem_insB.1 hx with rfl | hx
    · rfl
    · exact hd x hx

/-! ## what the law's small helpers answer -/
theorem num_f (e : Int) : hogsheadlaw0_Num.f e = some e := rfl
theorem same_l0 (l : List S50) (hl : l.length < 9223372036854775807) : ∀ (k i : Nat), i ≤ l.length → l.length - i < k → hogsheadlaw0_SameBlobs.l0 k l l i = some true := by
  intro k
  induction k with
  | zero => intro i _ h; omega
  | succ k ih =>
    intro i hi hk
    unfold hogsheadlaw0_SameBlobs.l0
    by_cases h : i < l.length
    · have h1 : (i : Int) < (l.length : Int) := by omega
      rw [if_pos h1, if_pos (by omega), if_pos h1, if_neg (by simp), show wrap64 ((i : Int) + 1) = ((i + 1 : Nat) : Int) from by rw [wrap64_id (by omega) (by omega)]; omega]
      exact ih (i + 1) (by omega) (by omega)
    · rw [if_neg (by omega)]
theorem same_f (l : List S50) (hl : l.length < 9223372036854775807) : hogsheadlaw0_SameBlobs.f (l.length + 1) l l = some true := by
  unfold hogsheadlaw0_SameBlobs.f
  rw [if_pos rfl]
  exact same_l0 l hl _ 0 (Nat.zero_le _) (by omega)
theorem over_l0 : ∀ (k i : Nat) (l : List S50), l.length < 4398046511104 → i ≤ l.length → l.length - i < k → hogsheadlaw0_OverBlobs.l0 k l i = some () := by
  intro k
  induction k with
  | zero => intro i l _ _ h; omega
  | succ k ih =>
    intro i l hl hi hk
    unfold hogsheadlaw0_OverBlobs.l0
    by_cases h : i < l.length
    · rw [if_pos (by omega), if_pos (by omega), show wrap64 ((i : Int) + 1) = ((i + 1 : Nat) : Int) from by rw [wrap64_id (by omega) (by omega)]; omega]
      exact ih (i + 1) _ (by simpa using hl) (by simp; omega) (by simp; omega)
    · rw [if_neg (by omega), if_pos hl]
theorem over_f (l : List S50) (hl : l.length < 4398046511104) : hogsheadlaw0_OverBlobs.f (l.length + 1) l = some () :=
  over_l0 _ 0 l hl (Nat.zero_le _) (by omega)
theorem great_l0 (l : List ByteArray) (most long : Nat) (hm : most < 9223372036854775807) : ∀ (k i : Nat), i ≤ most + 1 → i ≤ l.length → (∀ j, j < i → (l.getD j ByteArray.empty).size ≤ long) → 2 * (l.length - i) + 2 ≤ k →
    ∃ b, hogsheadlaw0_GreatTexts.l0 k l most long i = some b ∧ (b = false → l.length ≤ most ∧ ∀ j, j < l.length → (l.getD j ByteArray.empty).size ≤ long) := by
  intro k
  induction k using Nat.strongRecOn with
  | ind k ih =>
    intro i hi hil hpre hk
    obtain ⟨k, rfl⟩ : ∃ k', k = k' + 2 := ⟨k - 2, by omega⟩
    unfold hogsheadlaw0_GreatTexts.l0
    by_cases h : i < l.length
    · rw [if_pos (by omega)]
      unfold hogsheadlaw0_GreatTexts.j1
      by_cases hm2 : l.length ≤ most
      · have e : rdOf ByteArray.empty l (i : Int) = l.getD i ByteArray.empty := by unfold rdOf; rw [Int.toNat_natCast]
        rw [if_pos (by simp; omega), if_pos (by omega), if_pos (by omega), e]
        by_cases hg : ((l.getD i ByteArray.empty).size : Int) > (long : Int)
        · rw [if_pos hg]
          exact ⟨true, rfl, fun h => by cases h⟩
        · rw [if_neg hg, show wrap64 ((i : Int) + 1) = ((i + 1 : Nat) : Int) from by rw [wrap64_id (by omega) (by omega)]; omega]
          exact ih k (by omega) (i + 1) (by omega) (by omega) (fun j hj => by
            rcases Nat.lt_succ_iff_lt_or_eq.1 hj with h1 | rfl
            · exact hpre j h1
            · omega) (by omega)
      · rw [if_neg (by simp; omega)]
        exact ⟨_, rfl, fun h => by simp at h; omega⟩
    · rw [if_neg (by omega)]
      unfold hogsheadlaw0_GreatTexts.j1
      rw [if_neg (by simp)]
      refine ⟨_, rfl, fun h2 => ⟨by simp at h2; omega, fun j hj => hpre j (by omega)⟩⟩
theorem great_f (l : List ByteArray) (most long : Nat) (hm : most < 9223372036854775807) :
    ∃ b, hogsheadlaw0_GreatTexts.f (2 * l.length + 2) l most long = some b ∧ (b = false → l.length ≤ most ∧ ∀ j, j < l.length → (l.getD j ByteArray.empty).size ≤ long) :=
  great_l0 l most long hm _ 0 (Nat.zero_le _) (Nat.zero_le _) (fun j hj => absurd hj (Nat.not_lt_zero j)) (by omega)
end Go.Proofs.YtpibjjhfckopaaaDoor
