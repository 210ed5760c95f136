import Derived.Test.YtfcdboagbehhiaaDoorR0
namespace Go.Proofs.YtfcdboagbehhiaaDoor
open Go.RowKit Go.Proofs.YtfcdboagbehhiaaDoorW.PrintWords Go.Proofs.YtfcdboagbehhiaaDoorW.PrintLast Go.Proofs.YtfcdboagbehhiaaDoorW.PrintMore Go.Proofs.YtfcdboagbehhiaaDoor.PTarWhole
set_option linter.unusedVariables false
set_option linter.unusedSimpArgs false

/-! ## TarSizes: the plain law -/
def recs (x : S29) : Nat := (recB pathB x.f0).size + (recB linkpathB x.f2).size
def longN (x : S29) : Prop := 100 < x.f0.size ∨ (x.f1 = 4 ∧ 100 < x.f2.size)
instance (x : S29) : Decidable (longN x) := inferInstanceAs (Decidable (_ ∨ _))
def bothN (x : S29) : Prop := x.f1 = 4 ∧ 100 < x.f0.size ∧ 512 < recs x ∧ 100 < x.f2.size
instance (x : S29) : Decidable (bothN x) := inferInstanceAs (Decidable (_ ∧ _))
def dataN (x : S29) : Nat := if x.f1 = 4 then 0 else (x.f2.size + 511) / 512
def blkN (x : S29) : Nat := (if longN x then 1 else 0) + (if bothN x then 1 else 0) + dataN x
theorem name_long (p : ByteArray) (h : 100 < p.size ∨ 100 < (nameB p).size) : nameB p = p ∧ 100 < p.size := by
  unfold nameB at *
  by_cases he : p.toList.isEmpty = true
  · rw [if_pos he] at h
    rw [empty_size] at he
    rcases h with h | h
    · omega
    · exact absurd h (by decide)
  · rw [if_neg he] at h ⊢
    exact ⟨rfl, by omega⟩
theorem entry_blocks {name link data : ByteArray} {kind : Int} (hn : name.size ≤ 100) (hl : link.size ≤ 100) : (entryL name kind link data).length = 512 * (1 + (data.size + 511) / 512) := by
  rw [entryL_length hn hl]
  unfold padN
  omega
theorem extra_cases {x : S29} (hg : goodB x = true) : (¬ longN x ∧ extraB x = ⟨#[]⟩) ∨ (longN x ∧ 0 < (extraB x).size ∧ (((extraB x).size + 511) / 512 = 1 + (if bothN x then 1 else 0))) := by
  have hs := good_spec hg
  have h4 : pathB.size = 4 := rfl
  have h8 : linkpathB.size = 8 := rfl
  have hp := recB_le pathB x.f0 (by have := hs.size0; omega)
  have hd := recB_le linkpathB x.f2 (by have := hs.size2; omega)
  have h0 := hs.size0
  have h2 := hs.size2
  by_cases P : 100 < x.f0.size
  · have hn := name_long x.f0 (.inl P)
    have e1 : extra1 x = recB pathB x.f0 := by unfold extra1; rw [hn.1, if_pos P]
    by_cases L : x.f1 = 4 ∧ 100 < x.f2.size
    · have e2 : (extraB x).size = recs x := by unfold extraB recs; rw [if_pos L, e1, ByteArray.size_append]
      have hr : recs x = (recB pathB x.f0).size + (recB linkpathB x.f2).size := rfl
      refine .inr ⟨.inl P, by omega, ?_⟩
      rw [e2]
      by_cases B : 512 < recs x
      · rw [if_pos ⟨L.1, P, B, L.2⟩]; omega
      · rw [if_neg (fun h => B h.2.2.1)]; omega
    · have e2 : (extraB x).size = (recB pathB x.f0).size := by unfold extraB; rw [if_neg L, e1]
      refine .inr ⟨.inl P, by omega, ?_⟩
      rw [e2, if_neg (fun h => L ⟨h.1, h.2.2.2⟩)]
      omega
  · have hn : ¬ 100 < (nameB x.f0).size := fun h => P (name_long x.f0 (.inr h)).2
    have e1 : extra1 x = ⟨#[]⟩ := by unfold extra1; rw [if_neg hn]
    by_cases L : x.f1 = 4 ∧ 100 < x.f2.size
    · have e2 : (extraB x).size = (recB linkpathB x.f2).size := by unfold extraB; rw [if_pos L, e1, nil_app]
      refine .inr ⟨.inr L, by omega, ?_⟩
      rw [e2, if_neg (fun h => P h.2.1)]
      omega
    · refine .inl ⟨fun h => ?_, ?_⟩
      · rcases h with h | h
        · exact P h
        · exact L h
      · unfold extraB
        rw [if_neg L, e1]
theorem nodeM_length {x : S29} (hg : goodB x = true) : (nodeM x).length = 512 * (1 + dataN x) := by
  have hc := cut_size (nameB x.f0)
  have hc2 := cut_size x.f2
  unfold nodeM dataN
  split
  · rw [entry_blocks (by omega) (by omega)]
    rfl
  · rw [entry_blocks (by omega) (by decide)]
theorem nodeH_eq {x : S29} (hg : goodB x = true) : nodeH x = 1 + (if longN x then 1 else 0) := by
  unfold nodeH
  rcases extra_cases hg with ⟨h1, h2⟩ | ⟨h1, h2, _⟩
  · rw [h2, if_pos nil_empty, if_neg h1]
  · rw [if_pos h1, if_neg (fun h => by rw [empty_size] at h; omega)]
theorem nodeL_length {x : S29} (hg : goodB x = true) : (nodeL x).length = 512 * (nodeH x + blkN x) := by
  rw [nodeH_eq hg]
  unfold nodeL blkN
  rw [List.length_append, nodeM_length hg]
  unfold nodeE
  rcases extra_cases hg with ⟨h1, h2⟩ | ⟨h1, h2, h3⟩
  · rw [h2, if_pos nil_empty, if_neg h1, if_neg (fun h => h1 (.inl h.2.1))]
    simp only [List.length_nil]
    omega
  · rw [if_pos h1, if_neg (fun h => by rw [empty_size] at h; omega), entry_blocks (by decide) (by decide), h3]
    omega
def laidK (t : List S29) : Nat := (t.map blkN).sum
theorem laidK_snoc {t : List S29} {i : Nat} (h : i < t.length) : laidK (t.take (i + 1)) = laidK (t.take i) + blkN (nd t i) := by
  unfold laidK
  rw [take_nd h, List.map_append, List.sum_append]
  simp
theorem laid_length {t : List S29} (h : mayT t = true) : ∀ i, i ≤ t.length → (laidL (t.take i)).length = 512 * (laidH (t.take i) + laidK (t.take i))
  | 0, _ => by simp [laidL, laidH, laidK]
  | i + 1, hi => by
    rw [laidL_snoc (by omega), laidH_snoc (by omega), laidK_snoc (by omega), List.length_append, nodeL_length (may_good h (show i < t.length by omega)), laid_length h i (by omega)]
    omega
theorem layL_length {t : List S29} (h : mayT t = true) : (layL t).length = 512 * (laidH t + (2 + laidK t)) := by
  have := laid_length h t.length (Nat.le_refl _)
  rw [List.take_length] at this
  unfold layL
  rw [List.length_append, List.length_replicate, this]
  omega
theorem blkN_le {x : S29} (hg : goodB x = true) : blkN x ≤ 3 := by
  have := (good_spec hg).size2
  unfold blkN dataN
  split <;> split <;> split <;> omega
theorem laidK_le {t : List S29} (h : mayT t = true) : ∀ i, i ≤ t.length → laidK (t.take i) ≤ 3 * i
  | 0, _ => by simp [laidK]
  | i + 1, hi => by
    rw [laidK_snoc (by omega)]
    have := laidK_le h i (by omega)
    have := blkN_le (may_good h (show i < t.length by omega))
    omega
end Go.Proofs.YtfcdboagbehhiaaDoor
