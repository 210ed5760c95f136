import Derived.Test.YtfcdboagbehhiaaDoorJ
import Derived.Test.YtfcdboagbehhiaaDoorK
namespace Go.Proofs.YtfcdboagbehhiaaDoor
open Go.RowKit Go.Proofs.YtfcdboagbehhiaaDoorW.PrintWords Go.Proofs.YtfcdboagbehhiaaDoorW.PrintLast Go.Proofs.YtfcdboagbehhiaaDoorW.PrintMore Go.Proofs.YtfcdboagbehhiaaDoor.PTarWhole
open Go.Lib (byteCells)
set_option linter.unusedVariables false
set_option linter.unusedSimpArgs false

/-! ## a text without a byte 0 -/
theorem idx_neg {l : List UInt8} {c : UInt8} : Lib.indexByte l c < 0 ↔ c ∉ l := by
  constructor
  · intro h hm
    have h1 : Lib.indexByte l c = -1 := by have := Lib.indexByte_ge l c; omega
    obtain ⟨k, hk, e⟩ := List.getElem_of_mem hm
    exact Lib.indexByte_none h1 k (by rw [List.getElem?_eq_getElem hk, e])
  · intro h
    have hge := Lib.indexByte_ge l c
    rcases Int.lt_or_le (Lib.indexByte l c) 0 with h1 | h1
    · exact h1
    · exfalso
      obtain ⟨o, ho⟩ := Int.eq_ofNat_of_zero_le h1
      have := (Lib.indexByte_some ho).1
      exact h (List.mem_of_getElem? this)
theorem splitK_mem (k : Nat) : ∀ (s : List UInt8) (b : UInt8), b ∈ s → b = 47 ∨ ∃ p ∈ Lib.splitK [47] 0 k s, b ∈ p := by
  induction k with
  | zero => exact fun s b hb => .inr ⟨s, by simp [Lib.splitK], hb⟩
  | succ k ih =>
    intro s b hb
    unfold Lib.splitK
    split
    · exact .inr ⟨s, by simp, hb⟩
    · rename_i hne
      have hge := Lib.index_ge s [47]
      have hne' : Lib.index s [47] ≠ -1 := fun e => hne (by rw [e]; rfl)
      obtain ⟨i, hi⟩ := Int.eq_ofNat_of_zero_le (show 0 ≤ Lib.index s [47] by omega)
      rw [hi]
      have hi2 : Lib.indexByte s 47 = (i : Int) := by rw [← Lib.index_one]; exact hi
      obtain ⟨hat, _⟩ := Lib.indexByte_some hi2
      have hlt : i < s.length := by
        rcases Nat.lt_or_ge i s.length with h | h
        · exact h
        · rw [List.getElem?_eq_none h] at hat; cases hat
      have hs : s = s.take i ++ 47 :: s.drop (i + 1) := by
        rw [List.getElem?_eq_getElem hlt] at hat
        injection hat with hat
        rw [← hat, ← List.drop_eq_getElem_cons hlt, List.take_append_drop]
      rw [hs] at hb
      rcases List.mem_append.1 hb with h | h
      · exact .inr ⟨s.take i, by simp, h⟩
      · rcases List.mem_cons.1 h with h | h
        · exact .inl h
        · rcases ih _ _ h with h | ⟨p, hp, hbp⟩
          · exact .inl h
          · exact .inr ⟨p, by simp; exact .inr hp, hbp⟩
def noZ (s : ByteArray) : Prop := (0 : UInt8) ∉ s.data.toList
theorem part_noZ {s : ByteArray} (h : partB s = true) : noZ s := by
  unfold partB at h
  simp only [Bool.and_eq_true] at h
  exact idx_neg.1 (of_decide_eq_true h.2.2.2.1)
theorem may_noZ {p : ByteArray} (h : mayB p = true) : noZ p ∧ p.size ≤ 200 := by
  unfold mayB at h
  rw [Bool.or_eq_true] at h
  rcases h with h | h
  · have h0 : p.toList = [] := by simpa using h
    have h1 : p = ⟨#[]⟩ := toList_inj' (by rw [h0, ByteArray.toList_eq])
    subst h1
    exact ⟨by unfold noZ; simp, by decide⟩
  · simp only [Bool.and_eq_true] at h
    refine ⟨?_, by have := of_decide_eq_true h.1; omega⟩
    intro hz
    rcases splitK_mem (Lib.countB p slash) _ _ hz with e | ⟨q, hq, hzq⟩
    · cases e
    · have hsd := Lib.splitB_data slash 0 (Lib.countB p slash) p
      have hq' : q ∈ (partsL p).map (·.data.toList) := by
        unfold partsL
        rw [hsd]
        exact hq
      obtain ⟨s, hs, rfl⟩ := List.mem_map.1 hq'
      exact part_noZ (List.all_eq_true.1 h.2.1 s hs) hzq
theorem cut_noZ {s : ByteArray} (h : noZ s) : noZ (cutB s) := by
  intro hz
  refine h ?_
  have : (cutB s).data.toList = s.data.toList.take (min s.size 100) := by
    unfold cutB
    simp [ByteArray.data_extract]
  rw [this] at hz
  exact List.mem_of_mem_take hz
theorem cut_size (s : ByteArray) : (cutB s).size = min s.size 100 := by
  unfold cutB
  rw [ByteArray.size_extract]
  omega
theorem empty_size {s : ByteArray} : s.toList.isEmpty = true ↔ s.size = 0 := by
  rw [ByteArray.toList_eq]
  simp [List.isEmpty_iff, ← ByteArray.size_data]
theorem text_of {s : ByteArray} (h : noZ s) (hs : s.size ≤ 100) : textB s = true := by
  unfold textB
  rw [decide_eq_true (by omega), decide_eq_true (idx_neg.2 h)]
  rfl
/-! ## tar.extra -/
def pathB : ByteArray := ⟨#[112, 97, 116, 104]⟩
def linkpathB : ByteArray := ⟨#[108, 105, 110, 107, 112, 97, 116, 104]⟩
def extra1 (x : S29) : ByteArray := if 100 < (nameB x.f0).size then recB pathB (nameB x.f0) else ⟨#[]⟩
def extraB (x : S29) : ByteArray := if x.f1 = 4 ∧ 100 < x.f2.size then extra1 x ++ recB linkpathB x.f2 else extra1 x
theorem recB_size (k v : ByteArray) (h : k.size + v.size < 800000) : (recB k v).size = recN (restB k v).size := by
  unfold recB
  rw [ByteArray.size_append, decB_size]
  have := restB_size k v
  have := recN_fix (r := (restB k v).size) (by omega)
  omega
theorem recN_le (r : Nat) (h : r < 900000) : r < recN r ∧ recN r ≤ r + 6 := by
  have h1 := dD_spec r (by omega)
  have h2 := dD_spec (r + dD r) (by omega)
  unfold recN
  omega
theorem recB_le (k v : ByteArray) (h : k.size + v.size < 800000) : k.size + v.size + 3 < (recB k v).size ∧ (recB k v).size ≤ k.size + v.size + 9 := by
  rw [recB_size k v h]
  have := restB_size k v
  have := recN_le (restB k v).size (by omega)
  omega
theorem nil_app (s : ByteArray) : (⟨#[]⟩ : ByteArray) ++ s = s := ByteArray.ext (by rw [ByteArray.data_append]; simp)
theorem nameB_size (p : ByteArray) : (nameB p).size ≤ p.size + 1 ∧ 0 < (nameB p).size := by
  unfold nameB
  cases h : p.toList.isEmpty
  · rw [if_neg (by simp)]
    have h1 : ¬ (p.toList.isEmpty = true) := by rw [h]; simp
    rw [empty_size] at h1
    omega
  · rw [if_pos rfl]
    exact ⟨by have : (⟨#[46]⟩ : ByteArray).size = 1 := rfl; omega, by decide⟩
set_option maxHeartbeats 1000000 in
set_option maxRecDepth 100000 in
theorem extra34 (x : S29) (w : World) (hE : Env w) (h0 : x.f0.size ≤ 1000) (h2 : x.f2.size ≤ 1000) :
    Calls Tryd.prog 34 #[.agg #[.string x.f0, .int .i64 x.f1, .string x.f2]] w fun e w' => e = .returned (.string (extraB x)) ∧ Below w.heap.size w w' := by
  have hns := nameB_size x.f0
  have hba : Below w.heap.size w (w.alloc (.cells #[.string x.f0, .int .i64 x.f1, .string x.f2] 29)) := below_alloc (Below.refl _ _) _
  have hn0 := blk_new w (.cells #[.string x.f0, .int .i64 x.f1, .string x.f2] 29)
  have hc1 : (w.alloc (.cells #[.string x.f0, .int .i64 x.f1, .string x.f2] 29)).cell? ⟨w.heap.size, 1, none⟩ = some (.int .i64 x.f1) := by rw [blk_cell hn0]; rfl
  have hc2 : (w.alloc (.cells #[.string x.f0, .int .i64 x.f1, .string x.f2] 29)).cell? ⟨w.heap.size, 2, none⟩ = some (.string x.f2) := by rw [blk_cell hn0]; rfl
  have HBA := Aside0.mk hba
  have HE := Aside0.mk (hE.below hba)
  have HC1 := Aside0.mk hc1
  have HC2 := Aside0.mk hc2
  clear hba hE hn0 hc1 hc2
  obtain ⟨nm, hnm⟩ : ∃ nm, nm = nameB x.f0 := ⟨_, rfl⟩
  have HNM := Aside0.mk hnm
  rw [← hnm] at hns
  clear hnm
  go_enter Tryd.func34, Tryd.ntmps34
  go_wp2_with fail
  refine (name37 x.f0 x.f2 x.f1 _).mono ?_
  rintro e w1 ⟨rfl, hb⟩
  rw [← HNM.out]
  replace HE := Aside0.mk (HE.out.below hb)
  replace HC1 := Aside0.mk (pw_cell_below hb HC1.out)
  replace HC2 := Aside0.mk (pw_cell_below hb HC2.out)
  replace HBA := Aside0.mk (below_then HBA.out HBA.out.size hb)
  clear hb
  by_cases hl : 100 < nm.size
  · have HX1 : Aside0 (extra1 x = recB pathB nm) := ⟨by unfold extra1; rw [← HNM.out, if_pos hl]⟩
    have hl1 : decide (100 < (nm.size : Int)) = true := decide_eq_true (by omega)
    clear hl
    go_wp2_with fail
    refine (record7 pathB nm _ HE.out (by decide) (by omega)).mono ?_
    rintro e w2 ⟨rfl, hb⟩
    replace HE := Aside0.mk (HE.out.below hb)
    replace HC1 := Aside0.mk (pw_cell_below hb HC1.out)
    replace HC2 := Aside0.mk (pw_cell_below hb HC2.out)
    replace HBA := Aside0.mk (below_then HBA.out HBA.out.size hb)
    clear hb
    have hq := (recB_le pathB nm (by have : pathB.size = 4 := rfl; omega)).2
    have h8 : pathB.size = 4 := rfl
    obtain ⟨q1, hq1⟩ : ∃ q, q = recB pathB nm := ⟨_, rfl⟩
    rw [← hq1] at hq ⊢
    have HQ1 := Aside0.mk hq1
    have hq8 : q1.size ≤ 2000 := by omega
    clear hq1 hq h8
    by_cases hk : x.f1 = 4
    · have hk1 : (x.f1 == 4) = true := by simpa using hk
      by_cases hd : 100 < x.f2.size
      · have hd1 : decide (100 < (x.f2.size : Int)) = true := decide_eq_true (by omega)
        have HKD : Aside0 (extraB x = extra1 x ++ recB linkpathB x.f2) := ⟨by unfold extraB; rw [if_pos ⟨hk, hd⟩]⟩
        have hc1 := HC1.out
        have hc2 := HC2.out
        clear hk hd
        go_wp2_with fail
        refine (record7 linkpathB x.f2 _ HE.out (by decide) (by omega)).mono ?_
        rintro e w3 ⟨rfl, hb⟩
        have hq := (recB_le linkpathB x.f2 (by have : linkpathB.size = 8 := rfl; omega)).2
        have h8 : linkpathB.size = 8 := rfl
        obtain ⟨q2, hq2⟩ : ∃ q, q = recB linkpathB x.f2 := ⟨_, rfl⟩
        rw [← hq2] at hq ⊢
        have HQ2 := Aside0.mk hq2
        have hq9 : q2.size ≤ 2000 := by omega
        clear hq2 hq h8 hc1 hc2
        go_wp2_with fail
        go_ret
        refine ⟨ret_str ?_, below_then HBA.out HBA.out.size hb⟩
        rw [HKD.out, HX1.out, ← HQ1.out, ← HQ2.out]
        rw [nil_app]
      · have hd1 : decide (100 < (x.f2.size : Int)) = false := decide_eq_false (by omega)
        have HKD : Aside0 (extraB x = extra1 x) := ⟨by unfold extraB; rw [if_neg (fun h => hd h.2)]⟩
        have hc1 := HC1.out
        have hc2 := HC2.out
        clear hk hd
        go_wp2_with fail
        go_ret
        refine ⟨ret_str ?_, HBA.out⟩
        rw [HKD.out, HX1.out, ← HQ1.out, nil_app]
    · have hk1 : (x.f1 == 4) = false := by simpa using hk
      have HKD : Aside0 (extraB x = extra1 x) := ⟨by unfold extraB; rw [if_neg (fun h => hk h.1)]⟩
      have hc1 := HC1.out
      clear hk
      go_wp2_with fail
      go_ret
      refine ⟨ret_str ?_, HBA.out⟩
      rw [HKD.out, HX1.out, ← HQ1.out, nil_app]
  · have HX1 : Aside0 (extra1 x = ⟨#[]⟩) := ⟨by unfold extra1; rw [← HNM.out, if_neg hl]⟩
    have hl1 : decide (100 < (nm.size : Int)) = false := decide_eq_false (by omega)
    clear hl
    by_cases hk : x.f1 = 4
    · have hk1 : (x.f1 == 4) = true := by simpa using hk
      by_cases hd : 100 < x.f2.size
      · have hd1 : decide (100 < (x.f2.size : Int)) = true := decide_eq_true (by omega)
        have HKD : Aside0 (extraB x = extra1 x ++ recB linkpathB x.f2) := ⟨by unfold extraB; rw [if_pos ⟨hk, hd⟩]⟩
        have hc1 := HC1.out
        have hc2 := HC2.out
        clear hk hd
        go_wp2_with fail
        refine (record7 linkpathB x.f2 _ HE.out (by decide) (by omega)).mono ?_
        rintro e w3 ⟨rfl, hb⟩
        have hq := (recB_le linkpathB x.f2 (by have : linkpathB.size = 8 := rfl; omega)).2
        have h8 : linkpathB.size = 8 := rfl
        obtain ⟨q2, hq2⟩ : ∃ q, q = recB linkpathB x.f2 := ⟨_, rfl⟩
        rw [← hq2] at hq ⊢
        have HQ2 := Aside0.mk hq2
        have hq9 : q2.size ≤ 2000 := by omega
        clear hq2 hq h8 hc1 hc2
        go_wp2_with fail
        go_ret
        refine ⟨ret_str ?_, below_then HBA.out HBA.out.size hb⟩
        rw [HKD.out, HX1.out, ← HQ2.out]
      · have hd1 : decide (100 < (x.f2.size : Int)) = false := decide_eq_false (by omega)
        have HKD : Aside0 (extraB x = extra1 x) := ⟨by unfold extraB; rw [if_neg (fun h => hd h.2)]⟩
        have hc1 := HC1.out
        have hc2 := HC2.out
        clear hk hd
        go_wp2_with fail
        go_ret
        refine ⟨ret_str ?_, HBA.out⟩
        rw [HKD.out, HX1.out]
    · have hk1 : (x.f1 == 4) = false := by simpa using hk
      have HKD : Aside0 (extraB x = extra1 x) := ⟨by unfold extraB; rw [if_neg (fun h => hk h.1)]⟩
      have hc1 := HC1.out
      clear hk
      go_wp2_with fail
      go_ret
      refine ⟨ret_str ?_, HBA.out⟩
      rw [HKD.out, HX1.out]
end Go.Proofs.YtfcdboagbehhiaaDoor
