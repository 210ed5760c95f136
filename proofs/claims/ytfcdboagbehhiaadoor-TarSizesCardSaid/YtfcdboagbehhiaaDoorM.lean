import Derived.Test.YtfcdboagbehhiaaDoorL
namespace Go.Proofs.YtfcdboagbehhiaaDoor
open Go.RowKit Go.Proofs.YtfcdboagbehhiaaDoorW.PrintWords Go.Proofs.YtfcdboagbehhiaaDoorW.PrintLast Go.Proofs.YtfcdboagbehhiaaDoorW.PrintMore Go.Proofs.YtfcdboagbehhiaaDoor.PTarWhole
open Go.Lib (byteCells)
set_option linter.unusedVariables false
set_option linter.unusedSimpArgs false

/-! ## writer.node -/
def paxB : ByteArray := ⟨#[112, 97, 120]⟩
def nilB : ByteArray := ⟨#[]⟩
def nodeE (x : S29) : List UInt8 := if (extraB x).toList.isEmpty = true then [] else entryL paxB 5 nilB (extraB x)
def nodeM (x : S29) : List UInt8 := if x.f1 = 4 then entryL (cutB (nameB x.f0)) x.f1 (cutB x.f2) nilB else entryL (cutB (nameB x.f0)) x.f1 nilB x.f2
def nodeL (x : S29) : List UInt8 := nodeE x ++ nodeM x
def nodeH (x : S29) : Nat := if (extraB x).toList.isEmpty = true then 1 else 2
theorem pax_may (n : Nat) : mayH paxB 5 n nilB = true := by
  have h1 : textB paxB = true := text_of (by unfold noZ paxB; decide) (by decide)
  have h2 : textB nilB = true := text_of (by unfold noZ nilB; decide) (by decide)
  have h3 : paxB.toList.isEmpty = false := by
    cases h : paxB.toList.isEmpty
    · rfl
    · rw [empty_size] at h; exact absurd h (by decide)
  have h4 : nilB.toList.isEmpty = true := by rw [empty_size]; rfl
  unfold mayH
  rw [h1, h2, h3, h4]
  simp
/-- what a node that is good has -/
structure GoodS (x : S29) : Prop where
  size0 : x.f0.size ≤ 200
  size2 : x.f2.size ≤ 400
  kind : 1 ≤ x.f1 ∧ x.f1 ≤ 4
  z0 : noZ x.f0
  dir : x.f1 = 1 → x.f2.size = 0
  link : x.f1 = 4 → 0 < x.f2.size ∧ noZ x.f2
theorem good_spec {x : S29} (h : goodB x = true) : GoodS x := by
  have hm := may_noZ (good_may h)
  unfold goodB at h
  simp only [Bool.and_eq_true] at h
  obtain ⟨_, h2, h3⟩ := h
  have h2 := of_decide_eq_true h2
  have key : (1 ≤ x.f1 ∧ x.f1 ≤ 4) ∧ (x.f1 = 1 → x.f2.size = 0) ∧ (x.f1 = 4 → 0 < x.f2.size ∧ noZ x.f2) := by
    by_cases e1 : x.f1 = 1
    · rw [if_pos (by rw [e1]; rfl)] at h3
      exact ⟨by omega, fun _ => empty_size.1 h3, fun h => by omega⟩
    · rw [if_neg (by simpa using e1)] at h3
      by_cases e2 : x.f1 = 2
      · exact ⟨by omega, fun h => absurd h e1, fun h => by omega⟩
      · rw [if_neg (by simpa using e2)] at h3
        by_cases e3 : x.f1 = 3
        · exact ⟨by omega, fun h => absurd h e1, fun h => by omega⟩
        · rw [if_neg (by simpa using e3)] at h3
          by_cases e4 : x.f1 = 4
          · rw [if_pos (by rw [e4]; rfl), Bool.and_eq_true] at h3
            refine ⟨by omega, fun h => absurd h e1, fun _ => ⟨?_, idx_neg.1 (of_decide_eq_true h3.2)⟩⟩
            rcases Nat.eq_zero_or_pos x.f2.size with h0 | h0
            · have := empty_size.2 h0
              rw [this] at h3
              exact absurd h3.1 (by decide)
            · exact h0
          · rw [if_neg (by simpa using e4)] at h3
            cases h3
  exact ⟨hm.2, by omega, key.1, hm.1, key.2.1, key.2.2⟩
theorem name_noZ {p : ByteArray} (h : noZ p) : noZ (nameB p) := by
  unfold nameB
  split
  · unfold noZ; decide
  · exact h
theorem node_may {x : S29} (h : goodB x = true) : (x.f1 = 4 → mayH (cutB (nameB x.f0)) x.f1 0 (cutB x.f2) = true) ∧ (x.f1 ≠ 4 → mayH (cutB (nameB x.f0)) x.f1 x.f2.size nilB = true) := by
  have hg := good_spec h
  have hns := nameB_size x.f0
  have ht := text_of (cut_noZ (name_noZ hg.z0)) (by rw [cut_size]; omega)
  have hn : (cutB (nameB x.f0)).toList.isEmpty = false := by
    cases hh : (cutB (nameB x.f0)).toList.isEmpty
    · rfl
    · rw [empty_size, cut_size] at hh; omega
  constructor
  · intro h4
    obtain ⟨hl, hz⟩ := hg.link h4
    have ht2 := text_of (cut_noZ hz) (by rw [cut_size]; omega)
    have hn2 : (cutB x.f2).toList.isEmpty = false := by
      cases hh : (cutB x.f2).toList.isEmpty
      · rfl
      · rw [empty_size, cut_size] at hh; omega
    unfold mayH
    rw [ht, ht2, hn, hn2, h4]
    simp
  · intro h4
    have ht2 : textB nilB = true := text_of (by unfold noZ nilB; decide) (by decide)
    have hn2 : nilB.toList.isEmpty = true := by rw [empty_size]; rfl
    have hk := hg.kind
    unfold mayH
    rw [ht, ht2, hn, hn2, decide_eq_true hk.1, decide_eq_true (by omega : x.f1 ≤ 5)]
    have h4' : (x.f1 == 4) = false := by simpa using h4
    rw [h4']
    by_cases h1 : x.f1 = 1
    · rw [hg.dir h1]; simp
    · have : (x.f1 == 1) = false := by simpa using h1
      rw [this]
      simp
theorem extraB_le (x : S29) (h0 : x.f0.size ≤ 1000) (h2 : x.f2.size ≤ 1000) : (extraB x).size ≤ 3000 := by
  have hns := nameB_size x.f0
  have h4 : pathB.size = 4 := rfl
  have h8 : linkpathB.size = 8 := rfl
  have e1 : (extra1 x).size ≤ 1100 := by
    unfold extra1
    split
    · have := (recB_le pathB (nameB x.f0) (by omega)).2
      omega
    · exact Nat.zero_le _
  unfold extraB
  split
  · have := (recB_le linkpathB x.f2 (by omega)).2
    rw [ByteArray.size_append]
    omega
  · omega
theorem entry_le {name link data : ByteArray} {kind : Int} (hn : name.size ≤ 100) (hl : link.size ≤ 100) : (entryL name kind link data).length ≤ 1023 + data.size := by
  rw [entryL_length hn hl]
  unfold padN
  omega
theorem fr_cells {w : World} {bk : Nat} {a b c : Value} (h : w.heap[bk]? = some (.cells #[a, b, c] 29 (0, 0))) : w.cell? ⟨bk, 0, none⟩ = some a ∧ w.cell? ⟨bk, 1, none⟩ = some b ∧ w.cell? ⟨bk, 2, none⟩ = some c :=
  ⟨by rw [blk_cell h]; rfl, by rw [blk_cell h]; rfl, by rw [blk_cell h]; rfl⟩
theorem fin_a {base g : Nat} {n : Int} {bs m : List UInt8} {x : S29} {w : World} (h1 : nodeE x = []) (h2 : nodeH x = 1) (h3 : nodeM x = m) (h : Wr base w g (n + 1) (bs ++ m)) : Wr base w g (n + nodeH x) (bs ++ nodeL x) := by
  unfold nodeL
  rw [h1, h2, h3, List.nil_append]
  exact h
theorem fin_b {base g : Nat} {n : Int} {bs e m : List UInt8} {x : S29} {w : World} (h1 : nodeE x = e) (h2 : nodeH x = 2) (h3 : nodeM x = m) (h : Wr base w g (n + 1 + 1) (bs ++ e ++ m)) : Wr base w g (n + nodeH x) (bs ++ nodeL x) := by
  unfold nodeL
  rw [h1, h2, h3, ← List.append_assoc]
  have : n + 1 + 1 = n + ((2 : Nat) : Int) := by omega
  rw [← this]
  exact h
set_option maxHeartbeats 4000000 in
set_option maxRecDepth 100000 in
theorem node23 (base g : Nat) (n : Int) (bs : List UInt8) (x : S29) (w : World) (hE : Env w) (h : Wr base w g n bs) (hb5 : 5 < base) (hbase : base ≤ w.heap.size) (hg : goodB x = true) (hl : bs.length ≤ 900000000) (hn0 : 0 ≤ n) (hn2 : n ≤ 900000000) :
    Calls Tryd.prog 23 #[.pointer (some ⟨g, 0, none⟩), .agg #[.string x.f0, .int .i64 x.f1, .string x.f2]] w fun e w' => e = .returned (.tuple #[]) ∧ Wr base w' g (n + nodeH x) (bs ++ nodeL x) ∧ Below base w w' ∧ Fr w w' := by
  have hgs := good_spec hg
  have hgm := node_may hg
  have hba : Below w.heap.size w (w.alloc (.cells #[.string x.f0, .int .i64 x.f1, .string x.f2] 29)) := below_alloc (Below.refl _ _) _
  have hn0' := blk_new w (.cells #[.string x.f0, .int .i64 x.f1, .string x.f2] 29)
  obtain ⟨v, hv⟩ := h
  have HV : Aside0 (Wr base (w.alloc (.cells #[.string x.f0, .int .i64 x.f1, .string x.f2] 29)) g n bs) := ⟨⟨v, hv.below hba⟩⟩
  have HL := Aside0.mk (hba.mono hbase)
  have HF := Aside0.mk (Fr.below hba)
  have HE := Aside0.mk (hE.below hba)
  have HBS := Aside0.mk (Nat.le_trans hbase hba.size)
  obtain ⟨bk, hbk⟩ : ∃ bk, bk = w.heap.size := ⟨_, rfl⟩
  have HBK : Aside0 ((w.alloc (.cells #[.string x.f0, .int .i64 x.f1, .string x.f2] 29)).heap[bk]? = some (.cells #[.string x.f0, .int .i64 x.f1, .string x.f2] 29 (0, 0))) := ⟨by rw [hbk]; exact hn0'⟩
  have HB5 := Aside0.mk hb5
  have HGS := Aside0.mk hgs
  have HGM := Aside0.mk hgm
  have h0 := hgs.size0
  have h2 := hgs.size2
  have hk := hgs.kind
  clear hba hn0' hv hE hbase hgs hgm hg hb5
  go_enter Tryd.func23, Tryd.ntmps23
  go_wp2_with fail
  rw [← hbk]
  generalize w.alloc (.cells #[.string x.f0, .int .i64 x.f1, .string x.f2] 29) = w1 at HV HL HF HE HBS HBK ⊢
  clear hbk
  refine (extra34 x _ HE.out (by omega) (by omega)).mono ?_
  rintro e w2 ⟨rfl, hb⟩
  replace HV : Aside0 (Wr base w2 g n bs) := ⟨by obtain ⟨v, hv⟩ := HV.out; exact ⟨v, hv.below hb⟩⟩
  replace HL := Aside0.mk (HL.out.trans (hb.mono HBS.out))
  replace HF := Aside0.mk (HF.out.trans (Fr.below hb))
  replace HE := Aside0.mk (HE.out.below hb)
  replace HBK := Aside0.mk ((hb.block bk (blk_lt HBK.out)).trans HBK.out)
  replace HBS := Aside0.mk (Nat.le_trans HBS.out hb.size)
  clear hb
  have hel := extraB_le x (by omega) (by omega)
  obtain ⟨q, hq⟩ : ∃ q, q = extraB x := ⟨_, rfl⟩
  have HQ := Aside0.mk hq
  rw [← hq] at hel ⊢
  clear hq
  cases he : q.toList.isEmpty with
  | true =>
    have HNE : Aside0 (nodeE x = []) := ⟨by unfold nodeE; rw [← HQ.out, if_pos he]⟩
    have HNH : Aside0 (nodeH x = 1) := ⟨by unfold nodeH; rw [← HQ.out, if_pos he]⟩
    have hc0 : w2.cell? ⟨bk, 0, none⟩ = some (.string x.f0) := by rw [blk_cell HBK.out]; rfl
    have hc1 : w2.cell? ⟨bk, 1, none⟩ = some (.int .i64 x.f1) := by rw [blk_cell HBK.out]; rfl
    have hc2 : w2.cell? ⟨bk, 2, none⟩ = some (.string x.f2) := by rw [blk_cell HBK.out]; rfl
    have HH := Aside0.mk (And.intro hc0 (And.intro hc1 hc2))
    have H0 := Aside0.mk (Below.refl w2.heap.size w2)
    have hcs := cut_size (nameB x.f0)
    have hcs2 := cut_size x.f2
    have hnm := nameB_size x.f0
    by_cases hk4 : x.f1 = 4
    · have hk4b : (x.f1 == 4) = true := by simpa using hk4
      have HM := Aside0.mk (HGM.out.1 hk4)
      have HNM : Aside0 (nodeM x = entryL (cutB (nameB x.f0)) x.f1 (cutB x.f2) nilB) := ⟨by unfold nodeM; rw [if_pos hk4]⟩
      clear hk4
      go_wp2_with fail
      go_region_held3 (fun w' => w'.cell? ⟨bk, 0, none⟩ = some (.string x.f0) ∧ w'.cell? ⟨bk, 1, none⟩ = some (.int .i64 x.f1) ∧ w'.cell? ⟨bk, 2, none⟩ = some (.string x.f2))
        (first | exact HH.out | exact HSA.out | exact HSB.out)
        (first
          | (go_at_call 37; refine (name37 x.f0 x.f2 x.f1 _).mono ?_; rintro e wa ⟨rfl, hb⟩; have HBA := Aside0.mk (below_then (below_drew H0.out) H0.out.size hb); have HSA := Aside0.mk (And.intro (pw_cell_below HBA.out HH.out.1) (And.intro (pw_cell_below HBA.out HH.out.2.1) (pw_cell_below HBA.out HH.out.2.2))); clear hb)
          | (go_at_call_of 36 (Value.string (nameB x.f0)); refine (cut36 (nameB x.f0) (by omega) _).mono ?_; rintro e wb ⟨rfl, rfl⟩)
          | (go_at_call_of 36 (Value.string x.f2); refine (cut36 x.f2 (by omega) _).mono ?_; rintro e wb ⟨rfl, rfl⟩)
          | (go_at_call 35; refine (entry35 base g (n) (bs) (cutB (nameB x.f0)) (cutB x.f2) ⟨#[]⟩ x.f1 _ ?_ ?_ ?_ ?_ ?_ ?_ ?_ ?_ ?_ ?_).mono ?_; exact HE.out.below HBA.out; exact (by obtain ⟨v, hv⟩ := HV.out; exact ⟨v, hv.below HBA.out⟩); exact Nat.le_trans HBS.out HBA.out.size; exact HM.out; omega; omega; decide; omega; omega; omega; rintro e wz ⟨rfl, hz1, hz2, hz3⟩; have HSB := Aside0.mk (fr_cells ((hz3 _ _ _) ((HBA.out.block bk (blk_lt HBK.out)).trans HBK.out))); have HZ1 := Aside0.mk hz1; have HZ2 := Aside0.mk (HL.out.trans ((HBA.out.mono HBS.out).trans hz2)); have HZ3 := Aside0.mk (HF.out.trans ((Fr.below HBA.out).trans hz3)); clear hz1 hz2 hz3))
      all_goals go_wp2
      all_goals first | go_end0 | (refine bodyPost_ret (v := .tuple #[]) (results_none (by rfl) _ _ _) rfl ?_)
      all_goals exact ⟨rfl, fin_a HNE.out HNH.out HNM.out HZ1.out, HZ2.out, HZ3.out⟩
    · have hk4b : (x.f1 == 4) = false := by simpa using hk4
      have HM := Aside0.mk (HGM.out.2 hk4)
      have HNM : Aside0 (nodeM x = entryL (cutB (nameB x.f0)) x.f1 nilB x.f2) := ⟨by unfold nodeM; rw [if_neg hk4]⟩
      clear hk4
      go_wp2_with fail
      go_region_held3 (fun w' => w'.cell? ⟨bk, 0, none⟩ = some (.string x.f0) ∧ w'.cell? ⟨bk, 1, none⟩ = some (.int .i64 x.f1) ∧ w'.cell? ⟨bk, 2, none⟩ = some (.string x.f2))
        (first | exact HH.out | exact HSA.out | exact HSB.out)
        (first
          | (go_at_call 37; refine (name37 x.f0 x.f2 x.f1 _).mono ?_; rintro e wa ⟨rfl, hb⟩; have HBA := Aside0.mk (below_then (below_drew H0.out) H0.out.size hb); have HSA := Aside0.mk (And.intro (pw_cell_below HBA.out HH.out.1) (And.intro (pw_cell_below HBA.out HH.out.2.1) (pw_cell_below HBA.out HH.out.2.2))); clear hb)
          | (go_at_call_of 36 (Value.string (nameB x.f0)); refine (cut36 (nameB x.f0) (by omega) _).mono ?_; rintro e wb ⟨rfl, rfl⟩)
          | (go_at_call 35; refine (entry35 base g (n) (bs) (cutB (nameB x.f0)) ⟨#[]⟩ x.f2 x.f1 _ ?_ ?_ ?_ ?_ ?_ ?_ ?_ ?_ ?_ ?_).mono ?_; exact HE.out.below HBA.out; exact (by obtain ⟨v, hv⟩ := HV.out; exact ⟨v, hv.below HBA.out⟩); exact Nat.le_trans HBS.out HBA.out.size; exact HM.out; omega; decide; omega; omega; omega; omega; rintro e wz ⟨rfl, hz1, hz2, hz3⟩; have HSB := Aside0.mk (fr_cells ((hz3 _ _ _) ((HBA.out.block bk (blk_lt HBK.out)).trans HBK.out))); have HZ1 := Aside0.mk hz1; have HZ2 := Aside0.mk (HL.out.trans ((HBA.out.mono HBS.out).trans hz2)); have HZ3 := Aside0.mk (HF.out.trans ((Fr.below HBA.out).trans hz3)); clear hz1 hz2 hz3))
      all_goals go_wp2
      all_goals first | go_end0 | (refine bodyPost_ret (v := .tuple #[]) (results_none (by rfl) _ _ _) rfl ?_)
      all_goals exact ⟨rfl, fin_a HNE.out HNH.out HNM.out HZ1.out, HZ2.out, HZ3.out⟩
  | false =>
    have HNE : Aside0 (nodeE x = entryL paxB 5 nilB q) := ⟨by unfold nodeE; rw [← HQ.out, if_neg (by rw [he]; decide)]⟩
    have HNH : Aside0 (nodeH x = 2) := ⟨by unfold nodeH; rw [← HQ.out, if_neg (by rw [he]; decide)]⟩
    have hel2 := entry_le (name := paxB) (link := nilB) (data := q) (kind := 5) (by decide) (by decide)
    go_wp2_with fail
    refine (entry35 base g n bs paxB nilB q 5 w2 HE.out HV.out HBS.out (pax_may q.size) (by decide) (by decide) (by omega) (by omega) hn0 (by omega)).mono ?_
    rintro e w3 ⟨rfl, hv, hb, hf⟩
    replace HV := Aside0.mk hv
    replace HL := Aside0.mk (HL.out.trans hb)
    replace HF := Aside0.mk (HF.out.trans hf)
    replace HE := Aside0.mk (HE.out.keep hb HB5.out)
    replace HBK := Aside0.mk (hf _ _ _ HBK.out)
    replace HBS := Aside0.mk (Nat.le_trans HBS.out hb.size)
    clear hv hb hf
    have hc0 : w3.cell? ⟨bk, 0, none⟩ = some (.string x.f0) := by rw [blk_cell HBK.out]; rfl
    have hc1 : w3.cell? ⟨bk, 1, none⟩ = some (.int .i64 x.f1) := by rw [blk_cell HBK.out]; rfl
    have hc2 : w3.cell? ⟨bk, 2, none⟩ = some (.string x.f2) := by rw [blk_cell HBK.out]; rfl
    have HH := Aside0.mk (And.intro hc0 (And.intro hc1 hc2))
    have H0 := Aside0.mk (Below.refl w3.heap.size w3)
    have hcs := cut_size (nameB x.f0)
    have hcs2 := cut_size x.f2
    have hnm := nameB_size x.f0
    by_cases hk4 : x.f1 = 4
    · have hk4b : (x.f1 == 4) = true := by simpa using hk4
      have HM := Aside0.mk (HGM.out.1 hk4)
      have HNM : Aside0 (nodeM x = entryL (cutB (nameB x.f0)) x.f1 (cutB x.f2) nilB) := ⟨by unfold nodeM; rw [if_pos hk4]⟩
      clear hk4
      go_wp2_with fail
      go_region_held3 (fun w' => w'.cell? ⟨bk, 0, none⟩ = some (.string x.f0) ∧ w'.cell? ⟨bk, 1, none⟩ = some (.int .i64 x.f1) ∧ w'.cell? ⟨bk, 2, none⟩ = some (.string x.f2))
        (first | exact HH.out | exact HSA.out | exact HSB.out)
        (first
          | (go_at_call 37; refine (name37 x.f0 x.f2 x.f1 _).mono ?_; rintro e wa ⟨rfl, hb⟩; have HBA := Aside0.mk (below_then (below_drew H0.out) H0.out.size hb); have HSA := Aside0.mk (And.intro (pw_cell_below HBA.out HH.out.1) (And.intro (pw_cell_below HBA.out HH.out.2.1) (pw_cell_below HBA.out HH.out.2.2))); clear hb)
          | (go_at_call_of 36 (Value.string (nameB x.f0)); refine (cut36 (nameB x.f0) (by omega) _).mono ?_; rintro e wb ⟨rfl, rfl⟩)
          | (go_at_call_of 36 (Value.string x.f2); refine (cut36 x.f2 (by omega) _).mono ?_; rintro e wb ⟨rfl, rfl⟩)
          | (go_at_call 35; refine (entry35 base g (n + 1) (bs ++ entryL paxB 5 nilB q) (cutB (nameB x.f0)) (cutB x.f2) ⟨#[]⟩ x.f1 _ ?_ ?_ ?_ ?_ ?_ ?_ ?_ ?_ ?_ ?_).mono ?_; exact HE.out.below HBA.out; exact (by obtain ⟨v, hv⟩ := HV.out; exact ⟨v, hv.below HBA.out⟩); exact Nat.le_trans HBS.out HBA.out.size; exact HM.out; omega; omega; decide; (rw [List.length_append]; omega); omega; omega; rintro e wz ⟨rfl, hz1, hz2, hz3⟩; have HSB := Aside0.mk (fr_cells ((hz3 _ _ _) ((HBA.out.block bk (blk_lt HBK.out)).trans HBK.out))); have HZ1 := Aside0.mk hz1; have HZ2 := Aside0.mk (HL.out.trans ((HBA.out.mono HBS.out).trans hz2)); have HZ3 := Aside0.mk (HF.out.trans ((Fr.below HBA.out).trans hz3)); clear hz1 hz2 hz3))
      all_goals go_wp2
      all_goals first | go_end0 | (refine bodyPost_ret (v := .tuple #[]) (results_none (by rfl) _ _ _) rfl ?_)
      all_goals exact ⟨rfl, fin_b HNE.out HNH.out HNM.out HZ1.out, HZ2.out, HZ3.out⟩
    · have hk4b : (x.f1 == 4) = false := by simpa using hk4
      have HM := Aside0.mk (HGM.out.2 hk4)
      have HNM : Aside0 (nodeM x = entryL (cutB (nameB x.f0)) x.f1 nilB x.f2) := ⟨by unfold nodeM; rw [if_neg hk4]⟩
      clear hk4
      go_wp2_with fail
      go_region_held3 (fun w' => w'.cell? ⟨bk, 0, none⟩ = some (.string x.f0) ∧ w'.cell? ⟨bk, 1, none⟩ = some (.int .i64 x.f1) ∧ w'.cell? ⟨bk, 2, none⟩ = some (.string x.f2))
        (first | exact HH.out | exact HSA.out | exact HSB.out)
        (first
          | (go_at_call 37; refine (name37 x.f0 x.f2 x.f1 _).mono ?_; rintro e wa ⟨rfl, hb⟩; have HBA := Aside0.mk (below_then (below_drew H0.out) H0.out.size hb); have HSA := Aside0.mk (And.intro (pw_cell_below HBA.out HH.out.1) (And.intro (pw_cell_below HBA.out HH.out.2.1) (pw_cell_below HBA.out HH.out.2.2))); clear hb)
          | (go_at_call_of 36 (Value.string (nameB x.f0)); refine (cut36 (nameB x.f0) (by omega) _).mono ?_; rintro e wb ⟨rfl, rfl⟩)
          | (go_at_call 35; refine (entry35 base g (n + 1) (bs ++ entryL paxB 5 nilB q) (cutB (nameB x.f0)) ⟨#[]⟩ x.f2 x.f1 _ ?_ ?_ ?_ ?_ ?_ ?_ ?_ ?_ ?_ ?_).mono ?_; exact HE.out.below HBA.out; exact (by obtain ⟨v, hv⟩ := HV.out; exact ⟨v, hv.below HBA.out⟩); exact Nat.le_trans HBS.out HBA.out.size; exact HM.out; omega; decide; omega; (rw [List.length_append]; omega); omega; omega; rintro e wz ⟨rfl, hz1, hz2, hz3⟩; have HSB := Aside0.mk (fr_cells ((hz3 _ _ _) ((HBA.out.block bk (blk_lt HBK.out)).trans HBK.out))); have HZ1 := Aside0.mk hz1; have HZ2 := Aside0.mk (HL.out.trans ((HBA.out.mono HBS.out).trans hz2)); have HZ3 := Aside0.mk (HF.out.trans ((Fr.below HBA.out).trans hz3)); clear hz1 hz2 hz3))
      all_goals go_wp2
      all_goals first | go_end0 | (refine bodyPost_ret (v := .tuple #[]) (results_none (by rfl) _ _ _) rfl ?_)
      all_goals exact ⟨rfl, fin_b HNE.out HNH.out HNM.out HZ1.out, HZ2.out, HZ3.out⟩
end Go.Proofs.YtfcdboagbehhiaaDoor
