import Derived.Test.YtfcdboagbehhiaaDoorT
namespace Go.Proofs.YtfcdboagbehhiaaDoor
open Go.RowKit Go.Proofs.YtfcdboagbehhiaaDoorW.PrintWords Go.Proofs.YtfcdboagbehhiaaDoorW.PrintLast Go.Proofs.YtfcdboagbehhiaaDoorW.PrintMore Go.Proofs.YtfcdboagbehhiaaDoor.PTarWhole
set_option linter.unusedVariables false
set_option linter.unusedSimpArgs false

theorem wrap64_id {n : Int} (h0 : -9223372036854775808 ≤ n) (h1 : n < 9223372036854775808) : wrap64 n = n := by unfold wrap64; omega
theorem great_l0 (l : List S29) (most : Nat) (hm : most < 9223372036854775807) : ∀ (k i : Nat), i ≤ most + 1 → i ≤ l.length → (∀ j, j < i → (nd l j).f0.size ≤ 300 ∧ (nd l j).f2.size ≤ 500) → 2 * (l.length - i) + 2 ≤ k →
    ∃ b, hogsheadlaw0_GreatNodes.l0 k l most i = some b ∧ (b = false → l.length ≤ most ∧ ∀ j, j < l.length → (nd l j).f0.size ≤ 300 ∧ (nd l j).f2.size ≤ 500) := by
  intro k
  induction k using Nat.strongRecOn with
  | ind k ih =>
    intro i hi hil hpre hk
    obtain ⟨k, rfl⟩ : ∃ k', k = k' + 2 := ⟨k - 2, by omega⟩
    unfold hogsheadlaw0_GreatNodes.l0
    by_cases h : i < l.length
    · rw [if_pos (by omega)]
      unfold hogsheadlaw0_GreatNodes.j1
      by_cases hm2 : l.length ≤ most
      · rw [if_pos (by simp; omega), if_pos (by omega), if_pos (by omega), rd_nd]
        by_cases hg : ((nd l i).f0.size : Int) > 300
        · rw [if_pos hg]
          exact ⟨true, rfl, fun h => by cases h⟩
        · by_cases hg2 : ((nd l i).f2.size : Int) > 500
          · rw [if_neg hg, if_pos hg2]
            exact ⟨true, rfl, fun h => by cases h⟩
          · rw [if_neg hg, if_neg hg2, show wrap64 ((i : Int) + 1) = ((i + 1 : Nat) : Int) from by rw [wrap64_id (by omega) (by omega)]; omega]
            exact ih k (by omega) (i + 1) (by omega) (by omega) (fun j hj => by
              rcases Nat.lt_succ_iff_lt_or_eq.1 hj with h1 | rfl
              · exact hpre j h1
              · omega) (by omega)
      · rw [if_neg (by simp; omega)]
        exact ⟨_, rfl, fun h => by simp at h; omega⟩
    · rw [if_neg (by omega)]
      unfold hogsheadlaw0_GreatNodes.j1
      rw [if_neg (by simp)]
      refine ⟨_, rfl, fun h2 => ⟨by simp at h2; omega, fun j hj => hpre j (by omega)⟩⟩
theorem great_f (l : List S29) (most : Nat) (hm : most < 9223372036854775807) :
    ∃ b, hogsheadlaw0_GreatNodes.f (2 * l.length + 2) l most = some b ∧ (b = false → l.length ≤ most ∧ ∀ j, j < l.length → (nd l j).f0.size ≤ 300 ∧ (nd l j).f2.size ≤ 500) :=
  great_l0 l most hm _ 0 (Nat.zero_le _) (Nat.zero_le _) (fun j hj => absurd hj (Nat.not_lt_zero j)) (by omega)
theorem Drawn0.below' {w w1 : World} (h : Drawn0 w w1) : Below w.heap.size w w1 := by
  obtain ⟨m, rfl⟩ := h
  exact pw_below_drewN (Below.refl _ _) m

/-! ## TarSizes: the walk -/
theorem held3n {W w : World} {p q r : Addr} {x y z : Value} (h : W.cell? p = some x ∧ W.cell? q = some y ∧ W.cell? r = some z) (hb : Below W.heap.size W w) : w.cell? p = some x ∧ w.cell? q = some y ∧ w.cell? r = some z :=
  ⟨pw_cell_below hb h.1, pw_cell_below hb h.2.1, pw_cell_below hb h.2.2⟩
set_option maxHeartbeats 8000000 in
set_option maxRecDepth 100000 in
theorem law4 (A : Option Addr) (c : Nat) (t : List S29) (w : World) (hE : Env w) (hc : t.length ≤ c) (hr : Kd.C k29 w A t.length t) :
    Calls Tryd.prog 4 #[.slice A t.length c] w fun e w' => e = .returned (.bool true) ∧ Below w.heap.size w w' := by
  obtain ⟨b, hb, hbf⟩ := great_f t 60 (by decide)
  have HE := Aside0.mk hE
  have HR := Aside0.mk hr
  have HC := Aside0.mk hc
  have HGR := Aside0.mk hb
  have HBF := Aside0.mk hbf
  clear hE hr hc hb hbf
  go_enter Tryd.func4, Tryd.ntmps4
  go_wp2_with fail
  refine (hogsheadlaw0_GreatNodes.calls _ A c t 60 b _ HR.out HC.out HGR.out).mono ?_
  rintro e w1 ⟨rfl, hd1⟩
  have hb1 := Drawn0.below' hd1
  have HL1 := Aside0.mk hb1
  replace HR := Aside0.mk (Kd.C_below HR.out hb1)
  replace HE := Aside0.mk (HE.out.below hb1)
  clear hd1 hb1
  cases b with
  | true =>
    go_wp2_with (go_at_call 6; refine (awake6 _ HE.out).mono ?_; rintro e w2 ⟨rfl, hb2⟩)
    go_ret
    exact ⟨rfl, below_then HL1.out HL1.out.size hb2⟩
  | false =>
    obtain ⟨hlen, hsize⟩ := HBF.out rfl
    have HSZ : Aside0 (∀ j, j < t.length → (nd t j).f0.size ≤ 1000) := ⟨fun j hj => by have := (hsize j hj).1; omega⟩
    clear hsize
    go_wp2_with fail
    refine (may9 A c t _ HE.out (by omega) HC.out HR.out HSZ.out).mono ?_
    rintro e w2 ⟨rfl, hb⟩
    replace HL1 := Aside0.mk (below_then HL1.out HL1.out.size hb)
    replace HR := Aside0.mk (Kd.C_below HR.out hb)
    replace HE := Aside0.mk (HE.out.below hb)
    clear hb
    cases hm : mayT t with
    | false =>
      go_wp2_with (go_at_call 6; refine (awake6 _ HE.out).mono ?_; rintro e w2 ⟨rfl, hb2⟩)
      go_ret
      exact ⟨rfl, below_then HL1.out HL1.out.size hb2⟩
    | true =>
      have HM := Aside0.mk hm
      clear hm
      go_wp2_with fail
      go_loopg [3, 4, 5] t.length (fun gk v3 v4 v5 wr => ∃ i : Nat, i ≤ t.length ∧ v5 = .int .i64 i ∧ v3 = .int .i64 (laidH (t.take i)) ∧ v4 = .int .i64 (2 + laidK (t.take i) : Nat) ∧ Aside0 (t.length - i ≤ gk) ∧ Aside0 (Below w2.heap.size w2 wr))
      case atStart => exact ⟨0, Nat.zero_le _, rfl, by simp [laidH], by simp [laidK], ⟨by simp⟩, ⟨Below.refl _ _⟩⟩
      case round =>
        obtain ⟨i, hi, rfl, rfl, rfl, HGK, HB⟩ := hrel
        rcases Nat.lt_or_eq_of_le hi with hlt | rfl
        · obtain ⟨ad, rfl, hx0, hx1, hx2⟩ := at_T29 (Kd.C_below HR.out HB.out) i (by omega) (by omega)
          rw [rd_nd, Int.toNat_natCast] at hx0 hx1 hx2
          have hgd := may_good HM.out hlt
          have HNH := Aside0.mk (nodeH_eq hgd)
          have HGS := Aside0.mk (good_spec hgd)
          have HSH := Aside0.mk (laidH_snoc hlt)
          have HSK := Aside0.mk (laidK_snoc hlt)
          have hlh := laidH_le (t := t) i hi
          have hlk := laidK_le HM.out i hi
          have HLT := Aside0.mk hlt
          generalize nd t i = x at hx0 hx1 hx2 hgd HNH HGS HSH HSK
          generalize laidH (t.take i) = H at HSH hlh
          generalize hK : 2 + laidK (t.take i) = K at HSK
          have hKb : K ≤ 1000 := by omega
          have hHb : H ≤ 1000 := by omega
          have HKK := Aside0.mk hK
          have h0 := HGS.out.size0
          have h2 := HGS.out.size2
          clear hlh hlk hK hgd
          have HX := Aside0.mk (And.intro hx0 (And.intro hx1 hx2))
          by_cases hL : x.f1 = 4
          · have hL1 : (x.f1 == 4) = true := by simpa using hL
            have HDN : Aside0 (dataN x = 0) := ⟨by unfold dataN; rw [if_pos hL]⟩
            by_cases hP : 100 < x.f0.size
            · have hP1 : decide (100 < (x.f0.size : Int)) = true := decide_eq_true (by omega)
              have HLO : Aside0 (longN x) := ⟨.inl hP⟩
              have h4 : pathB.size = 4 := rfl
              have h8 : linkpathB.size = 8 := rfl
              have hr1 := recB_le pathB x.f0 (by omega)
              have hr2 := recB_le linkpathB x.f2 (by omega)
              obtain ⟨q1, hq1⟩ : ∃ q, q = recB pathB x.f0 := ⟨_, rfl⟩
              obtain ⟨q2, hq2⟩ : ∃ q, q = recB linkpathB x.f2 := ⟨_, rfl⟩
              have hrc : recs x = q1.size + q2.size := by unfold recs; rw [hq1, hq2]
              rw [← hq1] at hr1
              rw [← hq2] at hr2
              have HQ1 := Aside0.mk hq1
              have HQ2 := Aside0.mk hq2
              obtain ⟨sm, hsm⟩ : ∃ sm, sm = q1.size + q2.size := ⟨_, rfl⟩
              have hsw : IntKind.i64.wrap ((q1.size : Int) + (q2.size : Int)) = (sm : Int) := by rw [IntKind.wrap_i64]; omega
              have HEW := Aside0.mk (HE.out.below HB.out)
              have H0 := Aside0.mk (Below.refl wr.heap.size wr)
              by_cases hB : 512 < recs x
              · have hB1 : decide (512 < (sm : Int)) = true := decide_eq_true (by omega)
                have hD1 : decide (100 < (x.f2.size : Int)) = true := decide_eq_true (by omega)
                have HBO : Aside0 (bothN x) := ⟨⟨hL, hP, hB, by omega⟩⟩
                clear hL hP hB hr1 hr2 h4 h8 hq1 hq2 hrc hsm
                go_wp2_with fail
                go_region_held3 (fun w' => w'.cell? (ad.add (i * 3)) = some (.string x.f0) ∧ w'.cell? ⟨(ad.add (i * 3)).block, (ad.add (i * 3)).off + 1, none⟩ = some (.int .i64 x.f1) ∧ w'.cell? ⟨(ad.add (i * 3)).block, (ad.add (i * 3)).off + 2, none⟩ = some (.string x.f2))
                  (first | exact HX.out | exact HSA.out | exact HSB.out)
                  (first
                  | (go_at_call_of 7 (Value.string x.f0); refine (record7 pathB x.f0 _ ?_ (by decide) (by omega)).mono ?_; exact HEW.out.below (below_drew H0.out); rintro e wa ⟨rfl, hb⟩; rw [← HQ1.out]; have HBA := Aside0.mk (below_then (below_drew H0.out) H0.out.size hb); have HSA := Aside0.mk (held3n HX.out HBA.out); have hxa0 := HSA.out.1; have hxa1 := HSA.out.2.1; have hxa2 := HSA.out.2.2; clear hb)
                  | (go_at_call_of 7 (Value.string x.f2); refine (record7 linkpathB x.f2 _ ?_ (by decide) (by omega)).mono ?_; exact HEW.out.below HBA.out; rintro e wb ⟨rfl, hb⟩; rw [← HQ2.out]; have HBB := Aside0.mk (below_then HBA.out HBA.out.size hb); have HSB := Aside0.mk (held3n HX.out HBB.out); have hxb0 := HSB.out.1; have hxb1 := HSB.out.2.1; have hxb2 := HSB.out.2.2; clear hb))
                go_wp2_with fail
                all_goals
                  go_roundg (t.length - (i + 1))
                  case measure => have := HGK.out; omega
                  case rel => exact ⟨i + 1, HLT.out, by go_num, congrArg (Value.int .i64) (by rw [HSH.out, HNH.out, if_pos HLO.out]; omega), congrArg (Value.int .i64) (by rw [HSK.out]; unfold blkN; rw [if_pos HLO.out, if_pos HBO.out, HDN.out]; have := HKK.out; omega), ⟨Nat.le_refl _⟩, ⟨HB.out.trans (HBB.out.mono HB.out.size)⟩⟩
              · have hB1 : decide (512 < (sm : Int)) = false := decide_eq_false (by omega)
                have HBO : Aside0 (¬ bothN x) := ⟨fun h => hB h.2.2.1⟩
                clear hL hP hB hr1 hr2 h4 h8 hq1 hq2 hrc hsm
                go_wp2_with fail
                refine wp_region_held_drew (S := (fun w' => w'.cell? (ad.add (i * 3)) = some (.string x.f0) ∧ w'.cell? ⟨(ad.add (i * 3)).block, (ad.add (i * 3)).off + 1, none⟩ = some (.int .i64 x.f1) ∧ w'.cell? ⟨(ad.add (i * 3)).block, (ad.add (i * 3)).off + 2, none⟩ = some (.string x.f2))) (by kernel_rfl) ?_ (fun hHeld => ?_)
                · (try dsimp only)
                  exact HX.out
                refine wpAnyH_take (i := 0) (oi := _) (v := ?mv0) rfl (by kernel_rfl) (by kernel_rfl) (by kernel_rfl) (fun _ _ _ h => h) (Or.inl ⟨by rfl, ?mh0⟩) (by assumption) ?mr0
                case mh0 => (intro wq hSw; (try dsimp only at hSw); go_simp) <;> (with_reducible rfl)
                (try simp only [Act.put, List.getElem_toArray, List.getElem_cons_zero, List.getElem_cons_succ, List.setIfInBounds_toArray, List.set_cons_zero, List.set_cons_succ])
                refine wpAnyH_take (i := 1) (oi := _) (v := ?mv1) rfl (by kernel_rfl) (by kernel_rfl) (by kernel_rfl) (fun _ _ _ h => h) (Or.inl ⟨by rfl, ?mh1⟩) (by assumption) ?mr1
                case mh1 => (intro wq hSw; (try dsimp only at hSw); go_simp) <;> (with_reducible rfl)
                (try simp only [Act.put, List.getElem_toArray, List.getElem_cons_zero, List.getElem_cons_succ, List.setIfInBounds_toArray, List.set_cons_zero, List.set_cons_succ])
                refine wpAnyH_take (i := 2) (oi := _) (v := ?mv2) rfl (by kernel_rfl) (by kernel_rfl) (by kernel_rfl) (fun _ _ _ h => h) (Or.inl ⟨by rfl, ?mh2⟩) (by assumption) ?mr2
                case mh2 => (intro wq hSw; (try dsimp only at hSw); go_simp) <;> (with_reducible rfl)
                (try simp only [Act.put, List.getElem_toArray, List.getElem_cons_zero, List.getElem_cons_succ, List.setIfInBounds_toArray, List.set_cons_zero, List.set_cons_succ])
                refine wpAnyH_take (i := 3) (oi := _) (v := ?mv3) rfl (by kernel_rfl) (by kernel_rfl) (by kernel_rfl) (fun _ _ _ h => h) (Or.inl ⟨by rfl, ?mh3⟩) (by assumption) ?mr3
                case mh3 => (intro wq hSw; (try dsimp only at hSw); go_simp) <;> (with_reducible rfl)
                (try simp only [Act.put, List.getElem_toArray, List.getElem_cons_zero, List.getElem_cons_succ, List.setIfInBounds_toArray, List.set_cons_zero, List.set_cons_succ])
                refine wpAnyH_take (i := 4) (oi := _) (v := ?mv4) rfl (by kernel_rfl) (by kernel_rfl) (by kernel_rfl) (fun _ _ _ h => h) (Or.inl ⟨by rfl, ?mh4⟩) (by assumption) ?mr4
                case mh4 => (intro wq hSw; (try dsimp only at hSw); go_simp) <;> (with_reducible rfl)
                (try simp only [Act.put, List.getElem_toArray, List.getElem_cons_zero, List.getElem_cons_succ, List.setIfInBounds_toArray, List.set_cons_zero, List.set_cons_succ])
                refine wpAnyH_take (i := 5) (oi := _) (v := ?mv5) rfl (by kernel_rfl) (by kernel_rfl) (by kernel_rfl) (fun _ _ _ h => h) (Or.inl ⟨by rfl, ?mh5⟩) (by assumption) ?mr5
                case mh5 => (intro wq hSw; (try dsimp only at hSw); go_simp) <;> (with_reducible rfl)
                (try simp only [Act.put, List.getElem_toArray, List.getElem_cons_zero, List.getElem_cons_succ, List.setIfInBounds_toArray, List.set_cons_zero, List.set_cons_succ])
                refine wpAnyH_take (i := 6) (oi := _) (v := ?mv6) rfl (by kernel_rfl) (by kernel_rfl) (by kernel_rfl) (fun _ _ _ h => h) (Or.inl ⟨by rfl, ?mh6⟩) (by assumption) ?mr6
                case mh6 => (intro wq hSw; (try dsimp only at hSw); go_simp) <;> (with_reducible rfl)
                (try simp only [Act.put, List.getElem_toArray, List.getElem_cons_zero, List.getElem_cons_succ, List.setIfInBounds_toArray, List.set_cons_zero, List.set_cons_succ])
                refine wpAnyH_take (i := 7) (oi := _) (v := ?mv7) rfl (by kernel_rfl) (by kernel_rfl) (by kernel_rfl) (fun _ _ _ h => h) (Or.inl ⟨by rfl, ?mh7⟩) (by assumption) ?mr7
                case mh7 => (intro wq hSw; (try dsimp only at hSw); go_simp) <;> (with_reducible rfl)
                (try simp only [Act.put, List.getElem_toArray, List.getElem_cons_zero, List.getElem_cons_succ, List.setIfInBounds_toArray, List.set_cons_zero, List.set_cons_succ])
                refine wpAnyH_take (i := 8) (oi := _) (v := ?mv8) rfl (by kernel_rfl) (by kernel_rfl) (by kernel_rfl) (fun _ _ _ h => h) (Or.inl ⟨by rfl, ?mh8⟩) (by assumption) ?mr8
                case mh8 => (intro wq hSw; (try dsimp only at hSw); go_simp) <;> (with_reducible rfl)
                (try simp only [Act.put, List.getElem_toArray, List.getElem_cons_zero, List.getElem_cons_succ, List.setIfInBounds_toArray, List.set_cons_zero, List.set_cons_succ])
                refine wpAnyH_take (i := 9) (oi := _) (v := ?mv9) rfl (by kernel_rfl) (by kernel_rfl) (by kernel_rfl) (fun _ _ _ h => h) (Or.inl ⟨by rfl, ?mh9⟩) (by assumption) ?mr9
                case mh9 => (intro wq hSw; (try dsimp only at hSw); go_simp) <;> (with_reducible rfl)
                (try simp only [Act.put, List.getElem_toArray, List.getElem_cons_zero, List.getElem_cons_succ, List.setIfInBounds_toArray, List.set_cons_zero, List.set_cons_succ])
                refine wpAnyH_take (i := 10) (oi := _) (v := ?mv10) rfl (by kernel_rfl) (by kernel_rfl) (by kernel_rfl) (fun _ _ _ h => h) (Or.inl ⟨by rfl, ?mh10⟩) (by assumption) ?mr10
                case mh10 => (intro wq hSw; (try dsimp only at hSw); go_simp) <;> (with_reducible rfl)
                (try simp only [Act.put, List.getElem_toArray, List.getElem_cons_zero, List.getElem_cons_succ, List.setIfInBounds_toArray, List.set_cons_zero, List.set_cons_succ])
                refine wpAnyH_take (i := 11) (oi := _) (v := ?mv11) rfl (by kernel_rfl) (by kernel_rfl) (by kernel_rfl) (fun _ _ _ h => h) (Or.inl ⟨by rfl, ?mh11⟩) (by assumption) ?mr11
                case mh11 => (intro wq hSw; (try dsimp only at hSw); go_simp) <;> (with_reducible rfl)
                (try simp only [Act.put, List.getElem_toArray, List.getElem_cons_zero, List.getElem_cons_succ, List.setIfInBounds_toArray, List.set_cons_zero, List.set_cons_succ])
                refine wpAnyH_take (i := 12) (oi := _) (v := ?mv12) rfl (by kernel_rfl) (by kernel_rfl) (by kernel_rfl) (fun _ _ _ h => h) (Or.inl ⟨by rfl, ?mh12⟩) (by assumption) ?mr12
                case mh12 => (intro wq hSw; (try dsimp only at hSw); go_simp) <;> (with_reducible rfl)
                (try simp only [Act.put, List.getElem_toArray, List.getElem_cons_zero, List.getElem_cons_succ, List.setIfInBounds_toArray, List.set_cons_zero, List.set_cons_succ])
                refine wpAnyH_take (i := 13) (oi := _) (v := ?mv13) rfl (by kernel_rfl) (by kernel_rfl) (by kernel_rfl) (fun _ _ _ h => h) (Or.inl ⟨by rfl, ?mh13⟩) (by assumption) ?mr13
                case mh13 => (intro wq hSw; (try dsimp only at hSw); go_simp) <;> (with_reducible rfl)
                (try simp only [Act.put, List.getElem_toArray, List.getElem_cons_zero, List.getElem_cons_succ, List.setIfInBounds_toArray, List.set_cons_zero, List.set_cons_succ])
                refine wpAnyH_take (i := 14) (oi := _) (v := ?mv14) rfl (by kernel_rfl) (by kernel_rfl) (by kernel_rfl) (fun _ _ _ h => h) (Or.inl ⟨by rfl, ?mh14⟩) (by assumption) ?mr14
                case mh14 => (intro wq hSw; (try dsimp only at hSw); go_simp) <;> (with_reducible rfl)
                (try simp only [Act.put, List.getElem_toArray, List.getElem_cons_zero, List.getElem_cons_succ, List.setIfInBounds_toArray, List.set_cons_zero, List.set_cons_succ])
                refine wpAnyH_take (i := 15) (oi := _) (v := ?mv15) rfl (by kernel_rfl) (by kernel_rfl) (by kernel_rfl) (fun _ _ _ h => h) (Or.inl ⟨by rfl, ?mh15⟩) (by assumption) ?mr15
                case mh15 => (intro wq hSw; (try dsimp only at hSw); go_simp) <;> (with_reducible rfl)
                (try simp only [Act.put, List.getElem_toArray, List.getElem_cons_zero, List.getElem_cons_succ, List.setIfInBounds_toArray, List.set_cons_zero, List.set_cons_succ])
                refine wpAnyH_take (i := 16) (oi := _) (v := ?mv16) rfl (by kernel_rfl) (by kernel_rfl) (by kernel_rfl) (fun _ _ _ h => h) (Or.inl ⟨by rfl, ?mh16⟩) (by assumption) ?mr16
                case mh16 => (intro wq hSw; (try dsimp only at hSw); go_simp) <;> (with_reducible rfl)
                (try simp only [Act.put, List.getElem_toArray, List.getElem_cons_zero, List.getElem_cons_succ, List.setIfInBounds_toArray, List.set_cons_zero, List.set_cons_succ])
                refine wpAnyH_take (i := 17) (oi := _) (v := ?mv17) rfl (by kernel_rfl) (by kernel_rfl) (by kernel_rfl) (fun _ _ _ h => h) (Or.inl ⟨by rfl, ?mh17⟩) (by assumption) ?mr17
                case mh17 => (intro wq hSw; (try dsimp only at hSw); go_simp) <;> (with_reducible rfl)
                (try simp only [Act.put, List.getElem_toArray, List.getElem_cons_zero, List.getElem_cons_succ, List.setIfInBounds_toArray, List.set_cons_zero, List.set_cons_succ])
                refine wpAnyH_take (i := 18) (oi := _) (v := ?mv18) rfl (by kernel_rfl) (by kernel_rfl) (by kernel_rfl) (fun _ _ _ h => h) (Or.inl ⟨by rfl, ?mh18⟩) (by assumption) ?mr18
                case mh18 => (intro wq hSw; (try dsimp only at hSw); go_simp) <;> (with_reducible rfl)
                (try simp only [Act.put, List.getElem_toArray, List.getElem_cons_zero, List.getElem_cons_succ, List.setIfInBounds_toArray, List.set_cons_zero, List.set_cons_succ])
                refine wpAnyH_take (i := 19) (oi := _) (v := ?mv19) rfl (by kernel_rfl) (by kernel_rfl) (by kernel_rfl) (fun _ _ _ h => h) (Or.inl ⟨by rfl, ?mh19⟩) (by assumption) ?mr19
                case mh19 => (intro wq hSw; (try dsimp only at hSw); go_simp) <;> (with_reducible rfl)
                (try simp only [Act.put, List.getElem_toArray, List.getElem_cons_zero, List.getElem_cons_succ, List.setIfInBounds_toArray, List.set_cons_zero, List.set_cons_succ])
                refine wpAnyH_take (i := 20) (oi := _) (v := ?mv20) rfl (by kernel_rfl) (by kernel_rfl) (by kernel_rfl) (fun _ _ _ h => h) (Or.inl ⟨by rfl, ?mh20⟩) (by assumption) ?mr20
                case mh20 => (intro wq hSw; (try dsimp only at hSw); go_simp) <;> (with_reducible rfl)
                (try simp only [Act.put, List.getElem_toArray, List.getElem_cons_zero, List.getElem_cons_succ, List.setIfInBounds_toArray, List.set_cons_zero, List.set_cons_succ])
                refine wpAnyH_take (i := 21) (oi := _) (v := ?mv21) rfl (by kernel_rfl) (by kernel_rfl) (by kernel_rfl) (fun _ _ _ h => h) (Or.inl ⟨by rfl, ?mh21⟩) (by assumption) ?mr21
                case mh21 => (intro wq hSw; (try dsimp only at hSw); go_simp) <;> (with_reducible rfl)
                (try simp only [Act.put, List.getElem_toArray, List.getElem_cons_zero, List.getElem_cons_succ, List.setIfInBounds_toArray, List.set_cons_zero, List.set_cons_succ])
                refine wpAnyH_take (i := 22) (oi := _) (v := ?mv22) rfl (by kernel_rfl) (by kernel_rfl) (by kernel_rfl) (fun _ _ _ h => h) (Or.inl ⟨by rfl, ?mh22⟩) (by assumption) ?mr22
                case mh22 => (intro wq hSw; (try dsimp only at hSw); go_simp) <;> (with_reducible rfl)
                (try simp only [Act.put, List.getElem_toArray, List.getElem_cons_zero, List.getElem_cons_succ, List.setIfInBounds_toArray, List.set_cons_zero, List.set_cons_succ])
                refine wpAnyH_take (i := 23) (oi := _) (v := ?mv23) rfl (by kernel_rfl) (by kernel_rfl) (by kernel_rfl) (fun _ _ _ h => h) (Or.inl ⟨by rfl, ?mh23⟩) (by assumption) ?mr23
                case mh23 => (intro wq hSw; (try dsimp only at hSw); go_simp) <;> (with_reducible rfl)
                (try simp only [Act.put, List.getElem_toArray, List.getElem_cons_zero, List.getElem_cons_succ, List.setIfInBounds_toArray, List.set_cons_zero, List.set_cons_succ])
                refine wpAnyH_take (i := 26) (oi := _) (v := ?mv26) rfl (by kernel_rfl) (by kernel_rfl) (by kernel_rfl) (fun _ _ _ h => h) (Or.inl ⟨by rfl, ?mh26⟩) (by assumption) ?mr26
                case mh26 => (intro wq hSw; (try dsimp only at hSw); go_simp) <;> (with_reducible rfl)
                (try simp only [Act.put, List.getElem_toArray, List.getElem_cons_zero, List.getElem_cons_succ, List.setIfInBounds_toArray, List.set_cons_zero, List.set_cons_succ])
                refine wpAnyH_take (i := 27) (oi := _) (v := ?mv27) rfl (by kernel_rfl) (by kernel_rfl) (by kernel_rfl) (fun _ _ _ h => h) (Or.inl ⟨by rfl, ?mh27⟩) (by assumption) ?mr27
                case mh27 => (intro wq hSw; (try dsimp only at hSw); go_simp) <;> (with_reducible rfl)
                (try simp only [Act.put, List.getElem_toArray, List.getElem_cons_zero, List.getElem_cons_succ, List.setIfInBounds_toArray, List.set_cons_zero, List.set_cons_succ])
                refine wpAnyH_take (i := 28) (oi := _) (v := ?mv28) rfl (by kernel_rfl) (by kernel_rfl) (by kernel_rfl) (fun _ _ _ h => h) (Or.inl ⟨by rfl, ?mh28⟩) (by assumption) ?mr28
                case mh28 => (intro wq hSw; (try dsimp only at hSw); go_simp) <;> (with_reducible rfl)
                (try simp only [Act.put, List.getElem_toArray, List.getElem_cons_zero, List.getElem_cons_succ, List.setIfInBounds_toArray, List.set_cons_zero, List.set_cons_succ])
                refine wpAnyH_take (i := 29) (oi := _) (v := ?mv29) rfl (by kernel_rfl) (by kernel_rfl) (by kernel_rfl) (fun _ _ _ h => h) (Or.inl ⟨by rfl, ?mh29⟩) (by assumption) ?mr29
                case mh29 => (intro wq hSw; (try dsimp only at hSw); go_simp) <;> (with_reducible rfl)
                (try simp only [Act.put, List.getElem_toArray, List.getElem_cons_zero, List.getElem_cons_succ, List.setIfInBounds_toArray, List.set_cons_zero, List.set_cons_succ])
                refine wpAnyH_take (i := 30) (oi := _) (v := ?mv30) rfl (by kernel_rfl) (by kernel_rfl) (by kernel_rfl) (fun _ _ _ h => h) (Or.inl ⟨by rfl, ?mh30⟩) (by assumption) ?mr30
                case mh30 => (intro wq hSw; (try dsimp only at hSw); go_simp) <;> (with_reducible rfl)
                (try simp only [Act.put, List.getElem_toArray, List.getElem_cons_zero, List.getElem_cons_succ, List.setIfInBounds_toArray, List.set_cons_zero, List.set_cons_succ])
                refine wpAnyH_ready (rs := [24]) (by kernel_rfl) (by simp) ?_
                refine AllReadyH.cons (o := _) rfl (fun K hK => ?_) AllReadyH.nil
                go_simp
                go_at_call_of 7 (Value.string x.f0)
                refine (record7 pathB x.f0 _ ?_ (by decide) (by omega)).mono ?_
                · exact HEW.out.below (below_drew H0.out)
                rintro e wa ⟨rfl, hb⟩
                rw [← HQ1.out]
                have HBA := Aside0.mk (below_then (below_drew H0.out) H0.out.size hb)
                have HSA := Aside0.mk (held3n HX.out HBA.out)
                clear hb
                refine hK.out _ _ ?_ (fun hHeld => ?_)
                · (try dsimp only)
                  exact HSA.out
                clear hK K
                (try simp only [Act.put, List.getElem_toArray, List.getElem_cons_zero, List.getElem_cons_succ, List.setIfInBounds_toArray, List.set_cons_zero, List.set_cons_succ])
                refine wpAnyH_take (i := 25) (oi := _) (v := ?mv25) rfl (by kernel_rfl) (by kernel_rfl) (by kernel_rfl) (fun _ _ _ h => h) (Or.inl ⟨by rfl, ?mh25⟩) (by assumption) ?mr25
                case mh25 => (intro wq hSw; (try dsimp only at hSw); go_simp) <;> (with_reducible rfl)
                (try simp only [Act.put, List.getElem_toArray, List.getElem_cons_zero, List.getElem_cons_succ, List.setIfInBounds_toArray, List.set_cons_zero, List.set_cons_succ])
                refine wpAnyH_ready (rs := [31]) (by kernel_rfl) (by simp) ?_
                refine AllReadyH.cons (o := _) rfl (fun K hK => ?_) AllReadyH.nil
                go_simp
                go_at_call_of 7 (Value.string x.f2)
                refine (record7 linkpathB x.f2 _ ?_ (by decide) (by omega)).mono ?_
                · exact HEW.out.below HBA.out
                rintro e wb ⟨rfl, hb⟩
                rw [← HQ2.out]
                have HBB := Aside0.mk (below_then HBA.out HBA.out.size hb)
                have HSB := Aside0.mk (held3n HX.out HBB.out)
                clear hb
                refine hK.out _ _ ?_ (fun hHeld => ?_)
                · (try dsimp only)
                  exact HSB.out
                clear hK K
                (try simp only [Act.put, List.getElem_toArray, List.getElem_cons_zero, List.getElem_cons_succ, List.setIfInBounds_toArray, List.set_cons_zero, List.set_cons_succ])
                refine wpAnyH_take (i := 32) (oi := _) (v := ?mv32) rfl (by kernel_rfl) (by kernel_rfl) (by kernel_rfl) (fun _ _ _ h => h) (Or.inl ⟨by rfl, ?mh32⟩) (by assumption) ?mr32
                case mh32 => (intro wq hSw; (try dsimp only at hSw); go_simp) <;> (with_reducible rfl)
                (try simp only [Act.put, List.getElem_toArray, List.getElem_cons_zero, List.getElem_cons_succ, List.setIfInBounds_toArray, List.set_cons_zero, List.set_cons_succ])
                refine wpAnyH_take (i := 33) (oi := _) (v := ?mv33) rfl (by kernel_rfl) (by kernel_rfl) (by kernel_rfl) (fun _ _ _ h => h) (Or.inl ⟨by rfl, ?mh33⟩) (by assumption) ?mr33
                case mh33 => (intro wq hSw; (try dsimp only at hSw); go_simp) <;> (with_reducible rfl)
                (try simp only [Act.put, List.getElem_toArray, List.getElem_cons_zero, List.getElem_cons_succ, List.setIfInBounds_toArray, List.set_cons_zero, List.set_cons_succ])
                refine wpAnyH_take (i := 34) (oi := _) (v := ?mv34) rfl (by kernel_rfl) (by kernel_rfl) (by kernel_rfl) (fun _ _ _ h => h) (Or.inl ⟨by rfl, ?mh34⟩) (by assumption) ?mr34
                case mh34 => (intro wq hSw; (try dsimp only at hSw); go_simp) <;> (with_reducible rfl)
                (try simp only [Act.put, List.getElem_toArray, List.getElem_cons_zero, List.getElem_cons_succ, List.setIfInBounds_toArray, List.set_cons_zero, List.set_cons_succ])
                refine wpAnyH_take (i := 35) (oi := _) (v := ?mv35) rfl (by kernel_rfl) (by kernel_rfl) (by kernel_rfl) (fun _ _ _ h => h) (Or.inl ⟨by rfl, ?mh35⟩) (by assumption) ?mr35
                case mh35 => (intro wq hSw; (try dsimp only at hSw); go_simp) <;> (with_reducible rfl)
                (try simp only [Act.put, List.getElem_toArray, List.getElem_cons_zero, List.getElem_cons_succ, List.setIfInBounds_toArray, List.set_cons_zero, List.set_cons_succ])
                refine wpAnyH_take (i := 36) (oi := _) (v := ?mv36) rfl (by kernel_rfl) (by kernel_rfl) (by kernel_rfl) (fun _ _ _ h => h) (Or.inl ⟨by rfl, ?mh36⟩) (by assumption) ?mr36
                case mh36 => (intro wq hSw; (try dsimp only at hSw); go_simp) <;> (with_reducible rfl)
                (try simp only [Act.put, List.getElem_toArray, List.getElem_cons_zero, List.getElem_cons_succ, List.setIfInBounds_toArray, List.set_cons_zero, List.set_cons_succ])
                refine wpAnyH_take (i := 37) (oi := _) (v := undef) rfl (by kernel_rfl) (by kernel_rfl) (by kernel_rfl) (fun _ _ _ h => h) (Or.inr ⟨by rfl, rfl⟩) (by assumption) ?_
                (try simp only [Act.put, List.getElem_toArray, List.getElem_cons_zero, List.getElem_cons_succ, List.setIfInBounds_toArray, List.set_cons_zero, List.set_cons_succ])
                refine wpAnyH_take (i := 38) (oi := _) (v := undef) rfl (by kernel_rfl) (by kernel_rfl) (by kernel_rfl) (fun _ _ _ h => h) (Or.inr ⟨by rfl, rfl⟩) (by assumption) ?_
                (try simp only [Act.put, List.getElem_toArray, List.getElem_cons_zero, List.getElem_cons_succ, List.setIfInBounds_toArray, List.set_cons_zero, List.set_cons_succ])
                refine wpAnyH_take (i := 39) (oi := _) (v := undef) rfl (by kernel_rfl) (by kernel_rfl) (by kernel_rfl) (fun _ _ _ h => h) (Or.inr ⟨by rfl, rfl⟩) (by assumption) ?_
                (try simp only [Act.put, List.getElem_toArray, List.getElem_cons_zero, List.getElem_cons_succ, List.setIfInBounds_toArray, List.set_cons_zero, List.set_cons_succ])
                refine wpAnyH_take (i := 40) (oi := _) (v := undef) rfl (by kernel_rfl) (by kernel_rfl) (by kernel_rfl) (fun _ _ _ h => h) (Or.inr ⟨by rfl, rfl⟩) (by assumption) ?_
                (try simp only [Act.put, List.getElem_toArray, List.getElem_cons_zero, List.getElem_cons_succ, List.setIfInBounds_toArray, List.set_cons_zero, List.set_cons_succ])
                refine wpAnyH_take (i := 41) (oi := _) (v := undef) rfl (by kernel_rfl) (by kernel_rfl) (by kernel_rfl) (fun _ _ _ h => h) (Or.inr ⟨by rfl, rfl⟩) (by assumption) ?_
                (try simp only [Act.put, List.getElem_toArray, List.getElem_cons_zero, List.getElem_cons_succ, List.setIfInBounds_toArray, List.set_cons_zero, List.set_cons_succ])
                refine wpAnyH_take (i := 42) (oi := _) (v := undef) rfl (by kernel_rfl) (by kernel_rfl) (by kernel_rfl) (fun _ _ _ h => h) (Or.inr ⟨by rfl, rfl⟩) (by assumption) ?_
                (try simp only [Act.put, List.getElem_toArray, List.getElem_cons_zero, List.getElem_cons_succ, List.setIfInBounds_toArray, List.set_cons_zero, List.set_cons_succ])
                refine wpAnyH_take (i := 43) (oi := _) (v := undef) rfl (by kernel_rfl) (by kernel_rfl) (by kernel_rfl) (fun _ _ _ h => h) (Or.inr ⟨by rfl, rfl⟩) (by assumption) ?_
                (try simp only [Act.put, List.getElem_toArray, List.getElem_cons_zero, List.getElem_cons_succ, List.setIfInBounds_toArray, List.set_cons_zero, List.set_cons_succ])
                refine wpAnyH_take (i := 44) (oi := _) (v := ?mv44) rfl (by kernel_rfl) (by kernel_rfl) (by kernel_rfl) (fun _ _ _ h => h) (Or.inl ⟨by rfl, ?mh44⟩) (by assumption) ?mr44
                case mh44 => (intro wq hSw; (try dsimp only at hSw); go_simp) <;> (with_reducible rfl)
                (try simp only [Act.put, List.getElem_toArray, List.getElem_cons_zero, List.getElem_cons_succ, List.setIfInBounds_toArray, List.set_cons_zero, List.set_cons_succ])
                refine wpAnyH_done (by kernel_rfl) ?_ _
                all_goals go_wp2_with fail
                all_goals
                  go_roundg (t.length - (i + 1))
                  case measure => have := HGK.out; omega
                  case rel => exact ⟨i + 1, HLT.out, by go_num, congrArg (Value.int .i64) (by rw [HSH.out, HNH.out, if_pos HLO.out]; omega), congrArg (Value.int .i64) (by rw [HSK.out]; unfold blkN; rw [if_pos HLO.out, if_neg HBO.out, HDN.out]; have := HKK.out; omega), ⟨Nat.le_refl _⟩, ⟨HB.out.trans (HBB.out.mono HB.out.size)⟩⟩
            · have hP1 : decide (100 < (x.f0.size : Int)) = false := decide_eq_false (by omega)
              have HBO : Aside0 (¬ bothN x) := ⟨fun h => hP h.2.1⟩
              by_cases hD : 100 < x.f2.size
              · have hD1 : decide (100 < (x.f2.size : Int)) = true := decide_eq_true (by omega)
                have HLO : Aside0 (longN x) := ⟨.inr ⟨hL, hD⟩⟩
                clear hL hP hD
                go_wp2_with fail
                go_quiet (fail)
                go_wp2_with fail
                go_roundg (t.length - (i + 1))
                case measure => have := HGK.out; omega
                case rel => exact ⟨i + 1, HLT.out, by go_num, congrArg (Value.int .i64) (by rw [HSH.out, HNH.out, if_pos HLO.out]; omega), congrArg (Value.int .i64) (by rw [HSK.out]; unfold blkN; rw [if_pos HLO.out, if_neg HBO.out, HDN.out]; have := HKK.out; omega), ⟨Nat.le_refl _⟩, ⟨by first | exact HB.out | exact pw_below_drewN HB.out _⟩⟩
              · have hD1 : decide (100 < (x.f2.size : Int)) = false := decide_eq_false (by omega)
                have HLO : Aside0 (¬ longN x) := ⟨fun h => h.elim hP (fun h => hD h.2)⟩
                clear hL hP hD
                go_wp2_with fail
                go_quiet (fail)
                go_wp2_with fail
                go_roundg (t.length - (i + 1))
                case measure => have := HGK.out; omega
                case rel => exact ⟨i + 1, HLT.out, by go_num, congrArg (Value.int .i64) (by rw [HSH.out, HNH.out, if_neg HLO.out]; omega), congrArg (Value.int .i64) (by rw [HSK.out]; unfold blkN; rw [if_neg HLO.out, if_neg HBO.out, HDN.out]; have := HKK.out; omega), ⟨Nat.le_refl _⟩, ⟨by first | exact HB.out | exact pw_below_drewN HB.out _⟩⟩
          · have hL1 : (x.f1 == 4) = false := by simpa using hL
            have HDN : Aside0 (dataN x = (x.f2.size + 511) / 512) := ⟨by unfold dataN; rw [if_neg hL]⟩
            have HBO : Aside0 (¬ bothN x) := ⟨fun h => hL h.1⟩
            by_cases hP : 100 < x.f0.size
            · have hP1 : decide (100 < (x.f0.size : Int)) = true := decide_eq_true (by omega)
              have HLO : Aside0 (longN x) := ⟨.inl hP⟩
              clear hL hP
              go_wp2_with fail
              go_quiet (fail)
              go_wp2_with fail
              go_roundg (t.length - (i + 1))
              case measure => have := HGK.out; omega
              case rel => exact ⟨i + 1, HLT.out, by go_num, congrArg (Value.int .i64) (by rw [HSH.out, HNH.out, if_pos HLO.out]; omega), congrArg (Value.int .i64) (by rw [HSK.out]; unfold blkN; rw [if_pos HLO.out, if_neg HBO.out, HDN.out]; have := HKK.out; omega), ⟨Nat.le_refl _⟩, ⟨by first | exact HB.out | exact pw_below_drewN HB.out _⟩⟩
            · have hP1 : decide (100 < (x.f0.size : Int)) = false := decide_eq_false (by omega)
              have HLO : Aside0 (¬ longN x) := ⟨fun h => h.elim hP (fun h => hL h.1)⟩
              clear hL hP
              go_wp2_with fail
              go_quiet (fail)
              go_wp2_with fail
              go_roundg (t.length - (i + 1))
              case measure => have := HGK.out; omega
              case rel => exact ⟨i + 1, HLT.out, by go_num, congrArg (Value.int .i64) (by rw [HSH.out, HNH.out, if_neg HLO.out]; omega), congrArg (Value.int .i64) (by rw [HSK.out]; unfold blkN; rw [if_neg HLO.out, if_neg HBO.out, HDN.out]; have := HKK.out; omega), ⟨Nat.le_refl _⟩, ⟨by first | exact HB.out | exact pw_below_drewN HB.out _⟩⟩
        · clear hi HGK
          have hll := layL_length HM.out
          have hlh := laidH_le (t := t) t.length (Nat.le_refl _)
          have hlk := laidK_le HM.out t.length (Nat.le_refl _)
          rw [List.take_length] at hlh hlk ⊢
          obtain ⟨L, hL⟩ : ∃ L, L = layL t := ⟨_, rfl⟩
          rw [← hL] at hll
          have HLL := Aside0.mk hL
          clear hL
          generalize hH : laidH t = H at hll hlh ⊢
          generalize hK : 2 + laidK t = K at hll ⊢
          have HH := Aside0.mk hH
          have hKb : K ≤ 1000 := by omega
          have hHb : H ≤ 1000 := by omega
          have hn1 : ((L.length : Int) == 512 * ((H : Int) + (K : Int))) = true := by simp; omega
          clear hlh hlk hH hK hll
          go_wp2_with fail
          refine (lay10 A c t _ (HE.out.below HB.out) (by omega) HC.out (Kd.C_below HR.out HB.out) HSZ.out HM.out).mono ?_
          rintro e w3 ⟨A3, c3, rfl, _, hb⟩
          rw [← HLL.out]
          have HB3 := Aside0.mk (below_then HB.out HB.out.size hb)
          clear hb
          go_wp2_with fail
          refine (entries11 A c t _ (HE.out.below HB3.out) (by omega) HC.out (Kd.C_below HR.out HB3.out) HSZ.out).mono ?_
          rintro e w4 ⟨rfl, hb⟩
          rw [if_pos HM.out, HH.out]
          have HB4 := Aside0.mk (below_then HB3.out HB3.out.size hb)
          clear hb
          go_wp2_with fail
          refine (awake6 _ (HE.out.below HB4.out)).mono ?_
          rintro e w5 ⟨rfl, hb⟩
          have HB5 := Aside0.mk (below_then HB4.out HB4.out.size hb)
          clear hb
          go_wp2_with fail
          go_ret
          exact ⟨rfl, below_then HL1.out HL1.out.size HB5.out⟩
end Go.Proofs.YtfcdboagbehhiaaDoor
