import Derived.Test.YtfcdboagbehhiaaDoorO
namespace Go.Proofs.YtfcdboagbehhiaaDoor
open Go.RowKit Go.Proofs.YtfcdboagbehhiaaDoorW.PrintWords Go.Proofs.YtfcdboagbehhiaaDoorW.PrintLast Go.Proofs.YtfcdboagbehhiaaDoorW.PrintMore Go.Proofs.YtfcdboagbehhiaaDoor.PTarWhole
open Go.Lib (byteCells)
set_option linter.unusedVariables false
set_option linter.unusedSimpArgs false

/-! ## awake -/
theorem C_x1 (w : World) : Kd.C k29 (w.alloc (.cells #[.string ⟨#[]⟩, .int .i64 1, .string ⟨#[]⟩] 29)) (some ⟨w.heap.size, 0, none⟩) 1 [x1] := by
  refine ⟨rfl, by decide, fun _ => ⟨_, rfl, fun j p hj => ?_⟩⟩
  have h0 : j = 0 := by
    cases j with
    | zero => rfl
    | succ j => simp at hj
  subst h0
  obtain rfl : x1 = p := by simpa using hj
  refine ⟨[.string x1.f0, .int .i64 x1.f1, .string x1.f2], rfl, k29_mk _ x1, fun i u hi => ?_⟩
  rw [add_plain, blk_cell (blk_new w _)]
  simpa [x1] using hi
set_option maxHeartbeats 2000000 in
set_option maxRecDepth 100000 in
theorem awake6 (w : World) (hE : Env w) : Calls Tryd.prog 6 #[] w fun e w' => e = .returned (.bool true) ∧ Below w.heap.size w w' := by
  have HE := Aside0.mk hE
  clear hE
  go_enter Tryd.func6, Tryd.ntmps6
  go_wp2_with fail
  have hba : Below w.heap.size w (w.alloc (.cells #[.string ⟨#[]⟩, .int .i64 1, .string ⟨#[]⟩] 29)) := below_alloc (Below.refl _ _) _
  have HL := Aside0.mk hba
  have HX1 := Aside0.mk (HE.out.below hba)
  have HC := Aside0.mk (C_x1 w)
  clear hba
  have hone : ∀ i, i < [x1].length → (nd [x1] i).f0.size ≤ 1000 := fun i hi => by
    have : i = 0 := by simp at hi; exact hi
    subst this
    decide
  have HO := Aside0.mk hone
  clear hone
  refine (lay10 (some ⟨w.heap.size, 0, none⟩) 1 [x1] _ HX1.out (by decide) (by decide) HC.out HO.out may_x1).mono ?_
  rintro e w2 ⟨A', c', rfl, ho, hb⟩
  have HB2 := Aside0.mk (below_then HL.out HL.out.size hb)
  have hl := lay_x1
  rw [hl.1] at ho ⊢
  obtain ⟨hlen, h1 | ⟨k, cap, cur, h1, hge, hk, hnc, hcm, hcs, htk⟩⟩ := ho
  · exact absurd h1.2 (by decide)
  · injection h1 with h1 h2 h3
    subst h1
    subst h3
    have hcell : w2.cell? ⟨k, 0, none⟩ = some (.int .u8 46) := by
      rw [blk_cell hk]
      have h0 : (byteCells (layL [x1]))[0]? = some (.int .u8 46) := by
        unfold Lib.byteCells
        rw [List.getElem?_map, hl.2]
        rfl
      rw [← htk] at h0
      rw [List.getElem?_take_of_lt (by decide)] at h0
      simpa using h0
    have HCELL := Aside0.mk hcell
    clear hl hlen hb hge hk hnc hcm hcs htk hcell HX1 HC
    go_wp2_with fail
    refine (record7 pathB ⟨#[97, 98]⟩ w2 (HE.out.below HB2.out) (by decide) (by decide)).mono ?_
    rintro e w3 ⟨rfl, hb⟩
    rw [rec_awake]
    have hc3 := pw_cell_below hb HCELL.out
    have HB3 := Aside0.mk (below_then HB2.out HB2.out.size hb)
    have heq : ((⟨#[49, 49, 32, 112, 97, 116, 104, 61, 97, 98, 10]⟩ : ByteArray).toList == [49, 49, 32, 112, 97, 116, 104, 61, 97, 98, 10]) = true := by rw [ByteArray.toList_eq]; decide
    clear hb HB2 HCELL
    go_wp2_with fail
    clear hc3
    have hba : Below w3.heap.size w3 (w3.alloc (.cells #[.string ⟨#[]⟩, .int .i64 1, .string ⟨#[]⟩] 29)) := below_alloc (Below.refl _ _) _
    have HB4 := Aside0.mk (below_then HB3.out HB3.out.size hba)
    clear hba
    refine (entries11 (some ⟨w3.heap.size, 0, none⟩) 1 [x1] _ (HE.out.below HB4.out) (by decide) (by decide) (C_x1 w3) HO.out).mono ?_
    rintro e w5 ⟨rfl, hb⟩
    rw [if_pos may_x1, laidH_x1]
    have HB5 := Aside0.mk (below_then HB4.out HB4.out.size hb)
    clear hb
    go_wp2_with fail
    go_ret
    exact ⟨rfl, HB5.out⟩
end Go.Proofs.YtfcdboagbehhiaaDoor
