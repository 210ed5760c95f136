import Derived.Test.YtfcdboagbehhiaaDoorN
namespace Go.Proofs.YtfcdboagbehhiaaDoor
open Go.RowKit Go.Proofs.YtfcdboagbehhiaaDoorW.PrintWords Go.Proofs.YtfcdboagbehhiaaDoorW.PrintLast Go.Proofs.YtfcdboagbehhiaaDoorW.PrintMore Go.Proofs.YtfcdboagbehhiaaDoor.PTarWhole
open Go.Lib (byteCells)
set_option linter.unusedVariables false
set_option linter.unusedSimpArgs false

set_option maxRecDepth 100000 in
theorem lay10_no (A : Option Addr) (c : Nat) (t : List S29) (w : World) (hE : Env w) (hn : t.length ≤ 400) (hc : t.length ≤ c) (hr : Kd.C k29 w A t.length t) (hs : ∀ i, i < t.length → (nd t i).f0.size ≤ 1000) (hm : mayT t = false) :
    Calls Tryd.prog 10 #[.slice A t.length c] w fun e w' => e = .returned (.tuple #[.slice none 0 0, .int .i64 7]) ∧ Below w.heap.size w w' := by
  go_enter Tryd.func10, Tryd.ntmps10
  go_wp2_with (go_at_call 9; refine (may9 A c t _ hE hn hc hr hs).mono ?_; rintro e w1 ⟨rfl, hb⟩; rw [hm])
  go_ret2
  exact ⟨rfl, hb⟩
set_option maxRecDepth 100000 in
theorem entries11 (A : Option Addr) (c : Nat) (t : List S29) (w : World) (hE : Env w) (hn : t.length ≤ 400) (hc : t.length ≤ c) (hr : Kd.C k29 w A t.length t) (hs : ∀ i, i < t.length → (nd t i).f0.size ≤ 1000) :
    Calls Tryd.prog 11 #[.slice A t.length c] w fun e w' => e = .returned (.int .i64 (if mayT t = true then laidH t else 0)) ∧ Below w.heap.size w w' := by
  cases hm : mayT t with
  | false =>
    go_enter Tryd.func11, Tryd.ntmps11
    go_wp2_with (go_at_call 9; refine (may9 A c t _ hE hn hc hr hs).mono ?_; rintro e w1 ⟨rfl, hb⟩; rw [hm])
    go_ret
    exact ⟨rfl, hb⟩
  | true =>
    have HE := Aside0.mk hE
    have HR := Aside0.mk hr
    have HS := Aside0.mk hs
    have HC := Aside0.mk hc
    have HM := Aside0.mk hm
    clear hE hr hs hc hm
    go_enter Tryd.func11, Tryd.ntmps11
    go_wp2_with fail
    refine (may9 A c t _ HE.out hn HC.out HR.out HS.out).mono ?_
    rintro e w1 ⟨rfl, hb⟩
    rw [HM.out]
    have HB1 := Aside0.mk hb
    clear hb
    go_wp2_with fail
    refine (laid15 A c t _ (HE.out.below HB1.out) hn (Kd.C_below HR.out HB1.out) HM.out).mono ?_
    rintro e w2 ⟨g, rfl, hw, hb⟩
    obtain ⟨A2, c2, hc0, hc1, ho⟩ := lay_app hw
    have HB2 := Aside0.mk (below_then HB1.out HB1.out.size hb)
    clear hw hb ho hc0
    go_wp2_with fail
    go_ret
    exact ⟨rfl, HB2.out⟩
/-! ## the one node of awake -/
def x1 : S29 := ⟨⟨#[]⟩, 1, ⟨#[]⟩⟩
theorem nil_empty : (⟨#[]⟩ : ByteArray).toList.isEmpty = true := by rw [empty_size]; rfl
theorem may_x1 : mayT [x1] = true := by
  have hg : goodB x1 = true := by
    unfold goodB mayB x1
    rw [nil_empty]
    rfl
  have hf : followsB x1 [] (dirF []) = true := by
    unfold followsB
    rw [if_pos rfl]
    exact nil_empty
  unfold mayT okAt
  show (!false && (true && ([0].all _))) = true
  simp only [List.all_cons, List.all_nil]
  show (!false && (true && (((goodB x1 && followsB x1 [] (dirF [])) && true)))) = true
  rw [hg, hf]
  rfl
theorem extra_x1 : extraB x1 = ⟨#[]⟩ := by
  have h : nameB x1.f0 = ⟨#[46]⟩ := by unfold nameB x1; rw [if_pos nil_empty]
  unfold extraB extra1
  rw [h, if_neg (by unfold x1; decide), if_neg (by decide)]
theorem laidL_x1 : laidL [x1] = entryL (cutB ⟨#[46]⟩) 1 nilB nilB := by
  have h : nameB x1.f0 = ⟨#[46]⟩ := by unfold nameB x1; rw [if_pos nil_empty]
  unfold laidL
  simp only [List.flatMap_cons, List.flatMap_nil, List.append_nil]
  unfold nodeL nodeE nodeM
  rw [extra_x1, if_pos nil_empty, h, List.nil_append]
  rfl
theorem laidH_x1 : laidH [x1] = 1 := by
  unfold laidH
  simp only [List.map_cons, List.map_nil]
  unfold nodeH
  rw [extra_x1, if_pos nil_empty]
  rfl
theorem putL_get {bs l : List UInt8} {k i : Nat} (hi : i < k) (hk : k ≤ bs.length) : (putL bs k l)[i]? = bs[i]? := by
  unfold putL
  rw [List.append_assoc, List.getElem?_append_left (by rw [List.length_take]; omega), List.getElem?_take_of_lt hi]
theorem putL_in {bs l : List UInt8} {k i : Nat} (hk : k ≤ bs.length) (hi : i < l.length) : (putL bs k l)[k + i]? = l[i]? := by
  unfold putL
  rw [List.append_assoc, List.getElem?_append_right (by rw [List.length_take]; omega), List.length_take, Nat.min_eq_left hk, Nat.add_sub_cancel_left, List.getElem?_append_left hi]
theorem putL_past {bs l : List UInt8} {k i : Nat} (hk : k + l.length ≤ bs.length) (hi : k + l.length ≤ i) : (putL bs k l)[i]? = bs[i]? := by
  unfold putL
  rw [List.getElem?_append_right (by rw [List.length_append, List.length_take]; omega), List.length_append, List.length_take, Nat.min_eq_left (by omega), List.getElem?_drop]
  congr 1
  omega
theorem h1_len {name : ByteArray} {kind : Int} {n : Nat} (hn : name.size ≤ 100) : (putL zeros512 0 name.data.toList).length = 512 ∧ (putL (putL zeros512 0 name.data.toList) 100 (modeB kind).data.toList).length = 512 ∧ (h1L name kind n).length = 512 := by
  have h0 : zeros512.length = 512 := List.length_replicate
  have e1 : (putL zeros512 0 name.data.toList).length = 512 := by rw [putL_length (by rw [h0, size_data]; omega), h0]
  have e2 : ∀ bs : List UInt8, bs.length = 512 → ∀ (k : Nat) (l : List UInt8), k + l.length ≤ 512 → (putL bs k l).length = 512 := fun bs h k l hk => by rw [putL_length (by rw [h]; exact hk), h]
  have e3 := e2 _ e1 100 (modeB kind).data.toList (by rw [size_data, modeB_size]; decide)
  refine ⟨e1, e3, ?_⟩
  unfold h1L
  refine e2 _ (e2 _ (e2 _ e3 _ _ (by decide)) _ _ (by decide)) _ _ ?_
  rw [octN_length]; decide
theorem head_name {name link : ByteArray} {kind : Int} {n i : Nat} (hn : name.size ≤ 100) (hl : link.size ≤ 100) (hi : i < name.size) : (headL name kind n link)[i]? = name.data.toList[i]? := by
  have h0 : zeros512.length = 512 := List.length_replicate
  have e2 : ∀ bs : List UInt8, bs.length = 512 → ∀ (k : Nat) (l : List UInt8), k + l.length ≤ 512 → (putL bs k l).length = 512 := fun bs h k l hk => by rw [putL_length (by rw [h]; exact hk), h]
  obtain ⟨e1, e3, e5⟩ := h1_len (kind := kind) (n := n) hn
  have e4 := e2 _ e3 108 [48, 48, 48, 48, 48, 48, 48] (by decide)
  have e4' := e2 _ e4 116 [48, 48, 48, 48, 48, 48, 48] (by decide)
  have e6 := e2 _ e5 136 [48, 48, 48, 48, 48, 48, 48, 48, 48, 48, 48] (by decide)
  have e7 := e2 _ e6 148 [32, 32, 32, 32, 32, 32, 32, 32] (by decide)
  have e8 := e2 _ e7 156 (signB kind).data.toList (by rw [size_data, signB_size]; decide)
  have e9 := e2 _ e8 157 link.data.toList (by rw [size_data]; omega)
  have e10 := e2 _ e9 257 [117, 115, 116, 97, 114, 0, 48, 48] (by decide)
  unfold headL
  rw [putL_get (by omega) (by unfold h2L; omega)]
  unfold h2L
  rw [putL_get (by omega) (by omega), putL_get (by omega) (by omega), putL_get (by omega) (by omega), putL_get (by omega) (by omega), putL_get (by omega) (by omega)]
  unfold h1L
  rw [putL_get (by omega) (by omega), putL_get (by omega) (by omega), putL_get (by omega) (by omega), putL_get (by omega) (by omega)]
  have := putL_in (bs := zeros512) (l := name.data.toList) (k := 0) (i := i) (Nat.zero_le _) (by rw [size_data]; exact hi)
  rwa [Nat.zero_add] at this
theorem lay_x1 : (layL [x1]).length = 1536 ∧ (layL [x1])[0]? = some 46 := by
  have hc : cutB ⟨#[46]⟩ = ⟨#[46]⟩ := by unfold cutB; rfl
  have hsz : (⟨#[46]⟩ : ByteArray).size = 1 := rfl
  have hz : nilB.size = 0 := rfl
  have hE : (entryL (cutB ⟨#[46]⟩) 1 nilB nilB).length = 512 := by
    rw [entryL_length (by rw [hc]; decide) (by decide), hz]
    rfl
  have hL : (layL [x1]).length = 1536 := by
    unfold layL
    rw [laidL_x1, List.length_append, List.length_replicate, hE]
  refine ⟨hL, ?_⟩
  unfold layL
  rw [laidL_x1, List.getElem?_append_left (by rw [hE]; decide)]
  unfold entryL
  have hh := headL_length (name := cutB ⟨#[46]⟩) (link := nilB) (kind := 1) (n := nilB.size) (by rw [hc]; decide) (by decide)
  rw [List.append_assoc, List.getElem?_append_left (by rw [hh]; decide), head_name (by rw [hc]; decide) (by decide) (by rw [hc]; decide), hc]
  rfl
theorem rec_awake : recB pathB ⟨#[97, 98]⟩ = ⟨#[49, 49, 32, 112, 97, 116, 104, 61, 97, 98, 10]⟩ := by
  have hr : restB pathB ⟨#[97, 98]⟩ = ⟨#[32, 112, 97, 116, 104, 61, 97, 98, 10]⟩ := by unfold restB pathB; rfl
  have h9 : (⟨#[32, 112, 97, 116, 104, 61, 97, 98, 10]⟩ : ByteArray).size = 9 := rfl
  have h11 : recN 9 = 11 := by
    have h1 := dD_spec 9 (by decide)
    have h2 := dD_spec (9 + dD 9) (by omega)
    unfold recN
    omega
  unfold recB
  rw [hr, h9, h11]
  unfold decB
  rw [Lib.decDigits_two (by decide) (by decide)]
  rfl
end Go.Proofs.YtfcdboagbehhiaaDoor
