import Derived.Test.YtfcdboagbehhiaaDoorE
namespace Go.Proofs.YtfcdboagbehhiaaDoor
open Go.RowKit Go.Proofs.YtfcdboagbehhiaaDoorW.PrintWords Go.Proofs.YtfcdboagbehhiaaDoorW.PrintLast Go.Proofs.YtfcdboagbehhiaaDoorW.PrintMore Go.Proofs.YtfcdboagbehhiaaDoor.PTarWhole
open Go.Maps Go.ChangeMaps
set_option linter.unusedVariables false
set_option linter.unusedSimpArgs false

/-! ## tree.Bad, tree.May -/
def dirStep (f : ByteArray → Bool) (x : S29) : ByteArray → Bool := fun s => if s = x.f0 then (x.f1 == 1) else f s
def dirF (l : List S29) : ByteArray → Bool := l.foldl dirStep fun _ => false
theorem dirF_snoc (l : List S29) (x : S29) : dirF (l ++ [x]) = dirStep (dirF l) x := by unfold dirF; rw [List.foldl_append]; rfl
def nd (t : List S29) (i : Nat) : S29 := t.getD i z29
def okAt (t : List S29) (i : Nat) : Bool := goodB (nd t i) && followsB (nd t i) (t.take i) (dirF (t.take i))
def mayT (t : List S29) : Bool := !t.isEmpty && (decide (t.length ≤ 400) && (List.range t.length).all (okAt t))
theorem take_nd {t : List S29} {i : Nat} (h : i < t.length) : t.take (i + 1) = t.take i ++ [nd t i] := by
  rw [List.take_add_one]
  unfold nd
  rw [List.getD_eq_getElem?_getD, List.getElem?_eq_getElem h]
  rfl
theorem rd_nd (t : List S29) (i : Nat) : rd_T29 t (i : Int) = nd t i := by unfold rd_T29 nd; rw [Int.toNat_natCast]
def Bad14 (t : List S29) (w : World) (e : Ending) (w' : World) : Prop := ∃ r : Int, e = .returned (.int .i64 r) ∧ decide (r < 0) = mayT t ∧ Below w.heap.size w w'
theorem follows_at (x : S29) (A : Option Addr) (c b n i : Nat) (t : List S29) (hi : i ≤ t.length) (f : ByteArray → Bool) (w : World) (hE : Env w) (hg : mayB x.f0 = true) (hs : x.f0.size ≤ 1000) (hn : i ≤ 100000) (hr : Kd.C k29 w A t.length t) (hd : Dirs w b n f) :
    Calls Tryd.prog 22 #[.agg #[.string x.f0, .int .i64 x.f1, .string x.f2], .slice A i c, .map (some b)] w fun e w' => e = .returned (.bool (followsB x (t.take i) f)) ∧ Below w.heap.size w w' := by
  have hl : (t.take i).length = i := by rw [List.length_take]; omega
  have hr' : Kd.C k29 w A (t.take i).length (t.take i) := Kd.C_take hr hi
  have := follows22 x A c b n (t.take i) f w hE hg hs (by omega) hr' hd
  rw [hl] at this
  exact this
theorem grown_below {w w' : World} {b n : Nat} (h : w.grownBy w' (some b)) (hn : n ≤ b) (hs : n ≤ w.heap.size) : Below n w w' :=
  ⟨h.os, h.tape, h.output, h.size, fun k hk => h.block k (by omega) (fun e => by injection e with e; omega)⟩
theorem range_snoc {f : Nat → Bool} {i : Nat} (h : (List.range i).all f = true) (h1 : f i = true) : (List.range (i + 1)).all f = true := by
  rw [List.range_succ, List.all_append, h, List.all_cons, h1]
  rfl
theorem range_not {f : Nat → Bool} {i n : Nat} (h : f i = false) (hi : i < n) : (List.range n).all f = false := by
  rw [List.all_eq_false]
  exact ⟨i, List.mem_range.2 hi, by rw [h]; decide⟩
/-- what is held of a world between two calls: the cells of the node at hand -/
theorem held_step {W w w1 : World} {bk : Nat} {x y z : Value} (h : w.cell? ⟨bk, 0, none⟩ = some x ∧ w.cell? ⟨bk, 1, none⟩ = some y ∧ w.cell? ⟨bk, 2, none⟩ = some z ∧ Aside0 (Below W.heap.size W w)) (hb : Below w.heap.size w w1) :
    w1.cell? ⟨bk, 0, none⟩ = some x ∧ w1.cell? ⟨bk, 1, none⟩ = some y ∧ w1.cell? ⟨bk, 2, none⟩ = some z ∧ Aside0 (Below W.heap.size W w1) :=
  ⟨pw_cell_below hb h.1, pw_cell_below hb h.2.1, pw_cell_below hb h.2.2.1, ⟨below_then h.2.2.2.out h.2.2.2.out.size hb⟩⟩
theorem held_below {W w : World} {bk : Nat} {x y z : Value} (h : w.cell? ⟨bk, 0, none⟩ = some x ∧ w.cell? ⟨bk, 1, none⟩ = some y ∧ w.cell? ⟨bk, 2, none⟩ = some z ∧ Aside0 (Below W.heap.size W w)) : Below W.heap.size W w := h.2.2.2.out
theorem good_may {x : S29} (h : goodB x = true) : mayB x.f0 = true := by
  unfold goodB at h
  rw [Bool.and_eq_true] at h
  exact h.1
theorem Dirs.keep {w w' : World} {n b m : Nat} {f : ByteArray → Bool} (h : Dirs w b m f) (hb : Below n w w') (hn : n = w.heap.size) : Dirs w' b m f := by subst hn; exact h.below hb
theorem bad_at {t : List S29} {i : Nat} {w w' : World} (hi : i < t.length) (h : okAt t i = false) (hb : Below w.heap.size w w') : Bad14 t w (.returned (.int .i64 i)) w' := by
  refine ⟨i, rfl, ?_, hb⟩
  unfold mayT
  rw [range_not h hi]
  simp
set_option maxHeartbeats 2000000 in
set_option maxRecDepth 100000 in
theorem bad14 (A : Option Addr) (c : Nat) (t : List S29) (w : World) (hE : Env w) (hn : t.length ≤ 400) (hc : t.length ≤ c) (hr : Kd.C k29 w A t.length t) (hs : ∀ i, i < t.length → (nd t i).f0.size ≤ 1000) :
    Calls Tryd.prog 14 #[.slice A t.length c] w (Bad14 t w) := by
  have HE := Aside0.mk hE
  have HR := Aside0.mk hr
  have HS := Aside0.mk hs
  have HC := Aside0.mk hc
  clear hE hr hs hc
  by_cases he : t = []
  · subst he
    go_enter Tryd.func14, Tryd.ntmps14
    go_wp2
    go_ret
    exact ⟨0, rfl, rfl, Below.refl _ _⟩
  · have hl : 0 < t.length := List.length_pos_iff.2 he
    have hl1 : ((t.length : Int) == 0) = false := by simp; omega
    have HNE := Aside0.mk he
    clear he
    have hmm := @run_makeMap Tryd.prog
    go_enter Tryd.func14, Tryd.ntmps14
    go_wp2_with fail
    have D0 := Aside0.mk (Dirs.made w)
    have B0 : Aside0 (Below w.heap.size w (w.alloc (.map #[] 0))) := ⟨below_alloc (Below.refl _ _) _⟩
    generalize w.alloc (.map #[] 0) = w1 at D0 B0
    obtain ⟨b, hb⟩ : ∃ b, b = w.heap.size := ⟨_, rfl⟩
    have HB := Aside0.mk hb
    rw [← hb] at D0 ⊢
    clear hb hmm
    go_loopg [12] t.length (fun gk v12 wr => ∃ (i : Nat), i ≤ t.length ∧ v12 = .int .i64 i ∧ Aside0 (t.length - i ≤ gk) ∧ Aside0 ((List.range i).all (okAt t) = true) ∧ Aside0 (Dirs wr b i (dirF (t.take i))) ∧ Aside0 (Below w.heap.size w wr))
    case atStart => exact ⟨0, Nat.zero_le _, rfl, ⟨by simp⟩, ⟨by simp⟩, D0, B0⟩
    case round =>
      clear D0 B0
      obtain ⟨i, hi, rfl, HGK, HA, HD, HB1⟩ := hrel
      rcases Nat.lt_or_eq_of_le hi with hlt | rfl
      · obtain ⟨ad, rfl, hx0, hx1, hx2⟩ := at_T29 (Kd.C_below HR.out HB1.out) i (by omega) (by omega)
        rw [rd_nd, Int.toNat_natCast] at hx0 hx1 hx2
        have hsx := HS.out i hlt
        generalize hx : nd t i = x at hx0 hx1 hx2 hsx
        have HX := Aside0.mk hx
        have HSX := Aside0.mk hsx
        have HLT := Aside0.mk hlt
        clear hx hsx
        have hi4 : decide (400 ≤ (i : Int)) = false := decide_eq_false (by omega)
        have hi5 : (i : Int) < 400 := by omega
        go_wp2_with fail
        clear hx0 hx1 hx2
        obtain ⟨bk, hbk⟩ : ∃ bk, bk = wr.heap.size := ⟨_, rfl⟩
        have hba : Below wr.heap.size wr (wr.alloc (Obj.cells #[Value.string x.f0, Value.int IntKind.i64 x.f1, Value.string x.f2] 29)) := below_alloc (Below.refl _ _) _
        have hn0 := blk_new wr (.cells #[.string x.f0, .int .i64 x.f1, .string x.f2] 29)
        have HDA := Aside0.mk (HD.out.below hba)
        have HBA := Aside0.mk (below_then HB1.out HB1.out.size hba)
        rw [← hbk] at hn0 ⊢
        have HBK := Aside0.mk hbk
        clear hbk hba
        generalize wr.alloc (Obj.cells #[Value.string x.f0, Value.int IntKind.i64 x.f1, Value.string x.f2] 29) = W at hn0 HDA HBA
        have hc0 : W.cell? ⟨bk, 0, none⟩ = some (.string x.f0) := by rw [blk_cell hn0]; rfl
        have hc1 : W.cell? ⟨bk, 1, none⟩ = some (.int .i64 x.f1) := by rw [blk_cell hn0]; rfl
        have hc2 : W.cell? ⟨bk, 2, none⟩ = some (.string x.f2) := by rw [blk_cell hn0]; rfl
        have HN0 := Aside0.mk hn0
        clear hn0 HD HB1
        have hic0 : (0 : Int) ≤ (i : Int) := by omega
        have hic : (i : Int) ≤ (c : Int) := by have := HC.out; omega
        have hic1 : i ≤ c := by omega
        have HEW := Aside0.mk (HE.out.below HBA.out)
        have H0 := Aside0.mk (Below.refl W.heap.size W)
        have HHI := Aside0.mk hi
        clear hi
        have hok : ∀ r, (goodB x && followsB x (t.take i) (dirF (t.take i))) = r → okAt t i = r := fun r h => by unfold okAt; rw [HX.out]; exact h
        have HOK := Aside0.mk hok
        clear hok
        obtain ⟨q, hq⟩ : ∃ q, q = followsB x (t.take i) (dirF (t.take i)) := ⟨_, rfl⟩
        have hfol := hq.symm
        clear hq
        cases hgood : goodB x with
        | false =>
          have HGD := Aside0.mk (show Below W.heap.size W W.drew from below_drew H0.out)
          first
            | go_region_with (go_at_call 21; refine (good21 x _ ?_).mono ?_; exact HEW.out.below HGD.out; rintro e wg ⟨rfl, hb⟩; rw [hgood]; have HBG := Aside0.mk (below_then HGD.out HGD.out.size hb); clear hb)
            | fail
          all_goals go_wp2
          all_goals go_ret
          all_goals exact bad_at HLT.out (HOK.out false (by rw [hgood]; rfl)) (HBA.out.trans (HBG.out.mono HBA.out.size))
        | true =>
          cases q with
          | false =>
            go_region_held3 (fun w' => w'.cell? ⟨bk, 0, none⟩ = some (.string x.f0) ∧ w'.cell? ⟨bk, 1, none⟩ = some (.int .i64 x.f1) ∧ w'.cell? ⟨bk, 2, none⟩ = some (.string x.f2) ∧ Aside0 (Below W.heap.size W w'))
              (first | exact ⟨hc0, hc1, hc2, H0⟩ | exact ⟨hc0, hc1, hc2, ⟨below_drew H0.out⟩⟩ | exact HSA.out | exact HSB.out)
              (first
                | (go_at_call 21; refine (good21 x _ ?_).mono ?_; exact HEW.out.below (held_below (x := .string x.f0) (y := .int .i64 x.f1) (z := .string x.f2) (bk := bk) (by assumption)); rintro e wg ⟨rfl, hb⟩; rw [hgood]; have HSA := Aside0.mk (held_step (W := W) (x := .string x.f0) (y := .int .i64 x.f1) (z := .string x.f2) (bk := bk) (by assumption) hb); clear hb)
                | (go_at_call 22; refine (follows_at x (some ad) c b i i t (by omega) (dirF (t.take i)) _ ?_ (good_may hgood) HSX.out (by omega) ?_ ?_).mono ?_; exact HEW.out.below (held_below (x := .string x.f0) (y := .int .i64 x.f1) (z := .string x.f2) (bk := bk) (by assumption)); exact Kd.C_below HR.out (below_then HBA.out HBA.out.size (held_below (x := .string x.f0) (y := .int .i64 x.f1) (z := .string x.f2) (bk := bk) (by assumption))); exact HDA.out.below (held_below (x := .string x.f0) (y := .int .i64 x.f1) (z := .string x.f2) (bk := bk) (by assumption)); rintro e wg ⟨rfl, hb⟩; rw [hfol]; have HSB := Aside0.mk (held_step (W := W) (x := .string x.f0) (y := .int .i64 x.f1) (z := .string x.f2) (bk := bk) (by assumption) hb); clear hb))
            go_wp2
            go_ret
            exact bad_at HLT.out (HOK.out false (by rw [hgood, hfol]; rfl)) (HBA.out.trans (held_below (x := .string x.f0) (y := .int .i64 x.f1) (z := .string x.f2) (bk := bk) HSB.out |>.mono HBA.out.size))
          | true =>
            go_region_held3 (fun w' => w'.cell? ⟨bk, 0, none⟩ = some (.string x.f0) ∧ w'.cell? ⟨bk, 1, none⟩ = some (.int .i64 x.f1) ∧ w'.cell? ⟨bk, 2, none⟩ = some (.string x.f2) ∧ Aside0 (Below W.heap.size W w'))
              (first | exact ⟨hc0, hc1, hc2, H0⟩ | exact ⟨hc0, hc1, hc2, ⟨below_drew H0.out⟩⟩ | exact HSA.out | exact HSB.out)
              (first
                | (go_at_call 21; refine (good21 x _ ?_).mono ?_; exact HEW.out.below (held_below (x := .string x.f0) (y := .int .i64 x.f1) (z := .string x.f2) (bk := bk) (by assumption)); rintro e wg ⟨rfl, hb⟩; rw [hgood]; have HSA := Aside0.mk (held_step (W := W) (x := .string x.f0) (y := .int .i64 x.f1) (z := .string x.f2) (bk := bk) (by assumption) hb); clear hb)
                | (go_at_call 22; refine (follows_at x (some ad) c b i i t (by omega) (dirF (t.take i)) _ ?_ (good_may hgood) HSX.out (by omega) ?_ ?_).mono ?_; exact HEW.out.below (held_below (x := .string x.f0) (y := .int .i64 x.f1) (z := .string x.f2) (bk := bk) (by assumption)); exact Kd.C_below HR.out (below_then HBA.out HBA.out.size (held_below (x := .string x.f0) (y := .int .i64 x.f1) (z := .string x.f2) (bk := bk) (by assumption))); exact HDA.out.below (held_below (x := .string x.f0) (y := .int .i64 x.f1) (z := .string x.f2) (bk := bk) (by assumption)); rintro e wg ⟨rfl, hb⟩; rw [hfol]; have HSB := Aside0.mk (held_step (W := W) (x := .string x.f0) (y := .int .i64 x.f1) (z := .string x.f2) (bk := bk) (by assumption) hb); clear hb))
            have hbg : Below W.heap.size W wg := held_below (x := .string x.f0) (y := .int .i64 x.f1) (z := .string x.f2) (bk := bk) HSB.out
            have hc0' := HSB.out.1
            have hc1' := HSB.out.2.1
            obtain ⟨D, hown, hf⟩ := HDA.out.below hbg
            have hkey : keyOf Tryd.prog 9 (.string x.f0) = some (skey x.f0) := Go.WideMaps.keyOf_string_mk (s := x.f0) Tryd.underlying9 (by unfold maxLen; have := HSX.out; omega)
            have HF := Aside0.mk hf
            have HBG := Aside0.mk (HBA.out.trans (hbg.mono HBA.out.size))
            clear hf hbg hc0 hc1 hc2 HSA HSB
            go_wp2_with (at_mapUpdate; refine wpList_mapUpdate_own _ rfl _ _ _ 48 rfl 9 4 (string_keyed Tryd.underlying9) Tryd.underlying48 _ b i D rfl hown (by unfold maxLen; omega) _ _ (skey x.f0) rfl rfl hkey (.lit (.bool (x.f1 == 1))) [] (plainElem_bool Tryd.underlying4 _) ?_; intro w2 hown2 hgrow2)
            have HP := Aside0.mk (Dirs.put (w := w) HF.out hown.isMap x.f0 _ hown2)
            have HL : Aside0 (Below w.heap.size w w2) := ⟨HBG.out.trans (grown_below hgrow2 (Nat.le_of_eq HB.out.symm) HBG.out.size)⟩
            clear hown2 hgrow2 hc0' hc1'
            go_roundg (t.length - (i + 1))
            case measure => have := HGK.out; omega
            case rel => exact ⟨i + 1, HLT.out, by go_num, ⟨Nat.le_refl _⟩, ⟨range_snoc HA.out (HOK.out true (by rw [hgood, hfol]; rfl))⟩, ⟨by rw [take_nd HLT.out, HX.out, dirF_snoc]; exact HP.out⟩, HL⟩
      · clear hi
        go_wp2
        go_ret
        refine ⟨-1, rfl, ?_, HB1.out⟩
        unfold mayT
        rw [HA.out]
        have : t.isEmpty = false := by simpa using HNE.out
        rw [this]
        simp
        omega
end Go.Proofs.YtfcdboagbehhiaaDoor
