import Derived.Test.YtpibjjhfckopaaaDoorK
import Derived.Test.YtpibjjhfckopaaaDoorN
namespace Go.Proofs.YtpibjjhfckopaaaDoor
open Go.RowKit Go.Proofs.YtpibjjhfckopaaaDoorW.PrintWords Go.Proofs.YtpibjjhfckopaaaDoorW.PrintLast Go.Proofs.YtpibjjhfckopaaaDoorW.PrintMore Go.Proofs.YtpibjjhfckopaaaDoor.PBlobsScript
set_option linter.unusedVariables false

theorem own_block {w : World} {base : Nat} {v : Value} {xs : List S50} (h : OwnB w base v xs) {k : Nat} (hk : v.ownBlock = some k) : ∃ cs, w.heap[k]? = some (.cells cs 50 (0, 0)) := by
  obtain ⟨hl, h | ⟨g, cap, cur, rfl, h1, h2, _⟩⟩ := h
  · rw [h.1] at hk; cases hk
  · have hk : some g = some k := hk
    injection hk with hk
    subst hk
    exact ⟨cur, h2⟩
/-- a store beside another: what a call that may change the one leaves of both -/
theorem StAfter.beside {w w1 : World} {base t g t' g' : Nat} {v v' : Value} {xs ys zs : List S50} (h : St w base t g v xs) (h' : St w base t' g' v' zs) (hdis : ∀ k, v.ownBlock = some k → v'.ownBlock ≠ some k)
    (htt : t ≠ t') (ht : t ≠ 50) (ht' : t' ≠ 50) (ha : StAfter w base t g v ys w1) :
    ∃ v1, St w1 base t g v1 ys ∧ St w1 base t' g' v' zs ∧ ∀ k, v1.ownBlock = some k → v'.ownBlock ≠ some k := by
  obtain ⟨v1, hs, ⟨hsz, hk⟩, hown, _⟩ := ha
  have hgg : g' ≠ g := by
    intro e
    subst e
    have := h.1.symm.trans h'.1
    simp only [Option.some.injEq, Obj.cells.injEq] at this
    exact htt this.2.1
  have hg' : w1.heap[g']? = w.heap[g']? := hk g' (blk_lt h'.1) (by
    rintro (e | e)
    · exact hgg e
    · obtain ⟨cs, hcs⟩ := own_block h.2.2 e
      have := hcs.symm.trans h'.1
      simp only [Option.some.injEq, Obj.cells.injEq] at this
      exact ht' this.2.1.symm)
  refine ⟨v1, hs, ⟨hg'.trans h'.1, h'.2.1, h'.2.2.move fun k hkk => hk k (own_lt h'.2.2 _ hkk) ?_⟩, fun k hkk => ?_⟩
  · rintro (e | e)
    · subst e
      obtain ⟨cs, hcs⟩ := own_block h'.2.2 hkk
      have := hcs.symm.trans h.1
      simp only [Option.some.injEq, Obj.cells.injEq] at this
      exact ht this.2.1.symm
    · exact hdis k e hkk
  · rcases hown with e | ⟨b, e, hb⟩
    · rw [e] at hkk
      exact hdis k hkk
    · rw [e] at hkk
      injection hkk with hkk
      intro h2
      have := own_lt h'.2.2 _ h2
      omega
/-- the two stores, side by side -/
structure Two (w0 w : World) (g : Nat) (v : Value) (g' : Nat) (v' : Value) (xs : List S50) : Prop where
  low : Below w0.heap.size w0 w
  s : St w w0.heap.size 52 g v xs
  r : St w w0.heap.size 30 g' v' xs
  dis : ∀ k, v.ownBlock = some k → v'.ownBlock ≠ some k
  sorted : SortedB xs
theorem Two.below {w0 w w1 : World} {g g' : Nat} {v v' : Value} {xs : List S50} (h : Two w0 w g v g' v' xs) (hb : Below w.heap.size w w1) : Two w0 w1 g v g' v' xs :=
  ⟨h.low.trans (hb.mono h.low.size), h.s.below hb, h.r.below hb, h.dis, h.sorted⟩
theorem Drawn0.below' {w w1 : World} (h : Drawn0 w w1) : Below w.heap.size w w1 := by
  obtain ⟨m, rfl⟩ := h
  exact pw_below_drewN (Below.refl _ _) m
theorem Drawn0.belowd {w w1 : World} (h : Drawn0 w.drew w1) : Below w.heap.size w w1 := below_then (below_drew (Below.refl _ _)) (Nat.le_refl _) (Drawn0.below' h)
theorem Two.getr {w0 w : World} {g g' : Nat} {v v' : Value} {xs : List S50} (h : Two w0 w g v g' v' xs) : ∃ A c, v' = .slice A xs.length c ∧ xs.length ≤ c ∧ Kd.C k50 w A xs.length xs := h.r.2.2.reads
theorem refput9 (g : Nat) (v : Value) (xs : List S50) (data : ByteArray) (base : Nat) (w : World) (h : St w base 30 g v xs) (hn : xs.length ≤ 100000) (hd : data.size ≤ 140737488355328) (hbase : base ≤ w.heap.size) :
    Calls Tryd.prog 9 #[.pointer (some ⟨g, 0, none⟩), .string data] w fun e w' => e = .returned (.tuple #[.string (putB xs data).2.1, .int .i64 (putB xs data).2.2]) ∧ StAfter w base 30 g v (putB xs data).1 w' := by
  cases hf : hasB xs (dig data) with
  | true => exact refput9_old g v xs data base w h hn hd hf
  | false => exact refput9_new g v xs data base w h hn hd hf hbase
set_option maxHeartbeats 4000000 in
set_option maxRecDepth 100000 in
theorem law3 (A0 : Option Addr) (c0 : Nat) (texts : List ByteArray) (digest : ByteArray) (w : World) (hr0 : Kd.C Kd.string w A0 texts.length texts) (hc0 : texts.length ≤ c0) (hg3 : w.cell? ⟨3, 15, none⟩ = some (.int .u8 4)) :
    Calls Tryd.prog 3 #[.slice A0 texts.length c0, .string digest] w fun e w' => e = .returned (.bool true) ∧ Below w.heap.size w w' := by
  obtain ⟨b, hb, hbf⟩ := great_f texts 30 200 (by decide)
  have HR0 := Aside0.mk hr0
  have HC0 := Aside0.mk hc0
  have HB3 := Aside0.mk (World.block_lt_of_cell? w ⟨3, 15, none⟩ hg3)
  have HG3 := Aside0.mk hg3
  have HGR := Aside0.mk hb
  have HBF := Aside0.mk hbf
  clear hr0 hc0 hg3 hb hbf
  go_enter Tryd.func3, Tryd.ntmps3
  go_wp2_with fail
  refine (hogsheadlaw0_GreatTexts.calls _ A0 c0 texts 30 200 b _ HR0.out HC0.out HGR.out).mono ?_
  rintro e w1 ⟨rfl, hd1⟩
  have hb1 := Drawn0.below' hd1
  have HL1 := Aside0.mk hb1
  have HR1 := Aside0.mk (Kd.C_below HR0.out hb1)
  have HG1 := Aside0.mk (pw_cell_below hb1 HG3.out)
  clear hd1 hb1
  cases b with
  | true =>
    go_wp2_with (go_at_call 6; refine (awake6 _ HG1.out).mono ?_; rintro e w2 ⟨rfl, hb2⟩)
    go_ret
    exact ⟨rfl, below_then HL1.out HL1.out.size hb2⟩
  | false =>
    obtain ⟨hlen, hsize⟩ := HBF.out rfl
    have HSZ := Aside0.mk hsize
    clear hsize
    by_cases hdl : 100 < digest.size
    · go_wp2_with (go_at_call 6; refine (awake6 _ HG1.out).mono ?_; rintro e w2 ⟨rfl, hb2⟩)
      go_ret
      exact ⟨rfl, below_then HL1.out HL1.out.size hb2⟩
    · go_wp2_with fail
      obtain ⟨base, hbase⟩ : ∃ b, b = w.heap.size := ⟨_, rfl⟩
      have HBASE := Aside0.mk hbase
      clear hbase
      refine (new7 _ 0 (Nat.zero_le _)).mono ?_
      rintro e w2 ⟨rfl, hw2⟩
      obtain ⟨g, hg⟩ : ∃ b, b = w1.heap.size := ⟨_, rfl⟩
      rw [← hg]
      have HW2 := Aside0.mk hw2
      have HG := Aside0.mk hg
      clear hw2 hg
      go_wp2_with fail
      have hw2 := HW2.out
      have hg := HG.out
      obtain ⟨g', hg'⟩ : ∃ b, b = w2.heap.size := ⟨_, rfl⟩
      obtain ⟨w3, hw3⟩ : ∃ x, x = w2.alloc (.cells #[.slice none 0 0] 30) := ⟨_, rfl⟩
      rw [← hg']
      rw [← hw3]
      have hl2 : Below w1.heap.size w1 w2 := by rw [hw2]; exact below_alloc (Below.refl _ _) _
      have hl3 : Below w2.heap.size w2 w3 := by rw [hw3]; exact below_alloc (Below.refl _ _) _
      have T0 : Aside0 (Two w w3 g (.slice none 0 0) g' (.slice none 0 0) []) := by
        have hlow2 : Below w.heap.size w w2 := below_then HL1.out HL1.out.size hl2
        refine ⟨⟨below_then hlow2 hlow2.size hl3, ?_, ?_, (fun k hk => nomatch hk), List.Pairwise.nil⟩⟩
        · refine St.below ?_ hl3
          rw [hw2, hg]
          exact St.new w1 _ 52 HL1.out.size
        · rw [hw3, hg']
          exact St.new w2 _ 30 hlow2.size
      clear hl2 hl3 hw2 hw3 hg hg' HW2 HG
      go_loopg [7] texts.length (fun gk v7 wr => ∃ (i : Nat) (xs : List S50) (v v' : Value), i ≤ texts.length ∧ v7 = .int .i64 i ∧ Aside0 (texts.length - i ≤ gk) ∧ Aside0 (xs.length ≤ i) ∧ Aside0 (Two w wr g v g' v' xs))
      case atStart => exact ⟨0, [], _, _, Nat.zero_le _, rfl, ⟨by simp⟩, ⟨Nat.le_refl _⟩, T0⟩
      case round =>
        clear T0
        obtain ⟨i, xs, v, v', hi, rfl, HGK, HXL, T⟩ := hrel
        rcases Nat.lt_or_eq_of_le hi with hlt | rfl
        · obtain ⟨ad, e1, hx0⟩ := Kd.at_string HR0.out i (by omega) (by omega)
          have hxs := HSZ.out i hlt
          rw [Int.toNat_natCast] at hx0
          have hrd : rdOf ByteArray.empty texts (i : Int) = texts.getD i ByteArray.empty := by unfold rdOf; rw [Int.toNat_natCast]
          rw [hrd] at hx0
          clear hrd
          generalize texts.getD i ByteArray.empty = t at hx0 hxs
          subst e1
          have HX0 := Aside0.mk hx0
          have HAD := Aside0.mk (World.block_lt_of_cell? w _ hx0)
          clear hx0
          have hxr := (T.out.low.cell HAD.out).trans HX0.out
          have HT := Aside0.mk hxs
          clear hxs
          have HLEN := Aside0.mk hlen
          clear hlen
          go_wp2_with fail
          have hsz : w.heap.size ≤ wr.heap.size := T.out.low.size
          refine (put8 g v xs t w.heap.size wr T.out.s T.out.sorted (by have := HXL.out; have := HLEN.out; omega) (by have := HT.out; omega) ((T.out.low.cell (p := ⟨3, 15, none⟩) HB3.out).trans HG3.out) HB3.out hsz).mono ?_
          rintro e wa ⟨rfl, ha⟩
          have hla : Below w.heap.size wr wa := ha.low T.out.s hsz
          obtain ⟨v1, hs1, hr1, hd1⟩ := ha.beside T.out.s T.out.r T.out.dis (by decide) (by decide) (by decide)
          have HLA := Aside0.mk (T.out.low.trans hla)
          have HS1 := Aside0.mk hs1
          have HR1' := Aside0.mk hr1
          have HD1 := Aside0.mk hd1
          clear ha hla hs1 hr1 hd1 hxr
          have hxa := (HLA.out.cell HAD.out).trans HX0.out
          obtain ⟨ys, hys⟩ : ∃ ys, ys = (putB xs t).1 := ⟨_, rfl⟩
          obtain ⟨p, hp⟩ : ∃ ys, ys = (putB xs t).2.1 := ⟨_, rfl⟩
          obtain ⟨er, her⟩ : ∃ ys, ys = (putB xs t).2.2 := ⟨_, rfl⟩
          rw [← hys] at HS1
          rw [← hp, ← her]
          have HYS := Aside0.mk hys
          have HP := Aside0.mk hp
          have HER := Aside0.mk her
          clear hys hp her hsz
          go_wp2_with fail
          have hsz : w.heap.size ≤ wa.heap.size := HLA.out.size
          refine (refput9 g' v' xs t w.heap.size wa HR1'.out (by have := HXL.out; have := HLEN.out; omega) (by have := HT.out; omega) hsz).mono ?_
          rintro e wb ⟨rfl, ha⟩
          rw [← HP.out, ← HER.out]
          rw [← HYS.out] at ha
          have hlb : Below w.heap.size wa wb := ha.low HR1'.out hsz
          obtain ⟨v2, hs2, hr2, hd2⟩ := ha.beside HR1'.out HS1.out (fun k h1 h2 => HD1.out k h2 h1) (by decide) (by decide) (by decide)
          have TB : Aside0 (Two w wb g v1 g' v2 ys) := ⟨⟨HLA.out.trans hlb, hr2, hs2, fun k h1 h2 => hd2 k h2 h1, by rw [HYS.out]; exact putB_sorted T.out.sorted t⟩⟩
          have HYL : Aside0 (ys.length ≤ i + 1) := ⟨by rw [HYS.out]; exact Nat.le_trans (putB_len xs t) (by have := HXL.out; omega)⟩
          clear ha hlb hs2 hr2 hd2 hsz HS1 HR1' HD1 HLA hxa T
          have hyl : ys.length ≤ 1000000 := by have := HYL.out; have := HLEN.out; omega
          have HYM := Aside0.mk hyl
          clear hyl
          go_wp2_with fail
          refine (get10 g v1 ys digest _ wb TB.out.s TB.out.sorted HYM.out).mono ?_
          rintro e wc ⟨rfl, hb⟩
          have TC := Aside0.mk (TB.out.below hb)
          clear hb TB
          obtain ⟨gd, hgd⟩ : ∃ x, x = getB ys digest := ⟨_, rfl⟩
          rw [← hgd]
          have HGD := Aside0.mk hgd
          clear hgd
          go_wp2_with fail
          refine (refget11 g' v2 ys digest _ wc TC.out.r TC.out.sorted HYM.out).mono ?_
          rintro e wd ⟨rfl, hb⟩
          rw [← HGD.out]
          have TD := Aside0.mk (TC.out.below hb)
          clear hb TC
          go_wp2_with fail
          refine (get10 g v1 ys p _ wd TD.out.s TD.out.sorted HYM.out).mono ?_
          rintro e we ⟨rfl, hb⟩
          have TE := Aside0.mk (TD.out.below hb)
          clear hb TD
          obtain ⟨gp, hgp⟩ : ∃ x, x = getB ys p := ⟨_, rfl⟩
          rw [← hgp]
          have HGP : Aside0 (er = 0 → gp = (t, true)) := ⟨fun h => by rw [hgp, HYS.out, HP.out]; exact getB_putB t (by rw [← HER.out]; exact h)⟩
          clear hgp
          go_wp2_with fail
          refine (list12 g v1 ys _ we TE.out.s HYM.out).mono ?_
          rintro e wf ⟨v18, rfl, ho, hb⟩
          have TF := Aside0.mk (TE.out.below hb)
          have HBF2 := Aside0.mk hb
          obtain ⟨A18, c18, rfl, hc18, hr18⟩ := ho.reads
          obtain ⟨B18, c19, hv2, hc19, hr19⟩ := TF.out.getr
          obtain ⟨n18, hn18⟩ : ∃ n, n = ys.length := ⟨_, rfl⟩
          have HO := Aside0.mk ho
          have HR18 := Aside0.mk hr18
          have HC18 := Aside0.mk hc18
          have HR19 := Aside0.mk hr19
          have HC19 := Aside0.mk hc19
          have hcr : wf.cell? ⟨g', 0, none⟩ = some (.slice B18 ys.length c19) := by rw [blk_cell TF.out.r.1, hv2]; rfl
          have HCR := Aside0.mk hcr
          clear ho hb hc18 hr18 hc19 hr19 hv2 hn18 hcr
          go_wp2_with fail
          by_cases he0 : er = 0
          · have hgp := HGP.out he0
            have h1 : (er == 0) = true := by simpa using he0
            have hgp1 : gp.1 = t := by rw [hgp]
            have hgp2 : gp.2 = true := by rw [hgp]
            rw [hgp1, hgp2]
            clear hgp hgp1 hgp2 HGP
            subst he0
            have hcr := HCR.out
            have hxf : wf.cell? (ad.add i) = some (.string t) := (TF.out.low.cell HAD.out).trans HX0.out
            go_quiet (first
              | (go_at_call 13; refine (hogsheadlaw0_Num.calls 0 0 _ rfl).mono ?_; rintro e w' ⟨rfl, ⟨nd, rfl⟩⟩; (first | exact ⟨rfl, _, World.drewN_drewN _ _ _⟩ | exact ⟨rfl, _, Eq.trans (World.drewN_drewN _ _ _) (congrArg (World.drewN _) (Nat.add_assoc _ _ _))⟩))
              | (go_at_call 14; refine (len14 g v1 ys _ _ (TF.out.s.below (pw_below_drewN (Below.refl _ _) _))).mono ?_; rintro e w' ⟨rfl, rfl⟩; exact ⟨rfl, _, rfl⟩)
              | (go_at_call 15; refine (hogsheadlaw0_SameBlobs.calls (ys.length + 1) A18 c18 ys B18 c19 ys true _ (Kd.C_below HR18.out (pw_below_drewN (Below.refl _ _) _)) HC18.out (Kd.C_below HR19.out (pw_below_drewN (Below.refl _ _) _)) HC19.out (same_f ys (by have := HYM.out; omega))).mono ?_; rintro e w' ⟨rfl, ⟨nd, rfl⟩⟩; (first | exact ⟨rfl, _, World.drewN_drewN _ _ _⟩ | exact ⟨rfl, _, Eq.trans (World.drewN_drewN _ _ _) (congrArg (World.drewN _) (Nat.add_assoc _ _ _))⟩)))
            go_wp2_with (go_at_call 16; refine (hogsheadlaw0_OverBlobs.calls (ys.length + 1) (fun _ => True) _ ys we _ (pw_below_drewN HBF2.out _) ((HO.out.below (pw_below_drewN (Below.refl _ _) _)).R (fun _ _ => trivial)) (over_f ys (by have := HYM.out; omega))).mono ?_; rintro e wz ⟨rfl, hbz, _⟩)
            have TZ := Aside0.mk (TE.out.below hbz)
            clear hbz hcr hxf
            go_roundg (texts.length - (i + 1))
            case measure => have := HGK.out; omega
            case rel => exact ⟨i + 1, ys, v1, v2, hlt, by have hl := HLEN.out; exact congrArg (Value.int .i64) (by rw [wrap64_id (by omega) (by omega)]; omega), ⟨Nat.le_refl _⟩, HYL, TZ⟩
          · have h1 : (er == 0) = false := by simpa using he0
            have h2 : decide (er = 0) = false := decide_eq_false he0
            have HE0 := Aside0.mk he0
            clear he0
            have hcr := HCR.out
            have hxf : wf.cell? (ad.add i) = some (.string t) := (TF.out.low.cell HAD.out).trans HX0.out
            go_quiet (first
              | (go_at_call 13; refine (hogsheadlaw0_Num.calls er er _ rfl).mono ?_; rintro e w' ⟨rfl, ⟨nd, rfl⟩⟩; (first | exact ⟨rfl, _, World.drewN_drewN _ _ _⟩ | exact ⟨rfl, _, Eq.trans (World.drewN_drewN _ _ _) (congrArg (World.drewN _) (Nat.add_assoc _ _ _))⟩))
              | (go_at_call 14; refine (len14 g v1 ys _ _ (TF.out.s.below (pw_below_drewN (Below.refl _ _) _))).mono ?_; rintro e w' ⟨rfl, rfl⟩; exact ⟨rfl, _, rfl⟩)
              | (go_at_call 15; refine (hogsheadlaw0_SameBlobs.calls (ys.length + 1) A18 c18 ys B18 c19 ys true _ (Kd.C_below HR18.out (pw_below_drewN (Below.refl _ _) _)) HC18.out (Kd.C_below HR19.out (pw_below_drewN (Below.refl _ _) _)) HC19.out (same_f ys (by have := HYM.out; omega))).mono ?_; rintro e w' ⟨rfl, ⟨nd, rfl⟩⟩; (first | exact ⟨rfl, _, World.drewN_drewN _ _ _⟩ | exact ⟨rfl, _, Eq.trans (World.drewN_drewN _ _ _) (congrArg (World.drewN _) (Nat.add_assoc _ _ _))⟩)))
            go_wp2_with (go_at_call 16; refine (hogsheadlaw0_OverBlobs.calls (ys.length + 1) (fun _ => True) _ ys we _ (pw_below_drewN HBF2.out _) ((HO.out.below (pw_below_drewN (Below.refl _ _) _)).R (fun _ _ => trivial)) (over_f ys (by have := HYM.out; omega))).mono ?_; rintro e wz ⟨rfl, hbz, _⟩)
            have TZ := Aside0.mk (TE.out.below hbz)
            clear hbz hcr hxf
            go_roundg (texts.length - (i + 1))
            case measure => have := HGK.out; omega
            case rel => exact ⟨i + 1, ys, v1, v2, hlt, by have hl := HLEN.out; exact congrArg (Value.int .i64) (by rw [wrap64_id (by omega) (by omega)]; omega), ⟨Nat.le_refl _⟩, HYL, TZ⟩
        · obtain ⟨A19, c19, hv2, hc19, hr19⟩ := T.out.getr
          have hcr : wr.cell? ⟨g', 0, none⟩ = some (.slice A19 xs.length c19) := by rw [blk_cell T.out.r.1, hv2]; rfl
          have HR19 := Aside0.mk hr19
          have HC19 := Aside0.mk hc19
          have HXM : Aside0 (xs.length ≤ 1000000) := ⟨by have := HXL.out; omega⟩
          clear hv2 hc19 hr19
          go_wp2_with fail
          have HCR := Aside0.mk hcr
          go_region_with (first
            | (go_at_call 12; refine (list12 g v xs w.heap.size _ ?_ HXM.out).mono ?_; exact T.out.s; rintro e wl ⟨v18, rfl, ho, hb⟩; have HBL := Aside0.mk (below_then (below_drew (Below.refl wr.heap.size wr)) (Nat.le_refl _) hb); obtain ⟨A18, c18, rfl, hc18, hr18⟩ := ho.reads; have HR18 := Aside0.mk hr18; have HC18 := Aside0.mk hc18; have hcl : wl.cell? ⟨g', 0, none⟩ = some (.slice A19 xs.length c19) := pw_cell_below HBL.out HCR.out; clear hb ho hc18 hr18)
            | (go_at_call 15; refine (hogsheadlaw0_SameBlobs.calls (xs.length + 1) A18 c18 xs A19 c19 xs true _ ?_ HC18.out ?_ HC19.out (same_f xs (by have := HXM.out; omega))).mono ?_; exact HR18.out; exact Kd.C_below HR19.out HBL.out; rintro e wm ⟨rfl, hdm⟩; have HBM := Aside0.mk (below_then HBL.out HBL.out.size (Drawn0.below' hdm)); clear hdm)
            | (go_at_call 6; refine (awake6 _ ?_).mono ?_; exact (((T.out.low.trans (HBM.out.mono T.out.low.size)).cell (p := ⟨3, 15, none⟩) HB3.out).trans HG3.out); rintro e wn ⟨rfl, hbn⟩; have HBN := Aside0.mk (below_then HBM.out HBM.out.size hbn); clear hbn))
          all_goals go_wp2
          all_goals go_ret
          all_goals exact ⟨rfl, T.out.low.trans (HBN.out.mono T.out.low.size)⟩
end Go.Proofs.YtpibjjhfckopaaaDoor
