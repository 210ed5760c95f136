import Derived.Test.YtpibjjhfckopaaaDoorV
import Derived.Deep.RegionHeld3
namespace Go.Proofs.YtpibjjhfckopaaaDoor
open Go.RowKit Go.Proofs.YtpibjjhfckopaaaDoorW.PrintWords Go.Proofs.YtpibjjhfckopaaaDoorW.PrintLast Go.Proofs.YtpibjjhfckopaaaDoorW.PrintMore Go.Proofs.YtpibjjhfckopaaaDoor.PBlobsScript
set_option linter.unusedVariables false

set_option maxHeartbeats 4000000 in
set_option maxRecDepth 100000 in
theorem law4 (A0 : Option Addr) (c0 : Nat) (texts : List ByteArray) (k0 : Int) (w : World) (hr0 : Kd.C Kd.string w A0 texts.length texts) (hc0 : texts.length ≤ c0) (hg3 : w.cell? ⟨3, 15, none⟩ = some (.int .u8 4)) :
    Calls Tryd.prog 4 #[.slice A0 texts.length c0, .int .i64 k0] w fun e w' => e = .returned (.bool true) ∧ Below w.heap.size w w' := by
  obtain ⟨b, hb, hbf⟩ := great_f texts 12 300 (by decide)
  have HR0 := Aside0.mk hr0
  have HC0 := Aside0.mk hc0
  have HB3 := Aside0.mk (World.block_lt_of_cell? w ⟨3, 15, none⟩ hg3)
  have HG3 := Aside0.mk hg3
  have HGR := Aside0.mk hb
  have HBF := Aside0.mk hbf
  clear hr0 hc0 hg3 hb hbf
  go_enter Tryd.func4, Tryd.ntmps4
  go_wp2_with fail
  refine (hogsheadlaw0_GreatTexts.calls _ A0 c0 texts 12 300 b _ HR0.out HC0.out HGR.out).mono ?_
  rintro e w1 ⟨rfl, hd1⟩
  have hb1 := Drawn0.below' hd1
  have HL1 := Aside0.mk hb1
  have HR1 := Aside0.mk (Kd.C_below HR0.out hb1)
  have HG1 := Aside0.mk (pw_cell_below hb1 HG3.out)
  clear hd1 hb1
  cases b with
  | true =>
    go_wp2_with (go_at_call 6; refine (awake6 _ HG1.out).mono ?_; rintro e w2 ⟨rfl, hb2⟩)
    go_ret
    exact ⟨rfl, below_then HL1.out HL1.out.size hb2⟩
  | false =>
    obtain ⟨hlen, hsize⟩ := HBF.out rfl
    have HSZ := Aside0.mk hsize
    clear hsize
    by_cases hn0 : texts.length = 0
    · have hn1 : ((texts.length : Int) == 0) = true := by simpa using hn0
      clear hn0
      go_wp2_with (go_at_call 6; refine (awake6 _ HG1.out).mono ?_; rintro e w2 ⟨rfl, hb2⟩)
      go_ret
      exact ⟨rfl, below_then HL1.out HL1.out.size hb2⟩
    · have hn1 : ((texts.length : Int) == 0) = false := by simpa using hn0
      have HLEN := Aside0.mk hlen
      have HN0 := Aside0.mk hn0
      clear hn0
      go_wp2_with fail
      go_loopg [5] texts.length (fun gk v5 wr => ∃ i : Nat, i ≤ texts.length ∧ v5 = .int .i64 i ∧ Aside0 (texts.length - i ≤ gk) ∧ Aside0 (Clear texts i 0) ∧ Aside0 (Below w.heap.size w wr))
      case atStart => exact ⟨0, Nat.zero_le _, rfl, ⟨by simp⟩, ⟨Clear.zero _⟩, HL1⟩
      case round =>
        obtain ⟨i, hi, rfl, HGK, HCL, HB⟩ := hrel
        rcases Nat.lt_or_eq_of_le hi with hlt | rfl
        · obtain ⟨wo, rfl⟩ : ∃ wo, wo = wr := ⟨_, rfl⟩
          obtain ⟨go, rfl⟩ : ∃ go, go = gk := ⟨_, rfl⟩
          obtain ⟨ad, e1, hx0⟩ := Kd.at_string HR0.out i (by omega) (by omega)
          have hxs := HSZ.out i hlt
          rw [rdOf_tx, Int.toNat_natCast] at hx0
          subst e1
          have HX0 := Aside0.mk hx0
          have HAD := Aside0.mk (World.block_lt_of_cell? w _ hx0)
          have HXS : Aside0 ((tx texts i).size ≤ 300) := ⟨hxs⟩
          have HLT := Aside0.mk hlt
          clear hx0 hxs
          go_wp2_with fail
          go_loopg [6] i (fun gk v6 wr => ∃ j : Nat, j ≤ i ∧ v6 = .int .i64 j ∧ Aside0 (i - j ≤ gk) ∧ Aside0 (Clear texts i j) ∧ Aside0 (Below w.heap.size w wr))
          case atStart => exact ⟨0, Nat.zero_le _, rfl, ⟨by simp⟩, HCL, HB⟩
          case round =>
            clear HCL HB
            obtain ⟨j, hj, rfl, HGJ, HCL, HB⟩ := hrel
            rcases Nat.lt_or_eq_of_le hj with hjt | rfl
            · obtain ⟨ae, e1, hx1⟩ := Kd.at_string HR0.out j (by omega) (by omega)
              obtain rfl : ad = ae := by simpa using e1
              have hxs := HSZ.out j (by omega)
              rw [rdOf_tx, Int.toNat_natCast] at hx1
              have HX1 := Aside0.mk hx1
              have HXJ : Aside0 ((tx texts j).size ≤ 300) := ⟨hxs⟩
              have hxi := (HB.out.cell HAD.out).trans HX0.out
              have hxj := (HB.out.cell (World.block_lt_of_cell? w _ HX1.out)).trans HX1.out
              clear hx1 hxs e1 
              have hlj : j < texts.length := by omega
              generalize hti : tx texts i = ti at HX0 HXS hxi
              generalize htj : tx texts j = tj at HX1 HXJ hxj
              have HTI := Aside0.mk hti
              have HTJ := Aside0.mk htj
              clear hti htj
              by_cases heq : ti = tj
              · have heq1 : (ti.toList == tj.toList) = true := by rw [heq]; simp
                have HEQ := Aside0.mk heq
                clear heq
                go_wp2_with fail
                go_quiet (fail)
                go_wp2_with fail
                go_roundg (i - (j + 1))
                case measure => have := HGJ.out; omega
                case rel => exact ⟨j + 1, hjt, by go_num, ⟨Nat.le_refl _⟩, ⟨HCL.out.step fun _ => by rw [HTI.out, HTJ.out, HEQ.out]⟩, ⟨pw_below_drewN HB.out _⟩⟩
              · have hne1 := ne_list heq
                have HNE := Aside0.mk heq
                have hg := (HB.out.cell (p := ⟨3, 15, none⟩) HB3.out).trans HG3.out
                have HG := Aside0.mk hg
                have HXI := Aside0.mk hxi
                have HXJ1 := Aside0.mk hxj
                clear heq hg
                go_wp2_with fail
                by_cases hdd : dig ti = dig tj
                · have hd1 : ((dig ti).toList == (dig tj).toList) = true := by rw [hdd]; simp
                  clear hdd
                  have HB0 := Aside0.mk (Below.refl wr.heap.size wr)
                  go_region_held3 (fun w' => w'.cell? (ad.add i) = some (.string ti) ∧ w'.cell? (ad.add j) = some (.string tj) ∧ w'.cell? ⟨3, 15, none⟩ = some (.int .u8 4) ∧ Aside0 (Below wr.heap.size wr w'))
                    (first | exact ⟨HXI.out, HXJ1.out, HG.out, HB0⟩ | exact ⟨HXI.out, HXJ1.out, HG.out, ⟨below_drew HB0.out⟩⟩ | exact HSA.out | exact HSB.out)
                    (first
                    | (go_at_call 17; refine (digest17 tj _ (by have := HXJ.out; omega) ?_).mono ?_; exact Held2.g (w0 := wr) (p := ad.add i) (q := ad.add j) (x := .string ti) (y := .string tj) (by assumption); rintro e wa ⟨rfl, hba⟩; have HSB := Aside0.mk (Held2.step (w0 := wr) (p := ad.add i) (q := ad.add j) (x := .string ti) (y := .string tj) (by assumption) hba); clear hba)
                    | (go_at_call 17; refine (digest17 ti _ (by have := HXS.out; omega) ?_).mono ?_; exact Held2.g (w0 := wr) (p := ad.add i) (q := ad.add j) (x := .string ti) (y := .string tj) (by assumption); rintro e wa ⟨rfl, hba⟩; have HSA := Aside0.mk (Held2.step (w0 := wr) (p := ad.add i) (q := ad.add j) (x := .string ti) (y := .string tj) (by assumption) hba); clear hba))
                  have HWB := Aside0.mk (below_then HB.out HB.out.size HSB.out.2.2.2.out)
                  have HGB := Aside0.mk HSB.out.2.2.1
                  clear HSA HSB HB0 hxi hxj HXI HXJ1 HG
                  go_wp2_with (go_at_call 6; refine (awake6 _ HGB.out).mono ?_; rintro e w2 ⟨rfl, hb2⟩)
                  go_ret
                  exact ⟨rfl, below_then HWB.out HWB.out.size hb2⟩
                · have hd1 := ne_list hdd
                  have HDD := Aside0.mk hdd
                  clear hdd
                  have HB0 := Aside0.mk (Below.refl wr.heap.size wr)
                  go_region_held3 (fun w' => w'.cell? (ad.add i) = some (.string ti) ∧ w'.cell? (ad.add j) = some (.string tj) ∧ w'.cell? ⟨3, 15, none⟩ = some (.int .u8 4) ∧ Aside0 (Below wr.heap.size wr w'))
                    (first | exact ⟨HXI.out, HXJ1.out, HG.out, HB0⟩ | exact ⟨HXI.out, HXJ1.out, HG.out, ⟨below_drew HB0.out⟩⟩ | exact HSA.out | exact HSB.out)
                    (first
                    | (go_at_call 17; refine (digest17 tj _ (by have := HXJ.out; omega) ?_).mono ?_; exact Held2.g (w0 := wr) (p := ad.add i) (q := ad.add j) (x := .string ti) (y := .string tj) (by assumption); rintro e wa ⟨rfl, hba⟩; have HSB := Aside0.mk (Held2.step (w0 := wr) (p := ad.add i) (q := ad.add j) (x := .string ti) (y := .string tj) (by assumption) hba); clear hba)
                    | (go_at_call 17; refine (digest17 ti _ (by have := HXS.out; omega) ?_).mono ?_; exact Held2.g (w0 := wr) (p := ad.add i) (q := ad.add j) (x := .string ti) (y := .string tj) (by assumption); rintro e wa ⟨rfl, hba⟩; have HSA := Aside0.mk (Held2.step (w0 := wr) (p := ad.add i) (q := ad.add j) (x := .string ti) (y := .string tj) (by assumption) hba); clear hba))
                  have HWB := Aside0.mk (below_then HB.out HB.out.size HSB.out.2.2.2.out)
                  have HGB := Aside0.mk HSB.out.2.2.1
                  clear HSA HSB HB0 hxi hxj HXI HXJ1 HG
                  go_wp2_with fail
                  go_roundg (i - (j + 1))
                  case measure => have := HGJ.out; omega
                  case rel => exact ⟨j + 1, hjt, by go_num, ⟨Nat.le_refl _⟩, ⟨HCL.out.step fun h => by rw [HTI.out, HTJ.out] at h; exact absurd h HDD.out⟩, HWB⟩
            · go_wp2_with fail
              go_roundg (texts.length - (j + 1))
              case measure => have := HGK.out; omega
              case rel => exact ⟨j + 1, HLT.out, by go_num, ⟨Nat.le_refl _⟩, ⟨HCL.out.row⟩, HB⟩
        · clear hi
          have HNC := Aside0.mk HCL.out.all
          clear HCL HGK
          go_wp2_with fail
          refine (new7 _ 0 (Nat.zero_le _)).mono ?_
          rintro e w2 ⟨rfl, hw2⟩
          obtain ⟨g, hg⟩ : ∃ b, b = wr.heap.size := ⟨_, rfl⟩
          rw [← hg]
          have hs2 : St w2 w.heap.size 52 g (.slice none 0 0) [] := by rw [hw2, hg]; exact St.new wr _ 52 HB.out.size
          have hl2 : Below w.heap.size w w2 := by rw [hw2]; exact below_then HB.out HB.out.size (below_alloc (Below.refl _ _) _)
          have HS2 := Aside0.mk hs2
          have HL2 := Aside0.mk hl2
          have HGW := Aside0.mk (blk_lt hs2.1)
          clear hs2 hl2 hg hw2 HB
          go_wp2_with fail
          refine (new7 _ 0 (Nat.zero_le _)).mono ?_
          rintro e w3 ⟨rfl, hw3⟩
          obtain ⟨g', hg'⟩ : ∃ b, b = w2.heap.size := ⟨_, rfl⟩
          rw [← hg']
          have hba : Below w2.heap.size w2 w3 := by rw [hw3]; exact below_alloc (Below.refl _ _) _
          have P0 : Aside0 (Pair w w3 g (.slice none 0 0) g' (.slice none 0 0) [] []) := by
            refine ⟨⟨below_then HL2.out HL2.out.size hba, HS2.out.below hba, ?_, (fun k hk => nomatch hk), ?_⟩⟩
            · rw [hw3, hg']; exact St.new w2 _ 52 HL2.out.size
            · have := HGW.out; omega
          clear hba hg' hw3 HS2 HL2 HGW
          obtain ⟨k, hk, hlow⟩ := low_f k0 texts.length (by have := HN0.out; omega) (by have := HLEN.out; omega)
          have HLOW := Aside0.mk hlow
          have HK := Aside0.mk hk
          clear hlow
          go_wp2_with fail
          refine (hogsheadlaw0_Low.calls k0 texts.length k _ HLOW.out).mono ?_
          rintro e w4 ⟨rfl, hd4⟩
          have P1 := Aside0.mk (P0.out.below (Drawn0.below' hd4))
          clear hd4 P0
          go_wp2_with fail
          go_loopg [9] texts.length (fun gk v9 wr => ∃ (i : Nat) (sa sb : List ByteArray) (xs ys : List S50) (v v' : Value), i ≤ texts.length ∧ v9 = .int .i64 i ∧ Aside0 (texts.length - i ≤ gk) ∧ Aside0 (Keeps texts sa id i xs) ∧ Aside0 (Keeps texts sb (fun l => (k + l) % texts.length) i ys) ∧ Aside0 (xs.length ≤ i ∧ ys.length ≤ 2 * i) ∧ Aside0 (Pair w wr g v g' v' xs ys))
          case atStart => exact ⟨0, [], [], [], [], _, _, Nat.zero_le _, rfl, ⟨by simp⟩, ⟨Keeps.nil _ _⟩, ⟨Keeps.nil _ _⟩, ⟨by simp⟩, P1⟩
          case round =>
            clear P1
            obtain ⟨i, sa, sb, xs, ys, v, v', hi, rfl, HGK, KA, KB, HXL, P⟩ := hrel
            rcases Nat.lt_or_eq_of_le hi with hlt | rfl
            · obtain ⟨ad, e1, hx0⟩ := Kd.at_string HR0.out i (by omega) (by omega)
              have hxs := HSZ.out i hlt
              rw [rdOf_tx, Int.toNat_natCast] at hx0
              subst e1
              have HX0 := Aside0.mk hx0
              have HXS : Aside0 ((tx texts i).size ≤ 300) := ⟨hxs⟩
              have HLT := Aside0.mk hlt
              have hxi := (P.out.low.cell (World.block_lt_of_cell? w _ hx0)).trans hx0
              clear hx0 hxs
              generalize hti : tx texts i = ti at HX0 HXS hxi
              have HTI := Aside0.mk hti
              clear hti
              go_wp2_with fail
              refine (put8 g v xs ti w.heap.size _ P.out.s KA.out.1.1 (by have := HXL.out.1; have := HLEN.out; omega) (by have := HXS.out; omega) ((P.out.low.cell (p := ⟨3, 15, none⟩) HB3.out).trans HG3.out) HB3.out P.out.low.size).mono ?_
              rintro e wa ⟨rfl, ha⟩
              have hp := KA.out.put HNC.out HLT.out rfl
              rw [HTI.out] at hp
              rw [hp.1]
              have KA2 := Aside0.mk hp.2
              obtain ⟨v1, hP⟩ := P.out.put1 ha
              have P2 := Aside0.mk hP
              have HXA := Aside0.mk (putB_len xs ti)
              clear hp ha hP hxi P
              obtain ⟨m, hm⟩ : ∃ m, m = (k + i) % texts.length := ⟨_, rfl⟩
              have hmlt : m < texts.length := by rw [hm]; exact Nat.mod_lt _ (by omega)
              have HM := Aside0.mk hm
              obtain ⟨ad2, e2, hx2⟩ := Kd.at_string HR0.out m (by omega) (by omega)
              obtain rfl : ad = ad2 := by simpa using e2
              have hxs := HSZ.out m hmlt
              rw [rdOf_tx, Int.toNat_natCast] at hx2
              have HXS2 : Aside0 ((tx texts m).size ≤ 300) := ⟨hxs⟩
              have hxm := (P2.out.low.cell (World.block_lt_of_cell? w _ hx2)).trans hx2
              clear hxs e2 hx2
              generalize htm : tx texts m = tm at HXS2 hxm
              have HTM := Aside0.mk htm
              rw [hm] at hxm
              clear hm
              have HMLT := Aside0.mk hmlt
              clear htm hmlt
              have hidx0 : (0 : Int) ≤ ((k : Int) + (i : Int)) % (texts.length : Int) := Int.emod_nonneg _ (by omega)
              have hidx1 : ((k : Int) + (i : Int)) % (texts.length : Int) < (texts.length : Int) := Int.emod_lt_of_pos _ (by omega)
              go_wp2_with fail
              clear hidx0 hidx1
              refine (put8 g' v' ys tm w.heap.size _ P2.out.r KB.out.1.1 (by have := HXL.out.2; have := HLEN.out; have := HLT.out; omega) (by have := HXS2.out; omega) ((P2.out.low.cell (p := ⟨3, 15, none⟩) HB3.out).trans HG3.out) HB3.out P2.out.low.size).mono ?_
              rintro e wb ⟨rfl, ha⟩
              have hp := KB.out.put HNC.out HMLT.out HM.out
              rw [HTM.out] at hp
              rw [hp.1]
              have KB2 := Aside0.mk hp.2
              obtain ⟨v1', hP⟩ := P2.out.put2 ha
              have P3 := Aside0.mk hP
              have HYA := Aside0.mk (putB_len ys tm)
              generalize (putB ys tm).1 = ys1 at KB2 P3 HYA
              generalize (putB ys tm).2.1 = d1
              clear hp ha hP hxm P2
              obtain ⟨ad2, e2, hx2⟩ := Kd.at_string HR0.out k (by omega) (by omega)
              obtain rfl : ad = ad2 := by simpa using e2
              have hxs := HSZ.out k HK.out
              rw [rdOf_tx, Int.toNat_natCast] at hx2
              have HXS3 : Aside0 ((tx texts k).size ≤ 300) := ⟨hxs⟩
              have hxk := (P3.out.low.cell (World.block_lt_of_cell? w _ hx2)).trans hx2
              clear hxs e2 hx2
              generalize htk : tx texts k = tk at HXS3 hxk
              have HTK := Aside0.mk htk
              clear htk
              go_wp2_with fail
              refine (put8 g' v1' ys1 tk w.heap.size _ P3.out.r KB2.out.1.1 (by have := HYA.out; have := HXL.out.2; have := HLEN.out; have := HLT.out; omega) (by have := HXS3.out; omega) ((P3.out.low.cell (p := ⟨3, 15, none⟩) HB3.out).trans HG3.out) HB3.out P3.out.low.size).mono ?_
              rintro e wc ⟨rfl, ha⟩
              have hp := KB2.out.more HNC.out HK.out
              rw [HTK.out] at hp
              rw [hp.1]
              have KB3 := Aside0.mk hp.2
              obtain ⟨v2', hP⟩ := P3.out.put2 ha
              have P4 := Aside0.mk hP
              have HYB := Aside0.mk (putB_len ys1 tk)
              generalize (putB ys1 tk).1 = ys2 at KB3 P4 HYB
              generalize (putB ys1 tk).2.1 = d2
              clear hp ha hP hxk P3
              go_wp2_with fail
              go_roundg (texts.length - (i + 1))
              case measure => have := HGK.out; omega
              case rel => exact ⟨i + 1, _, _, _, ys2, v1, v2', HLT.out, by go_num, ⟨Nat.le_refl _⟩, KA2, KB3, ⟨by have := HXA.out; have := HXL.out.1; have := HXL.out.2; have := HYA.out; have := HYB.out; omega⟩, P4⟩
            · clear hi
              obtain ⟨i, hi0⟩ : ∃ i, i = texts.length := ⟨_, rfl⟩
              have hall := KB.out.all (round_all HK.out)
              have hab : xs = ys := KA.out.1.eq KB.out.1 fun t => (KA.out.all (fun m hm => ⟨m, hm, rfl⟩) t).trans (hall t).symm
              subst hab
              have HS := Aside0.mk KB.out.1
              have HALL := Aside0.mk hall
              clear hall KA KB HGK hi0
              go_wp2_with fail
              go_loopg [16] texts.length (fun gk v16 wr => ∃ (i : Nat), i ≤ texts.length ∧ v16 = .int .i64 i ∧ Aside0 (texts.length - i ≤ gk) ∧ Aside0 (Pair w wr g v g' v' xs xs))
              case atStart => exact ⟨0, Nat.zero_le _, rfl, ⟨by simp⟩, P⟩
              case round =>
                clear P
                obtain ⟨i, hi, rfl, HGK, P⟩ := hrel
                rcases Nat.lt_or_eq_of_le hi with hlt | rfl
                · obtain ⟨ad, e1, hx0⟩ := Kd.at_string HR0.out i (by omega) (by omega)
                  have hxs := HSZ.out i hlt
                  rw [rdOf_tx, Int.toNat_natCast] at hx0
                  subst e1
                  have HX0 := Aside0.mk hx0
                  have HXB := Aside0.mk (World.block_lt_of_cell? w _ hx0)
                  have HXS : Aside0 ((tx texts i).size ≤ 300) := ⟨hxs⟩
                  have HLT := Aside0.mk hlt
                  have hget : getB xs (dig (tx texts i)) = (tx texts i, true) := HS.out.get ((HALL.out _).2 (tx_mem hlt))
                  have hxi := (P.out.low.cell HXB.out).trans hx0
                  clear hx0 hxs
                  generalize tx texts i = ti at HX0 HXS hxi hget
                  have HGET := Aside0.mk hget
                  clear hget
                  go_wp2_with fail
                  refine (digest17 ti _ (by have := HXS.out; omega) ((P.out.low.cell (p := ⟨3, 15, none⟩) HB3.out).trans HG3.out)).mono ?_
                  rintro e wa ⟨rfl, hba⟩
                  have PA := Aside0.mk (P.out.below hba)
                  clear hba hxi P
                  go_wp2_with fail
                  refine (get10 g' v' xs (dig ti) _ _ PA.out.r HS.out.1 (by have := HXL.out.2; have := HLEN.out; omega)).mono ?_
                  rintro e wb ⟨rfl, hbb⟩
                  rw [HGET.out]
                  have PB := Aside0.mk (PA.out.below hbb)
                  have hxi := (PB.out.low.cell HXB.out).trans HX0.out
                  clear hbb PA
                  go_wp2_with fail
                  go_roundg (texts.length - (i + 1))
                  case measure => have := HGK.out; omega
                  case rel => exact ⟨i + 1, HLT.out, by go_num, ⟨Nat.le_refl _⟩, PB⟩
                · clear hi HGK
                  have HDG : Aside0 (DigB xs) := ⟨fun x hx => by obtain ⟨t, _, rfl⟩ := (HS.out.2 x).1 hx; rfl⟩
                  have HZ : Aside0 (∀ x ∈ xs, x.f1.size ≤ 140737488355328) := ⟨fun x hx => by
                    obtain ⟨t, ht, rfl⟩ := (HS.out.2 x).1 hx
                    obtain ⟨j, hj, e⟩ := List.getElem_of_mem ((HALL.out t).1 ht)
                    have := HSZ.out j hj
                    rw [List.getD_eq_getElem?_getD, List.getElem?_eq_getElem hj] at this
                    have h2 : t.size ≤ 300 := by rw [← e]; exact this
                    exact Nat.le_trans h2 (by decide)⟩
                  have HN : Aside0 (xs.length ≤ 1000) := ⟨by have := HXL.out.1; have := HLEN.out; omega⟩
                  clear HXL HALL
                  go_wp2_with fail
                  refine (list12 g' v' xs _ _ P.out.r (by have := HN.out; omega)).mono ?_
                  rintro e wa ⟨v151, rfl, ho, hba⟩
                  have PA := Aside0.mk (P.out.below hba)
                  obtain ⟨A1, c1, rfl, hc1, hr1⟩ := ho.reads
                  have HR1' := Aside0.mk hr1
                  have HC1 := Aside0.mk hc1
                  clear ho hba P hc1 hr1
                  go_wp2_with fail
                  refine (load_all A1 c1 xs _ HR1'.out HS.out.1 HDG.out HZ.out HN.out ((PA.out.low.cell (p := ⟨3, 15, none⟩) HB3.out).trans HG3.out)).mono ?_
                  rintro e wb ⟨gc, vc, rfl, hsc, hbb⟩
                  have PB := Aside0.mk (PA.out.below hbb)
                  have HSC := Aside0.mk hsc
                  clear hbb hsc PA HR1' HC1
                  go_wp2_with fail
                  refine (list12 g v xs _ _ PB.out.s (by have := HN.out; omega)).mono ?_
                  rintro e wc ⟨u11, rfl, ho, hb⟩
                  obtain ⟨A11, c11, rfl, hc11, hr11⟩ := ho.reads
                  have HR11 := Aside0.mk hr11
                  have HC11 := Aside0.mk hc11
                  replace PB := Aside0.mk (PB.out.below hb)
                  replace HSC := Aside0.mk (HSC.out.below hb)
                  clear ho hb hr11 hc11
                  go_wp2_with fail
                  refine (list12 g' v' xs _ _ PB.out.r (by have := HN.out; omega)).mono ?_
                  rintro e wd ⟨u12, rfl, ho, hb⟩
                  obtain ⟨A12, c12, rfl, hc12, hr12⟩ := ho.reads
                  have HR12 := Aside0.mk hr12
                  have HC12 := Aside0.mk hc12
                  replace HR11 := Aside0.mk (Kd.C_below HR11.out hb)
                  replace PB := Aside0.mk (PB.out.below hb)
                  replace HSC := Aside0.mk (HSC.out.below hb)
                  clear ho hb hr12 hc12
                  go_wp2_with fail
                  refine (hogsheadlaw0_SameBlobs.calls (xs.length + 1) A11 c11 xs A12 c12 xs true _ HR11.out HC11.out HR12.out HC12.out (same_f xs (by have := HN.out; omega))).mono ?_
                  rintro e we ⟨rfl, hd⟩
                  have hb := Drawn0.below' hd
                  replace PB := Aside0.mk (PB.out.below hb)
                  replace HSC := Aside0.mk (HSC.out.below hb)
                  clear hd hb HR11 HR12 HC11 HC12
                  go_wp2_with fail
                  refine (len14 g v xs _ _ PB.out.s).mono ?_
                  rintro e w' ⟨rfl, rfl⟩
                  go_wp2_with fail
                  refine (list12 g v xs _ _ PB.out.s (by have := HN.out; omega)).mono ?_
                  rintro e wf ⟨u13, rfl, ho, hb⟩
                  obtain ⟨A13, c13, rfl, hc13, hr13⟩ := ho.reads
                  have HR13 := Aside0.mk hr13
                  have HC13 := Aside0.mk hc13
                  replace PB := Aside0.mk (PB.out.below hb)
                  replace HSC := Aside0.mk (HSC.out.below hb)
                  clear ho hb hr13 hc13
                  go_wp2_with fail
                  refine (list12 gc vc xs _ _ HSC.out (by have := HN.out; omega)).mono ?_
                  rintro e wg ⟨u14, rfl, ho, hb⟩
                  obtain ⟨A14, c14, rfl, hc14, hr14⟩ := ho.reads
                  have HR14 := Aside0.mk hr14
                  have HC14 := Aside0.mk hc14
                  replace PB := Aside0.mk (PB.out.below hb)
                  clear ho hb hr14 hc14
                  go_wp2_with fail
                  refine (list12 g v xs _ _ PB.out.s (by have := HN.out; omega)).mono ?_
                  rintro e wh ⟨u15, rfl, ho, hb⟩
                  obtain ⟨A15, c15, rfl, hc15, hr15⟩ := ho.reads
                  have HR15 := Aside0.mk hr15
                  have HC15 := Aside0.mk hc15
                  replace HR14 := Aside0.mk (Kd.C_below HR14.out hb)
                  replace PB := Aside0.mk (PB.out.below hb)
                  clear ho hb hr15 hc15
                  go_wp2_with fail
                  refine (hogsheadlaw0_SameBlobs.calls (xs.length + 1) A14 c14 xs A15 c15 xs true _ HR14.out HC14.out HR15.out HC15.out (same_f xs (by have := HN.out; omega))).mono ?_
                  rintro e wi ⟨rfl, hd⟩
                  have hb := Drawn0.below' hd
                  replace PB := Aside0.mk (PB.out.below hb)
                  clear hd hb HR14 HR15 HC14 HC15
                  go_wp2_with fail
                  refine (awake6 _ ((PB.out.low.cell (p := ⟨3, 15, none⟩) HB3.out).trans HG3.out)).mono ?_
                  rintro e wj ⟨rfl, hb⟩
                  replace PB := Aside0.mk (PB.out.below hb)
                  go_wp2_with fail
                  go_ret
                  exact ⟨rfl, PB.out.low⟩
end Go.Proofs.YtpibjjhfckopaaaDoor
