import Derived.Test.YtfcdboagbehhiaaDoorM
namespace Go.Proofs.YtfcdboagbehhiaaDoor
open Go.RowKit Go.Proofs.YtfcdboagbehhiaaDoorW.PrintWords Go.Proofs.YtfcdboagbehhiaaDoorW.PrintLast Go.Proofs.YtfcdboagbehhiaaDoorW.PrintMore Go.Proofs.YtfcdboagbehhiaaDoor.PTarWhole
open Go.Lib (byteCells)
set_option linter.unusedVariables false
set_option linter.unusedSimpArgs false

/-! ## tar.laid, tar.Lay, tar.Entries -/
def laidL (t : List S29) : List UInt8 := t.flatMap nodeL
def laidH (t : List S29) : Nat := (t.map nodeH).sum
theorem may_good {t : List S29} (h : mayT t = true) {i : Nat} (hi : i < t.length) : goodB (nd t i) = true := by
  unfold mayT at h
  simp only [Bool.and_eq_true] at h
  have := List.all_eq_true.1 h.2.2 i (List.mem_range.2 hi)
  unfold okAt at this
  rw [Bool.and_eq_true] at this
  exact this.1
theorem nodeL_le {x : S29} (h : goodB x = true) : (nodeL x).length ≤ 6000 := by
  have hg := good_spec h
  have h1 := extraB_le x (by have := hg.size0; omega) (by have := hg.size2; omega)
  have hc := cut_size (nameB x.f0)
  have hc2 := cut_size x.f2
  have h2 := hg.size2
  unfold nodeL nodeE nodeM
  rw [List.length_append]
  have e1 := entry_le (name := paxB) (link := nilB) (data := extraB x) (kind := 5) (by decide) (by decide)
  have e2 := entry_le (name := cutB (nameB x.f0)) (link := cutB x.f2) (data := nilB) (kind := x.f1) (by omega) (by omega)
  have e3 := entry_le (name := cutB (nameB x.f0)) (link := nilB) (data := x.f2) (kind := x.f1) (by omega) (by decide)
  have : nilB.size = 0 := rfl
  split <;> split <;> (try simp only [List.length_nil]) <;> omega
theorem laidL_snoc {t : List S29} {i : Nat} (h : i < t.length) : laidL (t.take (i + 1)) = laidL (t.take i) ++ nodeL (nd t i) := by
  unfold laidL
  rw [take_nd h, List.flatMap_append]
  simp
theorem laidH_snoc {t : List S29} {i : Nat} (h : i < t.length) : laidH (t.take (i + 1)) = laidH (t.take i) + nodeH (nd t i) := by
  unfold laidH
  rw [take_nd h, List.map_append, List.sum_append]
  simp
theorem laidL_le {t : List S29} (h : mayT t = true) : ∀ i, i ≤ t.length → (laidL (t.take i)).length ≤ 6000 * i
  | 0, _ => by simp [laidL]
  | i + 1, hi => by
    rw [laidL_snoc (by omega), List.length_append]
    have := laidL_le h i (by omega)
    have := nodeL_le (may_good h (show i < t.length by omega))
    omega
theorem laidH_le {t : List S29} : ∀ i, i ≤ t.length → laidH (t.take i) ≤ 2 * i
  | 0, _ => by simp [laidH]
  | i + 1, hi => by
    rw [laidH_snoc (by omega)]
    have := laidH_le (t := t) i (by omega)
    have : nodeH (nd t i) ≤ 2 := by unfold nodeH; split <;> omega
    omega
theorem Wr.below {base : Nat} {w w' : World} {g : Nat} {n : Int} {bs : List UInt8} (h : Wr base w g n bs) (hb : Below w.heap.size w w') : Wr base w' g n bs := by
  obtain ⟨v, hv⟩ := h
  exact ⟨v, hv.below hb⟩
theorem own_base {base base' n : Nat} {w : World} {v : Value} {xs : List Value} (h : w.ownsRow base 5 1 v n xs) (hb : base' ≤ base) : w.ownsRow base' 5 1 v n xs := by
  obtain ⟨hl, h | ⟨g, cap, cur, h1, h2, h3⟩⟩ := h
  · exact ⟨hl, .inl h⟩
  · exact ⟨hl, .inr ⟨g, cap, cur, h1, by omega, h3⟩⟩
set_option maxHeartbeats 2000000 in
set_option maxRecDepth 100000 in
theorem laid15 (A : Option Addr) (c : Nat) (t : List S29) (w : World) (hE : Env w) (hn : t.length ≤ 400) (hr : Kd.C k29 w A t.length t) (hm : mayT t = true) :
    Calls Tryd.prog 15 #[.slice A t.length c] w fun e w' => ∃ g, e = .returned (.pointer (some ⟨g, 0, none⟩)) ∧ Wr w.heap.size w' g (laidH t) (laidL t) ∧ Below w.heap.size w w' := by
  have HE := Aside0.mk hE
  have HR := Aside0.mk hr
  have HM := Aside0.mk hm
  clear hE hr hm
  go_enter Tryd.func15, Tryd.ntmps15
  go_wp2_with fail
  obtain ⟨g, hg⟩ : ∃ g, g = w.heap.size := ⟨_, rfl⟩
  have hba : Below w.heap.size w (w.alloc (.cells #[.slice none 0 0, .int .i64 0] 39)) := below_alloc (Below.refl _ _) _
  have hn0 := blk_new w (.cells #[.slice none 0 0, .int .i64 0] 39)
  have W0 : Aside0 (Wr w.heap.size (w.alloc (.cells #[.slice none 0 0, .int .i64 0] 39)) g 0 []) := ⟨⟨.slice none 0 0, by rw [hg]; exact hn0, by omega, World.ownsRow_nil _ _ _ _⟩⟩
  have B0 := Aside0.mk hba
  rw [← hg]
  have HG := Aside0.mk hg
  generalize w.alloc (.cells #[.slice none 0 0, .int .i64 0] 39) = w1 at W0 B0 ⊢
  clear hba hn0 hg
  go_loopg [13] t.length (fun gk v13 wr => ∃ i : Nat, i ≤ t.length ∧ v13 = .int .i64 i ∧ Aside0 (t.length - i ≤ gk) ∧ Aside0 (Wr w.heap.size wr g (laidH (t.take i)) (laidL (t.take i))) ∧ Aside0 (Below w.heap.size w wr))
  case atStart => exact ⟨0, Nat.zero_le _, rfl, ⟨by simp⟩, ⟨by simpa [laidH, laidL] using W0.out⟩, B0⟩
  case round =>
    clear W0 B0
    obtain ⟨i, hi, rfl, HGK, HW, HB⟩ := hrel
    rcases Nat.lt_or_eq_of_le hi with hlt | rfl
    · obtain ⟨ad, rfl, hx0, hx1, hx2⟩ := at_T29 (Kd.C_below HR.out HB.out) i (by omega) (by omega)
      rw [rd_nd, Int.toNat_natCast] at hx0 hx1 hx2
      have HGD := Aside0.mk (may_good HM.out hlt)
      have HSL := Aside0.mk (laidL_snoc hlt)
      have HSH := Aside0.mk (laidH_snoc hlt)
      have HLL := Aside0.mk (laidL_le HM.out i hi)
      have HLH := Aside0.mk (laidH_le (t := t) i hi)
      generalize nd t i = x at hx0 hx1 hx2 HGD HSL HSH
      have HLT := Aside0.mk hlt
      go_wp2_with fail
      clear hx0 hx1 hx2
      have hba : Below wr.heap.size wr (wr.alloc (.cells #[.string x.f0, .int .i64 x.f1, .string x.f2] 29)) := below_alloc (Below.refl _ _) _
      have HW2 := Aside0.mk (HW.out.below hba)
      have HB2 := Aside0.mk (below_then HB.out HB.out.size hba)
      clear hba HW HB
      refine (node23 w.heap.size g (laidH (t.take i)) (laidL (t.take i)) x _ (HE.out.below HB2.out) HW2.out HE.out.hi HB2.out.size HGD.out (by have := HLL.out; omega) (by omega) (by have := HLH.out; omega)).mono ?_
      rintro e w3 ⟨rfl, hw, hb, _⟩
      have HW3 := Aside0.mk hw
      have HB3 := Aside0.mk (HB2.out.trans hb)
      clear hw hb HW2 HB2
      go_wp2_with fail
      go_roundg (t.length - (i + 1))
      case measure => have := HGK.out; omega
      case rel => exact ⟨i + 1, HLT.out, by go_num, ⟨Nat.le_refl _⟩, ⟨by rw [HSL.out, HSH.out]; simpa using HW3.out⟩, HB3⟩
    · go_wp2
      go_ret
      refine ⟨g, rfl, ?_, HB.out⟩
      have := HW.out
      rwa [List.take_length] at this
theorem lay_app {base g : Nat} {w : World} {n : Int} {bs : List UInt8} (h : Wr base w g n bs) : ∃ A c, w.cell? ⟨g, 0, none⟩ = some (.slice A bs.length c) ∧ w.cell? ⟨g, 1, none⟩ = some (.int .i64 n) ∧ w.ownsRow base 5 1 (.slice A bs.length c) bs.length (byteCells bs) := by
  obtain ⟨v, h1, h2, h3⟩ := h
  obtain ⟨A, c, rfl⟩ := own_slice h3
  exact ⟨A, c, by rw [blk_cell h1]; rfl, by rw [blk_cell h1]; rfl, h3⟩
def layL (t : List S29) : List UInt8 := laidL t ++ List.replicate 1024 0
set_option maxHeartbeats 1000000 in
set_option maxRecDepth 100000 in
theorem lay10 (A : Option Addr) (c : Nat) (t : List S29) (w : World) (hE : Env w) (hn : t.length ≤ 400) (hc : t.length ≤ c) (hr : Kd.C k29 w A t.length t) (hs : ∀ i, i < t.length → (nd t i).f0.size ≤ 1000) (hm : mayT t = true) :
    Calls Tryd.prog 10 #[.slice A t.length c] w fun e w' => ∃ A' c', e = .returned (.tuple #[.slice A' (layL t).length c', .int .i64 0]) ∧ w'.ownsRow w.heap.size 5 1 (.slice A' (layL t).length c') (layL t).length (byteCells (layL t)) ∧ Below w.heap.size w w' := by
  obtain ⟨i0, hi, hz0, hz1, hz2⟩ := info_parts info5
  have HI := Aside0.mk hi
  have HZ0 := Aside0.mk hz0
  have HZ1 := Aside0.mk hz1
  have HZ2 := Aside0.mk hz2
  have HE := Aside0.mk hE
  have HR := Aside0.mk hr
  have HM := Aside0.mk hm
  have HS := Aside0.mk hs
  have HC := Aside0.mk hc
  have hll := laidL_le hm t.length (Nat.le_refl _)
  rw [List.take_length] at hll
  clear hE hr hm hs hc hi hz0 hz1 hz2
  go_enter Tryd.func10, Tryd.ntmps10
  go_wp2_with fail
  refine (may9 A c t _ HE.out hn HC.out HR.out HS.out).mono ?_
  rintro e w1 ⟨rfl, hb⟩
  rw [HM.out]
  have HB1 := Aside0.mk hb
  clear hb
  go_wp2_with fail
  refine (laid15 A c t _ (HE.out.below HB1.out) hn (Kd.C_below HR.out HB1.out) HM.out).mono ?_
  rintro e w2 ⟨g, rfl, hw, hb⟩
  obtain ⟨A2, c2, hc0, hc1, ho⟩ := lay_app hw
  have HO := Aside0.mk ho
  have HB2 := Aside0.mk (below_then HB1.out HB1.out.size hb)
  have HB2' := Aside0.mk hb
  clear hw hb ho
  go_wp2_with (at_builtin; refine stopHere ?_)
  refine ⟨?_⟩
  refine wpList_append_ex rfl (.tmp 11) (.const (.int .i64 1024)) 30 3 rfl (.slice A2 (laidL t).length c2) (.int .i64 1024) rfl rfl _ (fun ty => run_append_zeros w2 w1.heap.size 30 3 ty 5 i0 (.int .u8 0) 1 1 Tryd.underlying30 Tryd.underlying3 HI.out HZ0.out HZ1.out HZ2.out rfl (by decide) (by decide) (.slice A2 (laidL t).length c2) (laidL t).length (byteCells (laidL t)) HO.out .i64 1024 (zeros_one 1024) (by omega) HB2'.out.size) ?_
  rintro v3 w4 ⟨ho3, hg3, _⟩
  have hln : (laidL t).length + 1024 = (layL t).length := by unfold layL; rw [List.length_append, List.length_replicate]
  have hby : byteCells (laidL t) ++ byteCells (List.replicate 1024 0) = byteCells (layL t) := by unfold layL; rw [byteCells_append]
  rw [zeros_cells, hby, hln] at ho3
  obtain ⟨A3, c3, rfl⟩ := own_slice ho3
  have HB4 := Aside0.mk (HB2.out.trans ((grown_low HO.out hg3 HB2'.out.size).mono HB1.out.size))
  have HO3 := Aside0.mk ho3
  clear ho3 hg3 hc0 hc1 hln hby
  go_wp2_with fail
  go_ret2
  exact ⟨A3, c3, rfl, own_base HO3.out HB1.out.size, HB4.out⟩
end Go.Proofs.YtfcdboagbehhiaaDoor
