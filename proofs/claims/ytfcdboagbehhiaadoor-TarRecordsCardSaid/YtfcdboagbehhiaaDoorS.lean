import Derived.Test.YtfcdboagbehhiaaDoorR0
namespace Go.Proofs.YtfcdboagbehhiaaDoor
open Go.RowKit Go.Proofs.YtfcdboagbehhiaaDoorW.PrintWords Go.Proofs.YtfcdboagbehhiaaDoorW.PrintLast Go.Proofs.YtfcdboagbehhiaaDoorW.PrintMore Go.Proofs.YtfcdboagbehhiaaDoor.PTarWhole
set_option linter.unusedVariables false
set_option linter.unusedSimpArgs false

/-! ## TarRecords -/
theorem dig_at {u i : Nat} (hi : i < dD u) : (decB u).data.toList[i]? = some (UInt8.ofNat (48 + u / 10 ^ (dD u - 1 - i) % 10)) := by
  show (Lib.decDigits u)[i]? = _
  rw [Lib.decDigits_eq]
  unfold dD at *
  simp [hi, Lib.dg]
structure RecF (s rest : ByteArray) (N d : Nat) : Prop where
  size : s.size = N
  d0 : 1 ≤ d
  d4 : d ≤ 4
  lt : d < N
  up : N < 10 ^ d
  low : 10 ^ (d - 1) ≤ N
  digit : ∀ i, i < d → s.data.toList[i]? = some (UInt8.ofNat (48 + N / 10 ^ (d - 1 - i) % 10))
  blank : s.data.toList[d]? = some 32
  tail : s.extract d s.size = rest
theorem rec_facts (key value : ByteArray) (hk : key.size ≤ 200) (hv : value.size ≤ 1000) : RecF (recB key value) (restB key value) (recN (restB key value).size) (dD (recN (restB key value).size)) := by
  have hr := restB_size key value
  have hf := recN_fix (r := (restB key value).size) (by omega)
  have hl := recN_le (restB key value).size (by omega)
  have hsz := recB_size key value (by omega)
  have hsp := dD_spec (recN (restB key value).size) (by omega)
  have hdl : (recB key value).data.toList = (decB (recN (restB key value).size)).data.toList ++ (restB key value).data.toList := by
    unfold recB
    rw [ByteArray.data_append, Array.toList_append]
  have hds := decB_size (recN (restB key value).size)
  refine ⟨hsz, by omega, by omega, by omega, ?_, ?_, fun i hi => ?_, ?_, ?_⟩
  · rcases hsp with ⟨h1, h2⟩ | ⟨h1, h2, h3⟩ | ⟨h1, h2, h3⟩ | ⟨h1, h2, h3⟩ | ⟨h1, h2, h3⟩ | ⟨h1, h2, h3⟩ <;> first | (rw [h3]; omega) | (rw [h2]; omega)
  · rcases hsp with ⟨h1, h2⟩ | ⟨h1, h2, h3⟩ | ⟨h1, h2, h3⟩ | ⟨h1, h2, h3⟩ | ⟨h1, h2, h3⟩ | ⟨h1, h2, h3⟩ <;> first | (rw [h3]; omega) | (rw [h2]; omega)
  · rw [hdl, List.getElem?_append_left (by rw [size_data, hds]; exact hi)]
    exact dig_at hi
  · rw [hdl, List.getElem?_append_right (by rw [size_data, hds]; exact Nat.le_refl _), size_data, hds, Nat.sub_self]
    unfold restB
    simp only [ByteArray.data_append, Array.toList_append]
    rfl
  · apply ByteArray.ext
    apply Array.toList_inj.1
    rw [ByteArray.data_extract, Array.toList_extract, hdl, hsz]
    have e1 : (decB (recN (restB key value).size)).data.toList.length = dD (recN (restB key value).size) := by rw [size_data, hds]
    rw [List.extract_eq_take_drop, List.drop_left' e1, List.take_of_length_le (by rw [size_data]; omega)]
theorem getElem_list {s : ByteArray} {i : Nat} {c : UInt8} (h : i < s.size) (e : s.data.toList[i]? = some c) : s[i] = c := by
  have : s.data.toList[i]? = some (s[i]) := by
    rw [List.getElem?_eq_getElem (by rw [size_data]; exact h)]
    rfl
  rw [this] at e
  injection e
set_option maxHeartbeats 4000000 in
set_option maxRecDepth 100000 in
theorem law3 (key value : ByteArray) (w : World) (hE : Env w) : Calls Tryd.prog 3 #[.string key, .string value] w fun e w' => e = .returned (.bool true) ∧ Below w.heap.size w w' := by
  have HE := Aside0.mk hE
  clear hE
  by_cases hs : 200 < key.size
  · have hk1 : decide (200 < (key.size : Int)) = true := decide_eq_true (by omega)
    clear hs
    go_enter Tryd.func3, Tryd.ntmps3
    go_wp2_with (go_at_call 6; refine (awake6 _ HE.out).mono ?_; rintro e w2 ⟨rfl, hb2⟩)
    go_ret
    exact ⟨rfl, hb2⟩
  by_cases hs2 : 1000 < value.size
  · have hk1 : decide (200 < (key.size : Int)) = false := decide_eq_false (by omega)
    have hv1 : decide (1000 < (value.size : Int)) = true := decide_eq_true (by omega)
    clear hs hs2
    go_enter Tryd.func3, Tryd.ntmps3
    go_wp2_with (go_at_call 6; refine (awake6 _ HE.out).mono ?_; rintro e w2 ⟨rfl, hb2⟩)
    go_ret
    exact ⟨rfl, hb2⟩
  · have hk : (key.size : Int) ≤ 200 := by omega
    have hv : (value.size : Int) ≤ 1000 := by omega
    have hk1 : decide (200 < (key.size : Int)) = false := decide_eq_false (by omega)
    have hv1 : decide (1000 < (value.size : Int)) = false := decide_eq_false (by omega)
    clear hs hs2
    go_enter Tryd.func3, Tryd.ntmps3
    go_wp2_with fail
    refine (record7 key value w HE.out (by omega) (by omega)).mono ?_
    rintro e w1 ⟨rfl, hb⟩
    have HB := Aside0.mk hb
    have HF := Aside0.mk (rec_facts key value (by omega) (by omega))
    generalize recB key value = s at HF ⊢
    generalize dD (recN (restB key value).size) = d at HF ⊢
    generalize recN (restB key value).size = N at HF ⊢
    have hd0 := HF.out.d0
    have hd4 := HF.out.d4
    have hdN := HF.out.lt
    have hsz := HF.out.size
    have HUP : Aside0 (N < 10000) := ⟨Nat.lt_of_lt_of_le HF.out.up (Nat.le_trans (Nat.pow_le_pow_right (by decide) hd4) (by decide))⟩
    clear hb
    go_wp2_with fail
    go_loopg [6, 7] 10 (fun gk v6 v7 wr => ∃ i : Nat, i ≤ d ∧ v7 = .int .i64 i ∧ v6 = .int .i64 (N / 10 ^ (d - i) : Nat) ∧ Aside0 (10 - i ≤ gk) ∧ w1 = wr)
    case atStart => exact ⟨0, Nat.zero_le _, rfl, by rw [Nat.sub_zero, Nat.div_eq_of_lt HF.out.up]; rfl, ⟨by simp⟩, rfl⟩
    case round =>
      obtain ⟨i, hi, rfl, rfl, HGK, rfl⟩ := hrel
      have hlt : i < s.size := by omega
      have hi6 : (i : Int) < 6 := by omega
      rcases Nat.lt_or_eq_of_le hi with hid | rfl
      · obtain ⟨M, hM⟩ : ∃ M, M = N / 10 ^ (d - 1 - i) := ⟨_, rfl⟩
        have hM10 : N / 10 ^ (d - i) = M / 10 := by
          rw [hM, Nat.div_div_eq_div_mul, ← Nat.pow_succ, show (d - 1 - i).succ = d - i by omega]
        have hnext : N / 10 ^ (d - (i + 1)) = M := by rw [hM, show d - (i + 1) = d - 1 - i by omega]
        have hMlt : M < 10000 := by rw [hM]; exact Nat.lt_of_le_of_lt (Nat.div_le_self _ _) HUP.out
        have hc := getElem_list hlt (HF.out.digit i hid)
        rw [← hM] at hc
        have hcn : (UInt8.ofNat (48 + M % 10)).toNat = 48 + M % 10 := by
          rw [UInt8.toNat_ofNat']
          omega
        generalize UInt8.ofNat (48 + M % 10) = c at hc hcn
        have hc0 : (48 : Int) ≤ (c.toNat : Int) := by omega
        have hc9 : (c.toNat : Int) ≤ 57 := by omega
        have HCN := Aside0.mk hcn
        have HNX := Aside0.mk hnext
        rw [hM10]
        have hm0 : (0 : Int) ≤ ((M / 10 : Nat) : Int) := by omega
        have hm1 : ((M / 10 : Nat) : Int) ≤ 1000 := by omega
        clear hM hM10 hnext hcn
        go_wp2_with fail
        go_roundg (10 - (i + 1))
        case measure => have := HGK.out; omega
        case rel => exact ⟨i + 1, by omega, by go_num, congrArg (Value.int .i64) (by rw [HNX.out]; have := HCN.out; omega), ⟨Nat.le_refl _⟩, rfl⟩
      · have e0 : N / 10 ^ (i - i) = N := by simp
        rw [e0]
        have hc := getElem_list hlt HF.out.blank
        obtain ⟨c, hcq⟩ : ∃ c : UInt8, c = 32 := ⟨_, rfl⟩
        rw [← hcq] at hc
        have hc48 : (c.toNat : Int) < 48 := by rw [hcq]; decide
        have hlt0 : 0 < s.size := by omega
        have hz := getElem_list hlt0 (HF.out.digit 0 (by omega))
        have hlow := HF.out.low
        have hup := HF.out.up
        have hq1 : N / 10 ^ (i - 1 - 0) < 10 := Nat.div_lt_of_lt_mul (by rw [Nat.sub_zero, ← Nat.pow_succ, show (i - 1).succ = i by omega]; exact hup)
        have hq0 : 1 ≤ N / 10 ^ (i - 1 - 0) := (Nat.one_le_div_iff (Nat.pow_pos (by decide))).2 hlow
        have hcn : (UInt8.ofNat (48 + N / 10 ^ (i - 1 - 0) % 10)).toNat = 48 + N / 10 ^ (i - 1 - 0) % 10 := by
          rw [UInt8.toNat_ofNat']
          omega
        generalize UInt8.ofNat (48 + N / 10 ^ (i - 1 - 0) % 10) = cz at hz hcn
        have hcz : ((cz.toNat : Int) == 48) = false := by simp; omega
        have hcz2 : ((cz.toNat : Int) != 48) = true := by simp; omega
        have htail := HF.out.tail
        rw [hsz] at htail
        have hteq : ((s.extract i N).toList == (⟨#[32]⟩ ++ key ++ ⟨#[61]⟩ ++ value ++ ⟨#[10]⟩ : ByteArray).toList) = true := by rw [htail]; unfold restB; simp
        have hi0 : 0 < i := by omega
        clear e0 hcq hlow hup hq1 hq0 hcn htail
        go_wp2_with (go_at_call 6; refine (awake6 _ (HE.out.below HB.out)).mono ?_; rintro e w2 ⟨rfl, hb2⟩)
        go_ret
        exact ⟨rfl, below_then HB.out HB.out.size hb2⟩
end Go.Proofs.YtfcdboagbehhiaaDoor
