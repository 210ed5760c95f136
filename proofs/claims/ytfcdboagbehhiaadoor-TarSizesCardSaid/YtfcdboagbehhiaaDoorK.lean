import Derived.Test.YtfcdboagbehhiaaDoorD
namespace Go.Proofs.YtfcdboagbehhiaaDoor
open Go.RowKit Go.Proofs.YtfcdboagbehhiaaDoorW.PrintWords Go.Proofs.YtfcdboagbehhiaaDoorW.PrintLast Go.Proofs.YtfcdboagbehhiaaDoorW.PrintMore Go.Proofs.YtfcdboagbehhiaaDoor.PTarWhole
set_option linter.unusedVariables false
set_option linter.unusedSimpArgs false

/-! ## tar.Record -/
def decB (n : Nat) : ByteArray := ⟨(Lib.decDigits n).toArray⟩
def dD (n : Nat) : Nat := Lib.nDigits n
theorem decB_size (n : Nat) : (decB n).size = dD n := Lib.decDigits_length n
theorem dD_spec (n : Nat) (h : n < 1000000) : (n < 10 ∧ dD n = 1) ∨ (10 ≤ n ∧ n < 100 ∧ dD n = 2) ∨ (100 ≤ n ∧ n < 1000 ∧ dD n = 3) ∨ (1000 ≤ n ∧ n < 10000 ∧ dD n = 4) ∨ (10000 ≤ n ∧ n < 100000 ∧ dD n = 5) ∨ (100000 ≤ n ∧ n < 1000000 ∧ dD n = 6) := by
  have step : ∀ m, (m < 10 ∧ dD m = 1) ∨ (10 ≤ m ∧ dD m = dD (m / 10) + 1) := fun m => by
    unfold dD
    by_cases h : m < 10
    · exact .inl ⟨h, by rw [Lib.nDigits, dif_pos h]⟩
    · exact .inr ⟨by omega, by rw [Lib.nDigits, dif_neg h]⟩
  have s1 := step n
  have s2 := step (n / 10)
  have s3 := step (n / 10 / 10)
  have s4 := step (n / 10 / 10 / 10)
  have s5 := step (n / 10 / 10 / 10 / 10)
  have s6 := step (n / 10 / 10 / 10 / 10 / 10)
  generalize dD n = d1 at *
  generalize dD (n / 10) = d2 at *
  generalize dD (n / 10 / 10) = d3 at *
  generalize dD (n / 10 / 10 / 10) = d4 at *
  generalize dD (n / 10 / 10 / 10 / 10) = d5 at *
  generalize dD (n / 10 / 10 / 10 / 10 / 10) = d6 at *
  omega
/-- so many bytes has a record whose rest has r -/
def recN (r : Nat) : Nat := r + dD (r + dD r)
theorem recN_fix {r : Nat} (h : r < 900000) : recN r = r + dD (recN r) := by
  unfold recN
  have h1 := dD_spec r (by omega)
  have h2 := dD_spec (r + dD r) (by omega)
  have h3 := dD_spec (r + dD (r + dD r)) (by omega)
  omega
theorem recN_uniq {r n : Nat} (h : r < 900000) (hn : n = r ∨ n = r + dD r ∨ n = recN r) (he : dD n + r = n) : n = recN r := by
  have h1 := dD_spec r (by omega)
  have h2 := dD_spec (r + dD r) (by omega)
  unfold recN at *
  rcases hn with rfl | rfl | rfl <;> omega
theorem rec_step {r n : Nat} (h : r < 900000) (hn : n = r ∨ n = r + dD r ∨ n = recN r) (he : ¬ dD n + r = n) : (dD n + r = r + dD r ∨ dD n + r = recN r) ∧ n < recN r ∧ recN r - (dD n + r) < recN r - n := by
  have h1 := dD_spec r (by omega)
  have h2 := dD_spec (r + dD r) (by omega)
  have h3 := recN_fix h
  unfold recN at *
  rcases hn with rfl | rfl | rfl <;> omega
theorem grow_below (w : World) (k : Nat) (os : Array Obj) : Below w.heap.size w (Go.Sort.grow (w.drewN k) os) := by
  have h := pw_below_drewN (Below.refl w.heap.size w) k
  refine ⟨h.os, h.tape, h.output, ?_, fun i hi => ?_⟩
  · show w.heap.size ≤ ((w.drewN k).heap ++ os).size
    rw [Array.size_append]
    have := h.size
    omega
  · show ((w.drewN k).heap ++ os)[i]? = _
    rw [Array.getElem?_append_left (by have := h.size; omega)]
    exact h.block i hi
theorem itoa13 (n : Nat) (hn : n ≤ 9223372036854775807) (w : World) (hE : Env w) : Calls Tryd.prog 13 #[.int .i64 n] w fun e w' => e = .returned (.string (decB n)) ∧ Below w.heap.size w w' := by
  refine (Tryd.strconv_Itoa n (by omega) (by omega) w hE.tab).mono ?_
  rintro e w' ⟨rfl, k, os, rfl⟩
  rw [Lib.itoa_nonneg]
  exact ⟨rfl, grow_below w k os⟩
def restB (key value : ByteArray) : ByteArray := ⟨#[32]⟩ ++ key ++ ⟨#[61]⟩ ++ value ++ ⟨#[10]⟩
theorem restB_size (key value : ByteArray) : (restB key value).size = key.size + value.size + 3 := by
  unfold restB
  simp only [ByteArray.size_append]
  have h1 : (⟨#[32]⟩ : ByteArray).size = 1 := rfl
  have h2 : (⟨#[61]⟩ : ByteArray).size = 1 := rfl
  have h3 : (⟨#[10]⟩ : ByteArray).size = 1 := rfl
  omega
def recB (key value : ByteArray) : ByteArray := decB (recN (restB key value).size) ++ restB key value
set_option maxHeartbeats 1000000 in
set_option maxRecDepth 100000 in
theorem record7 (key value : ByteArray) (w : World) (hE : Env w) (hk : key.size ≤ 10000) (hv : value.size ≤ 100000) :
    Calls Tryd.prog 7 #[.string key, .string value] w fun e w' => e = .returned (.string (recB key value)) ∧ Below w.heap.size w w' := by
  have hr := restB_size key value
  have HE := Aside0.mk hE
  clear hE
  go_enter Tryd.func7, Tryd.ntmps7
  go_wp2_with fail
  rw [show (⟨#[32]⟩ ++ key ++ ⟨#[61]⟩ ++ value ++ ⟨#[10]⟩ : ByteArray) = restB key value from rfl]
  generalize hR : restB key value = R at hr
  have HR := Aside0.mk hR
  clear hR
  have hr9 : R.size < 900000 := by omega
  go_loopg [6] (recN R.size) (fun gk v6 wr => ∃ n : Nat, (n = R.size ∨ n = R.size + dD R.size ∨ n = recN R.size) ∧ v6 = .int .i64 n ∧ Aside0 (recN R.size - n ≤ gk) ∧ Aside0 (Below w.heap.size w wr))
  case atStart => exact ⟨R.size, .inl rfl, by go_num, ⟨by omega⟩, ⟨Below.refl _ _⟩⟩
  case round =>
    obtain ⟨n, hn, rfl, HGK, HB⟩ := hrel
    have HN := Aside0.mk hn
    have hn6 : n < 1000000 := by
      have h1 := dD_spec R.size (by omega)
      have h2 := dD_spec (R.size + dD R.size) (by omega)
      unfold recN at hn
      omega
    have hds : dD n ≤ 7 := by have := dD_spec n hn6; omega
    clear hn
    have hqs := decB_size n
    obtain ⟨q, hq⟩ : ∃ q, q = decB n := ⟨_, rfl⟩
    rw [← hq] at hqs
    have HQ := Aside0.mk hq
    have HR9 := Aside0.mk hr9
    have HQS := Aside0.mk hqs
    have hq7 : q.size ≤ 7 := by omega
    clear hq hqs hds hr9
    by_cases he : q.size + R.size = n
    · have h1 : (((q.size : Int) + (R.size : Int)) == (n : Int)) = true := by simp; omega
      have h2 : (((q.size : Int) + (R.size : Int)) != (n : Int)) = false := by simp; omega
      have HE1 := Aside0.mk he
      clear he
      go_wp2_with fail
      refine (itoa13 n (by omega) _ (HE.out.below HB.out)).mono ?_
      rintro e w1 ⟨rfl, hb⟩
      rw [← HQ.out]
      have HB1 := Aside0.mk (below_then HB.out HB.out.size hb)
      clear hb HB
      go_wp2_with fail
      refine (itoa13 n (by omega) _ (HE.out.below HB1.out)).mono ?_
      rintro e w2 ⟨rfl, hb⟩
      rw [← HQ.out]
      have HB2 := Aside0.mk (below_then HB1.out HB1.out.size hb)
      clear hb HB1
      go_wp2_with fail
      go_ret
      refine ⟨ret_str ?_, HB2.out⟩
      unfold recB
      rw [HR.out, ← recN_uniq HR9.out HN.out (by rw [← HQS.out]; exact HE1.out), ← HQ.out]
    · have h1 : (((q.size : Int) + (R.size : Int)) == (n : Int)) = false := by simp; omega
      have h2 : (((q.size : Int) + (R.size : Int)) != (n : Int)) = true := by simp; omega
      have HE1 := Aside0.mk he
      clear he
      go_wp2_with fail
      refine (itoa13 n (by omega) _ (HE.out.below HB.out)).mono ?_
      rintro e w1 ⟨rfl, hb⟩
      rw [← HQ.out]
      have HB1 := Aside0.mk (below_then HB.out HB.out.size hb)
      clear hb HB
      go_wp2_with fail
      refine (itoa13 n (by omega) _ (HE.out.below HB1.out)).mono ?_
      rintro e w2 ⟨rfl, hb⟩
      rw [← HQ.out]
      have HB2 := Aside0.mk (below_then HB1.out HB1.out.size hb)
      clear hb HB1
      go_wp2_with fail
      have hstep : (q.size + R.size = R.size + dD R.size ∨ q.size + R.size = recN R.size) ∧ n < recN R.size ∧ recN R.size - (q.size + R.size) < recN R.size - n := by
        rw [HQS.out]
        exact rec_step HR9.out HN.out (by rw [← HQS.out]; exact HE1.out)
      go_roundg (recN R.size - (q.size + R.size))
      case measure => have := HGK.out; omega
      case rel => exact ⟨q.size + R.size, .inr hstep.1, by go_num, ⟨Nat.le_refl _⟩, HB2⟩
end Go.Proofs.YtfcdboagbehhiaaDoor
