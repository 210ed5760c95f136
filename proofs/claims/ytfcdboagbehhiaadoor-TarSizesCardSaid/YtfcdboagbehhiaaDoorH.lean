import Derived.Test.YtfcdboagbehhiaaDoorG
namespace Go.Proofs.YtfcdboagbehhiaaDoor
open Go.RowKit Go.Proofs.YtfcdboagbehhiaaDoorW.PrintWords Go.Proofs.YtfcdboagbehhiaaDoorW.PrintLast Go.Proofs.YtfcdboagbehhiaaDoorW.PrintMore Go.Proofs.YtfcdboagbehhiaaDoor.PTarWhole
open Go.Lib (byteCells)
set_option linter.unusedVariables false
set_option linter.unusedSimpArgs false

/-! ## head.may -/
def mayH (name : ByteArray) (kind n : Int) (link : ByteArray) : Bool :=
  !name.toList.isEmpty && (textB name && (textB link && (decide (1 ≤ kind) && (decide (kind ≤ 5) && (((!link.toList.isEmpty) == (kind == 4)) && ((n == 0) || (!(kind == 1) && !(kind == 4))))))))
set_option maxHeartbeats 4000000 in
set_option maxRecDepth 100000 in
theorem may26 (name link : ByteArray) (kind n : Int) (w : World) :
    Calls Tryd.prog 26 #[.string name, .int .i64 kind, .int .i64 n, .string link] w fun e w' => e = .returned (.bool (mayH name kind n link)) ∧ w = w' := by
  cases hn : textB name <;> cases hl : textB link
  all_goals go_enter Tryd.func26, Tryd.ntmps26
  all_goals go_wp2_with (first
    | (go_at_call_of 41 (Value.string name); refine (text41 name _).mono ?_; rintro e w' ⟨rfl, rfl⟩; rw [hn])
    | (go_at_call_of 41 (Value.string link); refine (text41 link _).mono ?_; rintro e w' ⟨rfl, rfl⟩; rw [hl]))
  all_goals go_ret
  all_goals refine ⟨ret_bool ?_, rfl⟩
  all_goals unfold mayH
  all_goals rw [hn, hl]
  all_goals first | (simp [*]; done) | skip
  all_goals clear hn hl
  all_goals first
    | (have h : (name.toList.isEmpty = true ∨ kind < 1) ∨ 5 < kind := by assumption
       rcases h with (h | h) | h
       · rw [h]; rfl
       · rw [decide_eq_false (show ¬ 1 ≤ kind by omega)]; simp
       · rw [decide_eq_false (show ¬ kind ≤ 5 by omega)]; simp)
    | (have h1 : link.toList.isEmpty = !(kind == 4) := by assumption
       have h3 : (name.toList.isEmpty = false ∧ 1 ≤ kind) ∧ kind ≤ 5 := by assumption
       rw [h1, h3.1.1, decide_eq_true h3.1.2, decide_eq_true h3.2]
       simp [bne])
    | (have h1 : kind < 1 := by assumption
       rw [decide_eq_false (show ¬ 1 ≤ kind by omega)]
       simp)
/-! ## head.mode, head.sign -/
def modeB (k : Int) : ByteArray := if k = 1 then ⟨#[48, 48, 48, 48, 55, 53, 53]⟩ else if k = 3 then ⟨#[48, 48, 48, 48, 55, 53, 53]⟩ else if k = 4 then ⟨#[48, 48, 48, 48, 55, 55, 55]⟩ else ⟨#[48, 48, 48, 48, 54, 52, 52]⟩
def signB (k : Int) : ByteArray := if k = 1 then ⟨#[53]⟩ else if k = 4 then ⟨#[50]⟩ else if k = 5 then ⟨#[120]⟩ else ⟨#[48]⟩
theorem signB_size (k : Int) : (signB k).size = 1 := by unfold signB; split; rfl; split; rfl; split <;> rfl
theorem modeB_size (k : Int) : (modeB k).size = 7 := by unfold modeB; split; rfl; split; rfl; split <;> rfl
theorem mode28 (k : Int) (w : World) : Calls Tryd.prog 28 #[.int .i64 k] w fun e w' => e = .returned (.string (modeB k)) ∧ Below w.heap.size w w' := by
  refine (head_mode.calls 2 k (modeB k) w ?_).mono ?_
  · unfold head_mode.f modeB
    by_cases h1 : k = 1
    · subst h1; simp [head_mode.j0]
    · rw [if_neg h1, if_neg h1]
      by_cases h3 : k = 3
      · subst h3; simp [head_mode.j0]
      · rw [if_neg h3]
        have : (k == 3) = false := by simpa using h3
        rw [this]
        simp [head_mode.j0]
        split <;> rfl
  · rintro e w' ⟨rfl, m, rfl⟩
    exact ⟨rfl, pw_below_drewN (Below.refl _ _) m⟩
theorem sign29 (k : Int) (w : World) : Calls Tryd.prog 29 #[.int .i64 k] w fun e w' => e = .returned (.string (signB k)) ∧ Below w.heap.size w w' := by
  refine (head_sign.calls k (signB k) w ?_).mono ?_
  · unfold head_sign.f signB
    split
    · rfl
    · split
      · rfl
      · split <;> rfl
  · rintro e w' ⟨rfl, m, rfl⟩
    exact ⟨rfl, pw_below_drewN (Below.refl _ _) m⟩
end Go.Proofs.YtfcdboagbehhiaaDoor
