import Derived.Test.YtfcdboagbehhiaaDoorQ
import Derived.Test.YtfcdboagbehhiaaDoorShelf
namespace Go.Proofs.YtfcdboagbehhiaaDoor
open Go.RowKit Go.Proofs.YtfcdboagbehhiaaDoorW.PrintWords Go.Proofs.YtfcdboagbehhiaaDoorW.PrintLast Go.Proofs.YtfcdboagbehhiaaDoorW.PrintMore Go.Proofs.YtfcdboagbehhiaaDoor.PTarWhole
set_option linter.unusedVariables false
set_option linter.unusedSimpArgs false

/-! ## path.Part -/
def partB (s : ByteArray) : Bool :=
  !s.toList.isEmpty && (decide ((s.size : Int) ≤ 60) && (decide (Lib.indexByte s.data.toList 47 < 0) && (decide (Lib.indexByte s.data.toList 0 < 0) && (!(s.toList == [46]) && (!(s.toList == [46, 46]) && !Lib.hasPrefix s.data.toList [46, 119, 104, 46])))))
theorem ret_bool {a b : Bool} (h : a = b) : Ending.returned (.bool a) = .returned (.bool b) := by rw [h]
theorem ret_str {a b : ByteArray} (h : a = b) : Ending.returned (.string a) = .returned (.string b) := by rw [h]
theorem ret_int {a b : Int} (h : a = b) : Ending.returned (.int .i64 a) = .returned (.int .i64 b) := by rw [h]
/-- may a text stand in a header? -/
def textB (s : ByteArray) : Bool := decide ((s.size : Int) ≤ 100) && decide (Lib.indexByte s.data.toList 0 < 0)
set_option maxRecDepth 100000 in
theorem part62 (s : ByteArray) (w : World) : Calls Tryd.prog 62 #[.string s] w fun e w' => e = .returned (.bool (partB s)) ∧ w = w' := by
  go_enter Tryd.func62, Tryd.ntmps62
  go_wp2_with (first
    | (go_at_call 32; refine (Tryd.strings_IndexByte s 47 _).mono ?_; rintro e w' ⟨rfl, rfl⟩)
    | (go_at_call 32; refine (Tryd.strings_IndexByte s 0 _).mono ?_; rintro e w' ⟨rfl, rfl⟩)
    | (go_at_call 51; refine (Tryd.strings_HasPrefix s _ _).mono ?_; rintro e w' ⟨rfl, rfl⟩))
  all_goals go_ret
  all_goals refine ⟨ret_bool ?_, rfl⟩
  all_goals first | (simp [partB, Bool.and_assoc, *]; done) | (simp [partB, Bool.and_assoc, *]; intros; omega)
set_option maxRecDepth 100000 in
theorem text41 (s : ByteArray) (w : World) : Calls Tryd.prog 41 #[.string s] w fun e w' => e = .returned (.bool (textB s)) ∧ w = w' := by
  go_enter Tryd.func41, Tryd.ntmps41
  go_wp2_with (go_at_call 32; refine (Tryd.strings_IndexByte s 0 _).mono ?_; rintro e w' ⟨rfl, rfl⟩)
  all_goals go_ret
  all_goals refine ⟨ret_bool ?_, rfl⟩
  all_goals first | (simp [textB, *]; done) | (simp [textB, *]; intros; omega)
/-! ## tar.cut, tar.name -/
def cutB (s : ByteArray) : ByteArray := s.extract 0 (min s.size 100)
set_option maxRecDepth 100000 in
theorem cut36 (s : ByteArray) (hs : s.size ≤ 100000) (w : World) : Calls Tryd.prog 36 #[.string s] w fun e w' => e = .returned (.string (cutB s)) ∧ w = w' := by
  go_enter Tryd.func36, Tryd.ntmps36
  go_wp2
  go_ret
  refine ⟨ret_str ?_, rfl⟩
  unfold cutB
  congr 1
  omega
def nameB (p : ByteArray) : ByteArray := if p.toList.isEmpty = true then ⟨#[46]⟩ else p
set_option maxRecDepth 100000 in
theorem name37 (p d : ByteArray) (k : Int) (w : World) : Calls Tryd.prog 37 #[.agg #[.string p, .int .i64 k, .string d]] w fun e w' => e = .returned (.string (nameB p)) ∧ Below w.heap.size w w' := by
  go_enter Tryd.func37, Tryd.ntmps37
  go_wp2
  all_goals go_ret
  all_goals refine ⟨ret_str ?_, below_alloc (Below.refl _ _) _⟩
  all_goals simp [nameB, *]
end Go.Proofs.YtfcdboagbehhiaaDoor
