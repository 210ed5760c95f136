import Derived.Test.YtpibjjhfckopaaaDoorPBlobsScriptx1
import Derived.WalkSpells
import Derived.WalkLawsBesides
namespace Go.Proofs.YtpibjjhfckopaaaDoor
open Go.RowKit Go.Proofs.YtpibjjhfckopaaaDoorW.PrintWords Go.Proofs.YtpibjjhfckopaaaDoorW.PrintLast Go.Proofs.YtpibjjhfckopaaaDoorW.PrintMore Go.Proofs.YtpibjjhfckopaaaDoor.PBlobsScript
set_option linter.unusedVariables false

/-- what cmp.Compare says of two texts -/
def cmpS (a b : List UInt8) : Int := if Op.bytesLess a b = true then -1 else if (!a == b) = true then 1 else 0

set_option maxHeartbeats 400000 in
theorem isNaN_any (a : ByteArray) (w : World) :
    Calls Tryd.prog 39 #[.string a] w fun e w' => e = .returned (.bool false) ∧ w = w' := by
  go_enter Tryd.func39, Tryd.ntmps39
  go_wp2
  go_ret
  exact ⟨rfl, rfl⟩
theorem ret_ib {a a' : Int} {b b' : Bool} (h : a = a') (h' : b = b') : Ending.returned (.tuple #[.int .i64 a, .bool b]) = .returned (.tuple #[.int .i64 a', .bool b']) := by rw [h, h']
theorem beq_dec (a b : Int) : (a == b) = decide (a = b) := by rw [Bool.eq_iff_iff]; simp
theorem ret_int {k : IntKind} {a b : Int} (h : a = b) : Ending.returned (.int k a) = .returned (.int k b) := by rw [h]
set_option maxHeartbeats 400000 in
theorem cmp_any (a b : ByteArray) (w : World) :
    Calls Tryd.prog 30 #[.string a, .string b] w fun e w' => e = .returned (.int .i64 (cmpS a.toList b.toList)) ∧ w = w' := by
  go_enter Tryd.func30, Tryd.ntmps30
  go_wp2_with (go_at_call 39; refine (isNaN_any _ _).mono ?_; rintro e w' ⟨rfl, rfl⟩)
  · have h : Op.bytesLess a.toList b.toList = true := by assumption
    go_ret; exact ⟨ret_int (by unfold cmpS; rw [if_pos h]), rfl⟩
  · have h1 : Op.bytesLess a.toList b.toList = false := by assumption
    have h2 : (!a.toList == b.toList) = true := by assumption
    go_ret; exact ⟨ret_int (by unfold cmpS; rw [if_neg (by rw [h1]; simp), if_pos h2]), rfl⟩
  · have h1 : Op.bytesLess a.toList b.toList = false := by assumption
    have h2 : (!a.toList == b.toList) = false := by assumption
    go_ret; exact ⟨ret_int (by unfold cmpS; rw [if_neg (by rw [h1]; simp), if_neg (by rw [h2]; simp)]), rfl⟩
set_option maxHeartbeats 400000 in
theorem find1_any (a b d : ByteArray) (w : World) :
    Calls Tryd.prog 29 #[.agg #[.string a, .string b], .string d] w fun e w' => e = .returned (.int .i64 (cmpS a.toList d.toList)) ∧ Below w.heap.size w w' := by
  go_enter Tryd.func29, Tryd.ntmps29
  go_wp2_with (go_at_call 30; refine (cmp_any _ _ _).mono ?_; rintro e w' ⟨rfl, rfl⟩)
  go_ret
  exact ⟨rfl, (Below.refl _ _).alloc (Nat.le_refl _) _⟩

/-- the walk of a binary search, as Go's text goes: between i and j -/
def Bnd (xs : List S50) (d : ByteArray) (i j : Nat) : Prop :=
  i ≤ j ∧ j ≤ xs.length ∧ (∀ k, k < i → cmpS (xs.getD k z50).f0.toList d.toList < 0) ∧ (∀ k, j ≤ k → k < xs.length → ¬ cmpS (xs.getD k z50).f0.toList d.toList < 0)
/-- i is the place of d: all ahead are less, none from it on -/
def PlaceB (xs : List S50) (d : ByteArray) (i : Nat) : Prop := Bnd xs d i i
theorem Bnd.up {xs : List S50} {d : ByteArray} {i j m : Nat} (hM : ∀ i j, i ≤ j → j < xs.length → cmpS (xs.getD j z50).f0.toList d.toList < 0 → cmpS (xs.getD i z50).f0.toList d.toList < 0) (h : Bnd xs d i j) (h1 : i ≤ m) (h2 : m < j)
    (hc : cmpS (xs.getD m z50).f0.toList d.toList < 0) : Bnd xs d (m + 1) j :=
  ⟨by omega, h.2.1, fun k hk => hM k m (by omega) (by have := h.2.1; omega) hc, h.2.2.2⟩
theorem Bnd.down {xs : List S50} {d : ByteArray} {i j m : Nat} (hM : ∀ i j, i ≤ j → j < xs.length → cmpS (xs.getD j z50).f0.toList d.toList < 0 → cmpS (xs.getD i z50).f0.toList d.toList < 0) (h : Bnd xs d i j) (h1 : i ≤ m) (h2 : m < j)
    (hc : 0 ≤ cmpS (xs.getD m z50).f0.toList d.toList) : Bnd xs d i m :=
  ⟨h1, by have := h.2.1; omega, h.2.2.1, fun k hk hl hn => by have := hM m k hk hl hn; omega⟩
def Sorted (xs : List S50) : Prop := ∀ i j, i < j → j < xs.length → Op.bytesLess (xs.getD i z50).f0.toList (xs.getD j z50).f0.toList = true

set_option maxHeartbeats 1000000 in
set_option maxRecDepth 100000 in
theorem bsf_any (A : Option Addr) (c : Nat) (xs : List S50) (d : ByteArray) (w : World) (hr : Kd.C k50 w A xs.length xs) (hc : xs.length ≤ c) (hlen : xs.length ≤ 140737488355328)
    (hmono : ∀ i j, i ≤ j → j < xs.length → cmpS (xs.getD j z50).f0.toList d.toList < 0 → cmpS (xs.getD i z50).f0.toList d.toList < 0) :
    Calls Tryd.prog 28 #[.slice A xs.length c, .string d, .func (.func 29) #[] #[]] w fun e w' => ∃ i : Nat, PlaceB xs d i ∧ e = .returned (.tuple #[.int .i64 i, .bool (decide (i < xs.length) && decide (cmpS (xs.getD i z50).f0.toList d.toList = 0))]) ∧ Below w.heap.size w w' := by
  have HM := Aside0.mk hmono; clear hmono
  have HR := Aside0.mk hr; clear hr
  go_enter Tryd.func28, Tryd.ntmps28
  go_wp2_with fail
  have H0 : Aside0 (Bnd xs d 0 xs.length) := ⟨⟨Nat.zero_le _, Nat.le_refl _, fun k hk => absurd hk (by omega), fun k h1 h2 => by omega⟩⟩
  go_loopg [9, 10] xs.length (fun k vi vj wr => ∃ i j : Nat, vi = .int .i64 i ∧ vj = .int .i64 j ∧ Aside0 (Bnd xs d i j) ∧ Aside0 (j - i ≤ k) ∧ Aside0 (Below w.heap.size w wr))
  case atStart => exact ⟨0, xs.length, rfl, rfl, H0, ⟨by omega⟩, ⟨Below.refl _ _⟩⟩
  case round =>
    clear H0
    obtain ⟨i, j, rfl, rfl, HB, HK, HW⟩ := hrel
    have hij := HB.out.1
    have hjl := HB.out.2.1
    by_cases hlt : i < j
    · have p1 : 0 ≤ ((i : Int) + j) / 2 := by omega
      have q1 : ((i : Int) + j) / 2 < xs.length := by omega
      obtain ⟨ad, e1, hx0, hx1⟩ := at_T50 (Kd.C_below HR.out HW.out) (((i : Int) + j) / 2) p1 q1
      subst e1
      have ez : (((i : Int) + j) / 2).toNat = (i + j) / 2 := by omega
      rw [ez] at hx0 hx1
      have HX : Aside0 (rd_T50 xs (((i : Int) + j) / 2) = xs.getD ((i + j) / 2) z50) := ⟨by unfold rd_T50; rw [ez]⟩
      clear ez
      generalize rd_T50 xs (((i : Int) + j) / 2) = x at hx0 hx1 HX
      go_wp2_with (go_at_call 29; refine (find1_any _ _ _ _).mono ?_; rintro e w1 ⟨rfl, hb1⟩)
      · have hc : cmpS x.f0.toList d.toList < 0 := by assumption
        go_roundg (j - ((i + j) / 2 + 1))
        case measure => have := HK.out; omega
        case rel => exact ⟨(i + j) / 2 + 1, j, by go_num, rfl, ⟨Bnd.up HM.out HB.out (by omega) (by omega) (HX.out ▸ hc)⟩, ⟨Nat.le_refl _⟩, ⟨below_then HW.out HW.out.size hb1⟩⟩
      · have hc : 0 ≤ cmpS x.f0.toList d.toList := by assumption
        go_roundg ((i + j) / 2 - i)
        case measure => have := HK.out; omega
        case rel => exact ⟨i, (i + j) / 2, rfl, by go_num, ⟨Bnd.down HM.out HB.out (by omega) (by omega) (HX.out ▸ hc)⟩, ⟨Nat.le_refl _⟩, ⟨below_then HW.out HW.out.size hb1⟩⟩
    · obtain rfl : i = j := by omega
      have hpl : Aside0 (PlaceB xs d i) := ⟨HB.out⟩
      by_cases hl : i < xs.length
      · obtain ⟨ad, e1, hx0, hx1⟩ := at_T50 (Kd.C_below HR.out HW.out) i (by omega) (by omega)
        subst e1
        rw [Int.toNat_natCast] at hx0 hx1
        have HX : Aside0 (rd_T50 xs i = xs.getD i z50) := ⟨by unfold rd_T50; rw [Int.toNat_natCast]⟩
        generalize rd_T50 xs i = x at hx0 hx1 HX
        go_wp2_with (go_at_call 29; refine (find1_any _ _ _ _).mono ?_; rintro e w1 ⟨rfl, hb1⟩)
        go_ret2
        exact ⟨i, hpl.out, ret_ib rfl (by rw [HX.out, decide_eq_true hl, Bool.true_and]; exact beq_dec _ _), below_then HW.out HW.out.size hb1⟩
      · go_wp2
        go_ret2
        exact ⟨i, hpl.out, ret_ib rfl (by rw [decide_eq_false hl]; rfl), HW.out⟩
end Go.Proofs.YtpibjjhfckopaaaDoor
