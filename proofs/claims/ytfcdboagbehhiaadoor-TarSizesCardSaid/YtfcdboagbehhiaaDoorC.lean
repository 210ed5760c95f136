import Derived.Test.YtfcdboagbehhiaaDoorA
import Derived.Test.YtfcdboagbehhiaaDoorB
namespace Go.Proofs.YtfcdboagbehhiaaDoor
open Go.RowKit Go.Proofs.YtfcdboagbehhiaaDoorW.PrintWords Go.Proofs.YtfcdboagbehhiaaDoorW.PrintLast Go.Proofs.YtfcdboagbehhiaaDoorW.PrintMore Go.Proofs.YtfcdboagbehhiaaDoor.PTarWhole
set_option linter.unusedVariables false
set_option linter.unusedSimpArgs false

/-- so many digits of base 8 -/
def octN : Nat → Nat → List UInt8
  | 0, _ => []
  | k + 1, n => octN k (n / 8) ++ [dg (n % 8)]
theorem octN_zero : ∀ k, octN k 0 = List.replicate k 48
  | 0 => rfl
  | k + 1 => by
    rw [octN, Nat.zero_div, octN_zero k, List.replicate_succ']
    rfl
theorem octN_length : ∀ k n, (octN k n).length = k
  | 0, _ => rfl
  | k + 1, n => by rw [octN, List.length_append, octN_length k]; rfl
theorem octN_pad (k : Nat) : ∀ n, n < 8 ^ k → 0 < k → (octD n).length ≤ k ∧ List.replicate (k - (octD n).length) 48 ++ octD n = octN k n := by
  induction k with
  | zero => intro n _ h; omega
  | succ k ih =>
    intro n hn _
    by_cases h16 : n < 8
    · rw [octD_small n h16, octN, Nat.div_eq_of_lt h16, octN_zero, Nat.mod_eq_of_lt h16]
      simp
    · have hk : 0 < k := by
        rcases Nat.eq_zero_or_pos k with h | h
        · subst h; simp at hn; omega
        · exact h
      have hd : n / 8 < 8 ^ k := Nat.div_lt_of_lt_mul (by rw [Nat.pow_succ] at hn; rw [Nat.mul_comm]; exact hn)
      obtain ⟨h1, h2⟩ := ih (n / 8) hd hk
      rw [octD_big n (by omega), octN, ← h2]
      simp
      omega
def octS (k n : Nat) : ByteArray := ⟨(octN k n).toArray⟩
theorem repeatL_one (b : UInt8) : ∀ m, Lib.repeatL [b] m = List.replicate m b
  | 0 => rfl
  | m + 1 => by rw [Lib.repeatL, repeatL_one b m]; rfl
set_option maxHeartbeats 1000000 in
theorem fmt30 (u : Nat) (w : World) (h1 : u < 9223372036854775808) (hg : w.cell? ⟨3, 7, none⟩ = some (.int .u8 3)) :
    Calls Tryd.prog 30 #[.int .i64 u, .int .i64 8] w fun e w' => e = .returned (.string ⟨(octD u).toArray⟩) ∧ Below w.heap.size w w' := by
  have e1 : IntKind.u64.wrap (u : Int) = u := by simp [IntKind.wrap, IntKind.bits, IntKind.signed]; omega
  have E1 := Aside0.mk e1
  have H1 := Aside0.mk h1
  have HG := Aside0.mk hg
  clear hg h1
  have h0 : decide ((u : Int) < 0) = false := by simp
  go_enter Tryd.func30, Tryd.ntmps30
  go_wp2_with (go_at_call 45; refine (formatBits_8 u _ H1.out HG.out).mono ?_; rintro e w1 ⟨rfl, hb⟩)
  go_ret
  exact ⟨rfl, hb⟩
set_option maxHeartbeats 1000000 in
theorem fmt39 (u : Nat) (w : World) (h1 : u < 9223372036854775808) (hg : w.cell? ⟨3, 7, none⟩ = some (.int .u8 3)) :
    Calls Tryd.prog 39 #[.int .i64 u, .int .i64 8] w fun e w' => e = .returned (.string ⟨(octD u).toArray⟩) ∧ Below w.heap.size w w' := by
  go_enter Tryd.func39, Tryd.ntmps39
  go_wp2_with (go_at_call 30; refine (fmt30 _ _ h1 hg).mono ?_; rintro e w1 ⟨rfl, hb⟩)
  go_ret
  exact ⟨rfl, hb⟩
theorem ret_strl {a b : List UInt8} (h : a = b) : Ending.returned (.string ⟨a.toArray⟩) = .returned (.string ⟨b.toArray⟩) := by rw [h]
theorem ret_sb {a b : List UInt8} {x : Bool} (h : a = b) : Ending.returned (.tuple #[.string ⟨a.toArray⟩, .bool x]) = .returned (.tuple #[.string ⟨b.toArray⟩, .bool x]) := by rw [h]
set_option maxHeartbeats 1000000 in
theorem octal25 (k u : Nat) (w : World) (hk0 : 1 ≤ k) (hk : k ≤ 11) (hu : u < 8 ^ k) (hg : w.cell? ⟨3, 7, none⟩ = some (.int .u8 3)) :
    Calls Tryd.prog 25 #[.int .i64 u, .int .i64 k] w fun e w' => e = .returned (.tuple #[.string (octS k u), .bool true]) ∧ Below w.heap.size w w' := by
  obtain ⟨hl, hp⟩ := octN_pad k u hu hk0
  have h1 : u < 9223372036854775808 := Nat.lt_of_lt_of_le hu (Nat.le_trans (Nat.pow_le_pow_right (by decide) hk) (by decide))
  have HP := Aside0.mk hp
  clear hp hu
  obtain ⟨X, hX⟩ : ∃ X, X = octD u := ⟨_, rfl⟩
  rw [← hX] at hl
  have HX := Aside0.mk hX
  have H1 := Aside0.mk h1
  have HG := Aside0.mk hg
  clear hX h1 hg
  go_enter Tryd.func25, Tryd.ntmps25
  go_wp2_with (go_at_call 39; refine (fmt39 u _ H1.out HG.out).mono ?_; rintro e w1 ⟨rfl, hb⟩; rw [← HX.out])
  obtain ⟨m, hm⟩ : ∃ m : Nat, m = k - X.length := ⟨_, rfl⟩
  have HM := Aside0.mk hm
  have em : ((k : Int) - (X.length : Int)) = (m : Int) := by omega
  clear hm
  go_wp2_with fail
  rw [em]
  refine (Tryd.strings_Repeat _ m _ (by omega) (by simp [ByteArray.size]; omega)).mono ?_
  rintro e w2 ⟨rfl, hb2⟩
  clear em
  have hsz : (Lib.repeatL [48] m).length + X.length ≤ 9223372036854775807 := by rw [Lib.repeatL_length]; have := HM.out; simp; omega
  go_wp2
  go_ret2
  refine ⟨?_, below_then hb hb.size hb2⟩
  refine ret_sb (a := Lib.repeatL [48] m ++ X) (b := octN k u) ?_
  rw [repeatL_one, HM.out, HX.out]
  exact HP.out
end Go.Proofs.YtfcdboagbehhiaaDoor
