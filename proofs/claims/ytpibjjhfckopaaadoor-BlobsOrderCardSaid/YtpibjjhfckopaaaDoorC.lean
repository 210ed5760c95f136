import Derived.Test.YtpibjjhfckopaaaDoorB
import Derived.Test.YtpibjjhfckopaaaDoorQ
import Derived.Test.YtpibjjhfckopaaaDoorShelf
namespace Go.Proofs.YtpibjjhfckopaaaDoor
open Go.RowKit Go.Proofs.YtpibjjhfckopaaaDoorW.PrintWords Go.Proofs.YtpibjjhfckopaaaDoorW.PrintLast Go.Proofs.YtpibjjhfckopaaaDoorW.PrintMore Go.Proofs.YtpibjjhfckopaaaDoor.PBlobsScript
set_option linter.unusedVariables false

/-! ## the sum of bytes -/
def fnvStep (h b : Int) : Int := IntKind.u64.wrap ((Go.bits .xor .u64 h (IntKind.u64.wrap b)) * 1099511628211)
def fnv (bs : List Int) : Int := bs.foldl fnvStep 14695981039346656037
theorem wrap_u64 (n : Int) : IntKind.u64.wrap n = n % 18446744073709551616 := by simp [IntKind.wrap, IntKind.bits, IntKind.signed]
theorem fnv_range (bs : List Int) : 0 ≤ fnv bs ∧ fnv bs < 18446744073709551616 := by
  unfold fnv
  rcases List.eq_nil_or_concat bs with h | ⟨l, b, h⟩
  · subst h; simp
  · subst h
    simp only [List.concat_eq_append, List.foldl_append, List.foldl_cons, List.foldl_nil, fnvStep, wrap_u64]
    omega
theorem wrap64_id {n : Int} (h0 : -9223372036854775808 ≤ n) (h1 : n < 9223372036854775808) : wrap64 n = n := by unfold wrap64; omega
theorem sum_Of_l1 (bs : List Int) (x8 : List (List Int)) (hb : bs.length ≤ 140737488355328) (K : Nat) (hend : ∀ v, sum_Of.l0 (K + 1) v x8 1 1 = some v) (d : Nat) :
    ∀ (k : Nat) (h : Int) (i : Nat), i + d = bs.length → d + 2 + K ≤ k → sum_Of.l1 k h x8 1 0 bs (bs.length : Int) (i : Int) = some ((bs.drop i).foldl fnvStep h) := by
  induction d with
  | zero =>
    intro k h i hi hk
    obtain ⟨k, rfl⟩ : ∃ m, k = m + 1 := ⟨k - 1, by omega⟩
    simp only [sum_Of.l1]
    rw [if_neg (by omega), List.drop_eq_nil_of_le (by omega)]
    have := at_rounds (fun k => (sum_Of.mono_l k).1 h x8 1 1) (show K + 1 ≤ k by omega) (hend h)
    simpa [wrap64_id] using this
  | succ d ih =>
    intro k h i hi hk
    obtain ⟨k, rfl⟩ : ∃ m, k = m + 1 := ⟨k - 1, by omega⟩
    simp only [sum_Of.l1]
    rw [if_pos (by omega), if_pos (by omega), if_pos (by omega)]
    simp only [sum_Next.f, Option.bind_some]
    rw [show wrap64 ((i : Int) + 1) = ((i + 1 : Nat) : Int) from by rw [wrap64_id (by omega) (by omega)]; omega, ih k _ (i + 1) (by omega) (by omega)]
    rw [List.drop_eq_getElem_cons (show i < bs.length by omega), List.foldl_cons]
    simp [fnvStep, rd, List.getD_eq_getElem?_getD, List.getElem?_eq_getElem (show i < bs.length by omega)]
theorem sum_Of_one (bs : List Int) (hb : bs.length ≤ 140737488355328) : sum_Of.f (bs.length + 10) [bs] = some (fnv bs) := by
  have hend : ∀ v, sum_Of.l0 (0 + 1) v [bs] 1 1 = some v := by intro v; simp [sum_Of.l0]
  unfold sum_Of.f
  simp only [sum_Of.l0]
  rw [if_pos (by simp), if_pos (by decide), if_pos (by simp)]
  have := sum_Of_l1 bs [bs] hb 0 hend bs.length (bs.length + 9) 14695981039346656037 0 (by omega) (by omega)
  simpa [rd_L3, fnv] using this
theorem ref_Of_l0 (bs : List Int) (hb : bs.length ≤ 140737488355328) (d : Nat) :
    ∀ (k : Nat) (h : Int) (i : Nat), i + d = bs.length → d + 1 ≤ k → hogsheadref6_Of.l0 k bs h (i : Int) = some ((bs.drop i).foldl fnvStep h) := by
  induction d with
  | zero =>
    intro k h i hi hk
    obtain ⟨k, rfl⟩ : ∃ m, k = m + 1 := ⟨k - 1, by omega⟩
    simp only [hogsheadref6_Of.l0]
    rw [if_neg (by omega), List.drop_eq_nil_of_le (by omega)]
    rfl
  | succ d ih =>
    intro k h i hi hk
    obtain ⟨k, rfl⟩ : ∃ m, k = m + 1 := ⟨k - 1, by omega⟩
    simp only [hogsheadref6_Of.l0]
    rw [if_pos (by omega), if_pos (by omega)]
    simp only [hogsheadref6_Next.f, Option.bind_some]
    rw [show wrap64 ((i : Int) + 1) = ((i + 1 : Nat) : Int) from by rw [wrap64_id (by omega) (by omega)]; omega, ih k _ (i + 1) (by omega) (by omega)]
    rw [List.drop_eq_getElem_cons (show i < bs.length by omega), List.foldl_cons]
    simp [fnvStep, rd, List.getD_eq_getElem?_getD, List.getElem?_eq_getElem (show i < bs.length by omega)]
theorem ref_Of_eq (bs : List Int) (hb : bs.length ≤ 140737488355328) : hogsheadref6_Of.f (bs.length + 1) bs = some (fnv bs) := by
  have := ref_Of_l0 bs hb bs.length (bs.length + 1) 14695981039346656037 0 (by omega) (by omega)
  simpa [hogsheadref6_Of.f, fnv] using this

/-! ## its digits -/
/-- so many digits of base 16 -/
def hexN : Nat → Nat → List UInt8
  | 0, _ => []
  | k + 1, n => hexN k (n / 16) ++ [dg (n % 16)]
theorem hexN_zero : ∀ k, hexN k 0 = List.replicate k 48
  | 0 => rfl
  | k + 1 => by
    rw [hexN, Nat.zero_div, hexN_zero k, List.replicate_succ']
    rfl
theorem hexN_pad (k : Nat) : ∀ n, n < 16 ^ k → 0 < k → (hexD n).length ≤ k ∧ List.replicate (k - (hexD n).length) 48 ++ hexD n = hexN k n := by
  induction k with
  | zero => intro n _ h; omega
  | succ k ih =>
    intro n hn _
    by_cases h16 : n < 16
    · rw [hexD_small n h16, hexN, Nat.div_eq_of_lt h16, hexN_zero, Nat.mod_eq_of_lt h16]
      simp
    · have hk : 0 < k := by
        rcases Nat.eq_zero_or_pos k with h | h
        · subst h; simp at hn; omega
        · exact h
      have hd : n / 16 < 16 ^ k := Nat.div_lt_of_lt_mul (by rw [Nat.pow_succ] at hn; rw [Nat.mul_comm]; exact hn)
      obtain ⟨h1, h2⟩ := ih (n / 16) hd hk
      rw [hexD_big n (by omega), hexN, ← h2]
      simp
      omega
def hex16 (n : Nat) : List UInt8 := hexN 16 n
def hexS (n : Nat) : ByteArray := ⟨(hex16 n).toArray⟩

theorem hexN_top (k : Nat) : ∀ n, hexN (k + 1) n = dg (n / 16 ^ k % 16) :: hexN k n := by
  induction k with
  | zero => intro n; simp [hexN]
  | succ k ih =>
    intro n
    rw [hexN, ih, hexN]
    simp only [List.cons_append]
    rw [Nat.div_div_eq_div_mul, ← Nat.pow_succ']
theorem lit16 : ∀ d : Fin 16, bt (⟨#[48, 49, 50, 51, 52, 53, 54, 55, 56, 57, 97, 98, 99, 100, 101, 102]⟩ : ByteArray) (d.val : Int) = ((dg d.val).toNat : Int) := by decide +kernel
def nums8 (l : List UInt8) : List Int := l.map fun b => (b.toNat : Int)
theorem strOfNums_nums8 (l : List UInt8) : strOfNums (nums8 l) = ⟨l.toArray⟩ := by
  simp only [strOfNums, nums8, List.map_map]
  have e : ((fun n : Int => UInt8.ofNat n.toNat) ∘ fun b : UInt8 => (b.toNat : Int)) = id := by funext b; simp
  rw [e, List.map_id]
theorem ref_Hex_l0 (n : Nat) (hn : n < 18446744073709551616) (j : Nat) : ∀ (acc : List UInt8) (k : Nat), j ≤ 16 → acc.length + j = 16 → j + 1 ≤ k →
    hogsheadref6_Hex.l0 k (n : Int) (nums8 acc) ((j : Int) - 1) = some (strOfNums (nums8 (acc ++ hexN j n))) := by
  induction j with
  | zero =>
    intro acc k h1 h2 hk
    obtain ⟨k, rfl⟩ : ∃ m, k = m + 1 := ⟨k - 1, by omega⟩
    simp only [hogsheadref6_Hex.l0]
    rw [if_neg (by omega)]
    simp [hexN]
  | succ j ih =>
    intro acc k h1 h2 hk
    obtain ⟨k, rfl⟩ : ∃ m, k = m + 1 := ⟨k - 1, by omega⟩
    have e1 : (((j + 1 : Nat) : Int) - 1) = (j : Int) := by omega
    have e2 : wrap64 (4 * (j : Int)) = 4 * (j : Int) := wrap64_id (by omega) (by omega)
    have e3 : shr .u64 (n : Int) (4 * (j : Int)) = ((n / 16 ^ j : Nat) : Int) := by
      unfold shr
      have : min (4 * (j : Int)).toNat IntKind.u64.bits = 4 * j := by
        have : (4 * (j : Int)).toNat = 4 * j := by omega
        rw [this]
        exact Nat.min_eq_left (by simp [IntKind.bits]; omega)
      rw [this, Int.pow_mul]
      simp
    have e4 : Go.bits .and .u64 ((n / 16 ^ j : Nat) : Int) 15 = ((n / 16 ^ j % 16 : Nat) : Int) := mask15 _ (Nat.lt_of_le_of_lt (Nat.div_le_self _ _) hn)
    have hd : n / 16 ^ j % 16 < 16 := Nat.mod_lt _ (by decide)
    simp only [hogsheadref6_Hex.l0]
    rw [e1, e2, e3, e4, if_pos (by omega), if_pos (by omega), if_pos (by omega), if_pos (by omega), if_pos (by simp [nums8]; omega), wrap64_id (by omega) (by omega)]
    rw [lit16 ⟨_, hd⟩]
    have := ih (acc ++ [dg (n / 16 ^ j % 16)]) k (by omega) (by simp; omega) (by omega)
    rw [show nums8 acc ++ [((dg (n / 16 ^ j % 16)).toNat : Int)] = nums8 (acc ++ [dg (n / 16 ^ j % 16)]) from by simp [nums8], this, hexN_top]
    simp
theorem ref_Hex_eq (n : Nat) (hn : n < 18446744073709551616) : hogsheadref6_Hex.f 20 (n : Int) = some (hexS n) := by
  have := ref_Hex_l0 n hn 16 [] 20 (by omega) (by simp) (by omega)
  have e : (((16 : Nat) : Int) - 1) = 15 := by omega
  rw [e, List.nil_append, strOfNums_nums8] at this
  exact this

/-- a text's digest -/
def dig (s : ByteArray) : ByteArray := hexS (fnv (bytesOf s)).toNat

/-! ## the walks -/
theorem ret_str {a b : List UInt8} (h : a = b) : Ending.returned (.string ⟨a.toArray⟩) = .returned (.string ⟨b.toArray⟩) := by rw [h]
theorem repeatL_one (b : UInt8) : ∀ m, Lib.repeatL [b] m = List.replicate m b
  | 0 => rfl
  | m + 1 => by rw [Lib.repeatL, repeatL_one b m]; rfl
theorem bytesWorld_below (w : World) (e : TypeId) (s : ByteArray) : Below w.heap.size w (Lib.bytesWorld w e s) :=
  ⟨rfl, rfl, rfl, by rw [Lib.bytesWorld_size]; omega, fun k hk => Lib.bytesWorld_at_old w e s k hk⟩
theorem bytesWorld_C (w : World) (s : ByteArray) (hs : s.size ≤ 9223372036854775807) : (Kd.int .u8).C (Lib.bytesWorld w 5 s) (some ⟨w.heap.size, 0, none⟩) (bytesOf s).length (bytesOf s) := by
  have hl : (bytesOf s).length = s.size := by unfold bytesOf; rw [List.length_map]; rfl
  refine Kd.C_of_reads (d := (0 : Int)) ⟨rfl, by omega, fun hn => ⟨_, rfl, fun j hj => ?_⟩⟩
  rw [add_plain, Lib.bytesWorld_cell w 5 s j (by omega)]
  simp [bytesOf, List.getD_eq_getElem?_getD, show j < s.size by omega]
set_option maxHeartbeats 1000000 in
theorem fmt42 (u : Nat) (w : World) (h1 : u < 18446744073709551616) (hg : w.cell? ⟨3, 15, none⟩ = some (.int .u8 4)) :
    Calls Tryd.prog 42 #[.int .u64 u, .int .i64 16] w fun e w' => e = .returned (.string ⟨(hexD u).toArray⟩) ∧ Below w.heap.size w w' := by
  go_enter Tryd.func42, Tryd.ntmps42
  go_wp2_with (go_at_call 53; refine (formatBits_16 _ _ h1 hg).mono ?_; rintro e w1 ⟨rfl, hb⟩)
  go_ret
  exact ⟨rfl, hb⟩
set_option maxHeartbeats 1000000 in
theorem fmt35 (u : Nat) (w : World) (h1 : u < 18446744073709551616) (hg : w.cell? ⟨3, 15, none⟩ = some (.int .u8 4)) :
    Calls Tryd.prog 35 #[.int .u64 u, .int .i64 16] w fun e w' => e = .returned (.string ⟨(hexD u).toArray⟩) ∧ Below w.heap.size w w' := by
  go_enter Tryd.func35, Tryd.ntmps35
  go_wp2_with (go_at_call 42; refine (fmt42 _ _ h1 hg).mono ?_; rintro e w1 ⟨rfl, hb⟩)
  go_ret
  exact ⟨rfl, hb⟩
set_option maxHeartbeats 1000000 in
theorem hex24 (u : Nat) (w : World) (h1 : u < 18446744073709551616) (hg : w.cell? ⟨3, 15, none⟩ = some (.int .u8 4)) :
    Calls Tryd.prog 24 #[.int .u64 u] w fun e w' => e = .returned (.string (hexS u)) ∧ Below w.heap.size w w' := by
  obtain ⟨hl, hp⟩ := hexN_pad 16 u (by simpa using h1) (by decide)
  have HP := Aside0.mk hp
  clear hp
  obtain ⟨X, hX⟩ : ∃ X, X = hexD u := ⟨_, rfl⟩
  rw [← hX] at hl
  have HX := Aside0.mk hX
  have H1 := Aside0.mk h1
  have HG := Aside0.mk hg
  clear hX h1 hg
  go_enter Tryd.func24, Tryd.ntmps24
  go_wp2_with (go_at_call 35; refine (fmt35 _ _ H1.out HG.out).mono ?_; rintro e w1 ⟨rfl, hb⟩; rw [← HX.out])
  obtain ⟨m, hm⟩ : ∃ m : Nat, m = 16 - X.length := ⟨_, rfl⟩
  have HM := Aside0.mk hm
  have em : (16 - (X.length : Int)) = (m : Int) := by omega
  clear hm
  go_wp2_with fail
  rw [em]
  refine (Tryd.strings_Repeat _ m _ (by omega) (by simp [ByteArray.size]; omega)).mono ?_
  rintro e w2 ⟨rfl, hb2⟩
  clear em
  have hsz : (Lib.repeatL [48] m).length + X.length ≤ 9223372036854775807 := by rw [Lib.repeatL_length]; have := HM.out; simp; omega
  go_wp2
  go_ret
  refine ⟨?_, below_then hb hb.size hb2⟩
  refine ret_str (a := Lib.repeatL [48] m ++ X) (b := hex16 u) ?_
  rw [repeatL_one, HM.out, HX.out]
  exact HP.out
set_option maxHeartbeats 1000000 in
theorem digest17 (s : ByteArray) (w : World) (hs : s.size ≤ 140737488355328) (hg : w.cell? ⟨3, 15, none⟩ = some (.int .u8 4)) :
    Calls Tryd.prog 17 #[.string s] w fun e w' => e = .returned (.string (dig s)) ∧ Below w.heap.size w w' := by
  have HG := Aside0.mk hg
  have HS := Aside0.mk hs
  have hcv := Lib.run_convert_string_bytes (P := Tryd.prog) w 9 60 5 s Tryd.underlying9 Tryd.underlying60 Tryd.underlying5
  have hl : (bytesOf s).length = s.size := by unfold bytesOf; rw [List.length_map]; rfl
  have HL := Aside0.mk hl
  clear hg hs hl
  go_enter Tryd.func17, Tryd.ntmps17
  go_wp2_with fail
  obtain ⟨W, hW⟩ : ∃ W, W = Lib.bytesWorld w 5 s := ⟨_, rfl⟩
  rw [← hW, ← HL.out]
  have hbW : Below w.heap.size w W := by rw [hW]; exact bytesWorld_below w 5 s
  have hcW : (Kd.int .u8).C W (some ⟨w.heap.size, 0, none⟩) (bytesOf s).length (bytesOf s) := by rw [hW]; exact bytesWorld_C w s (by have := HS.out; omega)
  clear hW hcv
  have hrow : (Kd.slice 5 (Kd.int .u8)).C (W.alloc (Obj.cells #[Value.slice (some { block := w.heap.size, off := 0 }) (bytesOf s).length (grownCap w (bytesOf s).length 0 5)] 60)) (some ⟨W.heap.size, 0, none⟩) [bytesOf s].length [bytesOf s] := by
    refine ⟨rfl, by simp, fun _ => ⟨_, rfl, fun j p hj => ?_⟩⟩
    obtain ⟨rfl, rfl⟩ : j = 0 ∧ p = bytesOf s := by
      cases j with
      | zero => simpa using hj.symm
      | succ j => simp at hj
    refine ⟨[Value.slice (some ⟨w.heap.size, 0, none⟩) (bytesOf s).length (grownCap w (bytesOf s).length 0 5)], rfl, ⟨some ⟨w.heap.size, 0, none⟩, grownCap w (bytesOf s).length 0 5, rfl, grownCap_ge w _ 0 5, Kd.C_alloc hcW _⟩, fun i u hu => ?_⟩
    cases i with
    | zero =>
      simp at hu
      subst hu
      simp [Kd.slice, add_plain]
    | succ i => simp at hu
  refine (sum_Of.calls _ _ _ [bytesOf s] _ _ hrow (by simp) (sum_Of_one _ (by rw [HL.out]; exact HS.out))).mono ?_
  rintro e w1 ⟨rfl, hd⟩
  have hb1 : Below w.heap.size w w1 := below_then hbW hbW.size (below_then ((Below.refl _ _).alloc (Nat.le_refl _) _) (by simp) hd.below)
  obtain ⟨n, hn⟩ : ∃ n : Nat, n = (fnv (bytesOf s)).toNat := ⟨_, rfl⟩
  have hr := fnv_range (bytesOf s)
  have en : fnv (bytesOf s) = (n : Int) := by omega
  have hn64 : n < 18446744073709551616 := by omega
  have hds : dig s = hexS n := by unfold dig; rw [← hn]
  rw [en]
  have HDS := Aside0.mk hds
  have HN := Aside0.mk hn64
  have HG1 := Aside0.mk (pw_cell_below hb1 HG.out)
  clear hn hr en hds hn64 hrow hcW
  go_wp2_with (go_at_call 24; refine (hex24 _ _ HN.out HG1.out).mono ?_; rintro e w2 ⟨rfl, hb2⟩)
  go_ret
  exact ⟨by rw [HDS.out]; rfl, below_then hb1 hb1.size hb2⟩
set_option maxHeartbeats 1000000 in
theorem digest22 (s : ByteArray) (w : World) (hs : s.size ≤ 140737488355328) :
    Calls Tryd.prog 22 #[.string s] w fun e w' => e = .returned (.string (dig s)) ∧ Below w.heap.size w w' := by
  have HS := Aside0.mk hs
  have hcv := Lib.run_convert_string_bytes (P := Tryd.prog) w 9 60 5 s Tryd.underlying9 Tryd.underlying60 Tryd.underlying5
  have hl : (bytesOf s).length = s.size := by unfold bytesOf; rw [List.length_map]; rfl
  have HL := Aside0.mk hl
  clear hs hl
  go_enter Tryd.func22, Tryd.ntmps22
  go_wp2_with fail
  obtain ⟨W, hW⟩ : ∃ W, W = Lib.bytesWorld w 5 s := ⟨_, rfl⟩
  rw [← hW, ← HL.out]
  have hbW : Below w.heap.size w W := by rw [hW]; exact bytesWorld_below w 5 s
  have hcW : (Kd.int .u8).C W (some ⟨w.heap.size, 0, none⟩) (bytesOf s).length (bytesOf s) := by rw [hW]; exact bytesWorld_C w s (by have := HS.out; omega)
  clear hW hcv
  refine (hogsheadref6_Of.calls _ _ _ (bytesOf s) _ _ hcW (grownCap_ge _ _ _ _) (ref_Of_eq _ (by rw [HL.out]; exact HS.out))).mono ?_
  rintro e w1 ⟨rfl, hd⟩
  have hb1 : Below w.heap.size w w1 := below_then hbW hbW.size hd.below
  obtain ⟨n, hn⟩ : ∃ n : Nat, n = (fnv (bytesOf s)).toNat := ⟨_, rfl⟩
  have hr := fnv_range (bytesOf s)
  have en : fnv (bytesOf s) = (n : Int) := by omega
  have hn64 : n < 18446744073709551616 := by omega
  have hds : dig s = hexS n := by unfold dig; rw [← hn]
  rw [en]
  have HDS := Aside0.mk hds
  have HN := Aside0.mk hn64
  clear hn hr en hds hn64 hcW
  go_wp2_with (go_at_call 33; refine (hogsheadref6_Hex.calls _ _ _ _ (ref_Hex_eq _ HN.out)).mono ?_; rintro e w2 ⟨rfl, hb2⟩)
  go_ret
  exact ⟨by rw [HDS.out]; rfl, below_then hb1 hb1.size hb2⟩
end Go.Proofs.YtpibjjhfckopaaaDoor
