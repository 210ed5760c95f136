import Derived.Test.YtpibjjhfckopaaaDoorA
import Derived.Test.YtpibjjhfckopaaaDoorC
import Derived.Test.YtpibjjhfckopaaaDoorI
namespace Go.Proofs.YtpibjjhfckopaaaDoor
open Go.RowKit Go.Proofs.YtpibjjhfckopaaaDoorW.PrintWords Go.Proofs.YtpibjjhfckopaaaDoorW.PrintLast Go.Proofs.YtpibjjhfckopaaaDoorW.PrintMore Go.Proofs.YtpibjjhfckopaaaDoor.PBlobsScript
set_option linter.unusedVariables false

/-! ## order of bytes -/
theorem bytesLess_eq : ∀ (x y : List UInt8), Op.bytesLess x y = decide (x < y)
  | [], [] => by simp [Op.bytesLess]
  | _ :: _, [] => by simp [Op.bytesLess]
  | [], _ :: _ => by simp [Op.bytesLess]
  | a :: x, b :: y => by
    rw [Op.bytesLess, bytesLess_eq x y]
    simp only [List.cons_lt_cons_iff]
    by_cases h1 : a < b <;> by_cases h2 : a = b <;> by_cases h3 : x < y <;> simp [h1, h2, h3]
def ltS (a b : ByteArray) : Prop := a.toList < b.toList
instance (a b : ByteArray) : Decidable (ltS a b) := inferInstanceAs (Decidable (a.toList < b.toList))
theorem ltS_trans {a b c : ByteArray} (h : ltS a b) (k : ltS b c) : ltS a c := List.lt_trans h k
theorem ltS_irrefl (a : ByteArray) : ¬ ltS a a := List.lt_irrefl _
theorem toList_inj' {a b : ByteArray} (h : a.toList = b.toList) : a = b := by
  rw [ByteArray.toList_eq, ByteArray.toList_eq] at h
  exact ByteArray.ext (Array.toList_inj.mp h)
theorem ltS_tri (a b : ByteArray) : ltS a b ∨ a = b ∨ ltS b a := by
  by_cases h : ltS a b
  · exact .inl h
  · by_cases k : ltS b a
    · exact .inr (.inr k)
    · exact .inr (.inl (toList_inj' (List.le_antisymm (List.not_lt.1 k) (List.not_lt.1 h))))
theorem less_iff (a b : ByteArray) : Op.bytesLess a.toList b.toList = true ↔ ltS a b := by rw [bytesLess_eq]; simp [ltS]
theorem beq_iff (a b : ByteArray) : (a.toList == b.toList) = true ↔ a = b := ⟨fun h => toList_inj' (by simpa using h), fun h => by subst h; simp⟩
theorem cmpS_neg (a b : ByteArray) : cmpS a.toList b.toList < 0 ↔ ltS a b := by
  unfold cmpS
  by_cases h : Op.bytesLess a.toList b.toList = true
  · rw [if_pos h]; simp [(less_iff a b).1 h]
  · rw [if_neg h]
    have : ¬ ltS a b := fun k => h ((less_iff a b).2 k)
    split <;> simp [this]
theorem cmpS_zero (a b : ByteArray) : cmpS a.toList b.toList = 0 ↔ a = b := by
  unfold cmpS
  by_cases h : Op.bytesLess a.toList b.toList = true
  · rw [if_pos h]
    have : a ≠ b := by rintro rfl; exact ltS_irrefl a ((less_iff a a).1 h)
    simp [this]
  · rw [if_neg h]
    by_cases k : (!a.toList == b.toList) = true
    · rw [if_pos k]
      have : a ≠ b := by
        intro e
        have := (beq_iff a b).2 e
        simp [this] at k
      simp [this]
    · rw [if_neg k]
      have : (a.toList == b.toList) = true := by simpa using k
      simp [(beq_iff a b).1 this]

/-! ## a store's blobs -/
def place (xs : List S50) (d : ByteArray) : Nat := (xs.takeWhile fun x => decide (ltS x.f0 d)).length
theorem place_le (xs : List S50) (d : ByteArray) : place xs d ≤ xs.length := by
  unfold place
  exact (List.takeWhile_sublist _).length_le
theorem place_of (xs : List S50) (d : ByteArray) : ∀ i, PlaceB xs d i → i = place xs d := by
  induction xs with
  | nil =>
    intro i h
    have := h.2.1
    simp at this
    simp [place, this]
  | cons x xs ih =>
    intro i h
    obtain ⟨_, h2, h3, h4⟩ := h
    unfold place
    rw [List.takeWhile_cons]
    by_cases hx : ltS x.f0 d
    · rw [if_pos (by simpa using hx)]
      have hi : 0 < i := by
        rcases Nat.eq_zero_or_pos i with h | h
        · exact absurd ((cmpS_neg _ _).2 hx) (by have := h4 0 (by omega) (by simp); simpa using this)
        · exact h
      have := ih (i - 1) ⟨Nat.le_refl _, by simp at h2; omega, fun k hk => by have := h3 (k + 1) (by omega); simpa using this, fun k hk hl => by have := h4 (k + 1) (by omega) (by simpa using hl); simpa using this⟩
      unfold place at this
      simp
      omega
    · rw [if_neg (by simpa using hx)]
      rcases Nat.eq_zero_or_pos i with h | h
      · simpa using h
      · exact absurd ((cmpS_neg _ _).1 (by simpa using h3 0 h)) hx
def SortedB (xs : List S50) : Prop := List.Pairwise (fun a b : S50 => ltS a.f0 b.f0) xs
theorem SortedB.mono {xs : List S50} (h : SortedB xs) (d : ByteArray) : ∀ i j, i ≤ j → j < xs.length → cmpS (xs.getD j z50).f0.toList d.toList < 0 → cmpS (xs.getD i z50).f0.toList d.toList < 0 := by
  intro i j hij hj hc
  rcases Nat.lt_or_eq_of_le hij with h1 | rfl
  · refine (cmpS_neg _ _).2 (ltS_trans ?_ ((cmpS_neg _ _).1 hc))
    have := List.pairwise_iff_getElem.1 h i j (by omega) hj h1
    simpa [List.getD_eq_getElem?_getD, List.getElem?_eq_getElem hj, List.getElem?_eq_getElem (show i < xs.length by omega)] using this
  · exact hc
def insB (xs : List S50) (i : Nat) (p : S50) : List S50 := xs.take i ++ p :: xs.drop i
def hasB (xs : List S50) (d : ByteArray) : Bool := decide (place xs d < xs.length ∧ (xs.getD (place xs d) z50).f0 = d)
/-- what putting does -/
def putB (xs : List S50) (data : ByteArray) : List S50 × ByteArray × Int :=
  if hasB xs (dig data) = true then
    (if (xs.getD (place xs (dig data)) z50).f1 = data then (xs, dig data, 0) else (xs, ⟨#[]⟩, 9))
  else (insB xs (place xs (dig data)) ⟨dig data, data⟩, dig data, 0)
def getB (xs : List S50) (d : ByteArray) : ByteArray × Bool :=
  if hasB xs d = true then ((xs.getD (place xs d) z50).f1, true) else (⟨#[]⟩, false)

/-! ## its cells -/
def cellsB (xs : List S50) : List Value := xs.flatMap fun x => [.string x.f0, .string x.f1]
theorem cellsB_length (xs : List S50) : (cellsB xs).length = xs.length * 2 := by
  induction xs with
  | nil => rfl
  | cons x xs ih => simp [cellsB] at ih ⊢; omega
theorem cellsB_append (xs ys : List S50) : cellsB (xs ++ ys) = cellsB xs ++ cellsB ys := by simp [cellsB]
theorem cellsB_take (xs : List S50) (i : Nat) (hi : i ≤ xs.length) : (cellsB xs).take (i * 2) = cellsB (xs.take i) := by
  have h : cellsB xs = cellsB (xs.take i) ++ cellsB (xs.drop i) := by rw [← cellsB_append, List.take_append_drop]
  have hl : (cellsB (xs.take i)).length = i * 2 := by rw [cellsB_length, List.length_take, Nat.min_eq_left hi]
  rw [h, ← hl, List.take_left]
theorem cellsB_drop (xs : List S50) (i : Nat) (hi : i ≤ xs.length) : (cellsB xs).drop (i * 2) = cellsB (xs.drop i) := by
  have h : cellsB xs = cellsB (xs.take i) ++ cellsB (xs.drop i) := by rw [← cellsB_append, List.take_append_drop]
  have hl : (cellsB (xs.take i)).length = i * 2 := by rw [cellsB_length, List.length_take, Nat.min_eq_left hi]
  rw [h, ← hl, List.drop_left]
theorem cellsB_one (xs : List S50) : ∀ u ∈ cellsB xs, u.oneCell' = true := by
  intro u hu
  simp [cellsB] at hu
  obtain ⟨x, _, rfl | rfl⟩ := hu <;> rfl
theorem reps_cellsB {R : S50 → List Value → Prop} (hR : ∀ x : S50, R x [.string x.f0, .string x.f1]) (xs : List S50) : Reps R 2 xs (cellsB xs) := by
  refine ⟨cellsB_length xs, fun j p hj => ?_⟩
  have hjl := (List.getElem?_eq_some_iff.1 hj).1
  rw [cellsB_drop xs j (by omega)]
  have : xs.drop j = p :: xs.drop (j + 1) := by
    rw [List.drop_eq_getElem_cons hjl]
    congr 1
    simpa [List.getElem?_eq_getElem hjl] using hj
  rw [this]
  exact hR p
/-- a row of blobs of one's own -/
def OwnB (w : World) (base : Nat) (v : Value) (xs : List S50) : Prop := w.ownsRow base 50 2 v xs.length (cellsB xs)
theorem OwnB.R {w : World} {base : Nat} {v : Value} {xs : List S50} (h : OwnB w base v xs) {ok : Nat → Prop} (hok : ∀ k, v.ownBlock = some k → ok k) : Kd.R k50 50 w base ok v xs :=
  ⟨hok, cellsB xs, h, reps_cellsB (fun x => k50_mkM _ _ _ x) xs⟩
theorem OwnB.reads {w : World} {base : Nat} {v : Value} {xs : List S50} (h : OwnB w base v xs) : ∃ A c, v = .slice A xs.length c ∧ xs.length ≤ c ∧ Kd.C k50 w A xs.length xs :=
  Kd.R_reads (h.R (ok := fun _ => True) (fun _ _ => trivial))
theorem OwnB.below {w w1 : World} {base : Nat} {v : Value} {xs : List S50} (h : OwnB w base v xs) (hb : Below w.heap.size w w1) : OwnB w1 base v xs := pw_own_below h hb
theorem OwnB.move {w w1 : World} {base : Nat} {v : Value} {xs : List S50} (h : OwnB w base v xs) (hm : ∀ k, v.ownBlock = some k → w1.heap[k]? = w.heap[k]?) : OwnB w1 base v xs := own_move h hm
theorem OwnB.nil (w : World) (base : Nat) : OwnB w base (.slice none 0 0) [] := own_nil _ _ _ _

/-- a slice of blobs with one more in it -/
theorem insert_any (v : Value) (xs : List S50) (p : S50) (i : Nat) (bv base : Nat) (w : World) (h : OwnB w base v xs) (hi : i ≤ xs.length) (hbv : w.heap[bv]? = some (.cells #[.string p.f0, .string p.f1] 50 (0, 0)))
    (hne : v.ownBlock ≠ some bv) (hbase : base ≤ w.heap.size) (hn : xs.length ≤ 1000000) :
    Calls Tryd.prog 21 #[v, .int .i64 i, .slice (some ⟨bv, 0, none⟩) 1 1] w fun e w' => ∃ v', e = .returned v' ∧ OwnB w' base v' (insB xs i p) ∧ w.grownBy w' v.ownBlock ∧ (v'.ownBlock = v.ownBlock ∨ ∃ b, v'.ownBlock = some b ∧ w.heap.size ≤ b) := by
  have hnews : cellsB [p] = [.string p.f0, .string p.f1] := rfl
  have hbv' : w.heap[bv]? = some (.cells (cellsB [p]).toArray 50 (0, 0)) := by rw [hbv]; rfl
  have hlen : (insB xs i p).length = xs.length + 1 := by simp [insB]; omega
  have hcells : cellsB (insB xs i p) = (cellsB xs).take (i * 2) ++ cellsB [p] ++ (cellsB xs).drop (i * 2) := by
    rw [cellsB_take _ _ hi, cellsB_drop _ _ hi, insB, show p :: xs.drop i = [p] ++ xs.drop i from rfl, cellsB_append, cellsB_append, List.append_assoc]
  rcases Nat.lt_or_eq_of_le hi with hlt | rfl
  · obtain ⟨g, cap, tail, rfl, h1, h2, h3, h4, h5, h6⟩ := Go.Gen.ownsRow_open h (by omega)
    have hbg : bv ≠ g := fun e => hne (by rw [e]; rfl)
    by_cases hroom : xs.length + 1 ≤ cap
    · refine (insert_shift g cap xs.length i (cellsB xs) tail (cellsB [p]) bv base w hlt hroom h5 h6 h2 rfl (cellsB_one _) (cellsB_one _) hbv' hbg h1 h4 hn).mono ?_
      rintro e w' ⟨v', he, ho, hg, hat⟩
      exact ⟨v', he, by unfold OwnB; rw [hlen, hcells]; exact ho, hg, hat⟩
    · refine (insert_grow g cap xs.length i (cellsB xs) tail (cellsB [p]) bv base w hlt (by omega) h3 h5 h2 rfl (cellsB_one _) (cellsB_one _) hbv' hbg hbase hn).mono ?_
      rintro e w' ⟨v', he, ho, hg, hat⟩
      exact ⟨v', he, by unfold OwnB; rw [hlen, hcells]; exact ho, hg, hat⟩
  · obtain ⟨A, c, rfl⟩ := own_slice h
    refine (insert_end A c xs.length (cellsB xs) (cellsB [p]) bv base w h rfl (cellsB_one _) hbv' hbase hn).mono ?_
    rintro e w' ⟨v', he, ho, hg, hat⟩
    refine ⟨v', he, ?_, hg, hat⟩
    unfold OwnB
    rw [hlen, hcells, List.take_of_length_le (by rw [cellsB_length]; omega), List.drop_eq_nil_of_le (by rw [cellsB_length]; omega), List.append_nil]
    exact ho

/-! ## the store -/
/-- a store at block g (of type t), its slice v, its blobs -/
def St (w : World) (base t g : Nat) (v : Value) (xs : List S50) : Prop := w.heap[g]? = some (.cells #[v] t (0, 0)) ∧ base ≤ g ∧ OwnB w base v xs
theorem St.below {w w1 : World} {base t g : Nat} {v : Value} {xs : List S50} (h : St w base t g v xs) (hb : Below w.heap.size w w1) : St w1 base t g v xs :=
  ⟨by rw [hb.block g (blk_lt h.1)]; exact h.1, h.2.1, h.2.2.below hb⟩
theorem St.ne {w : World} {base t g : Nat} {v : Value} {xs : List S50} (h : St w base t g v xs) (ht : t ≠ 50) : v.ownBlock ≠ some g := by
  intro e
  obtain ⟨cells, hc⟩ := own_typed h.2.2 g e
  rw [h.1] at hc
  injection hc with hc
  injection hc with _ hc
  exact ht hc

theorem FoundB (xs : List S50) (d : ByteArray) : (decide (place xs d < xs.length) && decide (cmpS (xs.getD (place xs d) z50).f0.toList d.toList = 0)) = hasB xs d := by
  unfold hasB
  rw [Bool.eq_iff_iff]
  simp [cmpS_zero]
theorem hasB_lt {xs : List S50} {d : ByteArray} (h : hasB xs d = true) : place xs d < xs.length := by
  unfold hasB at h
  exact (of_decide_eq_true h).1
set_option maxHeartbeats 1000000 in
theorem find20 (g : Nat) (v : Value) (xs : List S50) (d : ByteArray) (base : Nat) (w : World) (h : St w base 52 g v xs) (hs : SortedB xs) (hn : xs.length ≤ 1000000) :
    Calls Tryd.prog 20 #[.pointer (some ⟨g, 0, none⟩), .string d] w fun e w' => e = .returned (.tuple #[.int .i64 (place xs d), .bool (hasB xs d)]) ∧ Below w.heap.size w w' := by
  obtain ⟨A, c, rfl, hl, hr⟩ := h.2.2.reads
  have hc : w.cell? ⟨g, 0, none⟩ = some (.slice A xs.length c) := by rw [blk_cell h.1]; rfl
  have HS := Aside0.mk hs
  have HR := Aside0.mk hr
  have HL := Aside0.mk hl
  have HN := Aside0.mk hn
  clear h hs hr hl hn
  go_enter Tryd.func20, Tryd.ntmps20
  go_wp2_with (go_at_call 28; refine (bsf_any _ _ _ _ _ HR.out HL.out (by have := HN.out; omega) (HS.out.mono _)).mono ?_; rintro e w1 ⟨i, hp, rfl, hb⟩; obtain rfl := place_of _ _ _ hp; clear hp; rw [FoundB])
  go_ret2
  exact ⟨rfl, hb⟩
set_option maxHeartbeats 1000000 in
theorem len14 (g : Nat) (v : Value) (xs : List S50) (base : Nat) (w : World) (h : St w base 52 g v xs) :
    Calls Tryd.prog 14 #[.pointer (some ⟨g, 0, none⟩)] w fun e w' => e = .returned (.int .i64 xs.length) ∧ w = w' := by
  obtain ⟨A, c, rfl, hl, hr⟩ := h.2.2.reads
  have hc : w.cell? ⟨g, 0, none⟩ = some (.slice A xs.length c) := by rw [blk_cell h.1]; rfl
  clear h hr hl
  go_enter Tryd.func14, Tryd.ntmps14
  go_wp2
  go_ret
  exact ⟨rfl, rfl⟩
set_option maxHeartbeats 1000000 in
theorem get10 (g : Nat) (v : Value) (xs : List S50) (d : ByteArray) (base : Nat) (w : World) (h : St w base 52 g v xs) (hs : SortedB xs) (hn : xs.length ≤ 1000000) :
    Calls Tryd.prog 10 #[.pointer (some ⟨g, 0, none⟩), .string d] w fun e w' => e = .returned (.tuple #[.string (getB xs d).1, .bool (getB xs d).2]) ∧ Below w.heap.size w w' := by
  have H := Aside0.mk h
  have HS := Aside0.mk hs
  have HN := Aside0.mk hn
  clear h hs hn
  obtain ⟨A, c, rfl, hl, hr⟩ := H.out.2.2.reads
  have hc : w.cell? ⟨g, 0, none⟩ = some (.slice A xs.length c) := by rw [blk_cell H.out.1]; rfl
  have HC := Aside0.mk hc
  have HR := Aside0.mk hr
  clear hl hr hc
  by_cases hf : hasB xs d = true
  · have hlt := hasB_lt hf
    obtain ⟨i, hi⟩ : ∃ i, i = place xs d := ⟨_, rfl⟩
    rw [← hi] at hlt
    have HG : Aside0 (getB xs d = ((rd_T50 xs i).f1, true)) := ⟨by unfold getB rd_T50; rw [if_pos hf, hi, Int.toNat_natCast]⟩
    have HI := Aside0.mk hi
    have HF := Aside0.mk hf
    clear hi hf
    go_enter Tryd.func10, Tryd.ntmps10
    go_wp2_with fail
    refine (find20 _ _ _ _ _ _ H.out HS.out HN.out).mono ?_
    rintro e w1 ⟨rfl, hb⟩
    rw [← HI.out, HF.out]
    have hc1 := pw_cell_below hb HC.out
    obtain ⟨ad, e1, hx0, hx1⟩ := at_T50 (Kd.C_below HR.out hb) i (by omega) (by omega)
    subst e1
    rw [Int.toNat_natCast] at hx0 hx1
    generalize rd_T50 xs i = x at hx0 hx1 HG
    go_wp2
    go_ret2
    exact ⟨by rw [HG.out]; rfl, hb⟩
  · have hf' : hasB xs d = false := by simpa using hf
    have HG : Aside0 (getB xs d = (⟨#[]⟩, false)) := ⟨by unfold getB; rw [if_neg hf]⟩
    have HF := Aside0.mk hf'
    clear hf hf'
    go_enter Tryd.func10, Tryd.ntmps10
    go_wp2_with (go_at_call 20; refine (find20 _ _ _ _ _ _ H.out HS.out HN.out).mono ?_; rintro e w1 ⟨rfl, hb⟩; rw [HF.out])
    go_ret2
    exact ⟨by rw [HG.out]; rfl, hb⟩

/-- what a call on a store may turn: the store's block, its row -/
def KeptSt (w w' : World) (g : Nat) (v : Value) : Prop := Kept w w' (fun k => k = g ∨ v.ownBlock = some k)
/-- what is left of a store behind a call that may change it -/
def StAfter (w : World) (base t g : Nat) (v : Value) (xs : List S50) (w' : World) : Prop :=
  ∃ v', St w' base t g v' xs ∧ KeptSt w w' g v ∧ (v'.ownBlock = v.ownBlock ∨ ∃ b, v'.ownBlock = some b ∧ w.heap.size ≤ b) ∧ w'.os = w.os ∧ w'.tape = w.tape ∧ w'.output = w.output
theorem StAfter.of_below {w w' : World} {base t g : Nat} {v : Value} {xs : List S50} (h : St w base t g v xs) (hb : Below w.heap.size w w') : StAfter w base t g v xs w' :=
  ⟨v, h.below hb, ⟨hb.size, fun k hk _ => hb.block k hk⟩, .inl rfl, hb.os, hb.tape, hb.output⟩
set_option maxHeartbeats 2000000 in
theorem put8 (g : Nat) (v : Value) (xs : List S50) (data : ByteArray) (base : Nat) (w : World) (h : St w base 52 g v xs) (hs : SortedB xs) (hn : xs.length ≤ 100000) (hd : data.size ≤ 140737488355328) (hg3 : w.cell? ⟨3, 15, none⟩ = some (.int .u8 4)) (hb3 : 3 < base) (hbase : base ≤ w.heap.size) :
    Calls Tryd.prog 8 #[.pointer (some ⟨g, 0, none⟩), .string data] w fun e w' => e = .returned (.tuple #[.string (putB xs data).2.1, .int .i64 (putB xs data).2.2]) ∧ StAfter w base 52 g v (putB xs data).1 w' := by
  have H := Aside0.mk h
  have HS := Aside0.mk hs
  have HN := Aside0.mk hn
  have HD := Aside0.mk hd
  have HG3 := Aside0.mk hg3
  have HB3 := Aside0.mk hb3
  have HBA := Aside0.mk hbase
  clear h hs hn hd hg3 hb3 hbase
  obtain ⟨A, c, rfl, hl, hr⟩ := H.out.2.2.reads
  have hc : w.cell? ⟨g, 0, none⟩ = some (.slice A xs.length c) := by rw [blk_cell H.out.1]; rfl
  have HC := Aside0.mk hc
  have HR := Aside0.mk hr
  clear hl hr hc
  obtain ⟨d, hdd⟩ : ∃ d, d = dig data := ⟨_, rfl⟩
  have HDD := Aside0.mk hdd
  obtain ⟨i, hi⟩ : ∃ i, i = place xs d := ⟨_, rfl⟩
  have HI := Aside0.mk hi
  have hile : i ≤ xs.length := by rw [hi]; exact place_le _ _
  have HIL := Aside0.mk hile
  by_cases hf : hasB xs d = true
  · have hlt := hasB_lt hf
    rw [← hi] at hlt
    have HF := Aside0.mk hf
    obtain ⟨x, hx⟩ : ∃ x, x = rd_T50 xs i := ⟨_, rfl⟩
    have hxg : xs.getD i z50 = x := by rw [hx]; unfold rd_T50; rw [Int.toNat_natCast]
    by_cases hsame : x.f1 = data
    · have HP : Aside0 (putB xs data = (xs, d, 0)) := ⟨by unfold putB; rw [← hdd, if_pos hf, ← hi, hxg, if_pos hsame]⟩
      have HX := Aside0.mk hx
      have hneq : (!x.f1.toList == data.toList) = false := by rw [hsame]; simp
      clear hdd hi hf hx hxg hsame hile
      go_enter Tryd.func8, Tryd.ntmps8
      go_wp2_with fail
      refine (digest17 _ _ HD.out HG3.out).mono ?_
      rintro e w1 ⟨rfl, hb1⟩
      rw [← HDD.out]
      go_wp2_with fail
      refine (find20 _ _ _ _ _ _ (H.out.below hb1) HS.out (by have := HN.out; omega)).mono ?_
      rintro e w2 ⟨rfl, hb2⟩
      rw [← HI.out, HF.out]
      have hb := below_then hb1 hb1.size hb2
      have hc1 := pw_cell_below hb HC.out
      obtain ⟨ad, e1, hx0, hx1⟩ := at_T50 (Kd.C_below HR.out hb) i (by omega) (by omega)
      subst e1
      rw [Int.toNat_natCast, ← HX.out] at hx0 hx1
      go_wp2
      go_ret2
      exact ⟨by rw [HP.out]; rfl, by rw [HP.out]; exact StAfter.of_below H.out hb⟩
    · have HP : Aside0 (putB xs data = (xs, ⟨#[]⟩, 9)) := ⟨by unfold putB; rw [← hdd, if_pos hf, ← hi, hxg, if_neg hsame]⟩
      have HX := Aside0.mk hx
      have hneq : (!x.f1.toList == data.toList) = true := by
        have : ¬ (x.f1.toList == data.toList) = true := fun h => hsame ((beq_iff _ _).1 h)
        simpa using this
      clear hdd hi hf hx hxg hsame hile
      go_enter Tryd.func8, Tryd.ntmps8
      go_wp2_with fail
      refine (digest17 _ _ HD.out HG3.out).mono ?_
      rintro e w1 ⟨rfl, hb1⟩
      rw [← HDD.out]
      go_wp2_with fail
      refine (find20 _ _ _ _ _ _ (H.out.below hb1) HS.out (by have := HN.out; omega)).mono ?_
      rintro e w2 ⟨rfl, hb2⟩
      rw [← HI.out, HF.out]
      have hb := below_then hb1 hb1.size hb2
      have hc1 := pw_cell_below hb HC.out
      obtain ⟨ad, e1, hx0, hx1⟩ := at_T50 (Kd.C_below HR.out hb) i (by omega) (by omega)
      subst e1
      rw [Int.toNat_natCast, ← HX.out] at hx0 hx1
      go_wp2
      go_ret2
      exact ⟨by rw [HP.out]; rfl, by rw [HP.out]; exact StAfter.of_below H.out hb⟩
  · have hf' : hasB xs d = false := by simpa using hf
    have HF := Aside0.mk hf'
    have HP : Aside0 (putB xs data = (insB xs i ⟨d, data⟩, d, 0)) := ⟨by unfold putB; rw [← hdd, if_neg hf, ← hi]⟩
    clear hdd hi hf hf' hile
    go_enter Tryd.func8, Tryd.ntmps8
    go_wp2_with fail
    refine (digest17 _ _ HD.out HG3.out).mono ?_
    rintro e w1 ⟨rfl, hb1⟩
    rw [← HDD.out]
    go_wp2_with fail
    refine (find20 _ _ _ _ _ _ (H.out.below hb1) HS.out (by have := HN.out; omega)).mono ?_
    rintro e w2 ⟨rfl, hb2⟩
    rw [← HI.out, HF.out]
    have hb := below_then hb1 hb1.size hb2
    have hc1 := pw_cell_below hb HC.out
    have H2 := Aside0.mk (H.out.below hb)
    have HB := Aside0.mk hb
    clear hb hb1 hb2
    go_wp2_with fail
    have hlt2 : g < w2.heap.size := blk_lt H2.out.1
    have hbal : Below w2.heap.size w2 (w2.alloc (Obj.cells #[Value.string d, Value.string data] 50)) := (Below.refl _ _).alloc (Nat.le_refl _) _
    refine (insert_any _ xs ⟨d, data⟩ i w2.heap.size base _ (H2.out.2.2.below hbal) HIL.out (heap_alloc_new w2 _) (fun e => by have := own_lt H2.out.2.2 _ e; omega) (by have := HBA.out; have := HB.out.size; simp; omega) (by have := HN.out; omega)).mono ?_
    rintro e w3 ⟨v', rfl, ho, hg, hat⟩
    obtain ⟨A', c', rfl⟩ := own_slice ho
    obtain ⟨n', hn'⟩ : ∃ n', n' = (insB xs i ⟨d, data⟩).length := ⟨_, rfl⟩
    rw [← hn'] at ho hat ⊢
    have HN' := Aside0.mk hn'
    clear hn'
    have hneg : (Value.slice A xs.length c).ownBlock ≠ some g := H2.out.ne (by decide)
    have hw3g : w3.heap[g]? = some (.cells #[.slice A xs.length c] 52 (0, 0)) := by
      rw [hg.block g (by simp; omega) (Ne.symm hneg), hbal.block g hlt2]; exact H2.out.1
    have hc3 : w3.cell? ⟨g, 0, none⟩ = some (.slice A xs.length c) := by rw [blk_cell hw3g]; rfl
    have hf3 : w3.frozen? ⟨g, 0, none⟩ = false := blk_frozen hw3g 0
    have HO := Aside0.mk ho
    have HG := Aside0.mk hg
    have HAT := Aside0.mk hat
    have HNEG := Aside0.mk hneg
    have HW3 := Aside0.mk hw3g
    have HBAL := Aside0.mk hbal
    clear ho hg hat hneg hw3g hbal
    go_wp2
    go_ret2
    rw [HP.out]
    refine ⟨rfl, .slice A' n' c', ⟨by simpa using blk_set HW3.out 0 (.slice A' n' c'), H.out.2.1, HO.out.move fun k hk => ?_⟩, ⟨?_, fun k hk hnot => ?_⟩, ?_, HG.out.os.trans (HBAL.out.os.trans HB.out.os), HG.out.tape.trans (HBAL.out.tape.trans HB.out.tape), HG.out.output.trans (HBAL.out.output.trans HB.out.output)⟩
    · refine Below.heap_setCell w3 ⟨g, 0, none⟩ _ k fun e => ?_
      have e : k = g := e
      subst e
      rcases HAT.out with h | ⟨b, h, hle⟩
      · exact HNEG.out (h ▸ hk)
      · rw [h] at hk; injection hk with hk; simp at hle; omega
    · have := HB.out.size; have h2 := HBAL.out.size; have h3 := HG.out.size; simp only [World.setCell, Array.size_modify]; omega
    · have hkg : k ≠ g := fun e => hnot (.inl e)
      have hko : some k ≠ (Value.slice A xs.length c).ownBlock := fun e => hnot (.inr e.symm)
      have hk2 : k < w2.heap.size := Nat.lt_of_lt_of_le hk HB.out.size
      rw [Below.heap_setCell w3 ⟨g, 0, none⟩ _ k hkg, HG.out.block k (by simp; omega) hko, HBAL.out.block k hk2, HB.out.block k hk]
    · rcases HAT.out with h | ⟨b, h, hle⟩
      · exact .inl h
      · exact .inr ⟨b, h, by have := HB.out.size; simp at hle; omega⟩
end Go.Proofs.YtpibjjhfckopaaaDoor
