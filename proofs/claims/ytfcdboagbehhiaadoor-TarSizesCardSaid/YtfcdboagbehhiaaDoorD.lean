import Derived.Test.YtfcdboagbehhiaaDoorC
import Derived.StillTailTactics
namespace Go.Proofs.YtfcdboagbehhiaaDoor
open Go.RowKit Go.Proofs.YtfcdboagbehhiaaDoorW.PrintWords Go.Proofs.YtfcdboagbehhiaaDoorW.PrintLast Go.Proofs.YtfcdboagbehhiaaDoorW.PrintMore Go.Proofs.YtfcdboagbehhiaaDoor.PTarWhole
set_option linter.unusedVariables false
set_option linter.unusedSimpArgs false

/-- what the walks know of the package-level variables -/
structure Env (w : World) : Prop where
  len : ∃ m, w.cell? ⟨1, 0, none⟩ = some (.int .i64 m)
  tab : Lib.TabIs Tryd.prog w "internal/strconv.uint64pow10" .u64 Lib.pow10Tab
  db : w.cell? ⟨3, 7, none⟩ = some (.int .u8 3)
  hi : 5 < w.heap.size
theorem gPow : Tryd.prog.globalNamed "internal/strconv.uint64pow10" = some 0 := by kernel_rfl
theorem Env.keep {w w' : World} {n : Nat} (h : Env w) (hb : Below n w w') (hn : 5 < n) : Env w' := by
  obtain ⟨⟨m, h1⟩, h2, h3, h4⟩ := h
  refine ⟨⟨m, ?_⟩, ?_, ?_, Nat.lt_of_lt_of_le h4 hb.size⟩
  · exact (hb.cell (p := ⟨1, 0, none⟩) (by show 1 < n; omega)).trans h1
  · unfold Lib.TabIs World.var? at h2 ⊢
    rw [gPow] at h2 ⊢
    rw [Option.bind_some] at h2 ⊢
    rw [hb.block 0 (by omega)]
    exact h2
  · exact (hb.cell (p := ⟨3, 7, none⟩) (by show 3 < n; omega)).trans h3
theorem Env.below {w w' : World} (h : Env w) (hb : Below w.heap.size w w') : Env w' := h.keep hb h.hi

/-! ## path.parts, path.May, path.Parent -/
def slash : ByteArray := ⟨#[47]⟩
def partsL (p : ByteArray) : List ByteArray := Lib.splitB slash 0 (Lib.countB p slash) p
def mayB (p : ByteArray) : Bool := p.toList.isEmpty || (decide ((p.size : Int) ≤ 200) && ((partsL p).all partB && decide (((partsL p).length : Int) ≤ 10)))
theorem partsL_length (p : ByteArray) : (partsL p).length = Lib.countB p slash + 1 := Lib.splitB_all slash (by decide) 0 _ p rfl
theorem ret_vb {v : Value} {a b : Bool} (h : a = b) : Ending.returned (.tuple #[v, .bool a]) = .returned (.tuple #[v, .bool b]) := by rw [h]
def Parts46 (p : ByteArray) (w : World) (e : Ending) (w' : World) : Prop := ∃ v, e = .returned (.tuple #[v, .bool (mayB p)]) ∧ Below w.heap.size w w'
theorem all_upto {l : List ByteArray} {i : Nat} (h : (l.take i).all partB = true) (hi : i < l.length) (h1 : partB (l.getD i ByteArray.empty) = true) : (l.take (i + 1)).all partB = true := by
  rw [List.take_add_one, List.all_append, h]
  rw [List.getD_eq_getElem?_getD, List.getElem?_eq_getElem hi] at h1
  simpa [List.getElem?_eq_getElem hi] using h1
set_option maxHeartbeats 1000000 in
set_option maxRecDepth 100000 in
theorem parts46 (p : ByteArray) (w : World) (hE : Env w) : Calls Tryd.prog 46 #[.string p] w (Parts46 p w) := by
  have HE := Aside0.mk hE
  obtain ⟨m, hm⟩ := hE.len
  have HM := Aside0.mk hm
  clear hm hE
  by_cases he : p.toList = []
  · have he1 : p.toList.isEmpty = true := by rw [he]; rfl
    clear he
    go_enter Tryd.func46, Tryd.ntmps46
    go_wp2
    go_ret2
    exact ⟨.slice none 0 0, by unfold mayB; rw [he1]; rfl, Below.refl _ _⟩
  · have he1 : p.toList.isEmpty = false := by simpa using he
    clear he
    by_cases hs : 200 < p.size
    · have hs1 : decide (200 < (p.size : Int)) = true := decide_eq_true (by omega)
      have hs2 : decide ((p.size : Int) ≤ 200) = false := decide_eq_false (by omega)
      go_enter Tryd.func46, Tryd.ntmps46
      go_wp2
      go_ret2
      exact ⟨.slice none 0 0, by unfold mayB; rw [he1, hs2]; rfl, Below.refl _ _⟩
    · have hs1 : decide (200 < (p.size : Int)) = false := decide_eq_false (by omega)
      have hs2 : decide ((p.size : Int) ≤ 200) = true := decide_eq_true (by omega)
      have HS2 := Aside0.mk hs2
      have HE1 := Aside0.mk he1
      have hsz : p.size ≤ 200 := by omega
      have HSZ := Aside0.mk hsz
      clear hs hs2 hsz
      go_enter Tryd.func46, Tryd.ntmps46
      go_wp2_with fail
      refine (Tryd.strings_Split p slash m _ (by have := HSZ.out; omega) HM.out (by decide)).mono ?_
      rintro e w1 ⟨rfl, hw1⟩
      obtain ⟨L, hL⟩ : ∃ L, L = partsL p := ⟨_, rfl⟩
      have hlen := partsL_length p
      rw [← hL] at hlen
      rw [← hlen]
      have hcell : ∀ j : Nat, j < L.length → w1.cell? ⟨w.heap.size, j, none⟩ = some (.string (L.getD j ByteArray.empty)) := by
        intro j hj
        rw [hw1, blk_cell (blk_new w _)]
        show ((partsL p).map Value.string).toArray[j]? = _
        rw [← hL]
        simp [hj]
      have hb1 : Below w.heap.size w w1 := by rw [hw1]; exact below_alloc (Below.refl _ _) _
      have HCELL := Aside0.mk hcell
      have HB1 := Aside0.mk hb1
      have HLL := Aside0.mk hL
      have hl9 : L.length ≤ 1000 := by
        have := Lib.countB_le slash (by decide) _ p (Nat.le_refl _)
        have := HSZ.out
        omega
      have HL9 := Aside0.mk hl9
      clear hcell hb1 hw1 hL hlen
      go_wp2_with fail
      go_loopg [16] L.length (fun gk v16 wr => ∃ i : Nat, i ≤ L.length ∧ v16 = .int .i64 i ∧ Aside0 (L.length - i ≤ gk) ∧ Aside0 ((L.take i).all partB = true) ∧ w1 = wr)
      case atStart => exact ⟨0, Nat.zero_le _, rfl, ⟨by simp⟩, ⟨by simp⟩, rfl⟩
      case round =>
        obtain ⟨i, hi, rfl, HGK, HA, rfl⟩ := hrel
        rcases Nat.lt_or_eq_of_le hi with hlt | rfl
        · have hc := HCELL.out i hlt
          generalize hq : L.getD i ByteArray.empty = q at hc
          have HQ := Aside0.mk hq
          clear hq
          cases hb : partB q with
          | true =>
            go_wp2_with (go_at_call 62; refine (part62 q _).mono ?_; rintro e w' ⟨rfl, rfl⟩; rw [hb])
            go_roundg (L.length - (i + 1))
            case measure => have := HGK.out; omega
            case rel => exact ⟨i + 1, hlt, by go_num, ⟨Nat.le_refl _⟩, ⟨all_upto HA.out hlt (by rw [HQ.out]; exact hb)⟩, rfl⟩
          | false =>
            go_wp2_with (go_at_call 62; refine (part62 q _).mono ?_; rintro e w' ⟨rfl, rfl⟩; rw [hb])
            go_ret2
            refine ⟨.slice none 0 0, ?_, HB1.out⟩
            have : L.all partB = false := by
              rw [List.all_eq_false]
              exact ⟨L.getD i ByteArray.empty, by rw [List.getD_eq_getElem?_getD, List.getElem?_eq_getElem hlt]; exact List.getElem_mem hlt, by rw [HQ.out, hb]; decide⟩
            unfold mayB
            rw [HE1.out, HS2.out, ← HLL.out, this]
            rfl
        · have ha : L.all partB = true := by have := HA.out; rwa [List.take_length] at this
          go_wp2
          go_ret2
          refine ⟨.slice (some ⟨w.heap.size, 0, none⟩) L.length L.length, ret_vb (a := decide ((L.length : Int) ≤ 10)) ?_, HB1.out⟩
          unfold mayB
          rw [HE1.out, HS2.out, ← HLL.out, ha]
          simp
def May31 (p : ByteArray) (w : World) (e : Ending) (w' : World) : Prop := e = .returned (.bool (mayB p)) ∧ Below w.heap.size w w'
set_option maxRecDepth 100000 in
theorem may31 (p : ByteArray) (w : World) (hE : Env w) : Calls Tryd.prog 31 #[.string p] w fun e w' => e = .returned (.bool (mayB p)) ∧ Below w.heap.size w w' := by
  go_enter Tryd.func31, Tryd.ntmps31
  go_wp2_with (go_at_call 46; refine (parts46 p _ hE).mono ?_; rintro e w1 ⟨v, rfl, hb⟩)
  go_ret
  exact ⟨rfl, hb⟩
/-! ## path.Parent -/
def parentB (p : ByteArray) : ByteArray := p.extract 0 (max (Lib.lastIndexByte p 47) 0).toNat
set_option maxRecDepth 100000 in
theorem parent33 (p : ByteArray) (w : World) (hE : Env w) (hs : p.size ≤ 100000) (hne : p.toList.isEmpty = false) (hm : mayB p = true) : Calls Tryd.prog 33 #[.string p] w fun e w' => e = .returned (.tuple #[.string (parentB p), .bool true]) ∧ Below w.heap.size w w' := by
  have hl0 : 0 ≤ max (Lib.lastIndexByte p 47) 0 := by omega
  have hl1 : max (Lib.lastIndexByte p 47) 0 ≤ (p.size : Int) := by
    rcases Lib.lastIndexByte_spec p 47 with ⟨h, _⟩ | ⟨i, h1, h2, _⟩ <;> omega
  go_enter Tryd.func33, Tryd.ntmps33
  go_wp2_with (first
    | (go_at_call 31; refine (may31 p _ hE).mono ?_; rintro e w1 ⟨rfl, hb⟩; rw [hm])
    | (go_at_call 48; refine (Tryd.strings_LastIndexByte p 47 (by omega) _).mono ?_; rintro e w' ⟨rfl, rfl⟩))
  go_ret2
  exact ⟨rfl, hb⟩
set_option maxRecDepth 100000 in
theorem parent33_empty (p : ByteArray) (w : World) (hne : p.toList.isEmpty = true) : Calls Tryd.prog 33 #[.string p] w fun e w' => e = .returned (.tuple #[.string ⟨#[]⟩, .bool false]) ∧ w = w' := by
  go_enter Tryd.func33, Tryd.ntmps33
  go_wp2
  go_ret2
  exact ⟨rfl, rfl⟩
/-! ## tree.Good -/
def goodB (x : S29) : Bool :=
  mayB x.f0 && (decide ((x.f2.size : Int) ≤ 400) && (if (x.f1 == 1) = true then x.f2.toList.isEmpty else if (x.f1 == 2) = true then true else if (x.f1 == 3) = true then true else if (x.f1 == 4) = true then (!x.f2.toList.isEmpty && decide (Lib.indexByte x.f2.data.toList 0 < 0)) else false))
set_option maxHeartbeats 1000000 in
set_option maxRecDepth 100000 in
theorem good21 (x : S29) (w : World) (hE : Env w) : Calls Tryd.prog 21 #[.agg #[.string x.f0, .int .i64 x.f1, .string x.f2]] w fun e w' => e = .returned (.bool (goodB x)) ∧ Below w.heap.size w w' := by
  have hba : Below w.heap.size w (w.alloc (.cells #[.string x.f0, .int .i64 x.f1, .string x.f2] 29)) := below_alloc (Below.refl _ _) _
  have HBA := Aside0.mk hba
  have HE := Aside0.mk (hE.below hba)
  clear hba hE
  cases hm : mayB x.f0 with
  | false =>
    go_enter Tryd.func21, Tryd.ntmps21
    go_wp2_with (go_at_call 31; refine (may31 x.f0 _ HE.out).mono ?_; rintro e w1 ⟨rfl, hb⟩; rw [hm])
    go_ret
    exact ⟨by unfold goodB; rw [hm]; rfl, below_then HBA.out HBA.out.size hb⟩
  | true =>
    have hn0 := blk_new w (.cells #[.string x.f0, .int .i64 x.f1, .string x.f2] 29)
    have hc1 : (w.alloc (.cells #[.string x.f0, .int .i64 x.f1, .string x.f2] 29)).cell? ⟨w.heap.size, 1, none⟩ = some (.int .i64 x.f1) := by rw [blk_cell hn0]; rfl
    have hc2 : (w.alloc (.cells #[.string x.f0, .int .i64 x.f1, .string x.f2] 29)).cell? ⟨w.heap.size, 2, none⟩ = some (.string x.f2) := by rw [blk_cell hn0]; rfl
    clear hn0
    have HC1 := Aside0.mk hc1
    have HC2 := Aside0.mk hc2
    clear hc1 hc2
    go_enter Tryd.func21, Tryd.ntmps21
    go_wp2_with (first
      | (go_at_call 31; refine (may31 x.f0 _ HE.out).mono ?_; rintro e w1 ⟨rfl, hb⟩; rw [hm]; have HB := Aside0.mk (below_then HBA.out HBA.out.size hb); have hc1 := pw_cell_below hb HC1.out; have hc2 := pw_cell_below hb HC2.out; clear hb)
      | (go_at_call 32; refine (Tryd.strings_IndexByte x.f2 0 _).mono ?_; rintro e w' ⟨rfl, rfl⟩))
    all_goals go_ret
    all_goals refine ⟨ret_bool ?_, HB.out⟩
    all_goals unfold goodB
    all_goals rw [hm]
    all_goals first | (simp [*]; done) | (simp [*]; intros; omega)
end Go.Proofs.YtfcdboagbehhiaaDoor
