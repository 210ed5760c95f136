import Derived.Test.YtpibjjhfckopaaaDoorJ
namespace Go.Proofs.YtpibjjhfckopaaaDoor
open Go.RowKit Go.Proofs.YtpibjjhfckopaaaDoorW.PrintWords Go.Proofs.YtpibjjhfckopaaaDoorW.PrintLast Go.Proofs.YtpibjjhfckopaaaDoorW.PrintMore Go.Proofs.YtpibjjhfckopaaaDoor.PBlobsScript
set_option linter.unusedVariables false

theorem stopHere {p : Prop} (h : Aside0 p) : p := h.out
theorem OwnB.ofR {w1 : World} {base : Nat} {v1 : Value} {zs : List S50} (h1 : Kd.R k50 50 w1 base (fun _ => True) v1 zs) : OwnB w1 base v1 zs := by
  obtain ⟨_, inner, hown, hr⟩ := h1
  have hi : inner = cellsB zs := by
    have key : ∀ (zs : List S50) (cs : List Value), Reps (k50.M w1 base (fun k => True ∧ some k ≠ v1.ownBlock)) 2 zs cs → cs = cellsB zs := by
      intro zs
      induction zs with
      | nil => intro cs h; have := h.1; simp at this; subst this; rfl
      | cons z zs ih =>
        intro cs h
        have h1 := h.1
        have h0 := h.2 0 z rfl
        simp only [Nat.zero_mul, List.drop_zero] at h0
        have ht := k50_openM h0
        have hd := ih (cs.drop 2) ⟨by rw [List.length_drop, h1]; simp; omega, fun j p hj => by
          have := h.2 (j + 1) p (by simpa using hj)
          rw [List.drop_drop]
          rw [show 2 + j * 2 = (j + 1) * 2 from by omega]
          exact this⟩
        rw [← List.take_append_drop 2 cs, ht, hd]
        rfl
    exact key _ _ hr
  rw [hi] at hown
  exact hown

theorem place_at {xs : List S50} (hs : SortedB xs) {d : ByteArray} : ∀ {k : Nat}, k < xs.length → (xs.getD k z50).f0 = d → place xs d = k := by
  induction xs with
  | nil => intro k hk; simp at hk
  | cons x xs ih =>
    intro k hk he
    unfold place
    rw [List.takeWhile_cons]
    have hs1 := (List.pairwise_cons.1 hs).1
    have hs2 : SortedB xs := (List.pairwise_cons.1 hs).2
    cases k with
    | zero =>
      have he : x.f0 = d := by simpa using he
      rw [if_neg (by rw [he]; simpa using ltS_irrefl d)]
      rfl
    | succ k =>
      have hk' : k < xs.length := by simpa using hk
      have he' : (xs.getD k z50).f0 = d := by simpa using he
      have hlt : ltS x.f0 d := by
        rw [← he', List.getD_eq_getElem?_getD, List.getElem?_eq_getElem hk']
        exact hs1 _ (List.getElem_mem hk')
      rw [if_pos (by simpa using hlt)]
      have := ih hs2 hk' he'
      unfold place at this
      simpa using this
theorem getB_of {xs : List S50} (hs : SortedB xs) {d : ByteArray} {k : Nat} {x : S50} (hk : k < xs.length) (hx : xs.getD k z50 = x) (he : x.f0 = d) : getB xs d = (x.f1, true) := by
  have hp : place xs d = k := place_at hs hk (hx ▸ he)
  have hh : hasB xs d = true := by unfold hasB; rw [hp]; exact decide_eq_true ⟨hk, by rw [hx]; exact he⟩
  unfold getB
  rw [if_pos hh, hp, hx]
theorem getB_no {xs : List S50} {d : ByteArray} (h : ∀ j, j < xs.length → (xs.getD j z50).f0 ≠ d) : getB xs d = (⟨#[]⟩, false) := by
  have hh : ¬ hasB xs d = true := fun e => by
    unfold hasB at e
    have e := of_decide_eq_true e
    exact h _ e.1 e.2
  unfold getB
  rw [if_neg hh]

/-- New -/
theorem new7 (w : World) (base : Nat) (hb : base ≤ w.heap.size) :
    Calls Tryd.prog 7 #[] w fun e w' => e = .returned (.pointer (some ⟨w.heap.size, 0, none⟩)) ∧ w' = w.alloc (.cells #[.slice none 0 0] 52) := by
  go_enter Tryd.func7, Tryd.ntmps7
  go_wp2
  go_ret
  exact ⟨rfl, rfl⟩
theorem St.new (w : World) (base t : Nat) (hb : base ≤ w.heap.size) : St (w.alloc (.cells #[.slice none 0 0] t)) base t w.heap.size (.slice none 0 0) [] :=
  ⟨blk_new _ _, hb, OwnB.nil _ _⟩

/-- the reference's Get: the first of that digest -/
theorem refget11 (g : Nat) (v : Value) (xs : List S50) (d : ByteArray) (base : Nat) (w : World) (h : St w base 30 g v xs) (hs : SortedB xs) (hn : xs.length ≤ 1000000) :
    Calls Tryd.prog 11 #[.pointer (some ⟨g, 0, none⟩), .string d] w fun e w' => e = .returned (.tuple #[.string (getB xs d).1, .bool (getB xs d).2]) ∧ Below w.heap.size w w' := by
  have H := Aside0.mk h
  have HN := Aside0.mk hn
  have HS := Aside0.mk hs
  clear h hs
  obtain ⟨A, c, rfl, hl, hr⟩ := H.out.2.2.reads
  have hc : w.cell? ⟨g, 0, none⟩ = some (.slice A xs.length c) := by rw [blk_cell H.out.1]; rfl
  have HR := Aside0.mk hr
  clear hl hr
  go_enter Tryd.func11, Tryd.ntmps11
  go_wp2_with fail
  go_loop [6] (fun vk => ∃ k : Nat, k ≤ xs.length ∧ vk = .int .i64 k ∧ ∀ j, j < k → (xs.getD j z50).f0 ≠ d) (fun vk => xs.length - (intOf vk).toNat)
  case atStart => exact ⟨0, Nat.zero_le _, rfl, fun j hj => absurd hj (Nat.not_lt_zero j)⟩
  case round =>
    obtain ⟨k, hk, rfl, hpre⟩ := hrel
    have HPRE := Aside0.mk hpre
    clear hpre
    rcases Nat.lt_or_eq_of_le hk with hki | rfl
    · obtain ⟨ad, e1, hx0, hx1⟩ := at_T50 HR.out k (by omega) (by omega)
      subst e1
      rw [Int.toNat_natCast] at hx0 hx1
      obtain ⟨x, hx⟩ : ∃ x, x = rd_T50 xs k := ⟨_, rfl⟩
      rw [← hx] at hx0 hx1
      have HX := Aside0.mk hx
      clear hx
      by_cases he : x.f0 = d
      · have heq : (x.f0.toList == d.toList) = true := (beq_iff _ _).2 he
        have HE := Aside0.mk he
        clear he
        have HG : Aside0 (getB xs d = (x.f1, true)) := ⟨getB_of HS.out hki (by have := HX.out; unfold rd_T50 at this; rw [Int.toNat_natCast] at this; exact this.symm) HE.out⟩
        go_wp2
        go_ret2
        exact ⟨by rw [HG.out]; rfl, Below.refl _ _⟩
      · have heq : (x.f0.toList == d.toList) = false := by
          cases hb : (x.f0.toList == d.toList) with
          | false => rfl
          | true => exact absurd ((beq_iff _ _).1 hb) he
        have HE := Aside0.mk he
        clear he
        go_wp2
        go_round
        case rel => exact ⟨k + 1, by omega, by go_num, fun j hj => by
          rcases Nat.lt_succ_iff_lt_or_eq.1 hj with h | rfl
          · exact HPRE.out j h
          · have := HX.out; unfold rd_T50 at this; rw [Int.toNat_natCast] at this; rw [← this]; exact HE.out⟩
        case measure => simp [intOf]; omega
    · have HG : Aside0 (getB xs d = (⟨#[]⟩, false)) := ⟨getB_no HPRE.out⟩
      go_wp2
      go_ret2
      exact ⟨by rw [HG.out]; rfl, Below.refl _ _⟩

theorem OwnB.split {w : World} {base : Nat} {v : Value} {xs : List S50} (h : OwnB w base v xs) : (v = .slice none 0 0 ∧ xs = []) ∨ ∃ b c, v = .slice (some ⟨b, 0, none⟩) xs.length c ∧ base ≤ b := by
  obtain ⟨hl, h | ⟨g, cap, cur, e, h1, _⟩⟩ := h
  · exact .inl ⟨h.1, List.length_eq_zero_iff.1 h.2⟩
  · exact .inr ⟨g, cap, e, h1⟩

set_option maxRecDepth 100000 in
/-- slices.Clone -/
theorem clone23 (v : Value) (xs : List S50) (base : Nat) (w : World) (h : OwnB w base v xs) (hn : xs.length ≤ 1000000) :
    Calls Tryd.prog 23 #[v] w fun e w' => ∃ v', e = .returned v' ∧ OwnB w' w.heap.size v' xs ∧ Below w.heap.size w w' := by
  rcases h.split with ⟨rfl, rfl⟩ | ⟨b, c, rfl, hb⟩
  · have hq : ∀ w : World, (binOp .eql 28 (.slice none 0 0) (.slice none 0 0)).run Tryd.prog w = .ok (.bool true) w := fun _ => rfl
    go_enter Tryd.func23, Tryd.ntmps23
    go_wp2
    go_ret
    exact ⟨_, rfl, OwnB.nil _ _, Below.refl _ _⟩
  · obtain ⟨A, c1, e, hl, hr⟩ := h.reads
    injection e with e1 e2 e3
    have HR := Aside0.mk hr
    have HN := Aside0.mk hn
    rw [← e1] at HR
    clear hr hl h hn e1 e2 e3
    have hq : ∀ w : World, (binOp .eql 28 (.slice (some ⟨b, 0, none⟩) xs.length c) (.slice none 0 0)).run Tryd.prog w = .ok (.bool false) w := fun _ => rfl
    go_enter Tryd.func23, Tryd.ntmps23
    go_wp2_with (at_builtin; refine stopHere ?_)
    refine ⟨?_⟩
    refine Kd.R_append_rows (P := Tryd.prog) (Rr := k50.K (w.alloc (.cells #[] 50))) k50 (w0 := w) w.heap.size rfl (.tmp 5) (.tmp 6) 28 50 _ 32 rfl Tryd.underlying28 info50 rfl (by decide) (by decide) (.slice (some ⟨w.heap.size, 0, none⟩) 0 0) [] xs (some ⟨b, 0, none⟩) xs.length c (fun _ => True) (fun _ => False) rfl rfl ?_ ?_ ?_ (fun k hk => hk.elim) (fun k _ => trivial) ?_ ?_ ?_ ?_
    · exact OwnB.R (xs := []) ⟨rfl, .inr ⟨_, 0, #[], rfl, Nat.le_refl _, blk_new _ _, Nat.le_refl _, Nat.zero_le _, rfl, rfl⟩⟩ (fun _ _ => trivial)
    · exact Kd.C_below HR.out (below_alloc (Below.refl _ _) _)
    · exact fun x cs h => by rw [k50_open h]; exact k50_mkM _ _ _ _
    · exact below_alloc (Below.refl _ _) _
    · exact (below_alloc (Below.refl _ _) _).size
    · have := HN.out; simp; omega
    · intro v1 w1 h1 h2 h3 h4
      have HO := Aside0.mk (OwnB.ofR h1)
      have HB := Aside0.mk h2
      clear h1 h2 h3 h4
      go_wp2
      go_ret
      exact ⟨_, rfl, HO.out, HB.out⟩

/-- List: a copy -/
theorem list12 (g : Nat) (v : Value) (xs : List S50) (base : Nat) (w : World) (h : St w base 52 g v xs) (hn : xs.length ≤ 1000000) :
    Calls Tryd.prog 12 #[.pointer (some ⟨g, 0, none⟩)] w fun e w' => ∃ v', e = .returned v' ∧ OwnB w' w.heap.size v' xs ∧ Below w.heap.size w w' := by
  have H := Aside0.mk h
  have HN := Aside0.mk hn
  clear h hn
  obtain ⟨A, c, rfl, hl, hr⟩ := H.out.2.2.reads
  have hc : w.cell? ⟨g, 0, none⟩ = some (.slice A xs.length c) := by rw [blk_cell H.out.1]; rfl
  clear hl hr
  go_enter Tryd.func12, Tryd.ntmps12
  go_wp2_with fail
  refine (clone23 _ _ _ _ H.out.2.2 HN.out).mono ?_
  rintro e w1 ⟨v', rfl, ho, hb⟩
  have HO := Aside0.mk ho
  have HB := Aside0.mk hb
  clear ho hb
  go_wp2
  go_ret
  exact ⟨_, rfl, HO.out, HB.out⟩

/-! ## Load of one blob whose digest is wrong -/
theorem load1_27 (f0 f1 : ByteArray) (w : World) (hd : f1.size ≤ 140737488355328) (hg3 : w.cell? ⟨3, 15, none⟩ = some (.int .u8 4)) :
    Calls Tryd.prog 27 #[.agg #[.string f0, .string f1]] w fun e w' => e = .returned (.bool (!(f0.toList == (dig f1).toList))) ∧ Below w.heap.size w w' := by
  have HD := Aside0.mk hd
  have HG3 := Aside0.mk hg3
  clear hd hg3
  obtain ⟨d, hdd⟩ : ∃ d, d = dig f1 := ⟨_, rfl⟩
  rw [← hdd]
  have HDD := Aside0.mk hdd
  clear hdd
  go_enter Tryd.func27, Tryd.ntmps27
  go_wp2_with fail
  have hba : Below w.heap.size w (w.alloc (Obj.cells #[Value.string f0, Value.string f1] 50)) := below_alloc (Below.refl _ _) _
  have HBA := Aside0.mk hba
  have hc0 : (w.alloc (Obj.cells #[Value.string f0, Value.string f1] 50)).cell? ⟨w.heap.size, 0, none⟩ = some (.string f0) := by rw [blk_cell (blk_new w _)]; rfl
  have HC0 := Aside0.mk hc0
  have hc1 : (w.alloc (Obj.cells #[Value.string f0, Value.string f1] 50)).cell? ⟨w.heap.size, 1, none⟩ = some (.string f1) := by rw [blk_cell (blk_new w _)]; rfl
  have HG3' := Aside0.mk (pw_cell_below hba HG3.out)
  clear hba
  go_region_with (go_at_call 17; refine (digest17 _ _ HD.out ?_).mono ?_; exact HG3'.out; rintro e w2 ⟨rfl, hb2⟩; rw [← HDD.out]; have hc2 : w2.cell? ⟨w.heap.size, 0, none⟩ = some (.string f0) := pw_cell_below hb2 HC0.out)
  all_goals go_wp2
  all_goals go_ret
  all_goals refine ⟨rfl, ?_⟩
  all_goals exact below_then (below_drew HBA.out) (below_drew HBA.out).size hb2

section
variable (b : Nat) (f0 f1 : ByteArray) (w : World) (h0 : w.cell? ⟨b, 0, none⟩ = some (.string f0)) (h1 : w.cell? ⟨b, 1, none⟩ = some (.string f1)) (hd : f1.size ≤ 140737488355328) (hg3 : w.cell? ⟨3, 15, none⟩ = some (.int .u8 4)) (hne : f0 ≠ dig f1)
include h0 h1 hd hg3 hne
theorem index_no :
    Calls Tryd.prog 38 #[.slice (some ⟨b, 0, none⟩) 1 1, .func (.func 27) #[] #[]] w fun e w' => e = .returned (.int .i64 0) ∧ Below w.heap.size w w' := by
  have hq : (!(f0.toList == (dig f1).toList)) = true := by
    have : ¬ (f0.toList == (dig f1).toList) = true := fun h => hne ((beq_iff _ _).1 h)
    simpa using this
  have HQ := Aside0.mk hq
  have HG3 := Aside0.mk hg3
  clear hg3 hq hne
  go_enter Tryd.func38, Tryd.ntmps38
  go_wp2_with fail
  go_loop [5, 8] (fun v5 v8 => v5 = undef ∧ v8 = .int .i64 0) (fun v5 v8 => 0)
  case atStart => exact ⟨rfl, rfl⟩
  case round =>
    obtain ⟨rfl, rfl⟩ := hrel
    go_wp2_with (go_at_call 27; refine (load1_27 f0 f1 _ hd HG3.out).mono ?_; rintro e w1 ⟨rfl, hb1⟩; rw [HQ.out])
    all_goals go_ret
    all_goals exact ⟨rfl, hb1⟩
theorem contains_no :
    Calls Tryd.prog 26 #[.slice (some ⟨b, 0, none⟩) 1 1, .func (.func 27) #[] #[]] w fun e w' => e = .returned (.bool true) ∧ Below w.heap.size w w' := by
  go_enter Tryd.func26, Tryd.ntmps26
  go_wp2_with (go_at_call 38; refine (index_no b f0 f1 _ h0 h1 hd hg3 hne).mono ?_; rintro e w1 ⟨rfl, hb1⟩)
  go_ret
  exact ⟨rfl, hb1⟩
theorem load_no :
    Calls Tryd.prog 19 #[.slice (some ⟨b, 0, none⟩) 1 1] w fun e w' => e = .returned (.tuple #[.pointer none, .int .i64 10]) ∧ Below w.heap.size w w' := by
  go_enter Tryd.func19, Tryd.ntmps19
  go_wp2_with (go_at_call 26; refine (contains_no b f0 f1 _ h0 h1 hd hg3 hne).mono ?_; rintro e w1 ⟨rfl, hb1⟩)
  go_ret2
  exact ⟨rfl, hb1⟩
end
end Go.Proofs.YtpibjjhfckopaaaDoor
