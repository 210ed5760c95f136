import Derived.Test.YtpibjjhfckopaaaDoorJ
import Derived.Deep.RegionLaw
namespace Go.Proofs.YtpibjjhfckopaaaDoor
open Go.RowKit Go.Proofs.YtpibjjhfckopaaaDoorW.PrintWords Go.Proofs.YtpibjjhfckopaaaDoorW.PrintLast Go.Proofs.YtpibjjhfckopaaaDoorW.PrintMore Go.Proofs.YtpibjjhfckopaaaDoor.PBlobsScript
set_option linter.unusedVariables false

theorem place_lt' {xs : List S50} {d : ByteArray} : ∀ {k : Nat}, k < place xs d → ltS (xs.getD k z50).f0 d := by
  induction xs with
  | nil => intro k h; simp [place] at h
  | cons x xs ih =>
    intro k h
    unfold place at h
    rw [List.takeWhile_cons] at h
    by_cases hx : ltS x.f0 d
    · rw [if_pos (by simpa using hx)] at h
      cases k with
      | zero => simpa using hx
      | succ k =>
        have := ih (k := k) (by unfold place; simp at h; exact h)
        simpa using this
    · rw [if_neg (by simpa using hx)] at h
      simp at h
theorem place_lt {xs : List S50} {d : ByteArray} {k : Nat} (h : k < place xs d) : Op.bytesLess (rd_T50 xs k).f0.toList d.toList = true := by
  rw [less_iff]
  unfold rd_T50
  rw [Int.toNat_natCast]
  exact place_lt' h
theorem place_end {xs : List S50} {d : ByteArray} (h : place xs d < xs.length) : Op.bytesLess (rd_T50 xs (place xs d)).f0.toList d.toList = false := by
  have : ¬ ltS (rd_T50 xs (place xs d)).f0 d := by
    unfold rd_T50
    rw [Int.toNat_natCast]
    induction xs with
    | nil => simp at h
    | cons x xs ih =>
      unfold place at h ⊢
      rw [List.takeWhile_cons] at h ⊢
      by_cases hx : ltS x.f0 d
      · rw [if_pos (by simpa using hx)] at h ⊢
        have := ih (by unfold place; simp at h; exact h)
        unfold place at this
        simpa using this
      · rw [if_neg (by simpa using hx)]
        simpa using hx
  have e := less_iff (rd_T50 xs (place xs d)).f0 d
  cases hb : Op.bytesLess (rd_T50 xs (place xs d)).f0.toList d.toList with
  | false => rfl
  | true => exact absurd (e.1 hb) this

theorem hasB_eq {xs : List S50} {d : ByteArray} (h : hasB xs d = true) : ((rd_T50 xs (place xs d)).f0.toList == d.toList) = true := by
  unfold hasB at h
  rw [beq_iff]
  unfold rd_T50
  rw [Int.toNat_natCast]
  exact (of_decide_eq_true h).2
theorem hasB_ne {xs : List S50} {d : ByteArray} (h : hasB xs d = false) (hl : place xs d < xs.length) : ((rd_T50 xs (place xs d)).f0.toList == d.toList) = false := by
  unfold hasB at h
  have h := of_decide_eq_false h
  cases hb : ((rd_T50 xs (place xs d)).f0.toList == d.toList) with
  | false => rfl
  | true =>
    rw [beq_iff] at hb
    unfold rd_T50 at hb
    rw [Int.toNat_natCast] at hb
    exact absurd ⟨hl, hb⟩ h
set_option maxHeartbeats 2000000 in
set_option maxRecDepth 100000 in
theorem refput9_old (g : Nat) (v : Value) (xs : List S50) (data : ByteArray) (base : Nat) (w : World) (h : St w base 30 g v xs) (hn : xs.length ≤ 100000) (hd : data.size ≤ 140737488355328) (hf : hasB xs (dig data) = true) :
    Calls Tryd.prog 9 #[.pointer (some ⟨g, 0, none⟩), .string data] w fun e w' => e = .returned (.tuple #[.string (putB xs data).2.1, .int .i64 (putB xs data).2.2]) ∧ StAfter w base 30 g v (putB xs data).1 w' := by
  have H := Aside0.mk h
  have HN := Aside0.mk hn
  have HD := Aside0.mk hd
  clear h hd
  obtain ⟨A, c, rfl, hl, hr⟩ := H.out.2.2.reads
  have hc : w.cell? ⟨g, 0, none⟩ = some (.slice A xs.length c) := by rw [blk_cell H.out.1]; rfl
  have HC := Aside0.mk hc
  have HR := Aside0.mk hr
  clear hl hr hc
  obtain ⟨d, hdd⟩ : ∃ d, d = dig data := ⟨_, rfl⟩
  rw [← hdd] at hf
  have HDD := Aside0.mk hdd
  obtain ⟨i, hi⟩ : ∃ i, i = place xs d := ⟨_, rfl⟩
  have HI := Aside0.mk hi
  have hlt := hasB_lt hf
  rw [← hi] at hlt
  have HF := Aside0.mk hf
  clear hdd hi hf
  go_enter Tryd.func9, Tryd.ntmps9
  go_wp2_with fail
  refine (digest22 _ _ HD.out).mono ?_
  rintro e w1 ⟨rfl, hb1⟩
  rw [← HDD.out]
  have hc1 := pw_cell_below hb1 HC.out
  have HB1 := Aside0.mk hb1
  clear hb1
  go_wp2_with fail
  go_loop [7] (fun vk => ∃ k : Nat, k ≤ i ∧ vk = .int .i64 k) (fun vk => i - (intOf vk).toNat)
  case atStart => exact ⟨0, Nat.zero_le _, rfl⟩
  case round =>
    obtain ⟨k, hk, rfl⟩ := hrel
    obtain ⟨ad, e1, hx0, hx1⟩ := at_T50 (Kd.C_below HR.out HB1.out) k (by omega) (by omega)
    subst e1
    rw [Int.toNat_natCast] at hx0 hx1
    rcases Nat.lt_or_eq_of_le hk with hki | rfl
    · have hle := place_lt (HI.out ▸ hki)
      generalize rd_T50 xs k = x at hx0 hx1 hle
      go_wp2
      go_round
      case rel => exact ⟨k + 1, by omega, by go_num⟩
      case measure => simp [intOf]; omega
    · have hle : Op.bytesLess (rd_T50 xs k).f0.toList d.toList = false := by rw [HI.out]; exact place_end (by rw [← HI.out]; exact hlt)
      have heq : ((rd_T50 xs k).f0.toList == d.toList) = true := by rw [HI.out]; exact hasB_eq HF.out
      have hpb : putB xs data = if (rd_T50 xs k).f1 = data then (xs, d, 0) else (xs, ⟨#[]⟩, 9) := by
        unfold putB rd_T50
        rw [← HDD.out, if_pos HF.out, ← HI.out, Int.toNat_natCast]
      have HP := Aside0.mk hpb
      clear hpb
      generalize rd_T50 xs k = x at hx0 hx1 hle heq HP
      by_cases hsame : x.f1 = data
      · have hne : (!x.f1.toList == data.toList) = false := by rw [hsame]; simp
        have HS := Aside0.mk hsame
        clear hsame
        go_wp2
        go_ret2
        exact ⟨by rw [HP.out, if_pos HS.out]; rfl, by rw [HP.out, if_pos HS.out]; exact StAfter.of_below H.out HB1.out⟩
      · have hne : (!x.f1.toList == data.toList) = true := by
          have : ¬ (x.f1.toList == data.toList) = true := fun h => hsame ((beq_iff _ _).1 h)
          simpa using this
        have HS := Aside0.mk hsame
        clear hsame
        go_wp2
        go_ret2
        exact ⟨by rw [HP.out, if_neg HS.out]; rfl, by rw [HP.out, if_neg HS.out]; exact StAfter.of_below H.out HB1.out⟩

section
variable {ops : Array Oper} {o : Oper} {a : Act} {W w0 : World} {K : Act → World → Prop} {Q : Exit → Act → World → Prop}
/-- append(v, x...), x a row of blobs that is read: a step of a region that draws -/
theorem step_rowsB (hgd : o.guard = none) (s x : Operand) (ho : o.op = .call { callee := .builtin .append, args := #[s, x], argTypes := #[28, 28] }) (base : Nat) (v : Value) (xs ys : List S50) (A : Option Addr) (m c : Nat) (hs : a.eval s = v) (hx : a.eval x = .slice A m c)
    (HO : OwnB W base v xs) (HR : Kd.C k50 W A m ys) (HB : Below base w0 W) (hbase : base ≤ W.heap.size) (hl : xs.length + m ≤ 1000000)
    (h : ∀ v1 w1, Aside0 (OwnB w1 base v1 (xs ++ ys)) → Aside0 (Below base w0 w1) → Aside0 (W.grownBy w1 v.ownBlock) → K (a.put o.dst v1) w1) :
    if Region.wanted o (yielded ops a.tmps) = true then Oper.wp Tryd.prog o a W K Q else K (a.put o.dst undef) W := by
  refine Kd.R_append_rows_step (P := Tryd.prog) (Rr := k50.K W) k50 (w0 := w0) base (by simp [Region.wanted, hgd]) s x 28 50 _ 32 ho Tryd.underlying28 info50 rfl (by decide) (by decide) v xs ys A m c (fun _ => True) (fun _ => False) hs hx (HO.R (fun _ _ => trivial)) HR (fun x cs h => by rw [k50_open h]; exact k50_mkM _ _ _ _) (fun k hk => hk.elim) (fun k _ => trivial) HB hbase (by omega) ?_
  intro v1 w1 h1 h2 h3 h4
  refine h v1 w1 ⟨?_⟩ ⟨h2⟩ ⟨h3⟩
  obtain ⟨_, inner, hown, hr⟩ := h1
  have hi : inner = cellsB (xs ++ ys) := by
    have hl2 := hr.1
    have key : ∀ (zs : List S50) (cs : List Value), Reps (k50.M w1 base (fun k => True ∧ some k ≠ v1.ownBlock)) 2 zs cs → cs = cellsB zs := by
      intro zs
      induction zs with
      | nil => intro cs h; have := h.1; simp at this; subst this; rfl
      | cons z zs ih =>
        intro cs h
        have h1 := h.1
        have h0 := h.2 0 z rfl
        simp only [Nat.zero_mul, List.drop_zero] at h0
        have ht := k50_openM h0
        have hd := ih (cs.drop 2) ⟨by rw [List.length_drop, h1]; simp; omega, fun j p hj => by
          have := h.2 (j + 1) p (by simpa using hj)
          rw [List.drop_drop]
          rw [show 2 + j * 2 = (j + 1) * 2 from by omega]
          exact this⟩
        rw [← List.take_append_drop 2 cs, ht, hd]
        rfl
    exact key _ _ hr
  rw [hi] at hown
  exact hown
end
theorem insB_pos (xs : List S50) (i : Nat) (p : S50) : 0 < (insB xs i p).length := by unfold insB; simp <;> omega
theorem store_fresh {w wC : World} {base t g : Nat} {v v' : Value} {xs ys : List S50} (h : St w base t g v xs) (hbase : base ≤ w.heap.size) (hb : Below w.heap.size w wC) (ho : OwnB wC w.heap.size v' ys) (hy : 0 < ys.length) :
    StAfter w base t g v ys (wC.setCell ⟨g, 0, none⟩ v') := by
  obtain ⟨b, cap, tail, rfl, hle, h2, h3, h4, h5, h6⟩ := Go.Gen.ownsRow_open ho hy
  have hg : g < w.heap.size := blk_lt h.1
  have hwg : wC.heap[g]? = some (.cells #[v] t (0, 0)) := by rw [hb.block g hg]; exact h.1
  have hbg : b ≠ g := by omega
  have hO : OwnB wC base (.slice (some ⟨b, 0, none⟩) ys.length cap) ys := Go.Gen.ownsRow_mk (Nat.le_trans hbase hle) h2 h3 h4 h5 h6
  refine ⟨_, ⟨by simpa using blk_set hwg 0 (.slice (some ⟨b, 0, none⟩) ys.length cap), h.2.1, hO.move fun k hk => ?_⟩, ⟨?_, fun k hk hnot => ?_⟩, .inr ⟨b, rfl, hle⟩, hb.os, hb.tape, hb.output⟩
  · refine Below.heap_setCell wC ⟨g, 0, none⟩ _ k fun e => ?_
    have hk : some b = some k := hk
    injection hk with hk
    have e : k = g := e
    omega
  · have := hb.size; simp only [World.setCell, Array.size_modify]; omega
  · have hkg : k ≠ g := fun e => hnot (.inl e)
    rw [Below.heap_setCell wC ⟨g, 0, none⟩ _ k hkg, hb.block k hk]
theorem StAfter.after_below {w w1 w2 : World} {base t g : Nat} {v : Value} {ys : List S50} (hb : Below w.heap.size w w1) (h : StAfter w1 base t g v ys w2) : StAfter w base t g v ys w2 := by
  obtain ⟨v', h1, ⟨hs, hk⟩, h3, h4, h5, h6⟩ := h
  refine ⟨v', h1, ⟨Nat.le_trans hb.size hs, fun k hkl hn => ?_⟩, ?_, h4.trans hb.os, h5.trans hb.tape, h6.trans hb.output⟩
  · rw [hk k (Nat.lt_of_lt_of_le hkl hb.size) hn, hb.block k hkl]
  · rcases h3 with h3 | ⟨b, h3, h4⟩
    · exact .inl h3
    · exact .inr ⟨b, h3, Nat.le_trans hb.size h4⟩
theorem alloc_sz (W : World) (o : Obj) : (W.alloc o).heap.size = W.heap.size + 1 := Array.size_push _
theorem Kd.C_one50 {W : World} {b : Nat} {d data : ByteArray} (h : W.heap[b]? = some (.cells #[.string d, .string data] 50 (0, 0))) : Kd.C k50 W (some ⟨b, 0, none⟩) 1 [⟨d, data⟩] := by
  have ho : OwnB W 0 (.slice (some ⟨b, 0, none⟩) 1 1) [⟨d, data⟩] := Go.Gen.ownsRow_mk (tail := []) (Nat.zero_le _) (by simpa [cellsB] using h) (Nat.le_refl _) (by decide) rfl rfl
  obtain ⟨A, c, e, _, hr⟩ := ho.reads
  injection e with e1 e2 e3
  rw [← e1] at hr
  exact hr
set_option maxHeartbeats 4000000 in
set_option maxRecDepth 100000 in
theorem refput9_in (g : Nat) (v : Value) (xs : List S50) (data : ByteArray) (base : Nat) (w : World) (h : St w base 30 g v xs) (hn : xs.length ≤ 100000) (hd : data.size ≤ 140737488355328) (hf : hasB xs (dig data) = false) (hbase : base ≤ w.heap.size) (hplace : place xs (dig data) < xs.length) :
    Calls Tryd.prog 9 #[.pointer (some ⟨g, 0, none⟩), .string data] w fun e w' => e = .returned (.tuple #[.string (putB xs data).2.1, .int .i64 (putB xs data).2.2]) ∧ StAfter w base 30 g v (putB xs data).1 w' := by
  have H := Aside0.mk h
  have HN := Aside0.mk hn
  have HD := Aside0.mk hd
  have HBA := Aside0.mk hbase
  clear h hd hbase
  obtain ⟨A, c, rfl, hl, hr⟩ := H.out.2.2.reads
  have hc : w.cell? ⟨g, 0, none⟩ = some (.slice A xs.length c) := by rw [blk_cell H.out.1]; rfl
  have HC := Aside0.mk hc
  have HR := Aside0.mk hr
  have HLc := Aside0.mk hl
  clear hl hr hc
  obtain ⟨d, hdd⟩ : ∃ d, d = dig data := ⟨_, rfl⟩
  rw [← hdd] at hf hplace
  have HDD := Aside0.mk hdd
  obtain ⟨i, hi⟩ : ∃ i, i = place xs d := ⟨_, rfl⟩
  have HI := Aside0.mk hi
  rw [← hi] at hplace
  have HPL := Aside0.mk hplace
  clear hplace
  have hile : i ≤ xs.length := by rw [hi]; exact place_le _ _
  have HF := Aside0.mk hf
  have HP : Aside0 (putB xs data = (insB xs i ⟨d, data⟩, d, 0)) := ⟨by unfold putB; rw [← hdd, if_neg (by rw [hf]; simp), ← hi]⟩
  clear hdd hi hf
  go_enter Tryd.func9, Tryd.ntmps9
  go_wp2_with fail
  refine (digest22 _ _ HD.out).mono ?_
  rintro e w1 ⟨rfl, hb1⟩
  rw [← HDD.out]
  have hc1 := pw_cell_below hb1 HC.out
  have HB1 := Aside0.mk hb1
  clear hb1
  go_wp2_with fail
  go_loop [7] (fun vk => ∃ k : Nat, k ≤ i ∧ vk = .int .i64 k) (fun vk => i - (intOf vk).toNat)
  case atStart => exact ⟨0, Nat.zero_le _, rfl⟩
  case round =>
    obtain ⟨k, hk, rfl⟩ := hrel
    rcases Nat.lt_or_eq_of_le hk with hki | rfl
    · obtain ⟨ad, e1, hx0, hx1⟩ := at_T50 (Kd.C_below HR.out HB1.out) k (by omega) (by omega)
      subst e1
      rw [Int.toNat_natCast] at hx0 hx1
      have hle := place_lt (HI.out ▸ hki)
      generalize rd_T50 xs k = x at hx0 hx1 hle
      go_wp2
      go_round
      case rel => exact ⟨k + 1, by omega, by go_num⟩
      case measure => simp [intOf]; omega
    · have H1 := Aside0.mk (H.out.below HB1.out)
      have hlt := HPL.out
      · obtain ⟨ad, e1, hx0, hx1⟩ := at_T50 (Kd.C_below HR.out HB1.out) k (by omega) (by omega)
        subst e1
        rw [Int.toNat_natCast] at hx0 hx1
        have hle : Op.bytesLess (rd_T50 xs k).f0.toList d.toList = false := by rw [HI.out]; exact place_end (by rw [← HI.out]; exact hlt)
        have heq : ((rd_T50 xs k).f0.toList == d.toList) = false := by rw [HI.out]; exact hasB_ne HF.out (by rw [← HI.out]; exact hlt)
        generalize rd_T50 xs k = x at hx0 hx1 hle heq
        go_wp2_with fail
        clear hx0 hx1 hle heq
        obtain ⟨A0, hA0⟩ : ∃ A0, A0 = some ad := ⟨_, rfl⟩
        rw [← hA0] at hc1 H H1 HR HC ⊢
        have HA0 := Aside0.mk hA0
        clear hA0
        have hU := Tryd.underlying28
        have h67 : ∀ W, (Instr.slice 28 (.slice A0 xs.length c) none (some (.int .i64 (k : Int))) none).run Tryd.prog W = .ok (.slice A0 k c) W := fun W => Go.Gen.slice_toN 28 50 Tryd.underlying28 2 size50 A0 xs.length c k (by have := HLc.out; omega) .i64 W
        obtain ⟨A1, h79, hr79⟩ : ∃ A1, (∀ W, (Instr.slice 28 (.slice A0 xs.length c) (some (.int .i64 (k : Int))) none none).run Tryd.prog W = .ok (.slice A1 (xs.length - k) (c - k)) W) ∧ Kd.C k50 w1 A1 (xs.drop k).length (xs.drop k) :=
          ⟨_, fun W => Go.Gen.slice_fromN 28 50 Tryd.underlying28 2 size50 A0 xs.length c k hile .i64 W, Kd.C_drop (Kd.C_below HR.out HB1.out) hile HLc.out⟩
        have HR79 := Aside0.mk hr79
        have hl67 : (xs.take k).length = k := by rw [List.length_take]; omega
        have hl79 : (xs.drop k).length = xs.length - k := List.length_drop
        have HR67 := Aside0.mk (Kd.C_take (Kd.C_below HR.out HB1.out) hile)
        rw [hl67] at HR67
        rw [hl79] at HR79
        have HL67 := Aside0.mk hl67
        have HL79 := Aside0.mk hl79
        have hglt : g < w1.heap.size := blk_lt H1.out.1
        have hf1 : w1.frozen? ⟨g, 0, none⟩ = false := blk_frozen H1.out.1 0
        have HN1 := Aside0.mk hn
        have HX7 : Aside0 ((xs.take k).length + 1 ≤ 1000000) := ⟨by omega⟩
        have HZ7 : Aside0 ((xs.take k ++ [(⟨d, data⟩ : S50)]).length + (xs.length - k) ≤ 1000000) := ⟨by rw [List.length_append, List.length_singleton]; omega⟩
        clear hr79 hl67 hl79 hn
        go_region_law (first
          | (refine step_rowsB (w0 := w1) rfl (.const (.slice none 0 0)) (.tmp 67) rfl w1.heap.size (.slice none 0 0) [] (xs.take k) A0 k c rfl rfl ?x0 ?x1 ?x5 ?x6 ?x7 ?_
             case x0 => exact OwnB.nil _ _
             case x1 => exact Kd.C_below HR67.out (by repeat (first | exact Below.refl _ _ | apply below_drew | refine below_alloc ?_ _))
             case x5 => exact (by repeat (first | exact Below.refl _ _ | apply below_drew | refine below_alloc ?_ _))
             case x6 => simp
             case x7 => exact Nat.le_trans (Nat.le_of_eq (Nat.zero_add k)) (Nat.le_trans hile (Nat.le_trans HN1.out (by decide)))
             intro v68 wA hoA hbA hgA
             have hcA : wA.cell? ⟨g, 0, none⟩ = some (.slice A0 xs.length c) := (hbA.out.cell (p := ⟨g, 0, none⟩) hglt).trans hc1
             have hcA' : (wA.alloc (.cells #[.string d, .string data] 50 (0, 0))).cell? ⟨g, 0, none⟩ = some (.slice A0 xs.length c) := pw_cell_below (below_alloc (Below.refl _ _) _) hcA)
          | (refine step_rowsB (w0 := w1) rfl (.tmp 68) (.tmp 72) rfl w1.heap.size v68 (xs.take k) [⟨d, data⟩] _ 1 1 rfl rfl ?y0 ?y1 ?y5 ?y6 ?y7 ?_
             case y0 => first | exact hoA.out | exact hoA.out.below (by refine below_alloc ?_ _; exact Below.refl _ _)
             case y1 =>
               refine Kd.C_one50 ?_
               first
                 | exact blk_new _ _
                 | exact (hgA.out.block w1.heap.size (Nat.lt_of_lt_of_eq (Nat.lt_succ_self _) (alloc_sz w1 _).symm) (fun h => by cases h)).trans (blk_new _ _)
             case y5 => first | exact hbA.out | (refine below_alloc ?_ _; exact hbA.out)
             case y6 => first | exact hbA.out.size | (rw [alloc_sz]; exact Nat.le_succ_of_le hbA.out.size)
             case y7 => exact HX7.out
             intro v73 wB hoB hbB hgB
             have hcB : wB.cell? ⟨g, 0, none⟩ = some (.slice A0 xs.length c) := (hbB.out.cell (p := ⟨g, 0, none⟩) hglt).trans hc1)
          | (refine step_rowsB (w0 := w1) rfl (.tmp 73) (.tmp 79) rfl w1.heap.size v73 (xs.take k ++ [⟨d, data⟩]) (xs.drop k) A1 (xs.length - k) (c - k) rfl rfl ?z0 ?z1 ?z5 ?z6 ?z7 ?_
             case z0 => exact hoB.out
             case z1 => exact Kd.C_below HR79.out hbB.out
             case z5 => exact hbB.out
             case z6 => exact hbB.out.size
             case z7 => exact HZ7.out
             intro v80 wC hoC hbC hgC
             obtain ⟨A', c', e80, hl', hr'⟩ := hoC.out.reads
             obtain ⟨n', hn'⟩ : ∃ n', n' = (xs.take k ++ [(⟨d, data⟩ : S50)] ++ xs.drop k).length := ⟨_, rfl⟩
             rw [← hn'] at e80
             clear hr' hl' hn'
             subst e80
             have hcC : wC.cell? ⟨g, 0, none⟩ = some (.slice A0 xs.length c) := (hbC.out.cell (p := ⟨g, 0, none⟩) hglt).trans hc1
             have hfC : wC.frozen? ⟨g, 0, none⟩ = false := (hbC.out.frozen (p := ⟨g, 0, none⟩) hglt).trans hf1))
        all_goals (go_wp2)
        all_goals (
          go_ret2
          refine ⟨by rw [HP.out]; rfl, ?_⟩
          rw [HP.out]
          have hst : St w1 base 30 g (.slice (some ad) xs.length c) xs := by rw [← HA0.out]; exact H1.out
          refine StAfter.after_below HB1.out (store_fresh hst (Nat.le_trans HBA.out HB1.out.size) hbC.out ?_ (insB_pos _ _ _))
          have e : insB xs k ⟨d, data⟩ = xs.take k ++ [⟨d, data⟩] ++ xs.drop k := by simp [insB]
          show OwnB wC _ _ (insB xs k ⟨d, data⟩)
          rw [e]
          exact hoC.out)
set_option maxHeartbeats 4000000 in
set_option maxRecDepth 100000 in
theorem refput9_end (g : Nat) (v : Value) (xs : List S50) (data : ByteArray) (base : Nat) (w : World) (h : St w base 30 g v xs) (hn : xs.length ≤ 100000) (hd : data.size ≤ 140737488355328) (hf : hasB xs (dig data) = false) (hbase : base ≤ w.heap.size) (hplace : ¬ place xs (dig data) < xs.length) :
    Calls Tryd.prog 9 #[.pointer (some ⟨g, 0, none⟩), .string data] w fun e w' => e = .returned (.tuple #[.string (putB xs data).2.1, .int .i64 (putB xs data).2.2]) ∧ StAfter w base 30 g v (putB xs data).1 w' := by
  have H := Aside0.mk h
  have HN := Aside0.mk hn
  have HD := Aside0.mk hd
  have HBA := Aside0.mk hbase
  clear h hd hbase
  obtain ⟨A, c, rfl, hl, hr⟩ := H.out.2.2.reads
  have hc : w.cell? ⟨g, 0, none⟩ = some (.slice A xs.length c) := by rw [blk_cell H.out.1]; rfl
  have HC := Aside0.mk hc
  have HR := Aside0.mk hr
  have HLc := Aside0.mk hl
  clear hl hr hc
  obtain ⟨d, hdd⟩ : ∃ d, d = dig data := ⟨_, rfl⟩
  rw [← hdd] at hf hplace
  have HDD := Aside0.mk hdd
  obtain ⟨i, hi⟩ : ∃ i, i = place xs d := ⟨_, rfl⟩
  have HI := Aside0.mk hi
  rw [← hi] at hplace
  have HPL := Aside0.mk hplace
  clear hplace
  have hile : i ≤ xs.length := by rw [hi]; exact place_le _ _
  have HF := Aside0.mk hf
  have HP : Aside0 (putB xs data = (insB xs i ⟨d, data⟩, d, 0)) := ⟨by unfold putB; rw [← hdd, if_neg (by rw [hf]; simp), ← hi]⟩
  clear hdd hi hf
  go_enter Tryd.func9, Tryd.ntmps9
  go_wp2_with fail
  refine (digest22 _ _ HD.out).mono ?_
  rintro e w1 ⟨rfl, hb1⟩
  rw [← HDD.out]
  have hc1 := pw_cell_below hb1 HC.out
  have HB1 := Aside0.mk hb1
  clear hb1
  go_wp2_with fail
  go_loop [7] (fun vk => ∃ k : Nat, k ≤ i ∧ vk = .int .i64 k) (fun vk => i - (intOf vk).toNat)
  case atStart => exact ⟨0, Nat.zero_le _, rfl⟩
  case round =>
    obtain ⟨k, hk, rfl⟩ := hrel
    rcases Nat.lt_or_eq_of_le hk with hki | rfl
    · obtain ⟨ad, e1, hx0, hx1⟩ := at_T50 (Kd.C_below HR.out HB1.out) k (by omega) (by omega)
      subst e1
      rw [Int.toNat_natCast] at hx0 hx1
      have hle := place_lt (HI.out ▸ hki)
      generalize rd_T50 xs k = x at hx0 hx1 hle
      go_wp2
      go_round
      case rel => exact ⟨k + 1, by omega, by go_num⟩
      case measure => simp [intOf]; omega
    · have H1 := Aside0.mk (H.out.below HB1.out)
      have hlt := HPL.out
      · have hkx : ¬ (k < xs.length) := hlt
        go_wp2_with fail
        obtain ⟨A0, hA0⟩ : ∃ A0, A0 = A := ⟨_, rfl⟩
        rw [← hA0] at hc1 H H1 HR HC ⊢
        have HA0 := Aside0.mk hA0
        clear hA0
        have hU := Tryd.underlying28
        have h67 : ∀ W, (Instr.slice 28 (.slice A0 xs.length c) none (some (.int .i64 (k : Int))) none).run Tryd.prog W = .ok (.slice A0 k c) W := fun W => Go.Gen.slice_toN 28 50 Tryd.underlying28 2 size50 A0 xs.length c k (by have := HLc.out; omega) .i64 W
        obtain ⟨A1, h79, hr79⟩ : ∃ A1, (∀ W, (Instr.slice 28 (.slice A0 xs.length c) (some (.int .i64 (k : Int))) none none).run Tryd.prog W = .ok (.slice A1 (xs.length - k) (c - k)) W) ∧ Kd.C k50 w1 A1 (xs.drop k).length (xs.drop k) :=
          ⟨_, fun W => Go.Gen.slice_fromN 28 50 Tryd.underlying28 2 size50 A0 xs.length c k hile .i64 W, Kd.C_drop (Kd.C_below HR.out HB1.out) hile HLc.out⟩
        have HR79 := Aside0.mk hr79
        have hl67 : (xs.take k).length = k := by rw [List.length_take]; omega
        have hl79 : (xs.drop k).length = xs.length - k := List.length_drop
        have HR67 := Aside0.mk (Kd.C_take (Kd.C_below HR.out HB1.out) hile)
        rw [hl67] at HR67
        rw [hl79] at HR79
        have HL67 := Aside0.mk hl67
        have HL79 := Aside0.mk hl79
        have hglt : g < w1.heap.size := blk_lt H1.out.1
        have hf1 : w1.frozen? ⟨g, 0, none⟩ = false := blk_frozen H1.out.1 0
        have HN1 := Aside0.mk hn
        have HX7 : Aside0 ((xs.take k).length + 1 ≤ 1000000) := ⟨by omega⟩
        have HZ7 : Aside0 ((xs.take k ++ [(⟨d, data⟩ : S50)]).length + (xs.length - k) ≤ 1000000) := ⟨by rw [List.length_append, List.length_singleton]; omega⟩
        clear hr79 hl67 hl79 hn
        go_region_law (first
          | (refine step_rowsB (w0 := w1) rfl (.const (.slice none 0 0)) (.tmp 67) rfl w1.heap.size (.slice none 0 0) [] (xs.take k) A0 k c rfl rfl ?x0 ?x1 ?x5 ?x6 ?x7 ?_
             case x0 => exact OwnB.nil _ _
             case x1 => exact Kd.C_below HR67.out (by repeat (first | exact Below.refl _ _ | apply below_drew | refine below_alloc ?_ _))
             case x5 => exact (by repeat (first | exact Below.refl _ _ | apply below_drew | refine below_alloc ?_ _))
             case x6 => simp
             case x7 => exact Nat.le_trans (Nat.le_of_eq (Nat.zero_add k)) (Nat.le_trans hile (Nat.le_trans HN1.out (by decide)))
             intro v68 wA hoA hbA hgA
             have hcA : wA.cell? ⟨g, 0, none⟩ = some (.slice A0 xs.length c) := (hbA.out.cell (p := ⟨g, 0, none⟩) hglt).trans hc1
             have hcA' : (wA.alloc (.cells #[.string d, .string data] 50 (0, 0))).cell? ⟨g, 0, none⟩ = some (.slice A0 xs.length c) := pw_cell_below (below_alloc (Below.refl _ _) _) hcA)
          | (refine step_rowsB (w0 := w1) rfl (.tmp 68) (.tmp 72) rfl w1.heap.size v68 (xs.take k) [⟨d, data⟩] _ 1 1 rfl rfl ?y0 ?y1 ?y5 ?y6 ?y7 ?_
             case y0 => first | exact hoA.out | exact hoA.out.below (by refine below_alloc ?_ _; exact Below.refl _ _)
             case y1 =>
               refine Kd.C_one50 ?_
               first
                 | exact blk_new _ _
                 | exact (hgA.out.block w1.heap.size (Nat.lt_of_lt_of_eq (Nat.lt_succ_self _) (alloc_sz w1 _).symm) (fun h => by cases h)).trans (blk_new _ _)
             case y5 => first | exact hbA.out | (refine below_alloc ?_ _; exact hbA.out)
             case y6 => first | exact hbA.out.size | (rw [alloc_sz]; exact Nat.le_succ_of_le hbA.out.size)
             case y7 => exact HX7.out
             intro v73 wB hoB hbB hgB
             have hcB : wB.cell? ⟨g, 0, none⟩ = some (.slice A0 xs.length c) := (hbB.out.cell (p := ⟨g, 0, none⟩) hglt).trans hc1)
          | (refine step_rowsB (w0 := w1) rfl (.tmp 73) (.tmp 79) rfl w1.heap.size v73 (xs.take k ++ [⟨d, data⟩]) (xs.drop k) A1 (xs.length - k) (c - k) rfl rfl ?z0 ?z1 ?z5 ?z6 ?z7 ?_
             case z0 => exact hoB.out
             case z1 => exact Kd.C_below HR79.out hbB.out
             case z5 => exact hbB.out
             case z6 => exact hbB.out.size
             case z7 => exact HZ7.out
             intro v80 wC hoC hbC hgC
             obtain ⟨A', c', e80, hl', hr'⟩ := hoC.out.reads
             obtain ⟨n', hn'⟩ : ∃ n', n' = (xs.take k ++ [(⟨d, data⟩ : S50)] ++ xs.drop k).length := ⟨_, rfl⟩
             rw [← hn'] at e80
             clear hr' hl' hn'
             subst e80
             have hcC : wC.cell? ⟨g, 0, none⟩ = some (.slice A0 xs.length c) := (hbC.out.cell (p := ⟨g, 0, none⟩) hglt).trans hc1
             have hfC : wC.frozen? ⟨g, 0, none⟩ = false := (hbC.out.frozen (p := ⟨g, 0, none⟩) hglt).trans hf1))
        all_goals (go_wp2)
        all_goals (
          go_ret2
          refine ⟨by rw [HP.out]; rfl, ?_⟩
          rw [HP.out]
          have hst : St w1 base 30 g (.slice A xs.length c) xs := by rw [← HA0.out]; exact H1.out
          refine StAfter.after_below HB1.out (store_fresh hst (Nat.le_trans HBA.out HB1.out.size) hbC.out ?_ (insB_pos _ _ _))
          have e : insB xs k ⟨d, data⟩ = xs.take k ++ [⟨d, data⟩] ++ xs.drop k := by simp [insB]
          show OwnB wC _ _ (insB xs k ⟨d, data⟩)
          rw [e]
          exact hoC.out)
theorem refput9_new (g : Nat) (v : Value) (xs : List S50) (data : ByteArray) (base : Nat) (w : World) (h : St w base 30 g v xs) (hn : xs.length ≤ 100000) (hd : data.size ≤ 140737488355328) (hf : hasB xs (dig data) = false) (hbase : base ≤ w.heap.size) :
    Calls Tryd.prog 9 #[.pointer (some ⟨g, 0, none⟩), .string data] w fun e w' => e = .returned (.tuple #[.string (putB xs data).2.1, .int .i64 (putB xs data).2.2]) ∧ StAfter w base 30 g v (putB xs data).1 w' := by
  by_cases hp : place xs (dig data) < xs.length
  · exact refput9_in g v xs data base w h hn hd hf hbase hp
  · exact refput9_end g v xs data base w h hn hd hf hbase hp
end Go.Proofs.YtpibjjhfckopaaaDoor
