import Derived.Test.YtpibjjhfckopaaaDoorG
import Derived.Test.YtpibjjhfckopaaaDoorPBlobsScriptx1
import Derived.WalkSpells
import Derived.Lib.Overlaps
import Derived.WalkLawsBesides
namespace Go.Proofs.YtpibjjhfckopaaaDoor
open Go.RowKit Go.Proofs.YtpibjjhfckopaaaDoorW.PrintWords Go.Proofs.YtpibjjhfckopaaaDoorW.PrintLast Go.Proofs.YtpibjjhfckopaaaDoorW.PrintMore Go.Proofs.YtpibjjhfckopaaaDoor.PBlobsScript
set_option linter.unusedVariables false
set_option linter.unusedSimpArgs false

theorem size50 : (Tryd.prog.info? 50).map (·.size) = some 2 := by kernel_rfl
/-- what an insertion leaves -/
def Inserted (w : World) (base : Nat) (v : Value) (n : Nat) (xs : List Value) (e : Ending) (w' : World) : Prop :=
  ∃ v', e = .returned v' ∧ w'.ownsRow base 50 2 v' (n + 1) xs ∧ w.grownBy w' v.ownBlock ∧ (v'.ownBlock = v.ownBlock ∨ ∃ b, v'.ownBlock = some b ∧ w.heap.size ≤ b)

set_option maxHeartbeats 1000000 in
set_option maxRecDepth 100000 in
theorem insert_end (A : Option Addr) (c n : Nat) (xs news : List Value) (bv : Nat) (base : Nat) (w : World) (hown : w.ownsRow base 50 2 (.slice A n c) n xs) (hnews : news.length = 2) (h1 : ∀ u ∈ news, u.oneCell' = true)
    (hbv : w.heap[bv]? = some (.cells news.toArray 50 (0, 0))) (hbase : base ≤ w.heap.size) (hn : n ≤ 1000000) :
    Calls Tryd.prog 21 #[.slice A n c, .int .i64 n, .slice (some ⟨bv, 0, none⟩) 1 1] w (Inserted w base (.slice A n c) n (xs ++ news)) := by
  have HO := Aside0.mk hown
  have HN := Aside0.mk hnews
  have HV := Aside0.mk hbv
  have H1 := Aside0.mk h1
  clear hown hnews hbv h1
  obtain ⟨u12, hu12⟩ : ∃ u, ∀ W, (Instr.slice 28 (.slice A n c) (some (.int .i64 n)) none none).run Tryd.prog W = .ok u W := ⟨_, fun W => Go.Gen.slice_fromN 28 50 Tryd.underlying28 2 size50 A n c n (Nat.le_refl _) .i64 W⟩
  obtain ⟨i0, hi, hz0, hz1, hz2⟩ := info_parts info50
  go_enter Tryd.func21, Tryd.ntmps21
  go_wp2_with (at_builtin; refine wpList_append_own_at _ rfl (.tmp 23) (.tmp 24) 28 rfl base 50 i0 _ 2 32 Tryd.underlying28 hi hz0 hz1 hz2 rfl (by decide) _ _ _ rfl HO.out ⟨bv, 0, none⟩ 1 1 news rfl ?c1 ?c2 ?c3 ?c4 ?c5 ?c6 ?_)
  case c1 => rw [HN.out]
  case c2 => exact fun j u hu => by rw [add_plain, blk_cell HV.out]; simpa using hu
  case c3 => exact H1.out
  case c4 => unfold maxLen; omega
  case c5 => omega
  case c6 => exact hbase
  intro v1 w1 ho hg _ hat
  have HO1 := Aside0.mk ho
  have HG := Aside0.mk hg
  have HA := Aside0.mk hat
  clear ho hg hat
  go_wp2
  go_ret
  refine ⟨v1, rfl, HO1.out, HG.out, ?_⟩
  rcases HA.out with h | h
  · exact .inl h
  · exact .inr ⟨_, h, Nat.le_refl _⟩

theorem shape_of {w : World} {g : Nat} {cs : Array Value} {t : TypeId} {fr : Nat × Nat} (h : w.heap[g]? = some (.cells cs t fr)) : w.shape? g = some (t, cs.size) := by
  simp [World.shape?, h]
theorem overlaps_no {w : World} {g bv : Nat} {cs1 cs2 : Array Value} (h1 : w.heap[bv]? = some (.cells cs1 50 (0, 0))) (h2 : w.heap[g]? = some (.cells cs2 50 (0, 0))) (hne : bv ≠ g) (h0 : cs2.size ≠ 0) (o la ca lb cb : Nat) :
    (callFunc 31 #[.slice (some ⟨bv, 0, none⟩) la ca, .slice (some ⟨g, o, none⟩) lb cb]).run Tryd.prog w = .ok (.value (.bool false)) w := by
  rw [run_callFunc_extern Tryd.func31 (by kernel_rfl) (by kernel_rfl) (by kernel_rfl) (e := Extern.SlicesOverlaps.overlaps #[28, 28] #[4]) (by kernel_rfl),
    Lib.run_overlaps_apart w 28 4 50 Tryd.underlying28 2 Tryd.sizeOf50 ⟨bv, 0, none⟩ ⟨g, o, none⟩ la ca lb cb hne 50 50 _ _ (shape_of h1) (shape_of h2) h0 (blk_frozen h1 0) (blk_frozen h1 _)]
  rfl
theorem splice_shift {X1 X2 tail news : List Value} {k : Nat} (h1 : X1.length = k) (hn : news.length = 2) (h2 : 2 ≤ X2.length) :
    splice (splice (X1 ++ X2 ++ tail) (k + 2) X2) k news = X1 ++ news ++ X2 ++ tail.drop 2 := by
  subst h1
  have e1 : (X1 ++ X2 ++ tail).take (X1.length + 2) = X1 ++ X2.take 2 := by
    rw [List.append_assoc, List.take_length_add_append, List.take_append_of_le_length h2]
  have e2 : (X1 ++ X2 ++ tail).drop (X1.length + 2 + X2.length) = tail.drop 2 := by
    rw [show X1.length + 2 + X2.length = (X1 ++ X2).length + 2 from by rw [List.length_append]; omega, List.drop_length_add_append]
  have e3 : splice (X1 ++ X2 ++ tail) (X1.length + 2) X2 = X1 ++ (X2.take 2 ++ (X2 ++ tail.drop 2)) := by
    unfold splice; rw [e1, e2]; simp
  rw [e3]
  unfold splice
  rw [List.take_left, hn, List.drop_length_add_append]
  have e4 : (X2.take 2).length = 2 := by rw [List.length_take]; omega
  have e5 : ∀ Y Z : List Value, Y.length = 2 → (Y ++ Z).drop 2 = Z := fun Y Z h => by rw [← h, List.drop_left]
  rw [e5 _ _ e4]
  simp

theorem take_drop_cells {xs : List Value} (i n : Nat) (hl : xs.length = n * 2) (hi : i ≤ n) : (xs.take (i * 2)).length = i * 2 ∧ (xs.drop (i * 2)).length = (n - i) * 2 := by
  constructor
  · rw [List.length_take]; omega
  · rw [List.length_drop]; omega

set_option maxHeartbeats 1000000 in
set_option maxRecDepth 100000 in
theorem insert_shift (g c n i : Nat) (xs tail news : List Value) (bv : Nat) (base : Nat) (w : World) (hi : i < n) (hroom : n + 1 ≤ c) (hx : xs.length = n * 2) (hl : (xs ++ tail).length = c * 2) (hg : w.heap[g]? = some (.cells (xs ++ tail).toArray 50 (0, 0))) (hnews : news.length = 2) (h1 : ∀ u ∈ news, u.oneCell' = true) (h1x : ∀ u ∈ xs, u.oneCell' = true)
    (hbv : w.heap[bv]? = some (.cells news.toArray 50 (0, 0))) (hne : bv ≠ g) (hbase : base ≤ g) (hc : c ≤ maxLen) (hn : n ≤ 1000000) :
    Calls Tryd.prog 21 #[.slice (some ⟨g, 0, none⟩) n c, .int .i64 i, .slice (some ⟨bv, 0, none⟩) 1 1] w (Inserted w base (.slice (some ⟨g, 0, none⟩) n c) n (xs.take (i * 2) ++ news ++ xs.drop (i * 2))) := by
  have HX := Aside0.mk hx
  have HL := Aside0.mk hl
  have HG := Aside0.mk hg
  have HN := Aside0.mk hnews
  have HV := Aside0.mk hbv
  have H1 := Aside0.mk h1
  have HX1 := Aside0.mk h1x
  clear hx hl hnews hbv h1 hg h1x
  have hu12 : ∀ W, (Instr.slice 28 (.slice (some ⟨g, 0, none⟩) n c) (some (.int .i64 i)) none none).run Tryd.prog W = .ok (.slice (some ⟨g, i * 2, none⟩) (n - i) (c - i)) W := fun W => by
    rw [Go.Gen.slice_fromN 28 50 Tryd.underlying28 2 size50 _ n c i (by omega) .i64 W, if_neg (by omega)]
    simp [add_plain]
  unfold maxLen at hc
  go_enter Tryd.func21, Tryd.ntmps21
  have hov := overlaps_no HV.out HG.out hne (by rw [List.size_toArray, HL.out]; omega)
  go_wp2_with fail
  have hs73 : ∀ W, (Instr.slice 28 (.slice (some ⟨g, 0, none⟩) (n + 1) c) (some (.int .i64 ((i : Int) + 1))) none none).run Tryd.prog W = .ok (.slice (some ⟨g, (i + 1) * 2, none⟩) (n - i) (c - (i + 1))) W := fun W => by
    have := Go.Gen.slice_fromN 28 50 Tryd.underlying28 2 size50 (some ⟨g, 0, none⟩) (n + 1) c (i + 1) (by omega) .i64 W
    rw [if_neg (by omega)] at this
    rw [show ((i : Int) + 1) = ((i + 1 : Nat) : Int) from by omega, this]
    simp [add_plain]
  have hs76 : ∀ W, (Instr.slice 28 (.slice (some ⟨g, 0, none⟩) (n + 1) c) (some (.int .i64 (i : Int))) none none).run Tryd.prog W = .ok (.slice (some ⟨g, i * 2, none⟩) (n + 1 - i) (c - i)) W := fun W => by
    rw [Go.Gen.slice_fromN 28 50 Tryd.underlying28 2 size50 (some ⟨g, 0, none⟩) (n + 1) c i (by omega) .i64 W, if_neg (by omega)]
    simp [add_plain]
  have hwr : IntKind.i64.wrap ((i : Int) + 1) = (i : Int) + 1 := IntWalk.i64_in _ (by omega)
  go_still_tail 8, (by kernel_rfl)
  change wpList _ _ _ _ _ w.drew
  have hcells : ∀ j u, (xs.drop (i * 2))[j]? = some u → w.drew.cell? ((⟨g, i * 2, none⟩ : Addr).add j) = some u := fun j u hu => by
    have e : (⟨g, i * 2, none⟩ : Addr).add j = ⟨g, i * 2 + j, none⟩ := by unfold Addr.add; split <;> simp_all
    rw [e, blk_cell (blk_drew HG.out), List.getElem?_toArray]
    rw [List.getElem?_drop] at hu
    rw [List.getElem?_append_left (by have := (List.getElem?_eq_some_iff.1 hu).1; omega)]
    exact hu
  have hld : (xs.drop (i * 2)).length = (n - i) * 2 := by rw [List.length_drop, HX.out]; omega
  have hm1 : Nat.min (n + 1 - i) (n - i) = n - i := Nat.min_eq_right (by omega)
  refine Go.Gen.wpList_copyN rfl (.tmp 73) (.tmp 76) 28 28 rfl 50 2 Tryd.underlying28 size50 _ _ rfl rfl _ _ (fun ty => Go.Gen.run_copy_rowN w.drew 28 28 ty 50 g ((i + 1) * 2) (n - i) (c - (i + 1)) ⟨g, i * 2, none⟩ (n + 1 - i) (c - i) (xs ++ tail) 50 (xs.drop (i * 2)) 2 Tryd.underlying28 size50 (blk_drew HG.out) (by rw [hm1, hld]) hcells (by rw [HL.out, hld]; omega) (fun u hu => HX1.out u (List.mem_of_mem_drop hu))) ?_
  obtain ⟨L1, hL1⟩ : ∃ L1, L1 = splice (xs ++ tail) ((i + 1) * 2) (xs.drop (i * 2)) := ⟨_, rfl⟩
  rw [← hL1]
  obtain ⟨W1, hW1⟩ : ∃ W1, W1 = w.drew.setRow g L1.toArray := ⟨_, rfl⟩
  rw [← hW1]
  have HG1 : Aside0 (W1.heap[g]? = some (.cells L1.toArray 50 (0, 0))) := ⟨by rw [hW1]; exact setRow_heap _ _ _ _ _ _ (blk_drew HG.out)⟩
  have HV1 : Aside0 (W1.heap[bv]? = some (.cells news.toArray 50 (0, 0))) := ⟨by rw [hW1, setRow_other _ _ _ _ hne]; exact blk_drew HV.out⟩
  have HB1 : Aside0 (w.grownBy W1 (some g)) := ⟨by rw [hW1]; exact Go.Gen.grownBy_setRow (Go.Gen.grownBy_drew (Go.Gen.grownBy_refl w _)) _⟩
  have HL1 := Aside0.mk hL1
  clear hW1 hL1 hcells hld hov hs73 hwr
  have hm2 : Nat.min 1 (n + 1 - i) = 1 := Nat.min_eq_left (by omega)
  have hlL1 : L1.length = c * 2 := by
    rw [HL1.out, length_splice _ _ _ (by rw [HL.out, List.length_drop, HX.out]; omega), HL.out]
  have HLL := Aside0.mk hlL1
  clear hlL1
  go_wp2_with fail
  rw [Go.Gen.run_copy_rowN W1 28 28 3 50 g (i * 2) (n + 1 - i) (c - i) ⟨bv, 0, none⟩ 1 1 L1 50 news 2 Tryd.underlying28 size50 HG1.out (by rw [hm2, HN.out]) (fun j u hu => by rw [add_plain, blk_cell HV1.out]; simpa using hu) (by rw [HLL.out, HN.out]; omega) H1.out]
  obtain ⟨W2, hW2⟩ : ∃ W2, W2 = W1.setRow g (splice L1 (i * 2) news).toArray := ⟨_, rfl⟩
  rw [← hW2]
  have HG2 : Aside0 (W2.heap[g]? = some (.cells (splice L1 (i * 2) news).toArray 50 (0, 0))) := ⟨by rw [hW2]; exact setRow_heap _ _ _ _ _ _ HG1.out⟩
  have HB2 : Aside0 (w.grownBy W2 (some g)) := ⟨by rw [hW2]; exact Go.Gen.grownBy_setRow HB1.out _⟩
  clear hW2
  go_wp2
  go_ret
  have hld : (xs.drop (i * 2)).length = (n - i) * 2 := by rw [List.length_drop, HX.out]; omega
  have htd := List.take_append_drop (i * 2) xs
  have hs := splice_shift (X1 := xs.take (i * 2)) (X2 := xs.drop (i * 2)) (tail := tail) (news := news) (k := i * 2) (by rw [List.length_take, HX.out]; omega) HN.out (by omega)
  rw [htd] at hs
  have hg2 := HG2.out
  rw [HL1.out, show (i + 1) * 2 = i * 2 + 2 from by omega, hs] at hg2
  have hlen : (xs.take (i * 2) ++ news ++ xs.drop (i * 2)).length = (n + 1) * 2 := by
    simp only [List.length_append, List.length_take, hld, HN.out, HX.out]; omega
  refine ⟨_, rfl, Go.Gen.ownsRow_mk (tail := tail.drop 2) hbase hg2 hroom (by unfold maxLen; omega) hlen ?_, HB2.out, .inl rfl⟩
  have := HL.out
  rw [List.length_append, HX.out] at this
  rw [List.length_append, hlen, List.length_drop]
  omega

theorem splice_grow {X1 X2 Z news rest : List Value} {k : Nat} (h1 : X1.length = k) (hn : news.length = 2) (hZ : Z.length = 2 + X2.length) :
    splice (splice (X1 ++ (Z ++ rest)) k news) (k + 2) X2 = X1 ++ news ++ X2 ++ rest := by
  subst h1
  have e1 : splice (X1 ++ (Z ++ rest)) X1.length news = X1 ++ news ++ (Z.drop 2 ++ rest) := by
    unfold splice
    rw [List.take_left, hn, List.drop_length_add_append, List.drop_append_of_le_length (by omega)]
    simp
  rw [e1]
  unfold splice
  have e2 : (X1 ++ news).length = X1.length + 2 := by rw [List.length_append, hn]
  rw [← e2, List.take_left, List.drop_length_add_append]
  have e3 : (Z.drop 2).length = X2.length := by rw [List.length_drop]; omega
  rw [← e3, List.drop_left]
  simp

theorem grow_zeros (g c n i : Nat) (X : List Value) (w : World) (hi : i < n) (hroom : c < n + 1) (hlt : X.length = i * 2) (hcells : ∀ j u, X[j]? = some u → w.cell? ((⟨g, 0, none⟩ : Addr).add j) = some u) (hn : n ≤ 1000000) :
    ∃ (C : Nat) (Z R : List Value) (W1 : World), (∀ ty, (Builtin.append_ #[28, 3] ty #[.slice (some ⟨g, 0, none⟩) i c, .int .i64 ((n : Int) + 1 - (i : Int))]).run Tryd.prog w = .ok (.slice (some ⟨w.heap.size, 0, none⟩) (n + 1) C) W1) ∧
      n + 1 ≤ C ∧ C ≤ maxLen ∧ Z.length = (n + 1 - i) * 2 ∧ R.length = (C - (n + 1)) * 2 ∧ W1.heap[w.heap.size]? = some (.cells (X ++ (Z ++ R)).toArray 50 (0, 0)) ∧ Below w.heap.size w W1 := by
  have em : (n : Int) + 1 - (i : Int) = ((n + 1 - i : Nat) : Int) := by omega
  have e : i + (n + 1 - i) = n + 1 := by omega
  have happ := fun ty => Go.Gen.append_zeros_new w 28 3 ty 50 _ 2 32 Tryd.underlying28 Tryd.underlying3 info50 rfl (by decide) (by decide) ⟨g, 0, none⟩ i c (n + 1 - i) X hlt hcells (by omega) (by omega) .i64 (by omega)
  rw [e] at happ
  refine ⟨grownCap w (n + 1) c 50, (Builtin.zeroCells (Value.agg #[.string ⟨#[]⟩, .string ⟨#[]⟩]).cells (n + 1 - i)).toList, (Builtin.zeroCells (Value.agg #[.string ⟨#[]⟩, .string ⟨#[]⟩]).cells (grownCap w (n + 1) c 50 - (n + 1))).toList, _, fun ty => by rw [em]; exact happ ty, grownCap_ge w _ _ _, grownCap_le_maxLen w _ _ _ (by unfold maxLen; omega), ?_, ?_, ?_, ?_⟩
  · rw [Array.length_toList, size_zeroCells]; rfl
  · rw [Array.length_toList, size_zeroCells]; rfl
  · refine (heap_alloc_new w.drew _).trans ?_
    congr 2
    apply Array.ext'
    simp
  · exact (below_drew (Below.refl _ _)).alloc (Nat.le_refl _) _

set_option maxHeartbeats 1000000 in
set_option maxRecDepth 100000 in
theorem insert_grow (g c n i : Nat) (xs tail news : List Value) (bv : Nat) (base : Nat) (w : World) (hi : i < n) (hroom : c < n + 1) (hnc : n ≤ c) (hx : xs.length = n * 2) (hg : w.heap[g]? = some (.cells (xs ++ tail).toArray 50 (0, 0))) (hnews : news.length = 2) (h1 : ∀ u ∈ news, u.oneCell' = true) (h1x : ∀ u ∈ xs, u.oneCell' = true)
    (hbv : w.heap[bv]? = some (.cells news.toArray 50 (0, 0))) (hne : bv ≠ g) (hbase : base ≤ w.heap.size) (hn : n ≤ 1000000) :
    Calls Tryd.prog 21 #[.slice (some ⟨g, 0, none⟩) n c, .int .i64 i, .slice (some ⟨bv, 0, none⟩) 1 1] w (Inserted w base (.slice (some ⟨g, 0, none⟩) n c) n (xs.take (i * 2) ++ news ++ xs.drop (i * 2))) := by
  have HX := Aside0.mk hx
  have HG := Aside0.mk hg
  have HN := Aside0.mk hnews
  have HV := Aside0.mk hbv
  have H1 := Aside0.mk h1
  have HX1 := Aside0.mk h1x
  have hblt : bv < w.heap.size := blk_lt hbv
  clear hx hnews hbv h1 hg h1x
  have hu12 : ∀ W, (Instr.slice 28 (.slice (some ⟨g, 0, none⟩) n c) (some (.int .i64 i)) none none).run Tryd.prog W = .ok (.slice (some ⟨g, i * 2, none⟩) (n - i) (c - i)) W := fun W => by
    rw [Go.Gen.slice_fromN 28 50 Tryd.underlying28 2 size50 _ n c i (by omega) .i64 W, if_neg (by omega)]
    simp [add_plain]
  have hu34 : ∀ W, (Instr.slice 28 (.slice (some ⟨g, 0, none⟩) n c) none (some (.int .i64 i)) none).run Tryd.prog W = .ok (.slice (some ⟨g, 0, none⟩) i c) W := fun W => Go.Gen.slice_toN 28 50 Tryd.underlying28 2 size50 _ n c i (by omega) .i64 W
  have hlt : (xs.take (i * 2)).length = i * 2 := by rw [List.length_take, HX.out]; omega
  have hcells : ∀ j u, (xs.take (i * 2))[j]? = some u → w.cell? ((⟨g, 0, none⟩ : Addr).add j) = some u := fun j u hu => by
    rw [add_plain, blk_cell HG.out, List.getElem?_toArray]
    rw [List.getElem?_take] at hu
    split at hu
    · rw [List.getElem?_append_left (by have := (List.getElem?_eq_some_iff.1 hu).1; omega)]; exact hu
    · cases hu
  obtain ⟨C, Z, R, W1, happ, hCge, hCm, hZl, hRl, hW1, hb1⟩ := grow_zeros g c n i (xs.take (i * 2)) w hi hroom hlt hcells hn
  have HAP := Aside0.mk happ
  have HG1 := Aside0.mk hW1
  have HB1 := Aside0.mk hb1
  have HZ := Aside0.mk hZl
  have HR := Aside0.mk hRl
  have HLT := Aside0.mk hlt
  clear hW1 hZl hRl hlt hcells hb1 happ
  have hs43 : ∀ W, (Instr.slice 28 (.slice (some ⟨w.heap.size, 0, none⟩) (n + 1) C) (some (.int .i64 i)) none none).run Tryd.prog W = .ok (.slice (some ⟨w.heap.size, i * 2, none⟩) (n + 1 - i) (C - i)) W := fun W => by
    rw [Go.Gen.slice_fromN 28 50 Tryd.underlying28 2 size50 _ (n + 1) C i (by omega) .i64 W, if_neg (by omega)]
    simp [add_plain]
  unfold maxLen at hCm
  go_enter Tryd.func21, Tryd.ntmps21
  go_wp2_with (at_builtin; refine Go.Gen.wpList_appendN rfl (.tmp 34) (.tmp 39) 28 3 rfl _ _ rfl rfl _ _ HAP.out ?_)
  have hCl : (xs.take (i * 2) ++ (Z ++ R)).length = C * 2 := by rw [List.length_append, List.length_append, HLT.out, HZ.out, HR.out]; omega
  have hm2 : Nat.min 1 (n + 1 - i) = 1 := Nat.min_eq_left (by omega)
  have HV1 : Aside0 (W1.heap[bv]? = some (.cells news.toArray 50 (0, 0))) := ⟨by rw [HB1.out.block bv hblt]; exact HV.out⟩
  have HGo : Aside0 (W1.heap[g]? = some (.cells (xs ++ tail).toArray 50 (0, 0))) := ⟨by rw [HB1.out.block g (blk_lt HG.out)]; exact HG.out⟩
  rw [Go.Gen.run_copy_rowN W1 28 28 3 50 w.heap.size (i * 2) (n + 1 - i) (C - i) ⟨bv, 0, none⟩ 1 1 _ 50 news 2 Tryd.underlying28 size50 HG1.out (by rw [hm2, HN.out]) (fun j u hu => by rw [add_plain, blk_cell HV1.out]; simpa using hu) (by rw [hCl, HN.out]; omega) H1.out]
  obtain ⟨L1, hL1⟩ : ∃ L1, L1 = splice (xs.take (i * 2) ++ (Z ++ R)) (i * 2) news := ⟨_, rfl⟩
  rw [← hL1]
  obtain ⟨W2, hW2⟩ : ∃ W2, W2 = W1.setRow w.heap.size L1.toArray := ⟨_, rfl⟩
  rw [← hW2]
  have HG2 : Aside0 (W2.heap[w.heap.size]? = some (.cells L1.toArray 50 (0, 0))) := ⟨by rw [hW2]; exact setRow_heap _ _ _ _ _ _ HG1.out⟩
  have HB2 : Aside0 (Below w.heap.size w W2) := ⟨by rw [hW2]; exact below_setRow HB1.out (Nat.le_refl _) _⟩
  have HG2o : Aside0 (W2.heap[g]? = some (.cells (xs ++ tail).toArray 50 (0, 0))) := ⟨by rw [HB2.out.block g (blk_lt HG.out)]; exact HG.out⟩
  have hL1l : L1.length = C * 2 := by rw [hL1, length_splice _ _ _ (by rw [hCl, HN.out]; omega), hCl]
  have HL1 := Aside0.mk hL1
  have HLL := Aside0.mk hL1l
  have HCl := Aside0.mk hCl
  clear hL1 hL1l hW2 hCl hu12 hu34 hs43 hm2
  have hs50 : ∀ W, (Instr.slice 28 (.slice (some ⟨w.heap.size, 0, none⟩) (n + 1) C) (some (.int .i64 ((i : Int) + 1))) none none).run Tryd.prog W = .ok (.slice (some ⟨w.heap.size, (i + 1) * 2, none⟩) (n - i) (C - (i + 1))) W := fun W => by
    have := Go.Gen.slice_fromN 28 50 Tryd.underlying28 2 size50 (some ⟨w.heap.size, 0, none⟩) (n + 1) C (i + 1) (by omega) .i64 W
    rw [if_neg (by omega)] at this
    rw [show ((i : Int) + 1) = ((i + 1 : Nat) : Int) from by omega, this]
    simp [add_plain]
  have hs53 : ∀ W, (Instr.slice 28 (.slice (some ⟨g, 0, none⟩) n c) (some (.int .i64 (i : Int))) none none).run Tryd.prog W = .ok (.slice (some ⟨g, i * 2, none⟩) (n - i) (c - i)) W := fun W => by
    rw [Go.Gen.slice_fromN 28 50 Tryd.underlying28 2 size50 (some ⟨g, 0, none⟩) n c i (by omega) .i64 W, if_neg (by omega)]
    simp [add_plain]
  have hwr : IntKind.i64.wrap ((i : Int) + 1) = (i : Int) + 1 := IntWalk.i64_in _ (by omega)
  go_wp2_with fail
  go_still_tail 8, (by kernel_rfl)
  change wpList _ _ _ _ _ W2.drew
  have hcells : ∀ j u, (xs.drop (i * 2))[j]? = some u → W2.drew.cell? ((⟨g, i * 2, none⟩ : Addr).add j) = some u := fun j u hu => by
    have e : (⟨g, i * 2, none⟩ : Addr).add j = ⟨g, i * 2 + j, none⟩ := by unfold Addr.add; split <;> simp_all
    rw [e, blk_cell (blk_drew HG2o.out), List.getElem?_toArray]
    rw [List.getElem?_drop] at hu
    rw [List.getElem?_append_left (by have := (List.getElem?_eq_some_iff.1 hu).1; omega)]
    exact hu
  have hld : (xs.drop (i * 2)).length = (n - i) * 2 := by rw [List.length_drop, HX.out]; omega
  have hm1 : Nat.min (n - i) (n - i) = n - i := Nat.min_self _
  refine Go.Gen.wpList_copyN rfl (.tmp 50) (.tmp 53) 28 28 rfl 50 2 Tryd.underlying28 size50 _ _ rfl rfl _ _ (fun ty => Go.Gen.run_copy_rowN W2.drew 28 28 ty 50 w.heap.size ((i + 1) * 2) (n - i) (C - (i + 1)) ⟨g, i * 2, none⟩ (n - i) (c - i) L1 50 (xs.drop (i * 2)) 2 Tryd.underlying28 size50 (blk_drew HG2.out) (by rw [hm1, hld]) hcells (by rw [HLL.out, hld]; omega) (fun u hu => HX1.out u (List.mem_of_mem_drop hu))) ?_
  obtain ⟨W3, hW3⟩ : ∃ W3, W3 = W2.drew.setRow w.heap.size (splice L1 ((i + 1) * 2) (xs.drop (i * 2))).toArray := ⟨_, rfl⟩
  rw [← hW3]
  have HG3 : Aside0 (W3.heap[w.heap.size]? = some (.cells (splice L1 ((i + 1) * 2) (xs.drop (i * 2))).toArray 50 (0, 0))) := ⟨by rw [hW3]; exact setRow_heap _ _ _ _ _ _ (blk_drew HG2.out)⟩
  have HB3 : Aside0 (Below w.heap.size w W3) := ⟨by rw [hW3]; exact below_setRow (below_drew HB2.out) (Nat.le_refl _) _⟩
  have HLD := Aside0.mk hld
  clear hW3 hcells hld hm1 hs50 hs53 hwr
  go_wp2
  go_ret
  have hs := splice_grow (X1 := xs.take (i * 2)) (X2 := xs.drop (i * 2)) (Z := Z) (news := news) (rest := R) (k := i * 2) HLT.out HN.out (by rw [HZ.out, HLD.out]; omega)
  have hg3 := HG3.out
  rw [HL1.out, show (i + 1) * 2 = i * 2 + 2 from by omega, hs] at hg3
  have hlen : (xs.take (i * 2) ++ news ++ xs.drop (i * 2)).length = (n + 1) * 2 := by
    simp only [List.length_append, HLT.out, HLD.out, HN.out]; omega
  refine ⟨_, rfl, Go.Gen.ownsRow_mk (tail := R) hbase hg3 hCge (by unfold maxLen; omega) hlen ?_, ⟨HB3.out.os, HB3.out.tape, HB3.out.output, HB3.out.size, fun k hk _ => HB3.out.block k hk⟩, .inr ⟨_, rfl, Nat.le_refl _⟩⟩
  rw [List.length_append, hlen, HR.out]
  omega
end Go.Proofs.YtpibjjhfckopaaaDoor
