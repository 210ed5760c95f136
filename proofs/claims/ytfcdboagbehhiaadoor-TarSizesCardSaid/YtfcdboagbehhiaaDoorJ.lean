import Derived.Test.YtfcdboagbehhiaaDoorI
namespace Go.Proofs.YtfcdboagbehhiaaDoor
open Go.RowKit Go.Proofs.YtfcdboagbehhiaaDoorW.PrintWords Go.Proofs.YtfcdboagbehhiaaDoorW.PrintLast Go.Proofs.YtfcdboagbehhiaaDoorW.PrintMore Go.Proofs.YtfcdboagbehhiaaDoor.PTarWhole
open Go.Lib (byteCells)
set_option linter.unusedVariables false
set_option linter.unusedSimpArgs false

/-! ## the writer -/
theorem wpList_append_ex {P : Program} {w : World} {ops : Array Oper} {rest : List Oper} {o : Oper} {a : Act} {Q : Exit → Act → World → Prop} (hgd : o.guard = none) (d s : Operand) (dT sT : TypeId)
    (ho : o.op = .call { callee := .builtin .append, args := #[d, s], argTypes := #[dT, sT] })
    (dv sv : Value) (hd : a.eval d = dv) (hs : a.eval s = sv) (R : Value → World → Prop) (hrun : ∀ ty, ∃ v w1, (Builtin.append_ #[dT, sT] ty #[dv, sv]).run P w = .ok v w1 ∧ R v w1)
    (h : ∀ v w1, R v w1 → wpList P ops Q rest (a.put o.dst v) w1) : wpList P ops Q (o :: rest) a w := by
  refine wpList_plain hgd fun K hK => ?_
  obtain ⟨v, w1, hr, hR⟩ := hrun o.type
  unfold Oper.wp
  simp only [execOp, ho, resolve, invoke, builtin, Sem.run_bind, Sem.run_pure, Result.andThen_ok, List.map_toArray, List.map_cons, List.map_nil, hd, hs, hr]
  exact hK _ _ (h v w1 hR)
/-- a writer: its bytes, and how many headers they hold -/
structure WrV (base : Nat) (w : World) (g : Nat) (v : Value) (n : Int) (bs : List UInt8) : Prop where
  blk : w.heap[g]? = some (.cells #[v, .int .i64 n] 39 (0, 0))
  ge : base ≤ g
  own : w.ownsRow base 5 1 v bs.length (byteCells bs)
def Wr (base : Nat) (w : World) (g : Nat) (n : Int) (bs : List UInt8) : Prop := ∃ v, WrV base w g v n bs
theorem own_lt5 {w : World} {base n : Nat} {v : Value} {xs : List Value} (h : w.ownsRow base 5 1 v n xs) {k : Nat} (hk : v.ownBlock = some k) : k < w.heap.size ∧ base ≤ k ∧ ∃ cs, w.heap[k]? = some (.cells cs 5 (0, 0)) := by
  obtain ⟨hl, h | ⟨g, cap, cur, rfl, h1, h2, _⟩⟩ := h
  · rw [h.1] at hk; cases hk
  · have hk : some g = some k := hk
    injection hk with hk
    subst hk
    exact ⟨blk_lt h2, h1, cur, h2⟩
theorem WrV.ne {base : Nat} {w : World} {g : Nat} {v : Value} {n : Int} {bs : List UInt8} (h : WrV base w g v n bs) : some g ≠ v.ownBlock := by
  intro e
  obtain ⟨_, _, cs, hcs⟩ := own_lt5 h.own e.symm
  have := hcs.symm.trans h.blk
  simp at this
theorem WrV.below {base : Nat} {w w' : World} {g : Nat} {v : Value} {n : Int} {bs : List UInt8} (h : WrV base w g v n bs) (hb : Below w.heap.size w w') : WrV base w' g v n bs :=
  ⟨(hb.block g (blk_lt h.blk)).trans h.blk, h.ge, by
    obtain ⟨hl, h1 | ⟨k, cap, cur, rfl, h1, h2, h3⟩⟩ := h.own
    · exact ⟨hl, .inl h1⟩
    · exact ⟨hl, .inr ⟨k, cap, cur, rfl, h1, (hb.block k (blk_lt h2)).trans h2, h3⟩⟩⟩
/-- behind an append: the row is another's, the variable is as it was -/
theorem WrV.grow {base : Nat} {w w' : World} {g : Nat} {v : Value} {n : Int} {bs : List UInt8} (h : WrV base w g v n bs) (hg : w.grownBy w' v.ownBlock) : w'.heap[g]? = some (.cells #[v, .int .i64 n] 39 (0, 0)) :=
  (hg.block g (blk_lt h.blk) h.ne).trans h.blk
theorem own_slice {base n : Nat} {w : World} {v : Value} {xs : List Value} (h : w.ownsRow base 5 1 v n xs) : ∃ A c, v = .slice A n c := by
  obtain ⟨hl, h | ⟨g, cap, cur, h1, _⟩⟩ := h
  · exact ⟨none, 0, by rw [h.1, h.2]⟩
  · exact ⟨_, _, h1⟩
theorem blk39_grow {base n g : Nat} {w w' : World} {cs : Array Value} {v : Value} {xs : List Value} (h : w.heap[g]? = some (.cells cs 39 (0, 0))) (ho : w.ownsRow base 5 1 v n xs) (hg : w.grownBy w' v.ownBlock) : w'.heap[g]? = some (.cells cs 39 (0, 0)) :=
  (hg.block g (blk_lt h) fun e => by
    obtain ⟨_, _, cs', hcs⟩ := own_lt5 ho e.symm
    have := hcs.symm.trans h
    simp at this).trans h
theorem grown_low {base : Nat} {w w' : World} {n : Nat} {v : Value} {xs : List Value} (h : w.ownsRow base 5 1 v n xs) (hg : w.grownBy w' v.ownBlock) (hb : base ≤ w.heap.size) : Below base w w' :=
  ⟨hg.os, hg.tape, hg.output, hg.size, fun k hk => hg.block k (by omega) (fun e => by
    have := (own_lt5 h e.symm).2.1
    omega)⟩
/-- the variable is given the new row -/
theorem WrV.store {base : Nat} {w : World} {g : Nat} {v v' : Value} {n : Int} {bs : List UInt8} (hb : w.heap[g]? = some (.cells #[v, .int .i64 n] 39 (0, 0))) (hg : base ≤ g) (ho : w.ownsRow base 5 1 v' bs.length (byteCells bs)) : WrV base (w.setCell ⟨g, 0, none⟩ v') g v' n bs := by
  refine ⟨by have := blk_set hb 0 v'; simpa using this, hg, ?_⟩
  obtain ⟨hl, h1 | ⟨k, cap, cur, rfl, h1, h2, h3⟩⟩ := ho
  · exact ⟨hl, .inl h1⟩
  · refine ⟨hl, .inr ⟨k, cap, cur, rfl, h1, ?_, h3⟩⟩
    refine blk_far h2 (fun e => ?_) _
    have e : k = g := e
    subst e
    have := h2.symm.trans hb
    simp at this
theorem WrV.count {base : Nat} {w : World} {g : Nat} {v : Value} {n m : Int} {bs : List UInt8} (h : WrV base w g v n bs) : WrV base (w.setCell ⟨g, 1, none⟩ (.int .i64 m)) g v m bs := by
  refine ⟨by have := blk_set h.blk 1 (.int .i64 m); simpa using this, h.ge, ?_⟩
  obtain ⟨hl, h1 | ⟨k, cap, cur, rfl, h1, h2, h3⟩⟩ := h.own
  · exact ⟨hl, .inl h1⟩
  · refine ⟨hl, .inr ⟨k, cap, cur, rfl, h1, ?_, h3⟩⟩
    refine blk_far h2 (fun e => ?_) _
    have e : k = g := e
    subst e
    have := h2.symm.trans h.blk
    simp at this
def padN (n : Nat) : Nat := (512 - n % 512) % 512
def entryL (name : ByteArray) (kind : Int) (link data : ByteArray) : List UInt8 := headL name kind data.size link ++ data.data.toList ++ List.replicate (padN data.size) 0
theorem headL_length {name link : ByteArray} {kind : Int} {n : Nat} (hn : name.size ≤ 100) (hl : link.size ≤ 100) : (headL name kind n link).length = 512 := by
  have h0 : zeros512.length = 512 := List.length_replicate
  have e1 : (putL zeros512 0 name.data.toList).length = 512 := by rw [putL_length (by rw [h0, size_data]; omega), h0]
  have e2 : ∀ bs : List UInt8, bs.length = 512 → ∀ (k : Nat) (l : List UInt8), k + l.length ≤ 512 → (putL bs k l).length = 512 := fun bs h k l hk => by rw [putL_length (by rw [h]; exact hk), h]
  have e3 : (h1L name kind n).length = 512 := by
    unfold h1L
    refine e2 _ (e2 _ (e2 _ (e2 _ e1 _ _ ?_) _ _ (by decide)) _ _ (by decide)) _ _ ?_
    · rw [size_data, modeB_size]; decide
    · rw [octN_length]; decide
  have e4 : (h2L name kind n link).length = 512 := by
    unfold h2L
    refine e2 _ (e2 _ (e2 _ (e2 _ (e2 _ e3 _ _ (by decide)) _ _ (by decide)) _ _ ?_) _ _ ?_) _ _ (by decide)
    · rw [size_data, signB_size]; decide
    · rw [size_data]; omega
  unfold headL
  refine e2 _ e4 _ _ ?_
  rw [List.length_append, octN_length]
  decide
theorem entryL_length {name link data : ByteArray} {kind : Int} (hn : name.size ≤ 100) (hl : link.size ≤ 100) : (entryL name kind link data).length = 512 + data.size + padN data.size := by
  unfold entryL
  rw [List.length_append, List.length_append, headL_length hn hl, List.length_replicate, size_data]
theorem byteCells_append (a b : List UInt8) : byteCells (a ++ b) = byteCells a ++ byteCells b := List.map_append
theorem zeros_cells (m : Nat) : (Builtin.zeroCells (Value.int .u8 0).cells m).toList = byteCells (List.replicate m 0) := by
  have h1 : ∀ i : Nat, (Value.int .u8 0).cells[i % (Value.int .u8 0).cells.size]! = .int .u8 0 := fun i => by
    show (#[Value.int .u8 0])[i % 1]! = _
    rw [Nat.mod_one]
    rfl
  have h2 : (Value.int IntKind.u8 0).cells.size = 1 := rfl
  unfold Builtin.zeroCells Lib.byteCells
  simp only [h1, h2, Nat.mul_one, Array.toList_map, List.map_replicate]
  apply List.ext_getElem
  · simp
  · intro i h3 h4
    simp
    rw [Nat.mod_one]
    rfl
theorem zeros_one (m : Nat) : ∀ u ∈ (Builtin.zeroCells (Value.int .u8 0).cells m).toList, u.oneCell' = true := by
  rw [zeros_cells]
  exact Lib.byteCells_one _
/-- the nodes' variables stay -/
def Fr (w w' : World) : Prop := ∀ (k : Nat) (cs : Array Value) (fr : Nat × Nat), w.heap[k]? = some (Obj.cells cs 29 fr) → w'.heap[k]? = some (Obj.cells cs 29 fr)
theorem Fr.refl (w : World) : Fr w w := fun _ _ _ h => h
theorem Fr.trans {w w1 w2 : World} (h : Fr w w1) (h1 : Fr w1 w2) : Fr w w2 := fun k cs fr e => h1 k cs fr (h k cs fr e)
theorem Fr.below {w w' : World} (h : Below w.heap.size w w') : Fr w w' := fun k cs fr e => (h.block k (blk_lt e)).trans e
theorem Fr.grown {base n : Nat} {w w' : World} {v : Value} {xs : List Value} (ho : w.ownsRow base 5 1 v n xs) (hg : w.grownBy w' v.ownBlock) : Fr w w' := fun k cs fr e =>
  (hg.block k (blk_lt e) fun h => by
    obtain ⟨_, _, cs', hcs⟩ := own_lt5 ho h.symm
    have := hcs.symm.trans e
    simp at this).trans e
theorem Fr.setCell {g : Nat} {w : World} {cs' : Array Value} (hb : w.heap[g]? = some (.cells cs' 39 (0, 0))) (i : Nat) (u : Value) : Fr w (w.setCell ⟨g, i, none⟩ u) := fun k cs fr e => by
  rw [Below.heap_setCell _ _ _ _ (fun h => by
    have h : k = g := h
    subst h
    have := hb.symm.trans e
    simp at this)]
  exact e
theorem stopHere {p : Prop} (h : Aside0 p) : p := h.out
set_option maxHeartbeats 2000000 in
set_option maxRecDepth 100000 in
theorem entry35 (base g : Nat) (n : Int) (bs : List UInt8) (name link data : ByteArray) (kind : Int) (w : World) (hE : Env w) (h : Wr base w g n bs) (hbase : base ≤ w.heap.size) (hm : mayH name kind data.size link = true) (hn1 : name.size ≤ 100) (hl1 : link.size ≤ 100) (hd : data.size ≤ 100000) (hl : bs.length ≤ 1000000000) (hn0 : 0 ≤ n) (hn2 : n ≤ 1000000000) :
    Calls Tryd.prog 35 #[.pointer (some ⟨g, 0, none⟩), .string name, .int .i64 kind, .string link, .string data] w fun e w' => e = .returned (.tuple #[]) ∧ Wr base w' g (n + 1) (bs ++ entryL name kind link data) ∧ Below base w w' ∧ Fr w w' := by
  obtain ⟨i0, hi, hz0, hz1, hz2⟩ := info_parts info5
  obtain ⟨v, hv⟩ := h
  have HE := Aside0.mk hE
  have HV := Aside0.mk hv
  have HM := Aside0.mk hm
  have HI := Aside0.mk hi
  have HZ0 := Aside0.mk hz0
  have HZ1 := Aside0.mk hz1
  have HZ2 := Aside0.mk hz2
  have HBS := Aside0.mk hbase
  clear hE hv hm hi hz0 hz1 hz2 hbase
  go_enter Tryd.func35, Tryd.ntmps35
  go_wp2_with fail
  refine (lay19 name link kind data.size _ HE.out (by omega) HM.out hn1 hl1).mono ?_
  rintro e w1 ⟨B, hB, rfl, hrow, hb⟩
  have hhl := headL_length (kind := kind) (n := data.size) hn1 hl1
  generalize hhd : headL name kind data.size link = hd0 at hrow hhl
  have HHD := Aside0.mk hhd
  have HROW := Aside0.mk hrow
  have HHL := Aside0.mk hhl
  replace HV := Aside0.mk (HV.out.below hb)
  have HF1 := Aside0.mk (Fr.below hb)
  have HB1 := Aside0.mk (hb.mono HBS.out)
  have HBS1 := Aside0.mk (Nat.le_trans HBS.out hb.size)
  obtain ⟨cs, hcs⟩ : ∃ cs, cs = bs ++ hd0 ++ data.data.toList := ⟨_, rfl⟩
  have hcl : cs.length = bs.length + 512 + data.size := by rw [hcs, List.length_append, List.length_append, hhl, size_data]
  have HCL := Aside0.mk hcl.symm
  have HCB : Aside0 (byteCells bs ++ byteCells hd0 ++ Lib.strCells data = byteCells cs) := ⟨by rw [hcs, byteCells_append, byteCells_append]; rfl⟩
  have HCS := Aside0.mk hcs
  have hcm : cs.length ≤ 1001000000 := by omega
  clear hhd hrow hhl hb hB hcs hcl
  obtain ⟨m, hm⟩ : ∃ m, m = padN data.size := ⟨_, rfl⟩
  have HPAD : Aside0 ((512 - (data.size : Int) % 512) % 512 = (m : Int)) := ⟨by rw [hm]; unfold padN; omega⟩
  have hm512 : m ≤ 511 := by rw [hm]; unfold padN; omega
  have HMP := Aside0.mk hm
  clear hm
  have hc0 : w1.cell? ⟨g, 0, none⟩ = some v := by rw [blk_cell HV.out.blk]; rfl
  go_wp2_with (first
    | (at_builtin; refine wpList_append_own _ rfl (.tmp 25) (.tmp 26) 30 rfl base 5 i0 (.int .u8 0) 1 1 Tryd.underlying30 HI.out HZ0.out HZ1.out HZ2.out rfl (by decide) v bs.length (byteCells bs) rfl HV.out.own ⟨B, 0, none⟩ 512 512 (byteCells hd0) rfl ?_ ?_ ?_ ?_ ?_ ?_ ?_; rw [Lib.byteCells_length, HHL.out]; (intro j u hj; rw [add_plain, blk_cell HROW.out]; simpa using hj); exact Lib.byteCells_one _; (unfold maxLen; omega); omega; exact HBS1.out; intro v1 w2 ho1 hg1 _; have HG2 := Aside0.mk (blk39_grow HV.out.blk HV.out.own hg1); have HF2 := Aside0.mk (HF1.out.trans (Fr.grown HV.out.own hg1)); have HB2 := Aside0.mk (HB1.out.trans (grown_low HV.out.own hg1 HBS1.out)); have HO1 := Aside0.mk ho1; have HBS2 := Aside0.mk (Nat.le_trans HBS1.out hg1.size); clear ho1 hg1 hc0)
    | (at_builtin; refine Lib.wpList_append_own_string _ rfl (.tmp 27) (.tmp 28) 30 9 rfl base 5 i0 Tryd.underlying30 Tryd.underlying9 HI.out HZ0.out HZ1.out HZ2.out v1 (bs.length + 512) (byteCells bs ++ byteCells hd0) rfl HO1.out data rfl ?_ ?_ ?_ ?_; (unfold maxLen; omega); omega; exact HBS2.out; intro v2 w3 ho2 hg2 _; rw [HCL.out, HCB.out] at ho2; obtain ⟨A2, c2, rfl⟩ := own_slice ho2; have HG3 := Aside0.mk (blk39_grow HG2.out HO1.out hg2); have HF3 := Aside0.mk (HF2.out.trans (Fr.grown HO1.out hg2)); have HB3 := Aside0.mk (HB2.out.trans (grown_low HO1.out hg2 HBS2.out)); have HV4 := Aside0.mk (WrV.store HG3.out HV.out.ge ho2); have HBS3 := Aside0.mk (Nat.le_trans HBS2.out hg2.size); clear ho2 hg2; have hc3 : w3.cell? ⟨g, 0, none⟩ = some v := (by rw [blk_cell HG3.out]; rfl); have hf3 : w3.frozen? ⟨g, 0, none⟩ = false := blk_frozen HG3.out 0)
    | (at_builtin; refine stopHere ?_))
  refine ⟨?_⟩
  refine wpList_append_ex rfl (.tmp 36) (.tmp 41) 30 3 rfl (.slice A2 cs.length c2) (.int .i64 m) rfl (congrArg (Value.int .i64) HPAD.out) _ (fun ty => run_append_zeros _ base 30 3 ty 5 i0 (.int .u8 0) 1 1 Tryd.underlying30 Tryd.underlying3 HI.out HZ0.out HZ1.out HZ2.out rfl (by decide) (by decide) (.slice A2 cs.length c2) cs.length (byteCells cs) HV4.out.own .i64 m (zeros_one m) (by omega) (Nat.le_trans HBS3.out (by simp))) ?_
  rintro v3 w4 ⟨ho3, hg3, _⟩
  rw [zeros_cells, ← byteCells_append] at ho3
  have hcl2 : cs.length + m = (cs ++ List.replicate m 0).length := by rw [List.length_append, List.length_replicate]
  rw [hcl2] at ho3
  clear hcl2
  obtain ⟨A3, c3, rfl⟩ := own_slice ho3
  have hb4 := blk39_grow HV4.out.blk HV4.out.own hg3
  have HF4 := Aside0.mk ((HF3.out.trans (Fr.setCell HG3.out 0 _)).trans (Fr.grown HV4.out.own hg3))
  have HG4 := Aside0.mk hb4
  have HV5 := Aside0.mk (WrV.store hb4 HV.out.ge ho3)
  have HB5 := Aside0.mk ((HB3.out.setCell (p := ⟨g, 0, none⟩) HV.out.ge (.slice A2 cs.length c2)).trans (grown_low HV4.out.own hg3 (Nat.le_trans HBS3.out (by simp))))
  have HBS5 := Aside0.mk (Nat.le_trans (Nat.le_trans HBS3.out (by simp)) hg3.size)
  have hc4 : w4.cell? ⟨g, 0, none⟩ = some (.slice A2 cs.length c2) := by rw [blk_cell hb4]; rfl
  have hf4 : w4.frozen? ⟨g, 0, none⟩ = false := blk_frozen hb4 0
  have hc41 : w4.cell? ⟨g, 1, none⟩ = some (.int .i64 n) := by rw [blk_cell hb4]; rfl
  have hf41 : w4.frozen? ⟨g, 1, none⟩ = false := blk_frozen hb4 1
  clear hb4 ho3 hg3 hc3 hf3
  go_wp2
  go_end0
  refine ⟨rfl, ?_, ?_, ?_⟩
  · have h6 := WrV.count (m := n + 1) HV5.out
    rw [List.length_append, List.length_replicate] at h6
    refine ⟨.slice A3 (cs.length + m) c3, ?_⟩
    unfold entryL
    rw [HHD.out, ← List.append_assoc, ← List.append_assoc, ← HCS.out, ← HMP.out]
    exact h6
  · exact (HB5.out.setCell (p := ⟨g, 0, none⟩) HV.out.ge (.slice A3 (cs.length + m) c3)).setCell (p := ⟨g, 1, none⟩) HV.out.ge (.int .i64 (n + 1))
  · have hb5 : (w4.setCell ⟨g, 0, none⟩ (.slice A3 (cs.length + m) c3)).heap[g]? = some (.cells #[.slice A3 (cs.length + m) c3, .int .i64 n] 39 (0, 0)) := by have := blk_set HG4.out 0 (.slice A3 (cs.length + m) c3); simpa using this
    exact (HF4.out.trans (Fr.setCell HG4.out 0 _)).trans (Fr.setCell hb5 1 _)
end Go.Proofs.YtfcdboagbehhiaaDoor
