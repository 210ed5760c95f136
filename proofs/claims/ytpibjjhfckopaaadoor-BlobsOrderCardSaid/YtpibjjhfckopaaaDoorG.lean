import Derived.Laws.CopyOwn
import Derived.StillTailTactics
import Derived.Test.YtpibjjhfckopaaaDoorWMore
namespace Go.Gen
open Go.RowKit Go.Proofs.YtpibjjhfckopaaaDoorW.PrintWords
set_option linter.unusedVariables false
set_option linter.unusedSectionVars false
section
variable {P : Program}
/-- copy into a row that is known whole: elements of any size -/
theorem run_copy_rowN (w : World) (dT sT ty elem : TypeId) (g o dLen dCap : Nat) (a : Addr) (sLen sCap : Nat) (cur : List Value) (t : TypeId) (cs : List Value) (sz : Nat)
    (hu : P.underlying dT = some (.slice elem)) (hs : (P.info? elem).map (·.size) = some sz)
    (hg : w.heap[g]? = some (.cells cur.toArray t (0, 0))) (hn : cs.length = Nat.min sLen dLen * sz)
    (hsrc : ∀ j v, cs[j]? = some v → w.cell? (a.add j) = some v) (hfit : o + cs.length ≤ cur.length) (h1 : ∀ v ∈ cs, v.oneCell' = true) :
    (Builtin.copy_ #[dT, sT] ty #[.slice (some ⟨g, o, none⟩) dLen dCap, .slice (some a) sLen sCap]).run P w =
      .ok (goInt (Nat.min sLen dLen)) (w.setRow g (splice cur o cs).toArray) := by
  have hl := run_loadCells_list (P := P) w a cs hsrc
  have hst := run_storeCells_at P g o t cs 0 cur.toArray w hg (by simpa using hfit) h1
  cases hq : P.info? elem with
  | none => simp [hq] at hs
  | some i =>
    have hi : i.size = sz := by simpa [hq] using hs
    simp [Builtin.copy_, run_underlying hu, Builtin.lenOf, Builtin.firstCells, sizeOf, typeInfo, hq, hi, ← hn, hl, hst, splice]
theorem wpList_copyN {w : World} {ops : Array Oper} {rest : List Oper} {o : Oper} {a : Act} {Q : Exit → Act → World → Prop} (hgd : o.guard = none) (d s : Operand) (dT sT : TypeId)
    (ho : o.op = .call { callee := .builtin .copy, args := #[d, s], argTypes := #[dT, sT] }) (elem : TypeId) (sz : Nat) (hu : P.underlying dT = some (.slice elem)) (hsz : (P.info? elem).map (·.size) = some sz)
    (dv sv : Value) (hd : a.eval d = dv) (hs : a.eval s = sv) (v : Value) (w1 : World) (hrun : ∀ ty, (Builtin.copy_ #[dT, sT] ty #[dv, sv]).run P w = .ok v w1)
    (h : wpList P ops Q rest (a.put o.dst v) w1) : wpList P ops Q (o :: rest) a w := by
  refine wpList_plain hgd fun K hK => ?_
  have hr := hrun o.type
  unfold Oper.wp
  simp [execOp, ho, resolve, invoke, builtin, hd, hs, hr, Result.andThen]
  exact hK _ _ h
end
theorem wpList_appendN {P : Program} {w : World} {ops : Array Oper} {rest : List Oper} {o : Oper} {a : Act} {Q : Exit → Act → World → Prop} (hgd : o.guard = none) (d s : Operand) (dT sT : TypeId)
    (ho : o.op = .call { callee := .builtin .append, args := #[d, s], argTypes := #[dT, sT] })
    (dv sv : Value) (hd : a.eval d = dv) (hs : a.eval s = sv) (v : Value) (w1 : World) (hrun : ∀ ty, (Builtin.append_ #[dT, sT] ty #[dv, sv]).run P w = .ok v w1)
    (h : wpList P ops Q rest (a.put o.dst v) w1) : wpList P ops Q (o :: rest) a w := by
  refine wpList_plain hgd fun K hK => ?_
  have hr := hrun o.type
  unfold Oper.wp
  simp only [execOp, ho, resolve, invoke, builtin, Sem.run_bind, Sem.run_pure, Result.andThen_ok, List.map_toArray, List.map_cons, List.map_nil, hd, hs, hr]
  exact hK _ _ h
theorem splice_take_drop {α : Type} (L : List α) (off : Nat) (cs : List α) : splice L off cs = L.take off ++ cs ++ L.drop (off + cs.length) := by
  simp [splice]
section
variable {P : Program} (t e : TypeId) (ht : P.underlying t = some (.slice e)) (sz : Nat) (hs : (P.info? e).map (·.size) = some sz)
include ht hs
theorem sizeOf_run (W : World) : (sizeOf e).run P W = .ok sz W := by
  obtain ⟨i0, hi, hz⟩ := Option.map_eq_some_iff.1 hs
  simp [sizeOf, typeInfo, hi, hz]
theorem slice_fromN (A : Option Addr) (n c i : Nat) (hi : i ≤ n) (k : IntKind) (W : World) : (Instr.slice t (.slice A n c) (some (.int k i)) none none).run P W = .ok (.slice (if c = i then A else A.map (·.add (i * sz))) (n - i) (c - i)) W := by
  have hel : P.elem t = e := by simp [Program.elem, ht]
  have hu : P.underlying t = some (.slice (P.elem t)) := by rw [hel]; exact ht
  rw [run_slice_l W t A n c hu k (i : Int) (by omega) (by omega), hel, sizeOf_run t e ht sz hs]
  simp [sliced, Result.andThen]
theorem slice_toN (A : Option Addr) (n c h : Nat) (hh : h ≤ c) (k : IntKind) (W : World) : (Instr.slice t (.slice A n c) none (some (.int k h)) none).run P W = .ok (.slice A h c) W := by
  have hel : P.elem t = e := by simp [Program.elem, ht]
  have hu : P.underlying t = some (.slice (P.elem t)) := by rw [hel]; exact ht
  have ha : (A.map fun x => x.add 0) = A := by cases A <;> simp [Addr.add]
  rw [run_slice_h W t A n c hu k (h : Int) (by omega) (by omega), hel, sizeOf_run t e ht sz hs]
  simp [sliced, Result.andThen, ha]
theorem slice_midN (A : Option Addr) (n c l h : Nat) (hl : l ≤ h) (hh : h ≤ c) (k k' : IntKind) (W : World) : (Instr.slice t (.slice A n c) (some (.int k l)) (some (.int k' h)) none).run P W = .ok (.slice (if c = l then A else A.map (·.add (l * sz))) (h - l) (c - l)) W := by
  have hel : P.elem t = e := by simp [Program.elem, ht]
  have hu : P.underlying t = some (.slice (P.elem t)) := by rw [hel]; exact ht
  rw [run_slice_lh W t A n c hu k k' (l : Int) (h : Int) (by omega) (by omega) (by omega), hel, sizeOf_run t e ht sz hs]
  simp [sliced, Result.andThen]
end
/-- a row of one's own, its block laid open -/
theorem ownsRow_open {w : World} {base : Nat} {e : TypeId} {size n : Nat} {v : Value} {xs : List Value} (h : w.ownsRow base e size v n xs) (hn : 0 < n) :
    ∃ g cap, ∃ tail : List Value, v = .slice (some ⟨g, 0, none⟩) n cap ∧ base ≤ g ∧ w.heap[g]? = some (.cells (xs ++ tail).toArray e (0, 0)) ∧ n ≤ cap ∧ cap ≤ maxLen ∧ xs.length = n * size ∧ (xs ++ tail).length = cap * size := by
  obtain ⟨hl, h | ⟨g, cap, cur, rfl, h1, h2, h3, h4, h5, h6⟩⟩ := h
  · omega
  · refine ⟨g, cap, cur.toList.drop (n * size), rfl, h1, ?_, h3, h4, hl, ?_⟩
    · rw [← h6, List.take_append_drop]; simpa using h2
    · rw [← h6, List.take_append_drop]; simpa using h5
theorem ownsRow_mk {w : World} {base : Nat} {e : TypeId} {size n g cap : Nat} {xs tail : List Value} (hb : base ≤ g) (hh : w.heap[g]? = some (.cells (xs ++ tail).toArray e (0, 0))) (hn : n ≤ cap) (hc : cap ≤ maxLen) (hx : xs.length = n * size) (hl : (xs ++ tail).length = cap * size) :
    w.ownsRow base e size (.slice (some ⟨g, 0, none⟩) n cap) n xs :=
  ⟨hx, .inr ⟨g, cap, _, rfl, hb, hh, hn, hc, by simpa using hl, by rw [← hx]; simp⟩⟩
theorem grownBy_setRow {w w0 : World} {g : Nat} (h : w0.grownBy w (some g)) (cs : Array Value) : w0.grownBy (w.setRow g cs) (some g) :=
  ⟨h.os, h.tape, h.output, by simpa [World.setRow] using h.size, fun k hk hne => by rw [setRow_other w g k cs (fun e => hne (by rw [e]))]; exact h.block k hk hne⟩
theorem grownBy_drew {w w0 : World} {r : Option Nat} (h : w0.grownBy w r) : w0.grownBy w.drew r := ⟨h.os, h.tape, h.output, h.size, h.block⟩
theorem grownBy_refl (w : World) (r : Option Nat) : w.grownBy w r := ⟨rfl, rfl, rfl, Nat.le_refl _, fun _ _ _ => rfl⟩
section
variable {P : Program}
/-- append(s, make([]T, m)...) where there is no room: a new row. -/
theorem append_zeros_new (w : World) (t ti ty e : TypeId) (z : Value) (size bytes : Nat) (ht : P.underlying t = some (.slice e)) {k : IntKind} (hti : P.underlying ti = some (.int k))
    (hinfo : (P.info? e).map (fun i => (i.zero, i.size, i.bytes)) = some (some z, size, bytes)) (hzs : z.cells.size = size) (hsz : 0 < size) (hb0 : 0 < bytes)
    (ad : Addr) (n cap m : Nat) (xs : List Value) (hl : xs.length = n * size) (holds : ∀ j u, xs[j]? = some u → w.cell? (ad.add j) = some u) (hm : 0 < m) (hcap : cap < n + m) (kx : IntKind) (hbytes : (n + m) * bytes ≤ 140737488355328) :
    (Builtin.append_ #[t, ti] ty #[.slice (some ad) n cap, .int kx m]).run P w =
      .ok (.slice (some ⟨w.heap.size, 0, none⟩) (n + m) (grownCap w (n + m) cap e)) (w.drew.alloc (.cells (xs.toArray ++ (Builtin.zeroCells z.cells m ++ Builtin.zeroCells z.cells (grownCap w (n + m) cap e - (n + m)))) e)) := by
  obtain ⟨i0, hi, hzz⟩ := Option.map_eq_some_iff.1 hinfo
  simp only [Prod.mk.injEq] at hzz
  obtain ⟨hz, hz1, hz2⟩ := hzz
  subst hz1
  subst hz2
  have hle : n + m ≤ 140737488355328 := Nat.le_trans (Nat.le_mul_of_pos_right _ hb0) hbytes
  have hw : IntKind.i64.wrap (m : Int) = m := by rw [IntKind.wrap_i64]; omega
  have hneg : ¬ ((m : Int) < 0) := by omega
  have hmb : m * i0.bytes ≤ 140737488355328 := Nat.le_trans (Nat.mul_le_mul_right _ (Nat.le_add_left m n)) hbytes
  have hbig : ¬ (281474976710656 < (m : Int) * (i0.bytes : Int)) := by
    rw [← Int.natCast_mul]
    omega
  have hn : ¬ (n + m ≤ cap) := by omega
  have h63' : ¬ (9223372036854775807 < ((n : Int) + (m : Int))) := by omega
  have hfit := growslice_fits hcap hbytes
  have h48' : ¬ (281474976710656 < Builtin.nextslicecap (n + m) cap * i0.bytes) := by omega
  have hmz : ¬ (m * i0.size = 0) := Nat.mul_ne_zero (by omega) (by omega)
  have hfo := run_firstCells_some (P := P) w.drew i0.size n ad n cap xs hl (by simpa using holds)
  simp [Builtin.append_, run_underlying ht, run_underlying hti, sizeOf, typeInfo, zeroValue, hi, hz, asInt, asIntOf, hw, hneg, hbig, hn, h63', h48', Question.forced, hfo, newRow, grownCap, hmz]
end
end Go.Gen
