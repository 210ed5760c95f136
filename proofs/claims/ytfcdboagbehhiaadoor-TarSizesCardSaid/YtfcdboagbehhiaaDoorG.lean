import Derived.Test.YtfcdboagbehhiaaDoorF
import Derived.Lib.BufferWrite
import Derived.Laws.CopyOwn
namespace Go.Proofs.YtfcdboagbehhiaaDoor
open Go.RowKit Go.Proofs.YtfcdboagbehhiaaDoorW.PrintWords Go.Proofs.YtfcdboagbehhiaaDoorW.PrintLast Go.Proofs.YtfcdboagbehhiaaDoorW.PrintMore Go.Proofs.YtfcdboagbehhiaaDoor.PTarWhole
open Go.Lib (byteCells)
set_option linter.unusedVariables false
set_option linter.unusedSimpArgs false

set_option maxRecDepth 100000 in
theorem may9 (A : Option Addr) (c : Nat) (t : List S29) (w : World) (hE : Env w) (hn : t.length ≤ 400) (hc : t.length ≤ c) (hr : Kd.C k29 w A t.length t) (hs : ∀ i, i < t.length → (nd t i).f0.size ≤ 1000) :
    Calls Tryd.prog 9 #[.slice A t.length c] w fun e w' => e = .returned (.bool (mayT t)) ∧ Below w.heap.size w w' := by
  go_enter Tryd.func9, Tryd.ntmps9
  go_wp2_with (go_at_call 14; refine (bad14 A c t _ hE hn hc hr hs).mono ?_; rintro e w1 ⟨r, rfl, hm, hb⟩)
  go_ret
  exact ⟨rfl, hb⟩
theorem wpList_copyN {P : Program} {w : World} {ops : Array Oper} {rest : List Oper} {o : Oper} {a : Act} {Q : Exit → Act → World → Prop} (hgd : o.guard = none) (d s : Operand) (dT sT : TypeId)
    (ho : o.op = .call { callee := .builtin .copy, args := #[d, s], argTypes := #[dT, sT] }) (elem : TypeId) (sz : Nat) (hu : P.underlying dT = some (.slice elem)) (hsz : (P.info? elem).map (·.size) = some sz)
    (dv sv : Value) (hd : a.eval d = dv) (hs : a.eval s = sv) (v : Value) (w1 : World) (hrun : ∀ ty, (Builtin.copy_ #[dT, sT] ty #[dv, sv]).run P w = .ok v w1)
    (h : wpList P ops Q rest (a.put o.dst v) w1) : wpList P ops Q (o :: rest) a w := by
  refine wpList_plain hgd fun K hK => ?_
  have hr := hrun o.type
  unfold Oper.wp
  simp [execOp, ho, resolve, invoke, builtin, hd, hs, hr, Result.andThen]
  exact hK _ _ h
theorem wpList_appendN {P : Program} {w : World} {ops : Array Oper} {rest : List Oper} {o : Oper} {a : Act} {Q : Exit → Act → World → Prop} (hgd : o.guard = none) (d s : Operand) (dT sT : TypeId)
    (ho : o.op = .call { callee := .builtin .append, args := #[d, s], argTypes := #[dT, sT] })
    (dv sv : Value) (hd : a.eval d = dv) (hs : a.eval s = sv) (v : Value) (w1 : World) (hrun : ∀ ty, (Builtin.append_ #[dT, sT] ty #[dv, sv]).run P w = .ok v w1)
    (h : wpList P ops Q rest (a.put o.dst v) w1) : wpList P ops Q (o :: rest) a w := by
  refine wpList_plain hgd fun K hK => ?_
  have hr := hrun o.type
  unfold Oper.wp
  simp only [execOp, ho, resolve, invoke, builtin, Sem.run_bind, Sem.run_pure, Result.andThen_ok, List.map_toArray, List.map_cons, List.map_nil, hd, hs, hr]
  exact hK _ _ h
/-! ## head.Lay: the buffer -/
def putL (bs : List UInt8) (k : Nat) (l : List UInt8) : List UInt8 := bs.take k ++ l ++ bs.drop (k + l.length)
theorem putL_length {bs l : List UInt8} {k : Nat} (h : k + l.length ≤ bs.length) : (putL bs k l).length = bs.length := by
  unfold putL
  simp
  omega
theorem byteCells_putL (bs : List UInt8) (k : Nat) (l : List UInt8) : (byteCells bs).take k ++ byteCells l ++ (byteCells bs).drop (k + l.length) = byteCells (putL bs k l) := by
  unfold putL Lib.byteCells
  simp [List.map_take, List.map_drop]
/-- the buffer's block and the variable's -/
structure Buf (w : World) (B C : Nat) (bs : List UInt8) : Prop where
  row : w.heap[B]? = some (.cells (byteCells bs).toArray 5 (0, 0))
  box : w.heap[C]? = some (.cells #[.slice (some ⟨B, 0, none⟩) 512 512] 30 (0, 0))
  len : bs.length = 512
theorem size5 : (Tryd.prog.info? 5).map (·.size) = some 1 := by kernel_rfl
theorem size_data (s : ByteArray) : s.data.toList.length = s.size := rfl
theorem slice_from {B k : Nat} (hk : k ≤ 511) (W : World) : (Instr.slice 30 (.slice (some ⟨B, 0, none⟩) 512 512) (some (.int .i64 k)) none none).run Tryd.prog W = .ok (.slice (some ⟨B, k, none⟩) (512 - k) (512 - k)) W := by
  have hel : Tryd.prog.elem 30 = 5 := by kernel_rfl
  have hu : Tryd.prog.underlying 30 = some (.slice (Tryd.prog.elem 30)) := by rw [hel]; exact Tryd.underlying30
  obtain ⟨i0, hi, hzz⟩ := Option.map_eq_some_iff.1 info5
  simp only [Prod.mk.injEq] at hzz
  have hs : (sizeOf 5).run Tryd.prog W = .ok 1 W := by simp [sizeOf, typeInfo, hi, hzz.2.1]
  rw [run_slice_l W 30 (some ⟨B, 0, none⟩) 512 512 hu .i64 (k : Int) (by omega) (by omega), hel, hs]
  have e2 : ¬ (512 = k) := by omega
  simp [sliced, Result.andThen, e2, Addr.add]
  intro h; rw [h]
set_option maxHeartbeats 1000000 in
set_option maxRecDepth 100000 in
theorem put27 (B C k : Nat) (bs : List UInt8) (s : ByteArray) (w : World) (h : Buf w B C bs) (hk : k ≤ 511) (hs : k + s.size ≤ 512) :
    Calls Tryd.prog 27 #[.int .i64 k, .string s, .pointer (some ⟨C, 0, none⟩)] w fun e w' => e = .returned (.tuple #[]) ∧ w' = w.setRow B (byteCells (putL bs k s.data.toList)).toArray := by
  have hb := blk_cell h.box 0
  have hrun := fun ty => Lib.run_copy_row_string (P := Tryd.prog) w 30 9 ty 5 B k (512 - k) (512 - k) s (byteCells bs).toArray 5 Tryd.underlying30 size5 h.row (by omega) (by simp [Lib.byteCells_length, h.len]; omega)
  have hsl := slice_from (B := B) hk
  rw [List.toList_toArray, ← size_data s, byteCells_putL] at hrun
  have hb' : w.cell? ⟨C, 0, none⟩ = some (.slice (some ⟨B, 0, none⟩) 512 512) := hb
  clear hb
  go_enter Tryd.func27, Tryd.ntmps27
  go_wp2_with (with_reducible refine wpList_copyN rfl (.tmp 7) (.tmp 8) 30 9 rfl 5 1 Tryd.underlying30 size5 _ _ rfl rfl _ _ hrun ?_)
  go_end0
  exact ⟨rfl, rfl⟩
end Go.Proofs.YtfcdboagbehhiaaDoor
