import Derived.Test.YtfcdboagbehhiaaDoorQ
import Derived.KernelRfl
import Derived.WalkSpells
import Derived.WalkLawsBesides
namespace Go.Proofs.YtfcdboagbehhiaaDoor
open Go.RowKit Go.Proofs.YtfcdboagbehhiaaDoorW.PrintWords Go.Proofs.YtfcdboagbehhiaaDoorW.PrintLast Go.Proofs.YtfcdboagbehhiaaDoorW.PrintMore Go.Proofs.YtfcdboagbehhiaaDoor.PTarWhole
set_option linter.unusedVariables false
set_option linter.unusedSimpArgs false

set_option maxHeartbeats 1000000 in
theorem pow2_8 (w : World) : Calls Tryd.prog 59 #[.int .i64 8] w fun e w' => e = .returned (.bool true) ∧ w = w' := by
  go_enter Tryd.func59, Tryd.ntmps59
  go_wp2
  go_ret
  exact ⟨rfl, rfl⟩
theorem tz_idx : IntKind.u64.wrap (bits BinOp.and IntKind.u64 8 (IntKind.u64.wrap (-8)) * 285870213051353865) / 288230376151711744 = 7 := by decide +kernel
set_option maxHeartbeats 1000000 in
theorem tz_8 (w : World) (hg : w.cell? ⟨3, 7, none⟩ = some (.int .u8 3)) : Calls Tryd.prog 74 #[.int .u64 8] w fun e w' => e = .returned (.int .i64 3) ∧ w = w' := by
  have e := tz_idx
  go_enter Tryd.func74, Tryd.ntmps74
  go_wp2
  go_ret
  exact ⟨rfl, rfl⟩
set_option maxHeartbeats 1000000 in
theorem tz60_8 (w : World) (hg : w.cell? ⟨3, 7, none⟩ = some (.int .u8 3)) : Calls Tryd.prog 60 #[.int .u64 8] w fun e w' => e = .returned (.int .i64 3) ∧ w = w' := by
  go_enter Tryd.func60, Tryd.ntmps60
  go_wp2_with (go_at_call 74; refine (tz_8 _ hg).mono ?_; rintro e w' ⟨rfl, rfl⟩)
  go_ret
  exact ⟨rfl, rfl⟩

/-- a digit's byte -/
def dg (n : Nat) : UInt8 := (if n < 10 then 48 + n else 87 + n).toUInt8
/-- a number's digits of base 8, without needless zeros -/
def octD (n : Nat) : List UInt8 := if h : n < 8 then [dg n] else octD (n / 8) ++ [dg (n % 8)]
termination_by n
decreasing_by omega

theorem mask7 (u : Nat) (h : u < 18446744073709551616) : bits .and .u64 (u : Int) 7 = ((u % 8 : Nat) : Int) := by
  have := u64_and_nat u 7 h (by decide)
  rw [nat_mask3] at this
  exact this
theorem octD_big (n : Nat) (h : 8 ≤ n) : octD n = octD (n / 8) ++ [dg (n % 8)] := by
  rw [octD, dif_neg (by omega)]
theorem octD_small (n : Nat) (h : n < 8) : octD n = [dg n] := by
  rw [octD, dif_pos h]

theorem lit_key : ∀ d : Fin 16, (⟨#[48, 49, 50, 51, 52, 53, 54, 55, 56, 57, 97, 98, 99, 100, 101, 102, 103, 104, 105, 106, 107, 108, 109, 110, 111, 112, 113, 114, 115, 116, 117, 118, 119, 120, 121, 122]⟩ : ByteArray)[d.val]? = some (dg d.val) := by decide +kernel
theorem lit_at (d : Nat) (hd : d < 16) (h : d < (⟨#[48, 49, 50, 51, 52, 53, 54, 55, 56, 57, 97, 98, 99, 100, 101, 102, 103, 104, 105, 106, 107, 108, 109, 110, 111, 112, 113, 114, 115, 116, 117, 118, 119, 120, 121, 122]⟩ : ByteArray).size) : (⟨#[48, 49, 50, 51, 52, 53, 54, 55, 56, 57, 97, 98, 99, 100, 101, 102, 103, 104, 105, 106, 107, 108, 109, 110, 111, 112, 113, 114, 115, 116, 117, 118, 119, 120, 121, 122]⟩ : ByteArray)[d]'h = dg d := by
  have := lit_key ⟨d, hd⟩
  simpa [getElem?_pos, h] using this

def OctInv (u0 : Nat) (u : Nat) (done : List UInt8) : Prop := octD u0 = octD u ++ done ∧ u < 8 ^ (21 - done.length) ∧ done.length ≤ 20
theorem OctInv.start {u : Nat} (h : u < 9223372036854775808) : OctInv u u [] := ⟨by simp, by simpa using h, by simp⟩
theorem OctInv.lt {u0 u : Nat} {done : List UInt8} (h : OctInv u0 u done) : u < 18446744073709551616 :=
  Nat.lt_of_lt_of_le h.2.1 (Nat.le_trans (Nat.pow_le_pow_right (by decide) (Nat.sub_le 21 _)) (by decide))
theorem OctInv.room {u0 u : Nat} {done : List UInt8} (h : OctInv u0 u done) (hu : 8 ≤ u) : done.length ≤ 19 := by
  have h1 := h.2.1
  have h2 := h.2.2
  rcases Nat.lt_or_ge 19 done.length with h3 | h3
  · have e : done.length = 20 := by omega
    rw [e] at h1
    simp at h1
    omega
  · exact h3
theorem OctInv.step {u0 u : Nat} {done : List UInt8} (h : OctInv u0 u done) (hu : 8 ≤ u) : OctInv u0 (u / 8) (dg (u % 8) :: done) := by
  have hr := h.room hu
  refine ⟨?_, ?_, by simp; omega⟩
  · rw [h.1, octD_big u hu]
    simp
  · have h1 := h.2.1
    have e : 21 - done.length = (21 - (dg (u % 8) :: done).length) + 1 := by simp; omega
    rw [e, Nat.pow_succ] at h1
    exact Nat.div_lt_of_lt_mul (by rw [Nat.mul_comm]; exact h1)
def BufIs (w : World) (B : Nat) (done : List UInt8) : Prop := ∃ cur : List Value, w.heap[B]? = some (.cells cur.toArray 93 (0, 0)) ∧ cur.length = 65 ∧ cur.drop (65 - done.length) = done.map fun b => Value.int .u8 b.toNat
theorem BufIs.cell {w : World} {B : Nat} {done : List UInt8} (h : BufIs w B done) (j : Nat) (hj : j < 65) : ∃ v, w.cell? ⟨B, j, none⟩ = some v ∧ w.frozen? ⟨B, j, none⟩ = false := by
  obtain ⟨cur, h1, h2, h3⟩ := h
  exact ⟨cur[j]'(by omega), by rw [blk_cell h1]; simp [h2, hj], blk_frozen h1 j⟩
theorem BufIs.put {w : World} {B : Nat} {done : List UInt8} (h : BufIs w B done) (b : UInt8) (hd : done.length < 65) (j : Nat) (hj : j = 65 - done.length - 1) (v : Value) (hv : v = .int .u8 b.toNat) : BufIs (w.setCell ⟨B, j, none⟩ v) B (b :: done) := by
  subst hj hv
  obtain ⟨cur, h1, h2, h3⟩ := h
  refine ⟨cur.set (65 - done.length - 1) (.int .u8 b.toNat), by simpa using blk_set h1 (65 - done.length - 1) (.int .u8 b.toNat), by simpa using h2, ?_⟩
  have e : 65 - (b :: done).length = 65 - done.length - 1 := by simp; omega
  rw [e, List.drop_eq_getElem_cons (by simp; omega)]
  simp only [List.getElem_set_self, List.map_cons]
  congr 1
  rw [List.drop_set_of_lt (by omega)]
  rw [show 65 - done.length - 1 + 1 = 65 - done.length from by omega]
  exact h3

theorem OctInv.done {u0 u : Nat} {done : List UInt8} (h : OctInv u0 u done) (hu : u < 8) : octD u0 = dg u :: done := by
  rw [h.1, octD_small u hu]; rfl
theorem info5 : (Tryd.prog.info? 5).map (fun i => (i.zero, i.size, i.bytes)) = some (some (.int .u8 0), 1, 1) := by kernel_rfl
theorem slice_arr (B n : Nat) (hn : n ≤ 60) (W : World) : (Instr.sliceAt 93 (.pointer (some ⟨B, 0, none⟩)) (some (.int .i64 (65 - (n : Int) - 1))) none none).run Tryd.prog W = .ok (.slice (some ⟨B, 65 - n - 1, none⟩) (n + 1) (n + 1)) W := by
  have hal : Tryd.prog.arrayLen 93 = 65 := by kernel_rfl
  have hel : Tryd.prog.elem 93 = 5 := by kernel_rfl
  rw [run_sliceAt_array_l W 93 ⟨B, 0, none⟩ (by rw [hal, hel]; kernel_rfl) .i64 (65 - (n : Int) - 1) (by omega) (by rw [hal]; omega), hal, hel]
  obtain ⟨i0, hi, hzz⟩ := Option.map_eq_some_iff.1 info5
  simp only [Prod.mk.injEq] at hzz
  have e : (65 - (n : Int) - 1).toNat = 65 - n - 1 := by omega
  have e1 : 65 - (65 - n - 1) = n + 1 := by omega
  have e2 : ¬ (65 = 65 - n - 1) := by omega
  have e3 : (⟨B, 0, none⟩ : Addr).add ((65 - n - 1) * 1) = ⟨B, 65 - n - 1, none⟩ := by rw [Nat.mul_one, add_plain]
  have hs : (sizeOf 5).run Tryd.prog W = .ok 1 W := by simp [sizeOf, typeInfo, hi, hzz.2.1]
  rw [e, hs]
  simp only [Result.andThen_ok, slicedAt]
  rw [if_neg e2, e3, e1]
set_option maxRecDepth 100000 in
theorem conv_buf {W : World} {B : Nat} {done : List UInt8} (h : BufIs W B done) (off : Nat) (ho : off = 65 - done.length) (hl : done.length ≤ 65) (n : Nat) (hn : n = done.length) : (convert 30 9 (.slice (some ⟨B, off, none⟩) n n)).run Tryd.prog W = .ok (.string ⟨done.toArray⟩) W := by
  subst ho hn
  obtain ⟨cur, h1, h2, h3⟩ := h
  have := run_convert_bytes_arg (P := Tryd.prog) W 30 5 Tryd.underlying30 Tryd.underlying5 B (65 - done.length) done.length done.length (done.map fun b => (b.toNat : Int)) (by simp) (fun i hi => by
    rw [blk_cell h1]
    have e : cur[65 - done.length + i]? = (cur.drop (65 - done.length))[i]? := by rw [List.getElem?_drop]
    simp only [List.getElem?_toArray]
    rw [e, h3]
    simp [hi]) 9 Tryd.underlying9
  rw [this]
  congr 2
  simp only [strOfNums, List.map_map]
  have e : ((fun n : Int => UInt8.ofNat n.toNat) ∘ fun b : UInt8 => (b.toNat : Int)) = id := by funext b; simp
  rw [e, List.map_id]

set_option maxHeartbeats 1000000 in
set_option maxRecDepth 100000 in
theorem formatBits_8 (u : Nat) (w : World) (h1 : u < 9223372036854775808) (hg : w.cell? ⟨3, 7, none⟩ = some (.int .u8 3)) :
    Calls Tryd.prog 45 #[.slice none 0 0, .int .u64 u, .int .i64 8, .bool false, .bool false] w fun e w' => e = .returned (.tuple #[.slice none 0 0, .string ⟨(octD u).toArray⟩]) ∧ Below w.heap.size w w' := by
  have HG := Aside0.mk hg
  have HU := Aside0.mk h1
  clear hg
  have hlt3 : 3 < w.heap.size := by have := World.block_lt_of_cell? w _ HG.out; simpa using this
  have hcg : (w.alloc (Obj.cells Tryd.zeroCells93 93)).cell? ⟨3, 7, none⟩ = some (.int .u8 3) := pw_cell_below ((Below.refl _ _).alloc (Nat.le_refl _) _) HG.out
  have HC := Aside0.mk hcg
  clear hcg
  go_enter Tryd.func45, Tryd.ntmps45
  go_wp2_with (first | (go_at_call 59; refine (pow2_8 _).mono ?_; rintro e w' ⟨rfl, rfl⟩) | (go_at_call 60; refine (tz60_8 _ HC.out).mono ?_; rintro e w' ⟨rfl, rfl⟩))
  have B0 : Aside0 (BufIs (w.alloc (Obj.cells Tryd.zeroCells93 93)) w.heap.size []) := ⟨Tryd.zeroCells93.toList, by simpa using heap_alloc_new w _, by kernel_rfl, by simp⟩
  go_loopg [1, 13] u (fun k vu vi wr => ∃ (u' : Nat) (done : List UInt8), vu = .int .u64 u' ∧ vi = .int .i64 (65 - (done.length : Int)) ∧ Aside0 (OctInv u u' done) ∧ Aside0 (BufIs wr w.heap.size done) ∧ Aside0 (u' ≤ k) ∧ Aside0 (Below w.heap.size w wr))
  case atStart => exact ⟨u, [], rfl, by simp, ⟨OctInv.start h1⟩, B0, ⟨Nat.le_refl _⟩, ⟨(Below.refl _ _).alloc (Nat.le_refl _) _⟩⟩
  case round =>
    clear B0 HC
    obtain ⟨u', done, rfl, rfl, HI, HB, HK, HW⟩ := hrel
    have hu' : u' < 18446744073709551616 := HI.out.lt
    have hd := HI.out.2.2
    by_cases hge : 8 ≤ u'
    · have hm := mask7 u' hu'
      have hml : u' % 8 < 8 := Nat.mod_lt _ (by decide)
      obtain ⟨vc, hvc, hvf⟩ := HB.out.cell (65 - done.length - 1) (by omega)
      go_wp2
      go_roundg (u' / 8)
      case measure => have := HK.out; omega
      case rel => exact ⟨u' / 8, dg (u' % 8) :: done, by go_num, by simp; omega, ⟨HI.out.step hge⟩, ⟨HB.out.put (dg (u' % 8)) (by omega) _ rfl _ (by rw [lit_at _ (Nat.lt_trans hml (by decide))])⟩, ⟨Nat.le_refl _⟩, ⟨HW.out.setCell (Nat.le_refl _) _⟩⟩
    · have hml : u' < 8 := by omega
      obtain ⟨vc, hvc, hvf⟩ := HB.out.cell (65 - done.length - 1) (by omega)
      have hd' := hd
      clear hd
      have hsl := slice_arr w.heap.size done.length (by omega)
      have hb1 := Aside0.mk (HB.out.put (dg u') (by omega) _ rfl (Value.int .u8 (dg u').toNat) rfl)
      go_wp2_with fail
      rw [lit_at u' (Nat.lt_trans hml (by decide)), conv_buf hb1.out _ (by simp; omega) (by simp; omega) _ (by simp)]
      go_wp2
      go_ret2
      exact ⟨by rw [HI.out.done hml]; rfl, HW.out.setCell (Nat.le_refl _) _⟩
end Go.Proofs.YtfcdboagbehhiaaDoor
