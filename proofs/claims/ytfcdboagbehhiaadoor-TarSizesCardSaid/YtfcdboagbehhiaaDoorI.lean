import Derived.Test.YtfcdboagbehhiaaDoorH
namespace Go.Proofs.YtfcdboagbehhiaaDoor
open Go.RowKit Go.Proofs.YtfcdboagbehhiaaDoorW.PrintWords Go.Proofs.YtfcdboagbehhiaaDoorW.PrintLast Go.Proofs.YtfcdboagbehhiaaDoorW.PrintMore Go.Proofs.YtfcdboagbehhiaaDoor.PTarWhole
open Go.Lib (byteCells)
set_option linter.unusedVariables false
set_option linter.unusedSimpArgs false

/-! ## head.Lay -/
def sumL (bs : List UInt8) : Nat := (bs.map (·.toNat)).sum
theorem sumL_le : ∀ bs : List UInt8, sumL bs ≤ 255 * bs.length
  | [] => Nat.le_refl _
  | b :: bs => by
    have := sumL_le bs
    have := b.toNat_lt
    unfold sumL at *
    simp only [List.map_cons, List.sum_cons, List.length_cons]
    omega
theorem sumL_take {bs : List UInt8} {i : Nat} (h : i < bs.length) : sumL (bs.take (i + 1)) = sumL (bs.take i) + (bs.getD i 0).toNat := by
  unfold sumL
  rw [List.take_add_one, List.map_append, List.sum_append, List.getD_eq_getElem?_getD, List.getElem?_eq_getElem h]
  simp
def zeros512 : List UInt8 := List.replicate 512 0
theorem octS_len (k n : Nat) : (octS k n).data.toList.length = k := octN_length k n
def h1L (name : ByteArray) (kind : Int) (n : Nat) : List UInt8 :=
  putL (putL (putL (putL (putL zeros512 0 name.data.toList) 100 (modeB kind).data.toList) 108 [48, 48, 48, 48, 48, 48, 48]) 116 [48, 48, 48, 48, 48, 48, 48]) 124 (octN 11 n)
def h2L (name : ByteArray) (kind : Int) (n : Nat) (link : ByteArray) : List UInt8 :=
  putL (putL (putL (putL (putL (h1L name kind n) 136 [48, 48, 48, 48, 48, 48, 48, 48, 48, 48, 48]) 148 [32, 32, 32, 32, 32, 32, 32, 32]) 156 (signB kind).data.toList) 157 link.data.toList) 257 [117, 115, 116, 97, 114, 0, 48, 48]
def headL (name : ByteArray) (kind : Int) (n : Nat) (link : ByteArray) : List UInt8 := putL (h2L name kind n link) 148 (octN 6 (sumL (h2L name kind n link)) ++ [0, 32])
theorem make512 (w : World) : (Instr.makeSlice 30 (.int .i64 512) (.int .i64 512)).run Tryd.prog w = .ok (.slice (some ⟨w.heap.size, 0, none⟩) 512 512) (w.alloc (.cells (byteCells zeros512).toArray 5)) := by kernel_rfl
/-- two new blocks: the buffer and its variable -/
theorem Buf.start (w w1 : World) (h : w1 = (w.alloc (.cells (byteCells zeros512).toArray 5)).alloc (.cells #[.slice (some ⟨w.heap.size, 0, none⟩) 512 512] 30)) : Buf w1 w.heap.size (w.heap.size + 1) zeros512 ∧ Below w.heap.size w w1 := by
  subst h
  refine ⟨⟨?_, ?_, List.length_replicate⟩, below_alloc (below_alloc (Below.refl _ _) _) _⟩
  · exact blk_alloc (blk_new w _) _
  · have := blk_new (w.alloc (.cells (byteCells zeros512).toArray 5)) (.cells #[.slice (some ⟨w.heap.size, 0, none⟩) 512 512] 30)
    rw [show (w.alloc (.cells (byteCells zeros512).toArray 5)).heap.size = w.heap.size + 1 from World.size_alloc _ _] at this
    exact this
theorem below_setRow {n : Nat} {w0 w : World} (h : Below n w0 w) {B : Nat} (hB : n ≤ B) (cs : Array Value) : Below n w0 (w.setRow B cs) :=
  ⟨h.os, h.tape, h.output, by rw [setRow_size]; exact h.size, fun k hk => by rw [setRow_other w B k cs (by omega)]; exact h.block k hk⟩
/-- the buffer in the making -/
structure LB (w0 w : World) (B C : Nat) (bs : List UInt8) : Prop where
  buf : Buf w B C bs
  ne : C ≠ B
  ge : w0.heap.size ≤ B
  low : Below w0.heap.size w0 w
theorem LB.put {w0 w w' : World} {B C k : Nat} {bs l : List UInt8} (h : LB w0 w B C bs) (hk : k + l.length ≤ 512) (hw : w' = w.setRow B (byteCells (putL bs k l)).toArray) : LB w0 w' B C (putL bs k l) := by
  subst hw
  refine ⟨⟨setRow_heap w B _ _ _ _ h.buf.row, (setRow_other w B C _ h.ne).trans h.buf.box, ?_⟩, h.ne, h.ge, below_setRow h.low h.ge _⟩
  rw [putL_length (by rw [h.buf.len]; exact hk)]
  exact h.buf.len
theorem LB.below {w0 w w' : World} {B C : Nat} {bs : List UInt8} (h : LB w0 w B C bs) (hb : Below w.heap.size w w') : LB w0 w' B C bs :=
  ⟨⟨(hb.block B (blk_lt h.buf.row)).trans h.buf.row, (hb.block C (blk_lt h.buf.box)).trans h.buf.box, h.buf.len⟩, h.ne, h.ge, below_then h.low h.low.size hb⟩
set_option maxHeartbeats 4000000 in
set_option maxRecDepth 100000 in
theorem lay19 (name link : ByteArray) (kind : Int) (n : Nat) (w : World) (hE : Env w) (hn : n < 8 ^ 11) (hm : mayH name kind n link = true) (hn1 : name.size ≤ 100) (hl1 : link.size ≤ 100) :
    Calls Tryd.prog 19 #[.string name, .int .i64 kind, .int .i64 n, .string link] w fun e w' => ∃ B, w.heap.size ≤ B ∧ e = .returned (.tuple #[.slice (some ⟨B, 0, none⟩) 512 512, .bool true]) ∧ w'.heap[B]? = some (.cells (byteCells (headL name kind n link)).toArray 5 (0, 0)) ∧ Below w.heap.size w w' := by
  have HE := Aside0.mk hE
  clear hE
  have HN := Aside0.mk hn
  have HM := Aside0.mk hm
  clear hn hm
  have hmk := make512
  go_enter Tryd.func19, Tryd.ntmps19
  go_wp2_with (first
    | (go_at_call 25; refine (octal25 11 n _ (by decide) (by decide) HN.out HE.out.db).mono ?_; rintro e w1 ⟨rfl, hb⟩; have HB1 := Aside0.mk hb; clear hb)
    | (go_at_call 26; refine (may26 name link kind n _).mono ?_; rintro e w2 ⟨rfl, rfl⟩; rw [HM.out]))
  obtain ⟨B, hB⟩ : ∃ B, B = w1.heap.size := ⟨_, rfl⟩
  have hst := Buf.start w1 _ rfl
  rw [← hB] at hst ⊢
  generalize (w1.alloc (Obj.cells (byteCells zeros512).toArray 5)).alloc (Obj.cells #[Value.slice (some { block := B, off := 0 }) 512 512] 30) = v0 at hst
  have H : Aside0 (LB w v0 B (B + 1) zeros512) := ⟨⟨hst.1, by omega, by rw [hB]; exact HB1.out.size, below_then HB1.out HB1.out.size (hB ▸ hst.2)⟩⟩
  clear hst hB HB1 hmk
  obtain ⟨b0, hbs⟩ : ∃ bs, bs = zeros512 := ⟨_, rfl⟩
  rw [← hbs] at H
  have HQ := Aside0.mk hbs
  clear hbs
  have hl : 0 + (name : ByteArray).data.toList.length ≤ 512 := by rw [size_data]; omega
  refine (put27 B (B + 1) 0 b0 name _ H.out.buf (by decide) hl).mono ?_
  rintro e v2 ⟨rfl, hw⟩
  replace H := Aside0.mk (H.out.put hl hw)
  obtain ⟨b1, hbt⟩ : ∃ bt, bt = putL b0 0 (name : ByteArray).data.toList := ⟨_, rfl⟩
  rw [← hbt] at H
  rw [HQ.out] at hbt
  replace HQ := Aside0.mk hbt
  clear hbt hl hw b0
  go_wp2_with fail
  refine (mode28 kind _).mono ?_
  rintro e v1 ⟨rfl, hb⟩
  replace H := Aside0.mk (H.out.below hb)
  clear hb
  go_wp2_with fail
  have hl : 100 + ((modeB kind) : ByteArray).data.toList.length ≤ 512 := by rw [size_data, modeB_size]; decide
  refine (put27 B (B + 1) 100 b1 (modeB kind) _ H.out.buf (by decide) hl).mono ?_
  rintro e v2 ⟨rfl, hw⟩
  replace H := Aside0.mk (H.out.put hl hw)
  obtain ⟨b2, hbt⟩ : ∃ bt, bt = putL b1 100 ((modeB kind) : ByteArray).data.toList := ⟨_, rfl⟩
  rw [← hbt] at H
  rw [HQ.out] at hbt
  replace HQ := Aside0.mk hbt
  clear hbt hl hw b1
  go_wp2_with fail
  have hl : 108 + (⟨#[48, 48, 48, 48, 48, 48, 48]⟩ : ByteArray).data.toList.length ≤ 512 := by decide
  refine (put27 B (B + 1) 108 b2 ⟨#[48, 48, 48, 48, 48, 48, 48]⟩ _ H.out.buf (by decide) hl).mono ?_
  rintro e v2 ⟨rfl, hw⟩
  replace H := Aside0.mk (H.out.put hl hw)
  obtain ⟨b3, hbt⟩ : ∃ bt, bt = putL b2 108 (⟨#[48, 48, 48, 48, 48, 48, 48]⟩ : ByteArray).data.toList := ⟨_, rfl⟩
  rw [← hbt] at H
  rw [HQ.out] at hbt
  replace HQ := Aside0.mk hbt
  clear hbt hl hw b2
  go_wp2_with fail
  have hl : 116 + (⟨#[48, 48, 48, 48, 48, 48, 48]⟩ : ByteArray).data.toList.length ≤ 512 := by decide
  refine (put27 B (B + 1) 116 b3 ⟨#[48, 48, 48, 48, 48, 48, 48]⟩ _ H.out.buf (by decide) hl).mono ?_
  rintro e v2 ⟨rfl, hw⟩
  replace H := Aside0.mk (H.out.put hl hw)
  obtain ⟨b4, hbt⟩ : ∃ bt, bt = putL b3 116 (⟨#[48, 48, 48, 48, 48, 48, 48]⟩ : ByteArray).data.toList := ⟨_, rfl⟩
  rw [← hbt] at H
  rw [HQ.out] at hbt
  replace HQ := Aside0.mk hbt
  clear hbt hl hw b3
  go_wp2_with fail
  have hl : 124 + ((octS 11 n) : ByteArray).data.toList.length ≤ 512 := by rw [octS_len]; decide
  refine (put27 B (B + 1) 124 b4 (octS 11 n) _ H.out.buf (by decide) hl).mono ?_
  rintro e v2 ⟨rfl, hw⟩
  replace H := Aside0.mk (H.out.put hl hw)
  obtain ⟨b5, hbt⟩ : ∃ bt, bt = putL b4 124 ((octS 11 n) : ByteArray).data.toList := ⟨_, rfl⟩
  rw [← hbt] at H
  rw [HQ.out] at hbt
  replace HQ := Aside0.mk hbt
  clear hbt hl hw b4
  go_wp2_with fail
  have hl : 136 + (⟨#[48, 48, 48, 48, 48, 48, 48, 48, 48, 48, 48]⟩ : ByteArray).data.toList.length ≤ 512 := by decide
  refine (put27 B (B + 1) 136 b5 ⟨#[48, 48, 48, 48, 48, 48, 48, 48, 48, 48, 48]⟩ _ H.out.buf (by decide) hl).mono ?_
  rintro e v2 ⟨rfl, hw⟩
  replace H := Aside0.mk (H.out.put hl hw)
  obtain ⟨b6, hbt⟩ : ∃ bt, bt = putL b5 136 (⟨#[48, 48, 48, 48, 48, 48, 48, 48, 48, 48, 48]⟩ : ByteArray).data.toList := ⟨_, rfl⟩
  rw [← hbt] at H
  rw [HQ.out] at hbt
  replace HQ := Aside0.mk hbt
  clear hbt hl hw b5
  go_wp2_with fail
  have hl : 148 + (⟨#[32, 32, 32, 32, 32, 32, 32, 32]⟩ : ByteArray).data.toList.length ≤ 512 := by decide
  refine (put27 B (B + 1) 148 b6 ⟨#[32, 32, 32, 32, 32, 32, 32, 32]⟩ _ H.out.buf (by decide) hl).mono ?_
  rintro e v2 ⟨rfl, hw⟩
  replace H := Aside0.mk (H.out.put hl hw)
  obtain ⟨b7, hbt⟩ : ∃ bt, bt = putL b6 148 (⟨#[32, 32, 32, 32, 32, 32, 32, 32]⟩ : ByteArray).data.toList := ⟨_, rfl⟩
  rw [← hbt] at H
  rw [HQ.out] at hbt
  replace HQ := Aside0.mk hbt
  clear hbt hl hw b6
  go_wp2_with fail
  refine (sign29 kind _).mono ?_
  rintro e v1 ⟨rfl, hb⟩
  replace H := Aside0.mk (H.out.below hb)
  clear hb
  go_wp2_with fail
  have hl : 156 + ((signB kind) : ByteArray).data.toList.length ≤ 512 := by rw [size_data, signB_size]; decide
  refine (put27 B (B + 1) 156 b7 (signB kind) _ H.out.buf (by decide) hl).mono ?_
  rintro e v2 ⟨rfl, hw⟩
  replace H := Aside0.mk (H.out.put hl hw)
  obtain ⟨b8, hbt⟩ : ∃ bt, bt = putL b7 156 ((signB kind) : ByteArray).data.toList := ⟨_, rfl⟩
  rw [← hbt] at H
  rw [HQ.out] at hbt
  replace HQ := Aside0.mk hbt
  clear hbt hl hw b7
  go_wp2_with fail
  have hl : 157 + (link : ByteArray).data.toList.length ≤ 512 := by rw [size_data]; omega
  refine (put27 B (B + 1) 157 b8 link _ H.out.buf (by decide) hl).mono ?_
  rintro e v2 ⟨rfl, hw⟩
  replace H := Aside0.mk (H.out.put hl hw)
  obtain ⟨b9, hbt⟩ : ∃ bt, bt = putL b8 157 (link : ByteArray).data.toList := ⟨_, rfl⟩
  rw [← hbt] at H
  rw [HQ.out] at hbt
  replace HQ := Aside0.mk hbt
  clear hbt hl hw b8
  go_wp2_with fail
  have hl : 257 + (⟨#[117, 115, 116, 97, 114, 0, 48, 48]⟩ : ByteArray).data.toList.length ≤ 512 := by decide
  refine (put27 B (B + 1) 257 b9 ⟨#[117, 115, 116, 97, 114, 0, 48, 48]⟩ _ H.out.buf (by decide) hl).mono ?_
  rintro e v2 ⟨rfl, hw⟩
  replace H := Aside0.mk (H.out.put hl hw)
  obtain ⟨b10, hbt⟩ : ∃ bt, bt = putL b9 257 (⟨#[117, 115, 116, 97, 114, 0, 48, 48]⟩ : ByteArray).data.toList := ⟨_, rfl⟩
  rw [← hbt] at H
  rw [HQ.out] at hbt
  replace HQ := Aside0.mk hbt
  clear hbt hl hw b9
  have hbox : v2.cell? ⟨B + 1, 0, none⟩ = some (.slice (some ⟨B, 0, none⟩) 512 512) := by rw [blk_cell H.out.buf.box]; rfl
  have HBOX := Aside0.mk hbox
  go_wp2_with fail
  clear hbox
  have hlen := H.out.buf.len
  go_loopg [14, 65] 512 (fun gk v14 v65 wr => ∃ i : Nat, i ≤ 512 ∧ v65 = .int .i64 i ∧ v14 = .int .i64 (sumL (b10.take i)) ∧ Aside0 (512 - i ≤ gk) ∧ v2 = wr)
  case atStart => exact ⟨0, Nat.zero_le _, rfl, rfl, ⟨by simp⟩, rfl⟩
  case round =>
    obtain ⟨i, hi, rfl, rfl, HGK, rfl⟩ := hrel
    rcases Nat.lt_or_eq_of_le hi with hlt | rfl
    · have hc : v2.cell? ⟨B, i, none⟩ = some (.int .u8 ((b10.getD i 0).toNat : Int)) := by
        rw [blk_cell H.out.buf.row]
        simp [Lib.byteCells, hlen, hlt, List.getD_eq_getElem?_getD]
      have hsum := sumL_take (bs := b10) (i := i) (by omega)
      have hs0 := sumL_le (b10.take i)
      have hs1 : (b10.take i).length ≤ 512 := by rw [List.length_take]; omega
      have hb := (b10.getD i 0).toNat_lt
      have HSUM := Aside0.mk hsum
      clear hsum
      generalize (b10.getD i 0).toNat = x at hc hb HSUM
      generalize sumL (b10.take i) = s0 at hs0 HSUM
      go_wp2_with fail
      go_roundg (512 - (i + 1))
      case measure => have := HGK.out; omega
      case rel => exact ⟨i + 1, hlt, by go_num, by rw [HSUM.out]; go_num, ⟨Nat.le_refl _⟩, rfl⟩
    · clear hi HGK
      have e512 : b10.take 512 = b10 := List.take_of_length_le (by omega)
      rw [e512]
      have hs0 := sumL_le b10
      have hq : b10 = h2L name kind n link := HQ.out
      have HQ2 := Aside0.mk hq
      clear e512 hq HQ
      generalize hs : sumL b10 = s0 at hs0
      have HS := Aside0.mk hs
      clear hs
      go_wp2_with fail
      refine (octal25 6 s0 _ (by decide) (by decide) (by omega) (HE.out.keep H.out.low HE.out.hi).db).mono ?_
      rintro e v3 ⟨rfl, hb⟩
      replace H := Aside0.mk (H.out.below hb)
      clear hb HBOX
      go_wp2_with fail
      obtain ⟨z, hz⟩ : ∃ z : ByteArray, z = octS 6 s0 ++ (⟨#[0, 32]⟩ : ByteArray) := ⟨_, rfl⟩
      rw [← hz]
      have hzl : z.data.toList = octN 6 s0 ++ [0, 32] := by rw [hz, ByteArray.data_append, Array.toList_append]; rfl
      have hl : 148 + z.data.toList.length ≤ 512 := by rw [hzl, List.length_append, octN_length]; decide
      have HZL := Aside0.mk hzl
      clear hz hzl
      refine (put27 B (B + 1) 148 b10 z v3 H.out.buf (by decide) hl).mono ?_
      rintro e v4 ⟨rfl, hw⟩
      replace H := Aside0.mk (H.out.put hl hw)
      clear hw hl
      have hbox : v4.cell? ⟨B + 1, 0, none⟩ = some (.slice (some ⟨B, 0, none⟩) 512 512) := by rw [blk_cell H.out.buf.box]; rfl
      go_wp2_with fail
      go_ret2
      refine ⟨B, H.out.ge, rfl, ?_, H.out.low⟩
      rw [H.out.buf.row, HZL.out]
      unfold headL
      rw [← HQ2.out, HS.out]
end Go.Proofs.YtfcdboagbehhiaaDoor
