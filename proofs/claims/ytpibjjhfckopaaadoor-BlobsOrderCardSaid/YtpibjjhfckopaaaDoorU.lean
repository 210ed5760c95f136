import Derived.Test.YtpibjjhfckopaaaDoorO
import Derived.Test.YtpibjjhfckopaaaDoorT
namespace Go.Proofs.YtpibjjhfckopaaaDoor
open Go.RowKit Go.Proofs.YtpibjjhfckopaaaDoorW.PrintWords Go.Proofs.YtpibjjhfckopaaaDoorW.PrintLast Go.Proofs.YtpibjjhfckopaaaDoorW.PrintMore Go.Proofs.YtpibjjhfckopaaaDoor.PBlobsScript
set_option linter.unusedVariables false

/-- a store beside another of the same type -/
theorem StAfter.next {w w1 : World} {base t g t' g' : Nat} {v v' : Value} {xs ys zs : List S50} (h : St w base t g v xs) (h' : St w base t' g' v' zs) (hdis : ∀ k, v.ownBlock = some k → v'.ownBlock ≠ some k)
    (hgg : g' ≠ g) (ht : t ≠ 50) (ht' : t' ≠ 50) (ha : StAfter w base t g v ys w1) :
    ∃ v1, St w1 base t g v1 ys ∧ St w1 base t' g' v' zs ∧ ∀ k, v1.ownBlock = some k → v'.ownBlock ≠ some k := by
  obtain ⟨v1, hs, ⟨hsz, hk⟩, hown, _⟩ := ha
  have hg' : w1.heap[g']? = w.heap[g']? := hk g' (blk_lt h'.1) (by
    rintro (e | e)
    · exact hgg e
    · obtain ⟨cs, hcs⟩ := own_block h.2.2 e
      have := hcs.symm.trans h'.1
      simp only [Option.some.injEq, Obj.cells.injEq] at this
      exact ht' this.2.1.symm)
  refine ⟨v1, hs, ⟨hg'.trans h'.1, h'.2.1, h'.2.2.move fun k hkk => hk k (own_lt h'.2.2 _ hkk) ?_⟩, fun k hkk => ?_⟩
  · rintro (e | e)
    · subst e
      obtain ⟨cs, hcs⟩ := own_block h'.2.2 hkk
      have := hcs.symm.trans h.1
      simp only [Option.some.injEq, Obj.cells.injEq] at this
      exact ht this.2.1.symm
    · exact hdis k e hkk
  · rcases hown with e | ⟨b, e, hb⟩
    · rw [e] at hkk
      exact hdis k hkk
    · rw [e] at hkk
      injection hkk with hkk
      intro h2
      have := own_lt h'.2.2 _ h2
      omega

/-! ## Load of a right list -/
theorem getD_dig {xs : List S50} (hd : DigB xs) {k : Nat} (hk : k < xs.length) : (rd_T50 xs k).f0 = dig (rd_T50 xs k).f1 := by
  unfold rd_T50
  rw [Int.toNat_natCast]
  exact hd _ (getD_mem hk)
set_option maxRecDepth 100000 in
theorem index_all (A : Option Addr) (c : Nat) (xs : List S50) (w : World) (hr : Kd.C k50 w A xs.length xs) (hd : DigB xs) (hsz : ∀ x ∈ xs, x.f1.size ≤ 140737488355328) (hn : xs.length ≤ 1000000) (hg3 : w.cell? ⟨3, 15, none⟩ = some (.int .u8 4)) :
    Calls Tryd.prog 38 #[.slice A xs.length c, .func (.func 27) #[] #[]] w fun e w' => e = .returned (.int .i64 (-1)) ∧ Below w.heap.size w w' := by
  have HR := Aside0.mk hr
  have HD := Aside0.mk hd
  have HS := Aside0.mk hsz
  have HG3 := Aside0.mk hg3
  clear hr hd hsz hg3
  go_enter Tryd.func38, Tryd.ntmps38
  go_wp2_with fail
  go_loopg [8] xs.length (fun gk v8 wr => ∃ i : Nat, i ≤ xs.length ∧ v8 = .int .i64 i ∧ Aside0 (xs.length - i ≤ gk) ∧ Aside0 (Below w.heap.size w wr))
  case atStart => exact ⟨0, Nat.zero_le _, rfl, ⟨by simp⟩, ⟨Below.refl _ _⟩⟩
  case round =>
    obtain ⟨i, hi, rfl, HGK, HB⟩ := hrel
    rcases Nat.lt_or_eq_of_le hi with hlt | rfl
    · obtain ⟨ad, e1, hx0, hx1⟩ := at_T50 (Kd.C_below HR.out HB.out) i (by omega) (by omega)
      subst e1
      rw [Int.toNat_natCast] at hx0 hx1
      have hdx := getD_dig HD.out hlt
      have hsx : (rd_T50 xs i).f1.size ≤ 140737488355328 := by
        unfold rd_T50
        rw [Int.toNat_natCast]
        exact HS.out _ (getD_mem hlt)
      generalize rd_T50 xs i = x at hx0 hx1 hdx hsx
      have HDX := Aside0.mk hdx
      have HSX := Aside0.mk hsx
      clear hdx hsx
      have hg : Aside0 (_ = _) := Aside0.mk (pw_cell_below HB.out HG3.out)
      go_wp2_with (go_at_call 27; refine (load1_27 x.f0 x.f1 _ HSX.out hg.out).mono ?_; rintro e w1 ⟨rfl, hb1⟩; rw [show (!(x.f0.toList == (dig x.f1).toList)) = false by rw [← HDX.out]; simp])
      go_roundg (xs.length - (i + 1))
      case measure => have := HGK.out; omega
      case rel => exact ⟨i + 1, hlt, by go_num, ⟨Nat.le_refl _⟩, ⟨below_then HB.out HB.out.size hb1⟩⟩
    · go_wp2
      go_ret
      exact ⟨rfl, HB.out⟩
theorem contains_all (A : Option Addr) (c : Nat) (xs : List S50) (w : World) (hr : Kd.C k50 w A xs.length xs) (hd : DigB xs) (hsz : ∀ x ∈ xs, x.f1.size ≤ 140737488355328) (hn : xs.length ≤ 1000000) (hg3 : w.cell? ⟨3, 15, none⟩ = some (.int .u8 4)) :
    Calls Tryd.prog 26 #[.slice A xs.length c, .func (.func 27) #[] #[]] w fun e w' => e = .returned (.bool false) ∧ Below w.heap.size w w' := by
  go_enter Tryd.func26, Tryd.ntmps26
  go_wp2_with (go_at_call 38; refine (index_all A c xs _ hr hd hsz hn hg3).mono ?_; rintro e w1 ⟨rfl, hb1⟩)
  go_ret
  exact ⟨rfl, hb1⟩

/-! the texts of a list -/
def textsB (xs : List S50) : List ByteArray := xs.map (·.f1)
theorem noClash_of {xs : List S50} (hs : SortedB xs) (hd : DigB xs) : NoClash (textsB xs) := by
  intro a ha b hb e
  obtain ⟨x, hx, rfl⟩ := List.mem_map.1 ha
  obtain ⟨y, hy, rfl⟩ := List.mem_map.1 hb
  obtain ⟨i, hi, hxi⟩ := List.getElem_of_mem hx
  obtain ⟨j, hj, hyj⟩ := List.getElem_of_mem hy
  have e1 : (xs.getD i z50).f0 = dig x.f1 := by rw [List.getD_eq_getElem?_getD, List.getElem?_eq_getElem hi]; simpa [hxi] using hd x hx
  have e2 : (xs.getD j z50).f0 = dig x.f1 := by rw [e, List.getD_eq_getElem?_getD, List.getElem?_eq_getElem hj]; simpa [hyj] using hd y hy
  have p1 := place_at hs hi e1
  have p2 := place_at hs hj e2
  have : i = j := p1.symm.trans p2
  subst this
  rw [← hxi, ← hyj]
theorem holds_of {xs : List S50} (hs : SortedB xs) (hd : DigB xs) : Holds (textsB xs) xs := by
  refine ⟨hs, fun x => ⟨fun hx => ⟨x.f1, List.mem_map.2 ⟨x, hx, rfl⟩, ?_⟩, ?_⟩⟩
  · have := hd x hx
    cases x
    simp at this ⊢
    exact this
  · rintro ⟨t, ht, rfl⟩
    obtain ⟨y, hy, rfl⟩ := List.mem_map.1 ht
    have := hd y hy
    rw [← this]
    exact hy

theorem Holds.congr {ts us : List ByteArray} {xs : List S50} (h : Holds ts xs) (e : ∀ t, t ∈ ts ↔ t ∈ us) : Holds us xs :=
  ⟨h.1, fun x => by
    rw [h.2]
    constructor
    · rintro ⟨a, ha, rfl⟩; exact ⟨a, (e a).1 ha, rfl⟩
    · rintro ⟨a, ha, rfl⟩; exact ⟨a, (e a).2 ha, rfl⟩⟩
set_option maxHeartbeats 2000000 in
set_option maxRecDepth 100000 in
theorem load_all (A : Option Addr) (c : Nat) (xs : List S50) (w : World) (hr : Kd.C k50 w A xs.length xs) (hs : SortedB xs) (hd : DigB xs) (hsz : ∀ x ∈ xs, x.f1.size ≤ 140737488355328) (hn : xs.length ≤ 1000) (hg3 : w.cell? ⟨3, 15, none⟩ = some (.int .u8 4)) :
    Calls Tryd.prog 19 #[.slice A xs.length c] w fun e w' => ∃ g v, e = .returned (.tuple #[.pointer (some ⟨g, 0, none⟩), .int .i64 0]) ∧ St w' w.heap.size 52 g v xs ∧ Below w.heap.size w w' := by
  have HR := Aside0.mk hr
  have HD := Aside0.mk hd
  have HSO := Aside0.mk hs
  have HS := Aside0.mk hsz
  have HG3 := Aside0.mk hg3
  have HB3 := Aside0.mk (World.block_lt_of_cell? w ⟨3, 15, none⟩ hg3)
  clear hr hd hsz hg3 hs
  go_enter Tryd.func19, Tryd.ntmps19
  go_wp2_with fail
  refine (contains_all A c xs w HR.out HD.out HS.out (by omega) HG3.out).mono ?_
  rintro e w1 ⟨rfl, hb1⟩
  have HL1 := Aside0.mk hb1
  clear hb1
  go_wp2_with fail
  refine (new7 _ 0 (Nat.zero_le _)).mono ?_
  rintro e w2 ⟨rfl, hw2⟩
  obtain ⟨g, hg⟩ : ∃ b, b = w1.heap.size := ⟨_, rfl⟩
  have hs2 : St w2 w.heap.size 52 g (.slice none 0 0) [] := by rw [hw2, hg]; exact St.new w1 _ 52 HL1.out.size
  have hl2 : Below w.heap.size w w2 := by rw [hw2]; exact below_then HL1.out HL1.out.size (below_alloc (Below.refl _ _) _)
  rw [← hg]
  have HS2 := Aside0.mk hs2
  have HL2 := Aside0.mk hl2
  clear hs2 hl2 hg hw2
  go_wp2_with fail
  go_loopg [14] xs.length (fun gk v14 wr => ∃ (i : Nat) (zs : List S50) (v : Value), i ≤ xs.length ∧ v14 = .int .i64 i ∧ Aside0 (xs.length - i ≤ gk) ∧ Aside0 (Holds (textsB (xs.take i)) zs) ∧ Aside0 (zs.length ≤ i) ∧ Aside0 (St wr w.heap.size 52 g v zs) ∧ Aside0 (Below w.heap.size w wr))
  case atStart => exact ⟨0, [], _, Nat.zero_le _, rfl, ⟨by simp⟩, ⟨Holds.nil⟩, ⟨Nat.le_refl _⟩, HS2, HL2⟩
  case round =>
    clear HS2 HL2
    obtain ⟨i, zs, v, hi, rfl, HGK, HH, HZ, HST, HB⟩ := hrel
    rcases Nat.lt_or_eq_of_le hi with hlt | rfl
    · obtain ⟨ad, e1, hx0, hx1⟩ := at_T50 (Kd.C_below HR.out HB.out) i (by omega) (by omega)
      subst e1
      rw [Int.toNat_natCast] at hx0 hx1
      obtain ⟨x, hx⟩ : ∃ x, x = rd_T50 xs i := ⟨_, rfl⟩
      rw [← hx] at hx0 hx1
      have hxm : x ∈ xs := by rw [hx]; unfold rd_T50; rw [Int.toNat_natCast]; exact getD_mem hlt
      have HX := Aside0.mk hx
      have HXM := Aside0.mk hxm
      clear hx hxm
      go_wp2_with fail
      clear hx0 hx1
      have hba : Below wr.heap.size wr (wr.alloc (Obj.cells #[Value.string x.f0, Value.string x.f1] 50)) := below_alloc (Below.refl _ _) _
      have HLA := Aside0.mk (HB.out.trans (hba.mono HB.out.size))
      have HSA := Aside0.mk (HST.out.below hba)
      clear hba
      refine (put8 g v zs x.f1 w.heap.size _ HSA.out HH.out.1 (by have := HZ.out; omega) (HS.out x HXM.out) ((HLA.out.cell (p := ⟨3, 15, none⟩) HB3.out).trans HG3.out) HB3.out HLA.out.size).mono ?_
      rintro e w3 ⟨rfl, ha⟩
      have hp := HH.out.put (noClash_of HSO.out HD.out) (fun a ha => by obtain ⟨y, hy, rfl⟩ := List.mem_map.1 ha; exact List.mem_map.2 ⟨y, List.mem_of_mem_take hy, rfl⟩) (List.mem_map.2 ⟨x, HXM.out, rfl⟩)
      rw [hp.1]
      have HL3 := Aside0.mk (HLA.out.trans (ha.low HSA.out HLA.out.size))
      have HP := Aside0.mk hp.2
      obtain ⟨v3, hs3, _⟩ := ha
      have HS3 := Aside0.mk hs3
      have HZ3 := Aside0.mk (Nat.le_trans (putB_len zs x.f1) (Nat.succ_le_succ HZ.out))
      clear hp hs3
      go_wp2
      go_roundg (xs.length - (i + 1))
      case measure => have := HGK.out; omega
      case rel => exact ⟨i + 1, _, v3, hlt, by go_num, ⟨Nat.le_refl _⟩, ⟨HP.out.congr fun t => by
        have hx : xs[i]? = some x := by rw [HX.out]; unfold rd_T50; rw [Int.toNat_natCast, List.getD_eq_getElem?_getD, List.getElem?_eq_getElem hlt]; rfl
        unfold textsB
        rw [List.take_add_one, hx]
        simp [or_comm]⟩, HZ3, HS3, HL3⟩
    · have hz : zs = xs := by
        have h1 := HH.out
        rw [List.take_length] at h1
        exact h1.eq (holds_of HSO.out HD.out) (fun t => Iff.rfl)
      subst hz
      go_wp2
      go_ret2
      exact ⟨g, v, rfl, HST.out, HB.out⟩
end Go.Proofs.YtpibjjhfckopaaaDoor
