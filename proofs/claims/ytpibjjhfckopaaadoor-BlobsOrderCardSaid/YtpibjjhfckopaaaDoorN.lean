import Derived.Test.YtpibjjhfckopaaaDoorM
import Derived.KernelRfl
namespace Go.Proofs.YtpibjjhfckopaaaDoor
open Go.RowKit Go.Proofs.YtpibjjhfckopaaaDoorW.PrintWords Go.Proofs.YtpibjjhfckopaaaDoorW.PrintLast Go.Proofs.YtpibjjhfckopaaaDoorW.PrintMore Go.Proofs.YtpibjjhfckopaaaDoor.PBlobsScript
set_option linter.unusedVariables false

theorem dig_a : dig ⟨#[97]⟩ = ⟨#[97, 102, 54, 51, 100, 99, 52, 99, 56, 54, 48, 49, 101, 99, 56, 99]⟩ := by kernel_rfl
theorem dig_0 : (⟨#[120]⟩ : ByteArray) ≠ dig ⟨#[]⟩ := fun h => by
  have h2 : (⟨#[120]⟩ : ByteArray).size = (dig ⟨#[]⟩).size := congrArg ByteArray.size h
  have h3 : (dig ⟨#[]⟩).size = 16 := by kernel_rfl
  rw [h3] at h2
  exact absurd h2 (by decide)
def A97 : ByteArray := ⟨#[97]⟩
theorem put_a0 : putB [] ⟨#[97]⟩ = ([⟨dig ⟨#[97]⟩, ⟨#[97]⟩⟩], dig ⟨#[97]⟩, 0) := by
  unfold putB hasB
  rw [if_neg (by simp)]
  rfl
theorem place_a : place [⟨dig ⟨#[97]⟩, ⟨#[97]⟩⟩] (dig ⟨#[97]⟩) = 0 := by simp [place, ltS_irrefl]
theorem has_a : hasB [⟨dig ⟨#[97]⟩, ⟨#[97]⟩⟩] (dig ⟨#[97]⟩) = true := by
  unfold hasB
  rw [place_a]
  simp
theorem put_a1 : putB [⟨dig ⟨#[97]⟩, ⟨#[97]⟩⟩] ⟨#[97]⟩ = ([⟨dig ⟨#[97]⟩, ⟨#[97]⟩⟩], dig ⟨#[97]⟩, 0) := by
  unfold putB
  rw [if_pos has_a, place_a]
  rfl
theorem get_a : getB [⟨dig ⟨#[97]⟩, ⟨#[97]⟩⟩] (dig ⟨#[97]⟩) = (⟨#[97]⟩, true) := by
  unfold getB
  rw [if_pos has_a, place_a]
  rfl

theorem own_ge {w : World} {base : Nat} {v : Value} {xs : List S50} (h : OwnB w base v xs) {k : Nat} (hk : v.ownBlock = some k) : base ≤ k := by
  rcases h.split with ⟨rfl, _⟩ | ⟨b, c, rfl, hb⟩
  · cases hk
  · have hk : some b = some k := hk
    injection hk with hk
    omega
theorem StAfter.low {w w' : World} {base t g : Nat} {v : Value} {xs ys : List S50} (h : St w base t g v xs) (hb : base ≤ w.heap.size) (ha : StAfter w base t g v ys w') : Below base w w' := by
  obtain ⟨v', h1, ⟨hs, hk⟩, h3, h4, h5, h6⟩ := ha
  refine ⟨h4, h5, h6, hs, fun k hkb => hk k (by omega) ?_⟩
  rintro (rfl | ho)
  · have := h.2.1; omega
  · have := own_ge h.2.2 ho; omega
set_option maxHeartbeats 2000000 in
set_option maxRecDepth 100000 in
theorem awake6 (w : World) (hg3 : w.cell? ⟨3, 15, none⟩ = some (.int .u8 4)) :
    Calls Tryd.prog 6 #[] w fun e w' => e = .returned (.bool true) ∧ Below w.heap.size w w' := by
  have hb3 : 3 < w.heap.size := World.block_lt_of_cell? w ⟨3, 15, none⟩ hg3
  obtain ⟨base, hbase⟩ : ∃ b, b = w.heap.size := ⟨_, rfl⟩
  obtain ⟨g, hg⟩ : ∃ b, b = w.heap.size := ⟨_, rfl⟩
  have HB3 := Aside0.mk (hbase ▸ hb3)
  have HG3 := Aside0.mk hg3
  clear hg3 hb3
  have HBASE := Aside0.mk hbase
  rw [← hbase]
  clear hbase
  go_enter Tryd.func6, Tryd.ntmps6
  go_wp2_with fail
  refine (new7 _ base (by rw [HBASE.out]; exact Nat.le_refl _)).mono ?_
  rintro e w1 ⟨rfl, hw1⟩
  have hs1 : St w1 base 52 w.heap.size (.slice none 0 0) [] := by rw [hw1]; exact St.new w base 52 (by rw [HBASE.out]; exact Nat.le_refl _)
  have hl1 : Below base w w1 := by rw [hw1, HBASE.out]; exact below_alloc (Below.refl _ _) _
  rw [← hg] at hs1 ⊢
  have hc1 := (hl1.cell (p := ⟨3, 15, none⟩) HB3.out).trans HG3.out
  have hz1 : base ≤ w1.heap.size := by have := hl1.size; rw [← HBASE.out] at this; exact this
  have HS1 := Aside0.mk hs1
  have HL1 := Aside0.mk hl1
  have HC1 := Aside0.mk hc1
  have HZ1 := Aside0.mk hz1
  have HG := Aside0.mk hg
  clear hs1 hl1 hc1 hz1 hw1 hg
  go_wp2_with fail
  refine (put8 g _ [] ⟨#[97]⟩ base w1 HS1.out List.Pairwise.nil (by simp) (by decide) HC1.out HB3.out HZ1.out).mono ?_
  rintro e w2 ⟨rfl, ha2⟩
  rw [put_a0] at ha2 ⊢
  have hl2 : Below base w1 w2 := ha2.low HS1.out HZ1.out
  obtain ⟨v2, hs2, _⟩ := ha2
  have HC2 := Aside0.mk ((hl2.cell (p := ⟨3, 15, none⟩) HB3.out).trans HC1.out)
  have HZ2 := Aside0.mk (Nat.le_trans HZ1.out hl2.size)
  have HS2 := Aside0.mk hs2
  have HL2 := Aside0.mk hl2
  clear hl2 hs2
  go_wp2_with fail
  refine (put8 g _ _ ⟨#[97]⟩ base w2 HS2.out (List.pairwise_singleton _ _) (by simp) (by decide) HC2.out HB3.out HZ2.out).mono ?_
  rintro e w3 ⟨rfl, ha3⟩
  rw [put_a1] at ha3 ⊢
  have hl3 : Below base w2 w3 := ha3.low HS2.out HZ2.out
  obtain ⟨v3, hs3, _⟩ := ha3
  have HC3 := Aside0.mk ((hl3.cell (p := ⟨3, 15, none⟩) HB3.out).trans HC2.out)
  have HZ3 := Aside0.mk (Nat.le_trans HZ2.out hl3.size)
  have HS3 := Aside0.mk hs3
  have HL3 := Aside0.mk hl3
  clear hl3 hs3
  go_wp2_with fail
  refine (get10 g _ _ (dig ⟨#[97]⟩) base w3 HS3.out (List.pairwise_singleton _ _) (by simp)).mono ?_
  rintro e w4 ⟨rfl, hl4⟩
  rw [get_a]
  have HS4 := Aside0.mk (HS3.out.below hl4)
  have HC4 := Aside0.mk (pw_cell_below hl4 HC3.out)
  have HZ4 := Aside0.mk (Nat.le_trans HZ3.out hl4.size)
  have HL4 := Aside0.mk hl4
  clear hl4
  go_wp2_with fail
  have hba : Below w4.heap.size w4 (w4.alloc (Obj.cells #[Value.string ⟨#[120]⟩, Value.string ⟨#[]⟩] 50)) := below_alloc (Below.refl _ _) _
  have hn4 := blk_new w4 (Obj.cells #[Value.string ⟨#[120]⟩, Value.string ⟨#[]⟩] 50)
  refine (load_no w4.heap.size ⟨#[120]⟩ ⟨#[]⟩ _ (by rw [blk_cell hn4]; rfl) (by rw [blk_cell hn4]; rfl) (by decide) (pw_cell_below hba HC4.out) dig_0).mono ?_
  rintro e w5 ⟨rfl, hl5⟩
  have HL5 := Aside0.mk (below_then hba hba.size hl5)
  clear hba hn4 hl5
  have HS5 := Aside0.mk (HS4.out.below HL5.out)
  have heq1 : ((dig ⟨#[97]⟩).toList == [97, 102, 54, 51, 100, 99, 52, 99, 56, 54, 48, 49, 101, 99, 56, 99]) = true := by rw [dig_a]; first | decide | simp | kernel_rfl
  go_wp2_with (go_at_call 14; refine (len14 g _ _ base _ HS5.out).mono ?_; rintro e w6 ⟨rfl, hl6⟩)
  go_ret
  subst hl6
  exact ⟨rfl, HL1.out.trans (HL2.out.trans (HL3.out.trans ((HL4.out.mono HZ3.out).trans (HL5.out.mono HZ4.out))))⟩
end Go.Proofs.YtpibjjhfckopaaaDoor
