import Derived.Test.YtfcdboagbehhiaaDoorD
import Derived.Maps.OwnOps
import Derived.Maps.OwnSet
import Derived.Maps.Views
import Derived.StringKeys
namespace Go.Proofs.YtfcdboagbehhiaaDoor
open Go.RowKit Go.Proofs.YtfcdboagbehhiaaDoorW.PrintWords Go.Proofs.YtfcdboagbehhiaaDoorW.PrintLast Go.Proofs.YtfcdboagbehhiaaDoorW.PrintMore Go.Proofs.YtfcdboagbehhiaaDoor.PTarWhole
open Go.Maps Go.ChangeMaps
set_option linter.unusedVariables false
set_option linter.unusedSimpArgs false

/-! ## a map of texts to bools -/
theorem toList_inj' {a b : ByteArray} (h : a.toList = b.toList) : a = b := by
  rw [ByteArray.toList_eq, ByteArray.toList_eq] at h
  exact ByteArray.ext (Array.toList_inj.mp h)
theorem zeroB (w : World) : (zeroValue 4).run Tryd.prog w = .ok (.bool false) w := by kernel_rfl
theorem plainElem_bool_inv {P : Program} {e : TypeId} (he : P.underlying e = some .bool) {v : Value} {x : Bool} {ps : List MemPlace} (h : plainElem (H := Unit) P e v = some (.lit (.bool x), ps)) : v = .bool x := by
  unfold plainElem at h
  rw [he] at h
  cases v <;> simp at h
  rw [h.1]
def skey (s : ByteArray) : Lit := .string s.data.toList
theorem skey_inj {a b : ByteArray} (h : skey a = skey b) : a = b := by
  unfold skey at h
  injection h with h
  exact ByteArray.ext (Array.toList_inj.mp h)
def Dirs (w : World) (b n : Nat) (f : ByteArray → Bool) : Prop :=
  ∃ D : DataW Unit, w.ownsMap Tryd.prog 9 (plainElem Tryd.prog 4) b n D ∧ ∀ s : ByteArray, D.atKey (skey s) (.lit (.bool false)) = .lit (.bool (f s))
theorem Dirs.made (w : World) : Dirs (w.alloc (.map #[] 0)) w.heap.size 0 fun _ => false :=
  ⟨_, World.ownsMap_made w _ _ _, fun s => rfl⟩
theorem Dirs.lt {w : World} {b n : Nat} {f : ByteArray → Bool} (h : Dirs w b n f) : b < w.heap.size := by
  obtain ⟨D, h1, _⟩ := h
  exact h1.lt
theorem Dirs.below {w w' : World} {b n : Nat} {f : ByteArray → Bool} (h : Dirs w b n f) (hb : Below w.heap.size w w') : Dirs w' b n f := by
  have hl := h.lt
  obtain ⟨D, ⟨es, clock, h1, h2⟩, h3⟩ := h
  exact ⟨D, ⟨es, clock, (hb.block b hl).trans h1, h2⟩, h3⟩
theorem Dirs.look {w : World} {b n : Nat} {f : ByteArray → Bool} (h : Dirs w b n f) (s : ByteArray) (hs : s.size ≤ maxLen) : (Instr.lookup 48 (.map (some b)) (.string s) false).run Tryd.prog w = .ok (.bool (f s)) w := by
  obtain ⟨D, h1, h2⟩ := h
  obtain ⟨v, ps, hr, hv⟩ := h1.lookup (string_keyed Tryd.underlying9) Tryd.underlying48 (zeroB w) (plainElem_bool Tryd.underlying4 false) (Go.WideMaps.keyOf_string_mk Tryd.underlying9 hs)
  have h2' := h2 s
  unfold skey at h2'
  rw [h2'] at hv
  rw [hr]
  rw [plainElem_bool_inv Tryd.underlying4 hv]
theorem Dirs.put {w w' : World} {b n : Nat} {f : ByteArray → Bool} {D : DataW Unit} (hf : ∀ s : ByteArray, D.atKey (skey s) (.lit (.bool false)) = .lit (.bool (f s))) (hD : IsMap D) (k : ByteArray) (x : Bool)
    (h : w'.ownsMap Tryd.prog 9 (plainElem Tryd.prog 4) b n (D.put (skey k) (.lit (.bool x)))) : Dirs w' b n (fun s => if s = k then x else f s) := by
  refine ⟨_, h, fun s => ?_⟩
  show (D.put (skey k) (.lit (.bool x))).atKey (skey s) (.lit (.bool false)) = .lit (.bool (if s = k then x else f s))
  by_cases e : s = k
  · rw [if_pos e, e]
    exact atKey_put_same hD (by trivial) _ _
  · rw [if_neg e]
    rw [atKey_put_other (fun h => e (skey_inj h))]
    exact hf s
/-! ## tree.follows -/
def lastN (ahead : List S29) : S29 := ahead.getD (ahead.length - 1) z29
def followsB (x : S29) (ahead : List S29) (f : ByteArray → Bool) : Bool :=
  if ahead = [] then x.f0.toList.isEmpty else (!x.f0.toList.isEmpty && (Op.bytesLess (lastN ahead).f0.toList x.f0.toList && f (parentB x.f0)))
set_option maxHeartbeats 1000000 in
set_option maxRecDepth 100000 in
theorem follows22 (x : S29) (A : Option Addr) (c b n : Nat) (ahead : List S29) (f : ByteArray → Bool) (w : World) (hE : Env w) (hg : mayB x.f0 = true) (hs : x.f0.size ≤ 1000) (hn : ahead.length ≤ 100000) (hr : Kd.C k29 w A ahead.length ahead) (hd : Dirs w b n f) :
    Calls Tryd.prog 22 #[.agg #[.string x.f0, .int .i64 x.f1, .string x.f2], .slice A ahead.length c, .map (some b)] w fun e w' => e = .returned (.bool (followsB x ahead f)) ∧ Below w.heap.size w w' := by
  have hba : Below w.heap.size w (w.alloc (.cells #[.string x.f0, .int .i64 x.f1, .string x.f2] 29)) := below_alloc (Below.refl _ _) _
  have hn0 := blk_new w (.cells #[.string x.f0, .int .i64 x.f1, .string x.f2] 29)
  have hc0 : (w.alloc (.cells #[.string x.f0, .int .i64 x.f1, .string x.f2] 29)).cell? ⟨w.heap.size, 0, none⟩ = some (.string x.f0) := by rw [blk_cell hn0]; rfl
  have HBA := Aside0.mk hba
  have HE := Aside0.mk (hE.below hba)
  have HR := Aside0.mk (Kd.C_below hr hba)
  have HD := Aside0.mk (hd.below hba)
  have HC0 := Aside0.mk hc0
  clear hba hE hr hd hn0 hc0
  by_cases he : ahead = []
  · subst he
    go_enter Tryd.func22, Tryd.ntmps22
    go_wp2
    go_ret
    exact ⟨rfl, HBA.out⟩
  · have hl : 0 < ahead.length := List.length_pos_iff.2 he
    have hl1 : ((ahead.length : Int) == 0) = false := by simp; omega
    cases hemp : x.f0.toList.isEmpty with
    | true =>
      have HEM := Aside0.mk hemp
      go_enter Tryd.func22, Tryd.ntmps22
      go_wp2_with (go_at_call 33; refine (parent33_empty x.f0 _ HEM.out).mono ?_; rintro e w1 ⟨rfl, rfl⟩)
      go_quiet (fail)
      go_wp2
      go_ret
      refine ⟨ret_bool ?_, ?_⟩
      · unfold followsB
        rw [if_neg he, hemp]
        rfl
      · exact pw_below_drewN HBA.out _
    | false =>
      have HEM := Aside0.mk hemp
      have HNE := Aside0.mk he
      clear he hemp
      go_enter Tryd.func22, Tryd.ntmps22
      go_wp2_with (go_at_call 33; refine (parent33 x.f0 _ HE.out (by omega) HEM.out hg).mono ?_; rintro e w1 ⟨rfl, hb⟩)
      have HB1 := Aside0.mk (below_then HBA.out HBA.out.size hb)
      obtain ⟨m, hm⟩ : ∃ m, m = ahead.length - 1 := ⟨_, rfl⟩
      obtain ⟨ad, rfl, hx0, _, _⟩ := at_T29 (Kd.C_below HR.out hb) (m : Int) (by omega) (by omega)
      have hlast : rd_T29 ahead (m : Int) = lastN ahead := by unfold rd_T29 lastN; rw [Int.toNat_natCast, hm]
      rw [hlast, Int.toNat_natCast] at hx0
      have hw1 : IntKind.i64.wrap ((ahead.length : Int) - 1) = (m : Int) := by rw [IntKind.wrap_i64]; omega
      have hm0 : (0 : Int) ≤ (m : Int) := by omega
      have hm1 : (m : Int) < (ahead.length : Int) := by omega
      have hm2 : m < ahead.length := by omega
      have HM := Aside0.mk hm
      clear hm
      have hcx := pw_cell_below hb HC0.out
      have hlook : ∀ m, (Instr.lookup 48 (.map (some b)) (.string (parentB x.f0)) false).run Tryd.prog (w1.drewN m) = .ok (.bool (f (parentB x.f0))) (w1.drewN m) := fun m => by
        refine Dirs.look (n := n) ((HD.out.below hb).below (pw_below_drewN (Below.refl _ _) m)) _ ?_
        have : (parentB x.f0).size ≤ x.f0.size := by unfold parentB; rw [ByteArray.size_extract]; omega
        unfold maxLen
        omega
      clear hb hlast
      cases hless : Op.bytesLess (lastN ahead).f0.toList x.f0.toList with
      | true =>
        go_quiet (fail)
        go_wp2
        go_ret
        refine ⟨ret_bool ?_, pw_below_drewN HB1.out _⟩
        unfold followsB
        rw [if_neg HNE.out, HEM.out, hless]
        rfl
      | false =>
        go_quiet (fail)
        go_wp2
        go_ret
        refine ⟨ret_bool ?_, pw_below_drewN HB1.out _⟩
        unfold followsB
        rw [if_neg HNE.out, HEM.out, hless]
        rfl
end Go.Proofs.YtfcdboagbehhiaaDoor
