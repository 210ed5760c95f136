import Derived.Test.YtfcdboagbehhiaaDoorQ
import Derived.Deep.SlicePairs
import Derived.OpenShut
namespace Go.Proofs.YtfcdboagbehhiaaDoor
open Go.RowKit Go.Proofs.YtfcdboagbehhiaaDoorW.PrintWords Go.Proofs.YtfcdboagbehhiaaDoorW.PrintLast Go.Proofs.YtfcdboagbehhiaaDoorW.PrintMore Go.Proofs.YtfcdboagbehhiaaDoor.PTarWhole
open Go.ChangeShapes Go.WideShapes Go.Deep
set_option linter.unusedVariables false
set_option linter.unusedSimpArgs false

/-! ## a slice of nodes that came in -/
instance : Inhabited S29 := ⟨z29⟩
theorem C_of_nodes {W : World} {x : Addr} {len : Nat} (hm : len ≤ 9223372036854775807) (q : Nat → S29) (hq : ∀ i, i < len → W.cell? (x.add (i * 3)) = some (.string (q i).f0) ∧ W.cell? (x.add (i * 3 + 1)) = some (.int .i64 (q i).f1) ∧ W.cell? (x.add (i * 3 + 2)) = some (.string (q i).f2)) :
    Kd.C k29 W (some x) len ((List.range len).map q) := by
  refine ⟨by simp, hm, fun _ => ⟨x, rfl, fun j p hj => ⟨[.string p.f0, .int .i64 p.f1, .string p.f2], rfl, k29_mk W p, fun i u hi => ?_⟩⟩⟩
  have hjl : j < len := by
    rcases Nat.lt_or_ge j len with h | h
    · exact h
    · rw [List.getElem?_eq_none (by simpa using h)] at hj; cases hj
  have hp : p = q j := by
    rw [List.getElem?_map, List.getElem?_range hjl] at hj
    simpa using hj.symm
  subst hp
  obtain ⟨h0, h1, h2⟩ := hq j hjl
  match i, hi with
  | 0, hi => obtain rfl : Value.string (q j).f0 = u := by simpa using hi
             exact h0
  | 1, hi => obtain rfl : Value.int .i64 (q j).f1 = u := by simpa using hi
             exact h1
  | 2, hi => obtain rfl : Value.string (q j).f2 = u := by simpa using hi
             exact h2
  | i + 3, hi => simp at hi
theorem open_nodes {H : Type} {enc : TypeId × Value → H} {P : Program} {W : World} {t e : TypeId} {f0 f1 f2 : Field} (ht : P.underlying t = some (.slice e)) (he : P.underlying e = some (.struct #[f0, f1, f2]))
    (ce : P.cellsOf e = 3) (o0 : f0.offset = 0) (o1 : f1.offset = 1) (o2 : f2.offset = 2) (c0 : P.cellsOf f0.type = 1) (c1 : P.cellsOf f1.type = 1) (c2 : P.cellsOf f2.type = 1)
    (s0 : P.underlying f0.type = some .string) (s1 : P.underlying f1.type = some (.int .i64)) (s2 : P.underlying f2.type = some .string) {a : Option Addr} {len cap : Nat} {d : DataW H} {p : List MemPlace}
    (h : DataW.Trod enc P W 0 (fun _ => true) true t (.slice a len cap) d p) : ∃ t : List S29, t.length = len ∧ len ≤ cap ∧ Kd.C k29 W a t.length t := by
  obtain ⟨fuel, hf⟩ := h
  rcases open_slice ht hf with ⟨hcs, _⟩ | ⟨x, l, c, m, n, D, Pl, hcs, _, hl, hm, hmm, _, hx⟩
  · simp [Value.cells] at hcs
    obtain ⟨rfl, rfl, rfl⟩ := hcs
    exact ⟨[], rfl, Nat.le_refl _, ⟨rfl, by decide, fun h => by simp at h⟩⟩
  · simp [Value.cells] at hcs
    obtain ⟨rfl, rfl, rfl⟩ := hcs
    have hlm : len ≤ m := by rw [hmm]; simpa using hl
    have each : ∀ i, i < len → ∃ s : S29, W.cell? (x.add (i * 3)) = some (.string s.f0) ∧ W.cell? (x.add (i * 3 + 1)) = some (.int .i64 s.f1) ∧ W.cell? (x.add (i * 3 + 2)) = some (.string s.f2) := by
      intro i hi
      obtain ⟨cs', h1, h2⟩ := hx i (by omega)
      rw [ce] at h1
      obtain ⟨_, hlen, hcell⟩ := World.cells?_some h1
      obtain ⟨xs, k, hk, hxy, _, hxl, hf2⟩ := DataW.trod_struct he h2
      match xs, hxl, cs', hlen with
      | [y0, y1, y2], _, [v0, v1, v2], _ =>
        have g0 := hf2 0 f0 rfl
        have g1 := hf2 1 f1 rfl
        have g2 := hf2 2 f2 rfl
        simp [o0, o1, o2, c0, c1, c2] at g0 g1 g2
        have e0 := hcell 0 (by omega)
        have e1 := hcell 1 (by omega)
        have e2 := hcell 2 (by omega)
        rw [Go.Deep.add_add] at e0 e1 e2
        obtain ⟨a0, ha0, _⟩ := DataW.trod_string s0 g0
        obtain ⟨a1, ha1, _⟩ := DataW.trod_int s1 g1
        obtain ⟨a2, ha2, _⟩ := DataW.trod_string s2 g2
        simp at ha0 ha1 ha2
        subst ha0 ha1 ha2
        exact ⟨⟨a0, a1, a2⟩, by simpa using e0, by simpa using e1, by simpa using e2⟩
    obtain ⟨q, hq⟩ := choose_lt each
    refine ⟨(List.range len).map q, by simp, hl, ?_⟩
    have := C_of_nodes (by unfold maxLen at hm; omega) q hq
    simpa using this
theorem cells29 : Tryd.prog.cellsOf 29 = 3 := by kernel_rfl
theorem nodes_of {H : Type} {enc : TypeId × Value → H} {W : World} {a : Option Addr} {len cap : Nat} {d : DataW H} {p : List MemPlace} (h : DataW.Trod enc Tryd.prog W 0 (fun _ => true) true 25 (.slice a len cap) d p) :
    ∃ t : List S29, t.length = len ∧ len ≤ cap ∧ Kd.C k29 W a t.length t :=
  open_nodes Tryd.underlying25 Tryd.underlying29 cells29 rfl rfl rfl (by kernel_rfl) (by kernel_rfl) (by kernel_rfl) Tryd.underlying9 Tryd.underlying3 Tryd.underlying9 h
end Go.Proofs.YtfcdboagbehhiaaDoor
