import Derived.Test.YtpibjjhfckopaaaDoorU
import Derived.Deep.RegionHeld3
namespace Go.Proofs.YtpibjjhfckopaaaDoor
open Go.RowKit Go.Proofs.YtpibjjhfckopaaaDoorW.PrintWords Go.Proofs.YtpibjjhfckopaaaDoorW.PrintLast Go.Proofs.YtpibjjhfckopaaaDoorW.PrintMore Go.Proofs.YtpibjjhfckopaaaDoor.PBlobsScript
set_option linter.unusedVariables false

/-- the text at a place -/
def tx (texts : List ByteArray) (i : Nat) : ByteArray := texts.getD i ByteArray.empty
/-- of the pairs looked at so far, none clashes -/
def Clear (texts : List ByteArray) (i j : Nat) : Prop := ∀ a b, b < a → (a < i ∨ (a = i ∧ b < j)) → dig (tx texts a) = dig (tx texts b) → tx texts a = tx texts b
theorem Clear.zero (texts : List ByteArray) : Clear texts 0 0 := fun a b h1 h2 => by omega
theorem Clear.row {texts : List ByteArray} {i : Nat} (h : Clear texts i i) : Clear texts (i + 1) 0 := fun a b h1 h2 => h a b h1 (by omega)
theorem Clear.step {texts : List ByteArray} {i j : Nat} (h : Clear texts i j) (h1 : dig (tx texts i) = dig (tx texts j) → tx texts i = tx texts j) : Clear texts i (j + 1) := fun a b g1 g2 e => by
  by_cases h2 : a = i ∧ b = j
  · rw [h2.1, h2.2] at e ⊢
    exact h1 e
  · exact h a b g1 (by omega) e
theorem Clear.all {texts : List ByteArray} (h : Clear texts texts.length 0) : NoClash texts := by
  intro a ha b hb e
  obtain ⟨i, hi, rfl⟩ := List.getElem_of_mem ha
  obtain ⟨j, hj, rfl⟩ := List.getElem_of_mem hb
  have ei : tx texts i = texts[i] := by unfold tx; rw [List.getD_eq_getElem?_getD, List.getElem?_eq_getElem hi]; rfl
  have ej : tx texts j = texts[j] := by unfold tx; rw [List.getD_eq_getElem?_getD, List.getElem?_eq_getElem hj]; rfl
  rw [← ei, ← ej] at e ⊢
  rcases Nat.lt_trichotomy i j with h1 | h1 | h1
  · exact (h j i h1 (Or.inl hj) e.symm).symm
  · rw [h1]
  · exact h i j h1 (Or.inl hi) e
theorem rdOf_tx (texts : List ByteArray) (i : Nat) : rdOf ByteArray.empty texts (i : Int) = tx texts i := by unfold rdOf tx; rw [Int.toNat_natCast]
theorem ne_list {a b : ByteArray} (h : a ≠ b) : (a.toList == b.toList) = false := by
  rw [beq_eq_false_iff_ne]
  exact fun e => h (toList_inj' e)
/-- two stores of one type, side by side -/
structure Pair (w0 w : World) (g : Nat) (v : Value) (g' : Nat) (v' : Value) (xs ys : List S50) : Prop where
  low : Below w0.heap.size w0 w
  s : St w w0.heap.size 52 g v xs
  r : St w w0.heap.size 52 g' v' ys
  dis : ∀ k, v.ownBlock = some k → v'.ownBlock ≠ some k
  ne : g' ≠ g
theorem Pair.below {w0 w w1 : World} {g g' : Nat} {v v' : Value} {xs ys : List S50} (h : Pair w0 w g v g' v' xs ys) (hb : Below w.heap.size w w1) : Pair w0 w1 g v g' v' xs ys :=
  ⟨h.low.trans (hb.mono h.low.size), h.s.below hb, h.r.below hb, h.dis, h.ne⟩
theorem Pair.put1 {w0 w w1 : World} {g g' : Nat} {v v' : Value} {xs ys xs1 : List S50} (h : Pair w0 w g v g' v' xs ys) (ha : StAfter w w0.heap.size 52 g v xs1 w1) : ∃ v1, Pair w0 w1 g v1 g' v' xs1 ys := by
  obtain ⟨v1, hs, hr, hd⟩ := StAfter.next h.s h.r h.dis h.ne (by decide) (by decide) ha
  exact ⟨v1, h.low.trans (ha.low h.s h.low.size), hs, hr, hd, h.ne⟩
theorem Pair.put2 {w0 w w1 : World} {g g' : Nat} {v v' : Value} {xs ys ys1 : List S50} (h : Pair w0 w g v g' v' xs ys) (ha : StAfter w w0.heap.size 52 g' v' ys1 w1) : ∃ v1, Pair w0 w1 g v g' v1 xs ys1 := by
  obtain ⟨v1, hs, hr, hd⟩ := StAfter.next h.r h.s (fun k h1 h2 => h.dis k h2 h1) h.ne.symm (by decide) (by decide) ha
  exact ⟨v1, h.low.trans (ha.low h.r h.low.size), hr, hs, fun k h1 h2 => hd k h2 h1, h.ne⟩
/-- a store holds texts of the list, and those that the rounds have named so far -/
def Keeps (texts ts : List ByteArray) (f : Nat → Nat) (i : Nat) (xs : List S50) : Prop := Holds ts xs ∧ (∀ t ∈ ts, t ∈ texts) ∧ ∀ l, l < i → tx texts (f l) ∈ ts
theorem tx_mem {texts : List ByteArray} {j : Nat} (hj : j < texts.length) : tx texts j ∈ texts := by
  unfold tx
  rw [List.getD_eq_getElem?_getD, List.getElem?_eq_getElem hj]
  exact List.getElem_mem hj
theorem Keeps.nil (texts : List ByteArray) (f : Nat → Nat) : Keeps texts [] f 0 [] := ⟨Holds.nil, fun t h => by simp at h, fun l h => by omega⟩
theorem Keeps.more {texts ts : List ByteArray} {f : Nat → Nat} {i j : Nat} {xs : List S50} (hn : NoClash texts) (h : Keeps texts ts f i xs) (hj : j < texts.length) :
    (putB xs (tx texts j)).2.2 = 0 ∧ Keeps texts (tx texts j :: ts) f i (putB xs (tx texts j)).1 := by
  have hp := h.1.put hn h.2.1 (tx_mem hj)
  refine ⟨hp.1, hp.2, fun t ht => ?_, fun l hl => List.mem_cons_of_mem _ (h.2.2 l hl)⟩
  rcases List.mem_cons.1 ht with rfl | ht
  · exact tx_mem hj
  · exact h.2.1 t ht
theorem Keeps.put {texts ts : List ByteArray} {f : Nat → Nat} {i j : Nat} {xs : List S50} (hn : NoClash texts) (h : Keeps texts ts f i xs) (hj : j < texts.length) (hf : j = f i) :
    (putB xs (tx texts j)).2.2 = 0 ∧ Keeps texts (tx texts j :: ts) f (i + 1) (putB xs (tx texts j)).1 := by
  obtain ⟨h0, h1, h2, h3⟩ := h.more hn hj
  refine ⟨h0, h1, h2, fun l hl => ?_⟩
  by_cases e : l = i
  · rw [e, ← hf]; exact List.mem_cons_self
  · exact h3 l (by omega)
theorem Keeps.all {texts ts : List ByteArray} {f : Nat → Nat} {xs : List S50} (h : Keeps texts ts f texts.length xs) (hf : ∀ m, m < texts.length → ∃ l, l < texts.length ∧ f l = m) (t : ByteArray) : t ∈ ts ↔ t ∈ texts := by
  refine ⟨h.2.1 t, fun ht => ?_⟩
  obtain ⟨m, hm, rfl⟩ := List.getElem_of_mem ht
  obtain ⟨l, hl, e⟩ := hf m hm
  have := h.2.2 l hl
  rw [e] at this
  unfold tx at this
  rwa [List.getD_eq_getElem?_getD, List.getElem?_eq_getElem hm] at this
theorem round_all {n k : Nat} (hk : k < n) : ∀ m, m < n → ∃ l, l < n ∧ (k + l) % n = m := by
  intro m hm
  by_cases h : k ≤ m
  · exact ⟨m - k, by omega, by rw [show k + (m - k) = m by omega]; exact Nat.mod_eq_of_lt hm⟩
  · exact ⟨m + n - k, by omega, by rw [show k + (m + n - k) = m + n by omega, Nat.add_mod_right]; exact Nat.mod_eq_of_lt hm⟩
theorem low_f (a0 : Int) (n : Nat) (h : 0 < n) (hn : n ≤ 1000) : ∃ k : Nat, k < n ∧ hogsheadlaw0_Low.f a0 n = some (k : Int) := by
  have hu : IntKind.u64.wrap (n : Int) = n := by rw [wrap_u64]; omega
  have ha : 0 ≤ IntKind.u64.wrap a0 := by rw [wrap_u64]; omega
  obtain ⟨x, hx⟩ := Int.eq_ofNat_of_zero_le ha
  have hx' : IntKind.u64.wrap a0 = (x : Int) := hx
  refine ⟨x % n, Nat.mod_lt _ h, ?_⟩
  have hlt := Nat.mod_lt x h
  unfold hogsheadlaw0_Low.f
  rw [hu, if_neg (by omega), hx', ← Int.ofNat_tmod, wrap64_id (by omega) (by omega)]
/-- what is held of a world between two sums -/
def Held2 (w0 : World) (p q : Addr) (x y : Value) (w : World) : Prop := w.cell? p = some x ∧ w.cell? q = some y ∧ w.cell? ⟨3, 15, none⟩ = some (.int .u8 4) ∧ Aside0 (Below w0.heap.size w0 w)
theorem Held2.step {w0 w w1 : World} {p q : Addr} {x y : Value} (h : Held2 w0 p q x y w) (hb : Below w.heap.size w w1) : Held2 w0 p q x y w1 :=
  ⟨pw_cell_below hb h.1, pw_cell_below hb h.2.1, pw_cell_below hb h.2.2.1, ⟨below_then h.2.2.2.out h.2.2.2.out.size hb⟩⟩
theorem Held2.g {w0 w : World} {p q : Addr} {x y : Value} (h : Held2 w0 p q x y w) : w.cell? ⟨3, 15, none⟩ = some (.int .u8 4) := h.2.2.1
end Go.Proofs.YtpibjjhfckopaaaDoor
