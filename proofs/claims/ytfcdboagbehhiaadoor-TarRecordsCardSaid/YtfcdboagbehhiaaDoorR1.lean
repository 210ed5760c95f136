/- TarRecords: for every two texts the law returns true and what is given reads as it did; it lists the tables deBruijn32tab, deBruijn64tab, uint64pow10, acceptRanges and first as the text lays them. No other condition. -/
import Derived.Test.YtfcdboagbehhiaaDoorS
import Derived.Test.YtfcdboagbehhiaaDoorCards
import Derived.Test.YtfcdboagbehhiaaDoorTie
import Derived.WalkKit
import Derived.ProofKit
import Derived.OpenShut
import Derived.ShutString
import Derived.ChangeOld
import Derived.Below
import Derived.SizedLaws
import Derived.Carry
import Derived.SliceStrings
import Derived.Lay
import Derived.LaidSub
import Derived.Deep.DeepHandedRow
import Derived.Lib.LaidTab
import Derived.SevenTiedAt
namespace Go.Proofs.YtfcdboagbehhiaaDoor.tarlaws
open Go.ChangeShapes Go.WideShapes Go.ChangeAt Go.RowKit
open Go.ChangeMaps (open_string shut_string)
open Go.Proofs.YtfcdboagbehhiaaDoorW.PrintWords
set_option linter.unusedVariables false
theorem own : ownKnob Tryd.prog.godebug = none := by kernel_rfl
theorem laidOut : laidOutB Tryd.prog = true := by kernel_rfl
theorem gTab : Tryd.prog.globalNamed "math/bits.deBruijn64tab" = some 3 := by kernel_rfl

/-- the tables of the rows -/
def laid5 : List (String × DataW Unit) := [("math/bits.deBruijn32tab", Rows.laid_math_bits_deBruijn32tab), ("math/bits.deBruijn64tab", Rows.laid_math_bits_deBruijn64tab), ("internal/strconv.uint64pow10", Rows.laid_internal_strconv_uint64pow10), ("unicode/utf8.acceptRanges", Rows.laid_unicode_utf8_acceptRanges), ("unicode/utf8.first", Rows.laid_unicode_utf8_first)]
def zs64 : List Int := [0, 1, 56, 2, 57, 49, 28, 3, 61, 58, 42, 50, 38, 29, 17, 4, 62, 47, 59, 36, 45, 43, 51, 22, 53, 39, 33, 30, 24, 18, 12, 5, 63, 55, 48, 27, 60, 41, 37, 16, 46, 35, 44, 21, 52, 32, 23, 11, 54, 26, 40, 15, 34, 20, 31, 10, 25, 14, 19, 9, 13, 8, 7, 6]
theorem gType : (Tryd.prog.globals[3]?).map (·.type) = some 109 := by kernel_rfl
theorem gType0 : (Tryd.prog.globals[0]?).map (·.type) = some 91 := by kernel_rfl
theorem gName0 : Tryd.prog.globalNamed "internal/strconv.uint64pow10" = some 0 := by kernel_rfl
theorem env_of {W : World} (h : laidMetH Tryd.prog laid5 W) (hsh : W.ShapedOpen Tryd.prog) : Env W := by
  have h1 := laidMetH.filter (fun x => x.1 == "math/bits.deBruijn64tab") h
  have h2 : laidMetH Tryd.prog [("math/bits.deBruijn64tab", Lib.tabData .u8 zs64)] W := h1
  have ht := Lib.tabIs_of_head (rest := []) gTab gType Tryd.underlying109 Tryd.underlying5 (by kernel_rfl) (by kernel_rfl) h2
  have h3 := laidMetH.filter (fun x => x.1 == "internal/strconv.uint64pow10") h
  have h4 : laidMetH Tryd.prog [("internal/strconv.uint64pow10", Lib.tabData .u64 Lib.pow10Tab)] W := h3
  have ht2 := Lib.tabIs_of_head (rest := []) gName0 gType0 Tryd.underlying91 Tryd.underlying67 (by kernel_rfl) (by kernel_rfl) h4
  refine ⟨?_, ht2, ht.cell gTab 7 (by decide), ?_⟩
  · exact Tryd.laysM145.s1_3 W hsh
  · obtain ⟨o, _, ho, _⟩ := hsh.2 6 (of_decide_eq_true (by kernel_rfl)) (of_decide_eq_true (by kernel_rfl))
    have := (Array.getElem?_eq_some_iff.1 ho).1
    omega

theorem okw2 {P : Program} {W : World} {base : Nat} {t0 t1 : TypeId} {v0 v1 : Value} (hval : ∀ (j : Nat) t v, (#[t0, t1] : Array TypeId)[j]? = some t → (#[v0, v1] : Array Value)[j]? = some v → Value.okWide P W .any base t v) :
    Value.okWide P W .any base t0 v0 ∧ Value.okWide P W .any base t1 v1 := ⟨hval 0 t0 v0 rfl rfl, hval 1 t1 v1 rfl rfl⟩
set_option maxRecDepth 100000 in
/-- what the walk gives, for every input -/
theorem contractTarRecords (H : Type) (enc : TypeId × Value → H) (W : World) (base : Nat) (args : Array Value) (ds gs : List (DataW H)) (before : List MemPlace)
    (hval : ∀ (j : Nat) t v, Tryd.f3.params[j]? = some t → args[j]? = some v → Value.okWide Tryd.prog W .any base t v)
    (hW : DataW.Whole enc Tryd.prog Tryd.f3.params.toList Rows.tarRecordsSpec.vars false W args.toList ds gs before) (hL : laidMetH Tryd.prog laid5 W) (hsh : W.ShapedOpen Tryd.prog) :
    Calls Tryd.prog 3 args W fun e W' => ∃ v, e = .returned v ∧ Rows.tarRecordsSpec.post enc Tryd.prog Tryd.f3 false true false false W args v W' := by
  have hW' := hW
  obtain ⟨p, q, hA0, hV, rfl, hfz, hnd⟩ := hW
  have hA : DataW.TrodAll enc Tryd.prog W 0 (fun _ => true) true Tryd.f3.params.toList args.toList ds p := hA0
  rw [Tryd.params3] at hA hval
  obtain ⟨v0, vs0, d0, ds0, p0, q0, hargs, rfl, rfl, h0, r0⟩ := trodAll_cons hA
  obtain ⟨v1, vs1, d1, ds1, p1, q1, rfl, rfl, rfl, h1, r1⟩ := trodAll_cons r0
  obtain ⟨rfl, rfl, rfl⟩ := trodAll_nil r1
  obtain rfl : args = #[v0, v1] := by
    obtain ⟨l⟩ := args
    exact congrArg Array.mk hargs
  obtain ⟨rfl, rfl⟩ := trodVars_none hV
  obtain ⟨hv0, hv1⟩ := okw2 hval
  obtain ⟨a0, rfl, rfl, rfl, y0⟩ := open_string Tryd.underlying9 hv0 h0
  obtain ⟨a1, rfl, rfl, rfl, y1⟩ := open_string Tryd.underlying9 hv1 h1
  clear hA0
  refine (law3 a0 a1 W (env_of hL hsh)).mono fun e W' ⟨he, bel⟩ => ?_
  subst he
  exact ⟨_, rfl, _, _, _, [], _, [], hW', trodAll_mk1 (shut_bool Tryd.underlying4 _), (trodAll_cons_mk (shut_string Tryd.underlying9 y0) (trodAll_cons_mk (shut_string Tryd.underlying9 y1) trodAll_mk0)), rfl, bel.frame _, fun h => by cases h⟩

set_option maxRecDepth 100000 in
theorem liftedTarRecords (os : Os) (started : os.Started) (H : Type) (enc : TypeId × Value → H) (F : Stop.Interp) :
    ReturnsInHanded {} Tryd.checked os 3 .any ((OpenSpec.ofChange Rows.tarRecordsSpec).preRow enc Tryd.prog Tryd.f3 Rows.tarRecordsRow.domain false Rows.tarRecordsRow.laid) (((OpenSpec.ofChange Rows.tarRecordsSpec).at F).post enc Tryd.prog Tryd.f3 false true false false) := by
  obtain ⟨places, hx⟩ : ∃ places, DataW.whole enc Tryd.prog ((World.laidAll Tryd.prog os laid5).forCall (fun _ _ => 0) ⟨#[], #[.string ByteArray.empty, .string ByteArray.empty], []⟩).memory Tryd.f3.params.toList Rows.tarRecordsSpec.vars false #[Value.string ByteArray.empty, .string ByteArray.empty].toList 8 = some ([.lit (.string []), .lit (.string [])], [], places) := ⟨[], by kernel_rfl⟩
  refine returnsInHanded_of_row (C := Tryd.checked) (s := OpenSpec.ofChange Rows.tarRecordsSpec) own started (by kernel_rfl) Tryd.func3
    (witness_row_at (enc := enc) (C := Tryd.checked) false (World.laidAll Tryd.prog os laid5) #[.string ByteArray.empty, .string ByteArray.empty] (World.laidAll_os _ _ _) (by kernel_rfl) (by kernel_rfl) (by kernel_rfl)
      (OpenSpec.preRow_of_cond 8 hx (by kernel_rfl) (fun k hk => by cases hk) (by kernel_rfl) (laidMet_laidAll _ (by kernel_rfl) (by kernel_rfl)))) ?_
  intro W base args ds gs before hval hW _ _ _ hL hsh _
  exact contractTarRecords H enc W base args ds gs before hval hW hL hsh

theorem saidTarRecords : Rows.TarRecordsSaid :=
  OpenClaim.holds_of_cond 3 Tryd.f3 rfl rfl rfl rfl rfl rfl rfl ⟨rfl, rfl, rfl, rfl, rfl⟩ rfl rfl rfl rfl rfl (by kernel_rfl) Tryd.func3 (by kernel_rfl)
    (of_decide_eq_true (by kernel_rfl)) (by unfold Func.isWrapper; first | (rw [if_pos (by decide +kernel)]; kernel_rfl) | (rw [if_neg (by decide +kernel)]; exact ⟨rfl, rfl⟩))
    (fun os started H enc _ F => by rw [OpenClaim.pre_eq_preRow]; exact liftedTarRecords os started H enc F)

theorem plainTarRecords (f : FuncId) (fn : Func) (hf : Tryd.pinned.checked.prog.funcNamed "hogshead/hogsheadlaw13.TarRecords" = some f) (hfn : Tryd.pinned.checked.prog.funcs[f]? = some fn) :
    false = Tryd.pinned.checked.prog.looks [] ∧ ∀ (j : Nat) t, fn.params[j]? = some t → Tryd.pinned.checked.prog.wantsStandIn t = false := by
  obtain rfl : f = 3 := Option.some.inj ((show Tryd.prog.funcNamed "hogshead/hogsheadlaw13.TarRecords" = some 3 by kernel_rfl).symm.trans hf) |>.symm
  obtain rfl : fn = Tryd.f3 := (Option.some.inj (Tryd.func3.symm.trans hfn)).symm
  refine ⟨by kernel_rfl, fun j t ht => ?_⟩
  rw [Tryd.params3] at ht
  have hm : t ∈ [9, 9] := by simpa using Array.mem_of_getElem? ht
  have hall : ([9, 9].all fun u => !Tryd.prog.wantsStandIn u) = true := by kernel_rfl
  exact (show Tryd.prog.wantsStandIn t = false by simpa using List.all_eq_true.1 hall t hm)

/-- ████ THE CARD ████ -/
theorem cardTarRecords : Rows.TarRecordsCardSaid :=
  Claim7.holds_tied_plain_at .later [] _ _ _ _ saidTarRecords (fun _ h => by cases h) (by kernel_rfl) (fun _ h => by cases h) tarRecords_row_tie rfl ⟨rfl, rfl⟩ (by kernel_rfl) rfl plainTarRecords (by kernel_rfl)
#print axioms cardTarRecords
end Go.Proofs.YtfcdboagbehhiaaDoor.tarlaws
