/-
  Closed facts of the program and the row, each for itself.
-/
import Derived.Test.YtaejhojielbbdaaGreatDoorRows
import Derived.JoinedOf
import Derived.SevenTiedAt
import Derived.KernelRfl
set_option linter.unusedVariables false
set_option linter.unusedSimpArgs false
set_option maxRecDepth 100000
namespace Go.Proofs.YtaejhojielbbdaaGreatDoor.Pi
open Go
theorem and_t {a b : Bool} (ha : a = true) (hb : b = true) : (a && b) = true := by rw [ha, hb]; rfl
theorem k1 : (Rows.coverRatesRow.wf (OpenSpec.ofChange Rows.coverRatesSpec)) = true := by kernel_rfl
theorem k2 : (laidOutB Tryz.prog) = true := by kernel_rfl
theorem k3 : (mapsRowed Tryz.prog) = true := by kernel_rfl
theorem k4 : (Tryz.f3.params.all (Tryz.prog.readableRec ·)) = true := by kernel_rfl
theorem k5 : (namedTie Tryz.prog Rows.coverRatesRow.named Rows.coverRatesSpec.vars) = true := by kernel_rfl
theorem k6 : (Rows.coverRatesRow.stops == []) = true := by kernel_rfl
theorem k7 : (Tryz.prog.stops == []) = true := by kernel_rfl
theorem k8 : (Rows.coverRatesRow.knobs == []) = true := by kernel_rfl
theorem k9 : (Tryz.prog.stopKnobs == []) = true := by kernel_rfl
theorem k10 : (Rows.coverRatesRow.inPlace == Tryz.prog.inPlace 3) = true := by kernel_rfl
theorem k11 : (Rows.coverRatesRow.unfollowed == Tryz.prog.unfollowed 3) = true := by kernel_rfl
theorem k12 : (Rows.coverRatesRow.recurses == Tryz.prog.recurses 3) = true := by kernel_rfl
theorem k13 : (Rows.coverRatesRow.named == Tryz.prog.varsNamed 3) = true := by kernel_rfl
theorem k14 : (Rows.coverRatesRow.maps == (Tryz.f3.params.toList ++ Rows.coverRatesSpec.plain.varTypes Tryz.prog).any (Tryz.prog.mapsRec ·)) = true := by kernel_rfl
theorem k15 : (Rows.coverRatesRow.ifaces == (Tryz.f3.params.toList ++ Rows.coverRatesSpec.plain.varTypes Tryz.prog).any (Tryz.prog.ifacesRec ·)) = true := by kernel_rfl
theorem k16 : (Rows.coverRatesRow.mapsOut == Tryz.prog.mapsAmong Tryz.f3.resultTypes.toList) = true := by kernel_rfl
theorem k17 : (Rows.coverRatesRow.loops == (Tryz.f3.params.toList ++ Rows.coverRatesSpec.plain.varTypes Tryz.prog).any (Tryz.prog.loopsFrom ·)) = true := by kernel_rfl
theorem k18 : (Rows.coverRatesRow.wideKeys == (Tryz.f3.params.toList ++ Rows.coverRatesSpec.plain.varTypes Tryz.prog ++ Tryz.f3.resultTypes.toList).any (Tryz.prog.wideKeysFrom ·)) = true := by kernel_rfl
theorem k19 : (Rows.coverRatesSpec.vars.all (Tryz.prog.varReadable ·)) = true := by kernel_rfl
theorem k20 : (Tryz.f3.resultTypes.all (fun t => Tryz.prog.readableRec t && decide (t < Tryz.prog.types.size))) = true := by kernel_rfl
theorem k21 : (Rows.coverRatesRow.ifacesOut == Tryz.f3.resultTypes.toList.any (Tryz.prog.ifacesRec ·)) = true := by kernel_rfl
theorem k22 : (Rows.coverRatesRow.loopsOut == Tryz.f3.resultTypes.toList.any (Tryz.prog.loopsFrom ·)) = true := by kernel_rfl
theorem k23 : (Rows.coverRatesRow.plainKeys == Tryz.prog.plainKeys) = true := by kernel_rfl
theorem k24 : (Rows.coverRatesRow.shortTexts.isNone) = true := by kernel_rfl
theorem k25 : (Tryz.prog.stopsHeard) = true := by kernel_rfl
theorem k26 : (Tryz.prog.mayEnter) = true := by kernel_rfl
theorem k27 : (Rows.coverRatesRow.lifted == Tryz.prog.liftsFinal) = true := by kernel_rfl
theorem k28 : (Tryz.prog.make == some Rows.coverRatesRow.make) = true := by kernel_rfl
theorem k29 : (Rows.coverRatesRow.kinds == (if Rows.coverRatesRow.domain.isEmpty then [] else Tryz.f3.params.toList.map fun t => match Tryz.prog.underlying t with | some (.int k) => some k | _ => none)) = true := by kernel_rfl
theorem k30 : (Rows.coverRatesRow.pinned == Rows.coverRatesRow.pinnedBy) = true := by kernel_rfl
theorem k31 : (Rows.coverRatesRow.veiled == (Tryz.f3.params.toList ++ Rows.coverRatesSpec.plain.varTypes Tryz.prog ++ Tryz.f3.resultTypes.toList).any (Tryz.prog.veiledRec ·)) = true := by kernel_rfl
theorem k32 : (Rows.coverRatesRow.veiledFits Tryz.prog Tryz.f3.params.toList (Tryz.f3.params.toList ++ Rows.coverRatesSpec.plain.varTypes Tryz.prog ++ Tryz.f3.resultTypes.toList)) = true := by kernel_rfl
theorem closed3 : joinedFacts Tryz.prog 3 Tryz.f3 Rows.coverRatesSpec Rows.coverRatesRow = true := by
 unfold joinedFacts
 exact and_t (and_t (and_t (and_t (and_t (and_t (and_t (and_t (and_t (and_t (and_t (and_t (and_t (and_t (and_t (and_t (and_t (and_t (and_t (and_t (and_t (and_t (and_t (and_t (and_t (and_t (and_t (and_t (and_t (and_t (and_t (k1) k2) k3) k4) k5) k6) k7) k8) k9) k10) k11) k12) k13) k14) k15) k16) k17) k18) k19) k20) k21) k22) k23) k24) k25) k26) k27) k28) k29) k30) k31) k32
theorem named3 : Tryz.prog.funcNamed "synchrony/synchronylaw45.CoverRates" = some 3 := by kernel_rfl
theorem inst3 : Tryz.f3.isInstance Tryz.prog Rows.coverRatesRow.origin Rows.coverRatesRow.targs := of_decide_eq_true (by kernel_rfl)
theorem wrap3 : Tryz.f3.isWrapper Tryz.prog Rows.coverRatesRow.wrapper Rows.coverRatesRow.mainSum := by unfold Func.isWrapper; first | (rw [if_pos (by decide +kernel)]; kernel_rfl) | (rw [if_neg (by decide +kernel)]; exact ⟨rfl, rfl⟩)
theorem byText3 : Rows.coverRatesRow.wfByText (OpenSpec.ofChange Rows.coverRatesSpec) = true := by kernel_rfl
theorem main3 : Tryz.prog.mainIs = some (true, ( "9f60b61577bf900bc3cb9e65b037e91791c0bcaddc89ff2b5841c8311d078561" : String).toList) := by kernel_rfl
theorem looks3 : true = Tryz.prog.looks [] := by kernel_rfl
theorem noGo : Tryz.prog.funcs.any Func.goes = false := by kernel_rfl
theorem goes_none {P : Program} (h : P.funcs.any Func.goes = false) (f : FuncId) : P.goes f = false := by
 have ha : ∀ g : FuncId, ((P.funcs[g]?).any Func.goes) = false := by
  intro g
  cases hg : P.funcs[g]? with
  | none => rfl
  | some fn =>
    simp only [Option.any_some]
    cases hf : fn.goes with
    | false => rfl
    | true =>
      obtain ⟨hl, e⟩ := Array.getElem?_eq_some_iff.1 hg
      have : P.funcs.any Func.goes = true := Array.any_eq_true.2 ⟨g, hl, by rw [e]; exact hf⟩
      rw [h] at this
      cases this
 unfold Program.goes
 rw [h, Bool.and_false, Bool.or_false, List.any_eq_false]
 intro g _
 rw [ha g]
 exact Bool.false_ne_true
theorem goes_row {P : Program} {c : OpenClaim} (h : P.funcs.any Func.goes = false) (hs : c.start = .entering) : false = c.goesBy P := by
 unfold OpenClaim.goesBy Program.goesAt Program.goesFrom
 rw [hs]
 cases P.funcNamed c.func with
 | none => rfl
 | some f => simp only [Option.any_some, goes_none h f, Bool.or_false]
theorem goes3 : false = Rows.coverRatesRow.goesBy Tryz.prog := goes_row noGo rfl
theorem stand3 : Tryz.prog.wantsStandIn 22 = false := by kernel_rfl
theorem params3 : Tryz.f3.params = #[22] := by kernel_rfl
end Go.Proofs.YtaejhojielbbdaaGreatDoor.Pi
