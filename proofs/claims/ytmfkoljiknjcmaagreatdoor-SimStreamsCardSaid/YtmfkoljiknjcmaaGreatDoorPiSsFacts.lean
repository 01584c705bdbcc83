/-
  Closed facts of the program and the row, each for itself.
-/
import Derived.Test.YtmfkoljiknjcmaaGreatDoorRows
import Derived.JoinedOf
import Derived.SevenTiedAt
import Derived.KernelRfl
set_option linter.unusedVariables false
set_option linter.unusedSimpArgs false
set_option maxRecDepth 100000
namespace Go.Proofs.YtmfkoljiknjcmaaGreatDoor.Pi
open Go
theorem and_t{a b:Bool}(c:a=true)(d:b=true):(a&&b)=true:=by rw[c,d];rfl
theorem k1:(Rows.simStreamsRow.wf (OpenSpec.ofChange Rows.simStreamsSpec))=true:=by kernel_rfl
theorem k2:(laidOutB Tryz.prog)=true:=by kernel_rfl
theorem k3:(mapsRowed Tryz.prog)=true:=by kernel_rfl
theorem k4:(Tryz.f3.params.all (Tryz.prog.readableRec ·))=true:=by kernel_rfl
theorem k5:(namedTie Tryz.prog Rows.simStreamsRow.named Rows.simStreamsSpec.vars)=true:=by kernel_rfl
theorem k6:(Rows.simStreamsRow.stops==[])=true:=by kernel_rfl
theorem k7:(Tryz.prog.stops==[])=true:=by kernel_rfl
theorem k8:(Rows.simStreamsRow.knobs==[])=true:=by kernel_rfl
theorem k9:(Tryz.prog.stopKnobs==[])=true:=by kernel_rfl
theorem k10:(Rows.simStreamsRow.inPlace==Tryz.prog.inPlace 3)=true:=by kernel_rfl
theorem k11:(Rows.simStreamsRow.unfollowed==Tryz.prog.unfollowed 3)=true:=by kernel_rfl
theorem k12:(Rows.simStreamsRow.recurses==Tryz.prog.recurses 3)=true:=by kernel_rfl
theorem k13:(Rows.simStreamsRow.named==Tryz.prog.varsNamed 3)=true:=by kernel_rfl
theorem k14:(Rows.simStreamsRow.maps==(Tryz.f3.params.toList++Rows.simStreamsSpec.plain.varTypes Tryz.prog).any (Tryz.prog.mapsRec ·))=true:=by kernel_rfl
theorem k15:(Rows.simStreamsRow.ifaces==(Tryz.f3.params.toList++Rows.simStreamsSpec.plain.varTypes Tryz.prog).any (Tryz.prog.ifacesRec ·))=true:=by kernel_rfl
theorem k16:(Rows.simStreamsRow.mapsOut==Tryz.prog.mapsAmong Tryz.f3.resultTypes.toList)=true:=by kernel_rfl
theorem k17:(Rows.simStreamsRow.loops==(Tryz.f3.params.toList++Rows.simStreamsSpec.plain.varTypes Tryz.prog).any (Tryz.prog.loopsFrom ·))=true:=by kernel_rfl
theorem k18:(Rows.simStreamsRow.wideKeys==(Tryz.f3.params.toList++Rows.simStreamsSpec.plain.varTypes Tryz.prog++Tryz.f3.resultTypes.toList).any (Tryz.prog.wideKeysFrom ·))=true:=by kernel_rfl
theorem k19:(Rows.simStreamsSpec.vars.all (Tryz.prog.varReadable ·))=true:=by kernel_rfl
theorem k20:(Tryz.f3.resultTypes.all (λt=>Tryz.prog.readableRec t&&decide (t<Tryz.prog.types.size)))=true:=by kernel_rfl
theorem k21:(Rows.simStreamsRow.ifacesOut==Tryz.f3.resultTypes.toList.any (Tryz.prog.ifacesRec ·))=true:=by kernel_rfl
theorem k22:(Rows.simStreamsRow.loopsOut==Tryz.f3.resultTypes.toList.any (Tryz.prog.loopsFrom ·))=true:=by kernel_rfl
theorem k23:(Rows.simStreamsRow.plainKeys==Tryz.prog.plainKeys)=true:=by kernel_rfl
theorem k24:(Rows.simStreamsRow.shortTexts.isNone)=true:=by kernel_rfl
theorem k25:(Tryz.prog.stopsHeard)=true:=by kernel_rfl
theorem k26:(Tryz.prog.mayEnter)=true:=by kernel_rfl
theorem k27:(Rows.simStreamsRow.lifted==Tryz.prog.liftsFinal)=true:=by kernel_rfl
theorem k28:(Tryz.prog.make==some Rows.simStreamsRow.make)=true:=by kernel_rfl
theorem k29:(Rows.simStreamsRow.kinds==(if Rows.simStreamsRow.domain.isEmpty then[]else Tryz.f3.params.toList.map λt=>match Tryz.prog.underlying t with|some (.int k)=>some k|_=>none))=true:=by kernel_rfl
theorem k30:(Rows.simStreamsRow.pinned==Rows.simStreamsRow.pinnedBy)=true:=by kernel_rfl
theorem k31:(Rows.simStreamsRow.veiled==(Tryz.f3.params.toList++Rows.simStreamsSpec.plain.varTypes Tryz.prog++Tryz.f3.resultTypes.toList).any (Tryz.prog.veiledRec ·))=true:=by kernel_rfl
theorem k32:(Rows.simStreamsRow.veiledFits Tryz.prog Tryz.f3.params.toList (Tryz.f3.params.toList++Rows.simStreamsSpec.plain.varTypes Tryz.prog++Tryz.f3.resultTypes.toList))=true:=by kernel_rfl
theorem closed3:joinedFacts Tryz.prog 3 Tryz.f3 Rows.simStreamsSpec Rows.simStreamsRow=true:=by unfold joinedFacts;exact and_t (and_t (and_t (and_t (and_t (and_t (and_t (and_t (and_t (and_t (and_t (and_t (and_t (and_t (and_t (and_t (and_t (and_t (and_t (and_t (and_t (and_t (and_t (and_t (and_t (and_t (and_t (and_t (and_t (and_t (and_t (k1) k2) k3) k4) k5) k6) k7) k8) k9) k10) k11) k12) k13) k14) k15) k16) k17) k18) k19) k20) k21) k22) k23) k24) k25) k26) k27) k28) k29) k30) k31) k32
theorem named3:Tryz.prog.funcNamed "synchrony/synchronylaw17.SimStreams"=some 3:=by kernel_rfl
theorem inst3:Tryz.f3.isInstance Tryz.prog Rows.simStreamsRow.origin Rows.simStreamsRow.targs:=of_decide_eq_true (by kernel_rfl)
theorem wrap3:Tryz.f3.isWrapper Tryz.prog Rows.simStreamsRow.wrapper Rows.simStreamsRow.mainSum:=by unfold Func.isWrapper;first|(rw[if_pos (by decide+kernel)];kernel_rfl)|(rw[if_neg (by decide+kernel)];exact⟨rfl,rfl⟩)
theorem byText3:Rows.simStreamsRow.wfByText (OpenSpec.ofChange Rows.simStreamsSpec)=true:=by kernel_rfl
theorem main3:Tryz.prog.mainIs=some (true,( "86b686c31683ea6d64f5510c3f2a2e2aae1afbe69c48b5b2750076493eb6b762":String).toList):=by kernel_rfl
theorem looks3:true=Tryz.prog.looks []:=by kernel_rfl
theorem noGo:Tryz.prog.funcs.any Func.goes=false:=by kernel_rfl
theorem goes_none{P:Program}(h:P.funcs.any Func.goes=false)(f:FuncId):P.goes f=false:=by(have a:∀g:FuncId,((P.funcs[g]?).any Func.goes)=false:=by intro g;cases c:P.funcs[g]? with|none=>rfl|some fn=>simp only[Option.any_some];cases hf:fn.goes with|false=>rfl|true=>obtain⟨b,e⟩:=Array.getElem?_eq_some_iff.1 c;have:P.funcs.any Func.goes=true:=Array.any_eq_true.2 ⟨g,b,by rw[e];exact hf⟩;rw[h]at this;cases this);unfold Program.goes;rw[h,Bool.and_false,Bool.or_false,List.any_eq_false];intro g _;rw[a g];exact Bool.false_ne_true
theorem goes_row{P:Program}{c:OpenClaim}(h:P.funcs.any Func.goes=false)(hs:c.start=.entering):false=c.goesBy P:=by unfold OpenClaim.goesBy Program.goesAt Program.goesFrom;rw[hs];cases P.funcNamed c.func with|none=>rfl|some f=>simp only[Option.any_some,goes_none h f,Bool.or_false]
theorem goes3:false=Rows.simStreamsRow.goesBy Tryz.prog:=goes_row noGo rfl
theorem stand3:Tryz.prog.wantsStandIn 22=false:=by kernel_rfl
theorem stand3b:Tryz.prog.wantsStandIn 23=false:=by kernel_rfl
theorem params3:Tryz.f3.params=#[22,23,23]:=by kernel_rfl
end Go.Proofs.YtmfkoljiknjcmaaGreatDoor.Pi
