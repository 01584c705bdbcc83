import Derived.Test.YtncpglgeamdneaaGreatDoorRows
import Derived.JoinedOf
import Derived.SevenTiedAt
import Derived.KernelRfl
set_option maxRecDepth 100000
namespace Go.Proofs.YtncpglgeamdneaaGreatDoor.Pi
open Go
theorem a5Z{a b:Bool}(c:a=true)(hb:b=true):(a&&b)=true:=by rw[c,hb];rfl
theorem k1:(Rows.acceptAllUptoRow.wf (OpenSpec.ofChange Rows.acceptAllSpec))=true:=by kernel_rfl
theorem k2:(laidOutB Tryz.prog)=true:=by kernel_rfl
theorem k3:(mapsRowed Tryz.prog)=true:=by kernel_rfl
theorem k4:(Tryz.f3.params.all (Tryz.prog.readableRec ·))=true:=by kernel_rfl
theorem k5:(namedTie Tryz.prog Rows.acceptAllUptoRow.named Rows.acceptAllSpec.vars)=true:=by kernel_rfl
theorem k6:(Rows.acceptAllUptoRow.stops==[])=true:=by kernel_rfl
theorem k7:(Tryz.prog.stops==[])=true:=by kernel_rfl
theorem k8:(Rows.acceptAllUptoRow.knobs==[])=true:=by kernel_rfl
theorem k9:(Tryz.prog.stopKnobs==[])=true:=by kernel_rfl
theorem k10:(Rows.acceptAllUptoRow.inPlace==Tryz.prog.inPlace 3)=true:=by kernel_rfl
theorem k11:(Rows.acceptAllUptoRow.unfollowed==Tryz.prog.unfollowed 3)=true:=by kernel_rfl
theorem k12:(Rows.acceptAllUptoRow.recurses==Tryz.prog.recurses 3)=true:=by kernel_rfl
theorem k13:(Rows.acceptAllUptoRow.named==Tryz.prog.varsNamed 3)=true:=by kernel_rfl
theorem k14:(Rows.acceptAllUptoRow.maps==(Tryz.f3.params.toList++Rows.acceptAllSpec.plain.varTypes Tryz.prog).any (Tryz.prog.mapsRec ·))=true:=by kernel_rfl
theorem k15:(Rows.acceptAllUptoRow.ifaces==(Tryz.f3.params.toList++Rows.acceptAllSpec.plain.varTypes Tryz.prog).any (Tryz.prog.ifacesRec ·))=true:=by kernel_rfl
theorem k16:(Rows.acceptAllUptoRow.mapsOut==Tryz.prog.mapsAmong Tryz.f3.resultTypes.toList)=true:=by kernel_rfl
theorem k17:(Rows.acceptAllUptoRow.loops==(Tryz.f3.params.toList++Rows.acceptAllSpec.plain.varTypes Tryz.prog).any (Tryz.prog.loopsFrom ·))=true:=by kernel_rfl
theorem k18:(Rows.acceptAllUptoRow.wideKeys==(Tryz.f3.params.toList++Rows.acceptAllSpec.plain.varTypes Tryz.prog++Tryz.f3.resultTypes.toList).any (Tryz.prog.wideKeysFrom ·))=true:=by kernel_rfl
theorem k19:(Rows.acceptAllSpec.vars.all (Tryz.prog.varReadable ·))=true:=by kernel_rfl
theorem k20:(Tryz.f3.resultTypes.all (λt=>Tryz.prog.readableRec t&&decide (t<Tryz.prog.types.size)))=true:=by kernel_rfl
theorem k21:(Rows.acceptAllUptoRow.ifacesOut==Tryz.f3.resultTypes.toList.any (Tryz.prog.ifacesRec ·))=true:=by kernel_rfl
theorem k22:(Rows.acceptAllUptoRow.loopsOut==Tryz.f3.resultTypes.toList.any (Tryz.prog.loopsFrom ·))=true:=by kernel_rfl
theorem k23:(Rows.acceptAllUptoRow.plainKeys==Tryz.prog.plainKeys)=true:=by kernel_rfl
theorem k24:(Rows.acceptAllUptoRow.shortTexts.isNone)=true:=by kernel_rfl
theorem k25:(Tryz.prog.stopsHeard)=true:=by kernel_rfl
theorem k26:(Tryz.prog.mayEnter)=true:=by kernel_rfl
theorem k27:(Rows.acceptAllUptoRow.lifted==Tryz.prog.liftsFinal)=true:=by kernel_rfl
theorem k28:(Tryz.prog.make==some Rows.acceptAllUptoRow.make)=true:=by kernel_rfl
theorem k29:(Rows.acceptAllUptoRow.kinds==(if Rows.acceptAllUptoRow.domain.isEmpty then[]else Tryz.f3.params.toList.map λt=>match Tryz.prog.underlying t with|some (.int k)=>some k|_=>none))=true:=by kernel_rfl
theorem k30:(Rows.acceptAllUptoRow.pinned==Rows.acceptAllUptoRow.pinnedBy)=true:=by kernel_rfl
theorem k31:(Rows.acceptAllUptoRow.veiled==(Tryz.f3.params.toList++Rows.acceptAllSpec.plain.varTypes Tryz.prog++Tryz.f3.resultTypes.toList).any (Tryz.prog.veiledRec ·))=true:=by kernel_rfl
theorem k32:(Rows.acceptAllUptoRow.veiledFits Tryz.prog Tryz.f3.params.toList (Tryz.f3.params.toList++Rows.acceptAllSpec.plain.varTypes Tryz.prog++Tryz.f3.resultTypes.toList))=true:=by kernel_rfl
theorem d47:joinedFacts Tryz.prog 3 Tryz.f3 Rows.acceptAllSpec Rows.acceptAllUptoRow=true:=by unfold joinedFacts;exact a5Z (a5Z (a5Z (a5Z (a5Z (a5Z (a5Z (a5Z (a5Z (a5Z (a5Z (a5Z (a5Z (a5Z (a5Z (a5Z (a5Z (a5Z (a5Z (a5Z (a5Z (a5Z (a5Z (a5Z (a5Z (a5Z (a5Z (a5Z (a5Z (a5Z (a5Z (k1) k2) k3) k4) k5) k6) k7) k8) k9) k10) k11) k12) k13) k14) k15) k16) k17) k18) k19) k20) k21) k22) k23) k24) k25) k26) k27) k28) k29) k30) k31) k32
theorem d32:Tryz.prog.funcNamed "synchrony/synchronylaw18.AcceptAll"=some 3:=by kernel_rfl
theorem e3l:Tryz.f3.isInstance Tryz.prog Rows.acceptAllUptoRow.origin Rows.acceptAllUptoRow.targs:=of_decide_eq_true (by kernel_rfl)
theorem e3m:Tryz.f3.isWrapper Tryz.prog Rows.acceptAllUptoRow.wrapper Rows.acceptAllUptoRow.mainSum:=by unfold Func.isWrapper;first|(rw[if_pos (by decide+kernel)];kernel_rfl)|(rw[if_neg (by decide+kernel)];exact⟨rfl,rfl⟩)
theorem d48:Rows.acceptAllUptoRow.wfByText (Rows.OpenSpec.upto Rows.acceptAllSpec)=true:=by kernel_rfl
theorem e3n:Tryz.prog.mainIs=some (true,( "e54cbf716c0d51190e989ba6f9d0f6fb07cc904a37ed975123be436d4be40fb0":String).toList):=by kernel_rfl
theorem d8U:true=Tryz.prog.looks []:=by kernel_rfl
theorem e42:Tryz.prog.funcs.any Func.goes=false:=by kernel_rfl
theorem c83{P:Program}(h:P.funcs.any Func.goes=false)(f:FuncId):P.goes f=false:=by(have a:∀g:FuncId,((P.funcs[g]?).any Func.goes)=false:=by intro g;cases c:P.funcs[g]? with|none=>rfl|some fn=>simp only[Option.any_some];cases hf:fn.goes with|false=>rfl|true=>obtain⟨b,e⟩:=Array.getElem?_eq_some_iff.1 c;have:P.funcs.any Func.goes=true:=Array.any_eq_true.2 ⟨g,b,by rw[e];exact hf⟩;rw[h]at this;cases this);unfold Program.goes;rw[h,Bool.and_false,Bool.or_false,List.any_eq_false];intro g _;rw[a g];exact Bool.false_ne_true
theorem d19{P:Program}{c:OpenClaim}(h:P.funcs.any Func.goes=false)(hs:c.start=.entering):false=c.goesBy P:=by unfold OpenClaim.goesBy Program.goesAt Program.goesFrom;rw[hs];cases P.funcNamed c.func with|none=>rfl|some f=>simp only[Option.any_some,c83 h f,Bool.or_false]
theorem e3o:false=Rows.acceptAllUptoRow.goesBy Tryz.prog:=d19 e42 rfl
theorem d8V:Tryz.prog.wantsStandIn 25=false:=by kernel_rfl
theorem d49:Tryz.f3.params=#[25]:=by kernel_rfl
end Go.Proofs.YtncpglgeamdneaaGreatDoor.Pi
