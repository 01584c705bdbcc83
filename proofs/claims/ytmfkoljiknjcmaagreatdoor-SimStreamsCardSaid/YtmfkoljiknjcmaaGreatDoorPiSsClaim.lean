/-
  SimStreams (delays, samplings, merges, words and selections are those of the streams, for all inputs) holds of the translated program: the law returns true and leaves its arguments al they were. No further condition; proved by way of a pure interpreter that is shown to be sound for the machine.
-/
import Derived.Test.YtmfkoljiknjcmaaGreatDoorTie
import Derived.Test.YtmfkoljiknjcmaaGreatDoorCards
import Derived.Test.YtmfkoljiknjcmaaGreatDoorPiSsFacts
import Derived.Test.YtmfkoljiknjcmaaGreatDoorPiSsSeat
import Derived.Test.YtmfkoljiknjcmaaGreatDoorPiSsPlain
import Derived.Test.YtmfkoljiknjcmaaGreatDoorPiSsStr1
import Derived.Test.YtmfkoljiknjcmaaGreatDoorPiSsCmp
import Derived.Test.YtmfkoljiknjcmaaGreatDoorPiPrimOK
import Derived.Test.YtmfkoljiknjcmaaGreatDoorPiPrimOK
import Derived.Test.YtmfkoljiknjcmaaGreatDoorPiSsStr1
import Derived.Test.YtmfkoljiknjcmaaGreatDoorPiLaw
import Derived.Test.YtmfkoljiknjcmaaGreatDoorPiPrimOK
import Derived.WalkKit
import Derived.ProofKit
import Derived.OpenShut
import Derived.SizedLaws
import Derived.Handed
import Derived.Lay
import Derived.LaidSub
import Derived.Lib.LaidTab
import Derived.Stop.LaidErr
import Derived.SevenTiedAt
import Derived.Deep.DeepHandedRow
set_option linter.constructorNameAsVariable false
set_option linter.unusedSimpArgs false
set_option maxRecDepth 100000
set_option linter.unusedVariables false
namespace Go.Proofs.YtmfkoljiknjcmaaGreatDoor.Pi
open Go.ChangeShapes Go.WideShapes Go.ChangeAt Go.RowKit PI PI.Sc
theorem own:ownKnob Tryz.prog.godebug=none:=by kernel_rfl
def D:Nat->TyD|0=>.bool|1=>.slice 0 1|2=>.int .i16|_=>.slice 2 2
def tm(i:Nat):TypeId:=([4,23,26]:List Nat).getD i 22
theorem matchAll:(List.range 4).all (λi=>matchT Tryz.prog D tm 4 i)=true:=by kernel_rfl
theorem matches':∀i,i<4->matchT Tryz.prog D tm 4 i=true:=by intro i a;exact List.all_eq_true.1 matchAll i (by simpa using a)
theorem laidOut:laidOutB Tryz.prog=true:=by kernel_rfl
theorem typesOk:(List.range 4).all (λi=>Tryz.prog.readableRec (tm i)&&decide (tm i<Tryz.prog.types.size))=true:=by kernel_rfl
theorem types'(i:Nat)(a:i<4):i<4/\Tryz.prog.readableRec (tm i)=true/\tm i<Tryz.prog.types.size:=by have:=List.all_eq_true.1 typesOk i (by simpa using a);simp only[Bool.and_eq_true,decide_eq_true_eq]at this;exact⟨a,this⟩
def laid:List (String×DataW Unit):=[("math/bits.deBruijn32tab",Rows.laid_math_bits_deBruijn32tab),("math/bits.deBruijn64tab",Rows.laid_math_bits_deBruijn64tab),("internal/strconv.uint64pow10",Rows.laid_internal_strconv_uint64pow10)]
theorem noHandles:(laid.filter λx=>x.2.handleName?.isSome)=[]:=by kernel_rfl
theorem laid_of{w:World}(h:laidMetH Tryz.prog laid w):laidMet Tryz.prog laid w:=by unfold laidMetH at h;rw[noHandles]at h;exact h
theorem laid_to{w:World}(h:laidMet Tryz.prog laid w):laidMetH Tryz.prog laid w:=by unfold laidMetH;rw[noHandles];exact h
def par:Ps:=⟨[],[],0⟩
theorem rec85(p:Ps):DfrOK (N0 p) Tryz.prog 85 (pRec 1):=by refine rec_ok (E:=E.opt {hs:=[0,1],sr:=true}) ((envOk p).opt _) rfl mixed rfl (fn:=Tryz.f94) (tA:=20) (T:=178) Tryz.func94 rfl rfl rfl ⟨_,rfl⟩ rfl rfl rfl rfl rfl rfl rfl (by kernel_rfl) (by kernel_rfl) rfl (by kernel_rfl) rfl (by kernel_rfl) (by kernel_rfl)
theorem rec102(p:Ps):DfrOK (N0 p) Tryz.prog 102 (pRec 2):=by refine rec_ok (E:=E.opt {hs:=[0,1],sr:=true}) ((envOk p).opt _) rfl mixed rfl (fn:=Tryz.f112) (tA:=20) (T:=210) Tryz.func112 rfl rfl rfl ⟨_,rfl⟩ rfl rfl rfl rfl rfl rfl rfl (by kernel_rfl) (by kernel_rfl) rfl (by kernel_rfl) rfl (by kernel_rfl) (by kernel_rfl)
theorem sortE(p:Ps):PrimOK (N0 p) Tryz.prog 182 (pSortPairs 183):=sortp_ok (ρ:=Tryz.sortEdge_ren) (by kernel_rfl) Tryz.sortEdge Tryz.isAgg234 Tryz.sizeOf234 (enters_of Tryz.func199 (by kernel_rfl) rfl) cmp_walk
theorem lib:∀k a,LB k=some a->FnS E (N0 par) k a:=libOk (h182:=sortE _) (h254:=sort_ok (ρ:=Tryz.lays189_ren) (by kernel_rfl) Tryz.lays189) (h316:=indexByte_ok (ρ:=Tryz.lays217_ren) (by kernel_rfl) Tryz.lays217) (h85:=rec85 _) (h102:=rec102 _)
theorem sh_bools:∀es:List PV,(∀x∈es,Sh D 0 x)->∃c:List Bool,es=c.map .bool|[],_=>⟨[],rfl⟩|x::es,h=>by obtain⟨c,rfl⟩:=sh_bools es (λy d=>h y (List.mem_cons_of_mem _ d));have e:=h x (by simp);cases e with|bool _ b _=>exact⟨b::c,rfl⟩|int _ _ _ a=>cases a|str _ _ a=>cases a|slice _ _ _ _ a=>cases a|struct _ _ _ a=>cases a
theorem sh_ints:∀es:List PV,(∀x∈es,Sh D 2 x)->∃c:List Int,es=c.map (PV.int .i16)/\∀x∈c,-32768<=x/\x<=32767|[],_=>⟨[],rfl,by simp⟩|x::es,h=>by obtain⟨c,rfl,e⟩:=sh_ints es (λy b=>h y (List.mem_cons_of_mem _ b));have d:=h x (by simp);cases d with|bool _ _ a=>cases a|int _ k n a f h2=>cases a;refine⟨n::c,rfl,λy b=>?_⟩;rcases List.mem_cons.1 b with rfl|b;{exact⟨f,h2⟩};exact e y b|str _ _ a=>cases a|slice _ _ _ _ a=>cases a|struct _ _ _ a=>cases a
theorem runSimStreams(a:List PV)(h:ShAll D [3,1,1] a):∃m c,call LB m 0 a []=some (.bool true,c):=by match a,h with|[p,q,r],h=>obtain⟨l,rfl,_,_,hs⟩:=Sh.inv_slice (D:=D) (e:=2) (b:=2) rfl h.1;obtain⟨g,rfl,_,_,k⟩:=Sh.inv_slice (D:=D) (e:=0) (b:=1) rfl h.2.1;obtain⟨i,rfl,_,_,o⟩:=Sh.inv_slice (D:=D) (e:=0) (b:=1) rfl h.2.2.1;obtain⟨f,rfl,hr⟩:=sh_ints l hs;obtain⟨d,rfl⟩:=sh_bools g k;obtain⟨j,rfl⟩:=sh_bools i o;obtain⟨c,hr⟩:=streams_run f d j hr false false false;obtain⟨m,n⟩:=callL_iff.1 hr;exact⟨m,c,n⟩
theorem idxSimStreams:∀i∈([3,1,1]:List Nat),i<4/\Tryz.prog.readableRec (tm i)=true/\tm i<Tryz.prog.types.size:=λi a=>types' i (by simp at a;omega)
theorem laid_met(os:Os)(args:Array Value):laidMetH Tryz.prog laid ((World.laidAll Tryz.prog os laid).forCall (λ_ _=>0) ⟨#[],args,[]⟩).memory:=laid_to (laidMet_laidAll args (by kernel_rfl) (by kernel_rfl))
theorem liftedSimStreams(os:Os)(a:os.Started)(H:Type)(enc:TypeId×Value->H):ReturnsInHanded {} Tryz.checked os 3 .any (λw args=>(Rows.simStreamsSpec.pre enc Tryz.prog Tryz.f3 [] false w args/\laidMetH Tryz.prog laid w)/\sizedMet enc Tryz.prog Tryz.f3 (OpenSpec.ofChange Rows.simStreamsSpec) false w args) (Rows.simStreamsSpec.post enc Tryz.prog Tryz.f3 false true false false):=by refine returnsInHanded_of_change_and (C:=Tryz.checked) (X:=λw _=>laidMetH Tryz.prog laid w) (λ_ _ _ j h=>h.of_heap j) own a (by kernel_rfl) Tryz.func3 (ChangeSpec.witness_at (enc:=enc) (C:=Tryz.checked) (os:=os) (X:=λw _=>laidMetH Tryz.prog laid w) false (World.laidAll Tryz.prog os laid) #[.slice none 0 0,.slice none 0 0,.slice none 0 0] 8 (World.laidAll_os _ _ _) (by kernel_rfl) (by kernel_rfl) (by kernel_rfl) (by kernel_rfl) (by kernel_rfl) (laid_met os _)) ?_;intro W b args g m d c l _ f o _;exact pi_contract (base':=b) (N:=N0 par) (D:=D) (tm:=tm) (n:=4) (k:=0) (idxs:=[3,1,1]) (tb:=4) (envOk _) rfl mixed lib (λ_ h=>by cases h) (λ_ h=>by cases h) matches' laidOut (by kernel_rfl) idxSimStreams rfl Tryz.underlying4 (by kernel_rfl) (λg i=>by match g,i with|[_,_,_],_=>rfl) c l f (λe h _=>runSimStreams e h)
theorem simStreams_holds:Rows.SimStreamsSaid:=OpenClaim.holds_of_wide 3 Tryz.f3 rfl rfl rfl rfl rfl rfl rfl ⟨rfl,rfl,rfl,rfl,rfl⟩ rfl rfl rfl rfl rfl named3 Tryz.func3 closed3 inst3 wrap3 (λos a H b _=>liftedSimStreams os a H b)
theorem simStreams_card:Rows.SimStreamsCardSaid:=Claim7.holds_tied_plain_at .later [] [.data,.data,.data] true (true,"86b686c31683ea6d64f5510c3f2a2e2aae1afbe69c48b5b2750076493eb6b762") true simStreams_holds (λ_ h=>by cases h) byText3 (λ_ h=>by cases h) simStreams_row_tie rfl ⟨rfl,rfl⟩ main3 rfl (λf fn hf c=>by obtain rfl:f=3:=Option.some.inj (named3.symm.trans hf)|>.symm;obtain rfl:fn=Tryz.f3:=(Option.some.inj (Tryz.func3.symm.trans c)).symm;exact⟨looks3,λj t a=>by rw[params3]at a;rcases j with _|_|_|j;{(have b:t=22:=by simpa using a.symm);subst b;exact stand3};{(have b:t=23:=by simpa using a.symm);subst b;exact stand3b};{(have b:t=23:=by simpa using a.symm);subst b;exact stand3b};simp at a⟩) goes3
#print axioms simStreams_card
end Go.Proofs.YtmfkoljiknjcmaaGreatDoor.Pi
