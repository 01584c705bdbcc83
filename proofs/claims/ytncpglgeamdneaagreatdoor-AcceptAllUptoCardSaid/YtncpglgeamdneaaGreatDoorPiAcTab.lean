/-
  AcceptAll (a program is accepted exactly if all checks accept it) holds of the translated program where what it reads is of bulk at most 1048576: the law returns true and leaves its argument as it was. No further condition; proved by way of a pure interpreter that is shown to be sound for the machine.
-/
import Derived.Test.YtncpglgeamdneaaGreatDoorPiLaw
import Derived.Test.YtncpglgeamdneaaGreatDoorPiMemo
import Derived.Carry
import Derived.ChangeSame
import Derived.OpenShut
import Derived.Test.YtncpglgeamdneaaGreatDoorPiCeSpec2
import Derived.Test.YtncpglgeamdneaaGreatDoorPiFunc
import Derived.Shelf.SlSortCmp.NoneTotal
import Derived.Sort.OwnSortedInts
import Derived.WalkKit
import Derived.StillTailTactics
import Derived.Deep.RegionWith
import Derived.Shelf.Strings.OnBuilder
import Derived.Shelf.Strings.BuilderK
import Derived.Shelf.Strings.Search1
import Derived.Shelf.Strconv.Itoa3
import Derived.Shelf.Strconv.ErrVarAll
import Derived.Shelf.Sort.Plain
import Derived.Shelf.Slices.In.SortNone
import Derived.Test.YtncpglgeamdneaaGreatDoorTie
import Derived.Test.YtncpglgeamdneaaGreatDoorCards
import Derived.Test.YtncpglgeamdneaaGreatDoorPiAcFacts
import Derived.Test.YtncpglgeamdneaaGreatDoorPiAcR3
import Derived.ProofKit
import Derived.SizedLaws
import Derived.Handed
import Derived.Lay
import Derived.LaidSub
import Derived.Lib.LaidTab
import Derived.Stop.LaidErr
import Derived.SevenTiedAt
import Derived.Deep.DeepHandedRow
set_option maxHeartbeats 1000000
set_option maxRecDepth 100000
set_option linter.unusedSectionVars false
namespace PI.Sc
abbrev ii(n:Int):PV:=I6 n
def P1:PV:=(.agg [(Lf []),(Lf [(.agg [(.str [99,111,117,110,116]),(Lf [(.agg [(.str [114]),(ii 1),(Lf [])])]),(Lf [(.agg [(.str [110]),(ii 2),(Lf [])])]),(Lf []),(Lf [(.agg [(Lf [(.str [110])]),(ii 4),(ii 0),(ii 0),(ii 0),(.str []),(Lf [(.agg [(ii 2),(ii 0),(ii 0),(ii 0),(.str [114]),(Lf [])]),(.agg [(ii 1),(ii 0),(ii 2),(ii 0),(.str []),(Lf [])]),(.agg [(ii 3),(ii 6),(ii 0),(ii 0),(.str []),(Lf [(.agg [(ii 7),(ii 0),(ii 0),(ii 0),(.str []),(Lf [(.agg [(ii 1),(ii 0),(ii 2),(ii 0),(.str []),(Lf [])]),(.agg [(ii 2),(ii 0),(ii 0),(ii 0),(.str [110]),(Lf [])])])]),(.agg [(ii 1),(ii 0),(ii 2),(ii 1),(.str []),(Lf [])])])])])])]),(Lf []),(Lf []),(Lf [])])])])
def P2:PV:=(.agg [(Lf []),(Lf [(.agg [(.str [99,111,117,110,116]),(Lf [(.agg [(.str [114]),(ii 1),(Lf [])])]),(Lf [(.agg [(.str [110]),(ii 2),(Lf [])])]),(Lf []),(Lf [(.agg [(Lf [(.str [110])]),(ii 4),(ii 0),(ii 0),(ii 0),(.str []),(Lf [(.agg [(ii 2),(ii 0),(ii 0),(ii 0),(.str [114]),(Lf [])]),(.agg [(ii 1),(ii 0),(ii 2),(ii 0),(.str []),(Lf [])]),(.agg [(ii 3),(ii 6),(ii 0),(ii 0),(.str []),(Lf [(.agg [(ii 5),(ii 0),(ii 0),(ii 0),(.str []),(Lf [(.agg [(ii 2),(ii 0),(ii 0),(ii 0),(.str [110]),(Lf [])])])]),(.agg [(ii 1),(ii 0),(ii 2),(ii 1),(.str []),(Lf [])])])])])])]),(Lf []),(Lf []),(Lf [])])])])
noncomputable section
def okR(o:Option (PV×HsT))(r:PV):Bool:=match o with|some q=>q.1.beq r|none=>false
def hpF(L:LsT)(k:Nat)(a:VsT):HsT:=((call L 300 k a []).getD (.dead,[])).2
theorem Fs{L:LsT}{k:Nat}{c:VsT}{r:PV}(a:okR (call L 300 k c []) r=true):call L 300 k c []=some (r,hpF L k c):=by cases b:call L _ k c _ with|none=>rw[b]at a;cases a|some q=>rw[b]at a;have e:q.1=r:=(PV.beq_iff _ _).1 a;rw[hpF,b,<-e];rfl
def T0:GR:=λ_=>none
theorem ok0:TabOK LS T0 0:=TabOK.nil
theorem d9a:okR (call (ovr LS T0) 300 276 [.bool true] []) P1=true:=by decide+kernel
theorem d9b:okR (call (ovr LS T0) 300 276 [.bool false] []) P2=true:=by decide+kernel
def e43:List G7:=[([.bool true],[],P1,hpF (ovr LS T0) 276 [.bool true]),([.bool false],[],P2,hpF (ovr LS T0) 276 [.bool false])]
def T1:GR:=λj=>if j=276 then some (Hr e43)else T0 j
theorem ok1:TabOK LS T1 300:=TabOK.add ok0 rfl rfl rfl rfl rfl (bx.2 ⟨⟨rfl,Fs d9a⟩,bx.2 ⟨⟨rfl,Fs d9b⟩,λ_ h=>by cases h⟩⟩)
theorem e3w:okR (call (ovr LS T1) 300 23 [P1] []) (.tuple [(.agg [(ii 0),(ii 0)]),(ii 0)])=true:=by decide+kernel
theorem e3x:okR (call (ovr LS T1) 300 23 [P2] []) (.tuple [(.agg [(ii 0),(ii 0)]),(ii 0)])=true:=by decide+kernel
def t23:List G7:=[([P1],[],(.tuple [(.agg [(ii 0),(ii 0)]),(ii 0)]),hpF (ovr LS T1) 23 [P1]),([P2],[],(.tuple [(.agg [(ii 0),(ii 0)]),(ii 0)]),hpF (ovr LS T1) 23 [P2])]
def T2:GR:=λj=>if j=23 then some (Hr t23)else T1 j
theorem ok2:TabOK LS T2 600:=TabOK.add ok1 rfl rfl rfl rfl rfl (bx.2 ⟨⟨rfl,Fs e3w⟩,bx.2 ⟨⟨rfl,Fs e3x⟩,λ_ h=>by cases h⟩⟩)
theorem e44:okR (call (ovr LS T2) 300 8 [P1] []) (.tuple [(.agg [(ii 0),(ii 0)]),(ii 0)])=true:=by decide+kernel
theorem e45:okR (call (ovr LS T2) 300 8 [P2] []) (.tuple [(.agg [(ii 0),(ii 0)]),(ii 0)])=true:=by decide+kernel
def t8:List G7:=[([P1],[],(.tuple [(.agg [(ii 0),(ii 0)]),(ii 0)]),hpF (ovr LS T2) 8 [P1]),([P2],[],(.tuple [(.agg [(ii 0),(ii 0)]),(ii 0)]),hpF (ovr LS T2) 8 [P2])]
def T3:GR:=λj=>if j=8 then some (Hr t8)else T2 j
theorem ok3:TabOK LS T3 900:=TabOK.add ok2 rfl rfl rfl rfl rfl (bx.2 ⟨⟨rfl,Fs e44⟩,bx.2 ⟨⟨rfl,Fs e45⟩,λ_ h=>by cases h⟩⟩)
theorem d9c:okR (call (ovr LS T3) 300 265 [P1] []) (.tuple [(.agg [(ii 0),(ii 0)]),(ii 0)])=true:=by decide+kernel
theorem d9d:okR (call (ovr LS T3) 300 265 [P2] []) (.tuple [(.agg [(ii 0),(ii 0)]),(ii 0)])=true:=by decide+kernel
def e46:List G7:=[([P1],[],(.tuple [(.agg [(ii 0),(ii 0)]),(ii 0)]),hpF (ovr LS T3) 265 [P1]),([P2],[],(.tuple [(.agg [(ii 0),(ii 0)]),(ii 0)]),hpF (ovr LS T3) 265 [P2])]
def T4:GR:=λj=>if j=265 then some (Hr e46)else T3 j
theorem ok4:TabOK LS T4 1200:=TabOK.add ok3 rfl rfl rfl rfl rfl (bx.2 ⟨⟨rfl,Fs d9c⟩,bx.2 ⟨⟨rfl,Fs d9d⟩,λ_ h=>by cases h⟩⟩)
theorem d9e:okR (call (ovr LS T4) 300 283 [P1] []) P1=true:=by decide+kernel
theorem d9f:okR (call (ovr LS T4) 300 283 [P2] []) P2=true:=by decide+kernel
def e47:List G7:=[([P1],[],P1,hpF (ovr LS T4) 283 [P1]),([P2],[],P2,hpF (ovr LS T4) 283 [P2])]
def T5:GR:=λj=>if j=283 then some (Hr e47)else T4 j
theorem ok5:TabOK LS T5 1500:=TabOK.add ok4 rfl rfl rfl rfl rfl (bx.2 ⟨⟨rfl,Fs d9e⟩,bx.2 ⟨⟨rfl,Fs d9f⟩,λ_ h=>by cases h⟩⟩)
theorem d9g:okR (call (ovr LS T5) 300 267 [P1] []) (.tuple [P1,(ii 0)])=true:=by decide+kernel
theorem d9h:okR (call (ovr LS T5) 300 267 [P2] []) (.tuple [P2,(ii 0)])=true:=by decide+kernel
def e48:List G7:=[([P1],[],(.tuple [P1,(ii 0)]),hpF (ovr LS T5) 267 [P1]),([P2],[],(.tuple [P2,(ii 0)]),hpF (ovr LS T5) 267 [P2])]
def T6:GR:=λj=>if j=267 then some (Hr e48)else T5 j
theorem ok6:TabOK LS T6 1800:=TabOK.add ok5 rfl rfl rfl rfl rfl (bx.2 ⟨⟨rfl,Fs d9g⟩,bx.2 ⟨⟨rfl,Fs d9h⟩,λ_ h=>by cases h⟩⟩)
theorem d9i:okR (call (ovr LS T6) 300 268 [P1] []) (.tuple [(.agg [(ii 0),(ii 0)]),(ii 0)])=true:=by decide+kernel
theorem d9j:okR (call (ovr LS T6) 300 268 [P2] []) (.tuple [(.agg [(ii 0),(ii 0)]),(ii 0)])=true:=by decide+kernel
def e49:List G7:=[([P1],[],(.tuple [(.agg [(ii 0),(ii 0)]),(ii 0)]),hpF (ovr LS T6) 268 [P1]),([P2],[],(.tuple [(.agg [(ii 0),(ii 0)]),(ii 0)]),hpF (ovr LS T6) 268 [P2])]
def T7:GR:=λj=>if j=268 then some (Hr e49)else T6 j
theorem ok7:TabOK LS T7 2100:=TabOK.add ok6 rfl rfl rfl rfl rfl (bx.2 ⟨⟨rfl,Fs d9i⟩,bx.2 ⟨⟨rfl,Fs d9j⟩,λ_ h=>by cases h⟩⟩)
theorem d9k:okR (call (ovr LS T7) 300 269 [P1] []) (.tuple [(.agg [(ii 0),(ii 0)]),(ii 0)])=true:=by decide+kernel
theorem d9l:okR (call (ovr LS T7) 300 269 [P2] []) (.tuple [(.agg [(ii 0),(ii 0)]),(ii 12)])=true:=by decide+kernel
def e5a:List G7:=[([P1],[],(.tuple [(.agg [(ii 0),(ii 0)]),(ii 0)]),hpF (ovr LS T7) 269 [P1]),([P2],[],(.tuple [(.agg [(ii 0),(ii 0)]),(ii 12)]),hpF (ovr LS T7) 269 [P2])]
def T8:GR:=λj=>if j=269 then some (Hr e5a)else T7 j
theorem ok8:TabOK LS T8 2400:=TabOK.add ok7 rfl rfl rfl rfl rfl (bx.2 ⟨⟨rfl,Fs d9k⟩,bx.2 ⟨⟨rfl,Fs d9l⟩,λ_ h=>by cases h⟩⟩)
theorem d9m:okR (call (ovr LS T8) 300 197 [P1] []) (.tuple [(.agg [(ii 0),(ii 0)]),(ii 0)])=true:=by decide+kernel
def e5b:List G7:=[([P1],[],(.tuple [(.agg [(ii 0),(ii 0)]),(ii 0)]),hpF (ovr LS T8) 197 [P1])]
def T9:GR:=λj=>if j=197 then some (Hr e5b)else T8 j
theorem ok9:TabOK LS T9 2700:=TabOK.add ok8 rfl rfl rfl rfl rfl (bx.2 ⟨⟨rfl,Fs d9m⟩,λ_ h=>by cases h⟩)
theorem d9n:okR (call (ovr LS T9) 300 264 [P1] []) (.tuple [(.agg [(ii 0),(ii 0)]),(ii 0)])=true:=by decide+kernel
theorem d9o:okR (call (ovr LS T9) 300 264 [P2] []) (.tuple [(.agg [(ii 0),(ii 0)]),(ii 12)])=true:=by decide+kernel
def e5c:List G7:=[([P1],[],(.tuple [(.agg [(ii 0),(ii 0)]),(ii 0)]),hpF (ovr LS T9) 264 [P1]),([P2],[],(.tuple [(.agg [(ii 0),(ii 0)]),(ii 12)]),hpF (ovr LS T9) 264 [P2])]
def Mu:GR:=λj=>if j=264 then some (Hr e5c)else T9 j
theorem e5d:TabOK LS Mu 3000:=TabOK.add ok9 rfl rfl rfl rfl rfl (bx.2 ⟨⟨rfl,Fs d9n⟩,bx.2 ⟨⟨rfl,Fs d9o⟩,λ_ h=>by cases h⟩⟩)
theorem d9p:okR (call (ovr LS Mu) 300 277 [P1] []) (.tuple [P1,(ii 0)])=true:=by decide+kernel
theorem d9q:okR (call (ovr LS Mu) 300 277 [P2] []) (.tuple [(.agg [(Lf []),(Lf [])]),(ii 23)])=true:=by decide+kernel
def e5e:List G7:=[([P1],[],(.tuple [P1,(ii 0)]),hpF (ovr LS Mu) 277 [P1]),([P2],[],(.tuple [(.agg [(Lf []),(Lf [])]),(ii 23)]),hpF (ovr LS Mu) 277 [P2])]
def Mv:GR:=λj=>if j=277 then some (Hr e5e)else Mu j
theorem e5f:TabOK LS Mv 3300:=TabOK.add e5d rfl rfl rfl rfl rfl (bx.2 ⟨⟨rfl,Fs d9p⟩,bx.2 ⟨⟨rfl,Fs d9q⟩,λ_ h=>by cases h⟩⟩)
theorem d9r:okR (call (ovr LS Mv) 300 278 [P1,.str [99,111,117,110,116]] []) (.tuple [(Lf [(.agg [(.str [114]),(ii 1),(Lf [])])]),(Lf [(.agg [(.str [110]),(ii 2),(Lf [])])]),(ii 0)])=true:=by decide+kernel
theorem d9s:okR (call (ovr LS Mv) 300 278 [P1,.str [114]] []) (.tuple [(Lf []),(Lf []),(ii 6)])=true:=by decide+kernel
def e5g:List G7:=[([P1,.str [99,111,117,110,116]],[],(.tuple [(Lf [(.agg [(.str [114]),(ii 1),(Lf [])])]),(Lf [(.agg [(.str [110]),(ii 2),(Lf [])])]),(ii 0)]),hpF (ovr LS Mv) 278 [P1,.str [99,111,117,110,116]]),([P1,.str [114]],[],(.tuple [(Lf []),(Lf []),(ii 6)]),hpF (ovr LS Mv) 278 [P1,.str [114]])]
def QP:GR:=λj=>if j=278 then some (Hr e5g)else Mv j
theorem e5h:TabOK LS QP 3600:=TabOK.add e5f rfl rfl rfl rfl rfl (bx.2 ⟨⟨rfl,Fs d9r⟩,bx.2 ⟨⟨rfl,Fs d9s⟩,λ_ h=>by cases h⟩⟩)
theorem d9t:okR (call (ovr LS QP) 300 279 [P1,P1] []) (.bool true)=true:=by decide+kernel
def e5i:List G7:=[([P1,P1],[],(.bool true),hpF (ovr LS QP) 279 [P1,P1])]
def T13:GR:=λj=>if j=279 then some (Hr e5i)else QP j
theorem e5j:TabOK LS T13 3900:=TabOK.add e5h rfl rfl rfl rfl rfl (bx.2 ⟨⟨rfl,Fs d9t⟩,λ_ h=>by cases h⟩)
theorem d5u:(match call (ovr LS T13) 300 266 [] []with|some (.bool true,[])=>true|_=>false)=true:=by decide+kernel
theorem c7p:CH LS 266 [] []=some (.bool true,[]):=by have h:=d5u;split at h;(next a=>exact HP.2 ⟨_,c6X e5j rfl rfl a⟩);cases h
end
end PI.Sc
set_option linter.unusedSimpArgs false
set_option linter.unusedVariables false
namespace PI
open Go Go.RowKit Go.WideShapes Go.ChangeShapes
variable {D:Nat->TyD}{i n:Nat}{p:PV}{b:Nat->Bool}{d:Bool}
section
variable {H:Type}{enc:TypeId×Value->H}{P:Program}{W:World}{base':Nat}{N:Nm}{D:Nat->TyD}{tm:Nat->TypeId}
def NH(D:Nat->TyD):NsT->VsT->Prop|[],[]=>True|i::is,p::a=>Sh D i p/\NH D is a|_,_=>False
theorem d0C{r:Reach}{e:Nat}(l:∀i,i<n->KK P D tm n i=true):∀{idxs:NsT}{vs:List Value}{c:List (DataW H)}{p:List MemPlace},(∀i∈idxs,i<n)->(∀(j:Nat)(t:TypeId)(v:Value),(idxs.map tm)[j]?=some t->vs[j]?=some v->Value.okWide P W r base' t v)->DataW.TrodAll enc P W e b d (idxs.map tm) vs c p->(DataW.weightsEach P (idxs.map tm) c).all (·<=reachBytes)=true->∃a:VsT,vs.length=a.length/\c.length=idxs.length/\wts a<=IM c/\NH D idxs a/\∀(j:Nat)(v:Value)(p:PV),vs[j]?=some v->a[j]?=some p->VR N W (IF W) (λ_=>none) v p|[],vs,c,p,_,_,h,_=>by obtain⟨rfl,rfl,rfl⟩:=trodAll_nil h;exact⟨[],rfl,rfl,by simp[wts],trivial,by simp⟩|i::is,vs,c,p,hi,hv,h,g=>by obtain⟨v,s,held,B,G,E,rfl,rfl,rfl,C,I⟩:=trodAll_cons h;simp only[bi,DataW.weightsEach,fk,aw]at g;obtain⟨a,A,y,F,m,x⟩:=d0C l (by grind) (λj t u z f=>hv (j+1) t u (z) (f)) I g.2;obtain⟨pv,w,o⟩:=e0z l (hi i (fg ..)) (hv 0 _ v rfl rfl) C g.1;refine⟨pv::a,by simp[A],by simp[y],by simp[wts,IM];omega,⟨w.1,m⟩,?_⟩;intro j u q f k;cases j with|zero=>simp at f k;subst f k;exact o|succ j=>exact x j u q (f) (k)
theorem c3g{n:World}(c:laidOutB P=true)(o:Below W.heap.size W n):∀{ts:List TypeId}{vs:List Value}{a:List (DataW H)}{p:List MemPlace},(∀t∈ts,P.readableRec t=true/\t<P.types.size)->(∀x∈p,x.block<W.heap.size)->(∀x∈p,b x.block=true)->DataW.TrodAll enc P W 0 (λ_=>true) true ts vs a p->DataW.TrodAll enc P n 0 b true ts vs a p|[],vs,a,p,_,_,_,h=>by obtain⟨rfl,rfl,rfl⟩:=trodAll_nil h;exact rfl|t::ts,vs,a,p,f,m,k,h=>by obtain⟨v,e,d,g,j,l,rfl,rfl,rfl,i,q⟩:=trodAll_cons h;have:=f t (fg ..);exact trodAll_cons_mk (WideElems.Trod_stays c this.1 this.2 i (λx r=>o.same (by grind)) (by grind)) (c3g c o (by grind) (by grind) (by grind) q)
theorem c3h{e f:List TypeId}{a:List (DataW H)}:∀(_:e.length=a.length),(DataW.weightsEach P (e++f) a).all (·<=reachBytes)=true->(DataW.weightsEach P e a).all (·<=reachBytes)=true:=by induction e generalizing a with|nil=>intro _ _;simp[DataW.weightsEach]|cons t e b=>intro c h;cases a with|nil=>simp[DataW.weightsEach]|cons d a=>simp only[dt,DataW.weightsEach,fk,aw]at h⊢;exact⟨h.1,b (by grind) h.2⟩
theorem b8L:∀{ts:List TypeId}{vs:List Value}{c:List (DataW H)}{p:List MemPlace},DataW.TrodAll enc P W i b d ts vs c p->ts.length=c.length|[],vs,c,p,h=>by obtain⟨rfl,rfl,rfl⟩:=trodAll_nil h;rfl|t::ts,vs,c,p,h=>by obtain⟨v,e,held,f,g,a,rfl,rfl,rfl,j,k⟩:=trodAll_cons h;simp[b8L k]
theorem c5C{E:Env}{L:LsT}(hE:EnvOk E N)(hP:E.P=P)(gG:P.follows .mixedOrders=true)(V:∀k A,L k=some A->FnS E N k A)(Y:∀t∈N.tabs,W.cell? ⟨t.1,t.2.1,none⟩=some t.2.2)(X:∀r∈N.rows,W.shape? r.1=some r.2){k:Nat}(hM:∀i,i<n->KK P D tm n i=true)(T:laidOutB P=true){f:Func}{s:ChangeSpec}{idxs:NsT}{tb:TypeId}(l:f.params.toList=idxs.map tm)(I:∀i∈idxs,i<n/\P.readableRec (tm i)=true/\tm i<P.types.size)(M:s.vars=[])(B:P.underlying tb=some .bool)(z:f.resultTypes=#[tb])(uB:∀a:List (DataW H),a.length=idxs.length->s.fn H a={results:=[.lit (.bool true)],args:=a}){M3 fresh qk:Bool}{args:Array Value}{a gs:List (DataW H)}{before:List MemPlace}(Z:∀(j:Nat)(t:TypeId)(v:Value),f.params[j]?=some t->args[j]?=some v->Value.okWide P W .any base' t v)(w:DataW.Whole enc P f.params.toList s.vars M3 W args.toList a gs before)(y:(DataW.weightsEach P (f.params.toList++s.plain.varTypes P) (a++gs)).all (·<=reachBytes)=true)(U:∀c:VsT,NH D idxs c->wts c<=IM (a++gs)->∃m C,call L m k c []=some (.bool true,C)):Calls P (N.fn k) args W λe g=>∃v,e=.returned v/\s.post enc P f M3 fresh qk d W args v g:=by
 have O:=w;rw[M]at w;obtain⟨p,q,h,hV,rfl,BR,S⟩:=w;obtain⟨rfl,rfl⟩:=trodVars_none hV;rw[l]at h;obtain⟨c,a1,a2,a3,a4,a5⟩:=d0C (N:=N) (n:=n) (base':=base') hM (λi hi=>(I i hi).1) (λj t v F hv=>Z j t v (by grind) (by simpa using hv)) h (by rw[dx,l]at y;exact c3h (by simpa using b8L h) y);obtain⟨m,C,fJ⟩:=U c a4 (by simpa using a3);refine(d3k (W:=W) hE hP gG V Y X fJ (by simpa using a1) (by grind)).mono ?_;rintro e g⟨rfl,hb⟩;refine⟨_,rfl,?_⟩;have G:∀x∈p,x.block<W.heap.size:=λx hx=>O.lt x (by simpa using hx);have jg:∀t∈idxs.map tm,P.readableRec t=true/\t<P.types.size:=by intro t F;obtain⟨i,hi,rfl⟩:=ci.1 F;exact(I i hi).2
 have R:∀sp:Nat->Bool,(∀x∈p,sp x.block=true)->DataW.TrodAll enc P g 0 sp true f.params.toList args.toList a p:=λsp u=>by rw[l];exact c3g T hb jg G u h
 have o:s.fn H (a++[])={results:=[.lit (.bool true)],args:=a}:=by rw[dx];exact uB a a2
 have J:∀(b:Nat)(sp:Nat->Bool)(hd:Bool),DataW.TrodAll enc P g b sp hd f.resultTypes.toList ((Value.bool true).resultList f.resultTypes.size) (s.fn H (a++[])).results []:=by intro b sp hd;rw[z,o];exact trodAll_cons_mk (shut_bool B _) trodAll_mk0
 have K:∀sp:Nat->Bool,DataW.TrodVars enc P g sp s.vars (s.fn H (a++[])).vars []:=by intro sp;rw[M,o];rfl
 have Q:∀sp:Nat->Bool,(∀x∈p,sp x.block=true)->DataW.TrodAll enc P g 0 sp true f.params.toList args.toList (s.fn H (a++[])).args p:=by intro sp u;rw[o];exact R sp u
 refine⟨a,[],p++[],[],p,[],O,J _ _ _,Q _ (by grind),K _,hb.frame _,λ_=>?_⟩;refine⟨ok_one z rfl (okWide_bool_mk B _),_,_,([]++p)++[],⟨[]++p,[],trodAll_append (Q _ (λ_ _=>rfl)) (J _ _ _),K _,rfl,?_,?_⟩,?_⟩;{intro b off hp;have fM:=G _ (by simpa using hp);rw[hb.frozen fM];exact BR b off (by simpa using hp)}
 {intro ha;simpa using S ha}
 intro x hx _;simpa using hx
end
theorem Sh.inv_int {k:IntKind}(f:D i=.int k)(h:Sh D i p):∃n,p=.int k n/\k.min<=n/\n<=k.max:=by cases h with|bool _ b h=>rw[f]at h;cases h|int _ k n h a h2=>rw[f]at h;cases h;exact⟨n,rfl,a,h2⟩|str _ s h=>rw[f]at h;cases h|slice _ e b es h=>rw[f]at h;cases h|struct _ c d h=>rw[f]at h;cases h
theorem Sh.inv_str (f:D i=.str)(h:Sh D i p):∃s,p=.str s/\s.length<=9223372036854775807:=by cases h with|bool _ b h=>rw[f]at h;cases h|int _ k n h=>rw[f]at h;cases h|str _ s _ a=>exact⟨s,rfl,a⟩|slice _ e b es h=>rw[f]at h;cases h|struct _ c d h=>rw[f]at h;cases h
theorem Sh.inv_slice {b:Nat}(g:D i=.slice n b)(h:Sh D i p):∃f,p=.list false f/\f.length<=9223372036854775807/\f.length*b<=140737488351232/\∀x∈f,Sh D n x:=by cases h with|bool _ b h=>rw[g]at h;cases h|int _ k e h=>rw[g]at h;cases h|str _ s h=>rw[g]at h;cases h|slice _ n b f h a hb hs=>rw[g]at h;cases h;exact⟨f,rfl,a,hb,hs⟩|struct _ c d h=>rw[g]at h;cases h
theorem Sh.inv_struct {c:NsT}(q:D i=.struct c)(h:Sh D i p):∃a:VsT,p=.agg (a.flatMap PV.cells)/\NH D c a:=by cases h with|bool _ b h=>rw[q]at h;cases h|int _ k n h=>rw[q]at h;cases h|str _ s h=>rw[q]at h;cases h|slice _ e b es h=>rw[q]at h;cases h|struct _ l a h d hs=>rw[q]at h;cases h;refine⟨a,rfl,?_⟩;clear q;induction c generalizing a with|nil=>(cases a with|nil=>trivial|cons p a=>simp at d)|cons f c m=>cases a with|nil=>simp at d|cons p a=>exact⟨hs 0 f p rfl rfl,m a (by grind) (λj g o hf r=>hs (j+1) g o (hf) (r))⟩
end PI
namespace PI.Sc
open Go(IntKind BinOp UnOp)
variable {a:Type}
def D:Nat->TyD|0=>.str|1=>.int .i64|2=>.slice 0 16|3=>.struct [0,2]|4=>.slice 3 40|5=>.struct [0,1,1]|6=>.slice 5 32|7=>.struct [0,1,6]|8=>.slice 7 48|9=>.struct [1,1,1,1,0,10]|10=>.slice 9 72|11=>.struct [2,9]|12=>.slice 11 96|13=>.bool|14=>.struct [9,1,13]|15=>.slice 14 88|16=>.struct [0,8,12,18,15,15]|17=>.struct [19]|18=>.slice 17 24|19=>.slice 16 136|20=>.struct [0,8,8,8,12,18,10,10]|21=>.slice 20 184|22=>.struct [4,21]|_=>.int .u8
theorem all_map{f:a->PV}{G:a->Prop}:∀g:VsT,(∀x∈g,∃y,x=f y/\G y)->∃l:List a,g=l.map f/\∀x∈l,G x|[],_=>⟨[],rfl,by simp⟩|x::e,h=>by obtain⟨y,rfl,c⟩:=h x (fg ..);obtain⟨l,rfl,d⟩:=all_map e (λy c=>h y (db _ c));refine⟨y::l,rfl,?_⟩;intro z b;rcases ay.1 b with rfl|b;{exact c};exact d z b
theorem HU{f:a->PV}{G:a->Prop}{i e b:Nat}(d:∀p,Sh D e p->∃x,p=f x/\G x)(g:D i=.slice e b)(k:0<b)(p:PV)(h:Sh D i p):∃l:List a,p=.list false (l.map f)/\l.length<=140737488351232/\∀x∈l,G x:=by obtain⟨m,rfl,_,c,hs⟩:=Sh.inv_slice g h;obtain⟨l,rfl,j⟩:=all_map m λx n=>d x (hs x n);rw[cw]at c;exact⟨l,rfl,bj (Nat.le_mul_of_pos_right _ k) c,j⟩
theorem LF(p:PV)(h:Sh D 0 p):∃s,p=.str s/\s.length<=9223372036854775807:=by grind[Sh.inv_str,D]
theorem KO(p:PV)(h:Sh D 1 p):∃n,p=.int .i64 n/\DK n:=by obtain⟨n,rfl,a,b⟩:=Sh.inv_int rfl h;exact⟨n,rfl,a,b⟩
theorem d2p:∀(i:Nat)(p:PV),Sh D i p->(i=9->∃x:Expr,p=CK x/\EW x)/\(i=10->∃l:List Expr,p=.list false (l.map CK)/\l.length<=140737488351232/\∀x∈l,EW x):=by intro i p h;induction h with|bool i b h=>exact⟨λe=>(by subst e;cases h),λe=>(by subst e;cases h)⟩|int i k n h=>exact⟨λe=>(by subst e;cases h),λe=>(by subst e;cases h)⟩|str i s h=>exact⟨λe=>(by subst e;cases h),λe=>(by subst e;cases h)⟩|slice i e b es h g hb hs j=>refine⟨λe=>(by subst e;cases h),λhi=>?_⟩;subst hi;(obtain⟨rfl,rfl⟩:e=9/\b=72:=by cases h;omega);obtain⟨l,rfl,A⟩:=all_map es λx hx=>(j x hx).1 rfl;grind|struct i r w h g hs j=>refine⟨λhi=>?_,λe=>(by subst e;cases h)⟩;subst hi;(obtain rfl:r=[1,1,1,1,0,10]:=by cases h;rfl);match w,g with|[a,b,c,d,e,f],_=>obtain⟨k,rfl,_⟩:=KO a (hs 0 1 a rfl rfl);obtain⟨o,rfl,_⟩:=KO b (hs 1 1 b rfl rfl);obtain⟨t,rfl,z⟩:=KO c (hs 2 1 c rfl rfl);obtain⟨v,rfl,hv⟩:=KO d (hs 3 1 d rfl rfl);obtain⟨s,rfl,_⟩:=LF e (hs 4 0 e rfl rfl);obtain⟨l,rfl,g,u⟩:=(j 5 _ f rfl rfl).2 rfl;refine⟨.mk k o t v s l,by rw[I9];rfl,?_⟩;intro x hx;rw[Expr.list_eq]at hx;rcases ay.1 hx with rfl|hx;{exact⟨z,hv,by show l.length<=_;omega⟩};obtain⟨y,q,m⟩:=eQ.1 hx;exact u y q x m
section
variable (p:PV)
include p
theorem d5l(h:Sh D 13 p):∃b,p=.bool b:=by cases h with|bool _ b _=>simp|int _ _ _ h=>cases h|str _ _ h=>cases h|slice _ _ _ _ h=>cases h|struct _ _ _ h=>cases h
theorem c6i(h:Sh D 2 p):∃l:SsT,p=.list false (l.map .str)/\l.length<=140737488351232:=by obtain⟨l,e,a,_⟩:=HU LF rfl (by decide) p h;grind
theorem d5m(h:Sh D 3 p):∃x:Enum,p=C6 x/\x.tags.length<=140737488351232:=by obtain⟨d,rfl,f⟩:=Sh.inv_struct rfl h;match d,f with|[a,b],⟨e,hb,_⟩=>obtain⟨s,rfl,_⟩:=LF a e;obtain⟨l,rfl,c⟩:=c6i b hb;exact⟨⟨s,l⟩,rfl,c⟩
theorem e3v(h:Sh D 5 p):∃x:On,p=eOn x/\DK x.t:=by obtain⟨e,rfl,g⟩:=Sh.inv_struct rfl h;match e,g with|[a,b,c],⟨f,hb,d,_⟩=>obtain⟨s,rfl,_⟩:=LF a f;obtain⟨n,rfl,hn⟩:=KO b hb;obtain⟨m,rfl,_⟩:=KO c d;exact⟨⟨s,n,m⟩,rfl,hn⟩
theorem Qy(h:Sh D 7 p):∃x:Decl,p=CL x/\DF x:=by obtain⟨e,rfl,g⟩:=Sh.inv_struct rfl h;match e,g with|[a,b,c],⟨f,hb,d,_⟩=>obtain⟨s,rfl,hs⟩:=LF a f;obtain⟨n,rfl,hn⟩:=KO b hb;obtain⟨l,rfl,i,ho⟩:=HU e3v rfl (by decide) c d;exact⟨⟨s,n,l⟩,rfl,⟨hn,by grind,hs,ho⟩⟩
theorem Qz(h:Sh D 9 p):∃x:Expr,p=CK x/\EW x:=(d2p 9 p h).1 rfl
theorem d35(h:Sh D 11 p):∃x:Eqn,p=C1 x/\QF x:=by obtain⟨c,rfl,e⟩:=Sh.inv_struct rfl h;match c,e with|[a,b],⟨d,hb,_⟩=>obtain⟨l,rfl,f⟩:=c6i a d;obtain⟨x,rfl,g⟩:=Qz b hb;exact⟨⟨l,x⟩,by rw[QA];simp,⟨by grind,g⟩⟩
theorem d36(h:Sh D 14 p):∃x:Trn,p=Dt x/\EW x.cond:=by obtain⟨e,rfl,g⟩:=Sh.inv_struct rfl h;match e,g with|[a,b,c],⟨f,hb,d,_⟩=>obtain⟨x,rfl,i⟩:=Qz a f;obtain⟨n,rfl,_⟩:=KO b hb;obtain⟨r,rfl⟩:=d5l c d;exact⟨⟨x,n,r⟩,by rw[QB];simp,i⟩
end
theorem c9i:∀(i:Nat)(p:PV),Sh D i p->(i=16->∃x:State,p=Da x/\SF x)/\(i=19->∃l:List State,p=.list false (l.map Da)/\l.length<=140737488351232/\∀x∈l,SF x)/\(i=17->∃a:Ey,p=Do a/\(a.length<=140737488351232/\∀x∈a,SF x))/\(i=18->∃l:List Ey,p=.list false (l.map Do)/\AsF l):=by intro i p h;induction h with|bool i b h=>exact⟨λe=>(by subst e;cases h),λe=>(by subst e;cases h),λe=>(by subst e;cases h),λe=>(by subst e;cases h)⟩|int i k n h=>exact⟨λe=>(by subst e;cases h),λe=>(by subst e;cases h),λe=>(by subst e;cases h),λe=>(by subst e;cases h)⟩|str i s h=>exact⟨λe=>(by subst e;cases h),λe=>(by subst e;cases h),λe=>(by subst e;cases h),λe=>(by subst e;cases h)⟩|slice i e b es h m hb hs g=>refine⟨λe=>(by subst e;cases h),λhi=>?_,λe=>(by subst e;cases h),λhi=>?_⟩;{subst hi;(obtain⟨rfl,rfl⟩:e=16/\b=136:=by cases h;omega);obtain⟨l,rfl,j⟩:=all_map es λx G=>(g x G).1 rfl;grind};subst hi;(obtain⟨rfl,rfl⟩:e=17/\b=24:=by cases h;omega);obtain⟨l,rfl,j⟩:=all_map es λx G=>(g x G).2.2.1 rfl;rw[cw]at hb;exact⟨l,rfl,⟨by omega,λa r=>by grind,λa r=>(j a r).2⟩⟩|struct i t v h m hs g=>refine⟨λhi=>?_,λe=>(by subst e;cases h),λhi=>?_,λe=>(by subst e;cases h)⟩;{subst hi;(obtain rfl:t=[0,8,12,18,15,15]:=by cases h;rfl);match v,m with|[a,b,c,d,e,f],_=>obtain⟨n,rfl,_⟩:=LF a (hs 0 0 a rfl rfl);obtain⟨l,rfl,j,H⟩:=HU Qy rfl (by decide) b (hs 1 8 b rfl rfl);obtain⟨q,rfl,C,y⟩:=HU d35 rfl (by decide) c (hs 2 _ c rfl rfl);obtain⟨z,rfl,o⟩:=(g 3 _ d rfl rfl).2.2.2 rfl;obtain⟨u,rfl,F,B⟩:=HU d36 rfl (by decide) e (hs 4 _ e rfl rfl);obtain⟨w,rfl,E,A⟩:=HU d36 rfl (by decide) f (hs 5 _ f rfl rfl);exact⟨.mk n l q z u w,by rw[KP];rfl,.mk _ (by show l.length<=_;omega) H (by show q.length<=_;omega) y (by show u.length<=_;omega) B (by show w.length<=_;omega) A o.len o.az o.ss⟩};subst hi;(obtain rfl:t=[19]:=by cases h;rfl);match v,m with|[a],_=>obtain⟨l,rfl,j,H⟩:=(g 0 _ a rfl rfl).2.1 rfl;exact⟨l,rfl,j,H⟩
theorem d5n(p:PV)(h:Sh D 20 p):∃x:Node,p=CY x/\NF x:=by obtain⟨B,rfl,F⟩:=Sh.inv_struct rfl h;match B,F with|[a,b,c,d,e,f,g,k],⟨v,hb,A,hd,u,hf,t,m,_⟩=>obtain⟨n,rfl,_⟩:=LF a v;obtain⟨i,rfl,K,C⟩:=HU Qy rfl (by decide) b hb;obtain⟨o,rfl,J,G⟩:=HU Qy rfl (by decide) c A;obtain⟨l,rfl,N,M⟩:=HU Qy rfl (by decide) d hd;obtain⟨q,rfl,H,y⟩:=HU d35 rfl (by decide) e u;obtain⟨w,rfl,E⟩:=(c9i _ f hf).2.2.2 rfl;obtain⟨s,rfl,I,j⟩:=HU Qz rfl (by decide) g t;obtain⟨r,rfl,L,z⟩:=HU Qz rfl (by decide) k m;exact⟨⟨n,i,o,l,q,w,s,r⟩,rfl,⟨by grind,C,by grind,G,by grind,M,by grind,y,E,by grind,j,by grind,z⟩⟩
theorem d5o(p:PV)(h:Sh D 22 p):∃x:Prog,p=Dy x/\PF x:=by obtain⟨c,rfl,f⟩:=Sh.inv_struct rfl h;match c,f with|[a,b],⟨d,hb,_⟩=>obtain⟨e,rfl,i,e2⟩:=HU d5m rfl (by decide) a d;obtain⟨n,rfl,j,g⟩:=HU d5n rfl (by decide) b hb;exact⟨⟨e,n⟩,rfl,⟨by grind,λu k=>by grind,by grind,g⟩⟩
theorem DF.dw{d:Decl}(h:DF d)(a:d.parts<=1100000):DW d:=⟨h.type,by grind[Decl.parts],h.on⟩
theorem QF.qw{q:Eqn}(h:QF q)(a:q.parts<=1100000):QW q:=⟨by grind[Eqn.parts],⟨by grind[Eqn.parts],h.right⟩⟩
theorem It(f:a->Nat)(b:∀x,1<=f x){l:List a}(h:CP f l<=1100000):l.length<=1100000/\∀x∈l,f x<=1100000:=⟨bj (Ms f b l) h,λx c=>bj (Hm f c) h⟩
theorem QC(d:Decl):1<=d.parts:=by unfold Decl.parts;omega
theorem d37(q:Eqn):1<=q.parts:=by unfold Eqn.parts;omega
theorem d38(t:Trn):1<=t.parts:=by unfold Trn.parts;omega
theorem d88(s:State):1<=s.parts:=by cases s;simp[State.parts];omega
theorem b7U{l:List (List State)}(h:De l<=1100000):l.length<=1100000/\(∀a∈l,a.length<=1100000)/\∀a∈l,∀x∈a,x.parts<=1100000:=by grind[Kd,It,CP,State.parts,Ms,d88,Hm]
theorem SF.sw{s:State}(h:SF s)(v:s.parts<=1100000):SW s:=by induction s using State.ind with|h s o=>have e:=State.parts_eq s;obtain⟨p,k⟩:=It Decl.parts QC (l:=s.locals) (by omega);obtain⟨j,g⟩:=It Eqn.parts d37 (l:=s.eqs) (by omega);obtain⟨c1,c2⟩:=It Trn.parts d38 (l:=s.unl) (by omega);obtain⟨m,r⟩:=It Trn.parts d38 (l:=s.til) (by omega);obtain⟨i,e2,n⟩:=b7U (l:=s.autos) (by omega);exact .mk s p (λd hd=>(h.ls d hd).dw (k d hd)) j (λq f=>(h.es q f).qw (g q f)) c1 (λt c=>⟨by grind[Trn.parts],h.us t c⟩) m (λt c=>⟨by grind[Trn.parts],h.ts t c⟩) i e2 (λa b x u=>o a b x u (h.ss a b x u) (n a b x u))
theorem NF.nw{n:Node}(h:NF n)(v:n.parts<=1100000):NW n:=by have e:n.parts=1+CP Decl.parts n.ins+CP Decl.parts n.outs+CP Decl.parts n.locals+CP Eqn.parts n.eqs+CP (λe=>1+Expr.parts e) n.assume+CP (λe=>1+Expr.parts e) n.ensure+De n.autos:=rfl;obtain⟨r,j⟩:=It Decl.parts QC (l:=n.ins) (by omega);obtain⟨i,f⟩:=It Decl.parts QC (l:=n.outs) (by omega);obtain⟨c1,c2⟩:=It Decl.parts QC (l:=n.locals) (by omega);obtain⟨k,p⟩:=It Eqn.parts d37 (l:=n.eqs) (by omega);obtain⟨o,s⟩:=It (λe=>1+Expr.parts e) (by simp) (l:=n.assume) (by omega);obtain⟨g1,t⟩:=It (λe=>1+Expr.parts e) (by simp) (l:=n.ensure) (by omega);obtain⟨g,e2,m⟩:=b7U (l:=n.autos) (by omega);exact⟨r,λd hd=>(h.is d hd).dw (j d hd),i,λd hd=>(h.os d hd).dw (f d hd),c1,λd hd=>(h.ls d hd).dw (c2 d hd),k,λq c=>(h.es q c).qw (p q c),⟨g,e2,λa b x u=>(h.autos.ss a b x u).sw (m a b x u)⟩,o,λx u=>⟨by grind,h.az x u⟩,g1,λx u=>⟨by grind,h.gs x u⟩⟩
theorem PF.pw{p:Prog}(h:PF p)(f:parts p<=1100000):PW p:=by unfold parts at f;obtain⟨c,d⟩:=It Enum.parts (λu=>by grind[Enum.parts]) (l:=p.enums) (by omega);obtain⟨a,b⟩:=It Node.parts (λu=>by grind[Node.parts]) (l:=p.nodes) (by omega);exact⟨c,λu e=>by grind[Enum.parts],a,λn hn=>(h.ns n hn).nw (b n hn)⟩
theorem HV(g:a->PV)(f:a->Nat)(h:∀x,f x<=wt (g x)):∀l:List a,CP f l<=wts (l.map g)|[]=>ao _|x::l=>by have:=HV g f h l;grind[CP,wts]
theorem QD(g:a->PV)(f:a->Nat):∀l:List a,(∀x∈l,f x<=wt (g x))->CP f l<=wts (l.map g)|[],_=>ao _|x::l,h=>by have:=QD g f l (by grind);grind[CP,wts]
theorem QE(g:a->PV)(h:∀x,1<=wt (g x)):∀l:List a,l.length<=wts (l.map g)|[]=>ao _|x::l=>by have:=h x;have:=QE g h l;simp[wts];omega
theorem Ut(p:PV):1<=wt p:=by cases p<;>simp[wt]
theorem Uu(e:Expr):e.parts+1<=wt (CK e):=by induction e using Expr.ind with|h e a=>have b:=QD CK Expr.parts e.args (by grind);rw[parts_eq,I9];simp[wt,wts];omega
theorem QG(d:Decl):d.parts<=wt (CL d):=by grind[QE,eOn,Ut,Decl.parts,CL,wt,wts]
theorem d5p(u:Enum):u.parts<=wt (C6 u):=by grind[QE,Ut,Enum.parts,C6,wt,wts]
theorem c9k(e:Expr):e.parts<=1+wts (e.args.map CK):=by have a:=HV CK Expr.parts (λx=>by grind[Uu]) e.args;rw[parts_eq];omega
theorem d39(q:Eqn):q.parts<=wt (C1 q):=by have a:=QE PV.str (λx=>Ut _) q.left;have b:=c9k q.right;unfold Eqn.parts;rw[QA];simp[wt,wts];omega
theorem d4a(t:Trn):t.parts<=wt (Dt t):=by have a:=c9k t.cond;unfold Trn.parts;rw[QB];simp[wt,wts];omega
theorem c6k(l:List (List State))(h:∀a∈l,∀x∈a,x.parts<=wt (Da x)):De l<=wts (l.map Do):=by rw[Kd];refine QD Do _ l λa b=>?_;have c:=QD Da State.parts a (h a b);grind[Do,wt,wts]
theorem d2q(s:State):s.parts<=wt (Da s):=by induction s using State.ind with|h s a=>have e:=HV CL Decl.parts QG s.locals;have f:=HV C1 Eqn.parts d39 s.eqs;have c:=HV Dt Trn.parts d4a s.unl;have d:=HV Dt Trn.parts d4a s.til;have b:=c6k s.autos a;rw[State.parts_eq,KP];simp[wt,wts];omega
theorem d5q(n:Node):n.parts<=wt (CY n):=by have g:=HV CL Decl.parts QG n.ins;have h:=HV CL Decl.parts QG n.outs;have c:=HV CL Decl.parts QG n.locals;have d:=HV C1 Eqn.parts d39 n.eqs;have b:=c6k n.autos (λ_ _ x _=>d2q x);have f:=HV CK (λe=>1+Expr.parts e) (λx=>by grind[Uu]) n.assume;have a:=HV CK (λe=>1+Expr.parts e) (λx=>by grind[Uu]) n.ensure;unfold Node.parts;rw[NO];simp[wt,wts];omega
theorem d5r(p:Prog):parts p<=wt (Dy p):=by have a:=HV C6 Enum.parts d5p p.enums;have b:=HV CY Node.parts d5q p.nodes;grind[parts,Ua,wt,wts]
end PI.Sc
namespace PI
open Go Go.RowKit Go.Shelf Go.Proofs Go.Sort
variable {a:Array Value}{w:World}{g n:Nat}{e:TypeId}
theorem b89:∀{cs:VsT}{c:List (Int×Int)},K3 cs=some c->cs=c.flatMap DQ|[],c,h=>by simp_all[K3]|[e],c,h=>by simp_all[K3]|e::g::es,c,h=>by unfold K3 at h;split at h;(next d=>simp at d);(next a b r d=>obtain⟨rfl,rfl,rfl⟩:=d;simp at h;obtain⟨i,f,rfl⟩:=h;rw[b89 f];rfl);simp at h
def GO(x:Int×Int):List Value:=[.int .i64 x.1,.int .i64 x.2]
def GJ(a:List (Int×Int)):List Value:=a.flatMap GO
theorem Nq:∀a:List (Int×Int),(GJ a).length=a.length*2|[]=>rfl|z::a=>by simp only[GJ,da,ap];have:=Nq a;unfold GJ at this;rw[this];simp[GO];omega
theorem Mi:∀a:List (Int×Int),(a.flatMap DQ).length=a.length*2|[]=>rfl|z::a=>by simp[Mi a];simp[DQ];omega
theorem c0C:∀(a:List (Int×Int))(t:Nat)(h:t<a.length*2),(GJ a)[t]?=some ((GO (a.toArray[t/2]!))[t%2]!)|[],t,h=>by simp at h|z::a,0,h=>by rfl|z::a,1,h=>by rfl|z::a,t+2,h=>by have:=c0C a t (by grind);simp only[GJ,da,GO,dt,ez,List.getElem?_cons_succ]at this⊢;rw[this];simp
theorem b9a(c:List (Int×Int)):flatK GO 2 c.toArray=(GJ c).toArray:=by apply Array.ext';apply ej;intro t;by_cases h:t<c.length*2;{rw[List.toList_toArray,c0C c t h];have b:=get_flatK GO 2 c.toArray t (by omega);simp_all};simp_all[Nq]
theorem c0D{a:List (Int×Int)}:∀{j:Nat}{x:PV},(a.flatMap DQ)[j]?=some x->∃z,x=.int .i64 z/\(GJ a)[j]?=some (.int .i64 z):=by induction a with|nil=>simp|cons z a b=>intro j x h;match j with|0=>simp_all[DQ,GJ,GO]|1=>simp_all[DQ,GJ,GO]|j+2=>simp_all[DQ,GJ,GO]
theorem c8r{d:List Value}(f:w.heap[g]?=some (.cells a e (0,0)))(b:a.toList.take d.length=d):Holds (id:Value->Value) w g 0 d.toArray:=by intro j c;grind[World.frozen?,List.getElem?_take_of_lt,World.cell?,Option.isSome_none,Bool.false_eq_true]
theorem d08{os:Array Obj}{b:Nat×Nat}(d:Array Value)(c:w.heap[g]?=some (.cells a e b)):(grow (putRow id (Sort.ahead w n) g 0 d) os).heap[g]?=some (.cells (putCells id 0 d a) e b):=by grind[Array.getElem?_eq_some_iff,heap_grow_old,putRow,mapBlock,Sort.ahead,onCells]
theorem c3L{os:Array Obj}(d:Array Value):w.grownBy (grow (putRow id (Sort.ahead w n) g 0 d) os) (some g):=by refine⟨rfl,rfl,rfl,by simp,λk a b=>?_⟩;grind[heap_grow_old,putRow,mapBlock,Sort.ahead]
def J6(x y:Int×Int):Int:=if x.1<y.1 then-1 else if y.1<x.1 then 1 else if x.2<y.2 then-1 else if y.2<x.2 then 1 else 0
theorem PB(x y:Int×Int):ltOf J6 x y=decide (x.1<y.1\/x.1=y.1/\x.2<y.2):=by grind[ltOf,J6]
theorem c5R:SWO (ltOf J6)where
 irrefl x:=by rw[PB];simp
 trans x y z h1 h2:=by grind[PB]
 ntrans x y z h1 h2:=by grind[PB]
theorem c8s:(λx y:Int×Int=>!(ltOf J6) y x)=FS:=by grind[PB,FS,decide_not]
theorem d3y {N:Nm}{P:Program}{ρ:Ren}{k J:Nat}(hk:N.fn k=ρ.f 6)(L:SlLaysF0.n6 P ρ)(aE:∀w,(isAgg (ρ.t 24)).run P w=.ok true w)(zE:∀w,(Go.sizeOf (ρ.t 24)).run P w=.ok 2 w)(eg:∀args w,(callFunc (N.fn J) args).run P w=.ok (.enter (N.fn J) args) w)(fX:∀(x y:Int×Int)(W:World),Calls P (N.fn J) #[.agg (GO x).toArray,.agg (GO y).toArray] W λe w'=>e=.returned (.int .i64 (J6 x y))/\∃q S,w'=grow (W.drewN q) S):Jw N P k (KM J):=by intro args r h h' A w G E C fL X;unfold KM at A;split at A;(next n len kf=>split at A;(next K gJ=>split at A;(next F=>obtain⟨rfl,F⟩:=F;simp only[ab,al]at A;obtain⟨B,lS,rfl,rfl⟩:=A;rw[c8o];have hz:=b89 lS;(have Q:B.length=len:=by have:=bw List.length hz;rw[Mi]at this;simp at this;omega);obtain⟨l⟩:=E;match l,fL with|[v,v2],_=>have hv:=X 0 v _ rfl rfl;have mi:=X 1 v2 _ rfl rfl;(obtain rfl:v2=.func (.func (N.fn kf)) #[] #[]:=by cases mi with|func _ fs K _ _ _ e1 e2=>have:fs=#[]:=Array.eq_empty_of_size_eq_zero (by simpa using e1);subst this;have:K=#[]:=Array.eq_empty_of_size_eq_zero (by simpa using e2);subst this;rfl);cases hv with|rowp _ _ _ _ b cap hb fR ik=>rcases C.heap.1 n _ gJ with hx|⟨t,k1,k2,f,d,T,H,a2,a3⟩;{simp at hx};(have:t=b:=by rw[hb]at k1;simpa using k1.symm);subst this;have jJ:t<w.heap.size:=(bq.1 H).1;(have o6:d.toList.take (GJ B).length=GJ B:=by rw[Nq];apply ej;intro j;by_cases hj:j<B.length*2;{rw[fj hj,Array.getElem?_toList];(have pW:j<d.size:=by omega);(have O:K[j]?=(B.flatMap DQ)[j]?:=by have:=bw (λl:VsT=>l[j]?) hz;rw[fj (by omega)]at this;exact this);obtain⟨x,hx⟩:∃x,(B.flatMap DQ)[j]?=some x:=⟨_,an (by rw[Mi];exact hj)⟩;obtain⟨z,rfl,h2⟩:=c0D hx;have h4:=(a3 j d[j] _ (by simp[pW]) (O.trans hx)).1;(have h3:d[j]?=some d[j]:=by simp[pW]);generalize u:d[j]=c4 at h4 h3;cases h4;rw[h3,h2]};rw[List.getElem?_take_eq_none (by omega),List.getElem?_eq_none (by rw[Nq];omega)]);(have hH:HoldsK GO 2 w t 0 B.toArray:=by unfold HoldsK;rw[b9a];exact c8r H o6);have u:=AnyQ.slices_SortFunc_total L 2 aE zE GO (λ_=>rfl) (λx v hv=>by simp[GO]at hv;rcases hv with rfl|rfl<;>rfl) J6 c5R (N.fn kf) #[] t 0 cap B.toArray w eg (λm os dk hs x y=>fX x y _) hH jJ (by simpa[Q]using F.2) (λx y O h2=>by rw[PB]at O h2;simp at O h2;exact Prod.ext (by omega) (by omega));rw[c8s]at u;simp only[fD,Q]at u;refine(hk▸u).mono ?_;rintro e w'⟨rfl,m,os,rfl⟩;obtain⟨ts,jg⟩:∃ts,ts=B.mergeSort FS:=⟨_,rfl⟩;(have pX:ts.length=len:=by rw[<-Q,jg];exact List.length_mergeSort _);rw[<-jg];show∃v G',_/\_/\_/\_;have uR:=c3L (w:=w) (g:=t) (n:=m) (os:=os) (GJ ts).toArray;have U:=d08 (n:=m) (os:=os) (GJ ts).toArray H;(have Cl:sortWorldK GO 2 w t 0 m ts.toArray os=grow (putRow id (Sort.ahead w m) t 0 (GJ ts).toArray) os:=by unfold sortWorldK putRowK;rw[b9a]);rw[Cl];generalize ly:grow _ os=w' at uR U;obtain⟨g1,g2,g3,Y,g5⟩:=uR;have M:∀x,x<w.heap.size->x≠t->w'.heap[x]?=w.heap[x]?:=λx hx D=>g5 x hx (by simpa using D);(have Z:(putCells id 0 (GJ ts).toArray d).size=d.size:=by simp[putCells]);have mY:ShapeLe w w':=.one t (λx hx D=>M x hx D) (λs hs=>by simp only[World.shape?,H]at hs;simp only[World.shape?,U,Z];exact hs) (λs hs=>by rw[YG H]at hs;simp at hs) (λi s hs=>by simp[Gs,H]at hs);(have V:Ext w G w' G:=by refine⟨g1,g2,g3,Y,?_,?_,λ_ _ h=>.inl h,λ_ h=>.inr h,λ_ _ h=>h,mY,rfl⟩;{intro x hx ho;exact M x hx (by grind)};intro x o hf;refine⟨hf,?_⟩;(have D:x≠t:=by rintro rfl;exact f o hf);simp only[World.cell?,M x (C.fixlt x o hf) D]);(have fK:DS (λk=>k=.hobj n) w G w' G:=by refine⟨?_,λ_ _ h=>h⟩;intro x kx hx D;refine⟨hx,M x (C.owlt x kx hx) ?_,λ_ h=>h⟩;rintro rfl;rw[k2]at hx;simp only[am]at hx;exact D hx.symm);refine⟨_,G,rfl,.tuple _ _ rfl (by simp),V,?_⟩;refine⟨C.only,λx o hf=>br (C.fixlt x o hf) Y,λx kx hx=>br (C.owlt x kx hx) Y,?_,λm x hx=>by simpa using C.hdom m x hx⟩;refine C.heap.keepBut V fK (by intro n' k' D;simp[D]) ?_;intro mK;refine .inr ⟨t,hb,k2,f,_,T,U,?_,?_⟩;{rw[Z];have h0:=F.1;simp only[ap,List.length_drop,Mi];omega};intro j c x u hx;(have R:j<d.size:=by rw[<-Z];exact(bq.1 u).1);by_cases hj:j<len*2;{(have I:j<(GJ ts).length:=by rw[Nq];omega);rw[aq (by rw[Mi];omega)]at hx;obtain⟨z,rfl,h2⟩:=c0D hx;(have:c=.int .i64 z:=by simp[putCells,R,I]at u;rw[an I]at h2;simp only[am]at h2;rw[<-u,h2]);subst this;exact⟨.int _ _,rfl,True.intro⟩};(have I:(ts.flatMap DQ).length<=j:=by rw[Mi];omega);rw[ax I]at hx;simp only[em,Mi]at hx;have hx:K[len*2+(j-ts.length*2)]?=some x:=hx;rw[show len*2+(j-ts.length*2)=j by omega]at hx;(have lO:d[j]?=some c:=by simp[putCells,R,show¬j<(GJ ts).length by rw[Nq];omega]at u;simp[R,u]);exact(a3 j c x lO hx).keep V fK (by simp));simp at A);simp at A);(next o q=>cases A;obtain⟨l⟩:=E;match l,fL with|[v,v2],_=>have hv:=X 0 v _ rfl rfl;(obtain⟨p,cap,rfl⟩:∃p cap,v=.slice p 0 cap:=by cases hv with|nils=>exact⟨none,0,rfl⟩|void _ a cap=>exact⟨some a,cap,rfl⟩|list _ b off len cap sz _ d F fR _ _ _ _=>simp at F;subst F;exact⟨_,cap,rfl⟩);refine(hk▸AnyF.slices_SortFunc_none L p cap v2 w).mono ?_;rintro e w'⟨rfl,rfl⟩;exact⟨_,G,rfl,.tuple _ _ rfl (by simp),Ext.refl _ _,C⟩);simp at A
end PI
namespace Go.Proofs.YtncpglgeamdneaaGreatDoor.Pi
open Go Go.Shelf Go.RowKit Go.Lib Go.Sort PI
set_option maxHeartbeats 4000000 in
theorem d15(b:Nat)(x y:Int)(W:World)(a:x≠0)(d:W.cell? ⟨b,0,none⟩=some (.int .i64 x))(f:W.cell? ⟨b,1,none⟩=some (.int .i64 y)):Calls Tryz.prog 216 #[.slice (some ⟨b,0,none⟩) 2 2] W λe c=>e=.returned (.int .i64 x)/\c=W:=by(have h1:(x !=0)=true:=by simp[a]);go_enter Tryz.func216,Tryz.ntmps216;go_wp2;refine wp_loop_rounds 1 ?_;rw[rounds_succ];go_wp2;go_ret;exact⟨rfl,rfl⟩
set_option maxHeartbeats 4000000 in
theorem d43(b:Nat)(y:Int)(W:World)(h0:y=0\/y≠0)(c:W.cell? ⟨b,0,none⟩=some (.int .i64 0))(d:W.cell? ⟨b,1,none⟩=some (.int .i64 y)):Calls Tryz.prog 216 #[.slice (some ⟨b,0,none⟩) 2 2] W λe a=>e=.returned (.int .i64 y)/\a=W:=by go_enter Tryz.func216,Tryz.ntmps216;go_wp2;refine wp_loop_rounds 3 ?_;rw[rounds_succ];go_wp2;rw[rounds_succ];rcases h0 with rfl|h0;{go_wp2;rw[rounds_succ];go_wp2;go_ret;exact⟨rfl,rfl⟩};(have h1:(y !=0)=true:=by simp[h0]);go_wp2;go_ret;exact⟨rfl,rfl⟩
theorem d44(b:Nat)(x y:Int)(W:World)(c:W.cell? ⟨b,0,none⟩=some (.int .i64 x))(a:W.cell? ⟨b,1,none⟩=some (.int .i64 y)):Calls Tryz.prog 216 #[.slice (some ⟨b,0,none⟩) 2 2] W λe d=>e=.returned (.int .i64 (if x=0 then y else x))/\d=W:=by by_cases h:x=0;{subst h;rw[aj rfl];exact d43 b y W (by omega) c a};rw[ak h];exact d15 b x y W h c a
theorem c7g(x y:Int×Int):(if Lib.compareInt x.1 y.1=0 then Lib.compareInt x.2 y.2 else Lib.compareInt x.1 y.1)=J6 x y:=by unfold Lib.compareInt J6;(repeat' split)<;>first|rfl|omega
theorem c7h{P:Program}{e:Nat}{Q:Exit->Act->World->Prop}{a:Act}{w:World}{l:List Oper}(n:Nat)(d:P.follows .mixedOrders=true)(b:Region.lexTailB .any l.toArray n=true)(h:wpStill P l.toArray w.drew (λc=>wpList P l.toArray Q (l.drop n) c w.drew) (l.take n) a):(Code.region e l.toArray true).wp P Q a w:=wp_region_still_tail n d b h
set_option maxHeartbeats 4000000 in
theorem d16(x y:Int×Int)(W:World):Calls Tryz.prog 215 #[.agg (GO x).toArray,.agg (GO y).toArray] W λe a=>e=.returned (.int .i64 (J6 x y))/\∃q os',a=grow (W.drewN q) os':=by have pS:=λx y W'=>Any.cmp_Compare_int Tryz.lays122 x y W';change∀x y W',Calls Tryz.prog 217 #[.int .i64 x,.int .i64 y] W' (λe a=>e=.returned (.int .i64 (Lib.compareInt x y))/\a=W')at pS;rw[<-c7g];obtain⟨x1,x2⟩:=x;obtain⟨y1,y2⟩:=y;simp only;show Calls Tryz.prog 215 #[.agg #[.int .i64 x1,.int .i64 x2],.agg #[.int .i64 y1,.int .i64 y2]] W _;have h1:=pS x1 y1;have c:=pS x2 y2;generalize Lib.compareInt x1 y1=r1 at h1⊢;generalize Lib.compareInt x2 y2=r2 at c⊢;clear pS;have zf:=λb W d hy=>d44 b r1 r2 W d hy;generalize hr:(if r1=0 then r2 else r1)=r at zf⊢;clear hr;go_enter Tryz.func215,Tryz.ntmps215;go_wp2;refine c7h 10 (by kernel_rfl) (by kernel_rfl) ?_;simp only[List.take_succ_cons,List.take_zero,List.drop_succ_cons,List.drop_zero];still_step;still_step;still_step;still_step;still_call(h1 _);still_step;still_step;still_step;still_step;still_call(c _);refine wpStill_nil ?_;go_wp2_with fail;refine(zf _ _ ?_ ?_).mono ?_;{simp only[World.cell?_drew];exact World.cell?_alloc_at _ _ _ _ (by simp)};{simp only[World.cell?_drew];exact World.cell?_alloc_at _ _ _ _ (by simp)};rintro e a⟨rfl,rfl⟩;simp only;go_wp2;go_ret;exact⟨rfl,1,_,by rw[alloc_eq_grow,alloc_eq_grow,alloc_eq_grow,grow_grow,grow_grow];rfl⟩
end Go.Proofs.YtncpglgeamdneaaGreatDoor.Pi
namespace PI
open Go Go.RowKit Go.Shelf Go.Proofs
variable {w:World}{N:Nm}{P:Program}{G:GS}{s:List UInt8}{k:Nat}{p:PV}{a:Array Value}
theorem c3I{d:World}(h:Below w.heap.size w d)(c:∀b o,G.fix b o->b<w.heap.size):Ext w G d G:=⟨h.os,h.tape,h.output,h.size,λb hb _=>h.block b hb,λb o hf=>⟨hf,by simp[World.cell?,h.block b (c b o hf)]⟩,λ_ _ h=>.inl h,λ_ h=>.inr h,λ_ _ h=>h,.same λk a=>h.block k a,rfl⟩
theorem c1I {c:World}{hp:HsT}(h:Below w.heap.size w c)(a:Between N w G hp):Between N c G hp:=by refine⟨a.only,λb o hf=>br (a.fixlt b o hf) h.size,λb k ho=>br (a.owlt b k ho) h.size,?_,a.hdom⟩;exact a.heap.keep (c3I h a.fixlt) ⟨λb k ho _=>⟨ho,h.block b (a.owlt b k ho),λ_ h=>h⟩,λ_ _ h=>h⟩ (λ_ _ h=>h)
theorem c3J {hp:HsT}(i:Between N w G hp){R:Ending->World->Prop}(f:Calls P (N.fn k) a w R)(b:∀e d,R e d->∃v,e=.returned v/\VR N d G.fix G.heap v p/\Below w.heap.size w d):Calls P (N.fn k) a w λe d=>∃v g,e=.returned v/\VR N d g.fix g.heap v p/\Ext w G d g/\Between N d g hp:=by refine f.mono ?_;intro e d h;obtain⟨v,rfl,c,j⟩:=b e d h;exact⟨v,G,rfl,c,c3I j i.fixlt,c1I j i⟩
theorem two {q:PV}(b:a.size=[p,q].length)(c:∀(i:Nat)(v:Value)(x:PV),a[i]?=some v->[p,q][i]?=some x->VR N w G.fix G.heap v x):∃v u,a=#[v,u]/\VR N w G.fix G.heap v p/\VR N w G.fix G.heap u q:=by obtain⟨l⟩:=a;match l,b with|[v,u],_=>exact⟨v,u,rfl,c 0 v p rfl rfl,c 1 u q rfl rfl⟩
theorem e8V (b:a.size=[p].length)(c:∀(i:Nat)(v:Value)(x:PV),a[i]?=some v->[p][i]?=some x->VR N w G.fix G.heap v x):∃v,a=#[v]/\VR N w G.fix G.heap v p:=by obtain⟨l⟩:=a;match l,b with|[v],_=>exact⟨v,rfl,c 0 v p rfl rfl⟩
theorem e0H {fix:Nat->Nat->Prop}{hp:Nat->Option Nat}:VR N w fix hp (.string ⟨s.toArray⟩) (.str s):=by have:=VR.str (N:=N) (w:=w) (fix:=fix) (hp:=hp) ⟨s.toArray⟩;exact this
theorem c8p {fix:Nat->Nat->Prop}{hp:Nat->Option Nat}{v:Value}(h:VR N w fix hp v (.str s)):v=.string ⟨s.toArray⟩:=by cases h with|str s=>cases s;simp
theorem c3K {ρ:Ren}(c:N.fn k=ρ.f 217)(L:Lays.n217 P ρ):Jw N P k Rq:=by intro m r h l a w G b d g i;unfold Rq at a;split at a;{cases a;obtain⟨v,u,rfl,hv,j⟩:=two g i;have:=c8p hv;subst this;cases j;refine c3J d (c▸Any.stringslite_IndexByte L _ _ w) ?_;rintro e f⟨rfl,rfl⟩;exact⟨_,rfl,(VR.int (N:=N) (w:=f) (fix:=G.fix) (hp:=G.heap) _ _),Below.refl _ _⟩};simp at a
theorem c8q(c:World)(d:Nat)(b:Array Obj):Below c.heap.size c (Go.Sort.grow (c.drewN d) b):=by refine⟨rfl,rfl,rfl,by simp[Go.Sort.grow,World.drewN],λj a=>?_⟩;simp[Go.Sort.grow,World.drewN,Array.getElem?_append,a]
theorem d6J {ρ:Ren}(f:N.fn k=ρ.f 171)(L:LaysM.n171 P ρ)(g:∀w o,Tab N w o->Lib.TabIs P w "internal/strconv.uint64pow10" .u64 Lib.pow10Tab):Jw N P k NK:=by intro p r h n a w G d b i l;unfold NK at a;split at a;{split at a;(next c=>cases a;obtain⟨v,rfl,hv⟩:=e8V i l;cases hv;refine c3J b (f▸Any.strconv_Itoa L _ c.1 c.2 w (g w G.fix b.heap.2)) ?_;rintro e m⟨rfl,j,q,rfl⟩;exact⟨_,rfl,e0H,c8q w j q⟩);simp at a};simp at a
end PI
namespace PI
open Go Go.RowKit Go.Shelf Go.Proofs Go.Sort
theorem c0B:∀{cs:VsT}{a:List Int},LZ cs=some a->cs=a.map (PV.int .i64)|[],a,h=>by simp[LZ]at h;subst h;rfl|e::es,a,h=>by unfold LZ at h;split at h;(next b=>simp at b);(next n r b=>cases b;simp at h;obtain⟨d,c,rfl⟩:=h;rw[c0B c];rfl);simp at h
theorem d4y {N:Nm}{w:World}{a:Nat->Nat->Prop}{b:Nat->Option Nat}:VR N w a b (.tuple #[]) (.tuple []):=.tuple _ _ rfl (by simp)
theorem d6K {N:Nm}{P:Program}{ρ:Ren}{k:Nat}(X:N.fn k=ρ.f 189)(L:Lays.n189 P ρ):Jw N P k MK:=by intro args r h h' q w G B t fL fQ;unfold MK at q;split at q;(next n len=>split at q;(next Y gJ=>split at q;(next I=>simp at q;obtain⟨C,lS,rfl,rfl⟩:=q;rw[d07];have Z:=c0B lS;(have W:C.length=len:=by have:=bw List.length Z;simp at this;omega);obtain⟨l⟩:=B;match l,fL with|[v],_=>have hv:=fQ 0 v _ rfl rfl;cases hv with|rowp _ _ _ _ b cap hb fR ik=>rcases t.heap.1 n _ gJ with hx|⟨A,k1,k2,f,d,T,E,a2,S⟩;{simp at hx};(have:A=b:=by rw[hb]at k1;simpa using k1.symm);subst this;have jJ:A<w.heap.size:=(bq.1 E).1;(have o6:d.toList.take C.length=C.map (Value.int .i64):=by apply ej;intro j;by_cases hj:j<C.length;{rw[fj hj,Array.getElem?_toList];(have h1:Y[j]?=some (.int .i64 C[j]):=by have:=bw (λl=>l[j]?) Z;simp only[bz,an hj,cz]at this;rw[fj (by omega)]at this;exact this);(have J:j<d.size:=by omega);have h2:=(S j d[j] _ (by simp[J]) h1).1;generalize d[j]'J=c at h2;(have h3:d[j]?=some d[j]:=by simp[J]);have h4:=(S j d[j] _ (by simp[J]) h1).1;generalize u:d[j]=c4 at h4 h3;cases h4;rw[h3];simp[hj]};rw[List.getElem?_take_eq_none (by omega),List.getElem?_eq_none (by simp;omega)]);have hH:=holds_of_blockI E o6;have u:=Any.slices_Sort_int L A 0 cap C w hH jJ (by grind);rw[W]at u;refine(X▸u).mono ?_;rintro e D⟨rfl,m,os,rfl⟩;let ts:=C.mergeSort λx y=>decide (x<=y);(have pX:ts.length=len:=by rw[<-W];exact List.length_mergeSort _);have uR:=grownBy_sortedI (w:=w) (g:=A) (n:=m) (os:=os) ts.toArray;have K:=heap_sortedI (n:=m) (os:=os) ts.toArray E;generalize ly:grow _ os=D at uR K;obtain⟨g1,g2,g3,Q,g5⟩:=uR;have U:∀x,x<w.heap.size->x≠A->D.heap[x]?=w.heap[x]?:=λx hx F=>g5 x hx (by simpa using F);(have V:(putCells (Value.int .i64) 0 ts.toArray d).size=d.size:=by simp[putCells]);have mY:ShapeLe w D:=.one A (by grind) (λs hs=>by simp only[World.shape?,E]at hs;simp only[World.shape?,K,V];exact hs) (λs hs=>by rw[YG E]at hs;simp at hs) (λi s hs=>by simp[Gs,E]at hs);(have M:Ext w G D G:=by refine⟨g1,g2,g3,Q,?_,?_,λ_ _ h=>.inl h,λ_ h=>.inr h,λ_ _ h=>h,mY,rfl⟩;{intro x hx ho;exact U x hx (by grind)};intro x o hf;refine⟨hf,?_⟩;(have F:x≠A:=by rintro rfl;exact f o hf);simp only[World.cell?,U x (t.fixlt x o hf) F]);(have fK:DS (λk=>k=.hobj n) w G D G:=by refine⟨?_,λ_ _ h=>h⟩;intro x kx hx F;refine⟨hx,U x (t.owlt x kx hx) ?_,λ_ h=>h⟩;rintro rfl;rw[k2]at hx;simp only[am]at hx;exact F hx.symm);refine⟨_,G,rfl,d4y,M,?_⟩;refine⟨t.only,λx o hf=>br (t.fixlt x o hf) Q,λx kx hx=>br (t.owlt x kx hx) Q,?_,λm x hx=>by simpa using t.hdom m x hx⟩;refine t.heap.keepBut M fK (by simp) ?_;intro mK;refine .inr ⟨A,hb,k2,f,_,T,K,?_,?_⟩;{rw[V];have h0:=I.1;simp only[ap,cw,List.length_drop];show ts.length+_<=_;omega};intro j c x u hx;(have O:j<d.size:=by rw[<-V];exact(bq.1 u).1);by_cases hj:j<len;{(have R:j<ts.length:=by omega);rw[aq (by grind)]at hx;simp at hx;obtain⟨z,H,rfl⟩:=hx;have H:ts[j]?=some z:=H;(have:c=.int .i64 z:=by simp[putCells,O,R]at u;rw[an R]at H;simp only[am]at H;rw[<-u,H]);subst this;exact⟨.int _ _,rfl,True.intro⟩};(have R:ts.length<=j:=by omega);rw[ax (by grind)]at hx;simp only[cw,em]at hx;have hx:Y[len+(j-ts.length)]?=some x:=hx;rw[show len+(j-ts.length)=j by omega]at hx;(have lO:d[j]?=some c:=by simp[putCells,O,show¬j<ts.length by omega]at u;simp[O,u]);exact(S j c x lO hx).keep M fK (by simp));simp at q);simp at q);(next o=>cases q;obtain⟨l⟩:=B;match l,fL with|[v],_=>have hv:=fQ 0 v _ rfl rfl;(obtain⟨p,cap,rfl⟩:∃p cap,v=.slice p 0 cap:=by cases hv with|nils=>exact⟨none,0,rfl⟩|void _ a cap=>exact⟨some a,cap,rfl⟩|list _ b off len cap sz _ d I fR _ _ _ _=>simp at I;subst I;exact⟨_,cap,rfl⟩);refine(X▸Any.slices_Sort_int_none L p cap w).mono ?_;rintro e D⟨rfl,rfl⟩;exact⟨_,G,rfl,d4y,Ext.refl _ _,t⟩);simp at q
end PI
namespace Go.Proofs.YtncpglgeamdneaaGreatDoor.Pi
open Go.ChangeShapes Go.WideShapes Go.ChangeAt Go.RowKit PI PI.Sc
variable {w:World}{a:TypeId}{b:String}{c:Array Value}
theorem own:ownKnob Tryz.prog.godebug=none:=by kernel_rfl
def tm(i:Nat):TypeId:=([9,3,81,103,22,168,66,68,58,83,75,85,73,4,228,173,175,90,74,88,77,23,25]:NsT).getD i 5
theorem d10:(List.range 24).all (λi=>KK Tryz.prog D tm 24 i)=true:=by kernel_rfl
theorem d11:∀i,i<24->KK Tryz.prog D tm 24 i=true:=by intro i hi;exact bu.1 d10 i (by simpa using hi)
theorem d4Y:laidOutB Tryz.prog=true:=by kernel_rfl
theorem d4Z:(List.range 24).all (λi=>Tryz.prog.readableRec (tm i)&&decide (tm i<Tryz.prog.types.size))=true:=by kernel_rfl
theorem d8R(i:Nat)(d:i<24):i<24/\Tryz.prog.readableRec (tm i)=true/\tm i<Tryz.prog.types.size:=by have:=bu.1 d4Z i (by simpa using d);simp only[aw,bm]at this;exact⟨d,this⟩
def Jv:List (String×DataW Unit):=[("math/bits.deBruijn32tab",Rows.laid_math_bits_deBruijn32tab),("math/bits.deBruijn64tab",Rows.laid_math_bits_deBruijn64tab),("internal/strconv.uint64pow10",Rows.laid_internal_strconv_uint64pow10)]
theorem ZK:(Jv.filter λx=>x.2.handleName?.isSome)=[]:=by kernel_rfl
theorem d40(h:laidMetH Tryz.prog Jv w):laidMet Tryz.prog Jv w:=by unfold laidMetH at h;rw[ZK]at h;exact h
theorem d41(h:laidMet Tryz.prog Jv w):laidMetH Tryz.prog Jv w:=by unfold laidMetH;rw[ZK];exact h
theorem gP:Tryz.prog.globalNamed "internal/strconv.uint64pow10"=some 0:=by kernel_rfl
theorem d12{W:World}{g:Nat}(d:Tryz.prog.globalNamed b=some g)(h:W.var? Tryz.prog b=some c):∃T a,W.heap[g]?=some (.cells c T a):=by unfold World.var? at h;rw[d]at h;simp only[cj]at h;split at h;(next e T a name=>simp at h;subst h;exact⟨T,a,name⟩);simp at h
theorem d8S{g:Nat}{l:List Value}(e:Tryz.prog.globalNamed b=some g)(k:w.shape? g=some (a,l.length))(d:∀(i:Nat)(v:Value),l[i]?=some v->w.cell? ⟨g,i,none⟩=some v):w.var? Tryz.prog b=some l.toArray:=by unfold World.shape? at k;unfold World.var?;rw[e];simp only[cj];split at k;(next c j h name=>simp at k;rw[name];simp only[am];apply Array.ext;{simpa using k.2};intro i f m;have T:=d i l[i] (by simp);simp only[World.cell?,name]at T;simp[f]at T;simpa using T);simp at k
def P6:List Value:=Lib.pow10Tab.map λz=>Value.int .u64 z
def NE:List (Nat×Nat×Value):=P6.mapIdx λi v=>(0,i,v)
def par(a:TypeId):Ps:=⟨NE,[(0,a,20)],0⟩
structure Held(W:World)(a:TypeId):Prop where
 cells:∀t∈(par a).tabs,W.cell? ⟨t.1,t.2.1,none⟩=some t.2.2
 rows:∀r∈(par a).rows,W.shape? r.1=some r.2
theorem held{W:World}(h:laidMet Tryz.prog Jv W):∃a,Held W a:=by have e:Lib.TabIs Tryz.prog W "internal/strconv.uint64pow10" .u64 Lib.pow10Tab:=Lib.tabIs_of_head gP (by kernel_rfl) (show Tryz.prog.underlying 437=some (.array 20 404)by kernel_rfl) (show Tryz.prog.underlying 404=some (.int .u64)by kernel_rfl) (by kernel_rfl) (by kernel_rfl) h.tail.tail;obtain⟨a,f,c⟩:=d12 gP e;refine⟨a,⟨?_,?_⟩⟩;{intro t b;have b:t∈NE:=b;rw[NE]at b;obtain⟨i,hi,rfl⟩:=List.mem_mapIdx.1 b;simp only[World.cell?,c];have:(Lib.pow10Tab.map λz=>Value.int .u64 z)=P6:=rfl;rw[this];simp};intro r d;(obtain rfl:r=(0,a,20):=by simpa[par]using d);simp only[World.shape?,c];rfl
theorem d42{c:Nat->Nat->Prop}(h:Tab (N0 (par a)) w c):Lib.TabIs Tryz.prog w "internal/strconv.uint64pow10" .u64 Lib.pow10Tab:=by have hs:w.shape? 0=some (a,P6.length):=h.2 (0,a,20) (by show(0,a,20)∈[((0:Nat),a,20)];simp);refine d8S gP hs ?_;intro i v hv;refine(h.1 (0,i,v) ?_).2;show(0,i,v)∈NE;rw[NE];obtain⟨hi,b⟩:=ae.1 (show P6[i]?=some v from hv);exact List.mem_mapIdx.2 ⟨i,hi,by rw[b]⟩
theorem rec27(p:Ps):KL (N0 p) Tryz.prog 27 (I7 1):=by refine ZL (E:=E.opt {hs:=[0,1],sr:=true}) ((Tc p).opt _) rfl mixed rfl (fn:=Tryz.f82) (tA:=20) (T:=155) Tryz.func82 rfl rfl rfl ⟨_,rfl⟩ rfl rfl rfl rfl rfl rfl rfl (by kernel_rfl) (by kernel_rfl) rfl (by kernel_rfl) rfl (by kernel_rfl) (by kernel_rfl)
theorem rec48(p:Ps):KL (N0 p) Tryz.prog 48 (I7 2):=by refine ZL (E:=E.opt {hs:=[0,1],sr:=true}) ((Tc p).opt _) rfl mixed rfl (fn:=Tryz.f106) (tA:=20) (T:=194) Tryz.func106 rfl rfl rfl ⟨_,rfl⟩ rfl rfl rfl rfl rfl rfl rfl (by kernel_rfl) (by kernel_rfl) rfl (by kernel_rfl) rfl (by kernel_rfl) (by kernel_rfl)
theorem e3j{p:Ps}:Jw (N0 p) Tryz.prog 218 (KM 219):=d3y (ρ:=Tryz.sortEdge_ren) (by kernel_rfl) Tryz.sortEdge Tryz.isAgg224 Tryz.sizeOf224 (enters_of Tryz.func215 (by kernel_rfl) rfl) d16
theorem lib:∀k b,LS k=some b->FnS E (N0 (par a)) k b:=e3Z (h39:=d6K (ρ:=Tryz.lays189_ren) (by kernel_rfl) Tryz.lays189) (h44:=d6J (ρ:=Tryz.laysM171_ren) (by kernel_rfl) Tryz.laysM171 (λ_ _ h=>d42 h)) (h183:=c3K (ρ:=Tryz.lays217_ren) (by kernel_rfl) Tryz.lays217) (h218:=e3j) (h27:=rec27 _) (h48:=rec48 _)
mutual theorem P7{H:Type}:∀d:DataW H,Rows.uptoBulk d=EV d|.lit x=>by cases x<;>rfl|.nil=>rfl|.ptr d=>by simp only[Rows.uptoBulk,EV,P7 d]|.slice es sp=>by simp only[Rows.uptoBulk,EV,NG es,NG sp]|.agg ps=>by simp only[Rows.uptoBulk,EV,NG ps]|.iface _ d=>by simp only[Rows.uptoBulk,EV,P7 d]|.map es=>by simp only[Rows.uptoBulk,EV,ZM es]|.held _=>rfl theorem NG{H:Type}:∀ds:List (DataW H),Rows.uptoBulkAll ds=IM ds|[]=>rfl|d::r=>by simp only[Rows.uptoBulkAll,IM,P7 d,NG r]theorem ZM{H:Type}:∀ds:List (Lit×DataW H),Rows.uptoBulkEntries ds=P8 ds|[]=>rfl|x::r=>by simp only[Rows.uptoBulkEntries,P8,c81 x,ZM r]theorem c81{H:Type}:∀x:Lit×DataW H,Rows.uptoBulkEntry x=Td x|(l,d)=>by cases l<;>simp only[Rows.uptoBulkEntry,Td,P7 d]end
theorem d13{H:Type}{b:List (DataW H)}{a:VsT}(c:Rows.uptoSmall H b=true)(h:wts a<=IM b):wts a<=1048576:=by have:Rows.uptoBulkAll b<=1048576:=of_decide_eq_true c;rw[NG]at this;omega
theorem c2a(i:VsT)(h:NH D [22] i)(j:wts i<=1048576):∃m b,call LS m 263 i []=some (.bool true,b):=by match i,h with|[p],h=>obtain⟨x,rfl,f⟩:=d5o p h.1;simp only[wts]at j;have g:=d5r x;obtain⟨_,e,b,rfl⟩:=c7x c7p x (f.pw (by omega)) (by omega);obtain⟨m,d⟩:=HP.1 e;exact⟨m,b,d⟩
theorem c2b:∀i∈([22]:NsT),i<24/\Tryz.prog.readableRec (tm i)=true/\tm i<Tryz.prog.types.size:=λi hi=>d8R i (by simp at hi;omega)
theorem d14(os:Os):laidMetH Tryz.prog Jv ((World.laidAll Tryz.prog os Jv).forCall (λ_ _=>0) ⟨#[],c,[]⟩).memory:=d41 (laidMet_laidAll c (by kernel_rfl) (by kernel_rfl))
theorem b7N(os:Os)(q:os.Started)(H:Type)(enc:TypeId×Value->H)(F:Stop.Interp):ReturnsInHanded {} Tryz.checked os 3 .any ((Rows.OpenSpec.upto Rows.acceptAllSpec).preRow enc Tryz.prog Tryz.f3 [] false Jv) (((Rows.OpenSpec.upto Rows.acceptAllSpec).at F).post enc Tryz.prog Tryz.f3 false true false false):=by refine returnsInHanded_of_row (C:=Tryz.checked) (s:=Rows.OpenSpec.upto Rows.acceptAllSpec) own q (by kernel_rfl) Tryz.func3 (witness_row_at (enc:=enc) (C:=Tryz.checked) (os:=os) (s:=Rows.OpenSpec.upto Rows.acceptAllSpec) false (World.laidAll Tryz.prog os Jv) #[.agg #[.slice none 0 0,.slice none 0 0]] (World.laidAll_os _ _ _) (by kernel_rfl) (by kernel_rfl) (by kernel_rfl) ⟨⟨(OpenSpec.pre_some (k:=Rows.uptoSmall) rfl [] false _ _).2 ⟨[.agg [.nil,.nil]],[],[],(DataW.Whole_of_whole (fuel:=8) (x:=(([.agg [.nil,.nil]]:List (DataW H)),([]:List (DataW H)),([]:List MemPlace))) (by kernel_rfl)),rfl,by kernel_rfl⟩,d14 os⟩,sizedMet_of_sizedB (s:=Rows.acceptAllSpec) (fuel:=8) (by kernel_rfl)⟩) ?_;intro W c p f gs before o m _ i g l _ _;obtain⟨a,e⟩:=held (d40 l);exact c5C (s:=Rows.acceptAllSpec) (base':=c) (N:=N0 (par a)) (D:=D) (tm:=tm) (n:=24) (k:=263) (idxs:=[22]) (tb:=4) (Tc _) rfl mixed lib e.cells e.rows d11 d4Y (by kernel_rfl) c2b rfl Tryz.underlying4 (by kernel_rfl) (λf j=>by match f,j with|[_],_=>rfl) o m g (λd h l=>c2a d h (d13 (i _ rfl) l))
theorem b7O:Rows.AcceptAllUptoSaid:=OpenClaim.holds_of_cond 3 Tryz.f3 rfl rfl rfl rfl rfl rfl rfl ⟨rfl,rfl,rfl,rfl,rfl⟩ rfl rfl rfl rfl rfl d32 Tryz.func3 d47 e3l e3m (λc a H b _ F=>by rw[OpenClaim.pre_eq_preRow];exact b7N c a H b F)
theorem acceptAll_card:Rows.AcceptAllUptoCardSaid:=Claim7.holds_tied_plain_at .later [] [.data,.data,.data] true (true,"e54cbf716c0d51190e989ba6f9d0f6fb07cc904a37ed975123be436d4be40fb0") true b7O (λ_ h=>by cases h) d48 (λ_ h=>by cases h) acceptAllUpto_row_tie rfl ⟨rfl,rfl⟩ e3n rfl (λf d hf c=>by obtain rfl:f=3:=Option.some.inj (d32.symm.trans hf)|>.symm;obtain rfl:d=Tryz.f3:=(Option.some.inj (Tryz.func3.symm.trans c)).symm;exact⟨d8U,λj t a=>by rw[d49]at a;(have b:t=25:=by rcases j with _|j;{simpa using a.symm};simp at a);subst b;exact d8V⟩) e3o
#print axioms acceptAll_card
end Go.Proofs.YtncpglgeamdneaaGreatDoor.Pi
