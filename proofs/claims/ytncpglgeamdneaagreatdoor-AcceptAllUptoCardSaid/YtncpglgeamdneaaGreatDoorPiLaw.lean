import Derived.Test.YtncpglgeamdneaaGreatDoorPiFunc
import Derived.ProofKit
import Derived.Deep.Slices
import Derived.SizedLaws
import Derived.KernelRfl
import Derived.Test.YtncpglgeamdneaaGreatDoorPiBase
import Derived.Lib.Join
import Derived.Lib.ItoaNum
import Derived.Lib.AtoiAll
import Derived.Lib.Bytealg
import Derived.Test.YtncpglgeamdneaaGreatDoorPiSound9
import Derived.RecoverIn
import Derived.Test.YtncpglgeamdneaaGreatDoorChecked
import Derived.Shelf.SlSortCmp.NoneTotal
import Derived.Shelf.Strconv.Itoa3
import Derived.Shelf.Sort.Plain
import Derived.Shelf.Slices.In.SortNone
import Derived.Shelf.Small.Wraps
import Derived.Shelf.Strings.Search1
import Derived.Test.YtncpglgeamdneaaGreatDoorProg
set_option maxHeartbeats 1000000
set_option linter.unusedSimpArgs false
set_option linter.unusedVariables false
set_option linter.unusedSectionVars false
namespace PI
open Go Go.RowKit
variable {n:Nat}{e:TypeId}
inductive TyD where|bool|int(k:IntKind)|str|slice(e b:Nat)|struct(fs:NsT)deriving DecidableEq,Inhabited
inductive Sh(D:Nat->TyD):Nat->PV->Prop where|bool(i:Nat)(b:Bool)(h:D i=.bool):Sh D i (.bool b)|int(i:Nat)(k:IntKind)(n:Int)(h:D i=.int k)(h1:k.min<=n)(h2:n<=k.max):Sh D i (.int k n)|str(i:Nat)(s:List UInt8)(h:D i=.str)(hl:s.length<=9223372036854775807):Sh D i (.str s)|slice(i e b:Nat)(es:VsT)(h:D i=.slice e b)(hl:es.length<=9223372036854775807)(hb:es.length*b<=140737488351232)(hs:∀x∈es,Sh D e x):Sh D i (.list false es)|struct(i:Nat)(fs:NsT)(ps:VsT)(h:D i=.struct fs)(hl:ps.length=fs.length)(hs:∀(j f:Nat)(p:PV),fs[j]?=some f->ps[j]?=some p->Sh D f p):Sh D i (.agg (ps.flatMap PV.cells))
def JW(P:Program)(b:Nat->TypeId)(n:Nat):NsT->List Field->Nat->Bool|[],[],_=>true|f::a,g::gs,off=>decide (f<n)&&(g.type==b f)&&(g.offset==off)&&JW P b n a gs (off+P.cellsOf g.type)|_,_,_=>false
def Pm(P:Program):List Field->Nat|[]=>0|g::gs=>P.cellsOf g.type+Pm P gs
def KK(P:Program)(D:Nat->TyD)(a:Nat->TypeId)(n i:Nat):Bool:=match D i,P.underlying (a i)with|.bool,some .bool=>P.cellsOf (a i)==1|.int k,some (.int d)=>k==d&&P.cellsOf (a i)==1|.str,some .string=>P.cellsOf (a i)==1|.slice e b,some (.slice t)=>decide (e<n)&&t==a e&&P.cellsOf (a i)==1&&P.cellsOf (a e)!=0&&P.bytesOf (a e)==b|.struct c,some (.struct gs)=>JW P a n c gs.toList 0&&P.cellsOf (a i)==Pm P gs.toList|_,_=>false
mutual def wt:PV->Nat|.str s=>s.length+1|.list _ es=>wts es+1|.agg cs=>wts cs+1|_=>1 def wts:VsT->Nat|[]=>0|v::vs=>wt v+wts vs end
mutual def EV{H:Type}:DataW H->Nat|.lit (.string bytes)=>bytes.length+1|.lit _=>1|.nil=>1|.ptr d=>EV d+1|.slice elems spare=>IM elems+IM spare+1|.agg parts=>IM parts+1|.iface _ d=>EV d+1|.map entries=>P8 entries+1|.held _=>1 def IM{H:Type}:List (DataW H)->Nat|[]=>0|d::r=>EV d+IM r def P8{H:Type}:List (Lit×DataW H)->Nat|[]=>0|x::r=>Td x+P8 r def Td{H:Type}:Lit×DataW H->Nat|(.string bytes,d)=>bytes.length+EV d+1|(_,d)=>EV d+1 end
theorem c0t:∀(a b:VsT),wts (a++b)=wts a+wts b|[],b=>by simp[wts]|x::a,b=>by simp[wts,c0t a b];omega
theorem d0H(p:PV):wts p.cells<=wt p:=by cases p<;>simp[PV.cells,wts,wt]
theorem c6V:∀a:VsT,wts (a.flatMap PV.cells)<=wts a|[]=>by simp|p::a=>by have:=d0H p;have:=c6V a;simp[c0t,wts];omega
theorem X8{H:Type}:∀(j:VsT)(a:List (DataW H)),j.length=a.length->(∀(k:Nat)(e:PV)(d:DataW H),j[k]?=some e->a[k]?=some d->wt e<=EV d)->wts j<=IM a|[],[],_,_=>by simp[wts]|e::j,d::a,g,h=>by have i:=h 0 e d rfl rfl;have l:=X8 j a (by grind) (λk b f c hd=>h (k+1) b f (c) (hd));simp[wts,IM];omega
section
variable {H:Type}{enc:TypeId×Value->H}{P:Program}{w:World}{base:Nat}{spare:Nat->Bool}{held:Bool}{N:Nm}{D:Nat->TyD}{tm:Nat->TypeId}
def IF(w:World):Nat->Nat->Prop:=λb o=>(w.cell? ⟨b,o,none⟩).isSome=true
theorem c0u{a:Addr}{cs:List Value}(h:w.cells? base a n=some cs):cs.length=n/\∀(j:Nat)(v:Value),cs[j]?=some v->w.cell? (a.add j)=some v:=by obtain⟨d,e,b⟩:=World.cells?_some h;refine⟨e,?_⟩;intro j v hv;(have c:j<n:=by have:=(ae.1 hv).1;omega);rw[b j c];exact hv
theorem d4r(P:Program):∀{a:NsT}{gs:List Field}{n off:Nat},JW P tm n a gs off=true->a.length=gs.length|[],[],_,_,_=>rfl|f::a,g::gs,n,off,h=>by simp[JW]at h;simp[d4r P h.2]|[],_::_,_,_,h=>by simp[JW]at h|_::_,[],_,_,h=>by simp[JW]at h
theorem c3v{fix:Nat->Nat->Prop}{hp:Nat->Option Nat}{cs:List Value}:∀{Q:Nat->PV->Prop}{b:NsT}{gs:List Field}{off:Nat},JW P tm n b gs off=true->cs.length=off+Pm P gs->(∀(j:Nat)(f:Nat)(g:Field),b[j]?=some f->gs[j]?=some g->f<n->g.type=tm f->∃p,(Sh D f p/\Q j p)/\CellsR N w fix hp ((cs.drop g.offset).take (P.cellsOf g.type)) p.cells/\((cs.drop g.offset).take (P.cellsOf g.type)).length=P.cellsOf g.type)->∃c:VsT,c.length=b.length/\(∀(j f:Nat)(p:PV),b[j]?=some f->c[j]?=some p->Sh D f p/\Q j p)/\CellsR N w fix hp (cs.drop off) (c.flatMap PV.cells)|Q,[],[],off,_,d,_=>⟨[],rfl,by simp,by have:cs.drop off=[]:=de (by simp[Pm]at d;omega);rw[this];exact⟨rfl,by simp,by simp⟩⟩|Q,f::b,g::gs,off,h,d,hx=>by simp[JW]at h;obtain⟨⟨⟨x,z⟩,m⟩,q⟩:=h;simp[Pm]at d;obtain⟨c,t,k,v⟩:=c3v q (by omega) (λj e l hf o=>hx (j+1) e l (hf) (o));obtain⟨p,r,i,y⟩:=hx 0 f g rfl rfl x z;refine⟨p::c,by simp[t],?_,?_⟩;{intro j e u hf a;cases j with|zero=>simp at hf a;subst hf a;exact r|succ j=>exact k j e u (hf) (a)};simp;rw[m]at i;(have s:cs.drop off=(cs.drop off).take (P.cellsOf g.type)++cs.drop (off+P.cellsOf g.type):=by rw[<-List.drop_drop,ey]);rw[s];exact i.append v|_,[],_::_,_,h,_,_=>by simp[JW]at h|_,_::_,[],_,h,_,_=>by simp[JW]at h
theorem Nk{v:Value}{p:PV}{hp:Nat->Option Nat}{fix:Nat->Nat->Prop}(h:VR N w fix hp v p)(e:p.flat=true)(b:p.cells=[p]):CellsR N w fix hp [v] p.cells:=by rw[b];refine⟨rfl,by simpa using e,?_⟩;intro i c x a d;cases i with|zero=>simp at a d;subst a d;exact h|succ i=>simp at a
theorem b8U:∀{a:List (DataW H)}{k:Nat}{d:DataW H},a[k]?=some d->(DataW.weightsAll P e a).all (·<=reachBytes)=true->(d.weights P e).all (·<=reachBytes)=true|b::a,0,d,hd,h=>by cases hd;simp only[DataW.weightsAll,fk,aw]at h;exact h.1|b::a,k+1,d,hd,h=>by simp at hd;simp only[DataW.weightsAll,fk,aw]at h;exact b8U hd h.2|[],_,_,hd,_=>by simp at hd
theorem c3w{c:List TypeId}{a:List (DataW H)}{j:Nat}{d:DataW H}(b:c[j]?=some e)(f:a[j]?=some d)(h:(DataW.weightsEach P c a).all (·<=reachBytes)=true):(d.weights P e).all (·<=reachBytes)=true:=by rw[bu]at h⊢;exactλn hn=>h n (DataW.weights_mem_each b f n hn)
theorem d6u{hp:Nat->Option Nat}(hM:∀i,i<n->KK P D tm n i=true):∀(fuel i:Nat)(cs:List Value)(x:DataW H×List MemPlace),i<n->DataW.trod enc P w base spare held fuel (tm i) cs=some x->(x.1.weights P (tm i)).all (·<=reachBytes)=true->∃p,(Sh D i p/\wt p<=EV x.1)/\cs.length=P.cellsOf (tm i)/\CellsR N w (IF w) hp cs p.cells:=by intro fuel;induction fuel with|zero=>intro i cs x _ h;simp[DataW.trod]at h|succ fuel ih=>intro i cs x hi h K;have q:=hM i hi;unfold KK at q;split at q;(next hd A=>obtain⟨b,rfl,rfl⟩:=DataW.trod_bool A h;simp only[eM]at q;exact⟨.bool b,⟨.bool i b hd,by simp[wt,EV]⟩,by simp[q],Nk (.bool b) rfl rfl⟩);(next k k' hd A=>obtain⟨m,rfl,rfl,W⟩:=DataW.trod_int A h;simp only[aw,eM]at q;obtain⟨rfl,q⟩:=q;simp only[Lit.wf,aw,bm]at W;exact⟨.int k m,⟨.int i k m hd W.1 W.2,by simp[wt,EV]⟩,by simp[q],Nk (.int k m) rfl rfl⟩);(next hd A=>obtain⟨s,rfl,rfl,hs⟩:=DataW.trod_string A h;simp only[eM]at q;have hl:s.data.toList.length=s.size:=ep;exact⟨.str s.data.toList,⟨.str i _ hd (by rw[hl];simpa[maxLen]using hs),by simp[wt,EV]⟩,by simp[q],Nk (.str s) rfl rfl⟩);(next e G t hd A=>simp at q;obtain⟨⟨⟨⟨he,rfl⟩,q⟩,kw⟩,yo⟩:=q;rcases DataW.trod_slice A h with⟨rfl,rfl⟩|⟨a,len,cap,l,E,m,Cc,rfl,rfl,hb,hl,Cd,fI,pT,_⟩;{exact⟨.list false [],⟨.slice i e G [] hd (by simp) (by simp) (by simp),by simp[wt,wts,EV]⟩,by simp[q],Nk (.nils false) rfl rfl⟩};(have sk:m=fuel:=by omega);subst sk;by_cases h0:len=0;{subst h0;exact⟨.list false [],⟨.slice i e G [] hd (by simp) (by simp) (by simp),by simp[wt,wts,EV]⟩,by simp[q],Nk (.void false a cap) rfl rfl⟩};simp only[DataW.weights,A,List.all_cons,fk,aw,bm]at K;obtain⟨Ce,yp,_⟩:=K;(have Dz:∀k,k<len->∃p c,(Sh D e p/\∀d,l[k]?=some d->wt p<=EV d.1)/\c.length=P.cellsOf (tm e)/\CellsR N w (IF w) hp c p.cells/\w.cells? base (a.add (k*P.cellsOf (tm e))) (P.cellsOf (tm e))=some c:=by intro k o;have:=pT k o;rw[an (by omega)]at this;simp only[af]at this;obtain⟨c,hc,ht⟩:=this;obtain⟨p,u,h2,B⟩:=ih e c _ he ht (b8U (k:=k) (by rw[bz,an (by omega)];rfl) yp);refine⟨p,c,⟨u.1,?_⟩,h2,B,hc⟩;intro d C;rw[an (by omega)]at C;cases C;exact u.2);(have yq:∃F:Nat->PV,∀k,k<len->∃c,(Sh D e (F k)/\∀d,l[k]?=some d->wt (F k)<=EV d.1)/\c.length=P.cellsOf (tm e)/\CellsR N w (IF w) hp c (F k).cells/\w.cells? base (a.add (k*P.cellsOf (tm e))) (P.cellsOf (tm e))=some c:=by refine⟨λk=>if o:k<len then(Dz k o).choose else .dead,λk o=>?_⟩;simp only[dif_pos o];exact(Dz k o).choose_spec);obtain⟨F,J⟩:=yq;let sz:=P.cellsOf (tm e);let es:VsT:=(List.range len).map F;(have jH:∀(k:Nat)(y:PV),es[k]?=some y->k<len/\y=F k:=by intro k y r;simp only[es,bz,ab]at r;obtain⟨m',oR,rfl⟩:=r;obtain⟨u,h2⟩:=ae.1 oR;simp at u h2;exact⟨u,by rw[h2]⟩);(have V:∀y∈es,∃k,k<len/\y=F k:=by intro y r;obtain⟨k,o⟩:=c9.1 r;exact⟨k,jH k y o⟩);(have ik:Sh D i (.list false es):=by refine .slice i e G es hd (by simp[es];simp[maxLen]at Cd;omega) ?_ ?_;{rw[<-yo,show es.length=len by simp[es]];have u:len*P.bytesOf (tm e)<=((l.map (·.1)).length+(E.map (·.1)).length)*P.bytesOf (tm e):=cy _ (by simp;omega);have h2:reachBytes=140737488351232:=rfl;omega};intro y r;obtain⟨k,o,rfl⟩:=V y r;obtain⟨_,u,_⟩:=J k o;exact u.1);(have S:wt (.list false es)<=EV (DataW.slice (l.map (·.1)) (E.map (·.1))):=by have:=X8 es (l.map (·.1)) (by simp[es,fI]) (by grind);simp only[wt,EV];omega);refine⟨.list false es,⟨ik,S⟩,by simp[q],Nk ?_ rfl rfl⟩;have hz:sz≠0:=kw;(have uM:a.spot=none:=by obtain⟨c,_,h2,_,T⟩:=J 0 (by omega);obtain⟨_,X⟩:=c0u T;(have O:0<c.length:=by rw[h2];show 0<sz;omega);have:=X 0 c[0] (an O);have:=World.cell?_spot this;simpa[Addr.add]using this);obtain⟨b,off,aa⟩:=a;cases uM;(have hcell:∀k j,k<len->j<sz->∃v,w.cell? ⟨b,off+(k*sz+j),none⟩=some v/\∀y,(F k).cells[j]?=some y->VR N w (IF w) hp v y:=by intro k j o R;obtain⟨c,_,h2,B,T⟩:=J k o;obtain⟨_,X⟩:=c0u T;(have O:j<c.length:=by rw[h2];exact R);have:=X j c[j] (an O);rw[GI,GI]at this;refine⟨c[j],by rw[<-Nat.add_assoc];exact this,λy r=>B.2.2 j c[j] y (an O) r⟩);let M:Nat->Value:=λk=>(w.cell? ⟨b,off+k,none⟩).getD undef;(have sl:es.length=len:=by simp[es]);refine .list false b off len cap sz es M sl hl ?_ ?_ ?_ ?_;{intro y r;obtain⟨k,o,rfl⟩:=V y r;obtain⟨c,_,h2,B,_⟩:=J k o;have:=B.1;omega};{intro y r;obtain⟨k,o,rfl⟩:=V y r;obtain⟨c,_,h2,B,_⟩:=J k o;exact B.2.1};{intro k o;(have qm:k/sz<len:=by rw[Nat.div_lt_iff_lt_mul (by omega)];exact o);have lL:k%sz<sz:=eo _ (by omega);obtain⟨v,hv,_⟩:=hcell (k/sz) (k%sz) qm lL;(have L:k/sz*sz+k%sz=k:=by rw[Nat.mul_comm];exact Nat.div_add_mod k sz);rw[L]at hv;exact⟨by simp[M,hv],by simp[IF,hv]⟩};intro k y r j z kh;obtain⟨o,rfl⟩:=jH k y r;(have R:j<sz:=by obtain⟨c,_,h2,B,_⟩:=J k o;have h6:=(ae.1 kh).1;have:=B.1;show j<P.cellsOf (tm e);omega);obtain⟨v,hv,fQ⟩:=hcell k j o R;(have:M (k*sz+j)=v:=by simp[M,hv]);rw[this];exact fQ z kh);(next Y gs hd A=>simp only[aw,eM]at q;obtain⟨U,m,Cc,rfl,fX,wQ,nM⟩:=DataW.trod_struct A h;(have sk:m=fuel:=by omega);subst sk;simp only[DataW.weights,A]at K;obtain⟨I,p1,p2,p3⟩:=c3v (N:=N) (w:=w) (fix:=IF w) (hp:=hp) (D:=D) (cs:=cs) (Q:=λj p=>∀d,U[j]?=some d->wt p<=EV d.1) q.1 (by rw[fX,q.2];simp) (by intro j f g hf hg jr Z;(have tr:j<gs.size:=by have:=(ae.1 hg).1;simpa using this);have:=nM j g (by simpa using hg);rw[an (by omega),Z]at this;obtain⟨p,u,h2,B⟩:=ih f _ _ jr this (c3w (j:=j) (by rw[bz,hg];simp[Z]) (by rw[bz,an (by omega)];rfl) K);rw[Z];refine⟨p,⟨u.1,?_⟩,B,h2⟩;intro d C;rw[an (by omega)]at C;cases C;exact u.2);have jN:=d4r P q.1;(have S:wt (.agg (I.flatMap PV.cells))<=EV (DataW.agg (U.map (·.1))):=by have u:=c6V I;have h2:=X8 I (U.map (·.1)) (by rw[p1,cw,wQ,jN];simp) (by intro k e' d' L C;simp only[bz,ab]at C;obtain⟨dd,h2,rfl⟩:=C;(have o:k<Y.length:=by have:=(ae.1 L).1;omega);exact(p2 k Y[k] e' (an o) L).2 dd h2);simp only[wt,EV];omega);refine⟨.agg (I.flatMap PV.cells),⟨.struct i Y I hd p1 (by grind),S⟩,fX,?_⟩;show CellsR N w (IF w) hp cs (I.flatMap PV.cells);simpa using p3);simp at q
end
end PI
namespace PI
open Go Go.RowKit Go.WideShapes Go.ChangeShapes
variable {i:Nat}
section
variable {H:Type}{enc:TypeId×Value->H}{E:Env}{P:Program}{W:World}{base base':Nat}{spare:Nat->Bool}{held:Bool}{N:Nm}{D:Nat->TyD}{tm:Nat->TypeId}
theorem Sh.noOwn{p:PV}(h:Sh D i p):∀q∈p.cells,∀es,q≠.list true es:=by induction h with|bool i b h=>intro q a es;simp[PV.cells]at a;subst a;simp|int i k n h m h2=>intro q a es;simp[PV.cells]at a;subst a;simp|str i s h c=>intro q a es;simp[PV.cells]at a;subst a;simp|slice i e b es h c hb hs d=>intro q a es;simp[PV.cells]at a;subst a;simp|struct i f l h c hs d=>intro q a es;simp[PV.cells]at a;obtain⟨p,o,a⟩:=a;obtain⟨j,g,rfl⟩:=dn.1 o;exact d j (f[j]'(c▸g)) _ (an _) (an _) q a es
theorem Sh.ownNil{p:PV}(h:Sh D i p)(a:List Value):OwnNil a p.cells:=by intro j c b _ d;exact absurd rfl (h.noOwn _ (ar d) b)
theorem e0z{n:Nat}{r:Reach}{v:Value}{d:DataW H}{p:List MemPlace}(t:∀i,i<n->KK P D tm n i=true)(B:i<n)(f:Value.okWide P W r base' (tm i) v)(h:DataW.Trod enc P W base spare held (tm i) v d p)(u:(d.weights P (tm i)).all (·<=reachBytes)=true):∃pv,(Sh D i pv/\wt pv<=EV d)/\VR N W (IF W) (λ_=>none) v pv:=by obtain⟨j,hf⟩:=h;obtain⟨pv,g,F,l⟩:=d6u t j i _ _ B hf u;refine⟨pv,g,?_⟩;have x:=g.1;replace g:=g.1;(have one:∀c:Value,v.cells=#[c]->v=c->pv.cells=[pv]->VR N W (IF W) (λ_=>none) v pv:=by intro c w hv C;rw[w,C]at l;have:=l.2.2 0 c pv rfl rfl;rw[hv];exact this);have a:=t i B;unfold KK at a;cases g with|bool b hd=>split at a<;>simp_all;obtain⟨q,rfl⟩:=okWide_bool (by assumption) f;exact one _ rfl rfl rfl|int k m hd _ _=>split at a<;>simp_all;obtain⟨q,rfl⟩:=okWide_int (by assumption) f;exact one _ rfl rfl rfl|str s hd _=>split at a<;>simp_all;obtain⟨q,rfl⟩:=okWide_string (by assumption) f;exact one _ rfl rfl rfl|slice e b es hd _ _ _=>split at a<;>simp_all;obtain⟨_,_,_,rfl⟩:=okWide_slice (by assumption) f;exact one _ rfl rfl rfl|struct z A hd _ _=>split at a<;>simp_all;obtain⟨y,rfl,_⟩:=okWide_struct (by assumption) f;have o:VR N W _ (λ_=>none) _ _:=CellsR.agg l (x.ownNil _);rw[Array.toArray_toList]at o;exact o
theorem d3k{L:LsT}(w:EnvOk E N)(x:E.P=P)(z:P.follows .mixedOrders=true)(q:∀k c,L k=some c->FnS E N k c)(f:∀t∈N.tabs,W.cell? ⟨t.1,t.2.1,none⟩=some t.2.2)(l:∀r∈N.rows,W.shape? r.1=some r.2){k:Nat}{F:VsT}{d:HsT}{G:Array Value}(j:call L i k F []=some (.bool true,d))(u:G.size=F.length)(y:∀(m:Nat)(v:Value)(p:PV),G[m]?=some v->F[m]?=some p->VR N W (IF W) (λ_=>none) v p):Calls P (N.fn k) G W λe s=>e=.returned (.bool true)/\Below W.heap.size W s:=by refine(((c8c w x z q i).plain k F _ _ d j).2 W {fix:=IF W,heap:=λ_=>none,box:=λ_=>none,ow:=λ_=>none} G ?_ u y).mono ?_;{refine⟨⟨by intro b k h;simp at h,λ_=>rfl⟩,?_,by intro b k h;simp at h,⟨by intro n C h;simp at h,⟨λt g=>⟨by show(W.cell? _).isSome=true;rw[f t g];rfl,f t g⟩,l⟩⟩,by intro n b h;simp at h⟩;intro b o h;unfold IF at h;obtain⟨v,hv⟩:=Option.isSome_iff_exists.1 h;exact World.block_lt_of_cell? W _ hv};rintro e B⟨v,A,rfl,hv,a,_⟩;cases hv;exact⟨rfl,⟨a.os,a.tape,a.output,a.size,λb hb=>a.same b hb rfl⟩⟩
end
end PI
namespace PI
open Go Go.RowKit
variable {N:Nm}{E:Env}{k:Nat}{b:FuncId}{a:Func}
def SP(b:Func)(a:PFunc)(vs:List Tmp):Bool:=decide (a.params<20)&&decide vs.Nodup&&vs.all (λt=>decide (t<b.ntmps))&&vs.length==a.nv&&decide (a.params<=a.nv)&&vs.take a.params==List.range a.params
def yOf(d:Func)(a:FuncId)(j:Nat)(b:List Tmp):Option YL:=(d.body.bind λc=>(Et c)[j]?).map λx=>⟨a,x.1,x.2.1,x.2.2,b,d.ntmps⟩
def LpsOK(N:Nm)(d:Func)(b:FuncId)(a:List (Array Tmp)):List (Array Tmp×Nat×List Tmp)->Prop|[]=>True|x::c=>(∃j,N.yl x.2.1=yOf d b j x.2.2/\a[j]?=some x.1)/\LpsOK N d b a c
theorem LpsOK.mem{c:List (Array Tmp)}:∀{l:List (Array Tmp×Nat×List Tmp)},LpsOK N a b c l->∀x∈l,∃j,N.yl x.2.1=yOf a b j x.2.2/\c[j]?=some x.1|[],_,x,hx=>by simp at hx|y::l,h,x,hx=>by rcases ay.1 hx with rfl|hx;{exact h.1};exact LpsOK.mem h.2 x hx
theorem L6 {pf:PFunc}{fid:FuncId}(O:List Tmp)(o:Opts)(fn:List (Array Tmp))(P:E.P.funcs[fid]?=some a)(h:(a.body.map (λc=>EO (E.opt o) a.ntmps O c),IJ E.P o.kp O a.results.toList,SP a pf O,a.body.map λc=>(Et c).map (·.1))=(some pf.code,some pf.results,true,some fn))(Q:a.name≠ "runtime.NumGoroutine")(l:fn.Nodup)(D:LpsOK N a fid fn o.lps)(f:N.fn k=fid:=by rfl)(C:N.yl k=none:=by rfl)(H:pf.code.isRound=false:=by rfl)(R:pf.prim=none:=by rfl)(S:pf.defer=none:=by rfl):FnS E N k pf:=by simp only[al]at h;obtain⟨L,T,e,g⟩:=h;simp[SP]at e;obtain⟨⟨⟨⟨⟨J,K⟩,y⟩,G⟩,t⟩,x⟩:=e;refine .inl ⟨C,H,J,.inl ⟨R,S,a,O,by rw[f];exact P,Q,K,y,G,t,?_,o,L,.inr ?_,T⟩⟩;{intro i hi;(have:(O.take pf.params)[i]?=some i:=by rw[x];simp[hi]);rwa[eO,aj hi]at this};intro c p I M vars A z v n;obtain⟨j,s,F⟩:=D.mem _ A;rw[p]at g;cases g;obtain⟨i,hi⟩:=c9.1 v;(have B:i=j:=by(have w:((Et c).map (·.1))[i]?=some I:=by simp[hi,n]);obtain⟨m,d⟩:=ae.1 w;obtain⟨q,r⟩:=ae.1 F;refine eT λu=>?_;rcases Nat.lt_or_gt_of_ne u with b|b;{exact List.pairwise_iff_getElem.1 l i j m q b (d.trans r.symm)};exact List.pairwise_iff_getElem.1 l j i q m b (r.trans d.symm));subst B;rw[f];simp at s;rw[s];simp[yOf,p,hi,n]
theorem fnS {pf:PFunc}{fid:FuncId}(r:List Tmp)(o:Opts)(t:E.P.funcs[fid]?=some a)(h:(a.body.map (λc=>EO (E.opt o) a.ntmps r c),IJ E.P o.kp r a.results.toList,SP a pf r)=(some pf.code,some pf.results,true):=by kernel_rfl)(u:a.name≠ "runtime.NumGoroutine":=by decide)(e:o.lps=[]:=by rfl)(g:N.fn k=fid:=by rfl)(d:N.yl k=none:=by rfl)(j:pf.code.isRound=false:=by rfl)(v:pf.prim=none:=by rfl)(w:pf.defer=none:=by rfl):FnS E N k pf:=by simp only[al]at h;obtain⟨q,x,s⟩:=h;simp[SP]at s;obtain⟨⟨⟨⟨⟨l,p⟩,n⟩,f⟩,b⟩,m⟩:=s;refine .inl ⟨d,j,l,.inl ⟨v,w,a,r,by rw[g];exact t,u,p,n,f,b,?_,o,q,.inl e,x⟩⟩;intro i hi;(have:(r.take pf.params)[i]?=some i:=by rw[m];simp[hi]);rwa[eO,aj hi]at this
def e1w(f:Nat)(e:PFunc)(d:List Tmp)(c:Array Tmp)(vs:List Tmp)(a b:PC):Bool:=a.RO&&b.RO&&decide vs.Nodup&&vs.all (λt=>decide (t<f))&&vs.length==e.nv&&e.params==1+(d.length+c.size)&&vs.take (d.length+c.size)==d++c.toList
theorem rdS {pf:PFunc}{fid:FuncId}(vars x:List Tmp)(o:Opts)(j:Nat)(e:Array Tmp){y b:PC}(i:pf.code=.round y b)(A:E.P.funcs[fid]?=some a)(h:((a.body.bind λc=>(Et c)[j]?).map λz=>(z.1,EO (E.opt o) a.ntmps x z.2.1,EO (E.opt o) a.ntmps x z.2.2))=some (e,y,b))(f:e1w a.ntmps pf vars e x y b=true)(B:a.name≠ "runtime.NumGoroutine")(s:N.yl k=yOf a fid j vars:=by rfl)(m:N.fn k=fid:=by rfl)(t:o.lps=[]:=by rfl)(C:pf.prim=none:=by rfl)(D:pf.defer=none:=by rfl):FnS E N k pf:=by simp only[ab,af,al]at h;obtain⟨z,⟨c,d,n⟩,rfl,F,l⟩:=h;simp[e1w]at f;obtain⟨⟨⟨⟨⟨⟨v,w⟩,q⟩,u⟩,g⟩,p⟩,r⟩:=f;refine .inr ⟨⟨fid,_,_,_,vars,a.ntmps⟩,a,x,o,y,b,⟨by rw[s];simp[yOf,d,n],i,v,w,C,D,A,m,B,by simp[d],q,u,g,p,r,t,F,l⟩⟩
def AllFn(E:Env)(N:Nm):Nat->List (Option PFunc)->Prop|_,[]=>True|n,none::a=>AllFn E N (n+1) a|n,some f::a=>FnS E N n f/\AllFn E N (n+1) a
theorem AllFn.get :∀{b:List (Option PFunc)}{n:Nat},AllFn E N n b->∀{k:Nat}{f:PFunc},b[k]?.join=some f->FnS E N (n+k) f|[],n,_,k,f,a=>by simp at a|o::b,n,h,0,f,a=>by simp at a;subst a;exact h.1|o::b,n,h,k+1,f,a=>by(have c:AllFn E N (n+1) b:=by cases o with|none=>exact h|some g=>exact h.2);have:=AllFn.get c (a);rwa[show n+1+k=n+(k+1)by omega]at this
end PI
namespace PI
open Go(IntKind BinOp UnOp)
variable {L:LsT}{Q:QsT}{V l:VsT}{g:Nat}{h:HsT}{f:PFunc}{r:PV×HsT}{a:Type}
def d4x:VsT->Option (List (List UInt8))|[]=>some []|.str s::r=>(d4x r).map (s::·)|_=>none
def e8U(b:VsT)(h:HsT):Option (PV×HsT):=match b with|[.list _ es,.str sep]=>(d4x es).bind λa=>if a.length<=140737488355328/\(Go.Lib.join a sep).length<=140737488355328 then some (.str (Go.Lib.join a sep),h)else none|_=>none
def Rq(a:VsT)(h:HsT):Option (PV×HsT):=match a with|[.str s,.int .u8 c]=>some (.int .i64 (Go.Lib.indexByte s c.toNat.toUInt8),h)|_=>none
def NK(a:VsT)(h:HsT):Option (PV×HsT):=match a with|[.int .i64 n]=>if-9223372036854775808<=n/\n<=9223372036854775807 then some (.str (Go.Lib.itoa n),h)else none|_=>none
def LZ:VsT->Option (List Int)|[]=>some []|.int .i64 n::r=>(LZ r).map (n::·)|_=>none
def ins(c:a->a->Bool)(x:a):List a->List a|[]=>[x]|y::b=>if c x y then x::y::b else y::ins c x b
def Gp(c:a->a->Bool):List a->List a|[]=>[]|x::b=>ins c x (Gp c b)
theorem YF(c:a->a->Bool)(x:a):∀l,(ins c x l).Perm (x::l)|[]=>.refl _|y::b=>by unfold ins;split;{exact .refl _};exact((YF c x b).cons y).trans (.swap x y b)
theorem MW(c:a->a->Bool):∀l,(Gp c l).Perm l|[]=>.refl _|x::b=>(YF c x _).trans ((MW c b).cons x)
theorem c0A{le:a->a->Bool}(i:∀e b c,le e b=true->le b c=true->le e c=true)(k:∀e b,(le e b||le b e)=true)(x:a):∀l,l.Pairwise (λe b=>le e b=true)->(ins le x l).Pairwise (λe b=>le e b=true)|[],_=>by simp[ins]|y::f,h=>by unfold ins;split;{grind[List.pairwise_cons]};rename_i g;(have j:le y x=true:=by have:=k x y;simp[g]at this;exact this);refine eL.2 ⟨λz d=>?_,c0A i k x f (eL.1 h).2⟩;rcases ay.1 ((YF le x f).mem_iff.1 d)with rfl|d;{exact j};exact(eL.1 h).1 z d
theorem b6X{le:a->a->Bool}(d:∀e b c,le e b=true->le b c=true->le e c=true)(g:∀e b,(le e b||le b e)=true):∀l,(Gp le l).Pairwise (λe b=>le e b=true)|[]=>.nil|x::f=>c0A d g x _ (b6X d g f)
theorem c63{le:a->a->Bool}(e:∀d b c,le d b=true->le b c=true->le d c=true)(g:∀d b,(le d b||le b d)=true)(f:∀d b,le d b=true->le b d=true->d=b)(l:List a):Gp le l=l.mergeSort le:=List.Perm.eq_of_pairwise (by grind) (b6X e g l) (List.pairwise_mergeSort e g l) ((MW le l).trans (List.mergeSort_perm l le).symm)
def M0(x y:Int):Bool:=decide (x<=y)
theorem d07(i:List Int):Gp M0 i=i.mergeSort λx y=>decide (x<=y):=c63 (λa b c d e=>by grind[M0]) (λa b=>by simp[M0];omega) (λa b d e=>by grind[M0]) i
def MK(c:VsT)(h:HsT):Option (PV×HsT):=match c with|[.rowp n 1 false len]=>(match h[n]? with|some (.cells a)=>if len<=a.length/\len<4611686018427387904 then(LZ (a.take len)).map λb=>(.tuple [],h.set n (.cells ((Gp M0 b).map (.int .i64 ·)++a.drop len)))else none|_=>none)|[.list _ []]=>some (.tuple [],h)|_=>none
def K3:VsT->Option (List (Int×Int))|[]=>some []|.int .i64 a::.int .i64 b::r=>(K3 r).map ((a,b)::·)|_=>none
def DQ(x:Int×Int):VsT:=[.int .i64 x.1,.int .i64 x.2]
def FS(x y:Int×Int):Bool:=decide (x.1<y.1\/x.1=y.1/\x.2<=y.2)
theorem c8o(i:List (Int×Int)):Gp FS i=i.mergeSort FS:=c63 (λa b c d e=>by grind[FS]) (λa b=>by simp[FS];omega) (λa b d e=>by grind[FS,Prod.ext]) i
def KM(c:Nat)(d:VsT)(h:HsT):Option (PV×HsT):=match d with|[.rowp n 2 true len,.func k [] []]=>(match h[n]? with|some (.cells a)=>if k=c/\len*2<=a.length/\len<4611686018427387904 then(K3 (a.take (len*2))).map λb=>(.tuple [],h.set n (.cells ((Gp FS b).flatMap DQ++a.drop (len*2))))else none|_=>none)|[.list _ [],_]=>some (.tuple [],h)|_=>none
section
variable {cf:CU}{V l:VsT}{g:Nat}{h:HsT}{L:LsT}
theorem e8W(i:Nat):raw ⟨V,l,g,h⟩ (.v i)=V[i]?:=rfl
theorem e8X(i:Nat):raw ⟨V,l,g,h⟩ (.l i)=l[i]?:=rfl
theorem e8Y(p:PV):raw ⟨V,l,g,h⟩ (.c p)=some p:=rfl
attribute [simp] e8W e8X e8Y
theorem e8Z(x:PX):rd ⟨V,l,g,h⟩ x=match raw ⟨V,l,g,h⟩ x with|some v=>cp v|none=>none:=by simp[rd];cases raw _ x<;>rfl
theorem e4b(b:Bool):cp (.bool b)=some (.bool b):=rfl
theorem e2r(b:Bool):dem (.bool b)=.bool b:=rfl
theorem e4R(k:IntKind)(n:Int):cp (.int k n)=some (.int k n):=rfl
theorem e4c(k:IntKind)(n:Int):dem (.int k n)=.int k n:=rfl
theorem e4S(s:List UInt8):cp (.str s)=some (.str s):=rfl
theorem e4d(s:List UInt8):dem (.str s)=.str s:=rfl
theorem e4T(a:VsT):cp (.agg a)=some (.agg a):=rfl
theorem e4e(cs:VsT):dem (.agg cs)=.agg cs:=rfl
theorem e2s(a:VsT):cp (.tuple a)=some (.tuple a):=rfl
theorem e0K(vs:VsT):dem (.tuple vs)=.tuple vs:=rfl
theorem e0L:cp (.nilptr)=some (.nilptr):=rfl
theorem d7X:dem (.nilptr)=.nilptr:=rfl
theorem e4f(a:VsT):cp (.cptr a)=some (.cptr a):=rfl
theorem e2t(cs:VsT):dem (.cptr cs)=.cptr cs:=rfl
theorem e4U(n o:Nat):cp (.ptr n o)=some (.ptr n o):=rfl
theorem e4g(n o:Nat):dem (.ptr n o)=.ptr n o:=rfl
theorem e4V(n:Option Nat):cp (.map n)=some (.map n):=rfl
theorem e4h(n:Option Nat):dem (.map n)=.map n:=rfl
theorem e4i(k:Nat)(a b:VsT):cp (.func k a b)=some (.func k a b):=rfl
theorem e2u(k:Nat)(a b:VsT):dem (.func k a b)=.func k a b:=rfl
theorem e2v(t:Nat)(v:PV):cp (.iface t v)=some (.iface t v):=rfl
theorem e0M(t:Nat)(v:PV):dem (.iface t v)=.iface t v:=rfl
theorem e4j:cp (.nils)=some (.nils):=rfl
theorem e2w:dem (.nils)=.nils:=rfl
theorem e4k:cp (.void)=some (.void):=rfl
theorem e2x:dem (.void)=.void:=rfl
theorem e4l(o:Bool)(a:VsT):cp (.list o a)=some (.list false a):=rfl
theorem e2y(o:Bool)(es:VsT):dem (.list o es)=.list false es:=rfl
theorem e4m(n b:Nat)(a:Bool)(k:Nat):cp (.rowp n b a k)=some (.rowp n b a k):=rfl
theorem e2z(n b:Nat)(a:Bool)(k:Nat):dem (.rowp n b a k)=.rowp n b a k:=rfl
theorem c3T(n b:Nat)(a:Bool)(k:Nat):Gy (.rowp n b a k)=some n:=rfl
theorem e0N(b:Bool):Gy (.bool b)=none:=rfl
theorem e2A(k:IntKind)(n:Int):Gy (.int k n)=none:=rfl
theorem e2B(s:List UInt8):Gy (.str s)=none:=rfl
theorem e2C(n o:Nat):Gy (.ptr n o)=none:=rfl
theorem e2D(n:Option Nat):Gy (.map n)=none:=rfl
theorem e0O(k:Nat)(a b:VsT):Gy (.func k a b)=none:=rfl
theorem d7Y(t:Nat)(v:PV):Gy (.iface t v)=none:=rfl
theorem e0P:Gy (.nils)=none:=rfl
theorem e0Q(o:Bool)(a:VsT):Gy (.list o a)=none:=rfl
theorem e0R(b:Bool):Dn (.bool b)=true:=rfl
theorem e2E(k:IntKind)(n:Int):Dn (.int k n)=true:=rfl
theorem e2F(s:List UInt8):Dn (.str s)=true:=rfl
theorem e2G(cs:VsT):Dn (.agg cs)=Dd cs:=rfl
theorem d7Z(vs:VsT):Dn (.tuple vs)=Dd vs:=rfl
theorem e0S(cs:VsT):Dn (.cptr cs)=Dd cs:=rfl
theorem e0T(k:Nat)(a b:VsT):Dn (.func k a b)=(Dd a&&Dd b):=rfl
theorem e0U:Dn (.nils)=true:=rfl
theorem e0V(o:Bool)(es:VsT):Dn (.list o es)=Dd es:=rfl
theorem d6O(k:EK)(x y:PV):peq false [k] x y=Gh k x y:=rfl
theorem d6P(a:List EK)(c b:VsT):peq true a (.agg c) (.agg b)=FN a c b:=rfl
attribute [simp] e8Z e4b e2r e4R e4c e4S e4d e4T e4e e2s e0K e0L d7X e4f e2t e4U e4g e4V e4h e4i e2u e2v e0M e4j e2w e4k e2x e4l e2y e4m e2z c3T e0N e2A e2B e2C e2D e0O d7Y e0P e0Q e0R e2E e2F e2G d7Z e0S e0T e0U e0V d6O d6P
def tkv:PV->Option (PV×Bool)|.list true es=>some (.list true es,true)|v=>match cp v with|some u=>some (u,false)|none=>none
theorem e2H(b:Bool):tkv (.bool b)=some (.bool b,false):=rfl
theorem e4n(k:IntKind)(n:Int):tkv (.int k n)=some (.int k n,false):=rfl
theorem e4o(s:List UInt8):tkv (.str s)=some (.str s,false):=rfl
theorem e4p(a:VsT):tkv (.agg a)=some (.agg a,false):=rfl
theorem d70:tkv (.nilptr)=some (.nilptr,false):=rfl
theorem e4q(n o:Nat):tkv (.ptr n o)=some (.ptr n o,false):=rfl
theorem e4r(n:Option Nat):tkv (.map n)=some (.map n,false):=rfl
theorem e2I(k:Nat)(a b:VsT):tkv (.func k a b)=some (.func k a b,false):=rfl
theorem d6Q:tkv (.nilfunc)=some (.nilfunc,false):=rfl
theorem e0W(t:Nat)(v:PV):tkv (.iface t v)=some (.iface t v,false):=rfl
theorem d4B:tkv (.nilIface)=some (.nilIface,false):=rfl
theorem e2J:tkv (.nils)=some (.nils,false):=rfl
theorem e4s(a:VsT):tkv (.list true a)=some (.list true a,true):=rfl
theorem e2K(a:VsT):tkv (.list false a)=some (.list false a,false):=rfl
theorem e2L(n b:Nat)(a:Bool)(k:Nat):tkv (.rowp n b a k)=some (.rowp n b a k,false):=rfl
theorem e80(x:PX):tk ⟨V,l,g,h⟩ x=match raw ⟨V,l,g,h⟩ x with|some v=>(match tkv v with|some (u,true)=>some (u,Gl ⟨V,l,g,h⟩ x (dem v))|some (u,false)=>some (u,⟨V,l,g,h⟩)|none=>none)|none=>none:=by unfold tk;cases raw _ x with|none=>rfl|some v=>cases v with|list ow es=>cases ow<;>rfl|_=>rfl
attribute [simp] e2H e4n e4o e4p d70 e4q e4r e2I d6Q e0W d4B e2J e4s e2K e2L e80
def Hj:PV->Option (VsT)|.agg a=>some a|_=>none
theorem d4C(cs:VsT):Hj (.agg cs)=some cs:=rfl
theorem e2M(a:VsT):F9 (.agg a)=.agg (a.map dem):=rfl
theorem e0X(b:Bool):F9 (.bool b)=.bool b:=rfl
theorem e2N(k:IntKind)(n:Int):F9 (.int k n)=.int k n:=rfl
theorem e2O(s:List UInt8):F9 (.str s)=.str s:=rfl
theorem e0Y(o:Bool)(es:VsT):F9 (.list o es)=.list false es:=rfl
theorem d3D(n:Nat)(b:VsT)(a:Nat)(v:PV):DG n true b a v=match Hj v with|some vs=>if vs.length=n/\a+n<=b.length then some (b.take a++(vs++b.drop (a+n)))else none|none=>none:=by cases v<;>rfl
theorem d3E(n:Nat)(b:VsT)(a:Nat)(v:PV):DG n false b a v=if a<b.length/\v.flat=true then some (b.set a v)else none:=rfl
attribute [simp] d4C e2M e0X e2N e2O e0Y d3D d3E
def YU(h:HsT):PV->Option PV|.rowp n sz agg len=>if agg=true\/sz=1 then(match h[n]? with|some (.cells a)=>(match EY sz agg a len 0 with|some es=>some (.list false es)|none=>none)|_=>none)else none|_=>none
@[simp] theorem c3U(h:HsT)(n c b:Nat)(a:Bool):YU h (.rowp n c a b)=if a=true\/c=1 then(match h[n]? with|some (.cells cs)=>(match EY c a cs b 0 with|some es=>some (.list false es)|none=>none)|_=>none)else none:=rfl
def J0:PV->PV|.nils=>.list false []|v=>v
theorem e0Z:J0 .nils=.list false []:=rfl
theorem e00(b:Bool):J0 (.bool b)=.bool b:=rfl
theorem e2P(k:IntKind)(n:Int):J0 (.int k n)=.int k n:=rfl
theorem e2Q(s:List UInt8):J0 (.str s)=.str s:=rfl
theorem e2R(n o:Nat):J0 (.ptr n o)=.ptr n o:=rfl
theorem e2S(n:Option Nat):J0 (.map n)=.map n:=rfl
theorem e01(k:Nat)(a b:VsT):J0 (.func k a b)=.func k a b:=rfl
theorem d71(t:Nat)(v:PV):J0 (.iface t v)=.iface t v:=rfl
theorem e02(o:Bool)(es:VsT):J0 (.list o es)=.list o es:=rfl
attribute [simp] e0Z e00 e2P e2Q e2R e2S e01 d71 e02
@[simp] theorem d3F(i:Nat):Hb ⟨V,l,g,h⟩ (.keep i)=match V[i]? with|some v=>cp v|none=>none:=by simp[Hb];cases V[i]?<;>rfl
@[simp] theorem d4D(V:VsT)(i:Nat)(a:List PRes)(h:HsT):DE V (.keep i::a) h=DE V a h:=rfl
theorem d4E(i:Nat):Hb ⟨V,l,g,h⟩ (.var i)=match V[i]? with|some v=>(match Gy v with|some _=>YU h v|none=>(match tkv v with|some (u,_)=>some (J0 u)|none=>none))|none=>none:=by simp[Hb];cases V[i]? with|none=>rfl|some v=>cases v with|list ow es=>cases ow<;>rfl|rowp n sz agg len=>grind[c3T,c3U,Dz,EY]|_=>rfl
theorem d72:JE []=[]:=rfl
theorem d6R(p:PV)(a:VsT):JE (p::a)=match Gy p with|some n=>n::JE a|none=>JE a:=by cases p<;>rfl
theorem e03(h:HsT):Jf [] h=h:=rfl
theorem d6S(V:VsT)(h:HsT):DE V [] h=h:=rfl
attribute [simp] d4E d72 d6R e03 d6S
@[simp] theorem d4F(V:VsT)(i n:Nat)(a:Bool)(b:List PRes)(h:HsT):DE V (.cell i n a::b) h=match V[i]? with|some (.loc _ cs)=>DE V b (Jf (JE cs) h)|_=>DE V b h:=by simp[DE,Jg];cases V[i]? with|none=>rfl|some v=>cases v<;>rfl
@[simp] theorem d6T(V:VsT)(i:Nat)(a:List PRes)(h:HsT):DE V (.var i::a) h=match V[i]? with|some v=>(match Gy v with|some n=>DE V a (h.set n .gone)|none=>DE V a h)|none=>DE V a h:=by simp[DE,Jg,Vq];cases V[i]? with|none=>rfl|some v=>cases v<;>rfl
@[simp] theorem e04(h:HsT):Ib h []=some []:=rfl
@[simp] theorem d73(h:HsT)(p:PV)(a:VsT):Ib h (p::a)=match Gy p with|some _=>(match YU h p with|some q=>(match Ib h a with|some qs=>some (q::qs)|none=>none)|none=>none)|none=>(match Ib h a with|some qs=>some (p::qs)|none=>none):=by simp[Ib];cases p with|rowp n sz agg len=>grind[c3T,c3U,Iw,EY,Ib]|_=>cases Ib h a<;>rfl
@[simp] theorem e2T(h:HsT)(a:VsT):HS h (.agg a)=match Ib h a with|some qs=>some (.agg qs)|none=>none:=by simp[HS];cases Ib h a<;>rfl
@[simp] theorem d3G(i n:Nat)(a:Bool):Hb ⟨V,l,g,h⟩ (.cell i n a)=match V[i]? with|some (.loc _ cs)=>(match C8 n a cs 0 with|some v=>HS h v|none=>none)|some (.ptr m 0)=>(match Dz ⟨V,l,g,h⟩ m with|some cs=>C8 n a cs 0|none=>none)|_=>none:=by simp[Hb];cases V[i]? with|none=>rfl|some v=>cases v with|loc g cs=>simp;cases C8 n a cs 0<;>rfl|ptr m off=>(cases off with|zero=>simp;cases Dz _ m<;>rfl|succ off=>rfl)|_=>rfl
attribute [simp]addr rdInt Gl Dd Oa Ob unv bound Gh LJ
@[simp] theorem e05(a:St):rdAll a []=some []:=rfl
@[simp] theorem d74(x:PX)(a:List PX):rdAll ⟨V,l,g,h⟩ (x::a)=match rd ⟨V,l,g,h⟩ x with|some v=>(match rdAll ⟨V,l,g,h⟩ a with|some vs=>some (v::vs)|none=>none)|none=>none:=by simp only[rdAll];cases rd _ x<;>simp;cases rdAll _ a<;>rfl
@[simp] theorem d6U(a:St):rdElems a []=some []:=rfl
@[simp] theorem d4G(i:Nat)(x:PX)(a:List (Nat×PX)):rdElems ⟨V,l,g,h⟩ ((i,x)::a)=match rd ⟨V,l,g,h⟩ x with|some v=>(match rdElems ⟨V,l,g,h⟩ a with|some vs=>some ((i,v)::vs)|none=>none)|none=>none:=by simp only[rdElems];cases rd _ x<;>simp;cases rdElems _ a<;>rfl
@[simp] theorem d6V(a:St):rdParts a []=some []:=rfl
theorem d4H(i s:Nat)(x:PX)(a:List (Nat×Nat×PX)):rdParts ⟨V,l,g,h⟩ ((i,s,x)::a)=match rd ⟨V,l,g,h⟩ x with|some v=>(match rdParts ⟨V,l,g,h⟩ a with|some vs=>some ((i,s,v)::vs)|none=>none)|none=>none:=by simp only[rdParts];cases rd _ x<;>simp;cases rdParts _ a<;>rfl
theorem e81(i j:Nat)(v:PV):put ⟨V,l,g,h⟩ j (.v i) v=⟨V.set i v,l,g,h⟩:=rfl
theorem e82(j:Nat)(v:PV):put ⟨V,l,g,h⟩ j .l v=⟨V,l.set j v,g,h⟩:=rfl
theorem e83(j:Nat)(v:PV):put ⟨V,l,g,h⟩ j .n v=⟨V,l,g,h⟩:=rfl
theorem d75(a:List PO):Id cf a ⟨V,l,g,h⟩=Fu cf 0 a ⟨V,List.replicate a.length .dead,g,h⟩:=rfl
theorem d4I(j:Nat)(st:St):Fu cf j [] st=some st:=rfl
attribute [simp] d4H e81 e82 e83 d75 d4I
@[simp] theorem d3H(j:Nat)(d:PD)(o:POp)(a:List PO):Fu cf j (⟨d,o,none⟩::a) ⟨V,l,g,h⟩=match opv cf o ⟨V,l,g,h⟩with|some (v,st)=>Fu cf (j+1) a (put st j d v)|none=>none:=by simp[Fu,Dj];cases opv cf o _<;>rfl
@[simp] theorem d1K(j:Nat)(d:PD)(o:POp)(x:PX)(a:Bool)(c:List PO):Fu cf j (⟨d,o,some (x,a)⟩::c) ⟨V,l,g,h⟩=match rd ⟨V,l,g,h⟩ x with|some (.bool b)=>if b=a then(match opv cf o ⟨V,l,g,h⟩with|some (v,st)=>Fu cf (j+1) c (put st j d v)|none=>none)else Fu cf (j+1) c (put ⟨V,l,g,h⟩ j d (.tuple []))|some (.tuple [])=>Fu cf (j+1) c (put ⟨V,l,g,h⟩ j d (.tuple []))|_=>none:=by simp only[Fu,Dj];cases rd _ x with|none=>rfl|some v=>(cases v<;>try rfl);(next b=>by_cases hb:b=a;{simp[aj hb];cases opv cf o _<;>rfl};simp only[ak hb];rfl);rename_i e;cases e<;>rfl
def sv(r:Option PV)(a:St):Option (PV×St):=match r with|some v=>some (v,a)|none=>none
@[simp] theorem e4u(v:PV)(a:St):sv (some v) a=some (v,a):=rfl
theorem Js(r:Option PV)(st:St):r.map (·,st)=sv r st:=by cases r<;>rfl
@[simp] theorem e4v(x:PX):opv cf (.mov x) ⟨V,l,g,h⟩=sv (rd ⟨V,l,g,h⟩ x) ⟨V,l,g,h⟩:=Js _ _
@[simp] theorem e2U(x:PX):opv cf (.take x) ⟨V,l,g,h⟩=match raw ⟨V,l,g,h⟩ x with|some v=>(match tkv v with|some (u,true)=>some (u,Gl ⟨V,l,g,h⟩ x (dem v))|some (u,false)=>some (u,⟨V,l,g,h⟩)|none=>none)|none=>none:=by simp[opv]
theorem e2V(c a b:PX):opv cf (.pick c a b) ⟨V,l,g,h⟩=match rd ⟨V,l,g,h⟩ c with|some (.bool t)=>sv (rd ⟨V,l,g,h⟩ (if t then a else b)) ⟨V,l,g,h⟩|_=>none:=by simp[opv,Js];rfl
theorem d76(z:VsT):opv cf (.newloc z) ⟨V,l,g,h⟩=some (.loc g z,⟨V,l,g+1,h⟩):=rfl
theorem d77(s:Nat)(x:PX):opv cf (.boxloc s x) ⟨V,l,g,h⟩=match rd ⟨V,l,g,h⟩ x with|some v=>if v.cells.length=s then some (.loc g (v.cells.map dem),⟨V,l,g+1,h⟩)else none|none=>none:=rfl
attribute [simp] e2V d76 d77
@[simp] theorem d6W(s:Nat)(z:PV)(n:Nat)(a:List (Nat×PX)):opv cf (.mkslice s z n a) ⟨V,l,g,h⟩=match rdElems ⟨V,l,g,h⟩ a with|some es=>(match IT s (List.replicate n z) es with|some es=>some (.list true es,⟨V,l,g,h⟩)|none=>none)|none=>none:=by simp[opv];cases rdElems _ a<;>simp;rename_i es;cases IT s _ es<;>rfl
@[simp] theorem e06(z:VsT)(a:List (Nat×Nat×PX)):opv cf (.build z a) ⟨V,l,g,h⟩=match rdParts ⟨V,l,g,h⟩ a with|some es=>(match Gx z es with|some cs=>some (.agg cs,⟨V,l,g,h⟩)|none=>none)|none=>none:=by simp[opv];cases rdParts _ a<;>simp;rename_i es;cases Gx z es<;>rfl
@[simp] theorem e2W(s:Nat)(d:Bool)(a:PX)(t:Bool):opv cf (.load s d a t) ⟨V,l,g,h⟩=match addr ⟨V,l,g,h⟩ a with|some (.cptr cs)=>sv (C8 s d cs 0) ⟨V,l,g,h⟩|some (.lptr b g0 off)=>(match V[b]? with|some (.loc c cs)=>if g0=c then match t&&!d,cs[off]? with|true,some (.list true es)=>some (.list true es,⟨V.set b (.loc g0 (cs.set off (.list false es))),l,g,h⟩)|_,_=>sv (C8 s d cs off) ⟨V,l,g,h⟩else none|_=>none)|_=>none:=by simp[opv,Js];rfl
theorem e07(s:Nat)(d:Bool)(a x:PX):opv cf (.store s d a x) ⟨V,l,g,h⟩=match addr ⟨V,l,g,h⟩ a,tk ⟨V,l,g,h⟩ x with|some (.lptr b g0 off),some (v,⟨V,l,g,h⟩)=>(match V[b]? with|some (.loc c cs)=>if g0=c then(match DG s d cs off v with|some cs=>some (.dead,⟨V.set b (.loc g0 cs),l,g,h⟩)|none=>none)else none|_=>none)|_,_=>none:=by simp only[opv];cases addr _ a with|none=>rfl|some p=>(cases p<;>try rfl);cases tk _ x with|none=>rfl|some r=>grind
theorem e08(a:Nat)(x:PX):opv cf (.faddr a x) ⟨V,l,g,h⟩=match addr ⟨V,l,g,h⟩ x with|some (.cptr cs)=>some (.cptr (cs.drop a),⟨V,l,g,h⟩)|some (.lptr s g0 o)=>some (.lptr s g0 (o+a),⟨V,l,g,h⟩)|some (.ptr n o)=>some (.ptr n (o+a),⟨V,l,g,h⟩)|_=>none:=rfl
theorem d78(s:Nat)(x i:PX):opv cf (.iaddrS s x i) ⟨V,l,g,h⟩=match rd ⟨V,l,g,h⟩ x,rdInt ⟨V,l,g,h⟩ i with|some (.list _ es),some n=>if 0<=n then match es[n.toNat]? with|some e=>if e.cells.length=s then some (.cptr e.cells,⟨V,l,g,h⟩)else none|none=>none else none|some (.rowp m sz _ len),some n=>if sz=s/\0<=n/\n<len then some (.ptr m (n.toNat*s),⟨V,l,g,h⟩)else none|some (.rows m sz _ off len),some n=>if sz=s/\0<=n/\n<len then some (.ptr m ((off+n.toNat)*s),⟨V,l,g,h⟩)else none|_,_=>none:=rfl
theorem d79(a s:Nat)(x i:PX):opv cf (.iaddrA a s x i) ⟨V,l,g,h⟩=match addr ⟨V,l,g,h⟩ x,rdInt ⟨V,l,g,h⟩ i with|some (.lptr b g0 o),some n=>if 0<=n/\n<a then some (.lptr b g0 (o+n.toNat*s),⟨V,l,g,h⟩)else none|some (.cptr cs),some n=>if 0<=n/\n<a then some (.cptr (cs.drop (n.toNat*s)),⟨V,l,g,h⟩)else none|_,_=>none:=rfl
theorem d4J(x i:PX):opv cf (.indexStr x i) ⟨V,l,g,h⟩=match rd ⟨V,l,g,h⟩ x,rdInt ⟨V,l,g,h⟩ i with|some (.str s),some n=>if 0<=n then match s[n.toNat]? with|some b=>some (.int .u8 b.toNat,⟨V,l,g,h⟩)|none=>none else none|_,_=>none:=rfl
attribute [simp] e07 e08 d78 d79 d4J
@[simp] theorem e4w(c:BinOp)(x y:PX):opv cf (.bin c x y) ⟨V,l,g,h⟩=match rd ⟨V,l,g,h⟩ x,rd ⟨V,l,g,h⟩ y with|some a,some b=>sv (JC c a b) ⟨V,l,g,h⟩|_,_=>none:=by simp[opv,Js];rfl
@[simp] theorem e4W(c e:Bool)(d:List EK)(x y:PX):opv cf (.eq c e d x y) ⟨V,l,g,h⟩=match rd ⟨V,l,g,h⟩ x,rd ⟨V,l,g,h⟩ y with|some a,some b=>(match peq e d a b with|some t=>some (.bool (if c then !t else t),⟨V,l,g,h⟩)|none=>none)|_,_=>none:=by simp only[opv];cases rd _ x with|none=>rfl|some a=>cases rd _ y with|none=>rfl|some b=>simp;cases peq e d a b<;>rfl
@[simp] theorem e4X(b:UnOp)(x:PX):opv cf (.un b x) ⟨V,l,g,h⟩=match rd ⟨V,l,g,h⟩ x with|some a=>sv (unv b a) ⟨V,l,g,h⟩|none=>none:=by simp[opv,Js];rfl
@[simp] theorem e2X(t:Nat)(x:PX):opv cf (.ifc true t x) ⟨V,l,g,h⟩=match rd ⟨V,l,g,h⟩ x with|some v=>some (.iface t v,⟨V,l,g,h⟩)|none=>none:=by simp only[opv];cases rd _ x<;>rfl
@[simp] theorem e2Y(t:Nat)(x:PX):opv cf (.ifc false t x) ⟨V,l,g,h⟩=match rd ⟨V,l,g,h⟩ x with|some (.iface t' v)=>if t'=t then some (dem v,⟨V,l,g,h⟩)else none|_=>none:=by simp only[opv];cases rd _ x with|none=>rfl|some v=>cases v<;>rfl
theorem d6X(i:Nat)(x:PX):opv cf (.extract i x) ⟨V,l,g,h⟩=match rd ⟨V,l,g,h⟩ x with|some (.tuple vs)=>(match vs[i]? with|some v=>sv (cp v) ⟨V,l,g,h⟩|none=>none)|_=>none:=by simp only[opv];cases rd _ x with|none=>rfl|some a=>(cases a<;>try rfl);rename_i vs;simp;cases vs[i]?<;>simp[Js]
theorem e4x(a:Bool)(x:PX):opv cf (.len a x) ⟨V,l,g,h⟩=match a,rd ⟨V,l,g,h⟩ x with|true,some (.str s)=>some (.int .i64 s.length,⟨V,l,g,h⟩)|false,some (.list _ es)=>some (.int .i64 es.length,⟨V,l,g,h⟩)|false,some (.rowp _ _ _ n)=>some (.int .i64 n,⟨V,l,g,h⟩)|false,some (.rows _ _ _ _ n)=>some (.int .i64 n,⟨V,l,g,h⟩)|false,some .nils=>some (.int .i64 0,⟨V,l,g,h⟩)|false,some .void=>some (.int .i64 0,⟨V,l,g,h⟩)|_,_=>none:=rfl
theorem e4y(x:PX):opv cf (.cap x) ⟨V,l,g,h⟩=match rd ⟨V,l,g,h⟩ x with|some .nils=>some (.int .i64 0,⟨V,l,g,h⟩)|_=>none:=rfl
attribute [simp] d6X e4x e4y
@[simp] theorem d8a(a:Bool)(b:List PX):opv cf (.minmax a b) ⟨V,l,g,h⟩=match rdAll ⟨V,l,g,h⟩ b with|some (v::vs)=>sv (LJ a v vs) ⟨V,l,g,h⟩|_=>none:=by simp[opv,Js];rfl
@[simp] theorem d8b(s b:Nat)(y x:PX):opv cf (.append s b y x) ⟨V,l,g,h⟩=match rd ⟨V,l,g,h⟩ x,tk ⟨V,l,g,h⟩ y with|some (.list _ xs),some (.list true es,st)=>if DN s es/\DN s xs/\((es.length+xs.length<=2147483648/\b<=16384)\/(es.length+xs.length<=9223372036854775807/\(es.length+xs.length)*b<=140737488355328))then some (.list true (es++xs),st)else none|some .nils,some (.list true es,st)=>if DN s es/\((es.length<=2147483648/\b<=16384)\/(es.length<=9223372036854775807/\es.length*b<=140737488355328))then some (.list true es,st)else none|some .void,some (.list true es,st)=>if DN s es/\((es.length<=2147483648/\b<=16384)\/(es.length<=9223372036854775807/\es.length*b<=140737488355328))then some (.list true es,st)else none|_,_=>none:=by simp only[opv];generalize tk _ y=q;rcases q with _|⟨v,st⟩;{simp};cases rd _ x with|none=>rfl|some p=>cases v with|list ow es=>(cases ow with|false=>simp|true=>cases p<;>first|rfl|grind[J7,DN,List.length_nil])|_=>cases p<;>rfl
theorem e09(s n:Nat)(e:Bool)(a:PX):opv cf (.loadv s n e a) ⟨V,l,g,h⟩=match addr ⟨V,l,g,h⟩ a with|some (.lptr d g1 off)=>(match V[s]? with|some (.loc c cs)=>if d=s/\g1=c then(match C8 n e cs off with|some u=>some (u,⟨V,l,g,h⟩)|none=>none)else none|_=>none)|_=>none:=by simp only[opv];cases addr _ a with|none=>rfl|some v=>(cases v<;>try rfl);cases V[s]? with|none=>rfl|some x=>(cases x<;>try rfl);simp;split;{split;(next b=>rw[b];rfl);rename_i b;rw[b];rfl};rfl
theorem e1a(k:Nat)(a:List PX):opv cf (.pcall k a) ⟨V,l,g,h⟩=match rdAll ⟨V,l,g,h⟩ a with|some vs=>if Dd vs then(match cf k vs []with|some (r,_)=>if Dn r then some (dem r,⟨V,l,g,h⟩)else none|none=>none)else none|none=>none:=rfl
theorem d8c(k:Nat)(b:List PX):opv cf (.pzcall k b) ⟨V,l,g,h⟩=match rdAll ⟨V,l,g,h⟩ b with|some vs=>if Dd vs then(match cf k vs []with|some (r,a)=>(if Dn (frz a r)then some (dem (frz a r),⟨V,l,g,h⟩)else none)|none=>none)else none|none=>none:=rfl
theorem d8d(k:Nat)(a:List PX):opv cf (.pcallx k a none) ⟨V,l,g,h⟩=match rdAll ⟨V,l,g,h⟩ a with|some vs=>if Dd vs then(match cf k (EQ none vs) []with|some (r,_)=>if Dn r then some (r,⟨V,l,g,h⟩)else none|none=>none)else none|none=>none:=rfl
attribute [simp] e09 e1a d8c d8d
theorem d6Y(k:Nat)(a:List PX)(i:Nat):opv cf (.pcallx k a (some i)) ⟨V,l,g,h⟩=match(match a[i]? with|some x=>tk ⟨V,l,g,h⟩ x|none=>none),rdAll ⟨V,l,g,h⟩ a with|some (v,st1),some vs=>if Dd (vs.set i v)/\i<vs.length then(match cf k (EQ (some i) (vs.set i v)) []with|some (r,_)=>if Dn r then some (r,st1)else none|none=>none)else none|_,_=>none:=by simp only[opv];cases a[i]?<;>rfl
theorem d8e(l:VsT):Gv none l=l.map dem:=rfl
theorem d8f(i:Nat)(l:VsT):Gv (some i) l=(l.map dem).set i (l.getD i .dead):=rfl
theorem e1b:D1 ⟨V,l,g,h⟩=⟨V,[],g,h⟩:=rfl
theorem d8g(a:List PO):EF cf a ⟨V,l,g,h⟩=if LK a then LL cf a ⟨V,l,g,h⟩else Id cf a ⟨V,l,g,h⟩:=rfl
attribute [simp] d6Y d8e d8f e1b d8g
attribute [simp]LK
@[simp] theorem c1L(a:List PO):evL L (.region a) ⟨V,l,g,h⟩=match EF (CH L) a ⟨V,l,g,h⟩with|some st=>some (.normal,D1 st)|none=>none:=by rw[c8x];cases EF _ a _<;>rfl
@[simp] theorem c1M(c:List PO)(x:PX)(a b:PC):evL L (.branch c x a b) ⟨V,l,g,h⟩=match EF (CH L) c ⟨V,l,g,h⟩with|some st=>(match rd st x with|some (.bool t)=>if t then evL L a (D1 st)else evL L b (D1 st)|_=>none)|none=>none:=by rw[c8y];cases EF _ c _ with|none=>rfl|some st=>simp;cases rd st x with|none=>rfl|some v=>(cases v<;>try rfl);rename_i t;cases t<;>rfl
@[simp] theorem e2Z(b:EA)(j:Nat)(a:St):El cf b j [] a=some (none,a):=rfl
noncomputable def PK(cf:CU)(a:EA)(j:Nat)(b:List PO):Option (Option PV×St)->Option (Option PV×St)|some (none,st)=>El cf a j b st|r=>r
@[simp] theorem e1c(a:EA)(j:Nat)(b:List PO)(st:St):PK cf a j b (some (none,st))=El cf a j b st:=rfl
@[simp] theorem d8h(b:EA)(j:Nat)(c:List PO)(v:PV)(a:St):PK cf b j c (some (some v,a))=some (some v,a):=rfl
theorem Sx(a:EA)(j:Nat)(o:PO)(b:List PO)(c:St):El cf a j (o::b) c=PK cf a (j+1) b (Ff cf a j o c):=by rfl
def Nu(j:Nat)(d:PD):Option (Out×HsT)->St->Option (Option PV×St)|some (.val r,a),st=>some (none,put {st with heap:=a} j d (dem r))|some (.boom v,a),st=>some (some v,{st with heap:=a})|none,_=>none
@[simp] theorem e20(j:Nat)(d:PD)(r:PV)(a:HsT):Nu j d (some (.val r,a)) ⟨V,l,g,h⟩=some (none,put ⟨V,l,g,a⟩ j d (dem r)):=rfl
@[simp] theorem e1d(j:Nat)(d:PD)(v:PV)(a:HsT):Nu j d (some (.boom v,a)) ⟨V,l,g,h⟩=some (some v,⟨V,l,g,a⟩):=rfl
theorem c5X(c:EA)(j k:Nat)(d:PD)(b:List PX):Ff cf c j ⟨d,.h (.bcall k b),none⟩ ⟨V,l,g,h⟩=match rdAll ⟨V,l,g,h⟩ b with|some vs=>Nu j d (c k vs h) ⟨V,l,g,h⟩|none=>none:=by simp[Ff];cases rdAll _ b with|none=>rfl|some vs=>simp;rcases c k vs h with _|⟨_|v,a⟩<;>rfl
theorem c3V(i:EA)(j:Nat)(x:PX)(d:PD)(e:List PX):Ff cf i j ⟨d,.h (.bcallv x e),none⟩ ⟨V,l,g,h⟩=match rd ⟨V,l,g,h⟩ x,rdAll ⟨V,l,g,h⟩ e with|some (.func k b a),some vs=>Nu j d (i k (b++vs++a) h) ⟨V,l,g,h⟩|_,_=>none:=by simp only[Ff];cases rd _ x with|none=>rfl|some f=>cases rdAll _ e with|none=>simp|some vs=>(cases f<;>try rfl);rename_i k b a;simp;rcases i k _ h with _|⟨_|v,c⟩<;>rfl
def e4z:Option St->Option (Option PV×St)|some st=>some (none,st)|none=>none
def Fl:POp->Bool|.h (.bcall ..)|.h (.bcallv ..)=>true|_=>false
theorem c0F(f:EA)(j:Nat)(d:PD)(e:POp)(a:Option (PX×Bool)){c:St}(i:Fl e=false):Ff cf f j ⟨d,e,a⟩ c=e4z (Dj cf j ⟨d,e,a⟩ c):=by(have b:Ff cf f j ⟨d,e,a⟩ c=(Dj cf j ⟨d,e,a⟩ c).map λc=>(none,c):=by cases e with|h o=>(cases o<;>first|rfl|simp[Fl]at i)|_=>rfl);rw[b];cases Dj cf j _ c<;>rfl
theorem e1e(x:PX):Fl (.mov x)=false:=id rfl
theorem d8j(x:PX):Fl (.take x)=false:=id rfl
theorem d8k(c a b:PX):Fl (.pick c a b)=false:=id rfl
theorem d6Z(a:VsT)(b:List (Nat×Nat×PX)):Fl (.build a b)=false:=id rfl
theorem d3I(c:Nat)(a:PV)(d:Nat)(b:List (Nat×PX)):Fl (.mkslice c a d b)=false:=id rfl
theorem d8l(b:Nat)(d:Bool)(a:PX)(c:Bool):Fl (.load b d a c)=false:=id rfl
theorem d60(a:Nat)(x:PX):Fl (.faddr a x)=false:=id rfl
theorem d4K(a:Nat)(x i:PX):Fl (.iaddrS a x i)=false:=id rfl
theorem d61(b:Bool)(a:Nat)(x:PX)(c d:Option PX):Fl (.slice b a x c d)=false:=id rfl
theorem e1f(a:BinOp)(x y:PX):Fl (.bin a x y)=false:=id rfl
theorem e21(a:UnOp)(x:PX):Fl (.un a x)=false:=id rfl
theorem e1g(a:Bool)(x:PX):Fl (.len a x)=false:=id rfl
theorem d4L(a:Bool)(b:List PX):Fl (.minmax a b)=false:=id rfl
theorem d62(k:Nat)(a:List PX):Fl (.pcall k a)=false:=id rfl
theorem d4M(b:Nat)(d:Bool)(a:PX)(c:Bool):Fl (.h (.load b d a c))=false:=id rfl
theorem d1L(d e a:Bool)(c:List EK)(b:PV)(m x:PX):Fl (.h (.lookup d e a c b m x))=false:=id rfl
theorem d1M(k:Nat)(b a:List PX):Fl (.h (.mkfunc k b a))=false:=id rfl
theorem d1N(x:PX):Fl (.h (.nilchk x))=false:=id rfl
theorem d3J(b:Nat)(c:Bool)(a:PX):Fl (.h (.loadc b c a))=false:=id rfl
theorem d3K(k:Nat)(a:List PX):Fl (.h (.rcall k a))=false:=id rfl
theorem d4N(k:Nat)(a:List PX):Fl (.h (.call k a))=false:=id rfl
attribute [simp] e1e d8j d8k d6Z d3I d8l d60 d4K d61 e1f e21 e1g d4L d62 d4M d1L d1M d1N d3J d3K d4N
@[simp] theorem e4A(b:EA)(j:Nat)(d:PD)(a:POp)(c:List PO)(e:Fl a=false):El cf b j (⟨d,a,none⟩::c) ⟨V,l,g,h⟩=match opv cf a ⟨V,l,g,h⟩with|some (v,st)=>El cf b (j+1) c (put st j d v)|none=>none:=by rw[Sx,c0F b j d a none e];simp[Dj];cases opv cf a _<;>rfl
theorem e22(c:EA)(j:Nat)(d:PD)(e:POp)(x:PX)(a:Bool)(f:List PO)(i:Fl e=false):El cf c j (⟨d,e,some (x,a)⟩::f) ⟨V,l,g,h⟩=match rd ⟨V,l,g,h⟩ x with|some (.bool b)=>if b=a then(match opv cf e ⟨V,l,g,h⟩with|some (v,st)=>El cf c (j+1) f (put st j d v)|none=>none)else El cf c (j+1) f (put ⟨V,l,g,h⟩ j d (.tuple []))|some (.tuple [])=>El cf c (j+1) f (put ⟨V,l,g,h⟩ j d (.tuple []))|_=>none:=by rw[Sx,c0F c j d e _ i];simp only[Dj];cases rd _ x with|none=>rfl|some v=>cases v with|bool b=>by_cases hw:b=a;{simp[hw];cases opv cf e _<;>rfl};simp only[hw];rfl|tuple vs=>cases vs<;>rfl|_=>rfl
theorem d8m(b:EA)(j k:Nat)(d:PD)(a:List PX)(c:List PO):El cf b j (⟨d,.h (.bcall k a),none⟩::c) ⟨V,l,g,h⟩=match rdAll ⟨V,l,g,h⟩ a with|some vs=>PK cf b (j+1) c (Nu j d (b k vs h) ⟨V,l,g,h⟩)|none=>none:=by rw[Sx,c5X];cases rdAll _ a<;>rfl
theorem d63(e:EA)(j:Nat)(x:PX)(d:PD)(c:List PX)(i:List PO):El cf e j (⟨d,.h (.bcallv x c),none⟩::i) ⟨V,l,g,h⟩=match rd ⟨V,l,g,h⟩ x,rdAll ⟨V,l,g,h⟩ c with|some (.func k b a),some vs=>PK cf e (j+1) i (Nu j d (e k (b++vs++a) h) ⟨V,l,g,h⟩)|_,_=>none:=by rw[Sx,c3V];cases rd _ x with|none=>rfl|some f=>cases rdAll _ c with|none=>cases f<;>rfl|some vs=>cases f<;>rfl
theorem d1O(a:List PO):evL L (.bregion a) ⟨V,l,g,h⟩=match El (CH L) (Df L) 0 a ⟨V,List.replicate a.length .dead,g,h⟩with|some (none,st)=>some (.normal,D1 st)|some (some v,st)=>some (.boom v,D1 st)|none=>none:=by rw[c5T];rfl
theorem d1P(c:List PO)(x:PX)(a b:PC):evL L (.bbranch c x a b) ⟨V,l,g,h⟩=match El (CH L) (Df L) 0 c ⟨V,List.replicate c.length .dead,g,h⟩with|some (none,st)=>(match rd st x with|some (.bool t)=>evL L (if t then a else b) (D1 st)|_=>none)|some (some v,st)=>some (.boom v,D1 st)|none=>none:=by rw[c5U];rfl
theorem d3L(a:St):Hv a []=some []:=rfl
attribute [simp] e22 d8m d63 d1O d1P d3L
@[simp] theorem d1Q(r:PRes)(a:List PRes):Hv ⟨V,l,g,h⟩ (r::a)=match Hb ⟨V,l,g,h⟩ r with|some v=>(match Hv ⟨V,l,g,h⟩ a with|some vs=>some (v::vs)|none=>none)|none=>none:=by simp[Hv];cases Hb _ r<;>simp;cases Hv _ a<;>rfl
def O4:VsT->PV|[v]=>v|vs=>.tuple (vs.map dem)
theorem e23(v:PV):O4 [v]=v:=rfl
theorem e24(v u:PV)(r:VsT):O4 (v::u::r)=.tuple ((v::u::r).map dem):=rfl
theorem e25:O4 []=.tuple []:=rfl
attribute [simp] e23 e24 e25
@[simp] theorem d8n(a:List PRes):Eq ⟨V,l,g,h⟩ a=match Hv ⟨V,l,g,h⟩ a with|some vs=>some (O4 vs)|none=>none:=by simp[Eq];cases Hv _ a<;>rfl
def J1(a:List PRes):Option (PExit×St)->Option (PV×HsT)|some (.normal,st)=>(match Eq st a with|some v=>some (v,DE st.vars a st.heap)|none=>none)|some (.ret,st)=>(match Eq st a with|some v=>some (v,DE st.vars a st.heap)|none=>none)|_=>none
attribute [simp]J1
theorem c1N{c:VsT}{d:HsT}(a:f.code.isRound=false)(b:J1 f.results (evL L f.code ⟨c.map dem++List.replicate (f.nv-f.params) .dead,[],0,d⟩)=some r):FZ (evL L) (Er L) f c d=some (.val r.1,r.2):=by unfold FZ;grind[PC.isRound,evL,dem,List.replicate,J1]
theorem b6Y{c:VsT}{d:HsT}(a:f.code.isRound=false)(b:J1 f.results (evL L f.code ⟨c.map dem++List.replicate (f.nv-f.params) .dead,[],0,d⟩)=some r):Fe (evL L) (Er L) f c d=some r:=by simp_all[Fe,Pt,c1N]
theorem c3W{k:Nat}{e:VsT}{i:HsT}{r}(j:L k=some f)(b:e.length=f.params)(d:J1 f.results (evL L f.code ⟨e.map dem++List.replicate (f.nv-f.params) .dead,[],0,i⟩)=some r)(m:f.split=false:=by rfl)(a:f.prim=none:=by rfl)(c:f.code.isRound=false:=by rfl):CH L k e i=some r:=by simp_all[Mp,DT,b6Y]
theorem Mq{k:Nat}{p:VsT->HsT->Option (PV×HsT)}{c:VsT}{d:HsT}(e:L k=some f)(b:c.length=f.params)(a:f.prim=some p):CH L k c d=match p (c.map dem) d with|some r=>some (dem r.1,r.2)|none=>none:=by grind[Mp,DT,dem]
theorem b9i{k:Nat}{i:VsT}{j:HsT}{r}(m:L k=some f)(b:i.length=f.params)(n:f.split=true)(d:vague (i.headD .dead)=false->J1 f.results (evL L f.code ⟨i.map dem++List.replicate (f.nv-f.params) .dead,[],0,j⟩)=some r)(e:vague (i.headD .dead)=true->J1 f.results (evL L f.code ⟨(.nils::i.tail).map dem++List.replicate (f.nv-f.params) .dead,[],0,j⟩)=some r/\J1 f.results (evL L f.code ⟨(.void::i.tail).map dem++List.replicate (f.nv-f.params) .dead,[],0,j⟩)=some r)(a:f.prim=none:=by rfl)(c:f.code.isRound=false:=by rfl):CH L k i j=some r:=by grind[Mp,DT,vague,Bool.false_eq_true,b6Y,Bool.and_self,IP]
theorem e4B(n:Nat):Dz ⟨V,l,g,h⟩ n=match h[n]? with|some (.cells cs)=>some cs|_=>none:=rfl
theorem e1i(n:Nat):D9 ⟨V,l,g,h⟩ (some n)=match h[n]? with|some (.map es)=>some es|_=>none:=rfl
theorem e4C(n:Nat)(o:PObj):Dc ⟨V,l,g,h⟩ n o=⟨V,l,g,h.set n o⟩:=rfl
attribute [simp] e4B e1i e4C
@[simp] theorem e4Y(i:Nat):GT ⟨V,l,g,h⟩ (.v i)=match V[i]? with|some (.loc _ cs)=>some (.cptr (cs.map dem),⟨V.set i (.cptr (cs.map dem)),l,g,h⟩)|some v=>sv (cp v) ⟨V,l,g,h⟩|none=>none:=by simp[GT];cases V[i]? with|none=>rfl|some v=>cases v<;>rfl
@[simp] theorem e4Z(i:Nat):GT ⟨V,l,g,h⟩ (.l i)=sv (rd ⟨V,l,g,h⟩ (.l i)) ⟨V,l,g,h⟩:=by simp[GT,Js]
@[simp] theorem e1j(a:St):EG a []=some ([],a):=rfl
theorem d8o(x:PX)(a:List PX):EG ⟨V,l,g,h⟩ (x::a)=match GT ⟨V,l,g,h⟩ x with|some (v,st)=>(match EG st a with|some (vs,st)=>some (v::vs,st)|none=>none)|none=>none:=by simp[EG];cases GT _ x with|none=>rfl|some r=>simp;cases EG _ a<;>rfl
theorem d8p(z:VsT):opv cf (.h (.newobj z)) ⟨V,l,g,h⟩=some (.ptr h.length 0,⟨V,l,g,h++[.cells z]⟩):=rfl
theorem d8q(z:VsT)(a:List (Nat×Nat×PX))(b:Nat)(x:PX):opv cf (.h (.buildT z a b x)) ⟨V,l,g,h⟩=match tk ⟨V,l,g,h⟩ x with|some (.list true es,st1)=>((rdParts ⟨V,l,g,h⟩ a).bind (Gx z)).bind λc=>if b<c.length then some (.fagg b (c.set b (.list false es)),st1)else none|_=>((rdParts ⟨V,l,g,h⟩ (a++[(b,1,x)])).bind (Gx z)).map λc=>(.agg c,⟨V,l,g,h⟩):=id rfl
theorem d4O(s:Nat)(x:PX):opv cf (.h (.boxfresh s x)) ⟨V,l,g,h⟩=match raw ⟨V,l,g,h⟩ x with|some (.fagg k cs)=>(match cs[k]? with|some (.list false es)=>if cs.length=s then some (.ptr h.length 0,{Gl ⟨V,l,g,h⟩ x (.agg cs)with heap:=h++[.cells (cs.set k (.list true es))]})else none|_=>none)|_=>match rd ⟨V,l,g,h⟩ x with|some v=>if v.cells.length=s then some (.ptr h.length 0,⟨V,l,g,h++[.cells v.cells]⟩)else none|none=>none:=id rfl
theorem d8r(s:Nat)(x:PX):opv cf (.h (.boxobj s x)) ⟨V,l,g,h⟩=match rd ⟨V,l,g,h⟩ x with|some v=>if v.cells.length=s then some (.ptr h.length 0,⟨V,l,g,h++[.cells v.cells]⟩)else none|none=>none:=rfl
attribute [simp] d8o d8p d8q d4O d8r
def PL(h:HsT):PV->Option (VsT)|.rowp n sz agg len=>if agg=true\/sz=1 then(match h[n]? with|some (.cells a)=>EY sz agg a len 0|_=>none)else none|p=>J7 p
@[simp] theorem d8s(o:Bool)(es:VsT):PL h (.list o es)=some es:=rfl
theorem d3M(x:PX):b72 ⟨V,l,g,h⟩ x=match rd ⟨V,l,g,h⟩ x with|some v=>PL h v|none=>none:=by grind[b72,rd,PL,Dz]
def EX(h:HsT)(c:Nat)(f:Bool)(d:Nat)(e:VsT)(v:PV)(i:St):Option (PV×St):=match v with|.rowp n sz b len=>(match h[n]? with|some (.cells a)=>if sz=c/\b=f/\len*c<=a.length/\DN c e/\len+e.length<=2147483648/\d<=16384 then some (.rowp h.length c f (len+e.length),{i with heap:=h.set n .gone++[.cells (a.take (len*c)++(e.flatMap PV.cells).map dem)]})else none|_=>none)|.list true []=>if e=[]then some (.list true [],i)else if DN c e/\e.length<=2147483648/\d<=16384 then some (.rowp h.length c f e.length,{i with heap:=h++[.cells ((e.flatMap PV.cells).map dem)]})else none|.nils=>if e=[]then some (.nils,i)else if DN c e/\e.length<=2147483648/\d<=16384 then some (.rowp h.length c f e.length,{i with heap:=h++[.cells ((e.flatMap PV.cells).map dem)]})else none|_=>none
theorem e26(s:Nat)(c:Bool)(b:Nat)(a x:PX):opv cf (.h (.happ s c b a x)) ⟨V,l,g,h⟩=match(match rd ⟨V,l,g,h⟩ x with|some v=>PL h v|none=>none),raw ⟨V,l,g,h⟩ a with|some xs,some v=>EX h s c b xs v ⟨V,l,g,h⟩|_,_=>none:=by simp only[opv,CM,d3M];cases(match rd _ x with|some v=>PL h v|none=>none)with|none=>rfl|some xs=>cases raw _ a with|none=>rfl|some v=>(cases v<;>try rfl);rename_i o d;(cases o<;>try rfl);cases d<;>rfl
theorem e1k(s:Nat)(c:Bool)(b:Nat)(z:VsT)(a x:PX):opv cf (.h (.happz s c b z a x)) ⟨V,l,g,h⟩=match rdInt ⟨V,l,g,h⟩ x,rd ⟨V,l,g,h⟩ a with|some n,some .nils=>if 0<n/\n<=2147483648/\b<=16384 then some (.rowp h.length s c n.toNat,⟨V,l,g,h++[.cells (List.replicate n.toNat (z.map dem)).flatten]⟩)else none|_,_=>none:=rfl
theorem d64(n d:Nat)(a:Bool)(b c:Nat):Od (.rows n d a b c)=some (n,d,b):=rfl
theorem d65(n c:Nat)(a:Bool)(b:Nat):Od (.rowp n c a b)=some (n,c,0):=rfl
attribute [simp] e26 e1k d64 d65
theorem e1l(s:Nat)(x:PX):opv cf (.h (.clear s x)) ⟨V,l,g,h⟩=match(match rd ⟨V,l,g,h⟩ x with|some v=>Od v|none=>none)with|some (n,sz,off)=>(match h[n]? with|some (.cells cs)=>if sz=s/\off*s<=cs.length then some (.dead,⟨V,l,g,h.set n (.cells (cs.take (off*s)))⟩)else none|_=>none)|_=>none:=by simp only[opv,CM];cases rd _ x with|none=>rfl|some v=>rfl
theorem d66(s:Nat)(a:Bool)(b:Nat)(z:VsT)(x:PX):opv cf (.h (.mkfresh s a b z x)) ⟨V,l,g,h⟩=match rdInt ⟨V,l,g,h⟩ x with|some n=>if 0<=n/\b*n<=281474976710656/\n<=9223372036854775807 then some (.fresh s a n.toNat (List.replicate n.toNat (z.map dem)).flatten,⟨V,l,g,h⟩)else none|none=>none:=rfl
theorem d8t(a:NsT)(z:VsT)(b:List (Nat×Nat×PX)):opv cf (.h (.buildA a z b)) ⟨V,l,g,h⟩=(adoptAll a ⟨V,l,g,h⟩).bind λc=>((rdParts c b).bind (Gx z)).map λd=>(.agg d,c):=rfl
theorem e1m(a:PX):opv cf (.h (.loadn a)) ⟨V,l,g,h⟩=match addr ⟨V,l,g,h⟩ a with|some (.ptr n off)=>((Dz ⟨V,l,g,h⟩ n).bind fun b=>match b[off]? with|some (.list true es)=>some (.list true es,Dc ⟨V,l,g,h⟩ n (.cells (b.set off (.list false es))))|some .nils=>some (.list true [],⟨V,l,g,h⟩)|_=>none)|_=>none:=rfl
theorem e1n(s:Nat)(b:Bool)(z:PV)(c:Nat)(a:List (Nat×PX)):opv cf (.h (.mkrow s b z c a)) ⟨V,l,g,h⟩=((rdElems ⟨V,l,g,h⟩ a).bind (IT s (List.replicate c z))).map λd=>(.rowp h.length s b d.length,⟨V,l,g,h++[.cells ((d.flatMap PV.cells).map dem)]⟩):=rfl
theorem e1o(s:Nat)(a:Bool)(b:Nat)(z:VsT)(x:PX):opv cf (.h (.mkarr s a b z x)) ⟨V,l,g,h⟩=match rdInt ⟨V,l,g,h⟩ x with|some n=>if 0<=n/\b*n<=281474976710656/\n<=9223372036854775807 then some (.rowp h.length s a n.toNat,⟨V,l,g,h++[.cells (List.replicate n.toNat z).flatten]⟩)else none|none=>none:=rfl
theorem e1p:opv cf (.h .mkmap) ⟨V,l,g,h⟩=some (.map (some h.length),⟨V,l,g,h++[.map []]⟩):=rfl
attribute [simp] e1l d66 d8t e1m e1n e1o e1p
@[simp] theorem e1q(s:Nat)(b:Bool)(a:PX)(t:Bool):opv cf (.h (.load s b a t)) ⟨V,l,g,h⟩=match addr ⟨V,l,g,h⟩ a with|some (.cptr cs)=>sv (C8 s b cs 0) ⟨V,l,g,h⟩|some (.ptr n off)=>(match h[n]? with|some (.cells cs)=>(match t&&!b,cs[off]? with|true,some (.list true es)=>some (.list true es,⟨V,l,g,h.set n (.cells (cs.set off (.list false es)))⟩)|_,_=>sv (C8 s b cs off) ⟨V,l,g,h⟩)|_=>none)|_=>none:=by simp only[opv,CM,Js];cases addr _ a with|none=>rfl|some p=>(cases p<;>try rfl);simp;rename_i n off;cases h[n]? with|none=>rfl|some o=>cases o<;>rfl
@[simp] theorem d67(s:Nat)(c:Bool)(a x:PX):opv cf (.h (.storer s c a x)) ⟨V,l,g,h⟩=match addr ⟨V,l,g,h⟩ a,rd ⟨V,l,g,h⟩ x with|some (.ptr n off),some v=>if Ia v then none else(match h[n]? with|some (.cells cs)=>(match DG s c cs off v with|some cs=>some (.dead,⟨V,l,g,h.set n (.cells cs)⟩)|none=>none)|_=>none)|_,_=>none:=by simp only[opv,CM];cases addr _ a with|none=>rfl|some p=>(cases p<;>try rfl);rename_i n off;cases rd _ x with|none=>rfl|some v=>simp only;split;{rfl};simp;cases h[n]? with|none=>rfl|some b=>(cases b<;>try rfl);rename_i cs;simp;cases DG s c cs off v<;>rfl
@[simp] theorem d8u(s:Nat)(d:Bool)(a x:PX):opv cf (.h (.store s d a x)) ⟨V,l,g,h⟩=match addr ⟨V,l,g,h⟩ a,tk ⟨V,l,g,h⟩ x with|some (.ptr n off),some (v,⟨V,l,g,h⟩)=>(match h[n]? with|some (.cells cs)=>(match DG s d cs off v with|some cs=>some (.dead,⟨V,l,g,h.set n (.cells cs)⟩)|none=>none)|_=>none)|_,_=>none:=by simp only[opv,CM];cases addr _ a with|none=>rfl|some p=>(cases p<;>try rfl);cases tk _ x with|none=>rfl|some r=>obtain⟨v,⟨c,f,b,e⟩⟩:=r;simp;rename_i n off;cases e[n]? with|none=>rfl|some o=>(cases o<;>try rfl);rename_i cs;simp;cases DG s d cs off v<;>rfl
def Sy(b c:Bool)(a:PV)(n:Option Nat)(f:List (PV×PV))(d:St):Option (Nat×PV)->Option (PV×St)|some (i,v)=>if c&&!b&&Vp v then some (v,Dc d (n.getD 0) (.map (f.modify i λe=>(e.1,dem e.2))))else some (if b then .tuple [dem v,.bool true]else dem v,d)|none=>some (if b then .tuple [a,.bool false]else a,d)
@[simp] theorem d68(b c:Bool)(a:PV)(n:Option Nat)(e:List (PV×PV))(d:St):Sy b c a n e d none=some (if b then .tuple [a,.bool false]else a,d):=rfl
@[simp] theorem d69(b:Bool)(a:PV)(n:Option Nat)(d:List (PV×PV))(c:St)(i:Nat)(v:PV):Sy b false a n d c (some (i,v))=some (if b then .tuple [dem v,.bool true]else dem v,c):=by simp[Sy]
@[simp] theorem d8v(d e a:Bool)(c:List EK)(b:PV)(m x:PX):opv cf (.h (.lookup d e a c b m x)) ⟨V,l,g,h⟩=match rd ⟨V,l,g,h⟩ m,rd ⟨V,l,g,h⟩ x with|some (.map n),some k=>(match D9 ⟨V,l,g,h⟩ n with|some es=>(match DJ a c k es 0 with|some r=>Sy d e b n es ⟨V,l,g,h⟩ r|none=>none)|none=>none)|_,_=>none:=by simp only[opv,CM];cases rd _ m with|none=>rfl|some p=>(cases p<;>try rfl);rename_i n;cases rd _ x with|none=>rfl|some k=>simp only;cases D9 _ n with|none=>rfl|some es=>simp only[cj];cases DJ a c k es 0<;>rfl
def J8(a:List (PV×PV))(k v:PV):Option (Nat×PV)->List (PV×PV)|some (i,_)=>a.set i (k,v)|none=>a++[(k,v)]
@[simp] theorem d4P(a:List (PV×PV))(k v:PV):J8 a k v none=a++[(k,v)]:=rfl
@[simp] theorem d4Q(a:List (PV×PV))(k v:PV)(i:Nat)(u:PV):J8 a k v (some (i,u))=a.set i (k,v):=rfl
@[simp] theorem e27(a:Bool)(b:List EK)(m k v:PX):opv cf (.h (.mset a b m k v)) ⟨V,l,g,h⟩=match rd ⟨V,l,g,h⟩ m,rd ⟨V,l,g,h⟩ k,tk ⟨V,l,g,h⟩ v with|some (.map (some n)),some k,some (v,⟨V,l,g,h⟩)=>(match h[n]? with|some (.map es)=>(match DJ a b k es 0 with|some r=>some (.dead,⟨V,l,g,h.set n (.map (J8 es k v r))⟩)|none=>none)|_=>none)|_,_,_=>none:=by simp only[opv,CM];cases rd _ m with|none=>rfl|some p=>(cases p<;>try rfl);rename_i n;cases n with|none=>rfl|some n=>cases rd _ k with|none=>rfl|some k=>cases tk _ v with|none=>rfl|some r=>obtain⟨v,⟨d,f,c,e⟩⟩:=r;simp;cases e[n]? with|none=>rfl|some o=>(cases o<;>try rfl);rename_i es;simp;cases DJ a b k es 0 with|none=>rfl|some r=>cases r<;>rfl
@[simp] theorem d8w(k:Nat)(a b:List PX):opv cf (.h (.mkfunc k a b)) ⟨V,l,g,h⟩=match EG ⟨V,l,g,h⟩ a with|some (f,st)=>(match EG st b with|some (c,st)=>some (.func k f c,st)|none=>none)|none=>none:=by simp[opv,CM];cases EG _ a with|none=>rfl|some r=>simp;cases EG _ b<;>rfl
@[simp] theorem e1r(c:Nat)(a:Bool)(x:PX):opv cf (.h (.isnil c a x)) ⟨V,l,g,h⟩=match rd ⟨V,l,g,h⟩ x with|some p=>(match KU c p with|some b=>some (.bool (if a then !b else b),⟨V,l,g,h⟩)|none=>none)|none=>none:=by simp only[opv,CM];cases rd _ x with|none=>rfl|some p=>simp;cases KU c p<;>rfl
@[simp] theorem d8x(x:PX):opv cf (.h (.nilchk x)) ⟨V,l,g,h⟩=match addr ⟨V,l,g,h⟩ x with|some (.ptr n o)=>some (.ptr n o,⟨V,l,g,h⟩)|some (.cptr cs)=>some (.cptr cs,⟨V,l,g,h⟩)|some (.lptr s g0 o)=>some (.lptr s g0 o,⟨V,l,g,h⟩)|_=>none:=rfl
@[simp] theorem e1s(s:Nat)(b:Bool)(a:PX):opv cf (.h (.loadc s b a)) ⟨V,l,g,h⟩=match rd ⟨V,l,g,h⟩ a with|some (.cptr cs)=>sv (C8 s b cs 0) ⟨V,l,g,h⟩|_=>none:=by simp[opv,CM,Js];rfl
@[simp] theorem e28(z:VsT)(a:List (Nat×Nat×PX)):opv cf (.h (.barr z a)) ⟨V,l,g,h⟩=match rdParts ⟨V,l,g,h⟩ a with|some es=>(match Gx z es with|some cs=>some (.agg cs,⟨V,l,g,h⟩)|none=>none)|none=>none:=by simp[opv,CM];cases rdParts _ a<;>simp;rename_i es;cases Gx z es<;>rfl
@[simp] theorem e29(n s:Nat)(a:Bool)(x i:PX):opv cf (.h (.idxA n s a x i)) ⟨V,l,g,h⟩=match rd ⟨V,l,g,h⟩ x,rdInt ⟨V,l,g,h⟩ i with|some v,some k=>(match Hj v with|some cs=>if 0<=k/\k<n then sv (C8 s a cs (k.toNat*s)) ⟨V,l,g,h⟩else none|none=>none)|_,_=>none:=by simp only[opv,CM,Js];cases rd _ x with|none=>rfl|some v=>cases v<;>(cases rdInt _ i<;>rfl)
theorem d8y(k:Nat)(a:List PX):opv cf (.h (.callx k a)) ⟨V,l,g,h⟩=match rdAll ⟨V,l,g,h⟩ a with|some vs=>(match cf k vs h with|some (r,h)=>some (r,⟨V,l,g,h⟩)|none=>none)|none=>none:=by simp[opv,CM];cases rdAll _ a with|none=>rfl|some vs=>simp;cases cf k vs h<;>rfl
theorem d7a(b:Bool)(c:List EK)(a:PV)(m k:PX):opv cf (.h (.mentry b c a m k)) ⟨V,l,g,h⟩=match rd ⟨V,l,g,h⟩ m,rd ⟨V,l,g,h⟩ k with|some (.map (some n)),some k=>(match h[n]? with|some (.map es)=>(match DJ b c k es 0 with|some (some (i,v))=>if FM v=true then some (.tuple [v,.stamp n i],⟨V,l,g,h.set n (.map (es.set i (k,v)))⟩)else none|some none=>if FM a=true then some (.tuple [a,.stamp n es.length],⟨V,l,g,h.set n (.map (es++[(k,a)]))⟩)else none|none=>none)|_=>none)|_,_=>none:=rfl
theorem d7b(m s v:PX):opv cf (.h (.estore m s v)) ⟨V,l,g,h⟩=match rd ⟨V,l,g,h⟩ m,rd ⟨V,l,g,h⟩ s,rd ⟨V,l,g,h⟩ v with|some (.map (some n)),some (.stamp a i),some v=>(match h[n]? with|some (.map es)=>(match es[i]? with|some e=>if n=a/\FM v=true then some (.dead,⟨V,l,g,h.set n (.map (es.set i (e.1,v)))⟩)else none|none=>none)|_=>none)|_,_,_=>none:=rfl
attribute [simp] d8y d7a d7b
@[simp] theorem e1t(k:Nat)(a:List PX):opv cf (.h (.call k a)) ⟨V,l,g,h⟩=match rdAll ⟨V,l,g,h⟩ a with|some vs=>(match cf k vs h with|some (r,h)=>some (dem r,⟨V,l,g,h⟩)|none=>none)|none=>none:=by simp[opv,CM];cases rdAll _ a with|none=>rfl|some vs=>simp;cases cf k vs h<;>rfl
@[simp] theorem d8z(b:List (Nat×Nat×Option (Nat×Bool)))(x:PX)(a:List PX):opv cf (.h (.icall b x a)) ⟨V,l,g,h⟩=match GU ⟨V,l,g,h⟩ b (rd ⟨V,l,g,h⟩ x)with|some m=>(match rdAll ⟨V,l,g,h⟩ a with|some vs=>(match cf m.1 (m.2::vs) h with|some (r,h)=>some (dem r,⟨V,l,g,h⟩)|none=>none)|none=>none)|none=>none:=by simp[opv,CM];cases GU _ b _ with|none=>rfl|some m=>cases rdAll _ a with|none=>rfl|some vs=>simp;cases cf _ _ h<;>rfl
@[simp] theorem d8A(k:Nat)(b:List PX):opv cf (.h (.rcall k b)) ⟨V,l,g,h⟩=match rdAll ⟨V,l,g,h⟩ b with|some vs=>(match cf k vs h with|some (r,a)=>same ⟨V,l,g,h⟩ (r,a)|none=>none)|none=>none:=by simp[opv,CM];cases rdAll _ b with|none=>rfl|some vs=>simp;cases cf k vs h<;>rfl
@[simp] theorem e4D(r:PV):same ⟨V,l,g,h⟩ (r,h)=some (dem r,⟨V,l,g,h⟩):=by simp[same]
@[simp] theorem d8B(x:PX)(a:List PX):opv cf (.h (.callv x a)) ⟨V,l,g,h⟩=match rd ⟨V,l,g,h⟩ x,rdAll ⟨V,l,g,h⟩ a with|some (.func k f c),some vs=>(match cf k (f++vs++c) h with|some (r,h)=>some (dem r,⟨V,l,g,h⟩)|none=>none)|_,_=>none:=by simp only[opv,CM];cases rd _ x with|none=>rfl|some p=>(cases p<;>try rfl);rename_i k f c;cases rdAll _ a with|none=>rfl|some vs=>simp;cases cf k _ h<;>rfl
attribute [simp]KU vague
@[simp] theorem e1u(c:Bool)(s:Nat)(x:PX)(d e:Option PX):opv cf (.slice c s x d e) ⟨V,l,g,h⟩=match c,rd ⟨V,l,g,h⟩ x with|true,some (.str t)=>(match bound ⟨V,l,g,h⟩ e t.length t.length with|some b=>(match bound ⟨V,l,g,h⟩ d 0 b with|some a=>some (.str ((t.take b).drop a),⟨V,l,g,h⟩)|none=>none)|none=>none)|false,some (.list _ es)=>if DN s es then(match bound ⟨V,l,g,h⟩ e es.length es.length with|some b=>(match bound ⟨V,l,g,h⟩ d 0 b with|some a=>some (.list false ((es.take b).drop a),⟨V,l,g,h⟩)|none=>none)|none=>none)else none|false,some .nils=>(match bound ⟨V,l,g,h⟩ e 0 0 with|some b=>(match bound ⟨V,l,g,h⟩ d 0 b with|some a=>some (.nils,⟨V,l,g,h⟩)|none=>none)|none=>none)|false,some (.rowp n sz agg len)=>if sz=s then(match bound ⟨V,l,g,h⟩ e len len with|some b=>(match bound ⟨V,l,g,h⟩ d 0 b with|some a=>some (if a=0 then .rowp n sz agg b else .rows n sz agg a (b-a),⟨V,l,g,h⟩)|none=>none)|none=>none)else none|_,_=>none:=by simp only[opv];cases c;{cases rd _ x with|none=>rfl|some p=>(cases p<;>try rfl);all_goals simp<;>grind};grind
end
def wpL(L:LsT)(c:PC)(b:St)(Q:QsT):Prop:=match evL L c b with|some (e,a)=>Q e a|none=>False
theorem IN {c:PC}{a:St}:wpL L c a Q↔∃e st',evL L c a=some (e,st')/\Q e st':=by grind[wpL,evL]
@[simp] theorem e3a :wpL L .skip ⟨V,l,g,h⟩ Q=Q .normal ⟨V,l,g,h⟩:=by simp[wpL]
@[simp] theorem e3b (a:Nat):wpL L (.exit a) ⟨V,l,g,h⟩ Q=Q (.exit a) ⟨V,l,g,h⟩:=by simp[wpL]
@[simp] theorem e4F :wpL L .ret ⟨V,l,g,h⟩ Q=Q .ret ⟨V,l,g,h⟩:=by simp[wpL]
def Zf(r:Option St)(K:St->Prop):Prop:=match r with|some st=>K (D1 st)|none=>False
@[simp] theorem d8C(V l:VsT)(g:Nat)(h:HsT)(K:St->Prop):Zf (some ⟨V,l,g,h⟩) K=K ⟨V,[],g,h⟩:=rfl
@[simp] theorem d8D(K:St->Prop):Zf none K=False:=rfl
@[simp] theorem c8P (a:List PO):wpL L (.region a) ⟨V,l,g,h⟩ Q=Zf (EF (CH L) a ⟨V,l,g,h⟩) (Q .normal):=by simp only[wpL,c1L];cases EF _ a _<;>rfl
def N9(L:LsT)(r:Option St)(x:PX)(a b:PC)(Q:QsT):Prop:=match r with|some st=>(match rd st x with|some (.bool t)=>if t=true then wpL L a (D1 st) Q else wpL L b (D1 st) Q|_=>False)|none=>False
@[simp] theorem d8E (x:PX)(a b:PC):N9 L (some ⟨V,l,g,h⟩) x a b Q=match rd ⟨V,l,g,h⟩ x with|some (.bool t)=>if t=true then wpL L a ⟨V,[],g,h⟩ Q else wpL L b ⟨V,[],g,h⟩ Q|_=>False:=rfl
@[simp] theorem d8F (x:PX)(a b:PC):N9 L none x a b Q=False:=rfl
@[simp] theorem d8G (c:List PO)(x:PX)(a b:PC):wpL L (.branch c x a b) ⟨V,l,g,h⟩ Q=N9 L (EF (CH L) c ⟨V,l,g,h⟩) x a b Q:=by simp only[wpL,c1M,N9];cases EF _ c _ with|none=>rfl|some st=>simp;cases rd st x with|none=>rfl|some v=>(cases v<;>try rfl);rename_i t;cases t<;>rfl
def Ld(L:LsT)(b:PC)(Q:QsT):QsT|.normal,st=>wpL L b st Q|.after _ _ _,_=>False|e,st=>Q e st
theorem d7k (b:PC)(a:St):Ld L b Q .normal a=wpL L b a Q:=rfl
theorem e1x (b:PC)(i:Nat)(st:St):Ld L b Q (.exit i) st=Q (.exit i) st:=rfl
theorem e3c (b:PC)(st:St):Ld L b Q .ret st=Q .ret st:=rfl
theorem e1y (b:PC)(v:PV)(st:St):Ld L b Q (.boom v) st=Q (.boom v) st:=rfl
attribute [simp] d7k e1x e3c e1y
@[simp] theorem e4G (a b:PC):wpL L (.seq a b) ⟨V,l,g,h⟩ Q=wpL L a ⟨V,l,g,h⟩ (Ld L b Q):=by simp[wpL];rcases evL L a _ with _|⟨e,st⟩;{rfl};cases e<;>rfl
def KW(a:Nat)(Q:QsT):QsT|.exit i,st=>if i=a then Q .normal st else Q (.exit i) st|.after _ _ _,_=>False|e,st=>Q e st
theorem d7l (a:Nat)(v:PV)(st:St):KW a Q (.boom v) st=Q (.boom v) st:=rfl
theorem d3U (a:Nat)(st:St):KW a Q .normal st=Q .normal st:=rfl
theorem d8H (a:Nat)(st:St):KW a Q .ret st=Q .ret st:=rfl
theorem d7m (a i:Nat)(st:St):KW a Q (.exit i) st=if i=a then Q .normal st else Q (.exit i) st:=rfl
attribute [simp] d7l d3U d8H d7m
@[simp] theorem e1z (a:Nat)(c:PC):wpL L (.block a c) ⟨V,l,g,h⟩ Q=wpL L c ⟨V,l,g,h⟩ (KW a Q):=by simp[wpL];rcases evL L c _ with _|⟨e,st⟩;{rfl};(cases e<;>try rfl);rename_i i;by_cases hi:i=a<;>simp[hi]
def D5(L:LsT)(c:PC)(Q:QsT):QsT:=Ld L (.loop c) Q
theorem d4S (c:PC)(a:St):D5 L c Q .normal a=wpL L (.loop c) a Q:=rfl
theorem d8I (c:PC)(i:Nat)(st:St):D5 L c Q (.exit i) st=Q (.exit i) st:=rfl
theorem e1A (c:PC)(st:St):D5 L c Q .ret st=Q .ret st:=rfl
theorem d8J (c:PC)(v:PV)(st:St):D5 L c Q (.boom v) st=Q (.boom v) st:=rfl
attribute [simp] d4S d8I e1A d8J
theorem FV (c:PC)(b:St):wpL L (.loop c) b Q=wpL L c b (D5 L c Q):=by unfold wpL;rw[d3B];rcases evL L c b with _|⟨e,a⟩;{rfl};cases e<;>rfl
def Zh(r:Option (Option PV×St))(Q:QsT):Prop:=match r with|some (none,st)=>Q .normal (D1 st)|some (some v,st)=>Q (.boom v) (D1 st)|none=>False
@[simp] theorem e1B :Zh (some (none,⟨V,l,g,h⟩)) Q=Q .normal ⟨V,[],g,h⟩:=rfl
@[simp] theorem d8K (v:PV):Zh (some (some v,⟨V,l,g,h⟩)) Q=Q (.boom v) ⟨V,[],g,h⟩:=rfl
@[simp] theorem d7o (a:List PO):wpL L (.bregion a) ⟨V,l,g,h⟩ Q=Zh (El (CH L) (Df L) 0 a ⟨V,List.replicate a.length .dead,g,h⟩) Q:=by simp[wpL];rcases El _ _ 0 a _ with _|⟨_|v,st⟩<;>rfl
def SQ(L:LsT)(r:Option (Option PV×St))(x:PX)(a b:PC)(Q:QsT):Prop:=match r with|some (none,st)=>(match rd st x with|some (.bool t)=>if t=true then wpL L a (D1 st) Q else wpL L b (D1 st) Q|_=>False)|some (some v,st)=>Q (.boom v) (D1 st)|none=>False
@[simp] theorem d8L (x:PX)(a b:PC):SQ L (some (none,⟨V,l,g,h⟩)) x a b Q=match rd ⟨V,l,g,h⟩ x with|some (.bool t)=>if t=true then wpL L a ⟨V,[],g,h⟩ Q else wpL L b ⟨V,[],g,h⟩ Q|_=>False:=rfl
@[simp] theorem d7p (v:PV)(x:PX)(a b:PC):SQ L (some (some v,⟨V,l,g,h⟩)) x a b Q=Q (.boom v) ⟨V,[],g,h⟩:=rfl
@[simp] theorem d7q (c:List PO)(x:PX)(a b:PC):wpL L (.bbranch c x a b) ⟨V,l,g,h⟩ Q=SQ L (El (CH L) (Df L) 0 c ⟨V,List.replicate c.length .dead,g,h⟩) x a b Q:=by simp[wpL,SQ];rcases El _ _ 0 c _ with _|⟨_|v,st⟩;{rfl};{simp;cases rd st x with|none=>rfl|some v=>(cases v<;>try rfl);rename_i t;cases t<;>rfl};rfl
def Zi(r:Option St)(t:Nat)(x:PX)(Q:QsT):Prop:=match r with|some st=>(match rd st x with|some p=>Q (.boom (.iface t p)) (D1 st)|none=>False)|none=>False
@[simp] theorem d7r (t:Nat)(x:PX):Zi (some ⟨V,l,g,h⟩) t x Q=match rd ⟨V,l,g,h⟩ x with|some p=>Q (.boom (.iface t p)) ⟨V,[],g,h⟩|none=>False:=rfl
@[simp] theorem e1C (a:List PO)(t:Nat)(x:PX):wpL L (.raise a t x) ⟨V,l,g,h⟩ Q=Zi (Id (CH L) a ⟨V,l,g,h⟩) t x Q:=by simp only[wpL,d1e,Zi];cases Id _ a _ with|none=>rfl|some st=>simp;cases rd st x<;>rfl
def Zj(a:Nat)(b:VsT)(Q:QsT):QsT|.normal,st=>Q (.after a b none) st|.ret,st=>Q (.after a b none) st|.boom v,st=>Q (.after a b (some v)) st|_,_=>False
@[simp] theorem d8M (a:Nat)(b:VsT)(st:St):Zj a b Q .ret st=Q (.after a b none) st:=rfl
@[simp] theorem d7s (a:Nat)(b:VsT)(v:PV)(st:St):Zj a b Q (.boom v) st=Q (.after a b (some v)) st:=rfl
theorem b9x {b:Nat}{a:List PX}{c:PC}{cs:VsT}(f:c.NR=true)(d:rdAll ⟨V,l,g,h⟩ a=some cs):wpL L (.guarded b a c) ⟨V,l,g,h⟩ Q=wpL L c ⟨V,l,g,h⟩ (Zj b cs Q):=by simp[wpL,c5V f,d];rcases evL L c _ with _|⟨e,st⟩;{rfl};cases e<;>rfl
def JT(L:LsT)(f:PFunc)(r:Out×HsT):QsT|.normal,st=>∃v,Eq st f.results=some v/\r=(.val v,DE st.vars f.results st.heap)|.ret,st=>∃v,Eq st f.results=some v/\r=(.val v,DE st.vars f.results st.heap)|.boom v,st=>r=(.boom v,st.heap)|.after c b v,st=>f.code.NR=true/\∃a x,Er L c (v.getD .nilIface::b) st.heap=some a/\Eq {st with heap:=a} f.results=some x/\r=(.val x,DE st.vars f.results a)|.exit _,_=>False
theorem d7t (f:PFunc)(r:Out×HsT):JT L f r .normal ⟨V,l,g,h⟩=∃v,Eq ⟨V,l,g,h⟩ f.results=some v/\r=(.val v,DE V f.results h):=rfl
theorem e3d (f:PFunc)(r:Out×HsT):JT L f r .ret ⟨V,l,g,h⟩=∃v,Eq ⟨V,l,g,h⟩ f.results=some v/\r=(.val v,DE V f.results h):=rfl
theorem e1D (f:PFunc)(r:Out×HsT)(v:PV):JT L f r (.boom v) ⟨V,l,g,h⟩=(r=(.boom v,h)):=rfl
theorem d8N (f:PFunc)(r:Out×HsT)(b:Nat)(c:VsT)(v:Option PV):JT L f r (.after b c v) ⟨V,l,g,h⟩=(f.code.NR=true/\∃a x,Er L b (v.getD .nilIface::c) h=some a/\Eq ⟨V,l,g,a⟩ f.results=some x/\r=(.val x,DE V f.results a)):=rfl
attribute [simp] d7t e3d e1D d8N
theorem c4E {r:Out×HsT}(b:f.code.isRound=false)(a:wpL L f.code ⟨V.map dem++List.replicate (f.nv-f.params) .dead,[],0,h⟩ (JT L f r)):FZ (evL L) (Er L) f V h=some r:=by rw[IN]at a;obtain⟨e,d,c,g⟩:=a;unfold FZ;split;{simp_all[PC.isRound]};cases e<;>grind[JT,Bool.true_eq_false]
theorem F6 {r:Out×HsT}(e:L g=some f)(b:V.length=f.params)(c:wpL L f.code ⟨V.map dem++List.replicate (f.nv-f.params) .dead,[],0,h⟩ (JT L f r))(i:f.split=false:=by rfl)(a:f.prim=none:=by rfl)(d:f.code.isRound=false:=by rfl):Df L g V h=some r:=d1f e b (c4E d c) i a
theorem d1w (e:L g=some f)(c:V.length=f.params)(d:wpL L f.code ⟨V.map dem++List.replicate (f.nv-f.params) .dead,[],0,h⟩ (JT L f (.val r.1,r.2)))(i:f.split=false:=by rfl)(b:f.prim=none:=by rfl)(a:f.code.isRound=false:=by rfl):CH L g V h=some r:=d3C e c (c4E a d) i b a
def Iq(b:List PRes)(r:PV×HsT)(e:PExit)(a:St):Prop:=(e=.normal\/e=.ret)/\Eq a b=some r.1/\DE a.vars b a.heap=r.2
@[simp] theorem d7u (a:List PRes)(r:PV×HsT):Iq a r .normal ⟨V,l,g,h⟩=(Eq ⟨V,l,g,h⟩ a=some r.1/\DE V a h=r.2):=by simp[Iq]
@[simp] theorem e3e (a:List PRes)(r:PV×HsT):Iq a r .ret ⟨V,l,g,h⟩=(Eq ⟨V,l,g,h⟩ a=some r.1/\DE V a h=r.2):=by simp[Iq]
theorem CO {k:Nat}{j:HsT}(a:wpL L f.code ⟨V.map dem++List.replicate (f.nv-f.params) .dead,[],0,j⟩ (Iq f.results r))(l:L k=some f:=by exact rfl)(b:V.length=f.params:=by exact rfl)(m:f.split=false:=by rfl)(d:f.prim=none:=by rfl)(c:f.code.isRound=false:=by rfl):CH L k V j=some r:=by refine c3W l b ?_ m d c;rw[IN]at a;obtain⟨e,n,i,o,g,h⟩:=a;grind[J1]
theorem d1x {l:Option Nat}(m:L g=some f)(b:V.length=f.params)(a:wpL L f.code ⟨Gv l V++List.replicate (f.nv-f.params) .dead,[],0,h⟩ (Iq f.results r))(n:f.split=false:=by rfl)(d:f.prim=none:=by rfl)(i:f.code.isRound=false:=by rfl)(c:f.params<20:=by decide):CH L g (EQ l V) h=some r:=by refine Z6 m b ?_ n d c;rw[IN]at a;obtain⟨e,o,j,p,k,q⟩:=a;grind[Fw]
def CJ(b:List PRes)(P:PV×HsT->Prop)(e:PExit)(a:St):Prop:=(e=.normal\/e=.ret)/\∃v,Eq a b=some v/\P (v,DE a.vars b a.heap)
theorem C7 {j:HsT}{P:PV×HsT->Prop}(a:wpL L f.code ⟨V.map dem++List.replicate (f.nv-f.params) .dead,[],0,j⟩ (CJ f.results P))(l:L g=some f:=by exact rfl)(b:V.length=f.params:=by exact rfl)(m:f.split=false:=by rfl)(h:f.prim=none:=by rfl)(k:f.code.isRound=false:=by rfl):∃r,CH L g V j=some r/\P r:=by rw[IN]at a;obtain⟨e,n,i,o,v,c,d⟩:=a;grind[DE,c3W,J1]
end PI
namespace PI
variable {e:Type}{L:LsT}{Q:QsT}{c:PC}
def upd(V:VsT):List (Nat×PV)->VsT|[]=>V|(k,v)::r=>upd (V.set k v) r
@[simp] theorem e4H(V:VsT):upd V []=V:=rfl
@[simp] theorem e3f(V:VsT)(k:Nat)(v:PV)(r:List (Nat×PV)):upd V ((k,v)::r)=upd (V.set k v) r:=rfl
section
variable (n:Nat)(a:Nat->Bool)
include n a
theorem c7e (S:Nat->e->St)(l:∀i,i<n->a i=true->∀x,(∀y,wpL L (.loop c) (S (i+1) y) Q)->wpL L c (S i x) (D5 L c Q))(b:∀i,i<n->a i=false->(∀k,k<i->a k=true)->∀x,wpL L c (S i x) (D5 L c Q))(f:(∀k,k<n->a k=true)->∀x,wpL L c (S n x) (D5 L c Q))(x:e):wpL L (.loop c) (S 0 x) Q:=by(have g:∀(d i:Nat),i+d=n->(∀k,k<i->a k=true)->∀x,wpL L (.loop c) (S i x) Q:=by intro d;induction d with|zero=>simp_all[FV]|succ d j=>intro i hi h x;rw[FV];cases ho:a i<;>grind);simp_all
theorem d3V {V:VsT}{g:Nat}{h:HsT}(M:Nat->e->List (Nat×PV))(H:Nat->e->HsT){f:e}(m:∀i,i<n->a i=true->∀x,(∀y,wpL L (.loop c) ⟨upd V (M (i+1) y),[],g,H (i+1) y⟩ Q)->wpL L c ⟨upd V (M i x),[],g,H i x⟩ (D5 L c Q))(d:∀i,i<n->a i=false->(∀k,k<i->a k=true)->∀x,wpL L c ⟨upd V (M i x),[],g,H i x⟩ (D5 L c Q))(b:(∀k,k<n->a k=true)->∀x,wpL L c ⟨upd V (M n x),[],g,H n x⟩ (D5 L c Q))(l:upd V (M 0 f)=V)(j:H 0 f=h):wpL L (.loop c) ⟨V,[],g,h⟩ Q:=by have:=c7e n a (λi x=>⟨_,[],g,_⟩) m d b f;simp_all
theorem Xy {V:VsT}{g:Nat}{h:HsT}(M:Nat->e->List (Nat×PV))(G:Nat->e->Nat)(H:Nat->e->HsT)(f:e)(o:∀i,i<n->a i=true->∀x,(∀y,wpL L (.loop c) ⟨upd V (M (i+1) y),[],G (i+1) y,H (i+1) y⟩ Q)->wpL L c ⟨upd V (M i x),[],G i x,H i x⟩ (D5 L c Q))(d:∀i,i<n->a i=false->(∀k,k<i->a k=true)->∀x,wpL L c ⟨upd V (M i x),[],G i x,H i x⟩ (D5 L c Q))(b:(∀k,k<n->a k=true)->∀x,wpL L c ⟨upd V (M n x),[],G n x,H n x⟩ (D5 L c Q))(m:upd V (M 0 f)=V)(l:G 0 f=g)(j:H 0 f=h):wpL L (.loop c) ⟨V,[],g,h⟩ Q:=by have:=c7e n a (λi x=>⟨_,[],_,_⟩) o d b f;simp_all
end
open Go Go.RowKit
variable {P:Program}{Q:Exit->Act->List Frame->World->Prop}{N:Nm}{t:Nat}{b:Array Oper}{o:Oper}{c:Code}{a:List Frame}
def I7(t:Nat)(e:VsT)(h:HsT):Option (HsT):=match e with|[.nilIface,.ptr _ 0,.ptr _ 0]=>some h|[.iface d (.agg [.int k1 a,.int k2 b,.int k3 c]),.ptr n 0,.ptr m 0]=>if d=t/\n≠m then match h[n]?,h[m]? with|some (.cells [_,_]),some (.cells [_])=>some ((h.set n (.cells [.int k1 a,.int k2 b])).set m (.cells [.int k3 c]))|_,_=>none else none|_=>none
def PE(o:Oper):Bool:=match o.op with|.move _|.assign _|.extract _ _|.alloc _|.store _ _ _|.load _ _|.fieldAddr _ _ _=>true|_=>false
theorem d1a {w:World}(h:PE o=true){ρ:Operand->Value}:(∀r c,(execOp ρ o).run P w=.ok r c->(∃v,r=.value v)\/r=.skip)/\True:=by refine⟨?_,trivial⟩;intro r c b;(have val:∀(s:Sem Value),(do pure (.value (<-s)):Sem Next).run P w=.ok r c->∃v,r=.value v:=by intro s hs;rw[Sem.run_bind]at hs;cases hx:s.run P w<;>grind[Result.andThen_ok,Sem.run_pure,Result.ok.injEq,Result.andThen]);(have a:∀(s:Sem Unit),(do s;pure .skip:Sem Next).run P w=.ok r c->r=.skip:=by intro s hs;cases hx:s.run P w<;>simp_all);grind[PE,execOp,reduceCtorEq,Bool.false_eq_true,Sem.run_pure,Result.ok.injEq]
theorem PG :∀{l:NsT}{cs:Act}{w:World},(∀i∈l,∀o,b[i]?=some o->PE o=true)->¬LetsOut (λe cs w=>Q e cs a w)->wpOps P b (λe cs w=>Q e cs a w) l cs w->wpOpsSIn (W none) 0 P b Q l cs a w|[],cs,w,_,_,h=>h|i::l,cs,w,hp,c,h=>by simp[wpOps]at h;simp[wpOpsSIn];cases ho:b[i]? with|none=>simp[ho]at h⊢;exact PG (by grind) c h|some o=>simp[ho]at h⊢;refine⟨λ_ _=>HJ,?_⟩;split at h;(next f=>rw[aj f];rcases h with h|⟨_,h⟩;{unfold Oper.wp at h;have j:=(d1a (P:=P) (w:=w) (hp i (by simp) o ho) (ρ:=cs.eval)).1;generalize(execOp cs.eval o).run P w=d at h j;cases d with|ok r g=>rcases j r g rfl with⟨v,rfl⟩|rfl;{exact PG (by grind) c h};exact PG (by grind) c h|halt x g=>cases x<;>simp at h⊢<;>first|exact h|exact h.elim};exact absurd h c);rename_i f;rw[ak f];exact PG (by grind) c h
theorem c3M {w:World}{j:Act}(h:∀d,wpN none d P c (λe j w=>Q e j a w) j w):c.wpSIn (W none) 0 P Q j a w:=by intro b k _ f _ _;obtain⟨e,g,i,q,r⟩:=h b.fn b k a f rfl;grind
def L0:LsT:=λ_=>none
theorem e0I (n:Nat):Runs N P L0 n:=by refine⟨⟨?_,?_⟩,?_,?_,?_⟩;{intro k e r h b a;simp[DT,L0]at a};{intro k own e r b a;simp[DT,L0]at a};{intro k e o h b a;simp[Ek,L0]at a};{intro k y n l d c e o h b _ a;simp[Ek,L0]at a};simp_all[Iz,L0]
theorem e4Q :Ev N P L0:=by intro k f h;simp[L0]at h
theorem d1b {E:Env}(hE:EnvOk E N)(hP:E.P=P)(gG:P.follows .mixedOrders=true)(sy:E.lps=[]){k:Nat}{fn:Func}{ab:Nat}{d:Array Oper}{vs:List Tmp}{C:List PO}{M Y:Tmp}{tA T:Nat}{z:PV}{nv q:Nat}{o1:Oper}{g:VsT->HsT->Option (HsT)}(hf:P.funcs[N.fn k]?=some fn)(hb:fn.body=some (.seq (.region ab d false) c))(gQ:fn.results=#[])(h0:d[0]?=some o)(uS:∃ts,o.op=.call {callee:=.builtin .recover,args:=#[],argTypes:=ts})(yv:o.dst=some M)(yw:o.guard=none)(h1:d[1]?=some o1)(yx:o1.op=.typeAssert (.tmp M) tA T true)(yy:o1.dst=some Y)(yz:o1.guard=none)(hT:N.ty t=T)(uT:∃fs,P.underlying T=some (.struct fs))(hz:Lm P T=some z)(mZ:∀i,2<=i->∀o0,d[i]?=some o0->PE o0=true)(Cm:M<fn.ntmps)(uU:(Ec M vs 0).isNone=true)(vZ:vs[q]?=some Y)(gb:vs.Nodup)(fM:∀t∈vs,t<fn.ntmps)(p9:vs.length=nv)(hq:2<=q)(lq:vs[0]?=some 0)(mg:vs[1]?=some 1)(oe:Jo E fn.ntmps vs d false=some C)(mj:(EO E fn.ntmps vs c).NR=true)(fJ:∀p f h h',g (p::f) h=some h'->f.length=2/\∃K:PV,(p=.nilIface/\K=.tuple [z,.bool false]\/∃v,p=.iface t v/\K=.tuple [v,.bool true])/\∃n st1 x st2,ES (DT (CV L0 0) L0) C (List.range' 2 (d.size-2)) {vars:=(f.map dem++List.replicate (nv-2) PV.dead).set q K,locs:=List.replicate C.length .dead,gen:=0,heap:=h}=some st1/\CV L0 n (EO E fn.ntmps vs c) (D1 st1)=some (x,st2)/\(x=.normal\/x=.ret)/\st2.heap=h'):KL N P k g:=by
 intro p f h h' hg w G D gU fL fQ u hu;obtain⟨fX,K,uV,n,st1,x,st2,yA,yB,hx,gN⟩:=fJ p f h h' hg;refine callsDIn_of_wpSIn (F:=W none) hf hb (HJ) ?_;intro l V o7;refine wpSIn_seq (wpSIn_region ?_);have iJ:2<=d.size:=by have:=(bq.1 h1).1;omega
 have mT:List.range d.size=0::1::List.range' 2 (d.size-2):=by obtain⟨m,hm⟩:∃m,d.size=m+2:=⟨d.size-2,by omega⟩;rw[hm,fm,List.range'_succ,List.range'_succ];rfl
 rw[mT];obtain⟨R,Z,B,iq,Dc,lF,uW⟩:∃R Z,∃B:List Frame,(match recoverD (l::V)with|some (v,B)=>(v,B)|none=>(.nilIface,l::V))=(R,B)/\settle Z=.returning/\B={l with mode:=Z}::V/\VR N w G.fix G.heap R p:=by rcases hu with⟨rfl,rfl⟩|⟨v,rfl,hv⟩;{refine⟨.nilIface,.returning,l::V,?_,rfl,by rw[<-o7],.nilIface⟩;simp[recoverD,o7]};refine⟨v,.panicking [{v,recovered:=true}],_,?_,rfl,rfl,hv⟩;simp[recoverD,o7]
 let I:Act:={tmps:=D++Array.replicate (fn.ntmps-D.size) undef,defers:=[]};have U:∀{Q:Exit->Act->List Frame->World->Prop}{s:NsT},wpOpsSIn (W none) 0 P d Q s (I.put (some M) R) B w->wpOpsSIn (W none) 0 P d Q (0::s) I (l::V) w:=by intro Q s hw;obtain⟨ts,uS⟩:=uS;simp only[wpOpsSIn,h0];refine⟨λ_ _=>HJ,?_⟩;(have uX:(execOp I.eval o).run P w=.ok .recover w:=by simp[execOp,uS,resolve,invoke,builtin]);simp only[Region.wanted,yw,if_true,uX,yv];cases hr:recoverD (l::V)with|none=>rw[hr]at iq;cases iq;exact hw|some y=>obtain⟨v,ah⟩:=y;rw[hr]at iq;cases iq;exact hw
 refine U ?_;have kw:I.tmps.size>=fn.ntmps:=by simp only[I,Array.size_append,Array.size_replicate];omega
 have yC:(I.put (some M) R).eval (.tmp M)=R:=by have:M<I.tmps.size:=br Cm kw;simp[Act.eval,Act.put,dg,eN,this]
 obtain⟨tv,Cn,yD⟩:∃tv,(Instr.typeAssert R tA T true).run P w=.ok tv w/\VR N w G.fix G.heap tv K:=by obtain⟨fs,uT⟩:=uT;rcases uV with⟨rfl,rfl⟩|⟨v,rfl,rfl⟩;{cases uW;obtain⟨zv,z1,z2,_⟩:=YH (P:=P) (N:=N) (w:=w) (fix:=G.fix) (hp:=G.heap) hz;refine⟨.tuple #[zv,.bool false],by simp[Instr.typeAssert,Sem.run_bind,run_underlying uT,Result.andThen_ok,z1],.tuple _ _ rfl ?_⟩;intro i c2 p A hp;match i,A,hp with|0,A,hp=>simp at A hp;subst A hp;exact z2|1,A,hp=>simp at A hp;subst A hp;exact .bool _};cases uW with|iface _ v' _ hv=>refine⟨.tuple #[v',.bool true],by simp[Instr.typeAssert,Sem.run_bind,run_underlying uT,Result.andThen_ok,hT],.tuple _ _ rfl ?_⟩;intro i c2 p A hp;match i,A,hp with|0,A,hp=>simp at A hp;subst A hp;exact hv|1,A,hp=>simp at A hp;subst A hp;exact .bool _
 let O:Act:=(I.put (some M) R).put (some Y) tv;have Dj:∀{Q:Exit->Act->List Frame->World->Prop}{s:NsT},wpOpsSIn (W none) 0 P d Q s O B w->wpOpsSIn (W none) 0 P d Q (1::s) (I.put (some M) R) B w:=by intro Q s hw;simp only[wpOpsSIn,h1];refine⟨λ_ _=>HJ,?_⟩;(have oT:(execOp (I.put (some M) R).eval o1).run P w=.ok (.value tv) w:=by simp only[execOp,yx,yC,Sem.run_bind,Cn,Result.andThen_ok,Sem.run_pure]);simp only[Region.wanted,yz,if_true,oT,yy];exact hw
 refine Dj ?_;have fS:Le vs d.toList=true/\O7 fn.ntmps d.toList=true/\Jp E vs d.toList d.toList=some C:=by unfold Jo at oe;split at oe;(next A=>simp only[aw]at A;simp only[af]at oe;obtain⟨ad,h1,h2⟩:=oe;simp at h2;split at h2;{cases h2};cases h2;exact⟨A.1.1,A.1.2,h1⟩);simp at oe
 obtain⟨uY,iA,uZ⟩:=fS;have nm:=RT gb uY;let G0:GS:={G with df:=[]};have jh:FI N w G0 {vars:=(f.map dem++List.replicate (nv-2) PV.dead).set q K,locs:=List.replicate C.length .dead,gen:=0,heap:=h} O vs (CI vs d.toList):=by(have nQ:O.tmps.size=I.tmps.size:=by simp[O,Act.put]);refine⟨?_,?_,?_,?_,?_,rfl,(by intro g b h;have h:G.box g=some b:=h;rw[gU.only.box]at h;simp at h),gU.owlt,gU.fixlt,gU.heap,gU.hdom⟩;{have:2<vs.length:=Nat.lt_of_le_of_lt hq (ae.1 vZ).1;simp[fX];omega};{intro i H u1 S J;rw[bp]at J;(have yE:H≠M:=by rintro rfl;have:=XS S 0;simp at uU;rw[uU]at this;simp at this);by_cases yF:q=i;{subst yF;rw[vZ]at S;cases S;rw[aj rfl]at J;split at J;{cases J;(have jn:O.eval (.tmp Y)=tv:=by have:Y<I.tmps.size:=br (fM _ (ar vZ)) kw;simp[O,Act.eval,Act.put,dg,eN,this]);rw[jn];refine SR.of_pure yD ?_;rcases uV with⟨_,rfl⟩|⟨_,_,rfl⟩<;>rfl};simp at J};rw[ak yF]at J;(have yG:H≠Y:=by rintro rfl;have vz:=(ae.1 vZ);have nZ:=(ae.1 S);obtain⟨p1,p2⟩:=vz;obtain⟨p3,p4⟩:=nZ;exact yF ((List.getElem_inj gb).1 (p2.trans p4.symm)));(have jn:O.eval (.tmp H)=I.eval (.tmp H):=by simp only[O,Act.eval,Act.put,dg,eN];rw[ak (Ne.symm yG),ak (Ne.symm yE)]);rw[jn];by_cases hi:i<2;{(have pG:H=i:=by match i,hi with|0,_=>rw[lq]at S;simpa using S.symm|1,_=>rw[mg]at S;simpa using S.symm);subst pG;(have oj:H<f.length:=by rw[fX];exact hi);rw[aq (by simpa using oj)]at J;simp only[bz,an oj,cz,am]at J;subst J;(have sh:H<D.size:=by rw[fL];exact oj);(have jn:I.eval (.tmp H)=D[H]:=by simp only[I,Act.eval,dg];rw[eX sh];simp[sh]);rw[jn];have hv:=fQ H D[H] f[H] (by simp[sh]) (an oj);exact SR.of_pure hv.dem hv.cp_dem};rw[ax (by rw[cw,fX];omega)]at J;rw[fl]at J;split at J;{simp at J;subst J;trivial};simp at J};{intro j H u1 _ pC;simp only[fl]at pC;split at pC;{simp at pC;subst pC;trivial};simp at pC};{intro i H hi;rw[nQ];exact br (fM _ (ar hi)) kw};intro j H hj;rw[nQ];exact br (RR iA j H hj) kw
 refine PG ?_ ?_ ?_;{intro i hi o0 ho;refine mZ i ?_ o0 ho;rw[List.mem_range'_1]at hi;exact hi.1}
 {rintro⟨a,w,h⟩;simp only[Exit.thenS,bodyPostS]at h;obtain⟨u2,⟨v,hv⟩,_⟩:=h;cases hv}
 refine XQ (L:=L0) e4Q hE hP nm (e0I 0).call (by intro k args h r A;simp[DT,L0]at A) uZ yA jh ?_;intro a' w' X lQ he hs;simp only[Exit.thenS];refine c3M λag=>?_;have nQ:O.tmps.size=I.tmps.size:=by simp[O,Act.put]
 have fW:=FI.finish (nt:=fn.ntmps) lQ (by rw[hs,nQ];exact kw);refine Kw (L:=L0) (rd':=none) e4Q hE hP gG gb n (λm _=>e0I m) Pa yB fW ?_ (.inl rfl) ?_ ?_;{intro ps kb vars hl;rw[sy]at hl;simp at hl}
 {rintro⟨a,w,h⟩;simp only[bodyPostS]at h;obtain⟨u2,⟨v,hv⟩,_⟩:=h;cases hv}
 intro a3 w3 G3 e Co lh nq yH;have gy:ExtD w G w3 G3:=ExtD.trans (ExtD.of he:ExtD w G0 w' X) nq;have lD:X.df=[]:=he.df;have jm:G3.df=[]:=by(have aa:(∃ms,G3.df=ms++X.df/\Marks w' w3 G3 ms/\((EO E fn.ntmps vs c).NR=true->ms=[]))->G3.df=[]:=by rintro⟨ms,q1,_,q3⟩;rw[q1,q3 mj,lD];rfl);rcases hx with rfl|rfl<;>exact aa yH
 have il:bodyPostS P fn l V (λe Z w'=>(∃v,e=.returned v)/\settle Z=.returning/\∃X,Ext w G w' X/\Between N w' X h') .normal a3 B w3:=by refine⟨by rw[lh.fi.defers,jm],Z,lF,.tuple #[],?_,⟨_,rfl⟩,Dc,?_⟩;{unfold results;rw[gQ];simp};obtain⟨l1,l2⟩:=Nh gy lh (DefW.refl _) (λ_ _=>rfl) st2.vars [];rw[<-gN];exact⟨_,l1,l2⟩
 rcases hx with rfl|rfl<;>(cases Co;exact il)
def KE:List PO:=[⟨.l,Ky,none⟩,⟨.v 4,Ky,none⟩,⟨.l,.mov (.v 4),none⟩,⟨.l,.extract 0 (.l 2),none⟩,⟨.l,.extract 1 (.l 2),none⟩,⟨.v 2,.newloc [.int .i64 0,.int .i64 0,.int .i64 0],none⟩,⟨.n,.store 3 true (.v 2) (.l 3),none⟩,⟨.v 3,.take (.l 4),none⟩]
def Nr:PC:=.branch [⟨.l,.mov (.v 3),none⟩] (.l 0) (.region [⟨.l,.faddr 0 (.v 2),none⟩,⟨.l,.load 2 true (.l 0) false,none⟩,⟨.l,.faddr 2 (.v 2),none⟩,⟨.l,.load 1 false (.l 2) false,none⟩,⟨.n,.h (.storer 2 true (.v 0) (.l 1)),none⟩,⟨.n,.h (.storer 1 false (.v 1) (.l 3)),none⟩]) .skip
def Lv:PV:=.agg [.int .i64 0,.int .i64 0,.int .i64 0]
theorem d6L{p:PV}{d:VsT}{h j:HsT}(f:I7 t (p::d) h=some j):d.length=2/\∃e:PV,(p=.nilIface/\e=.tuple [Lv,.bool false]\/∃v,p=.iface t v/\e=.tuple [v,.bool true])/\∃n st1 x st2,ES (DT (CV L0 0) L0) KE (List.range' 2 (8-2)) {vars:=(d.map dem++List.replicate (5-2) PV.dead).set 4 e,locs:=List.replicate KE.length .dead,gen:=0,heap:=h}=some st1/\CV L0 n Nr (D1 st1)=some (x,st2)/\(x=.normal\/x=.ret)/\st2.heap=j:=by(have i:∀{e:PV}{st1:St}{x:PExit}{st2:St},Fu (DT (CV L0 0) L0) 2 (KE.drop 2) {vars:=(d.map dem++List.replicate (5-2) PV.dead).set 4 e,locs:=List.replicate KE.length .dead,gen:=0,heap:=h}=some st1->evL L0 Nr (D1 st1)=some (x,st2)->(x=.normal\/x=.ret)->st2.heap=j->∃n st1 x st2,ES (DT (CV L0 0) L0) KE (List.range' 2 (8-2)) {vars:=(d.map dem++List.replicate (5-2) PV.dead).set 4 e,locs:=List.replicate KE.length .dead,gen:=0,heap:=h}=some st1/\CV L0 n Nr (D1 st1)=some (x,st2)/\(x=.normal\/x=.ret)/\st2.heap=j:=by intro e st1 x st2 k B l o;obtain⟨n,hn⟩:=Ew.1 B;rw[RV rfl]at k;exact⟨n,st1,x,st2,k,hn,l,o⟩);unfold I7 at f;split at f;(next n m g=>cases g;cases f;refine⟨rfl,_,.inl ⟨rfl,rfl⟩,i (st1:=⟨[.ptr n 0,.ptr m 0,.loc 0 [.int .i64 0,.int .i64 0,.int .i64 0],.bool false,.tuple [Lv,.bool false]],[.dead,.dead,.tuple [Lv,.bool false],Lv,.bool false,.dead,.dead,.dead],1,h⟩) (st2:=⟨[.ptr n 0,.ptr m 0,.loc 0 [.int .i64 0,.int .i64 0,.int .i64 0],.bool false,.tuple [Lv,.bool false]],[],1,h⟩) ?_ ?_ (.inl rfl) rfl⟩;{simp[KE,Lv,Ky,DG]};simp[Nr]);(next y k1 a k2 b k3 c n m g=>cases g;split at f;(next w=>obtain⟨rfl,r⟩:=w;split at f;(next z A u hn s=>cases f;refine⟨rfl,_,.inr ⟨_,rfl,rfl⟩,i (st1:=⟨[.ptr n 0,.ptr m 0,.loc 0 [.int k1 a,.int k2 b,.int k3 c],.bool true,.tuple [.agg [.int k1 a,.int k2 b,.int k3 c],.bool true]],[.dead,.dead,.tuple [.agg [.int k1 a,.int k2 b,.int k3 c],.bool true],.agg [.int k1 a,.int k2 b,.int k3 c],.bool true,.dead,.dead,.dead],1,h⟩) (st2:=⟨[.ptr n 0,.ptr m 0,.loc 0 [.int k1 a,.int k2 b,.int k3 c],.bool true,.tuple [.agg [.int k1 a,.int k2 b,.int k3 c],.bool true]],[],1,_⟩) ?_ ?_ (.inl rfl) rfl⟩;{simp[KE,Lv,Ky,DG]};(have q:(h.set n (.cells [.int k1 a,.int k2 b]))[m]?=some (.cells [u]):=by rw[ai r];exact s);simp[Nr,DG,C8,hn,q,PV.flat,Ia]);simp at f);simp at f);simp at f
theorem ZL {E:Env}(z:EnvOk E N)(A:E.P=P)(C:P.follows .mixedOrders=true)(s:E.lps=[]){k:Nat}{fn:Func}{e:Nat}{tA T:Nat}{K:Oper}(M:P.funcs[N.fn k]?=some fn)(O:fn.body=some (.seq (.region e b false) c))(n:fn.results=#[])(G:b[0]?=some o)(u:∃ts,o.op=.call {callee:=.builtin .recover,args:=#[],argTypes:=ts})(y:o.dst=some 5)(v:o.guard=none)(H:b[1]?=some K)(l:K.op=.typeAssert (.tmp 5) tA T true)(B:K.dst=some 6)(D:K.guard=none)(w:N.ty t=T)(I:(match P.underlying T with|some (.struct _)=>true|_=>false)=true)(m:Lm P T=some Lv)(x:b.size=8)(r:(b.toList.drop 2).all PE=true)(d:fn.ntmps=14)(F:Jo E 14 [0,1,2,3,6] b false=some KE)(f:EO E 14 [0,1,2,3,6] c=Nr):KL N P k (I7 t):=by refine d1b z A C s (vs:=[0,1,2,3,6]) (q:=4) M O n G u y v H l B D w (by grind) m ?_ (by grind) rfl rfl (by decide) (by grind) rfl (by omega) rfl rfl (by rw[d];exact F) (by rw[d,f];rfl) ?_;{intro i hi a ho;have:=bu.1 r a;refine this (ar (i:=i-2) ?_);rw[em,show 2+(i-2)=i by omega];simpa using ho};intro p g h J j;have:=d6L j;rw[x,d,f];exact this
end PI
namespace PI.Short
open Go(IntKind BinOp UnOp)
abbrev v0:PX:=.v 0
abbrev v1:PX:=.v 1
abbrev v2:PX:=.v 2
abbrev v3:PX:=.v 3
abbrev v4:PX:=.v 4
abbrev v5:PX:=.v 5
abbrev v6:PX:=.v 6
abbrev v7:PX:=.v 7
abbrev v8:PX:=.v 8
abbrev v9:PX:=.v 9
abbrev Dh:PX:=.v 10
abbrev Dw:PX:=.v 11
abbrev Du:PX:=.v 12
abbrev D3:PX:=.v 13
abbrev DU:PX:=.v 14
abbrev EJ:PX:=.v 15
abbrev F4:PX:=.v 16
abbrev Ge:PX:=.v 17
abbrev Gn:PX:=.v 18
abbrev Ji:PX:=.v 19
abbrev Hy:PX:=.v 20
abbrev KX:PX:=.v 21
abbrev MJ:PX:=.v 22
abbrev LU:PX:=.v 23
abbrev OC:PX:=.v 24
abbrev WC:PX:=.v 25
abbrev Rt:PX:=.v 26
abbrev Rs:PX:=.v 27
abbrev Wy:PX:=.v 28
abbrev Xb:PX:=.v 29
abbrev v30:PX:=.v 30
abbrev WA:PX:=.v 31
abbrev v32:PX:=.v 32
abbrev v33:PX:=.v 33
abbrev v34:PX:=.v 34
abbrev v35:PX:=.v 35
abbrev v36:PX:=.v 36
abbrev v37:PX:=.v 37
abbrev v39:PX:=.v 39
abbrev v45:PX:=.v 45
abbrev v46:PX:=.v 46
abbrev v50:PX:=.v 50
abbrev v51:PX:=.v 51
abbrev v53:PX:=.v 53
abbrev v55:PX:=.v 55
abbrev v66:PX:=.v 66
abbrev v70:PX:=.v 70
abbrev v76:PX:=.v 76
abbrev v77:PX:=.v 77
abbrev l0:PX:=.l 0
abbrev l1:PX:=.l 1
abbrev l2:PX:=.l 2
abbrev l3:PX:=.l 3
abbrev l4:PX:=.l 4
abbrev l5:PX:=.l 5
abbrev l6:PX:=.l 6
abbrev l7:PX:=.l 7
abbrev l8:PX:=.l 8
abbrev l9:PX:=.l 9
abbrev CX:PX:=.l 10
abbrev CW:PX:=.l 11
abbrev C5:PX:=.l 12
abbrev C3:PX:=.l 13
abbrev Dp:PX:=.l 14
abbrev DB:PX:=.l 15
abbrev DL:PX:=.l 16
abbrev DP:PX:=.l 17
abbrev E0:PX:=.l 18
abbrev Ei:PX:=.l 19
abbrev F1:PX:=.l 20
abbrev Ea:PX:=.l 21
abbrev F3:PX:=.l 22
abbrev Gz:PX:=.l 23
abbrev DZ:PX:=.l 24
abbrev If:PX:=.l 25
abbrev GV:PX:=.l 26
abbrev GA:PX:=.l 27
abbrev IW:PX:=.l 28
abbrev Ig:PX:=.l 29
abbrev ME:PX:=.l 30
abbrev MF:PX:=.l 31
abbrev Kn:PX:=.l 32
abbrev IA:PX:=.l 33
abbrev MG:PX:=.l 34
abbrev MH:PX:=.l 35
abbrev MI:PX:=.l 36
abbrev Hd:PX:=.l 37
abbrev W7:PX:=.l 38
abbrev W8:PX:=.l 39
abbrev W9:PX:=.l 40
abbrev Xa:PX:=.l 41
abbrev l42:PX:=.l 42
abbrev l43:PX:=.l 43
abbrev LV:PX:=.l 44
abbrev l45:PX:=.l 45
abbrev l46:PX:=.l 46
abbrev l47:PX:=.l 47
abbrev l48:PX:=.l 48
abbrev l49:PX:=.l 49
abbrev l50:PX:=.l 50
abbrev Rw:PX:=.l 51
abbrev l52:PX:=.l 52
abbrev l53:PX:=.l 53
abbrev l54:PX:=.l 54
abbrev l55:PX:=.l 55
abbrev MQ:PX:=.l 56
abbrev l57:PX:=.l 57
abbrev l58:PX:=.l 58
abbrev l59:PX:=.l 59
abbrev l60:PX:=.l 60
abbrev l61:PX:=.l 61
abbrev l62:PX:=.l 62
abbrev MS:PX:=.l 63
abbrev l64:PX:=.l 64
abbrev l65:PX:=.l 65
abbrev l66:PX:=.l 66
abbrev l67:PX:=.l 67
abbrev l68:PX:=.l 68
abbrev l69:PX:=.l 69
abbrev T:PX:=.c (.bool true)
abbrev F:PX:=.c (.bool false)
abbrev k(n:Int):PX:=.c (I6 n)
abbrev p(o:POp):PO:=⟨.l,o,none⟩
abbrev q(i:Nat)(o:POp):PO:=⟨.v i,o,none⟩
abbrev r(o:POp):PO:=⟨.n,o,none⟩
abbrev t(i:Nat)(x:PX):PO:=⟨.v i,.take x,none⟩
abbrev g1(o:POp)(x:PX):PO:=⟨.l,o,some (x,true)⟩
abbrev g0(o:POp)(x:PX):PO:=⟨.l,o,some (x,false)⟩
abbrev G1(i:Nat)(o:POp)(x:PX):PO:=⟨.v i,o,some (x,true)⟩
abbrev G0(i:Nat)(o:POp)(x:PX):PO:=⟨.v i,o,some (x,false)⟩
abbrev m(x:PX):PO:=⟨.l,.mov x,none⟩
abbrev a(o:Nat)(x:PX):PO:=⟨.l,.faddr o x,none⟩
abbrev d(x:PX):PO:=⟨.l,.load 1 false x false,none⟩
abbrev D(n:Nat)(x:PX):PO:=⟨.l,.load n true x false,none⟩
abbrev e(x:PX):PO:=⟨.l,.h (.load 1 false x false),none⟩
abbrev e2(n:Nat)(x:PX):PO:=⟨.l,.h (.load n true x false),none⟩
abbrev c(x:PX):PO:=⟨.l,.h (.loadc 1 false x),none⟩
abbrev C(n:Nat)(x:PX):PO:=⟨.l,.h (.loadc n true x),none⟩
abbrev n(x:PX):PO:=⟨.l,.len false x,none⟩
abbrev b(o:BinOp)(x y:PX):PO:=⟨.l,.bin o x y,none⟩
abbrev i(s:Nat)(x y:PX):PO:=⟨.l,.iaddrS s x y,none⟩
abbrev f(j:Nat)(xs:List PX):PO:=⟨.l,.pcall j xs,none⟩
abbrev fb(j:Nat)(g:List PX):PO:=⟨.l,.h (.bcall j g),none⟩
abbrev fh(j:Nat)(g:List PX):PO:=⟨.l,.h (.call j g),none⟩
abbrev R:=PC.region
abbrev B:=PC.branch
abbrev E:=PC.bregion
abbrev H:=PC.bbranch
abbrev S:=PC.seq
abbrev K:=PC.block
abbrev X:=PC.exit
abbrev Z:=PC.skip
abbrev Y:=PC.ret
abbrev aA(a:Nat)(b:PX):PO:=q a (.mov b)
abbrev aB(a:PX):PO:=p (.h (.nilchk a))
abbrev aC(a:Nat):PO:=q a (.mov (k 0))
abbrev aD(a:Nat)(b:PX):PO:=q a (.len false b)
abbrev aE(a:PX):PO:=p (.take a)
abbrev aF(a:PX)(b:PX):PO:=r (.store 2 true a b)
abbrev aG(a:PX)(b:PX):PO:=g1 (.mov a) b
abbrev aH(a:Nat)(b:PX):PO:=q a (.load 1 false b false)
abbrev aI(a:PX)(b:PX):PO:=g0 (.load 1 false a false) b
abbrev aJ(a:PX)(b:PX):PO:=p (.pick a T b)
abbrev aK(a:PX):PO:=p (.extract 1 a)
abbrev aL(a:PX)(b:PX):PO:=p (.pick a b F)
abbrev aM(a:PX):PO:=p (.extract 0 a)
abbrev aN(a:PX)(b:PX):PO:=g0 (.mov a) b
abbrev aO(a:PX)(b:PX):PO:=r (.store 6 true a b)
abbrev aP(a:PX)(b:PX):PO:=r (.h (.store 1 false a b))
abbrev aQ(a:PX):PO:=p (.un .not a)
abbrev aR(a:PX)(b:PX):PO:=r (.store 3 true a b)
abbrev aS(a:PX)(b:PX):PO:=g1 (.load 1 false a false) b
abbrev aT(a:Nat):PO:=q a (.newloc [I6 0,I6 0,I6 0,I6 0,.str [],Lt []])
abbrev aU(a:Nat)(b:PX):PO:=q a (.boxloc 6 b)
abbrev aV(a:Nat):PO:=q a (.newloc [I6 0,I6 0])
abbrev aW(a:PX)(b:PX):PO:=r (.store 1 false a b)
abbrev aX(a:Nat):PO:=q a (.newloc [.str [],I6 0,Lt []])
abbrev aY(a:PX)(b:PX):PO:=r (.store 8 true a b)
abbrev aZ(a:Nat)(b:PX):PO:=q a (.boxloc 2 b)
abbrev bA(a:PX)(b:PX):PO:=g0 (.un .not a) b
abbrev bB(a:PX):PO:=p (.mkslice 1 (.str []) 1 [(0,a)])
abbrev bC(a:Nat)(b:PX):PO:=q a (.boxloc 1 b)
abbrev bD(a:PX)(b:PX):PO:=g0 (.faddr 1 a) b
abbrev bE(a:PX)(b:PX):PO:=p (.h (.callv a [b]))
abbrev bF(a:Nat)(b:PX):PO:=q a (.boxloc 8 b)
abbrev bG(a:Nat):PO:=q a (.newloc [.str [],Lt [],Lt [],Lt [],Lt [],Lt [],Lt [],Lt []])
abbrev bH(a:Nat):PO:=q a (.newloc [Lt [],I6 0,I6 0,I6 0,I6 0,.str [],Lt []])
abbrev bI(a:PX)(b:PX):PO:=r (.store 7 true a b)
abbrev bJ(a:PX)(b:PX):PO:=g0 (.faddr 2 a) b
abbrev bK(a:PX)(b:PX):PO:=g1 (.len false a) b
abbrev bL(a:PX):PO:=p (.h (.load 1 false a true))
abbrev bM(a:Nat):PO:=q a (.newloc [.str [],Lt [],Lt [],Lt [],Lt [],Lt []])
abbrev bN(a:Nat):PO:=q a (.newloc [Lt [],Lt []])
abbrev bO(a:PX):PO:=p (.len true a)
abbrev bP(a:PX)(b:PX):PO:=r (.store 5 true a b)
abbrev bQ(a:PX)(b:PX):PO:=p (.append 1 16 a b)
abbrev bR(a:PX)(b:PX):PO:=p (.h (.lookup false false false [.s] (.bool false) a b))
abbrev bS(a:Nat)(b:PX):PO:=q a (.boxloc 3 b)
abbrev bT(a:Nat)(b:PX):PO:=q a (.boxloc 4 b)
abbrev bU(a:PX)(b:PX):PO:=g0 (.h (.loadc 1 false a)) b
abbrev bV(a:Nat):PO:=q a (.newloc [I6 0,I6 0,I6 0,I6 0,.str [],Lt [],I6 0,.bool false])
abbrev bW(a:PX)(b:PX)(c:PX):PO:=p (.h (.callv a [b,c]))
abbrev bX:PO:=p (.build [I6 0,I6 0] [])
abbrev bY(a:PX)(b:PX)(c:PX):PO:=g0 (.bin .neq a b) c
abbrev bZ(a:Nat):PO:=q a (.newloc [Lt []])
abbrev cA(a:PX)(b:PX):PO:=r (.store 1 true a b)
abbrev cB(a:Nat)(b:PX):PO:=q a (.h (.boxobj 1 b))
abbrev cC(a:PX)(b:PX):PO:=g1 (.faddr 3 a) b
abbrev cD(a:Nat):PO:=q a (.newloc [.str [],I6 0,I6 0])
abbrev cE(a:PX)(b:PX):PO:=g0 (.faddr 0 a) b
abbrev cF(a:PX)(b:PX):PO:=g0 (.faddr 3 a) b
abbrev cG(a:PX):PO:=p (.mkslice 3 (.agg [.str [],I6 0,Lt []]) 1 [(0,a)])
abbrev cH(a:PX)(b:PX):PO:=p (.indexStr a b)
abbrev cI(a:PX)(b:PX)(c:PX):PO:=g0 (.pick a b F) c
abbrev cJ(a:PX):PO:=p (.mkslice 6 (.agg [I6 0,I6 0,I6 0,I6 0,.str [],Lt []]) 1 [(0,a)])
abbrev cK(a:Nat):PO:=q a (.newloc [.str [],Lt []])
abbrev cL:PO:=p (.h (.mkmap))
abbrev cM(a:PX)(b:PX):PO:=g1 (.faddr 2 a) b
abbrev cN(a:PX):PO:=p (.mkslice 1 (I6 0) 1 [(0,a)])
abbrev cO(a:PX)(b:PX):PO:=p (.append 3 48 a b)
abbrev cP(a:PX):PO:=p (.loadv 5 1 false a)
abbrev cQ(a:PX)(b:PX):PO:=r (.h (.store 2 true a b))
abbrev cR(a:PX)(b:PX):PO:=g1 (.faddr 1 a) b
abbrev cS(a:Nat)(b:PX):PO:=q a (.h (.call 81 [b]))
abbrev cT(a:PX)(b:PX):PO:=g0 (.faddr 4 a) b
abbrev cU(a:PX)(b:PX):PO:=g1 (.bin .eql a (k 0)) b
abbrev cV(a:PX)(b:PX):PO:=g0 (.faddr 5 a) b
abbrev cW(a:Nat):PO:=q a (.h (.newobj [I6 0]))
abbrev cX:PO:=p (.build [I6 0,I6 0] [(0,1,(k (-1))),(1,1,(k (-1)))])
abbrev cY(a:PX)(b:PX):PO:=r (.h (.mset false [.s] a b T))
abbrev cZ(a:Nat)(b:PX):PO:=q a (.h (.load 1 false b false))
abbrev dA(a:PX):PO:=p (.h (.isnil 0 false a))
abbrev dB(a:PX)(b:PX):PO:=g0 (.len false a) b
abbrev dC(a:PX)(b:PX):PO:=g1 (.h (.loadc 1 false a)) b
abbrev dD(a:PX):PO:=p (.load 1 false a true)
abbrev dE(a:PX)(b:PX):PO:=p (.append 8 184 a b)
abbrev dF(a:PX)(b:PX):PO:=p (.build [Lt [],I6 0,I6 0,I6 0,I6 0,.str [],Lt []] [(0,1,a),(1,6,b)])
abbrev dG(a:PX):PO:=r (.h (.store 1 false a (k 0)))
abbrev dH:PO:=p (.build [Lt [],Lt []] [])
abbrev dI(a:PX)(b:PX):PO:=p (.build [I6 0,I6 0] [(0,1,a),(1,1,b)])
abbrev dJ(a:PX)(b:PX):PO:=r (.h (.storer 1 false a b))
abbrev dK(a:PX)(b:PX):PO:=p (.slice false 1 a none (some b))
abbrev dL(a:PX)(b:PX):PO:=p (.build [.bool false,.bool false,.bool false,.bool false,.bool false] [(0,1,a),(2,1,b)])
abbrev dM(a:PX)(b:PX):PO:=p (.build [.bool false,.bool false,.bool false,.bool false,.bool false] [(0,1,a),(2,1,b),(3,1,T)])
abbrev dN(a:Nat):PO:=q a (.newloc [I6 0])
abbrev dO(a:PX)(b:PX):PO:=p (.h (.happ 1 false 8 a b))
abbrev dP(a:PX)(b:PX):PO:=p (.mkslice 6 (.agg [I6 0,I6 0,I6 0,I6 0,.str [],Lt []]) 2 [(0,a),(1,b)])
abbrev dQ(a:PX):PO:=p (.mkslice 7 (.agg [Lt [],I6 0,I6 0,I6 0,I6 0,.str [],Lt []]) 1 [(0,a)])
abbrev dR(a:PX):PO:=p (.mkslice 8 (.agg [.str [],Lt [],Lt [],Lt [],Lt [],Lt [],Lt [],Lt []]) 1 [(0,a)])
abbrev dS(a:PX):PO:=p (.mkslice 3 (.agg [.str [],I6 0,I6 0]) 1 [(0,a)])
abbrev dT(a:PX)(b:PX):PO:=p (.h (.lookup true false true [.i,.s] (I6 0) a b))
abbrev dU(a:PX):PO:=p (.build [I6 0,I6 0] [(0,1,a),(1,1,(k (-1)))])
abbrev dV(a:PX):PO:=r (.h (.store 1 false a (k (-1))))
abbrev dW(a:PX):PO:=p (.mkslice 1 (Lt []) 1 [(0,a)])
abbrev dX(a:PX):PO:=p (.h (.mkfresh 1 false 8 [I6 0] a))
abbrev dY(a:Nat):PO:=q a (.newloc [Lt [],Lt [],I6 0,Lt []])
abbrev dZ(a:PX):PO:=p (.build [I6 0,I6 0,I6 0,I6 0,.str [],Lt []] [(0,1,(k 7)),(5,1,a)])
abbrev eA(a:PX)(b:PX):PO:=p (.build [.str [],I6 0,Lt []] [(0,1,a),(1,1,b)])
abbrev eB(a:PX)(b:PX):PO:=p (.build [I6 0,I6 0,I6 0,I6 0,.str [],Lt [],I6 0,I6 0,I6 0,I6 0,.str [],Lt []] [(0,6,a),(6,6,b)])
abbrev eC(a:PX):PO:=p (.mkslice 12 (.agg [I6 0,I6 0,I6 0,I6 0,.str [],Lt [],I6 0,I6 0,I6 0,I6 0,.str [],Lt []]) 1 [(0,a)])
abbrev eD(a:Nat):PO:=q a (.h (.newobj [.str [],Lt [],Lt [],Lt [],Lt [],Lt [],Lt [],Lt []]))
abbrev eE(a:Nat):PO:=q a (.newloc [.bool false,.bool false,.bool false,.bool false,.bool false])
abbrev eF(a:PX):PO:=p (.build [Lt [],Lt [],Lt [],Lt []] [(0,2,a)])
abbrev eG:PO:=p (.build [I6 0,I6 0,I6 0,I6 0,.str [],Lt []] [(0,1,(k 1)),(2,1,(k 2))])
abbrev eH(a:PX)(b:PX)(c:PX):PO:=p (.mkslice 6 (.agg [I6 0,I6 0,I6 0,I6 0,.str [],Lt []]) 3 [(0,a),(1,b),(2,c)])
abbrev eI(a:PX):PO:=p (.build [I6 0,I6 0,I6 0,I6 0,.str [],Lt []] [(0,1,(k 4)),(5,1,a)])
abbrev eJ(a:PX):PO:=p (.build [.str [],I6 0,Lt []] [(0,1,a),(1,1,(k 1))])
abbrev eK:PO:=r (.anyo [[],[],[],[2],[3],[4],[],[1,5,6],[],[8],[9],[10],[11],[0,7,12,7]] [[6],[6],[6],[],[],[],[0,1,2,8],[11],[6],[],[],[7],[],[]])
abbrev LP(i n x y:Nat)(c:PC):PC:=.loop (S (B [b .lss (.v i) (.v n)] l0 Z (X x)) (S (K y c) (R [b .add (.v i) (k 1),q i (.mov l0)])))
abbrev PF(n m:Nat)(c:PC)(r:List PRes):PFunc:=⟨n,m,c,r,false,none,none⟩
abbrev Wr(l:List PO)(c:PC):PC:=S (R l) c
abbrev n0:PX:=.c (.list true [])
abbrev k0:PX:=k 0
abbrev k1:PX:=k 1
abbrev k2:PX:=k (-1)
end PI.Short
namespace PI.Shorter
open Go(IntKind BinOp UnOp)
abbrev g:PFunc->Option PFunc:=some
abbrev h:Option PFunc:=none
abbrev j:PX:=Short.l0
abbrev l(l:List PO)(c:PC):PC:=Short.Wr l c
abbrev o:PX:=Short.l1
abbrev s:PX:=Short.l2
abbrev u:PX:=Short.l3
abbrev v:PX:=Short.v0
abbrev w:PX:=Short.l4
abbrev x:PX:=Short.v3
abbrev y:PX:=Short.v1
abbrev z:PX:=Short.v2
abbrev A:PX:=Short.l5
abbrev G:PX:=Short.v4
abbrev I:PX:=Short.k0
abbrev J:PX:=Short.l6
abbrev M(n m:Nat)(c:PC)(r:List PRes):PFunc:=Short.PF n m c r
abbrev N:PX:=Short.v5
abbrev O:PX:=Short.v6
abbrev P:PX:=Short.l7
abbrev Q(a:PX):PO:=Short.aB a
abbrev U:PX:=Short.l8
abbrev V:PX:=Short.v7
end PI.Shorter
namespace PI.Sc
open Go(IntKind BinOp UnOp)
open Short Shorter
def VA:=LP 17 16 2 3 (l [i 1 EJ Ge,c j,t 9 o] (E [m O,m v9,p (.build [I6 0,.str []] [(0,1,I),(1,1,o)]),m V,fb 28 [j,s,u]]))
def VB:=LP 14 13 0 1 (l [m DU,i 2 Du DU,C 2 o,cK 8,t 7 j,aF v8 s] (S (E [m O,a 0 v8,d o,p (.build [I6 0,.str []] [(0,1,(k 2)),(1,1,s)]),m V,fb 28 [j,u,w]]) (l [a 1 v8,aH 15 j,aD 16 EJ,aC 17] (K 2 VA))))
def b14:=LP 19 18 4 5 (l [m Ji,t 10 j] (E [m O,m Dh,fb 29 [j,o]]))
def Qw:=M 1 20 (l [aZ 1 v,q 2 (.h (.newobj [I6 0,I6 0])),cW 3] (S (l [D 2 y,f 23 [j],m o,aM s,aK s,aV 4,aF G u,t 5 w] (B [m N,b .neq j I] o (l [D 2 G,m N,cQ z j,aP x o] Y) Z)) (.guarded 27 [z,x] (l [D 2 y,cX,cL,p (.build [Lt [],Lt [],I6 0,I6 0,.map none] [(0,2,j),(2,2,o),(4,1,s)]),q 11 (.h (.boxobj 5 u)),t 6 Dw] (S (l [a 0 y,aH 12 j,aD 13 Du,aC 14] (K 0 VB)) (S (l [a 1 y,d j,aD 18 o,aC 19] (K 4 b14)) (l [bX,cQ z j,dG x] Y))))))) [.cell 2 2 true,.cell 3 1 false]
def b7b:PC:=(.loop (S (B [m x,m v,n o,b .lss j s] u Z (X 0)) (S (K 1 (B [m v,m x,i 3 j o,a 0 s,c u,m y,m x,i 3 A J,a 0 P,c U,b .neq w l9,m CX,aN v CW,aN x CW,g0 (.iaddrS 3 C5 C3) CW,bD Dp CW,bU DB CW,aN y CW,aN x CW,g0 (.iaddrS 3 DP E0) CW,bD Ei CW,bU F1 CW,bY DL Ea CW,aJ CW F3,m Gz,aN v DZ,aN x DZ,g0 (.iaddrS 3 If GV) DZ,bJ GA DZ,bU IW DZ,aN y DZ,aN x DZ,g0 (.iaddrS 3 ME MF) DZ,bJ Kn DZ,bU IA DZ,g0 (.pcall 32 [Ig,MG]) DZ,bA MH DZ,aJ DZ MI] Hd (l [t 2 F] Y) Z)) (R [m x,b .add j k1,t 3 o]))))
def b4V:=M 2 4 (l [t 2 F] (S (B [m v,n j,m y,n s,b .neq o u] w (l [t 2 F] Y) Z) (S (l [t 3 I] (K 0 b7b)) (l [t 2 T] Y)))) [.var 2]
def VF:=LP 8 7 0 1 (l [m v8,i 3 O v8,e2 3 o,aX 5,t 4 j,aR N s] (R [m x,m G,a 2 N,d s,f 34 [u],i 3 j o,a 2 A,aP J w]))
def Ra:=M 1 9 (l [bF 1 v,t 2 n0] (l [a 1 y,d j,a 2 y,d s,a 3 y,d w,p (.mkslice 1 (Lt []) 3 [(0,o),(1,u),(2,A)]),fh 33 [J],t 3 P] (S (l [aA 6 x,aD 7 O,aC 8] (K 0 VF)) (l [m x,t 2 j] Y)))) [.var 2]
def UW:=M 1 3 (l [bF 1 v,t 2 (.c .nils)] (l [a 4 y,d j,a 5 y,d s,f 35 [(.c .nils),o,u],t 2 w] Y)) [.var 2]
def b7c:=LP 11 10 0 1 (l [i 2 v9 Dw,C 2 j,cK 5,aF N o] (E [m G,D 2 N,fb 50 [j,o]]))
def b7d:=LP 14 13 2 3 (l [m DU,i 8 Du DU,C 8 o,bG 7,t 6 j,aY V s] (E [m G,m O,D 8 V,fb 51 [j,o,s]]))
def VG:=M 1 15 (l [aZ 1 v,q 2 (.h (.newobj [I6 0,I6 0])),cW 3] (.guarded 48 [z,x] (l [a 0 y,d j,cX,p (.build [Lt [],I6 0,I6 0] [(0,1,o),(1,2,s)]),q 8 (.h (.boxobj 3 u)),t 4 v8] (S (E [m G,a 0 y,d o,n s,b .leq u (k 24),m w,cR y A,aS J A,bK P A,g1 (.bin .leq U (k 96)) A,aL A l9,fb 49 [j,CX,(k 3)]]) (S (l [a 0 y,aH 9 j,aD 10 v9,aC 11] (K 0 b7c)) (S (l [a 1 y,aH 12 j,aD 13 Du,aC 14] (K 2 b7d)) (l [bX,cQ z j,dG x] Y))))))) [.cell 2 2 true,.cell 3 1 false]
def Oi:PFunc:={params:=2,nv:=2,code:=.exit 0,results:=[],defer:=some (I7 1)}
def Rb:=M 3 5 (l [aZ 3 y] (l [m v,Q j,a 4 o,e s,D 2 x,dT u w,m A,aM J,aK J,aE P,t 4 U] (S (E [m v,m G,aQ o,fb 57 [j,s,(k 7)]]) (R [m v,Q j,a 4 o,e s,D 2 x,m z,r (.h (.mset true [.i,.s] u w A))])))) []
def Vr:=LP 11 10 0 1 (l [i 3 v9 Dw,C 3 j,aX 4,aR G o] (R [m x,Q j,a 3 o,e s,a 0 G,d w,cY u A]))
def Vs:=LP 14 13 2 3 (l [m DU,i 7 Du DU,C 7 o,bH 6,t 5 j,bI O s] (l [m v,m N,Q j,a 2 s,a 1 u,aP w o] (E [m v,m y,m x,D 7 O,fb 61 [j,o,s,u]])))
def Vt:=LP 17 16 4 5 (l [i 1 EJ Ge,C 1 j,bZ 7,cA V o] (E [m v,m y,m x,D 1 V,fb 62 [j,o,s,u]]))
def Vv:=LP 20 19 6 7 (l [i 3 Gn Hy,C 3 j,aX 8,aR v8 o] (E [m v,m x,Q o,a 2 s,e u,a 0 v8,d A,bR w J,fb 57 [j,P,(k 8)]]))
def MC:=M 2 21 (l [m v,Q j,a 0 o,a 1 s,e u,m y,i 8 w A,C 8 J,eD 2,r (.h (.store 8 true z P))] (l [m v,m y,dU o,Q j,a 2 u,cQ w s] (S (E [m v,a 0 z,e o,p (.build [I6 0,.str []] [(0,1,k1),(1,1,s)]),m y,fb 28 [j,u,w]]) (l [fh 58 [(.c (.nilptr))],t 3 j] (l [m x,cL,Q j,a 3 s,aP u o] (S (E [m v,m x,e2 8 z,f 11 [s],fb 59 [j,o,u]]) (S (E [m v,m x,a 3 z,e s,fb 60 [j,o,u]]) (S (l [a 1 z,cZ 9 j,aD 10 v9,aC 11] (K 0 Vr)) (S (l [a 4 z,cZ 12 j,aD 13 Du,aC 14] (K 2 Vs)) (l [m v,Q j,a 2 o,a 1 s,dV u] (S (l [a 5 z,cZ 15 j,aD 16 EJ,aC 17] (K 4 Vt)) (S (E [m v,m y,a 6 z,e s,a 1 z,e w,dW A,fb 63 [j,o,u,J]]) (S (E [m v,m y,a 7 z,e s,a 1 z,e w,a 2 z,e J,p (.mkslice 1 (Lt []) 2 [(0,A),(1,P)]),fb 63 [j,o,u,U]]) (l [e2 8 z,f 11 [j],a 1 z,e s,n u,q 18 (.slice false 3 o (some w) none),aD 19 Gn,aC 20] (K 6 Vv))))))))))))))) []
def b5T:PC:=(.loop (S (B [m x,m v,n o,b .lss j s] u Z (X 0)) (S (K 1 (B [m v,m x,i 3 j o,C 3 s,m y,m x,i 3 w A,C 3 J,p (.eq true true [.s,.i,.i] u P)] U (l [t 2 F] Y) Z)) (R [m x,b .add j k1,t 3 o]))))
def b33:=M 2 4 (l [t 2 F] (S (B [m v,n j,m y,n s,b .neq o u] w (l [t 2 F] Y) Z) (S (l [t 3 I] (K 0 b5T)) (l [t 2 T] Y)))) [.var 2]
def a9e:=LP 8 7 0 1 (l [i 1 O v8,c j,t 3 o] (l [m z,m x,n o,b .add j s,t 2 u] (B [m z,b .lss j I] o (R [m (.c .dead),r (.mov (.c .dead))]) Z)))
def a9f:=LP 11 10 2 3 (l [i 1 v9 Dw,c j,t 5 o] (R [aE G,m N,p (.h (.happ 3 true 48 j o)),t 4 s]))
def a6l:=M 1 12 (l [t 1 (.c .nils)] (l [t 2 I] (S (l [aA 6 v,aD 7 O,aC 8] (K 0 a9e)) (l [m z,fh 74 [(.c .nils),j],t 4 o] (S (l [aA 9 v,aD 10 v9,aC 11] (K 2 a9f)) (l [m G,t 1 j] Y)))))) [.keep 1]
def Rc:PFunc:=⟨1,2,(l [t 1 n0] (S (B [m v,dA j] o (l [t 1 n0] Y) Z) (l [p (.mkslice 3 (.agg [.str [],I6 0,I6 0]) 0 []),m v,p (.append 3 32 j o),t 1 s] Y))),[.var 1],true,none,none⟩
def b0b:=LP 16 15 2 3 (l [i 1 DU F4,e j,t 7 o] (R [m N,m V,bE j o]))
def b0c:=LP 13 12 0 1 (l [i 7 Dw D3,C 7 j,bH 6,bI O o] (l [a 0 O,aH 14 j,aD 15 DU,aC 16] (K 2 b0b)))
def b0d:=LP 22 21 6 7 (l [i 1 Hy MJ,e j,q 10 (.newloc [.str []]),aW Dh o] (B [a 1 v9,d j,p (.h (.mkfunc 77 [] [Dh])),fh 76 [o,s],aQ u] w (R [m N,d Dh,bE j o]) Z))
def b0e:=LP 19 18 4 5 (l [i 1 Ge Ji,C 1 j,bZ 8,cA v8 o] (S (B [a 0 v8,d j,n o,b .eql s I] u (X 5) Z) (l [a 0 v8,d j,i 6 o I,C 6 s,bM 9,aO v9 u] (l [a 2 v9,d j,a 3 v9,d s,q 20 (.pcall 35 [(.c .nils),o,u]),aD 21 Hy,aC 22] (K 6 b0d)))))
def U7:=M 3 23 (l [cB 3 v,t 4 (.c .nils)] (l [p (.h (.mkfunc 75 [] [x])),t 5 j] (S (l [aA 11 y,aD 12 Dw,aC 13] (K 0 b0c)) (S (l [aA 17 z,aD 18 Ge,aC 19] (K 4 b0e)) (l [e x,t 4 j] Y))))) [.var 4]
def b5U:PFunc:={params:=1,nv:=1,code:=.skip,results:=[],prim:=some MK}
def b9F:PFunc:={params:=1,nv:=1,code:=.skip,results:=[],prim:=some NK}
def VH:PFunc:={params:=2,nv:=2,code:=.exit 0,results:=[],defer:=some (I7 2)}
def Rd:=M 3 3 (B [m y,aQ j] o (.raise [m v,Q j,a 1 o,e2 2 s,m z,p (.build [I6 0,I6 0,I6 0] [(0,2,u),(2,1,w)])] 2 A) Z) []
def b3N:=LP 6 5 0 1 (l [i 1 G O,c j,t 3 o] (E [m v,m x,fb 89 [j,o]]))
def ML:=M 2 7 (l [aZ 2 y] (S (E [m v,a 0 z,d o,fb 89 [j,s]]) (S (E [m v,a 1 z,d o,n s,b .gtr u I,fb 49 [j,w,(k 8)]]) (S (E [m v,a 1 z,d o,n s,b .leq u (k 16),fb 49 [j,w,(k 3)]]) (l [a 1 z,aH 4 j,aD 5 G,aC 6] (K 0 b3N)))))) []
def b3O:=LP 11 10 0 1 (l [m Dw,i 7 v9 Dw,C 7 o,bH 5,t 4 j,bI N s] (l [m v,m G,Q j,a 1 s,a 1 u,aP w o] (E [m v,D 7 N,fb 91 [j,o]])))
def b3P:=LP 14 13 2 3 (l [i 1 Du DU,C 1 j,bZ 6,cA O o] (E [m v,D 1 O,fb 92 [j,o,I]]))
def b3Q:=LP 17 16 4 5 (l [i 6 EJ Ge,C 6 j,aT 7,aO V o] (E [m v,m v,Q o,a 0 s,e u,D 6 V,f 94 [w,A],fb 93 [j,J]]))
def b3R:=LP 20 19 6 7 (l [i 6 Gn Hy,C 6 j,aT 8,aO v8 o] (E [m v,m v,Q o,a 0 s,e u,D 6 v8,f 94 [w,A],fb 93 [j,J]]))
def VI:=M 3 21 (l [bF 3 z] (l [m v,m y,dU o,Q j,a 1 u,cQ w s] (S (E [m v,a 0 x,d o,fb 89 [j,s]]) (S (E [m v,a 1 x,d o,n s,a 2 x,d w,n A,p (.minmax true [u,J]),b .leq P (k 64),m U,cC x l9,aS CX l9,bK CW l9,g1 (.bin .leq C5 (k 256)) l9,aL l9 C3,m Dp,g1 (.faddr 4 x) DB,aS DL DB,bK DP DB,g1 (.bin .leq E0 (k 256)) DB,aL DB Ei,m F1,g1 (.faddr 5 x) Ea,aS F3 Ea,bK Gz Ea,g1 (.bin .leq DZ (k 8)) Ea,aL Ea If,m GV,g1 (.faddr 6 x) GA,aS IW GA,bK Ig GA,g1 (.faddr 7 x) GA,aS MF GA,bK Kn GA,g1 (.minmax true [ME,IA]) GA,g1 (.bin .leq MG (k 8)) GA,aL GA MH,fb 49 [j,MI,(k 3)]]) (S (E [m v,a 2 x,d o,n s,b .gtr u I,fb 49 [j,w,(k 8)]]) (S (E [m v,a 1 x,d o,fb 90 [j,s,T]]) (S (E [m v,a 2 x,d o,fb 90 [j,s,T]]) (S (E [m v,a 3 x,d o,fb 90 [j,s,F]]) (S (l [a 4 x,aH 9 j,aD 10 v9,aC 11] (K 0 b3O)) (l [m v,Q j,a 1 o,a 1 s,dV u] (S (l [a 5 x,aH 12 j,aD 13 Du,aC 14] (K 2 b3P)) (S (l [a 6 x,aH 15 j,aD 16 EJ,aC 17] (K 4 b3Q)) (l [a 7 x,aH 18 j,aD 19 Gn,aC 20] (K 6 b3R)))))))))))))) []
def Re:=M 3 3 (B [m y,aQ j] o (.raise [m v,Q j,a 2 o,e2 2 s,m z,p (.build [I6 0,I6 0,I6 0] [(0,2,u),(2,1,w)])] 1 A) Z) []
def Of:=M 1 3 (l [t 1 (.c (.nilptr))] (l [m v,cL,cL,p (.build [.nilptr,.map none,.map none,.map none,Lt []] [(0,1,j),(1,1,o),(2,1,s)]),q 2 (.h (.boxobj 5 u)),t 1 z] Y)) [.var 1]
def a6J:=LP 7 6 0 1 (l [i 3 N V,C 3 j,aX 3,aR x o] (l [m v,Q j,a 4 o,e s,a 0 x,d w,p (.build [I6 0,.str []] [(0,1,I),(1,1,A)]),dT u J,m P,aM U,aK U,aE l9,t 4 CX] (S (E [m v,m G,aQ o,m s,aG y u,g1 (.faddr 0 x) u,aS A u,g1 (.h (.call 97 [w,J])) u,g1 (.un .not P) u,aL u U,fb 57 [j,l9,(k 7)]]) (R [m y,Q j,a 1 o,e s,a 0 x,d w,cY u A]))))
def VJ:=M 3 8 (l [aA 5 z,aD 6 N,aC 7] (K 0 a6J)) []
def b0y:=LP 10 9 2 3 (l [i 3 v8 Dh,C 3 j,cD 4,aR G o] (E [m v,m y,a 0 G,d s,fh 97 [o,u],fb 57 [j,w,(k 6)]]))
def b0z:=LP 7 6 0 1 (l [i 3 N V,C 3 j,aX 3,aR x o] (l [a 2 x,aH 8 j,aD 9 v8,aC 10] (K 2 b0y)))
def VK:=M 3 11 (l [aA 5 z,aD 6 N,aC 7] (K 0 b0z)) []
def VL:=LP 8 7 0 1 (l [i 1 O v8,e j,t 5 o] (S (E [m v,m z,m N,fh 97 [o,s],fb 57 [j,u,(k 6)]]) (S (E [m v,m z,m N,fh 98 [o,s],aQ u,fb 57 [j,w,(k 7)]]) (l [m z,Q j,a 2 o,e s,m N,cY u w] (R [m z,m z,Q o,a 4 s,bL u,m N,bB A,p (.h (.happ 1 false 16 w J)),Q j,a 4 U,aP l9 P])))))
def VM:=M 4 9 (l [q 4 (.boxloc 7 x)] (S (l [a 0 G,aH 6 j,aD 7 O,aC 8] (K 0 VL)) (E [m v,m y,m z,a 1 G,D 6 u,a 0 G,d A,n J,fb 99 [j,o,s,w,P]]))) []
def VN:=LP 15 14 0 1 (l [m EJ,i 6 D3 EJ,C 6 o,bM 6,t 5 j,aO O s] (E [m v,a 0 G,d o,m N,p (.slice false 6 s none (some u)),p (.h (.mkfunc 101 [] [O])),f 100 [w,A],aQ J,fb 57 [j,P,(k 7)]]))
def VO:=LP 18 17 2 3 (l [m Gn,i 6 F4 Gn,C 6 o,bM 10,t 9 j,aO Dh s] (S (E [m v,m y,m z,D 6 Dh,fb 102 [j,o,s,u],t 11 w]) (S (B [m v9,b .eql j I] o (R [m Dw,t 7 j]) Z) (R [m v8,m j,aG Dw o,aG V o,g1 (.pcall 103 [s,u]) o,aL o w,t 8 A]))))
def VP:=LP 21 20 4 5 (l [i 1 Ji KX,e j,t 12 o] (R [m z,Q j,a 2 o,e s,m Du,cY u w]))
def VQ:=M 4 22 (l [bC 4 x] (S (l [a 0 G,aH 13 j,aD 14 D3,aC 15] (K 0 VN)) (l [t 7 n0] (l [t 8 T] (S (l [a 0 G,aH 16 j,aD 17 F4,aC 18] (K 2 VO)) (S (E [m v,m v8,fb 57 [j,o,(k 8)]]) (S (l [aA 19 V,aD 20 Ji,aC 21] (K 4 VP)) (R [m z,m z,Q o,a 4 s,bL u,m V,p (.h (.happ 1 false 16 w A)),Q j,a 4 P,aP U J])))))))) []
def Q4:=LP 9 8 0 1 (l [i 3 V v9,e2 3 j,aX 5,aR N o] (R [m G,Q j,a 1 o,e s,a 0 N,d w,cY u A]))
def Q6:=LP 12 11 2 3 (l [i 6 Dh Du,C 6 j,aT 6,aO O o] (E [m v,m y,m G,D 6 O,fb 99 [j,o,s,u,k1]]))
def MB:=M 4 13 (l [fh 58 [(.c (.nilptr))],t 4 j] (S (l [m x,q 7 (.h (.call 33 [j])),aD 8 V,aC 9] (K 0 Q4)) (l [aA 10 z,aD 11 Dh,aC 12] (K 2 Q6)))) []
def a7q:=M 2 3 (l [t 2 n0] (S (B [m y,b .lss j I] o (R [m (.c .dead),r (.mov (.c .dead))]) Z) (S (l [m y,m v,p (.cap o),m v,n u,b .sub s w,b .sub j A,t 1 J] (B [m y,b .gtr j I] o (R [m v,m v,p (.cap o),p (.slice false 3 j none (some s)),m y,p (.h (.happz 3 true 48 [.str [],I6 0,Lt []] u w)),m v,n J,p (.slice false 3 A none (some P)),t 0 U]) Z)) (l [m v,t 2 j] Y)))) [.keep 2]
def N6:=M 2 2 (B [e y,m v,fh 110 [j,o],aQ s] u (R [bL y,m v,bB o,p (.h (.happ 1 false 16 j s)),aP y u]) Z) []
def QR:=M 2 3 (l [t 2 F] (l [m v,m y,fh 111 [j,o],b .geq s I,t 2 u] Y)) [.var 2]
def U5:=M 2 4 (l [bS 2 v,t 3 F] (l [a 0 z,d j,d y,b .eql o s,t 3 u] Y)) [.var 3]
def VS:=M 1 3 (l [aU 1 v,t 2 (.c (.nilfunc))] (l [p (.h (.mkfunc 114 [] [y])),t 2 j] Y)) [.var 2]
def QK:=M 2 7 (l [aZ 2 v,bC 3 y,t 4 I,t 5 F] (l [a 1 z,d j,p (.h (.mkfunc 116 [] [x])),f 115 [o,s],t 6 u] (l [m O,p (.minmax true [j,I]),m O,b .geq s I,t 4 o,t 5 u] Y))) [.var 4,.var 5]
def VT:=M 2 2 (E [m v,m y,f 118 [o],fb 49 [j,s,(k 6)]]) []
def b2E:=LP 10 9 2 3 (l [i 3 v8 Dh,C 3 j,cD 4,aR G o] (S (E [m v,a 0 G,d o,fb 89 [j,s]]) (E [m v,a 1 G,d o,b .neq s (k 2),m u,aG v w,g1 (.h (.nilchk A)) w,g1 (.faddr 0 J) w,g1 (.h (.load 1 false P false)) w,cR G w,aS l9 w,cM G w,aS CW w,g1 (.pcall 120 [U,CX,C5]) w,aL w C3,fb 49 [j,Dp,(k 5)]])))
def b2F:=LP 7 6 0 1 (l [i 3 N V,C 3 j,aX 3,aR x o] (S (E [m v,a 0 x,d o,fb 89 [j,s]]) (S (E [m v,m v,Q o,a 0 s,e u,a 1 x,d A,f 119 [w,J],b .gtr P I,fb 49 [j,U,(k 10)]]) (S (E [m v,m z,aQ o,m s,bJ x u,aI w u,dB A u,g0 (.bin .eql J I) u,aJ u P,fb 49 [j,U,(k 11)]]) (S (E [m v,a 2 x,d o,n s,b .leq u (k 4),fb 49 [j,w,(k 3)]]) (l [a 2 x,aH 8 j,aD 9 v8,aC 10] (K 2 b2E)))))))
def VU:=M 3 11 (l [aA 5 y,aD 6 N,aC 7] (K 0 b2F)) []
def b0V:=LP 6 5 0 1 (l [i 1 G O,c j,t 3 o] (E [m v,m x,fb 89 [j,o]]))
def Ok:=M 2 7 (l [q 2 (.boxloc 7 y)] (S (E [m v,a 0 z,d o,n s,b .gtr u I,fb 49 [j,w,(k 8)]]) (S (E [m v,a 0 z,d o,n s,b .leq u (k 64),fb 49 [j,w,(k 3)]]) (S (l [a 0 z,aH 4 j,aD 5 G,aC 6] (K 0 b0V)) (S (E [m v,m v,Q o,a 0 s,e u,a 1 z,D 6 A,f 94 [w,J],fb 93 [j,P]]) (E [m v,a 0 z,d o,n s,b .eql u k1,m w,bD z A,cE J A,aI P A,g0 (.bin .eql U (k 10)) A,aJ A l9,fb 49 [j,CX,(k 5)]])))))) []
def b3S:=LP 12 11 2 3 (l [i 7 Dh Du,C 7 j,bH 5,bI N o] (E [m v,D 7 N,fb 91 [j,o]]))
def b3T:=LP 15 14 4 5 (l [i 1 D3 EJ,C 1 j,bZ 6,cA O o] (E [m v,D 1 O,m z,b .add s k1,fb 92 [j,o,u]]))
def b3U:=LP 9 8 0 1 (l [i 6 V v9,C 6 j,bM 4,aO G o] (S (E [m v,a 0 G,d o,fb 89 [j,s]]) (S (E [m v,a 1 G,d o,n s,b .leq u (k 256),m w,cM G A,aS J A,bK P A,g1 (.bin .leq U (k 256)) A,aL A l9,m CX,cC G CW,aS C5 CW,bK C3 CW,g1 (.bin .leq Dp (k 8)) CW,aL CW DB,m DL,g1 (.faddr 4 G) DP,aS E0 DP,bK Ei DP,g1 (.faddr 5 G) DP,aS Ea DP,bK F3 DP,g1 (.minmax true [F1,Gz]) DP,g1 (.bin .leq DZ (k 4)) DP,aL DP If,fb 49 [j,GV,(k 3)]]) (S (E [m v,a 1 G,d o,fb 90 [j,s,F]]) (S (l [a 2 G,aH 10 j,aD 11 Dh,aC 12] (K 2 b3S)) (S (l [a 3 G,aH 13 j,aD 14 D3,aC 15] (K 4 b3T)) (S (E [m v,a 4 G,d o,a 0 x,d u,n w,fb 121 [j,s,A,T]]) (E [m v,a 5 G,d o,a 0 x,d u,n w,fb 121 [j,s,A,F]]))))))))
def MM:=M 3 16 (l [bC 3 y] (S (E [m v,m z,b .lss o (k 3),fb 49 [j,s,(k 3)]]) (S (E [m v,a 0 x,d o,n s,b .gtr u I,fb 49 [j,w,(k 8)]]) (S (E [m v,a 0 x,d o,n s,b .leq u (k 8),fb 49 [j,w,(k 3)]]) (l [a 0 x,aH 7 j,aD 8 V,aC 9] (K 0 b3U)))))) []
def Rf:=M 2 2 (E [m v,m y,b .eql o I,m y,fb 49 [j,s,u]]) []
def Rg:=M 2 7 (l [cB 2 v,aU 3 y,cW 4] (S (l [D 6 x,f 122 [j],t 5 o] (B [m N,b .neq j I] o (l [m N,aP G j] Y) Z)) (S (l [D 6 x,cS 6 j] (K 0 (.rangeF O 189 [z,G]))) (l [dG G] Y)))) [.cell 4 1 false]
def Ol:PC:=(.loop (S (B [m v,p (.h (.isnil 1 true j))] o Z (X 0)) (S (K 1 (B [m v,Q j,a 1 o,e s,m y,bR u w] A (l [t 2 T] Y) Z)) (R [m v,Q j,a 0 o,e s,t 0 u]))))
def MN:=M 2 3 (l [t 2 F] (S (K 0 Ol) (l [t 2 F] Y))) [.var 2]
def Om:PC:=(.loop (S (B [m v,p (.h (.isnil 1 true j))] o Z (X 0)) (S (K 1 (B [m v,Q j,a 2 o,e s,m y,bR u w,m A,aN v J,g0 (.h (.nilchk P)) J,cF U J,g0 (.h (.load 1 false l9 false)) J,aN y J,g0 (.h (.lookup false false false [.s] (.bool false) CX CW)) J,aJ J C5] C3 (l [t 2 T] Y) Z)) (R [m v,Q j,a 0 o,e s,t 0 u]))))
def LO:=M 2 3 (l [t 2 F] (S (K 0 Om) (l [t 2 F] Y))) [.var 2]
def Oo:=M 5 11 (l [cB 5 v,cB 6 y,cB 7 z,aU 8 x,cB 9 G] (l [D 6 v8,cS 10 j] (K 0 (.rangeF Dh 190 [N,O,V,v9])))) []
def VV:=M 2 3 (l [t 2 F] (l [m v,m y,fh 125 [j,o],b .geq s I,t 2 u] Y)) [.var 2]
def VW:=M 2 4 (l [aU 2 v,t 3 F] (l [a 0 z,d j,a 0 y,d s,b .eql o u,t 3 w] Y)) [.var 3]
def VX:=LP 13 12 0 1 (l [i 3 Dw D3,C 3 j,aX 7,aR V o] (E [m v,d O,D 3 V,cG s,fb 59 [j,o,u]]))
def VY:=LP 16 15 2 3 (l [i 7 DU F4,C 7 j,bH 8,bI v8 o] (E [m v,m y,d O,D 7 v8,fb 61 [j,o,s,u]]))
def VZ:=LP 19 18 4 5 (l [i 1 Ge Ji,C 1 j,bZ 9,cA v9 o] (E [m v,m y,d O,D 1 v9,fb 62 [j,o,s,u]]))
def Wa:=LP 22 21 6 7 (l [i 3 Hy MJ,C 3 j,aX 10,aR Dh o] (E [m v,d O,Q o,a 2 s,e u,a 0 Dh,d A,bR w J,fb 57 [j,P,(k 8)]]))
def Wb:=M 4 23 (l [aU 4 x,t 5 n0] (l [m z,fh 58 [j],q 6 (.newloc [.nilptr]),aW O o] (S (l [a 1 G,aH 11 j,aD 12 Dw,aC 13] (K 0 VX)) (S (E [m v,d O,a 1 G,d s,fb 60 [j,o,u]]) (S (l [a 2 G,aH 14 j,aD 15 DU,aC 16] (K 2 VY)) (S (l [a 3 G,aH 17 j,aD 18 Ge,aC 19] (K 4 VZ)) (S (E [m v,m y,m z,a 4 G,d u,fb 126 [j,o,s,w]]) (S (E [m v,m y,d O,a 5 G,d u,fb 126 [j,o,s,w]]) (S (l [a 1 G,aH 20 j,aD 21 Hy,aC 22] (K 6 Wa)) (l [d O,Q j,a 4 o,e s,p (.h (.mkfunc 128 [] [O])),fh 127 [u,w],t 5 A] Y)))))))))) [.var 5]
def Rh:=M 2 4 (l [bC 2 y,t 3 F] (l [m v,n j,d z,n s,b .eql o u,m w,aG v A,g1 (.h (.mkfunc 130 [] [z])) A,g1 (.pcall 129 [J,P]) A,g1 (.un .not U) A,aL A l9,t 3 CX] Y)) [.var 3]
def N5:=M 2 3 (l [t 2 F] (l [m v,m y,fh 139 [j,o],b .geq s I,t 2 u] Y)) [.var 2]
def a76:=LP 5 4 0 1 (l [m N,t 3 j] (B [m y,m v,m x,i 3 o s,C 3 u,bE j w] A (l [m x,t 2 j] Y) Z))
def QH:=M 2 6 (l [t 2 I] (S (l [m v,aD 4 j,aC 5] (K 0 a76)) (l [t 2 k2] Y))) [.var 2]
def Oq:=M 2 2 (E [D 6 y,m v,fb 141 [j,o]]) []
def a3S:=LP 5 4 0 1 (l [m N,t 3 j] (B [m y,m v,m x,i 8 o s,C 8 u,bE j w] A (l [m x,t 2 j] Y) Z))
def QJ:=M 2 6 (l [t 2 I] (S (l [m v,aD 4 j,aC 5] (K 0 a3S)) (l [t 2 k2] Y))) [.var 2]
def UA:=M 2 4 (l [bF 2 v,t 3 F] (l [a 0 z,d j,d y,b .eql o s,t 3 u] Y)) [.var 3]
def b9G:=LP 4 3 0 1 (l [m G,t 2 j] (B [m v,m z,cH j o,f 144 [s],aQ u] w (l [t 1 F] Y) Z))
def LQ:=M 1 5 (l [t 1 F] (S (B [m v,b .eql j (.c (.str [])),m o,aN v s,g0 (.len true u) s,g0 (.bin .gtr w (k 40)) s,aJ s A,m J,aN v P,g0 (.indexStr U I) P,g0 (.pcall 142 [l9]) P,bA CX P,aJ P CW,m C5,aN v C3,g0 (.pcall 143 [Dp]) C3,aJ C3 DB] DL (l [t 1 F] Y) Z) (S (l [m v,q 3 (.len true j),aC 4] (K 0 b9G)) (l [t 1 T] Y)))) [.var 1]
def Ot:=M 2 5 (l [t 2 I] (S (l [aA 4 y] (K 0 (B [b .eql G k1,aE j] o (l [t 2 (k 2)] Y) (B [b .eql G (k 2),aE j] o (l [t 2 (k 65536)] Y) Z)))) (l [m v,m y,f 145 [j,o],m s,aM u,aK u,cK 3,aF x w,aE A] (l [a 1 x,d j,n o,t 2 s] Y)))) [.var 2]
def Ou:=M 3 4 (l [t 3 F] (S (B [m y,b .eql j (k 2)] o (l [m z,f 146 [j],t 3 o] Y) Z) (l [m z,b .geq j I,m o,aG z s,aG v s,aG y s,g1 (.pcall 119 [w,A]) s,g1 (.bin .lss u J) s,aL s P,t 3 U] Y))) [.var 3]
def a9j:=LP 7 6 0 1 (l [i 8 N V,C 8 j,bV 4,aY G o] (S (E [m v,a 6 G,d o,b .geq s I,m u,g1 (.faddr 6 G) w,aS A w,aG z w,g1 (.bin .lss J P) w,aL w U,fb 49 [j,l9,(k 14)]]) (S (E [m v,m v,Q o,a 0 s,e u,a 0 G,D 6 A,f 94 [w,J],fb 93 [j,P]]) (E [m v,m x,aQ o,m s,cE G u,g0 (.load 6 true w false) u,g0 (.pcall 147 [A]) u,aJ u J,fb 49 [j,P,(k 5)]]))))
def Wc:=M 4 8 (l [aA 5 y,aD 6 N,aC 7] (K 0 a9j)) []
def Ov:=M 1 4 (l [aU 1 v,cW 2] (S (B [D 6 y,f 148 [j],b .gtr o (k 400),m s,g0 (.load 6 true y false) u,g0 (.pcall 149 [w]) u,g0 (.bin .gtr A (k 32)) u,aJ u J] P (l [r (.h (.store 1 false z (k 3)))] Y) Z) (S (l [D 6 y,cS 3 j] (K 0 (.rangeF x 191 [z]))) (l [dG z] Y)))) [.cell 2 1 false]
def JJ:=M 2 7 (l [aU 2 y,t 3 I] (l [m v,a 2 z,d o,f 119 [j,s],t 4 u] (S (l [a 0 z,aH 5 j] (K 0 (S (K 2 (S (K 1 (S (S (S (B [b .eql N k1,t 6 j] O Z (R [b .eql N (k 8),t 6 j])) (B [] O (X 1) Z)) (B [b .eql N (k 9),aE j] o (X 2) Z)) (X 0))) (B [m G,b .gtr j I,m o,aG v s,cM z s,aS w s,cC z s,aS J s,g1 (.pcall 120 [u,A,P]) s,g1 (.un .not U) s,aL s l9] CX (l [t 3 (k 14)] Y) Z))) (S (S (B [m G,b .eql j I] o (l [t 3 (k 10)] Y) Z) (B [a 0 z,d j,b .eql o (k 9),m s,g1 (.faddr 5 z) u,aS w u,bK A u,aG G u,g1 (.bin .neq J P) u,aL u U] l9 (l [t 3 (k 9)] Y) Z)) (X 0))))) (l [t 3 I] Y)))) [.var 3]
def LR:=M 4 7 (l [aU 4 z] (l [m v,Q j,a 4 o,e s,a 4 G,d w,p (.build [I6 0,.str []] [(0,1,k1),(1,1,A)]),dT u J,m P,aM U,aK U,t 5 l9,t 6 CX] (S (E [m v,m O,m o,aG N s,aG y s,g1 (.bin .lss u w) s,aL s A,fb 57 [j,J,(k 6)]]) (S (E [m v,a 5 G,d o,n s,m v,Q w,a 0 A,a 1 J,e P,m N,i 8 U l9,a 1 CX,c CW,n C5,a 3 G,d Dp,b .add C3 DB,b .eql u DL,fb 57 [j,DP,(k 9)]]) (E [m v,m v,Q o,a 0 s,a 1 u,e w,m N,i 8 A J,a 2 P,c U,n l9,m x,b .eql CX CW,fb 57 [j,C5,(k 9)]]))))) []
def a3w:=LP 5 4 0 1 (l [m N,t 3 j] (B [m y,m v,m x,i 6 o s,C 6 u,bE j w] A (l [m x,t 2 j] Y) Z))
def Wd:=M 2 6 (l [t 2 I] (S (l [m v,aD 4 j,aC 5] (K 0 a3w)) (l [t 2 k2] Y))) [.var 2]
def a5g:=LP 7 6 0 1 (l [i 8 N V,C 8 j,bV 4,aY G o] (E [m v,m y,m z,a 0 G,D 6 u,fb 99 [j,o,s,w,k1]]))
def We:=M 4 8 (l [aA 5 x,aD 6 N,aC 7] (K 0 a5g)) []
def a4h:PC:=(.loop (S (B [m G,m v,n o,b .lss j s] u Z (X 0)) (S (K 1 (l [m v,m G,i 1 j o,e s,t 5 u] (B [m y,m N,bE j o,aQ s] u (l [m v,m x,m N,i 1 j o,aP u s] (R [m x,b .add j k1,t 3 o])) Z))) (R [m G,b .add j k1,t 4 o]))))
def Ow:=M 2 6 (l [t 2 n0] (l [m v,m y,fh 151 [j,o],t 3 s] (S (B [m x,b .eql j k2] o (l [m v,t 2 j] Y) Z) (S (l [m x,b .add j k1,t 4 o] (K 0 a4h)) (l [m v,m x,p (.slice false 1 j (some o) none),r (.h (.clear 1 s))] (l [m v,m x,dK j o,t 2 s] Y)))))) [.keep 2]
def Ri:=M 2 3 (l [t 2 F] (l [d y,Q j,a 1 o,e s,m v,bR u w,t 2 A] Y)) [.var 2]
def Wf:=M 2 3 (l [t 2 F] (l [m v,m y,fh 151 [j,o],b .geq s I,t 2 u] Y)) [.var 2]
def Wg:=M 2 3 (l [t 2 F] (l [d y,m v,f 110 [j,o],aQ s,t 2 u] Y)) [.var 2]
def U4:=LP 5 4 0 1 (l [m N,t 3 j] (B [m y,m v,m x,i 1 o s,e u,b .eql j w] A (l [m x,t 2 j] Y) Z))
def N4:=M 2 6 (l [t 2 I] (S (l [m v,aD 4 j,aC 5] (K 0 U4)) (l [t 2 k2] Y))) [.var 2]
def Ox:=LP 7 6 0 1 (l [i 6 N V,C 6 j,aT 4,aO G o] (H [D 6 G,m y,fb 141 [j,o],aQ s] u (l [t 3 F] Y) Z))
def KY:=M 2 8 (l [aU 2 v,t 3 F] (S (H [m y,D 6 z,p (.h (.bcallv j [o])),aQ s] u (l [t 3 F] Y) Z) (S (l [a 5 z,aH 5 j,aD 6 N,aC 7] (K 0 Ox)) (l [t 3 T] Y)))) [.var 3]
def Wh:=M 1 2 (l [t 1 F] (l [m v,b .geq j (.c (.int .u8 97)),m o,aG v s,g1 (.bin .leq u (.c (.int .u8 122))) s,aL s w,m A,aN v J,g0 (.bin .geq P (.c (.int .u8 65))) J,aN U J,aG v l9,g1 (.bin .leq CX (.c (.int .u8 90))) l9,cI l9 CW J,aJ J C5,t 1 C3] Y)) [.var 1]
def Wi:=M 1 4 (l [t 1 F] (S (l [aA 2 v] (K 0 (S (B [b .eql z (.c (.str [97,115,115,117,109,101])),t 3 j] x Z (B [b .eql z (.c (.str [97,110,100])),t 3 j] x Z (B [b .eql z (.c (.str [97,117,116,111,109,97,116,111,110])),t 3 j] x Z (B [b .eql z (.c (.str [98,111,111,108])),t 3 j] x Z (B [b .eql z (.c (.str [99,111,110,116,105,110,117,101])),t 3 j] x Z (B [b .eql z (.c (.str [100,111])),t 3 j] x Z (B [b .eql z (.c (.str [100,111,110,101])),t 3 j] x Z (B [b .eql z (.c (.str [101,108,115,101])),t 3 j] x Z (B [b .eql z (.c (.str [101,110,100])),t 3 j] x Z (B [b .eql z (.c (.str [101,110,115,117,114,101])),t 3 j] x Z (B [b .eql z (.c (.str [101,118,101,114,121])),t 3 j] x Z (B [b .eql z (.c (.str [102,97,108,115,101])),t 3 j] x Z (B [b .eql z (.c (.str [102,98,121])),t 3 j] x Z (B [b .eql z (.c (.str [105,102])),t 3 j] x Z (B [b .eql z (.c (.str [105,110,116])),t 3 j] x Z (B [b .eql z (.c (.str [108,101,116])),t 3 j] x Z (B [b .eql z (.c (.str [109,101,114,103,101])),t 3 j] x Z (B [b .eql z (.c (.str [109,111,100])),t 3 j] x Z (B [b .eql z (.c (.str [110,111,100,101])),t 3 j] x Z (B [b .eql z (.c (.str [110,111,116])),t 3 j] x Z (B [b .eql z (.c (.str [111,114])),t 3 j] x Z (B [b .eql z (.c (.str [112,114,101])),t 3 j] x Z (B [b .eql z (.c (.str [114,101,116,117,114,110,115])),t 3 j] x Z (B [b .eql z (.c (.str [115,116,97,116,101])),t 3 j] x Z (B [b .eql z (.c (.str [116,101,108])),t 3 j] x Z (B [b .eql z (.c (.str [116,104,101,110])),t 3 j] x Z (B [b .eql z (.c (.str [116,114,117,101])),t 3 j] x Z (B [b .eql z (.c (.str [116,121,112,101])),t 3 j] x Z (B [b .eql z (.c (.str [117,110,108,101,115,115])),t 3 j] x Z (B [b .eql z (.c (.str [117,110,116,105,108])),t 3 j] x Z (B [b .eql z (.c (.str [118,97,114])),t 3 j] x Z (B [b .eql z (.c (.str [119,104,101,110])),t 3 j] x Z (R [b .eql z (.c (.str [120,111,114])),t 3 j]))))))))))))))))))))))))))))))))) (B [] x (l [t 1 T] Y) Z)))) (l [t 1 F] Y))) [.var 1]
def Rj:=M 1 2 (l [t 1 F] (l [m v,f 142 [j],m o,aN v s,g0 (.pcall 162 [u]) s,aJ s w,m A,aN v J,g0 (.bin .eql P (.c (.int .u8 95))) J,aJ J U,t 1 l9] Y)) [.var 1]
def Oy:=M 2 4 (l [cK 2,t 3 F] (S (B [m y,b .lss j (k 3),m o,aN y s,g0 (.bin .sub u (k 3)) s,aN v s,dB A s,g0 (.bin .geq w J) s,aJ s P] U (l [p (.build [.str [],Lt []] []),aF z j,t 3 F] Y) Z) (l [m v,m y,b .sub o (k 3),i 2 j s,C 2 u,aF z w,t 3 T] Y))) [.cell 2 2 true,.var 3]
def Wj:=M 1 2 (l [t 1 F] (l [m v,b .leq (k (-32768)) j,m o,aG v s,g1 (.bin .leq u (k 32767)) s,aL s w,t 1 A] Y)) [.var 1]
def Wk:=M 1 4 (l [aU 1 v,q 2 (.h (.newobj [.bool false]))] (S (l [D 6 y,cS 3 j] (K 0 (.rangeF x 192 [z]))) (l [r (.h (.store 1 false z T))] Y))) [.cell 2 1 false]
def Wl:=M 1 5 (l [aU 1 v,t 2 I] (l [cW 3,dG x] (S (l [D 6 y,cS 4 j] (K 0 (.rangeF G 193 [x]))) (l [e x,t 2 j] Y)))) [.var 2]
def b77:=LP 7 6 0 1 (l [i 6 N V,C 6 j,aT 4,aO G o] (R [m x,D 6 G,f 149 [o],p (.minmax true [j,s]),t 3 u]))
def Wm:=M 1 8 (l [aU 1 v,t 2 I] (l [t 3 I] (S (l [a 5 y,aH 5 j,aD 6 N,aC 7] (K 0 b77)) (l [m x,b .add j k1,t 2 o] Y)))) [.var 2]
def GB:=M 1 6 (l [aU 1 v,t 2 I] (S (B [a 5 y,d j,n o,b .gtr s (k 64)] u (l [t 2 (k 3)] Y) Z) (l [D 6 y,f 163 [j],eE 3,bP x o] (S (B [a 0 x,d j,aQ o,m s,bJ x u,aI w u,bA A u,aJ u J,m P,bD x U,aI l9 U,bD y U,aI CW U,g0 (.bin .neq C5 I) U,g0 (.eq true false [.b] CX C3) U,aJ U Dp,m DB,bD x DL,aI DP DL,aN E0 DL,cR y Ei,aS F1 Ei,g1 (.bin .lss Ea k1) Ei,aG F3 Ei,bD y Gz,aI DZ Gz,g0 (.bin .gtr If (k 16)) Gz,g1 (.pick Gz T GV) Ei,cI Ei GA DL,aJ DL IW] Ig (l [t 2 (k 5)] Y) Z) (S (K 0 (S (K 3 (S (K 2 (S (K 1 (S (S (B [a 3 x,d j,aE o] s (X 1) Z) (B [a 4 x,d j,aE o] s (X 2) Z)) (X 3))) (S (S (B [a 4 y,d j,f 118 [o],aQ s] u (l [t 2 (k 6)] Y) Z) (l [t 2 I] Y)) (X 0)))) (l [a 4 y,d j,f 164 [o],m s,aM u,aK u,bN 4,aF G w,t 5 A] (B [m N,b .eql j I] o (l [t 2 I] Y) Z)))) (S (B [a 4 y,d j,b .neq o (.c (.str [])),m s,cT x u,aI w u,aJ u A] J (l [t 2 (k 5)] Y) Z) (X 0)))) (l [t 2 I] Y)))))) [.var 2]
def Wn:=LP 5 4 0 1 (l [m N,t 3 j] (B [m y,m v,m x,i 1 o s,e u,bE j w] A (l [m x,t 2 j] Y) Z))
def Oz:=M 2 6 (l [t 2 I] (S (l [m v,aD 4 j,aC 5] (K 0 Wn)) (l [t 2 k2] Y))) [.var 2]
def Wo:=M 1 2 (l [t 1 F] (l [m v,b .geq j (.c (.int .u8 48)),m o,aG v s,g1 (.bin .leq u (.c (.int .u8 57))) s,aL s w,t 1 A] Y)) [.var 1]
def Fv:=M 1 8 (l [aU 1 v,eE 2] (l [a 5 y,d j,n o,t 3 s] (l [a 2 y,d j,b .eql o I,m s,cC y u,aS w u,cU A u,aL u J,t 4 P] (S (l [a 0 y,aH 6 j] (K 0 (B [b .eql O k1,aE j] o (l [a 2 y,d j,b .eql o (k 2),m s,cC y u,aS w u,g1 (.bin .geq A (k (-32768))) u,aL u J,m P,cC y U,aS l9 U,g1 (.bin .leq CX (k 32767)) U,aL U CW,t 5 C5] (l [m x,b .eql j I,m N,m s,bJ y u,aI w u,g0 (.bin .neq A (k 2)) u,aN J u,cM y P,aS U P,cC y P,aS CX P,g1 (.pcall 169 [l9,CW]) P,cI P C5 u,aJ u C3,dL o Dp,bP z DB] Y)) (B [b .eql O (k 2),aE j] o (l [m x,b .eql j I,m G,dM o s,bP z u] Y) (B [b .eql O (k 3),aE j] o (l [m x,a 1 y,d o,f 170 [s],b .eql j u,m G,p (.build [.bool false,.bool false,.bool false,.bool false,.bool false] [(0,1,w),(2,1,A),(1,1,T)]),bP z J] Y) (B [b .eql O (k 4),aE j] o (l [m x,b .eql j (k 3),m G,dL o s,bP z u] Y) (B [b .eql O (k 5),aE j] o (l [m x,b .eql j k1,m G,dL o s,bP z u] Y) (S (B [b .eql O (k 6),t 7 j] V Z (R [b .eql O (k 7),t 7 j])) (B [] V (l [m x,b .eql j (k 2),m G,dL o s,bP z u] Y) (B [b .eql O (k 8),aE j] o (l [m x,b .eql j k1,a 2 y,d s,b .neq u (k 2),m w,cM y A,aS J A,cC y A,aS U A,g1 (.pcall 169 [P,l9]) A,aL A CX,dM o CW,bP z C5] Y) (B [b .eql O (k 9),aE j] o (l [a 2 y,d j,b .neq o (k 2),m s,cM y u,aS w u,aG x u,g1 (.pcall 171 [A,J]) u,aL u P,a 3 y,d l9,b .eql CX I,dM U CW,bP z C5] Y) (B [b .eql O (k 10),aE j] o (l [m x,a 3 y,d o,b .geq j s,a 2 y,d w,b .eql A I,m J,cC y P,aS U P,cU l9 P,aG CX P,cF y CW,aI C5 CW,g0 (.bin .eql C3 k1) CW,g1 (.pick CW T Dp) P,aL P DB,dM u DL,bP z DP] Y) (B [b .eql O (k 11),aE j] o (l [m x,b .eql j I,m G,p (.build [.bool false,.bool false,.bool false,.bool false,.bool false] [(0,1,o),(2,1,s),(4,1,T)]),bP z u] Y) Z))))))))))))) (l [p (.build [.bool false,.bool false,.bool false,.bool false,.bool false] []),bP z j] Y))))) [.cell 2 5 true]
def Ko:=M 1 13 (l [bN 1,t 2 I] (S (B [m v,bO j,b .gtr o (k 66)] s (l [dH,aF y j,t 2 (k 3)] Y) Z) (l [m v,p (.pcall 172 [j,(.c (.str [40]))]),m o,aM s,aK s,p (.extract 2 s),t 3 u,t 4 w,t 5 A] (l [m G,p (.pcall 173 [j,(.c (.str [41]))]),m o,aM s,aK s,t 6 u,t 7 w] (l [m x,f 174 [j],m o,aM s,aK s,t 8 u,t 9 w] (l [m O,f 174 [j],m o,aM s,aK s,t 10 u,t 11 w] (l [m v8,m Dh,p (.build [Lt [],Lt []] [(0,1,j),(1,1,o)]),bN 12,aF Du s] (S (B [m N,aQ j,m o,aN V s,bA u s,aJ s w,m A,aN v9 J,bA P J,aJ J U,m l9,aN Dw CX,bA CW CX,aJ CX C5,m C3,g0 (.load 2 true Du false) Dp,g0 (.pcall 175 [DB]) Dp,g0 (.bin .neq DL I) Dp,aJ Dp DP] E0 (l [dH,aF y j,t 2 (k 5)] Y) Z) (l [D 2 Du,aF y j,t 2 I] Y))))))))) [.cell 1 2 true,.var 2]
def MO:=M 2 3 (l [t 2 F] (l [m v,b .eql j k1,m o,aG y s,cU u s,aG w s,aN y A,g0 (.bin .eql J k1) A,g1 (.pick A T P) s,aL s U,m l9,aN v CX,g0 (.bin .geq CW (k 3)) CX,aN C5 CX,aG y C3,g1 (.bin .geq Dp I) C3,cI C3 DB CX,aN DL CX,aG y DP,g1 (.bin .lss E0 (k 16)) DP,cI DP Ei CX,aJ CX F1,t 2 Ea] Y)) [.var 2]
def Wp:=M 1 2 (l [t 1 I] (S (B [m v,b .eql j k1,m o,aN v s,g0 (.bin .eql u (k 2)) s,aJ s w] A (l [t 1 k1] Y) Z) (l [t 1 (k 2)] Y))) [.var 1]
def OA:=M 2 3 (l [t 2 F] (l [m v,b .eql j k1,m o,aG y s,g1 (.bin .eql u (k 2)) s,aL s w,m A,aN v J,g0 (.bin .geq P (k 3)) J,aN U J,aG y l9,g1 (.bin .geq CX k1) l9,cI l9 CW J,aN C5 J,aG y C3,g1 (.bin .leq Dp (k 16)) C3,cI C3 DB J,aJ J DL,t 2 DP] Y)) [.var 2]
def Rk:=M 2 5 (l [t 2 (.c (.str [])),t 3 (.c (.str [])),t 4 F] (l [m v,m y,f 179 [j,o],aM s,aK s,p (.extract 2 s),t 2 u,t 3 w,t 4 A] Y)) [.var 2,.var 3,.var 4]
def Wq:=M 2 4 (l [t 2 (.c (.str [])),t 3 F] (l [m v,m y,f 180 [j,o],aM s,aK s,t 2 u,t 3 w] Y)) [.var 2,.var 3]
def b4W:=LP 6 5 0 1 (l [m O,t 4 j] (S (B [m v,m G,cH j o,b .neq s (.c (.int .u8 48)),m u,aG v w,aG G w,g1 (.indexStr A J) w,g1 (.bin .neq P (.c (.int .u8 49))) w,aL w U] l9 (l [t 1 n0,t 2 F] Y) Z) (R [aE x,m v,m G,cH o s,b .eql u (.c (.int .u8 49)),p (.mkslice 1 (.bool false) 1 [(0,w)]),p (.append 1 1 j A),t 3 J])))
def Ws:=M 1 7 (l [t 1 n0,t 2 F] (l [t 3 n0] (S (l [m v,q 5 (.len true j),aC 6] (K 0 b4W)) (l [m x,t 1 j,t 2 T] Y)))) [.var 1,.var 2]
def OB:=M 1 3 (l [aZ 1 v,t 2 I] (S (K 0 (B [a 1 y,d j,n o,b .eql s I,aE u] w (l [t 2 (k 5)] Y) (B [a 0 y,d j,n o,a 1 y,d u,n w,b .add s A,b .gtr J (k 64),aE P] U (l [t 2 (k 3)] Y) Z))) (l [t 2 I] Y))) [.var 2]
def Rl:=M 2 6 (l [t 2 (.c (.str [])),t 3 (.c (.str [])),t 4 F] (S (l [m v,m y,f 181 [j,o],t 5 s] (B [m N,b .geq j I] o (l [m v,m N,p (.slice true 1 j none (some o)),m v,m N,m y,bO A,b .add w J,p (.slice true 1 u (some P) none),t 2 s,t 3 U,t 4 T] Y) Z)) (l [m v,t 2 j,t 3 (.c (.str [])),t 4 F] Y))) [.var 2,.var 3,.var 4]
def Rm:=M 2 4 (l [t 2 (.c (.str [])),t 3 F] (S (B [m v,m y,f 182 [j,o],aQ s] u (l [m v,t 2 j,t 3 F] Y) Z) (l [m v,m v,bO o,m y,bO u,b .sub s w,p (.slice true 1 j none (some A)),t 2 J,t 3 T] Y))) [.var 2,.var 3]
def a7B:PC:=(.loop (S (B [m O,m V,b .lss j o] s Z (X 1)) (K 2 (S (B [m v,m O,cH j o,m G,b .neq s u] w (l [m v,m O,b .add o k1,m V,p (.slice true 1 j (some s) (some u)),m G,f 183 [w,A],t 9 J] (S (B [m v9,b .lss j I] o (l [t 2 k2] Y) Z) (R [m O,m v9,b .add o k1,b .add j s,t 6 u]))) Z) (S (B [m v,m O,b .add o k1,cH j s,m N,b .eql u w,m A,aG v J,aG O J,aG O J,aG x J,g1 (.bin .add l9 CX) J,g1 (.slice true 1 P (some U) (some CW)) J,aG y J,g1 (.bin .eql C5 C3) J,aL J Dp] DB (l [m O,t 2 j] Y) Z) (l [m O,b .add j k1,t 6 o] (l [m v8,b .add j k1,t 8 o] (B [m x,m (.c .dead),b .leq j o,m s,aG v8 u,aG O u,g1 (.pcall 184 [A]) u,g1 (.bin .gtr w J) u,aL u P] U (l [m v,m O,p (.slice true 1 j (some o) none),m y,m (.c .dead),t 10 w] (S (B [m Dh,b .geq j I] o (l [m Dh,m O,b .add j o,t 2 s] Y) Z) (l [t 2 k2] Y))) (B [m x,m (.c .dead),b .gtr j o,m s,aG v8 u,aG O u,g1 (.bin .shr A (.c (.int .u64 4))) u,g1 (.bin .add (k 4) J) u,g1 (.bin .geq w P) u,aL u U,m l9,aG O CX,aG V CX,g1 (.bin .lss CW C5) CX,aL CX C3] Dp (l [m v,m O,p (.slice true 1 j (some o) none),m y,f 185 [s,u],t 11 w] (S (B [m Dw,b .lss j I] o (l [t 2 k2] Y) Z) (l [m O,m Dw,b .add j o,t 2 s] Y))) Z)))))))))
def Ro:=M 2 12 (l [t 2 I] (l [m y,bO j,t 3 o] (S (K 0 (B [m x,b .eql j I,m o,aN y s,aN v s,g0 (.bin .eql u w) s,aJ s A,aE J] P (l [t 2 I] Y) (B [m x,b .eql j k1,aE o] s (l [m v,m y,p (.indexStr o I),f 183 [j,s],t 2 u] Y) (B [m x,m v,bO o,b .geq j s,aE u] w (l [t 2 k2] Y) (B [m x,m (.c .dead),b .leq j o,m s,aG v u,g1 (.len true w) u,g1 (.bin .leq A (k 64)) u,aL u J,aE P] U (l [m v,m y,m (.c .dead),t 2 s] Y) Z))))) (l [m y,p (.indexStr j I),t 4 o] (l [m y,p (.indexStr j k1),t 5 o] (l [t 6 I] (l [m v,bO j,m x,b .sub o s,b .add u k1,t 7 w] (l [t 8 I] (S (K 1 a7B) (l [t 2 k2] Y)))))))))) [.var 2]
def Rp:=M 2 3 (l [t 2 F] (l [m v,bO j,m y,bO s,b .geq o u,m w,aG v A,aG v A,g1 (.len true P) A,aG y A,g1 (.len true l9) A,g1 (.bin .sub U CX) A,g1 (.slice true 1 J (some CW) none) A,aG y A,g1 (.bin .eql C5 C3) A,aL A Dp,t 2 DB] Y)) [.var 2]
def a7m:PFunc:={params:=2,nv:=2,code:=.skip,results:=[],prim:=some Rq}
def a5h:=M 1 2 (l [t 1 I] (l [m v,b .add j (k 16),b .quo o (k 8),t 1 s] Y)) [.var 1]
def a3W:PC:=(.loop (S (B [m V,m N,b .lss j o] s Z (X 0)) (S (K 1 (R [m O,b .mul j (.c (.int .u32 16777619)),m v,m V,cH s u,p (.convInt .u32 w),b .add o A,t 6 J])) (R [m V,b .add j k1,t 7 o]))))
def a3X:PC:=(.loop (S (B [m v8,m v,bO o,b .lss j s] u Z (X 2)) (K 3 (l [m O,b .mul j (.c (.int .u32 16777619)),t 6 o] (l [m O,m v,m v8,cH o s,p (.convInt .u32 u),b .add j w,t 6 A] (l [m O,m G,m v,m v8,m N,b .sub u w,cH s A,p (.convInt .u32 J),b .mul o P,b .sub j U,t 6 l9] (l [m v8,b .add j k1,t 8 o] (B [m O,m x,b .eql j o,m s,aG v u,aG v8 u,aG N u,g1 (.bin .sub A J) u,aG v8 u,g1 (.slice true 1 w (some P) (some U)) u,aG y u,g1 (.bin .eql l9 CX) u,aL u CW] C5 (l [m v8,m N,b .sub j o,t 2 s] Y) Z))))))))
def a1V:=M 2 9 (l [t 2 I] (l [m y,f 186 [j],m o,aM s,aK s,t 3 u,t 4 w] (l [m y,bO j,t 5 o] (l [t 6 (.c (.int .u32 0))] (S (l [t 7 I] (K 0 a3W)) (S (B [m O,m x,b .eql j o,m s,aG v u,aG N u,g1 (.slice true 1 w none (some A)) u,aG y u,g1 (.bin .eql J P) u,aL u U] l9 (l [t 2 I] Y) Z) (S (l [m N,t 8 j] (K 2 a3X)) (l [t 2 k2] Y)))))))) [.var 2]
def a5G:PC:=(.loop (S (B [m G,m v,bO o,b .lss j s] u Z (X 0)) (S (K 1 (R [m x,b .mul j (.c (.int .u32 16777619)),m v,m G,cH s u,p (.convInt .u32 w),b .add o A,t 3 J])) (R [m G,b .add j k1,t 4 o]))))
def a5H:PC:=(.loop (S (B [m V,b .gtr j I] o Z (X 2)) (S (K 3 (S (B [m V,b .and j k1,b .neq o I] s (R [m N,m O,b .mul j o,t 5 s]) Z) (R [m O,m O,b .mul j o,t 6 s]))) (R [m V,b .shr j (.c (.int .u64 1)),t 7 o]))))
def a2Y:=M 1 8 (l [t 1 (.c (.int .u32 0)),t 2 (.c (.int .u32 0))] (l [t 3 (.c (.int .u32 0))] (S (l [t 4 I] (K 0 a5G)) (l [t 5 (.c (.int .u32 1)),t 6 (.c (.int .u32 16777619))] (S (l [m v,bO j,t 7 o] (K 2 a5H)) (l [m x,m N,t 1 j,t 2 o] Y)))))) [.var 1,.var 2]
def Wt:=M 4 5 (.round (R [aT 3,aO x z]) (K 1 (l [e v,D 6 x,f 123 [j,o],t 4 s] (B [m G,b .neq j I] o (l [m G,aP y j] Y) Z)))) []
def LT:=M 6 8 (.round (R [aT 5,aO N G]) (K 1 (S (l [a 0 N,aH 6 j] (K 2 (S (B [b .eql O (k 2),t 7 j] V Z (B [b .eql O (k 8),t 7 j] V Z (R [b .eql O (k 9),t 7 j]))) (B [] V (E [e v,e z,a 4 N,d s,p (.h (.rcall 97 [o,u])),fb 57 [j,w,(k 6)]]) (B [b .eql O (k 10),aE j] o (E [e v,e y,D 6 N,e x,fb 124 [j,o,s,u]]) Z))))) (R [r (.h (.store 1 false x k1))])))) []
def Wu:=M 3 4 (.round (R [aT 2,aO z y]) (K 1 (l [D 6 z,f 150 [j],t 3 o] (B [m x,b .neq j I] o (l [m x,aP v j] Y) Z)))) []
def KZ:=M 3 5 (.round (R [aT 2,aO z y]) (K 1 (l [a 0 z,aH 3 j] (K 2 (S (B [b .eql x (k 5),t 4 j] G Z (B [b .eql x (k 6),t 4 j] G Z (B [b .eql x (k 7),t 4 j] G Z (B [b .eql x (k 10),t 4 j] G Z (R [b .eql x (k 11),t 4 j]))))) (B [] G (l [r (.h (.store 1 false v F))] Y) Z)))))) []
def b4X:=M 3 2 (.round Z (K 1 (R [e v,b .add j k1,aP v o]))) []
def b7e:=LP 12 11 0 1 (l [m Du,i 8 Dh Du,C 8 o,bG 7,t 6 j,aY V s] (l [D 8 V,f 205 [j],m o,aM s,aK s,t 8 u,t 9 w] (B [m v9] j (l [m O,m v8,dI j o,aF z s,t 3 (k 13)] Y) Z)))
def PY:=M 1 13 (l [aZ 1 v,aV 2,t 3 I] (S (l [D 2 y,f 204 [j],m o,aM s,aK s,aV 4,aF G u,t 5 w] (B [m N,b .neq j I] o (l [D 2 G,m N,aF z j,t 3 o] Y) Z)) (S (l [a 1 y,aH 10 j,aD 11 Dh,aC 12] (K 0 b7e)) (l [bX,aF z j,t 3 I] Y)))) [.cell 2 2 true,.var 3]
def Wv:=M 1 3 (l [aZ 1 v,t 2 F] (l [a 1 y,d j,p (.pcall 211 [o,(.c (.func 212 [] []))]),aQ s,t 2 u] Y)) [.var 2]
def NC:=M 1 6 (l [aZ 1 v,aV 2,t 3 I] (S (l [D 2 y,f 8 [j],m o,aM s,aK s,aV 4,aF G u,t 5 w] (B [m N,b .neq j I] o (l [D 2 G,m N,aF z j,t 3 o] Y) Z)) (S (B [D 2 y,f 201 [j],aQ o] s (l [cX,aF z j,t 3 (k 2)] Y) Z) (l [bX,aF z j,t 3 I] Y)))) [.cell 2 2 true,.var 3]
def Ww:=LP 13 12 0 1 (l [i 1 Dw D3,c j,t 9 o] (B [m v9,n j,b .gtr o k1] s (R [m v8,m v9,i 1 o I,e s,bE j u]) Z))
def Wx:=LP 16 15 2 3 (l [i 2 DU F4,C 2 j,aV 10,aF Dh o] (B [a 0 Dh,d j,a 1 Dh,d s,b .eql o u] w (R [m v8,a 0 Dh,d o,bE j s]) Z))
def Rr:=M 1 17 (l [bF 1 v,t 2 I,t 3 F] (l [D 8 y,f 209 [j],t 4 o] (S (l [a 4 y,d j,n o,m G,f 210 [s,u],m w,aM A,aK A,aE J,t 5 P] (B [m N,b .eql j I] o (l [t 2 I,t 3 F] Y) Z)) (l [a 4 y,d j,n o,m G,f 213 [s,u],m w,aM A,aK A,t 6 J,aE P] (l [cW 7,dV V] (l [p (.h (.mkfunc 214 [] [V])),t 8 j] (S (l [aA 11 O,aD 12 Dw,aC 13] (K 0 Ww)) (S (l [aA 14 G,aD 15 DU,aC 16] (K 2 Wx)) (l [e V,e V,b .geq o I,t 2 j,t 3 s] Y))))))))) [.var 2,.var 3]
def b15:=LP 21 20 2 3 (l [i 1 Ji KX,c j,t 6 o] (R [d x,m O,m G,r (.h (.mset false [.s] j o s))]))
def b16:=LP 18 17 0 1 (l [m Gn,i 7 F4 Gn,C 7 o,bH 5,t 4 j,bI N s] (l [a 0 N,aH 19 j,aD 20 Ji,aC 21] (K 2 b15)))
def b17:=LP 24 23 4 5 (l [i 3 MJ OC,C 3 j,aX 8,aR v8 o] (R [m V,a 0 v8,d o,a 2 v8,d u,r (.h (.mset false [.s] j s w))]))
def b18:=LP 30 29 8 9 (l [i 1 Wy v30,c j,t 13 o] (R [m Du,m D3,bE j o]))
def b19:=LP 36 35 12 13 (l [i 3 v34 v36,C 3 j,cD 15,aR EJ o] (R [m Du,a 0 EJ,d o,bE j s]))
def Wz:=LP 33 32 10 11 (l [i 1 WA v33,c j,t 14 o] (l [m V,m DU,q 34 (.h (.lookup false false false [.s] (Lt []) j o)),aD 35 v34,aC 36] (K 12 b19)))
def WB:=LP 27 26 6 7 (l [m Rs,i 7 WC Rs,C 7 o,dN 10,bH 11,aW Dh j,bI Dw s] (l [p (.h (.mkfunc 216 [] [x,v9,Dh])),t 12 j] (S (l [a 1 Dw,D 6 j,q 28 (.pcall 217 [o]),aD 29 Wy,aC 30] (K 8 b18)) (l [a 0 Dw,aH 31 j,aD 32 WA,aC 33] (K 10 Wz)))))
def WD:=M 1 37 (l [bF 1 v,t 2 n0] (l [cL,q 3 (.newloc [.map none]),aW x j] (S (l [a 4 y,aH 16 j,aD 17 F4,aC 18] (K 0 b16)) (l [cL,t 7 j] (S (l [D 8 y,q 22 (.pcall 11 [j]),aD 23 MJ,aC 24] (K 4 b17)) (l [q 9 (.h (.newobj [Lt []]))] (S (l [a 4 y,aH 25 j,aD 26 WC,aC 27] (K 6 WB)) (l [e v9,p (.h (.call 218 [j,(.c (.func 219 [] []))]))] (l [e v9,fh 220 [j],t 2 o] Y))))))))) [.var 2]
def b2a:=LP 19 18 2 3 (l [i 1 Ge Ji,e j,t 7 o] (R [m N,m V,i 1 j o,e s,b .add u k1,i 1 j o,aP A w]))
def b2b:=LP 16 15 0 1 (l [i 1 DU F4,c j,t 6 o] (l [aA 17 O,aD 18 Ge,aC 19] (K 2 b2a)))
def b2c:=LP 23 22 4 5 (l [m LU,i 1 KX LU,e o,t 9 j,t 10 s] (B [m Dh,b .eql j I] o (R [m v8,p (.ifc true 4 j),m v9,p (.ifc true 3 s),fh 223 [o,u]]) Z))
def WE:=LP 26 25 8 9 (l [i 1 OC Rt,e j,t 13 o] (l [m N,m D3,i 1 j o,e s,b .sub u k1,i 1 j o,aP A w] (B [m N,m D3,i 1 j o,e s,b .eql u I] w (R [m v8,p (.ifc true 4 j),m D3,p (.ifc true 3 s),fh 223 [o,u]]) Z)))
def WF:PC:=(.loop (S (B [m v8,Q j,e o,fh 224 [s],b .gtr u I] w Z (X 6)) (K 7 (l [m v8,p (.ifc true 4 j),fh 225 [o],p (.ifc false 3 s),t 12 u] (l [aE Dw,m Du,cN o,dO j s,t 11 u] (l [m G,m Du,i 1 j o,q 24 (.h (.loadc 1 false s)),aD 25 OC,aC 26] (K 8 WE)))))))
def WG:=M 2 27 (l [t 2 n0,t 3 I] (S (B [m v,m y,p (.pcall 221 [j,o,n0]),aQ s] u (l [t 2 n0,t 3 (k 2)] Y) Z) (l [m v,m y,p (.pzcall 222 [j,o]),t 4 s] (l [m v,p (.h (.mkarr 1 false 8 [I6 0] j)),t 5 o] (S (l [aA 14 G,aD 15 DU,aC 16] (K 0 b2b)) (l [p (.h (.mkrow 1 false (I6 0) 0 [])),cB 20 j,t 8 Hy] (S (l [aA 21 N,aD 22 KX,aC 23] (K 4 b2c)) (l [t 11 n0] (S (K 6 WF) (S (B [m Dw,n j,m v,b .lss o s] u (l [t 2 n0,t 3 (k 13)] Y) Z) (l [m Dw,t 2 j,t 3 I] Y))))))))))) [.var 2,.var 3]
def WH:=M 2 3 (l [t 2 F] (l [m v,m y,fh 115 [j,o],b .geq s I,t 2 u] Y)) [.var 2]
def WI:=M 1 3 (l [bF 1 v,t 2 F] (l [a 5 y,d j,n o,b .gtr s I,t 2 u] Y)) [.var 2]
def b2d:=LP 12 11 0 1 (l [m Du,t 5 j] (B [m G,Q j,a 1 o,e s,m N,i 1 u w,e A,b .eql J I] P (R [m G,m N,fh 230 [j,o]]) Z))
def WJ:=LP 14 13 2 3 (l [m DU,t 8 j] (l [m G,Q j,a 6 o,e s,m v8,i 1 u w,e A,t 9 J] (S (B [m O,m v9,i 1 j o,e s,b .eql u I] w (l [aE V,p (.mkslice 1 (Lt []) 1 [(0,(.c .nils))]),p (.h (.happ 1 false 24 j o)),t 7 s] (R [m O,m v9,m V,n s,i 1 j o,aP w u])) Z) (R [m V,m O,m v9,i 1 o s,e u,b .sub w k1,m V,m O,m v9,i 1 P U,e l9,b .sub CX k1,i 1 J CW,p (.h (.loadn C5)),m v8,cN Dp,p (.append 1 8 C3 DB),i 1 j A,aP DP DL]))))
def WK:=M 2 15 (l [t 2 (.c .nils),t 3 I] (S (B [m v,m y,f 221 [j,o,(.c .nils)],aQ s] u (l [t 2 (.c .nils),t 3 (k 2)] Y) Z) (l [m v,m y,p (.pzcall 222 [j,o]),m v,dX u,m v,dX A,m v,p (.h (.mkfresh 1 false 1 [.bool false] P)),m v,dX l9,p (.h (.buildA [4,6,8,10] [Lt [],Lt [],Lt [],Lt [],Lt [],I6 0,Lt [],I6 0] [(0,1,s),(1,1,w),(2,1,J),(3,1,U),(6,1,CX)])),q 10 (.h (.boxobj 8 CW)),t 4 Dh] (S (l [aA 11 v,aC 12] (K 0 b2d)) (l [m G,Q j,a 7 o,e s,p (.h (.mkarr 1 false 8 [I6 0] u)),t 6 w] (l [t 7 (.c .nils)] (S (l [aA 13 v,aC 14] (K 2 WJ)) (l [m V,t 2 j,t 3 I] Y)))))))) [.var 2,.var 3]
def OD:=M 2 2 (B [e y,b .lss j I,m o,aN v s,g0 (.h (.load 1 false y false)) s,g0 (.bin .lss u w) s,aJ s A] J (R [m v,aP y j]) Z) []
def OE:=M 4 6 (l [d y,m v,p (.h (.lookup true false false [.s] (I6 0) j o)),m s,aM u,aK u,t 4 w,t 5 A] (B [m N] j (R [bL z,m G,d x,dI o s,p (.mkslice 2 (.agg [I6 0,I6 0]) 1 [(0,u)]),p (.h (.happ 2 true 16 j w)),aP z A]) Z)) []
def WL:=M 1 3 (l [aU 1 v,t 2 n0] (l [D 6 y,p (.pcallx 231 [n0,j,T] (some 0)),t 2 o] Y)) [.var 2]
def a5i:PFunc:={params:=2,nv:=2,code:=.skip,results:=[],prim:=some (KM 219)}
def b2I:=M 2 5 (l [aZ 2 v,aZ 3 y,t 4 I] (l [a 0 z,d j,a 0 x,d s,f 233 [o,u],a 1 z,d A,a 1 x,d P,f 233 [J,U],p (.mkslice 1 (I6 0) 2 [(0,w),(1,l9)]),f 232 [CX],t 4 CW] Y)) [.var 4]
def WM:PC:=(.loop (S (B [m G,m x,n o,b .lss j s] u Z (X 2)) (S (K 3 (B [m x,m G,i 2 j o,e2 2 s,m x,m G,b .sub A k1,i 2 w J,e2 2 P,p (.eq true true [.i,.i] u U)] l9 (l [m v,m z,m x,m G,i 2 s u,e2 2 w,i 2 j o,cQ J A] (R [m z,b .add j k1,t 2 o])) Z)) (R [m G,b .add j k1,t 4 o]))))
def a4D:PC:=(.loop (S (B [m z,m v,n o,b .lss j s] u Z (X 0)) (S (K 1 (B [m v,m z,i 2 j o,e2 2 s,m v,m z,b .sub A k1,i 2 w J,e2 2 P,p (.eq false true [.i,.i] u U)] l9 (l [m v,m z,p (.slice false 2 j (some o) none),t 3 s] (S (l [t 4 k1] (K 2 WM)) (l [m v,m z,p (.slice false 2 j (some o) none),r (.h (.clear 2 s))] (l [m v,m z,p (.slice false 2 j none (some o)),t 1 s] Y)))) Z)) (R [m z,b .add j k1,t 2 o]))))
def OF:=M 1 5 (l [t 1 n0] (S (B [m v,n j,b .lss o (k 2)] s (l [m v,t 1 j] Y) Z) (S (l [t 2 k1] (K 0 a4D)) (l [m v,t 1 j] Y)))) [.keep 1]
def b7f:=LP 9 8 0 1 (l [i 2 V v9,C 2 j,aV 6,aF O o] (B [d N,a 0 O,d o,bE j s,aQ u,m w,aI N A,bD O A,aI P A,g0 (.h (.callv J [U])) A,bA l9 A,aJ A CX] CW (l [t 4 F] Y) Z))
def WN:=M 3 10 (l [bC 3 v,t 4 F] (S (B [d x,b .lss j I,m o,aI x s,g0 (.bin .gtr u (k 4096)) s,aJ s w] A (l [t 4 F] Y) Z) (l [p (.h (.mkfunc 234 [] [x])),q 5 (.newloc [.nilfunc]),aW N j] (S (l [aA 7 y,aD 8 V,aC 9] (K 0 b7f)) (l [m z,p (.h (.mkfunc 236 [] [N])),f 235 [j,o],aQ s,t 4 u] Y))))) [.var 4]
def WO:=LP 8 7 0 1 (l [i 2 O v8,C 2 j,aV 4,aF G o] (R [m x,a 0 G,d o,m x,a 0 G,d w,i 1 u A,bL J,a 1 G,d U,cN l9,dO P CX,i 1 j s,aP C5 CW]))
def WP:=LP 10 9 2 3 (l [m Dh,t 5 j] (l [m x,m N,i 1 j o,e s,fh 39 [u]] (R [m x,m N,m x,m N,i 1 s u,e w,fh 237 [A],i 1 j o,aP P J])))
def WQ:=M 2 11 (l [t 2 n0] (l [m v,p (.h (.mkarr 1 false 24 [Lt []] j)),t 3 o] (S (l [aA 6 y,aD 7 O,aC 8] (K 0 WO)) (S (l [m x,aD 9 j,aC 10] (K 2 WP)) (l [m x,t 2 j] Y))))) [.var 2]
def WR:=M 2 2 (l [m v,m y,p (.h (.icall [(4,228,none)] j [o]))] (R [m v,m v,p (.h (.icall [(4,224,Option.some (1,false))] o [])),b .sub s k1,fh 238 [j,u]])) []
def WS:=M 1 2 (l [t 1 I] (l [m v,n j,t 1 o] Y)) [.var 1]
def WT:=M 1 3 (l [t 1 (.c (.nilIface))] (l [m v,p (.h (.icall [(4,224,Option.some (1,false))] j [])),b .sub o k1,t 2 s] (l [m v,m z,p (.h (.icall [(4,229,Option.some (1,false))] j [I,o]))] (l [m v,m z,fh 239 [j,I,o]] (l [m v,p (.h (.icall [(4,227,none)] j [])),t 1 o] Y))))) [.var 1]
def WU:=M 3 4 (l [t 3 F] (l [m v,m y,i 1 j o,e s,m v,m z,i 1 w A,e J,b .lss u P,t 3 U] Y)) [.var 3]
def WV:=M 1 4 (l [t 1 (.c (.nilIface))] (l [m v,Q j,e o,t 2 s] (l [m z,m z,n o,b .sub s k1,i 1 j u,e w,t 3 A] (l [m v,m z,m z,n s,b .sub u k1,dK o w,Q j,aP J A] (l [m x,p (.ifc true 3 j),t 1 o] Y))))) [.var 1]
def WW:=M 2 2 (R [m v,m v,Q o,bL s,m y,p (.ifc false 3 w),cN A,dO u J,Q j,aP U P]) []
def WX:=M 3 3 (R [m v,m y,m v,m z,m v,m z,i 1 w A,e J,m v,m y,i 1 U l9,e CX,i 1 j o,dJ C5 P,i 1 s u,dJ Dp CW]) []
def WY:PC:=(.loop (S (B [m z,n j,b .gtr o I] s Z (X 0)) (K 1 (l [m z,m z,n o,b .sub s k1,i 2 j u,t 3 w] (S (B [m x,Q j,a 1 o,e s,m v,Q w,a 0 A,e J,m x,Q U,a 0 l9,e CX,i 1 P CW,c C5,n C3,b .lss u Dp] DB (l [m v,Q j,a 0 o,e s,m x,Q w,a 0 A,e J,i 1 u P,c U,m x,Q CX,a 1 CW,e C5,i 1 l9 C3,e Dp,t 4 DB] (l [m x,Q j,a 1 o,e s,b .add u k1,Q j,a 1 A,aP J w] (S (B [m v,Q j,a 1 o,e s,m G,i 1 u w,e A,b .eql J I] P (R [aE z,m v,m G,fh 240 [o,s],p (.mkslice 2 (.agg [I6 0,I6 0]) 1 [(0,u)]),p (.h (.happ 2 true 16 j w)),t 2 A]) (B [m v,Q j,a 3 o,e s,m G,i 1 u w,e A] J (R [m v,Q j,a 2 o,e s,m x,Q w,a 0 A,e J,m v,Q U,a 2 l9,e CX,m x,Q C5,a 0 C3,e Dp,i 1 CW DB,e DL,m v,Q E0,a 1 Ei,e F1,m G,i 1 Ea F3,e Gz,p (.minmax false [DP,DZ]),i 1 u P,aP GV If]) Z)) (X 1)))) Z) (l [m x,Q j,a 0 o,e s,t 5 u] (l [m z,m z,n o,b .sub s k1,p (.slice false 2 j none (some u)),t 2 w] (l [m v,m N,fh 241 [j,o]] (B [m z,n j,b .gtr o I] s (l [m z,m z,n o,b .sub s k1,i 2 j u,a 0 w,e A,t 6 J] (R [m v,Q j,a 2 o,e s,m O,m v,Q A,a 2 J,e P,m O,i 1 U l9,e CX,m v,Q C5,a 2 C3,e Dp,m N,i 1 DB DL,e DP,p (.minmax false [CW,E0]),i 1 u w,aP F1 Ei])) Z)))))))))
def WZ:=M 2 7 (l [m v,m y,fh 240 [j,o],p (.h (.mkrow 2 true (.agg [I6 0,I6 0]) 1 [(0,s)])),t 2 u] (K 0 WY)) []
def NL:=LP 9 8 0 1 (l [aE v9,i 6 V v9,C 6 o,aT 6,t 5 j,aO O s] (S (B [m z,m j,g1 (.faddr 0 x) o,aS s o,g1 (.bin .eql u (k 5)) o,aG w o,cE x A,aI J A,g0 (.bin .eql P (k 7)) A,aN U A,aG N l9,g1 (.bin .gtr CX I) l9,cI l9 CW A,g1 (.pick A T C5) o,aL o C3] Dp (X 0) Z) (R [aE v,D 6 O,m z,p (.pcallx 231 [j,o,s] (some 0)),t 0 u])))
def KN:=M 3 10 (l [aU 3 y,t 4 n0] (S (B [D 6 x,f 242 [j],m o,aG v s,g1 (.faddr 4 x) s,aS w s,g1 (.pcall 110 [u,A]) s,g1 (.un .not J) s,aL s P] U (R [aE v,a 4 x,d o,bB s,bQ j u,t 0 w]) Z) (S (l [a 5 x,aH 7 j,aD 8 V,aC 9] (K 0 NL)) (l [aE v,t 4 j] Y)))) [.var 4]
def b78:=LP 6 5 0 1 (l [i 1 G O,c j,t 3 o] (B [m x,m z,b .neq j o] s (l [m x,t 1 j] Y) Z))
def b6B:=M 1 7 (l [t 1 I] (l [t 2 I] (S (l [aA 4 v,aD 5 G,aC 6] (K 0 b78)) (l [m z,t 1 j] Y)))) [.var 1]
def b0W:=M 2 5 (l [t 2 I] (l [m v,f 243 [j],t 3 o] (l [m y,f 243 [j],t 4 o] (S (B [m x] j (S (B [m G] j (l [t 2 I] Y) Z) (l [t 2 k2] Y)) Z) (S (B [m G] j (l [t 2 k1] Y) Z) (S (B [m v,m y,b .lss j o] s (l [t 2 k2] Y) Z) (S (B [m v,m y,b .gtr j o] s (l [t 2 k1] Y) Z) (l [t 2 I] Y)))))))) [.var 2]
def W0:=M 2 3 (l [t 2 F] (l [m v,b .geq j I,m o,aG v s,aS y s,g1 (.bin .lss u w) s,aL s A,t 2 J] Y)) [.var 2]
def W2:=M 2 3 (l [t 2 F] (l [m v,m y,fh 244 [j,o],b .geq s I,t 2 u] Y)) [.var 2]
def b2J:=M 2 3 (l [t 2 F] (l [d y,m v,bE j o,aQ s,t 2 u] Y)) [.var 2]
def W3:PC:=(.loop (S (B [m G,m x,n o,b .lss j s] u Z (X 2)) (S (K 3 (B [m x,m G,i 1 j o,e s,m x,m G,b .sub A k1,i 1 w J,e P,b .neq u U] l9 (l [m v,m z,m x,m G,i 1 s u,e w,i 1 j o,aP J A] (R [m z,b .add j k1,t 2 o])) Z)) (R [m G,b .add j k1,t 4 o]))))
def a6U:PC:=(.loop (S (B [m z,m v,n o,b .lss j s] u Z (X 0)) (S (K 1 (B [m v,m z,i 1 j o,e s,m v,m z,b .sub A k1,i 1 w J,e P,b .eql u U] l9 (l [m v,m z,p (.slice false 1 j (some o) none),t 3 s] (S (l [t 4 k1] (K 2 W3)) (l [m v,m z,p (.slice false 1 j (some o) none),r (.h (.clear 1 s))] (l [m v,m z,dK j o,t 1 s] Y)))) Z)) (R [m z,b .add j k1,t 2 o]))))
def OG:=M 1 5 (l [t 1 n0] (S (B [m v,n j,b .lss o (k 2)] s (l [m v,t 1 j] Y) Z) (S (l [t 2 k1] (K 0 a6U)) (l [m v,t 1 j] Y)))) [.keep 1]
def a7r:PC:=(.loop (K 1 (l [m y,b .sub j k1,b .quo o (k 2),t 2 s] (S (B [m z,m y,b .eql j o,m s,aN v u,aN y u,aN z u,g0 (.h (.icall [(4,226,Option.some (1,false))] w [A,J])) u,bA P u,aJ u U] l9 (X 0) Z) (l [m v,m z,m y,p (.h (.icall [(4,229,Option.some (1,false))] j [o,s]))] (R [m z,t 1 j]))))))
def W4:=M 2 3 (K 0 a7r) []
def a6m:PC:=(.loop (K 1 (l [m G,b .mul (k 2) j,b .add o k1,t 5 s] (S (B [m N,m z,b .geq j o,m s,aN N u,g0 (.bin .lss w I) u,aJ u A] J (X 0) Z) (l [m N,t 6 j] (S (l [m N,b .add j k1,t 7 o] (B [m V,m z,b .lss j o,m s,aG v u,aG V u,aG N u,g1 (.h (.icall [(4,226,Option.some (1,false))] w [A,J])) u,aL u P] U (R [m V,t 6 j]) Z)) (S (B [m v,m O,m G,p (.h (.icall [(4,226,Option.some (1,false))] j [o,s])),aQ u] w (X 0) Z) (l [m v,m G,m O,p (.h (.icall [(4,229,Option.some (1,false))] j [o,s]))] (R [m O,t 4 j])))))))))
def W5:=M 3 8 (l [t 3 F] (l [m y,t 4 j] (S (K 0 a6m) (l [m G,m y,b .gtr j o,t 3 s] Y)))) [.var 3]
def Ru:=M 2 3 (l [aV 2] (l [m v,Q j,a 5 o,e s,b .add u k1,Q j,a 5 A,dJ J w] (l [m v,Q j,a 1 o,e s,m y,m v,Q A,a 2 J,e P,m y,m v,Q CX,a 5 CW,e C5,m v,Q Dp,a 5 DB,e DL,i 1 u w,dJ E0 C3,i 1 U l9,dJ F1 DP] (l [m v,m v,Q o,a 4 s,bL u,m y,cN A,dO w J,Q j,a 4 U,aP l9 P] (l [m v,Q j,a 3 o,e s,m y,i 1 u w,r (.h (.storer 1 false A T))] (l [m y,p (.build [I6 0,I6 0] [(0,1,j)]),aF z o] Y)))))) [.cell 2 2 true]
def a6V:PC:=(.loop (K 1 (l [m v,Q j,a 4 o,e s,m v,Q w,a 4 A,e J,n P,b .sub U k1,i 1 u l9,e CX,t 2 CW] (l [m v,m v,Q o,a 4 s,e u,m v,Q A,a 4 J,e P,n U,b .sub l9 k1,dK w CX,Q j,a 4 C5,aP C3 CW] (l [m v,Q j,a 3 o,e s,m z,i 1 u w,r (.h (.store 1 false A F))] (l [m v,Q j,a 6 o,e s,m z,m v,Q A,a 7 J,e P,i 1 u w,aP l9 U] (B [m z,m y,b .eql j o] s (X 0) Z)))))))
def Rv:=M 2 3 (S (B [m v,Q j,a 2 o,e s,m y,i 1 u w,e A,m v,Q P,a 1 U,e l9,m y,i 1 CX CW,e C5,b .neq J C3] Dp Y Z) (S (K 0 a6V) (R [m v,Q j,a 7 o,e s,b .add u k1,Q j,a 7 A,aP J w]))) []
def MP:=M 1 3 (l [aU 1 v,t 2 F] (l [a 0 y,d j,b .eql o (k 2),m s,cE y u,aI w u,g0 (.bin .eql A (k 8)) u,aJ u J,m P,cE y U,aI l9 U,g0 (.bin .eql CX (k 9)) U,aJ U CW,t 2 C5] Y)) [.var 2]
def b2K:=M 1 2 (l [t 1 F] (l [m v,m v,b .neq j o,t 1 s] Y)) [.var 1]
def a5J:=LP 5 4 0 1 (l [m N,t 3 j] (B [m y,m v,m x,i 1 o s,c u,bE j w] A (l [m x,t 2 j] Y) Z))
def W6:=M 2 6 (l [t 2 I] (S (l [m v,aD 4 j,aC 5] (K 0 a5J)) (l [t 2 k2] Y))) [.var 2]
def N7:=M 1 15 (l [aZ 1 v,t 2 F] (l [D 2 y,f 264 [j],m o,aM s,aK s,aV 3,aF x u,t 4 w] (l [D 2 y,f 265 [j],m o,aM s,aK s,aV 5,aF N u,t 6 w] (S (B [m O,b .neq j I] o (l [m G,m O,b .eql j o,m s,g1 (.pcall 266 []) u,aL u w,t 2 A] Y) Z) (l [D 2 y,f 267 [j],m o,aM s,aK s,bN 7,aF V u,t 8 w] (S (B [m v8,b .neq j I] o (l [m G,m v8,b .eql j o,m s,g1 (.pcall 266 []) u,aL u w,t 2 A] Y) Z) (l [D 2 V,f 268 [j],m o,aM s,aK s,aV 9,aF v9 u,t 10 w] (l [D 2 V,f 269 [j],m o,aM s,aK s,aV 11,aF Dw u,t 12 w] (l [D 2 V,f 197 [j],m o,aM s,aK s,aV 13,aF D3 u,t 14 w] (l [m G,b .eql j I,m Dh,b .eql s I,m u,aG Du w,cU A w,aL w J,m P,aG DU U,cU l9 U,aL U CX,p (.eq false false [.b] o CW),m C5,g1 (.pcall 266 []) C3,aL C3 Dp,t 2 DB] Y)))))))))) [.var 2]
def Vj:=M 1 6 (l [aZ 1 v,aV 2,t 3 I] (l [D 2 y,eF j,q 5 (.h (.boxobj 4 o)),t 4 N] (l [m G,fh 270 [j],aM o,aK o,aF z s,t 3 u] Y))) [.cell 2 2 true,.var 3]
def b2e:=LP 18 17 2 3 (l [m Gn,i 7 F4 Gn,C 7 o,bH 10,t 9 j,bI Dh s] (l [p (.loadv 8 4 true v8),p (.loadv 10 7 true Dh),f 271 [j,o],t 11 s] (B [m Dw,b .neq j I] o (l [m O,m v9,dI j o,m Dw,aF z s,t 3 u] Y) Z)))
def b2f:=LP 15 14 0 1 (l [m EJ,i 8 D3 EJ,C 8 o,bG 7,t 6 j,aY V s] (l [p (.loadv 1 2 true y),m O,p (.loadv 7 8 true V),f 11 [s],p (.build [Lt [],Lt [],I6 0,Lt []] [(0,2,j),(2,1,o),(3,1,u)]),dY 8,r (.store 4 true v8 w)] (S (l [a 4 V,q 16 (.loadv 7 1 false j),aD 17 F4,aC 18] (K 2 b2e)) (l [a 5 V,p (.loadv 7 1 false j),p (.loadv 8 4 true v8),p (.h (.mkfunc 273 [s] [])),f 272 [o,u],t 12 w] (S (B [m Du,b .eql j I] o (R [a 6 V,p (.loadv 7 1 false j),p (.loadv 8 4 true v8),p (.h (.mkfunc 275 [s] [])),f 274 [o,u],t 12 w]) Z) (S (B [m Du,b .eql j I] o (R [a 7 V,p (.loadv 7 1 false j),p (.loadv 8 4 true v8),p (.h (.mkfunc 275 [s] [])),f 274 [o,u],t 12 w]) Z) (B [m Du,b .neq j I] o (l [m O,dU j,m Du,aF z o,t 3 s] Y) Z)))))))
def QO:=M 1 19 (l [aZ 1 v,aV 2,t 3 I] (S (l [p (.loadv 1 2 true y),f 8 [j],m o,aM s,aK s,aV 4,aF G u,t 5 w] (B [m N,b .neq j I] o (l [p (.loadv 4 2 true G),m N,aF z j,t 3 o] Y) Z)) (S (l [a 1 y,q 13 (.loadv 1 1 false j),aD 14 D3,aC 15] (K 0 b2f)) (l [bX,aF z j,t 3 I] Y)))) [.cell 2 2 true,.var 3]
def b4Y:=M 0 13 (l [t 0 F] (l [f 276 [T],f 264 [j],m o,aM s,aK s,aV 1,aF y u,t 2 w] (l [f 276 [F],f 264 [j],m o,aM s,aK s,aV 3,aF x u,t 4 w] (l [f 276 [F],f 277 [j],m o,aM s,aK s,bN 5,aF N u,t 6 w] (l [f 276 [T],f 277 [j],m o,aM s,aK s,bN 7,aF V u,t 8 w] (l [f 276 [T],p (.pcall 278 [j,(.c (.str [99,111,117,110,116]))]),m o,aM s,aK s,p (.extract 2 s),t 9 u,t 10 w,t 11 A] (l [f 276 [T],p (.pcall 278 [j,(.c (.str [114]))]),m o,aM s,aK s,p (.extract 2 s),aE u,aE w,t 12 A] (l [m z,b .eql j I,m o,g1 (.load 2 true y false) s,g1 (.build [I6 0,I6 0] []) s,g1 (.eq false true [.i,.i] u w) s,aL s A,m J,aG G P,g1 (.bin .eql U (k 12)) P,aL P l9,m CX,aG O CW,g1 (.bin .eql C5 (k 23)) CW,aL CW C3,m Dp,aG v8 DB,cU DL DB,aL DB DP,m E0,g1 (.load 2 true V false) Ei,g1 (.pcall 276 [T]) Ei,g1 (.pcall 279 [F1,Ea]) Ei,aL Ei F3,m Gz,aG Dw DZ,cU If DZ,aL DZ GV,m GA,aG Du IW,g1 (.bin .eql Ig (k 6)) IW,aL IW ME,m MF,aG v9 Kn,bK IA Kn,g1 (.bin .eql MG k1) Kn,aL Kn MH,m MI,aG v9 Hd,g1 (.iaddrS 3 W7 I) Hd,g1 (.faddr 0 W8) Hd,dC W9 Hd,g1 (.bin .eql Xa (.c (.str [114]))) Hd,aL Hd l42,m l43,aG v9 LV,g1 (.iaddrS 3 l45 I) LV,cR l46 LV,dC l47 LV,g1 (.bin .eql l48 k1) LV,aL LV l49,m l50,aG Dh Rw,bK l52 Rw,g1 (.bin .eql l53 k1) Rw,aL Rw l54,m l55,aG Dh MQ,g1 (.iaddrS 3 l57 I) MQ,g1 (.faddr 0 l58) MQ,dC l59 MQ,g1 (.bin .eql l60 (.c (.str [110]))) MQ,aL MQ l61,m l62,aG Dh MS,g1 (.iaddrS 3 l64 I) MS,cR l65 MS,dC l66 MS,g1 (.bin .eql l67 (k 2)) MS,aL MS l68,t 0 l69] Y)))))))) [.var 0]
def b0X:=LP 14 13 0 1 (l [i 8 Du DU,C 8 j,bG 8,aY v8 o] (R [a 1 V,dD j,m O,D 8 v8,fh 282 [s,u],dE o w,a 1 V,aW J A]))
def QU:=M 1 15 (l [aZ 1 v,bN 2,t 3 I] (S (l [D 2 y,f 265 [j],m o,aM s,aK s,aV 4,aF G u,t 5 w] (B [m N,b .neq j I] o (l [dH,m N,aF z j,t 3 o] Y) Z)) (l [D 2 y,fh 280 [j],a 0 y,d s,p (.pcallx 281 [u] none),p (.h (.buildT [.nilptr,Lt []] [(0,1,o)] 1 w)),q 11 (.h (.boxfresh 2 A)),t 6 Dw] (l [bN 7] (S (l [a 1 y,aH 12 j,aD 13 Du,aC 14] (K 0 b0X)) (l [m O,Q j,a 1 o,e s,a 0 V,aW w u] (S (l [D 2 V,f 23 [j],m o,aM s,aK s,aV 9,aF v9 u,t 10 w] (B [m Dh,b .neq j I] o (l [dH,aF z j,t 3 (k 3)] Y) Z)) (l [D 2 V,f 283 [j],aF z o,t 3 I] Y)))))))) [.cell 2 2 true,.var 3]
def b5V:=LP 12 11 0 1 (l [m Du,i 8 Dh Du,C 8 o,bG 7,t 6 j,aY V s] (l [D 8 V,f 11 [j],p (.build [Lt []] [(0,1,o)]),D 8 V,f 284 [s,u],m w,aM A,aK A,t 8 J,t 9 P] (B [m v9,b .neq j I] o (l [m O,m v8,dI j o,m v9,aF z s,t 3 u] Y) Z)))
def ND:=M 1 13 (l [aZ 1 v,aV 2,t 3 I] (S (B [D 2 y,f 201 [j],aQ o] s (l [cX,aF z j,t 3 (k 2)] Y) Z) (S (l [D 2 y,f 265 [j],m o,aM s,aK s,aV 4,aF G u,t 5 w] (B [m N,b .neq j I] o (l [D 2 G,m N,aF z j,t 3 o] Y) Z)) (S (l [a 1 y,aH 10 j,aD 11 Dh,aC 12] (K 0 b5V)) (l [bX,aF z j,t 3 I] Y))))) [.cell 2 2 true,.var 3]
def b5W:=LP 12 11 0 1 (l [m Du,i 8 Dh Du,C 8 o,bG 7,t 6 j,aY V s] (l [D 8 V,f 286 [j],m o,aM s,aK s,t 8 u,t 9 w] (B [m v9] j (l [m O,m v8,dI j o,aF z s,t 3 (k 12)] Y) Z)))
def PU:=M 1 13 (l [aZ 1 v,aV 2,t 3 I] (S (l [D 2 y,f 285 [j],m o,aM s,aK s,aV 4,aF G u,t 5 w] (B [m N,b .neq j I] o (l [D 2 G,m N,aF z j,t 3 o] Y) Z)) (S (l [a 1 y,aH 10 j,aD 11 Dh,aC 12] (K 0 b5W)) (l [bX,aF z j,t 3 I] Y)))) [.cell 2 2 true,.var 3]
def LI:PC:=(.loop (S (B [b .lss v8 (k 5)] j Z (X 0)) (S (K 1 (l [p (.h (.idxA 5 1 false V v8)),t 4 j] (l [m G,p (.h (.callv j [])),m o,aM s,aK s,aV 5,aF N u,t 6 w] (B [m O,b .neq j I] o (l [D 2 N,m O,aF y j,t 2 o] Y) Z)))) (R [b .add v8 k1,aA 8 j]))))
def Vh:=M 1 9 (l [aV 1,t 2 I] (l [q 3 (.newloc [.nilfunc,.nilfunc,.nilfunc,.nilfunc,.nilfunc])] (l [m v,p (.h (.mkfunc 287 [j] [])),p (.iaddrA 5 1 x I),aW s o] (l [m v,p (.h (.mkfunc 288 [j] [])),p (.iaddrA 5 1 x k1),aW s o] (l [m v,p (.h (.mkfunc 289 [j] [])),p (.iaddrA 5 1 x (k 2)),aW s o] (l [m v,p (.h (.mkfunc 290 [j] [])),p (.iaddrA 5 1 x (k 3)),aW s o] (l [m v,p (.h (.mkfunc 291 [j] [])),p (.iaddrA 5 1 x (k 4)),aW s o] (S (l [q 7 (.load 5 true x false),aC 8] (K 0 LI)) (l [bX,aF y j,t 2 I] Y))))))))) [.cell 1 2 true,.var 2]
def b0F:=LP 12 11 0 1 (l [m Du,i 1 Dh Du,c o,t 7 j,t 8 s] (l [D 4 z,m v8,f 293 [j,o],m s,aM u,aK u,t 9 w,aE A] (B [m v9,m N,m V,i 1 o s,c u,b .neq j w] A (l [t 4 (k 10)] Y) Z)))
def NV:=M 2 13 (l [bT 2 v,q 3 (.boxloc 7 y),t 4 I] (l [D 4 z,a 1 x,D 6 o,f 292 [j,s,F],m u,aM w,aK w,t 5 A,t 6 J] (S (B [m O,b .neq j I] o (l [m O,t 4 j] Y) Z) (S (B [m N,n j,a 0 x,d s,n u,b .neq o w] A (l [t 4 (k 9)] Y) Z) (S (l [a 0 x,aH 10 j,aD 11 Dh,aC 12] (K 0 b0F)) (l [t 4 I] Y)))))) [.var 4]
def b0G:=LP 7 6 0 1 (l [i 1 N V,C 1 j,bZ 3,cA x o] (l [m y,D 1 x,bE j o,t 4 s] (B [m G,b .neq j I] o (l [m G,t 2 j] Y) Z)))
def UD:=M 2 8 (l [t 2 I] (S (l [aA 5 v,aD 6 N,aC 7] (K 0 b0G)) (l [t 2 I] Y))) [.var 2]
def UK:=M 2 5 (l [bT 2 v,bC 3 y,t 4 I] (l [a 0 x,d j,D 4 z,p (.h (.mkfunc 295 [s] [])),f 294 [o,u],t 4 w] Y)) [.var 4]
def b0H:=LP 7 6 0 1 (l [i 6 N V,C 6 j,aT 3,aO x o] (l [m y,D 6 x,bE j o,t 4 s] (B [m G,b .neq j I] o (l [m G,t 2 j] Y) Z)))
def UE:=M 2 8 (l [t 2 I] (S (l [aA 5 v,aD 6 N,aC 7] (K 0 b0H)) (l [t 2 I] Y))) [.var 2]
def LG:=M 2 7 (l [bT 2 v,aU 3 y,t 4 I] (l [D 4 z,D 6 x,f 292 [j,o,F],m s,aM u,aK u,t 5 w,t 6 A] (S (K 0 (B [m O,b .neq j I,aE o] s (l [m O,t 4 j] Y) (B [m N,n j,b .neq o k1,aE s] u (l [t 4 (k 9)] Y) (B [m N,i 1 j I,c o,b .neq s k1,aE u] w (l [t 4 (k 10)] Y) Z)))) (l [t 4 I] Y)))) [.var 4]
def b4Z:=M 1 7 (l [bN 1] (l [p (.build [I6 0,I6 0,I6 0,I6 0,.str [],Lt []] [(0,1,(k 2)),(4,1,(.c (.str [110])))]),aT 2,aO z j] (l [D 6 z,cJ j,p (.build [I6 0,I6 0,I6 0,I6 0,.str [],Lt []] [(0,1,(k 5)),(5,1,o)]),aT 3,aO x s] (S (B [m v] j (R [eG,D 6 z,dP j o,dZ s,aO x u]) Z) (l [D 6 x,p (.build [I6 0,I6 0,I6 0,I6 0,.str [],Lt []] [(0,1,k1),(2,1,(k 2)),(3,1,k1)]),dP j o,p (.build [I6 0,I6 0,I6 0,I6 0,.str [],Lt []] [(0,1,(k 3)),(1,1,(k 6)),(5,1,s)]),aT 4,aO G u] (l [p (.build [I6 0,I6 0,I6 0,I6 0,.str [],Lt []] [(0,1,(k 2)),(4,1,(.c (.str [114])))]),eG,D 6 G,eH j o s,eI u,aT 5,aO N w] (l [p (.build [.str [],I6 0,Lt []] [(0,1,(.c (.str [114]))),(1,1,k1)]),cG j,p (.build [.str [],I6 0,Lt []] [(0,1,(.c (.str [110]))),(1,1,(k 2))]),cG s,p (.mkslice 1 (.str []) 1 [(0,(.c (.str [110])))]),D 6 N,dF w A,dQ J,p (.build [.str [],Lt [],Lt [],Lt [],Lt [],Lt [],Lt [],Lt []] [(0,1,(.c (.str [99,111,117,110,116]))),(1,1,o),(2,1,u),(4,1,P)]),bG 6,aY O U] (l [D 8 O,dR j,p (.build [Lt [],Lt []] [(1,1,o)]),aF y s] Y)))))))) [.cell 1 2 true]
def b34:=M 1 8 (l [aZ 1 v,bN 2,t 3 I] (l [D 2 y,eF j,q 7 (.h (.boxobj 4 o)),t 4 V] (S (l [m G,fh 270 [j],m o,aM s,aK s,aV 5,aF N u,t 6 w] (B [m O,b .neq j I] o (l [dH,aF z j,t 3 (k 23)] Y) Z)) (l [m G,Q j,a 2 o,e2 2 s,aF z u,t 3 I] Y)))) [.cell 2 2 true,.var 3]
def b35:=M 2 10 (l [aZ 2 v,t 3 n0,t 4 n0,t 5 I] (S (l [D 2 z,f 264 [j],m o,aM s,aK s,aV 6,aF O u,t 7 w] (B [m V,b .neq j I] o (l [t 3 n0,t 4 n0,t 5 (k 23)] Y) Z)) (l [D 2 z,m y,f 82 [j,o],m s,aM u,aK u,t 8 w,t 9 A] (S (B [m v9,aQ j] o (l [t 3 n0,t 4 n0,t 5 (k 6)] Y) Z) (l [a 1 z,d j,m v8,i 8 o s,a 1 u,c w,f 296 [A],a 1 z,d P,m v8,i 8 U l9,a 2 CX,c CW,f 296 [C5],t 3 J,t 4 C3,t 5 I] Y))))) [.var 3,.var 4,.var 5]
def b79:PC:=(.loop (S (B [m N,a 0 z,d o,n s,b .lss j u] w Z (X 0)) (S (K 1 (B [a 0 z,d j,m N,i 2 o s,a 0 u,c w,a 0 x,d J,m N,i 2 P U,a 0 l9,c CX,b .neq A CW,m C5,cE z C3,aI Dp C3,aN N C3,g0 (.iaddrS 2 DB DL) C3,bD DP C3,bU E0 C3,cE x C3,aI F1 C3,aN N C3,g0 (.iaddrS 2 Ea F3) C3,bD Gz C3,bU DZ C3,g0 (.pcall 297 [Ei,If]) C3,bA GV C3,aJ C3 GA] IW (l [t 4 F] Y) Z)) (R [m N,b .add j k1,t 5 o]))))
def b8a:PC:=(.loop (S (B [m O,a 1 z,d o,n s,b .lss j u] w Z (X 2)) (S (K 3 (l [p (.anyo [[],[0],[],[1,2],[3],[],[5],[],[6,7],[8],[],[],[10,4,0,1,2,3,4,10,11],[11,9,12,0,1,2,3,4,5,6,7,8,9,10,11,12]] [[],[10,11],[],[],[],[12],[10,11,12],[12],[12],[12],[1,6,11],[1,6,10],[5,6,7,8,9],[]]),a 1 z,d j,m O,i 8 o s,C 8 u,a 1 x,d A,m O,i 8 J P,C 8 U,bG 7,bG 8,aY V w,aY v8 l9] (S (B [a 0 V,d j,a 0 v8,d s,b .neq o u,m w,bD V A,aI J A,bD v8 A,aI U A,g0 (.pcall 10 [P,l9]) A,bA CX A,aJ A CW,m C5,bJ V C3,aI Dp C3,bJ v8 C3,aI DL C3,g0 (.pcall 10 [DB,DP]) C3,bA E0 C3,aJ C3 Ei,m F1,cF V Ea,aI F3 Ea,cF v8 Ea,aI DZ Ea,g0 (.pcall 10 [Gz,If]) Ea,bA GV Ea,aJ Ea GA] IW (l [t 4 F] Y) Z) (B [a 4 V,d j,a 4 v8,d s,f 298 [o,u],aQ w,m A,cV V J,aI P J,cV v8 J,aI l9 J,g0 (.pcall 299 [U,CX]) J,bA CW J,aJ J C5,m C3,g0 (.faddr 6 V) Dp,aI DB Dp,g0 (.faddr 6 v8) Dp,aI DP Dp,g0 (.pcall 300 [DL,E0]) Dp,bA Ei Dp,aJ Dp F1,m Ea,g0 (.faddr 7 V) F3,aI Gz F3,g0 (.faddr 7 v8) F3,aI If F3,g0 (.pcall 300 [DZ,GV]) F3,bA GA F3,aJ F3 IW] Ig (l [t 4 F] Y) Z)))) (R [m O,b .add j k1,t 6 o]))))
def b6C:=M 2 9 (l [aZ 2 v,aZ 3 y,t 4 F] (S (B [a 0 z,d j,n o,a 0 x,d u,n w,b .neq s A,m J,bD z P,aI U P,dB l9 P,bD x P,aI CW P,dB C5 P,bY CX C3 P,aJ P Dp] DB (l [t 4 F] Y) Z) (S (l [t 5 I] (K 0 b79)) (S (l [t 6 I] (K 2 b8a)) (l [t 4 T] Y))))) [.var 4]
def ZX:=LP 9 8 0 1 (l [i 2 V v9,C 2 j,cK 4,aF G o] (l [d x,a 0 G,d o,bB s,fh 301 [j,u]] (R [d x,a 1 G,d o,fh 301 [j,s]])))
def ZY:=LP 12 11 2 3 (l [i 8 Dh Du,C 8 j,bG 5,aY N o] (l [d x,a 0 N,d o,bB s,fh 301 [j,u]] (l [d x,D 8 N,f 11 [o],fh 302 [j,s]] (l [d x,a 4 N,d o,a 5 N,d u,fh 303 [j,s,w]] (l [d x,a 6 N,d o,fh 304 [j,s]] (R [d x,a 7 N,d o,fh 304 [j,s]]))))))
def Tt:=M 1 13 (l [aZ 1 v,t 2 (.c (.nilptr))] (l [cL,p (.build [.map none,.nilfunc] [(0,1,j)]),q 6 (.h (.boxobj 2 o)),q 3 (.newloc [.nilptr]),aW x O] (S (l [a 0 y,aH 7 j,aD 8 V,aC 9] (K 0 ZX)) (S (l [a 1 y,aH 10 j,aD 11 Dh,aC 12] (K 2 ZY)) (l [d x,p (.h (.mkfunc 305 [] [x])),Q j,a 1 s,aP u o] (l [d x,t 2 j] Y)))))) [.var 2]
def Qi:PFunc:=⟨1,2,(l [t 1 n0] (S (B [m v,dA j] o (l [t 1 n0] Y) Z) (l [p (.mkslice 2 (.agg [.str [],Lt []]) 0 []),m v,p (.append 2 40 j o),t 1 s] Y))),[.var 1],true,none,none⟩
def U9:=LP 11 10 0 1 (l [i 1 v9 Dw,C 1 j,bZ 7,cA V o] (R [aE N,m v,D 8 z,f 11 [s],D 1 V,fh 308 [o,G,u,w],dE j A,t 5 J]))
def a6o:=LP 14 13 2 3 (l [i 8 Du DU,C 8 j,bG 8,aY v8 o] (R [aE O,m v,D 8 v8,fh 282 [o,s],dE j u,t 6 w]))
def Vb:=M 2 15 (l [bF 2 y,t 3 n0] (l [D 8 z,eD 4,r (.h (.store 8 true G j))] (l [a 5 G,r (.h (.store 1 false j n0))] (l [a 3 z,d j,p (.pcallx 306 [o] none),a 3 G,aP u s] (l [a 4 z,d j,p (.pcallx 307 [o] none),a 4 G,aP u s] (l [t 5 n0,t 6 n0] (S (l [a 5 z,aH 9 j,aD 10 v9,aC 11] (K 0 U9)) (S (l [aA 12 N,aD 13 Du,aC 14] (K 2 a6o)) (l [aE O,e2 8 G,dR o,dE j s,t 3 u] Y))))))))) [.var 3]
def TZ:=M 1 4 (l [aZ 1 v,bN 2] (l [bN 3] (l [a 0 y,d j,p (.pcall 309 [o,(.c (.func 310 [] []))]),a 0 x,aW u s] (l [a 1 y,d j,p (.pcall 311 [o,(.c (.func 312 [] []))]),a 1 x,aW u s] (l [D 2 x,aF z j] Y))))) [.cell 2 2 true]
def ZI:=LP 14 13 0 1 (l [m DU,i 7 Du DU,C 7 o,bH 7,t 6 j,bI V s] (l [D 1 z,D 7 V,f 314 [j,o],t 8 s] (B [m v8,b .neq j I] o (l [m O,m v8,t 4 j,t 5 o] Y) Z)))
def ZH:=LP 19 18 4 5 (l [i 6 Ge Ji,C 6 j,aT 10,aO Dh o] (l [D 1 z,D 6 Dh,p (.pcall 315 [j,o,n0]),t 11 s] (B [m Dw,b .neq j I] o (l [m Dw,t 4 k2,t 5 j] Y) Z)))
def ZJ:PC:=(.loop (S (B [b .lss F4 (k 2)] j Z (X 2)) (S (K 3 (l [p (.h (.idxA 2 1 false EJ F4)),t 9 j] (l [aA 17 v9,aD 18 Ge,aC 19] (K 4 ZH)))) (R [b .add F4 k1,aA 16 j]))))
def P5:=M 2 20 (l [bC 2 v,bF 3 y,t 4 I,t 5 I] (S (B [D 1 z,a 3 x,d o,f 313 [j,s],aQ u] w (l [t 4 k2,t 5 (k 11)] Y) Z) (S (l [a 4 x,aH 12 j,aD 13 Du,aC 14] (K 0 ZI)) (S (l [a 6 x,d j,a 7 x,d s,q 15 (.h (.barr [Lt [],Lt []] [(0,1,o),(1,1,u)])),aC 16] (K 2 ZJ)) (l [t 4 I,t 5 I] Y))))) [.var 4,.var 5]
def PT:=M 1 4 (l [aZ 1 v,aV 2,t 3 I] (S (B [D 2 y,f 201 [j],aQ o] s (l [cX,aF z j,t 3 (k 2)] Y) Z) (l [D 2 y,f 268 [j],aM o,aK o,aF z s,t 3 u] Y))) [.cell 2 2 true,.var 3]
def Zs:=LP 14 13 0 1 (l [m DU,i 7 Du DU,C 7 o,bH 6,t 5 j,bI O s] (B [m G,a 1 O,D 6 o,fh 317 [j,s]] u (l [m N,t 2 j,t 3 T] Y) Z))
def Zt:=LP 17 16 2 3 (l [i 3 EJ Ge,C 3 j,aX 7,aR V o] (B [m G,a 0 V,d o,bR j s] u (l [t 2 k2,t 3 T] Y) Z))
def Zv:=LP 23 22 6 7 (l [i 3 KX LU,C 3 j,cD 9,aR v9 o] (B [m G,a 0 v9,d o,bR j s] u (l [t 2 k2,t 3 T] Y) Z))
def Zu:=LP 20 19 4 5 (l [i 3 Gn Hy,C 3 j,aX 8,aR v8 o] (l [a 2 v8,aH 21 j,aD 22 KX,aC 23] (K 6 Zv)))
def Zr:=LP 29 28 10 11 (l [i 6 Rs Xb,C 6 j,aT 11,aO Dw o] (B [m G,D 6 Dw,fh 318 [j,o],m s,aN G u,g0 (.load 6 true Dw false) u,g0 (.h (.call 317 [w,A])) u,aJ u J] P (l [t 2 k2,t 3 T] Y) Z))
def Zw:=LP 26 25 8 9 (l [i 1 OC Rt,c j,t 10 o] (l [aA 27 Dh,aD 28 Rs,aC 29] (K 10 Zr)))
def SY:=M 1 30 (l [bF 1 v,t 2 I,t 3 F] (l [D 8 y,fh 316 [j],t 4 o] (S (l [a 4 y,aH 12 j,aD 13 Du,aC 14] (K 0 Zs)) (S (l [a 2 y,aH 15 j,aD 16 EJ,aC 17] (K 2 Zt)) (S (l [a 3 y,aH 18 j,aD 19 Gn,aC 20] (K 4 Zu)) (S (l [a 6 y,d j,a 7 y,d s,q 24 (.mkslice 1 (Lt []) 2 [(0,o),(1,u)]),aD 25 OC,aC 26] (K 8 Zw)) (l [t 2 k2,t 3 F] Y))))))) [.var 2,.var 3]
def Vc:=M 1 3 (l [aV 1,t 2 I] (l [m v,Q j,a 0 o,e2 2 s,f 265 [u],aM w,aK w,aF y A,t 2 J] Y)) [.cell 1 2 true,.var 2]
def QV:=M 1 5 (l [aV 1,t 2 I] (l [m v,Q j,a 0 o,e2 2 s,f 267 [u],m w,aM A,aK A,bN 3,aF x J,t 4 P] (S (B [m G,b .neq j I] o (l [cX,m G,aF y j,t 2 o] Y) Z) (l [m v,D 2 x,Q j,a 2 s,cQ u o] (l [bX,aF y j,t 2 I] Y))))) [.cell 1 2 true,.var 2]
def Vd:=M 1 3 (l [aV 1,t 2 I] (l [m v,Q j,a 2 o,e2 2 s,f 268 [u],aM w,aK w,aF y A,t 2 J] Y)) [.cell 1 2 true,.var 2]
def Ve:=M 1 3 (l [aV 1,t 2 I] (l [m v,Q j,a 2 o,e2 2 s,f 269 [u],aM w,aK w,aF y A,t 2 J] Y)) [.cell 1 2 true,.var 2]
def Vf:=M 1 3 (l [aV 1,t 2 I] (l [m v,Q j,a 2 o,e2 2 s,f 197 [u],aM w,aK w,aF y A,t 2 J] Y)) [.cell 1 2 true,.var 2]
def Fc:=M 3 16 (l [bT 3 v,aU 4 y,t 5 n0,t 6 I] (l [D 4 x,a 5 G,d o,f 319 [j,s],m u,aM w,aK w,t 7 A,t 8 J] (S (B [m v8,b .neq j I] o (l [m v8,t 5 n0,t 6 j] Y) Z) (l [t 9 I] (S (l [a 0 G,aH 13 j] (K 0 (B [b .eql D3 k1,aE j] o (R [a 2 G,d j,t 9 o]) (B [b .eql D3 (k 11),aE j] o (R [t 9 k1]) (B [b .eql D3 (k 2),aE j] o (l [D 4 x,a 4 G,d o,f 293 [j,s],m u,aM w,aK w,t 10 A,t 11 J] (S (B [m Dw,aQ j] o (l [t 5 n0,t 6 (k 6)] Y) Z) (R [m Dh,t 9 j]))) (B [b .eql D3 (k 3),aE j] o (l [a 1 G,d j,m V,f 320 [o,s],m u,aM w,aK w,t 9 A,t 8 J] (B [m v8,b .neq j I] o (l [m v8,t 5 n0,t 6 j] Y) Z)) (B [b .eql D3 (k 4),aE j] o (S (B [m V,i 1 j I,c o,b .neq s k1,m u,aN V w,g0 (.iaddrS 1 A k1) w,bU J w,aN V w,g0 (.iaddrS 1 U (k 2)) w,bU l9 w,bY P CX w,aJ w CW] C5 (l [t 5 n0,t 6 (k 10)] Y) Z) (R [m V,i 1 j k1,c o,t 9 s])) (S (B [b .eql D3 (k 5),t 14 j] DU Z (B [b .eql D3 (k 6),t 14 j] DU Z (R [b .eql D3 (k 7),t 14 j]))) (B [] DU (S (B [m V,f 321 [j],aQ o] s (l [t 5 n0,t 6 (k 10)] Y) Z) (R [m V,i 1 j I,c o,t 9 s])) (S (B [b .eql D3 (k 8),t 15 j] EJ Z (R [b .eql D3 (k 9),t 15 j])) (B [] EJ (S (l [D 4 x,a 4 G,d o,a 2 G,d u,f 322 [j,s,w],t 12 A] (B [m Du,b .neq j I] o (l [m Du,t 5 n0,t 6 j] Y) Z)) (S (B [m V,f 321 [j],aQ o] s (l [t 5 n0,t 6 (k 10)] Y) Z) (R [m V,i 1 j I,c o,t 9 s]))) (B [b .eql D3 (k 10),aE j] o (l [D 4 x,D 6 G,m V,m z,f 323 [j,o,s,u],aM w,aK w,t 5 A,t 6 J] Y) Z)))))))))))) (l [m v9,cN j,t 5 o,t 6 I] Y)))))) [.var 5,.var 6]
def QI:=M 2 7 (l [bT 2 v,bC 3 y,t 4 I,t 5 F] (l [a 3 z,d j,p (.h (.mkfunc 324 [] [x])),f 111 [o,s],t 6 u] (S (B [m O,b .lss j I] o (l [t 4 I,t 5 F] Y) Z) (l [a 3 z,d j,m O,i 3 o s,a 1 u,c w,t 4 A,t 5 T] Y)))) [.var 4,.var 5]
def a9R:=LP 7 6 0 1 (l [i 6 N V,C 6 j,bM 3,aO x o] (l [m y,D 6 x,bE j o,t 4 s] (B [m G,b .neq j I] o (l [m G,t 2 j] Y) Z)))
def UF:=M 2 8 (l [t 2 I] (S (l [aA 5 v,aD 6 N,aC 7] (K 0 a9R)) (l [t 2 I] Y))) [.var 2]
def UJ:=M 2 9 (l [bT 2 v,aU 3 y,t 4 I] (S (l [a 4 x,d j,D 4 z,p (.h (.mkfunc 326 [s] [])),f 325 [o,u],t 5 w] (B [m N,b .neq j I] o (l [m N,t 4 j] Y) Z)) (l [D 4 z,a 1 x,d o,f 327 [j,s],dY 6,r (.store 4 true O u)] (S (l [a 2 x,d j,D 4 O,p (.h (.mkfunc 271 [s] [])),f 328 [o,u],t 7 w] (B [m V,b .neq j I] o (l [m V,t 4 j] Y) Z)) (S (l [a 3 x,d j,D 4 O,p (.h (.mkfunc 273 [s] [])),f 272 [o,u],t 8 w] (B [m v8,b .neq j I] o (l [m v8,t 4 j] Y) Z)) (l [a 5 x,d j,D 4 O,p (.h (.mkfunc 326 [s] [])),f 325 [o,u],t 4 w] Y)))))) [.var 4]
def b40:=LP 6 5 0 1 (l [i 3 G O,C 3 j,aX 3,aR x o] (l [a 2 x,d j,p (.append 3 32 n0 o),a 2 x,aW u s] (R [aE z,D 3 x,cG o,cO j s,t 2 u])))
def b2L:=M 1 7 (l [t 1 n0] (l [t 2 n0] (S (l [aA 4 v,aD 5 G,aC 6] (K 0 b40)) (l [m z,t 1 j] Y)))) [.var 1]
def b7g:PC:=(.loop (S (B [m x,m v,n o,b .lss j s] u Z (X 0)) (S (K 1 (B [m v,m x,i 1 j o,c s,m y,m x,i 1 w A,c J,b .neq u P] U (l [t 2 F] Y) Z)) (R [m x,b .add j k1,t 3 o]))))
def b41:=M 2 4 (l [t 2 F] (S (B [m v,n j,m y,n s,b .neq o u] w (l [t 2 F] Y) Z) (S (l [t 3 I] (K 0 b7g)) (l [t 2 T] Y)))) [.var 2]
def b3V:PC:=(.loop (S (B [m x,m v,n o,b .lss j s] u Z (X 0)) (S (K 1 (B [m v,m x,i 7 j o,a 0 s,c u,m y,m x,i 7 A J,a 0 P,c U,f 297 [w,l9],aQ CX,m CW,aN v C5,aN x C5,g0 (.iaddrS 7 C3 Dp) C5,bD DB C5,g0 (.h (.loadc 6 true DL)) C5,aN y C5,aN x C5,g0 (.iaddrS 7 E0 Ei) C5,bD F1 C5,g0 (.h (.loadc 6 true Ea)) C5,g0 (.pcall 329 [DP,F3]) C5,bA Gz C5,aJ C5 DZ] If (l [t 2 F] Y) Z)) (R [m x,b .add j k1,t 3 o]))))
def b0Y:=M 2 4 (l [t 2 F] (S (B [m v,n j,m y,n s,b .neq o u] w (l [t 2 F] Y) Z) (S (l [t 3 I] (K 0 b3V)) (l [t 2 T] Y)))) [.var 2]
def b7h:PC:=(.loop (S (B [m G,m v,m x,i 1 o s,a 0 u,c w,n A,b .lss j J] P Z (X 2)) (S (K 3 (l [p (.anyo [[],[],[0,1],[2],[3],[],[4,5],[6],[],[],[8,9],[10],[11],[],[12,13],[14],[],[],[16,7,0,1,2,3,4,5,6,7,16,17],[17,15,18,0,1,2,3,4,5,6,7,8,9,10,11,12,13,14,15,16,17,18]] [[],[],[],[],[],[],[],[],[18],[18],[18],[18],[18],[18],[18],[18],[17],[16],[8,9,10,11,12,13,14,15],[]]),m v,m x,i 1 j o,a 0 s,c u,m G,i 6 w A,C 6 J,m y,m x,i 1 U l9,a 0 CX,c CW,m G,i 6 C5 C3,C 6 Dp,bM 5,bM 6,aO N P,aO O DB] (B [a 0 N,d j,a 0 O,d s,b .neq o u,m w,bD N A,aI J A,bD O A,aI U A,g0 (.pcall 10 [P,l9]) A,bA CX A,aJ A CW,m C5,bJ N C3,aI Dp C3,bJ O C3,aI DL C3,g0 (.pcall 298 [DB,DP]) C3,bA E0 C3,aJ C3 Ei,m F1,cF N Ea,aI F3 Ea,cF O Ea,aI DZ Ea,g0 (.pcall 299 [Gz,If]) Ea,bA GV Ea,aJ Ea GA,m IW,cT N Ig,aI ME Ig,cT O Ig,aI Kn Ig,g0 (.pcall 330 [MF,IA]) Ig,bA MG Ig,aJ Ig MH,m MI,cV N Hd,aI W7 Hd,cV O Hd,aI W9 Hd,g0 (.pcall 330 [W8,Xa]) Hd,bA l42 Hd,aJ Hd l43] LV (l [t 2 F] Y) Z))) (R [m G,b .add j k1,t 4 o]))))
def b7i:PC:=(.loop (S (B [m x,m v,n o,b .lss j s] u Z (X 0)) (S (K 1 (S (B [m v,m x,i 1 j o,a 0 s,c u,n w,m y,m x,i 1 J P,a 0 U,c l9,n CX,b .neq A CW] C5 (l [t 2 F] Y) Z) (l [t 4 I] (K 2 b7h)))) (R [m x,b .add j k1,t 3 o]))))
def b42:=M 2 7 (l [t 2 F] (S (B [m v,n j,m y,n s,b .neq o u] w (l [t 2 F] Y) Z) (S (l [t 3 I] (K 0 b7i)) (l [t 2 T] Y)))) [.var 2]
def b5X:PC:=(.loop (S (B [m x,m v,n o,b .lss j s] u Z (X 0)) (S (K 1 (B [m v,m x,i 6 j o,C 6 s,m y,m x,i 6 w A,C 6 J,f 329 [u,P],aQ U] l9 (l [t 2 F] Y) Z)) (R [m x,b .add j k1,t 3 o]))))
def b36:=M 2 4 (l [t 2 F] (S (B [m v,n j,m y,n s,b .neq o u] w (l [t 2 F] Y) Z) (S (l [t 3 I] (K 0 b5X)) (l [t 2 T] Y)))) [.var 2]
def Z3:=LP 5 4 0 1 (l [i 1 x N,c j,t 2 o] (R [m v,Q j,a 0 o,e s,m z,cY u w]))
def Qb:=M 2 6 (l [aA 3 y,aD 4 x,aC 5] (K 0 Z3)) []
def b2w:=LP 9 8 2 3 (l [i 3 V v9,C 3 j,cD 3,aR x o] (R [m v,a 0 x,d o,bB s,fh 301 [j,u]]))
def ZP:=LP 6 5 0 1 (l [i 3 G O,C 3 j,aX 2,aR z o] (l [m v,a 0 z,d o,bB s,fh 301 [j,u]] (l [a 2 z,aH 7 j,aD 8 V,aC 9] (K 2 b2w))))
def Tj:=M 2 10 (l [aA 4 y,aD 5 G,aC 6] (K 0 ZP)) []
def ZV:=LP 9 8 0 1 (l [i 7 V v9,C 7 j,bH 3,bI x o] (l [m v,a 0 x,p (.loadv 3 1 false o),fh 301 [j,s]] (R [m v,a 1 x,p (.loadv 3 6 true o),cJ s,fh 304 [j,u]])))
def ZT:=LP 18 17 6 7 (l [i 8 F4 Gn,C 8 j,bV 6,aY O o] (R [m v,a 0 O,p (.loadv 6 6 true o),cJ s,fh 304 [j,u]]))
def Tq:=LP 15 14 4 5 (l [i 6 D3 EJ,C 6 j,bM 5,aO N o] (l [m v,a 0 N,cP o,bB s,fh 301 [j,u]] (l [m v,a 1 N,cP o,fh 302 [j,s]] (l [m v,a 2 N,cP o,a 3 N,cP u,fh 303 [j,s,w]] (l [a 4 N,cP j,p (.pcallx 331 [o] none),a 5 N,cP u,q 16 (.append 8 88 s w),aD 17 F4,aC 18] (K 6 ZT))))))
def ZW:=LP 12 11 2 3 (l [i 1 Dh Du,C 1 j,bZ 4,cA G o] (l [a 0 G,q 13 (.loadv 4 1 false j),aD 14 D3,aC 15] (K 4 Tq)))
def Tr:=M 3 19 (S (l [aA 7 y,aD 8 V,aC 9] (K 0 ZV)) (l [aA 10 z,aD 11 Dh,aC 12] (K 2 ZW))) []
def ZR:=LP 6 5 0 1 (l [i 6 G O,C 6 j,aT 3,aO x o] (l [D 6 x,cS 7 j] (K 2 (.rangeF V 386 [z]))))
def Tl:=M 2 8 (l [cB 2 v] (l [aA 4 y,aD 5 G,aC 6] (K 0 ZR))) []
def b2M:PC:=(.loop (S (K 1 (l [m v,b .add j (.c (.str [95])),m x,f 44 [s],b .add o u,t 4 w] (B [d y,Q j,a 0 o,e s,m G,bR u w,aQ A] J (l [d y,m G,bB o,fh 301 [j,s]] (l [m G,t 2 j] Y)) Z))) (R [m x,b .add j k1,t 3 o])))
def Qk:=M 2 5 (l [t 2 (.c (.str []))] (l [t 3 k1] (K 0 b2M))) [.var 2]
def Qg:PFunc:=⟨1,2,(l [t 1 n0] (S (B [m v,dA j] o (l [t 1 n0] Y) Z) (l [p (.mkslice 3 (.agg [.str [],I6 0,Lt []]) 0 []),m v,cO j o,t 1 s] Y))),[.var 1],true,none,none⟩
def Qh:PFunc:=⟨1,2,(l [t 1 n0] (S (B [m v,dA j] o (l [t 1 n0] Y) Z) (l [p (.mkslice 7 (.agg [Lt [],I6 0,I6 0,I6 0,I6 0,.str [],Lt []]) 0 []),m v,p (.append 7 96 j o),t 1 s] Y))),[.var 1],true,none,none⟩
def UY:=LP 15 14 0 1 (l [i 1 D3 EJ,c j,q 8 (.newloc [.str []]),aW v8 o] (l [m z,p (.h (.mkfunc 333 [] [v8])),f 111 [j,o],t 9 s] (B [m v9,b .geq j I] o (R [m O,m O,Q o,a 4 s,bL u,d v8,m z,m v9,i 3 J P,a 1 U,c l9,eA A CX,cG CW,cO w C5,Q j,a 4 Dp,aP DB C3]) Z)))
def U0:=LP 18 17 2 3 (l [m Gn,i 6 F4 Gn,C 6 o,bM 11,t 10 j,aO Dw s] (R [m O,m Dh,D 6 Dw,m z,fh 335 [j,o,s,u]]))
def U8:=M 4 19 (l [bC 4 x,t 5 n0] (l [m v,m y,D 1 G,p (.build [.nilptr,.nilptr,Lt [],I6 0,Lt [],.str [],.str [],Lt [],.str [],.str [],Lt [],Lt [],.str [],.str []] [(0,1,j),(1,1,o),(2,1,s)]),q 12 (.h (.boxobj 14 u)),t 6 Du] (l [D 1 G,f 332 [j],t 7 o] (S (l [aA 13 V,aD 14 D3,aC 15] (K 0 UY)) (l [m O,fh 334 [j]] (S (l [a 0 G,aH 16 j,aD 17 F4,aC 18] (K 2 U0)) (l [m O,m O,m O,Q s,a 3 u,e w,p (.h (.call 336 [o,(.c (.str [110,101,120,116])),A,n0])),Q j,a 12 P,aP U J] (l [m O,m O,p (.h (.call 336 [o,(.c (.str [98,97,99,107])),k1,n0])),Q j,a 13 u,aP w s] (l [m O,fh 337 [j]] (l [m O,Q j,a 10 o,e s,t 5 u] Y)))))))))) [.var 5]
def a9S:=LP 8 7 0 1 (l [m v8,i 2 O v8,C 2 o,cK 5,t 4 j,aF N s] (R [aE x,m y,m G,D 2 N,bW o s u,p (.mkslice 2 (.agg [.str [],Lt []]) 1 [(0,w)]),p (.append 2 40 j A),t 3 J]))
def TL:=M 2 9 (l [t 2 n0] (l [t 3 n0] (S (l [aA 6 v,aD 7 O,aC 8] (K 0 a9S)) (l [m x,t 2 j] Y)))) [.var 2]
def TY:=M 2 4 (l [aZ 2 y,cK 3] (l [a 0 z,d j,a 1 z,d s,f 338 [u],p (.build [.str [],Lt []] [(0,1,o),(1,1,w)]),aF x A] Y)) [.cell 3 2 true]
def a9T:=LP 8 7 0 1 (l [m v8,i 8 O v8,C 8 o,bG 5,t 4 j,aY N s] (R [aE x,m y,m G,D 8 N,bW o s u,dR w,dE j A,t 3 J]))
def TM:=M 2 9 (l [t 2 n0] (l [t 3 n0] (S (l [aA 6 v,aD 7 O,aC 8] (K 0 a9T)) (l [m x,t 2 j] Y)))) [.var 2]
def TX:=M 2 5 (l [bF 2 y,bG 3] (l [a 4 z,d j,p (.pcall 339 [o,(.c (.func 340 [] []))]),t 4 s] (l [a 0 z,d j,a 1 z,d s,f 342 [u],a 2 z,d A,f 342 [J],a 3 z,d U,f 342 [l9],m G,a 6 z,d C5,f 341 [C3],a 7 z,d DB,f 341 [DL],p (.build [.str [],Lt [],Lt [],Lt [],Lt [],Lt [],Lt [],Lt []] [(0,1,o),(1,1,w),(2,1,P),(3,1,CX),(4,1,CW),(6,1,Dp),(7,1,DP)]),aY x E0] Y))) [.cell 3 8 true]
def ZF:=LP 14 13 2 3 (l [m DU,i 3 Du DU,C 3 o,cD 6,t 5 j,aR O s] (l [D 1 z,a 0 O,d o,f 343 [j,s],m u,aM w,aK w,aX 7,aR V A,t 8 J] (B [m v8,aQ j,m o,bD V s,aI u s,bD O s,aI A s,bY w J s,aJ s P,m U,bJ V l9,aI CX l9,bJ G l9,aI C5 l9,aN N l9,g0 (.slice false 3 C3 none (some Dp)) l9,g0 (.pcall 344 [CW,DB]) l9,bA DL l9,aJ l9 DP] E0 (l [t 3 F] Y) Z)))
def ZE:=LP 11 10 0 1 (l [i 3 v9 Dw,C 3 j,aX 4,aR G o] (l [a 2 G,aH 12 j,aD 13 Du,aC 14] (K 2 ZF)))
def S9:=M 2 15 (l [bC 2 v,t 3 F] (S (l [aA 9 y,aD 10 v9,aC 11] (K 0 ZE)) (l [t 3 T] Y))) [.var 3]
def a8V:=LP 9 8 0 1 (l [i 1 V v9,c j,t 6 o] (B [p (.loadv 2 1 true z),m O,a 2 N,cP s,f 345 [j,o,u],aQ w] A (l [t 4 (k 11)] Y) Z))
def Ta:=M 2 10 (l [bC 2 v,q 3 (.boxloc 7 y),t 4 I] (l [r (.anyo [[],[],[1],[2],[3],[0,4],[5],[6],[6],[],[9,7,5,0,1,2,3,4,5,6,7,9],[8,10,0,1,2,3,4,5,6,7,8,9,10]] [[],[],[],[],[],[],[],[],[10],[],[8],[]]),p (.loadv 2 1 true z),a 0 x,p (.loadv 3 1 false o),i 1 s I,c u,f 343 [j,w],m A,aM J,aK J,aX 5,aR N P,aE U] (S (l [a 0 x,q 7 (.loadv 3 1 false j),aD 8 V,aC 9] (K 0 a8V)) (l [p (.loadv 2 1 true z),a 1 x,p (.loadv 3 6 true o),a 2 N,cP u,f 315 [j,s,w],t 4 A] Y)))) [.var 4]
def ZB:=LP 16 15 2 3 (l [m F4,i 6 DU F4,C 6 o,aT 10,t 9 j,aO Dh s] (l [D 1 x,D 6 Dh,m V,m v9,bE s u,f 315 [j,o,w],t 11 A] (B [m Dw,b .neq j I] o (l [m Dw,t 6 j] Y) Z)))
def HO:=M 3 17 (l [bC 3 v,aU 4 y,bC 5 z,t 6 I] (l [p (.h (.mkfunc 346 [] [N])),t 7 j] (S (l [a 0 G,aH 12 j] (K 0 (S (B [b .eql Du k1,t 13 j] D3 Z (R [b .eql Du (k 11),t 13 j])) (B [] D3 (l [t 6 I] Y) (B [b .eql Du (k 2),aE j] o (B [D 1 x,a 4 G,d o,d N,f 345 [j,s,u],aQ w] A (l [t 6 (k 11)] Y) Z) (B [b .eql Du (k 8),aE j] o (l [d N,n j,b .sub o k1,dN 8,aW v8 s] (S (B [d v8,b .lss j I,m o,aI N s,aI v8 s,g0 (.iaddrS 3 u w) s,g0 (.h (.loadc 3 true A)) s,cT G s,aI P s,bJ G s,aI l9 s,cF G s,aI CW s,g0 (.build [.str [],I6 0,I6 0] [(0,1,U),(1,1,CX),(2,1,C5)]) s,g0 (.eq true true [.s,.i,.i] J C3) s,aJ s Dp,m DB,g0 (.load 1 true x false) DL,cT G DL,aI E0 DL,aI N DL,aI v8 DL,g0 (.slice false 3 F1 none (some Ea)) DL,g0 (.pcall 345 [DP,Ei,F3]) DL,bA Gz DL,aJ DL DZ] If (l [t 6 (k 11)] Y) Z) (R [p (.h (.mkfunc 347 [] [N,v8])),t 7 j]))) (B [b .eql Du (k 9),aE j] o (S (K 1 (B [D 1 x,a 4 G,d o,d N,f 345 [j,s,u],aQ w,aE A] J (l [t 6 (k 11)] Y) (B [d N,n j,b .geq o (k 4),aE s] u (l [t 6 (k 3)] Y) Z))) (R [p (.h (.mkfunc 348 [] [N,G])),t 7 j])) Z))))))) (S (l [a 5 G,aH 14 j,aD 15 DU,aC 16] (K 2 ZB)) (l [t 6 I] Y))))) [.var 6]
def PS:PC:=(.loop (S (B [m G,p (.h (.callv j []))] o Z (X 0)) (K 1 Z)))
def SV:=M 1 5 (l [bF 1 v,t 2 (.c (.map none))] (l [cL,q 3 (.newloc [.map none]),aW x j] (l [p (.h (.mkfunc 349 [] [y,x])),t 4 j] (S (K 0 PS) (l [d x,t 2 j] Y))))) [.var 2]
def SX:=M 2 6 (l [cB 2 v,aU 3 y,q 4 (.h (.newobj [.bool false]))] (S (l [D 6 x,cS 5 j] (K 0 (.rangeF N 387 [z,G]))) (l [r (.h (.store 1 false G F))] Y))) [.cell 4 1 false]
def Ny:=M 2 6 (l [aU 2 y,t 3 F] (S (l [a 0 z,aH 4 j] (K 0 (B [b .eql G (k 5),aE j] o (l [t 3 T] Y) (B [b .eql G (k 2),aE j] o (l [m v,a 4 z,d o,bR j s,t 3 u] Y) (S (B [b .eql G (k 3),t 5 j] N Z (B [b .eql G (k 4),t 5 j] N Z (R [b .eql G (k 8),t 5 j]))) (B [] N (l [m v,a 5 z,d o,fh 350 [j,s],t 3 u] Y) Z)))))) (l [t 3 F] Y))) [.var 3]
def b2N:=LP 11 10 0 1 (l [i 6 v9 Dw,C 6 j,aT 6,aO O o] (l [D 4 z,D 6 O,f 292 [j,o,T],m s,aM u,aK u,t 7 w,t 8 A] (S (B [m v8,b .neq j I] o (l [m v8,t 3 n0,t 4 j] Y) Z) (R [aE N,m V,i 1 o I,c s,cN u,p (.append 1 8 j w),t 5 A]))))
def Uz:=M 2 12 (l [bT 2 v,t 3 n0,t 4 I] (l [t 5 n0] (S (l [aA 9 y,aD 10 v9,aC 11] (K 0 b2N)) (l [m N,t 3 j,t 4 I] Y)))) [.var 3,.var 4]
def b0Z:=LP 9 8 1 2 (l [i 1 V v9,c j,t 6 o] (l [aA 10 G] (K 3 (B [b .eql Dh k1,aE j] o (B [m O,b .neq j k1] o (l [t 2 I,t 3 (k 10)] Y) Z) (B [b .eql Dh (k 3),aE j] o (B [m O,m y,i 1 o I,c s,b .neq j u,m w,aN O A,g0 (.bin .lss J k1) A,aJ A P] U (l [t 2 I,t 3 (k 10)] Y) Z) (B [m O,b .neq j (k 2)] o (l [t 2 I,t 3 (k 10)] Y) Z))))))
def NT:=M 2 11 (l [t 2 I,t 3 I] (l [m v,f 351 [j],m o,aM s,aK s,t 4 u,t 5 w] (S (K 0 (B [m G,b .eql j I,aE o] s (l [t 2 I,t 3 (k 2)] Y) (B [m y,n j,m N,b .neq o s,aE u] w (l [t 2 I,t 3 (k 9)] Y) Z))) (S (l [aA 7 y,aD 8 V,aC 9] (K 1 b0Z)) (S (B [m G,b .eql j (k 2)] o (l [t 2 (k 2),t 3 I] Y) Z) (l [t 2 k1,t 3 I] Y)))))) [.var 2,.var 3]
def b7j:=LP 5 4 0 1 (l [i 1 x N,c j,t 2 o] (B [m z,m v,i 1 o I,c s,b .neq j u] w (l [t 1 F] Y) Z))
def Uy:=M 1 6 (l [t 1 F] (S (l [aA 3 v,aD 4 x,aC 5] (K 0 b7j)) (l [t 1 T] Y))) [.var 1]
def NU:=M 3 7 (l [bT 3 v,t 4 I] (S (l [D 4 x,m y,f 293 [j,o],m s,aM u,aK u,t 5 w,t 6 A] (K 0 (B [m O,aQ j,aE o] s (l [t 4 (k 6)] Y) (B [m N,m z,b .neq j o,aE s] u (l [t 4 (k 10)] Y) Z)))) (l [t 4 I] Y))) [.var 4]
def a8d:=LP 17 16 0 1 (l [m Ge,i 3 EJ Ge,C 3 o,aX 12,t 11 j,aR Du s] (B [m z,m Dw,i 1 j o,c s,a 1 Du,d w,b .neq u A] J (l [t 6 n0,t 7 (k 10)] Y) Z))
def a8e:=LP 20 19 2 3 (l [i 3 Gn Hy,C 3 j,aX 14,aR DU o] (R [aE D3,a 1 DU,d o,cN s,p (.append 1 8 j u),t 13 w]))
def KR:=M 4 21 (l [bT 4 v,aU 5 y,t 6 n0,t 7 I] (l [a 0 G,D 2 j,a 4 N,d s,f 82 [o,u],m w,aM A,aK A,t 8 J,t 9 P] (S (B [m v9,aQ j,m o,aN v8 s,bJ G s,aI w s,g0 (.bin .geq u A) s,aJ s J] P (l [t 6 n0,t 7 (k 6)] Y) Z) (l [a 0 G,a 1 j,d o,m v8,i 8 s u,C 8 w,bG 10,aY Dh A] (S (B [m z,n j,a 1 Dh,d s,n u,a 3 N,d A,b .add w J,b .neq o P,m U,aN x l9,aN CX l9,cM Dh CW,aS C5 CW,bK C3 CW,g1 (.bin .neq Dp k1) CW,cI CW DB l9,aJ l9 DL] DP (l [t 6 n0,t 7 (k 9)] Y) Z) (S (l [a 1 Dh,aH 15 j,aD 16 EJ,aC 17] (K 0 a8d)) (S (B [a 3 N,d j,b .eql o k1,m s,aG z u,cR Dh u,aS A u,bK J u,g1 (.iaddrS 1 w P) u,dC U u,g1 (.bin .neq l9 k1) u,aL u CX] CW (l [t 6 n0,t 7 (k 10)] Y) Z) (l [t 13 n0] (S (l [a 2 Dh,aH 18 j,aD 19 Gn,aC 20] (K 2 a8e)) (l [m D3,t 6 j,t 7 I] Y)))))))))) [.var 6,.var 7]
def Ux:=M 2 4 (l [bS 2 v,t 3 F] (l [a 0 z,d j,d y,b .eql o s,t 3 u] Y)) [.var 3]
def a9U:=LP 7 6 0 1 (l [i 8 N V,C 8 j,bV 3,aY x o] (l [m y,D 8 x,bE j o,t 4 s] (B [m G,b .neq j I] o (l [m G,t 2 j] Y) Z)))
def UG:=M 2 8 (l [t 2 I] (S (l [aA 5 v,aD 6 N,aC 7] (K 0 a9U)) (l [t 2 I] Y))) [.var 2]
def UC:=M 2 5 (l [bT 2 v,bF 3 y,t 4 I] (l [D 4 z,a 0 x,D 6 o,f 275 [j,s],t 4 u] Y)) [.var 4]
def Qa:=M 2 5 (l [bT 2 v,dY 3] (l [m y,n j,a 3 z,d s,n u,b .add o w,p (.h (.mkarr 3 true 48 [.str [],I6 0,Lt []] A)),t 4 J] (l [m G,m y,p (.h (.hcopy 3 j o))] (l [m G,m y,n o,p (.slice false 3 j (some s) none),a 3 z,d w,p (.h (.hcopy 3 u A))] (l [m G,a 3 z,aW o j] (l [D 4 z,r (.store 4 true x j)] Y)))))) [.cell 3 4 true]
def b1u:=LP 7 6 0 1 (l [i 7 N V,C 7 j,bH 3,bI x o] (l [m y,D 7 x,bE j o,t 4 s] (B [m G,b .neq j I] o (l [m G,t 2 j] Y) Z)))
def UH:=M 2 8 (l [t 2 I] (S (l [aA 5 v,aD 6 N,aC 7] (K 0 b1u)) (l [t 2 I] Y))) [.var 2]
def b8b:PC:=(.loop (S (B [m N,a 5 z,d o,n s,b .lss j u] w Z (X 0)) (S (K 1 (B [a 5 z,d j,m N,i 6 o s,C 6 u,a 5 x,d A,m N,i 6 J P,C 6 U,f 329 [w,l9],aQ CX] CW (l [t 4 F] Y) Z)) (R [m N,b .add j k1,t 5 o]))))
def b6D:=M 2 6 (l [aU 2 v,aU 3 y,t 4 F] (S (B [a 0 z,d j,a 0 x,d s,b .neq o u,m w,bD z A,aI J A,bD x A,aI U A,bY P l9 A,aJ A CX,m CW,bJ z C5,aI C3 C5,bJ x C5,aI DB C5,bY Dp DL C5,aJ C5 DP,m E0,cF z Ei,aI F1 Ei,cF x Ei,aI F3 Ei,bY Ea Gz Ei,aJ Ei DZ,m If,cT z GV,aI GA GV,cT x GV,aI Ig GV,bY IW ME GV,aJ GV MF,m Kn,cV z IA,aI MG IA,dB MH IA,cV x IA,aI Hd IA,dB W7 IA,bY MI W8 IA,aJ IA W9] Xa (l [t 4 F] Y) Z) (S (l [t 5 I] (K 0 b8b)) (l [t 4 T] Y)))) [.var 4]
def b7k:PC:=(.loop (S (B [m x,m v,n o,b .lss j s] u Z (X 0)) (S (K 1 (B [m v,m x,i 8 j o,a 6 s,c u,m y,m x,i 8 A J,a 6 P,c U,b .neq w l9,m CX,aN v CW,aN x CW,g0 (.iaddrS 8 C5 C3) CW,g0 (.faddr 7 Dp) CW,bU DB CW,aN y CW,aN x CW,g0 (.iaddrS 8 DP E0) CW,g0 (.faddr 7 Ei) CW,bU F1 CW,g0 (.eq true false [.b] DL Ea) CW,aJ CW F3,m Gz,aN v DZ,aN x DZ,g0 (.iaddrS 8 If GV) DZ,cE GA DZ,g0 (.h (.loadc 6 true IW)) DZ,aN y DZ,aN x DZ,g0 (.iaddrS 8 ME MF) DZ,cE Kn DZ,g0 (.h (.loadc 6 true IA)) DZ,g0 (.pcall 329 [Ig,MG]) DZ,bA MH DZ,aJ DZ MI] Hd (l [t 2 F] Y) Z)) (R [m x,b .add j k1,t 3 o]))))
def b43:=M 2 4 (l [t 2 F] (S (B [m v,n j,m y,n s,b .neq o u] w (l [t 2 F] Y) Z) (S (l [t 3 I] (K 0 b7k)) (l [t 2 T] Y)))) [.var 2]
def Qf:PFunc:=⟨1,2,(l [t 1 n0] (S (B [m v,dA j] o (l [t 1 n0] Y) Z) (l [p (.mkslice 8 (.agg [I6 0,I6 0,I6 0,I6 0,.str [],Lt [],I6 0,.bool false]) 0 []),m v,p (.append 8 88 j o),t 1 s] Y))),[.var 1],true,none,none⟩
def UX:=M 1 3 (l [bC 1 v,t 2 n0] (l [D 1 y,p (.mkslice 1 (.agg [Lt []]) 1 [(0,j)]),p (.build [.str [],Lt [],Lt [],Lt [],Lt [],Lt [],Lt [],Lt []] [(5,1,o)]),f 14 [s],t 2 u] Y)) [.var 2]
def UZ:=M 2 4 (l [bS 2 v,t 3 F] (l [a 0 z,d j,d y,b .eql o s,t 3 u] Y)) [.var 3]
def a65:=LP 5 4 0 1 (R [a 1 z,dD j,d y,Q s,a 0 u,e w,Q A,a 0 J,e P,Q U,a 1 l9,e CX,p (.h (.callv CW [(.c (.str [97,116]))])),bB C5,bQ o C3,a 1 z,aW DB Dp])
def Us:=LP 8 7 2 3 (l [i 6 O v8,C 6 j,bM 3,aO x o] (R [r (.anyo [[],[],[1],[2],[3],[],[5],[],[6,7],[8],[4,9,8],[0,0,1,2,3,4,5,6,7,8,9,10],[11,0,1,2,3,4,5,6,7,8,9,10],[12,10,10,0,1,2,3,4,5,6,7,8,9,10]] [[7],[7],[],[],[8],[],[7],[0,1,6],[4],[],[],[],[],[]]),d y,d y,Q o,a 7 s,bL u,a 4 x,d A,p (.h (.mkfunc 353 [] [y])),fh 352 [J,P],dW U,p (.append 1 24 w l9),Q j,a 7 CW,aP C5 CX]))
def UP:=M 1 9 (l [bC 1 v] (l [d y,Q j,a 0 o,e s,Q u,a 0 w,e A,Q J,a 1 P,e U,p (.h (.callv l9 [(.c (.str [109,111,100,101]))])),p (.build [.str [],Lt []] [(0,1,CX)]),cK 2,aF z CW] (S (l [d y,Q j,a 2 o,a 0 s,e u,aD 4 w,aC 5] (K 0 a65)) (l [d y,d y,Q o,a 0 s,e u,Q w,a 1 A,e J,n P,b .add (k 3) U,Q j,a 3 CX,aP CW l9] (l [r (.anyo [[],[0],[1],[2],[],[4],[5],[6],[7],[8],[9],[],[11],[10,12],[3,0,1,2,3,4,5,6,7,8,9,10,11,12,13],[14,0,1,2,3,4,5,6,7,8,9,10,11,12,13],[15,13,13,0,1,2,3,4,5,6,7,8,9,10,11,12,13]] [[],[],[],[10],[],[],[],[],[],[],[3],[],[],[],[],[],[]]),d y,Q j,a 0 o,e s,d y,Q w,a 0 A,e J,Q P,a 1 U,bL l9,D 2 z,p (.mkslice 2 (.agg [.str [],Lt []]) 1 [(0,CW)]),p (.append 2 40 CX C5),Q u,a 1 Dp,aP DB C3] (l [d y,d y,d y,Q s,a 3 u,e w,p (.h (.call 336 [o,(.c (.str [119,97,115])),A,n0])),Q j,a 5 P,aP U J] (l [d y,d y,p (.h (.call 336 [o,(.c (.str [102,108,97,103])),k1,n0])),Q j,a 6 u,aP w s] (S (l [d y,Q j,a 2 o,a 0 s,cZ 6 u,aD 7 O,aC 8] (K 2 Us)) (l [d y,d y,d y,Q s,a 3 u,e w,p (.h (.call 336 [o,(.c (.str [110,111,119])),A,n0])),Q j,a 8 P,aP U J] (R [d y,d y,p (.h (.call 336 [o,(.c (.str [114,101,115,101,116])),k1,n0])),Q j,a 9 u,aP w s])))))))))) []
def US:=LP 19 18 0 1 (l [i 3 Ge Ji,C 3 j,aX 8,aR v8 o] (B [m V,a 0 v8,d o,f 110 [j,s],m u,aS G w,g1 (.h (.nilchk A)) w,g1 (.faddr 4 J) w,g1 (.h (.load 1 false P false)) w,g1 (.h (.mkfunc 355 [] [v8])) w,g1 (.pcall 76 [U,l9]) w,g1 (.un .not CX) w,aL w CW] C5 (R [a 1 O,dD j,a 0 v8,d s,a 1 v8,d w,eA u A,cG J,cO o P,a 1 O,aW l9 U]) Z))
def UT:=LP 22 21 2 3 (l [i 8 Hy MJ,C 8 j,bV 13,aY D3 o] (l [d G,Q j,a 0 o,e s,Q u,a 0 w,e A,Q J,a 1 P,e U,p (.h (.callv l9 [(.c (.str [99,111,110,100]))])),t 14 CX] (l [a 3 O,dD j,m DU,eJ s,cG u,cO o w,a 3 O,aW J A] (l [a 4 O,dD j,m DU,bB s,a 0 D3,D 6 w,dF u A,dQ J,p (.append 7 96 o P),a 4 O,aW l9 U] (l [aE Dw,m DU,f 356 [o],d G,Q u,a 3 w,e A,a 6 D3,d P,f 357 [J,U],eB s l9,eC CX,p (.append 12 144 j CW),t 11 C5] (R [aE Du,m DU,f 356 [o],D 8 D3,f 358 [u],f 357 [k1,w],eB s A,eC J,p (.append 12 144 j P),t 12 U]))))))
def UV:=M 4 23 (l [bC 4 v,aU 5 z] (l [r (.anyo [[],[0],[1],[2],[3],[4],[5],[6],[7],[8],[9],[],[11],[10,12],[],[14,13,10,0,1,2,3,4,5,6,7,8,9,10,11,12,13,14]] [[14],[],[],[],[],[],[],[],[],[],[],[],[14],[],[0,12],[]]),d G,Q j,a 0 o,e s,Q u,a 0 w,e A,Q J,a 1 P,e U,p (.h (.callv l9 [(.c (.str [98,111,100,121]))])),a 3 N,d CW,p (.build [.str [],Lt [],Lt [],Lt [],Lt [],Lt [],Lt [],Lt []] [(0,1,CX),(5,1,C5)]),bG 6,aY O C3] (l [D 6 N,f 354 [j],t 7 o] (S (l [aA 17 x,aD 18 Ge,aC 19] (K 0 US)) (l [r (.anyo [[],[0],[1],[2],[3],[4],[5],[6],[7],[8],[9],[],[11],[12],[13],[14],[15],[16],[17],[18],[19],[20,10],[10,21,0,1,2,3,4,5,6,7,8,9,10],[21,22,0,1,2,3,4,5,6,7,8,9,10,11,12,13,14,15,16,17,18,19,20,21,22]] [[],[],[],[],[],[],[],[],[],[],[14,17,20],[],[],[],[10],[],[],[10],[],[],[10],[],[],[]]),d G,Q j,a 0 o,e s,Q u,a 0 w,e A,Q J,a 1 P,e U,p (.h (.callv l9 [(.c (.str [110,101,120,116]))])),d G,Q CW,a 0 C5,e C3,Q Dp,a 0 DB,e DL,Q DP,a 1 E0,e Ei,p (.h (.callv F1 [(.c (.str [98,97,99,107]))])),t 9 CX,t 10 Ea] (l [d G,Q j,a 4 o,e s,p (.pcallx 306 [u] none),m v9,d G,Q J,a 3 P,e U,eA A l9,m Dh,eJ CW,p (.mkslice 3 (.agg [.str [],I6 0,Lt []]) 2 [(0,CX),(1,C5)]),cO w C3,a 2 O,aW DB Dp] (l [a 1 N,d j,p (.pcallx 306 [o] none),a 3 O,aW u s] (l [a 2 N,d j,p (.pcallx 307 [o] none),a 4 O,aW u s] (l [t 11 n0,t 12 n0] (S (l [a 5 N,aH 20 j,aD 21 Hy,aC 22] (K 2 UT)) (l [a 4 O,dD j,m v9,bB s,m Dw,d G,Q A,a 3 J,e P,m y,f 357 [U,l9],f 359 [w,CX],dF u CW,m Dh,bB C3,m Du,f 357 [k1,I],f 359 [DB,DL],dF Dp DP,p (.mkslice 7 (.agg [Lt [],I6 0,I6 0,I6 0,I6 0,.str [],Lt []]) 2 [(0,C5),(1,E0)]),p (.append 7 96 o Ei),a 4 O,aW Ea F1] (l [d G,d G,Q o,a 10 s,bL u,D 8 O,dR A,dE w J,Q j,a 10 U,aP l9 P] (l [r (.anyo [[],[],[1],[2],[3],[],[0,4,5],[],[7,6,6,0,1,2,3,4,5,6,7]] [[7],[7],[],[],[],[],[],[0,1],[]]),d G,d G,Q o,a 8 s,e u,m y,fh 360 [j,w,A],cD 15,aR EJ J] (l [d G,Q j,a 4 o,e s,p (.h (.mkfunc 362 [] [G,EJ])),p (.h (.callx 361 [u,w])),t 16 A] (R [r (.anyo [[],[],[1],[2],[3],[],[],[],[7],[8],[9],[],[11],[6,10,12],[],[],[15],[14,16,13],[13,17],[5,18,17],[19],[4,20,19],[0,0,1,2,3,4,5,6,7,8,9,10,11,12,13,14,15,16,17,18,19,20,21],[22,0,1,2,3,4,5,6,7,8,9,10,11,12,13,14,15,16,17,18,19,20,21],[23,21,21,0,1,2,3,4,5,6,7,8,9,10,11,12,13,14,15,16,17,18,19,20,21]] [[],[],[],[],[10,13,17],[],[],[],[],[],[4],[],[],[4],[],[],[],[4],[],[],[],[],[],[],[]]),d G,d G,Q o,a 11 s,bL u,aE F4,d G,d G,Q P,a 3 U,e l9,D 3 EJ,dS CW,p (.h (.call 336 [J,(.c (.str [110,101,120,116])),CX,C5])),d G,D 3 EJ,dS DB,p (.h (.call 336 [Dp,(.c (.str [98,97,99,107])),k1,DL])),p (.mkslice 1 (.str []) 2 [(0,C3),(1,DP)]),bQ A E0,dW Ei,p (.append 1 24 w F1),Q j,a 11 F3,aP Gz Ea]))))))))))))))) []
def Qs:=M 4 6 (l [t 4 (.c (.str []))] (l [m v,Q j,a 0 o,e s,Q u,a 0 w,e A,Q J,a 1 P,e U,m y,bE l9 CX,t 5 CW] (l [r (.anyo [[],[0],[1],[2],[],[4],[5],[6],[7],[8],[9],[],[],[],[11,12,13],[14],[10,15],[3,0,1,2,3,4,5,6,7,8,9,10,11,12,13,14,15,16],[17,0,1,2,3,4,5,6,7,8,9,10,11,12,13,14,15,16],[18,16,16,0,1,2,3,4,5,6,7,8,9,10,11,12,13,14,15,16]] [[],[],[],[10],[],[],[],[],[],[],[3],[],[],[],[],[],[],[],[],[]]),m v,Q j,a 1 o,e s,m v,Q w,a 1 A,e J,Q P,a 3 U,bL l9,m N,m z,m x,p (.build [.str [],I6 0,Lt []] [(0,1,CW),(1,1,C5),(2,1,C3)]),cG Dp,cO CX DB,Q u,a 3 DP,aP E0 DL] (l [m N,t 4 j] Y)))) [.var 4]
def b0K:=LP 17 16 2 3 (l [m Ge,i 8 EJ Ge,C 8 o,bV 5,t 4 j,aY N s] (R [d y,a 0 N,D 6 o,d y,Q u,a 7 w,e A,m z,i 1 J P,c U,m G,i 1 l9 CX,c CW,bB C5,fh 363 [j,s,C3]]))
def a5O:=LP 14 13 0 1 (l [m DU,i 6 Du DU,C 6 o,bM 3,t 2 j,aO x s] (l [a 4 x,aH 15 j,aD 16 EJ,aC 17] (K 2 b0K)))
def Uq:=LP 20 19 4 5 (l [m Hy,i 8 Gn Hy,C 8 o,dN 6,bG 7,aW O j,aY V s] (l [a 1 V,d j,p (.h (.mkfunc 369 [] [y,O])),p (.h (.callx 368 [o,s])),t 8 u] (l [r (.anyo [[],[],[1],[2],[3],[],[],[6],[7],[8],[],[5,9,10],[4,11,11],[12],[0,13,12],[14,14,0,1,2,3,4,5,6,7,8,9,10,11,12,13,14]] [[],[],[],[],[11],[],[],[],[],[],[],[4],[],[],[],[]]),aE v8,d y,Q o,a 9 s,e u,d y,d y,Q J,a 8 P,e U,d O,fh 360 [A,l9,CX],f 367 [w,CW],cJ C5,p (.append 6 72 j C3),t 8 Dp] (R [d y,a 0 V,d o,m v8,p (.build [I6 0,I6 0,I6 0,I6 0,.str [],Lt []] [(0,1,(k 10)),(4,1,s),(3,1,k1),(5,1,u)]),d y,Q A,a 11 J,e P,d O,i 1 U l9,c CX,fh 363 [j,w,CW]]))))
def a5P:=LP 23 22 6 7 (l [m LU,i 1 KX LU,c o,dN 10,aW Dh j,t 11 s] (R [r (.anyo [[],[],[],[2],[3],[4],[],[1,5,6],[],[8],[0,7,9,7]] [[6],[6],[6],[],[],[],[0,1,2],[],[],[],[]]),d y,d y,d y,Q s,a 8 u,e w,p (.h (.mkfunc 371 [] [y,Dh])),fh 364 [o,A,J],m Dw,bB U,fh 363 [j,P,l9]]))
def Ur:=M 1 24 (l [bC 1 v] (l [d y,d y,Q o,a 3 s,e u,f 357 [w,I],d y,Q J,a 12 P,e U,f 356 [l9],dP A CX,dZ CW,d y,Q C3,a 5 Dp,e DB,bB DL,fh 363 [j,C5,DP]] (l [d y,f 357 [k1,I],d y,Q s,a 13 u,e w,f 356 [A],dP o J,dZ P,d y,Q l9,a 6 CX,e CW,bB C5,fh 363 [j,U,C3]] (S (l [d y,Q j,a 2 o,a 0 s,cZ 12 u,aD 13 Du,aC 14] (K 0 a5O)) (l [eK,d y,d y,d y,Q s,a 5 u,e w,p (.h (.mkfunc 365 [] [y])),fh 364 [o,A,J],d y,Q U,a 8 l9,e CX,bB CW,fh 363 [j,P,C5]] (l [eK,d y,d y,d y,Q s,a 5 u,e w,p (.h (.mkfunc 366 [] [y])),fh 364 [o,A,J],d y,Q U,a 9 l9,e CX,bB CW,fh 363 [j,P,C5]] (S (l [d y,Q j,a 10 o,cZ 18 s,aD 19 Gn,aC 20] (K 4 Uq)) (l [d y,Q j,a 4 o,e s,p (.pcallx 361 [u,(.c (.func 370 [] []))] none),d y,Q A,a 12 J,e P,d y,Q l9,a 13 CX,e CW,p (.mkslice 1 (.str []) 2 [(0,U),(1,C5)]),bQ w C3,t 9 Dp] (l [aA 21 v9,aD 22 KX,aC 23] (K 6 a5P)))))))))) []
def Qp:PFunc:=⟨1,2,(l [t 1 n0] (S (B [m v,dA j] o (l [t 1 n0] Y) Z) (l [p (.mkslice 1 (.str []) 0 []),m v,bQ j o,t 1 s] Y))),[.var 1],true,none,none⟩
def b00:=LP 8 7 0 1 (l [m v8,i 7 O v8,C 7 o,bH 5,t 4 j,bI N s] (R [aE x,m y,m G,D 7 N,bW o s u,dQ w,p (.append 7 96 j A),t 3 J]))
def TN:=M 2 9 (l [t 2 n0] (l [t 3 n0] (S (l [aA 6 v,aD 7 O,aC 8] (K 0 b00)) (l [m x,t 2 j] Y)))) [.var 2]
def TW:=M 2 4 (l [q 2 (.boxloc 7 y),bH 3] (l [a 0 z,d j,f 338 [o],a 1 z,D 6 u,cJ w,f 341 [A],i 6 J I,C 6 P,dF s U,bI x l9] Y)) [.cell 3 7 true]
def TO:=M 1 2 (l [t 1 n0] (l [m v,p (.pcall 372 [j,(.c (.func 373 [] []))]),t 1 o] Y)) [.var 1]
def TV:=M 1 2 (l [t 1 n0] (l [m v,p (.pcall 374 [j,(.c (.func 375 [] []))]),t 1 o] Y)) [.var 1]
def P3:=M 2 7 (l [bC 2 v,bC 3 y,aX 4,t 5 F] (l [a 0 z,d j,p (.h (.mkfunc 376 [] [x])),f 111 [o,s],t 6 u] (S (B [m O,b .lss j I] o (l [p (.build [.str [],I6 0,Lt []] []),aR G j,t 5 F] Y) Z) (l [a 0 z,d j,m O,i 3 o s,C 3 u,aR G w,t 5 T] Y)))) [.cell 4 3 true,.var 5]
def S0:=M 2 3 (l [t 2 F] (l [m v,m y,f 377 [j,o],t 2 s] Y)) [.var 2]
def S5:=M 3 7 (l [bC 3 v,t 4 F] (l [D 1 x,m y,f 343 [j,o],m s,aM u,aK u,aX 5,aR N w,t 6 A] (l [m O,m j,cM N o,aS s o,aG z o,g1 (.pcall 344 [u,w]) o,aL o A,t 4 J] Y))) [.var 4]
def S6:=M 2 3 (l [t 2 n0] (l [d y,t 2 j] Y)) [.var 2]
def S7:=M 3 4 (l [t 3 n0] (l [d y,d z,p (.slice false 3 j none (some o)),t 3 s] Y)) [.var 3]
def Th:=M 3 4 (l [t 3 n0] (l [d y,a 4 z,d o,a 2 z,d u,m v,p (.build [.str [],I6 0,I6 0] [(0,1,s),(1,1,w),(2,1,A)]),f 378 [j,J],t 3 P] Y)) [.var 3]
def Zn:=LP 7 6 0 1 (l [i 7 N V,C 7 j,bH 4,bI G o] (B [a 0 G,d j,n o,b .eql s k1,m u,aS y w,g1 (.faddr 0 G) w,aS J w,g1 (.iaddrS 1 P I) w,dC U w,g1 (.h (.lookup false false false [.s] (.bool false) A l9)) w,g1 (.un .not CX) w,aL w CW,m C5,aS y C3,cR G C3,g1 (.load 6 true DB false) C3,g1 (.h (.call 318 [Dp,DL])) C3,aL C3 DP] E0 (R [d y,a 0 G,d o,i 1 s I,c u,p (.h (.mentry false [.s] (.bool false) j w)),aK A,r (.h (.estore j J T)),t 3 T]) Z))
def SU:=M 2 8 (l [t 2 F] (l [t 3 F] (S (l [a 4 v,aH 5 j,aD 6 N,aC 7] (K 0 Zn)) (l [m x,t 2 j] Y)))) [.var 2]
def b7l:=LP 6 5 0 1 (l [i 6 G O,C 6 j,aT 3,aO x o] (B [m v,D 6 x,fh 318 [j,o]] s (l [t 2 T] Y) Z))
def SS:=M 2 7 (l [t 2 F] (S (l [aA 4 y,aD 5 G,aC 6] (K 0 b7l)) (l [t 2 F] Y))) [.var 2]
def Uv:=M 1 8 (l [t 1 I,t 2 I] (l [t 2 (k 2)] (S (l [aA 3 v] (K 0 (S (K 6 (S (K 5 (S (K 4 (S (K 3 (S (K 2 (S (K 1 (S (S (B [b .eql x k1,aE j] o (X 1) Z) (S (S (B [b .eql x (k 3),t 4 j] G Z (B [b .eql x (k 4),t 4 j] G Z (R [b .eql x (k 5),t 4 j]))) (B [] G (X 2) Z)) (S (B [b .eql x (k 2),aE j] o (X 3) Z) (S (S (B [b .eql x (k 6),t 5 j] N Z (B [b .eql x (k 7),t 5 j] N Z (B [b .eql x (k 8),t 5 j] N Z (B [b .eql x (k 9),t 5 j] N Z (R [b .eql x (k 10),t 5 j]))))) (B [] N (X 4) Z)) (S (S (B [b .eql x (k 11),t 6 j] O Z (R [b .eql x (k 12),t 6 j])) (B [] O (X 5) Z)) (S (B [b .eql x (k 13),t 7 j] V Z (B [b .eql x (k 14),t 7 j] V Z (B [b .eql x (k 15),t 7 j] V Z (R [b .eql x (k 16),t 7 j])))) (B [] V (X 6) Z))))))) (X 0))) (R [t 2 k1]))) (S (l [m z,t 1 k1,t 2 j] Y) (X 0)))) (R [t 2 k1]))) (S (l [m z,t 1 (k 2),t 2 j] Y) (X 0)))) (S (l [m z,t 1 (k 3),t 2 j] Y) (X 0)))) (S (l [m z,t 1 (k 4),t 2 j] Y) (X 0))))) (l [t 1 I,t 2 I] Y)))) [.var 1,.var 2]
def a9w:=LP 8 7 0 1 (l [m v8,i 8 O v8,C 8 o,bV 5,t 4 j,aY N s] (R [aE x,m y,m G,D 8 N,bW o s u,bB w,bQ j A,t 3 J]))
def Tz:=M 2 9 (l [t 2 n0] (l [t 3 n0] (S (l [aA 6 v,aD 7 O,aC 8] (K 0 a9w)) (l [m x,t 2 j] Y)))) [.var 2]
def Uc:=M 3 5 (l [bF 3 y,t 4 (.c (.str []))] (l [d z,p (.h (.call 336 [j,(.c (.str [99,111,110,100])),k1,n0])),t 4 o] Y)) [.var 4]
def Z9:=LP 16 15 2 3 (l [i 3 DU F4,C 3 j,cD 5,aR N o] (R [aE x,a 0 N,d o,bB s,bQ j u,t 3 w]))
def Z8:=LP 13 12 0 1 (l [i 3 Dw D3,C 3 j,aX 4,aR G o] (l [a 2 G,aH 14 j,aD 15 DU,aC 16] (K 2 Z9)))
def b2o:=LP 19 18 4 5 (l [i 7 Ge Ji,C 7 j,bH 6,bI O o] (R [aE x,a 1 O,D 6 o,f 379 [s],bQ j u,t 3 w]))
def b2p:=LP 22 21 6 7 (l [i 8 Hy MJ,C 8 j,bV 7,aY V o] (R [aE x,a 0 V,D 6 o,f 379 [s],bQ j u,t 3 w]))
def b2q:=LP 31 30 12 13 (l [i 8 Xb WA,C 8 j,bV 10,aY Dh o] (R [aE x,a 0 Dh,D 6 o,f 379 [s],bQ j u,t 3 w]))
def b2r:=LP 28 27 10 11 (l [i 6 Rt Wy,C 6 j,bM 9,aO v9 o] (S (l [a 4 v9,aH 29 j,aD 30 Xb,aC 31] (K 12 b2q)) (R [aE x,D 6 v9,f 354 [o],bQ j s,t 3 u])))
def b2s:=LP 25 24 8 9 (l [i 1 LU WC,C 1 j,bZ 8,cA v8 o] (l [a 0 v8,aH 26 j,aD 27 Rt,aC 28] (K 10 b2r)))
def Ty:=M 1 32 (l [aU 1 v,t 2 n0] (l [t 3 n0] (S (l [a 1 y,aH 11 j,aD 12 Dw,aC 13] (K 0 Z8)) (S (l [a 2 y,aH 17 j,aD 18 Ge,aC 19] (K 4 b2o)) (S (l [a 5 y,aH 20 j,aD 21 Hy,aC 22] (K 6 b2p)) (S (l [a 3 y,aH 23 j,aD 24 LU,aC 25] (K 8 b2s)) (l [m x,t 2 j] Y))))))) [.var 2]
def UQ:=M 2 4 (l [bS 2 v,t 3 F] (l [a 0 z,d j,a 0 y,d s,b .eql o u,t 3 w] Y)) [.var 3]
def TE:=M 1 2 (l [aT 1] (l [m v,p (.build [I6 0,I6 0,I6 0,I6 0,.str [],Lt []] [(0,1,(k 2)),(4,1,j)]),aO y o] Y)) [.cell 1 6 true]
def TG:=M 2 3 (l [aT 2] (l [m v,m y,p (.build [I6 0,I6 0,I6 0,I6 0,.str [],Lt []] [(0,1,k1),(2,1,j),(3,1,o)]),aO z s] Y)) [.cell 2 6 true]
def TH:=M 1 3 (l [bF 1 v,t 2 I] (S (B [a 7 y,d j] o (l [t 2 I] Y) Z) (l [t 2 k1] Y))) [.var 2]
def Qo:=M 2 4 (l [aU 2 y,aT 3] (S (B [m v,n j,b .eql o I] s (l [D 6 z,aO x j] Y) Z) (l [m v,i 12 j I,a 0 o,C 6 s,m v,i 12 w I,a 6 A,C 6 J,m v,p (.slice false 12 U (some k1) none),D 6 z,f 359 [l9,CX],eH u P CW,eI C5,aO x C3] Y))) [.cell 3 6 true]
def Ue:=M 3 4 (l [cD 3] (l [m y,m v,Q o,a 3 s,e u,m z,p (.build [.str [],I6 0,I6 0] [(0,1,j),(1,1,w),(2,1,A)]),aR x J] Y)) [.cell 3 3 true]
def a9V:=LP 8 7 0 1 (l [aE v8,i 3 O v8,C 3 o,aX 5,t 4 j,aR N s] (R [aE x,m y,m G,D 3 N,bW o s u,bB w,bQ j A,t 3 J]))
def Qu:=M 2 9 (l [t 2 n0] (l [t 3 n0] (S (l [aA 6 v,aD 7 O,aC 8] (K 0 a9V)) (l [aE x,t 2 j] Y)))) [.var 2]
def UU:=M 4 6 (l [bS 4 y,t 5 (.c (.str []))] (l [d z,a 1 G,d o,D 3 x,dS u,p (.h (.call 336 [j,(.c (.str [112,97,114,116])),s,w])),t 5 A] Y)) [.var 5]
def Ub:=M 3 4 (l [aU 3 y] (R [r (.anyo [[],[0],[1],[2],[],[4],[5],[6],[7],[8],[9],[],[],[11,12],[13],[10,14],[3,0,1,2,3,4,5,6,7,8,9,10,11,12,13,14,15],[16,0,1,2,3,4,5,6,7,8,9,10,11,12,13,14,15],[17,15,15,0,1,2,3,4,5,6,7,8,9,10,11,12,13,14,15]] [[],[],[],[10],[],[],[],[],[],[],[3],[],[],[],[],[],[],[],[]]),m v,Q j,a 1 o,e s,m v,Q w,a 1 A,e J,Q P,a 4 U,bL l9,m z,D 6 x,dF CW C5,dQ C3,p (.append 7 96 CX Dp),Q u,a 4 DL,aP DP DB])) []
def Ul:=M 3 4 (l [aT 3] (l [r (.anyo [[],[],[1],[2],[3],[],[5],[6],[7],[8],[],[9,10],[0,4,11],[12,11,0,1,2,3,4,5,6,7,8,9,10,11,12]] [[],[],[],[],[11],[],[],[],[],[],[],[4],[],[]]),m y,m v,Q o,a 3 s,e u,m v,Q A,a 2 J,a 0 P,e U,m z,fh 380 [l9,CX],p (.build [I6 0,I6 0,I6 0,I6 0,.str [],Lt []] [(0,1,(k 9)),(4,1,j),(2,1,w),(5,1,CW)]),aO x C5] Y)) [.cell 3 6 true]
def Uo:=M 3 5 (l [aU 3 y,aT 4] (l [r (.anyo [[],[],[],[],[],[4],[5],[6],[],[7,8],[0,1,2,3,9,9],[10,10,0,1,2,3,4,5,6,7,8,9,10]] [[3],[],[3],[0,2,4],[3],[],[],[],[],[],[],[]]),d z,m v,D 6 x,p (.h (.mkfunc 382 [] [z])),d z,Q w,a 3 A,e J,m v,f 357 [P,U],fh 381 [j,o,s,u,l9],aO G CX] Y)) [.cell 4 6 true]
def Up:=M 3 5 (l [aU 3 y,aT 4] (l [r (.anyo [[],[],[],[],[3],[4],[5],[],[],[8],[9],[10],[],[7,11,12],[6,13,13],[0,1,2,14,14],[15,15,0,1,2,3,4,5,6,7,8,9,10,11,12,13,14,15]] [[],[],[],[],[],[],[13],[],[],[],[],[],[],[6],[],[],[]]),d z,m v,D 6 x,d z,Q u,a 6 w,e A,d z,d z,Q U,a 5 l9,e CX,m v,fh 360 [P,CW,C5],f 367 [J,C3],p (.h (.call 381 [j,o,s,(.c (.func 383 [] [])),Dp])),aO G DB] Y)) [.cell 4 6 true]
def TJ:=M 2 4 (l [bS 2 y,aT 3] (l [a 0 z,d j,a 1 z,d s,a 2 z,d w,m v,f 356 [J],cJ P,p (.build [I6 0,I6 0,I6 0,I6 0,.str [],Lt []] [(0,1,(k 8)),(4,1,o),(2,1,u),(3,1,A),(5,1,U)]),aO x l9] Y)) [.cell 3 6 true]
def a9A:=LP 8 7 0 1 (l [aE v8,i 3 O v8,C 3 o,aX 5,t 4 j,aR N s] (R [aE x,m y,m G,D 3 N,bW o s u,cJ w,p (.append 6 72 j A),t 3 J]))
def TA:=M 2 9 (l [t 2 n0] (l [t 3 n0] (S (l [aA 6 v,aD 7 O,aC 8] (K 0 a9A)) (l [aE x,t 2 j] Y)))) [.var 2]
def Uf:=M 4 6 (l [bS 4 y,aT 5] (l [a 0 G,d j,d z,d z,Q u,a 8 w,e A,d x,fh 360 [s,J,P],f 367 [o,U],aO N l9] Y)) [.cell 5 6 true]
def Ug:=M 2 4 (l [bS 2 y,t 3 (.c (.str []))] (l [a 0 z,d j,t 3 o] Y)) [.var 3]
def Uh:=M 4 6 (l [aU 4 y,aT 5] (l [d z,Q j,a 11 o,e s,m v,i 1 u w,c A,d x,i 1 J P,c U,f 356 [l9],aO N CX] Y)) [.cell 5 6 true]
def a9W:=LP 8 7 0 1 (l [m v8,i 6 O v8,C 6 o,aT 5,t 4 j,aO N s] (R [aE x,m y,m G,D 6 N,bW o s u,cJ w,p (.append 6 72 j A),t 3 J]))
def TB:=M 2 9 (l [t 2 n0] (l [t 3 n0] (S (l [aA 6 v,aD 7 O,aC 8] (K 0 a9W)) (l [m x,t 2 j] Y)))) [.var 2]
def TQ:=M 2 4 (l [aU 2 y,aT 3] (l [a 5 z,d j,f 341 [o],a 5 z,aW u s] (l [D 6 z,aO x j] Y))) [.cell 3 6 true]
def a8W:=LP 8 7 0 1 (l [m v8,i 3 O v8,C 3 o,aX 5,t 4 j,aR N s] (R [aE x,m y,m G,D 3 N,bW o s u,cG w,cO j A,t 3 J]))
def TC:=M 2 9 (l [t 2 n0] (l [t 3 n0] (S (l [aA 6 v,aD 7 O,aC 8] (K 0 a8W)) (l [m x,t 2 j] Y)))) [.var 2]
def TU:=M 2 4 (l [bS 2 y,aX 3] (l [a 2 z,d j,f 34 [o],a 2 z,aW u s] (l [D 3 z,aR x j] Y))) [.cell 3 3 true]
def S2:=M 2 4 (l [bS 2 v,t 3 F] (l [a 0 z,d j,d y,b .eql o s,t 3 u] Y)) [.var 3]
def b01:=LP 5 4 0 1 (l [m N,t 3 j] (B [m v,m x,i 3 j o,C 3 s,m y,m x,i 3 w A,C 3 J,p (.eq true true [.s,.i,.i] u P)] U (l [t 2 F] Y) Z))
def PZ:=M 2 6 (l [t 2 F] (S (B [m v,n j,m y,n s,b .neq o u] w (l [t 2 F] Y) Z) (S (l [m v,aD 4 j,aC 5] (K 0 b01)) (l [t 2 T] Y)))) [.var 2]
def Tg:=M 2 5 (l [bS 2 y,t 3 n0] (l [m v,n j,m v,n s,b .add u k1,p (.h (.mkarrc 3 true 32 [.str [],I6 0,I6 0] o w)),t 4 A] (l [m G,m v,p (.h (.hcopy 3 j o))] (l [aE G,D 3 z,dS o,p (.h (.happ 3 true 32 j s)),t 3 u] Y)))) [.var 3]
def Tw:=M 1 3 (l [aU 1 v,t 2 n0] (l [D 6 y,p (.pcallx 231 [n0,j,F] (some 0)),t 2 o] Y)) [.var 2]
def a9E:=LP 8 7 0 1 (l [m v8,i 6 O v8,C 6 o,bM 5,t 4 j,aO N s] (R [aE x,m y,m G,D 6 N,bW o s u,cJ w,p (.append 6 72 j A),t 3 J]))
def TD:=M 2 9 (l [t 2 n0] (l [t 3 n0] (S (l [aA 6 v,aD 7 O,aC 8] (K 0 a9E)) (l [m x,t 2 j] Y)))) [.var 2]
def Uj:=M 5 12 (l [bC 5 v,bC 6 y,aU 7 z,bC 8 x,aU 9 G,aT 10] (l [a 4 V,d j,p (.h (.mkfunc 385 [] [N,O,v8])),fh 384 [o,s],t 11 u] (l [m Dw,D 6 v9,f 359 [j,o],aO Dh s] Y))) [.cell 10 6 true]
def Um:=M 2 4 (l [bF 2 v,aT 3] (l [d y,Q j,a 3 o,e s,a 6 z,d w,f 357 [u,A],aO x J] Y)) [.cell 3 6 true]
def Un:=M 1 3 (l [bF 1 v,aT 2] (l [D 8 y,f 358 [j],f 357 [k1,o],aO z s] Y)) [.cell 2 6 true]
def a8X:=LP 8 7 0 1 (l [m v8,i 8 O v8,C 8 o,bV 5,t 4 j,aY N s] (R [aE x,m y,m G,D 8 N,bW o s u,eC w,p (.append 12 144 j A),t 3 J]))
def TK:=M 2 9 (l [t 2 n0] (l [t 3 n0] (S (l [aA 6 v,aD 7 O,aC 8] (K 0 a8X)) (l [m x,t 2 j] Y)))) [.var 2]
def Ui:=M 5 7 (l [bF 5 y,q 6 (.newloc [I6 0,I6 0,I6 0,I6 0,.str [],Lt [],I6 0,I6 0,I6 0,I6 0,.str [],Lt []])] (l [r (.anyo [[],[0],[1],[2],[],[3,4],[5],[],[6,7],[8],[],[],[11],[12],[13],[],[10,14,15],[9,16,16],[],[],[18,19,17],[17,20],[21,20,0,1,2,3,4,5,6,7,8,9,10,11,12,13,14,15,16,17,18,19,20,21]] [[],[],[],[16],[],[],[],[],[],[],[],[],[],[],[],[],[3],[],[],[],[],[],[]]),d z,Q j,a 7 o,e s,d x,i 1 u w,c A,m v,i 1 J P,c U,d z,d z,Q CW,a 5 C5,e C3,d x,fh 360 [CX,Dp,DB],f 367 [l9,DL],d G,D 8 N,bE E0 Ei,eB DP F1,r (.store 12 true O Ea)] Y)) [.cell 6 12 true]
def Qc:=M 3 3 (.round (R [aT 2,aO z y]) (K 3 (B [a 0 z,d j,b .neq o (k 11)] s (R [e v,a 4 z,d o,bB s,fh 301 [j,u]]) Z))) []
def IL:=M 4 7 (.round (R [aT 3,aO x z]) (K 1 (l [t 4 F] (S (l [a 0 x,aH 5 j] (K 2 (S (B [b .eql N (k 5),t 6 j] O Z (B [b .eql N (k 7),t 6 j] O Z (R [b .eql N (k 10),t 6 j]))) (B [] O (R [e v,a 5 x,d o,fh 350 [j,s],t 4 u]) (B [b .eql N (k 6),aE j] o (R [e v,a 5 x,d o,i 6 s I,C 6 u,fh 318 [j,w],t 4 A]) (B [b .eql N (k 8),aE j] o (R [e v,a 4 x,d o,bR j s,t 4 u]) (B [b .eql N (k 9),aE j] o (R [e v,a 4 x,d o,bR j s,m u,g0 (.h (.load 1 false v false)) w,cV x w,aI J w,g0 (.h (.call 350 [A,P])) w,aJ w U,t 4 l9]) Z))))))) (B [m G] j (l [r (.h (.store 1 false y T))] Y) Z))))) []
def LSt:List (Option PFunc):=[h,h,h,h,h,h,h,h,g Qw,h,g b4V,g Ra,h,h,g UW,h,h,h,h,h,h,h,h,g VG,h,h,h,g Oi,g Rb,g MC,h,h,g b33,g a6l,g Rc,g U7,h,h,h,g b5U,h,h,h,h,g b9F,h,h,h,g VH,g Rd,g ML,g VI,h,h,h,h,h,g Re,g Of,g VJ,g VK,g VM,g VQ,g MB,h,h,h,h,h,h,h,h,h,h,g a7q,g N6,g QR,g U5,h,h,h,g VS,g QK,h,h,h,h,h,h,g VT,g VU,g Ok,g MM,g Rf,g Rg,h,h,g MN,g LO,g Oo,g VV,g VW,g Wb,g Rh,h,h,h,h,h,h,g N5,g QH,h,h,g Oq,g QJ,g UA,h,g LQ,g Ot,g Ou,g Wc,g Ov,g JJ,g LR,g Wd,g We,g Ow,g Ri,g Wf,g Wg,h,h,h,h,h,h,h,h,g N4,h,g KY,g Wh,g Wi,g Rj,g Oy,g Wj,g Wk,g Wl,g Wm,g GB,g Oz,h,h,h,h,h,h,h,h,h,h,g Wo,g Fv,g Ko,h,h,h,h,g MO,g Wp,g OA,g Rk,g Wq,g Ws,g OB,h,h,h,g Rl,g Rm,g Ro,g Rp,g a7m,g a5h,g a1V,g a2Y,h,h,g Wt,g LT,g Wu,g KZ,g b4X,h,h,h,g PY,h,h,h,g Wv,h,h,g NC,g Rr,h,h,h,g WD,g WG,g WH,g WI,g WK,g OD,h,g OE,g WL,g a5i,g b2I,g OF,g WN,g WQ,g WR,g WS,g WT,g WU,g WV,g WW,g WX,g WZ,g KN,g b6B,g b0W,g W0,g W2,g b2J,g OG,g W4,g W5,g Ru,g Rv,g MP,g b2K,g W6,h,h,h,h,h,h,h,h,h,h,h,h,h,h,h,h,h,h,g N7,g Vj,g QO,g b4Y,g QU,g ND,g PU,g Vh,g NV,g UD,g UK,g UE,g LG,g b4Z,g b34,g b35,g b6C,g Tt,g Qi,g Vb,g TZ,g P5,g PT,g SY,g Vc,g QV,g Vd,g Ve,g Vf,g Fc,g QI,g UF,g UJ,g b2L,g b41,g b0Y,g b42,g b36,g Qb,g Tj,g Tr,g Tl,g Qk,g Qg,g Qh,g U8,g TL,g TY,g TM,g TX,g S9,g Ta,g HO,g SV,g SX,g Ny,g Uz,g NT,g Uy,g NU,g KR,g Ux,g UG,g UC,g Qa,g UH,g b6D,g b43,g Qf,g UX,g UZ,g UP,g UV,g Qs,g Ur,g Qp,g TN,g TW,g TO,g TV,g P3,g S0,g S5,g S6,g S7,g Th,g SU,g SS,g Uv,g Tz,g Uc,g Ty,g UQ,g TE,g TG,g TH,g Qo,g Ue,g Qu,g UU,g Ub,g Ul,g Uo,g Up,g TJ,g TA,g Uf,g Ug,g Uh,g TB,g TQ,g TC,g TU,g S2,g PZ,g Tg,g Tw,g TD,g Uj,g Um,g Un,g TK,g Ui,g Qc,g IL]
def LS(k:Nat):Option PFunc:=LSt[k]?.join
abbrev HL(L:LsT):Prop:=∀k f,LS k=some f->L k=some f
abbrev L:LsT:=LS
end PI.Sc
set_option maxRecDepth 100000
namespace Go.Proofs.YtncpglgeamdneaaGreatDoor.Pi
open Go PI PI.Sc Tryz
def RM:NsT:=[0,0,0,0,0,0,0,0,32,0,93,33,0,0,230,0,0,0,0,0,0,0,0,46,0,0,0,82,83,84,0,0,181,85,86,290,0,0,0,282,0,0,0,0,102,0,0,0,106,107,108,109,0,0,0,0,0,162,163,164,165,166,167,168,0,0,0,0,0,0,0,0,0,0,169,330,249,331,0,0,0,185,58,0,0,0,0,0,0,193,194,195,196,197,198,0,0,235,236,237,238,239,240,241,0,0,0,0,0,0,155,175,0,0,243,133,134,0,270,140,60,271,272,273,295,296,297,298,299,300,301,0,0,0,0,0,0,0,0,234,0,244,310,311,312,227,139,313,314,315,316,346,0,0,0,0,0,0,0,0,0,0,351,352,292,0,0,0,0,374,375,376,342,343,344,345,0,0,0,370,371,383,384,389,391,392,400,0,0,198,237,272,313,314,0,0,0,13,0,0,0,48,0,0,52,53,0,0,0,127,128,119,120,129,130,0,212,213,214,215,218,219,220,221,222,223,419,420,421,422,224,275,216,217,279,280,281,283,284,285,286,287,225,278,327,0,0,0,0,0,0,0,0,0,0,0,0,0,0,0,0,0,0,3,7,8,9,10,11,12,31,34,35,36,37,38,39,40,41,42,43,44,45,47,49,50,51,77,78,79,80,81,87,88,89,90,91,92,94,95,96,97,98,99,100,101,103,104,105,110,111,113,114,121,122,123,124,125,126,170,171,172,173,174,176,177,178,179,180,182,183,184,187,188,189,190,191,192,112,115,116,117,118,203,204,205,206,207,208,210,211,242,246,247,248,250,251,252,253,254,255,256,257,258,259,260,263,265,266,267,268,269,199,200,201,202,274,158,209,306,307,261,262,264,308,309,100,125]
def tab:NsT:=RM.zipIdx.map λx=>if x.1==0||([386,387,189,190,191,192,193]:NsT).contains x.2 then 1000000 else x.1
noncomputable def yl:Nat->Option YL|189=>yOf Tryz.f198 198 0 [2,4]|190=>yOf Tryz.f237 237 0 [5,6,7,9]|191=>yOf Tryz.f272 272 0 [2]|192=>yOf Tryz.f313 313 0 [2]|193=>yOf Tryz.f314 314 0 [3]|386=>yOf Tryz.f100 100 0 [2]|387=>yOf Tryz.f125 125 0 [2,4]|_=>none
noncomputable def E:Env:={P:=Tryz.prog,inv:=λf=>if f<1000000 then Ec f tab 0 else none,tinv:=λ_=>none,bT:=none,pt:=[155,194,3,326]}
structure Ps where
 tabs:List (Nat×Nat×Value)
 rows:List (Nat×TypeId×Nat)
 errT:Nat
variable {p:Ps}
noncomputable def N0(p:Ps):Nm:={fn:=λk=>RM.getD k 0,ty:=λt=>if t=0 then p.errT else([155,194,3,326]:NsT).getD (t-1) 0,tabs:=p.tabs,rows:=p.rows,bT:=0,bE:=5,yl:=yl}
abbrev FE(p:Ps):Nat->PFunc->Prop:=FnS E (N0 p)
theorem e3X:(List.range 388).all (λk=>decide (1000000<=tab.getD k 0)||tab.getD k 0==RM.getD k 0)=true:=by kernel_rfl
theorem e3Y:(List.range 388).all (λk=>decide (1000000<=tab.getD k 0)||!([386,387,189,190,191,192,193]:NsT).contains k)=true:=by kernel_rfl
theorem d0q{f k:Nat}(h:E.inv f=some k):f<1000000/\tab[k]?=some f:=by have h:(if f<1000000 then Ec f tab 0 else none)=some k:=h;split at h;{obtain⟨_,a⟩:=Ku h;exact⟨by assumption,by simpa using a⟩};simp at h
theorem Tc(g:Ps):EnvOk E (N0 g):=⟨λf k h=>by obtain⟨d,e⟩:=d0q h;have b:k<388:=(ae.1 e).1;have a:=bu.1 e3X k (by simpa using b);(have c:tab.getD k 0=f:=by rw[fc,e];rfl);rw[c]at a;show RM.getD k 0=f;simp only[el,bm,eM]at a;rcases a with a|a;{omega};exact a.symm,λf k h=>by obtain⟨d,e⟩:=d0q h;have b:k<388:=(ae.1 e).1;have a:=bu.1 e3Y k (by simpa using b);(have c:tab.getD k 0=f:=by rw[fc,e];rfl);rw[c]at a;simp only[el,bm,eW,List.contains_eq_mem,fx]at a;rcases a with a|a;{omega};show yl k=none;unfold yl;split<;>first|rfl|(exfalso;apply a;decide),λT i h=>by obtain⟨_,e⟩:=Ku (show Ec T [155,194,3,326] 0=some i from h);show(if i+1=0 then g.errT else([155,194,3,326]:NsT).getD (i+1-1) 0)=T;rw[ak (by omega),fc,show([155,194,3,326]:NsT)[i+1-1]?=some T by simpa using e];rfl,λt h=>by simp[E]at h⟩
theorem mixed:Tryz.prog.follows .mixedOrders=true:=by kernel_rfl
theorem o8 :FE p 8 Qw:=fnS [0,1,2,3,4,5,6,7,8,10,11,26,28,29,30,42,43,44,57,58] {hs:=[2,3,6,26],hf:=[83,84],bf:=[83,84]} func32
theorem o10 :FE p 10 b4V:=fnS [0,1,4,5] {} func93
theorem o11 :FE p 11 Ra:=fnS [0,1,2,3,4,5,14,15,16] {hf:=[85],rs:=[58]} func33
theorem o14 :FE p 14 UW:=fnS [0,1,2] {nl:=true} func230
theorem o23 :FE p 23 VG:=fnS [0,1,2,3,4,6,7,8,14,28,29,30,39,40,41] {hs:=[2,3,4,14],hf:=[107,108,109],bf:=[107,108,109]} func46
theorem o28 :FE p 28 Rb:=fnS [0,1,2,4,7] {hs:=[0],hf:=[162],bf:=[162]} func83
theorem o29 :FE p 29 MC:=fnS [0,1,4,5,7,8,9,11,13,49,50,51,63,64,65,86,87,88,121,122,123] {hs:=[0,4,5],hf:=[83,162,163,164,165,166,167,168],bf:=[83,162,164,165,166,167,168]} func84
theorem o32 :FE p 32 b33:=fnS [0,1,4,5] {} func181
theorem o33 :FE p 33 a6l:=fnS [0,2,3,5,6,8,9,10,11,25,26,27] {hf:=[169],rs:=[58],nl:=true,kp:=true} func85
theorem o34 :FE p 34 Rc:=fnS [0,2] {ox:=[(1000000,none)]} func86
theorem o35 :FE p 35 U7:=fnS [0,1,2,3,6,7,9,11,13,14,16,18,19,20,25,26,27,36,37,38,54,55,56] {hs:=[3],hf:=[249],hv:=[31,65],rs:=[81],nl:=true} func290
theorem o49 :FE p 49 Rd:=fnS [0,1,2] {hs:=[0]} func107
theorem o50 :FE p 50 ML:=fnS [0,1,3,5,23,24,25] {hs:=[0],hf:=[107,193],bf:=[107,193]} func108
theorem o51 :FE p 51 VI:=fnS [0,1,2,5,6,7,9,11,13,80,81,82,101,102,103,112,113,114,128,129,130] {hs:=[0],hf:=[107,193,194,195,196,197],bf:=[107,193,194,195,196,197]} func109
theorem o57 :FE p 57 Re:=fnS [0,1,2] {hs:=[0]} func162
theorem o58 :FE p 58 Of:=fnS [0,2,7] {hs:=[0,2,7]} func163
theorem o59 :FE p 59 VJ:=fnS [0,1,2,7,9,10,11,12] {hs:=[0,1],hf:=[162,235],bf:=[162]} func164
theorem o60 :FE p 60 VK:=fnS [0,1,2,7,9,10,11,12,17,18,19] {hs:=[0,1],hf:=[162,235],bf:=[162]} func165
theorem o61 :FE p 61 VM:=fnS [0,1,2,3,7,9,11,12,13] {hs:=[0,2],hf:=[162,235,236,237],rs:=[81],bf:=[162,237]} func166
theorem o62 :FE p 62 VQ:=fnS [0,1,2,3,7,8,9,10,11,12,13,14,16,18,19,20,36,37,38,61,62,63] {hs:=[0,2],hf:=[162,240],rs:=[81],bf:=[162,240]} func167
theorem o63 :FE p 63 MB:=fnS [0,1,2,3,8,10,12,15,16,17,28,29,30] {hs:=[0,8],hf:=[85,163,237],rs:=[58],bf:=[237]} func168
theorem o74 :FE p 74 a7q:=fnS [0,1,4] {rs:=[58],kp:=true} func169
theorem o75 :FE p 75 N6:=fnS [0,1] {hs:=[1],hf:=[155],rs:=[81]} func330
theorem o76 :FE p 76 QR:=fnS [0,1,4] {hf:=[175]} func249
theorem o77 :FE p 77 U5:=fnS [0,1,2,3] {} func331
theorem o81 :FE p 81 VS:=fnS [0,1,2] {} func185
theorem o82 :FE p 82 QK:=fnS [0,1,2,3,4,5,6] {} func58
theorem o89 :FE p 89 VT:=fnS [0,1] {hs:=[0],hf:=[107],bf:=[107]} func193
theorem o90 :FE p 90 VU:=fnS [0,1,2,7,9,10,11,12,47,48,49] {hs:=[0],hf:=[107,193],bf:=[107,193]} func194
theorem o91 :FE p 91 Ok:=fnS [0,1,3,5,19,20,21] {hs:=[0],hf:=[107,193,197],bf:=[107,193,197]} func195
theorem o92 :FE p 92 MM:=fnS [0,1,2,4,7,9,11,29,30,31,72,73,74,83,84,85] {hs:=[0],hf:=[107,193,194,195,196,271],bf:=[107,193,194,195,196,271]} func196
theorem o93 :FE p 93 Rf:=fnS [0,1] {hs:=[0],hf:=[107],bf:=[107]} func197
theorem o94 :FE p 94 Rg:=L6 [0,1,2,3,4,5,14] {hs:=[2,4],hf:=[185],lps:=[(#[15],189,[2,4])]} [#[15]] func198 (by kernel_rfl) (by decide) (by decide) ⟨⟨0,rfl,rfl⟩,trivial⟩
theorem o97 :FE p 97 MN:=fnS [0,1,4] {hs:=[0]} func235
theorem o98 :FE p 98 LO:=fnS [0,1,4] {hs:=[0]} func236
theorem o99 :FE p 99 Oo:=L6 [0,1,2,3,4,5,6,7,8,9,12] {hs:=[0,2,5,6,7,9],hf:=[185],lps:=[(#[13],190,[5,6,7,9])]} [#[13]] func237 (by kernel_rfl) (by decide) (by decide) ⟨⟨0,rfl,rfl⟩,trivial⟩
theorem e5m :FE p 100 VV:=fnS [0,1,4] {hf:=[296]} func238
theorem e5n :FE p 101 VW:=fnS [0,1,2,3] {} func239
theorem e5o :FE p 102 Wb:=fnS [0,1,2,3,7,8,9,11,13,15,17,21,22,23,39,40,41,52,53,54,77,78,79] {hs:=[0,2],hf:=[162,163,164,165,166,167,297,298],bf:=[162,164,165,166,167,297]} func240
theorem e5p :FE p 103 Rh:=fnS [0,1,3,4] {} func241
theorem e5q :FE p 110 N5:=fnS [0,1,4] {hf:=[234],rs:=[81]} func155
theorem e5r :FE p 111 QH:=fnS [0,1,4,5,7,8] {hv:=[11]} func175
theorem e5s :FE p 114 Oq:=fnS [0,1] {hf:=[244],bf:=[244]} func243
theorem e5t :FE p 115 QJ:=fnS [0,1,4,5,7,8] {hv:=[11]} func133
theorem e5u :FE p 116 UA:=fnS [0,1,2,3] {} func134
theorem e5v :FE p 118 LQ:=fnS [0,2,3,22,23] {} func270
theorem e5w :FE p 119 Ot:=fnS [0,1,4,5,7] {} func140
theorem e5x :FE p 120 Ou:=fnS [0,1,2,6] {} func60
theorem e5y :FE p 121 Wc:=fnS [0,1,2,3,9,10,11,12] {hs:=[0],hf:=[107,197],bf:=[107,197]} func271
theorem e5z :FE p 122 Ov:=L6 [0,1,2,14] {hs:=[2],hf:=[185],lps:=[(#[15],191,[2])]} [#[15]] func272 (by kernel_rfl) (by decide) (by decide) ⟨⟨0,rfl,rfl⟩,trivial⟩
theorem e5A :FE p 123 JJ:=fnS [0,1,3,4,5,11,12] {} func273
theorem e5B :FE p 124 LR:=fnS [0,1,2,3,6,8,9] {hs:=[0],hf:=[162],bf:=[162]} func295
theorem e5C :FE p 125 Wd:=fnS [0,1,4,5,7,8] {hv:=[11]} func296
theorem e5D :FE p 126 We:=fnS [0,1,2,3,9,10,11,12] {hs:=[0,2],hf:=[237],bf:=[237]} func297
theorem e5E :FE p 127 Ow:=fnS [0,1,4,5,6,7] {hf:=[346],hv:=[26],rs:=[81],kp:=true} func298
theorem e5F :FE p 128 Ri:=fnS [0,1,3] {} func299
theorem e5G :FE p 129 Wf:=fnS [0,1,4] {hf:=[346]} func300
theorem e5H :FE p 130 Wg:=fnS [0,1,3] {} func301
theorem e5I :FE p 139 N4:=fnS [0,1,4,5,7,8] {rs:=[81]} func234
theorem e5J :FE p 141 KY:=fnS [0,1,2,4,6,12,13,14] {hf:=[244],hv:=[7],bf:=[244],bv:=[7]} func244
theorem e5K :FE p 142 Wh:=fnS [0,2] {} func310
theorem e5L :FE p 143 Wi:=fnS [0,2,3,4] {} func311
theorem e5M :FE p 144 Rj:=fnS [0,2] {} func312
theorem e5N :FE p 145 Oy:=fnS [0,1,4,5] {} func227
theorem e5O :FE p 146 Wj:=fnS [0,2] {} func139
theorem e5P :FE p 147 Wk:=L6 [0,1,2,5] {hs:=[2],hf:=[185],lps:=[(#[6],192,[2])]} [#[6]] func313 (by kernel_rfl) (by decide) (by decide) ⟨⟨0,rfl,rfl⟩,trivial⟩
theorem e5Q :FE p 148 Wl:=L6 [0,1,2,3,5] {hs:=[3],hf:=[185],lps:=[(#[6],193,[3])]} [#[6]] func314 (by kernel_rfl) (by decide) (by decide) ⟨⟨0,rfl,rfl⟩,trivial⟩
theorem e5R :FE p 149 Wm:=fnS [0,1,2,3,5,7,8,9] {} func315
theorem e5S :FE p 150 GB:=fnS [0,1,2,3,4,5] {} func316
theorem e5T :FE p 151 Oz:=fnS [0,1,4,5,7,8] {hv:=[11],rs:=[81]} func346
theorem e5U :FE p 162 Wo:=fnS [0,2] {} func351
theorem e5V :FE p 163 Fv:=fnS [0,1,2,3,4,5,18,77] {} func352
theorem e5W :FE p 164 Ko:=fnS [0,2,3,4,5,6,7,8,9,10,11,12,13] {} func292
theorem e5X :FE p 169 MO:=fnS [0,1,4] {} func374
theorem e5Y :FE p 170 Wp:=fnS [0,2] {} func375
theorem e5Z :FE p 171 OA:=fnS [0,1,4] {} func376
theorem e50 :FE p 172 Rk:=fnS [0,1,4,5,6] {} func342
theorem e51 :FE p 173 Wq:=fnS [0,1,4,5] {} func343
theorem e52 :FE p 174 Ws:=fnS [0,2,3,4,5,7,8] {} func344
theorem e53 :FE p 175 OB:=fnS [0,1,2] {} func345
theorem e54 :FE p 179 Rl:=fnS [0,1,4,5,6,7] {} func370
theorem e55 :FE p 180 Rm:=fnS [0,1,4,5] {} func371
theorem e56 :FE p 181 Ro:=fnS [0,1,4,5,6,7,8,9,10,11,12,13] {} func383
theorem e57 :FE p 182 Rp:=fnS [0,1,4] {} func384
theorem e58 :FE p 184 a5h:=fnS [0,2] {} func391
theorem e59 :FE p 185 a1V:=fnS [0,1,4,5,6,7,8,9,10] {} func392
theorem e6a :FE p 186 a2Y:=fnS [0,2,3,4,5,6,7,8] {} func400
theorem e6b :FE p 189 Wt:=rdS [2,4] [2,4,15,6,7] {hs:=[2,4]} 0 #[15] rfl func198 (by kernel_rfl) (by kernel_rfl) (by decide)
theorem e6c :FE p 190 LT:=rdS [5,6,7,9] [5,6,7,9,13,10,15,16] {hs:=[5,6,7,9],hf:=[162,235,295],bf:=[162,295],rf:=[235]} 0 #[13] rfl func237 (by kernel_rfl) (by kernel_rfl) (by decide)
theorem e6d :FE p 191 Wu:=rdS [2] [2,15,3,4] {hs:=[2]} 0 #[15] rfl func272 (by kernel_rfl) (by kernel_rfl) (by decide)
theorem e6e :FE p 192 KZ:=rdS [2] [2,6,3,8,9] {hs:=[2]} 0 #[6] rfl func313 (by kernel_rfl) (by kernel_rfl) (by decide)
theorem e6f :FE p 193 b4X:=rdS [3] [3,6] {hs:=[3]} 0 #[6] rfl func314 (by kernel_rfl) (by kernel_rfl) (by decide)
theorem e6g :FE p 197 PY:=fnS [0,1,2,3,4,5,6,7,8,9,20,21,22] {} func13
theorem e6h :FE p 201 Wv:=fnS [0,1,2] {} func48
theorem e6i :FE p 204 NC:=fnS [0,1,2,3,4,5] {} func52
theorem e6j :FE p 205 Rr:=fnS [0,1,2,3,4,6,7,9,10,12,14,36,37,38,51,52,53] {hs:=[9],hv:=[45,62],rs:=[48]} func53
theorem e6k :FE p 209 WD:=fnS [0,1,2,3,4,5,7,8,10,11,12,13,14,16,18,20,23,24,25,31,32,33,44,45,46,57,58,59,67,68,69,78,79,80,86,87,88] {hs:=[11],hf:=[214,218],hv:=[73,92],rs:=[218]} func127
theorem e6l :FE p 210 WG:=fnS [0,1,4,5,6,7,9,11,12,13,14,15,16,18,28,29,30,34,35,36,49,50,51,52,81,82,83] {hs:=[7,12,49],hf:=[221,222,223],rs:=[48,327],pz:=[220]} func128
theorem e6m :FE p 211 WH:=fnS [0,1,4] {hf:=[133]} func119
theorem e6n :FE p 212 WI:=fnS [0,1,2] {} func120
theorem e6o :FE p 213 WK:=fnS [0,1,4,5,6,7,8,9,10,11,28,29,30,50,51] {hs:=[6,8,28],hf:=[224],rs:=[35,48],nl:=true,fr:=[20,22,24,26],pa:=[48],pz:=[220]} func129
theorem e6p :FE p 214 OD:=fnS [0,1] {hs:=[1]} func130
theorem e6q :FE p 216 OE:=fnS [0,1,2,3,5,6] {hs:=[2],rs:=[218]} func212
theorem e6r :FE p 217 WL:=fnS [0,1,2] {ox:=[(275,some 0)]} func213
theorem e6s :FE p 219 b2I:=fnS [0,1,2,3,4] {} func215
theorem e6t :FE p 220 OF:=fnS [0,2,3,4,5] {rs:=[218],kp:=true} func218
theorem e6u :FE p 221 WN:=fnS [0,1,2,3,6,7,9,17,18,19] {hv:=[23,29]} func219
theorem e6v :FE p 222 WQ:=fnS [0,1,4,5,7,8,11,12,13,32,33] {hs:=[5],hf:=[282,283],rs:=[35,48]} func220
theorem e6w :FE p 223 WR:=fnS [0,1] {hf:=[284]} func221
theorem e6x :FE p 224 WS:=fnS [0,2] {} func222
theorem e6y :FE p 225 WT:=fnS [0,2,3] {hf:=[285]} func223
theorem e6z :FE p 226 WU:=fnS [0,1,2,6] {rs:=[327]} func419
theorem e6A :FE p 227 WV:=fnS [0,2,3,4] {hs:=[0],rs:=[327]} func420
theorem e6B :FE p 228 WW:=fnS [0,1] {hs:=[0],rs:=[327]} func421
theorem e6C :FE p 229 WX:=fnS [0,1,2] {rs:=[327],sr:=true} func422
theorem e6D :FE p 230 WZ:=fnS [0,1,4,5,6,7,8] {hs:=[0,5],hf:=[286,287],rs:=[48,134,389]} func224
theorem e6E :FE p 231 KN:=fnS [0,1,2,4,6,7,8,24,25,26] {ox:=[(275,some 0),(1000000,none)]} func275
theorem e6F :FE p 232 b6B:=fnS [0,2,3,5,6,7,8] {} func216
theorem e6G :FE p 233 b0W:=fnS [0,1,4,5,6] {} func217
theorem e6H :FE p 234 W0:=fnS [0,1,3] {} func279
theorem e6I :FE p 235 W2:=fnS [0,1,4] {hf:=[327]} func280
theorem e6J :FE p 236 b2J:=fnS [0,1,3] {hv:=[4]} func281
theorem e6K :FE p 237 OG:=fnS [0,2,3,4,5] {rs:=[48],kp:=true} func283
theorem e6L :FE p 238 W4:=fnS [0,1,4] {} func284
theorem e6M :FE p 239 W5:=fnS [0,1,2,6,7,8,9,10] {} func285
theorem e6N :FE p 240 Ru:=fnS [0,1,4] {hs:=[0],rs:=[48,134],sr:=true} func286
theorem e6O :FE p 241 Rv:=fnS [0,1,4] {hs:=[0],rs:=[48,134]} func287
theorem e6P :FE p 242 MP:=fnS [0,1,2] {} func225
theorem e6Q :FE p 243 b2K:=fnS [0,2] {} func278
theorem e6R :FE p 244 W6:=fnS [0,1,4,5,7,8] {hv:=[11]} func327
theorem e6S :FE p 263 N7:=fnS [0,1,2,3,4,5,6,7,8,9,10,11,12,13,14] {} func3
theorem e6T :FE p 264 Vj:=fnS [0,1,2,3,4,7] {hs:=[4,7],hf:=[31]} func7
theorem e6U :FE p 265 QO:=fnS [0,1,2,3,4,5,6,7,8,9,10,11,12,23,24,25,36,37,38] {lv:=true} func8
theorem e6V :FE p 266 b4Y:=fnS [0,1,2,3,4,5,6,7,8,9,10,11,14] {} func9
theorem e6W :FE p 267 QU:=fnS [0,1,2,3,4,5,6,7,9,10,11,27,29,30,31] {hs:=[6,27],hf:=[43,45],ox:=[(44,none)],fr:=[26,27]} func10
theorem e6X :FE p 268 ND:=fnS [0,1,2,3,4,5,6,7,8,9,24,25,26] {} func11
theorem e6Y :FE p 269 PU:=fnS [0,1,2,3,4,5,6,7,8,9,20,21,22] {} func12
theorem e6Z :FE p 270 Vh:=fnS [0,2,3,4,6,7,8,24,25] {hs:=[0],hv:=[29]} func31
theorem e60 :FE p 271 NV:=fnS [0,1,2,3,4,5,6,7,8,9,28,29,30] {} func34
theorem e61 :FE p 272 UD:=fnS [0,1,4,6,7,8,9,10] {hv:=[14]} func35
theorem e62 :FE p 273 UK:=fnS [0,1,2,3,4] {} func36
theorem e63 :FE p 274 UE:=fnS [0,1,4,6,7,8,9,10] {hv:=[14]} func37
theorem e64 :FE p 275 LG:=fnS [0,1,2,3,4,5,6] {} func38
theorem e65 :FE p 276 b4Z:=fnS [0,2,3,4,5,6,7] {} func39
theorem e66 :FE p 277 b34:=fnS [0,1,2,3,4,5,6,9] {hs:=[4,9],hf:=[31]} func40
theorem e67 :FE p 278 b35:=fnS [0,1,2,4,5,6,7,8,9,10] {} func41
theorem e68 :FE p 279 b6C:=fnS [0,1,2,3,4,5,6,7,8] {} func42
theorem e69 :FE p 280 Tt:=fnS [0,1,2,3,5,7,10,12,13,14,29,30,31] {hs:=[2,10],hf:=[97,98,99,100]} func43
theorem e7a :FE p 281 Qi:=fnS [0,2] {ox:=[(1000000,none)]} func44
theorem e7b :FE p 282 Vb:=fnS [0,1,3,4,5,6,7,9,11,23,24,25,37,38,39] {hs:=[0,5],hf:=[45,105],ox:=[(103,none),(104,none)]} func45
theorem e7c :FE p 283 TZ:=fnS [0,1,2,3] {} func47
theorem e7d :FE p 284 P5:=fnS [0,1,2,3,4,5,6,7,8,10,12,13,20,21,22,39,40,43,44,45] {} func49
theorem e7e :FE p 285 PT:=fnS [0,1,2,3] {} func50
theorem e7f :FE p 286 SY:=fnS [0,1,2,3,4,5,6,8,10,12,14,16,20,21,22,34,35,36,46,47,48,53,54,55,69,70,71,75,76,77] {hf:=[124,125,126]} func51
theorem e7g :FE p 287 Vc:=fnS [0,2,3] {hs:=[0]} func77
theorem e7h :FE p 288 QV:=fnS [0,2,3,4,5] {hs:=[0]} func78
theorem e7i :FE p 289 Vd:=fnS [0,2,3] {hs:=[0]} func79
theorem e7j :FE p 290 Ve:=fnS [0,2,3] {hs:=[0]} func80
theorem e7k :FE p 291 Vf:=fnS [0,2,3] {hs:=[0]} func81
theorem e7l :FE p 292 Fc:=fnS [0,1,2,3,4,6,7,8,9,10,11,12,13,25,74,84] {} func87
theorem e7m :FE p 293 QI:=fnS [0,1,2,3,4,5,6] {} func88
theorem e7n :FE p 294 UF:=fnS [0,1,4,6,7,8,9,10] {hv:=[14]} func89
theorem e7o :FE p 295 UJ:=fnS [0,1,2,3,4,5,6,7,8] {} func90
theorem e7p :FE p 296 b2L:=fnS [0,2,3,5,6,7,8] {} func91
theorem e7q :FE p 297 b41:=fnS [0,1,4,5] {} func92
theorem e7r :FE p 298 b0Y:=fnS [0,1,4,5] {} func94
theorem e7s :FE p 299 b42:=fnS [0,1,4,5,6,7,8] {} func95
theorem e7t :FE p 300 b36:=fnS [0,1,4,5] {} func96
theorem e7u :FE p 301 Qb:=fnS [0,1,5,6,7,8] {hs:=[0]} func97
theorem e7v :FE p 302 Tj:=fnS [0,1,5,7,8,9,10,20,21,22] {hs:=[0],hf:=[97]} func98
theorem e7w :FE p 303 Tr:=fnS [0,1,2,7,9,11,13,14,15,16,30,31,32,37,38,39,63,64,65] {hs:=[0],hf:=[97,98,99,100],ox:=[(184,none)],lv:=true} func99
theorem e7x :FE p 304 Tl:=L6 [0,1,2,5,7,8,9,14] {hs:=[0,2],hf:=[185],lps:=[(#[15],386,[2])]} [#[15]] func100 (by kernel_rfl) (by decide) (by decide) ⟨⟨0,rfl,rfl⟩,trivial⟩
theorem e7y :FE p 305 Qk:=fnS [0,1,3,4,5] {hf:=[97]} func101
theorem e7z :FE p 306 Qg:=fnS [0,2] {ox:=[(1000000,none)]} func103
theorem e7A :FE p 307 Qh:=fnS [0,2] {ox:=[(1000000,none)]} func104
theorem e7B :FE p 308 U8:=fnS [0,1,2,3,7,8,9,10,12,13,14,15,20,23,24,25,54,55,56] {hs:=[0,1,9,20],hf:=[189,190,191,192]} func105
theorem e7C :FE p 309 TL:=fnS [0,1,4,5,6,7,8,9,10] {hv:=[16]} func110
theorem e7D :FE p 310 TY:=fnS [0,1,3,4] {} func111
theorem e7E :FE p 311 TM:=fnS [0,1,4,5,6,7,8,9,10] {hv:=[16]} func113
theorem e7F :FE p 312 TX:=fnS [0,1,3,4,5] {} func114
theorem e7G :FE p 313 S9:=fnS [0,1,2,4,6,7,8,9,10,11,12,13,18,19,20] {} func121
theorem e7H :FE p 314 Ta:=fnS [0,1,2,3,4,5,8,19,20,21] {lv:=true} func122
theorem e7I :FE p 315 HO:=fnS [0,1,2,3,4,5,6,7,8,9,10,11,14,15,73,74,75] {hv:=[82]} func123
theorem e7J :FE p 316 SV:=fnS [0,1,2,3,4] {hv:=[7]} func124
theorem e7K :FE p 317 SX:=L6 [0,1,2,3,4,8] {hs:=[2,4],hf:=[185],lps:=[(#[9],387,[2,4])]} [#[9]] func125 (by kernel_rfl) (by decide) (by decide) ⟨⟨0,rfl,rfl⟩,trivial⟩
theorem e7L :FE p 318 Ny:=fnS [0,1,3,4,6,15] {hf:=[211]} func126
theorem e7M :FE p 319 Uz:=fnS [0,1,2,4,5,6,8,9,10,11,12,13] {} func170
theorem e7N :FE p 320 NT:=fnS [0,1,4,5,6,7,9,23,24,25,29] {} func171
theorem e7O :FE p 321 Uy:=fnS [0,2,4,5,6,7] {} func172
theorem e7P :FE p 322 NU:=fnS [0,1,2,3,6,7,8] {} func173
theorem e7Q :FE p 323 KR:=fnS [0,1,2,3,4,5,8,9,10,11,12,13,14,15,17,59,60,61,87,88,89] {} func174
theorem e7R :FE p 324 Ux:=fnS [0,1,2,3] {} func176
theorem e7S :FE p 325 UG:=fnS [0,1,4,6,7,8,9,10] {hv:=[14]} func177
theorem e7T :FE p 326 UC:=fnS [0,1,2,3,4] {} func178
theorem e7U :FE p 327 Qa:=fnS [0,1,2,4,5] {hs:=[5],rs:=[58]} func179
theorem e7V :FE p 328 UH:=fnS [0,1,4,6,7,8,9,10] {hv:=[14]} func180
theorem e7W :FE p 329 b6D:=fnS [0,1,2,3,4,5] {} func182
theorem e7X :FE p 330 b43:=fnS [0,1,4,5] {} func183
theorem e7Y :FE p 331 Qf:=fnS [0,2] {ox:=[(1000000,none)]} func184
theorem e7Z :FE p 332 UX:=fnS [0,1,2] {} func187
theorem e70 :FE p 333 UZ:=fnS [0,1,2,3] {} func188
theorem e71 :FE p 334 UP:=fnS [0,1,2,4,22,23,88,89,90] {hs:=[0],hf:=[191,246],hv:=[14,36]} func189
theorem e72 :FE p 335 UV:=fnS [0,1,2,3,4,6,8,9,11,12,13,14,15,17,18,19,20,37,38,39,114,115,116] {hs:=[0],hf:=[191,255,256],hv:=[30,76,87,129],ox:=[(103,none),(104,none),(256,none)]} func190
theorem e73 :FE p 336 Qs:=fnS [0,1,2,3,8,9] {hs:=[0],hv:=[19]} func191
theorem e74 :FE p 337 Ur:=fnS [0,1,2,3,4,5,6,7,8,9,10,11,50,51,52,58,59,60,113,114,115,168,169,170] {hs:=[0],hf:=[255,258,259,266],ox:=[(256,none),(266,none)]} func192
theorem e75 :FE p 338 Qp:=fnS [0,2] {} func112
theorem e76 :FE p 339 TN:=fnS [0,1,4,5,6,7,8,9,10] {hv:=[16]} func115
theorem e77 :FE p 340 TW:=fnS [0,1,3,4] {} func116
theorem e78 :FE p 341 TO:=fnS [0,2] {} func117
theorem e79 :FE p 342 TV:=fnS [0,2] {} func118
theorem e8a :FE p 343 P3:=fnS [0,1,2,3,4,5,6] {} func203
theorem e8b :FE p 344 S0:=fnS [0,1,4] {} func204
theorem e8c :FE p 345 S5:=fnS [0,1,2,3,6,7,8] {} func205
theorem e8d :FE p 346 S6:=fnS [0,1,3] {} func206
theorem e8e :FE p 347 S7:=fnS [0,1,2,4] {} func207
theorem e8f :FE p 348 Th:=fnS [0,1,2,4] {} func208
theorem e8g :FE p 349 SU:=fnS [0,1,2,3,5,7,8,9] {hf:=[126]} func210
theorem e8h :FE p 350 SS:=fnS [0,1,4,6,7,8,9] {hf:=[126]} func211
theorem e8i :FE p 351 Uv:=fnS [0,2,3,4,7,13,19,22] {} func242
theorem e8j :FE p 352 Tz:=fnS [0,1,4,5,6,7,8,9,10] {hv:=[16]} func246
theorem e8k :FE p 353 Uc:=fnS [0,1,2,4,5] {hf:=[191]} func247
theorem e8l :FE p 354 Ty:=fnS [0,1,2,3,5,7,9,11,13,15,17,19,20,21,26,27,28,40,41,42,53,54,55,66,67,68,73,74,75,80,81,82] {} func248
theorem e8m :FE p 355 UQ:=fnS [0,1,2,3] {} func250
theorem e8n :FE p 356 TE:=fnS [0,2] {} func251
theorem e8o :FE p 357 TG:=fnS [0,1,4] {} func252
theorem e8p :FE p 358 TH:=fnS [0,1,2] {} func253
theorem e8q :FE p 359 Qo:=fnS [0,1,3,4] {} func254
theorem e8r :FE p 360 Ue:=fnS [0,1,2,6] {hs:=[0]} func255
theorem e8s :FE p 361 Qu:=fnS [0,1,4,5,6,7,8,9,10] {hv:=[16],ox:=[(1000000,none)]} func256
theorem e8t :FE p 362 UU:=fnS [0,1,2,3,5,6] {hf:=[191]} func257
theorem e8u :FE p 363 Ub:=fnS [0,1,2,4] {hs:=[0]} func258
theorem e8v :FE p 364 Ul:=fnS [0,1,2,6] {hs:=[0],hf:=[307]} func259
theorem e8w :FE p 365 Uo:=fnS [0,1,2,4,5] {hf:=[261]} func260
theorem e8x :FE p 366 Up:=fnS [0,1,2,4,5] {hf:=[255,261]} func263
theorem e8y :FE p 367 TJ:=fnS [0,1,3,4] {} func265
theorem e8z :FE p 368 TA:=fnS [0,1,4,5,6,7,8,9,10] {hv:=[16],ox:=[(1000000,none)]} func266
theorem e8A :FE p 369 Uf:=fnS [0,1,2,3,5,6] {hf:=[255]} func267
theorem e8B :FE p 370 Ug:=fnS [0,1,3,4] {} func268
theorem e8C :FE p 371 Uh:=fnS [0,1,2,3,5,6] {} func269
theorem e8D :FE p 372 TB:=fnS [0,1,4,5,6,7,8,9,10] {hv:=[16]} func199
theorem e8E :FE p 373 TQ:=fnS [0,1,3,4] {} func200
theorem e8F :FE p 374 TC:=fnS [0,1,4,5,6,7,8,9,10] {hv:=[16]} func201
theorem e8G :FE p 375 TU:=fnS [0,1,3,4] {} func202
theorem e8H :FE p 376 S2:=fnS [0,1,2,3] {} func274
theorem e8I :FE p 377 PZ:=fnS [0,1,4,5,12,13] {} func158
theorem e8J :FE p 378 Tg:=fnS [0,1,3,4,5] {hs:=[5],rs:=[66]} func209
theorem e8K :FE p 379 Tw:=fnS [0,1,2] {ox:=[(275,some 0)]} func306
theorem e8L :FE p 380 TD:=fnS [0,1,4,5,6,7,8,9,10] {hv:=[16]} func307
theorem e8M :FE p 381 Uj:=fnS [0,1,2,3,4,5,6,7,8,9,10,11] {hs:=[0],hf:=[308]} func261
theorem e8N :FE p 382 Um:=fnS [0,1,2,3] {} func262
theorem e8O :FE p 383 Un:=fnS [0,1,2] {} func264
theorem e8P :FE p 384 TK:=fnS [0,1,4,5,6,7,8,9,10] {hv:=[16]} func308
theorem e8Q :FE p 385 Ui:=fnS [0,1,2,3,4,6,7] {hf:=[255],hv:=[26]} func309
theorem e8R :FE p 386 Qc:=rdS [2] [2,15,6] {hs:=[2],hf:=[97]} 0 #[15] rfl func100 (by kernel_rfl) (by kernel_rfl) (by decide)
theorem e8S :FE p 387 IL:=rdS [2,4] [2,4,9,5,6,11,12] {hs:=[2,4],hf:=[126,211]} 0 #[9] rfl func125 (by kernel_rfl) (by kernel_rfl) (by decide)
theorem e3Z (h39:Jw (N0 p) Tryz.prog 39 MK)(h44:Jw (N0 p) Tryz.prog 44 NK)(h183:Jw (N0 p) Tryz.prog 183 Rq)(h218:Jw (N0 p) Tryz.prog 218 (KM 219))(h27:KL (N0 p) Tryz.prog 27 (I7 1))(h48:KL (N0 p) Tryz.prog 48 (I7 2)):∀k a,LS k=some a->FnS E (N0 p) k a:=by have all:AllFn E (N0 p) 0 LSt:=⟨o8,o10,o11,o14,o23,.inl ⟨rfl,rfl,by decide,.inr (.inr ⟨_,Tryz.f82,rfl,rfl,rfl,func82,by decide,by kernel_rfl,h27⟩)⟩,o28,o29,o32,o33,o34,o35,.inl ⟨rfl,rfl,by decide,.inr (.inl ⟨_,Tryz.f282,rfl,rfl,func282,by decide,by kernel_rfl,h39⟩)⟩,.inl ⟨rfl,rfl,by decide,.inr (.inl ⟨_,Tryz.f102,rfl,rfl,func102,by decide,by kernel_rfl,h44⟩)⟩,.inl ⟨rfl,rfl,by decide,.inr (.inr ⟨_,Tryz.f106,rfl,rfl,rfl,func106,by decide,by kernel_rfl,h48⟩)⟩,o49,o50,o51,o57,o58,o59,o60,o61,o62,o63,o74,o75,o76,o77,o81,o82,o89,o90,o91,o92,o93,o94,o97,o98,o99,e5m,e5n,e5o,e5p,e5q,e5r,e5s,e5t,e5u,e5v,e5w,e5x,e5y,e5z,e5A,e5B,e5C,e5D,e5E,e5F,e5G,e5H,e5I,e5J,e5K,e5L,e5M,e5N,e5O,e5P,e5Q,e5R,e5S,e5T,e5U,e5V,e5W,e5X,e5Y,e5Z,e50,e51,e52,e53,e54,e55,e56,e57,.inl ⟨rfl,rfl,by decide,.inr (.inl ⟨_,Tryz.f389,rfl,rfl,func389,by decide,by kernel_rfl,h183⟩)⟩,e58,e59,e6a,e6b,e6c,e6d,e6e,e6f,e6g,e6h,e6i,e6j,e6k,e6l,e6m,e6n,e6o,e6p,e6q,e6r,.inl ⟨rfl,rfl,by decide,.inr (.inl ⟨_,Tryz.f214,rfl,rfl,func214,by decide,by kernel_rfl,h218⟩)⟩,e6s,e6t,e6u,e6v,e6w,e6x,e6y,e6z,e6A,e6B,e6C,e6D,e6E,e6F,e6G,e6H,e6I,e6J,e6K,e6L,e6M,e6N,e6O,e6P,e6Q,e6R,e6S,e6T,e6U,e6V,e6W,e6X,e6Y,e6Z,e60,e61,e62,e63,e64,e65,e66,e67,e68,e69,e7a,e7b,e7c,e7d,e7e,e7f,e7g,e7h,e7i,e7j,e7k,e7l,e7m,e7n,e7o,e7p,e7q,e7r,e7s,e7t,e7u,e7v,e7w,e7x,e7y,e7z,e7A,e7B,e7C,e7D,e7E,e7F,e7G,e7H,e7I,e7J,e7K,e7L,e7M,e7N,e7O,e7P,e7Q,e7R,e7S,e7T,e7U,e7V,e7W,e7X,e7Y,e7Z,e70,e71,e72,e73,e74,e75,e76,e77,e78,e79,e8a,e8b,e8c,e8d,e8e,e8f,e8g,e8h,e8i,e8j,e8k,e8l,e8m,e8n,e8o,e8p,e8q,e8r,e8s,e8t,e8u,e8v,e8w,e8x,e8y,e8z,e8A,e8B,e8C,e8D,e8E,e8F,e8G,e8H,e8I,e8J,e8K,e8L,e8M,e8N,e8O,e8P,e8Q,e8R,e8S,trivial⟩;intro k a h;have:=all.get (k:=k) (f:=a) h;rwa[dy]at this
end Go.Proofs.YtncpglgeamdneaaGreatDoor.Pi
namespace Go.Proofs
open Go.Shelf Tryz
theorem tk{c:Type}{o:Option c}{a b:c}(h:o=some a)(e:a=b:=by kernel_rfl):o=some b:=h.trans (congrArg some e)
def Tryz.lays122_ren:Go.Shelf.Ren:=⟨fun|122=>217|215=>278|n=>n,fun|3=>3|4=>4|n=>n,fun|n=>n⟩
theorem Tryz.lays122:Go.Proofs.Lays.n122 Tryz.prog Tryz.lays122_ren:={mixed:=by kernel_rfl,f122:=tk func217,f215:=tk func278,t3:=Tryz.underlying3,a3:=Tryz.isAgg3,z3:=Tryz.sizeOf3,v3:=Tryz.zeroValue3,t4:=Tryz.underlying4,a4:=Tryz.isAgg4,z4:=Tryz.sizeOf4,v4:=Tryz.zeroValue4}
def Tryz.laysM171_ren:Go.Shelf.Ren:=⟨fun|171=>102|243=>186|246=>245|283=>302|284=>303|285=>304|286=>305|129=>326|317=>347|318=>348|319=>349|320=>350|337=>372|338=>373|n=>n,fun|3=>3|9=>9|2=>2|4=>4|171=>403|0=>0|53=>404|37=>407|5=>5|173=>408|212=>437|51=>423|20=>20|213=>438|46=>375|232=>462|233=>463|n=>n,fun|17=>0|18=>1|19=>2|n=>n⟩
theorem Tryz.laysM171:Go.Proofs.LaysM.n171 Tryz.prog Tryz.laysM171_ren:={mixed:=by kernel_rfl,f129:=tk func326,f171:=tk func102,f243:=tk func186,f246:=tk func245,f283:=tk func302,f284:=tk func303,f285:=tk func304,f286:=tk func305,f317:=tk func347,f318:=tk func348,f319:=tk func349,f320:=tk func350,f337:=tk func372,f338:=tk func373,t0:=Tryz.underlying0,a0:=Tryz.isAgg0,z0:=Tryz.sizeOf0,v0:=Tryz.zeroValue0,t2:=Tryz.underlying2,a2:=Tryz.isAgg2,z2:=Tryz.sizeOf2,v2:=Tryz.zeroValue2,t3:=Tryz.underlying3,a3:=Tryz.isAgg3,z3:=Tryz.sizeOf3,v3:=Tryz.zeroValue3,t4:=Tryz.underlying4,a4:=Tryz.isAgg4,z4:=Tryz.sizeOf4,v4:=Tryz.zeroValue4,t5:=Tryz.underlying5,a5:=Tryz.isAgg5,z5:=Tryz.sizeOf5,v5:=Tryz.zeroValue5,t9:=Tryz.underlying9,a9:=Tryz.isAgg9,z9:=Tryz.sizeOf9,v9:=Tryz.zeroValue9,t20:=Tryz.underlying20,a20:=Tryz.isAgg20,z20:=Tryz.sizeOf20,v20:=Tryz.zeroValue20,t37:=Tryz.underlying407,a37:=Tryz.isAgg407,z37:=Tryz.sizeOf407,v37:=Tryz.zeroValue407,t46:=Tryz.underlying375,a46:=Tryz.isAgg375,z46:=Tryz.sizeOf375,v46:=Tryz.zeroValue375,t51:=Tryz.underlying423,a51:=Tryz.isAgg423,z51:=Tryz.sizeOf423,v51:=Tryz.zeroValue423,t53:=Tryz.underlying404,a53:=Tryz.isAgg404,z53:=Tryz.sizeOf404,v53:=Tryz.zeroValue404,t171:=Tryz.underlying403,a171:=Tryz.isAgg403,z171:=Tryz.sizeOf403,v171:=Tryz.zeroValue403,t173:=Tryz.underlying408,a173:=Tryz.isAgg408,z173:=Tryz.sizeOf408,v173:=Tryz.zeroValue408,t212:=Tryz.underlying437,a212:=Tryz.isAgg437,z212:=Tryz.sizeOf437,v212:=Tryz.zeroValue437,t213:=Tryz.underlying438,a213:=Tryz.isAgg438,z213:=Tryz.sizeOf438,t232:=Tryz.underlying462,a232:=Tryz.isAgg462,z232:=Tryz.sizeOf462,v232:=Tryz.zeroValue462,t233:=Tryz.underlying463,a233:=Tryz.isAgg463,z233:=Tryz.sizeOf463,v233:=Tryz.zeroValue463,g17:=by kernel_rfl,g18:=by kernel_rfl,g19:=by kernel_rfl,i0:=by kernel_rfl,i2:=by kernel_rfl,i3:=by kernel_rfl,i4:=by kernel_rfl,i5:=by kernel_rfl,i9:=by kernel_rfl,i20:=by kernel_rfl,i37:=by kernel_rfl,i46:=by kernel_rfl,i51:=by kernel_rfl,i53:=by kernel_rfl,i171:=by kernel_rfl,i173:=by kernel_rfl,i212:=by kernel_rfl,i232:=by kernel_rfl,i233:=by kernel_rfl,m17:=by kernel_rfl,m18:=by kernel_rfl,m19:=by kernel_rfl}
def Tryz.lays189_ren:Go.Shelf.Ren:=⟨fun|189=>282|125=>277|257=>328|128=>325|129=>326|294=>358|295=>359|296=>360|297=>361|298=>362|299=>363|216=>364|300=>365|301=>366|328=>378|329=>354|330=>355|331=>379|332=>380|215=>278|343=>385|n=>n,fun|28=>48|3=>3|46=>375|0=>0|51=>423|53=>404|4=>4|183=>417|182=>416|131=>112|5=>5|9=>9|218=>442|222=>446|228=>456|229=>115|n=>n,fun|n=>n⟩
theorem Tryz.lays189:Go.Proofs.Lays.n189 Tryz.prog Tryz.lays189_ren:={mixed:=by kernel_rfl,f125:=tk func277,f128:=tk func325,f129:=tk func326,f189:=tk func282,f215:=tk func278,f216:=tk func364,f257:=tk func328,f294:=tk func358,f295:=tk func359,f296:=tk func360,f297:=tk func361,f298:=tk func362,f299:=tk func363,f300:=tk func365,f301:=tk func366,f328:=tk func378,f329:=tk func354,f330:=tk func355,f331:=tk func379,f332:=tk func380,f343:=tk func385,t0:=Tryz.underlying0,a0:=Tryz.isAgg0,z0:=Tryz.sizeOf0,v0:=Tryz.zeroValue0,t3:=Tryz.underlying3,a3:=Tryz.isAgg3,z3:=Tryz.sizeOf3,v3:=Tryz.zeroValue3,t4:=Tryz.underlying4,a4:=Tryz.isAgg4,z4:=Tryz.sizeOf4,v4:=Tryz.zeroValue4,t5:=Tryz.underlying5,a5:=Tryz.isAgg5,z5:=Tryz.sizeOf5,v5:=Tryz.zeroValue5,t9:=Tryz.underlying9,a9:=Tryz.isAgg9,z9:=Tryz.sizeOf9,v9:=Tryz.zeroValue9,t28:=Tryz.underlying48,a28:=Tryz.isAgg48,z28:=Tryz.sizeOf48,v28:=Tryz.zeroValue48,t46:=Tryz.underlying375,a46:=Tryz.isAgg375,z46:=Tryz.sizeOf375,v46:=Tryz.zeroValue375,t51:=Tryz.underlying423,a51:=Tryz.isAgg423,z51:=Tryz.sizeOf423,v51:=Tryz.zeroValue423,t53:=Tryz.underlying404,a53:=Tryz.isAgg404,z53:=Tryz.sizeOf404,v53:=Tryz.zeroValue404,t131:=Tryz.underlying112,a131:=Tryz.isAgg112,z131:=Tryz.sizeOf112,v131:=Tryz.zeroValue112,t182:=Tryz.underlying416,a182:=Tryz.isAgg416,z182:=Tryz.sizeOf416,v182:=Tryz.zeroValue416,t183:=Tryz.underlying417,a183:=Tryz.isAgg417,z183:=Tryz.sizeOf417,v183:=Tryz.zeroValue417,t218:=Tryz.underlying442,a218:=Tryz.isAgg442,z218:=Tryz.sizeOf442,v218:=Tryz.zeroValue442,t222:=Tryz.underlying446,a222:=Tryz.isAgg446,z222:=Tryz.sizeOf446,v222:=Tryz.zeroValue446,t228:=Tryz.underlying456,a228:=Tryz.isAgg456,z228:=Tryz.sizeOf456,v228:=Tryz.zeroValue456,t229:=Tryz.underlying115,a229:=Tryz.isAgg115,z229:=Tryz.sizeOf115,v229:=Tryz.zeroValue115}
def Tryz.lays217_ren:Go.Shelf.Ren:=⟨fun|217=>389|266=>399|n=>n,fun|9=>9|5=>5|3=>3|n=>n,fun|n=>n⟩
theorem Tryz.lays217:Go.Proofs.Lays.n217 Tryz.prog Tryz.lays217_ren:={mixed:=by kernel_rfl,f217:=tk func389,f266:=tk func399,t3:=Tryz.underlying3,a3:=Tryz.isAgg3,z3:=Tryz.sizeOf3,v3:=Tryz.zeroValue3,t5:=Tryz.underlying5,a5:=Tryz.isAgg5,z5:=Tryz.sizeOf5,v5:=Tryz.zeroValue5,t9:=Tryz.underlying9,a9:=Tryz.isAgg9,z9:=Tryz.sizeOf9,v9:=Tryz.zeroValue9}
def Tryz.sortEdge_ren:Go.Shelf.Ren:=⟨fun|6=>214|15=>277|14=>276|28=>325|29=>326|20=>317|21=>318|22=>319|23=>320|24=>321|25=>322|26=>323|27=>324|46=>353|47=>354|48=>355|49=>356|50=>357|57=>377|n=>n,fun|22=>218|24=>224|25=>322|3=>3|39=>375|0=>0|53=>423|55=>404|4=>4|46=>417|45=>416|50=>112|5=>5|9=>9|66=>442|70=>446|76=>456|77=>115|n=>n,fun|n=>n⟩
theorem Tryz.sortEdge:Go.Proofs.SlLaysF0.n6 Tryz.prog Tryz.sortEdge_ren:={mixed:=by kernel_rfl,f6:=⟨Tryz.f214.name,by decide,tk func214⟩,f14:=⟨Tryz.f276.name,by decide,tk func276⟩,f15:=tk func277,f20:=⟨Tryz.f317.name,by decide,tk func317⟩,f21:=⟨Tryz.f318.name,by decide,tk func318⟩,f22:=⟨Tryz.f319.name,by decide,tk func319⟩,f23:=⟨Tryz.f320.name,by decide,tk func320⟩,f24:=⟨Tryz.f321.name,by decide,tk func321⟩,f25:=⟨Tryz.f322.name,by decide,tk func322⟩,f26:=⟨Tryz.f323.name,by decide,tk func323⟩,f27:=⟨Tryz.f324.name,by decide,tk func324⟩,f28:=tk func325,f29:=tk func326,f46:=⟨Tryz.f353.name,by decide,tk func353⟩,f47:=tk func354,f48:=tk func355,f49:=⟨Tryz.f356.name,by decide,tk func356⟩,f50:=⟨Tryz.f357.name,by decide,tk func357⟩,f57:=⟨Tryz.f377.name,by decide,tk func377⟩,t0:=Tryz.underlying0,a0:=Tryz.isAgg0,z0:=Tryz.sizeOf0,v0:=Tryz.zeroValue0,t3:=Tryz.underlying3,a3:=Tryz.isAgg3,z3:=Tryz.sizeOf3,v3:=Tryz.zeroValue3,t4:=Tryz.underlying4,a4:=Tryz.isAgg4,z4:=Tryz.sizeOf4,v4:=Tryz.zeroValue4,t5:=Tryz.underlying5,a5:=Tryz.isAgg5,z5:=Tryz.sizeOf5,v5:=Tryz.zeroValue5,t9:=Tryz.underlying9,a9:=Tryz.isAgg9,z9:=Tryz.sizeOf9,v9:=Tryz.zeroValue9,t22:=Tryz.underlying218,a22:=Tryz.isAgg218,z22:=Tryz.sizeOf218,v22:=Tryz.zeroValue218,t25:=Tryz.underlying322,a25:=Tryz.isAgg322,z25:=Tryz.sizeOf322,v25:=Tryz.zeroValue322,t39:=Tryz.underlying375,a39:=Tryz.isAgg375,z39:=Tryz.sizeOf375,v39:=Tryz.zeroValue375,t45:=Tryz.underlying416,a45:=Tryz.isAgg416,z45:=Tryz.sizeOf416,v45:=Tryz.zeroValue416,t46:=Tryz.underlying417,a46:=Tryz.isAgg417,z46:=Tryz.sizeOf417,v46:=Tryz.zeroValue417,t50:=Tryz.underlying112,a50:=Tryz.isAgg112,z50:=Tryz.sizeOf112,v50:=Tryz.zeroValue112,t53:=Tryz.underlying423,a53:=Tryz.isAgg423,z53:=Tryz.sizeOf423,v53:=Tryz.zeroValue423,t55:=Tryz.underlying404,a55:=Tryz.isAgg404,z55:=Tryz.sizeOf404,v55:=Tryz.zeroValue404,t66:=Tryz.underlying442,a66:=Tryz.isAgg442,z66:=Tryz.sizeOf442,v66:=Tryz.zeroValue442,t70:=Tryz.underlying446,a70:=Tryz.isAgg446,z70:=Tryz.sizeOf446,v70:=Tryz.zeroValue446,t76:=Tryz.underlying456,a76:=Tryz.isAgg456,z76:=Tryz.sizeOf456,v76:=Tryz.zeroValue456,t77:=Tryz.underlying115,a77:=Tryz.isAgg115,z77:=Tryz.sizeOf115,v77:=Tryz.zeroValue115}
end Go.Proofs
namespace PI
open Go(IntKind BinOp UnOp)
attribute [simp]C8 IT Gx
theorem d7z(s:Nat):DN s []=true:=rfl
theorem d5M(s:Nat)(e:PV)(r:VsT):DN s (e::r)=(e.cells.length==s):=rfl
theorem d7A(b:Bool):(PV.bool b).cells=[.bool b]:=rfl
theorem d9F(k:IntKind)(n:Int):(PV.int k n).cells=[.int k n]:=rfl
theorem cells_str(s:List UInt8):(PV.str s).cells=[.str s]:=rfl
theorem d7B(o:Bool)(s:VsT):(PV.list o s).cells=[.list o s]:=rfl
theorem d9G(b:Bool):(PV.bool b).flat=true:=rfl
theorem e1S(k:IntKind)(n:Int):(PV.int k n).flat=true:=rfl
theorem e1T(s:List UInt8):(PV.str s).flat=true:=rfl
theorem d9H(o:Bool)(s:VsT):(PV.list o s).flat=true:=rfl
theorem e1U(n o:Nat):(PV.ptr n o).flat=true:=rfl
theorem e1V(n:Option Nat):(PV.map n).flat=true:=rfl
theorem d9I(n s:Nat)(a:Bool)(l:Nat):(PV.rowp n s a l).flat=true:=rfl
attribute [simp] d7z d5M d7A d9F cells_str d7B d9G e1S e1T d9H e1U e1V d9I
@[simp] theorem e1W(d:BinOp)(c:d≠.shl)(e:d≠.shr)(k:IntKind)(a b:Int):JC d (.int k a) (.int k b)=Oa d k a b:=by cases d<;>simp_all[JC]
@[simp] theorem e1X(c:BinOp)(a b:List UInt8):JC c (.str a) (.str b)=Ob c a b:=by rfl
@[simp] theorem CN(i:Nat)(h:i<9223372036854775807):IntKind.i64.wrap ((i:Int)+1)=((i+1:Nat):Int):=by show(if(true&&decide (((i:Int)+1)%18446744073709551616>=9223372036854775808))=true then((i:Int)+1)%18446744073709551616-18446744073709551616 else((i:Int)+1)%18446744073709551616)=_;simp;split<;>omega
theorem Kg(n:Int)(a:-9223372036854775808<=n)(b:n<=9223372036854775807):IntKind.i64.wrap n=n:=by show(if(true&&decide (n%18446744073709551616>=9223372036854775808))=true then n%18446744073709551616-18446744073709551616 else n%18446744073709551616)=_;grind
theorem Xc(l:VsT):Dd l=l.all Dn:=by induction l<;>simp_all
@[simp] theorem d4e(a b:VsT):Dd (a++b)=(Dd a&&Dd b):=by simp[Xc]
@[simp] theorem d7C(l:VsT)(n:Nat)(h:Dd l=true):Dd (l.take n)=true:=by rw[Xc,bu]at*;exactλx a=>h x (List.mem_of_mem_take a)
theorem Ir{a:Type}{f:a->PV}(h:∀x,Dn (f x)=true)(l:List a):Dd (l.map f)=true:=by simp_all[Xc]
@[simp] theorem d9J(l:List (List UInt8)):Dd (l.map PV.str)=true:=Ir (λ_=>rfl) l
@[simp] theorem d9K(l:List (List UInt8)):DN 1 (l.map PV.str)=true:=by cases l<;>simp
@[simp] theorem d9L(l:List Int):Dd (l.map (PV.int .i64))=true:=Ir (λ_=>rfl) l
@[simp] theorem d9M(l:List Int):DN 1 (l.map (PV.int .i64))=true:=by cases l<;>simp
namespace Sc
abbrev Str:=List UInt8
abbrev SsT:=List Str
structure On where
 name:Str
 t:Int
 tag:Int deriving Inhabited,DecidableEq
def eOn(x:On):PV:=.agg [.str x.name,I6 x.t,I6 x.tag]
theorem ZD(x:On):eOn x=.agg [.str x.name,I6 x.t,I6 x.tag]:=rfl
theorem d9N(x:On):(eOn x).cells=[.str x.name,I6 x.t,I6 x.tag]:=rfl
theorem e4L(x:On):cp (eOn x)=some (eOn x):=rfl
theorem e3I(x:On):tkv (eOn x)=some (eOn x,false):=rfl
theorem d4f(x:On):Hj (eOn x)=some (eOn x).cells:=rfl
theorem e3J(x:On):dem (eOn x)=eOn x:=rfl
theorem e1Y(x:On):F9 (eOn x)=eOn x:=rfl
theorem e1Z(x:On):PV.agg [.str x.name,I6 x.t,I6 x.tag]=eOn x:=(ZD x).symm
attribute [simp] d9N e4L e3I d4f e3J e1Y e1Z
@[simp] theorem e3K(l:List On):DN 3 (l.map eOn)=true:=by cases l<;>simp
@[simp] theorem e4M(x y:On):peq true [.s,.i,.i] (eOn x) (eOn y)=some (decide (x=y)):=by cases x;cases y;simp[eOn,FN];rw[du];simp
structure Decl where
 name:Str
 type:Int
 clock:List On deriving Inhabited,DecidableEq
abbrev DsT:=List Decl
def CL(x:Decl):PV:=.agg [.str x.name,I6 x.type,Lf (x.clock.map eOn)]
theorem Xd(x:Decl):CL x=.agg [.str x.name,I6 x.type,Lf (x.clock.map eOn)]:=rfl
theorem c46(x:Decl):(CL x).cells=[.str x.name,I6 x.type,Lf (x.clock.map eOn)]:=rfl
theorem e10(x:Decl):cp (CL x)=some (CL x):=rfl
theorem d9O(x:Decl):tkv (CL x)=some (CL x,false):=rfl
theorem d1C(x:Decl):Hj (CL x)=some (CL x).cells:=rfl
theorem d9P(x:Decl):dem (CL x)=CL x:=rfl
theorem d7D(x:Decl):F9 (CL x)=CL x:=rfl
theorem c7D(x:Decl):PV.agg [.str x.name,I6 x.type,Lf (x.clock.map eOn)]=CL x:=(Xd x).symm
theorem d7E(h:HsT)(x:Decl):HS h (CL x)=some (CL x):=by rfl
attribute [simp] c46 e10 d9O d1C d9P d7D c7D d7E
@[simp] theorem d9Q(l:DsT):DN 3 (l.map CL)=true:=by cases l<;>simp
structure Enum where
 name:Str
 tags:SsT deriving Inhabited,DecidableEq
def C6(x:Enum):PV:=.agg [.str x.name,Lf (x.tags.map PV.str)]
theorem c2w(x:Enum):C6 x=.agg [.str x.name,Lf (x.tags.map PV.str)]:=rfl
theorem d5N(x:Enum):(C6 x).cells=[.str x.name,Lf (x.tags.map PV.str)]:=rfl
theorem e11(x:Enum):cp (C6 x)=some (C6 x):=rfl
theorem d9R(x:Enum):tkv (C6 x)=some (C6 x,false):=rfl
theorem d1D(x:Enum):Hj (C6 x)=some (C6 x).cells:=rfl
theorem d9S(x:Enum):dem (C6 x)=C6 x:=rfl
theorem d7F(x:Enum):F9 (C6 x)=C6 x:=rfl
theorem c7E(x:Enum):PV.agg [.str x.name,Lf (x.tags.map PV.str)]=C6 x:=(c2w x).symm
theorem d7G(h:HsT)(x:Enum):HS h (C6 x)=some (C6 x):=by rfl
attribute [simp] d5N e11 d9R d1D d9S d7F c7E d7G
@[simp] theorem d9T(l:List Enum):DN 2 (l.map C6)=true:=by cases l<;>simp
inductive Expr where|mk(kind:Int)(op:Int)(t:Int)(v:Int)(name:Str)(args:List Expr)
instance:Inhabited Expr:=⟨.mk 0 0 0 0 [] []⟩
def Expr.kind:Expr->Int|.mk x _ _ _ _ _=>x
@[simp] theorem Expr.kind_mk(kind:Int)(c:Int)(t:Int)(v:Int)(a:Str)(b:List Expr):(Expr.mk kind c t v a b).kind=kind:=rfl
def Expr.op:Expr->Int|.mk _ x _ _ _ _=>x
@[simp] theorem Expr.op_mk(a:Int)(op:Int)(t:Int)(v:Int)(b:Str)(c:List Expr):(Expr.mk a op t v b c).op=op:=rfl
def Expr.t:Expr->Int|.mk _ _ x _ _ _=>x
@[simp] theorem Expr.t_mk(a:Int)(d:Int)(t:Int)(v:Int)(b:Str)(c:List Expr):(Expr.mk a d t v b c).t=t:=rfl
def Expr.v:Expr->Int|.mk _ _ _ x _ _=>x
@[simp] theorem Expr.v_mk(a:Int)(d:Int)(t:Int)(v:Int)(b:Str)(c:List Expr):(Expr.mk a d t v b c).v=v:=rfl
def Expr.name:Expr->Str|.mk _ _ _ _ x _=>x
@[simp] theorem Expr.name_mk(a:Int)(c:Int)(t:Int)(v:Int)(name:Str)(b:List Expr):(Expr.mk a c t v name b).name=name:=rfl
def Expr.args:Expr->List Expr|.mk _ _ _ _ _ x=>x
@[simp] theorem Expr.args_mk(a:Int)(c:Int)(t:Int)(v:Int)(b:Str)(args:List Expr):(Expr.mk a c t v b args).args=args:=rfl
mutual def CK:Expr->PV|.mk k o t v n az=>.agg [I6 k,I6 o,I6 t,I6 v,.str n,Lf (MT az)]def MT:List Expr->VsT|[]=>[]|x::xs=>CK x::MT xs end
theorem c2x:∀l:List Expr,MT l=l.map CK|[]=>rfl|x::a=>by simp[MT,c2x a]
theorem I9(x:Expr):CK x=.agg [I6 x.kind,I6 x.op,I6 x.t,I6 x.v,.str x.name,Lf (x.args.map CK)]:=by cases x;simp[CK,c2x]
theorem c47(x:Expr):(CK x).cells=[I6 x.kind,I6 x.op,I6 x.t,I6 x.v,.str x.name,Lf (x.args.map CK)]:=by rw[I9];rfl
theorem e12(x:Expr):cp (CK x)=some (CK x):=by rw[I9];rfl
theorem d9U(x:Expr):tkv (CK x)=some (CK x,false):=by rw[I9];rfl
theorem d1E(x:Expr):Hj (CK x)=some (CK x).cells:=by rw[I9];rfl
theorem c9H(x:Expr):dem (CK x)=CK x:=by rw[I9];rfl
theorem d7H(x:Expr):F9 (CK x)=CK x:=by rw[I9];rfl
theorem c7F(x:Expr):PV.agg [I6 x.kind,I6 x.op,I6 x.t,I6 x.v,.str x.name,Lf (x.args.map CK)]=CK x:=(I9 x).symm
attribute [simp] c47 e12 d9U d1E c9H d7H c7F
@[simp] theorem d7I(h:HsT)(x:Expr):HS h (CK x)=some (CK x):=by rw[I9];simp[-c7F]
@[simp] theorem d9V(l:List Expr):DN 6 (l.map CK)=true:=by cases l<;>simp
structure Eqn where
 left:SsT
 right:Expr deriving Inhabited
def C1(x:Eqn):PV:=.agg [Lf (x.left.map PV.str),I6 x.right.kind,I6 x.right.op,I6 x.right.t,I6 x.right.v,.str x.right.name,Lf (x.right.args.map CK)]
theorem QA(x:Eqn):C1 x=.agg [Lf (x.left.map PV.str),I6 x.right.kind,I6 x.right.op,I6 x.right.t,I6 x.right.v,.str x.right.name,Lf (x.right.args.map CK)]:=rfl
theorem d7J(x:Eqn):(C1 x).cells=[Lf (x.left.map PV.str),I6 x.right.kind,I6 x.right.op,I6 x.right.t,I6 x.right.v,.str x.right.name,Lf (x.right.args.map CK)]:=rfl
theorem e3L(x:Eqn):cp (C1 x)=some (C1 x):=rfl
theorem e13(x:Eqn):tkv (C1 x)=some (C1 x,false):=rfl
theorem d2I(x:Eqn):Hj (C1 x)=some (C1 x).cells:=rfl
theorem e14(x:Eqn):dem (C1 x)=C1 x:=rfl
theorem d9W(x:Eqn):F9 (C1 x)=C1 x:=rfl
theorem c9I(x:Eqn):PV.agg [Lf (x.left.map PV.str),I6 x.right.kind,I6 x.right.op,I6 x.right.t,I6 x.right.v,.str x.right.name,Lf (x.right.args.map CK)]=C1 x:=(QA x).symm
theorem d9X(h:HsT)(x:Eqn):HS h (C1 x)=some (C1 x):=by rfl
attribute [simp] d7J e3L e13 d2I e14 d9W c9I d9X
@[simp] theorem e15(l:List Eqn):DN 7 (l.map C1)=true:=by cases l<;>simp
structure Trn where
 cond:Expr
 to:Int
 resume:Bool deriving Inhabited
def Dt(x:Trn):PV:=.agg [I6 x.cond.kind,I6 x.cond.op,I6 x.cond.t,I6 x.cond.v,.str x.cond.name,Lf (x.cond.args.map CK),I6 x.to,.bool x.resume]
theorem QB(x:Trn):Dt x=.agg [I6 x.cond.kind,I6 x.cond.op,I6 x.cond.t,I6 x.cond.v,.str x.cond.name,Lf (x.cond.args.map CK),I6 x.to,.bool x.resume]:=rfl
theorem d7K(x:Trn):(Dt x).cells=[I6 x.cond.kind,I6 x.cond.op,I6 x.cond.t,I6 x.cond.v,.str x.cond.name,Lf (x.cond.args.map CK),I6 x.to,.bool x.resume]:=rfl
theorem e3M(x:Trn):cp (Dt x)=some (Dt x):=rfl
theorem e16(x:Trn):tkv (Dt x)=some (Dt x,false):=rfl
theorem d2J(x:Trn):Hj (Dt x)=some (Dt x).cells:=rfl
theorem e17(x:Trn):dem (Dt x)=Dt x:=rfl
theorem c9J(x:Trn):PV.agg [I6 x.cond.kind,I6 x.cond.op,I6 x.cond.t,I6 x.cond.v,.str x.cond.name,Lf (x.cond.args.map CK),I6 x.to,.bool x.resume]=Dt x:=(QB x).symm
attribute [simp] d7K e3M e16 d2J e17 c9J
@[simp] theorem e18(l:List Trn):DN 8 (l.map Dt)=true:=by cases l<;>simp
inductive State where|mk(name:Str)(locals:DsT)(eqs:List Eqn)(autos:List (List State))(unl:List Trn)(til:List Trn)
instance:Inhabited State:=⟨.mk [] [] [] [] [] []⟩
def State.name:State->Str|.mk x _ _ _ _ _=>x
@[simp] theorem State.name_mk(name:Str)(a:DsT)(c:List Eqn)(b:List (List State))(d:List Trn)(e:List Trn):(State.mk name a c b d e).name=name:=rfl
def State.locals:State->DsT|.mk _ x _ _ _ _=>x
@[simp] theorem State.locals_mk(b:Str)(locals:DsT)(c:List Eqn)(a:List (List State))(d:List Trn)(e:List Trn):(State.mk b locals c a d e).locals=locals:=rfl
def State.eqs:State->List Eqn|.mk _ _ x _ _ _=>x
@[simp] theorem State.eqs_mk(c:Str)(a:DsT)(eqs:List Eqn)(b:List (List State))(d:List Trn)(e:List Trn):(State.mk c a eqs b d e).eqs=eqs:=rfl
def State.autos:State->List (List State)|.mk _ _ _ x _ _=>x
@[simp] theorem State.autos_mk(b:Str)(a:DsT)(c:List Eqn)(autos:List (List State))(d:List Trn)(e:List Trn):(State.mk b a c autos d e).autos=autos:=rfl
def State.unl:State->List Trn|.mk _ _ _ _ x _=>x
@[simp] theorem State.unl_mk(c:Str)(a:DsT)(d:List Eqn)(b:List (List State))(unl:List Trn)(e:List Trn):(State.mk c a d b unl e).unl=unl:=rfl
def State.til:State->List Trn|.mk _ _ _ _ _ x=>x
@[simp] theorem State.til_mk(c:Str)(a:DsT)(d:List Eqn)(b:List (List State))(e:List Trn)(til:List Trn):(State.mk c a d b e til).til=til:=rfl
abbrev Ey:=List State
mutual def Da:State->PV|.mk n l e a u w=>.agg [.str n,Lf (l.map CL),Lf (e.map C1),Lf (MU a),Lf (u.map Dt),Lf (w.map Dt)]def MV:List State->VsT|[]=>[]|x::xs=>Da x::MV xs def MU:List (List State)->VsT|[]=>[]|x::xs=>.agg [Lf (MV x)]::MU xs end
def Do(a:Ey):PV:=.agg [Lf (a.map Da)]
theorem b97:∀l:List State,MV l=l.map Da|[]=>rfl|x::a=>by simp[MV,b97 a]
theorem c2y:∀l:List (List State),MU l=l.map Do|[]=>rfl|x::a=>by simp[MU,c2y a,b97,Do]
theorem KP(x:State):Da x=.agg [.str x.name,Lf (x.locals.map CL),Lf (x.eqs.map C1),Lf (x.autos.map Do),Lf (x.unl.map Dt),Lf (x.til.map Dt)]:=by cases x;simp[Da,c2y]
theorem b6E(x:State):(Da x).cells=[.str x.name,Lf (x.locals.map CL),Lf (x.eqs.map C1),Lf (x.autos.map Do),Lf (x.unl.map Dt),Lf (x.til.map Dt)]:=by rw[KP];rfl
theorem d9Y(x:State):cp (Da x)=some (Da x):=by rw[KP];rfl
theorem d7L(x:State):tkv (Da x)=some (Da x,false):=by rw[KP];rfl
theorem c9K(x:State):Hj (Da x)=some (Da x).cells:=by rw[KP];rfl
theorem d7M(x:State):dem (Da x)=Da x:=by rw[KP];rfl
theorem d5O(x:State):PV.agg [.str x.name,Lf (x.locals.map CL),Lf (x.eqs.map C1),Lf (x.autos.map Do),Lf (x.unl.map Dt),Lf (x.til.map Dt)]=Da x:=(KP x).symm
attribute [simp] b6E d9Y d7L c9K d7M d5O
theorem c9L(x:Ey):Do x=.agg [Lf (x.map Da)]:=rfl
theorem d5P(x:Ey):(Do x).cells=[Lf (x.map Da)]:=rfl
theorem e19(x:Ey):cp (Do x)=some (Do x):=rfl
theorem d9Z(x:Ey):tkv (Do x)=some (Do x,false):=rfl
theorem d1F(x:Ey):Hj (Do x)=some (Do x).cells:=rfl
theorem d90(x:Ey):dem (Do x)=Do x:=rfl
theorem d7N(x:Ey):F9 (Do x)=Do x:=rfl
theorem c7G(x:Ey):PV.agg [Lf (x.map Da)]=Do x:=rfl
attribute [simp] d5P e19 d9Z d1F d90 d7N c7G
structure Node where
 name:Str
 ins:DsT
 outs:DsT
 locals:DsT
 eqs:List Eqn
 autos:List (List State)
 assume:List Expr
 ensure:List Expr deriving Inhabited
def CY(x:Node):PV:=.agg [.str x.name,Lf (x.ins.map CL),Lf (x.outs.map CL),Lf (x.locals.map CL),Lf (x.eqs.map C1),Lf (x.autos.map Do),Lf (x.assume.map CK),Lf (x.ensure.map CK)]
theorem NO(x:Node):CY x=.agg [.str x.name,Lf (x.ins.map CL),Lf (x.outs.map CL),Lf (x.locals.map CL),Lf (x.eqs.map C1),Lf (x.autos.map Do),Lf (x.assume.map CK),Lf (x.ensure.map CK)]:=rfl
theorem d5Q(x:Node):(CY x).cells=[.str x.name,Lf (x.ins.map CL),Lf (x.outs.map CL),Lf (x.locals.map CL),Lf (x.eqs.map C1),Lf (x.autos.map Do),Lf (x.assume.map CK),Lf (x.ensure.map CK)]:=rfl
theorem e2a(x:Node):cp (CY x)=some (CY x):=rfl
theorem d91(x:Node):tkv (CY x)=some (CY x,false):=rfl
theorem d1G(x:Node):Hj (CY x)=some (CY x).cells:=rfl
theorem d92(x:Node):dem (CY x)=CY x:=rfl
theorem d7O(x:Node):F9 (CY x)=CY x:=rfl
theorem Qr(x:Node):PV.agg [.str x.name,Lf (x.ins.map CL),Lf (x.outs.map CL),Lf (x.locals.map CL),Lf (x.eqs.map C1),Lf (x.autos.map Do),Lf (x.assume.map CK),Lf (x.ensure.map CK)]=CY x:=rfl
attribute [simp] d5Q e2a d91 d1G d92 d7O Qr
@[simp] theorem d93(l:List Node):DN 8 (l.map CY)=true:=by cases l<;>simp
structure Prog where
 enums:List Enum
 nodes:List Node deriving Inhabited
def Dy(x:Prog):PV:=.agg [Lf (x.enums.map C6),Lf (x.nodes.map CY)]
theorem Ua(x:Prog):Dy x=.agg [Lf (x.enums.map C6),Lf (x.nodes.map CY)]:=rfl
theorem d5R(x:Prog):(Dy x).cells=[Lf (x.enums.map C6),Lf (x.nodes.map CY)]:=rfl
theorem e2b(x:Prog):cp (Dy x)=some (Dy x):=rfl
theorem d94(x:Prog):tkv (Dy x)=some (Dy x,false):=rfl
theorem d1H(x:Prog):Hj (Dy x)=some (Dy x).cells:=rfl
theorem d95(x:Prog):dem (Dy x)=Dy x:=rfl
theorem b98(x:Prog):PV.agg [Lf (x.enums.map C6),Lf (x.nodes.map CY)]=Dy x:=rfl
theorem d7P(h:HsT)(x:Prog):HS h (Dy x)=some (Dy x):=by rfl
attribute [simp] d5R e2b d94 d1H d95 b98 d7P
mutual theorem b8f:∀x:Expr,Dn (CK x)=true|.mk k o t v n az=>by simp[CK,b8g az]theorem b8g:∀l:List Expr,Dd (MT l)=true|[]=>rfl|x::xs=>by simp_all[MT,b8f,b8g]end
@[simp] theorem c7H(x:Expr):Dn (CK x)=true:=b8f x
@[simp] theorem d96(l:List Expr):Dd (l.map CK)=true:=Ir c7H l
@[simp] theorem d2K(x:On):Dn (eOn x)=true:=rfl
@[simp] theorem e3N(l:List On):Dd (l.map eOn)=true:=Ir d2K l
@[simp] theorem c7I(x:Decl):Dn (CL x)=true:=by rw[Xd];simp[-c7D]
@[simp] theorem d97(l:DsT):Dd (l.map CL)=true:=Ir c7I l
@[simp] theorem c7J(x:Enum):Dn (C6 x)=true:=by rw[c2w];simp[-c7E]
@[simp] theorem d98(l:List Enum):Dd (l.map C6)=true:=Ir c7J l
@[simp] theorem c9M(x:Eqn):Dn (C1 x)=true:=by rw[QA];simp[-c9I]
@[simp] theorem e2c(l:List Eqn):Dd (l.map C1)=true:=Ir c9M l
@[simp] theorem c9N(x:Trn):Dn (Dt x)=true:=by rw[QB];simp[-c9J]
@[simp] theorem e2d(l:List Trn):Dd (l.map Dt)=true:=Ir c9N l
mutual theorem b6F:∀x:State,Dn (Da x)=true|.mk n l e a u w=>by simp[Da,b8h a]theorem b6G:∀l:List State,Dd (MV l)=true|[]=>rfl|x::xs=>by simp_all[MV,b6F,b6G]theorem b8h:∀l:List (List State),Dd (MU l)=true|[]=>rfl|x::xs=>by simp_all[MU,b6G,b8h]end
@[simp] theorem c48(x:State):Dn (Da x)=true:=b6F x
@[simp] theorem c7K{l:List State}:Dd (l.map Da)=true:=Ir c48 l
@[simp] theorem c7L(x:Ey):Dn (Do x)=true:=by simp[c9L,-c7G]
@[simp] theorem d99(l:List Ey):Dd (l.map Do)=true:=Ir c7L l
@[simp] theorem c7M(x:Node):Dn (CY x)=true:=by rw[NO];simp[-Qr]
@[simp] theorem e0a(l:List Node):Dd (l.map CY)=true:=Ir c7M l
@[simp] theorem d7Q(x:Prog):Dn (Dy x)=true:=by rw[Ua];simp[-b98]
end Sc
end PI
namespace PI.Sc
open Go(IntKind BinOp UnOp)
variable {a:List Enum}{b:Type}{k:Nat}{t:Int}
abbrev DK(n:Int):Prop:=-9223372036854775808<=n/\n<=9223372036854775807
def C4(f:b->Int):List b->Int|[]=>0|x::a=>if f x=0 then C4 f a else f x
theorem G6{f:b->Int}:∀{l:List b},C4 f l=0↔∀x∈l,f x=0|[]=>by simp[C4]|x::a=>by unfold C4;by_cases h:f x=0;{simp[h,G6]};simp[h]
theorem c0p{f:b->Int}:∀{l:List b}{i:Nat}(hi:i<l.length),f l[i]≠0->(∀k(a:k<i),f (l[k]'(by omega))=0)->C4 f l=f l[i]|[],i,hi,_,_=>by simp at hi|x::d,0,hi,h,_=>by simp at h;simp[C4,h]|x::d,i+1,hi,h,a=>by have c:=a 0 (by omega);simp at c;simp at h;simp[C4,c];exact c0p (by grind) h (by grind)
theorem b4b{f:b->Int}:∀(a c:List b),C4 f (a++c)=if C4 f a=0 then C4 f c else C4 f a|[],c=>by simp[C4]|x::a,c=>by simp[C4,b4b a c];by_cases h:f x=0;{simp[h]};simp[h]
def C0(a b:Int):Int:=if a=0 then b else a
@[simp] theorem GF(b:Int):C0 0 b=b:=rfl
theorem IY{a:Int}(h:a≠0):C0 a t=a:=ak h
theorem ER{b:Int}:C0 t b=0↔t=0/\b=0:=by unfold C0;split<;>simp_all
def need(b:Bool)(e:Int):Int:=if b then 0 else e
@[simp] theorem e0t(e:Int):need true e=0:=rfl
@[simp] theorem O0(e:Int):need false e=e:=rfl
def L1(b:Int):Bool:=decide (97<=b/\b<=122\/65<=b/\b<=90)
def OT(b:Int):Bool:=decide (48<=b/\b<=57)
def FO(b:Int):Bool:=L1 b||OT b||decide (b=95)
def c6N:SsT:=[[97,115,115,117,109,101],[97,110,100],[97,117,116,111,109,97,116,111,110],[98,111,111,108],[99,111,110,116,105,110,117,101],[100,111],[100,111,110,101],[101,108,115,101],[101,110,100],[101,110,115,117,114,101],[101,118,101,114,121],[102,97,108,115,101],[102,98,121],[105,102],[105,110,116],[108,101,116],[109,101,114,103,101],[109,111,100],[110,111,100,101],[110,111,116],[111,114],[112,114,101],[114,101,116,117,114,110,115],[115,116,97,116,101],[116,101,108],[116,104,101,110],[116,114,117,101],[116,121,112,101],[117,110,108,101,115,115],[117,110,116,105,108],[118,97,114],[119,104,101,110],[120,111,114]]
def RE(s:Str):Bool:=decide (s∈c6N)
def HW(s:Str):Bool:=decide (s≠[]/\s.length<=40)&&L1 (s.headD 0).toNat&&s.all (λb=>FO b.toNat)&&!RE s
def JS(a:List Enum)(t:Int):Option Enum:=if 3<=t then a[(t-3).toNat]? else none
theorem d0s(h:t<3):JS a t=none:=by unfold JS;rw[ak (by omega)]
theorem d0t(h:k<a.length):JS a (k+3)=some a[k]:=by unfold JS;rw[aj (by omega)];simp[show(k:Int)+3-3=k by omega,h]
theorem c79(h:a.length<=k):JS a (k+3)=none:=by unfold JS;rw[aj (by omega)];simp[show(k:Int)+3-3=k by omega,h]
theorem d3h(c:Int):c<3\/∃k:Nat,c=k+3:=by by_cases h:c<3;{exact .inl h};exact .inr ⟨(c-3).toNat,by omega⟩
def EM(a:List Enum)(t:Int):Nat:=if t=1 then 2 else if t=2 then 65536 else((JS a t).map (·.tags.length)).getD 0
def Ks(a:List Enum)(t v:Int):Bool:=if t=2 then decide (-32768<=v/\v<=32767)else decide (0<=v/\v<EM a t)
mutual def Expr.list:Expr->List Expr|.mk k o t v n az=>.mk k o t v n az::L7 az def L7:List Expr->List Expr|[]=>[]|x::xs=>x.list++L7 xs end
theorem c6O:∀l:List Expr,L7 l=l.flatMap Expr.list|[]=>by simp[L7]|x::a=>by simp[L7,c6O a]
theorem Expr.list_eq(e:Expr):e.list=e::e.args.flatMap Expr.list:=by cases e;simp[Expr.list,c6O]
abbrev wrap(n:Int):Int:=IntKind.i64.wrap n
def Expr.size(e:Expr):Int:=wrap e.list.length
mutual def Expr.depth:Expr->Int|.mk k o t v n az=>wrap (O5 0 az+1)def O5(m:Int):List Expr->Int|[]=>m|x::xs=>O5 (if x.depth>m then x.depth else m) xs end
theorem c3a:∀(l:List Expr)(m:Int),O5 m l=l.foldl (λm x=>if x.depth>m then x.depth else m) m|[],m=>by simp[O5]|x::a,m=>by simp[O5,c3a a]
theorem Expr.depth_eq(e:Expr):e.depth=wrap (e.args.foldl (λm x=>if x.depth>m then x.depth else m) 0+1):=by cases e;simp[Expr.depth,c3a]
theorem Expr.ind{P:Expr->Prop}(h:∀e:Expr,(∀x∈e.args,P x)->P e):∀e,P e:=by intro e;refine Expr.rec (motive_2:=λl=>∀x∈l,P x) ?_ ?_ ?_ e;{intro k o t v n g b;exact h _ b};{simp};intro x d c f y a;rcases ay.1 a with rfl|a;{exact c};exact f y a
def FG(b:UInt8):Bool:=b==48||b==49
def ID(s:Str)(a:Nat):Str:=(s.drop a).takeWhile FG
def L2(s:Str):Bool:=let n:=(ID s 0).length;let m:=(ID s (n+1)).length;decide (s.length<=66/\s[n]?=some 40/\n+m+2=s.length/\s[n+m+1]?=some 41/\m≠0/\n+m<=64)
def named(k:Int):Bool:=decide (k=2\/k=8\/k=9\/k=10)
def JQ(t v:Int):Bool:=decide (t=1/\(v=0\/v=1)\/3<=t/\0<=v/\v<16)
def KJ(e:Expr):Bool:=let n:Int:=e.args.length;if e.kind=1\/e.kind=2\/e.kind=11 then decide (n=0)else if e.kind=3 then decide (n=if e.op=1\/e.op=2 then 1 else 2)else if e.kind=4 then decide (n=3)else if e.kind=5\/e.kind=8 then decide (n=1)else if e.kind=6\/e.kind=7 then decide (n=2)else if e.kind=9 then(if e.t=1 then decide (n=2)else decide (3<=e.t/\1<=n/\n<=16))else decide (e.kind=10/\(e.v=0\/e.v=1/\1<=n))
def XD(e:Expr):Bool:=if e.kind=1 then(if e.t=2 then decide (-32768<=e.v/\e.v<=32767)else JQ e.t e.v)else if e.kind=8 then JQ e.t e.v else if e.kind=9 then decide ((e.t=1\/3<=e.t)/\e.v=0)else if e.kind=10 then decide (e.t=0/\(e.v=0\/e.v=1))else decide (e.t=0/\e.v=0)
def OU(e:Expr):Bool:=if e.kind=3 then decide (1<=e.op/\e.op<=16)else decide (e.op=0)
def XC(e:Expr):Bool:=named e.kind||(if e.kind=11 then L2 e.name else decide (e.name=[]))
def NX(e:Expr):Bool:=decide (1<=e.kind/\e.kind<=11)&&KJ e&&XD e&&OU e&&XC e
def Kh(e:Expr):Int:=C0 (need (decide (e.args.length<=64)) 3) (C0 (need (NX e) 5) (need (!named e.kind||HW e.name) 6))
def Mt(e:Expr):Int:=C0 (need (decide (e.size<=400/\e.depth<=32)) 3) (C4 Kh e.list)
def L3(e:Expr):Bool:=e.list.all λx=>!decide (x.kind=5\/x.kind=6\/x.kind=7\/x.kind=10\/x.kind=11)
def IX(a:List Enum)(e:Expr):Int:=if e.kind=1\/e.kind=8 then C0 (need (decide (0<EM a e.t)) 10) (need (Ks a e.t e.v) 14)else if e.kind=9 then C0 (need (decide (0<EM a e.t)) 10) (need (decide (e.args.length=EM a e.t)) 9)else 0
def Ho(a:List Enum)(e:Expr):Int:=C0 (Mt e) (C4 (IX a) e.list)
def Gj(s:Str):Int:=need (HW s) 6
def IE(a:List Enum)(o:On):Int:=C0 (Gj o.name) (need (decide (o.t≠2)&&Ks a o.t o.tag) 5)
def Fq(b:List Enum)(a:Bool)(d:Decl):Int:=C0 (Gj d.name) (C0 (need (decide (0<EM b d.type)) 10) (C0 (need (!a||decide (d.clock=[])) 11) (C0 (need (decide (d.clock.length<=4)) 3) (C4 (IE b) d.clock))))
def GQ(a:List Enum)(q:Eqn):Int:=C0 (need (decide (q.left≠[])) 8) (C0 (need (decide (q.left.length<=64)) 3) (C0 (C4 Gj q.left) (C0 (Ho a q.right) (need (decide (q.left.length=1\/q.right.kind=10)) 5))))
def Ki(b:List Enum)(n:Nat)(a:Bool)(t:Trn):Int:=C0 (need (decide (0<=t.to/\t.to<n)) 14) (C0 (Ho b t.cond) (need (!a||L3 t.cond) 5))
def NY(b:List Enum)(n:Nat)(a:Ey->Int)(s:State):Int:=C0 (Gj s.name) (C0 (need (decide (s.locals.length<=256/\s.eqs.length<=256/\s.autos.length<=8/\s.unl.length<=4/\s.til.length<=4)) 3) (C0 (C4 (Fq b false) s.locals) (C0 (C4 (GQ b) s.eqs) (C0 (C4 a s.autos) (C0 (C4 (Ki b n true) s.unl) (C4 (Ki b n false) s.til))))))
def Iu(b:List Enum):Nat->Ey->Int|0,_=>3|d+1,a=>C0 (need (decide (a≠[])) 8) (C0 (need (decide (a.length<=8)) 3) (C4 (NY b a.length (Iu b d)) a))
def L5(u:Enum):Int:=C0 (Gj u.name) (C0 (need (decide (u.tags≠[])) 8) (C0 (need (decide (u.tags.length<=16)) 3) (C4 Gj u.tags)))
def Gd(a:List Enum)(n:Node):Int:=C0 (Gj n.name) (C0 (need (decide (n.ins.length<=64/\n.outs.length<=64/\n.locals.length<=256/\n.eqs.length<=256/\n.autos.length<=8/\n.assume.length<=8/\n.ensure.length<=8)) 3) (C0 (need (decide (n.outs≠[])) 8) (C0 (C4 (Fq a true) n.ins) (C0 (C4 (Fq a true) n.outs) (C4 (Fq a false) n.locals)))))
def Hq(a:List Enum)(n:Node):Int:=C0 (C4 (Iu a 3) n.autos) (C0 (C4 (Ho a) n.assume) (C4 (Ho a) n.ensure))
structure Bad where
 node:Int
 eq:Int
 err:Int deriving DecidableEq,Inhabited
def LA:Bad:=⟨0,0,0⟩
def GD(f:b->Int):List b->Nat->Option (Nat×Int)|[],_=>none|x::a,i=>if f x=0 then GD f a (i+1)else some (i,f x)
def Ez(a:List Enum)(n:Node)(i:Nat):Option Bad:=if Gd a n≠0 then some ⟨i,-1,Gd a n⟩else match GD (GQ a) n.eqs 0 with|some (k,e)=>some ⟨i,k,e⟩|none=>if Hq a n≠0 then some ⟨i,-1,Hq a n⟩else none
def Fz(a:List Enum):List Node->Nat->Option Bad|[],_=>none|n::ns,i=>match Ez a n i with|some b=>some b|none=>Fz a ns (i+1)
def Ga(p:Prog):Option Bad:=if¬(p.enums.length<=24/\p.nodes.length<=96)then some ⟨-1,-1,3⟩else if C4 L5 p.enums≠0 then some ⟨-1,-1,C4 L5 p.enums⟩else Fz p.enums p.nodes 0
def FW(b:Option Bad):Bad:=b.getD LA
theorem OR(c:Int)(h:HsT):CH L 142 [.int .u8 c] h=some (.bool (L1 c),h):=by refine CO ?_;by_cases h1:97<=c<;>by_cases h2:c<=122<;>by_cases h3:65<=c<;>by_cases h4:c<=90<;>simp[Wh,L1,h1,h2,h3,h4]<;>omega
theorem c2Z(c:Int)(h:HsT):CH L 162 [.int .u8 c] h=some (.bool (OT c),h):=by refine CO ?_;by_cases h1:48<=c<;>by_cases h2:c<=57<;>simp[Wo,OT,h1]
theorem c20(c:Int)(h:HsT):CH L 144 [.int .u8 c] h=some (.bool (FO c),h):=by refine CO ?_;by_cases h3:c=95;{subst h3;cases a:L1 95<;>cases h2:OT 95<;>simp[Rj,OR,c2Z,FO,a,h2]};cases a:L1 c<;>cases h2:OT c<;>simp[Rj,OR,c2Z,FO,a,h2,h3]
theorem b8w(s:Str)(h:HsT):CH L 143 [.str s] h=some (.bool (RE s),h):=by refine CO ?_;simp[Wi];(repeat' split);all_goals simp_all[RE,c6N]
theorem list_eq{c:Type}{a b:List c}(d:a.length=b.length)(h:∀k,k<a.length->a[k]?=b[k]?):a=b:=by apply ej;intro k;by_cases hk:k<a.length;{exact h k hk};rw[List.getElem?_eq_none (by omega),List.getElem?_eq_none (by omega)]
theorem d4m{l:List b}{p:b->Bool}(h:∀k(a:k<l.length),p l[k]=true):l.all p=true:=by rw[bu];intro x c;obtain⟨k,a,rfl⟩:=dn.1 c;exact h k a
theorem c97{l:List b}{p:b->Bool}(a:k<l.length)(h:p l[k]=false):l.all p=false:=by rw[Bool.eq_false_iff];intro e;have:=bu.1 e _ (ah a);rw[h]at this;simp at this
theorem c21(s:Str)(h:HsT):CH L 118 [.str s] h=some (.bool (HW s),h):=by refine CO ?_;cases s with|nil=>simp[LQ,HW]|cons c r=>by_cases fI:(c::r).length<=40;{(have d:¬(40:Int)<(r.length:Int)+1:=by simp at fI;omega);cases f:L1 c.toNat with|false=>simp[LQ,HW,d,OR,f]|true=>cases e:RE (c::r)with|true=>simp[LQ,HW,d,OR,b8w,f,e]|false=>(have g:HW (c::r)=(c::r).all (λb=>FO b.toNat):=by simp[HW,f,e];omega);simp[LQ,d,OR,b8w,f,e];generalize hs:c::r=s at*;(have k:(r.length:Int)+1=(s.length:Int):=by rw[<-hs];simp);rw[k];refine d3V s.length (λi=>FO (s.getD i 0).toNat) (λi(x:PV)=>[(2,x),(4,.int _ i)]) (λ_ _=>h) ?_ ?_ ?_ rfl rfl;{intro i hi a x l;have j:=CN i (by omega);simp[hi,List.getD]at a;simp[hi,j,c20,a];exact l _};{intro i hi a e x;have m:=c97 (p:=λb:UInt8=>FO b.toNat) hi (by grind);simp[hi,List.getD]at a;simp[hi,c20,a,g,m]};intro a x;have m:s.all (λb=>FO b.toNat)=true:=d4m (by grind);simp[g,m]};(have d:(40:Int)<(r.length:Int)+1:=by simp at fI;omega);simp[LQ,HW,d];omega
@[simp] theorem e2f:PV.agg [.str [],Lf []]=C6 ⟨[],[]⟩:=rfl
theorem d6b(v:Int)(h:HsT):CH L 146 [I6 v] h=some (.bool (decide (-32768<=v/\v<=32767)),h):=by refine CO ?_;by_cases h1:-32768<=v<;>by_cases h2:v<=32767<;>simp[Wj,h1]
section
variable (f:List Enum)(g:Int)
include f g
theorem c74(e:DK g)(o:Bool)(h:HsT):CH L 145 [.list o (f.map C6),I6 g] h=some (.tuple [C6 ((JS f g).getD ⟨[],[]⟩),.bool (JS f g).isSome],h):=by
 refine CO ?_;rcases d3h g with b|⟨k,rfl⟩;{simp[Oy,b,d0s b]}
 have d:IntKind.i64.wrap (k:Int)=k:=by rw[Kg]<;>omega
 have b:¬(k:Int)+3<3:=by omega
 by_cases hk:k<f.length;{(have c:¬(f.length:Int)<=k:=by omega);simp[Oy,b,d,hk,d0t hk]}
 have c:(f.length:Int)<=k:=by omega
 simp[Oy,b,d,c,c79 (show f.length<=k by omega)]
theorem RG(b:DK g)(o:Bool)(h:HsT):CH L 119 [.list o (f.map C6),I6 g] h=some (I6 (EM f g),h):=by refine CO ?_;by_cases h1:g=1;{subst h1;simp[Ot,EM]};by_cases h2:g=2;{subst h2;simp[Ot,EM]};have:=c74 f g b false [];cases c:JS f g<;>simp[Ot,EM,h1,h2,this,c]
theorem OW(v:Int)(b:DK g)(o:Bool)(h:HsT):CH L 120 [.list o (f.map C6),I6 g,I6 v] h=some (.bool (Ks f g v),h):=by refine CO ?_;by_cases h2:g=2;{subst h2;simp[Ou,Ks,d6b]};by_cases h0:0<=v;{simp[Ou,Ks,h2,h0,RG f g b false _]};simp[Ou,Ks,h2,h0]
end
end PI.Sc
namespace PI
open Go(IntKind BinOp UnOp)
variable {V l:VsT}{g k:Nat}{h:HsT}{L:LsT}{r:Out×HsT}{c:List PX}
def YE(b:St):Option (Out×HsT)->Option (PExit×St)|some (.val _,a)=>(match a[b.heap.length]? with|some (.loop true)=>some (.normal,{b with heap:=a.set b.heap.length .gone})|some (.over (some id))=>some (.exit id,{b with heap:=a.set b.heap.length .gone})|some (.over none)=>some (.ret,{b with heap:=a.set b.heap.length .gone})|_=>none)|some (.boom v,a)=>some (.boom v,{b with heap:=a})|none=>none
theorem c8l {x:PX}{kb:Nat}{a:St}{j:VsT}(m:rd a x=some (.func k V l))(e:rdAll a c=some j)(b:Iz L k=true):evL L (.rangeF x kb c) a=YE a (Df L k (V++.func kb (.ptr a.heap.length 0::j) []::l) (a.heap++[.loop true])):=by refine I3 λr=>?_;rw[JZ];simp[CV,m,e,b];constructor;{rintro⟨n,h⟩;split at h;(next d=>have i:Df L k _ _=_:=Mh.2 ⟨n,d⟩;rw[i];exact h);(next d=>have i:Df L k _ _=_:=Mh.2 ⟨n,d⟩;rw[i];exact h);simp at h};intro h;cases ho:Df L k _ _ with|none=>rw[ho]at h;simp[YE]at h|some p=>obtain⟨n,b⟩:=Mh.1 ho;refine⟨n,?_⟩;rw[ho]at h;have f:Ek _ L k _ _=some p:=b;rw[f];obtain⟨o,g⟩:=p;cases o<;>exact h
def Io(V l:VsT)(g n:Nat)(Q:QsT):Out×HsT->Prop|(.val _,a)=>(match a[n]? with|some (.loop true)=>Q .normal ⟨V,l,g,a.set n .gone⟩|some (.over (some id))=>Q (.exit id) ⟨V,l,g,a.set n .gone⟩|some (.over none)=>Q .ret ⟨V,l,g,a.set n .gone⟩|_=>False)|(.boom v,a)=>Q (.boom v) ⟨V,l,g,a⟩
theorem c8m {Q:QsT}{x:PX}{kb:Nat}{b a m:VsT}(n:rd ⟨V,l,g,h⟩ x=some (.func k b a))(f:rdAll ⟨V,l,g,h⟩ c=some m)(p:Iz L k=true)(q:Df L k (b++.func kb (.ptr h.length 0::m) []::a) (h++[.loop true])=some r)(d:Io V l g h.length Q r):wpL L (.rangeF x kb c) ⟨V,l,g,h⟩ Q:=by have e:=c8l (kb:=kb) n f p;simp at e;rw[q]at e;obtain⟨o,j⟩:=r;unfold wpL;rw[e];cases o with|boom v=>exact d|val v=>simp[Io]at d;simp[YE];(split at d<;>first|exact d.elim|skip);all_goals(rename_i i;simp;exact d)
def PA(n:Nat)(r:Out×HsT):QsT|.normal,st=>st.heap[n]?=some (.loop false)/\r=(.val (.bool true),st.heap.set n (.loop true))|.boom v,st=>r=(.boom v,st.heap)|.exit id,st=>st.heap[n]?=some (.loop false)/\r=(.val (.bool false),st.heap.set n (.over (some id)))|.ret,st=>st.heap[n]?=some (.loop false)/\r=(.val (.bool false),st.heap.set n (.over none))|.after ..,_=>False
theorem d3w (n:Nat)(r:Out×HsT):PA n r .normal ⟨V,l,g,h⟩=(h[n]?=some (.loop false)/\r=(.val (.bool true),h.set n (.loop true))):=rfl
theorem d6I (n:Nat)(r:Out×HsT)(v:PV):PA n r (.boom v) ⟨V,l,g,h⟩=(r=(.boom v,h)):=rfl
theorem d7V (n:Nat)(r:Out×HsT):PA n r .ret ⟨V,l,g,h⟩=(h[n]?=some (.loop false)/\r=(.val (.bool false),h.set n (.over none))):=rfl
attribute [simp] d3w d6I d7V
def d4w(L:LsT)(b:PC)(n:Nat)(r:Out×HsT):QsT|.normal,st=>st.heap[n]?=some (.loop true)/\wpL L b {st with heap:=st.heap.set n (.loop false)} (PA n r)|_,_=>False
@[simp] theorem d3x (b:PC)(n:Nat)(r:Out×HsT):d4w L b n r .normal ⟨V,l,g,h⟩=(h[n]?=some (.loop true)/\wpL L b ⟨V,l,g,h.set n (.loop false)⟩ (PA n r)):=rfl
theorem GM {f:PFunc}{a b:PC}{az:VsT}(x:L k=some f)(j:f.code=.round a b)(t:az.length+1=f.params)(y:h[g]?=some (.loop true))(n:wpL L a ⟨az.map dem++List.replicate (f.nv-az.length) .dead,[],0,h⟩ (d4w L b g r))(z:f.split=false:=by rfl)(o:f.prim=none:=by rfl):Df L k (.ptr g 0::az) h=some r:=by refine d1f x (by grind) ?_ z o;unfold FZ;rw[j];simp[JF,y];rw[IN]at n;obtain⟨e,A,s,u⟩:=n;rw[s];cases e with|normal=>(obtain⟨l,w⟩:=u;rw[IN]at w;obtain⟨e2,p,m,c⟩:=w;simp[l,m];cases e2 with|normal=>obtain⟨d,rfl⟩:=c;simp[d]|boom v=>cases c;rfl|exit id=>obtain⟨d,rfl⟩:=c;simp[d]|ret=>obtain⟨d,rfl⟩:=c;simp[d]|after q i v=>exact c.elim)|exit id=>exact u.elim|ret=>exact u.elim|boom v=>exact u.elim|after q i v=>exact u.elim
end PI
