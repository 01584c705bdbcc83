import Derived.Test.YtljbhgpanekomaaGreatPiFunc
import Derived.ProofKit
import Derived.Deep.Slices
import Derived.SizedLaws
import Derived.KernelRfl
import Derived.Test.YtljbhgpanekomaaGreatPiBase
import Derived.Lib.Join
import Derived.Lib.ItoaNum
import Derived.Lib.AtoiAll
import Derived.Lib.Bytealg
import Derived.Test.YtljbhgpanekomaaGreatPiSoundN
import Derived.RecoverIn
set_option maxHeartbeats 1000000
set_option linter.unusedSimpArgs false
set_option linter.unusedVariables false
set_option linter.unusedSectionVars false
namespace PI
open Go Go.RowKit
inductive TyD where|bool|int(k:IntKind)|str|slice(e b:Nat)|struct(fs:List Nat)deriving DecidableEq,Inhabited
inductive Sh(D:Nat->TyD):Nat->PV->Prop where|bool(i:Nat)(b:Bool)(h:D i=.bool):Sh D i (.bool b)|int(i:Nat)(k:IntKind)(n:Int)(h:D i=.int k)(h1:k.min<=n)(h2:n<=k.max):Sh D i (.int k n)|str(i:Nat)(s:List UInt8)(h:D i=.str)(hl:s.length<=9223372036854775807):Sh D i (.str s)|slice(i e b:Nat)(es:List PV)(h:D i=.slice e b)(hl:es.length<=9223372036854775807)(hb:es.length*b<=140737488351232)(hs:∀x∈es,Sh D e x):Sh D i (.list false es)|struct(i:Nat)(fs:List Nat)(ps:List PV)(h:D i=.struct fs)(hl:ps.length=fs.length)(hs:∀(j f:Nat)(p:PV),fs[j]?=some f->ps[j]?=some p->Sh D f p):Sh D i (.agg (ps.flatMap PV.cells))
def HX(P:Program)(tm:Nat->TypeId)(n:Nat):List Nat->List Field->Nat->Bool|[],[],_=>true|f::a,g::gs,off=>decide (f<n)&&(g.type==tm f)&&(g.offset==off)&&HX P tm n a gs (off+P.cellsOf g.type)|_,_,_=>false
def MK(P:Program):List Field->Nat|[]=>0|g::gs=>P.cellsOf g.type+MK P gs
def IL(P:Program)(D:Nat->TyD)(tm:Nat->TypeId)(n i:Nat):Bool:=match D i,P.underlying (tm i)with|.bool,some .bool=>P.cellsOf (tm i)==1|.int k,some (.int d)=>k==d&&P.cellsOf (tm i)==1|.str,some .string=>P.cellsOf (tm i)==1|.slice e b,some (.slice t)=>decide (e<n)&&t==tm e&&P.cellsOf (tm i)==1&&P.cellsOf (tm e)!=0&&P.bytesOf (tm e)==b|.struct c,some (.struct gs)=>HX P tm n c gs.toList 0&&P.cellsOf (tm i)==MK P gs.toList|_,_=>false
mutual def wt:PV->Nat|.str s=>s.length+1|.list _ es=>wts es+1|.agg cs=>wts cs+1|_=>1 def wts:List PV->Nat|[]=>0|v::vs=>wt v+wts vs end
mutual def D5{H:Type}:DataW H->Nat|.lit (.string bytes)=>bytes.length+1|.lit _=>1|.nil=>1|.ptr d=>D5 d+1|.slice elems spare=>GQ elems+GQ spare+1|.agg parts=>GQ parts+1|.iface _ d=>D5 d+1|.map entries=>Nj entries+1|.held _=>1 def GQ{H:Type}:List (DataW H)->Nat|[]=>0|d::r=>D5 d+GQ r def Nj{H:Type}:List (Lit×DataW H)->Nat|[]=>0|x::r=>Qa x+Nj r def Qa{H:Type}:Lit×DataW H->Nat|(.string bytes,d)=>bytes.length+D5 d+1|(_,d)=>D5 d+1 end
theorem Zv:∀(a b:List PV),wts (a++b)=wts a+wts b|[],b=>by simp[wts]|x::a,b=>by simp only[bl,wts,Zv a b];omega
theorem c7v(p:PV):wts p.cells<=wt p:=by cases p<;>simp[PV.cells,wts,wt]
theorem Zw:∀ps:List PV,wts (ps.flatMap PV.cells)<=wts ps|[]=>by simp[wts]|p::ps=>by have:=c7v p;have:=Zw ps;simp only[bj,Zv,wts];omega
theorem TU{H:Type}:∀(es:List PV)(a:List (DataW H)),es.length=a.length->(∀(k:Nat)(e:PV)(d:DataW H),es[k]?=some e->a[k]?=some d->wt e<=D5 d)->wts es<=GQ a|[],[],_,_=>by simp[wts]|e::es,d::a,b,h=>by have i:=h 0 e d rfl rfl;have h2:=TU es a (by simpa using b) (λk c g f hd=>h (k+1) c g (by simpa using f) (by simpa using hd));simp only[wts,GQ];omega
section
variable{H:Type}{enc:TypeId×Value->H}{P:Program}{w:World}{base:Nat}{spare:Nat->Bool}{held:Bool}{N:Nm}{D:Nat->TyD}{tm:Nat->TypeId}
def Gs(w:World):Nat->Nat->Prop:=λb o=>(w.cell? ⟨b,o,none⟩).isSome=true
theorem Zx{a:Addr}{n:Nat}{cs:List Value}(h:w.cells? base a n=some cs):cs.length=n/\∀(j:Nat)(v:Value),cs[j]?=some v->w.cell? (a.add j)=some v:=by obtain⟨d,h2,b⟩:=World.cells?_some h;refine⟨h2,?_⟩;intro j v hv;(have c:j<n:=by have:=(aj.1 hv).1;omega);rw[b j c];exact hv
theorem Zy(P:Program):∀{fs:List Nat}{gs:List Field}{n off:Nat},HX P tm n fs gs off=true->fs.length=gs.length|[],[],_,_,_=>rfl|f::fs,g::gs,n,off,h=>by simp only[HX,ar]at h;simp[Zy P h.2]|[],_::_,_,_,h=>by simp[HX]at h|_::_,[],_,_,h=>by simp[HX]at h
theorem Zz{fix:Nat->Nat->Prop}{hp:Nat->Option Nat}{cs:List Value}{n:Nat}:∀{Q:Nat->PV->Prop}{fs:List Nat}{gs:List Field}{off:Nat},HX P tm n fs gs off=true->cs.length=off+MK P gs->(∀(j:Nat)(f:Nat)(g:Field),fs[j]?=some f->gs[j]?=some g->f<n->g.type=tm f->∃p,(Sh D f p/\Q j p)/\CellsR N w fix hp ((cs.drop g.offset).take (P.cellsOf g.type)) p.cells/\((cs.drop g.offset).take (P.cellsOf g.type)).length=P.cellsOf g.type)->∃ps:List PV,ps.length=fs.length/\(∀(j f:Nat)(p:PV),fs[j]?=some f->ps[j]?=some p->Sh D f p/\Q j p)/\CellsR N w fix hp (cs.drop off) (ps.flatMap PV.cells)|Q,[],[],off,_,a,_=>⟨[],rfl,by simp,by have:cs.drop off=[]:=db (by simp[MK]at a;omega);rw[this];exact⟨rfl,by simp,by simp⟩⟩|Q,f::fs,g::gs,off,h,a,d=>by simp only[HX,ar,am,dx]at h;obtain⟨⟨⟨v,h2⟩,l⟩,o⟩:=h;simp only[MK]at a;obtain⟨ps,s,i,u⟩:=Zz (Q:=λj=>Q (j+1)) o (by omega) (λj b k hf m=>d (j+1) b k (by simpa using hf) (by simpa using m));obtain⟨p,q,e,x⟩:=d 0 f g rfl rfl v h2;refine⟨p::ps,by simp[s],?_,?_⟩;{intro j b t hf c;cases j with|zero=>simp at hf c;subst hf c;exact q|succ j=>exact i j b t (by simpa using hf) (by simpa using c)};simp only[bj];rw[l]at e;(have r:cs.drop off=(cs.drop off).take (P.cellsOf g.type)++cs.drop (off+P.cellsOf g.type):=by rw[<-List.drop_drop,ev]);rw[r];exact e.append u|_,[],_::_,_,h,_,_=>by simp[HX]at h|_,_::_,[],_,h,_,_=>by simp[HX]at h
theorem KN{v:Value}{p:PV}{hp:Nat->Option Nat}{fix:Nat->Nat->Prop}(h:VR N w fix hp v p)(hf:p.flat=true)(b:p.cells=[p]):CellsR N w fix hp [v] p.cells:=by rw[b];refine⟨rfl,by simpa using hf,?_⟩;intro i c x a h2;cases i with|zero=>simp at a h2;subst a h2;exact h|succ i=>simp at a
theorem ZA{e:TypeId}:∀{a:List (DataW H)}{k:Nat}{d:DataW H},a[k]?=some d->(DataW.weightsAll P e a).all (·<=reachBytes)=true->(d.weights P e).all (·<=reachBytes)=true|b::a,0,d,hd,h=>by simp only[List.getElem?_cons_zero,aa]at hd;subst hd;simp only[DataW.weightsAll,eP,ar]at h;exact h.1|b::a,k+1,d,hd,h=>by simp only[fe]at hd;simp only[DataW.weightsAll,eP,ar]at h;exact ZA hd h.2|[],_,_,hd,_=>by simp at hd
theorem c03{ts:List TypeId}{a:List (DataW H)}{j:Nat}{t:TypeId}{d:DataW H}(b:ts[j]?=some t)(hd:a[j]?=some d)(h:(DataW.weightsEach P ts a).all (·<=reachBytes)=true):(d.weights P t).all (·<=reachBytes)=true:=by rw[bz]at h⊢;exactλn hn=>h n (DataW.weights_mem_each b hd n hn)
theorem d2I{n:Nat}{hp:Nat->Option Nat}(hM:∀i,i<n->IL P D tm n i=true):∀(fuel i:Nat)(cs:List Value)(x:DataW H×List MemPlace),i<n->DataW.trod enc P w base spare held fuel (tm i) cs=some x->(x.1.weights P (tm i)).all (·<=reachBytes)=true->∃p,(Sh D i p/\wt p<=D5 x.1)/\cs.length=P.cellsOf (tm i)/\CellsR N w (Gs w) hp cs p.cells:=by intro fuel;induction fuel with|zero=>intro i cs x _ h;simp[DataW.trod]at h|succ fuel ih=>intro i cs x hi h O;have q:=hM i hi;unfold IL at q;split at q;{rename_i hd A;obtain⟨b,rfl,rfl⟩:=DataW.trod_bool A h;simp only[dx]at q;exact⟨.bool b,⟨.bool i b hd,by simp[wt,D5]⟩,by simp[q],KN (.bool b) rfl rfl⟩};{rename_i k k' hd A;obtain⟨m,rfl,rfl,Z⟩:=DataW.trod_int A h;simp only[ar,dx]at q;obtain⟨rfl,q⟩:=q;simp only[Lit.wf,ar,am]at Z;exact⟨.int k m,⟨.int i k m hd Z.1 Z.2,by simp[wt,D5]⟩,by simp[q],KN (.int k m) rfl rfl⟩};{rename_i hd A;obtain⟨s,rfl,rfl,hs⟩:=DataW.trod_string A h;simp only[dx]at q;have hl:s.data.toList.length=s.size:=dQ;exact⟨.str s.data.toList,⟨.str i _ hd (by rw[hl];simpa[maxLen]using hs),by simp[wt,D5]⟩,by simp[q],KN (.str s) rfl rfl⟩};{rename_i e G t hd A;simp only[ar,am,dx,bne_iff_ne,ne_eq]at q;obtain⟨⟨⟨⟨he,rfl⟩,q⟩,li⟩,w9⟩:=q;rcases DataW.trod_slice A h with⟨rfl,rfl⟩|⟨a,len,cap,o,E,m,A0,rfl,rfl,hb,hl,A1,fq,yG,_⟩;{exact⟨.list false [],⟨.slice i e G [] hd (by simp) (by simp) (by simp),by simp[wt,wts,D5]⟩,by simp[q],KN (.nils false) rfl rfl⟩};(have W:m=fuel:=by omega);subst W;by_cases h0:len=0;{subst h0;exact⟨.list false [],⟨.slice i e G [] hd (by simp) (by simp) (by simp),by simp[wt,wts,D5]⟩,by simp[q],KN (.void false a cap) rfl rfl⟩};simp only[DataW.weights,A,List.all_cons,eP,ar,am]at O;obtain⟨A2,xa,_⟩:=O;(have B9:∀k,k<len->∃p c,(Sh D e p/\∀d,o[k]?=some d->wt p<=D5 d.1)/\c.length=P.cellsOf (tm e)/\CellsR N w (Gs w) hp c p.cells/\w.cells? base (a.add (k*P.cellsOf (tm e))) (P.cellsOf (tm e))=some c:=by intro k l;have:=yG k l;rw[al (by omega)]at this;simp only[ak]at this;obtain⟨c,hc,ht⟩:=this;obtain⟨p,u,h2,B⟩:=ih e c _ he ht (ZA (k:=k) (by rw[br,al (by omega)];rfl) xa);refine⟨p,c,⟨u.1,?_⟩,h2,B,hc⟩;intro d C;rw[al (by omega)]at C;cases C;exact u.2);(have xb:∃F:Nat->PV,∀k,k<len->∃c,(Sh D e (F k)/\∀d,o[k]?=some d->wt (F k)<=D5 d.1)/\c.length=P.cellsOf (tm e)/\CellsR N w (Gs w) hp c (F k).cells/\w.cells? base (a.add (k*P.cellsOf (tm e))) (P.cellsOf (tm e))=some c:=by refine⟨λk=>if l:k<len then(B9 k l).choose else .dead,λk l=>?_⟩;simp only[dif_pos l];exact(B9 k l).choose_spec);obtain⟨F,I⟩:=xb;let sz:=P.cellsOf (tm e);let es:List PV:=(List.range len).map F;(have jJ:∀(k:Nat)(y:PV),es[k]?=some y->k<len/\y=F k:=by intro k y r;simp only[es,br,ab]at r;obtain⟨m',mZ,rfl⟩:=r;obtain⟨u,h2⟩:=aj.1 mZ;simp at u h2;exact⟨u,by rw[h2]⟩);(have Y:∀y∈es,∃k,k<len/\y=F k:=by intro y r;obtain⟨k,l⟩:=dr.1 r;exact⟨k,jJ k y l⟩);(have gM:Sh D i (.list false es):=by refine .slice i e G es hd (by simp[es];simp[maxLen]at A1;omega) ?_ ?_;{rw[<-w9,show es.length=len by simp[es]];have u:len*P.bytesOf (tm e)<=((o.map (·.1)).length+(E.map (·.1)).length)*P.bytesOf (tm e):=dz _ (by simp;omega);have h2:reachBytes=140737488351232:=rfl;omega};intro y r;obtain⟨k,l,rfl⟩:=Y y r;obtain⟨_,u,_⟩:=I k l;exact u.1);(have X:wt (.list false es)<=D5 (DataW.slice (o.map (·.1)) (E.map (·.1))):=by have:=TU es (o.map (·.1)) (by simp[es,fq]) (by intro k R d' J C;obtain⟨l,rfl⟩:=jJ k R J;obtain⟨_,u,_⟩:=I k l;simp only[br,ab]at C;obtain⟨dd,h2,rfl⟩:=C;exact u.2 dd h2);simp only[wt,D5];omega);refine⟨.list false es,⟨gM,X⟩,by simp[q],KN ?_ rfl rfl⟩;have hz:sz≠0:=li;(have qT:a.spot=none:=by obtain⟨c,_,h2,_,U⟩:=I 0 (by omega);obtain⟨_,h5⟩:=Zx U;(have L:0<c.length:=by rw[h2];show 0<sz;omega);have:=h5 0 c[0] (al L);have:=World.cell?_spot this;simpa[Addr.add]using this);obtain⟨b,off,aa⟩:=a;simp only at qT;subst qT;(have hcell:∀k j,k<len->j<sz->∃v,w.cell? ⟨b,off+(k*sz+j),none⟩=some v/\∀y,(F k).cells[j]?=some y->VR N w (Gs w) hp v y:=by intro k j l S;obtain⟨c,_,h2,B,U⟩:=I k l;obtain⟨_,h5⟩:=Zx U;(have L:j<c.length:=by rw[h2];exact S);have:=h5 j c[j] (al L);rw[Fz,Fz]at this;refine⟨c[j],by rw[<-eF];exact this,λy r=>B.2.2 j c[j] y (al L) r⟩);let M:Nat->Value:=λk=>(w.cell? ⟨b,off+k,none⟩).getD undef;(have r9:es.length=len:=by simp[es]);refine .list false b off len cap sz es M r9 hl ?_ ?_ ?_ ?_;{intro y r;obtain⟨k,l,rfl⟩:=Y y r;obtain⟨c,_,h2,B,_⟩:=I k l;have:=B.1;omega};{intro y r;obtain⟨k,l,rfl⟩:=Y y r;obtain⟨c,_,h2,B,_⟩:=I k l;exact B.2.1};{intro k l;(have qo:k/sz<len:=by rw[Nat.div_lt_iff_lt_mul (by omega)];exact l);have mc:k%sz<sz:=eo _ (by omega);obtain⟨v,hv,_⟩:=hcell (k/sz) (k%sz) qo mc;(have J:k/sz*sz+k%sz=k:=by rw[Nat.mul_comm];exact Nat.div_add_mod k sz);rw[J]at hv;exact⟨by simp[M,hv],by simp[Gs,hv]⟩};intro k y r j z lG;obtain⟨l,rfl⟩:=jJ k y r;(have S:j<sz:=by obtain⟨c,_,h2,B,_⟩:=I k l;have h6:=(aj.1 lG).1;have:=B.1;show j<P.cellsOf (tm e);omega);obtain⟨v,hv,fF⟩:=hcell k j l S;(have:M (k*sz+j)=v:=by simp[M,hv]);rw[this];exact fF z lG};{rename_i fs gs hd A;simp only[ar,dx]at q;obtain⟨V,m,A0,rfl,fL,yK,kZ⟩:=DataW.trod_struct A h;(have W:m=fuel:=by omega);subst W;simp only[DataW.weights,A]at O;obtain⟨K,p1,p2,p3⟩:=Zz (N:=N) (w:=w) (fix:=Gs w) (hp:=hp) (D:=D) (cs:=cs) (Q:=λj p=>∀d,V[j]?=some d->wt p<=D5 d.1) q.1 (by rw[fL,q.2];simp) (by intro j f g hf hg jA T;(have wI:j<gs.size:=by have:=(aj.1 hg).1;simpa using this);have:=kZ j g (by simpa using hg);rw[al (by omega),T]at this;obtain⟨p,u,h2,B⟩:=ih f _ _ jA this (c03 (j:=j) (by rw[br,hg];simp[T]) (by rw[br,al (by omega)];rfl) O);rw[T];refine⟨p,⟨u.1,?_⟩,B,h2⟩;intro d C;rw[al (by omega)]at C;cases C;exact u.2);have jw:=Zy P q.1;(have X:wt (.agg (K.flatMap PV.cells))<=D5 (DataW.agg (V.map (·.1))):=by have u:=Zw K;have h2:=TU K (V.map (·.1)) (by rw[p1,bp,yK,jw];simp) (by intro k R d' J C;simp only[br,ab]at C;obtain⟨dd,h2,rfl⟩:=C;(have l:k<fs.length:=by have:=(aj.1 J).1;omega);exact(p2 k fs[k] R (al l) J).2 dd h2);simp only[wt,D5];omega);refine⟨.agg (K.flatMap PV.cells),⟨.struct i fs K hd p1 (λj f p hf hp=>(p2 j f p hf hp).1),X⟩,fL,?_⟩;show CellsR N w (Gs w) hp cs (K.flatMap PV.cells);simpa using p3};simp at q
end
end PI
namespace PI
open Go Go.RowKit Go.WideShapes Go.ChangeShapes
section
variable{H:Type}{enc:TypeId×Value->H}{E:Env}{P:Program}{W:World}{base base':Nat}{spare:Nat->Bool}{held:Bool}{N:Nm}{D:Nat->TyD}{tm:Nat->TypeId}
theorem Sh.noOwn{i:Nat}{p:PV}(h:Sh D i p):∀q∈p.cells,∀es,q≠.list true es:=by induction h with|bool i b h=>intro q a es;simp[PV.cells]at a;subst a;simp|int i k n h o h2=>intro q a es;simp[PV.cells]at a;subst a;simp|str i s h c=>intro q a es;simp[PV.cells]at a;subst a;simp|slice i e b es h c hb hs d=>intro q a es;simp[PV.cells]at a;subst a;simp|struct i f l h c hs d=>intro q a es;simp only[PV.cells,el]at a;obtain⟨p,m,a⟩:=a;obtain⟨j,g,rfl⟩:=cd.1 m;exact d j (f[j]'(c▸g)) l[j] (al _) (al _) q a es
theorem Sh.ownNil{i:Nat}{p:PV}(h:Sh D i p)(cs:List Value):OwnNil cs p.cells:=by intro j c es _ a;exact absurd rfl (h.noOwn _ (ay a) es)
theorem d6n{n i:Nat}{r:Reach}{v:Value}{d:DataW H}{p:List MemPlace}(t:∀i,i<n->IL P D tm n i=true)(hi:i<n)(f:Value.okWide P W r base' (tm i) v)(h:DataW.Trod enc P W base spare held (tm i) v d p)(u:(d.weights P (tm i)).all (·<=reachBytes)=true):∃pv,(Sh D i pv/\wt pv<=D5 d)/\VR N W (Gs W) (λ_=>none) v pv:=by obtain⟨j,hf⟩:=h;obtain⟨pv,g,h2,l⟩:=d2I (N:=N) (hp:=λ_=>none) t j i _ _ hi hf u;refine⟨pv,g,?_⟩;have x:=g.1;replace g:=g.1;(have one:∀c:Value,v.cells=#[c]->v=c->pv.cells=[pv]->VR N W (Gs W) (λ_=>none) v pv:=by intro c w hv hp;rw[w,hp]at l;have:=l.2.2 0 c pv rfl rfl;rw[hv];exact this);have a:=t i hi;unfold IL at a;cases g with|bool b hd=>split at a<;>simp_all;obtain⟨q,rfl⟩:=okWide_bool (by assumption) f;exact one _ rfl rfl rfl|int k m hd _ _=>split at a<;>simp_all;obtain⟨q,rfl⟩:=okWide_int (by assumption) f;exact one _ rfl rfl rfl|str s hd _=>split at a<;>simp_all;obtain⟨q,rfl⟩:=okWide_string (by assumption) f;exact one _ rfl rfl rfl|slice e b es hd _ _ _=>split at a<;>simp_all;obtain⟨_,_,_,rfl⟩:=okWide_slice (by assumption) f;exact one _ rfl rfl rfl|struct y z hd _ _=>split at a<;>simp_all;obtain⟨cs,rfl,_⟩:=okWide_struct (by assumption) f;have o:VR N W (Gs W) (λ_=>none) (.agg cs.toList.toArray) _:=CellsR.agg (cs:=cs.toList) l (x.ownNil _);rw[Array.toArray_toList]at o;exact o
theorem c9K{L:Nat->Option PFunc}(y:EnvOk E N)(z:E.P=P)(l:P.follows .mixedOrders=true)(s:∀k c,L k=some c->FnS E N k c)(f:∀t∈N.tabs,W.cell? ⟨t.1,t.2.1,none⟩=some t.2.2)(j:∀r∈N.rows,W.shape? r.1=some r.2){m k:Nat}{args:List PV}{d:List PObj}{vals:Array Value}(w:call L m k args []=some (.bool true,d))(u:vals.size=args.length)(q:∀(i:Nat)(v:Value)(p:PV),vals[i]?=some v->args[i]?=some p->VR N W (Gs W) (λ_=>none) v p):Calls P (N.fn k) vals W λe x=>e=.returned (.bool true)/\Below W.heap.size W x:=by refine(((c5r y z l s m).plain k args _ [] d w).2 W {fix:=Gs W,heap:=λ_=>none,box:=λ_=>none,ow:=λ_=>none} vals ?_ u q).mono ?_;{refine⟨⟨by intro b k h;simp at h,λ_=>rfl⟩,?_,by intro b k h;simp at h,⟨by intro n C h;simp at h,⟨λt g=>⟨by show(W.cell? _).isSome=true;rw[f t g];rfl,f t g⟩,j⟩⟩,by intro n b h;simp at h⟩;intro b o h;unfold Gs at h;obtain⟨v,hv⟩:=Option.isSome_iff_exists.1 h;exact World.block_lt_of_cell? W ⟨b,o,none⟩ hv};rintro e B⟨v,A,rfl,hv,a,_⟩;cases hv;exact⟨rfl,⟨a.os,a.tape,a.output,a.size,λb hb=>a.same b hb rfl⟩⟩
end
end PI
namespace PI
open Go Go.RowKit
def PE(fn:Func)(a:PFunc)(vs:List Tmp):Bool:=decide (a.params<1000)&&decide vs.Nodup&&vs.all (λt=>decide (t<fn.ntmps))&&vs.length==a.nv&&decide (a.params<=a.nv)&&vs.take a.params==List.range a.params
def yOf(fn:Func)(a:FuncId)(j:Nat)(vars:List Tmp):Option YL:=(fn.body.bind λc=>(Dv c)[j]?).map λx=>⟨a,x.1,x.2.1,x.2.2,vars,fn.ntmps⟩
def LpsOK(N:Nm)(fn:Func)(b:FuncId)(a:List (Array Tmp)):List (Array Tmp×Nat×List Tmp)->Prop|[]=>True|x::c=>(∃j,N.yl x.2.1=yOf fn b j x.2.2/\a[j]?=some x.1)/\LpsOK N fn b a c
theorem LpsOK.mem{N:Nm}{fn:Func}{c:FuncId}{b:List (Array Tmp)}:∀{l:List (Array Tmp×Nat×List Tmp)},LpsOK N fn c b l->∀x∈l,∃j,N.yl x.2.1=yOf fn c j x.2.2/\b[j]?=some x.1|[],_,x,a=>by simp at a|y::l,h,x,a=>by rcases a8.1 a with rfl|a;{exact h.1};exact LpsOK.mem h.2 x a
section
variable{E:Env}{N:Nm}{k:Nat}{pf:PFunc}{fn:Func}{fid:FuncId}
theorem Mu(vs:List Tmp)(o:Opts)(a:List (Array Tmp))(hf:E.P.funcs[fid]?=some fn)(h:(fn.body.map (λc=>DP (E.opt o) fn.ntmps vs c),G9 E.P o.kp vs fn.results.toList,PE fn pf vs,fn.body.map λc=>(Dv c).map (·.1))=(some pf.code,some pf.results,true,some a))(hn:fn.name≠ "runtime.NumGoroutine")(m:a.Nodup)(C:LpsOK N fn fid a o.lps)(n:N.fn k=fid:=by rfl)(B:N.yl k=none:=by rfl)(G:pf.code.isRound=false:=by rfl)(hp:pf.prim=none:=by rfl)(hd:pf.defer=none:=by rfl):FnS E N k pf:=by simp only[ae]at h;obtain⟨L,h2,f,b⟩:=h;simp only[PE,ar,am,dx,bz]at f;obtain⟨⟨⟨⟨⟨I,J⟩,x⟩,F⟩,t⟩,w⟩:=f;refine .inl ⟨B,G,I,.inl ⟨hp,hd,fn,vs,by rw[n];exact hf,hn,J,x,F,t,?_,o,L,.inr ?_,h2⟩⟩;{intro i hi;(have:(vs.take pf.params)[i]?=some i:=by rw[w];simp[hi]);rwa[dq,af hi]at this};intro c p H M vars y z v l;obtain⟨j,s,D⟩:=C.mem _ y;rw[p]at b;simp only[bq,aa]at b;subst b;obtain⟨i,hi⟩:=dr.1 v;(have u:i=j:=by(have K:((Dv c).map (·.1))[i]?=some H:=by simp[hi,l]);obtain⟨g,e⟩:=aj.1 K;obtain⟨q,r⟩:=aj.1 D;refine dZ λA=>?_;rcases Nat.lt_or_gt_of_ne A with d|d;{exact List.pairwise_iff_getElem.1 m i j g q d (e.trans r.symm)};exact List.pairwise_iff_getElem.1 m j i q g d (r.trans e.symm));subst u;rw[n];simp only at s;rw[s];simp[yOf,p,hi,l]
theorem fnS(vs:List Tmp)(o:Opts)(hf:E.P.funcs[fid]?=some fn)(h:(fn.body.map (λc=>DP (E.opt o) fn.ntmps vs c),G9 E.P o.kp vs fn.results.toList,PE fn pf vs)=(some pf.code,some pf.results,true):=by kernel_rfl)(hn:fn.name≠ "runtime.NumGoroutine":=by decide)(e:o.lps=[]:=by rfl)(g:N.fn k=fid:=by rfl)(d:N.yl k=none:=by rfl)(j:pf.code.isRound=false:=by rfl)(hp:pf.prim=none:=by rfl)(hd:pf.defer=none:=by rfl):FnS E N k pf:=by simp only[ae]at h;obtain⟨q,h2,a⟩:=h;simp only[PE,ar,am,dx,bz]at a;obtain⟨⟨⟨⟨⟨l,p⟩,n⟩,f⟩,b⟩,m⟩:=a;refine .inl ⟨d,j,l,.inl ⟨hp,hd,fn,vs,by rw[g];exact hf,hn,p,n,f,b,?_,o,q,.inl e,h2⟩⟩;intro i hi;(have:(vs.take pf.params)[i]?=some i:=by rw[m];simp[hi]);rwa[dq,af hi]at this
def d7A(nt:Nat)(pf:PFunc)(vars:List Tmp)(ps:Array Tmp)(vs:List Tmp)(a b:PC):Bool:=a.RO&&b.RO&&decide vs.Nodup&&vs.all (λt=>decide (t<nt))&&vs.length==pf.nv&&pf.params==1+(vars.length+ps.size)&&vs.take (vars.length+ps.size)==vars++ps.toList
theorem rdS(vars vs:List Tmp)(o:Opts)(j:Nat)(ps:Array Tmp){a b:PC}(i:pf.code=.round a b)(hf:E.P.funcs[fid]?=some fn)(h:((fn.body.bind λc=>(Dv c)[j]?).map λz=>(z.1,DP (E.opt o) fn.ntmps vs z.2.1,DP (E.opt o) fn.ntmps vs z.2.2))=some (ps,a,b))(e:d7A fn.ntmps pf vars ps vs a b=true)(hn:fn.name≠ "runtime.NumGoroutine")(q:N.yl k=yOf fn fid j vars:=by rfl)(t:N.fn k=fid:=by rfl)(r:o.lps=[]:=by rfl)(hp:pf.prim=none:=by rfl)(hd:pf.defer=none:=by rfl):FnS E N k pf:=by simp only[ab,ak,ae]at h;obtain⟨z,⟨c,d,l⟩,rfl,h2,g⟩:=h;simp only[d7A,ar,am,dx,bz]at e;obtain⟨⟨⟨⟨⟨⟨u,v⟩,n⟩,s⟩,f⟩,m⟩,p⟩:=e;refine .inr ⟨⟨fid,z.1,z.2.1,z.2.2,vars,fn.ntmps⟩,fn,vs,o,a,b,⟨by rw[q];simp[yOf,d,l],i,u,v,hp,hd,hf,t,hn,by simp[d],n,s,f,m,p,r,h2,g⟩⟩
def AllFn(E:Env)(N:Nm):Nat->List (Option PFunc)->Prop|_,[]=>True|n,none::a=>AllFn E N (n+1) a|n,some f::a=>FnS E N n f/\AllFn E N (n+1) a
theorem AllFn.get:∀{fs:List (Option PFunc)}{n:Nat},AllFn E N n fs->∀{k:Nat}{f:PFunc},fs[k]?.join=some f->FnS E N (n+k) f|[],n,_,k,f,a=>by simp at a|o::fs,n,h,0,f,a=>by simp at a;subst a;exact h.1|o::fs,n,h,k+1,f,a=>by(have b:AllFn E N (n+1) fs:=by cases o with|none=>exact h|some g=>exact h.2);have:=AllFn.get b (k:=k) (f:=f) (by simpa using a);rwa[show n+1+k=n+(k+1)by omega]at this
end
end PI
namespace PI
open Go(IntKind BinOp UnOp)
def ZW:List PV->Option (List (List UInt8))|[]=>some []|.str s::r=>(ZW r).map (s::·)|_=>none
def e3k(args:List PV)(h:List PObj):Option (PV×List PObj):=match args with|[.list _ es,.str sep]=>(ZW es).bind λa=>if a.length<=140737488355328/\(Go.Lib.join a sep).length<=140737488355328 then some (.str (Go.Lib.join a sep),h)else none|_=>none
def NQ(args:List PV)(h:List PObj):Option (PV×List PObj):=match args with|[.str s,.int .u8 c]=>some (.int .i64 (Go.Lib.indexByte s c.toNat.toUInt8),h)|_=>none
def e3l(args:List PV)(h:List PObj):Option (PV×List PObj):=match args with|[.int .i64 n]=>if-9223372036854775808<=n/\n<=9223372036854775807 then some (.str (Go.Lib.itoa n),h)else none|_=>none
def JB:List PV->Option (List Int)|[]=>some []|.int .i64 n::r=>(JB r).map (n::·)|_=>none
def ins{a:Type}(le:a->a->Bool)(x:a):List a->List a|[]=>[x]|y::b=>if le x y then x::y::b else y::ins le x b
def EO{a:Type}(le:a->a->Bool):List a->List a|[]=>[]|x::b=>ins le x (EO le b)
theorem Ui{a:Type}(le:a->a->Bool)(x:a):∀l,(ins le x l).Perm (x::l)|[]=>.refl _|y::b=>by unfold ins;split;{exact .refl _};exact((Ui le x b).cons y).trans (.swap x y b)
theorem IY{a:Type}(le:a->a->Bool):∀l,(EO le l).Perm l|[]=>.refl _|x::b=>(Ui le x _).trans ((IY le b).cons x)
theorem ZX{f:Type}{le:f->f->Bool}(g:∀a b c,le a b=true->le b c=true->le a c=true)(hn:∀a b,(le a b||le b a)=true)(x:f):∀l,l.Pairwise (λa b=>le a b=true)->(ins le x l).Pairwise (λa b=>le a b=true)|[],_=>by simp[ins]|y::i,h=>by unfold ins;split;{rename_i e;refine dM.2 ⟨λz d=>?_,h⟩;rcases a8.1 d with rfl|d;{exact e};exact g _ _ _ e ((dM.1 h).1 z d)};rename_i e;(have j:le y x=true:=by have:=hn x y;simp only[e,Bool.false_or]at this;exact this);refine dM.2 ⟨λz d=>?_,ZX g hn x i (dM.1 h).2⟩;rcases a8.1 ((Ui le x i).mem_iff.1 d)with rfl|d;{exact j};exact(dM.1 h).1 z d
theorem SE{e:Type}{le:e->e->Bool}(d:∀a b c,le a b=true->le b c=true->le a c=true)(hn:∀a b,(le a b||le b a)=true):∀l,(EO le l).Pairwise (λa b=>le a b=true)|[]=>.nil|x::f=>ZX d hn x _ (SE d hn f)
theorem ZY{d:Type}{le:d->d->Bool}(e:∀a b c,le a b=true->le b c=true->le a c=true)(hn:∀a b,(le a b||le b a)=true)(f:∀a b,le a b=true->le b a=true->a=b)(l:List d):EO le l=l.mergeSort le:=List.Perm.eq_of_pairwise (λa b _ _=>f a b) (SE e hn l) (List.pairwise_mergeSort e hn l) ((IY le l).trans (List.mergeSort_perm l le).symm)
def JC(x y:Int):Bool:=decide (x<=y)
theorem c7Q(l:List Int):EO JC l=l.mergeSort λx y=>decide (x<=y):=ZY (le:=JC) (λa b c d h2=>by simp[JC]at*;omega) (λa b=>by simp[JC];omega) (λa b d h2=>by simp[JC]at*;omega) l
def Js(args:List PV)(h:List PObj):Option (PV×List PObj):=match args with|[.rowp n 1 false len]=>(match h[n]? with|some (.cells a)=>if len<=a.length/\len<4611686018427387904 then(JB (a.take len)).map λb=>(.tuple [],h.set n (.cells ((EO JC b).map (.int .i64 ·)++a.drop len)))else none|_=>none)|[.list _ []]=>some (.tuple [],h)|_=>none
def IX:List PV->Option (List (Int×Int))|[]=>some []|.int .i64 a::.int .i64 b::r=>(IX r).map ((a,b)::·)|_=>none
def Cv(x:Int×Int):List PV:=[.int .i64 x.1,.int .i64 x.2]
def Dr(x y:Int×Int):Bool:=decide (x.1<y.1\/x.1=y.1/\x.2<=y.2)
theorem c5C(l:List (Int×Int)):EO Dr l=l.mergeSort Dr:=ZY (λa b c d h2=>by simp[Dr]at*;omega) (λa b=>by simp[Dr];omega) (λa b d h2=>by simp[Dr]at*;exact Prod.ext (by omega) (by omega)) l
def IQ(c:Nat)(args:List PV)(h:List PObj):Option (PV×List PObj):=match args with|[.rowp n 2 true len,.func k [] []]=>(match h[n]? with|some (.cells a)=>if k=c/\len*2<=a.length/\len<4611686018427387904 then(IX (a.take (len*2))).map λb=>(.tuple [],h.set n (.cells ((EO Dr b).flatMap Cv++a.drop (len*2))))else none|_=>none)|[.list _ [],_]=>some (.tuple [],h)|_=>none
section
variable{cf:BJ}{V l:List PV}{g:Nat}{h:List PObj}{L:Nat->Option PFunc}
@[simp]theorem e3m(i:Nat):raw ⟨V,l,g,h⟩ (.v i)=V[i]?:=rfl
@[simp]theorem e3n(i:Nat):raw ⟨V,l,g,h⟩ (.l i)=l[i]?:=rfl
@[simp]theorem e3o(p:PV):raw ⟨V,l,g,h⟩ (.c p)=some p:=rfl
@[simp]theorem e3p(x:PX):rd ⟨V,l,g,h⟩ x=match raw ⟨V,l,g,h⟩ x with|some v=>cp v|none=>none:=by simp only[rd];cases raw ⟨V,l,g,h⟩ x<;>rfl
@[simp]theorem d9Y(b:Bool):cp (.bool b)=some (.bool b):=rfl
@[simp]theorem d8j(b:Bool):dem (.bool b)=.bool b:=rfl
@[simp]theorem e0M(k:IntKind)(n:Int):cp (.int k n)=some (.int k n):=rfl
@[simp]theorem d9Z(k:IntKind)(n:Int):dem (.int k n)=.int k n:=rfl
@[simp]theorem e0N(s:List UInt8):cp (.str s)=some (.str s):=rfl
@[simp]theorem d90(s:List UInt8):dem (.str s)=.str s:=rfl
@[simp]theorem e0O(cs:List PV):cp (.agg cs)=some (.agg cs):=rfl
@[simp]theorem d91(cs:List PV):dem (.agg cs)=.agg cs:=rfl
@[simp]theorem d8k(vs:List PV):cp (.tuple vs)=some (.tuple vs):=rfl
@[simp]theorem d6s(vs:List PV):dem (.tuple vs)=.tuple vs:=rfl
@[simp]theorem d6t:cp (.nilptr)=some (.nilptr):=rfl
@[simp]theorem d4h:dem (.nilptr)=.nilptr:=rfl
@[simp]theorem d92(cs:List PV):cp (.cptr cs)=some (.cptr cs):=rfl
@[simp]theorem d8l(cs:List PV):dem (.cptr cs)=.cptr cs:=rfl
@[simp]theorem e0P(n o:Nat):cp (.ptr n o)=some (.ptr n o):=rfl
@[simp]theorem d93(n o:Nat):dem (.ptr n o)=.ptr n o:=rfl
@[simp]theorem e0Q(n:Option Nat):cp (.map n)=some (.map n):=rfl
@[simp]theorem d94(n:Option Nat):dem (.map n)=.map n:=rfl
@[simp]theorem d95(k:Nat)(a b:List PV):cp (.func k a b)=some (.func k a b):=rfl
@[simp]theorem d8m(k:Nat)(a b:List PV):dem (.func k a b)=.func k a b:=rfl
@[simp]theorem d4i:cp (.nilfunc)=some (.nilfunc):=rfl
@[simp]theorem d2V:dem (.nilfunc)=.nilfunc:=rfl
@[simp]theorem d8n(t:Nat)(v:PV):cp (.iface t v)=some (.iface t v):=rfl
@[simp]theorem d6u(t:Nat)(v:PV):dem (.iface t v)=.iface t v:=rfl
@[simp]theorem d2W:cp (.nilIface)=some (.nilIface):=rfl
@[simp]theorem d08:dem (.nilIface)=.nilIface:=rfl
@[simp]theorem d96:cp (.nils)=some (.nils):=rfl
@[simp]theorem d8o:dem (.nils)=.nils:=rfl
@[simp]theorem d97:cp (.void)=some (.void):=rfl
@[simp]theorem d8p:dem (.void)=.void:=rfl
@[simp]theorem d98(o:Bool)(es:List PV):cp (.list o es)=some (.list false es):=rfl
@[simp]theorem d8q(o:Bool)(es:List PV):dem (.list o es)=.list false es:=rfl
@[simp]theorem e0R(n:Nat)(cs:List PV):cp (.loc n cs)=none:=rfl
@[simp]theorem d99(s n o:Nat):cp (.lptr s n o)=none:=rfl
@[simp]theorem e0a:cp .dead=none:=rfl
@[simp]theorem e0b(n sz:Nat)(a:Bool)(k:Nat):cp (.rowp n sz a k)=some (.rowp n sz a k):=rfl
@[simp]theorem d8r(n sz:Nat)(a:Bool)(k:Nat):dem (.rowp n sz a k)=.rowp n sz a k:=rfl
@[simp]theorem c1k(n sz:Nat)(a:Bool)(k:Nat):CY (.rowp n sz a k)=some n:=rfl
@[simp]theorem d6v(b:Bool):CY (.bool b)=none:=rfl
@[simp]theorem d8s(k:IntKind)(n:Int):CY (.int k n)=none:=rfl
@[simp]theorem d8t(s:List UInt8):CY (.str s)=none:=rfl
@[simp]theorem d8u(cs:List PV):CY (.agg cs)=none:=rfl
@[simp]theorem d4j(vs:List PV):CY (.tuple vs)=none:=rfl
@[simp]theorem d2X:CY (.nilptr)=none:=rfl
@[simp]theorem d6w(cs:List PV):CY (.cptr cs)=none:=rfl
@[simp]theorem d8v(n o:Nat):CY (.ptr n o)=none:=rfl
@[simp]theorem d8w(n:Option Nat):CY (.map n)=none:=rfl
@[simp]theorem d6x(k:Nat)(a b:List PV):CY (.func k a b)=none:=rfl
@[simp]theorem d09:CY (.nilfunc)=none:=rfl
@[simp]theorem d4k(t:Nat)(v:PV):CY (.iface t v)=none:=rfl
@[simp]theorem c9X:CY (.nilIface)=none:=rfl
@[simp]theorem d6y:CY (.nils)=none:=rfl
@[simp]theorem d6z:CY (.void)=none:=rfl
@[simp]theorem d6A(o:Bool)(es:List PV):CY (.list o es)=none:=rfl
@[simp]theorem d8x(n:Nat)(cs:List PV):CY (.loc n cs)=none:=rfl
@[simp]theorem d6B(s n o:Nat):CY (.lptr s n o)=none:=rfl
@[simp]theorem d6C:CY (.dead)=none:=rfl
@[simp]theorem e0c(n:Nat)(cs:List PV):dem (.loc n cs)=.loc n cs:=rfl
@[simp]theorem d8y:dem .dead=.dead:=rfl
@[simp]theorem d6D(b:Bool):BQ (.bool b)=true:=rfl
@[simp]theorem d8z(k:IntKind)(n:Int):BQ (.int k n)=true:=rfl
@[simp]theorem d8A(s:List UInt8):BQ (.str s)=true:=rfl
@[simp]theorem d8B(cs:List PV):BQ (.agg cs)=BN cs:=rfl
@[simp]theorem d4l(vs:List PV):BQ (.tuple vs)=BN vs:=rfl
@[simp]theorem d2Y:BQ (.nilptr)=true:=rfl
@[simp]theorem d6E(cs:List PV):BQ (.cptr cs)=BN cs:=rfl
@[simp]theorem d8C(n o:Nat):BQ (.ptr n o)=false:=rfl
@[simp]theorem d8D(n:Option Nat):BQ (.map n)=n.isNone:=rfl
@[simp]theorem d6F(k:Nat)(a b:List PV):BQ (.func k a b)=(BN a&&BN b):=rfl
@[simp]theorem d1a:BQ (.nilfunc)=true:=rfl
@[simp]theorem d4m(t:Nat)(v:PV):BQ (.iface t v)=BQ v:=rfl
@[simp]theorem c9Y:BQ (.nilIface)=true:=rfl
@[simp]theorem d6G:BQ (.nils)=true:=rfl
@[simp]theorem d6H:BQ (.void)=true:=rfl
@[simp]theorem d6I(o:Bool)(es:List PV):BQ (.list o es)=BN es:=rfl
@[simp]theorem d6J:BQ (.dead)=false:=rfl
@[simp]theorem d6K(n sz:Nat)(a:Bool)(k:Nat):BQ (.rowp n sz a k)=false:=rfl
@[simp]theorem e0d(k:EK)(x y:PV):peq false [k] x y=EI k x y:=rfl
@[simp]theorem e0e(a:List EK)(xs b:List PV):peq true a (.agg xs) (.agg b)=Eq a xs b:=rfl
def tkv:PV->Option (PV×Bool)|.list true es=>some (.list true es,true)|.room s=>some (.room s,true)|v=>match cp v with|some u=>some (u,false)|none=>none
@[simp]theorem d8E(b:Bool):tkv (.bool b)=some (.bool b,false):=rfl
@[simp]theorem e0f(k:IntKind)(n:Int):tkv (.int k n)=some (.int k n,false):=rfl
@[simp]theorem e0g(s:List UInt8):tkv (.str s)=some (.str s,false):=rfl
@[simp]theorem e0h(cs:List PV):tkv (.agg cs)=some (.agg cs,false):=rfl
@[simp]theorem d6L(vs:List PV):tkv (.tuple vs)=some (.tuple vs,false):=rfl
@[simp]theorem d4n:tkv (.nilptr)=some (.nilptr,false):=rfl
@[simp]theorem d8F(cs:List PV):tkv (.cptr cs)=some (.cptr cs,false):=rfl
@[simp]theorem e0i(n o:Nat):tkv (.ptr n o)=some (.ptr n o,false):=rfl
@[simp]theorem e0j(n:Option Nat):tkv (.map n)=some (.map n,false):=rfl
@[simp]theorem d8G(k:Nat)(a b:List PV):tkv (.func k a b)=some (.func k a b,false):=rfl
@[simp]theorem d2Z:tkv (.nilfunc)=some (.nilfunc,false):=rfl
@[simp]theorem d6M(t:Nat)(v:PV):tkv (.iface t v)=some (.iface t v,false):=rfl
@[simp]theorem d1b:tkv (.nilIface)=some (.nilIface,false):=rfl
@[simp]theorem d8H:tkv (.nils)=some (.nils,false):=rfl
@[simp]theorem d8I:tkv (.void)=some (.void,false):=rfl
@[simp]theorem e0k(es:List PV):tkv (.list true es)=some (.list true es,true):=rfl
@[simp]theorem d8J(es:List PV):tkv (.list false es)=some (.list false es,false):=rfl
@[simp]theorem e0l(n:Nat)(cs:List PV):tkv (.loc n cs)=none:=rfl
@[simp]theorem d8K(s n o:Nat):tkv (.lptr s n o)=none:=rfl
@[simp]theorem d8L:tkv .dead=none:=rfl
@[simp]theorem d8M(n:Nat):tkv (.room n)=some (.room n,true):=rfl
@[simp]theorem d8N(n sz:Nat)(a:Bool)(k:Nat):tkv (.rowp n sz a k)=some (.rowp n sz a k,false):=rfl
@[simp]theorem e0m(x:PX):tk ⟨V,l,g,h⟩ x=match raw ⟨V,l,g,h⟩ x with|some v=>(match tkv v with|some (u,true)=>some (u,Gb ⟨V,l,g,h⟩ x (dem v))|some (u,false)=>some (u,⟨V,l,g,h⟩)|none=>none)|none=>none:=by unfold tk;cases raw ⟨V,l,g,h⟩ x with|none=>rfl|some v=>cases v with|list ow es=>cases ow<;>rfl|_=>rfl
def GB:PV->Option (List PV)|.agg a=>some a|_=>none
@[simp]theorem d1c(cs:List PV):GB (.agg cs)=some cs:=rfl
@[simp]theorem d8O(cs:List PV):Eh (.agg cs)=.agg (cs.map dem):=rfl
@[simp]theorem d6N(b:Bool):Eh (.bool b)=.bool b:=rfl
@[simp]theorem d8P(k:IntKind)(n:Int):Eh (.int k n)=.int k n:=rfl
@[simp]theorem d8Q(s:List UInt8):Eh (.str s)=.str s:=rfl
@[simp]theorem d6O(o:Bool)(es:List PV):Eh (.list o es)=.list false es:=rfl
@[simp]theorem c9Z(n:Nat)(cs:List PV)(off:Nat)(v:PV):BV n true cs off v=match GB v with|some vs=>if vs.length=n/\off+n<=cs.length then some (cs.take off++(vs++cs.drop (off+n)))else none|none=>none:=by cases v<;>rfl
@[simp]theorem c90(n:Nat)(cs:List PV)(off:Nat)(v:PV):BV n false cs off v=if off<cs.length/\v.flat=true then some (cs.set off v)else none:=rfl
def Uq(h:List PObj):PV->Option PV|.rowp n sz agg len=>if agg=true\/sz=1 then(match h[n]? with|some (.cells a)=>(match DU sz agg a len 0 with|some es=>some (.list false es)|none=>none)|_=>none)else none|_=>none
@[simp]theorem c1l(h:List PObj)(n sz len:Nat)(agg:Bool):Uq h (.rowp n sz agg len)=if agg=true\/sz=1 then(match h[n]? with|some (.cells cs)=>(match DU sz agg cs len 0 with|some es=>some (.list false es)|none=>none)|_=>none)else none:=rfl
def E9:PV->PV|.nils=>.list false []|.room _=>.list false []|v=>v
@[simp]theorem d6P:E9 .nils=.list false []:=rfl
@[simp]theorem d6Q(n:Nat):E9 (.room n)=.list false []:=rfl
@[simp]theorem d6R(b:Bool):E9 (.bool b)=.bool b:=rfl
@[simp]theorem d8R(k:IntKind)(n:Int):E9 (.int k n)=.int k n:=rfl
@[simp]theorem d8S(s:List UInt8):E9 (.str s)=.str s:=rfl
@[simp]theorem d8T(cs:List PV):E9 (.agg cs)=.agg cs:=rfl
@[simp]theorem d4o(cs:List PV):E9 (.tuple cs)=.tuple cs:=rfl
@[simp]theorem d20:E9 (.nilptr)=.nilptr:=rfl
@[simp]theorem d6S(cs:List PV):E9 (.cptr cs)=.cptr cs:=rfl
@[simp]theorem d8U(n o:Nat):E9 (.ptr n o)=.ptr n o:=rfl
@[simp]theorem d8V(n:Option Nat):E9 (.map n)=.map n:=rfl
@[simp]theorem d6T(k:Nat)(a b:List PV):E9 (.func k a b)=.func k a b:=rfl
@[simp]theorem d1d:E9 (.nilfunc)=.nilfunc:=rfl
@[simp]theorem d4p(t:Nat)(v:PV):E9 (.iface t v)=.iface t v:=rfl
@[simp]theorem c91:E9 (.nilIface)=.nilIface:=rfl
@[simp]theorem d6U:E9 (.void)=.void:=rfl
@[simp]theorem d6V(o:Bool)(es:List PV):E9 (.list o es)=.list o es:=rfl
@[simp]theorem d6W:E9 (.dead)=.dead:=rfl
@[simp]theorem d8W(n:Nat)(cs:List PV):E9 (.loc n cs)=.loc n cs:=rfl
@[simp]theorem c92(i:Nat):FM ⟨V,l,g,h⟩ (.keep i)=match V[i]? with|some v=>cp v|none=>none:=by simp only[FM];cases V[i]?<;>rfl
@[simp]theorem d1e(V:List PV)(i:Nat)(rs:List PRes)(h:List PObj):Cu V (.keep i::rs) h=Cu V rs h:=rfl
@[simp]theorem d1f(i:Nat):FM ⟨V,l,g,h⟩ (.var i)=match V[i]? with|some v=>(match CY v with|some _=>Uq h v|none=>(match tkv v with|some (u,_)=>some (E9 u)|none=>none))|none=>none:=by simp only[FM];cases V[i]? with|none=>rfl|some v=>cases v with|list ow es=>cases ow<;>rfl|rowp n sz agg len=>grind[c1k,c1l,B9,DU]|_=>rfl
@[simp]theorem d4q:HC []=[]:=rfl
@[simp]theorem d21(p:PV)(ps:List PV):HC (p::ps)=match CY p with|some n=>n::HC ps|none=>HC ps:=by cases p<;>rfl
@[simp]theorem d6X(h:List PObj):FB [] h=h:=rfl
@[simp]theorem d4r(n:Nat)(ns:List Nat)(h:List PObj):FB (n::ns) h=FB ns (h.set n .gone):=rfl
@[simp]theorem d22(V:List PV)(h:List PObj):Cu V [] h=h:=rfl
@[simp]theorem d1g(V:List PV)(i n:Nat)(agg:Bool)(rs:List PRes)(h:List PObj):Cu V (.cell i n agg::rs) h=match V[i]? with|some (.loc _ cs)=>Cu V rs (FB (HC cs) h)|_=>Cu V rs h:=by simp only[Cu,Hc];cases V[i]? with|none=>rfl|some v=>cases v<;>rfl
@[simp]theorem d23(V:List PV)(i:Nat)(rs:List PRes)(h:List PObj):Cu V (.var i::rs) h=match V[i]? with|some v=>(match CY v with|some n=>Cu V rs (h.set n .gone)|none=>Cu V rs h)|none=>Cu V rs h:=by simp only[Cu,Hc,PL];cases V[i]? with|none=>rfl|some v=>cases v<;>rfl
@[simp]theorem d6Y(h:List PObj):Ge h []=some []:=rfl
@[simp]theorem d4s(h:List PObj)(p:PV)(ps:List PV):Ge h (p::ps)=match CY p with|some _=>(match Uq h p with|some q=>(match Ge h ps with|some a=>some (q::a)|none=>none)|none=>none)|none=>(match Ge h ps with|some a=>some (p::a)|none=>none):=by simp only[Ge];cases p with|rowp n sz agg len=>grind[c1k,c1l,Gd,DU,Ge]|_=>cases Ge h ps<;>rfl
@[simp]theorem d8X(h:List PObj)(ps:List PV):Dl h (.agg ps)=match Ge h ps with|some a=>some (.agg a)|none=>none:=by simp only[Dl];cases Ge h ps<;>rfl
@[simp]theorem d6Z(h:List PObj)(b:Bool):Dl h (.bool b)=some (.bool b):=rfl
@[simp]theorem d8Y(h:List PObj)(k:IntKind)(n:Int):Dl h (.int k n)=some (.int k n):=rfl
@[simp]theorem d8Z(h:List PObj)(s:List UInt8):Dl h (.str s)=some (.str s):=rfl
@[simp]theorem d60(h:List PObj)(o:Bool)(es:List PV):Dl h (.list o es)=some (.list o es):=rfl
@[simp]theorem d24(h:List PObj):Dl h (.nilptr)=some (.nilptr):=rfl
@[simp]theorem d61(h:List PObj)(cs:List PV):Dl h (.cptr cs)=some (.cptr cs):=rfl
@[simp]theorem d80(h:List PObj)(n o:Nat):Dl h (.ptr n o)=some (.ptr n o):=rfl
@[simp]theorem d62(h:List PObj)(n sz:Nat)(a:Bool)(k:Nat):Dl h (.rowp n sz a k)=some (.rowp n sz a k):=rfl
@[simp]theorem d81(h:List PObj)(n:Option Nat):Dl h (.map n)=some (.map n):=rfl
@[simp]theorem d63(h:List PObj)(k:Nat)(a b:List PV):Dl h (.func k a b)=some (.func k a b):=rfl
@[simp]theorem d1h(h:List PObj):Dl h (.nilfunc)=some (.nilfunc):=rfl
@[simp]theorem d4t(h:List PObj)(t:Nat)(v:PV):Dl h (.iface t v)=some (.iface t v):=rfl
@[simp]theorem c93(h:List PObj):Dl h (.nilIface)=some (.nilIface):=rfl
@[simp]theorem c94(i n:Nat)(agg:Bool):FM ⟨V,l,g,h⟩ (.cell i n agg)=match V[i]? with|some (.loc _ cs)=>(match BE n agg cs 0 with|some v=>Dl h v|none=>none)|some (.ptr m 0)=>(match B9 ⟨V,l,g,h⟩ m with|some cs=>BE n agg cs 0|none=>none)|_=>none:=by simp only[FM];cases V[i]? with|none=>rfl|some v=>cases v with|loc g cs=>simp only;cases BE n agg cs 0<;>rfl|ptr m off=>(cases off with|zero=>simp only;cases B9 ⟨V,l,g,h⟩ m<;>rfl|succ off=>rfl)|_=>rfl
attribute[simp]addr rdInt Gb BN La Lb unv bound EI Ii
@[simp]theorem d64(st:St):rdAll st []=some []:=rfl
@[simp]theorem d4u(x:PX)(xs:List PX):rdAll ⟨V,l,g,h⟩ (x::xs)=match rd ⟨V,l,g,h⟩ x with|some v=>(match rdAll ⟨V,l,g,h⟩ xs with|some vs=>some (v::vs)|none=>none)|none=>none:=by simp only[rdAll];cases rd ⟨V,l,g,h⟩ x<;>simp;cases rdAll ⟨V,l,g,h⟩ xs<;>rfl
@[simp]theorem d25(st:St):rdElems st []=some []:=rfl
@[simp]theorem d1i(i:Nat)(x:PX)(xs:List (Nat×PX)):rdElems ⟨V,l,g,h⟩ ((i,x)::xs)=match rd ⟨V,l,g,h⟩ x with|some v=>(match rdElems ⟨V,l,g,h⟩ xs with|some vs=>some ((i,v)::vs)|none=>none)|none=>none:=by simp only[rdElems];cases rd ⟨V,l,g,h⟩ x<;>simp;cases rdElems ⟨V,l,g,h⟩ xs<;>rfl
@[simp]theorem d26(st:St):rdParts st []=some []:=rfl
@[simp]theorem d1j(i s:Nat)(x:PX)(xs:List (Nat×Nat×PX)):rdParts ⟨V,l,g,h⟩ ((i,s,x)::xs)=match rd ⟨V,l,g,h⟩ x with|some v=>(match rdParts ⟨V,l,g,h⟩ xs with|some vs=>some ((i,s,v)::vs)|none=>none)|none=>none:=by simp only[rdParts];cases rd ⟨V,l,g,h⟩ x<;>simp;cases rdParts ⟨V,l,g,h⟩ xs<;>rfl
@[simp]theorem e3q(i j:Nat)(v:PV):put ⟨V,l,g,h⟩ j (.v i) v=⟨V.set i v,l,g,h⟩:=rfl
@[simp]theorem e3r(j:Nat)(v:PV):put ⟨V,l,g,h⟩ j .l v=⟨V,l.set j v,g,h⟩:=rfl
@[simp]theorem e3s(j:Nat)(v:PV):put ⟨V,l,g,h⟩ j .n v=⟨V,l,g,h⟩:=rfl
@[simp]theorem d4v(a:List PO):D7 cf a ⟨V,l,g,h⟩=Ei cf 0 a ⟨V,List.replicate a.length .dead,g,h⟩:=rfl
@[simp]theorem d1k(j:Nat)(st:St):Ei cf j [] st=some st:=rfl
@[simp]theorem c95(j:Nat)(d:PD)(o:POp)(os:List PO):Ei cf j (⟨d,o,none⟩::os) ⟨V,l,g,h⟩=match opv cf o ⟨V,l,g,h⟩with|some (v,st)=>Ei cf (j+1) os (put st j d v)|none=>none:=by simp only[Ei,CF];cases opv cf o ⟨V,l,g,h⟩<;>rfl
@[simp]theorem c8s(j:Nat)(d:PD)(o:POp)(x:PX)(a:Bool)(os:List PO):Ei cf j (⟨d,o,some (x,a)⟩::os) ⟨V,l,g,h⟩=match rd ⟨V,l,g,h⟩ x with|some (.bool b)=>if b=a then(match opv cf o ⟨V,l,g,h⟩with|some (v,st)=>Ei cf (j+1) os (put st j d v)|none=>none)else Ei cf (j+1) os (put ⟨V,l,g,h⟩ j d (.tuple []))|some (.tuple [])=>Ei cf (j+1) os (put ⟨V,l,g,h⟩ j d (.tuple []))|_=>none:=by simp only[Ei,CF];cases rd ⟨V,l,g,h⟩ x with|none=>rfl|some v=>(cases v<;>try rfl);{rename_i b;by_cases hb:b=a;{simp only[af hb];cases opv cf o ⟨V,l,g,h⟩<;>rfl};simp only[ah hb];rfl};rename_i c;cases c<;>rfl
def sv(r:Option PV)(st:St):Option (PV×St):=match r with|some v=>some (v,st)|none=>none
@[simp]theorem e0o(v:PV)(st:St):sv (some v) st=some (v,st):=rfl
@[simp]theorem e0p(st:St):sv none st=none:=rfl
theorem Hy(r:Option PV)(st:St):r.map (·,st)=sv r st:=by cases r<;>rfl
@[simp]theorem e0q(x:PX):opv cf (.mov x) ⟨V,l,g,h⟩=sv (rd ⟨V,l,g,h⟩ x) ⟨V,l,g,h⟩:=Hy _ _
@[simp]theorem d82(x:PX):opv cf (.take x) ⟨V,l,g,h⟩=match raw ⟨V,l,g,h⟩ x with|some v=>(match tkv v with|some (u,true)=>some (u,Gb ⟨V,l,g,h⟩ x (dem v))|some (u,false)=>some (u,⟨V,l,g,h⟩)|none=>none)|none=>none:=by simp only[opv,e0m]
@[simp]theorem d83(c a b:PX):opv cf (.pick c a b) ⟨V,l,g,h⟩=match rd ⟨V,l,g,h⟩ c with|some (.bool t)=>sv (rd ⟨V,l,g,h⟩ (if t then a else b)) ⟨V,l,g,h⟩|_=>none:=by simp only[opv,Hy];rfl
@[simp]theorem d4w(z:List PV):opv cf (.newloc z) ⟨V,l,g,h⟩=some (.loc g z,⟨V,l,g+1,h⟩):=rfl
@[simp]theorem d4x(s:Nat)(x:PX):opv cf (.boxloc s x) ⟨V,l,g,h⟩=match rd ⟨V,l,g,h⟩ x with|some v=>if v.cells.length=s then some (.loc g (v.cells.map dem),⟨V,l,g+1,h⟩)else none|none=>none:=rfl
@[simp]theorem d27(s:Nat)(z:PV)(n:Nat)(ps:List (Nat×PX)):opv cf (.mkslice s z n ps) ⟨V,l,g,h⟩=match rdElems ⟨V,l,g,h⟩ ps with|some es=>(match FZ s (List.replicate n z) es with|some es=>some (.list true es,⟨V,l,g,h⟩)|none=>none)|none=>none:=by simp only[opv];cases rdElems ⟨V,l,g,h⟩ ps<;>simp;rename_i es;cases FZ s (List.replicate n z) es<;>rfl
@[simp]theorem d65(z:List PV)(ps:List (Nat×Nat×PX)):opv cf (.build z ps) ⟨V,l,g,h⟩=match rdParts ⟨V,l,g,h⟩ ps with|some es=>(match FY z es with|some cs=>some (.agg cs,⟨V,l,g,h⟩)|none=>none)|none=>none:=by simp only[opv];cases rdParts ⟨V,l,g,h⟩ ps<;>simp;rename_i es;cases FY z es<;>rfl
@[simp]theorem d84(s:Nat)(agg:Bool)(a:PX)(t:Bool):opv cf (.load s agg a t) ⟨V,l,g,h⟩=match addr ⟨V,l,g,h⟩ a with|some (.cptr cs)=>sv (BE s agg cs 0) ⟨V,l,g,h⟩|some (.lptr b g0 off)=>(match V[b]? with|some (.loc c cs)=>if g0=c then match t&&!agg,cs[off]? with|true,some (.list true es)=>some (.list true es,⟨V.set b (.loc g0 (cs.set off (.list false es))),l,g,h⟩)|_,_=>sv (BE s agg cs off) ⟨V,l,g,h⟩else none|_=>none)|_=>none:=by simp only[opv,Hy];rfl
@[simp]theorem d66(s:Nat)(agg:Bool)(a x:PX):opv cf (.store s agg a x) ⟨V,l,g,h⟩=match addr ⟨V,l,g,h⟩ a,tk ⟨V,l,g,h⟩ x with|some (.lptr b g0 off),some (v,⟨V,l,g,h⟩)=>(match V[b]? with|some (.loc c cs)=>if g0=c then(match BV s agg cs off v with|some cs=>some (.dead,⟨V.set b (.loc g0 cs),l,g,h⟩)|none=>none)else none|_=>none)|_,_=>none:=by simp only[opv];cases addr ⟨V,l,g,h⟩ a with|none=>rfl|some p=>(cases p<;>try rfl);cases tk ⟨V,l,g,h⟩ x with|none=>rfl|some r=>grind
@[simp]theorem d67(off:Nat)(x:PX):opv cf (.faddr off x) ⟨V,l,g,h⟩=match addr ⟨V,l,g,h⟩ x with|some (.cptr cs)=>some (.cptr (cs.drop off),⟨V,l,g,h⟩)|some (.lptr s g0 o)=>some (.lptr s g0 (o+off),⟨V,l,g,h⟩)|some (.ptr n o)=>some (.ptr n (o+off),⟨V,l,g,h⟩)|_=>none:=rfl
@[simp]theorem d4y(s:Nat)(x i:PX):opv cf (.iaddrS s x i) ⟨V,l,g,h⟩=match rd ⟨V,l,g,h⟩ x,rdInt ⟨V,l,g,h⟩ i with|some (.list _ es),some n=>if 0<=n then match es[n.toNat]? with|some e=>if e.cells.length=s then some (.cptr e.cells,⟨V,l,g,h⟩)else none|none=>none else none|some (.rowp m sz _ len),some n=>if sz=s/\0<=n/\n<len then some (.ptr m (n.toNat*s),⟨V,l,g,h⟩)else none|some (.rows m sz _ off len),some n=>if sz=s/\0<=n/\n<len then some (.ptr m ((off+n.toNat)*s),⟨V,l,g,h⟩)else none|_,_=>none:=rfl
@[simp]theorem d1l(x i:PX):opv cf (.indexStr x i) ⟨V,l,g,h⟩=match rd ⟨V,l,g,h⟩ x,rdInt ⟨V,l,g,h⟩ i with|some (.str s),some n=>if 0<=n then match s[n.toNat]? with|some b=>some (.int .u8 b.toNat,⟨V,l,g,h⟩)|none=>none else none|_,_=>none:=rfl
@[simp]theorem e0r(op:BinOp)(x y:PX):opv cf (.bin op x y) ⟨V,l,g,h⟩=match rd ⟨V,l,g,h⟩ x,rd ⟨V,l,g,h⟩ y with|some a,some b=>sv (Hb op a b) ⟨V,l,g,h⟩|_,_=>none:=by simp only[opv,Hy];rfl
@[simp]theorem e0S(c agg:Bool)(d:List EK)(x y:PX):opv cf (.eq c agg d x y) ⟨V,l,g,h⟩=match rd ⟨V,l,g,h⟩ x,rd ⟨V,l,g,h⟩ y with|some a,some b=>(match peq agg d a b with|some t=>some (.bool (if c then !t else t),⟨V,l,g,h⟩)|none=>none)|_,_=>none:=by simp only[opv];cases rd ⟨V,l,g,h⟩ x with|none=>rfl|some a=>cases rd ⟨V,l,g,h⟩ y with|none=>rfl|some b=>simp only;cases peq agg d a b<;>rfl
@[simp]theorem e0T(op:UnOp)(x:PX):opv cf (.un op x) ⟨V,l,g,h⟩=match rd ⟨V,l,g,h⟩ x with|some a=>sv (unv op a) ⟨V,l,g,h⟩|none=>none:=by simp only[opv,Hy];rfl
@[simp]theorem d85(t:Nat)(x:PX):opv cf (.ifc true t x) ⟨V,l,g,h⟩=match rd ⟨V,l,g,h⟩ x with|some v=>some (.iface t v,⟨V,l,g,h⟩)|none=>none:=by simp only[opv];cases rd ⟨V,l,g,h⟩ x<;>rfl
@[simp]theorem d86(t:Nat)(x:PX):opv cf (.ifc false t x) ⟨V,l,g,h⟩=match rd ⟨V,l,g,h⟩ x with|some (.iface t' v)=>if t'=t then some (dem v,⟨V,l,g,h⟩)else none|_=>none:=by simp only[opv];cases rd ⟨V,l,g,h⟩ x with|none=>rfl|some v=>cases v<;>rfl
@[simp]theorem d28(k:IntKind)(x:PX):opv cf (.convInt k x) ⟨V,l,g,h⟩=match rdInt ⟨V,l,g,h⟩ x with|some n=>some (.int k (k.wrap n),⟨V,l,g,h⟩)|none=>none:=by simp only[opv];cases rdInt ⟨V,l,g,h⟩ x<;>rfl
@[simp]theorem d29(i:Nat)(x:PX):opv cf (.extract i x) ⟨V,l,g,h⟩=match rd ⟨V,l,g,h⟩ x with|some (.tuple vs)=>(match vs[i]? with|some v=>sv (cp v) ⟨V,l,g,h⟩|none=>none)|_=>none:=by simp only[opv];cases rd ⟨V,l,g,h⟩ x with|none=>rfl|some a=>(cases a<;>try rfl);rename_i vs;simp only;cases vs[i]?<;>simp[Hy]
@[simp]theorem e0s(str:Bool)(x:PX):opv cf (.len str x) ⟨V,l,g,h⟩=match str,rd ⟨V,l,g,h⟩ x with|true,some (.str s)=>some (.int .i64 s.length,⟨V,l,g,h⟩)|false,some (.list _ es)=>some (.int .i64 es.length,⟨V,l,g,h⟩)|false,some (.rowp _ _ _ n)=>some (.int .i64 n,⟨V,l,g,h⟩)|false,some (.rows _ _ _ _ n)=>some (.int .i64 n,⟨V,l,g,h⟩)|false,some .nils=>some (.int .i64 0,⟨V,l,g,h⟩)|false,some .void=>some (.int .i64 0,⟨V,l,g,h⟩)|_,_=>none:=rfl
@[simp]theorem e0t(x:PX):opv cf (.cap x) ⟨V,l,g,h⟩=match rd ⟨V,l,g,h⟩ x with|some .nils=>some (.int .i64 0,⟨V,l,g,h⟩)|_=>none:=rfl
@[simp]theorem d4z(mx:Bool)(xs:List PX):opv cf (.minmax mx xs) ⟨V,l,g,h⟩=match rdAll ⟨V,l,g,h⟩ xs with|some (v::vs)=>sv (Ii mx v vs) ⟨V,l,g,h⟩|_=>none:=by simp only[opv,Hy];rfl
@[simp]theorem d4A(s b:Nat)(y x:PX):opv cf (.append s b y x) ⟨V,l,g,h⟩=match rd ⟨V,l,g,h⟩ x,tk ⟨V,l,g,h⟩ y with|some (.list _ xs),some (.list true es,st)=>if B0 s es/\B0 s xs/\((es.length+xs.length<=2147483648/\b<=16384)\/(es.length+xs.length<=9223372036854775807/\(es.length+xs.length)*b<=140737488355328))then some (.list true (es++xs),st)else none|some .nils,some (.list true es,st)=>if B0 s es/\((es.length<=2147483648/\b<=16384)\/(es.length<=9223372036854775807/\es.length*b<=140737488355328))then some (.list true es,st)else none|some .void,some (.list true es,st)=>if B0 s es/\((es.length<=2147483648/\b<=16384)\/(es.length<=9223372036854775807/\es.length*b<=140737488355328))then some (.list true es,st)else none|some (.list _ xs),some (.room z,st)=>if z=s/\xs≠[]/\B0 s xs=true/\((xs.length<=2147483648/\b<=16384)\/(xs.length<=9223372036854775807/\xs.length*b<=140737488355328))then some (.list true xs,st)else none|_,_=>none:=by simp only[opv];generalize tk ⟨V,l,g,h⟩ y=q;rcases q with _|⟨v,st⟩;{simp};cases rd ⟨V,l,g,h⟩ x with|none=>rfl|some p=>cases v with|list ow es=>(cases ow with|false=>simp|true=>cases p<;>first|rfl|grind[GN,B0,List.length_nil])|_=>cases p<;>first|rfl|simp[GN]
@[simp]theorem d4B(s:Nat)(x lo:PX):opv cf (.sliceT s x lo) ⟨V,l,g,h⟩=match tk ⟨V,l,g,h⟩ x,rdInt ⟨V,l,g,h⟩ lo with|some (.list true es,st'),some l=>if B0 s es/\0<=l/\l.toNat<=es.length/\es≠[]then some (if l.toNat<es.length then .list true (es.drop l.toNat)else .room s,st')else none|_,_=>none:=rfl
@[simp]theorem d68(s n:Nat)(agg:Bool)(a:PX):opv cf (.loadv s n agg a) ⟨V,l,g,h⟩=match addr ⟨V,l,g,h⟩ a with|some (.lptr d g1 off)=>(match V[s]? with|some (.loc c cs)=>if d=s/\g1=c then(match BE n agg cs off with|some u=>some (u,⟨V,l,g,h⟩)|none=>none)else none|_=>none)|_=>none:=by simp only[opv];cases addr ⟨V,l,g,h⟩ a with|none=>rfl|some v=>(cases v<;>try rfl);cases V[s]? with|none=>rfl|some x=>(cases x<;>try rfl);simp only;split;{split;{rename_i b;rw[b];rfl};rename_i b;rw[b];rfl};rfl
@[simp]theorem d69(k:Nat)(args:List PX):opv cf (.pcall k args) ⟨V,l,g,h⟩=match rdAll ⟨V,l,g,h⟩ args with|some vs=>if BN vs then(match cf k vs []with|some (r,_)=>if BQ r then some (dem r,⟨V,l,g,h⟩)else none|none=>none)else none|none=>none:=rfl
@[simp]theorem d4C(k:Nat)(args:List PX):opv cf (.pzcall k args) ⟨V,l,g,h⟩=match rdAll ⟨V,l,g,h⟩ args with|some vs=>if BN vs then(match cf k vs []with|some (r,a)=>(if BQ (frz a r)then some (dem (frz a r),⟨V,l,g,h⟩)else none)|none=>none)else none|none=>none:=rfl
@[simp]theorem d4D(k:Nat)(args:List PX):opv cf (.pcallx k args none) ⟨V,l,g,h⟩=match rdAll ⟨V,l,g,h⟩ args with|some vs=>if BN vs then(match cf k (EJ none vs) []with|some (r,_)=>if BQ r then some (r,⟨V,l,g,h⟩)else none|none=>none)else none|none=>none:=rfl
@[simp]theorem d3a(k:Nat)(args:List PX)(i:Nat):opv cf (.pcallx k args (some i)) ⟨V,l,g,h⟩=match(match args[i]? with|some x=>tk ⟨V,l,g,h⟩ x|none=>none),rdAll ⟨V,l,g,h⟩ args with|some (v,st1),some vs=>if BN (vs.set i v)/\i<vs.length then(match cf k (EJ (some i) (vs.set i v)) []with|some (r,_)=>if BQ r then some (r,st1)else none|none=>none)else none|_,_=>none:=by simp only[opv];cases args[i]?<;>rfl
@[simp]theorem d4E(l:List PV):Gh none l=l.map dem:=rfl
@[simp]theorem d4F(i:Nat)(l:List PV):Gh (some i) l=(l.map dem).set i (l.getD i .dead):=rfl
@[simp]theorem d7a:closed ⟨V,l,g,h⟩=⟨V,[],g,h⟩:=rfl
@[simp]theorem b9s(a:List PO):evL L (.region a) ⟨V,l,g,h⟩=match D7 (Bu L) a ⟨V,l,g,h⟩with|some st=>some (.normal,closed st)|none=>none:=by rw[c5H];cases D7 (Bu L) a ⟨V,l,g,h⟩<;>rfl
@[simp]theorem b9t(c:List PO)(x:PX)(a b:PC):evL L (.branch c x a b) ⟨V,l,g,h⟩=match D7 (Bu L) c ⟨V,l,g,h⟩with|some st=>(match rd st x with|some (.bool t)=>if t then evL L a (closed st)else evL L b (closed st)|_=>none)|none=>none:=by rw[c5I];cases D7 (Bu L) c ⟨V,l,g,h⟩with|none=>rfl|some st=>simp only[aw];cases rd st x with|none=>rfl|some v=>(cases v<;>try rfl);rename_i t;cases t<;>rfl
@[simp]theorem d87(ob:Dz)(j:Nat)(st:St):Di cf ob j [] st=some (none,st):=rfl
noncomputable def KX(cf:BJ)(ob:Dz)(j:Nat)(os:List PO):Option (Option PV×St)->Option (Option PV×St)|some (none,st)=>Di cf ob j os st|r=>r
@[simp]theorem d7b(ob:Dz)(j:Nat)(os:List PO)(st:St):KX cf ob j os (some (none,st))=Di cf ob j os st:=rfl
@[simp]theorem d4G(ob:Dz)(j:Nat)(os:List PO)(v:PV)(st:St):KX cf ob j os (some (some v,st))=some (some v,st):=rfl
@[simp]theorem d4H(ob:Dz)(j:Nat)(os:List PO):KX cf ob j os none=none:=rfl
theorem Pj(ob:Dz)(j:Nat)(o:PO)(os:List PO)(st:St):Di cf ob j (o::os) st=KX cf ob (j+1) os (D8 cf ob j o st):=by rfl
def JX(j:Nat)(d:PD):Option (Out×List PObj)->St->Option (Option PV×St)|some (.val r,a),st=>some (none,put {st with heap:=a} j d (dem r))|some (.boom v,a),st=>some (some v,{st with heap:=a})|none,_=>none
@[simp]theorem d88(j:Nat)(d:PD)(r:PV)(a:List PObj):JX j d (some (.val r,a)) ⟨V,l,g,h⟩=some (none,put ⟨V,l,g,a⟩ j d (dem r)):=rfl
@[simp]theorem d7c(j:Nat)(d:PD)(v:PV)(a:List PObj):JX j d (some (.boom v,a)) ⟨V,l,g,h⟩=some (some v,⟨V,l,g,a⟩):=rfl
@[simp]theorem d7d(j:Nat)(d:PD)(st:St):JX j d none st=none:=rfl
theorem c2Z(ob:Dz)(j k:Nat)(d:PD)(args:List PX):D8 cf ob j ⟨d,.h (.bcall k args),none⟩ ⟨V,l,g,h⟩=match rdAll ⟨V,l,g,h⟩ args with|some vs=>JX j d (ob k vs h) ⟨V,l,g,h⟩|none=>none:=by simp only[D8];cases rdAll ⟨V,l,g,h⟩ args with|none=>rfl|some vs=>simp only;rcases ob k vs h with _|⟨_|v,a⟩<;>rfl
theorem c1m(ob:Dz)(j:Nat)(x:PX)(d:PD)(args:List PX):D8 cf ob j ⟨d,.h (.bcallv x args),none⟩ ⟨V,l,g,h⟩=match rd ⟨V,l,g,h⟩ x,rdAll ⟨V,l,g,h⟩ args with|some (.func k b a),some vs=>JX j d (ob k (b++vs++a) h) ⟨V,l,g,h⟩|_,_=>none:=by simp only[D8];cases rd ⟨V,l,g,h⟩ x with|none=>rfl|some f=>cases rdAll ⟨V,l,g,h⟩ args with|none=>simp|some vs=>(cases f<;>try rfl);rename_i k b a;simp only;rcases ob k (b++vs++a) h with _|⟨_|v,c⟩<;>rfl
def Ur:Option St->Option (Option PV×St)|some st=>some (none,st)|none=>none
@[simp]theorem d4I(st:St):Ur (some st)=some (none,st):=rfl
@[simp]theorem d4J:Ur none=none:=rfl
def Ci:POp->Bool|.h (.bcall ..)|.h (.bcallv ..)=>true|_=>false
theorem b8B(ob:Dz)(j:Nat)(d:PD)(op:POp)(a:Option (PX×Bool))(st:St)(hb:Ci op=false):D8 cf ob j ⟨d,op,a⟩ st=Ur (CF cf j ⟨d,op,a⟩ st):=by(have b:D8 cf ob j ⟨d,op,a⟩ st=(CF cf j ⟨d,op,a⟩ st).map λst=>(none,st):=by cases op with|h o=>(cases o<;>first|rfl|simp[Ci]at hb)|_=>rfl);rw[b];cases CF cf j ⟨d,op,a⟩ st<;>rfl
@[simp]theorem d7e(x:PX):Ci (.mov x)=false:=id rfl
@[simp]theorem d3d(s n:Nat)(agg:Bool)(a:PX):Ci (.loadv s n agg a)=false:=id rfl
@[simp]theorem d4K(x:PX):Ci (.take x)=false:=id rfl
@[simp]theorem d4L(c a b:PX):Ci (.pick c a b)=false:=id rfl
@[simp]theorem d1m(a:List PV):Ci (.newloc a)=false:=id rfl
@[simp]theorem d1n(size:Nat)(x:PX):Ci (.boxloc size x)=false:=id rfl
@[simp]theorem d3e(a:List PV)(parts:List (Nat×Nat×PX)):Ci (.build a parts)=false:=id rfl
@[simp]theorem c96(size:Nat)(a:PV)(len:Nat)(parts:List (Nat×PX)):Ci (.mkslice size a len parts)=false:=id rfl
@[simp]theorem d4M(size:Nat)(agg:Bool)(a:PX)(take:Bool):Ci (.load size agg a take)=false:=id rfl
@[simp]theorem d3f(size:Nat)(agg:Bool)(a x:PX):Ci (.store size agg a x)=false:=id rfl
@[simp]theorem d3g(off:Nat)(x:PX):Ci (.faddr off x)=false:=id rfl
@[simp]theorem d1o(size:Nat)(x i:PX):Ci (.iaddrS size x i)=false:=id rfl
@[simp]theorem c8t(x i:PX):Ci (.indexStr x i)=false:=id rfl
@[simp]theorem d3h(str:Bool)(size:Nat)(x:PX)(lo hi:Option PX):Ci (.slice str size x lo hi)=false:=id rfl
@[simp]theorem d1p(size:Nat)(x lo:PX):Ci (.sliceT size x lo)=false:=id rfl
@[simp]theorem d7f(op:BinOp)(x y:PX):Ci (.bin op x y)=false:=id rfl
@[simp]theorem d89(a agg:Bool)(b:List EK)(x y:PX):Ci (.eq a agg b x y)=false:=id rfl
@[simp]theorem d9a(op:UnOp)(x:PX):Ci (.un op x)=false:=id rfl
@[simp]theorem d7g(b:Bool)(t:Nat)(x:PX):Ci (.ifc b t x)=false:=id rfl
@[simp]theorem c97(t:List (Nat×Nat×Option (Nat×Bool)))(x:PX)(args:List PX):Ci (.h (.icall t x args))=false:=id rfl
@[simp]theorem c98(k:IntKind)(x:PX):Ci (.convInt k x)=false:=id rfl
@[simp]theorem c99(i:Nat)(x:PX):Ci (.extract i x)=false:=id rfl
@[simp]theorem d7h(str:Bool)(x:PX):Ci (.len str x)=false:=id rfl
@[simp]theorem d1q(max:Bool)(xs:List PX):Ci (.minmax max xs)=false:=id rfl
@[simp]theorem d1r(size bytes:Nat)(s x:PX):Ci (.append size bytes s x)=false:=id rfl
@[simp]theorem d1s(k:Nat)(args:List PX)(o:Option Nat):Ci (.pcallx k args o)=false:=id rfl
@[simp]theorem d3i(k:Nat)(args:List PX):Ci (.pcall k args)=false:=id rfl
@[simp]theorem d3j(x:PX)(args:List PX):Ci (.callv x args)=false:=id rfl
@[simp]theorem c8u(a:List PV):Ci (.h (.newobj a))=false:=id rfl
@[simp]theorem c8v(size:Nat)(x:PX):Ci (.h (.boxobj size x))=false:=id rfl
@[simp]theorem d1t(size:Nat)(agg:Bool)(a:PX)(take:Bool):Ci (.h (.load size agg a take))=false:=id rfl
@[simp]theorem c8w(size:Nat)(agg:Bool)(a x:PX):Ci (.h (.storer size agg a x))=false:=id rfl
@[simp]theorem d0a(size:Nat)(agg:Bool)(a x:PX):Ci (.h (.store size agg a x))=false:=id rfl
@[simp]theorem d0b:Ci (.h (.mkmap))=false:=id rfl
@[simp]theorem c8x(d take a:Bool)(c:List EK)(b:PV)(m x:PX):Ci (.h (.lookup d take a c b m x))=false:=id rfl
@[simp]theorem d1u(a:Bool)(b:List EK)(m k v:PX):Ci (.h (.mset a b m k v))=false:=id rfl
@[simp]theorem c8y(k:Nat)(b a:List PX):Ci (.h (.mkfunc k b a))=false:=id rfl
@[simp]theorem d0c(kind:Nat)(a:Bool)(x:PX):Ci (.h (.isnil kind a x))=false:=id rfl
@[simp]theorem c8z(x:PX):Ci (.h (.nilchk x))=false:=id rfl
@[simp]theorem d0d(size:Nat)(agg:Bool)(a:PX):Ci (.h (.loadc size agg a))=false:=id rfl
@[simp]theorem d0e(k:Nat)(args:List PX):Ci (.h (.rcall k args))=false:=id rfl
@[simp]theorem d0f(k:Nat)(args:List PX):Ci (.h (.zcall k args))=false:=id rfl
@[simp]theorem d1v(k:Nat)(args:List PX):Ci (.h (.call k args))=false:=id rfl
@[simp]theorem d0g(x:PX)(args:List PX):Ci (.h (.callv x args))=false:=id rfl
@[simp]theorem d1w(size:Nat)(agg:Bool)(bytes:Nat)(s x:PX):Ci (.h (.happ size agg bytes s x))=false:=id rfl
@[simp]theorem c72(size:Nat)(agg:Bool)(b:Nat)(z:List PV)(x:PX):Ci (.h (.mkfresh size agg b z x))=false:=id rfl
@[simp]theorem c8A(a:List Nat)(z:List PV)(ps:List (Nat×Nat×PX)):Ci (.h (.buildA a z ps))=false:=id rfl
@[simp]theorem d0h(a:PX):Ci (.h (.loadn a))=false:=id rfl
@[simp]theorem d1x(k:Nat)(args:List PX):Ci (.pzcall k args)=false:=id rfl
@[simp]theorem d0i(size:Nat)(agg:Bool)(z:PV)(len:Nat)(ps:List (Nat×PX)):Ci (.h (.mkrow size agg z len ps))=false:=id rfl
@[simp]theorem d0j(size:Nat)(agg:Bool)(bytes:Nat)(a:List PV)(x:PX):Ci (.h (.mkarr size agg bytes a x))=false:=id rfl
@[simp]theorem e0u(ob:Dz)(j:Nat)(d:PD)(op:POp)(os:List PO)(hb:Ci op=false):Di cf ob j (⟨d,op,none⟩::os) ⟨V,l,g,h⟩=match opv cf op ⟨V,l,g,h⟩with|some (v,st)=>Di cf ob (j+1) os (put st j d v)|none=>none:=by rw[Pj,b8B ob j d op none _ hb];simp only[CF];cases opv cf op ⟨V,l,g,h⟩<;>rfl
@[simp]theorem d9b(ob:Dz)(j:Nat)(d:PD)(op:POp)(x:PX)(a:Bool)(os:List PO)(hb:Ci op=false):Di cf ob j (⟨d,op,some (x,a)⟩::os) ⟨V,l,g,h⟩=match rd ⟨V,l,g,h⟩ x with|some (.bool b)=>if b=a then(match opv cf op ⟨V,l,g,h⟩with|some (v,st)=>Di cf ob (j+1) os (put st j d v)|none=>none)else Di cf ob (j+1) os (put ⟨V,l,g,h⟩ j d (.tuple []))|some (.tuple [])=>Di cf ob (j+1) os (put ⟨V,l,g,h⟩ j d (.tuple []))|_=>none:=by rw[Pj,b8B ob j d op _ _ hb];simp only[CF];cases rd ⟨V,l,g,h⟩ x with|none=>rfl|some v=>cases v with|bool b=>by_cases hw:b=a;{simp only[hw];cases opv cf op ⟨V,l,g,h⟩<;>rfl};simp only[hw];rfl|tuple c=>cases c<;>rfl|_=>rfl
@[simp]theorem d4N(ob:Dz)(j k:Nat)(d:PD)(args:List PX)(os:List PO):Di cf ob j (⟨d,.h (.bcall k args),none⟩::os) ⟨V,l,g,h⟩=match rdAll ⟨V,l,g,h⟩ args with|some vs=>KX cf ob (j+1) os (JX j d (ob k vs h) ⟨V,l,g,h⟩)|none=>none:=by rw[Pj,c2Z];cases rdAll ⟨V,l,g,h⟩ args<;>rfl
@[simp]theorem d3k(ob:Dz)(j:Nat)(x:PX)(d:PD)(args:List PX)(os:List PO):Di cf ob j (⟨d,.h (.bcallv x args),none⟩::os) ⟨V,l,g,h⟩=match rd ⟨V,l,g,h⟩ x,rdAll ⟨V,l,g,h⟩ args with|some (.func k b a),some vs=>KX cf ob (j+1) os (JX j d (ob k (b++vs++a) h) ⟨V,l,g,h⟩)|_,_=>none:=by rw[Pj,c1m];cases rd ⟨V,l,g,h⟩ x with|none=>rfl|some f=>cases rdAll ⟨V,l,g,h⟩ args with|none=>cases f<;>rfl|some vs=>cases f<;>rfl
@[simp]theorem b7T(a:List PO):evL L (.bregion a) ⟨V,l,g,h⟩=match Di (Bu L) (BZ L) 0 a ⟨V,List.replicate a.length .dead,g,h⟩with|some (none,st)=>some (.normal,closed st)|some (some v,st)=>some (.boom v,closed st)|none=>none:=by rw[c2V];rfl
@[simp]theorem b7U(c:List PO)(x:PX)(a b:PC):evL L (.bbranch c x a b) ⟨V,l,g,h⟩=match Di (Bu L) (BZ L) 0 c ⟨V,List.replicate c.length .dead,g,h⟩with|some (none,st)=>(match rd st x with|some (.bool t)=>evL L (if t then a else b) (closed st)|_=>none)|some (some v,st)=>some (.boom v,closed st)|none=>none:=by rw[c2W];rfl
@[simp]theorem d0k(st:St):F0 st []=some []:=rfl
@[simp]theorem c8B(r:PRes)(rs:List PRes):F0 ⟨V,l,g,h⟩ (r::rs)=match FM ⟨V,l,g,h⟩ r with|some v=>(match F0 ⟨V,l,g,h⟩ rs with|some vs=>some (v::vs)|none=>none)|none=>none:=by simp only[F0];cases FM ⟨V,l,g,h⟩ r<;>simp;cases F0 ⟨V,l,g,h⟩ rs<;>rfl
def Ms:List PV->PV|[v]=>v|a=>.tuple (a.map dem)
@[simp]theorem d9c(v:PV):Ms [v]=v:=rfl
@[simp]theorem d9d(v u:PV)(r:List PV):Ms (v::u::r)=.tuple ((v::u::r).map dem):=rfl
@[simp]theorem d9e:Ms []=.tuple []:=rfl
@[simp]theorem d4O(rs:List PRes):Dy ⟨V,l,g,h⟩ rs=match F0 ⟨V,l,g,h⟩ rs with|some vs=>some (Ms vs)|none=>none:=by simp only[Dy];cases F0 ⟨V,l,g,h⟩ rs<;>rfl
def Ie(rs:List PRes):Option (PExit×St)->Option (PV×List PObj)|some (.normal,st)=>(match Dy st rs with|some v=>some (v,Cu st.vars rs st.heap)|none=>none)|some (.ret,st)=>(match Dy st rs with|some v=>some (v,Cu st.vars rs st.heap)|none=>none)|_=>none
attribute[simp]Ie
theorem b9u{f:PFunc}{args:List PV}{hp:List PObj}{r:PV×List PObj}(a:f.code.isRound=false)(b:Ie f.results (evL L f.code ⟨args.map dem++List.replicate (f.nv-f.params) .dead,[],0,hp⟩)=some r):EY (evL L) (D1 L) f args hp=some (.val r.1,r.2):=by unfold EY;grind[PC.isRound,evL,dem,List.replicate,Ie]
theorem b42{f:PFunc}{args:List PV}{hp:List PObj}{r:PV×List PObj}(a:f.code.isRound=false)(b:Ie f.results (evL L f.code ⟨args.map dem++List.replicate (f.nv-f.params) .dead,[],0,hp⟩)=some r):Ft (evL L) (D1 L) f args hp=some r:=by simp_all[Ft,Pe,b9u]
theorem c1n{k:Nat}{f:PFunc}{args:List PV}{hp:List PObj}{r}(hf:L k=some f)(a:args.length=f.params)(d:Ie f.results (evL L f.code ⟨args.map dem++List.replicate (f.nv-f.params) .dead,[],0,hp⟩)=some r)(hs:f.split=false:=by rfl)(b:f.prim=none:=by rfl)(c:f.code.isRound=false:=by rfl):Bu L k args hp=some r:=by simp_all[MW,Dn,b42]
theorem LZ{k:Nat}{f:PFunc}{p:List PV->List PObj->Option (PV×List PObj)}{args:List PV}{hp:List PObj}(hf:L k=some f)(a:args.length=f.params)(b:f.prim=some p):Bu L k args hp=match p (args.map dem) hp with|some r=>some (dem r.1,r.2)|none=>none:=by grind[MW,Dn,dem]
theorem c20{k:Nat}{f:PFunc}{args:List PV}{hp:List PObj}{r}(hf:L k=some f)(a:args.length=f.params)(hs:f.split=true)(d:vague (args.headD .dead)=false->Ie f.results (evL L f.code ⟨args.map dem++List.replicate (f.nv-f.params) .dead,[],0,hp⟩)=some r)(e:vague (args.headD .dead)=true->Ie f.results (evL L f.code ⟨(.nils::args.tail).map dem++List.replicate (f.nv-f.params) .dead,[],0,hp⟩)=some r/\Ie f.results (evL L f.code ⟨(.void::args.tail).map dem++List.replicate (f.nv-f.params) .dead,[],0,hp⟩)=some r)(b:f.prim=none:=by rfl)(c:f.code.isRound=false:=by rfl):Bu L k args hp=some r:=by grind[MW,Dn,vague,Bool.false_eq_true,b42,Bool.and_self,IE]
@[simp]theorem c73(n:Nat):B9 ⟨V,l,g,h⟩ n=match h[n]? with|some (.cells cs)=>some cs|_=>none:=rfl
@[simp]theorem d7j:CQ ⟨V,l,g,h⟩ none=some []:=rfl
@[simp]theorem c74(n:Nat):CQ ⟨V,l,g,h⟩ (some n)=match h[n]? with|some (.map es)=>some es|_=>none:=rfl
@[simp]theorem e0v(n:Nat)(o:PObj):BW ⟨V,l,g,h⟩ n o=⟨V,l,g,h.set n o⟩:=rfl
@[simp]theorem e0U(i:Nat):Fb ⟨V,l,g,h⟩ (.v i)=match V[i]? with|some (.loc _ cs)=>some (.cptr (cs.map dem),⟨V.set i (.cptr (cs.map dem)),l,g,h⟩)|some v=>sv (cp v) ⟨V,l,g,h⟩|none=>none:=by simp only[Fb,raw,rd];cases V[i]? with|none=>rfl|some v=>cases v<;>rfl
@[simp]theorem e0V(p:PV):Fb ⟨V,l,g,h⟩ (.c p)=sv (cp p) ⟨V,l,g,h⟩:=by simp only[Fb,rd,raw,aw,Hy]
@[simp]theorem e0W(i:Nat):Fb ⟨V,l,g,h⟩ (.l i)=sv (rd ⟨V,l,g,h⟩ (.l i)) ⟨V,l,g,h⟩:=by simp only[Fb,Hy]
@[simp]theorem d7k(st:St):Dx st []=some ([],st):=rfl
@[simp]theorem d4P(x:PX)(xs:List PX):Dx ⟨V,l,g,h⟩ (x::xs)=match Fb ⟨V,l,g,h⟩ x with|some (v,st)=>(match Dx st xs with|some (vs,st)=>some (v::vs,st)|none=>none)|none=>none:=by simp only[Dx];cases Fb ⟨V,l,g,h⟩ x with|none=>rfl|some r=>simp only[aw];cases Dx r.2 xs<;>rfl
@[simp]theorem d4Q(z:List PV):opv cf (.h (.newobj z)) ⟨V,l,g,h⟩=some (.ptr h.length 0,⟨V,l,g,h++[.cells z]⟩):=rfl
@[simp]theorem d4R(s:Nat)(x:PX):opv cf (.h (.boxobj s x)) ⟨V,l,g,h⟩=match rd ⟨V,l,g,h⟩ x with|some v=>if v.cells.length=s then some (.ptr h.length 0,⟨V,l,g,h++[.cells v.cells]⟩)else none|none=>none:=rfl
def JY(h:List PObj):PV->Option (List PV)|.rowp n sz agg len=>if agg=true\/sz=1 then(match h[n]? with|some (.cells a)=>DU sz agg a len 0|_=>none)else none|p=>GN p
@[simp]theorem d4S(o:Bool)(es:List PV):JY h (.list o es)=some es:=rfl
@[simp]theorem d4T:JY h .nils=some []:=rfl
@[simp]theorem d4U:JY h .void=some []:=rfl
theorem d0l(x:PX):b5X ⟨V,l,g,h⟩ x=match rd ⟨V,l,g,h⟩ x with|some v=>JY h v|none=>none:=by unfold b5X;cases rd ⟨V,l,g,h⟩ x with|none=>rfl|some v=>(cases v<;>try rfl);rename_i n sz agg len;simp only[JY];split;{simp only[B9];cases h[n]? with|none=>rfl|some o=>cases o<;>rfl};rfl
def El(h:List PObj)(size:Nat)(agg:Bool)(bytes:Nat)(xs:List PV)(v:PV)(st:St):Option (PV×St):=match v with|.rowp n sz b len=>(match h[n]? with|some (.cells a)=>if sz=size/\b=agg/\len*size<=a.length/\B0 size xs/\len+xs.length<=2147483648/\bytes<=16384 then some (.rowp h.length size agg (len+xs.length),{st with heap:=h.set n .gone++[.cells (a.take (len*size)++(xs.flatMap PV.cells).map dem)]})else none|_=>none)|.list true []=>if xs=[]then some (.list true [],st)else if B0 size xs/\xs.length<=2147483648/\bytes<=16384 then some (.rowp h.length size agg xs.length,{st with heap:=h++[.cells ((xs.flatMap PV.cells).map dem)]})else none|.nils=>if xs=[]then some (.nils,st)else if B0 size xs/\xs.length<=2147483648/\bytes<=16384 then some (.rowp h.length size agg xs.length,{st with heap:=h++[.cells ((xs.flatMap PV.cells).map dem)]})else none|_=>none
@[simp]theorem d4V(v:PV):(some v).bind GN=GN v:=rfl
@[simp]theorem d4W(o:Bool)(es:List PV):GN (.list o es)=some es:=rfl
@[simp]theorem d9f(s:Nat)(agg:Bool)(b:Nat)(a x:PX):opv cf (.h (.happ s agg b a x)) ⟨V,l,g,h⟩=match(match rd ⟨V,l,g,h⟩ x with|some v=>JY h v|none=>none),raw ⟨V,l,g,h⟩ a with|some xs,some v=>El h s agg b xs v ⟨V,l,g,h⟩|_,_=>none:=by simp only[opv,BC,d0l];cases(match rd ⟨V,l,g,h⟩ x with|some v=>JY h v|none=>none)with|none=>rfl|some xs=>cases raw ⟨V,l,g,h⟩ a with|none=>rfl|some v=>(cases v<;>try rfl);rename_i o es;(cases o<;>try rfl);cases es<;>rfl
@[simp]theorem d7l(s:Nat)(agg:Bool)(b:Nat)(z:List PV)(a x:PX):opv cf (.h (.happz s agg b z a x)) ⟨V,l,g,h⟩=match rdInt ⟨V,l,g,h⟩ x,rd ⟨V,l,g,h⟩ a with|some n,some .nils=>if 0<n/\n<=2147483648/\b<=16384 then some (.rowp h.length s agg n.toNat,⟨V,l,g,h++[.cells (List.replicate n.toNat (z.map dem)).flatten]⟩)else none|_,_=>none:=rfl
@[simp]theorem d3l(n sz:Nat)(a:Bool)(off len:Nat):Ld (.rows n sz a off len)=some (n,sz,off):=rfl
@[simp]theorem d3m(n sz:Nat)(a:Bool)(len:Nat):Ld (.rowp n sz a len)=some (n,sz,0):=rfl
@[simp]theorem d7m(s:Nat)(x:PX):opv cf (.h (.clear s x)) ⟨V,l,g,h⟩=match(match rd ⟨V,l,g,h⟩ x with|some v=>Ld v|none=>none)with|some (n,sz,off)=>(match h[n]? with|some (.cells cs)=>if sz=s/\off*s<=cs.length then some (.dead,⟨V,l,g,h.set n (.cells (cs.take (off*s)))⟩)else none|_=>none)|_=>none:=by simp only[opv,BC];cases rd ⟨V,l,g,h⟩ x with|none=>rfl|some v=>rfl
@[simp]theorem d3n(s:Nat)(agg:Bool)(b:Nat)(z:List PV)(x:PX):opv cf (.h (.mkfresh s agg b z x)) ⟨V,l,g,h⟩=match rdInt ⟨V,l,g,h⟩ x with|some n=>if 0<=n/\b*n<=281474976710656/\n<=9223372036854775807 then some (.fresh s agg n.toNat (List.replicate n.toNat (z.map dem)).flatten,⟨V,l,g,h⟩)else none|none=>none:=rfl
@[simp]theorem d4X(a:List Nat)(z:List PV)(ps:List (Nat×Nat×PX)):opv cf (.h (.buildA a z ps)) ⟨V,l,g,h⟩=(adoptAll a ⟨V,l,g,h⟩).bind λst=>((rdParts st ps).bind (FY z)).map λcs=>(.agg cs,st):=rfl
@[simp]theorem d7n(a:PX):opv cf (.h (.loadn a)) ⟨V,l,g,h⟩=match addr ⟨V,l,g,h⟩ a with|some (.ptr n off)=>((B9 ⟨V,l,g,h⟩ n).bind fun cs=>match cs[off]? with|some (.list true es)=>some (.list true es,BW ⟨V,l,g,h⟩ n (.cells (cs.set off (.list false es))))|some .nils=>some (.list true [],⟨V,l,g,h⟩)|_=>none)|_=>none:=rfl
@[simp]theorem d7o(s:Nat)(agg:Bool)(z:PV)(len:Nat)(ps:List (Nat×PX)):opv cf (.h (.mkrow s agg z len ps)) ⟨V,l,g,h⟩=((rdElems ⟨V,l,g,h⟩ ps).bind (FZ s (List.replicate len z))).map λes=>(.rowp h.length s agg es.length,⟨V,l,g,h++[.cells ((es.flatMap PV.cells).map dem)]⟩):=rfl
@[simp]theorem d7p(s:Nat)(agg:Bool)(b:Nat)(z:List PV)(x:PX):opv cf (.h (.mkarr s agg b z x)) ⟨V,l,g,h⟩=match rdInt ⟨V,l,g,h⟩ x with|some n=>if 0<=n/\b*n<=281474976710656/\n<=9223372036854775807 then some (.rowp h.length s agg n.toNat,⟨V,l,g,h++[.cells (List.replicate n.toNat z).flatten]⟩)else none|none=>none:=rfl
@[simp]theorem d7q:opv cf (.h .mkmap) ⟨V,l,g,h⟩=some (.map (some h.length),⟨V,l,g,h++[.map []]⟩):=rfl
@[simp]theorem d7r(s:Nat)(agg:Bool)(a:PX)(t:Bool):opv cf (.h (.load s agg a t)) ⟨V,l,g,h⟩=match addr ⟨V,l,g,h⟩ a with|some (.cptr cs)=>sv (BE s agg cs 0) ⟨V,l,g,h⟩|some (.ptr n off)=>(match h[n]? with|some (.cells cs)=>(match t&&!agg,cs[off]? with|true,some (.list true es)=>some (.list true es,⟨V,l,g,h.set n (.cells (cs.set off (.list false es)))⟩)|_,_=>sv (BE s agg cs off) ⟨V,l,g,h⟩)|_=>none)|_=>none:=by simp only[opv,BC,Hy];cases addr ⟨V,l,g,h⟩ a with|none=>rfl|some p=>(cases p<;>try rfl);simp only[c73];rename_i n off;cases h[n]? with|none=>rfl|some o=>cases o<;>rfl
@[simp]theorem d3o(s:Nat)(agg:Bool)(a x:PX):opv cf (.h (.storer s agg a x)) ⟨V,l,g,h⟩=match addr ⟨V,l,g,h⟩ a,rd ⟨V,l,g,h⟩ x with|some (.ptr n off),some v=>if Dw v then none else(match h[n]? with|some (.cells cs)=>(match BV s agg cs off v with|some cs=>some (.dead,⟨V,l,g,h.set n (.cells cs)⟩)|none=>none)|_=>none)|_,_=>none:=by simp only[opv,BC];cases addr ⟨V,l,g,h⟩ a with|none=>rfl|some p=>(cases p<;>try rfl);rename_i n off;cases rd ⟨V,l,g,h⟩ x with|none=>rfl|some v=>simp only;split;{rfl};simp only[B9];cases h[n]? with|none=>rfl|some b=>(cases b<;>try rfl);rename_i cs;simp only[aw];cases BV s agg cs off v<;>rfl
@[simp]theorem d4Y(s:Nat)(agg:Bool)(a x:PX):opv cf (.h (.store s agg a x)) ⟨V,l,g,h⟩=match addr ⟨V,l,g,h⟩ a,tk ⟨V,l,g,h⟩ x with|some (.ptr n off),some (v,⟨V,l,g,h⟩)=>(match h[n]? with|some (.cells cs)=>(match BV s agg cs off v with|some cs=>some (.dead,⟨V,l,g,h.set n (.cells cs)⟩)|none=>none)|_=>none)|_,_=>none:=by simp only[opv,BC];cases addr ⟨V,l,g,h⟩ a with|none=>rfl|some p=>(cases p<;>try rfl);cases tk ⟨V,l,g,h⟩ x with|none=>rfl|some r=>obtain⟨v,⟨c,l2,b,h2⟩⟩:=r;simp only[c73];rename_i n off;cases h2[n]? with|none=>rfl|some o=>(cases o<;>try rfl);rename_i cs;simp only[aw];cases BV s agg cs off v<;>rfl
def I7(b take:Bool)(a:PV)(n:Option Nat)(es:List (PV×PV))(st:St):Option (Nat×PV)->Option (PV×St)|some (i,v)=>if take&&!b&&M3 v then some (v,BW st (n.getD 0) (.map (es.modify i λe=>(e.1,dem e.2))))else some (if b then .tuple [dem v,.bool true]else dem v,st)|none=>some (if b then .tuple [a,.bool false]else a,st)
@[simp]theorem d3p(b take:Bool)(a:PV)(n:Option Nat)(es:List (PV×PV))(st:St):I7 b take a n es st none=some (if b then .tuple [a,.bool false]else a,st):=rfl
@[simp]theorem d3q(b:Bool)(a:PV)(n:Option Nat)(es:List (PV×PV))(st:St)(i:Nat)(v:PV):I7 b false a n es st (some (i,v))=some (if b then .tuple [dem v,.bool true]else dem v,st):=by simp[I7]
@[simp]theorem d3r(a:PV)(n:Nat)(es:List (PV×PV))(i:Nat)(v:PV):I7 false true a (some n) es ⟨V,l,g,h⟩ (some (i,v))=if M3 v then some (v,⟨V,l,g,h.set n (.map (es.modify i λe=>(e.1,dem e.2)))⟩)else some (dem v,⟨V,l,g,h⟩):=by simp[I7]
@[simp]theorem d4Z(d take a:Bool)(c:List EK)(b:PV)(m x:PX):opv cf (.h (.lookup d take a c b m x)) ⟨V,l,g,h⟩=match rd ⟨V,l,g,h⟩ m,rd ⟨V,l,g,h⟩ x with|some (.map n),some k=>(match CQ ⟨V,l,g,h⟩ n with|some es=>(match C0 a c k es 0 with|some r=>I7 d take b n es ⟨V,l,g,h⟩ r|none=>none)|none=>none)|_,_=>none:=by simp only[opv,BC];cases rd ⟨V,l,g,h⟩ m with|none=>rfl|some p=>(cases p<;>try rfl);rename_i n;cases rd ⟨V,l,g,h⟩ x with|none=>rfl|some k=>simp only;cases CQ ⟨V,l,g,h⟩ n with|none=>rfl|some es=>simp only[aw];cases C0 a c k es 0 with|none=>rfl|some r=>cases r<;>rfl
def It(es:List (PV×PV))(k v:PV):Option (Nat×PV)->List (PV×PV)|some (i,_)=>es.set i (k,v)|none=>es++[(k,v)]
@[simp]theorem d1y(es:List (PV×PV))(k v:PV):It es k v none=es++[(k,v)]:=rfl
@[simp]theorem c1o(es:List (PV×PV))(k v:PV)(i:Nat)(u:PV):It es k v (some (i,u))=es.set i (k,v):=rfl
@[simp]theorem d9g(a:Bool)(b:List EK)(m k v:PX):opv cf (.h (.mset a b m k v)) ⟨V,l,g,h⟩=match rd ⟨V,l,g,h⟩ m,rd ⟨V,l,g,h⟩ k,tk ⟨V,l,g,h⟩ v with|some (.map (some n)),some k,some (v,⟨V,l,g,h⟩)=>(match h[n]? with|some (.map es)=>(match C0 a b k es 0 with|some r=>some (.dead,⟨V,l,g,h.set n (.map (It es k v r))⟩)|none=>none)|_=>none)|_,_,_=>none:=by simp only[opv,BC];cases rd ⟨V,l,g,h⟩ m with|none=>rfl|some p=>(cases p<;>try rfl);rename_i n;cases n with|none=>rfl|some n=>cases rd ⟨V,l,g,h⟩ k with|none=>rfl|some k=>cases tk ⟨V,l,g,h⟩ v with|none=>rfl|some r=>obtain⟨v,⟨d,l2,c,h2⟩⟩:=r;simp only[c74];cases h2[n]? with|none=>rfl|some o=>(cases o<;>try rfl);rename_i es;simp only[aw];cases C0 a b k es 0 with|none=>rfl|some r=>cases r<;>rfl
@[simp]theorem d40(k:Nat)(a b:List PX):opv cf (.h (.mkfunc k a b)) ⟨V,l,g,h⟩=match Dx ⟨V,l,g,h⟩ a with|some (f,st)=>(match Dx st b with|some (c,st)=>some (.func k f c,st)|none=>none)|none=>none:=by simp only[opv,BC];cases Dx ⟨V,l,g,h⟩ a with|none=>rfl|some r=>simp only[aw];cases Dx r.2 b<;>rfl
@[simp]theorem d7s(c:Nat)(a:Bool)(x:PX):opv cf (.h (.isnil c a x)) ⟨V,l,g,h⟩=match rd ⟨V,l,g,h⟩ x with|some p=>(match IH c p with|some b=>some (.bool (if a then !b else b),⟨V,l,g,h⟩)|none=>none)|none=>none:=by simp only[opv,BC];cases rd ⟨V,l,g,h⟩ x with|none=>rfl|some p=>simp only[aw];cases IH c p<;>rfl
@[simp]theorem d41(x:PX):opv cf (.h (.nilchk x)) ⟨V,l,g,h⟩=match addr ⟨V,l,g,h⟩ x with|some (.ptr n o)=>some (.ptr n o,⟨V,l,g,h⟩)|some (.cptr cs)=>some (.cptr cs,⟨V,l,g,h⟩)|some (.lptr s g0 o)=>some (.lptr s g0 o,⟨V,l,g,h⟩)|_=>none:=rfl
@[simp]theorem d7t(s:Nat)(agg:Bool)(a:PX):opv cf (.h (.loadc s agg a)) ⟨V,l,g,h⟩=match rd ⟨V,l,g,h⟩ a with|some (.cptr cs)=>sv (BE s agg cs 0) ⟨V,l,g,h⟩|_=>none:=by simp only[opv,BC,Hy];rfl
@[simp]theorem d7u(k:Nat)(args:List PX):opv cf (.h (.call k args)) ⟨V,l,g,h⟩=match rdAll ⟨V,l,g,h⟩ args with|some vs=>(match cf k vs h with|some (r,h)=>some (dem r,⟨V,l,g,h⟩)|none=>none)|none=>none:=by simp only[opv,BC];cases rdAll ⟨V,l,g,h⟩ args with|none=>rfl|some vs=>simp only[aw];cases cf k vs h<;>rfl
@[simp]theorem d42(tab:List (Nat×Nat×Option (Nat×Bool)))(x:PX)(args:List PX):opv cf (.h (.icall tab x args)) ⟨V,l,g,h⟩=match FC ⟨V,l,g,h⟩ tab (rd ⟨V,l,g,h⟩ x)with|some m=>(match rdAll ⟨V,l,g,h⟩ args with|some vs=>(match cf m.1 (m.2::vs) h with|some (r,h)=>some (dem r,⟨V,l,g,h⟩)|none=>none)|none=>none)|none=>none:=by simp only[opv,BC];cases FC ⟨V,l,g,h⟩ tab (rd ⟨V,l,g,h⟩ x)with|none=>rfl|some m=>simp only[aw];cases rdAll ⟨V,l,g,h⟩ args with|none=>rfl|some vs=>simp only[aw];cases cf m.1 (m.2::vs) h<;>rfl
@[simp]theorem d43(k:Nat)(args:List PX):opv cf (.h (.zcall k args)) ⟨V,l,g,h⟩=match rdAll ⟨V,l,g,h⟩ args with|some vs=>if BN (Fs h vs)then(match cf k (Fs h vs) []with|some (r,a)=>if BQ (frz a r)then some (dem (frz a r),⟨V,l,g,FB (HA vs) h⟩)else none|none=>none)else none|none=>none:=by simp only[opv,BC];cases rdAll ⟨V,l,g,h⟩ args with|none=>rfl|some vs=>simp only[aw];cases cf k (Fs h vs) []<;>rfl
@[simp]theorem d44(k:Nat)(args:List PX):opv cf (.h (.rcall k args)) ⟨V,l,g,h⟩=match rdAll ⟨V,l,g,h⟩ args with|some vs=>(match cf k vs h with|some (r,a)=>same ⟨V,l,g,h⟩ (r,a)|none=>none)|none=>none:=by simp only[opv,BC];cases rdAll ⟨V,l,g,h⟩ args with|none=>rfl|some vs=>simp only[aw];cases cf k vs h<;>rfl
@[simp]theorem e0w(r:PV):same ⟨V,l,g,h⟩ (r,h)=some (dem r,⟨V,l,g,h⟩):=by simp[same]
@[simp]theorem d45(x:PX)(args:List PX):opv cf (.h (.callv x args)) ⟨V,l,g,h⟩=match rd ⟨V,l,g,h⟩ x,rdAll ⟨V,l,g,h⟩ args with|some (.func k f c),some vs=>(match cf k (f++vs++c) h with|some (r,h)=>some (dem r,⟨V,l,g,h⟩)|none=>none)|_,_=>none:=by simp only[opv,BC];cases rd ⟨V,l,g,h⟩ x with|none=>rfl|some p=>(cases p<;>try rfl);rename_i k f c;cases rdAll ⟨V,l,g,h⟩ args with|none=>rfl|some vs=>simp only;cases cf k (f++vs++c) h<;>rfl
@[simp]theorem d7v(x:PX)(args:List PX):opv cf (.callv x args) ⟨V,l,g,h⟩=match rd ⟨V,l,g,h⟩ x,rdAll ⟨V,l,g,h⟩ args with|some (.func k f c),some vs=>if BN (f++vs++c)then(match cf k (f++vs++c) []with|some (r,_)=>if BQ r then some (dem r,⟨V,l,g,h⟩)else none|none=>none)else none|_,_=>none:=by simp only[opv];cases rd ⟨V,l,g,h⟩ x with|none=>rfl|some p=>cases p<;>try rfl
attribute[simp]IH vague
@[simp]theorem d7w(str:Bool)(s:Nat)(x:PX)(lo hi:Option PX):opv cf (.slice str s x lo hi) ⟨V,l,g,h⟩=match str,rd ⟨V,l,g,h⟩ x with|true,some (.str t)=>(match bound ⟨V,l,g,h⟩ hi t.length t.length with|some b=>(match bound ⟨V,l,g,h⟩ lo 0 b with|some a=>some (.str ((t.take b).drop a),⟨V,l,g,h⟩)|none=>none)|none=>none)|false,some (.list _ es)=>if B0 s es then(match bound ⟨V,l,g,h⟩ hi es.length es.length with|some b=>(match bound ⟨V,l,g,h⟩ lo 0 b with|some a=>some (.list false ((es.take b).drop a),⟨V,l,g,h⟩)|none=>none)|none=>none)else none|false,some .nils=>(match bound ⟨V,l,g,h⟩ hi 0 0 with|some b=>(match bound ⟨V,l,g,h⟩ lo 0 b with|some a=>some (.nils,⟨V,l,g,h⟩)|none=>none)|none=>none)|false,some (.rowp n sz agg len)=>if sz=s then(match bound ⟨V,l,g,h⟩ hi len len with|some b=>(match bound ⟨V,l,g,h⟩ lo 0 b with|some a=>some (if a=0 then .rowp n sz agg b else .rows n sz agg a (b-a),⟨V,l,g,h⟩)|none=>none)|none=>none)else none|_,_=>none:=by simp only[opv];cases str;{cases rd ⟨V,l,g,h⟩ x with|none=>rfl|some p=>(cases p<;>try rfl);(all_goals simp only);all_goals first|(split;{cases bound ⟨V,l,g,h⟩ hi _ _ with|none=>rfl|some b=>simp only[aw];cases bound ⟨V,l,g,h⟩ lo 0 b<;>rfl};rfl)|(cases bound ⟨V,l,g,h⟩ hi _ _ with|none=>rfl|some b=>simp only[aw];cases bound ⟨V,l,g,h⟩ lo 0 b<;>rfl)};cases rd ⟨V,l,g,h⟩ x with|none=>rfl|some p=>(cases p<;>try rfl);simp only;cases bound ⟨V,l,g,h⟩ hi _ _ with|none=>rfl|some b=>simp only[aw];cases bound ⟨V,l,g,h⟩ lo 0 b<;>rfl
end
def wpL(L:Nat->Option PFunc)(c:PC)(st:St)(Q:PExit->St->Prop):Prop:=match evL L c st with|some (e,a)=>Q e a|none=>False
section
variable{L:Nat->Option PFunc}{V l:List PV}{g:Nat}{h:List PObj}{Q:PExit->St->Prop}
theorem HW{c:PC}{st:St}:wpL L c st Q↔∃e st',evL L c st=some (e,st')/\Q e st':=by unfold wpL;cases evL L c st with|none=>simp|some r=>obtain⟨e,st'⟩:=r;constructor;{intro h;exact⟨e,st',rfl,h⟩};rintro⟨d,a,b,h2⟩;cases b;exact h2
@[simp]theorem d9h:wpL L .skip ⟨V,l,g,h⟩ Q=Q .normal ⟨V,l,g,h⟩:=by simp only[wpL,c9T]
@[simp]theorem d9i(id:Nat):wpL L (.exit id) ⟨V,l,g,h⟩ Q=Q (.exit id) ⟨V,l,g,h⟩:=by simp only[wpL,c9U]
@[simp]theorem e0y:wpL L .ret ⟨V,l,g,h⟩ Q=Q .ret ⟨V,l,g,h⟩:=by simp only[wpL,d2S]
def UM(r:Option St)(K:St->Prop):Prop:=match r with|some st=>K (closed st)|none=>False
@[simp]theorem d46(V l:List PV)(g:Nat)(h:List PObj)(K:St->Prop):UM (some ⟨V,l,g,h⟩) K=K ⟨V,[],g,h⟩:=rfl
@[simp]theorem d47(K:St->Prop):UM none K=False:=rfl
@[simp]theorem d48(a:List PO):wpL L (.region a) ⟨V,l,g,h⟩ Q=UM (D7 (Bu L) a ⟨V,l,g,h⟩) (Q .normal):=by simp only[wpL,b9s];cases D7 (Bu L) a ⟨V,l,g,h⟩<;>rfl
def PG(L:Nat->Option PFunc)(r:Option St)(x:PX)(a b:PC)(Q:PExit->St->Prop):Prop:=match r with|some st=>(match rd st x with|some (.bool t)=>if t=true then wpL L a (closed st) Q else wpL L b (closed st) Q|_=>False)|none=>False
@[simp]theorem d49(x:PX)(a b:PC):PG L (some ⟨V,l,g,h⟩) x a b Q=match rd ⟨V,l,g,h⟩ x with|some (.bool t)=>if t=true then wpL L a ⟨V,[],g,h⟩ Q else wpL L b ⟨V,[],g,h⟩ Q|_=>False:=rfl
@[simp]theorem d5a(x:PX)(a b:PC):PG L none x a b Q=False:=rfl
@[simp]theorem d5b(c:List PO)(x:PX)(a b:PC):wpL L (.branch c x a b) ⟨V,l,g,h⟩ Q=PG L (D7 (Bu L) c ⟨V,l,g,h⟩) x a b Q:=by simp only[wpL,b9t,PG];cases D7 (Bu L) c ⟨V,l,g,h⟩with|none=>rfl|some st=>simp only;cases rd st x with|none=>rfl|some v=>(cases v<;>try rfl);rename_i t;cases t<;>rfl
def GY(L:Nat->Option PFunc)(b:PC)(Q:PExit->St->Prop):PExit->St->Prop|.normal,st=>wpL L b st Q|.after _ _ _,_=>False|e,st=>Q e st
@[simp]theorem d3y(b:PC)(st:St):GY L b Q .normal st=wpL L b st Q:=rfl
@[simp]theorem d7B(b:PC)(i:Nat)(st:St):GY L b Q (.exit i) st=Q (.exit i) st:=rfl
@[simp]theorem d9j(b:PC)(st:St):GY L b Q .ret st=Q .ret st:=rfl
@[simp]theorem d7C(b:PC)(v:PV)(st:St):GY L b Q (.boom v) st=Q (.boom v) st:=rfl
@[simp]theorem e0z(a b:PC):wpL L (.seq a b) ⟨V,l,g,h⟩ Q=wpL L a ⟨V,l,g,h⟩ (GY L b Q):=by simp only[wpL,d2T];rcases evL L a ⟨V,l,g,h⟩with _|⟨e,st⟩;{rfl};cases e<;>rfl
def Gx(id:Nat)(Q:PExit->St->Prop):PExit->St->Prop|.exit i,st=>if i=id then Q .normal st else Q (.exit i) st|.after _ _ _,_=>False|e,st=>Q e st
@[simp]theorem d3z(id:Nat)(v:PV)(st:St):Gx id Q (.boom v) st=Q (.boom v) st:=rfl
@[simp]theorem d0v(id:Nat)(st:St):Gx id Q .normal st=Q .normal st:=rfl
@[simp]theorem d5c(id:Nat)(st:St):Gx id Q .ret st=Q .ret st:=rfl
@[simp]theorem d3A(id i:Nat)(st:St):Gx id Q (.exit i) st=if i=id then Q .normal st else Q (.exit i) st:=rfl
@[simp]theorem d7D(id:Nat)(c:PC):wpL L (.block id c) ⟨V,l,g,h⟩ Q=wpL L c ⟨V,l,g,h⟩ (Gx id Q):=by simp only[wpL,c7Y];rcases evL L c ⟨V,l,g,h⟩with _|⟨e,st⟩;{rfl};(cases e<;>try rfl);rename_i i;simp only[Gx];by_cases hi:i=id<;>simp[hi]
def CO(L:Nat->Option PFunc)(c:PC)(Q:PExit->St->Prop):PExit->St->Prop:=GY L (.loop c) Q
@[simp]theorem d1z(c:PC)(st:St):CO L c Q .normal st=wpL L (.loop c) st Q:=rfl
@[simp]theorem d5d(c:PC)(i:Nat)(st:St):CO L c Q (.exit i) st=Q (.exit i) st:=rfl
@[simp]theorem d7E(c:PC)(st:St):CO L c Q .ret st=Q .ret st:=rfl
@[simp]theorem d5e(c:PC)(v:PV)(st:St):CO L c Q (.boom v) st=Q (.boom v) st:=rfl
theorem Ej(c:PC)(st:St):wpL L (.loop c) st Q=wpL L c st (CO L c Q):=by unfold wpL;rw[c9V];rcases evL L c st with _|⟨e,a⟩;{rfl};cases e<;>rfl
def PH(r:Option (Option PV×St))(Q:PExit->St->Prop):Prop:=match r with|some (none,st)=>Q .normal (closed st)|some (some v,st)=>Q (.boom v) (closed st)|none=>False
@[simp]theorem d7F:PH (some (none,⟨V,l,g,h⟩)) Q=Q .normal ⟨V,[],g,h⟩:=rfl
@[simp]theorem d5f(v:PV):PH (some (some v,⟨V,l,g,h⟩)) Q=Q (.boom v) ⟨V,[],g,h⟩:=rfl
@[simp]theorem d5g:PH none Q=False:=rfl
@[simp]theorem d3B(a:List PO):wpL L (.bregion a) ⟨V,l,g,h⟩ Q=PH (Di (Bu L) (BZ L) 0 a ⟨V,List.replicate a.length .dead,g,h⟩) Q:=by simp only[wpL,b7T];rcases Di (Bu L) (BZ L) 0 a ⟨V,List.replicate a.length .dead,g,h⟩with _|⟨_|v,st⟩<;>rfl
def M1(L:Nat->Option PFunc)(r:Option (Option PV×St))(x:PX)(a b:PC)(Q:PExit->St->Prop):Prop:=match r with|some (none,st)=>(match rd st x with|some (.bool t)=>if t=true then wpL L a (closed st) Q else wpL L b (closed st) Q|_=>False)|some (some v,st)=>Q (.boom v) (closed st)|none=>False
@[simp]theorem d5h(x:PX)(a b:PC):M1 L (some (none,⟨V,l,g,h⟩)) x a b Q=match rd ⟨V,l,g,h⟩ x with|some (.bool t)=>if t=true then wpL L a ⟨V,[],g,h⟩ Q else wpL L b ⟨V,[],g,h⟩ Q|_=>False:=rfl
@[simp]theorem d3C(v:PV)(x:PX)(a b:PC):M1 L (some (some v,⟨V,l,g,h⟩)) x a b Q=Q (.boom v) ⟨V,[],g,h⟩:=rfl
@[simp]theorem d3D(x:PX)(a b:PC):M1 L none x a b Q=False:=rfl
@[simp]theorem d3E(c:List PO)(x:PX)(a b:PC):wpL L (.bbranch c x a b) ⟨V,l,g,h⟩ Q=M1 L (Di (Bu L) (BZ L) 0 c ⟨V,List.replicate c.length .dead,g,h⟩) x a b Q:=by simp only[wpL,b7U,M1];rcases Di (Bu L) (BZ L) 0 c ⟨V,List.replicate c.length .dead,g,h⟩with _|⟨_|v,st⟩;{rfl};{simp only;cases rd st x with|none=>rfl|some v=>(cases v<;>try rfl);rename_i t;cases t<;>rfl};rfl
def PJ(r:Option St)(t:Nat)(x:PX)(Q:PExit->St->Prop):Prop:=match r with|some st=>(match rd st x with|some p=>Q (.boom (.iface t p)) (closed st)|none=>False)|none=>False
@[simp]theorem d3F(t:Nat)(x:PX):PJ (some ⟨V,l,g,h⟩) t x Q=match rd ⟨V,l,g,h⟩ x with|some p=>Q (.boom (.iface t p)) ⟨V,[],g,h⟩|none=>False:=rfl
@[simp]theorem d3G(t:Nat)(x:PX):PJ none t x Q=False:=rfl
@[simp]theorem d7G(a:List PO)(t:Nat)(x:PX):wpL L (.raise a t x) ⟨V,l,g,h⟩ Q=PJ (D7 (Bu L) a ⟨V,l,g,h⟩) t x Q:=by simp only[wpL,c7Z,PJ];cases D7 (Bu L) a ⟨V,l,g,h⟩with|none=>rfl|some st=>simp only;cases rd st x<;>rfl
def M2(a:Nat)(cs:List PV)(Q:PExit->St->Prop):PExit->St->Prop|.normal,st=>Q (.after a cs none) st|.ret,st=>Q (.after a cs none) st|.boom v,st=>Q (.after a cs (some v)) st|_,_=>False
@[simp]theorem d0x(a:Nat)(cs:List PV)(st:St):M2 a cs Q .normal st=Q (.after a cs none) st:=rfl
@[simp]theorem d5i(a:Nat)(cs:List PV)(st:St):M2 a cs Q .ret st=Q (.after a cs none) st:=rfl
@[simp]theorem d3H(a:Nat)(cs:List PV)(v:PV)(st:St):M2 a cs Q (.boom v) st=Q (.after a cs (some v)) st:=rfl
@[simp]theorem d3I(a:Nat)(cs:List PV)(i:Nat)(st:St):M2 a cs Q (.exit i) st=False:=rfl
theorem U2(b:Nat)(a:List PX)(c:PC){cs:List PV}(hn:c.NR=true)(d:rdAll ⟨V,l,g,h⟩ a=some cs):wpL L (.guarded b a c) ⟨V,l,g,h⟩ Q=wpL L c ⟨V,l,g,h⟩ (M2 b cs Q):=by simp only[wpL,c2X hn,d];rcases evL L c ⟨V,l,g,h⟩with _|⟨e,st⟩;{rfl};cases e<;>rfl
def Hp(L:Nat->Option PFunc)(f:PFunc)(r:Out×List PObj):PExit->St->Prop|.normal,st=>∃v,Dy st f.results=some v/\r=(.val v,Cu st.vars f.results st.heap)|.ret,st=>∃v,Dy st f.results=some v/\r=(.val v,Cu st.vars f.results st.heap)|.boom v,st=>r=(.boom v,st.heap)|.after c b v,st=>f.code.NR=true/\∃a x,D1 L c (v.getD .nilIface::b) st.heap=some a/\Dy {st with heap:=a} f.results=some x/\r=(.val x,Cu st.vars f.results a)|.exit _,_=>False
@[simp]theorem X6(f:PFunc)(r:Out×List PObj):Hp L f r .normal ⟨V,l,g,h⟩=∃v,Dy ⟨V,l,g,h⟩ f.results=some v/\r=(.val v,Cu V f.results h):=rfl
@[simp]theorem d9k(f:PFunc)(r:Out×List PObj):Hp L f r .ret ⟨V,l,g,h⟩=∃v,Dy ⟨V,l,g,h⟩ f.results=some v/\r=(.val v,Cu V f.results h):=rfl
@[simp]theorem c8h(f:PFunc)(r:Out×List PObj)(v:PV):Hp L f r (.boom v) ⟨V,l,g,h⟩=(r=(.boom v,h)):=rfl
@[simp]theorem c5Z(f:PFunc)(r:Out×List PObj)(b:Nat)(cs:List PV)(v:Option PV):Hp L f r (.after b cs v) ⟨V,l,g,h⟩=(f.code.NR=true/\∃a x,D1 L b (v.getD .nilIface::cs) h=some a/\Dy ⟨V,l,g,a⟩ f.results=some x/\r=(.val x,Cu V f.results a)):=rfl
theorem c1X{f:PFunc}{args:List PV}{hp:List PObj}{r:Out×List PObj}(c:f.code.isRound=false)(b:wpL L f.code ⟨args.map dem++List.replicate (f.nv-f.params) .dead,[],0,hp⟩ (Hp L f r)):EY (evL L) (D1 L) f args hp=some r:=by rw[HW]at b;obtain⟨e,st,h,h2⟩:=b;unfold EY;split;{rename_i a;rw[a]at c;simp[PC.isRound]at c};rw[h];cases e with|normal=>obtain⟨v,a,rfl⟩:=h2;simp only[a];rfl|ret=>obtain⟨v,a,rfl⟩:=h2;simp only[a];rfl|exit i=>exact h2.elim|boom v=>simp only[Hp]at h2;subst h2;rfl|after l j v=>obtain⟨a,k,x,d,g,rfl⟩:=h2;simp only[a,Bool.true_eq_false,if_false,d,aw,g,bq]
theorem EQ{k:Nat}{f:PFunc}{args:List PV}{hp:List PObj}{r:Out×List PObj}(hf:L k=some f)(a:args.length=f.params)(c:wpL L f.code ⟨args.map dem++List.replicate (f.nv-f.params) .dead,[],0,hp⟩ (Hp L f r))(hs:f.split=false:=by rfl)(b:f.prim=none:=by rfl)(d:f.code.isRound=false:=by rfl):BZ L k args hp=some r:=ZV hf a (c1X d c) hs b
theorem c8i{k:Nat}{f:PFunc}{args:List PV}{hp:List PObj}{r:PV×List PObj}(hf:L k=some f)(b:args.length=f.params)(d:wpL L f.code ⟨args.map dem++List.replicate (f.nv-f.params) .dead,[],0,hp⟩ (Hp L f (.val r.1,r.2)))(hs:f.split=false:=by rfl)(c:f.prim=none:=by rfl)(a:f.code.isRound=false:=by rfl):Bu L k args hp=some r:=c9W hf b (c1X a d) hs c a
def GX(rs:List PRes)(r:PV×List PObj)(e:PExit)(st:St):Prop:=(e=.normal\/e=.ret)/\Dy st rs=some r.1/\Cu st.vars rs st.heap=r.2
@[simp]theorem d3J(rs:List PRes)(r:PV×List PObj):GX rs r .normal ⟨V,l,g,h⟩=(Dy ⟨V,l,g,h⟩ rs=some r.1/\Cu V rs h=r.2):=by simp[GX]
@[simp]theorem d9l(rs:List PRes)(r:PV×List PObj):GX rs r .ret ⟨V,l,g,h⟩=(Dy ⟨V,l,g,h⟩ rs=some r.1/\Cu V rs h=r.2):=by simp[GX]
theorem BB{k:Nat}{f:PFunc}{args:List PV}{hp:List PObj}{r:PV×List PObj}(hf:L k=some f)(b:args.length=f.params)(a:wpL L f.code ⟨args.map dem++List.replicate (f.nv-f.params) .dead,[],0,hp⟩ (GX f.results r))(hs:f.split=false:=by rfl)(c:f.prim=none:=by rfl)(h:f.code.isRound=false:=by rfl):Bu L k args hp=some r:=by refine c1n hf b ?_ hs c h;rw[HW]at a;obtain⟨e,st,i,h2,d,g⟩:=a;rw[i];rcases h2 with rfl|rfl<;>simp only[Ie,d,g]
theorem LU{k:Nat}{f:PFunc}{own:Option Nat}{args:List PV}{hp:List PObj}{r:PV×List PObj}(hf:L k=some f)(c:args.length=f.params)(a:wpL L f.code ⟨Gh own args++List.replicate (f.nv-f.params) .dead,[],0,hp⟩ (GX f.results r))(hs:f.split=false:=by rfl)(d:f.prim=none:=by rfl)(i:f.code.isRound=false:=by rfl)(b:f.params<1000:=by decide):Bu L k (EJ own args) hp=some r:=by refine c71 hf c ?_ hs d b;rw[HW]at a;obtain⟨e,st,j,h2,g,h⟩:=a;unfold EZ;rw[ah (by rw[i];simp),j];rcases h2 with rfl|rfl<;>simp only[g,h,bq]
def BT(rs:List PRes)(P:PV×List PObj->Prop)(e:PExit)(st:St):Prop:=(e=.normal\/e=.ret)/\∃v,Dy st rs=some v/\P (v,Cu st.vars rs st.heap)
theorem Do{k:Nat}{f:PFunc}{args:List PV}{hp:List PObj}{P:PV×List PObj->Prop}(hf:L k=some f)(b:args.length=f.params)(a:wpL L f.code ⟨args.map dem++List.replicate (f.nv-f.params) .dead,[],0,hp⟩ (BT f.results P))(hs:f.split=false:=by rfl)(c:f.prim=none:=by rfl)(h:f.code.isRound=false:=by rfl):∃r,Bu L k args hp=some r/\P r:=by rw[HW]at a;obtain⟨e,st,i,h2,v,d,g⟩:=a;refine⟨(v,Cu st.vars f.results st.heap),c1n hf b ?_ hs c h,g⟩;rw[i];rcases h2 with rfl|rfl<;>simp only[Ie,d]
end
end PI
namespace PI
section
variable{L:Nat->Option PFunc}{Q:PExit->St->Prop}
def upd(V:List PV):List (Nat×PV)->List PV|[]=>V|(k,v)::r=>upd (V.set k v) r
@[simp]theorem e0A(V:List PV):upd V []=V:=rfl
@[simp]theorem d9m(V:List PV)(k:Nat)(v:PV)(r:List (Nat×PV)):upd V ((k,v)::r)=upd (V.set k v) r:=rfl
theorem c4j{l:Type}{c:PC}(n:Nat)(a:Nat->Bool)(S:Nat->l->St)(step:∀i,i<n->a i=true->∀x,(∀y,wpL L (.loop c) (S (i+1) y) Q)->wpL L c (S i x) (CO L c Q))(b:∀i,i<n->a i=false->(∀k,k<i->a k=true)->∀x,wpL L c (S i x) (CO L c Q))(f:(∀k,k<n->a k=true)->∀x,wpL L c (S n x) (CO L c Q))(x:l):wpL L (.loop c) (S 0 x) Q:=by(have j:∀(d i:Nat),i+d=n->(∀k,k<i->a k=true)->∀x,wpL L (.loop c) (S i x) Q:=by intro d;induction d with|zero=>intro i hi g x;rw[Ej];(have:i=n:=by omega);subst this;exact f g x|succ d m=>intro i hi g x;rw[Ej];cases ho:a i with|true=>refine step i (by omega) ho x (m (i+1) (by omega) ?_);intro k o;by_cases e:k=i;{rw[e];exact ho};exact g k (by omega)|false=>exact b i (by omega) ho g x);exact j n 0 (by omega) (λk h=>absurd h (Nat.not_lt_zero k)) x
theorem Oo{e:Type}{c:PC}{V:List PV}{g:Nat}{h:List PObj}(n:Nat)(d:Nat->Bool)(M:Nat->e->List (Nat×PV))(H:Nat->e->List PObj)(f:e)(step:∀i,i<n->d i=true->∀x,(∀y,wpL L (.loop c) ⟨upd V (M (i+1) y),[],g,H (i+1) y⟩ Q)->wpL L c ⟨upd V (M i x),[],g,H i x⟩ (CO L c Q))(a:∀i,i<n->d i=false->(∀k,k<i->d k=true)->∀x,wpL L c ⟨upd V (M i x),[],g,H i x⟩ (CO L c Q))(b:(∀k,k<n->d k=true)->∀x,wpL L c ⟨upd V (M n x),[],g,H n x⟩ (CO L c Q))(l:upd V (M 0 f)=V)(j:H 0 f=h):wpL L (.loop c) ⟨V,[],g,h⟩ Q:=by have:=c4j n d (λi x=>⟨upd V (M i x),[],g,H i x⟩) step a b f;rw[l,j]at this;exact this
theorem SL{e:Type}{c:PC}{V:List PV}{g:Nat}{h:List PObj}(n:Nat)(d:Nat->Bool)(M:Nat->e->List (Nat×PV))(G:Nat->e->Nat)(H:Nat->e->List PObj)(f:e)(step:∀i,i<n->d i=true->∀x,(∀y,wpL L (.loop c) ⟨upd V (M (i+1) y),[],G (i+1) y,H (i+1) y⟩ Q)->wpL L c ⟨upd V (M i x),[],G i x,H i x⟩ (CO L c Q))(a:∀i,i<n->d i=false->(∀k,k<i->d k=true)->∀x,wpL L c ⟨upd V (M i x),[],G i x,H i x⟩ (CO L c Q))(b:(∀k,k<n->d k=true)->∀x,wpL L c ⟨upd V (M n x),[],G n x,H n x⟩ (CO L c Q))(m:upd V (M 0 f)=V)(l:G 0 f=g)(j:H 0 f=h):wpL L (.loop c) ⟨V,[],g,h⟩ Q:=by have:=c4j n d (λi x=>⟨upd V (M i x),[],G i x,H i x⟩) step a b f;rw[m,l,j]at this;exact this
theorem I5{b:Type}{c:PC}{V:List PV}{g:Nat}{h:List PObj}(n:Nat)(M:Nat->b->List (Nat×PV))(H:Nat->b->List PObj)(d:b)(step:∀i,i<n->∀x,(∀y,wpL L (.loop c) ⟨upd V (M (i+1) y),[],g,H (i+1) y⟩ Q)->wpL L c ⟨upd V (M i x),[],g,H i x⟩ (CO L c Q))(a:∀x,wpL L c ⟨upd V (M n x),[],g,H n x⟩ (CO L c Q))(f:upd V (M 0 d)=V)(e:H 0 d=h):wpL L (.loop c) ⟨V,[],g,h⟩ Q:=Oo n (λ_=>true) M H d (λi hi _=>step i hi) (λ_ _ h=>by simp at h) (λ_=>a) f e
end
open Go Go.RowKit
def Gz(t:Nat)(args:List PV)(h:List PObj):Option (List PObj):=match args with|[.nilIface,.ptr _ 0,.ptr _ 0]=>some h|[.iface d (.agg [.int k1 a,.int k2 b,.int k3 c]),.ptr n 0,.ptr m 0]=>if d=t/\n≠m then match h[n]?,h[m]? with|some (.cells [_,_]),some (.cells [_])=>some ((h.set n (.cells [.int k1 a,.int k2 b])).set m (.cells [.int k3 c]))|_,_=>none else none|_=>none
def MS(o:Oper):Bool:=match o.op with|.move _|.assign _|.extract _ _|.alloc _|.store _ _ _|.load _ _|.fieldAddr _ _ _=>true|_=>false
section
variable{P:Program}{w:World}
theorem c7T{o:Oper}(h:MS o=true){ρ:Operand->Value}:(∀r d,(execOp ρ o).run P w=.ok r d->(∃v,r=.value v)\/r=.skip)/\True:=by refine⟨?_,trivial⟩;intro r d a;(have val:∀(s:Sem Value),(do pure (.value (<-s)):Sem Next).run P w=.ok r d->∃v,r=.value v:=by intro s hs;rw[Sem.run_bind]at hs;cases b:s.run P w with|ok v e=>rw[b]at hs;simp only[Result.andThen_ok,Sem.run_pure,Result.ok.injEq]at hs;exact⟨v,hs.1.symm⟩|halt x e=>rw[b]at hs;simp[Result.andThen]at hs);(have c:∀(s:Sem Unit),(do s;pure .skip:Sem Next).run P w=.ok r d->r=.skip:=by intro s hs;rw[Sem.run_bind]at hs;cases b:s.run P w with|ok v e=>rw[b]at hs;simp only[Result.andThen_ok,Sem.run_pure,Result.ok.injEq]at hs;exact hs.1.symm|halt x e=>rw[b]at hs;simp[Result.andThen]at hs);unfold MS at h;unfold execOp at a;cases f:o.op<;>rw[f]at h a<;>simp only[reduceCtorEq,bk]at h;all_goals first|exact .inl (val _ a)|exact .inr (c _ a)|(simp only[Sem.run_pure,Result.ok.injEq]at a;exact .inl ⟨_,a.1.symm⟩)
theorem MT{b:Array Oper}{Q:Exit->Act->List Frame->World->Prop}{cs:List Frame}:∀{l:List Nat}{a:Act}{w:World},(∀i∈l,∀o,b[i]?=some o->MS o=true)->¬LetsOut (λe a w=>Q e a cs w)->wpOps P b (λe a w=>Q e a cs w) l a w->wpOpsSIn (W none) 0 P b Q l a cs w|[],a,w,_,_,h=>h|i::l,a,w,d,f,h=>by simp only[wpOps]at h;simp only[wpOpsSIn];cases ho:b[i]? with|none=>simp only[ho]at h⊢;exact MT (λj c=>d j (by simp[c])) f h|some o=>simp only[ho]at h⊢;refine⟨λ_ _=>F8 _,?_⟩;split at h;{rename_i k;rw[af k];rcases h with h|⟨_,h⟩;{unfold Oper.wp at h;have n:=(c7T (P:=P) (w:=w) (d i (by simp) o ho) (ρ:=a.eval)).1;generalize(execOp a.eval o).run P w=g at h n;cases g with|ok r m=>rcases n r m rfl with⟨v,rfl⟩|rfl;{exact MT (λj c=>d j (by simp[c])) f h};exact MT (λj c=>d j (by simp[c])) f h|halt x m=>cases x<;>simp only[Oper.upon]at h⊢<;>first|exact h|exact h.elim};exact absurd h f};rename_i k;rw[ah k];exact MT (λj c=>d j (by simp[c])) f h
theorem c1c{c:Code}{Q:Exit->Act->List Frame->World->Prop}{a:Act}{cs:List Frame}(h:∀d,wpN none d P c (λe a w=>Q e a cs w) a w):c.wpSIn (W none) 0 P Q a cs w:=by intro b k _ g _ _;obtain⟨e,f,i,q,r⟩:=h b.fn b k cs g rfl;exact⟨e,f,cs,i,rfl,q,r⟩
end
section
variable{E:Env}{N:Nm}{P:Program}
def L0:Nat->Option PFunc:=λ_=>none
theorem Z7(n:Nat):Runs N P L0 n:=by refine⟨⟨?_,?_⟩,?_,?_,?_⟩;{intro k args r h b a;simp[Dn,L0]at a};{intro k own args r b a;simp[Dn,L0]at a};{intro k args o h b a;simp[D2,L0]at a};{intro k y n l d c args o h b _ a;simp[D2,L0]at a};intro k e;simp[II,L0]at e
theorem Z8:DQ N P L0:=by intro k f h;simp[L0]at h
theorem c7U(hE:EnvOk E N)(hP:E.P=P)(gz:P.follows .mixedOrders=true)(se:E.lps=[]){k:Nat}{fn:Func}{ad:Nat}{d:Array Oper}{c2:Code}{vs:List Tmp}{C:List PO}{d5 d6:Tmp}{tA T t:Nat}{z:PV}{nv q:Nat}{o0 o1:Oper}{g:List PV->List PObj->Option (List PObj)}(hf:P.funcs[N.fn k]?=some fn)(hb:fn.body=some (.seq (.region ad d false) c2))(gq:fn.results=#[])(h0:d[0]?=some o0)(ui:∃ts,o0.op=.call {callee:=.builtin .recover,args:=#[],argTypes:=ts})(xg:o0.dst=some d5)(xh:o0.guard=none)(h1:d[1]?=some o1)(xi:o1.op=.typeAssert (.tmp d5) tA T true)(xj:o1.dst=some d6)(xk:o1.guard=none)(hT:N.ty t=T)(sf:∃fs,P.underlying T=some (.struct fs))(hz:KG P T=some z)(mR:∀i,2<=i->∀o,d[i]?=some o->MS o=true)(A9:d5<fn.ntmps)(uj:(C8 d5 vs 0).isNone=true)(vd:vs[q]?=some d6)(fR:vs.Nodup)(fB:∀t∈vs,t<fn.ntmps)(pV:vs.length=nv)(hq:2<=q)(mh:vs[0]?=some 0)(mK:vs[1]?=some 1)(kX:Ht E fn.ntmps vs d false=some C)(pF:(DP E fn.ntmps vs c2).NR=true)(fx:∀p f h h',g (p::f) h=some h'->f.length=2/\∃K:PV,(p=.nilIface/\K=.tuple [z,.bool false]\/∃v,p=.iface t v/\K=.tuple [v,.bool true])/\∃n st1 x st2,DR (Dn (BH L0 0) L0) C (List.range' 2 (d.size-2)) {vars:=(f.map dem++List.replicate (nv-2) PV.dead).set q K,locs:=List.replicate C.length .dead,gen:=0,heap:=h}=some st1/\BH L0 n (DP E fn.ntmps vs c2) (closed st1)=some (x,st2)/\(x=.normal\/x=.ret)/\st2.heap=h'):IM N P k g:=by
 intro p f h h' hg w G D gQ fH fF u hu;obtain⟨fL,K,uk,n,st1,x,st2,xl,xm,hx,gR⟩:=fx p f h h' hg;refine callsDIn_of_wpSIn (F:=W none) hf hb (F8 _) ?_;intro l U oV;refine wpSIn_seq (wpSIn_region ?_);have iA:2<=d.size:=by have:=(cz.1 h1).1;omega
 have mN:List.range d.size=0::1::List.range' 2 (d.size-2):=by obtain⟨m,hm⟩:∃m,d.size=m+2:=⟨d.size-2,by omega⟩;rw[hm,fm,List.range'_succ,List.range'_succ];rfl
 rw[mN];obtain⟨O,Y,B,X,BW,lX,ul⟩:∃O Y,∃B:List Frame,(match recoverD (l::U)with|some (v,B)=>(v,B)|none=>(.nilIface,l::U))=(O,B)/\settle Y=.returning/\B={l with mode:=Y}::U/\VR N w G.fix G.heap O p:=by rcases hu with⟨rfl,rfl⟩|⟨v,rfl,hv⟩;{refine⟨.nilIface,.returning,l::U,?_,rfl,by rw[<-oV],.nilIface⟩;simp[recoverD,oV]};refine⟨v,.panicking [{v,recovered:=true}],_,?_,rfl,rfl,hv⟩;simp[recoverD,oV]
 let J:Act:={tmps:=D++Array.replicate (fn.ntmps-D.size) undef,defers:=[]};have S:∀{Q:Exit->Act->List Frame->World->Prop}{s:List Nat},wpOpsSIn (W none) 0 P d Q s (J.put (some d5) O) B w->wpOpsSIn (W none) 0 P d Q (0::s) J (l::U) w:=by intro Q s hw;obtain⟨ts,ui⟩:=ui;simp only[wpOpsSIn,h0];refine⟨λ_ _=>F8 _,?_⟩;(have um:(execOp J.eval o0).run P w=.ok .recover w:=by simp[execOp,ui,resolve,invoke,builtin]);simp only[Region.wanted,xh,if_true,um,xg];cases hr:recoverD (l::U)with|none=>rw[hr]at X;simp only[ae]at X;obtain⟨rfl,rfl⟩:=X;exact hw|some y=>obtain⟨v,am⟩:=y;rw[hr]at X;simp only[ae]at X;obtain⟨rfl,rfl⟩:=X;exact hw
 refine S ?_;have li:J.tmps.size>=fn.ntmps:=by simp only[J,Array.size_append,Array.size_replicate];omega
 have xn:(J.put (some d5) O).eval (.tmp d5)=O:=by have:d5<J.tmps.size:=ci A9 li;simp[Act.eval,Act.put,cy,dU,this]
 obtain⟨tv,Ba,xo⟩:∃tv,(Instr.typeAssert O tA T true).run P w=.ok tv w/\VR N w G.fix G.heap tv K:=by obtain⟨fs,sf⟩:=sf;rcases uk with⟨rfl,rfl⟩|⟨v,rfl,rfl⟩;{cases ul;obtain⟨zv,z1,z2,_⟩:=Z9 (P:=P) (N:=N) (w:=w) (fix:=G.fix) (hp:=G.heap) hz;refine⟨.tuple #[zv,.bool false],by simp[Instr.typeAssert,Sem.run_bind,run_underlying sf,Result.andThen_ok,z1],.tuple _ _ rfl ?_⟩;intro i c p A hp;match i,A,hp with|0,A,hp=>simp at A hp;subst A hp;exact z2|1,A,hp=>simp at A hp;subst A hp;exact .bool _};cases ul with|iface _ v' _ hv=>refine⟨.tuple #[v',.bool true],by simp[Instr.typeAssert,Sem.run_bind,run_underlying sf,Result.andThen_ok,hT],.tuple _ _ rfl ?_⟩;intro i c p A hp;match i,A,hp with|0,A,hp=>simp at A hp;subst A hp;exact hv|1,A,hp=>simp at A hp;subst A hp;exact .bool _
 let M:Act:=(J.put (some d5) O).put (some d6) tv;have CF:∀{Q:Exit->Act->List Frame->World->Prop}{s:List Nat},wpOpsSIn (W none) 0 P d Q s M B w->wpOpsSIn (W none) 0 P d Q (1::s) (J.put (some d5) O) B w:=by intro Q s hw;simp only[wpOpsSIn,h1];refine⟨λ_ _=>F8 _,?_⟩;(have oK:(execOp (J.put (some d5) O).eval o1).run P w=.ok (.value tv) w:=by simp only[execOp,xi,xn,Sem.run_bind,Ba,Result.andThen_ok,Sem.run_pure]);simp only[Region.wanted,xk,if_true,oK,xj];exact hw
 refine CF ?_;have fE:I9 vs d.toList=true/\Mx fn.ntmps d.toList=true/\Iy E vs d.toList d.toList=some C:=by unfold Ht at kX;split at kX;{rename_i A;simp only[ar]at A;simp only[ak]at kX;obtain⟨ag,h1,h2⟩:=kX;simp only[eQ,bk,if_false,aa]at h2;subst h2;exact⟨A.1.1,A.1.2,h1⟩};simp at kX
 obtain⟨uq,im,ur⟩:=fE;have nm:=OU fR uq;let G0:GS:={G with df:=[]};have jF:FI N w G0 {vars:=(f.map dem++List.replicate (nv-2) PV.dead).set q K,locs:=List.replicate C.length .dead,gen:=0,heap:=h} M vs (Bv vs d.toList):=by(have nF:M.tmps.size=J.tmps.size:=by simp[M,Act.put]);refine⟨?_,?_,?_,?_,?_,rfl,(by intro g b h;have h:G.box g=some b:=h;rw[gQ.only.box]at h;simp at h),gQ.owlt,gQ.fixlt,gQ.heap,gQ.hdom⟩;{have:2<vs.length:=Nat.lt_of_le_of_lt hq (aj.1 vd).1;simp[fL];omega};{intro i I u1 R H;rw[cm]at H;(have xq:I≠d5:=by rintro rfl;have:=Ty R 0;simp at uj;rw[uj]at this;simp at this);by_cases xr:q=i;{subst xr;rw[vd]at R;simp only[aa]at R;subst R;rw[af rfl]at H;split at H;{simp only[aa]at H;subst H;(have jl:M.eval (.tmp d6)=tv:=by have:d6<J.tmps.size:=ci (fB _ (ay vd)) li;simp[M,Act.eval,Act.put,cy,dU,this]);rw[jl];refine SR.of_pure xo ?_;rcases uk with⟨_,rfl⟩|⟨_,_,rfl⟩<;>rfl};simp at H};rw[ah xr]at H;(have xt:I≠d6:=by rintro rfl;have uN:=(aj.1 vd);have jV:=(aj.1 R);obtain⟨p1,p2⟩:=uN;obtain⟨p3,p4⟩:=jV;exact xr ((List.getElem_inj fR).1 (p2.trans p4.symm)));(have jl:M.eval (.tmp I)=J.eval (.tmp I):=by simp only[M,Act.eval,Act.put,cy,dU];rw[ah (Ne.symm xt),ah (Ne.symm xq)]);rw[jl];by_cases hi:i<2;{(have m6:I=i:=by match i,hi with|0,_=>rw[mh]at R;simpa using R.symm|1,_=>rw[mK]at R;simpa using R.symm);subst m6;(have lC:I<f.length:=by rw[fL];exact hi);rw[ap (by simpa using lC)]at H;simp only[br,al lC,bq,aa]at H;subst H;(have rZ:I<D.size:=by rw[fH];exact lC);(have jl:J.eval (.tmp I)=D[I]:=by simp only[J,Act.eval,cy];rw[eS rZ];simp[rZ]);rw[jl];have hv:=fF I D[I] f[I] (by simp[rZ]) (al lC);exact SR.of_pure hv.dem hv.cp_dem};rw[av (by rw[bp,fL];omega)]at H;rw[eM]at H;split at H;{simp at H;subst H;trivial};simp at H};{intro j I u1 _ r5;simp only[eM]at r5;split at r5;{simp at r5;subst r5;trivial};simp at r5};{intro i I hi;rw[nF];exact ci (fB _ (ay hi)) li};intro j I hj;rw[nF];exact ci (OQ im j I hj) li
 refine MT ?_ ?_ ?_;{intro i hi o ho;refine mR i ?_ o ho;rw[List.mem_range'_1]at hi;exact hi.1}
 {rintro⟨a,w,h⟩;simp only[Exit.thenS,bodyPostS]at h;obtain⟨u2,⟨v,hv⟩,_⟩:=h;cases hv}
 refine Tw (L:=L0) Z8 hE hP nm (Z7 0).call (by intro k args h r A;simp[Dn,L0]at A) ur xl jF ?_;intro a' w' V lH he hs;simp only[Exit.thenS];refine c1c λai=>?_;have nF:M.tmps.size=J.tmps.size:=by simp[M,Act.put]
 have fS:=FI.finish (nt:=fn.ntmps) lH (by rw[hs,nF];exact li);refine IA (L:=L0) (rd':=none) Z8 hE hP gz fR n (λm _=>Z7 m) MA xm fS ?_ (.inl rfl) ?_ ?_;{intro ps kb vars hl;rw[se]at hl;simp at hl}
 {rintro⟨a,w,h⟩;simp only[bodyPostS]at h;obtain⟨u2,⟨v,hv⟩,_⟩:=h;cases hv}
 intro a3 w3 Z e yN lA oL xu;have fM:ExtD w G w3 Z:=ExtD.trans (ExtD.of he:ExtD w G0 w' V) oL;have lh:V.df=[]:=he.df;have jb:Z.df=[]:=by(have ab:(∃ms,Z.df=ms++V.df/\Marks w' w3 Z ms/\((DP E fn.ntmps vs c2).NR=true->ms=[]))->Z.df=[]:=by rintro⟨ms,q1,_,q3⟩;rw[q1,q3 pF,lh];rfl);rcases hx with rfl|rfl<;>exact ab xu
 have it:bodyPostS P fn l U (λe Y w'=>(∃v,e=.returned v)/\settle Y=.returning/\∃V,Ext w G w' V/\Between N w' V h') .normal a3 B w3:=by refine⟨by rw[lA.fi.defers,jb],Y,lX,.tuple #[],?_,⟨_,rfl⟩,BW,?_⟩;{unfold results;rw[gq];simp};obtain⟨l1,l2⟩:=KK fM lA (DefW.refl _) (λ_ _=>rfl) st2.vars [];rw[<-gR];exact⟨_,l1,l2⟩
 rcases hx with rfl|rfl<;>(simp only[Fy]at yN;subst yN;exact it)
def Ia:List PO:=[⟨.l,IC,none⟩,⟨.v 4,IC,none⟩,⟨.l,.mov (.v 4),none⟩,⟨.l,.extract 0 (.l 2),none⟩,⟨.l,.extract 1 (.l 2),none⟩,⟨.v 2,.newloc [.int .i64 0,.int .i64 0,.int .i64 0],none⟩,⟨.n,.store 3 true (.v 2) (.l 3),none⟩,⟨.v 3,.take (.l 4),none⟩]
def KU:PC:=.branch [⟨.l,.mov (.v 3),none⟩] (.l 0) (.region [⟨.l,.faddr 0 (.v 2),none⟩,⟨.l,.load 2 true (.l 0) false,none⟩,⟨.l,.faddr 2 (.v 2),none⟩,⟨.l,.load 1 false (.l 2) false,none⟩,⟨.n,.h (.storer 2 true (.v 0) (.l 1)),none⟩,⟨.n,.h (.storer 1 false (.v 1) (.l 3)),none⟩]) .skip
def Jk:PV:=.agg [.int .i64 0,.int .i64 0,.int .i64 0]
theorem d2R{t:Nat}{p:PV}{d:List PV}{h i:List PObj}(g:Gz t (p::d) h=some i):d.length=2/\∃e:PV,(p=.nilIface/\e=.tuple [Jk,.bool false]\/∃v,p=.iface t v/\e=.tuple [v,.bool true])/\∃n st1 x st2,DR (Dn (BH L0 0) L0) Ia (List.range' 2 (8-2)) {vars:=(d.map dem++List.replicate (5-2) PV.dead).set 4 e,locs:=List.replicate Ia.length .dead,gen:=0,heap:=h}=some st1/\BH L0 n KU (closed st1)=some (x,st2)/\(x=.normal\/x=.ret)/\st2.heap=i:=by(have fin:∀{e:PV}{st1:St}{x:PExit}{st2:St},Ei (Dn (BH L0 0) L0) 2 (Ia.drop 2) {vars:=(d.map dem++List.replicate (5-2) PV.dead).set 4 e,locs:=List.replicate Ia.length .dead,gen:=0,heap:=h}=some st1->evL L0 KU (closed st1)=some (x,st2)->(x=.normal\/x=.ret)->st2.heap=i->∃n st1 x st2,DR (Dn (BH L0 0) L0) Ia (List.range' 2 (8-2)) {vars:=(d.map dem++List.replicate (5-2) PV.dead).set 4 e,locs:=List.replicate Ia.length .dead,gen:=0,heap:=h}=some st1/\BH L0 n KU (closed st1)=some (x,st2)/\(x=.normal\/x=.ret)/\st2.heap=i:=by intro e st1 x st2 j h2 k l;obtain⟨n,hn⟩:=DD.1 h2;rw[OV (all:=Ia) rfl]at j;exact⟨n,st1,x,st2,j,hn,k,l⟩);unfold Gz at g;split at g;{rename_i n m f;simp only[dY]at f;obtain⟨rfl,rfl⟩:=f;simp only[aa]at g;subst g;refine⟨rfl,_,.inl ⟨rfl,rfl⟩,fin (st1:=⟨[.ptr n 0,.ptr m 0,.loc 0 [.int .i64 0,.int .i64 0,.int .i64 0],.bool false,.tuple [Jk,.bool false]],[.dead,.dead,.tuple [Jk,.bool false],Jk,.bool false,.dead,.dead,.dead],1,h⟩) (st2:=⟨[.ptr n 0,.ptr m 0,.loc 0 [.int .i64 0,.int .i64 0,.int .i64 0],.bool false,.tuple [Jk,.bool false]],[],1,h⟩) ?_ ?_ (.inl rfl) rfl⟩;{simp[Ia,Jk,IC,BV]};simp[KU]};{rename_i w k1 a k2 b k3 c n m f;simp only[dY]at f;obtain⟨rfl,rfl⟩:=f;split at g;{rename_i s;obtain⟨rfl,u⟩:=s;split at g;{rename_i y z r hn o;simp only[aa]at g;subst g;refine⟨rfl,_,.inr ⟨_,rfl,rfl⟩,fin (st1:=⟨[.ptr n 0,.ptr m 0,.loc 0 [.int k1 a,.int k2 b,.int k3 c],.bool true,.tuple [.agg [.int k1 a,.int k2 b,.int k3 c],.bool true]],[.dead,.dead,.tuple [.agg [.int k1 a,.int k2 b,.int k3 c],.bool true],.agg [.int k1 a,.int k2 b,.int k3 c],.bool true,.dead,.dead,.dead],1,h⟩) (st2:=⟨[.ptr n 0,.ptr m 0,.loc 0 [.int k1 a,.int k2 b,.int k3 c],.bool true,.tuple [.agg [.int k1 a,.int k2 b,.int k3 c],.bool true]],[],1,(h.set n (.cells [.int k1 a,.int k2 b])).set m (.cells [.int k3 c])⟩) ?_ ?_ (.inl rfl) rfl⟩;{simp[Ia,Jk,IC,BV]};(have q:(h.set n (.cells [.int k1 a,.int k2 b]))[m]?=some (.cells [r]):=by rw[ai u];exact o);simp[KU,BV,BE,hn,q,PV.flat,Dw]};simp at g};simp at g};simp at g
theorem Vh(D:EnvOk E N)(F:E.P=P)(n:P.follows .mixedOrders=true)(m:E.lps=[]){k:Nat}{fn:Func}{e:Nat}{a:Array Oper}{g:Code}{tA T t:Nat}{c d:Oper}(hf:P.funcs[N.fn k]?=some fn)(hb:fn.body=some (.seq (.region e a false) g))(B:fn.results=#[])(I:a[0]?=some c)(y:∃ts,c.op=.call {callee:=.builtin .recover,args:=#[],argTypes:=ts})(r:c.dst=some 5)(H:c.guard=none)(J:a[1]?=some d)(x:d.op=.typeAssert (.tmp 5) tA T true)(s:d.dst=some 6)(G:d.guard=none)(C:N.ty t=T)(j:(match P.underlying T with|some (.struct _)=>true|_=>false)=true)(w:KG P T=some Jk)(z:a.size=8)(A:(a.toList.drop 2).all MS=true)(b:fn.ntmps=14)(v:Ht E 14 [0,1,2,3,6] a false=some Ia)(l:DP E 14 [0,1,2,3,6] g=KU):IM N P k (Gz t):=by refine c7U D F n m (vs:=[0,1,2,3,6]) (d5:=5) (d6:=6) (q:=4) (nv:=5) hf hb B I y r H J x s G C (by split at j<;>first|exact⟨_,by assumption⟩|simp at j) w ?_ (by rw[b];decide) rfl rfl (by decide) (by rw[b];decide) rfl (by omega) rfl rfl (by rw[b];exact v) (by rw[b,l];rfl) ?_;{intro i hi o ho;have:=bz.1 A o;refine this (ay (i:=i-2) ?_);rw[dh,show 2+(i-2)=i by omega];simpa using ho};intro p f h K u;have:=d2R u;rw[z,b,l];exact this
end
end PI
namespace PI.Short
open Go(IntKind BinOp UnOp)
abbrev v0:PX:=.v 0
abbrev v1:PX:=.v 1
abbrev v2:PX:=.v 2
abbrev v3:PX:=.v 3
abbrev v4:PX:=.v 4
abbrev v5:PX:=.v 5
abbrev v6:PX:=.v 6
abbrev v7:PX:=.v 7
abbrev v8:PX:=.v 8
abbrev v9:PX:=.v 9
abbrev B2:PX:=.v 10
abbrev B8:PX:=.v 11
abbrev CG:PX:=.v 12
abbrev Ec:PX:=.v 13
abbrev DA:PX:=.v 14
abbrev Ez:PX:=.v 15
abbrev EM:PX:=.v 16
abbrev Fi:PX:=.v 17
abbrev Fw:PX:=.v 18
abbrev FD:PX:=.v 19
abbrev Hg:PX:=.v 20
abbrev Ip:PX:=.v 21
abbrev Ke:PX:=.v 22
abbrev LJ:PX:=.v 23
abbrev LI:PX:=.v 24
abbrev Rm:PX:=.v 25
abbrev NY:PX:=.v 26
abbrev NX:PX:=.v 27
abbrev VI:PX:=.v 28
abbrev v29:PX:=.v 29
abbrev Rg:PX:=.v 30
abbrev VK:PX:=.v 31
abbrev v32:PX:=.v 32
abbrev Rk:PX:=.v 33
abbrev VJ:PX:=.v 34
abbrev v35:PX:=.v 35
abbrev Ri:PX:=.v 36
abbrev v39:PX:=.v 39
abbrev v45:PX:=.v 45
abbrev v46:PX:=.v 46
abbrev v50:PX:=.v 50
abbrev v51:PX:=.v 51
abbrev v53:PX:=.v 53
abbrev v55:PX:=.v 55
abbrev v66:PX:=.v 66
abbrev v70:PX:=.v 70
abbrev v76:PX:=.v 76
abbrev v77:PX:=.v 77
abbrev l0:PX:=.l 0
abbrev l1:PX:=.l 1
abbrev l2:PX:=.l 2
abbrev l3:PX:=.l 3
abbrev l4:PX:=.l 4
abbrev l5:PX:=.l 5
abbrev l6:PX:=.l 6
abbrev l7:PX:=.l 7
abbrev l8:PX:=.l 8
abbrev l9:PX:=.l 9
abbrev BF:PX:=.l 10
abbrev BM:PX:=.l 11
abbrev B3:PX:=.l 12
abbrev Ce:PX:=.l 13
abbrev CK:PX:=.l 14
abbrev CN:PX:=.l 15
abbrev Dd:PX:=.l 16
abbrev DH:PX:=.l 17
abbrev F1:PX:=.l 18
abbrev E2:PX:=.l 19
abbrev Gk:PX:=.l 20
abbrev F3:PX:=.l 21
abbrev FP:PX:=.l 22
abbrev E3:PX:=.l 23
abbrev IR:PX:=.l 24
abbrev IS:PX:=.l 25
abbrev IT:PX:=.l 26
abbrev FE:PX:=.l 27
abbrev Io:PX:=.l 28
abbrev Ln:PX:=.l 29
abbrev Nr:PX:=.l 30
abbrev Nq:PX:=.l 31
abbrev Vk:PX:=.l 32
abbrev Vl:PX:=.l 33
abbrev J9:PX:=.l 34
abbrev Vm:PX:=.l 35
abbrev Vn:PX:=.l 36
abbrev l37:PX:=.l 37
abbrev l38:PX:=.l 38
abbrev l39:PX:=.l 39
abbrev T:PX:=.c (.bool true)
abbrev F:PX:=.c (.bool false)
abbrev k(n:Int):PX:=.c (.int .i64 n)
abbrev p(o:POp):PO:=⟨.l,o,none⟩
abbrev q(i:Nat)(o:POp):PO:=⟨.v i,o,none⟩
abbrev r(o:POp):PO:=⟨.n,o,none⟩
abbrev t(i:Nat)(x:PX):PO:=⟨.v i,.take x,none⟩
abbrev g1(o:POp)(x:PX):PO:=⟨.l,o,some (x,true)⟩
abbrev g0(o:POp)(x:PX):PO:=⟨.l,o,some (x,false)⟩
abbrev G1(i:Nat)(o:POp)(x:PX):PO:=⟨.v i,o,some (x,true)⟩
abbrev G0(i:Nat)(o:POp)(x:PX):PO:=⟨.v i,o,some (x,false)⟩
abbrev m(x:PX):PO:=⟨.l,.mov x,none⟩
abbrev a(o:Nat)(x:PX):PO:=⟨.l,.faddr o x,none⟩
abbrev d(x:PX):PO:=⟨.l,.load 1 false x false,none⟩
abbrev D(n:Nat)(x:PX):PO:=⟨.l,.load n true x false,none⟩
abbrev e(x:PX):PO:=⟨.l,.h (.load 1 false x false),none⟩
abbrev e2(n:Nat)(x:PX):PO:=⟨.l,.h (.load n true x false),none⟩
abbrev c(x:PX):PO:=⟨.l,.h (.loadc 1 false x),none⟩
abbrev C(n:Nat)(x:PX):PO:=⟨.l,.h (.loadc n true x),none⟩
abbrev n(x:PX):PO:=⟨.l,.len false x,none⟩
abbrev b(o:BinOp)(x y:PX):PO:=⟨.l,.bin o x y,none⟩
abbrev i(s:Nat)(x y:PX):PO:=⟨.l,.iaddrS s x y,none⟩
abbrev f(j:Nat)(xs:List PX):PO:=⟨.l,.pcall j xs,none⟩
abbrev fb(j:Nat)(xs:List PX):PO:=⟨.l,.h (.bcall j xs),none⟩
abbrev fh(j:Nat)(xs:List PX):PO:=⟨.l,.h (.call j xs),none⟩
abbrev R:=PC.region
abbrev B:=PC.branch
abbrev E:=PC.bregion
abbrev H:=PC.bbranch
abbrev S:=PC.seq
abbrev K:=PC.block
abbrev X:=PC.exit
abbrev Z:=PC.skip
abbrev Y:=PC.ret
abbrev aA(a:PX)(b:PX):PO:=g1 (.mov a) b
abbrev aB(a:Nat)(b:PX):PO:=q a (.mov b)
abbrev aC(a:PX):PO:=p (.h (.nilchk a))
abbrev aD(a:PX)(b:PX):PO:=p (.pick a T b)
abbrev aE(a:PX)(b:PX):PO:=p (.pick a b F)
abbrev aF(a:PX)(b:PX):PO:=g0 (.mov a) b
abbrev aG(a:Nat):PO:=q a (.mov (k 0))
abbrev aH(a:Nat)(b:PX):PO:=q a (.len false b)
abbrev aI(a:PX):PO:=p (.take a)
abbrev aJ(a:PX)(b:PX):PO:=r (.store 2 true a b)
abbrev aK(a:PX)(b:PX):PO:=g1 (.load 1 false a false) b
abbrev aL(a:PX):PO:=p (.un .not a)
abbrev aM(a:PX)(b:PX):PO:=g0 (.load 1 false a false) b
abbrev aN(a:PX):PO:=p (.extract 0 a)
abbrev aO(a:PX):PO:=p (.extract 1 a)
abbrev aP(a:Nat)(b:PX):PO:=q a (.boxloc 6 b)
abbrev aQ(a:Nat)(b:PX):PO:=q a (.load 1 false b false)
abbrev aR(a:PX)(b:PX):PO:=r (.h (.store 1 false a b))
abbrev aS(a:Nat)(b:PX):PO:=q a (.boxloc 2 b)
abbrev aT(a:Nat):PO:=q a (.newloc [.int .i64 0,.int .i64 0])
abbrev aU(a:PX):PO:=p (.len true a)
abbrev aV(a:PX)(b:PX):PO:=r (.store 6 true a b)
abbrev aW(a:PX)(b:PX):PO:=p (.append 1 16 a b)
abbrev aX(a:PX)(b:PX):PO:=g1 (.len false a) b
abbrev aY(a:PX)(b:PX):PO:=g0 (.len false a) b
abbrev aZ(a:PX)(b:PX):PO:=g1 (.faddr 3 a) b
abbrev bA(a:PX):PO:=p (.loadv 6 1 false a)
abbrev bB(a:PX)(b:PX):PO:=g0 (.faddr 0 a) b
abbrev bC(a:PX)(b:PX):PO:=r (.store 3 true a b)
abbrev bD(a:PX)(b:PX):PO:=g0 (.faddr 1 a) b
abbrev bE(a:Nat):PO:=q a (.newloc [.int .i64 0,.int .i64 0,.int .i64 0,.int .i64 0,.str [],.list true []])
abbrev bF(a:PX)(b:PX):PO:=g1 (.bin .eql a (k 0)) b
abbrev bG(a:PX)(b:PX):PO:=r (.store 5 true a b)
abbrev bH(a:PX)(b:PX):PO:=p (.indexStr a b)
abbrev bI(a:PX)(b:PX):PO:=p (.h (.callv a [b]))
abbrev bJ(a:PX)(b:PX)(c:PX):PO:=g0 (.pick a b F) c
abbrev bK(a:Nat):PO:=q a (.newloc [.str [],.int .i64 0,.list true []])
abbrev bL(a:Nat)(b:PX):PO:=q a (.boxloc 8 b)
abbrev bM(a:PX)(b:PX):PO:=r (.store 8 true a b)
abbrev bN(a:PX)(b:PX):PO:=g1 (.un .not a) b
abbrev bO(a:PX)(b:PX):PO:=g0 (.un .not a) b
abbrev bP(a:PX):PO:=p (.mkslice 1 (.str []) 1 [(0,a)])
abbrev bQ(a:PX)(b:PX):PO:=g1 (.faddr 2 a) b
abbrev bR(a:Nat):PO:=q a (.newloc [.list true [],.list true []])
abbrev bS(a:PX):PO:=p (.mkslice 1 (.int .i64 0) 1 [(0,a)])
abbrev bT:PO:=p (.build [.int .i64 0,.int .i64 0] [])
abbrev bU(a:PX)(b:PX):PO:=g0 (.faddr 2 a) b
abbrev bV:PO:=p (.build [.int .i64 0,.int .i64 0] [(0,1,(k (-1))),(1,1,(k (-1)))])
abbrev bW(a:Nat):PO:=q a (.newloc [.str [],.list true [],.list true [],.list true [],.list true [],.list true [],.list true [],.list true []])
abbrev bX(a:PX)(b:PX):PO:=g1 (.faddr 4 a) b
abbrev bY(a:PX)(b:PX):PO:=g1 (.faddr 0 a) b
abbrev bZ(a:PX):PO:=p (.h (.load 1 false a true))
abbrev cA(a:PX)(b:PX):PO:=r (.store 1 false a b)
abbrev cB(a:Nat):PO:=q a (.h (.newobj [.int .i64 0]))
abbrev cC(a:PX)(b:PX):PO:=r (.h (.store 2 true a b))
abbrev cD:PO:=p (.h (.mkmap))
abbrev cE(a:PX)(b:PX):PO:=p (.build [.int .i64 0,.int .i64 0] [(0,1,a),(1,1,b)])
abbrev cF(a:Nat):PO:=q a (.newloc [.list true [],.int .i64 0,.int .i64 0,.int .i64 0,.int .i64 0,.str [],.list true []])
abbrev cG(a:PX)(b:PX):PO:=r (.store 7 true a b)
abbrev cH(a:PX):PO:=p (.pcallx 69 [a] none)
abbrev cI(a:Nat)(b:PX):PO:=q a (.h (.boxobj 1 b))
abbrev cJ(a:PX)(b:PX):PO:=r (.h (.storer 1 false a b))
abbrev cK(a:PX):PO:=r (.h (.store 1 false a (k 0)))
abbrev cL(a:PX)(b:PX):PO:=r (.h (.mset false [.s] a b T))
abbrev cM(a:PX)(b:PX):PO:=p (.h (.lookup false false false [.s] (.bool false) a b))
abbrev cN(a:PX)(b:PX):PO:=g0 (.h (.loadc 1 false a)) b
abbrev cO(a:PX)(b:PX):PO:=g0 (.bin .eql a (k 8)) b
abbrev cP(a:PX)(b:PX):PO:=g0 (.bin .eql a (k 9)) b
abbrev cQ(a:Nat)(b:PX):PO:=q a (.h (.call 81 [b]))
abbrev cR:PO:=p (.build [.list true [],.list true []] [])
abbrev cS(a:Nat):PO:=q a (.newloc [.str [],.list true []])
abbrev cT(a:Nat):PO:=q a (.newloc [.list true []])
abbrev cU(a:PX):PO:=p (.build [.int .i64 0,.int .i64 0] [(0,1,a),(1,1,(k (-1)))])
abbrev cV(a:PX):PO:=r (.h (.store 1 false a (k (-1))))
abbrev cW:PO:=p (.mkslice 1 (.str []) 0 [])
abbrev cX(a:Nat):PO:=q a (.newloc [.str [],.int .i64 0,.int .i64 0])
abbrev cY(a:PX)(b:PX):PO:=p (.slice false 1 a none (some b))
abbrev cZ(a:PX)(b:PX):PO:=g1 (.bin .leq a (k 32767)) b
abbrev dA(a:PX)(b:PX):PO:=p (.build [.bool false,.bool false,.bool false,.bool false,.bool false] [(0,1,a),(2,1,b)])
abbrev dB(a:PX)(b:PX):PO:=p (.build [.bool false,.bool false,.bool false,.bool false,.bool false] [(0,1,a),(2,1,b),(3,1,T)])
abbrev dC(a:PX)(b:PX):PO:=p (.h (.happ 1 false 8 a b))
abbrev dD(a:PX)(b:PX):PO:=p (.h (.lookup true false true [.i,.s] (.int .i64 0) a b))
abbrev dE(a:Nat):PO:=q a (.newloc [.str [],.list true [],.list true [],.list true [],.list true [],.list true []])
abbrev dF(a:PX)(b:PX):PO:=p (.build [.list true [],.int .i64 0,.int .i64 0,.int .i64 0,.int .i64 0,.str [],.list true []] [(0,1,a),(1,6,b)])
abbrev dG(a:PX):PO:=p (.h (.mkarr 1 false 8 [.int .i64 0] a))
abbrev dH(a:PX):PO:=p (.h (.mkfresh 1 false 8 [.int .i64 0] a))
abbrev dI(a:PX):PO:=p (.mkslice 2 (.agg [.int .i64 0,.int .i64 0]) 1 [(0,a)])
abbrev dJ(a:PX):PO:=p (.mkslice 6 (.agg [.int .i64 0,.int .i64 0,.int .i64 0,.int .i64 0,.str [],.list true []]) 1 [(0,a)])
abbrev dK(a:Nat):PO:=q a (.newloc [.int .i64 0,.int .i64 0,.int .i64 0,.int .i64 0,.str [],.list true [],.int .i64 0,.bool false])
abbrev dL(a:Nat):PO:=q a (.newloc [.bool false,.bool false,.bool false,.bool false,.bool false])
end PI.Short
