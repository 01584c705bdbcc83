import Derived.Test.YtljbhgpanekomaaGreatPiFunc
import Derived.ProofKit
import Derived.Deep.Slices
import Derived.SizedLaws
import Derived.KernelRfl
import Derived.Test.YtljbhgpanekomaaGreatPiBase
import Derived.Lib.Join
import Derived.Lib.ItoaNum
import Derived.Lib.AtoiAll
import Derived.Lib.Bytealg
import Derived.Test.YtljbhgpanekomaaGreatPiSound9
import Derived.RecoverIn
set_option maxHeartbeats 1000000
set_option linter.unusedSimpArgs false
set_option linter.unusedVariables false
set_option linter.unusedSectionVars false
namespace PI
open Go Go.RowKit
inductive TyD where|bool|int(k:IntKind)|str|slice(e b:Nat)|struct(fs:List Nat)deriving DecidableEq,Inhabited
inductive Sh(D:Nat->TyD):Nat->PV->Prop where|bool(i:Nat)(b:Bool)(h:D i=.bool):Sh D i (.bool b)|int(i:Nat)(k:IntKind)(n:Int)(h:D i=.int k)(h1:k.min<=n)(h2:n<=k.max):Sh D i (.int k n)|str(i:Nat)(s:List UInt8)(h:D i=.str)(hl:s.length<=9223372036854775807):Sh D i (.str s)|slice(i e b:Nat)(es:List PV)(h:D i=.slice e b)(hl:es.length<=9223372036854775807)(hb:es.length*b<=140737488351232)(hs:∀x∈es,Sh D e x):Sh D i (.list false es)|struct(i:Nat)(fs:List Nat)(ps:List PV)(h:D i=.struct fs)(hl:ps.length=fs.length)(hs:∀(j f:Nat)(p:PV),fs[j]?=some f->ps[j]?=some p->Sh D f p):Sh D i (.agg (ps.flatMap PV.cells))
def Gj(P:Program)(tm:Nat->TypeId)(n:Nat):List Nat->List Field->Nat->Bool|[],[],_=>true|f::fs,g::gs,off=>decide (f<n)&&(g.type==tm f)&&(g.offset==off)&&Gj P tm n fs gs (off+P.cellsOf g.type)|_,_,_=>false
def Lh(P:Program):List Field->Nat|[]=>0|g::gs=>P.cellsOf g.type+Lh P gs
def G7(P:Program)(D:Nat->TyD)(tm:Nat->TypeId)(n i:Nat):Bool:=match D i,P.underlying (tm i)with|.bool,some .bool=>P.cellsOf (tm i)==1|.int k,some (.int k')=>k==k'&&P.cellsOf (tm i)==1|.str,some .string=>P.cellsOf (tm i)==1|.slice e b,some (.slice t)=>decide (e<n)&&t==tm e&&P.cellsOf (tm i)==1&&P.cellsOf (tm e)!=0&&P.bytesOf (tm e)==b|.struct fs,some (.struct gs)=>Gj P tm n fs gs.toList 0&&P.cellsOf (tm i)==Lh P gs.toList|_,_=>false
mutual def wt:PV->Nat|.str s=>s.length+1|.list _ es=>wts es+1|.agg cs=>wts cs+1|_=>1 def wts:List PV->Nat|[]=>0|v::vs=>wt v+wts vs end
mutual def CE{H:Type}:DataW H->Nat|.lit (.string bytes)=>bytes.length+1|.lit _=>1|.nil=>1|.ptr d=>CE d+1|.slice elems spare=>Fl elems+Fl spare+1|.agg parts=>Fl parts+1|.iface _ d=>CE d+1|.map entries=>LK entries+1|.held _=>1 def Fl{H:Type}:List (DataW H)->Nat|[]=>0|d::r=>CE d+Fl r def LK{H:Type}:List (Lit×DataW H)->Nat|[]=>0|x::r=>Ol x+LK r def Ol{H:Type}:Lit×DataW H->Nat|(.string bytes,d)=>bytes.length+CE d+1|(_,d)=>CE d+1 end
theorem XI:∀(a b:List PV),wts (a++b)=wts a+wts b|[],b=>by simp[wts]|x::a,b=>by simp only[bj,wts,XI a b];omega
theorem c63(p:PV):wts p.cells<=wt p:=by cases p<;>simp[PV.cells,wts,wt]
theorem XJ:∀ps:List PV,wts (ps.flatMap PV.cells)<=wts ps|[]=>by simp[wts]|p::ps=>by have:=c63 p;have:=XJ ps;simp only[bc,XI,wts];omega
theorem R0{H:Type}:∀(es:List PV)(ds:List (DataW H)),es.length=ds.length->(∀(k:Nat)(e:PV)(d:DataW H),es[k]?=some e->ds[k]?=some d->wt e<=CE d)->wts es<=Fl ds|[],[],_,_=>by simp[wts]|e::es,d::ds,hl,h=>by have h1:=h 0 e d rfl rfl;have h2:=R0 es ds (by simpa using hl) (λk e' d' he hd=>h (k+1) e' d' (by simpa using he) (by simpa using hd));simp only[wts,Fl];omega
section
variable{H:Type}{enc:TypeId×Value->H}{P:Program}{w:World}{base:Nat}{spare:Nat->Bool}{held:Bool}{N:Nm}{D:Nat->TyD}{tm:Nat->TypeId}
def EV(w:World):Nat->Nat->Prop:=λb o=>(w.cell? ⟨b,o,none⟩).isSome=true
theorem XK{a:Addr}{n:Nat}{cs:List Value}(h:w.cells? base a n=some cs):cs.length=n/\∀(j:Nat)(v:Value),cs[j]?=some v->w.cell? (a.add j)=some v:=by obtain⟨h1,h2,h3⟩:=World.cells?_some h;refine⟨h2,?_⟩;intro j v hv;(have hj:j<n:=by have:=(aj.1 hv).1;omega);rw[h3 j hj];exact hv
theorem XL(P:Program):∀{fs:List Nat}{gs:List Field}{n off:Nat},Gj P tm n fs gs off=true->fs.length=gs.length|[],[],_,_,_=>rfl|f::fs,g::gs,n,off,h=>by simp only[Gj,aq]at h;simp[XL P h.2]|[],_::_,_,_,h=>by simp[Gj]at h|_::_,[],_,_,h=>by simp[Gj]at h
theorem XM{fix:Nat->Nat->Prop}{hp:Nat->Option Nat}{cs:List Value}{n:Nat}:∀{Q:Nat->PV->Prop}{fs:List Nat}{gs:List Field}{off:Nat},Gj P tm n fs gs off=true->cs.length=off+Lh P gs->(∀(j:Nat)(f:Nat)(g:Field),fs[j]?=some f->gs[j]?=some g->f<n->g.type=tm f->∃p,(Sh D f p/\Q j p)/\CellsR N w fix hp ((cs.drop g.offset).take (P.cellsOf g.type)) p.cells/\((cs.drop g.offset).take (P.cellsOf g.type)).length=P.cellsOf g.type)->∃ps:List PV,ps.length=fs.length/\(∀(j f:Nat)(p:PV),fs[j]?=some f->ps[j]?=some p->Sh D f p/\Q j p)/\CellsR N w fix hp (cs.drop off) (ps.flatMap PV.cells)|Q,[],[],off,_,hl,_=>⟨[],rfl,by simp,by have:cs.drop off=[]:=co (by simp[Lh]at hl;omega);rw[this];exact⟨rfl,by simp,by simp⟩⟩|Q,f::fs,g::gs,off,h,hl,hx=>by simp only[Gj,aq,al,dj]at h;obtain⟨⟨⟨h1,h2⟩,h3⟩,h4⟩:=h;simp only[Lh]at hl;obtain⟨ps,p1,p2,p3⟩:=XM (Q:=λj=>Q (j+1)) h4 (by omega) (λj f' g' hf hg=>hx (j+1) f' g' (by simpa using hf) (by simpa using hg));obtain⟨p,q1,q2,q3⟩:=hx 0 f g rfl rfl h1 h2;refine⟨p::ps,by simp[p1],?_,?_⟩;{intro j f' p' hf iC;cases j with|zero=>simp at hf iC;subst hf iC;exact q1|succ j=>exact p2 j f' p' (by simpa using hf) (by simpa using iC)};simp only[bc];rw[h3]at q2;(have qU:cs.drop off=(cs.drop off).take (P.cellsOf g.type)++cs.drop (off+P.cellsOf g.type):=by rw[<-List.drop_drop,d8]);rw[qU];exact q2.append p3|_,[],_::_,_,h,_,_=>by simp[Gj]at h|_,_::_,[],_,h,_,_=>by simp[Gj]at h
theorem Jm{v:Value}{p:PV}{hp:Nat->Option Nat}{fix:Nat->Nat->Prop}(h:VR N w fix hp v p)(hf:p.flat=true)(hc:p.cells=[p]):CellsR N w fix hp [v] p.cells:=by rw[hc];refine⟨rfl,by simpa using hf,?_⟩;intro i c x h1 h2;cases i with|zero=>simp at h1 h2;subst h1 h2;exact h|succ i=>simp at h1
theorem XN{e:TypeId}:∀{ds:List (DataW H)}{k:Nat}{d:DataW H},ds[k]?=some d->(DataW.weightsAll P e ds).all (·<=reachBytes)=true->(d.weights P e).all (·<=reachBytes)=true|d0::ds,0,d,hd,h=>by simp only[List.getElem?_cons_zero,aa]at hd;subst hd;simp only[DataW.weightsAll,eD,aq]at h;exact h.1|d0::ds,k+1,d,hd,h=>by simp only[eP]at hd;simp only[DataW.weightsAll,eD,aq]at h;exact XN hd h.2|[],_,_,hd,_=>by simp at hd
theorem c0H{ts:List TypeId}{ds:List (DataW H)}{j:Nat}{t:TypeId}{d:DataW H}(ht:ts[j]?=some t)(hd:ds[j]?=some d)(h:(DataW.weightsEach P ts ds).all (·<=reachBytes)=true):(d.weights P t).all (·<=reachBytes)=true:=by rw[bo]at h⊢;exactλn hn=>h n (DataW.weights_mem_each ht hd n hn)
theorem d16{n:Nat}{hp:Nat->Option Nat}(hM:∀i,i<n->G7 P D tm n i=true):∀(fuel i:Nat)(cs:List Value)(x:DataW H×List MemPlace),i<n->DataW.trod enc P w base spare held fuel (tm i) cs=some x->(x.1.weights P (tm i)).all (·<=reachBytes)=true->∃p,(Sh D i p/\wt p<=CE x.1)/\cs.length=P.cellsOf (tm i)/\CellsR N w (EV w) hp cs p.cells:=by intro fuel;induction fuel with|zero=>intro i cs x _ h;simp[DataW.trod]at h|succ fuel ih=>intro i cs x hi h lF;have hm:=hM i hi;unfold G7 at hm;split at hm;{rename_i hd hu;obtain⟨b,rfl,rfl⟩:=DataW.trod_bool hu h;simp only[dj]at hm;exact⟨.bool b,⟨.bool i b hd,by simp[wt,CE]⟩,by simp[hm],Jm (.bool b) rfl rfl⟩};{rename_i k k' hd hu;obtain⟨m,rfl,rfl,hw⟩:=DataW.trod_int hu h;simp only[aq,dj]at hm;obtain⟨rfl,hm⟩:=hm;simp only[Lit.wf,aq,al]at hw;exact⟨.int k m,⟨.int i k m hd hw.1 hw.2,by simp[wt,CE]⟩,by simp[hm],Jm (.int k m) rfl rfl⟩};{rename_i hd hu;obtain⟨s,rfl,rfl,hs⟩:=DataW.trod_string hu h;simp only[dj]at hm;have hl:s.data.toList.length=s.size:=dz;exact⟨.str s.data.toList,⟨.str i _ hd (by rw[hl];simpa[maxLen]using hs),by simp[wt,CE]⟩,by simp[hm],Jm (.str s) rfl rfl⟩};{rename_i e bts t hd hu;simp only[aq,al,dj,bne_iff_ne,ne_eq]at hm;obtain⟨⟨⟨⟨he,rfl⟩,hm⟩,kC⟩,vK⟩:=hm;rcases DataW.trod_slice hu h with⟨rfl,rfl⟩|⟨a,len,cap,elems,rest,m,zG,rfl,rfl,hb,hl,zH,fe,xi,_⟩;{exact⟨.list false [],⟨.slice i e bts [] hd (by simp) (by simp) (by simp),by simp[wt,wts,CE]⟩,by simp[hm],Jm (.nils false) rfl rfl⟩};(have qV:m=fuel:=by omega);subst qV;by_cases h0:len=0;{subst h0;exact⟨.list false [],⟨.slice i e bts [] hd (by simp) (by simp) (by simp),by simp[wt,wts,CE]⟩,by simp[hm],Jm (.void false a cap) rfl rfl⟩};simp only[DataW.weights,hu,List.all_cons,eD,aq,al]at lF;obtain⟨zI,vL,_⟩:=lF;(have AT:∀k,k<len->∃p cs',(Sh D e p/\∀d,elems[k]?=some d->wt p<=CE d.1)/\cs'.length=P.cellsOf (tm e)/\CellsR N w (EV w) hp cs' p.cells/\w.cells? base (a.add (k*P.cellsOf (tm e))) (P.cellsOf (tm e))=some cs':=by intro k hk;have:=xi k hk;rw[am (by omega)]at this;simp only[af]at this;obtain⟨cs',hc,ht⟩:=this;obtain⟨p,h1,h2,h3⟩:=ih e cs' _ he ht (XN (k:=k) (by rw[br,am (by omega)];rfl) vL);refine⟨p,cs',⟨h1.1,?_⟩,h2,h3,hc⟩;intro d iq;rw[am (by omega)]at iq;cases iq;exact h1.2);(have vM:∃F:Nat->PV,∀k,k<len->∃cs',(Sh D e (F k)/\∀d,elems[k]?=some d->wt (F k)<=CE d.1)/\cs'.length=P.cellsOf (tm e)/\CellsR N w (EV w) hp cs' (F k).cells/\w.cells? base (a.add (k*P.cellsOf (tm e))) (P.cellsOf (tm e))=some cs':=by refine⟨λk=>if hk:k<len then(AT k hk).choose else .dead,λk hk=>?_⟩;simp only[dif_pos hk];exact(AT k hk).choose_spec);obtain⟨F,hF⟩:=vM;let sz:=P.cellsOf (tm e);let es:List PV:=(List.range len).map F;(have jn:∀(k:Nat)(y:PV),es[k]?=some y->k<len/\y=F k:=by intro k y hy;simp only[es,br,ab]at hy;obtain⟨m',oa,rfl⟩:=hy;obtain⟨h1,h2⟩:=aj.1 oa;simp at h1 h2;exact⟨h1,by rw[h2]⟩);(have iA:∀y∈es,∃k,k<len/\y=F k:=by intro y hy;obtain⟨k,hk⟩:=di.1 hy;exact⟨k,jn k y hk⟩);(have gx:Sh D i (.list false es):=by refine .slice i e bts es hd (by simp[es];simp[maxLen]at zH;omega) ?_ ?_;{rw[<-vK,show es.length=len by simp[es]];have h1:len*P.bytesOf (tm e)<=((elems.map (·.1)).length+(rest.map (·.1)).length)*P.bytesOf (tm e):=dm _ (by simp;omega);have h2:reachBytes=140737488351232:=rfl;omega};intro y hy;obtain⟨k,hk,rfl⟩:=iA y hy;obtain⟨_,h1,_⟩:=hF k hk;exact h1.1);(have vN:wt (.list false es)<=CE (DataW.slice (elems.map (·.1)) (rest.map (·.1))):=by have:=R0 es (elems.map (·.1)) (by simp[es,fe]) (by intro k e' d' iD iq;obtain⟨hk,rfl⟩:=jn k e' iD;obtain⟨_,h1,_⟩:=hF k hk;simp only[br,ab]at iq;obtain⟨dd,h2,rfl⟩:=iq;exact h1.2 dd h2);simp only[wt,CE];omega);refine⟨.list false es,⟨gx,vN⟩,by simp[hm],Jm ?_ rfl rfl⟩;have hz:sz≠0:=kC;(have pQ:a.spot=none:=by obtain⟨cs',_,h2,_,h4⟩:=hF 0 (by omega);obtain⟨_,h5⟩:=XK h4;(have fm:0<cs'.length:=by rw[h2];show 0<sz;omega);have:=h5 0 cs'[0] (am fm);have:=World.cell?_spot this;simpa[Addr.add]using this);obtain⟨b,off,spot⟩:=a;simp only at pQ;subst pQ;(have hcell:∀k j,k<len->j<sz->∃v,w.cell? ⟨b,off+(k*sz+j),none⟩=some v/\∀y,(F k).cells[j]?=some y->VR N w (EV w) hp v y:=by intro k j hk hj;obtain⟨cs',_,h2,h3,h4⟩:=hF k hk;obtain⟨_,h5⟩:=XK h4;(have fm:j<cs'.length:=by rw[h2];exact hj);have:=h5 j cs'[j] (am fm);rw[Eu,Eu]at this;refine⟨cs'[j],by rw[<-eI];exact this,λy hy=>h3.2.2 j cs'[j] y (am fm) hy⟩);let cv:Nat->Value:=λk=>(w.cell? ⟨b,off+k,none⟩).getD undef;(have qW:es.length=len:=by simp[es]);refine .list false b off len cap sz es cv qW hl ?_ ?_ ?_ ?_;{intro y hy;obtain⟨k,hk,rfl⟩:=iA y hy;obtain⟨cs',_,h2,h3,_⟩:=hF k hk;have:=h3.1;omega};{intro y hy;obtain⟨k,hk,rfl⟩:=iA y hy;obtain⟨cs',_,h2,h3,_⟩:=hF k hk;exact h3.2.1};{intro k hk;(have o5:k/sz<len:=by rw[Nat.div_lt_iff_lt_mul (by omega)];exact hk);have lq:k%sz<sz:=dZ _ (by omega);obtain⟨v,hv,_⟩:=hcell (k/sz) (k%sz) o5 lq;(have iD:k/sz*sz+k%sz=k:=by rw[Nat.mul_comm];exact Nat.div_add_mod k sz);rw[iD]at hv;exact⟨by simp[cv,hv],by simp[EV,hv]⟩};intro k y hy j z lD;obtain⟨hk,rfl⟩:=jn k y hy;(have hj:j<sz:=by obtain⟨cs',_,h2,h3,_⟩:=hF k hk;have h6:=(aj.1 lD).1;have:=h3.1;show j<P.cellsOf (tm e);omega);obtain⟨v,hv,fw⟩:=hcell k j hk hj;(have:cv (k*sz+j)=v:=by simp[cv,hv]);rw[this];exact fw z lD};{rename_i fs gs hd hu;simp only[aq,dj]at hm;obtain⟨xs,m,zG,rfl,fC,xm,kw⟩:=DataW.trod_struct hu h;(have qV:m=fuel:=by omega);subst qV;simp only[DataW.weights,hu]at lF;obtain⟨ps,p1,p2,p3⟩:=XM (N:=N) (w:=w) (fix:=EV w) (hp:=hp) (D:=D) (cs:=cs) (Q:=λj p=>∀d,xs[j]?=some d->wt p<=CE d.1) hm.1 (by rw[fC,hm.2];simp) (by intro j f g hf hg je vO;(have vh:j<gs.size:=by have:=(aj.1 hg).1;simpa using this);have:=kw j g (by simpa using hg);rw[am (by omega),vO]at this;obtain⟨p,h1,h2,h3⟩:=ih f _ _ je this (c0H (j:=j) (by rw[br,hg];simp[vO]) (by rw[br,am (by omega)];rfl) lF);rw[vO];refine⟨p,⟨h1.1,?_⟩,h3,h2⟩;intro d iq;rw[am (by omega)]at iq;cases iq;exact h1.2);have iZ:=XL P hm.1;(have vN:wt (.agg (ps.flatMap PV.cells))<=CE (DataW.agg (xs.map (·.1))):=by have h1:=XJ ps;have h2:=R0 ps (xs.map (·.1)) (by rw[p1,bi,xm,iZ];simp) (by intro k e' d' iD iq;simp only[br,ab]at iq;obtain⟨dd,h2,rfl⟩:=iq;(have hk:k<fs.length:=by have:=(aj.1 iD).1;omega);exact(p2 k fs[k] e' (am hk) iD).2 dd h2);simp only[wt,CE];omega);refine⟨.agg (ps.flatMap PV.cells),⟨.struct i fs ps hd p1 (λj f p hf hp=>(p2 j f p hf hp).1),vN⟩,fC,?_⟩;show CellsR N w (EV w) hp cs (ps.flatMap PV.cells);simpa using p3};simp at hm
end
end PI
namespace PI
open Go Go.RowKit Go.WideShapes Go.ChangeShapes
section
variable{H:Type}{enc:TypeId×Value->H}{E:Env}{P:Program}{W:World}{base base':Nat}{spare:Nat->Bool}{held:Bool}{N:Nm}{D:Nat->TyD}{tm:Nat->TypeId}
theorem Sh.noOwn{i:Nat}{p:PV}(h:Sh D i p):∀q∈p.cells,∀es,q≠.list true es:=by induction h with|bool i b h=>intro q hq es;simp[PV.cells]at hq;subst hq;simp|int i k n h h1 h2=>intro q hq es;simp[PV.cells]at hq;subst hq;simp|str i s h hl=>intro q hq es;simp[PV.cells]at hq;subst hq;simp|slice i e b es h hl hb hs ih=>intro q hq es;simp[PV.cells]at hq;subst hq;simp|struct i fs ps h hl hs ih=>intro q hq es;simp only[PV.cells,dW]at hq;obtain⟨p,hp,hq⟩:=hq;obtain⟨j,hj,rfl⟩:=bz.1 hp;exact ih j (fs[j]'(hl▸hj)) ps[j] (am _) (am _) q hq es
theorem Sh.ownNil{i:Nat}{p:PV}(h:Sh D i p)(cs:List Value):OwnNil cs p.cells:=by intro j c es _ hx;exact absurd rfl (h.noOwn _ (aw hx) es)
theorem d5G{n i:Nat}{r:Reach}{v:Value}{d:DataW H}{p:List MemPlace}(hM:∀i,i<n->G7 P D tm n i=true)(hi:i<n)(gT:Value.okWide P W r base' (tm i) v)(h:DataW.Trod enc P W base spare held (tm i) v d p)(lF:(d.weights P (tm i)).all (·<=reachBytes)=true):∃pv,(Sh D i pv/\wt pv<=CE d)/\VR N W (EV W) (λ_=>none) v pv:=by obtain⟨fuel,hf⟩:=h;obtain⟨pv,h1,h2,h3⟩:=d16 (N:=N) (hp:=λ_=>none) hM fuel i _ _ hi hf lF;refine⟨pv,h1,?_⟩;have sO:=h1.1;replace h1:=h1.1;(have one:∀c:Value,v.cells=#[c]->v=c->pv.cells=[pv]->VR N W (EV W) (λ_=>none) v pv:=by intro c hc hv hp;rw[hc,hp]at h3;have:=h3.2.2 0 c pv rfl rfl;rw[hv];exact this);have hm:=hM i hi;unfold G7 at hm;cases h1 with|bool b hd=>split at hm<;>simp_all;obtain⟨b',rfl⟩:=okWide_bool (by assumption) gT;exact one _ rfl rfl rfl|int k m hd _ _=>split at hm<;>simp_all;obtain⟨b',rfl⟩:=okWide_int (by assumption) gT;exact one _ rfl rfl rfl|str s hd _=>split at hm<;>simp_all;obtain⟨b',rfl⟩:=okWide_string (by assumption) gT;exact one _ rfl rfl rfl|slice e b es hd _ _ _=>split at hm<;>simp_all;obtain⟨_,_,_,rfl⟩:=okWide_slice (by assumption) gT;exact one _ rfl rfl rfl|struct fs ps hd _ _=>split at hm<;>simp_all;obtain⟨cs,rfl,_⟩:=okWide_struct (by assumption) gT;have h4:VR N W (EV W) (λ_=>none) (.agg cs.toList.toArray) _:=CellsR.agg (cs:=cs.toList) h3 (sO.ownNil _);rw[Array.toArray_toList]at h4;exact h4
theorem c9d{L:Nat->Option PFunc}(hE:EnvOk E N)(hP:E.P=P)(gf:P.follows .mixedOrders=true)(hL:∀k pf,L k=some pf->FnS E N k pf)(hT:∀t∈N.tabs,W.cell? ⟨t.1,t.2.1,none⟩=some t.2.2)(rE:∀r∈N.rows,W.shape? r.1=some r.2){m k:Nat}{args:List PV}{h':List PObj}{vals:Array Value}(tK:call L m k args []=some (.bool true,h'))(ft:vals.size=args.length)(fw:∀(i:Nat)(v:Value)(p:PV),vals[i]?=some v->args[i]?=some p->VR N W (EV W) (λ_=>none) v p):Calls P (N.fn k) vals W λe W'=>e=.returned (.bool true)/\Below W.heap.size W W':=by refine(((c4X hE hP gf hL m).plain k args _ [] h' tK).2 W {fix:=EV W,heap:=λ_=>none,box:=λ_=>none,ow:=λ_=>none} vals ?_ ft fw).mono ?_;{refine⟨⟨by intro b k h;simp at h,λ_=>rfl⟩,?_,by intro b k h;simp at h,⟨by intro n ob h;simp at h,⟨λt ht=>⟨by show(W.cell? _).isSome=true;rw[hT t ht];rfl,hT t ht⟩,rE⟩⟩,by intro n b h;simp at h⟩;intro b o h;unfold EV at h;obtain⟨v,hv⟩:=Option.isSome_iff_exists.1 h;exact World.block_lt_of_cell? W ⟨b,o,none⟩ hv};rintro e w'⟨v,G',rfl,hv,he,_⟩;cases hv;exact⟨rfl,⟨he.os,he.tape,he.output,he.size,λb hb=>he.same b hb rfl⟩⟩
end
end PI
namespace PI
open Go Go.RowKit
def NV(fn:Func)(pf:PFunc)(vs:List Tmp):Bool:=decide (pf.params<1000)&&decide vs.Nodup&&vs.all (λt=>decide (t<fn.ntmps))&&vs.length==pf.nv&&decide (pf.params<=pf.nv)&&vs.take pf.params==List.range pf.params
def yOf(fn:Func)(fid:FuncId)(j:Nat)(vars:List Tmp):Option YL:=(fn.body.bind λc=>(B7 c)[j]?).map λx=>⟨fid,x.1,x.2.1,x.2.2,vars,fn.ntmps⟩
def LpsOK(N:Nm)(fn:Func)(fid:FuncId)(pss:List (Array Tmp)):List (Array Tmp×Nat×List Tmp)->Prop|[]=>True|x::xs=>(∃j,N.yl x.2.1=yOf fn fid j x.2.2/\pss[j]?=some x.1)/\LpsOK N fn fid pss xs
theorem LpsOK.mem{N:Nm}{fn:Func}{fid:FuncId}{pss:List (Array Tmp)}:∀{l:List (Array Tmp×Nat×List Tmp)},LpsOK N fn fid pss l->∀x∈l,∃j,N.yl x.2.1=yOf fn fid j x.2.2/\pss[j]?=some x.1|[],_,x,hx=>by simp at hx|y::l,h,x,hx=>by rcases ba.1 hx with rfl|hx;{exact h.1};exact LpsOK.mem h.2 x hx
section
variable{E:Env}{N:Nm}{k:Nat}{pf:PFunc}{fn:Func}{fid:FuncId}
theorem KV(vs:List Tmp)(o:Opts)(pss:List (Array Tmp))(hf:E.P.funcs[fid]?=some fn)(h:(fn.body.map (λc=>Cp (E.opt o) fn.ntmps vs c),FA E.P o.kp vs fn.results.toList,NV fn pf vs,fn.body.map λc=>(B7 c).map (·.1))=(some pf.code,some pf.results,true,some pss))(hn:fn.name≠ "runtime.NumGoroutine")(fJ:pss.Nodup)(hl:LpsOK N fn fid pss o.lps)(ik:N.fn k=fid:=by rfl)(hy:N.yl k=none:=by rfl)(hr:pf.code.isRound=false:=by rfl)(hp:pf.prim=none:=by rfl)(hd:pf.defer=none:=by rfl):FnS E N k pf:=by simp only[ac]at h;obtain⟨h1,h2,h3,h4⟩:=h;simp only[NV,aq,al,dj,bo]at h3;obtain⟨⟨⟨⟨⟨a0,a1⟩,a2⟩,a3⟩,a4⟩,a5⟩:=h3;refine .inl ⟨hy,hr,a0,.inl ⟨hp,hd,fn,vs,by rw[ik];exact hf,hn,a1,a2,a3,a4,?_,o,h1,.inr ?_,h2⟩⟩;{intro i hi;(have:(vs.take pf.params)[i]?=some i:=by rw[a5];simp[hi]);rwa[dh,ah hi]at this};intro c hc ps kb vars hm z hz xC;obtain⟨j,j1,j2⟩:=hl.mem _ hm;rw[hc]at h4;simp only[bp,aa]at h4;subst h4;obtain⟨i,hi⟩:=di.1 hz;(have pB:i=j:=by(have jx:((B7 c).map (·.1))[i]?=some ps:=by simp[hi,xC]);obtain⟨b1,b2⟩:=aj.1 jx;obtain⟨b3,b4⟩:=aj.1 j2;refine d7 λfA=>?_;rcases Nat.lt_or_gt_of_ne fA with fm|fm;{exact List.pairwise_iff_getElem.1 fJ i j b1 b3 fm (b2.trans b4.symm)};exact List.pairwise_iff_getElem.1 fJ j i b3 b1 fm (b4.trans b2.symm));subst pB;rw[ik];simp only at j1;rw[j1];simp[yOf,hc,hi,xC]
theorem fnS(vs:List Tmp)(o:Opts)(hf:E.P.funcs[fid]?=some fn)(h:(fn.body.map (λc=>Cp (E.opt o) fn.ntmps vs c),FA E.P o.kp vs fn.results.toList,NV fn pf vs)=(some pf.code,some pf.results,true):=by kernel_rfl)(hn:fn.name≠ "runtime.NumGoroutine":=by decide)(hl:o.lps=[]:=by rfl)(ik:N.fn k=fid:=by rfl)(hy:N.yl k=none:=by rfl)(hr:pf.code.isRound=false:=by rfl)(hp:pf.prim=none:=by rfl)(hd:pf.defer=none:=by rfl):FnS E N k pf:=by simp only[ac]at h;obtain⟨h1,h2,h3⟩:=h;simp only[NV,aq,al,dj,bo]at h3;obtain⟨⟨⟨⟨⟨a0,a1⟩,a2⟩,a3⟩,a4⟩,a5⟩:=h3;refine .inl ⟨hy,hr,a0,.inl ⟨hp,hd,fn,vs,by rw[ik];exact hf,hn,a1,a2,a3,a4,?_,o,h1,.inl hl,h2⟩⟩;intro i hi;(have:(vs.take pf.params)[i]?=some i:=by rw[a5];simp[hi]);rwa[dh,ah hi]at this
def Zk(nt:Nat)(pf:PFunc)(vars:List Tmp)(ps:Array Tmp)(vs:List Tmp)(a b:PC):Bool:=a.RO&&b.RO&&decide vs.Nodup&&vs.all (λt=>decide (t<nt))&&vs.length==pf.nv&&pf.params==1+(vars.length+ps.size)&&vs.take (vars.length+ps.size)==vars++ps.toList
theorem rdS(vars vs:List Tmp)(o:Opts)(j:Nat)(ps:Array Tmp){a b:PC}(nF:pf.code=.round a b)(hf:E.P.funcs[fid]?=some fn)(h:((fn.body.bind λc=>(B7 c)[j]?).map λz=>(z.1,Cp (E.opt o) fn.ntmps vs z.2.1,Cp (E.opt o) fn.ntmps vs z.2.2))=some (ps,a,b))(tq:Zk fn.ntmps pf vars ps vs a b=true)(hn:fn.name≠ "runtime.NumGoroutine")(hy:N.yl k=yOf fn fid j vars:=by rfl)(ik:N.fn k=fid:=by rfl)(hl:o.lps=[]:=by rfl)(hp:pf.prim=none:=by rfl)(hd:pf.defer=none:=by rfl):FnS E N k pf:=by simp only[ab,af,ac]at h;obtain⟨z,⟨c,hc,hz⟩,rfl,h2,h3⟩:=h;simp only[Zk,aq,al,dj,bo]at tq;obtain⟨⟨⟨⟨⟨⟨a0,a1⟩,a2⟩,a3⟩,a4⟩,a5⟩,a6⟩:=tq;refine .inr ⟨⟨fid,z.1,z.2.1,z.2.2,vars,fn.ntmps⟩,fn,vs,o,a,b,⟨by rw[hy];simp[yOf,hc,hz],nF,a0,a1,hp,hd,hf,ik,hn,by simp[hc],a2,a3,a4,a5,a6,hl,h2,h3⟩⟩
def AllFn(E:Env)(N:Nm):Nat->List (Option PFunc)->Prop|_,[]=>True|n,none::fs=>AllFn E N (n+1) fs|n,some f::fs=>FnS E N n f/\AllFn E N (n+1) fs
theorem AllFn.get:∀{fs:List (Option PFunc)}{n:Nat},AllFn E N n fs->∀{k:Nat}{f:PFunc},fs[k]?.join=some f->FnS E N (n+k) f|[],n,_,k,f,hk=>by simp at hk|o::fs,n,h,0,f,hk=>by simp at hk;subst hk;exact h.1|o::fs,n,h,k+1,f,hk=>by(have h':AllFn E N (n+1) fs:=by cases o with|none=>exact h|some g=>exact h.2);have:=AllFn.get h' (k:=k) (f:=f) (by simpa using hk);rwa[show n+1+k=n+(k+1)by omega]at this
end
end PI
namespace PI
open Go(IntKind BinOp UnOp)
def Mh(args:List PV)(h:List PObj):Option (PV×List PObj):=match args with|[.str s,.int .u8 c]=>some (.int .i64 (Go.Lib.indexByte s c.toNat.toUInt8),h)|_=>none
def HZ:List PV->Option (List Int)|[]=>some []|.int .i64 n::r=>(HZ r).map (n::·)|_=>none
def ins{α:Type}(le:α->α->Bool)(x:α):List α->List α|[]=>[x]|y::ys=>if le x y then x::y::ys else y::ins le x ys
def Dv{α:Type}(le:α->α->Bool):List α->List α|[]=>[]|x::xs=>ins le x (Dv le xs)
theorem Sv{α:Type}(le:α->α->Bool)(x:α):∀l,(ins le x l).Perm (x::l)|[]=>.refl _|y::ys=>by unfold ins;split;{exact .refl _};exact((Sv le x ys).cons y).trans (.swap x y ys)
theorem Hi{α:Type}(le:α->α->Bool):∀l,(Dv le l).Perm l|[]=>.refl _|x::xs=>(Sv le x _).trans ((Hi le xs).cons x)
theorem Ya{α:Type}{le:α->α->Bool}(ht:∀a b c,le a b=true->le b c=true->le a c=true)(hn:∀a b,(le a b||le b a)=true)(x:α):∀l,l.Pairwise (λa b=>le a b=true)->(ins le x l).Pairwise (λa b=>le a b=true)|[],_=>by simp[ins]|y::ys,h=>by unfold ins;split;{rename_i mS;refine dU.2 ⟨λz hz=>?_,h⟩;rcases ba.1 hz with rfl|hz;{exact mS};exact ht _ _ _ mS ((dU.1 h).1 z hz)};rename_i mS;(have zN:le y x=true:=by have:=hn x y;simp only[mS,Bool.false_or]at this;exact this);refine dU.2 ⟨λz hz=>?_,Ya ht hn x ys (dU.1 h).2⟩;rcases ba.1 ((Sv le x ys).mem_iff.1 hz)with rfl|hz;{exact zN};exact(dU.1 h).1 z hz
theorem QR{α:Type}{le:α->α->Bool}(ht:∀a b c,le a b=true->le b c=true->le a c=true)(hn:∀a b,(le a b||le b a)=true):∀l,(Dv le l).Pairwise (λa b=>le a b=true)|[]=>.nil|x::xs=>Ya ht hn x _ (QR ht hn xs)
theorem Yb{α:Type}{le:α->α->Bool}(ht:∀a b c,le a b=true->le b c=true->le a c=true)(hn:∀a b,(le a b||le b a)=true)(ha:∀a b,le a b=true->le b a=true->a=b)(l:List α):Dv le l=l.mergeSort le:=List.Perm.eq_of_pairwise (λa b _ _=>ha a b) (QR ht hn l) (List.pairwise_mergeSort ht hn l) ((Hi le l).trans (List.mergeSort_perm l le).symm)
def Ia(x y:Int):Bool:=decide (x<=y)
theorem c7o(l:List Int):Dv Ia l=l.mergeSort λx y=>decide (x<=y):=Yb (le:=Ia) (λa b c h1 h2=>by simp[Ia]at*;omega) (λa b=>by simp[Ia];omega) (λa b h1 h2=>by simp[Ia]at*;omega) l
def HO(args:List PV)(h:List PObj):Option (PV×List PObj):=match args with|[.rowp n 1 false len]=>(match h[n]? with|some (.cells cs)=>if len<=cs.length/\len<4611686018427387904 then(HZ (cs.take len)).map λzs=>(.tuple [],h.set n (.cells ((Dv Ia zs).map (.int .i64 ·)++cs.drop len)))else none|_=>none)|[.list _ []]=>some (.tuple [],h)|_=>none
def Hh:List PV->Option (List (Int×Int))|[]=>some []|.int .i64 a::.int .i64 b::r=>(Hh r).map ((a,b)::·)|_=>none
def A0(x:Int×Int):List PV:=[.int .i64 x.1,.int .i64 x.2]
def B3(x y:Int×Int):Bool:=decide (x.1<y.1\/x.1=y.1/\x.2<=y.2)
theorem c49(l:List (Int×Int)):Dv B3 l=l.mergeSort B3:=Yb (λa b c h1 h2=>by simp[B3]at*;omega) (λa b=>by simp[B3];omega) (λa b h1 h2=>by simp[B3]at*;exact Prod.ext (by omega) (by omega)) l
def Ha(kc:Nat)(args:List PV)(h:List PObj):Option (PV×List PObj):=match args with|[.rowp n 2 true len,.func k [] []]=>(match h[n]? with|some (.cells cs)=>if k=kc/\len*2<=cs.length/\len<4611686018427387904 then(Hh (cs.take (len*2))).map λzs=>(.tuple [],h.set n (.cells ((Dv B3 zs).flatMap A0++cs.drop (len*2))))else none|_=>none)|[.list _ [],_]=>some (.tuple [],h)|_=>none
section
variable{cf:Ax}{V l:List PV}{g:Nat}{h:List PObj}{L:Nat->Option PFunc}
@[simp]theorem e2w(i:Nat):raw ⟨V,l,g,h⟩ (.v i)=V[i]?:=rfl
@[simp]theorem e2x(i:Nat):raw ⟨V,l,g,h⟩ (.l i)=l[i]?:=rfl
@[simp]theorem e2y(p:PV):raw ⟨V,l,g,h⟩ (.c p)=some p:=rfl
@[simp]theorem e2z(x:PX):rd ⟨V,l,g,h⟩ x=match raw ⟨V,l,g,h⟩ x with|some v=>cp v|none=>none:=by simp only[rd];cases raw ⟨V,l,g,h⟩ x<;>rfl
@[simp]theorem d89(b:Bool):cp (.bool b)=some (.bool b):=rfl
@[simp]theorem d7A(b:Bool):dem (.bool b)=.bool b:=rfl
@[simp]theorem d9Y(k:IntKind)(n:Int):cp (.int k n)=some (.int k n):=rfl
@[simp]theorem d9a(k:IntKind)(n:Int):dem (.int k n)=.int k n:=rfl
@[simp]theorem d9Z(s:List UInt8):cp (.str s)=some (.str s):=rfl
@[simp]theorem d9b(s:List UInt8):dem (.str s)=.str s:=rfl
@[simp]theorem d90(cs:List PV):cp (.agg cs)=some (.agg cs):=rfl
@[simp]theorem d9c(cs:List PV):dem (.agg cs)=.agg cs:=rfl
@[simp]theorem d7B(vs:List PV):cp (.tuple vs)=some (.tuple vs):=rfl
@[simp]theorem d5L(vs:List PV):dem (.tuple vs)=.tuple vs:=rfl
@[simp]theorem d5M:cp (.nilptr)=some (.nilptr):=rfl
@[simp]theorem d3G:dem (.nilptr)=.nilptr:=rfl
@[simp]theorem d9d(cs:List PV):cp (.cptr cs)=some (.cptr cs):=rfl
@[simp]theorem d7C(cs:List PV):dem (.cptr cs)=.cptr cs:=rfl
@[simp]theorem d91(n o:Nat):cp (.ptr n o)=some (.ptr n o):=rfl
@[simp]theorem d9e(n o:Nat):dem (.ptr n o)=.ptr n o:=rfl
@[simp]theorem d92(n:Option Nat):cp (.map n)=some (.map n):=rfl
@[simp]theorem d9f(n:Option Nat):dem (.map n)=.map n:=rfl
@[simp]theorem d9g(k:Nat)(a b:List PV):cp (.func k a b)=some (.func k a b):=rfl
@[simp]theorem d7D(k:Nat)(a b:List PV):dem (.func k a b)=.func k a b:=rfl
@[simp]theorem d3H:cp (.nilfunc)=some (.nilfunc):=rfl
@[simp]theorem d2k:dem (.nilfunc)=.nilfunc:=rfl
@[simp]theorem d7E(t:Nat)(v:PV):cp (.iface t v)=some (.iface t v):=rfl
@[simp]theorem d5N(t:Nat)(v:PV):dem (.iface t v)=.iface t v:=rfl
@[simp]theorem d2l:cp (.nilIface)=some (.nilIface):=rfl
@[simp]theorem d0x:dem (.nilIface)=.nilIface:=rfl
@[simp]theorem d9h:cp (.nils)=some (.nils):=rfl
@[simp]theorem d7F:dem (.nils)=.nils:=rfl
@[simp]theorem d9i:cp (.void)=some (.void):=rfl
@[simp]theorem d7G:dem (.void)=.void:=rfl
@[simp]theorem d9j(o:Bool)(es:List PV):cp (.list o es)=some (.list false es):=rfl
@[simp]theorem d7H(o:Bool)(es:List PV):dem (.list o es)=.list false es:=rfl
@[simp]theorem d93(n:Nat)(cs:List PV):cp (.loc n cs)=none:=rfl
@[simp]theorem d9k(s n o:Nat):cp (.lptr s n o)=none:=rfl
@[simp]theorem d9l:cp .dead=none:=rfl
@[simp]theorem d9m(n sz:Nat)(a:Bool)(k:Nat):cp (.rowp n sz a k)=some (.rowp n sz a k):=rfl
@[simp]theorem d7I(n sz:Nat)(a:Bool)(k:Nat):dem (.rowp n sz a k)=.rowp n sz a k:=rfl
@[simp]theorem Yw(n sz:Nat)(a:Bool)(k:Nat):BE (.rowp n sz a k)=some n:=rfl
@[simp]theorem d5O(b:Bool):BE (.bool b)=none:=rfl
@[simp]theorem d7J(k:IntKind)(n:Int):BE (.int k n)=none:=rfl
@[simp]theorem d7K(s:List UInt8):BE (.str s)=none:=rfl
@[simp]theorem d7L(cs:List PV):BE (.agg cs)=none:=rfl
@[simp]theorem d3I(vs:List PV):BE (.tuple vs)=none:=rfl
@[simp]theorem d2m:BE (.nilptr)=none:=rfl
@[simp]theorem d5P(cs:List PV):BE (.cptr cs)=none:=rfl
@[simp]theorem d7M(n o:Nat):BE (.ptr n o)=none:=rfl
@[simp]theorem d7N(n:Option Nat):BE (.map n)=none:=rfl
@[simp]theorem d5Q(k:Nat)(a b:List PV):BE (.func k a b)=none:=rfl
@[simp]theorem d0y:BE (.nilfunc)=none:=rfl
@[simp]theorem d3J(t:Nat)(v:PV):BE (.iface t v)=none:=rfl
@[simp]theorem c9q:BE (.nilIface)=none:=rfl
@[simp]theorem d5R:BE (.nils)=none:=rfl
@[simp]theorem d5S:BE (.void)=none:=rfl
@[simp]theorem d5T(o:Bool)(es:List PV):BE (.list o es)=none:=rfl
@[simp]theorem d7O(n:Nat)(cs:List PV):BE (.loc n cs)=none:=rfl
@[simp]theorem d5U(s n o:Nat):BE (.lptr s n o)=none:=rfl
@[simp]theorem d5V:BE (.dead)=none:=rfl
@[simp]theorem d9n(n:Nat)(cs:List PV):dem (.loc n cs)=.loc n cs:=rfl
@[simp]theorem d7P:dem .dead=.dead:=rfl
@[simp]theorem d5W(b:Bool):AE (.bool b)=true:=rfl
@[simp]theorem d7Q(k:IntKind)(n:Int):AE (.int k n)=true:=rfl
@[simp]theorem d7R(s:List UInt8):AE (.str s)=true:=rfl
@[simp]theorem d7S(cs:List PV):AE (.agg cs)=AD cs:=rfl
@[simp]theorem d3K(vs:List PV):AE (.tuple vs)=AD vs:=rfl
@[simp]theorem d2n:AE (.nilptr)=true:=rfl
@[simp]theorem d5X(cs:List PV):AE (.cptr cs)=AD cs:=rfl
@[simp]theorem d7T(n o:Nat):AE (.ptr n o)=false:=rfl
@[simp]theorem d7U(n:Option Nat):AE (.map n)=n.isNone:=rfl
@[simp]theorem d5Y(k:Nat)(a b:List PV):AE (.func k a b)=(AD a&&AD b):=rfl
@[simp]theorem d0z:AE (.nilfunc)=true:=rfl
@[simp]theorem d3L(t:Nat)(v:PV):AE (.iface t v)=AE v:=rfl
@[simp]theorem c9r:AE (.nilIface)=true:=rfl
@[simp]theorem d5Z:AE (.nils)=true:=rfl
@[simp]theorem d50:AE (.void)=true:=rfl
@[simp]theorem d51(o:Bool)(es:List PV):AE (.list o es)=AD es:=rfl
@[simp]theorem d52:AE (.dead)=false:=rfl
@[simp]theorem d53(n sz:Nat)(a:Bool)(k:Nat):AE (.rowp n sz a k)=false:=rfl
@[simp]theorem d9o(k:EK)(x y:PV):peq false [k] x y=Dp k x y:=rfl
@[simp]theorem d9p(ks:List EK)(xs ys:List PV):peq true ks (.agg xs) (.agg ys)=C1 ks xs ys:=rfl
def tkv:PV->Option (PV×Bool)|.list true es=>some (.list true es,true)|v=>match cp v with|some u=>some (u,false)|none=>none
@[simp]theorem d7V(b:Bool):tkv (.bool b)=some (.bool b,false):=rfl
@[simp]theorem d9q(k:IntKind)(n:Int):tkv (.int k n)=some (.int k n,false):=rfl
@[simp]theorem d9r(s:List UInt8):tkv (.str s)=some (.str s,false):=rfl
@[simp]theorem d9s(cs:List PV):tkv (.agg cs)=some (.agg cs,false):=rfl
@[simp]theorem d54(vs:List PV):tkv (.tuple vs)=some (.tuple vs,false):=rfl
@[simp]theorem d3M:tkv (.nilptr)=some (.nilptr,false):=rfl
@[simp]theorem d7W(cs:List PV):tkv (.cptr cs)=some (.cptr cs,false):=rfl
@[simp]theorem d9t(n o:Nat):tkv (.ptr n o)=some (.ptr n o,false):=rfl
@[simp]theorem d9u(n:Option Nat):tkv (.map n)=some (.map n,false):=rfl
@[simp]theorem d7X(k:Nat)(a b:List PV):tkv (.func k a b)=some (.func k a b,false):=rfl
@[simp]theorem d2o:tkv (.nilfunc)=some (.nilfunc,false):=rfl
@[simp]theorem d55(t:Nat)(v:PV):tkv (.iface t v)=some (.iface t v,false):=rfl
@[simp]theorem d0A:tkv (.nilIface)=some (.nilIface,false):=rfl
@[simp]theorem d7Y:tkv (.nils)=some (.nils,false):=rfl
@[simp]theorem d7Z:tkv (.void)=some (.void,false):=rfl
@[simp]theorem d9v(es:List PV):tkv (.list true es)=some (.list true es,true):=rfl
@[simp]theorem d70(es:List PV):tkv (.list false es)=some (.list false es,false):=rfl
@[simp]theorem d9w(n:Nat)(cs:List PV):tkv (.loc n cs)=none:=rfl
@[simp]theorem d71(s n o:Nat):tkv (.lptr s n o)=none:=rfl
@[simp]theorem d72:tkv .dead=none:=rfl
@[simp]theorem d73(n sz:Nat)(a:Bool)(k:Nat):tkv (.rowp n sz a k)=some (.rowp n sz a k,false):=rfl
@[simp]theorem d9x(x:PX):tk ⟨V,l,g,h⟩ x=match raw ⟨V,l,g,h⟩ x with|some v=>(match tkv v with|some (u,true)=>some (u,FC ⟨V,l,g,h⟩ x (dem v))|some (u,false)=>some (u,⟨V,l,g,h⟩)|none=>none)|none=>none:=by unfold tk;cases raw ⟨V,l,g,h⟩ x with|none=>rfl|some v=>cases v with|list ow es=>cases ow<;>rfl|_=>rfl
def E7:PV->Option (List PV)|.agg cs=>some cs|_=>none
@[simp]theorem d0B(cs:List PV):E7 (.agg cs)=some cs:=rfl
@[simp]theorem d74(cs:List PV):Dq (.agg cs)=.agg (cs.map dem):=rfl
@[simp]theorem d56(b:Bool):Dq (.bool b)=.bool b:=rfl
@[simp]theorem d75(k:IntKind)(n:Int):Dq (.int k n)=.int k n:=rfl
@[simp]theorem d76(s:List UInt8):Dq (.str s)=.str s:=rfl
@[simp]theorem d57(o:Bool)(es:List PV):Dq (.list o es)=.list false es:=rfl
@[simp]theorem c9s(n:Nat)(cs:List PV)(off:Nat)(v:PV):AI n true cs off v=match E7 v with|some vs=>if vs.length=n/\off+n<=cs.length then some (cs.take off++(vs++cs.drop (off+n)))else none|none=>none:=by cases v<;>rfl
@[simp]theorem c9t(n:Nat)(cs:List PV)(off:Nat)(v:PV):AI n false cs off v=if off<cs.length/\v.flat=true then some (cs.set off v)else none:=rfl
def SD(h:List PObj):PV->Option PV|.rowp n sz agg len=>if agg=true\/sz=1 then(match h[n]? with|some (.cells cs)=>(match Cu sz agg cs len 0 with|some es=>some (.list false es)|none=>none)|_=>none)else none|_=>none
@[simp]theorem Yx(h:List PObj)(n sz len:Nat)(agg:Bool):SD h (.rowp n sz agg len)=if agg=true\/sz=1 then(match h[n]? with|some (.cells cs)=>(match Cu sz agg cs len 0 with|some es=>some (.list false es)|none=>none)|_=>none)else none:=rfl
def D0:PV->PV|.nils=>.list false []|v=>v
@[simp]theorem d58:D0 .nils=.list false []:=rfl
@[simp]theorem d59(b:Bool):D0 (.bool b)=.bool b:=rfl
@[simp]theorem d77(k:IntKind)(n:Int):D0 (.int k n)=.int k n:=rfl
@[simp]theorem d78(s:List UInt8):D0 (.str s)=.str s:=rfl
@[simp]theorem d79(cs:List PV):D0 (.agg cs)=.agg cs:=rfl
@[simp]theorem d3N(cs:List PV):D0 (.tuple cs)=.tuple cs:=rfl
@[simp]theorem d2p:D0 (.nilptr)=.nilptr:=rfl
@[simp]theorem d6a(cs:List PV):D0 (.cptr cs)=.cptr cs:=rfl
@[simp]theorem d8a(n o:Nat):D0 (.ptr n o)=.ptr n o:=rfl
@[simp]theorem d8b(n:Option Nat):D0 (.map n)=.map n:=rfl
@[simp]theorem d6b(k:Nat)(a b:List PV):D0 (.func k a b)=.func k a b:=rfl
@[simp]theorem d0C:D0 (.nilfunc)=.nilfunc:=rfl
@[simp]theorem d3O(t:Nat)(v:PV):D0 (.iface t v)=.iface t v:=rfl
@[simp]theorem c9u:D0 (.nilIface)=.nilIface:=rfl
@[simp]theorem d6c:D0 (.void)=.void:=rfl
@[simp]theorem d6d(o:Bool)(es:List PV):D0 (.list o es)=.list o es:=rfl
@[simp]theorem d6e:D0 (.dead)=.dead:=rfl
@[simp]theorem d8c(n:Nat)(cs:List PV):D0 (.loc n cs)=.loc n cs:=rfl
@[simp]theorem c9v(i:Nat):El ⟨V,l,g,h⟩ (.keep i)=match V[i]? with|some v=>cp v|none=>none:=by simp only[El];cases V[i]?<;>rfl
@[simp]theorem d0D(V:List PV)(i:Nat)(rs:List PRes)(h:List PObj):Be V (.keep i::rs) h=Be V rs h:=rfl
@[simp]theorem d0E(i:Nat):El ⟨V,l,g,h⟩ (.var i)=match V[i]? with|some v=>(match BE v with|some _=>SD h v|none=>(match tkv v with|some (u,_)=>some (D0 u)|none=>none))|none=>none:=by simp only[El];cases V[i]? with|none=>rfl|some v=>cases v with|list ow es=>cases ow<;>rfl|rowp n sz agg len=>grind[Yw,Yx,AT,Cu]|_=>rfl
@[simp]theorem d3P:F1 []=[]:=rfl
@[simp]theorem d2q(p:PV)(ps:List PV):F1 (p::ps)=match BE p with|some n=>n::F1 ps|none=>F1 ps:=by cases p<;>rfl
@[simp]theorem d6f(h:List PObj):Eb [] h=h:=rfl
@[simp]theorem d3Q(n:Nat)(ns:List Nat)(h:List PObj):Eb (n::ns) h=Eb ns (h.set n .gone):=rfl
@[simp]theorem d2r(V:List PV)(h:List PObj):Be V [] h=h:=rfl
@[simp]theorem d0F(V:List PV)(i n:Nat)(agg:Bool)(rs:List PRes)(h:List PObj):Be V (.cell i n agg::rs) h=match V[i]? with|some (.loc _ cs)=>Be V rs (Eb (F1 cs) h)|_=>Be V rs h:=by simp only[Be,FE];cases V[i]? with|none=>rfl|some v=>cases v<;>rfl
@[simp]theorem d2s(V:List PV)(i:Nat)(rs:List PRes)(h:List PObj):Be V (.var i::rs) h=match V[i]? with|some v=>(match BE v with|some n=>Be V rs (h.set n .gone)|none=>Be V rs h)|none=>Be V rs h:=by simp only[Be,FE,N2];cases V[i]? with|none=>rfl|some v=>cases v<;>rfl
@[simp]theorem d6g(h:List PObj):EL h []=some []:=rfl
@[simp]theorem d3R(h:List PObj)(p:PV)(ps:List PV):EL h (p::ps)=match BE p with|some _=>(match SD h p with|some q=>(match EL h ps with|some qs=>some (q::qs)|none=>none)|none=>none)|none=>(match EL h ps with|some qs=>some (p::qs)|none=>none):=by simp only[EL];cases p with|rowp n sz agg len=>grind[Yw,Yx,EJ,Cu,EL]|_=>cases EL h ps<;>rfl
@[simp]theorem d8d(h:List PObj)(ps:List PV):BZ h (.agg ps)=match EL h ps with|some qs=>some (.agg qs)|none=>none:=by simp only[BZ];cases EL h ps<;>rfl
@[simp]theorem d6h(h:List PObj)(b:Bool):BZ h (.bool b)=some (.bool b):=rfl
@[simp]theorem d8e(h:List PObj)(k:IntKind)(n:Int):BZ h (.int k n)=some (.int k n):=rfl
@[simp]theorem d8f(h:List PObj)(s:List UInt8):BZ h (.str s)=some (.str s):=rfl
@[simp]theorem d6i(h:List PObj)(o:Bool)(es:List PV):BZ h (.list o es)=some (.list o es):=rfl
@[simp]theorem d2t(h:List PObj):BZ h (.nilptr)=some (.nilptr):=rfl
@[simp]theorem d6j(h:List PObj)(cs:List PV):BZ h (.cptr cs)=some (.cptr cs):=rfl
@[simp]theorem d8g(h:List PObj)(n o:Nat):BZ h (.ptr n o)=some (.ptr n o):=rfl
@[simp]theorem d6k(h:List PObj)(n sz:Nat)(a:Bool)(k:Nat):BZ h (.rowp n sz a k)=some (.rowp n sz a k):=rfl
@[simp]theorem d8h(h:List PObj)(n:Option Nat):BZ h (.map n)=some (.map n):=rfl
@[simp]theorem d6l(h:List PObj)(k:Nat)(a b:List PV):BZ h (.func k a b)=some (.func k a b):=rfl
@[simp]theorem d0G(h:List PObj):BZ h (.nilfunc)=some (.nilfunc):=rfl
@[simp]theorem d3S(h:List PObj)(t:Nat)(v:PV):BZ h (.iface t v)=some (.iface t v):=rfl
@[simp]theorem c9w(h:List PObj):BZ h (.nilIface)=some (.nilIface):=rfl
@[simp]theorem c9x(i n:Nat)(agg:Bool):El ⟨V,l,g,h⟩ (.cell i n agg)=match V[i]? with|some (.loc _ cs)=>(match Au n agg cs 0 with|some v=>BZ h v|none=>none)|some (.ptr m 0)=>(match AT ⟨V,l,g,h⟩ m with|some cs=>Au n agg cs 0|none=>none)|_=>none:=by simp only[El];cases V[i]? with|none=>rfl|some v=>cases v with|loc g cs=>simp only;cases Au n agg cs 0<;>rfl|ptr m off=>(cases off with|zero=>simp only;cases AT ⟨V,l,g,h⟩ m<;>rfl|succ off=>rfl)|_=>rfl
attribute[simp]addr rdInt FC AD JE JF unv bound Dp Gy
@[simp]theorem d6m(st:St):rdAll st []=some []:=rfl
@[simp]theorem d3T(x:PX)(xs:List PX):rdAll ⟨V,l,g,h⟩ (x::xs)=match rd ⟨V,l,g,h⟩ x with|some v=>(match rdAll ⟨V,l,g,h⟩ xs with|some vs=>some (v::vs)|none=>none)|none=>none:=by simp only[rdAll];cases rd ⟨V,l,g,h⟩ x<;>simp;cases rdAll ⟨V,l,g,h⟩ xs<;>rfl
@[simp]theorem d2u(st:St):rdElems st []=some []:=rfl
@[simp]theorem d0H(i:Nat)(x:PX)(xs:List (Nat×PX)):rdElems ⟨V,l,g,h⟩ ((i,x)::xs)=match rd ⟨V,l,g,h⟩ x with|some v=>(match rdElems ⟨V,l,g,h⟩ xs with|some vs=>some ((i,v)::vs)|none=>none)|none=>none:=by simp only[rdElems];cases rd ⟨V,l,g,h⟩ x<;>simp;cases rdElems ⟨V,l,g,h⟩ xs<;>rfl
@[simp]theorem d2v(st:St):rdParts st []=some []:=rfl
@[simp]theorem d0I(i s:Nat)(x:PX)(xs:List (Nat×Nat×PX)):rdParts ⟨V,l,g,h⟩ ((i,s,x)::xs)=match rd ⟨V,l,g,h⟩ x with|some v=>(match rdParts ⟨V,l,g,h⟩ xs with|some vs=>some ((i,s,v)::vs)|none=>none)|none=>none:=by simp only[rdParts];cases rd ⟨V,l,g,h⟩ x<;>simp;cases rdParts ⟨V,l,g,h⟩ xs<;>rfl
@[simp]theorem e2A(i j:Nat)(v:PV):put ⟨V,l,g,h⟩ j (.v i) v=⟨V.set i v,l,g,h⟩:=rfl
@[simp]theorem e2B(j:Nat)(v:PV):put ⟨V,l,g,h⟩ j .l v=⟨V,l.set j v,g,h⟩:=rfl
@[simp]theorem e2C(j:Nat)(v:PV):put ⟨V,l,g,h⟩ j .n v=⟨V,l,g,h⟩:=rfl
@[simp]theorem d3U(ops:List PO):CG cf ops ⟨V,l,g,h⟩=CU cf 0 ops ⟨V,List.replicate ops.length .dead,g,h⟩:=rfl
@[simp]theorem d0J(j:Nat)(st:St):CU cf j [] st=some st:=rfl
@[simp]theorem c9y(j:Nat)(d:PD)(o:POp)(os:List PO):CU cf j (⟨d,o,none⟩::os) ⟨V,l,g,h⟩=match opv cf o ⟨V,l,g,h⟩with|some (v,st)=>CU cf (j+1) os (put st j d v)|none=>none:=by simp only[CU,Bm];cases opv cf o ⟨V,l,g,h⟩<;>rfl
@[simp]theorem c70(j:Nat)(d:PD)(o:POp)(x:PX)(want:Bool)(os:List PO):CU cf j (⟨d,o,some (x,want)⟩::os) ⟨V,l,g,h⟩=match rd ⟨V,l,g,h⟩ x with|some (.bool b)=>if b=want then(match opv cf o ⟨V,l,g,h⟩with|some (v,st)=>CU cf (j+1) os (put st j d v)|none=>none)else CU cf (j+1) os (put ⟨V,l,g,h⟩ j d (.tuple []))|some (.tuple [])=>CU cf (j+1) os (put ⟨V,l,g,h⟩ j d (.tuple []))|_=>none:=by simp only[CU,Bm];cases rd ⟨V,l,g,h⟩ x with|none=>rfl|some v=>(cases v<;>try rfl);{rename_i b;by_cases hb:b=want;{simp only[ah hb];cases opv cf o ⟨V,l,g,h⟩<;>rfl};simp only[ai hb];rfl};rename_i vs;cases vs<;>rfl
def sv(r:Option PV)(st:St):Option (PV×St):=match r with|some v=>some (v,st)|none=>none
@[simp]theorem d9z(v:PV)(st:St):sv (some v) st=some (v,st):=rfl
@[simp]theorem d9A(st:St):sv none st=none:=rfl
theorem FY(r:Option PV)(st:St):r.map (·,st)=sv r st:=by cases r<;>rfl
@[simp]theorem d9B(x:PX):opv cf (.mov x) ⟨V,l,g,h⟩=sv (rd ⟨V,l,g,h⟩ x) ⟨V,l,g,h⟩:=FY _ _
@[simp]theorem d8i(x:PX):opv cf (.take x) ⟨V,l,g,h⟩=match raw ⟨V,l,g,h⟩ x with|some v=>(match tkv v with|some (u,true)=>some (u,FC ⟨V,l,g,h⟩ x (dem v))|some (u,false)=>some (u,⟨V,l,g,h⟩)|none=>none)|none=>none:=by simp only[opv,d9x]
@[simp]theorem d8j(c a b:PX):opv cf (.pick c a b) ⟨V,l,g,h⟩=match rd ⟨V,l,g,h⟩ c with|some (.bool t)=>sv (rd ⟨V,l,g,h⟩ (if t then a else b)) ⟨V,l,g,h⟩|_=>none:=by simp only[opv,FY];rfl
@[simp]theorem d3V(z:List PV):opv cf (.newloc z) ⟨V,l,g,h⟩=some (.loc g z,⟨V,l,g+1,h⟩):=rfl
@[simp]theorem d3W(s:Nat)(x:PX):opv cf (.boxloc s x) ⟨V,l,g,h⟩=match rd ⟨V,l,g,h⟩ x with|some v=>if v.cells.length=s then some (.loc g (v.cells.map dem),⟨V,l,g+1,h⟩)else none|none=>none:=rfl
@[simp]theorem d2w(s:Nat)(z:PV)(n:Nat)(ps:List (Nat×PX)):opv cf (.mkslice s z n ps) ⟨V,l,g,h⟩=match rdElems ⟨V,l,g,h⟩ ps with|some es=>(match EI s (List.replicate n z) es with|some es=>some (.list true es,⟨V,l,g,h⟩)|none=>none)|none=>none:=by simp only[opv];cases rdElems ⟨V,l,g,h⟩ ps<;>simp;rename_i es;cases EI s (List.replicate n z) es<;>rfl
@[simp]theorem d6n(z:List PV)(ps:List (Nat×Nat×PX)):opv cf (.build z ps) ⟨V,l,g,h⟩=match rdParts ⟨V,l,g,h⟩ ps with|some es=>(match EX z es with|some cs=>some (.agg cs,⟨V,l,g,h⟩)|none=>none)|none=>none:=by simp only[opv];cases rdParts ⟨V,l,g,h⟩ ps<;>simp;rename_i es;cases EX z es<;>rfl
@[simp]theorem d8k(s:Nat)(agg:Bool)(a:PX)(t:Bool):opv cf (.load s agg a t) ⟨V,l,g,h⟩=match addr ⟨V,l,g,h⟩ a with|some (.cptr cs)=>sv (Au s agg cs 0) ⟨V,l,g,h⟩|some (.lptr s' g0 off)=>(match V[s']? with|some (.loc g' cs)=>if g0=g' then match t&&!agg,cs[off]? with|true,some (.list true es)=>some (.list true es,⟨V.set s' (.loc g0 (cs.set off (.list false es))),l,g,h⟩)|_,_=>sv (Au s agg cs off) ⟨V,l,g,h⟩else none|_=>none)|_=>none:=by simp only[opv,FY];rfl
@[simp]theorem d6o(s:Nat)(agg:Bool)(a x:PX):opv cf (.store s agg a x) ⟨V,l,g,h⟩=match addr ⟨V,l,g,h⟩ a,tk ⟨V,l,g,h⟩ x with|some (.lptr s' g0 off),some (v,⟨V,l,g,h⟩)=>(match V[s']? with|some (.loc g' cs)=>if g0=g' then(match AI s agg cs off v with|some cs=>some (.dead,⟨V.set s' (.loc g0 cs),l,g,h⟩)|none=>none)else none|_=>none)|_,_=>none:=by simp only[opv];cases addr ⟨V,l,g,h⟩ a with|none=>rfl|some p=>(cases p<;>try rfl);cases tk ⟨V,l,g,h⟩ x with|none=>rfl|some r=>grind
@[simp]theorem d6p(off:Nat)(x:PX):opv cf (.faddr off x) ⟨V,l,g,h⟩=match addr ⟨V,l,g,h⟩ x with|some (.cptr cs)=>some (.cptr (cs.drop off),⟨V,l,g,h⟩)|some (.lptr s g0 o)=>some (.lptr s g0 (o+off),⟨V,l,g,h⟩)|some (.ptr n o)=>some (.ptr n (o+off),⟨V,l,g,h⟩)|_=>none:=rfl
@[simp]theorem d3X(s:Nat)(x i:PX):opv cf (.iaddrS s x i) ⟨V,l,g,h⟩=match rd ⟨V,l,g,h⟩ x,rdInt ⟨V,l,g,h⟩ i with|some (.list _ es),some n=>if 0<=n then match es[n.toNat]? with|some e=>if e.cells.length=s then some (.cptr e.cells,⟨V,l,g,h⟩)else none|none=>none else none|some (.rowp m sz _ len),some n=>if sz=s/\0<=n/\n<len then some (.ptr m (n.toNat*s),⟨V,l,g,h⟩)else none|some (.rows m sz _ off len),some n=>if sz=s/\0<=n/\n<len then some (.ptr m ((off+n.toNat)*s),⟨V,l,g,h⟩)else none|_,_=>none:=rfl
@[simp]theorem d0K(x i:PX):opv cf (.indexStr x i) ⟨V,l,g,h⟩=match rd ⟨V,l,g,h⟩ x,rdInt ⟨V,l,g,h⟩ i with|some (.str s),some n=>if 0<=n then match s[n.toNat]? with|some b=>some (.int .u8 b.toNat,⟨V,l,g,h⟩)|none=>none else none|_,_=>none:=rfl
@[simp]theorem d9C(op:BinOp)(x y:PX):opv cf (.bin op x y) ⟨V,l,g,h⟩=match rd ⟨V,l,g,h⟩ x,rd ⟨V,l,g,h⟩ y with|some a,some b=>sv (FD op a b) ⟨V,l,g,h⟩|_,_=>none:=by simp only[opv,FY];rfl
@[simp]theorem d94(neg agg:Bool)(ks:List EK)(x y:PX):opv cf (.eq neg agg ks x y) ⟨V,l,g,h⟩=match rd ⟨V,l,g,h⟩ x,rd ⟨V,l,g,h⟩ y with|some a,some b=>(match peq agg ks a b with|some t=>some (.bool (if neg then !t else t),⟨V,l,g,h⟩)|none=>none)|_,_=>none:=by simp only[opv];cases rd ⟨V,l,g,h⟩ x with|none=>rfl|some a=>cases rd ⟨V,l,g,h⟩ y with|none=>rfl|some b=>simp only;cases peq agg ks a b<;>rfl
@[simp]theorem d95(op:UnOp)(x:PX):opv cf (.un op x) ⟨V,l,g,h⟩=match rd ⟨V,l,g,h⟩ x with|some a=>sv (unv op a) ⟨V,l,g,h⟩|none=>none:=by simp only[opv,FY];rfl
@[simp]theorem d8l(t:Nat)(x:PX):opv cf (.ifc true t x) ⟨V,l,g,h⟩=match rd ⟨V,l,g,h⟩ x with|some v=>some (.iface t v,⟨V,l,g,h⟩)|none=>none:=by simp only[opv];cases rd ⟨V,l,g,h⟩ x<;>rfl
@[simp]theorem d8m(t:Nat)(x:PX):opv cf (.ifc false t x) ⟨V,l,g,h⟩=match rd ⟨V,l,g,h⟩ x with|some (.iface t' v)=>if t'=t then some (dem v,⟨V,l,g,h⟩)else none|_=>none:=by simp only[opv];cases rd ⟨V,l,g,h⟩ x with|none=>rfl|some v=>cases v<;>rfl
@[simp]theorem d2x(k:IntKind)(x:PX):opv cf (.convInt k x) ⟨V,l,g,h⟩=match rdInt ⟨V,l,g,h⟩ x with|some n=>some (.int k (k.wrap n),⟨V,l,g,h⟩)|none=>none:=by simp only[opv];cases rdInt ⟨V,l,g,h⟩ x<;>rfl
@[simp]theorem d2y(i:Nat)(x:PX):opv cf (.extract i x) ⟨V,l,g,h⟩=match rd ⟨V,l,g,h⟩ x with|some (.tuple vs)=>(match vs[i]? with|some v=>sv (cp v) ⟨V,l,g,h⟩|none=>none)|_=>none:=by simp only[opv];cases rd ⟨V,l,g,h⟩ x with|none=>rfl|some a=>(cases a<;>try rfl);rename_i vs;simp only;cases vs[i]?<;>simp[FY]
@[simp]theorem d9D(str:Bool)(x:PX):opv cf (.len str x) ⟨V,l,g,h⟩=match str,rd ⟨V,l,g,h⟩ x with|true,some (.str s)=>some (.int .i64 s.length,⟨V,l,g,h⟩)|false,some (.list _ es)=>some (.int .i64 es.length,⟨V,l,g,h⟩)|false,some (.rowp _ _ _ n)=>some (.int .i64 n,⟨V,l,g,h⟩)|false,some (.rows _ _ _ _ n)=>some (.int .i64 n,⟨V,l,g,h⟩)|false,some .nils=>some (.int .i64 0,⟨V,l,g,h⟩)|false,some .void=>some (.int .i64 0,⟨V,l,g,h⟩)|_,_=>none:=rfl
@[simp]theorem d9E(x:PX):opv cf (.cap x) ⟨V,l,g,h⟩=match rd ⟨V,l,g,h⟩ x with|some .nils=>some (.int .i64 0,⟨V,l,g,h⟩)|_=>none:=rfl
@[simp]theorem d3Y(mx:Bool)(xs:List PX):opv cf (.minmax mx xs) ⟨V,l,g,h⟩=match rdAll ⟨V,l,g,h⟩ xs with|some (v::vs)=>sv (Gy mx v vs) ⟨V,l,g,h⟩|_=>none:=by simp only[opv,FY];rfl
@[simp]theorem d3Z(s b:Nat)(y x:PX):opv cf (.append s b y x) ⟨V,l,g,h⟩=match rd ⟨V,l,g,h⟩ x,tk ⟨V,l,g,h⟩ y with|some (.list _ xs),some (.list true es,st)=>if A9 s es/\A9 s xs/\((es.length+xs.length<=2147483648/\b<=16384)\/(es.length+xs.length<=9223372036854775807/\(es.length+xs.length)*b<=140737488355328))then some (.list true (es++xs),st)else none|some .nils,some (.list true es,st)=>if A9 s es/\((es.length<=2147483648/\b<=16384)\/(es.length<=9223372036854775807/\es.length*b<=140737488355328))then some (.list true es,st)else none|some .void,some (.list true es,st)=>if A9 s es/\((es.length<=2147483648/\b<=16384)\/(es.length<=9223372036854775807/\es.length*b<=140737488355328))then some (.list true es,st)else none|_,_=>none:=by simp only[opv];generalize tk ⟨V,l,g,h⟩ y=q;rcases q with _|⟨v,st⟩;{simp};cases rd ⟨V,l,g,h⟩ x with|none=>rfl|some p=>cases v with|list ow es=>(cases ow with|false=>simp|true=>cases p<;>first|rfl|grind[FZ,A9,List.length_nil])|_=>cases p<;>rfl
@[simp]theorem d6q(s n:Nat)(agg:Bool)(a:PX):opv cf (.loadv s n agg a) ⟨V,l,g,h⟩=match addr ⟨V,l,g,h⟩ a with|some (.lptr s' g1 off)=>(match V[s]? with|some (.loc g' cs)=>if s'=s/\g1=g' then(match Au n agg cs off with|some u=>some (u,⟨V,l,g,h⟩)|none=>none)else none|_=>none)|_=>none:=by simp only[opv];cases addr ⟨V,l,g,h⟩ a with|none=>rfl|some v=>(cases v<;>try rfl);cases V[s]? with|none=>rfl|some x=>(cases x<;>try rfl);simp only;split;{split;{rename_i hl;rw[hl];rfl};rename_i hl;rw[hl];rfl};rfl
@[simp]theorem d6r(k:Nat)(args:List PX):opv cf (.pcall k args) ⟨V,l,g,h⟩=match rdAll ⟨V,l,g,h⟩ args with|some vs=>if AD vs then(match cf k vs []with|some (r,_)=>if AE r then some (dem r,⟨V,l,g,h⟩)else none|none=>none)else none|none=>none:=rfl
@[simp]theorem d30(k:Nat)(args:List PX):opv cf (.pzcall k args) ⟨V,l,g,h⟩=match rdAll ⟨V,l,g,h⟩ args with|some vs=>if AD vs then(match cf k vs []with|some (r,h')=>(if AE (frz h' r)then some (dem (frz h' r),⟨V,l,g,h⟩)else none)|none=>none)else none|none=>none:=rfl
@[simp]theorem d31(k:Nat)(args:List PX):opv cf (.pcallx k args none) ⟨V,l,g,h⟩=match rdAll ⟨V,l,g,h⟩ args with|some vs=>if AD vs then(match cf k (Dr none vs) []with|some (r,_)=>if AE r then some (r,⟨V,l,g,h⟩)else none|none=>none)else none|none=>none:=rfl
@[simp]theorem d2z(k:Nat)(args:List PX)(i:Nat):opv cf (.pcallx k args (some i)) ⟨V,l,g,h⟩=match(match args[i]? with|some x=>tk ⟨V,l,g,h⟩ x|none=>none),rdAll ⟨V,l,g,h⟩ args with|some (v,st1),some vs=>if AD (vs.set i v)/\i<vs.length then(match cf k (Dr (some i) (vs.set i v)) []with|some (r,_)=>if AE r then some (r,st1)else none|none=>none)else none|_,_=>none:=by simp only[opv];cases args[i]?<;>rfl
@[simp]theorem d32(l:List PV):EP none l=l.map dem:=rfl
@[simp]theorem d33(i:Nat)(l:List PV):EP (some i) l=(l.map dem).set i (l.getD i .dead):=rfl
@[simp]theorem d6s:closed ⟨V,l,g,h⟩=⟨V,[],g,h⟩:=rfl
@[simp]theorem b9e(ops:List PO):evL L (.region ops) ⟨V,l,g,h⟩=match CG (Aj L) ops ⟨V,l,g,h⟩with|some st=>some (.normal,closed st)|none=>none:=by rw[c5e];cases CG (Aj L) ops ⟨V,l,g,h⟩<;>rfl
@[simp]theorem b9f(ops:List PO)(x:PX)(a b:PC):evL L (.branch ops x a b) ⟨V,l,g,h⟩=match CG (Aj L) ops ⟨V,l,g,h⟩with|some st=>(match rd st x with|some (.bool t)=>if t then evL L a (closed st)else evL L b (closed st)|_=>none)|none=>none:=by rw[c5f];cases CG (Aj L) ops ⟨V,l,g,h⟩with|none=>rfl|some st=>simp only[av];cases rd st x with|none=>rfl|some v=>(cases v<;>try rfl);rename_i t;cases t<;>rfl
@[simp]theorem d8n(ob:Ca)(j:Nat)(st:St):BW cf ob j [] st=some (none,st):=rfl
noncomputable def Jv(cf:Ax)(ob:Ca)(j:Nat)(os:List PO):Option (Option PV×St)->Option (Option PV×St)|some (none,st)=>BW cf ob j os st|r=>r
@[simp]theorem d6t(ob:Ca)(j:Nat)(os:List PO)(st:St):Jv cf ob j os (some (none,st))=BW cf ob j os st:=rfl
@[simp]theorem d34(ob:Ca)(j:Nat)(os:List PO)(v:PV)(st:St):Jv cf ob j os (some (some v,st))=some (some v,st):=rfl
@[simp]theorem d35(ob:Ca)(j:Nat)(os:List PO):Jv cf ob j os none=none:=rfl
theorem NA(ob:Ca)(j:Nat)(o:PO)(os:List PO)(st:St):BW cf ob j (o::os) st=Jv cf ob (j+1) os (CH cf ob j o st):=by rfl
def Iw(j:Nat)(d:PD):Option (Out×List PObj)->St->Option (Option PV×St)|some (.val r,h'),st=>some (none,put {st with heap:=h'} j d (dem r))|some (.boom v,h'),st=>some (some v,{st with heap:=h'})|none,_=>none
@[simp]theorem d8o(j:Nat)(d:PD)(r:PV)(h':List PObj):Iw j d (some (.val r,h')) ⟨V,l,g,h⟩=some (none,put ⟨V,l,g,h'⟩ j d (dem r)):=rfl
@[simp]theorem d6u(j:Nat)(d:PD)(v:PV)(h':List PObj):Iw j d (some (.boom v,h')) ⟨V,l,g,h⟩=some (some v,⟨V,l,g,h'⟩):=rfl
@[simp]theorem d6v(j:Nat)(d:PD)(st:St):Iw j d none st=none:=rfl
theorem c2A(ob:Ca)(j k:Nat)(d:PD)(args:List PX):CH cf ob j ⟨d,.h (.bcall k args),none⟩ ⟨V,l,g,h⟩=match rdAll ⟨V,l,g,h⟩ args with|some vs=>Iw j d (ob k vs h) ⟨V,l,g,h⟩|none=>none:=by simp only[CH];cases rdAll ⟨V,l,g,h⟩ args with|none=>rfl|some vs=>simp only;rcases ob k vs h with _|⟨_|v,h'⟩<;>rfl
theorem c0Z(ob:Ca)(j:Nat)(x:PX)(d:PD)(args:List PX):CH cf ob j ⟨d,.h (.bcallv x args),none⟩ ⟨V,l,g,h⟩=match rd ⟨V,l,g,h⟩ x,rdAll ⟨V,l,g,h⟩ args with|some (.func k first captured),some vs=>Iw j d (ob k (first++vs++captured) h) ⟨V,l,g,h⟩|_,_=>none:=by simp only[CH];cases rd ⟨V,l,g,h⟩ x with|none=>rfl|some f=>cases rdAll ⟨V,l,g,h⟩ args with|none=>simp|some vs=>(cases f<;>try rfl);rename_i k first captured;simp only;rcases ob k (first++vs++captured) h with _|⟨_|v,h'⟩<;>rfl
def SE:Option St->Option (Option PV×St)|some st=>some (none,st)|none=>none
@[simp]theorem d36(st:St):SE (some st)=some (none,st):=rfl
@[simp]theorem d37:SE none=none:=rfl
def A6:POp->Bool|.h (.bcall ..)|.h (.bcallv ..)=>true|_=>false
theorem Yy(ob:Ca)(j:Nat)(d:PD)(op:POp)(gd:Option (PX×Bool))(st:St)(hb:A6 op=false):CH cf ob j ⟨d,op,gd⟩ st=SE (Bm cf j ⟨d,op,gd⟩ st):=by(have key:CH cf ob j ⟨d,op,gd⟩ st=(Bm cf j ⟨d,op,gd⟩ st).map λst=>(none,st):=by cases op with|h o=>(cases o<;>first|rfl|simp[A6]at hb)|_=>rfl);rw[key];cases Bm cf j ⟨d,op,gd⟩ st<;>rfl
@[simp]theorem d6w(x:PX):A6 (.mov x)=false:=id rfl
@[simp]theorem d2C(s n:Nat)(agg:Bool)(a:PX):A6 (.loadv s n agg a)=false:=id rfl
@[simp]theorem d38(x:PX):A6 (.take x)=false:=id rfl
@[simp]theorem d39(c a b:PX):A6 (.pick c a b)=false:=id rfl
@[simp]theorem d0L(zero:List PV):A6 (.newloc zero)=false:=id rfl
@[simp]theorem d0M(size:Nat)(x:PX):A6 (.boxloc size x)=false:=id rfl
@[simp]theorem d2D(zero:List PV)(parts:List (Nat×Nat×PX)):A6 (.build zero parts)=false:=id rfl
@[simp]theorem c9z(size:Nat)(zero:PV)(len:Nat)(parts:List (Nat×PX)):A6 (.mkslice size zero len parts)=false:=id rfl
@[simp]theorem d4a(size:Nat)(agg:Bool)(a:PX)(take:Bool):A6 (.load size agg a take)=false:=id rfl
@[simp]theorem d2E(size:Nat)(agg:Bool)(a x:PX):A6 (.store size agg a x)=false:=id rfl
@[simp]theorem d2F(off:Nat)(x:PX):A6 (.faddr off x)=false:=id rfl
@[simp]theorem d0N(size:Nat)(x i:PX):A6 (.iaddrS size x i)=false:=id rfl
@[simp]theorem c71(x i:PX):A6 (.indexStr x i)=false:=id rfl
@[simp]theorem d2G(str:Bool)(size:Nat)(x:PX)(lo hi:Option PX):A6 (.slice str size x lo hi)=false:=id rfl
@[simp]theorem d6x(op:BinOp)(x y:PX):A6 (.bin op x y)=false:=id rfl
@[simp]theorem d8p(neg agg:Bool)(ks:List EK)(x y:PX):A6 (.eq neg agg ks x y)=false:=id rfl
@[simp]theorem d8q(op:UnOp)(x:PX):A6 (.un op x)=false:=id rfl
@[simp]theorem d6y(b:Bool)(t:Nat)(x:PX):A6 (.ifc b t x)=false:=id rfl
@[simp]theorem c9A(t:List (Nat×Nat×Option (Nat×Bool)))(x:PX)(args:List PX):A6 (.h (.icall t x args))=false:=id rfl
@[simp]theorem c9B(k:IntKind)(x:PX):A6 (.convInt k x)=false:=id rfl
@[simp]theorem c9C(i:Nat)(x:PX):A6 (.extract i x)=false:=id rfl
@[simp]theorem d6z(str:Bool)(x:PX):A6 (.len str x)=false:=id rfl
@[simp]theorem d0O(max:Bool)(xs:List PX):A6 (.minmax max xs)=false:=id rfl
@[simp]theorem d0P(size bytes:Nat)(s x:PX):A6 (.append size bytes s x)=false:=id rfl
@[simp]theorem d0Q(k:Nat)(args:List PX)(o:Option Nat):A6 (.pcallx k args o)=false:=id rfl
@[simp]theorem d2H(k:Nat)(args:List PX):A6 (.pcall k args)=false:=id rfl
@[simp]theorem d2I(x:PX)(args:List PX):A6 (.callv x args)=false:=id rfl
@[simp]theorem c72(zero:List PV):A6 (.h (.newobj zero))=false:=id rfl
@[simp]theorem c73(size:Nat)(x:PX):A6 (.h (.boxobj size x))=false:=id rfl
@[simp]theorem d0R(size:Nat)(agg:Bool)(a:PX)(take:Bool):A6 (.h (.load size agg a take))=false:=id rfl
@[simp]theorem c74(size:Nat)(agg:Bool)(a x:PX):A6 (.h (.storer size agg a x))=false:=id rfl
@[simp]theorem c9D(size:Nat)(agg:Bool)(a x:PX):A6 (.h (.store size agg a x))=false:=id rfl
@[simp]theorem c9E:A6 (.h (.mkmap))=false:=id rfl
@[simp]theorem c75(ok take kagg:Bool)(ks:List EK)(zero:PV)(m x:PX):A6 (.h (.lookup ok take kagg ks zero m x))=false:=id rfl
@[simp]theorem d0S(kagg:Bool)(ks:List EK)(m k v:PX):A6 (.h (.mset kagg ks m k v))=false:=id rfl
@[simp]theorem c76(k:Nat)(first captured:List PX):A6 (.h (.mkfunc k first captured))=false:=id rfl
@[simp]theorem c9F(kind:Nat)(neg:Bool)(x:PX):A6 (.h (.isnil kind neg x))=false:=id rfl
@[simp]theorem c77(x:PX):A6 (.h (.nilchk x))=false:=id rfl
@[simp]theorem c9G(size:Nat)(agg:Bool)(a:PX):A6 (.h (.loadc size agg a))=false:=id rfl
@[simp]theorem c9H(k:Nat)(args:List PX):A6 (.h (.rcall k args))=false:=id rfl
@[simp]theorem c9I(k:Nat)(args:List PX):A6 (.h (.zcall k args))=false:=id rfl
@[simp]theorem d0T(k:Nat)(args:List PX):A6 (.h (.call k args))=false:=id rfl
@[simp]theorem c9J(x:PX)(args:List PX):A6 (.h (.callv x args))=false:=id rfl
@[simp]theorem d0U(size:Nat)(agg:Bool)(bytes:Nat)(s x:PX):A6 (.h (.happ size agg bytes s x))=false:=id rfl
@[simp]theorem c7A(size:Nat)(agg:Bool)(b:Nat)(z:List PV)(x:PX):A6 (.h (.mkfresh size agg b z x))=false:=id rfl
@[simp]theorem c78(js:List Nat)(z:List PV)(ps:List (Nat×Nat×PX)):A6 (.h (.buildA js z ps))=false:=id rfl
@[simp]theorem c9K(a:PX):A6 (.h (.loadn a))=false:=id rfl
@[simp]theorem d0V(k:Nat)(args:List PX):A6 (.pzcall k args)=false:=id rfl
@[simp]theorem c9L(size:Nat)(agg:Bool)(z:PV)(len:Nat)(ps:List (Nat×PX)):A6 (.h (.mkrow size agg z len ps))=false:=id rfl
@[simp]theorem c9M(size:Nat)(agg:Bool)(bytes:Nat)(zero:List PV)(x:PX):A6 (.h (.mkarr size agg bytes zero x))=false:=id rfl
@[simp]theorem d9F(ob:Ca)(j:Nat)(d:PD)(op:POp)(os:List PO)(hb:A6 op=false):BW cf ob j (⟨d,op,none⟩::os) ⟨V,l,g,h⟩=match opv cf op ⟨V,l,g,h⟩with|some (v,st)=>BW cf ob (j+1) os (put st j d v)|none=>none:=by rw[NA,Yy ob j d op none _ hb];simp only[Bm];cases opv cf op ⟨V,l,g,h⟩<;>rfl
@[simp]theorem d8r(ob:Ca)(j:Nat)(d:PD)(op:POp)(x:PX)(want:Bool)(os:List PO)(hb:A6 op=false):BW cf ob j (⟨d,op,some (x,want)⟩::os) ⟨V,l,g,h⟩=match rd ⟨V,l,g,h⟩ x with|some (.bool b)=>if b=want then(match opv cf op ⟨V,l,g,h⟩with|some (v,st)=>BW cf ob (j+1) os (put st j d v)|none=>none)else BW cf ob (j+1) os (put ⟨V,l,g,h⟩ j d (.tuple []))|some (.tuple [])=>BW cf ob (j+1) os (put ⟨V,l,g,h⟩ j d (.tuple []))|_=>none:=by rw[NA,Yy ob j d op _ _ hb];simp only[Bm];cases rd ⟨V,l,g,h⟩ x with|none=>rfl|some v=>cases v with|bool b=>by_cases hw:b=want;{simp only[hw];cases opv cf op ⟨V,l,g,h⟩<;>rfl};simp only[hw];rfl|tuple vs=>cases vs<;>rfl|_=>rfl
@[simp]theorem d4b(ob:Ca)(j k:Nat)(d:PD)(args:List PX)(os:List PO):BW cf ob j (⟨d,.h (.bcall k args),none⟩::os) ⟨V,l,g,h⟩=match rdAll ⟨V,l,g,h⟩ args with|some vs=>Jv cf ob (j+1) os (Iw j d (ob k vs h) ⟨V,l,g,h⟩)|none=>none:=by rw[NA,c2A];cases rdAll ⟨V,l,g,h⟩ args<;>rfl
@[simp]theorem d2J(ob:Ca)(j:Nat)(x:PX)(d:PD)(args:List PX)(os:List PO):BW cf ob j (⟨d,.h (.bcallv x args),none⟩::os) ⟨V,l,g,h⟩=match rd ⟨V,l,g,h⟩ x,rdAll ⟨V,l,g,h⟩ args with|some (.func k first captured),some vs=>Jv cf ob (j+1) os (Iw j d (ob k (first++vs++captured) h) ⟨V,l,g,h⟩)|_,_=>none:=by rw[NA,c0Z];cases rd ⟨V,l,g,h⟩ x with|none=>rfl|some f=>cases rdAll ⟨V,l,g,h⟩ args with|none=>cases f<;>rfl|some vs=>cases f<;>rfl
@[simp]theorem b7z(ops:List PO):evL L (.bregion ops) ⟨V,l,g,h⟩=match BW (Aj L) (AL L) 0 ops ⟨V,List.replicate ops.length .dead,g,h⟩with|some (none,st)=>some (.normal,closed st)|some (some v,st)=>some (.boom v,closed st)|none=>none:=by rw[c2w];rfl
@[simp]theorem b7A(ops:List PO)(x:PX)(a b:PC):evL L (.bbranch ops x a b) ⟨V,l,g,h⟩=match BW (Aj L) (AL L) 0 ops ⟨V,List.replicate ops.length .dead,g,h⟩with|some (none,st)=>(match rd st x with|some (.bool t)=>evL L (if t then a else b) (closed st)|_=>none)|some (some v,st)=>some (.boom v,closed st)|none=>none:=by rw[c2x];rfl
@[simp]theorem c9N(st:St):Ew st []=some []:=rfl
@[simp]theorem c79(r:PRes)(rs:List PRes):Ew ⟨V,l,g,h⟩ (r::rs)=match El ⟨V,l,g,h⟩ r with|some v=>(match Ew ⟨V,l,g,h⟩ rs with|some vs=>some (v::vs)|none=>none)|none=>none:=by simp only[Ew];cases El ⟨V,l,g,h⟩ r<;>simp;cases Ew ⟨V,l,g,h⟩ rs<;>rfl
def KT:List PV->PV|[v]=>v|vs=>.tuple (vs.map dem)
@[simp]theorem d8s(v:PV):KT [v]=v:=rfl
@[simp]theorem d8t(v u:PV)(r:List PV):KT (v::u::r)=.tuple ((v::u::r).map dem):=rfl
@[simp]theorem d8u:KT []=.tuple []:=rfl
@[simp]theorem d4c(rs:List PRes):B9 ⟨V,l,g,h⟩ rs=match Ew ⟨V,l,g,h⟩ rs with|some vs=>some (KT vs)|none=>none:=by simp only[B9];cases Ew ⟨V,l,g,h⟩ rs<;>rfl
def Gs(rs:List PRes):Option (PExit×St)->Option (PV×List PObj)|some (.normal,st)=>(match B9 st rs with|some v=>some (v,Be st.vars rs st.heap)|none=>none)|some (.ret,st)=>(match B9 st rs with|some v=>some (v,Be st.vars rs st.heap)|none=>none)|_=>none
attribute[simp]Gs
theorem b9g{f:PFunc}{args:List PV}{hp:List PObj}{r:PV×List PObj}(hr:f.code.isRound=false)(he:Gs f.results (evL L f.code ⟨args.map dem++List.replicate (f.nv-f.params) .dead,[],0,hp⟩)=some r):DC (evL L) (CA L) f args hp=some (.val r.1,r.2):=by unfold DC;grind[PC.isRound,evL,dem,List.replicate,Gs]
theorem Yz{f:PFunc}{args:List PV}{hp:List PObj}{r:PV×List PObj}(hr:f.code.isRound=false)(he:Gs f.results (evL L f.code ⟨args.map dem++List.replicate (f.nv-f.params) .dead,[],0,hp⟩)=some r):D4 (evL L) (CA L) f args hp=some r:=by simp_all[D4,Nw,b9g]
theorem YA{k:Nat}{f:PFunc}{args:List PV}{hp:List PObj}{r}(hf:L k=some f)(hl:args.length=f.params)(he:Gs f.results (evL L f.code ⟨args.map dem++List.replicate (f.nv-f.params) .dead,[],0,hp⟩)=some r)(hs:f.split=false:=by rfl)(jP:f.prim=none:=by rfl)(hr:f.code.isRound=false:=by rfl):Aj L k args hp=some r:=by simp_all[Lr,B0,Yz]
theorem Kr{k:Nat}{f:PFunc}{p:List PV->List PObj->Option (PV×List PObj)}{args:List PV}{hp:List PObj}(hf:L k=some f)(hl:args.length=f.params)(jP:f.prim=some p):Aj L k args hp=match p (args.map dem) hp with|some r=>some (dem r.1,r.2)|none=>none:=by grind[Lr,B0,dem]
theorem c2B{k:Nat}{f:PFunc}{args:List PV}{hp:List PObj}{r}(hf:L k=some f)(hl:args.length=f.params)(hs:f.split=true)(h0:vague (args.headD .dead)=false->Gs f.results (evL L f.code ⟨args.map dem++List.replicate (f.nv-f.params) .dead,[],0,hp⟩)=some r)(h1:vague (args.headD .dead)=true->Gs f.results (evL L f.code ⟨(.nils::args.tail).map dem++List.replicate (f.nv-f.params) .dead,[],0,hp⟩)=some r/\Gs f.results (evL L f.code ⟨(.void::args.tail).map dem++List.replicate (f.nv-f.params) .dead,[],0,hp⟩)=some r)(jP:f.prim=none:=by rfl)(hr:f.code.isRound=false:=by rfl):Aj L k args hp=some r:=by grind[Lr,B0,vague,Bool.false_eq_true,Yz,Bool.and_self,GV]
@[simp]theorem YB(n:Nat):AT ⟨V,l,g,h⟩ n=match h[n]? with|some (.cells cs)=>some cs|_=>none:=rfl
@[simp]theorem d6B:Bw ⟨V,l,g,h⟩ none=some []:=rfl
@[simp]theorem c7C(n:Nat):Bw ⟨V,l,g,h⟩ (some n)=match h[n]? with|some (.map es)=>some es|_=>none:=rfl
@[simp]theorem d9G(n:Nat)(o:PObj):AK ⟨V,l,g,h⟩ n o=⟨V,l,g,h.set n o⟩:=rfl
@[simp]theorem d96(i:Nat):DN ⟨V,l,g,h⟩ (.v i)=match V[i]? with|some (.loc _ cs)=>some (.cptr (cs.map dem),⟨V.set i (.cptr (cs.map dem)),l,g,h⟩)|some v=>sv (cp v) ⟨V,l,g,h⟩|none=>none:=by simp only[DN,raw,rd];cases V[i]? with|none=>rfl|some v=>cases v<;>rfl
@[simp]theorem d97(p:PV):DN ⟨V,l,g,h⟩ (.c p)=sv (cp p) ⟨V,l,g,h⟩:=by simp only[DN,rd,raw,av,FY]
@[simp]theorem d98(i:Nat):DN ⟨V,l,g,h⟩ (.l i)=sv (rd ⟨V,l,g,h⟩ (.l i)) ⟨V,l,g,h⟩:=by simp only[DN,FY]
@[simp]theorem d6C(st:St):B8 st []=some ([],st):=rfl
@[simp]theorem d4d(x:PX)(xs:List PX):B8 ⟨V,l,g,h⟩ (x::xs)=match DN ⟨V,l,g,h⟩ x with|some (v,st)=>(match B8 st xs with|some (vs,st)=>some (v::vs,st)|none=>none)|none=>none:=by simp only[B8];cases DN ⟨V,l,g,h⟩ x with|none=>rfl|some r=>simp only[av];cases B8 r.2 xs<;>rfl
@[simp]theorem d4e(z:List PV):opv cf (.h (.newobj z)) ⟨V,l,g,h⟩=some (.ptr h.length 0,⟨V,l,g,h++[.cells z]⟩):=rfl
@[simp]theorem d4f(s:Nat)(x:PX):opv cf (.h (.boxobj s x)) ⟨V,l,g,h⟩=match rd ⟨V,l,g,h⟩ x with|some v=>if v.cells.length=s then some (.ptr h.length 0,⟨V,l,g,h++[.cells v.cells]⟩)else none|none=>none:=rfl
def Ix(h:List PObj):PV->Option (List PV)|.rowp n sz agg len=>if agg=true\/sz=1 then(match h[n]? with|some (.cells cs)=>Cu sz agg cs len 0|_=>none)else none|p=>FZ p
@[simp]theorem d4g(o:Bool)(es:List PV):Ix h (.list o es)=some es:=rfl
@[simp]theorem d4h:Ix h .nils=some []:=rfl
@[simp]theorem d4i:Ix h .void=some []:=rfl
theorem c9O(x:PX):b5D ⟨V,l,g,h⟩ x=match rd ⟨V,l,g,h⟩ x with|some v=>Ix h v|none=>none:=by unfold b5D;cases rd ⟨V,l,g,h⟩ x with|none=>rfl|some v=>(cases v<;>try rfl);rename_i n sz agg len;simp only[Ix];split;{simp only[AT];cases h[n]? with|none=>rfl|some o=>cases o<;>rfl};rfl
def Dd(h:List PObj)(size:Nat)(agg:Bool)(bytes:Nat)(xs:List PV)(v:PV)(st:St):Option (PV×St):=match v with|.rowp n sz ag len=>(match h[n]? with|some (.cells cs)=>if sz=size/\ag=agg/\len*size<=cs.length/\A9 size xs/\len+xs.length<=2147483648/\bytes<=16384 then some (.rowp h.length size agg (len+xs.length),{st with heap:=h.set n .gone++[.cells (cs.take (len*size)++(xs.flatMap PV.cells).map dem)]})else none|_=>none)|.list true []=>if xs=[]then some (.list true [],st)else if A9 size xs/\xs.length<=2147483648/\bytes<=16384 then some (.rowp h.length size agg xs.length,{st with heap:=h++[.cells ((xs.flatMap PV.cells).map dem)]})else none|.nils=>if xs=[]then some (.nils,st)else if A9 size xs/\xs.length<=2147483648/\bytes<=16384 then some (.rowp h.length size agg xs.length,{st with heap:=h++[.cells ((xs.flatMap PV.cells).map dem)]})else none|_=>none
@[simp]theorem d4j(v:PV):(some v).bind FZ=FZ v:=rfl
@[simp]theorem d4k(o:Bool)(es:List PV):FZ (.list o es)=some es:=rfl
@[simp]theorem d8v(s:Nat)(agg:Bool)(b:Nat)(a x:PX):opv cf (.h (.happ s agg b a x)) ⟨V,l,g,h⟩=match(match rd ⟨V,l,g,h⟩ x with|some v=>Ix h v|none=>none),raw ⟨V,l,g,h⟩ a with|some xs,some v=>Dd h s agg b xs v ⟨V,l,g,h⟩|_,_=>none:=by simp only[opv,Ar,c9O];cases(match rd ⟨V,l,g,h⟩ x with|some v=>Ix h v|none=>none)with|none=>rfl|some xs=>cases raw ⟨V,l,g,h⟩ a with|none=>rfl|some v=>(cases v<;>try rfl);rename_i o es;(cases o<;>try rfl);cases es<;>rfl
@[simp]theorem d6D(s:Nat)(agg:Bool)(b:Nat)(z:List PV)(a x:PX):opv cf (.h (.happz s agg b z a x)) ⟨V,l,g,h⟩=match rdInt ⟨V,l,g,h⟩ x,rd ⟨V,l,g,h⟩ a with|some n,some .nils=>if 0<n/\n<=2147483648/\b<=16384 then some (.rowp h.length s agg n.toNat,⟨V,l,g,h++[.cells (List.replicate n.toNat (z.map dem)).flatten]⟩)else none|_,_=>none:=rfl
@[simp]theorem d2K(n sz:Nat)(a:Bool)(off len:Nat):JH (.rows n sz a off len)=some (n,sz,off):=rfl
@[simp]theorem d2L(n sz:Nat)(a:Bool)(len:Nat):JH (.rowp n sz a len)=some (n,sz,0):=rfl
@[simp]theorem d6E(s:Nat)(x:PX):opv cf (.h (.clear s x)) ⟨V,l,g,h⟩=match(match rd ⟨V,l,g,h⟩ x with|some v=>JH v|none=>none)with|some (n,sz,off)=>(match h[n]? with|some (.cells cs)=>if sz=s/\off*s<=cs.length then some (.dead,⟨V,l,g,h.set n (.cells (cs.take (off*s)))⟩)else none|_=>none)|_=>none:=by simp only[opv,Ar];cases rd ⟨V,l,g,h⟩ x with|none=>rfl|some v=>rfl
@[simp]theorem d2M(s:Nat)(agg:Bool)(b:Nat)(z:List PV)(x:PX):opv cf (.h (.mkfresh s agg b z x)) ⟨V,l,g,h⟩=match rdInt ⟨V,l,g,h⟩ x with|some n=>if 0<=n/\b*n<=281474976710656/\n<=9223372036854775807 then some (.fresh s agg n.toNat (List.replicate n.toNat (z.map dem)).flatten,⟨V,l,g,h⟩)else none|none=>none:=rfl
@[simp]theorem d4l(js:List Nat)(z:List PV)(ps:List (Nat×Nat×PX)):opv cf (.h (.buildA js z ps)) ⟨V,l,g,h⟩=(adoptAll js ⟨V,l,g,h⟩).bind λst=>((rdParts st ps).bind (EX z)).map λcs=>(.agg cs,st):=rfl
@[simp]theorem d6F(a:PX):opv cf (.h (.loadn a)) ⟨V,l,g,h⟩=match addr ⟨V,l,g,h⟩ a with|some (.ptr n off)=>((AT ⟨V,l,g,h⟩ n).bind fun cs=>match cs[off]? with|some (.list true es)=>some (.list true es,AK ⟨V,l,g,h⟩ n (.cells (cs.set off (.list false es))))|some .nils=>some (.list true [],⟨V,l,g,h⟩)|_=>none)|_=>none:=rfl
@[simp]theorem d6G(s:Nat)(agg:Bool)(z:PV)(len:Nat)(ps:List (Nat×PX)):opv cf (.h (.mkrow s agg z len ps)) ⟨V,l,g,h⟩=((rdElems ⟨V,l,g,h⟩ ps).bind (EI s (List.replicate len z))).map λes=>(.rowp h.length s agg es.length,⟨V,l,g,h++[.cells ((es.flatMap PV.cells).map dem)]⟩):=rfl
@[simp]theorem d6H(s:Nat)(agg:Bool)(b:Nat)(z:List PV)(x:PX):opv cf (.h (.mkarr s agg b z x)) ⟨V,l,g,h⟩=match rdInt ⟨V,l,g,h⟩ x with|some n=>if 0<=n/\b*n<=281474976710656/\n<=9223372036854775807 then some (.rowp h.length s agg n.toNat,⟨V,l,g,h++[.cells (List.replicate n.toNat z).flatten]⟩)else none|none=>none:=rfl
@[simp]theorem d6I:opv cf (.h .mkmap) ⟨V,l,g,h⟩=some (.map (some h.length),⟨V,l,g,h++[.map []]⟩):=rfl
@[simp]theorem d6J(s:Nat)(agg:Bool)(a:PX)(t:Bool):opv cf (.h (.load s agg a t)) ⟨V,l,g,h⟩=match addr ⟨V,l,g,h⟩ a with|some (.cptr cs)=>sv (Au s agg cs 0) ⟨V,l,g,h⟩|some (.ptr n off)=>(match h[n]? with|some (.cells cs)=>(match t&&!agg,cs[off]? with|true,some (.list true es)=>some (.list true es,⟨V,l,g,h.set n (.cells (cs.set off (.list false es)))⟩)|_,_=>sv (Au s agg cs off) ⟨V,l,g,h⟩)|_=>none)|_=>none:=by simp only[opv,Ar,FY];cases addr ⟨V,l,g,h⟩ a with|none=>rfl|some p=>(cases p<;>try rfl);simp only[YB];rename_i n off;cases h[n]? with|none=>rfl|some o=>cases o<;>rfl
@[simp]theorem d2N(s:Nat)(agg:Bool)(a x:PX):opv cf (.h (.storer s agg a x)) ⟨V,l,g,h⟩=match addr ⟨V,l,g,h⟩ a,rd ⟨V,l,g,h⟩ x with|some (.ptr n off),some v=>if Ea v then none else(match h[n]? with|some (.cells cs)=>(match AI s agg cs off v with|some cs=>some (.dead,⟨V,l,g,h.set n (.cells cs)⟩)|none=>none)|_=>none)|_,_=>none:=by simp only[opv,Ar];cases addr ⟨V,l,g,h⟩ a with|none=>rfl|some p=>(cases p<;>try rfl);rename_i n off;cases rd ⟨V,l,g,h⟩ x with|none=>rfl|some v=>simp only;split;{rfl};simp only[AT];cases h[n]? with|none=>rfl|some ob=>(cases ob<;>try rfl);rename_i cs;simp only[av];cases AI s agg cs off v<;>rfl
@[simp]theorem d4m(s:Nat)(agg:Bool)(a x:PX):opv cf (.h (.store s agg a x)) ⟨V,l,g,h⟩=match addr ⟨V,l,g,h⟩ a,tk ⟨V,l,g,h⟩ x with|some (.ptr n off),some (v,⟨V,l,g,h⟩)=>(match h[n]? with|some (.cells cs)=>(match AI s agg cs off v with|some cs=>some (.dead,⟨V,l,g,h.set n (.cells cs)⟩)|none=>none)|_=>none)|_,_=>none:=by simp only[opv,Ar];cases addr ⟨V,l,g,h⟩ a with|none=>rfl|some p=>(cases p<;>try rfl);cases tk ⟨V,l,g,h⟩ x with|none=>rfl|some r=>obtain⟨v,⟨V2,l2,g2,h2⟩⟩:=r;simp only[YB];rename_i n off;cases h2[n]? with|none=>rfl|some o=>(cases o<;>try rfl);rename_i cs;simp only[av];cases AI s agg cs off v<;>rfl
def Hq(ok take:Bool)(zero:PV)(n:Option Nat)(es:List (PV×PV))(st:St):Option (Nat×PV)->Option (PV×St)|some (i,v)=>if take&&!ok&&Lw v then some (v,AK st (n.getD 0) (.map (es.modify i λe=>(e.1,dem e.2))))else some (if ok then .tuple [dem v,.bool true]else dem v,st)|none=>some (if ok then .tuple [zero,.bool false]else zero,st)
@[simp]theorem d2O(ok take:Bool)(zero:PV)(n:Option Nat)(es:List (PV×PV))(st:St):Hq ok take zero n es st none=some (if ok then .tuple [zero,.bool false]else zero,st):=rfl
@[simp]theorem d2P(ok:Bool)(zero:PV)(n:Option Nat)(es:List (PV×PV))(st:St)(i:Nat)(v:PV):Hq ok false zero n es st (some (i,v))=some (if ok then .tuple [dem v,.bool true]else dem v,st):=by simp[Hq]
@[simp]theorem d2Q(zero:PV)(n:Nat)(es:List (PV×PV))(i:Nat)(v:PV):Hq false true zero (some n) es ⟨V,l,g,h⟩ (some (i,v))=if Lw v then some (v,⟨V,l,g,h.set n (.map (es.modify i λe=>(e.1,dem e.2)))⟩)else some (dem v,⟨V,l,g,h⟩):=by simp[Hq]
@[simp]theorem d4n(ok take kagg:Bool)(ks:List EK)(zero:PV)(m x:PX):opv cf (.h (.lookup ok take kagg ks zero m x)) ⟨V,l,g,h⟩=match rd ⟨V,l,g,h⟩ m,rd ⟨V,l,g,h⟩ x with|some (.map n),some k=>(match Bw ⟨V,l,g,h⟩ n with|some es=>(match BG kagg ks k es 0 with|some r=>Hq ok take zero n es ⟨V,l,g,h⟩ r|none=>none)|none=>none)|_,_=>none:=by simp only[opv,Ar];cases rd ⟨V,l,g,h⟩ m with|none=>rfl|some p=>(cases p<;>try rfl);rename_i n;cases rd ⟨V,l,g,h⟩ x with|none=>rfl|some k=>simp only;cases Bw ⟨V,l,g,h⟩ n with|none=>rfl|some es=>simp only[av];cases BG kagg ks k es 0 with|none=>rfl|some r=>cases r<;>rfl
def GJ(es:List (PV×PV))(k v:PV):Option (Nat×PV)->List (PV×PV)|some (i,_)=>es.set i (k,v)|none=>es++[(k,v)]
@[simp]theorem d0W(es:List (PV×PV))(k v:PV):GJ es k v none=es++[(k,v)]:=rfl
@[simp]theorem c01(es:List (PV×PV))(k v:PV)(i:Nat)(u:PV):GJ es k v (some (i,u))=es.set i (k,v):=rfl
@[simp]theorem d8w(kagg:Bool)(ks:List EK)(m k v:PX):opv cf (.h (.mset kagg ks m k v)) ⟨V,l,g,h⟩=match rd ⟨V,l,g,h⟩ m,rd ⟨V,l,g,h⟩ k,tk ⟨V,l,g,h⟩ v with|some (.map (some n)),some k,some (v,⟨V,l,g,h⟩)=>(match h[n]? with|some (.map es)=>(match BG kagg ks k es 0 with|some r=>some (.dead,⟨V,l,g,h.set n (.map (GJ es k v r))⟩)|none=>none)|_=>none)|_,_,_=>none:=by simp only[opv,Ar];cases rd ⟨V,l,g,h⟩ m with|none=>rfl|some p=>(cases p<;>try rfl);rename_i n;cases n with|none=>rfl|some n=>cases rd ⟨V,l,g,h⟩ k with|none=>rfl|some k=>cases tk ⟨V,l,g,h⟩ v with|none=>rfl|some r=>obtain⟨v,⟨V2,l2,g2,h2⟩⟩:=r;simp only[c7C];cases h2[n]? with|none=>rfl|some o=>(cases o<;>try rfl);rename_i es;simp only[av];cases BG kagg ks k es 0 with|none=>rfl|some r=>cases r<;>rfl
@[simp]theorem d4o(k:Nat)(a b:List PX):opv cf (.h (.mkfunc k a b)) ⟨V,l,g,h⟩=match B8 ⟨V,l,g,h⟩ a with|some (f,st)=>(match B8 st b with|some (c,st)=>some (.func k f c,st)|none=>none)|none=>none:=by simp only[opv,Ar];cases B8 ⟨V,l,g,h⟩ a with|none=>rfl|some r=>simp only[av];cases B8 r.2 b<;>rfl
@[simp]theorem d6K(kd:Nat)(neg:Bool)(x:PX):opv cf (.h (.isnil kd neg x)) ⟨V,l,g,h⟩=match rd ⟨V,l,g,h⟩ x with|some p=>(match GY kd p with|some b=>some (.bool (if neg then !b else b),⟨V,l,g,h⟩)|none=>none)|none=>none:=by simp only[opv,Ar];cases rd ⟨V,l,g,h⟩ x with|none=>rfl|some p=>simp only[av];cases GY kd p<;>rfl
@[simp]theorem d4p(x:PX):opv cf (.h (.nilchk x)) ⟨V,l,g,h⟩=match addr ⟨V,l,g,h⟩ x with|some (.ptr n o)=>some (.ptr n o,⟨V,l,g,h⟩)|some (.cptr cs)=>some (.cptr cs,⟨V,l,g,h⟩)|some (.lptr s g0 o)=>some (.lptr s g0 o,⟨V,l,g,h⟩)|_=>none:=rfl
@[simp]theorem d6L(s:Nat)(agg:Bool)(a:PX):opv cf (.h (.loadc s agg a)) ⟨V,l,g,h⟩=match rd ⟨V,l,g,h⟩ a with|some (.cptr cs)=>sv (Au s agg cs 0) ⟨V,l,g,h⟩|_=>none:=by simp only[opv,Ar,FY];rfl
@[simp]theorem d6M(k:Nat)(args:List PX):opv cf (.h (.call k args)) ⟨V,l,g,h⟩=match rdAll ⟨V,l,g,h⟩ args with|some vs=>(match cf k vs h with|some (r,h)=>some (dem r,⟨V,l,g,h⟩)|none=>none)|none=>none:=by simp only[opv,Ar];cases rdAll ⟨V,l,g,h⟩ args with|none=>rfl|some vs=>simp only[av];cases cf k vs h<;>rfl
@[simp]theorem d4q(tab:List (Nat×Nat×Option (Nat×Bool)))(x:PX)(args:List PX):opv cf (.h (.icall tab x args)) ⟨V,l,g,h⟩=match Ec ⟨V,l,g,h⟩ tab (rd ⟨V,l,g,h⟩ x)with|some m=>(match rdAll ⟨V,l,g,h⟩ args with|some vs=>(match cf m.1 (m.2::vs) h with|some (r,h)=>some (dem r,⟨V,l,g,h⟩)|none=>none)|none=>none)|none=>none:=by simp only[opv,Ar];cases Ec ⟨V,l,g,h⟩ tab (rd ⟨V,l,g,h⟩ x)with|none=>rfl|some m=>simp only[av];cases rdAll ⟨V,l,g,h⟩ args with|none=>rfl|some vs=>simp only[av];cases cf m.1 (m.2::vs) h<;>rfl
@[simp]theorem d4r(k:Nat)(args:List PX):opv cf (.h (.zcall k args)) ⟨V,l,g,h⟩=match rdAll ⟨V,l,g,h⟩ args with|some vs=>if AD (D3 h vs)then(match cf k (D3 h vs) []with|some (r,h')=>if AE (frz h' r)then some (dem (frz h' r),⟨V,l,g,Eb (F0 vs) h⟩)else none|none=>none)else none|none=>none:=by simp only[opv,Ar];cases rdAll ⟨V,l,g,h⟩ args with|none=>rfl|some vs=>simp only[av];cases cf k (D3 h vs) []<;>rfl
@[simp]theorem d4s(k:Nat)(args:List PX):opv cf (.h (.rcall k args)) ⟨V,l,g,h⟩=match rdAll ⟨V,l,g,h⟩ args with|some vs=>(match cf k vs h with|some (r,h')=>same ⟨V,l,g,h⟩ (r,h')|none=>none)|none=>none:=by simp only[opv,Ar];cases rdAll ⟨V,l,g,h⟩ args with|none=>rfl|some vs=>simp only[av];cases cf k vs h<;>rfl
@[simp]theorem d9H(r:PV):same ⟨V,l,g,h⟩ (r,h)=some (dem r,⟨V,l,g,h⟩):=by simp[same]
@[simp]theorem d4t(x:PX)(args:List PX):opv cf (.h (.callv x args)) ⟨V,l,g,h⟩=match rd ⟨V,l,g,h⟩ x,rdAll ⟨V,l,g,h⟩ args with|some (.func k f c),some vs=>(match cf k (f++vs++c) h with|some (r,h)=>some (dem r,⟨V,l,g,h⟩)|none=>none)|_,_=>none:=by simp only[opv,Ar];cases rd ⟨V,l,g,h⟩ x with|none=>rfl|some p=>(cases p<;>try rfl);rename_i k f c;cases rdAll ⟨V,l,g,h⟩ args with|none=>rfl|some vs=>simp only;cases cf k (f++vs++c) h<;>rfl
@[simp]theorem d6N(x:PX)(args:List PX):opv cf (.callv x args) ⟨V,l,g,h⟩=match rd ⟨V,l,g,h⟩ x,rdAll ⟨V,l,g,h⟩ args with|some (.func k f c),some vs=>if AD (f++vs++c)then(match cf k (f++vs++c) []with|some (r,_)=>if AE r then some (dem r,⟨V,l,g,h⟩)else none|none=>none)else none|_,_=>none:=by simp only[opv];cases rd ⟨V,l,g,h⟩ x with|none=>rfl|some p=>cases p<;>try rfl
attribute[simp]GY vague
@[simp]theorem d6O(str:Bool)(s:Nat)(x:PX)(lo hi:Option PX):opv cf (.slice str s x lo hi) ⟨V,l,g,h⟩=match str,rd ⟨V,l,g,h⟩ x with|true,some (.str t)=>(match bound ⟨V,l,g,h⟩ hi t.length t.length with|some b=>(match bound ⟨V,l,g,h⟩ lo 0 b with|some a=>some (.str ((t.take b).drop a),⟨V,l,g,h⟩)|none=>none)|none=>none)|false,some (.list _ es)=>if A9 s es then(match bound ⟨V,l,g,h⟩ hi es.length es.length with|some b=>(match bound ⟨V,l,g,h⟩ lo 0 b with|some a=>some (.list false ((es.take b).drop a),⟨V,l,g,h⟩)|none=>none)|none=>none)else none|false,some .nils=>(match bound ⟨V,l,g,h⟩ hi 0 0 with|some b=>(match bound ⟨V,l,g,h⟩ lo 0 b with|some a=>some (.nils,⟨V,l,g,h⟩)|none=>none)|none=>none)|false,some (.rowp n sz agg len)=>if sz=s then(match bound ⟨V,l,g,h⟩ hi len len with|some b=>(match bound ⟨V,l,g,h⟩ lo 0 b with|some a=>some (if a=0 then .rowp n sz agg b else .rows n sz agg a (b-a),⟨V,l,g,h⟩)|none=>none)|none=>none)else none|_,_=>none:=by simp only[opv];cases str;{cases rd ⟨V,l,g,h⟩ x with|none=>rfl|some p=>(cases p<;>try rfl);(all_goals simp only);all_goals first|(split;{cases bound ⟨V,l,g,h⟩ hi _ _ with|none=>rfl|some b=>simp only[av];cases bound ⟨V,l,g,h⟩ lo 0 b<;>rfl};rfl)|(cases bound ⟨V,l,g,h⟩ hi _ _ with|none=>rfl|some b=>simp only[av];cases bound ⟨V,l,g,h⟩ lo 0 b<;>rfl)};cases rd ⟨V,l,g,h⟩ x with|none=>rfl|some p=>(cases p<;>try rfl);simp only;cases bound ⟨V,l,g,h⟩ hi _ _ with|none=>rfl|some b=>simp only[av];cases bound ⟨V,l,g,h⟩ lo 0 b<;>rfl
end
def wpL(L:Nat->Option PFunc)(c:PC)(st:St)(Q:PExit->St->Prop):Prop:=match evL L c st with|some (e,st')=>Q e st'|none=>False
section
variable{L:Nat->Option PFunc}{V l:List PV}{g:Nat}{h:List PObj}{Q:PExit->St->Prop}
theorem Gi{c:PC}{st:St}:wpL L c st Q↔∃e st',evL L c st=some (e,st')/\Q e st':=by unfold wpL;cases evL L c st with|none=>simp|some r=>obtain⟨e,st'⟩:=r;constructor;{intro h;exact⟨e,st',rfl,h⟩};rintro⟨e',st2,h1,h2⟩;cases h1;exact h2
@[simp]theorem d8x:wpL L .skip ⟨V,l,g,h⟩ Q=Q .normal ⟨V,l,g,h⟩:=by simp only[wpL,c9m]
@[simp]theorem d8y(id:Nat):wpL L (.exit id) ⟨V,l,g,h⟩ Q=Q (.exit id) ⟨V,l,g,h⟩:=by simp only[wpL,c9n]
@[simp]theorem d9J:wpL L .ret ⟨V,l,g,h⟩ Q=Q .ret ⟨V,l,g,h⟩:=by simp only[wpL,d2h]
def S4(r:Option St)(K:St->Prop):Prop:=match r with|some st=>K (closed st)|none=>False
@[simp]theorem d4u(V l:List PV)(g:Nat)(h:List PObj)(K:St->Prop):S4 (some ⟨V,l,g,h⟩) K=K ⟨V,[],g,h⟩:=rfl
@[simp]theorem d4v(K:St->Prop):S4 none K=False:=rfl
@[simp]theorem d4w(ops:List PO):wpL L (.region ops) ⟨V,l,g,h⟩ Q=S4 (CG (Aj L) ops ⟨V,l,g,h⟩) (Q .normal):=by simp only[wpL,b9e];cases CG (Aj L) ops ⟨V,l,g,h⟩<;>rfl
def NX(L:Nat->Option PFunc)(r:Option St)(x:PX)(a b:PC)(Q:PExit->St->Prop):Prop:=match r with|some st=>(match rd st x with|some (.bool t)=>if t=true then wpL L a (closed st) Q else wpL L b (closed st) Q|_=>False)|none=>False
@[simp]theorem d4x(x:PX)(a b:PC):NX L (some ⟨V,l,g,h⟩) x a b Q=match rd ⟨V,l,g,h⟩ x with|some (.bool t)=>if t=true then wpL L a ⟨V,[],g,h⟩ Q else wpL L b ⟨V,[],g,h⟩ Q|_=>False:=rfl
@[simp]theorem d4y(x:PX)(a b:PC):NX L none x a b Q=False:=rfl
@[simp]theorem d4z(ops:List PO)(x:PX)(a b:PC):wpL L (.branch ops x a b) ⟨V,l,g,h⟩ Q=NX L (CG (Aj L) ops ⟨V,l,g,h⟩) x a b Q:=by simp only[wpL,b9f,NX];cases CG (Aj L) ops ⟨V,l,g,h⟩with|none=>rfl|some st=>simp only;cases rd st x with|none=>rfl|some v=>(cases v<;>try rfl);rename_i t;cases t<;>rfl
def Fu(L:Nat->Option PFunc)(b:PC)(Q:PExit->St->Prop):PExit->St->Prop|.normal,st=>wpL L b st Q|.after _ _ _,_=>False|e,st=>Q e st
@[simp]theorem d2X(b:PC)(st:St):Fu L b Q .normal st=wpL L b st Q:=rfl
@[simp]theorem d6S(b:PC)(i:Nat)(st:St):Fu L b Q (.exit i) st=Q (.exit i) st:=rfl
@[simp]theorem d8z(b:PC)(st:St):Fu L b Q .ret st=Q .ret st:=rfl
@[simp]theorem d6T(b:PC)(v:PV)(st:St):Fu L b Q (.boom v) st=Q (.boom v) st:=rfl
@[simp]theorem d9K(a b:PC):wpL L (.seq a b) ⟨V,l,g,h⟩ Q=wpL L a ⟨V,l,g,h⟩ (Fu L b Q):=by simp only[wpL,d2i];rcases evL L a ⟨V,l,g,h⟩with _|⟨e,st⟩;{rfl};cases e<;>rfl
def E2(id:Nat)(Q:PExit->St->Prop):PExit->St->Prop|.exit i,st=>if i=id then Q .normal st else Q (.exit i) st|.after _ _ _,_=>False|e,st=>Q e st
@[simp]theorem d2Y(id:Nat)(v:PV)(st:St):E2 id Q (.boom v) st=Q (.boom v) st:=rfl
@[simp]theorem c9X(id:Nat)(st:St):E2 id Q .normal st=Q .normal st:=rfl
@[simp]theorem d4A(id:Nat)(st:St):E2 id Q .ret st=Q .ret st:=rfl
@[simp]theorem d2Z(id i:Nat)(st:St):E2 id Q (.exit i) st=if i=id then Q .normal st else Q (.exit i) st:=rfl
@[simp]theorem d6U(id:Nat)(c:PC):wpL L (.block id c) ⟨V,l,g,h⟩ Q=wpL L c ⟨V,l,g,h⟩ (E2 id Q):=by simp only[wpL,c7w];rcases evL L c ⟨V,l,g,h⟩with _|⟨e,st⟩;{rfl};(cases e<;>try rfl);rename_i i;simp only[E2];by_cases hi:i=id<;>simp[hi]
def Bu(L:Nat->Option PFunc)(c:PC)(Q:PExit->St->Prop):PExit->St->Prop:=Fu L (.loop c) Q
@[simp]theorem d0X(c:PC)(st:St):Bu L c Q .normal st=wpL L (.loop c) st Q:=rfl
@[simp]theorem d4B(c:PC)(i:Nat)(st:St):Bu L c Q (.exit i) st=Q (.exit i) st:=rfl
@[simp]theorem d6V(c:PC)(st:St):Bu L c Q .ret st=Q .ret st:=rfl
@[simp]theorem d4C(c:PC)(v:PV)(st:St):Bu L c Q (.boom v) st=Q (.boom v) st:=rfl
theorem C3(c:PC)(st:St):wpL L (.loop c) st Q=wpL L c st (Bu L c Q):=by unfold wpL;rw[c9o];rcases evL L c st with _|⟨e,st'⟩;{rfl};cases e<;>rfl
def NY(r:Option (Option PV×St))(Q:PExit->St->Prop):Prop:=match r with|some (none,st)=>Q .normal (closed st)|some (some v,st)=>Q (.boom v) (closed st)|none=>False
@[simp]theorem d6W:NY (some (none,⟨V,l,g,h⟩)) Q=Q .normal ⟨V,[],g,h⟩:=rfl
@[simp]theorem d4D(v:PV):NY (some (some v,⟨V,l,g,h⟩)) Q=Q (.boom v) ⟨V,[],g,h⟩:=rfl
@[simp]theorem d4E:NY none Q=False:=rfl
@[simp]theorem d20(ops:List PO):wpL L (.bregion ops) ⟨V,l,g,h⟩ Q=NY (BW (Aj L) (AL L) 0 ops ⟨V,List.replicate ops.length .dead,g,h⟩) Q:=by simp only[wpL,b7z];rcases BW (Aj L) (AL L) 0 ops ⟨V,List.replicate ops.length .dead,g,h⟩with _|⟨_|v,st⟩<;>rfl
def Lu(L:Nat->Option PFunc)(r:Option (Option PV×St))(x:PX)(a b:PC)(Q:PExit->St->Prop):Prop:=match r with|some (none,st)=>(match rd st x with|some (.bool t)=>if t=true then wpL L a (closed st) Q else wpL L b (closed st) Q|_=>False)|some (some v,st)=>Q (.boom v) (closed st)|none=>False
@[simp]theorem d4F(x:PX)(a b:PC):Lu L (some (none,⟨V,l,g,h⟩)) x a b Q=match rd ⟨V,l,g,h⟩ x with|some (.bool t)=>if t=true then wpL L a ⟨V,[],g,h⟩ Q else wpL L b ⟨V,[],g,h⟩ Q|_=>False:=rfl
@[simp]theorem d21(v:PV)(x:PX)(a b:PC):Lu L (some (some v,⟨V,l,g,h⟩)) x a b Q=Q (.boom v) ⟨V,[],g,h⟩:=rfl
@[simp]theorem d22(x:PX)(a b:PC):Lu L none x a b Q=False:=rfl
@[simp]theorem d23(ops:List PO)(x:PX)(a b:PC):wpL L (.bbranch ops x a b) ⟨V,l,g,h⟩ Q=Lu L (BW (Aj L) (AL L) 0 ops ⟨V,List.replicate ops.length .dead,g,h⟩) x a b Q:=by simp only[wpL,b7A,Lu];rcases BW (Aj L) (AL L) 0 ops ⟨V,List.replicate ops.length .dead,g,h⟩with _|⟨_|v,st⟩;{rfl};{simp only;cases rd st x with|none=>rfl|some v=>(cases v<;>try rfl);rename_i t;cases t<;>rfl};rfl
def NZ(r:Option St)(t:Nat)(x:PX)(Q:PExit->St->Prop):Prop:=match r with|some st=>(match rd st x with|some p=>Q (.boom (.iface t p)) (closed st)|none=>False)|none=>False
@[simp]theorem d24(t:Nat)(x:PX):NZ (some ⟨V,l,g,h⟩) t x Q=match rd ⟨V,l,g,h⟩ x with|some p=>Q (.boom (.iface t p)) ⟨V,[],g,h⟩|none=>False:=rfl
@[simp]theorem d25(t:Nat)(x:PX):NZ none t x Q=False:=rfl
@[simp]theorem d6X(ops:List PO)(t:Nat)(x:PX):wpL L (.raise ops t x) ⟨V,l,g,h⟩ Q=NZ (CG (Aj L) ops ⟨V,l,g,h⟩) t x Q:=by simp only[wpL,c7x,NZ];cases CG (Aj L) ops ⟨V,l,g,h⟩with|none=>rfl|some st=>simp only;cases rd st x<;>rfl
def Lv(kd:Nat)(cs:List PV)(Q:PExit->St->Prop):PExit->St->Prop|.normal,st=>Q (.after kd cs none) st|.ret,st=>Q (.after kd cs none) st|.boom v,st=>Q (.after kd cs (some v)) st|_,_=>False
@[simp]theorem c9Z(kd:Nat)(cs:List PV)(st:St):Lv kd cs Q .normal st=Q (.after kd cs none) st:=rfl
@[simp]theorem d4G(kd:Nat)(cs:List PV)(st:St):Lv kd cs Q .ret st=Q (.after kd cs none) st:=rfl
@[simp]theorem d26(kd:Nat)(cs:List PV)(v:PV)(st:St):Lv kd cs Q (.boom v) st=Q (.after kd cs (some v)) st:=rfl
@[simp]theorem d27(kd:Nat)(cs:List PV)(i:Nat)(st:St):Lv kd cs Q (.exit i) st=False:=rfl
theorem Tk(kd:Nat)(caps:List PX)(c:PC){cs:List PV}(hn:c.NR=true)(hr:rdAll ⟨V,l,g,h⟩ caps=some cs):wpL L (.guarded kd caps c) ⟨V,l,g,h⟩ Q=wpL L c ⟨V,l,g,h⟩ (Lv kd cs Q):=by simp only[wpL,c2y hn,hr];rcases evL L c ⟨V,l,g,h⟩with _|⟨e,st⟩;{rfl};cases e<;>rfl
def FR(L:Nat->Option PFunc)(f:PFunc)(r:Out×List PObj):PExit->St->Prop|.normal,st=>∃v,B9 st f.results=some v/\r=(.val v,Be st.vars f.results st.heap)|.ret,st=>∃v,B9 st f.results=some v/\r=(.val v,Be st.vars f.results st.heap)|.boom v,st=>r=(.boom v,st.heap)|.after kd cs v,st=>f.code.NR=true/\∃h1 x,CA L kd (v.getD .nilIface::cs) st.heap=some h1/\B9 {st with heap:=h1} f.results=some x/\r=(.val x,Be st.vars f.results h1)|.exit _,_=>False
@[simp]theorem Wn(f:PFunc)(r:Out×List PObj):FR L f r .normal ⟨V,l,g,h⟩=∃v,B9 ⟨V,l,g,h⟩ f.results=some v/\r=(.val v,Be V f.results h):=rfl
@[simp]theorem d8A(f:PFunc)(r:Out×List PObj):FR L f r .ret ⟨V,l,g,h⟩=∃v,B9 ⟨V,l,g,h⟩ f.results=some v/\r=(.val v,Be V f.results h):=rfl
@[simp]theorem c7P(f:PFunc)(r:Out×List PObj)(v:PV):FR L f r (.boom v) ⟨V,l,g,h⟩=(r=(.boom v,h)):=rfl
@[simp]theorem c5x(f:PFunc)(r:Out×List PObj)(kd:Nat)(cs:List PV)(v:Option PV):FR L f r (.after kd cs v) ⟨V,l,g,h⟩=(f.code.NR=true/\∃h1 x,CA L kd (v.getD .nilIface::cs) h=some h1/\B9 ⟨V,l,g,h1⟩ f.results=some x/\r=(.val x,Be V f.results h1)):=rfl
theorem Zl{f:PFunc}{args:List PV}{hp:List PObj}{r:Out×List PObj}(hr:f.code.isRound=false)(hw:wpL L f.code ⟨args.map dem++List.replicate (f.nv-f.params) .dead,[],0,hp⟩ (FR L f r)):DC (evL L) (CA L) f args hp=some r:=by rw[Gi]at hw;obtain⟨e,st,h1,h2⟩:=hw;unfold DC;split;{rename_i h3;rw[h3]at hr;simp[PC.isRound]at hr};rw[h1];cases e with|normal=>obtain⟨v,h3,rfl⟩:=h2;simp only[h3];rfl|ret=>obtain⟨v,h3,rfl⟩:=h2;simp only[h3];rfl|exit i=>exact h2.elim|boom v=>simp only[FR]at h2;subst h2;rfl|after kd cs v=>obtain⟨h3,h4,x,h5,h6,rfl⟩:=h2;simp only[h3,Bool.true_eq_false,if_false,h5,av,h6,bp]
theorem Dx{k:Nat}{f:PFunc}{args:List PV}{hp:List PObj}{r:Out×List PObj}(hf:L k=some f)(hl:args.length=f.params)(hw:wpL L f.code ⟨args.map dem++List.replicate (f.nv-f.params) .dead,[],0,hp⟩ (FR L f r))(hs:f.split=false:=by rfl)(jP:f.prim=none:=by rfl)(hr:f.code.isRound=false:=by rfl):AL L k args hp=some r:=X9 hf hl (Zl hr hw) hs jP
theorem c7Q{k:Nat}{f:PFunc}{args:List PV}{hp:List PObj}{r:PV×List PObj}(hf:L k=some f)(hl:args.length=f.params)(hw:wpL L f.code ⟨args.map dem++List.replicate (f.nv-f.params) .dead,[],0,hp⟩ (FR L f (.val r.1,r.2)))(hs:f.split=false:=by rfl)(jP:f.prim=none:=by rfl)(hr:f.code.isRound=false:=by rfl):Aj L k args hp=some r:=c9p hf hl (Zl hr hw) hs jP hr
def Ft(rs:List PRes)(r:PV×List PObj)(e:PExit)(st:St):Prop:=(e=.normal\/e=.ret)/\B9 st rs=some r.1/\Be st.vars rs st.heap=r.2
@[simp]theorem d28(rs:List PRes)(r:PV×List PObj):Ft rs r .normal ⟨V,l,g,h⟩=(B9 ⟨V,l,g,h⟩ rs=some r.1/\Be V rs h=r.2):=by simp[Ft]
@[simp]theorem d8B(rs:List PRes)(r:PV×List PObj):Ft rs r .ret ⟨V,l,g,h⟩=(B9 ⟨V,l,g,h⟩ rs=some r.1/\Be V rs h=r.2):=by simp[Ft]
theorem Ao{k:Nat}{f:PFunc}{args:List PV}{hp:List PObj}{r:PV×List PObj}(hf:L k=some f)(hl:args.length=f.params)(hw:wpL L f.code ⟨args.map dem++List.replicate (f.nv-f.params) .dead,[],0,hp⟩ (Ft f.results r))(hs:f.split=false:=by rfl)(jP:f.prim=none:=by rfl)(hr:f.code.isRound=false:=by rfl):Aj L k args hp=some r:=by refine YA hf hl ?_ hs jP hr;rw[Gi]at hw;obtain⟨e,st,h1,h2,h3,h4⟩:=hw;rw[h1];rcases h2 with rfl|rfl<;>simp only[Gs,h3,h4]
theorem Kl{k:Nat}{f:PFunc}{own:Option Nat}{args:List PV}{hp:List PObj}{r:PV×List PObj}(hf:L k=some f)(hl:args.length=f.params)(hw:wpL L f.code ⟨EP own args++List.replicate (f.nv-f.params) .dead,[],0,hp⟩ (Ft f.results r))(hs:f.split=false:=by rfl)(jP:f.prim=none:=by rfl)(hr:f.code.isRound=false:=by rfl)(lJ:f.params<1000:=by decide):Aj L k (Dr own args) hp=some r:=by refine c7z hf hl ?_ hs jP lJ;rw[Gi]at hw;obtain⟨e,st,h1,h2,h3,h4⟩:=hw;unfold DD;rw[ai (by rw[hr];simp),h1];rcases h2 with rfl|rfl<;>simp only[h3,h4,bp]
def AF(rs:List PRes)(P:PV×List PObj->Prop)(e:PExit)(st:St):Prop:=(e=.normal\/e=.ret)/\∃v,B9 st rs=some v/\P (v,Be st.vars rs st.heap)
theorem BP{k:Nat}{f:PFunc}{args:List PV}{hp:List PObj}{P:PV×List PObj->Prop}(hf:L k=some f)(hl:args.length=f.params)(hw:wpL L f.code ⟨args.map dem++List.replicate (f.nv-f.params) .dead,[],0,hp⟩ (AF f.results P))(hs:f.split=false:=by rfl)(jP:f.prim=none:=by rfl)(hr:f.code.isRound=false:=by rfl):∃r,Aj L k args hp=some r/\P r:=by rw[Gi]at hw;obtain⟨e,st,h1,h2,v,h3,h4⟩:=hw;refine⟨(v,Be st.vars f.results st.heap),YA hf hl ?_ hs jP hr,h4⟩;rw[h1];rcases h2 with rfl|rfl<;>simp only[Gs,h3]
end
end PI
namespace PI
section
variable{L:Nat->Option PFunc}{Q:PExit->St->Prop}
def upd(V:List PV):List (Nat×PV)->List PV|[]=>V|(k,v)::r=>upd (V.set k v) r
@[simp]theorem d9L(V:List PV):upd V []=V:=rfl
@[simp]theorem d8C(V:List PV)(k:Nat)(v:PV)(r:List (Nat×PV)):upd V ((k,v)::r)=upd (V.set k v) r:=rfl
theorem Zm{γ:Type}{c:PC}(n:Nat)(ok:Nat->Bool)(S:Nat->γ->St)(step:∀i,i<n->ok i=true->∀x,(∀y,wpL L (.loop c) (S (i+1) y) Q)->wpL L c (S i x) (Bu L c Q))(fail:∀i,i<n->ok i=false->(∀k,k<i->ok k=true)->∀x,wpL L c (S i x) (Bu L c Q))(last:(∀k,k<n->ok k=true)->∀x,wpL L c (S n x) (Bu L c Q))(x:γ):wpL L (.loop c) (S 0 x) Q:=by(have key:∀(d i:Nat),i+d=n->(∀k,k<i->ok k=true)->∀x,wpL L (.loop c) (S i x) Q:=by intro d;induction d with|zero=>intro i hi hk x;rw[C3];(have:i=n:=by omega);subst this;exact last hk x|succ d ih=>intro i hi hk x;rw[C3];cases ho:ok i with|true=>refine step i (by omega) ho x (ih (i+1) (by omega) ?_);intro k fK;by_cases e:k=i;{rw[e];exact ho};exact hk k (by omega)|false=>exact fail i (by omega) ho hk x);exact key n 0 (by omega) (λk h=>absurd h (Nat.not_lt_zero k)) x
theorem MK{γ:Type}{c:PC}{V:List PV}{g:Nat}{h:List PObj}(n:Nat)(ok:Nat->Bool)(M:Nat->γ->List (Nat×PV))(H:Nat->γ->List PObj)(x0:γ)(step:∀i,i<n->ok i=true->∀x,(∀y,wpL L (.loop c) ⟨upd V (M (i+1) y),[],g,H (i+1) y⟩ Q)->wpL L c ⟨upd V (M i x),[],g,H i x⟩ (Bu L c Q))(fail:∀i,i<n->ok i=false->(∀k,k<i->ok k=true)->∀x,wpL L c ⟨upd V (M i x),[],g,H i x⟩ (Bu L c Q))(last:(∀k,k<n->ok k=true)->∀x,wpL L c ⟨upd V (M n x),[],g,H n x⟩ (Bu L c Q))(hV:upd V (M 0 x0)=V)(hH:H 0 x0=h):wpL L (.loop c) ⟨V,[],g,h⟩ Q:=by have:=Zm n ok (λi x=>⟨upd V (M i x),[],g,H i x⟩) step fail last x0;rw[hV,hH]at this;exact this
theorem QY{γ:Type}{c:PC}{V:List PV}{g:Nat}{h:List PObj}(n:Nat)(ok:Nat->Bool)(M:Nat->γ->List (Nat×PV))(G:Nat->γ->Nat)(H:Nat->γ->List PObj)(x0:γ)(step:∀i,i<n->ok i=true->∀x,(∀y,wpL L (.loop c) ⟨upd V (M (i+1) y),[],G (i+1) y,H (i+1) y⟩ Q)->wpL L c ⟨upd V (M i x),[],G i x,H i x⟩ (Bu L c Q))(fail:∀i,i<n->ok i=false->(∀k,k<i->ok k=true)->∀x,wpL L c ⟨upd V (M i x),[],G i x,H i x⟩ (Bu L c Q))(last:(∀k,k<n->ok k=true)->∀x,wpL L c ⟨upd V (M n x),[],G n x,H n x⟩ (Bu L c Q))(hV:upd V (M 0 x0)=V)(hG:G 0 x0=g)(hH:H 0 x0=h):wpL L (.loop c) ⟨V,[],g,h⟩ Q:=by have:=Zm n ok (λi x=>⟨upd V (M i x),[],G i x,H i x⟩) step fail last x0;rw[hV,hG,hH]at this;exact this
theorem Ho{γ:Type}{c:PC}{V:List PV}{g:Nat}{h:List PObj}(n:Nat)(M:Nat->γ->List (Nat×PV))(H:Nat->γ->List PObj)(x0:γ)(step:∀i,i<n->∀x,(∀y,wpL L (.loop c) ⟨upd V (M (i+1) y),[],g,H (i+1) y⟩ Q)->wpL L c ⟨upd V (M i x),[],g,H i x⟩ (Bu L c Q))(last:∀x,wpL L c ⟨upd V (M n x),[],g,H n x⟩ (Bu L c Q))(hV:upd V (M 0 x0)=V)(hH:H 0 x0=h):wpL L (.loop c) ⟨V,[],g,h⟩ Q:=MK n (λ_=>true) M H x0 (λi hi _=>step i hi) (λ_ _ h=>by simp at h) (λ_=>last) hV hH
end
open Go Go.RowKit
def E4(t:Nat)(args:List PV)(h:List PObj):Option (List PObj):=match args with|[.nilIface,.ptr _ 0,.ptr _ 0]=>some h|[.iface t' (.agg [.int k1 a,.int k2 b,.int k3 c]),.ptr n 0,.ptr m 0]=>if t'=t/\n≠m then match h[n]?,h[m]? with|some (.cells [_,_]),some (.cells [_])=>some ((h.set n (.cells [.int k1 a,.int k2 b])).set m (.cells [.int k3 c]))|_,_=>none else none|_=>none
def Ln(o:Oper):Bool:=match o.op with|.move _|.assign _|.extract _ _|.alloc _|.store _ _ _|.load _ _|.fieldAddr _ _ _=>true|_=>false
section
variable{P:Program}{w:World}
theorem c7r{o:Oper}(h:Ln o=true){ρ:Operand->Value}:(∀r w',(execOp ρ o).run P w=.ok r w'->(∃v,r=.value v)\/r=.skip)/\True:=by refine⟨?_,trivial⟩;intro r w' hr;(have val:∀(s:Sem Value),(do pure (.value (<-s)):Sem Next).run P w=.ok r w'->∃v,r=.value v:=by intro s hs;rw[Sem.run_bind]at hs;cases hx:s.run P w with|ok v w1=>rw[hx]at hs;simp only[Result.andThen_ok,Sem.run_pure,Result.ok.injEq]at hs;exact⟨v,hs.1.symm⟩|halt x w1=>rw[hx]at hs;simp[Result.andThen]at hs);(have unit:∀(s:Sem Unit),(do s;pure .skip:Sem Next).run P w=.ok r w'->r=.skip:=by intro s hs;rw[Sem.run_bind]at hs;cases hx:s.run P w with|ok v w1=>rw[hx]at hs;simp only[Result.andThen_ok,Sem.run_pure,Result.ok.injEq]at hs;exact hs.1.symm|halt x w1=>rw[hx]at hs;simp[Result.andThen]at hs);unfold Ln at h;unfold execOp at hr;cases fo:o.op<;>rw[fo]at h hr<;>simp only[reduceCtorEq,bh]at h;all_goals first|exact .inl (val _ hr)|exact .inr (unit _ hr)|(simp only[Sem.run_pure,Result.ok.injEq]at hr;exact .inl ⟨_,hr.1.symm⟩)
theorem Lo{ops:Array Oper}{Q:Exit->Act->List Frame->World->Prop}{cs:List Frame}:∀{l:List Nat}{a:Act}{w:World},(∀i∈l,∀o,ops[i]?=some o->Ln o=true)->¬LetsOut (λe a w=>Q e a cs w)->wpOps P ops (λe a w=>Q e a cs w) l a w->wpOpsSIn (W none) 0 P ops Q l a cs w|[],a,w,_,_,h=>h|i::l,a,w,hp,hQ,h=>by simp only[wpOps]at h;simp only[wpOpsSIn];cases ho:ops[i]? with|none=>simp only[ho]at h⊢;exact Lo (λj hj=>hp j (by simp[hj])) hQ h|some o=>simp only[ho]at h⊢;refine⟨λ_ _=>ED _,?_⟩;split at h;{rename_i hw;rw[ah hw];rcases h with h|⟨_,h⟩;{unfold Oper.wp at h;have ig:=(c7r (P:=P) (w:=w) (hp i (by simp) o ho) (ρ:=a.eval)).1;generalize(execOp a.eval o).run P w=res at h ig;cases res with|ok r w'=>rcases ig r w' rfl with⟨v,rfl⟩|rfl;{exact Lo (λj hj=>hp j (by simp[hj])) hQ h};exact Lo (λj hj=>hp j (by simp[hj])) hQ h|halt x w'=>cases x<;>simp only[Oper.upon]at h⊢<;>first|exact h|exact h.elim};exact absurd h hQ};rename_i hw;rw[ai hw];exact Lo (λj hj=>hp j (by simp[hj])) hQ h
theorem c0Q{c:Code}{Q:Exit->Act->List Frame->World->Prop}{a:Act}{cs:List Frame}(h:∀fid,wpN none fid P c (λe a w=>Q e a cs w) a w):c.wpSIn (W none) 0 P Q a cs w:=by intro b k _ hr _ _;obtain⟨e,a',w',q,r⟩:=h b.fn b k cs hr rfl;exact⟨e,a',cs,w',rfl,q,r⟩
end
section
variable{E:Env}{N:Nm}{P:Program}
def L0:Nat->Option PFunc:=λ_=>none
theorem Yj(n:Nat):Runs N P L0 n:=by refine⟨⟨?_,?_⟩,?_,?_,?_⟩;{intro k args r h h' hc;simp[B0,L0]at hc};{intro k own args r h' hc;simp[B0,L0]at hc};{intro k args o h h' hc;simp[CB,L0]at hc};{intro k y n l tmps caps args o h h' _ hc;simp[CB,L0]at hc};intro k hk;simp[GZ,L0]at hk
theorem Yk:Cq N P L0:=by intro k f h;simp[L0]at h
theorem c7s(hE:EnvOk E N)(hP:E.P=P)(gf:P.follows .mixedOrders=true)(q7:E.lps=[]){k:Nat}{fn:Func}{id0:Nat}{ops0:Array Oper}{c2:Code}{vs:List Tmp}{pos0:List PO}{d5 d6:Tmp}{tA T t:Nat}{z:PV}{nv q:Nat}{o0 o1:Oper}{g:List PV->List PObj->Option (List PObj)}(hf:P.funcs[N.fn k]?=some fn)(hb:fn.body=some (.seq (.region id0 ops0 false) c2))(fX:fn.results=#[])(h0:ops0[0]?=some o0)(sV:∃ts,o0.op=.call {callee:=.builtin .recover,args:=#[],argTypes:=ts})(vS:o0.dst=some d5)(vT:o0.guard=none)(h1:ops0[1]?=some o1)(vU:o1.op=.typeAssert (.tmp d5) tA T true)(vV:o1.dst=some d6)(vW:o1.guard=none)(hT:N.ty t=T)(q8:∃fs,P.underlying T=some (.struct fs))(hz:Jf P T=some z)(mb:∀i,2<=i->∀o,ops0[i]?=some o->Ln o=true)(zP:d5<fn.ntmps)(sW:(BN d5 vs 0).isNone=true)(tY:vs[q]?=some d6)(fJ:vs.Nodup)(fm:∀t∈vs,t<fn.ntmps)(oA:vs.length=nv)(hq:2<=q)(lr:vs[0]?=some 0)(lR:vs[1]?=some 1)(kq:FV E fn.ntmps vs ops0 false=some pos0)(nX:(Cp E fn.ntmps vs c2).NR=true)(fj:∀p caps h h',g (p::caps) h=some h'->caps.length=2/\∃tup:PV,(p=.nilIface/\tup=.tuple [z,.bool false]\/∃v,p=.iface t v/\tup=.tuple [v,.bool true])/\∃n st1 x st2,Cr (B0 (Aw L0 0) L0) pos0 (List.range' 2 (ops0.size-2)) {vars:=(caps.map dem++List.replicate (nv-2) PV.dead).set q tup,locs:=List.replicate pos0.length .dead,gen:=0,heap:=h}=some st1/\Aw L0 n (Cp E fn.ntmps vs c2) (closed st1)=some (x,st2)/\(x=.normal\/x=.ret)/\st2.heap=h'):G8 N P k g:=by
 intro p caps h h' hg w G vals gB ft fw u hu;obtain⟨fC,tup,sX,n,st1,x,st2,vX,vY,hx,gH⟩:=fj p caps h h' hg;refine callsDIn_of_wpSIn (F:=W none) hf hb (ED _) ?_;intro c₀ cs nH;refine wpSIn_seq (wpSIn_region ?_);have gW:2<=ops0.size:=by have:=(cm.1 h1).1;omega
 have lV:List.range ops0.size=0::1::List.range' 2 (ops0.size-2):=by obtain⟨m,hm⟩:∃m,ops0.size=m+2:=⟨ops0.size-2,by omega⟩;rw[hm,eV,List.range'_succ,List.range'_succ];rfl
 rw[lV];obtain⟨rv,u',cs',gK,AK,lf,sY⟩:∃rv u',∃cs':List Frame,(match recoverD (c₀::cs)with|some (v,cs')=>(v,cs')|none=>(.nilIface,c₀::cs))=(rv,cs')/\settle u'=.returning/\cs'={c₀ with mode:=u'}::cs/\VR N w G.fix G.heap rv p:=by rcases hu with⟨rfl,rfl⟩|⟨v,rfl,hv⟩;{refine⟨.nilIface,.returning,c₀::cs,?_,rfl,by rw[<-nH],.nilIface⟩;simp[recoverD,nH]};refine⟨v,.panicking [{v,recovered:=true}],_,?_,rfl,rfl,hv⟩;simp[recoverD,nH]
 let a0:Act:={tmps:=vals++Array.replicate (fn.ntmps-vals.size) undef,defers:=[]};have step0:∀{Q:Exit->Act->List Frame->World->Prop}{rest:List Nat},wpOpsSIn (W none) 0 P ops0 Q rest (a0.put (some d5) rv) cs' w->wpOpsSIn (W none) 0 P ops0 Q (0::rest) a0 (c₀::cs) w:=by intro Q rest hw;obtain⟨ts,sV⟩:=sV;simp only[wpOpsSIn,h0];refine⟨λ_ _=>ED _,?_⟩;(have sZ:(execOp a0.eval o0).run P w=.ok .recover w:=by simp[execOp,sV,resolve,invoke,builtin]);simp only[Region.wanted,vT,if_true,sZ,vS];cases hr:recoverD (c₀::cs)with|none=>rw[hr]at gK;simp only[ac]at gK;obtain⟨rfl,rfl⟩:=gK;exact hw|some y=>obtain⟨v,cs2⟩:=y;rw[hr]at gK;simp only[ac]at gK;obtain⟨rfl,rfl⟩:=gK;exact hw
 refine step0 ?_;have kC:a0.tmps.size>=fn.ntmps:=by simp only[a0,Array.size_append,Array.size_replicate];omega
 have vZ:(a0.put (some d5) rv).eval (.tmp d5)=rv:=by have:d5<a0.tmps.size:=bw zP kC;simp[Act.eval,Act.put,cj,dy,this]
 obtain⟨tv,zQ,wc⟩:∃tv,(Instr.typeAssert rv tA T true).run P w=.ok tv w/\VR N w G.fix G.heap tv tup:=by obtain⟨fs,q8⟩:=q8;rcases sX with⟨rfl,rfl⟩|⟨v,rfl,rfl⟩;{cases sY;obtain⟨zv,z1,z2,_⟩:=Yl (P:=P) (N:=N) (w:=w) (fix:=G.fix) (hp:=G.heap) hz;refine⟨.tuple #[zv,.bool false],by simp[Instr.typeAssert,Sem.run_bind,run_underlying q8,Result.andThen_ok,z1],.tuple _ _ rfl ?_⟩;intro i c p hc hp;match i,hc,hp with|0,hc,hp=>simp at hc hp;subst hc hp;exact z2|1,hc,hp=>simp at hc hp;subst hc hp;exact .bool _};cases sY with|iface _ v' _ hv=>refine⟨.tuple #[v',.bool true],by simp[Instr.typeAssert,Sem.run_bind,run_underlying q8,Result.andThen_ok,hT],.tuple _ _ rfl ?_⟩;intro i c p hc hp;match i,hc,hp with|0,hc,hp=>simp at hc hp;subst hc hp;exact hv|1,hc,hp=>simp at hc hp;subst hc hp;exact .bool _
 let a2:Act:=(a0.put (some d5) rv).put (some d6) tv;have Bm:∀{Q:Exit->Act->List Frame->World->Prop}{rest:List Nat},wpOpsSIn (W none) 0 P ops0 Q rest a2 cs' w->wpOpsSIn (W none) 0 P ops0 Q (1::rest) (a0.put (some d5) rv) cs' w:=by intro Q rest hw;simp only[wpOpsSIn,h1];refine⟨λ_ _=>ED _,?_⟩;(have nq:(execOp (a0.put (some d5) rv).eval o1).run P w=.ok (.value tv) w:=by simp only[execOp,vU,vZ,Sem.run_bind,zQ,Result.andThen_ok,Sem.run_pure]);simp only[Region.wanted,vW,if_true,nq,vV];exact hw
 refine Bm ?_;have fp:Hr vs ops0.toList=true/\KY fn.ntmps ops0.toList=true/\GO E vs ops0.toList ops0.toList=some pos0:=by unfold FV at kq;split at kq;{rename_i hc;simp only[aq]at hc;simp only[af]at kq;obtain⟨pos',h1,h2⟩:=kq;simp only[eF,bh,if_false,aa]at h2;subst h2;exact⟨hc.1.1,hc.1.2,h1⟩};simp at kq
 obtain⟨s0,ib,s4⟩:=fp;have nm:=Na fJ s0;let G0:GS:={G with df:=[]};have ji:FI N w G0 {vars:=(caps.map dem++List.replicate (nv-2) PV.dead).set q tup,locs:=List.replicate pos0.length .dead,gen:=0,heap:=h} a2 vs (Ak vs ops0.toList):=by(have mK:a2.tmps.size=a0.tmps.size:=by simp[a2,Act.put]);refine⟨?_,?_,?_,?_,?_,rfl,(by intro g b h;have h:G.box g=some b:=h;rw[gB.only.box]at h;simp at h),gB.owlt,gB.fixlt,gB.heap,gB.hdom⟩;{have:2<vs.length:=Nat.lt_of_le_of_lt hq (aj.1 tY).1;simp[fC];omega};{intro i t' u1 jD gU;rw[b8]at gU;(have wd:t'≠d5:=by rintro rfl;have:=RH jD 0;simp at sW;rw[sW]at this;simp at this);by_cases we:q=i;{subst we;rw[tY]at jD;simp only[aa]at jD;subst jD;rw[ah rfl]at gU;split at gU;{simp only[aa]at gU;subst gU;(have iP:a2.eval (.tmp d6)=tv:=by have:d6<a0.tmps.size:=bw (fm _ (aw tY)) kC;simp[a2,Act.eval,Act.put,cj,dy,this]);rw[iP];refine SR.of_pure wc ?_;rcases sX with⟨_,rfl⟩|⟨_,_,rfl⟩<;>rfl};simp at gU};rw[ai we]at gU;(have wg:t'≠d6:=by rintro rfl;have tF:=(aj.1 tY);have jx:=(aj.1 jD);obtain⟨p1,p2⟩:=tF;obtain⟨p3,p4⟩:=jx;exact we ((List.getElem_inj fJ).1 (p2.trans p4.symm)));(have iP:a2.eval (.tmp t')=a0.eval (.tmp t'):=by simp only[a2,Act.eval,Act.put,cj,dy];rw[ai (Ne.symm wg),ai (Ne.symm wd)]);rw[iP];by_cases hi:i<2;{(have mn:t'=i:=by match i,hi with|0,_=>rw[lr]at jD;simpa using jD.symm|1,_=>rw[lR]at jD;simpa using jD.symm);subst mn;(have lx:t'<caps.length:=by rw[fC];exact hi);rw[ap (by simpa using lx)]at gU;simp only[br,am lx,bp,aa]at gU;subst gU;(have qR:t'<vals.size:=by rw[ft];exact lx);(have iP:a0.eval (.tmp t')=vals[t']:=by simp only[a0,Act.eval,cj];rw[eG qR];simp[qR]);rw[iP];have hv:=fw t' vals[t'] caps[t'] (by simp[qR]) (am lx);exact SR.of_pure hv.dem hv.cp_dem};rw[ar (by rw[bi,fC];omega)]at gU;rw[ez]at gU;split at gU;{simp at gU;subst gU;trivial};simp at gU};{intro j t' u1 _ qS;simp only[ez]at qS;split at qS;{simp at qS;subst qS;trivial};simp at qS};{intro i t' hi;rw[mK];exact bw (fm _ (aw hi)) kC};intro j t' hj;rw[mK];exact bw (M7 ib j t' hj) kC
 refine Lo ?_ ?_ ?_;{intro i hi o ho;refine mb i ?_ o ho;rw[List.mem_range'_1]at hi;exact hi.1}
 {rintro⟨a,w,h⟩;simp only[Exit.thenS,bodyPostS]at h;obtain⟨u2,⟨v,hv⟩,_⟩:=h;cases hv}
 refine RF (L:=L0) Yk hE hP nm (Yj 0).call (by intro k args h r hc;simp[B0,L0]at hc) s4 vX ji ?_;intro a' w' G' kP he hs;simp only[Exit.thenS];refine c0Q λfid=>?_;have mK:a2.tmps.size=a0.tmps.size:=by simp[a2,Act.put]
 have fF:=FI.finish (nt:=fn.ntmps) kP (by rw[hs,mK];exact kC);refine GQ (L:=L0) (rd':=none) Yk hE hP gf fJ n (λm _=>Yj m) K1 vY fF ?_ (.inl rfl) ?_ ?_;{intro ps kb vars hl;rw[q7]at hl;simp at hl}
 {rintro⟨a,w,h⟩;simp only[bodyPostS]at h;obtain⟨u2,⟨v,hv⟩,_⟩:=h;cases hv}
 intro a3 w3 G3 e xq ml nx wh;have fB:ExtD w G w3 G3:=ExtD.trans (ExtD.of he:ExtD w G0 w' G') nx;have kB:G'.df=[]:=he.df;have iG:G3.df=[]:=by(have key:(∃ms,G3.df=ms++G'.df/\Marks w' w3 G3 ms/\((Cp E fn.ntmps vs c2).NR=true->ms=[]))->G3.df=[]:=by rintro⟨ms,q1,_,q3⟩;rw[q1,q3 nX,kB];rfl);rcases hx with rfl|rfl<;>exact key wh
 have iY:bodyPostS P fn c₀ cs (λe u' w'=>(∃v,e=.returned v)/\settle u'=.returning/\∃G',Ext w G w' G'/\Between N w' G' h') .normal a3 cs' w3:=by refine⟨by rw[ml.fi.defers,iG],u',lf,.tuple #[],?_,⟨_,rfl⟩,AK,?_⟩;{unfold results;rw[fX];simp};obtain⟨l1,l2⟩:=Jj fB ml (DefW.refl _) (λ_ _=>rfl) st2.vars [];rw[<-gH];exact⟨_,l1,l2⟩
 rcases hx with rfl|rfl<;>(simp only[D8]at xq;subst xq;exact iY)
def Gn:List PO:=[⟨.l,GT,none⟩,⟨.v 4,GT,none⟩,⟨.l,.mov (.v 4),none⟩,⟨.l,.extract 0 (.l 2),none⟩,⟨.l,.extract 1 (.l 2),none⟩,⟨.v 2,.newloc [.int .i64 0,.int .i64 0,.int .i64 0],none⟩,⟨.n,.store 3 true (.v 2) (.l 3),none⟩,⟨.v 3,.take (.l 4),none⟩]
def Js:PC:=.branch [⟨.l,.mov (.v 3),none⟩] (.l 0) (.region [⟨.l,.faddr 0 (.v 2),none⟩,⟨.l,.load 2 true (.l 0) false,none⟩,⟨.l,.faddr 2 (.v 2),none⟩,⟨.l,.load 1 false (.l 2) false,none⟩,⟨.n,.h (.storer 2 true (.v 0) (.l 1)),none⟩,⟨.n,.h (.storer 1 false (.v 1) (.l 3)),none⟩]) .skip
def HG:PV:=.agg [.int .i64 0,.int .i64 0,.int .i64 0]
theorem d2g{t:Nat}{p:PV}{caps:List PV}{h h':List PObj}(hg:E4 t (p::caps) h=some h'):caps.length=2/\∃tup:PV,(p=.nilIface/\tup=.tuple [HG,.bool false]\/∃v,p=.iface t v/\tup=.tuple [v,.bool true])/\∃n st1 x st2,Cr (B0 (Aw L0 0) L0) Gn (List.range' 2 (8-2)) {vars:=(caps.map dem++List.replicate (5-2) PV.dead).set 4 tup,locs:=List.replicate Gn.length .dead,gen:=0,heap:=h}=some st1/\Aw L0 n Js (closed st1)=some (x,st2)/\(x=.normal\/x=.ret)/\st2.heap=h':=by(have fin:∀{tup:PV}{st1:St}{x:PExit}{st2:St},CU (B0 (Aw L0 0) L0) 2 (Gn.drop 2) {vars:=(caps.map dem++List.replicate (5-2) PV.dead).set 4 tup,locs:=List.replicate Gn.length .dead,gen:=0,heap:=h}=some st1->evL L0 Js (closed st1)=some (x,st2)->(x=.normal\/x=.ret)->st2.heap=h'->∃n st1 x st2,Cr (B0 (Aw L0 0) L0) Gn (List.range' 2 (8-2)) {vars:=(caps.map dem++List.replicate (5-2) PV.dead).set 4 tup,locs:=List.replicate Gn.length .dead,gen:=0,heap:=h}=some st1/\Aw L0 n Js (closed st1)=some (x,st2)/\(x=.normal\/x=.ret)/\st2.heap=h':=by intro tup st1 x st2 h1 h2 h3 h4;obtain⟨n,hn⟩:=Cf.1 h2;rw[Nb (all:=Gn) rfl]at h1;exact⟨n,st1,x,st2,h1,hn,h3,h4⟩);unfold E4 at hg;split at hg;{rename_i n m heq;simp only[dO]at heq;obtain⟨rfl,rfl⟩:=heq;simp only[aa]at hg;subst hg;refine⟨rfl,_,.inl ⟨rfl,rfl⟩,fin (st1:=⟨[.ptr n 0,.ptr m 0,.loc 0 [.int .i64 0,.int .i64 0,.int .i64 0],.bool false,.tuple [HG,.bool false]],[.dead,.dead,.tuple [HG,.bool false],HG,.bool false,.dead,.dead,.dead],1,h⟩) (st2:=⟨[.ptr n 0,.ptr m 0,.loc 0 [.int .i64 0,.int .i64 0,.int .i64 0],.bool false,.tuple [HG,.bool false]],[],1,h⟩) ?_ ?_ (.inl rfl) rfl⟩;{simp[Gn,HG,GT,AI]};simp[Js]};{rename_i t' k1 a k2 b k3 c n m heq;simp only[dO]at heq;obtain⟨rfl,rfl⟩:=heq;split at hg;{rename_i hc;obtain⟨rfl,fT⟩:=hc;split at hg;{rename_i x1 x2 x3 hn hm;simp only[aa]at hg;subst hg;refine⟨rfl,_,.inr ⟨_,rfl,rfl⟩,fin (st1:=⟨[.ptr n 0,.ptr m 0,.loc 0 [.int k1 a,.int k2 b,.int k3 c],.bool true,.tuple [.agg [.int k1 a,.int k2 b,.int k3 c],.bool true]],[.dead,.dead,.tuple [.agg [.int k1 a,.int k2 b,.int k3 c],.bool true],.agg [.int k1 a,.int k2 b,.int k3 c],.bool true,.dead,.dead,.dead],1,h⟩) (st2:=⟨[.ptr n 0,.ptr m 0,.loc 0 [.int k1 a,.int k2 b,.int k3 c],.bool true,.tuple [.agg [.int k1 a,.int k2 b,.int k3 c],.bool true]],[],1,(h.set n (.cells [.int k1 a,.int k2 b])).set m (.cells [.int k3 c])⟩) ?_ ?_ (.inl rfl) rfl⟩;{simp[Gn,HG,GT,AI]};(have oa:(h.set n (.cells [.int k1 a,.int k2 b]))[m]?=some (.cells [x3]):=by rw[ak fT];exact hm);simp[Js,AI,Au,hn,oa,PV.flat,Ea]};simp at hg};simp at hg};simp at hg
theorem Tq(hE:EnvOk E N)(hP:E.P=P)(gf:P.follows .mixedOrders=true)(q7:E.lps=[]){k:Nat}{fn:Func}{id0:Nat}{ops0:Array Oper}{c2:Code}{tA T t:Nat}{o0 o1:Oper}(hf:P.funcs[N.fn k]?=some fn)(hb:fn.body=some (.seq (.region id0 ops0 false) c2))(fX:fn.results=#[])(h0:ops0[0]?=some o0)(sV:∃ts,o0.op=.call {callee:=.builtin .recover,args:=#[],argTypes:=ts})(vS:o0.dst=some 5)(vT:o0.guard=none)(h1:ops0[1]?=some o1)(vU:o1.op=.typeAssert (.tmp 5) tA T true)(vV:o1.dst=some 6)(vW:o1.guard=none)(hT:N.ty t=T)(q8:(match P.underlying T with|some (.struct _)=>true|_=>false)=true)(hz:Jf P T=some HG)(ft:ops0.size=8)(mb:(ops0.toList.drop 2).all Ln=true)(s6:fn.ntmps=14)(kq:FV E 14 [0,1,2,3,6] ops0 false=some Gn)(rH:Cp E 14 [0,1,2,3,6] c2=Js):G8 N P k (E4 t):=by refine c7s hE hP gf q7 (vs:=[0,1,2,3,6]) (d5:=5) (d6:=6) (q:=4) (nv:=5) hf hb fX h0 sV vS vT h1 vU vV vW hT (by split at q8<;>first|exact⟨_,by assumption⟩|simp at q8) hz ?_ (by rw[s6];decide) rfl rfl (by decide) (by rw[s6];decide) rfl (by omega) rfl rfl (by rw[s6];exact kq) (by rw[s6,rH];rfl) ?_;{intro i hi o ho;have:=bo.1 mb o;refine this (aw (i:=i-2) ?_);rw[de,show 2+(i-2)=i by omega];simpa using ho};intro p caps h h' hg;have:=d2g hg;rw[ft,s6,rH];exact this
end
end PI
namespace PI.Short
open Go(IntKind BinOp UnOp)
abbrev v0:PX:=.v 0
abbrev v1:PX:=.v 1
abbrev v2:PX:=.v 2
abbrev v3:PX:=.v 3
abbrev v4:PX:=.v 4
abbrev v5:PX:=.v 5
abbrev v6:PX:=.v 6
abbrev v7:PX:=.v 7
abbrev v8:PX:=.v 8
abbrev v9:PX:=.v 9
abbrev AS:PX:=.v 10
abbrev AZ:PX:=.v 11
abbrev Bq:PX:=.v 12
abbrev CL:PX:=.v 13
abbrev Cb:PX:=.v 14
abbrev De:PX:=.v 15
abbrev Dt:PX:=.v 16
abbrev DS:PX:=.v 17
abbrev D6:PX:=.v 18
abbrev Ed:PX:=.v 19
abbrev FH:PX:=.v 20
abbrev GE:PX:=.v 21
abbrev IK:PX:=.v 22
abbrev Kb:PX:=.v 23
abbrev Ka:PX:=.v 24
abbrev PK:PX:=.v 25
abbrev Ml:PX:=.v 26
abbrev Mk:PX:=.v 27
abbrev TV:PX:=.v 28
abbrev v29:PX:=.v 29
abbrev PA:PX:=.v 30
abbrev TX:PX:=.v 31
abbrev v32:PX:=.v 32
abbrev PH:PX:=.v 33
abbrev TW:PX:=.v 34
abbrev v35:PX:=.v 35
abbrev PE:PX:=.v 36
abbrev v39:PX:=.v 39
abbrev v45:PX:=.v 45
abbrev v46:PX:=.v 46
abbrev v50:PX:=.v 50
abbrev v51:PX:=.v 51
abbrev v53:PX:=.v 53
abbrev v55:PX:=.v 55
abbrev v66:PX:=.v 66
abbrev v70:PX:=.v 70
abbrev v76:PX:=.v 76
abbrev v77:PX:=.v 77
abbrev l0:PX:=.l 0
abbrev l1:PX:=.l 1
abbrev l2:PX:=.l 2
abbrev l3:PX:=.l 3
abbrev l4:PX:=.l 4
abbrev l5:PX:=.l 5
abbrev l6:PX:=.l 6
abbrev l7:PX:=.l 7
abbrev l8:PX:=.l 8
abbrev l9:PX:=.l 9
abbrev At:PX:=.l 10
abbrev AA:PX:=.l 11
abbrev AN:PX:=.l 12
abbrev AQ:PX:=.l 13
abbrev Bn:PX:=.l 14
abbrev Br:PX:=.l 15
abbrev BS:PX:=.l 16
abbrev Cc:PX:=.l 17
abbrev Ee:PX:=.l 18
abbrev Du:PX:=.l 19
abbrev Ex:PX:=.l 20
abbrev Ey:PX:=.l 21
abbrev Em:PX:=.l 22
abbrev DH:PX:=.l 23
abbrev Hb:PX:=.l 24
abbrev Hc:PX:=.l 25
abbrev Hd:PX:=.l 26
abbrev Ef:PX:=.l 27
abbrev GD:PX:=.l 28
abbrev JP:PX:=.l 29
abbrev LT:PX:=.l 30
abbrev LR:PX:=.l 31
abbrev Tu:PX:=.l 32
abbrev Tv:PX:=.l 33
abbrev IF:PX:=.l 34
abbrev Tw:PX:=.l 35
abbrev Tx:PX:=.l 36
abbrev l37:PX:=.l 37
abbrev l38:PX:=.l 38
abbrev l39:PX:=.l 39
abbrev T:PX:=.c (.bool true)
abbrev F:PX:=.c (.bool false)
abbrev k(n:Int):PX:=.c (.int .i64 n)
abbrev p(o:POp):PO:=⟨.l,o,none⟩
abbrev q(i:Nat)(o:POp):PO:=⟨.v i,o,none⟩
abbrev r(o:POp):PO:=⟨.n,o,none⟩
abbrev t(i:Nat)(x:PX):PO:=⟨.v i,.take x,none⟩
abbrev g1(o:POp)(x:PX):PO:=⟨.l,o,some (x,true)⟩
abbrev g0(o:POp)(x:PX):PO:=⟨.l,o,some (x,false)⟩
abbrev G1(i:Nat)(o:POp)(x:PX):PO:=⟨.v i,o,some (x,true)⟩
abbrev G0(i:Nat)(o:POp)(x:PX):PO:=⟨.v i,o,some (x,false)⟩
abbrev m(x:PX):PO:=⟨.l,.mov x,none⟩
abbrev a(o:Nat)(x:PX):PO:=⟨.l,.faddr o x,none⟩
abbrev d(x:PX):PO:=⟨.l,.load 1 false x false,none⟩
abbrev D(n:Nat)(x:PX):PO:=⟨.l,.load n true x false,none⟩
abbrev e(x:PX):PO:=⟨.l,.h (.load 1 false x false),none⟩
abbrev e2(n:Nat)(x:PX):PO:=⟨.l,.h (.load n true x false),none⟩
abbrev c(x:PX):PO:=⟨.l,.h (.loadc 1 false x),none⟩
abbrev C(n:Nat)(x:PX):PO:=⟨.l,.h (.loadc n true x),none⟩
abbrev n(x:PX):PO:=⟨.l,.len false x,none⟩
abbrev b(o:BinOp)(x y:PX):PO:=⟨.l,.bin o x y,none⟩
abbrev i(s:Nat)(x y:PX):PO:=⟨.l,.iaddrS s x y,none⟩
abbrev f(j:Nat)(xs:List PX):PO:=⟨.l,.pcall j xs,none⟩
abbrev fb(j:Nat)(xs:List PX):PO:=⟨.l,.h (.bcall j xs),none⟩
abbrev fh(j:Nat)(xs:List PX):PO:=⟨.l,.h (.call j xs),none⟩
abbrev R:=PC.region
abbrev B:=PC.branch
abbrev E:=PC.bregion
abbrev H:=PC.bbranch
abbrev S:=PC.seq
abbrev K:=PC.block
abbrev X:=PC.exit
abbrev Z:=PC.skip
abbrev Y:=PC.ret
abbrev aA(x1:PX)(y1:PX):PO:=g1 (.mov x1) y1
abbrev aB(x1:Nat)(y1:PX):PO:=q x1 (.mov y1)
abbrev aC(x1:PX):PO:=p (.h (.nilchk x1))
abbrev aD(x1:PX)(y1:PX):PO:=p (.pick x1 y1 F)
abbrev aE(x1:PX)(y1:PX):PO:=p (.pick x1 T y1)
abbrev aF(x1:PX)(y1:PX):PO:=g0 (.mov x1) y1
abbrev aG(x1:Nat):PO:=q x1 (.mov (k 0))
abbrev aH(x1:Nat)(y1:PX):PO:=q x1 (.len false y1)
abbrev aI(x1:PX):PO:=p (.take x1)
abbrev aJ(x1:PX)(y1:PX):PO:=r (.store 2 true x1 y1)
abbrev aK(x1:PX)(y1:PX):PO:=g1 (.load 1 false x1 false) y1
abbrev aL(x1:PX)(y1:PX):PO:=g0 (.load 1 false x1 false) y1
abbrev aM(x1:PX):PO:=p (.extract 0 x1)
abbrev aN(x1:PX):PO:=p (.extract 1 x1)
abbrev aO(x1:PX):PO:=p (.un .not x1)
abbrev aP(x1:Nat)(y1:PX):PO:=q x1 (.boxloc 6 y1)
abbrev aQ(x1:Nat)(y1:PX):PO:=q x1 (.load 1 false y1 false)
abbrev aR(x1:PX)(y1:PX):PO:=r (.h (.store 1 false x1 y1))
abbrev aS(x1:Nat)(y1:PX):PO:=q x1 (.boxloc 2 y1)
abbrev aT(x1:Nat):PO:=q x1 (.newloc [.int .i64 0,.int .i64 0])
abbrev aU(x1:PX):PO:=p (.len true x1)
abbrev aV(x1:PX)(y1:PX):PO:=g0 (.len false x1) y1
abbrev aW(x1:PX)(y1:PX):PO:=r (.store 6 true x1 y1)
abbrev aX(x1:PX)(y1:PX):PO:=p (.append 1 16 x1 y1)
abbrev aY(x1:PX)(y1:PX):PO:=g1 (.len false x1) y1
abbrev aZ(x1:PX)(y1:PX):PO:=g1 (.faddr 3 x1) y1
abbrev bA(x1:PX)(y1:PX):PO:=g0 (.faddr 1 x1) y1
abbrev bB(x1:PX):PO:=p (.loadv 6 1 false x1)
abbrev bC(x1:PX)(y1:PX):PO:=g0 (.faddr 0 x1) y1
abbrev bD(x1:PX)(y1:PX):PO:=r (.store 3 true x1 y1)
abbrev bE(x1:Nat):PO:=q x1 (.newloc [.int .i64 0,.int .i64 0,.int .i64 0,.int .i64 0,.str [],.list true []])
abbrev bF(x1:PX)(y1:PX):PO:=g1 (.bin .eql x1 (k 0)) y1
abbrev bG(x1:PX)(y1:PX):PO:=r (.store 5 true x1 y1)
abbrev bH(x1:PX)(y1:PX):PO:=p (.indexStr x1 y1)
abbrev bI(x1:PX)(y1:PX):PO:=p (.h (.callv x1 [y1]))
abbrev bJ(x1:PX)(y1:PX)(z1:PX):PO:=g0 (.pick x1 y1 F) z1
abbrev bK(x1:Nat):PO:=q x1 (.newloc [.str [],.int .i64 0,.list true []])
abbrev bL(x1:Nat)(y1:PX):PO:=q x1 (.boxloc 8 y1)
abbrev bM(x1:PX)(y1:PX):PO:=r (.store 8 true x1 y1)
abbrev bN(x1:PX)(y1:PX):PO:=g0 (.un .not x1) y1
abbrev bO(x1:PX):PO:=p (.mkslice 1 (.str []) 1 [(0,x1)])
abbrev bP(x1:PX)(y1:PX):PO:=g1 (.un .not x1) y1
abbrev bQ(x1:PX)(y1:PX):PO:=g1 (.faddr 2 x1) y1
abbrev bR(x1:Nat):PO:=q x1 (.newloc [.list true [],.list true []])
abbrev bS(x1:PX)(y1:PX):PO:=g0 (.faddr 2 x1) y1
abbrev bT:PO:=p (.build [.int .i64 0,.int .i64 0] [(0,1,(k (-1))),(1,1,(k (-1)))])
abbrev bU:PO:=p (.build [.int .i64 0,.int .i64 0] [])
abbrev bV(x1:Nat):PO:=q x1 (.newloc [.str [],.list true [],.list true [],.list true [],.list true [],.list true [],.list true [],.list true []])
abbrev bW(x1:PX)(y1:PX):PO:=g1 (.faddr 4 x1) y1
abbrev bX(x1:PX)(y1:PX):PO:=g1 (.faddr 0 x1) y1
abbrev bY(x1:PX):PO:=p (.h (.load 1 false x1 true))
abbrev bZ(x1:PX)(y1:PX):PO:=r (.store 1 false x1 y1)
abbrev cA(x1:PX):PO:=p (.mkslice 1 (.int .i64 0) 1 [(0,x1)])
abbrev cB(x1:Nat):PO:=q x1 (.h (.newobj [.int .i64 0]))
abbrev cC(x1:PX)(y1:PX):PO:=r (.h (.store 2 true x1 y1))
abbrev cD:PO:=p (.h (.mkmap))
abbrev cE(x1:Nat):PO:=q x1 (.newloc [.list true [],.int .i64 0,.int .i64 0,.int .i64 0,.int .i64 0,.str [],.list true []])
abbrev cF(x1:PX)(y1:PX):PO:=r (.store 7 true x1 y1)
abbrev cG(x1:PX):PO:=p (.pcallx 69 [x1] none)
abbrev cH(x1:Nat)(y1:PX):PO:=q x1 (.h (.boxobj 1 y1))
abbrev cI(x1:PX)(y1:PX):PO:=r (.h (.storer 1 false x1 y1))
abbrev cJ(x1:PX):PO:=r (.h (.store 1 false x1 (k 0)))
abbrev cK(x1:PX)(y1:PX):PO:=p (.build [.int .i64 0,.int .i64 0] [(0,1,x1),(1,1,y1)])
abbrev cL(x1:PX)(y1:PX):PO:=r (.h (.mset false [.s] x1 y1 T))
abbrev cM(x1:PX)(y1:PX):PO:=p (.h (.lookup false false false [.s] (.bool false) x1 y1))
abbrev cN(x1:PX)(y1:PX):PO:=g0 (.h (.loadc 1 false x1)) y1
abbrev cO(x1:PX)(y1:PX):PO:=g0 (.bin .eql x1 (k 8)) y1
abbrev cP(x1:PX)(y1:PX):PO:=g0 (.bin .eql x1 (k 9)) y1
abbrev cQ(x1:Nat)(y1:PX):PO:=q x1 (.h (.call 81 [y1]))
abbrev cR:PO:=p (.build [.list true [],.list true []] [])
abbrev cS(x1:Nat):PO:=q x1 (.newloc [.str [],.list true []])
abbrev cT(x1:Nat):PO:=q x1 (.newloc [.list true []])
abbrev cU(x1:PX):PO:=p (.build [.int .i64 0,.int .i64 0] [(0,1,x1),(1,1,(k (-1)))])
abbrev cV(x1:PX):PO:=r (.h (.store 1 false x1 (k (-1))))
abbrev cW:PO:=p (.mkslice 1 (.str []) 0 [])
abbrev cX(x1:Nat):PO:=q x1 (.newloc [.str [],.int .i64 0,.int .i64 0])
abbrev cY(x1:PX)(y1:PX):PO:=p (.slice false 1 x1 none (some y1))
abbrev cZ(x1:PX)(y1:PX):PO:=g1 (.bin .leq x1 (k 32767)) y1
abbrev dA(x1:PX)(y1:PX):PO:=p (.build [.bool false,.bool false,.bool false,.bool false,.bool false] [(0,1,x1),(2,1,y1)])
abbrev dB(x1:PX)(y1:PX):PO:=p (.build [.bool false,.bool false,.bool false,.bool false,.bool false] [(0,1,x1),(2,1,y1),(3,1,T)])
abbrev dC(x1:PX)(y1:PX):PO:=p (.h (.happ 1 false 8 x1 y1))
abbrev dD(x1:PX)(y1:PX):PO:=p (.h (.lookup true false true [.i,.s] (.int .i64 0) x1 y1))
abbrev dE(x1:Nat):PO:=q x1 (.newloc [.str [],.list true [],.list true [],.list true [],.list true [],.list true []])
abbrev dF(x1:PX)(y1:PX):PO:=p (.build [.list true [],.int .i64 0,.int .i64 0,.int .i64 0,.int .i64 0,.str [],.list true []] [(0,1,x1),(1,6,y1)])
abbrev dG(x1:PX):PO:=p (.h (.mkarr 1 false 8 [.int .i64 0] x1))
abbrev dH(x1:PX):PO:=p (.h (.mkfresh 1 false 8 [.int .i64 0] x1))
abbrev dI(x1:PX):PO:=p (.mkslice 2 (.agg [.int .i64 0,.int .i64 0]) 1 [(0,x1)])
abbrev dJ(x1:PX):PO:=p (.mkslice 6 (.agg [.int .i64 0,.int .i64 0,.int .i64 0,.int .i64 0,.str [],.list true []]) 1 [(0,x1)])
abbrev dK(x1:Nat):PO:=q x1 (.newloc [.int .i64 0,.int .i64 0,.int .i64 0,.int .i64 0,.str [],.list true [],.int .i64 0,.bool false])
abbrev dL(x1:Nat):PO:=q x1 (.newloc [.bool false,.bool false,.bool false,.bool false,.bool false])
end PI.Short
