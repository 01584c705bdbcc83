/-
  What comes in, read as values of the pure interpreter.
-/
import Derived.Test.YtmfkoljiknjcmaaGreatDoorPiFunc
import Derived.ProofKit
import Derived.Deep.Slices
import Derived.SizedLaws
import Derived.Test.YtmfkoljiknjcmaaGreatDoorPiBase
import Derived.Lib.Join
import Derived.Lib.ItoaNum
import Derived.Lib.AtoiAll
import Derived.Lib.Bytealg
import Derived.Test.YtmfkoljiknjcmaaGreatDoorPiCodeT
import Derived.RecoverIn
set_option linter.constructorNameAsVariable false
set_option maxHeartbeats 1000000
set_option linter.unusedSimpArgs false
set_option linter.unusedVariables false
set_option linter.unusedSectionVars false
namespace PI
open Go Go.RowKit
inductive TyD where|bool|int(k:IntKind)|str|slice(e b:Nat)|struct(fs:List Nat)deriving DecidableEq,Inhabited
inductive Sh(D:Nat->TyD):Nat->PV->Prop where|bool(i:Nat)(b:Bool)(h:D i=.bool):Sh D i (.bool b)|int(i:Nat)(k:IntKind)(n:Int)(h:D i=.int k)(h1:k.min<=n)(h2:n<=k.max):Sh D i (.int k n)|str(i:Nat)(s:List UInt8)(h:D i=.str)(hl:s.length<=9223372036854775807):Sh D i (.str s)|slice(i e b:Nat)(es:List PV)(h:D i=.slice e b)(hl:es.length<=9223372036854775807)(hb:es.length*b<=140737488351232)(hs:∀x∈es,Sh D e x):Sh D i (.list false es)|struct(i:Nat)(fs:List Nat)(ps:List PV)(h:D i=.struct fs)(hl:ps.length=fs.length)(hs:∀(j f:Nat)(p:PV),fs[j]?=some f->ps[j]?=some p->Sh D f p):Sh D i (.agg (ps.flatMap PV.cells))
def fieldsOk(P:Program)(tm:Nat->TypeId)(n:Nat):List Nat->List Field->Nat->Bool|[],[],_=>true|f::c,g::b,a=>decide (f<n)&&(g.type==tm f)&&(g.offset==a)&&fieldsOk P tm n c b (a+P.cellsOf g.type)|_,_,_=>false
def sumCells(P:Program):List Field->Nat|[]=>0|g::a=>P.cellsOf g.type+sumCells P a
def matchT(P:Program)(D:Nat->TyD)(tm:Nat->TypeId)(n i:Nat):Bool:=match D i,P.underlying (tm i)with|.bool,some .bool=>P.cellsOf (tm i)==1|.int k,some (.int f)=>k==f&&P.cellsOf (tm i)==1|.str,some .string=>P.cellsOf (tm i)==1|.slice e b,some (.slice t)=>decide (e<n)&&t==tm e&&P.cellsOf (tm i)==1&&P.cellsOf (tm e)!=0&&P.bytesOf (tm e)==b|.struct d,some (.struct c)=>fieldsOk P tm n d c.toList 0&&P.cellsOf (tm i)==sumCells P c.toList|_,_=>false
mutual  def wt:PV->Nat|.str s=>s.length+1|.list _ es=>wts es+1|.agg cs=>wts cs+1|_=>1 def wts:List PV->Nat|[]=>0|v::vs=>wt v+wts vs end
mutual  def dbulk{H:Type}:DataW H->Nat|.lit (.string bytes)=>bytes.length+1|.lit _=>1|.nil=>1|.ptr d=>dbulk d+1|.slice elems spare=>dbulkAll elems+dbulkAll spare+1|.agg parts=>dbulkAll parts+1|.iface _ d=>dbulk d+1|.map entries=>dbulkEntries entries+1|.held _=>1 def dbulkAll{H:Type}:List (DataW H)->Nat|[]=>0|d::r=>dbulk d+dbulkAll r def dbulkEntries{H:Type}:List (Lit×DataW H)->Nat|[]=>0|x::r=>dbulkEntry x+dbulkEntries r def dbulkEntry{H:Type}:Lit×DataW H->Nat|(.string bytes,d)=>bytes.length+dbulk d+1|(_,d)=>dbulk d+1 end
theorem wts_append:∀(a b:List PV),wts (a++b)=wts a+wts b|[],b=>by simp[wts]|x::a,b=>by simp only[List.cons_append,wts,wts_append a b];omega
theorem wts_cells(p:PV):wts p.cells<=wt p:=by cases p<;>simp[PV.cells,wts,wt]
theorem wts_flat:∀ps:List PV,wts (ps.flatMap PV.cells)<=wts ps|[]=>by simp[wts]|p::ps=>by have:=wts_cells p;have:=wts_flat ps;simp only[List.flatMap_cons,wts_append,wts];omega
theorem wts_le{H:Type}:∀(es:List PV)(ds:List (DataW H)),es.length=ds.length->(∀(k:Nat)(e:PV)(d:DataW H),es[k]?=some e->ds[k]?=some d->wt e<=dbulk d)->wts es<=dbulkAll ds|[],[],_,_=>by simp[wts]|e::es,d::ds,a,h=>by have i:=h 0 e d rfl rfl;have h2:=wts_le es ds (by simpa using a) (λk b g c f=>h (k+1) b g (by simpa using c) (by simpa using f));simp only[wts,dbulkAll];omega
section
variable {H:Type}{enc:TypeId×Value->H}{P:Program}{w:World}{base:Nat}{spare:Nat->Bool}{held:Bool}{N:Nm}{D:Nat->TyD}{tm:Nat->TypeId}
def fix0(w:World):Nat->Nat->Prop:=λb o=>(w.cell? ⟨b,o,none⟩).isSome=true
theorem cells?_get{a:Addr}{n:Nat}{cs:List Value}(h:w.cells? base a n=some cs):cs.length=n/\∀(j:Nat)(v:Value),cs[j]?=some v->w.cell? (a.add j)=some v:=by obtain⟨d,h2,b⟩:=World.cells?_some h;refine⟨h2,?_⟩;intro j v hv;(have c:j<n:=by have:=(List.getElem?_eq_some_iff.1 hv).1;omega);rw[b j c];exact hv
theorem sum_le(P:Program):∀{fs:List Nat}{a:List Field}{n off:Nat},fieldsOk P tm n fs a off=true->fs.length=a.length|[],[],_,_,_=>rfl|f::fs,g::a,n,off,h=>by simp only[fieldsOk,Bool.and_eq_true]at h;simp[sum_le P h.2]|[],_::_,_,_,h=>by simp[fieldsOk]at h|_::_,[],_,_,h=>by simp[fieldsOk]at h
theorem fields_sh{fix:Nat->Nat->Prop}{hp:Nat->Option Nat}{cs:List Value}{n:Nat}:∀{Q:Nat->PV->Prop}{fs:List Nat}{c:List Field}{off:Nat},fieldsOk P tm n fs c off=true->cs.length=off+sumCells P c->(∀(j:Nat)(f:Nat)(g:Field),fs[j]?=some f->c[j]?=some g->f<n->g.type=tm f->∃p,(Sh D f p/\Q j p)/\CellsR N w fix hp ((cs.drop g.offset).take (P.cellsOf g.type)) p.cells/\((cs.drop g.offset).take (P.cellsOf g.type)).length=P.cellsOf g.type)->∃ps:List PV,ps.length=fs.length/\(∀(j f:Nat)(p:PV),fs[j]?=some f->ps[j]?=some p->Sh D f p/\Q j p)/\CellsR N w fix hp (cs.drop off) (ps.flatMap PV.cells)|Q,[],[],off,_,d,_=>⟨[],rfl,by simp,by have:cs.drop off=[]:=List.drop_eq_nil_of_le (by simp[sumCells]at d;omega);rw[this];exact⟨rfl,by simp,by simp⟩⟩|Q,f::fs,g::c,off,h,d,i=>by simp only[fieldsOk,Bool.and_eq_true,decide_eq_true_eq,beq_iff_eq]at h;obtain⟨⟨⟨x,h2⟩,o⟩,r⟩:=h;simp only[sumCells]at d;obtain⟨ps,t,l,v⟩:=fields_sh (Q:=λj=>Q (j+1)) r (by omega) (λj e m hf q=>i (j+1) e m (by simpa using hf) (by simpa using q));obtain⟨p,s,k,y⟩:=i 0 f g rfl rfl x h2;refine⟨p::ps,by simp[t],?_,?_⟩;{intro j e u hf b;cases j with|zero=>simp at hf b;subst hf b;exact s|succ j=>exact l j e u (by simpa using hf) (by simpa using b)};simp only[List.flatMap_cons];rw[o]at k;(have a:cs.drop off=(cs.drop off).take (P.cellsOf g.type)++cs.drop (off+P.cellsOf g.type):=by rw[<-List.drop_drop,List.take_append_drop]);rw[a];exact k.append v|_,[],_::_,_,h,_,_=>by simp[fieldsOk]at h|_,_::_,[],_,h,_,_=>by simp[fieldsOk]at h
theorem one_cells{v:Value}{p:PV}{hp:Nat->Option Nat}{fix:Nat->Nat->Prop}(h:VR N w fix hp v p)(hf:p.flat=true)(b:p.cells=[p]):CellsR N w fix hp [v] p.cells:=by rw[b];refine⟨rfl,by simpa using hf,?_⟩;intro i c x a h2;cases i with|zero=>simp at a h2;subst a h2;exact h|succ i=>simp at a
theorem weights_all{e:TypeId}:∀{ds:List (DataW H)}{k:Nat}{d:DataW H},ds[k]?=some d->(DataW.weightsAll P e ds).all (·<=reachBytes)=true->(d.weights P e).all (·<=reachBytes)=true|b::ds,0,d,a,h=>by simp only[List.getElem?_cons_zero,Option.some.injEq]at a;subst a;simp only[DataW.weightsAll,List.all_append,Bool.and_eq_true]at h;exact h.1|b::ds,k+1,d,a,h=>by simp only[List.getElem?_cons_succ]at a;simp only[DataW.weightsAll,List.all_append,Bool.and_eq_true]at h;exact weights_all a h.2|[],_,_,a,_=>by simp at a
theorem weights_each{a:List TypeId}{ds:List (DataW H)}{j:Nat}{t:TypeId}{d:DataW H}(b:a[j]?=some t)(e:ds[j]?=some d)(h:(DataW.weightsEach P a ds).all (·<=reachBytes)=true):(d.weights P t).all (·<=reachBytes)=true:=by rw[List.all_eq_true]at h⊢;exactλn c=>h n (DataW.weights_mem_each b e n c)
theorem trod_sh{n:Nat}{hp:Nat->Option Nat}(hM:∀i,i<n->matchT P D tm n i=true):∀(r i:Nat)(cs:List Value)(x:DataW H×List MemPlace),i<n->DataW.trod enc P w base spare held r (tm i) cs=some x->(x.1.weights P (tm i)).all (·<=reachBytes)=true->∃p,(Sh D i p/\wt p<=dbulk x.1)/\cs.length=P.cellsOf (tm i)/\CellsR N w (fix0 w) hp cs p.cells:=by intro r;induction r with|zero=>intro i cs x _ h;simp[DataW.trod]at h|succ r ih=>intro i cs x hi h M;have q:=hM i hi;unfold matchT at q;split at q;{rename_i K I;obtain⟨b,rfl,rfl⟩:=DataW.trod_bool I h;simp only[beq_iff_eq]at q;exact⟨.bool b,⟨.bool i b K,by simp[wt,dbulk]⟩,by simp[q],one_cells (.bool b) rfl rfl⟩};{rename_i k k' K I;obtain⟨m,rfl,rfl,hw⟩:=DataW.trod_int I h;simp only[Bool.and_eq_true,beq_iff_eq]at q;obtain⟨rfl,q⟩:=q;simp only[Lit.wf,Bool.and_eq_true,decide_eq_true_eq]at hw;exact⟨.int k m,⟨.int i k m K hw.1 hw.2,by simp[wt,dbulk]⟩,by simp[q],one_cells (.int k m) rfl rfl⟩};{rename_i K I;obtain⟨s,rfl,rfl,hs⟩:=DataW.trod_string I h;simp only[beq_iff_eq]at q;have hl:s.data.toList.length=s.size:=Array.length_toList;exact⟨.str s.data.toList,⟨.str i _ K (by rw[hl];simpa[maxLen]using hs),by simp[wt,dbulk]⟩,by simp[q],one_cells (.str s) rfl rfl⟩};{rename_i e U t K I;simp only[Bool.and_eq_true,decide_eq_true_eq,beq_iff_eq,bne_iff_ne,ne_eq]at q;obtain⟨⟨⟨⟨he,rfl⟩,q⟩,af⟩,ag⟩:=q;rcases DataW.trod_slice I h with⟨rfl,rfl⟩|⟨a,len,cap,o,S,m,ao,rfl,rfl,hb,hl,au,ab,ak,_⟩;{exact⟨.list false [],⟨.slice i e U [] K (by simp) (by simp) (by simp),by simp[wt,wts,dbulk]⟩,by simp[q],one_cells (.nils false) rfl rfl⟩};(have G:m=r:=by omega);subst G;by_cases h0:len=0;{subst h0;exact⟨.list false [],⟨.slice i e U [] K (by simp) (by simp) (by simp),by simp[wt,wts,dbulk]⟩,by simp[q],one_cells (.void false a cap) rfl rfl⟩};simp only[DataW.weights,I,List.all_cons,List.all_append,Bool.and_eq_true,decide_eq_true_eq]at M;obtain⟨aw,ad,_⟩:=M;(have hget:∀k,k<len->∃p c,(Sh D e p/\∀d,o[k]?=some d->wt p<=dbulk d.1)/\c.length=P.cellsOf (tm e)/\CellsR N w (fix0 w) hp c p.cells/\w.cells? base (a.add (k*P.cellsOf (tm e))) (P.cellsOf (tm e))=some c:=by intro k hk;have:=ak k hk;rw[List.getElem?_eq_getElem (by omega)]at this;simp only[Option.bind_eq_some_iff]at this;obtain⟨c,hc,ht⟩:=this;obtain⟨p,B,h2,J⟩:=ih e c _ he ht (weights_all (k:=k) (by rw[List.getElem?_map,List.getElem?_eq_getElem (by omega)];rfl) ad);refine⟨p,c,⟨B.1,?_⟩,h2,J,hc⟩;intro d l;rw[List.getElem?_eq_getElem (by omega)]at l;cases l;exact B.2);(have ar:∃F:Nat->PV,∀k,k<len->∃c,(Sh D e (F k)/\∀d,o[k]?=some d->wt (F k)<=dbulk d.1)/\c.length=P.cellsOf (tm e)/\CellsR N w (fix0 w) hp c (F k).cells/\w.cells? base (a.add (k*P.cellsOf (tm e))) (P.cellsOf (tm e))=some c:=by refine⟨λk=>if hk:k<len then(hget k hk).choose else .dead,λk hk=>?_⟩;simp only[dif_pos hk];exact(hget k hk).choose_spec);obtain⟨F,X⟩:=ar;let sz:=P.cellsOf (tm e);let u:List PV:=(List.range len).map F;(have W:∀(k:Nat)(y:PV),u[k]?=some y->k<len/\y=F k:=by intro k y A;simp only[u,List.getElem?_map,Option.map_eq_some_iff]at A;obtain⟨m',ai,rfl⟩:=A;obtain⟨B,h2⟩:=List.getElem?_eq_some_iff.1 ai;simp at B h2;exact⟨B,by rw[h2]⟩);(have E:∀y∈u,∃k,k<len/\y=F k:=by intro y A;obtain⟨k,hk⟩:=List.mem_iff_getElem?.1 A;exact⟨k,W k y hk⟩);(have al:Sh D i (.list false u):=by refine .slice i e U u K (by simp[u];simp[maxLen]at au;omega) ?_ ?_;{rw[<-ag,show u.length=len by simp[u]];have B:len*P.bytesOf (tm e)<=((o.map (·.1)).length+(S.map (·.1)).length)*P.bytesOf (tm e):=Nat.mul_le_mul_right _ (by simp;omega);have h2:reachBytes=140737488351232:=rfl;omega};intro y A;obtain⟨k,hk,rfl⟩:=E y A;obtain⟨_,B,_⟩:=X k hk;exact B.1);(have Y:wt (.list false u)<=dbulk (DataW.slice (o.map (·.1)) (S.map (·.1))):=by have:=wts_le u (o.map (·.1)) (by simp[u,ab]) (by intro k e' d' C l;obtain⟨hk,rfl⟩:=W k e' C;obtain⟨_,B,_⟩:=X k hk;simp only[List.getElem?_map,Option.map_eq_some_iff]at l;obtain⟨dd,h2,rfl⟩:=l;exact B.2 dd h2);simp only[wt,dbulk];omega);refine⟨.list false u,⟨al,Y⟩,by simp[q],one_cells ?_ rfl rfl⟩;have hz:sz≠0:=af;(have L:a.spot=none:=by obtain⟨c,_,h2,_,h4⟩:=X 0 (by omega);obtain⟨_,h5⟩:=cells?_get h4;(have O:0<c.length:=by rw[h2];show 0<sz;omega);have:=h5 0 c[0] (List.getElem?_eq_getElem O);have:=World.cell?_spot this;simpa[Addr.add]using this);obtain⟨b,V,ax⟩:=a;simp only at L;subst L;(have hcell:∀k j,k<len->j<sz->∃v,w.cell? ⟨b,V+(k*sz+j),none⟩=some v/\∀y,(F k).cells[j]?=some y->VR N w (fix0 w) hp v y:=by intro k j hk hj;obtain⟨c,_,h2,J,h4⟩:=X k hk;obtain⟨_,h5⟩:=cells?_get h4;(have O:j<c.length:=by rw[h2];exact hj);have:=h5 j c[j] (List.getElem?_eq_getElem O);rw[addr_add,addr_add]at this;refine⟨c[j],by rw[<-Nat.add_assoc];exact this,λy A=>J.2.2 j c[j] y (List.getElem?_eq_getElem O) A⟩);let cv:Nat->Value:=λk=>(w.cell? ⟨b,V+k,none⟩).getD undef;(have R:u.length=len:=by simp[u]);refine .list false b V len cap sz u cv R hl ?_ ?_ ?_ ?_;{intro y A;obtain⟨k,hk,rfl⟩:=E y A;obtain⟨c,_,h2,J,_⟩:=X k hk;have:=J.1;omega};{intro y A;obtain⟨k,hk,rfl⟩:=E y A;obtain⟨c,_,h2,J,_⟩:=X k hk;exact J.2.1};{intro k hk;(have aj:k/sz<len:=by rw[Nat.div_lt_iff_lt_mul (by omega)];exact hk);have an:k%sz<sz:=Nat.mod_lt _ (by omega);obtain⟨v,hv,_⟩:=hcell (k/sz) (k%sz) aj an;(have C:k/sz*sz+k%sz=k:=by rw[Nat.mul_comm];exact Nat.div_add_mod k sz);rw[C]at hv;exact⟨by simp[cv,hv],by simp[fix0,hv]⟩};intro k y A j z aa;obtain⟨hk,rfl⟩:=W k y A;(have hj:j<sz:=by obtain⟨c,_,h2,J,_⟩:=X k hk;have h6:=(List.getElem?_eq_some_iff.1 aa).1;have:=J.1;show j<P.cellsOf (tm e);omega);obtain⟨v,hv,aq⟩:=hcell k j hk hj;(have:cv (k*sz+j)=v:=by simp[cv,hv]);rw[this];exact aq z aa};{rename_i fs gs K I;simp only[Bool.and_eq_true,beq_iff_eq]at q;obtain⟨xs,m,ao,rfl,ae,ah,am⟩:=DataW.trod_struct I h;(have G:m=r:=by omega);subst G;simp only[DataW.weights,I]at M;obtain⟨Z,p1,p2,p3⟩:=fields_sh (N:=N) (w:=w) (fix:=fix0 w) (hp:=hp) (D:=D) (cs:=cs) (Q:=λj p=>∀d,xs[j]?=some d->wt p<=dbulk d.1) q.1 (by rw[ae,q.2];simp) (by intro j f g hf hg av T;(have ay:j<gs.size:=by have:=(List.getElem?_eq_some_iff.1 hg).1;simpa using this);have:=am j g (by simpa using hg);rw[List.getElem?_eq_getElem (by omega),T]at this;obtain⟨p,B,h2,J⟩:=ih f _ _ av this (weights_each (j:=j) (by rw[List.getElem?_map,hg];simp[T]) (by rw[List.getElem?_map,List.getElem?_eq_getElem (by omega)];rfl) M);rw[T];refine⟨p,⟨B.1,?_⟩,J,h2⟩;intro d l;rw[List.getElem?_eq_getElem (by omega)]at l;cases l;exact B.2);have ap:=sum_le P q.1;(have Y:wt (.agg (Z.flatMap PV.cells))<=dbulk (DataW.agg (xs.map (·.1))):=by have B:=wts_flat Z;have h2:=wts_le Z (xs.map (·.1)) (by rw[p1,List.length_map,ah,ap];simp) (by intro k e' d' C l;simp only[List.getElem?_map,Option.map_eq_some_iff]at l;obtain⟨dd,h2,rfl⟩:=l;(have hk:k<fs.length:=by have:=(List.getElem?_eq_some_iff.1 C).1;omega);exact(p2 k fs[k] e' (List.getElem?_eq_getElem hk) C).2 dd h2);simp only[wt,dbulk];omega);refine⟨.agg (Z.flatMap PV.cells),⟨.struct i fs Z K p1 (λj f p hf hp=>(p2 j f p hf hp).1),Y⟩,ae,?_⟩;show CellsR N w (fix0 w) hp cs (Z.flatMap PV.cells);simpa using p3};simp at q
end
end PI
namespace PI
open Go Go.RowKit Go.WideShapes Go.ChangeShapes
section
variable {H:Type}{enc:TypeId×Value->H}{E:Env}{P:Program}{W:World}{base base':Nat}{spare:Nat->Bool}{held:Bool}{N:Nm}{D:Nat->TyD}{tm:Nat->TypeId}
theorem Sh.noOwn{i:Nat}{p:PV}(h:Sh D i p):∀q∈p.cells,∀es,q≠.list true es:=by induction h with|bool i b h=>intro q a es;simp[PV.cells]at a;subst a;simp|int i k n h r h2=>intro q a es;simp[PV.cells]at a;subst a;simp|str i s h c=>intro q a es;simp[PV.cells]at a;subst a;simp|slice i e b es h c o hs d=>intro q a es;simp[PV.cells]at a;subst a;simp|struct i f l h c hs d=>intro q a es;simp only[PV.cells,List.mem_flatMap]at a;obtain⟨p,m,a⟩:=a;obtain⟨j,g,rfl⟩:=List.mem_iff_getElem.1 m;exact d j (f[j]'(c▸g)) l[j] (List.getElem?_eq_getElem _) (List.getElem?_eq_getElem _) q a es
theorem Sh.ownNil{i:Nat}{p:PV}(h:Sh D i p)(cs:List Value):OwnNil cs p.cells:=by intro j c b _ a;exact absurd rfl (h.noOwn _ (List.mem_of_getElem? a) b)
theorem arg_sh{n i:Nat}{r:Reach}{v:Value}{d:DataW H}{p:List MemPlace}(x:∀i,i<n->matchT P D tm n i=true)(y:i<n)(a:Value.okWide P W r base' (tm i) v)(h:DataW.Trod enc P W base spare held (tm i) v d p)(t:(d.weights P (tm i)).all (·<=reachBytes)=true):∃pv,(Sh D i pv/\wt pv<=dbulk d)/\VR N W (fix0 W) (λ_=>none) v pv:=by obtain⟨l,hf⟩:=h;obtain⟨pv,j,h2,q⟩:=trod_sh (N:=N) (hp:=λ_=>none) x l i _ _ y hf t;refine⟨pv,j,?_⟩;have f:=j.1;replace j:=j.1;(have one:∀c:Value,v.cells=#[c]->v=c->pv.cells=[pv]->VR N W (fix0 W) (λ_=>none) v pv:=by intro c z hv hp;rw[z,hp]at q;have:=q.2.2 0 c pv rfl rfl;rw[hv];exact this);have g:=x i y;unfold matchT at g;cases j with|bool b o=>split at g<;>simp_all;obtain⟨w,rfl⟩:=okWide_bool (by assumption) a;exact one _ rfl rfl rfl|int k m o _ _=>split at g<;>simp_all;obtain⟨w,rfl⟩:=okWide_int (by assumption) a;exact one _ rfl rfl rfl|str s o _=>split at g<;>simp_all;obtain⟨w,rfl⟩:=okWide_string (by assumption) a;exact one _ rfl rfl rfl|slice e b A o _ _ _=>split at g<;>simp_all;obtain⟨_,_,_,rfl⟩:=okWide_slice (by assumption) a;exact one _ rfl rfl rfl|struct B C o _ _=>split at g<;>simp_all;obtain⟨cs,rfl,_⟩:=okWide_struct (by assumption) a;have u:VR N W (fix0 W) (λ_=>none) (.agg cs.toList.toArray) _:=CellsR.agg (cs:=cs.toList) q (f.ownNil _);rw[Array.toArray_toList]at u;exact u
theorem law_walk{L:Nat->Option PFunc}(y:EnvOk E N)(z:E.P=P)(c:P.follows .mixedOrders=true)(u:∀k l,L k=some l->FnS E N k l)(hT:∀t∈N.tabs,W.cell? ⟨t.1,t.2.1,none⟩=some t.2.2)(f:∀r∈N.rows,W.shape? r.1=some r.2){m k:Nat}{args:List PV}{q:List PObj}{vals:Array Value}(g:call L m k args []=some (.bool true,q))(d:vals.size=args.length)(j:∀(i:Nat)(v:Value)(p:PV),vals[i]?=some v->args[i]?=some p->VR N W (fix0 W) (λ_=>none) v p):Calls P (N.fn k) vals W λe x=>e=.returned (.bool true)/\Below W.heap.size W x:=by refine(((call_sound y z c u m).plain k args _ [] q g).2 W {fix:=fix0 W,heap:=λ_=>none,box:=λ_=>none,ow:=λ_=>none} vals ?_ d j).mono ?_;{refine⟨⟨by intro b k h;simp at h,λ_=>rfl⟩,?_,by intro b k h;simp at h,⟨by intro n C h;simp at h,⟨λt s=>⟨by show(W.cell? _).isSome=true;rw[hT t s];rfl,hT t s⟩,f⟩⟩,by intro n b h;simp at h⟩;intro b o h;unfold fix0 at h;obtain⟨v,hv⟩:=Option.isSome_iff_exists.1 h;exact World.block_lt_of_cell? W ⟨b,o,none⟩ hv};rintro e B⟨v,A,rfl,hv,a,_⟩;cases hv;exact⟨rfl,⟨a.os,a.tape,a.output,a.size,λb w=>a.same b w rfl⟩⟩
end
end PI
namespace PI
open Go Go.RowKit
def fnChk(fn:Func)(a:PFunc)(vs:List Tmp):Bool:=decide (a.params<20)&&decide vs.Nodup&&vs.all (λt=>decide (t<fn.ntmps))&&vs.length==a.nv&&decide (a.params<=a.nv)&&vs.take a.params==List.range a.params
def yOf(fn:Func)(fid:FuncId)(j:Nat)(vars:List Tmp):Option YL:=(fn.body.bind λc=>(loopsIn c)[j]?).map λx=>⟨fid,x.1,x.2.1,x.2.2,vars,fn.ntmps⟩
def LpsOK(N:Nm)(fn:Func)(fid:FuncId)(a:List (Array Tmp)):List (Array Tmp×Nat×List Tmp)->Prop|[]=>True|x::b=>(∃j,N.yl x.2.1=yOf fn fid j x.2.2/\a[j]?=some x.1)/\LpsOK N fn fid a b
theorem LpsOK.mem{N:Nm}{fn:Func}{fid:FuncId}{b:List (Array Tmp)}:∀{l:List (Array Tmp×Nat×List Tmp)},LpsOK N fn fid b l->∀x∈l,∃j,N.yl x.2.1=yOf fn fid j x.2.2/\b[j]?=some x.1|[],_,x,a=>by simp at a|y::l,h,x,a=>by rcases List.mem_cons.1 a with rfl|a;{exact h.1};exact LpsOK.mem h.2 x a
section
variable {E:Env}{N:Nm}{k:Nat}{pf:PFunc}{fn:Func}{fid:FuncId}
theorem fnSL(vs:List Tmp)(o:Opts)(b:List (Array Tmp))(hf:E.P.funcs[fid]?=some fn)(h:(fn.body.map (λc=>compC (E.opt o) fn.ntmps vs c),cRess E.P o.kp vs fn.results.toList,fnChk fn pf vs,fn.body.map λc=>(loopsIn c).map (·.1))=(some pf.code,some pf.results,true,some b))(C:fn.name≠ "runtime.NumGoroutine")(e:b.Nodup)(G:LpsOK N fn fid b o.lps)(d:N.fn k=fid:=by rfl)(F:N.yl k=none:=by rfl)(hr:pf.code.isRound=false:=by rfl)(hp:pf.prim=none:=by rfl)(J:pf.defer=none:=by rfl):FnS E N k pf:=by simp only[Prod.mk.injEq]at h;obtain⟨O,h2,r,l⟩:=h;simp only[fnChk,Bool.and_eq_true,decide_eq_true_eq,beq_iff_eq,List.all_eq_true]at r;obtain⟨⟨⟨⟨⟨L,M⟩,B⟩,I⟩,x⟩,A⟩:=r;refine .inl ⟨F,hr,L,.inl ⟨hp,J,fn,vs,by rw[d];exact hf,C,M,B,I,x,?_,o,O,.inr ?_,h2⟩⟩;{intro i g;(have:(vs.take pf.params)[i]?=some i:=by rw[A];simp[g]);rwa[List.getElem?_take,if_pos g]at this};intro c t K P vars D z y f;obtain⟨j,w,H⟩:=G.mem _ D;rw[t]at l;simp only[Option.map_some,Option.some.injEq]at l;subst l;obtain⟨i,g⟩:=List.mem_iff_getElem?.1 y;(have m:i=j:=by(have n:((loopsIn c).map (·.1))[i]?=some K:=by simp[g,f]);obtain⟨s,q⟩:=List.getElem?_eq_some_iff.1 n;obtain⟨u,v⟩:=List.getElem?_eq_some_iff.1 H;refine Classical.byContradiction λp=>?_;rcases Nat.lt_or_gt_of_ne p with a|a;{exact List.pairwise_iff_getElem.1 e i j s u a (q.trans v.symm)};exact List.pairwise_iff_getElem.1 e j i u s a (v.trans q.symm));subst m;rw[d];simp only at w;rw[w];simp[yOf,t,g,f]
theorem fnS(vs:List Tmp)(o:Opts)(hf:E.P.funcs[fid]?=some fn)(h:(fn.body.map (λc=>compC (E.opt o) fn.ntmps vs c),cRess E.P o.kp vs fn.results.toList,fnChk fn pf vs)=(some pf.code,some pf.results,true))(r:fn.name≠ "runtime.NumGoroutine")(g:o.lps=[]:=by rfl)(a:N.fn k=fid:=by rfl)(f:N.yl k=none:=by rfl)(hr:pf.code.isRound=false:=by rfl)(hp:pf.prim=none:=by rfl)(l:pf.defer=none:=by rfl):FnS E N k pf:=by simp only[Prod.mk.injEq]at h;obtain⟨s,h2,b⟩:=h;simp only[fnChk,Bool.and_eq_true,decide_eq_true_eq,beq_iff_eq,List.all_eq_true]at b;obtain⟨⟨⟨⟨⟨m,q⟩,p⟩,j⟩,e⟩,n⟩:=b;refine .inl ⟨f,hr,m,.inl ⟨hp,l,fn,vs,by rw[a];exact hf,r,q,p,j,e,?_,o,s,.inl g,h2⟩⟩;intro i d;(have:(vs.take pf.params)[i]?=some i:=by rw[n];simp[d]);rwa[List.getElem?_take,if_pos d]at this
def rdChk(nt:Nat)(pf:PFunc)(vars:List Tmp)(ps:Array Tmp)(vs:List Tmp)(a b:PC):Bool:=a.RO&&b.RO&&decide vs.Nodup&&vs.all (λt=>decide (t<nt))&&vs.length==pf.nv&&pf.params==1+(vars.length+ps.size)&&vs.take (vars.length+ps.size)==vars++ps.toList
theorem rdS(vars vs:List Tmp)(o:Opts)(j:Nat)(ps:Array Tmp){a b:PC}(e:pf.code=.round a b)(hf:E.P.funcs[fid]?=some fn)(h:((fn.body.bind λc=>(loopsIn c)[j]?).map λz=>(z.1,compC (E.opt o) fn.ntmps vs z.2.1,compC (E.opt o) fn.ntmps vs z.2.2))=some (ps,a,b))(d:rdChk fn.ntmps pf vars ps vs a b=true)(r:fn.name≠ "runtime.NumGoroutine")(s:N.yl k=yOf fn fid j vars:=by rfl)(f:N.fn k=fid:=by rfl)(t:o.lps=[]:=by rfl)(hp:pf.prim=none:=by rfl)(v:pf.defer=none:=by rfl):FnS E N k pf:=by simp only[Option.map_eq_some_iff,Option.bind_eq_some_iff,Prod.mk.injEq]at h;obtain⟨z,⟨c,g,m⟩,rfl,h2,l⟩:=h;simp only[rdChk,Bool.and_eq_true,decide_eq_true_eq,beq_iff_eq,List.all_eq_true]at d;obtain⟨⟨⟨⟨⟨⟨w,x⟩,p⟩,u⟩,i⟩,n⟩,q⟩:=d;refine .inr ⟨⟨fid,z.1,z.2.1,z.2.2,vars,fn.ntmps⟩,fn,vs,o,a,b,⟨by rw[s];simp[yOf,g,m],e,w,x,hp,v,hf,f,r,by simp[g],p,u,i,n,q,t,h2,l⟩⟩
def AllFn(E:Env)(N:Nm):Nat->List (Option PFunc)->Prop|_,[]=>True|n,none::a=>AllFn E N (n+1) a|n,some f::a=>FnS E N n f/\AllFn E N (n+1) a
theorem AllFn.get:∀{fs:List (Option PFunc)}{n:Nat},AllFn E N n fs->∀{k:Nat}{f:PFunc},fs[k]?.join=some f->FnS E N (n+k) f|[],n,_,k,f,hk=>by simp at hk|o::fs,n,h,0,f,hk=>by simp at hk;subst hk;exact h.1|o::fs,n,h,k+1,f,hk=>by(have a:AllFn E N (n+1) fs:=by cases o with|none=>exact h|some g=>exact h.2);have:=AllFn.get a (k:=k) (f:=f) (by simpa using hk);rwa[show n+1+k=n+(k+1)by omega]at this
end
end PI
namespace PI
open Go(IntKind BinOp UnOp)
def strsOf:List PV->Option (List (List UInt8))|[]=>some []|.str s::r=>(strsOf r).map (s::·)|_=>none
def pJoin(args:List PV)(h:List PObj):Option (PV×List PObj):=match args with|[.list _ b,.str sep]=>(strsOf b).bind λa=>if a.length<=140737488355328/\(Go.Lib.join a sep).length<=140737488355328 then some (.str (Go.Lib.join a sep),h)else none|_=>none
def pIndexByte(args:List PV)(h:List PObj):Option (PV×List PObj):=match args with|[.str s,.int .u8 c]=>some (.int .i64 (Go.Lib.indexByte s c.toNat.toUInt8),h)|_=>none
def pItoa(args:List PV)(h:List PObj):Option (PV×List PObj):=match args with|[.int .i64 n]=>if-9223372036854775808<=n/\n<=9223372036854775807 then some (.str (Go.Lib.itoa n),h)else none|_=>none
def pAtoi(args:List PV)(h:List PObj):Option (PV×List PObj):=match args with|[.str s]=>if s.length<=281474976710656 then match Go.Lib.atoiAll s with|.ok v=>some (.tuple [.int .i64 v,.nilIface],h)|Go.Lib.NumEnd.syntax=>some (.tuple [.int .i64 0,.iface 0 (.cptr [])],h)|.range=>some (.tuple [.int .i64 (Go.Lib.atoiSat s),.iface 0 (.cptr [])],h)else none|_=>none
def pWriteString(args:List PV)(h:List PObj):Option (PV×List PObj):=match args with|[.ptr n 0,.str s]=>(match h[n]? with|some (.bld a)=>if a.length+s.length<=140737488355328 then some (.tuple [.int .i64 s.length,.nilIface],h.set n (.bld (a++s)))else none|_=>none)|_=>none
def pBString(args:List PV)(h:List PObj):Option (PV×List PObj):=match args with|[.ptr n 0]=>(match h[n]? with|some (.bld a)=>some (.str a,h.set n .gone)|_=>none)|_=>none
def intsOf:List PV->Option (List Int)|[]=>some []|.int .i64 n::r=>(intsOf r).map (n::·)|_=>none
def ins{a:Type}(le:a->a->Bool)(x:a):List a->List a|[]=>[x]|y::b=>if le x y then x::y::b else y::ins le x b
def isort{a:Type}(le:a->a->Bool):List a->List a|[]=>[]|x::b=>ins le x (isort le b)
theorem ins_perm{a:Type}(le:a->a->Bool)(x:a):∀l,(ins le x l).Perm (x::l)|[]=>.refl _|y::b=>by unfold ins;split;{exact .refl _};exact((ins_perm le x b).cons y).trans (.swap x y b)
theorem isort_perm{a:Type}(le:a->a->Bool):∀l,(isort le l).Perm l|[]=>.refl _|x::b=>(ins_perm le x _).trans ((isort_perm le b).cons x)
theorem ins_sorted{g:Type}{le:g->g->Bool}(i:∀a b c,le a b=true->le b c=true->le a c=true)(j:∀a b,(le a b||le b a)=true)(x:g):∀l,l.Pairwise (λa b=>le a b=true)->(ins le x l).Pairwise (λa b=>le a b=true)|[],_=>by simp[ins]|y::k,h=>by unfold ins;split;{rename_i d;refine List.pairwise_cons.2 ⟨λz e=>?_,h⟩;rcases List.mem_cons.1 e with rfl|e;{exact d};exact i _ _ _ d ((List.pairwise_cons.1 h).1 z e)};rename_i d;(have f:le y x=true:=by have:=j x y;simp only[d,Bool.false_or]at this;exact this);refine List.pairwise_cons.2 ⟨λz e=>?_,ins_sorted i j x k (List.pairwise_cons.1 h).2⟩;rcases List.mem_cons.1 ((ins_perm le x k).mem_iff.1 e)with rfl|e;{exact f};exact(List.pairwise_cons.1 h).1 z e
theorem isort_sorted{f:Type}{le:f->f->Bool}(d:∀a b c,le a b=true->le b c=true->le a c=true)(e:∀a b,(le a b||le b a)=true):∀l,(isort le l).Pairwise (λa b=>le a b=true)|[]=>.nil|x::g=>ins_sorted d e x _ (isort_sorted d e g)
theorem isort_eq{d:Type}{le:d->d->Bool}(e:∀a b c,le a b=true->le b c=true->le a c=true)(f:∀a b,(le a b||le b a)=true)(g:∀a b,le a b=true->le b a=true->a=b)(l:List d):isort le l=l.mergeSort le:=List.Perm.eq_of_pairwise (λa b _ _=>g a b) (isort_sorted e f l) (List.pairwise_mergeSort e f l) ((isort_perm le l).trans (List.mergeSort_perm l le).symm)
def intLe(x y:Int):Bool:=decide (x<=y)
theorem isort_int(l:List Int):isort intLe l=l.mergeSort λx y=>decide (x<=y):=isort_eq (le:=intLe) (λa b c d h2=>by simp[intLe]at*;omega) (λa b=>by simp[intLe];omega) (λa b d h2=>by simp[intLe]at*;omega) l
def pSortInts(args:List PV)(h:List PObj):Option (PV×List PObj):=match args with|[.rowp n 1 false len]=>(match h[n]? with|some (.cells a)=>if len<=a.length/\len<4611686018427387904 then(intsOf (a.take len)).map λb=>(.tuple [],h.set n (.cells ((isort intLe b).map (.int .i64 ·)++a.drop len)))else none|_=>none)|[.list _ []]=>some (.tuple [],h)|_=>none
def pairsOf:List PV->Option (List (Int×Int))|[]=>some []|.int .i64 a::.int .i64 b::r=>(pairsOf r).map ((a,b)::·)|_=>none
def ePair(x:Int×Int):List PV:=[.int .i64 x.1,.int .i64 x.2]
def pairLe(x y:Int×Int):Bool:=decide (x.1<y.1\/x.1=y.1/\x.2<=y.2)
theorem isort_pair(l:List (Int×Int)):isort pairLe l=l.mergeSort pairLe:=isort_eq (λa b c d h2=>by simp[pairLe]at*;omega) (λa b=>by simp[pairLe];omega) (λa b d h2=>by simp[pairLe]at*;exact Prod.ext (by omega) (by omega)) l
def pSortPairs(c:Nat)(args:List PV)(h:List PObj):Option (PV×List PObj):=match args with|[.rowp n 2 true len,.func k [] []]=>(match h[n]? with|some (.cells a)=>if k=c/\len*2<=a.length/\len<4611686018427387904 then(pairsOf (a.take (len*2))).map λb=>(.tuple [],h.set n (.cells ((isort pairLe b).flatMap ePair++a.drop (len*2))))else none|_=>none)|[.list _ [],_]=>some (.tuple [],h)|_=>none
section
variable {cf:CallF}{V l:List PV}{g:Nat}{h:List PObj}{L:Nat->Option PFunc}
@[simp] theorem raw_v(i:Nat):raw ⟨V,l,g,h⟩ (.v i)=V[i]?:=rfl
@[simp] theorem raw_l(i:Nat):raw ⟨V,l,g,h⟩ (.l i)=l[i]?:=rfl
@[simp] theorem raw_c(p:PV):raw ⟨V,l,g,h⟩ (.c p)=some p:=rfl
@[simp] theorem rd_mk(x:PX):rd ⟨V,l,g,h⟩ x=match raw ⟨V,l,g,h⟩ x with|some v=>cp v|none=>none:=by simp only[rd];cases raw ⟨V,l,g,h⟩ x<;>rfl
@[simp] theorem cp_bool(b:Bool):cp (.bool b)=some (.bool b):=rfl
@[simp] theorem dem_bool(b:Bool):dem (.bool b)=.bool b:=rfl
@[simp] theorem cp_int(k:IntKind)(n:Int):cp (.int k n)=some (.int k n):=rfl
@[simp] theorem dem_int(k:IntKind)(n:Int):dem (.int k n)=.int k n:=rfl
@[simp] theorem cp_str(s:List UInt8):cp (.str s)=some (.str s):=rfl
@[simp] theorem dem_str(s:List UInt8):dem (.str s)=.str s:=rfl
@[simp] theorem cp_agg(cs:List PV):cp (.agg cs)=some (.agg cs):=rfl
@[simp] theorem dem_agg(cs:List PV):dem (.agg cs)=.agg cs:=rfl
@[simp] theorem cp_tuple(vs:List PV):cp (.tuple vs)=some (.tuple vs):=rfl
@[simp] theorem dem_tuple(vs:List PV):dem (.tuple vs)=.tuple vs:=rfl
@[simp] theorem cp_nilptr:cp (.nilptr)=some (.nilptr):=rfl
@[simp] theorem dem_nilptr:dem (.nilptr)=.nilptr:=rfl
@[simp] theorem cp_cptr(cs:List PV):cp (.cptr cs)=some (.cptr cs):=rfl
@[simp] theorem dem_cptr(cs:List PV):dem (.cptr cs)=.cptr cs:=rfl
@[simp] theorem cp_ptr(n o:Nat):cp (.ptr n o)=some (.ptr n o):=rfl
@[simp] theorem dem_ptr(n o:Nat):dem (.ptr n o)=.ptr n o:=rfl
@[simp] theorem cp_map(n:Option Nat):cp (.map n)=some (.map n):=rfl
@[simp] theorem dem_map(n:Option Nat):dem (.map n)=.map n:=rfl
@[simp] theorem cp_func(k:Nat)(a b:List PV):cp (.func k a b)=some (.func k a b):=rfl
@[simp] theorem dem_func(k:Nat)(a b:List PV):dem (.func k a b)=.func k a b:=rfl
@[simp] theorem cp_nilfunc:cp (.nilfunc)=some (.nilfunc):=rfl
@[simp] theorem dem_nilfunc:dem (.nilfunc)=.nilfunc:=rfl
@[simp] theorem cp_iface(t:Nat)(v:PV):cp (.iface t v)=some (.iface t v):=rfl
@[simp] theorem dem_iface(t:Nat)(v:PV):dem (.iface t v)=.iface t v:=rfl
@[simp] theorem cp_nilIface:cp (.nilIface)=some (.nilIface):=rfl
@[simp] theorem dem_nilIface:dem (.nilIface)=.nilIface:=rfl
@[simp] theorem cp_nils:cp (.nils)=some (.nils):=rfl
@[simp] theorem dem_nils:dem (.nils)=.nils:=rfl
@[simp] theorem cp_void:cp (.void)=some (.void):=rfl
@[simp] theorem dem_void:dem (.void)=.void:=rfl
@[simp] theorem cp_list(o:Bool)(es:List PV):cp (.list o es)=some (.list false es):=rfl
@[simp] theorem dem_list(o:Bool)(es:List PV):dem (.list o es)=.list false es:=rfl
@[simp] theorem cp_loc(n:Nat)(cs:List PV):cp (.loc n cs)=none:=rfl
@[simp] theorem cp_lptr(s n o:Nat):cp (.lptr s n o)=none:=rfl
@[simp] theorem cp_dead:cp .dead=none:=rfl
@[simp] theorem cp_rowp(n sz:Nat)(a:Bool)(k:Nat):cp (.rowp n sz a k)=some (.rowp n sz a k):=rfl
@[simp] theorem dem_rowp(n sz:Nat)(a:Bool)(k:Nat):dem (.rowp n sz a k)=.rowp n sz a k:=rfl
@[simp] theorem rowp_rowp(n sz:Nat)(a:Bool)(k:Nat):rowpNo (.rowp n sz a k)=some n:=rfl
@[simp] theorem rowp_bool(b:Bool):rowpNo (.bool b)=none:=rfl
@[simp] theorem rowp_int(k:IntKind)(n:Int):rowpNo (.int k n)=none:=rfl
@[simp] theorem rowp_str(s:List UInt8):rowpNo (.str s)=none:=rfl
@[simp] theorem rowp_agg(cs:List PV):rowpNo (.agg cs)=none:=rfl
@[simp] theorem rowp_tuple(vs:List PV):rowpNo (.tuple vs)=none:=rfl
@[simp] theorem rowp_nilptr:rowpNo (.nilptr)=none:=rfl
@[simp] theorem rowp_cptr(cs:List PV):rowpNo (.cptr cs)=none:=rfl
@[simp] theorem rowp_ptr(n o:Nat):rowpNo (.ptr n o)=none:=rfl
@[simp] theorem rowp_map(n:Option Nat):rowpNo (.map n)=none:=rfl
@[simp] theorem rowp_func(k:Nat)(a b:List PV):rowpNo (.func k a b)=none:=rfl
@[simp] theorem rowp_nilfunc:rowpNo (.nilfunc)=none:=rfl
@[simp] theorem rowp_iface(t:Nat)(v:PV):rowpNo (.iface t v)=none:=rfl
@[simp] theorem rowp_nilIface:rowpNo (.nilIface)=none:=rfl
@[simp] theorem rowp_nils:rowpNo (.nils)=none:=rfl
@[simp] theorem rowp_void:rowpNo (.void)=none:=rfl
@[simp] theorem rowp_list(o:Bool)(es:List PV):rowpNo (.list o es)=none:=rfl
@[simp] theorem rowp_loc(n:Nat)(cs:List PV):rowpNo (.loc n cs)=none:=rfl
@[simp] theorem rowp_lptr(s n o:Nat):rowpNo (.lptr s n o)=none:=rfl
@[simp] theorem rowp_dead:rowpNo (.dead)=none:=rfl
@[simp] theorem dem_loc(n:Nat)(cs:List PV):dem (.loc n cs)=.loc n cs:=rfl
@[simp] theorem dem_dead:dem .dead=.dead:=rfl
@[simp] theorem free_bool(b:Bool):refFree (.bool b)=true:=rfl
@[simp] theorem free_int(k:IntKind)(n:Int):refFree (.int k n)=true:=rfl
@[simp] theorem free_str(s:List UInt8):refFree (.str s)=true:=rfl
@[simp] theorem free_agg(cs:List PV):refFree (.agg cs)=refFrees cs:=rfl
@[simp] theorem free_tuple(vs:List PV):refFree (.tuple vs)=refFrees vs:=rfl
@[simp] theorem free_nilptr:refFree (.nilptr)=true:=rfl
@[simp] theorem free_cptr(cs:List PV):refFree (.cptr cs)=refFrees cs:=rfl
@[simp] theorem free_ptr(n o:Nat):refFree (.ptr n o)=false:=rfl
@[simp] theorem free_map(n:Option Nat):refFree (.map n)=n.isNone:=rfl
@[simp] theorem free_func(k:Nat)(a b:List PV):refFree (.func k a b)=(refFrees a&&refFrees b):=rfl
@[simp] theorem free_nilfunc:refFree (.nilfunc)=true:=rfl
@[simp] theorem free_iface(t:Nat)(v:PV):refFree (.iface t v)=refFree v:=rfl
@[simp] theorem free_nilIface:refFree (.nilIface)=true:=rfl
@[simp] theorem free_nils:refFree (.nils)=true:=rfl
@[simp] theorem free_void:refFree (.void)=true:=rfl
@[simp] theorem free_list(o:Bool)(es:List PV):refFree (.list o es)=refFrees es:=rfl
@[simp] theorem free_dead:refFree (.dead)=false:=rfl
@[simp] theorem free_rowp(n sz:Nat)(a:Bool)(k:Nat):refFree (.rowp n sz a k)=false:=rfl
@[simp] theorem peq_one(k:EK)(x y:PV):peq false [k] x y=peq1 k x y:=rfl
@[simp] theorem peq_agg(a:List EK)(xs b:List PV):peq true a (.agg xs) (.agg b)=peqs a xs b:=rfl
def tkv:PV->Option (PV×Bool)|.list true a=>some (.list true a,true)|v=>match cp v with|some u=>some (u,false)|none=>none
@[simp] theorem tkv_bool(b:Bool):tkv (.bool b)=some (.bool b,false):=rfl
@[simp] theorem tkv_int(k:IntKind)(n:Int):tkv (.int k n)=some (.int k n,false):=rfl
@[simp] theorem tkv_str(s:List UInt8):tkv (.str s)=some (.str s,false):=rfl
@[simp] theorem tkv_agg(cs:List PV):tkv (.agg cs)=some (.agg cs,false):=rfl
@[simp] theorem tkv_tuple(vs:List PV):tkv (.tuple vs)=some (.tuple vs,false):=rfl
@[simp] theorem tkv_nilptr:tkv (.nilptr)=some (.nilptr,false):=rfl
@[simp] theorem tkv_cptr(cs:List PV):tkv (.cptr cs)=some (.cptr cs,false):=rfl
@[simp] theorem tkv_ptr(n o:Nat):tkv (.ptr n o)=some (.ptr n o,false):=rfl
@[simp] theorem tkv_map(n:Option Nat):tkv (.map n)=some (.map n,false):=rfl
@[simp] theorem tkv_func(k:Nat)(a b:List PV):tkv (.func k a b)=some (.func k a b,false):=rfl
@[simp] theorem tkv_nilfunc:tkv (.nilfunc)=some (.nilfunc,false):=rfl
@[simp] theorem tkv_iface(t:Nat)(v:PV):tkv (.iface t v)=some (.iface t v,false):=rfl
@[simp] theorem tkv_nilIface:tkv (.nilIface)=some (.nilIface,false):=rfl
@[simp] theorem tkv_nils:tkv (.nils)=some (.nils,false):=rfl
@[simp] theorem tkv_void:tkv (.void)=some (.void,false):=rfl
@[simp] theorem tkv_own(es:List PV):tkv (.list true es)=some (.list true es,true):=rfl
@[simp] theorem tkv_list(es:List PV):tkv (.list false es)=some (.list false es,false):=rfl
@[simp] theorem tkv_loc(n:Nat)(cs:List PV):tkv (.loc n cs)=none:=rfl
@[simp] theorem tkv_lptr(s n o:Nat):tkv (.lptr s n o)=none:=rfl
@[simp] theorem tkv_dead:tkv .dead=none:=rfl
@[simp] theorem tkv_rowp(n sz:Nat)(a:Bool)(k:Nat):tkv (.rowp n sz a k)=some (.rowp n sz a k,false):=rfl
@[simp] theorem tk_mk(x:PX):tk ⟨V,l,g,h⟩ x=match raw ⟨V,l,g,h⟩ x with|some v=>(match tkv v with|some (u,true)=>some (u,setSrc ⟨V,l,g,h⟩ x (dem v))|some (u,false)=>some (u,⟨V,l,g,h⟩)|none=>none)|none=>none:=by unfold tk;cases raw ⟨V,l,g,h⟩ x with|none=>rfl|some v=>cases v with|list ow a=>cases ow<;>rfl|_=>rfl
def aggCells:PV->Option (List PV)|.agg a=>some a|_=>none
@[simp] theorem aggCells_agg(cs:List PV):aggCells (.agg cs)=some cs:=rfl
@[simp] theorem deep_agg(cs:List PV):deep (.agg cs)=.agg (cs.map dem):=rfl
@[simp] theorem deep_bool(b:Bool):deep (.bool b)=.bool b:=rfl
@[simp] theorem deep_int(k:IntKind)(n:Int):deep (.int k n)=.int k n:=rfl
@[simp] theorem deep_str(s:List UInt8):deep (.str s)=.str s:=rfl
@[simp] theorem deep_list(o:Bool)(es:List PV):deep (.list o es)=.list false es:=rfl
@[simp] theorem storeInto_agg(n:Nat)(cs:List PV)(off:Nat)(v:PV):storeInto n true cs off v=match aggCells v with|some vs=>if vs.length=n/\off+n<=cs.length then some (cs.take off++(vs++cs.drop (off+n)))else none|none=>none:=by cases v<;>rfl
@[simp] theorem storeInto_one(n:Nat)(cs:List PV)(off:Nat)(v:PV):storeInto n false cs off v=if off<cs.length/\v.flat=true then some (cs.set off v)else none:=rfl
def resR(h:List PObj):PV->Option PV|.rowp n sz agg len=>if agg=true\/sz=1 then(match h[n]? with|some (.cells a)=>(match rowEls sz agg a len 0 with|some b=>some (.list false b)|none=>none)|_=>none)else none|_=>none
@[simp] theorem resR_rowp(h:List PObj)(n sz len:Nat)(agg:Bool):resR h (.rowp n sz agg len)=if agg=true\/sz=1 then(match h[n]? with|some (.cells cs)=>(match rowEls sz agg cs len 0 with|some es=>some (.list false es)|none=>none)|_=>none)else none:=rfl
def resN:PV->PV|.nils=>.list false []|v=>v
@[simp] theorem resN_nils:resN .nils=.list false []:=rfl
@[simp] theorem resN_bool(b:Bool):resN (.bool b)=.bool b:=rfl
@[simp] theorem resN_int(k:IntKind)(n:Int):resN (.int k n)=.int k n:=rfl
@[simp] theorem resN_str(s:List UInt8):resN (.str s)=.str s:=rfl
@[simp] theorem resN_agg(cs:List PV):resN (.agg cs)=.agg cs:=rfl
@[simp] theorem resN_tuple(cs:List PV):resN (.tuple cs)=.tuple cs:=rfl
@[simp] theorem resN_nilptr:resN (.nilptr)=.nilptr:=rfl
@[simp] theorem resN_cptr(cs:List PV):resN (.cptr cs)=.cptr cs:=rfl
@[simp] theorem resN_ptr(n o:Nat):resN (.ptr n o)=.ptr n o:=rfl
@[simp] theorem resN_map(n:Option Nat):resN (.map n)=.map n:=rfl
@[simp] theorem resN_func(k:Nat)(a b:List PV):resN (.func k a b)=.func k a b:=rfl
@[simp] theorem resN_nilfunc:resN (.nilfunc)=.nilfunc:=rfl
@[simp] theorem resN_iface(t:Nat)(v:PV):resN (.iface t v)=.iface t v:=rfl
@[simp] theorem resN_nilIface:resN (.nilIface)=.nilIface:=rfl
@[simp] theorem resN_void:resN (.void)=.void:=rfl
@[simp] theorem resN_list(o:Bool)(es:List PV):resN (.list o es)=.list o es:=rfl
@[simp] theorem resN_dead:resN (.dead)=.dead:=rfl
@[simp] theorem resN_loc(n:Nat)(cs:List PV):resN (.loc n cs)=.loc n cs:=rfl
@[simp] theorem resultOf_keep(i:Nat):resultOf ⟨V,l,g,h⟩ (.keep i)=match V[i]? with|some v=>cp v|none=>none:=by simp only[resultOf];cases V[i]?<;>rfl
@[simp] theorem shutRes_keep(V:List PV)(i:Nat)(rs:List PRes)(h:List PObj):shutRes V (.keep i::rs) h=shutRes V rs h:=rfl
@[simp] theorem resultOf_var(i:Nat):resultOf ⟨V,l,g,h⟩ (.var i)=match V[i]? with|some v=>(match rowpNo v with|some _=>resR h v|none=>(match tkv v with|some (u,_)=>some (resN u)|none=>none))|none=>none:=by simp only[resultOf];cases V[i]? with|none=>rfl|some v=>cases v with|list ow b=>cases ow<;>rfl|rowp n sz agg len=>simp only[Option.bind_some,rowp_rowp,resR_rowp];split;{simp only[hget];cases h[n]? with|none=>rfl|some o=>(cases o<;>try rfl);rename_i a;simp only[Option.bind_some];cases rowEls sz agg a len 0<;>rfl};rfl|_=>rfl
@[simp] theorem rowNos_nil:rowNos []=[]:=rfl
@[simp] theorem rowNos_cons(p:PV)(ps:List PV):rowNos (p::ps)=match rowpNo p with|some n=>n::rowNos ps|none=>rowNos ps:=by cases p<;>rfl
@[simp] theorem gones_nil(h:List PObj):gones [] h=h:=rfl
@[simp] theorem gones_cons(n:Nat)(ns:List Nat)(h:List PObj):gones (n::ns) h=gones ns (h.set n .gone):=rfl
@[simp] theorem shutRes_nil(V:List PV)(h:List PObj):shutRes V [] h=h:=rfl
@[simp] theorem shutRes_cell(V:List PV)(i n:Nat)(agg:Bool)(rs:List PRes)(h:List PObj):shutRes V (.cell i n agg::rs) h=match V[i]? with|some (.loc _ cs)=>shutRes V rs (gones (rowNos cs) h)|_=>shutRes V rs h:=by simp only[shutRes,resNos];cases V[i]? with|none=>rfl|some v=>cases v<;>rfl
@[simp] theorem shutRes_var(V:List PV)(i:Nat)(rs:List PRes)(h:List PObj):shutRes V (.var i::rs) h=match V[i]? with|some v=>(match rowpNo v with|some n=>shutRes V rs (h.set n .gone)|none=>shutRes V rs h)|none=>shutRes V rs h:=by simp only[shutRes,resNos,rowNo];cases V[i]? with|none=>rfl|some v=>cases v<;>rfl
@[simp] theorem frozs_nil(h:List PObj):frozs h []=some []:=rfl
@[simp] theorem frozs_cons(h:List PObj)(p:PV)(ps:List PV):frozs h (p::ps)=match rowpNo p with|some _=>(match resR h p with|some q=>(match frozs h ps with|some a=>some (q::a)|none=>none)|none=>none)|none=>(match frozs h ps with|some a=>some (p::a)|none=>none):=by simp only[frozs];cases p with|rowp n sz agg len=>simp only[rowp_rowp,resR_rowp,froz1];split;{cases h[n]? with|none=>rfl|some o=>(cases o<;>try rfl);rename_i b;simp only;cases rowEls sz agg b len 0 with|none=>rfl|some c=>simp only[Option.map_some,Option.bind_some];cases frozs h ps<;>rfl};rfl|_=>simp only[froz1,Option.bind_some];cases frozs h ps<;>rfl
@[simp] theorem froz_agg(h:List PObj)(ps:List PV):froz h (.agg ps)=match frozs h ps with|some a=>some (.agg a)|none=>none:=by simp only[froz];cases frozs h ps<;>rfl
@[simp] theorem froz_bool(h:List PObj)(b:Bool):froz h (.bool b)=some (.bool b):=rfl
@[simp] theorem froz_int(h:List PObj)(k:IntKind)(n:Int):froz h (.int k n)=some (.int k n):=rfl
@[simp] theorem froz_str(h:List PObj)(s:List UInt8):froz h (.str s)=some (.str s):=rfl
@[simp] theorem froz_list(h:List PObj)(o:Bool)(es:List PV):froz h (.list o es)=some (.list o es):=rfl
@[simp] theorem froz_nilptr(h:List PObj):froz h (.nilptr)=some (.nilptr):=rfl
@[simp] theorem froz_cptr(h:List PObj)(cs:List PV):froz h (.cptr cs)=some (.cptr cs):=rfl
@[simp] theorem froz_ptr(h:List PObj)(n o:Nat):froz h (.ptr n o)=some (.ptr n o):=rfl
@[simp] theorem froz_rowp(h:List PObj)(n sz:Nat)(a:Bool)(k:Nat):froz h (.rowp n sz a k)=some (.rowp n sz a k):=rfl
@[simp] theorem froz_map(h:List PObj)(n:Option Nat):froz h (.map n)=some (.map n):=rfl
@[simp] theorem froz_func(h:List PObj)(k:Nat)(a b:List PV):froz h (.func k a b)=some (.func k a b):=rfl
@[simp] theorem froz_nilfunc(h:List PObj):froz h (.nilfunc)=some (.nilfunc):=rfl
@[simp] theorem froz_iface(h:List PObj)(t:Nat)(v:PV):froz h (.iface t v)=some (.iface t v):=rfl
@[simp] theorem froz_nilIface(h:List PObj):froz h (.nilIface)=some (.nilIface):=rfl
theorem frozs_free(h:List PObj):∀{ps:List PV},refFrees ps=true->frozs h ps=some ps|[],_=>rfl|p::ps,hr=>by simp only[refFrees,Bool.and_eq_true]at hr;(have:froz1 h p=some p:=by cases p<;>first|rfl|simp[refFree]at hr);simp only[frozs,this,frozs_free h hr.2,Option.bind_some,Option.map_some]
theorem rowNos_free:∀{ps:List PV},refFrees ps=true->rowNos ps=[]|[],_=>rfl|p::ps,hr=>by simp only[refFrees,Bool.and_eq_true]at hr;(have:rowpNo p=none:=by cases p<;>first|rfl|simp[refFree]at hr);simp only[rowNos,this,rowNos_free hr.2];rfl
@[simp] theorem resultOf_cell(i n:Nat)(agg:Bool):resultOf ⟨V,l,g,h⟩ (.cell i n agg)=match V[i]? with|some (.loc _ cs)=>(match loadFrom n agg cs 0 with|some v=>froz h v|none=>none)|some (.ptr m 0)=>(match hget ⟨V,l,g,h⟩ m with|some cs=>loadFrom n agg cs 0|none=>none)|_=>none:=by simp only[resultOf];cases V[i]? with|none=>rfl|some v=>cases v with|loc g cs=>simp only;cases loadFrom n agg cs 0<;>rfl|ptr m a=>(cases a with|zero=>simp only;cases hget ⟨V,l,g,h⟩ m<;>rfl|succ a=>rfl)|_=>rfl
attribute [simp]addr rdInt setSrc refFrees intBin strBin unv bound peq1 minmaxv
@[simp] theorem rdAll_nil(st:St):rdAll st []=some []:=rfl
@[simp] theorem rdAll_cons(x:PX)(xs:List PX):rdAll ⟨V,l,g,h⟩ (x::xs)=match rd ⟨V,l,g,h⟩ x with|some v=>(match rdAll ⟨V,l,g,h⟩ xs with|some vs=>some (v::vs)|none=>none)|none=>none:=by simp only[rdAll];cases rd ⟨V,l,g,h⟩ x<;>simp;cases rdAll ⟨V,l,g,h⟩ xs<;>rfl
@[simp] theorem rdElems_nil(st:St):rdElems st []=some []:=rfl
@[simp] theorem rdElems_cons(i:Nat)(x:PX)(xs:List (Nat×PX)):rdElems ⟨V,l,g,h⟩ ((i,x)::xs)=match rd ⟨V,l,g,h⟩ x with|some v=>(match rdElems ⟨V,l,g,h⟩ xs with|some vs=>some ((i,v)::vs)|none=>none)|none=>none:=by simp only[rdElems];cases rd ⟨V,l,g,h⟩ x<;>simp;cases rdElems ⟨V,l,g,h⟩ xs<;>rfl
@[simp] theorem rdParts_nil(st:St):rdParts st []=some []:=rfl
@[simp] theorem rdParts_cons(i s:Nat)(x:PX)(xs:List (Nat×Nat×PX)):rdParts ⟨V,l,g,h⟩ ((i,s,x)::xs)=match rd ⟨V,l,g,h⟩ x with|some v=>(match rdParts ⟨V,l,g,h⟩ xs with|some vs=>some ((i,s,v)::vs)|none=>none)|none=>none:=by simp only[rdParts];cases rd ⟨V,l,g,h⟩ x<;>simp;cases rdParts ⟨V,l,g,h⟩ xs<;>rfl
@[simp] theorem put_v(i j:Nat)(v:PV):put ⟨V,l,g,h⟩ j (.v i) v=⟨V.set i v,l,g,h⟩:=rfl
@[simp] theorem put_l(j:Nat)(v:PV):put ⟨V,l,g,h⟩ j .l v=⟨V,l.set j v,g,h⟩:=rfl
@[simp] theorem put_n(j:Nat)(v:PV):put ⟨V,l,g,h⟩ j .n v=⟨V,l,g,h⟩:=rfl
@[simp] theorem execOps_mk(a:List PO):execOps cf a ⟨V,l,g,h⟩=execFrom cf 0 a ⟨V,List.replicate a.length .dead,g,h⟩:=rfl
@[simp] theorem execFrom_nil(j:Nat)(st:St):execFrom cf j [] st=some st:=rfl
@[simp] theorem execFrom_cons(j:Nat)(d:PD)(o:POp)(os:List PO):execFrom cf j (⟨d,o,none⟩::os) ⟨V,l,g,h⟩=match opv cf o ⟨V,l,g,h⟩with|some (v,st)=>execFrom cf (j+1) os (put st j d v)|none=>none:=by simp only[execFrom,step1];cases opv cf o ⟨V,l,g,h⟩<;>rfl
@[simp] theorem execFrom_consG(j:Nat)(d:PD)(o:POp)(x:PX)(a:Bool)(os:List PO):execFrom cf j (⟨d,o,some (x,a)⟩::os) ⟨V,l,g,h⟩=match rd ⟨V,l,g,h⟩ x with|some (.bool b)=>if b=a then(match opv cf o ⟨V,l,g,h⟩with|some (v,st)=>execFrom cf (j+1) os (put st j d v)|none=>none)else execFrom cf (j+1) os (put ⟨V,l,g,h⟩ j d (.tuple []))|some (.tuple [])=>execFrom cf (j+1) os (put ⟨V,l,g,h⟩ j d (.tuple []))|_=>none:=by simp only[execFrom,step1];cases rd ⟨V,l,g,h⟩ x with|none=>rfl|some v=>(cases v<;>try rfl);{rename_i b;simp only;by_cases hb:b=a;{simp only[if_pos hb];cases opv cf o ⟨V,l,g,h⟩<;>rfl};simp only[if_neg hb];rfl};rename_i c;cases c<;>rfl
def sv(r:Option PV)(st:St):Option (PV×St):=match r with|some v=>some (v,st)|none=>none
@[simp] theorem sv_some(v:PV)(st:St):sv (some v) st=some (v,st):=rfl
@[simp] theorem sv_none(st:St):sv none st=none:=rfl
theorem map_sv(r:Option PV)(st:St):r.map (·,st)=sv r st:=by cases r<;>rfl
@[simp] theorem opv_mov(x:PX):opv cf (.mov x) ⟨V,l,g,h⟩=sv (rd ⟨V,l,g,h⟩ x) ⟨V,l,g,h⟩:=map_sv _ _
@[simp] theorem opv_movs(x:PX):opv cf (.movs x) ⟨V,l,g,h⟩=match rd ⟨V,l,g,h⟩ x with|some (.str s)=>some (.str s,⟨V,l,g,h⟩)|_=>none:=rfl
@[simp] theorem opv_take(x:PX):opv cf (.take x) ⟨V,l,g,h⟩=match raw ⟨V,l,g,h⟩ x with|some v=>(match tkv v with|some (u,true)=>some (u,setSrc ⟨V,l,g,h⟩ x (dem v))|some (u,false)=>some (u,⟨V,l,g,h⟩)|none=>none)|none=>none:=by simp only[opv,tk_mk]
@[simp] theorem opv_pick(c a b:PX):opv cf (.pick c a b) ⟨V,l,g,h⟩=match rd ⟨V,l,g,h⟩ c with|some (.bool t)=>sv (rd ⟨V,l,g,h⟩ (if t then a else b)) ⟨V,l,g,h⟩|_=>none:=by simp only[opv,map_sv];rfl
@[simp] theorem opv_newloc(z:List PV):opv cf (.newloc z) ⟨V,l,g,h⟩=some (.loc g z,⟨V,l,g+1,h⟩):=rfl
@[simp] theorem opv_boxloc(s:Nat)(x:PX):opv cf (.boxloc s x) ⟨V,l,g,h⟩=match rd ⟨V,l,g,h⟩ x with|some v=>if v.cells.length=s then some (.loc g (v.cells.map dem),⟨V,l,g+1,h⟩)else none|none=>none:=rfl
@[simp] theorem opv_mkslice(s:Nat)(z:PV)(n:Nat)(ps:List (Nat×PX)):opv cf (.mkslice s z n ps) ⟨V,l,g,h⟩=match rdElems ⟨V,l,g,h⟩ ps with|some es=>(match setElems s (List.replicate n z) es with|some es=>some (.list true es,⟨V,l,g,h⟩)|none=>none)|none=>none:=by simp only[opv];cases rdElems ⟨V,l,g,h⟩ ps<;>simp;rename_i es;cases setElems s (List.replicate n z) es<;>rfl
@[simp] theorem opv_build(z:List PV)(ps:List (Nat×Nat×PX)):opv cf (.build z ps) ⟨V,l,g,h⟩=match rdParts ⟨V,l,g,h⟩ ps with|some es=>(match setParts z es with|some cs=>some (.agg cs,⟨V,l,g,h⟩)|none=>none)|none=>none:=by simp only[opv];cases rdParts ⟨V,l,g,h⟩ ps<;>simp;rename_i es;cases setParts z es<;>rfl
@[simp] theorem opv_load(s:Nat)(agg:Bool)(a:PX)(t:Bool):opv cf (.load s agg a t) ⟨V,l,g,h⟩=match addr ⟨V,l,g,h⟩ a with|some (.cptr cs)=>sv (loadFrom s agg cs 0) ⟨V,l,g,h⟩|some (.lptr b g0 off)=>(match V[b]? with|some (.loc c cs)=>if g0=c then match t&&!agg,cs[off]? with|true,some (.list true es)=>some (.list true es,⟨V.set b (.loc g0 (cs.set off (.list false es))),l,g,h⟩)|_,_=>sv (loadFrom s agg cs off) ⟨V,l,g,h⟩else none|_=>none)|_=>none:=by simp only[opv,map_sv];rfl
@[simp] theorem opv_store(s:Nat)(agg:Bool)(a x:PX):opv cf (.store s agg a x) ⟨V,l,g,h⟩=match addr ⟨V,l,g,h⟩ a,tk ⟨V,l,g,h⟩ x with|some (.lptr c g0 off),some (v,⟨V,l,g,h⟩)=>(match V[c]? with|some (.loc b cs)=>if g0=b then(match storeInto s agg cs off v with|some cs=>some (.dead,⟨V.set c (.loc g0 cs),l,g,h⟩)|none=>none)else none|_=>none)|_,_=>none:=by simp only[opv];cases addr ⟨V,l,g,h⟩ a with|none=>rfl|some p=>(cases p<;>try rfl);cases tk ⟨V,l,g,h⟩ x with|none=>rfl|some r=>obtain⟨v,⟨e,l2,f,h2⟩⟩:=r;simp only;rename_i d g1 o1;cases e[d]? with|none=>rfl|some q=>(cases q<;>try rfl);rename_i b cs;simp only;by_cases hg:g1=b;{simp only[if_pos hg];cases storeInto s agg cs o1 v<;>rfl};simp only[if_neg hg]
@[simp] theorem opv_faddr(off:Nat)(x:PX):opv cf (.faddr off x) ⟨V,l,g,h⟩=match addr ⟨V,l,g,h⟩ x with|some (.cptr cs)=>some (.cptr (cs.drop off),⟨V,l,g,h⟩)|some (.lptr s g0 o)=>some (.lptr s g0 (o+off),⟨V,l,g,h⟩)|some (.ptr n o)=>some (.ptr n (o+off),⟨V,l,g,h⟩)|_=>none:=rfl
@[simp] theorem opv_iaddrS(s:Nat)(x i:PX):opv cf (.iaddrS s x i) ⟨V,l,g,h⟩=match rd ⟨V,l,g,h⟩ x,rdInt ⟨V,l,g,h⟩ i with|some (.list _ es),some n=>if 0<=n then match es[n.toNat]? with|some e=>if e.cells.length=s then some (.cptr e.cells,⟨V,l,g,h⟩)else none|none=>none else none|some (.rowp m sz _ len),some n=>if sz=s/\0<=n/\n<len then some (.ptr m (n.toNat*s),⟨V,l,g,h⟩)else none|some (.rows m sz _ off len),some n=>if sz=s/\0<=n/\n<len then some (.ptr m ((off+n.toNat)*s),⟨V,l,g,h⟩)else none|_,_=>none:=rfl
@[simp] theorem opv_iaddrA(a s:Nat)(x i:PX):opv cf (.iaddrA a s x i) ⟨V,l,g,h⟩=match addr ⟨V,l,g,h⟩ x,rdInt ⟨V,l,g,h⟩ i with|some (.lptr b g0 o),some n=>if 0<=n/\n<a then some (.lptr b g0 (o+n.toNat*s),⟨V,l,g,h⟩)else none|some (.cptr cs),some n=>if 0<=n/\n<a then some (.cptr (cs.drop (n.toNat*s)),⟨V,l,g,h⟩)else none|_,_=>none:=rfl
@[simp] theorem opv_field(off s:Nat)(agg:Bool)(x:PX):opv cf (.field off s agg x) ⟨V,l,g,h⟩=match rd ⟨V,l,g,h⟩ x with|some v=>(match aggCells v with|some cs=>sv (loadFrom s agg cs off) ⟨V,l,g,h⟩|none=>none)|none=>none:=by simp only[opv,map_sv];cases rd ⟨V,l,g,h⟩ x with|none=>rfl|some v=>cases v<;>rfl
@[simp] theorem opv_indexStr(x i:PX):opv cf (.indexStr x i) ⟨V,l,g,h⟩=match rd ⟨V,l,g,h⟩ x,rdInt ⟨V,l,g,h⟩ i with|some (.str s),some n=>if 0<=n then match s[n.toNat]? with|some b=>some (.int .u8 b.toNat,⟨V,l,g,h⟩)|none=>none else none|_,_=>none:=rfl
@[simp] theorem opv_sliceLoc(n:Nat)(i:Nat):opv cf (.sliceLoc n (.v i)) ⟨V,l,g,h⟩=match V[i]? with|some (.loc _ cs)=>if cs.length=n then some (.list true cs,⟨V.set i .dead,l,g,h⟩)else none|_=>none:=by simp only[opv,raw];cases V[i]? with|none=>rfl|some q=>cases q<;>rfl
@[simp] theorem opv_bin(op:BinOp)(x y:PX):opv cf (.bin op x y) ⟨V,l,g,h⟩=match rd ⟨V,l,g,h⟩ x,rd ⟨V,l,g,h⟩ y with|some a,some b=>sv (binv op a b) ⟨V,l,g,h⟩|_,_=>none:=by simp only[opv,map_sv];rfl
@[simp] theorem opv_eq(c agg:Bool)(d:List EK)(x y:PX):opv cf (.eq c agg d x y) ⟨V,l,g,h⟩=match rd ⟨V,l,g,h⟩ x,rd ⟨V,l,g,h⟩ y with|some a,some b=>(match peq agg d a b with|some t=>some (.bool (if c then !t else t),⟨V,l,g,h⟩)|none=>none)|_,_=>none:=by simp only[opv];cases rd ⟨V,l,g,h⟩ x with|none=>rfl|some a=>cases rd ⟨V,l,g,h⟩ y with|none=>rfl|some b=>simp only;cases peq agg d a b<;>rfl
@[simp] theorem opv_un(op:UnOp)(x:PX):opv cf (.un op x) ⟨V,l,g,h⟩=match rd ⟨V,l,g,h⟩ x with|some a=>sv (unv op a) ⟨V,l,g,h⟩|none=>none:=by simp only[opv,map_sv];rfl
@[simp] theorem opv_ifc1(t:Nat)(x:PX):opv cf (.ifc true t x) ⟨V,l,g,h⟩=match rd ⟨V,l,g,h⟩ x with|some v=>some (.iface t v,⟨V,l,g,h⟩)|none=>none:=by simp only[opv];cases rd ⟨V,l,g,h⟩ x<;>rfl
@[simp] theorem opv_ifc0(t:Nat)(x:PX):opv cf (.ifc false t x) ⟨V,l,g,h⟩=match rd ⟨V,l,g,h⟩ x with|some (.iface a v)=>if a=t then some (dem v,⟨V,l,g,h⟩)else none|_=>none:=by simp only[opv];cases rd ⟨V,l,g,h⟩ x with|none=>rfl|some v=>cases v<;>rfl
@[simp] theorem opv_convInt(k:IntKind)(x:PX):opv cf (.convInt k x) ⟨V,l,g,h⟩=match rdInt ⟨V,l,g,h⟩ x with|some n=>some (.int k (k.wrap n),⟨V,l,g,h⟩)|none=>none:=by simp only[opv];cases rdInt ⟨V,l,g,h⟩ x<;>rfl
@[simp] theorem opv_extract(i:Nat)(x:PX):opv cf (.extract i x) ⟨V,l,g,h⟩=match rd ⟨V,l,g,h⟩ x with|some (.tuple vs)=>(match vs[i]? with|some v=>sv (cp v) ⟨V,l,g,h⟩|none=>none)|_=>none:=by simp only[opv];cases rd ⟨V,l,g,h⟩ x with|none=>rfl|some a=>(cases a<;>try rfl);rename_i vs;simp only;cases vs[i]?<;>simp[map_sv]
@[simp] theorem opv_len(str:Bool)(x:PX):opv cf (.len str x) ⟨V,l,g,h⟩=match str,rd ⟨V,l,g,h⟩ x with|true,some (.str s)=>some (.int .i64 s.length,⟨V,l,g,h⟩)|false,some (.list _ es)=>some (.int .i64 es.length,⟨V,l,g,h⟩)|false,some (.rowp _ _ _ n)=>some (.int .i64 n,⟨V,l,g,h⟩)|false,some (.rows _ _ _ _ n)=>some (.int .i64 n,⟨V,l,g,h⟩)|false,some .nils=>some (.int .i64 0,⟨V,l,g,h⟩)|false,some .void=>some (.int .i64 0,⟨V,l,g,h⟩)|_,_=>none:=rfl
@[simp] theorem opv_cap(x:PX):opv cf (.cap x) ⟨V,l,g,h⟩=match rd ⟨V,l,g,h⟩ x with|some .nils=>some (.int .i64 0,⟨V,l,g,h⟩)|_=>none:=rfl
@[simp] theorem opv_appstr(y x:PX):opv cf (.appstr y x) ⟨V,l,g,h⟩=match rd ⟨V,l,g,h⟩ x,tk ⟨V,l,g,h⟩ y with|some (.str xs),some (.list true es,st)=>if headOk 1 es/\es.length+xs.length<=140737488355328 then some (.list true (es++ofBytes xs),st)else none|_,_=>none:=rfl
@[simp] theorem opv_b2s(x:PX):opv cf (.b2s x) ⟨V,l,g,h⟩=match rd ⟨V,l,g,h⟩ x with|some (.list _ es)=>(match bytesOf es with|some s=>some (.str s,⟨V,l,g,h⟩)|none=>none)|some .nils=>some (.str [],⟨V,l,g,h⟩)|some .void=>some (.str [],⟨V,l,g,h⟩)|_=>none:=by simp only[opv];cases rd ⟨V,l,g,h⟩ x with|none=>rfl|some p=>(cases p<;>try rfl);rename_i o es;simp only[Option.bind_some,asRow];cases bytesOf es<;>rfl
@[simp] theorem opv_s2b(x:PX):opv cf (.s2b x) ⟨V,l,g,h⟩=match rd ⟨V,l,g,h⟩ x with|some (.str s)=>if s.length<=140737488355328 then some (.list (!s.isEmpty) (ofBytes s),⟨V,l,g,h⟩)else none|_=>none:=rfl
@[simp] theorem opv_minmax(mx:Bool)(xs:List PX):opv cf (.minmax mx xs) ⟨V,l,g,h⟩=match rdAll ⟨V,l,g,h⟩ xs with|some (v::vs)=>sv (minmaxv mx v vs) ⟨V,l,g,h⟩|_=>none:=by simp only[opv,map_sv];rfl
@[simp] theorem opv_append(s b:Nat)(y x:PX):opv cf (.append s b y x) ⟨V,l,g,h⟩=match rd ⟨V,l,g,h⟩ x,tk ⟨V,l,g,h⟩ y with|some (.list _ xs),some (.list true es,st)=>if headOk s es/\headOk s xs/\((es.length+xs.length<=2147483648/\b<=16384)\/(es.length+xs.length<=9223372036854775807/\(es.length+xs.length)*b<=140737488355328))then some (.list true (es++xs),st)else none|some .nils,some (.list true es,st)=>if headOk s es/\((es.length<=2147483648/\b<=16384)\/(es.length<=9223372036854775807/\es.length*b<=140737488355328))then some (.list true es,st)else none|some .void,some (.list true es,st)=>if headOk s es/\((es.length<=2147483648/\b<=16384)\/(es.length<=9223372036854775807/\es.length*b<=140737488355328))then some (.list true es,st)else none|_,_=>none:=by simp only[opv];generalize tk ⟨V,l,g,h⟩ y=q;rcases q with _|⟨v,st⟩;{cases rd ⟨V,l,g,h⟩ x with|none=>rfl|some p=>cases p<;>rfl};cases rd ⟨V,l,g,h⟩ x with|none=>rfl|some p=>cases v with|list ow es=>(cases ow with|false=>cases p<;>rfl|true=>cases p<;>first|rfl|(simp only[Option.bind_some,asRow,show headOk s []=true from rfl,List.length_nil,Nat.add_zero,List.append_nil,true_and]))|_=>cases p<;>rfl
@[simp] theorem opv_loadv(s n:Nat)(agg:Bool)(a:PX):opv cf (.loadv s n agg a) ⟨V,l,g,h⟩=match addr ⟨V,l,g,h⟩ a with|some (.lptr d g1 off)=>(match V[s]? with|some (.loc c cs)=>if d=s/\g1=c then(match loadFrom n agg cs off with|some u=>some (u,⟨V,l,g,h⟩)|none=>none)else none|_=>none)|_=>none:=by simp only[opv];cases addr ⟨V,l,g,h⟩ a with|none=>rfl|some v=>(cases v<;>try rfl);cases V[s]? with|none=>rfl|some x=>(cases x<;>try rfl);simp only;split;{split;{rename_i b;rw[b];rfl};rename_i b;rw[b];rfl};rfl
@[simp] theorem opv_pcall(k:Nat)(args:List PX):opv cf (.pcall k args) ⟨V,l,g,h⟩=match rdAll ⟨V,l,g,h⟩ args with|some vs=>if refFrees vs then(match cf k vs []with|some (r,_)=>if refFree r then some (dem r,⟨V,l,g,h⟩)else none|none=>none)else none|none=>none:=rfl
@[simp] theorem opv_pzcall(k:Nat)(args:List PX):opv cf (.pzcall k args) ⟨V,l,g,h⟩=match rdAll ⟨V,l,g,h⟩ args with|some vs=>if refFrees vs then(match cf k vs []with|some (r,a)=>(if refFree (frz a r)then some (dem (frz a r),⟨V,l,g,h⟩)else none)|none=>none)else none|none=>none:=rfl
@[simp] theorem opv_pcallx(k:Nat)(args:List PX):opv cf (.pcallx k args none) ⟨V,l,g,h⟩=match rdAll ⟨V,l,g,h⟩ args with|some vs=>if refFrees vs then(match cf k (ownArgs none vs) []with|some (r,_)=>if refFree r then some (r,⟨V,l,g,h⟩)else none|none=>none)else none|none=>none:=rfl
@[simp] theorem opv_pcallxo(k:Nat)(args:List PX)(i:Nat):opv cf (.pcallx k args (some i)) ⟨V,l,g,h⟩=match(match args[i]? with|some x=>tk ⟨V,l,g,h⟩ x|none=>none),rdAll ⟨V,l,g,h⟩ args with|some (v,st1),some vs=>if refFrees (vs.set i v)/\i<vs.length then(match cf k (ownArgs (some i) (vs.set i v)) []with|some (r,_)=>if refFree r then some (r,st1)else none|none=>none)else none|_,_=>none:=by simp only[opv];cases args[i]?<;>rfl
@[simp] theorem entry_none(l:List PV):entry none l=l.map dem:=rfl
@[simp] theorem entry_some(i:Nat)(l:List PV):entry (some i) l=(l.map dem).set i (l.getD i .dead):=rfl
@[simp] theorem closed_mk:closed ⟨V,l,g,h⟩=⟨V,[],g,h⟩:=rfl
@[simp] theorem execReg_mk(a:List PO):execReg cf a ⟨V,l,g,h⟩=if isAny a then execA cf a ⟨V,l,g,h⟩else execOps cf a ⟨V,l,g,h⟩:=rfl
attribute [simp]isAny
@[simp] theorem evL_region_mk(a:List PO):evL L (.region a) ⟨V,l,g,h⟩=match execReg (callL L) a ⟨V,l,g,h⟩with|some st=>some (.normal,closed st)|none=>none:=by rw[evL_region];cases execReg (callL L) a ⟨V,l,g,h⟩<;>rfl
@[simp] theorem evL_branch_mk(c:List PO)(x:PX)(a b:PC):evL L (.branch c x a b) ⟨V,l,g,h⟩=match execReg (callL L) c ⟨V,l,g,h⟩with|some st=>(match rd st x with|some (.bool t)=>if t then evL L a (closed st)else evL L b (closed st)|_=>none)|none=>none:=by rw[evL_branch];cases execReg (callL L) c ⟨V,l,g,h⟩with|none=>rfl|some st=>simp only[Option.bind_some];cases rd st x with|none=>rfl|some v=>(cases v<;>try rfl);rename_i t;cases t<;>rfl
@[simp] theorem brun_nil(ob:OutF)(j:Nat)(st:St):brun cf ob j [] st=some (none,st):=rfl
noncomputable def brest(cf:CallF)(ob:OutF)(j:Nat)(os:List PO):Option (Option PV×St)->Option (Option PV×St)|some (none,a)=>brun cf ob j os a|r=>r
@[simp] theorem brest_val(ob:OutF)(j:Nat)(os:List PO)(st:St):brest cf ob j os (some (none,st))=brun cf ob j os st:=rfl
@[simp] theorem brest_boom(ob:OutF)(j:Nat)(os:List PO)(v:PV)(st:St):brest cf ob j os (some (some v,st))=some (some v,st):=rfl
@[simp] theorem brest_none(ob:OutF)(j:Nat)(os:List PO):brest cf ob j os none=none:=rfl
theorem brun_cons(ob:OutF)(j:Nat)(o:PO)(os:List PO)(st:St):brun cf ob j (o::os) st=brest cf ob (j+1) os (bstep cf ob j o st):=by simp only[brun];rcases bstep cf ob j o st with _|⟨_|v,a⟩<;>rfl
def bput(j:Nat)(d:PD):Option (Out×List PObj)->St->Option (Option PV×St)|some (.val r,b),a=>some (none,put {a with heap:=b} j d (dem r))|some (.boom v,b),a=>some (some v,{a with heap:=b})|none,_=>none
@[simp] theorem bput_val(j:Nat)(d:PD)(r:PV)(a:List PObj):bput j d (some (.val r,a)) ⟨V,l,g,h⟩=some (none,put ⟨V,l,g,a⟩ j d (dem r)):=rfl
@[simp] theorem bput_boom(j:Nat)(d:PD)(v:PV)(a:List PObj):bput j d (some (.boom v,a)) ⟨V,l,g,h⟩=some (some v,⟨V,l,g,a⟩):=rfl
@[simp] theorem bput_none(j:Nat)(d:PD)(st:St):bput j d none st=none:=rfl
theorem bstep_bcall(ob:OutF)(j k:Nat)(d:PD)(args:List PX):bstep cf ob j ⟨d,.h (.bcall k args),none⟩ ⟨V,l,g,h⟩=match rdAll ⟨V,l,g,h⟩ args with|some vs=>bput j d (ob k vs h) ⟨V,l,g,h⟩|none=>none:=by simp only[bstep];cases rdAll ⟨V,l,g,h⟩ args with|none=>rfl|some vs=>simp only;rcases ob k vs h with _|⟨_|v,a⟩<;>rfl
theorem bstep_bcallv(ob:OutF)(j:Nat)(x:PX)(d:PD)(args:List PX):bstep cf ob j ⟨d,.h (.bcallv x args),none⟩ ⟨V,l,g,h⟩=match rd ⟨V,l,g,h⟩ x,rdAll ⟨V,l,g,h⟩ args with|some (.func k b a),some vs=>bput j d (ob k (b++vs++a) h) ⟨V,l,g,h⟩|_,_=>none:=by simp only[bstep];cases rd ⟨V,l,g,h⟩ x with|none=>rfl|some f=>cases rdAll ⟨V,l,g,h⟩ args with|none=>cases f<;>rfl|some vs=>(cases f<;>try rfl);rename_i k b a;simp only;rcases ob k (b++vs++a) h with _|⟨_|v,c⟩<;>rfl
def bsome:Option St->Option (Option PV×St)|some a=>some (none,a)|none=>none
@[simp] theorem bsome_some(st:St):bsome (some st)=some (none,st):=rfl
@[simp] theorem bsome_none:bsome none=none:=rfl
def isBop:POp->Bool|.h (.bcall ..)|.h (.bcallv ..)=>true|_=>false
theorem bstep_step(ob:OutF)(j:Nat)(d:PD)(op:POp)(a:Option (PX×Bool))(st:St)(c:isBop op=false):bstep cf ob j ⟨d,op,a⟩ st=bsome (step1 cf j ⟨d,op,a⟩ st):=by(have b:bstep cf ob j ⟨d,op,a⟩ st=(step1 cf j ⟨d,op,a⟩ st).map λst=>(none,st):=by cases op with|h o=>(cases o<;>first|rfl|simp[isBop]at c)|_=>rfl);rw[b];cases step1 cf j ⟨d,op,a⟩ st<;>rfl
@[simp] theorem isBop_mov(x:PX):isBop (.mov x)=false:=id rfl
@[simp] theorem isBop_movs(x:PX):isBop (.movs x)=false:=id rfl
@[simp] theorem isBop_take(x:PX):isBop (.take x)=false:=id rfl
@[simp] theorem isBop_pick(c a b:PX):isBop (.pick c a b)=false:=id rfl
@[simp] theorem isBop_newloc(a:List PV):isBop (.newloc a)=false:=id rfl
@[simp] theorem isBop_boxloc(size:Nat)(x:PX):isBop (.boxloc size x)=false:=id rfl
@[simp] theorem isBop_build(b:List PV)(a:List (Nat×Nat×PX)):isBop (.build b a)=false:=id rfl
@[simp] theorem isBop_mkslice(size:Nat)(b:PV)(len:Nat)(a:List (Nat×PX)):isBop (.mkslice size b len a)=false:=id rfl
@[simp] theorem isBop_load(size:Nat)(agg:Bool)(a:PX)(take:Bool):isBop (.load size agg a take)=false:=id rfl
@[simp] theorem isBop_store(size:Nat)(agg:Bool)(a x:PX):isBop (.store size agg a x)=false:=id rfl
@[simp] theorem isBop_faddr(off:Nat)(x:PX):isBop (.faddr off x)=false:=id rfl
@[simp] theorem isBop_iaddrS(size:Nat)(x i:PX):isBop (.iaddrS size x i)=false:=id rfl
@[simp] theorem isBop_iaddrA(len size:Nat)(x i:PX):isBop (.iaddrA len size x i)=false:=id rfl
@[simp] theorem isBop_field(off size:Nat)(agg:Bool)(x:PX):isBop (.field off size agg x)=false:=id rfl
@[simp] theorem isBop_indexStr(x i:PX):isBop (.indexStr x i)=false:=id rfl
@[simp] theorem isBop_slice(str:Bool)(size:Nat)(x:PX)(b a:Option PX):isBop (.slice str size x b a)=false:=id rfl
@[simp] theorem isBop_sliceLoc(n:Nat)(x:PX):isBop (.sliceLoc n x)=false:=id rfl
@[simp] theorem isBop_bin(op:BinOp)(x y:PX):isBop (.bin op x y)=false:=id rfl
@[simp] theorem isBop_eq(a agg:Bool)(b:List EK)(x y:PX):isBop (.eq a agg b x y)=false:=id rfl
@[simp] theorem isBop_un(op:UnOp)(x:PX):isBop (.un op x)=false:=id rfl
@[simp] theorem isBop_ifc(b:Bool)(t:Nat)(x:PX):isBop (.ifc b t x)=false:=id rfl
@[simp] theorem isBop_h_icall(t:List (Nat×Nat×Option (Nat×Bool)))(x:PX)(args:List PX):isBop (.h (.icall t x args))=false:=id rfl
@[simp] theorem isBop_convInt(k:IntKind)(x:PX):isBop (.convInt k x)=false:=id rfl
@[simp] theorem isBop_extract(i:Nat)(x:PX):isBop (.extract i x)=false:=id rfl
@[simp] theorem isBop_len(str:Bool)(x:PX):isBop (.len str x)=false:=id rfl
@[simp] theorem isBop_minmax(max:Bool)(xs:List PX):isBop (.minmax max xs)=false:=id rfl
@[simp] theorem isBop_append(size bytes:Nat)(s x:PX):isBop (.append size bytes s x)=false:=id rfl
@[simp] theorem isBop_appstr(s x:PX):isBop (.appstr s x)=false:=id rfl
@[simp] theorem isBop_b2s(x:PX):isBop (.b2s x)=false:=id rfl
@[simp] theorem isBop_s2b(x:PX):isBop (.s2b x)=false:=id rfl
@[simp] theorem isBop_pcallx(k:Nat)(args:List PX)(o:Option Nat):isBop (.pcallx k args o)=false:=id rfl
@[simp] theorem isBop_loadv(s n:Nat)(agg:Bool)(a:PX):isBop (.loadv s n agg a)=false:=id rfl
@[simp] theorem isBop_pcall(k:Nat)(args:List PX):isBop (.pcall k args)=false:=id rfl
@[simp] theorem isBop_callv(x:PX)(args:List PX):isBop (.callv x args)=false:=id rfl
@[simp] theorem isBop_h_newobj(a:List PV):isBop (.h (.newobj a))=false:=id rfl
@[simp] theorem isBop_h_boxobj(size:Nat)(x:PX):isBop (.h (.boxobj size x))=false:=id rfl
@[simp] theorem isBop_h_load(size:Nat)(agg:Bool)(a:PX)(take:Bool):isBop (.h (.load size agg a take))=false:=id rfl
@[simp] theorem isBop_h_storer(size:Nat)(agg:Bool)(a x:PX):isBop (.h (.storer size agg a x))=false:=id rfl
@[simp] theorem isBop_h_store(size:Nat)(agg:Bool)(a x:PX):isBop (.h (.store size agg a x))=false:=id rfl
@[simp] theorem isBop_h_iaddr(len size:Nat)(x i:PX):isBop (.h (.iaddr len size x i))=false:=id rfl
@[simp] theorem isBop_h_mkmap:isBop (.h (.mkmap))=false:=id rfl
@[simp] theorem isBop_h_lookup(d take a:Bool)(c:List EK)(b:PV)(m x:PX):isBop (.h (.lookup d take a c b m x))=false:=id rfl
@[simp] theorem isBop_h_mdel(a:Bool)(b:List EK)(m k:PX):isBop (.h (.mdel a b m k))=false:=id rfl
@[simp] theorem isBop_h_mset(a:Bool)(b:List EK)(m k v:PX):isBop (.h (.mset a b m k v))=false:=id rfl
@[simp] theorem isBop_h_mlen(m:PX):isBop (.h (.mlen m))=false:=id rfl
@[simp] theorem isBop_h_mkfunc(k:Nat)(b a:List PX):isBop (.h (.mkfunc k b a))=false:=id rfl
@[simp] theorem isBop_h_isnil(a:Nat)(b:Bool)(x:PX):isBop (.h (.isnil a b x))=false:=id rfl
@[simp] theorem isBop_h_nilchk(x:PX):isBop (.h (.nilchk x))=false:=id rfl
@[simp] theorem isBop_h_loadc(size:Nat)(agg:Bool)(a:PX):isBop (.h (.loadc size agg a))=false:=id rfl
@[simp] theorem isBop_h_barr(b:List PV)(a:List (Nat×Nat×PX)):isBop (.h (.barr b a))=false:=id rfl
@[simp] theorem isBop_h_idxA(len size:Nat)(agg:Bool)(x i:PX):isBop (.h (.idxA len size agg x i))=false:=id rfl
@[simp] theorem isBop_h_rcall(k:Nat)(args:List PX):isBop (.h (.rcall k args))=false:=id rfl
@[simp] theorem isBop_h_zcall(k:Nat)(args:List PX):isBop (.h (.zcall k args))=false:=id rfl
@[simp] theorem isBop_h_lcall(k:Nat)(args:List PX):isBop (.h (.lcall k args))=false:=id rfl
@[simp] theorem isBop_h_call(k:Nat)(args:List PX):isBop (.h (.call k args))=false:=id rfl
@[simp] theorem isBop_h_callv(x:PX)(args:List PX):isBop (.h (.callv x args))=false:=id rfl
@[simp] theorem isBop_h_newbld:isBop (.h (.newbld))=false:=id rfl
@[simp] theorem isBop_h_happ(size:Nat)(agg:Bool)(bytes:Nat)(s x:PX):isBop (.h (.happ size agg bytes s x))=false:=id rfl
@[simp] theorem isBop_h_mkfresh(size:Nat)(agg:Bool)(b:Nat)(z:List PV)(x:PX):isBop (.h (.mkfresh size agg b z x))=false:=id rfl
@[simp] theorem isBop_h_buildA(a:List Nat)(z:List PV)(ps:List (Nat×Nat×PX)):isBop (.h (.buildA a z ps))=false:=id rfl
@[simp] theorem isBop_h_loadn(a:PX):isBop (.h (.loadn a))=false:=id rfl
@[simp] theorem isBop_pzcall(k:Nat)(args:List PX):isBop (.pzcall k args)=false:=id rfl
@[simp] theorem isBop_h_mkrow(size:Nat)(agg:Bool)(z:PV)(len:Nat)(ps:List (Nat×PX)):isBop (.h (.mkrow size agg z len ps))=false:=id rfl
@[simp] theorem isBop_h_mkarr(size:Nat)(agg:Bool)(bytes:Nat)(a:List PV)(x:PX):isBop (.h (.mkarr size agg bytes a x))=false:=id rfl
@[simp] theorem isBop_h_range(x:PX):isBop (.h (.range x))=false:=id rfl
@[simp] theorem isBop_h_next(x:PX):isBop (.h (.next x))=false:=id rfl
@[simp] theorem brun_op(ob:OutF)(j:Nat)(d:PD)(op:POp)(os:List PO)(a:isBop op=false):brun cf ob j (⟨d,op,none⟩::os) ⟨V,l,g,h⟩=match opv cf op ⟨V,l,g,h⟩with|some (v,st)=>brun cf ob (j+1) os (put st j d v)|none=>none:=by rw[brun_cons,bstep_step ob j d op none _ a];simp only[step1];cases opv cf op ⟨V,l,g,h⟩<;>rfl
@[simp] theorem brun_opG(ob:OutF)(j:Nat)(d:PD)(op:POp)(x:PX)(a:Bool)(os:List PO)(e:isBop op=false):brun cf ob j (⟨d,op,some (x,a)⟩::os) ⟨V,l,g,h⟩=match rd ⟨V,l,g,h⟩ x with|some (.bool b)=>if b=a then(match opv cf op ⟨V,l,g,h⟩with|some (v,st)=>brun cf ob (j+1) os (put st j d v)|none=>none)else brun cf ob (j+1) os (put ⟨V,l,g,h⟩ j d (.tuple []))|some (.tuple [])=>brun cf ob (j+1) os (put ⟨V,l,g,h⟩ j d (.tuple []))|_=>none:=by rw[brun_cons,bstep_step ob j d op _ _ e];simp only[step1];cases rd ⟨V,l,g,h⟩ x with|none=>rfl|some v=>cases v with|bool b=>simp only;by_cases hw:b=a;{simp only[hw,if_true];cases opv cf op ⟨V,l,g,h⟩<;>rfl};simp only[hw,if_false];rfl|tuple c=>cases c<;>rfl|_=>rfl
@[simp] theorem brun_bcall(ob:OutF)(j k:Nat)(d:PD)(args:List PX)(os:List PO):brun cf ob j (⟨d,.h (.bcall k args),none⟩::os) ⟨V,l,g,h⟩=match rdAll ⟨V,l,g,h⟩ args with|some vs=>brest cf ob (j+1) os (bput j d (ob k vs h) ⟨V,l,g,h⟩)|none=>none:=by rw[brun_cons,bstep_bcall];cases rdAll ⟨V,l,g,h⟩ args<;>rfl
@[simp] theorem brun_bcallv(ob:OutF)(j:Nat)(x:PX)(d:PD)(args:List PX)(os:List PO):brun cf ob j (⟨d,.h (.bcallv x args),none⟩::os) ⟨V,l,g,h⟩=match rd ⟨V,l,g,h⟩ x,rdAll ⟨V,l,g,h⟩ args with|some (.func k b a),some vs=>brest cf ob (j+1) os (bput j d (ob k (b++vs++a) h) ⟨V,l,g,h⟩)|_,_=>none:=by rw[brun_cons,bstep_bcallv];cases rd ⟨V,l,g,h⟩ x with|none=>rfl|some f=>cases rdAll ⟨V,l,g,h⟩ args with|none=>cases f<;>rfl|some vs=>cases f<;>rfl
@[simp] theorem evL_bregion_mk(a:List PO):evL L (.bregion a) ⟨V,l,g,h⟩=match brun (callL L) (outL L) 0 a ⟨V,List.replicate a.length .dead,g,h⟩with|some (none,st)=>some (.normal,closed st)|some (some v,st)=>some (.boom v,closed st)|none=>none:=by rw[evL_bregion];rfl
@[simp] theorem evL_bbranch_mk(c:List PO)(x:PX)(a b:PC):evL L (.bbranch c x a b) ⟨V,l,g,h⟩=match brun (callL L) (outL L) 0 c ⟨V,List.replicate c.length .dead,g,h⟩with|some (none,st)=>(match rd st x with|some (.bool t)=>evL L (if t then a else b) (closed st)|_=>none)|some (some v,st)=>some (.boom v,closed st)|none=>none:=by rw[evL_bbranch];rfl
@[simp] theorem resultsOf_nil(st:St):resultsOf st []=some []:=rfl
@[simp] theorem resultsOf_cons(r:PRes)(rs:List PRes):resultsOf ⟨V,l,g,h⟩ (r::rs)=match resultOf ⟨V,l,g,h⟩ r with|some v=>(match resultsOf ⟨V,l,g,h⟩ rs with|some vs=>some (v::vs)|none=>none)|none=>none:=by simp only[resultsOf];cases resultOf ⟨V,l,g,h⟩ r<;>simp;cases resultsOf ⟨V,l,g,h⟩ rs<;>rfl
def res1:List PV->PV|[v]=>v|a=>.tuple (a.map dem)
@[simp] theorem res1_one(v:PV):res1 [v]=v:=rfl
@[simp] theorem res1_two(v u:PV)(r:List PV):res1 (v::u::r)=.tuple ((v::u::r).map dem):=rfl
@[simp] theorem res1_nil:res1 []=.tuple []:=rfl
@[simp] theorem resultV_mk(rs:List PRes):resultV ⟨V,l,g,h⟩ rs=match resultsOf ⟨V,l,g,h⟩ rs with|some vs=>some (res1 vs)|none=>none:=by simp only[resultV];cases resultsOf ⟨V,l,g,h⟩ rs<;>rfl
def ending(rs:List PRes):Option (PExit×St)->Option (PV×List PObj)|some (.normal,a)=>(match resultV a rs with|some v=>some (v,shutRes a.vars rs a.heap)|none=>none)|some (.ret,a)=>(match resultV a rs with|some v=>some (v,shutRes a.vars rs a.heap)|none=>none)|_=>none
attribute [simp]ending
theorem runOut_ending{f:PFunc}{args:List PV}{hp:List PObj}{r:PV×List PObj}(hr:f.code.isRound=false)(b:ending f.results (evL L f.code ⟨args.map dem++List.replicate (f.nv-f.params) .dead,[],0,hp⟩)=some r):runOut (evL L) (dfrOf L) f args hp=some (.val r.1,r.2):=by(have c:∀a,(match resultV a f.results with|some v=>some (v,shutRes a.vars f.results a.heap)|none=>none)=some r->(resultV a f.results).map (λr=>(Out.val r,shutRes a.vars f.results a.heap))=some (Out.val r.1,r.2):=by intro a h;cases hv:resultV a f.results with|none=>rw[hv]at h;simp at h|some v=>rw[hv]at h;simp only[Option.some.injEq]at h;subst h;rfl);unfold runOut;split;{rename_i d;rw[d]at hr;simp[PC.isRound]at hr};generalize evL L f.code ⟨args.map dem++List.replicate (f.nv-f.params) .dead,[],0,hp⟩=q at b⊢;rcases q with _|⟨e,a⟩;{simp at b};cases e<;>simp only[ending]at b⊢;{exact c a b};{simp at b};{exact c a b};{simp at b};simp at b
theorem runFn_ending{f:PFunc}{args:List PV}{hp:List PObj}{r:PV×List PObj}(hr:f.code.isRound=false)(a:ending f.results (evL L f.code ⟨args.map dem++List.replicate (f.nv-f.params) .dead,[],0,hp⟩)=some r):runFn (evL L) (dfrOf L) f args hp=some r:=by unfold runFn;rw[if_neg (by rw[hr];simp),valOf_some];exact runOut_ending hr a
theorem callL_run{k:Nat}{f:PFunc}{args:List PV}{hp:List PObj}{r}(hf:L k=some f)(b:args.length=f.params)(c:ending f.results (evL L f.code ⟨args.map dem++List.replicate (f.nv-f.params) .dead,[],0,hp⟩)=some r)(hs:f.split=false:=by rfl)(a:f.prim=none:=by rfl)(hr:f.code.isRound=false:=by rfl):callL L k args hp=some r:=by rw[callL_eq,callWith,hf];simp only[if_pos b,hs,a,Bool.false_and,Bool.false_eq_true,if_false];exact runFn_ending hr c
theorem callL_prim{k:Nat}{f:PFunc}{p:List PV->List PObj->Option (PV×List PObj)}{args:List PV}{hp:List PObj}(hf:L k=some f)(b:args.length=f.params)(a:f.prim=some p):callL L k args hp=match p (args.map dem) hp with|some r=>some (dem r.1,r.2)|none=>none:=by rw[callL_eq,callWith,hf];simp only[if_pos b,a];cases p (args.map dem) hp<;>rfl
theorem callL_split{k:Nat}{f:PFunc}{args:List PV}{hp:List PObj}{r}(hf:L k=some f)(d:args.length=f.params)(hs:f.split=true)(e:vague (args.headD .dead)=false->ending f.results (evL L f.code ⟨args.map dem++List.replicate (f.nv-f.params) .dead,[],0,hp⟩)=some r)(g:vague (args.headD .dead)=true->ending f.results (evL L f.code ⟨(.nils::args.tail).map dem++List.replicate (f.nv-f.params) .dead,[],0,hp⟩)=some r/\ending f.results (evL L f.code ⟨(.void::args.tail).map dem++List.replicate (f.nv-f.params) .dead,[],0,hp⟩)=some r)(c:f.prim=none:=by rfl)(hr:f.code.isRound=false:=by rfl):callL L k args hp=some r:=by rw[callL_eq,callWith,hf];simp only[if_pos d,c];cases hv:vague (args.headD .dead)with|false=>simp only[Bool.and_false,Bool.false_eq_true,if_false];exact runFn_ending hr (e hv)|true=>obtain⟨a,b⟩:=g hv;simp only[hs,Bool.and_self,if_true];rw[agree_some];exact⟨runFn_ending hr a,runFn_ending hr b⟩
@[simp] theorem hget_mk(n:Nat):hget ⟨V,l,g,h⟩ n=match h[n]? with|some (.cells cs)=>some cs|_=>none:=rfl
@[simp] theorem mget_none:mget ⟨V,l,g,h⟩ none=some []:=rfl
@[simp] theorem mget_some(n:Nat):mget ⟨V,l,g,h⟩ (some n)=match h[n]? with|some (.map es)=>some es|_=>none:=rfl
@[simp] theorem hset_mk(n:Nat)(o:PObj):hset ⟨V,l,g,h⟩ n o=⟨V,l,g,h.set n o⟩:=rfl
@[simp] theorem capt_v(i:Nat):capt ⟨V,l,g,h⟩ (.v i)=match V[i]? with|some (.loc _ cs)=>some (.cptr (cs.map dem),⟨V.set i (.cptr (cs.map dem)),l,g,h⟩)|some v=>sv (cp v) ⟨V,l,g,h⟩|none=>none:=by simp only[capt,raw,rd];cases V[i]? with|none=>rfl|some v=>cases v<;>rfl
@[simp] theorem capt_c(p:PV):capt ⟨V,l,g,h⟩ (.c p)=sv (cp p) ⟨V,l,g,h⟩:=by simp only[capt,rd,raw,Option.bind_some,map_sv]
@[simp] theorem capt_l(i:Nat):capt ⟨V,l,g,h⟩ (.l i)=sv (rd ⟨V,l,g,h⟩ (.l i)) ⟨V,l,g,h⟩:=by simp only[capt,map_sv]
@[simp] theorem capts_nil(st:St):capts st []=some ([],st):=rfl
@[simp] theorem capts_cons(x:PX)(xs:List PX):capts ⟨V,l,g,h⟩ (x::xs)=match capt ⟨V,l,g,h⟩ x with|some (v,st)=>(match capts st xs with|some (vs,st)=>some (v::vs,st)|none=>none)|none=>none:=by simp only[capts];cases capt ⟨V,l,g,h⟩ x with|none=>rfl|some r=>simp only[Option.bind_some];cases capts r.2 xs<;>rfl
@[simp] theorem opv_newobj(z:List PV):opv cf (.h (.newobj z)) ⟨V,l,g,h⟩=some (.ptr h.length 0,⟨V,l,g,h++[.cells z]⟩):=rfl
@[simp] theorem opv_boxobj(s:Nat)(x:PX):opv cf (.h (.boxobj s x)) ⟨V,l,g,h⟩=match rd ⟨V,l,g,h⟩ x with|some v=>if v.cells.length=s then some (.ptr h.length 0,⟨V,l,g,h++[.cells v.cells]⟩)else none|none=>none:=rfl
@[simp] theorem opv_newbld:opv cf (.h .newbld) ⟨V,l,g,h⟩=some (.ptr h.length 0,⟨V,l,g,h++[.bld []]⟩):=rfl
def elsIn(h:List PObj):PV->Option (List PV)|.rowp n sz agg len=>if agg=true\/sz=1 then(match h[n]? with|some (.cells a)=>rowEls sz agg a len 0|_=>none)else none|p=>asRow p
@[simp] theorem elsIn_list(o:Bool)(es:List PV):elsIn h (.list o es)=some es:=rfl
@[simp] theorem elsIn_nils:elsIn h .nils=some []:=rfl
@[simp] theorem elsIn_void:elsIn h .void=some []:=rfl
theorem elsOf_mk(x:PX):elsOf ⟨V,l,g,h⟩ x=match rd ⟨V,l,g,h⟩ x with|some v=>elsIn h v|none=>none:=by unfold elsOf;cases rd ⟨V,l,g,h⟩ x with|none=>rfl|some v=>(cases v<;>try rfl);rename_i n sz agg len;simp only[elsIn];split;{simp only[hget];cases h[n]? with|none=>rfl|some o=>cases o<;>rfl};rfl
def happv(h:List PObj)(size:Nat)(agg:Bool)(bytes:Nat)(xs:List PV)(v:PV)(st:St):Option (PV×St):=match v with|.rowp n sz b len=>(match h[n]? with|some (.cells a)=>if sz=size/\b=agg/\len*size<=a.length/\headOk size xs/\len+xs.length<=2147483648/\bytes<=16384 then some (.rowp h.length size agg (len+xs.length),{st with heap:=h.set n .gone++[.cells (a.take (len*size)++(xs.flatMap PV.cells).map dem)]})else none|_=>none)|.list true []=>if xs=[]then some (.list true [],st)else if headOk size xs/\xs.length<=2147483648/\bytes<=16384 then some (.rowp h.length size agg xs.length,{st with heap:=h++[.cells ((xs.flatMap PV.cells).map dem)]})else none|.nils=>if xs=[]then some (.nils,st)else if headOk size xs/\xs.length<=2147483648/\bytes<=16384 then some (.rowp h.length size agg xs.length,{st with heap:=h++[.cells ((xs.flatMap PV.cells).map dem)]})else none|_=>none
@[simp] theorem bind_asRow(v:PV):(some v).bind asRow=asRow v:=rfl
@[simp] theorem asRow_list(o:Bool)(es:List PV):asRow (.list o es)=some es:=rfl
@[simp] theorem opv_happ(s:Nat)(agg:Bool)(b:Nat)(a x:PX):opv cf (.h (.happ s agg b a x)) ⟨V,l,g,h⟩=match(match rd ⟨V,l,g,h⟩ x with|some v=>elsIn h v|none=>none),raw ⟨V,l,g,h⟩ a with|some xs,some v=>happv h s agg b xs v ⟨V,l,g,h⟩|_,_=>none:=by simp only[opv,hopv,elsOf_mk];cases(match rd ⟨V,l,g,h⟩ x with|some v=>elsIn h v|none=>none)with|none=>rfl|some xs=>cases raw ⟨V,l,g,h⟩ a with|none=>rfl|some v=>(cases v<;>try rfl);rename_i o c;(cases o<;>try rfl);cases c<;>rfl
@[simp] theorem opv_happz(s:Nat)(agg:Bool)(b:Nat)(z:List PV)(a x:PX):opv cf (.h (.happz s agg b z a x)) ⟨V,l,g,h⟩=match rdInt ⟨V,l,g,h⟩ x,rd ⟨V,l,g,h⟩ a with|some n,some .nils=>if 0<n/\n<=2147483648/\b<=16384 then some (.rowp h.length s agg n.toNat,⟨V,l,g,h++[.cells (List.replicate n.toNat (z.map dem)).flatten]⟩)else none|_,_=>none:=rfl
@[simp] theorem tailOf_rows(n sz:Nat)(a:Bool)(off len:Nat):tailOf (.rows n sz a off len)=some (n,sz,off):=rfl
@[simp] theorem tailOf_rowp(n sz:Nat)(a:Bool)(len:Nat):tailOf (.rowp n sz a len)=some (n,sz,0):=rfl
@[simp] theorem opv_clear(s:Nat)(x:PX):opv cf (.h (.clear s x)) ⟨V,l,g,h⟩=match(match rd ⟨V,l,g,h⟩ x with|some v=>tailOf v|none=>none)with|some (n,sz,off)=>(match h[n]? with|some (.cells cs)=>if sz=s/\off*s<=cs.length then some (.dead,⟨V,l,g,h.set n (.cells (cs.take (off*s)))⟩)else none|_=>none)|_=>none:=by simp only[opv,hopv];cases rd ⟨V,l,g,h⟩ x with|none=>rfl|some v=>rfl
@[simp] theorem opv_mkfresh(s:Nat)(agg:Bool)(b:Nat)(z:List PV)(x:PX):opv cf (.h (.mkfresh s agg b z x)) ⟨V,l,g,h⟩=match rdInt ⟨V,l,g,h⟩ x with|some n=>if 0<=n/\b*n<=281474976710656/\n<=9223372036854775807 then some (.fresh s agg n.toNat (List.replicate n.toNat (z.map dem)).flatten,⟨V,l,g,h⟩)else none|none=>none:=rfl
@[simp] theorem opv_buildA(a:List Nat)(z:List PV)(ps:List (Nat×Nat×PX)):opv cf (.h (.buildA a z ps)) ⟨V,l,g,h⟩=(adoptAll a ⟨V,l,g,h⟩).bind λst=>((rdParts st ps).bind (setParts z)).map λcs=>(.agg cs,st):=rfl
@[simp] theorem opv_loadn(a:PX):opv cf (.h (.loadn a)) ⟨V,l,g,h⟩=match addr ⟨V,l,g,h⟩ a with|some (.ptr n off)=>((hget ⟨V,l,g,h⟩ n).bind fun cs=>match cs[off]? with|some (.list true es)=>some (.list true es,hset ⟨V,l,g,h⟩ n (.cells (cs.set off (.list false es))))|some .nils=>some (.list true [],⟨V,l,g,h⟩)|_=>none)|_=>none:=rfl
@[simp] theorem opv_mkrow(s:Nat)(agg:Bool)(z:PV)(len:Nat)(ps:List (Nat×PX)):opv cf (.h (.mkrow s agg z len ps)) ⟨V,l,g,h⟩=((rdElems ⟨V,l,g,h⟩ ps).bind (setElems s (List.replicate len z))).map λes=>(.rowp h.length s agg es.length,⟨V,l,g,h++[.cells ((es.flatMap PV.cells).map dem)]⟩):=rfl
@[simp] theorem opv_mkarr(s:Nat)(agg:Bool)(b:Nat)(z:List PV)(x:PX):opv cf (.h (.mkarr s agg b z x)) ⟨V,l,g,h⟩=match rdInt ⟨V,l,g,h⟩ x with|some n=>if 0<=n/\b*n<=281474976710656/\n<=9223372036854775807 then some (.rowp h.length s agg n.toNat,⟨V,l,g,h++[.cells (List.replicate n.toNat z).flatten]⟩)else none|none=>none:=rfl
@[simp] theorem opv_range(x:PX):opv cf (.h (.range x)) ⟨V,l,g,h⟩=match rd ⟨V,l,g,h⟩ x with|some (.str s)=>some (.ptr h.length 0,⟨V,l,g,h++[.siter s 0]⟩)|_=>none:=rfl
@[simp] theorem opv_next(x:PX):opv cf (.h (.next x)) ⟨V,l,g,h⟩=match rd ⟨V,l,g,h⟩ x with|some (.ptr n 0)=>(match h[n]? with|some (.siter s a)=>if a<s.length then some (.tuple [.bool true,.int .i64 a,.int .i32 (Go.Utf8.decode ⟨s.toArray⟩ a).1],⟨V,l,g,h.set n (.siter s (a+(Go.Utf8.decode ⟨s.toArray⟩ a).2))⟩)else some (.tuple [.bool false],⟨V,l,g,h⟩)|_=>none)|_=>none:=rfl
@[simp] theorem opv_mkmap:opv cf (.h .mkmap) ⟨V,l,g,h⟩=some (.map (some h.length),⟨V,l,g,h++[.map []]⟩):=rfl
@[simp] theorem opv_hload(s:Nat)(agg:Bool)(a:PX)(t:Bool):opv cf (.h (.load s agg a t)) ⟨V,l,g,h⟩=match addr ⟨V,l,g,h⟩ a with|some (.cptr cs)=>sv (loadFrom s agg cs 0) ⟨V,l,g,h⟩|some (.ptr n off)=>(match h[n]? with|some (.cells cs)=>(match t&&!agg,cs[off]? with|true,some (.list true es)=>some (.list true es,⟨V,l,g,h.set n (.cells (cs.set off (.list false es)))⟩)|_,_=>sv (loadFrom s agg cs off) ⟨V,l,g,h⟩)|_=>none)|_=>none:=by simp only[opv,hopv,map_sv];cases addr ⟨V,l,g,h⟩ a with|none=>rfl|some p=>(cases p<;>try rfl);simp only[hget_mk];rename_i n off;cases h[n]? with|none=>rfl|some o=>cases o<;>rfl
@[simp] theorem opv_hstorer(s:Nat)(agg:Bool)(a x:PX):opv cf (.h (.storer s agg a x)) ⟨V,l,g,h⟩=match addr ⟨V,l,g,h⟩ a,rd ⟨V,l,g,h⟩ x with|some (.ptr n off),some v=>if isList v then none else(match h[n]? with|some (.cells cs)=>(match storeInto s agg cs off v with|some cs=>some (.dead,⟨V,l,g,h.set n (.cells cs)⟩)|none=>none)|_=>none)|_,_=>none:=by simp only[opv,hopv];cases addr ⟨V,l,g,h⟩ a with|none=>rfl|some p=>(cases p<;>try rfl);rename_i n off;cases rd ⟨V,l,g,h⟩ x with|none=>rfl|some v=>simp only;split;{rfl};simp only[hget];cases h[n]? with|none=>rfl|some b=>(cases b<;>try rfl);rename_i cs;simp only[Option.bind_some];cases storeInto s agg cs off v<;>rfl
@[simp] theorem opv_hstore(s:Nat)(agg:Bool)(a x:PX):opv cf (.h (.store s agg a x)) ⟨V,l,g,h⟩=match addr ⟨V,l,g,h⟩ a,tk ⟨V,l,g,h⟩ x with|some (.ptr n off),some (v,⟨V,l,g,h⟩)=>(match h[n]? with|some (.cells cs)=>(match storeInto s agg cs off v with|some cs=>some (.dead,⟨V,l,g,h.set n (.cells cs)⟩)|none=>none)|_=>none)|_,_=>none:=by simp only[opv,hopv];cases addr ⟨V,l,g,h⟩ a with|none=>rfl|some p=>(cases p<;>try rfl);cases tk ⟨V,l,g,h⟩ x with|none=>rfl|some r=>obtain⟨v,⟨c,l2,b,h2⟩⟩:=r;simp only[hget_mk];rename_i n off;cases h2[n]? with|none=>rfl|some o=>(cases o<;>try rfl);rename_i cs;simp only[Option.bind_some];cases storeInto s agg cs off v<;>rfl
@[simp] theorem opv_hiaddr(a s:Nat)(x i:PX):opv cf (.h (.iaddr a s x i)) ⟨V,l,g,h⟩=match addr ⟨V,l,g,h⟩ x,rdInt ⟨V,l,g,h⟩ i with|some (.ptr n o),some k=>if 0<=k/\k<a then some (.ptr n (o+k.toNat*s),⟨V,l,g,h⟩)else none|_,_=>none:=rfl
def looked(b take:Bool)(a:PV)(n:Option Nat)(es:List (PV×PV))(st:St):Option (Nat×PV)->Option (PV×St)|some (i,v)=>if take&&!b&&isOwn v then some (v,hset st (n.getD 0) (.map (es.modify i λe=>(e.1,dem e.2))))else some (if b then .tuple [dem v,.bool true]else dem v,st)|none=>some (if b then .tuple [a,.bool false]else a,st)
@[simp] theorem looked_none(b take:Bool)(a:PV)(n:Option Nat)(es:List (PV×PV))(st:St):looked b take a n es st none=some (if b then .tuple [a,.bool false]else a,st):=rfl
@[simp] theorem looked_some(b:Bool)(a:PV)(n:Option Nat)(es:List (PV×PV))(st:St)(i:Nat)(v:PV):looked b false a n es st (some (i,v))=some (if b then .tuple [dem v,.bool true]else dem v,st):=by simp[looked]
@[simp] theorem looked_take(a:PV)(n:Nat)(es:List (PV×PV))(i:Nat)(v:PV):looked false true a (some n) es ⟨V,l,g,h⟩ (some (i,v))=if isOwn v then some (v,⟨V,l,g,h.set n (.map (es.modify i λe=>(e.1,dem e.2)))⟩)else some (dem v,⟨V,l,g,h⟩):=by simp[looked]
@[simp] theorem opv_lookup(d take a:Bool)(c:List EK)(b:PV)(m x:PX):opv cf (.h (.lookup d take a c b m x)) ⟨V,l,g,h⟩=match rd ⟨V,l,g,h⟩ m,rd ⟨V,l,g,h⟩ x with|some (.map n),some k=>(match mget ⟨V,l,g,h⟩ n with|some es=>(match mfind a c k es 0 with|some r=>looked d take b n es ⟨V,l,g,h⟩ r|none=>none)|none=>none)|_,_=>none:=by simp only[opv,hopv];cases rd ⟨V,l,g,h⟩ m with|none=>rfl|some p=>(cases p<;>try rfl);rename_i n;cases rd ⟨V,l,g,h⟩ x with|none=>rfl|some k=>simp only;cases mget ⟨V,l,g,h⟩ n with|none=>rfl|some es=>simp only[Option.bind_some];cases mfind a c k es 0 with|none=>rfl|some r=>cases r<;>rfl
@[simp] theorem opv_mlen(m:PX):opv cf (.h (.mlen m)) ⟨V,l,g,h⟩=match rd ⟨V,l,g,h⟩ m with|some (.map n)=>(match mget ⟨V,l,g,h⟩ n with|some es=>some (.int .i64 es.length,⟨V,l,g,h⟩)|none=>none)|_=>none:=by simp only[opv,hopv];cases rd ⟨V,l,g,h⟩ m with|none=>rfl|some p=>(cases p<;>try rfl);rename_i n;simp only;cases mget ⟨V,l,g,h⟩ n<;>rfl
@[simp] theorem opv_mkfunc(k:Nat)(a b:List PX):opv cf (.h (.mkfunc k a b)) ⟨V,l,g,h⟩=match capts ⟨V,l,g,h⟩ a with|some (f,st)=>(match capts st b with|some (c,st)=>some (.func k f c,st)|none=>none)|none=>none:=by simp only[opv,hopv];cases capts ⟨V,l,g,h⟩ a with|none=>rfl|some r=>simp only[Option.bind_some];cases capts r.2 b<;>rfl
@[simp] theorem opv_isnil(c:Nat)(a:Bool)(x:PX):opv cf (.h (.isnil c a x)) ⟨V,l,g,h⟩=match rd ⟨V,l,g,h⟩ x with|some p=>(match nilness c p with|some b=>some (.bool (if a then !b else b),⟨V,l,g,h⟩)|none=>none)|none=>none:=by simp only[opv,hopv];cases rd ⟨V,l,g,h⟩ x with|none=>rfl|some p=>simp only[Option.bind_some];cases nilness c p<;>rfl
@[simp] theorem opv_nilchk(x:PX):opv cf (.h (.nilchk x)) ⟨V,l,g,h⟩=match addr ⟨V,l,g,h⟩ x with|some (.ptr n o)=>some (.ptr n o,⟨V,l,g,h⟩)|some (.cptr cs)=>some (.cptr cs,⟨V,l,g,h⟩)|some (.lptr s g0 o)=>some (.lptr s g0 o,⟨V,l,g,h⟩)|_=>none:=rfl
@[simp] theorem opv_loadc(s:Nat)(agg:Bool)(a:PX):opv cf (.h (.loadc s agg a)) ⟨V,l,g,h⟩=match rd ⟨V,l,g,h⟩ a with|some (.cptr cs)=>sv (loadFrom s agg cs 0) ⟨V,l,g,h⟩|_=>none:=by simp only[opv,hopv,map_sv];rfl
@[simp] theorem opv_barr(z:List PV)(ps:List (Nat×Nat×PX)):opv cf (.h (.barr z ps)) ⟨V,l,g,h⟩=match rdParts ⟨V,l,g,h⟩ ps with|some es=>(match setParts z es with|some cs=>some (.agg cs,⟨V,l,g,h⟩)|none=>none)|none=>none:=by simp only[opv,hopv];cases rdParts ⟨V,l,g,h⟩ ps<;>simp;rename_i es;cases setParts z es<;>rfl
@[simp] theorem opv_idxA(n s:Nat)(agg:Bool)(x i:PX):opv cf (.h (.idxA n s agg x i)) ⟨V,l,g,h⟩=match rd ⟨V,l,g,h⟩ x,rdInt ⟨V,l,g,h⟩ i with|some v,some k=>(match aggCells v with|some cs=>if 0<=k/\k<n then sv (loadFrom s agg cs (k.toNat*s)) ⟨V,l,g,h⟩else none|none=>none)|_,_=>none:=by simp only[opv,hopv,map_sv];cases rd ⟨V,l,g,h⟩ x with|none=>rfl|some v=>cases v<;>(cases rdInt ⟨V,l,g,h⟩ i<;>rfl)
@[simp] theorem opv_hcall(k:Nat)(args:List PX):opv cf (.h (.call k args)) ⟨V,l,g,h⟩=match rdAll ⟨V,l,g,h⟩ args with|some vs=>(match cf k vs h with|some (r,h)=>some (dem r,⟨V,l,g,h⟩)|none=>none)|none=>none:=by simp only[opv,hopv];cases rdAll ⟨V,l,g,h⟩ args with|none=>rfl|some vs=>simp only[Option.bind_some];cases cf k vs h<;>rfl
@[simp] theorem opv_hicall(tab:List (Nat×Nat×Option (Nat×Bool)))(x:PX)(args:List PX):opv cf (.h (.icall tab x args)) ⟨V,l,g,h⟩=match methOf ⟨V,l,g,h⟩ tab (rd ⟨V,l,g,h⟩ x)with|some m=>(match rdAll ⟨V,l,g,h⟩ args with|some vs=>(match cf m.1 (m.2::vs) h with|some (r,h)=>some (dem r,⟨V,l,g,h⟩)|none=>none)|none=>none)|none=>none:=by simp only[opv,hopv];cases methOf ⟨V,l,g,h⟩ tab (rd ⟨V,l,g,h⟩ x)with|none=>rfl|some m=>simp only[Option.bind_some];cases rdAll ⟨V,l,g,h⟩ args with|none=>rfl|some vs=>simp only[Option.bind_some];cases cf m.1 (m.2::vs) h<;>rfl
@[simp] theorem opv_hzcall(k:Nat)(args:List PX):opv cf (.h (.zcall k args)) ⟨V,l,g,h⟩=match rdAll ⟨V,l,g,h⟩ args with|some vs=>if refFrees (frzL h vs)then(match cf k (frzL h vs) []with|some (r,a)=>if refFree (frz a r)then some (dem (frz a r),⟨V,l,g,gones (nosInL vs) h⟩)else none|none=>none)else none|none=>none:=by simp only[opv,hopv];cases rdAll ⟨V,l,g,h⟩ args with|none=>rfl|some vs=>simp only[Option.bind_some];cases cf k (frzL h vs) []<;>rfl
@[simp] theorem opv_hlcall(k:Nat)(args:List PX):opv cf (.h (.lcall k args)) ⟨V,l,g,h⟩=match rdAll ⟨V,l,g,h⟩ args with|some vs=>(match frozAll h vs with|some a=>(if refFrees a then(match cf k a []with|some (r,_)=>(if plainV r then some (dem r,⟨V,l,g,h⟩)else none)|none=>none)else none)|none=>none)|none=>none:=by simp only[opv,hopv,lendTo];cases rdAll ⟨V,l,g,h⟩ args with|none=>rfl|some vs=>simp only[Option.bind_some,lendTo];cases frozAll h vs with|none=>rfl|some a=>simp only[Option.bind_some];cases cf k a []<;>rfl
@[simp] theorem opv_hrcall(k:Nat)(args:List PX):opv cf (.h (.rcall k args)) ⟨V,l,g,h⟩=match rdAll ⟨V,l,g,h⟩ args with|some vs=>(match cf k vs h with|some (r,a)=>same ⟨V,l,g,h⟩ (r,a)|none=>none)|none=>none:=by simp only[opv,hopv];cases rdAll ⟨V,l,g,h⟩ args with|none=>rfl|some vs=>simp only[Option.bind_some];cases cf k vs h<;>rfl
@[simp] theorem same_mk(r:PV):same ⟨V,l,g,h⟩ (r,h)=some (dem r,⟨V,l,g,h⟩):=by simp[same]
@[simp] theorem opv_hcallv(x:PX)(args:List PX):opv cf (.h (.callv x args)) ⟨V,l,g,h⟩=match rd ⟨V,l,g,h⟩ x,rdAll ⟨V,l,g,h⟩ args with|some (.func k f c),some vs=>(match cf k (f++vs++c) h with|some (r,h)=>some (dem r,⟨V,l,g,h⟩)|none=>none)|_,_=>none:=by simp only[opv,hopv];cases rd ⟨V,l,g,h⟩ x with|none=>rfl|some p=>(cases p<;>try rfl);rename_i k f c;cases rdAll ⟨V,l,g,h⟩ args with|none=>rfl|some vs=>simp only;cases cf k (f++vs++c) h<;>rfl
@[simp] theorem opv_callv(x:PX)(args:List PX):opv cf (.callv x args) ⟨V,l,g,h⟩=match rd ⟨V,l,g,h⟩ x,rdAll ⟨V,l,g,h⟩ args with|some (.func k f c),some vs=>if refFrees (f++vs++c)then(match cf k (f++vs++c) []with|some (r,_)=>if refFree r then some (dem r,⟨V,l,g,h⟩)else none|none=>none)else none|_,_=>none:=by simp only[opv];cases rd ⟨V,l,g,h⟩ x with|none=>rfl|some p=>cases p<;>try rfl
attribute [simp]nilness vague
@[simp] theorem opv_slice(str:Bool)(s:Nat)(x:PX)(d c:Option PX):opv cf (.slice str s x d c) ⟨V,l,g,h⟩=match str,rd ⟨V,l,g,h⟩ x with|true,some (.str t)=>(match bound ⟨V,l,g,h⟩ c t.length t.length with|some b=>(match bound ⟨V,l,g,h⟩ d 0 b with|some a=>some (.str ((t.take b).drop a),⟨V,l,g,h⟩)|none=>none)|none=>none)|false,some (.list _ es)=>if headOk s es then(match bound ⟨V,l,g,h⟩ c es.length es.length with|some b=>(match bound ⟨V,l,g,h⟩ d 0 b with|some a=>some (.list false ((es.take b).drop a),⟨V,l,g,h⟩)|none=>none)|none=>none)else none|false,some .nils=>(match bound ⟨V,l,g,h⟩ c 0 0 with|some b=>(match bound ⟨V,l,g,h⟩ d 0 b with|some a=>some (.nils,⟨V,l,g,h⟩)|none=>none)|none=>none)|false,some (.rowp n sz agg len)=>if sz=s then(match bound ⟨V,l,g,h⟩ c len len with|some b=>(match bound ⟨V,l,g,h⟩ d 0 b with|some a=>some (if a=0 then .rowp n sz agg b else .rows n sz agg a (b-a),⟨V,l,g,h⟩)|none=>none)|none=>none)else none|_,_=>none:=by simp only[opv];cases str;{cases rd ⟨V,l,g,h⟩ x with|none=>rfl|some p=>(cases p<;>try rfl);(all_goals simp only);all_goals first|(split;{cases bound ⟨V,l,g,h⟩ c _ _ with|none=>rfl|some b=>simp only[Option.bind_some];cases bound ⟨V,l,g,h⟩ d 0 b<;>rfl};rfl)|(cases bound ⟨V,l,g,h⟩ c _ _ with|none=>rfl|some b=>simp only[Option.bind_some];cases bound ⟨V,l,g,h⟩ d 0 b<;>rfl)};cases rd ⟨V,l,g,h⟩ x with|none=>rfl|some p=>(cases p<;>try rfl);simp only;cases bound ⟨V,l,g,h⟩ c _ _ with|none=>rfl|some b=>simp only[Option.bind_some];cases bound ⟨V,l,g,h⟩ d 0 b<;>rfl
end
def wpL(L:Nat->Option PFunc)(c:PC)(st:St)(Q:PExit->St->Prop):Prop:=match evL L c st with|some (e,a)=>Q e a|none=>False
section
variable {L:Nat->Option PFunc}{V l:List PV}{g:Nat}{h:List PObj}{Q:PExit->St->Prop}
theorem wpL_iff{c:PC}{st:St}:wpL L c st Q↔∃e st',evL L c st=some (e,st')/\Q e st':=by unfold wpL;cases evL L c st with|none=>simp|some r=>obtain⟨e,st'⟩:=r;constructor;{intro h;exact⟨e,st',rfl,h⟩};rintro⟨d,a,b,h2⟩;cases b;exact h2
theorem wpL_mono{c:PC}{st:St}{a:PExit->St->Prop}(b:wpL L c st Q)(d:∀e st',Q e st'->a e st'):wpL L c st a:=by rw[wpL_iff]at*;obtain⟨e,st',f,h2⟩:=b;exact⟨e,st',f,d _ _ h2⟩
@[simp] theorem wpL_skip:wpL L .skip ⟨V,l,g,h⟩ Q=Q .normal ⟨V,l,g,h⟩:=by simp only[wpL,evL_skip]
@[simp] theorem wpL_exit(id:Nat):wpL L (.exit id) ⟨V,l,g,h⟩ Q=Q (.exit id) ⟨V,l,g,h⟩:=by simp only[wpL,evL_exit]
@[simp] theorem wpL_ret:wpL L .ret ⟨V,l,g,h⟩ Q=Q .ret ⟨V,l,g,h⟩:=by simp only[wpL,evL_ret]
def thenR(r:Option St)(K:St->Prop):Prop:=match r with|some a=>K (closed a)|none=>False
@[simp] theorem thenR_some(V l:List PV)(g:Nat)(h:List PObj)(K:St->Prop):thenR (some ⟨V,l,g,h⟩) K=K ⟨V,[],g,h⟩:=rfl
@[simp] theorem thenR_none(K:St->Prop):thenR none K=False:=rfl
@[simp] theorem wpL_region(a:List PO):wpL L (.region a) ⟨V,l,g,h⟩ Q=thenR (execReg (callL L) a ⟨V,l,g,h⟩) (Q .normal):=by simp only[wpL,evL_region_mk];cases execReg (callL L) a ⟨V,l,g,h⟩<;>rfl
def thenB(L:Nat->Option PFunc)(r:Option St)(x:PX)(a b:PC)(Q:PExit->St->Prop):Prop:=match r with|some c=>(match rd c x with|some (.bool t)=>if t=true then wpL L a (closed c) Q else wpL L b (closed c) Q|_=>False)|none=>False
@[simp] theorem thenB_some(x:PX)(a b:PC):thenB L (some ⟨V,l,g,h⟩) x a b Q=match rd ⟨V,l,g,h⟩ x with|some (.bool t)=>if t=true then wpL L a ⟨V,[],g,h⟩ Q else wpL L b ⟨V,[],g,h⟩ Q|_=>False:=rfl
@[simp] theorem thenB_none(x:PX)(a b:PC):thenB L none x a b Q=False:=rfl
@[simp] theorem wpL_branch(c:List PO)(x:PX)(a b:PC):wpL L (.branch c x a b) ⟨V,l,g,h⟩ Q=thenB L (execReg (callL L) c ⟨V,l,g,h⟩) x a b Q:=by simp only[wpL,evL_branch_mk,thenB];cases execReg (callL L) c ⟨V,l,g,h⟩with|none=>rfl|some d=>simp only;cases rd d x with|none=>rfl|some v=>(cases v<;>try rfl);rename_i t;cases t<;>rfl
def seqK(L:Nat->Option PFunc)(b:PC)(Q:PExit->St->Prop):PExit->St->Prop|.normal,a=>wpL L b a Q|.after _ _ _,_=>False|e,a=>Q e a
@[simp] theorem seqK_normal(b:PC)(st:St):seqK L b Q .normal st=wpL L b st Q:=rfl
@[simp] theorem seqK_exit(b:PC)(i:Nat)(st:St):seqK L b Q (.exit i) st=Q (.exit i) st:=rfl
@[simp] theorem seqK_ret(b:PC)(st:St):seqK L b Q .ret st=Q .ret st:=rfl
@[simp] theorem seqK_boom(b:PC)(v:PV)(st:St):seqK L b Q (.boom v) st=Q (.boom v) st:=rfl
@[simp] theorem wpL_seq(a b:PC):wpL L (.seq a b) ⟨V,l,g,h⟩ Q=wpL L a ⟨V,l,g,h⟩ (seqK L b Q):=by simp only[wpL,evL_seq];rcases evL L a ⟨V,l,g,h⟩with _|⟨e,c⟩;{rfl};cases e<;>rfl
def blockK(id:Nat)(Q:PExit->St->Prop):PExit->St->Prop|.exit i,a=>if i=id then Q .normal a else Q (.exit i) a|.after _ _ _,_=>False|e,a=>Q e a
@[simp] theorem blockK_boom(id:Nat)(v:PV)(st:St):blockK id Q (.boom v) st=Q (.boom v) st:=rfl
@[simp] theorem blockK_normal(id:Nat)(st:St):blockK id Q .normal st=Q .normal st:=rfl
@[simp] theorem blockK_ret(id:Nat)(st:St):blockK id Q .ret st=Q .ret st:=rfl
@[simp] theorem blockK_exit(id i:Nat)(st:St):blockK id Q (.exit i) st=if i=id then Q .normal st else Q (.exit i) st:=rfl
@[simp] theorem wpL_block(id:Nat)(c:PC):wpL L (.block id c) ⟨V,l,g,h⟩ Q=wpL L c ⟨V,l,g,h⟩ (blockK id Q):=by simp only[wpL,evL_block];rcases evL L c ⟨V,l,g,h⟩with _|⟨e,a⟩;{rfl};(cases e<;>try rfl);rename_i i;simp only[blockK];by_cases hi:i=id<;>simp[hi]
def loopK(L:Nat->Option PFunc)(c:PC)(Q:PExit->St->Prop):PExit->St->Prop:=seqK L (.loop c) Q
@[simp] theorem loopK_normal(c:PC)(st:St):loopK L c Q .normal st=wpL L (.loop c) st Q:=rfl
@[simp] theorem loopK_exit(c:PC)(i:Nat)(st:St):loopK L c Q (.exit i) st=Q (.exit i) st:=rfl
@[simp] theorem loopK_ret(c:PC)(st:St):loopK L c Q .ret st=Q .ret st:=rfl
@[simp] theorem loopK_boom(c:PC)(v:PV)(st:St):loopK L c Q (.boom v) st=Q (.boom v) st:=rfl
theorem wpL_loop(c:PC)(st:St):wpL L (.loop c) st Q=wpL L c st (loopK L c Q):=by unfold wpL;rw[evL_loop];rcases evL L c st with _|⟨e,a⟩;{rfl};cases e<;>rfl
def thenO(r:Option (Option PV×St))(Q:PExit->St->Prop):Prop:=match r with|some (none,a)=>Q .normal (closed a)|some (some v,a)=>Q (.boom v) (closed a)|none=>False
@[simp] theorem thenO_val:thenO (some (none,⟨V,l,g,h⟩)) Q=Q .normal ⟨V,[],g,h⟩:=rfl
@[simp] theorem thenO_boom(v:PV):thenO (some (some v,⟨V,l,g,h⟩)) Q=Q (.boom v) ⟨V,[],g,h⟩:=rfl
@[simp] theorem thenO_none:thenO none Q=False:=rfl
@[simp] theorem wpL_bregion(a:List PO):wpL L (.bregion a) ⟨V,l,g,h⟩ Q=thenO (brun (callL L) (outL L) 0 a ⟨V,List.replicate a.length .dead,g,h⟩) Q:=by simp only[wpL,evL_bregion_mk];rcases brun (callL L) (outL L) 0 a ⟨V,List.replicate a.length .dead,g,h⟩with _|⟨_|v,b⟩<;>rfl
def thenOB(L:Nat->Option PFunc)(r:Option (Option PV×St))(x:PX)(a b:PC)(Q:PExit->St->Prop):Prop:=match r with|some (none,c)=>(match rd c x with|some (.bool t)=>if t=true then wpL L a (closed c) Q else wpL L b (closed c) Q|_=>False)|some (some v,c)=>Q (.boom v) (closed c)|none=>False
@[simp] theorem thenOB_val(x:PX)(a b:PC):thenOB L (some (none,⟨V,l,g,h⟩)) x a b Q=match rd ⟨V,l,g,h⟩ x with|some (.bool t)=>if t=true then wpL L a ⟨V,[],g,h⟩ Q else wpL L b ⟨V,[],g,h⟩ Q|_=>False:=rfl
@[simp] theorem thenOB_boom(v:PV)(x:PX)(a b:PC):thenOB L (some (some v,⟨V,l,g,h⟩)) x a b Q=Q (.boom v) ⟨V,[],g,h⟩:=rfl
@[simp] theorem thenOB_none(x:PX)(a b:PC):thenOB L none x a b Q=False:=rfl
@[simp] theorem wpL_bbranch(c:List PO)(x:PX)(a b:PC):wpL L (.bbranch c x a b) ⟨V,l,g,h⟩ Q=thenOB L (brun (callL L) (outL L) 0 c ⟨V,List.replicate c.length .dead,g,h⟩) x a b Q:=by simp only[wpL,evL_bbranch_mk,thenOB];rcases brun (callL L) (outL L) 0 c ⟨V,List.replicate c.length .dead,g,h⟩with _|⟨_|v,d⟩;{rfl};{simp only;cases rd d x with|none=>rfl|some v=>(cases v<;>try rfl);rename_i t;cases t<;>rfl};rfl
def thenR'(r:Option St)(t:Nat)(x:PX)(Q:PExit->St->Prop):Prop:=match r with|some a=>(match rd a x with|some p=>Q (.boom (.iface t p)) (closed a)|none=>False)|none=>False
@[simp] theorem thenR'_some(t:Nat)(x:PX):thenR' (some ⟨V,l,g,h⟩) t x Q=match rd ⟨V,l,g,h⟩ x with|some p=>Q (.boom (.iface t p)) ⟨V,[],g,h⟩|none=>False:=rfl
@[simp] theorem thenR'_none(t:Nat)(x:PX):thenR' none t x Q=False:=rfl
@[simp] theorem wpL_raise(a:List PO)(t:Nat)(x:PX):wpL L (.raise a t x) ⟨V,l,g,h⟩ Q=thenR' (execOps (callL L) a ⟨V,l,g,h⟩) t x Q:=by simp only[wpL,evL_raise,thenR'];cases execOps (callL L) a ⟨V,l,g,h⟩with|none=>rfl|some b=>simp only;cases rd b x<;>rfl
def guardK(b:Nat)(cs:List PV)(Q:PExit->St->Prop):PExit->St->Prop|.normal,a=>Q (.after b cs none) a|.ret,a=>Q (.after b cs none) a|.boom v,a=>Q (.after b cs (some v)) a|_,_=>False
@[simp] theorem guardK_normal(a:Nat)(cs:List PV)(st:St):guardK a cs Q .normal st=Q (.after a cs none) st:=rfl
@[simp] theorem guardK_ret(a:Nat)(cs:List PV)(st:St):guardK a cs Q .ret st=Q (.after a cs none) st:=rfl
@[simp] theorem guardK_boom(a:Nat)(cs:List PV)(v:PV)(st:St):guardK a cs Q (.boom v) st=Q (.after a cs (some v)) st:=rfl
@[simp] theorem guardK_exit(a:Nat)(cs:List PV)(i:Nat)(st:St):guardK a cs Q (.exit i) st=False:=rfl
theorem wpL_guarded(b:Nat)(a:List PX)(c:PC){cs:List PV}(d:c.NR=true)(hr:rdAll ⟨V,l,g,h⟩ a=some cs):wpL L (.guarded b a c) ⟨V,l,g,h⟩ Q=wpL L c ⟨V,l,g,h⟩ (guardK b cs Q):=by simp only[wpL,evL_guarded d,hr];rcases evL L c ⟨V,l,g,h⟩with _|⟨e,f⟩;{rfl};cases e<;>rfl
def endO(L:Nat->Option PFunc)(f:PFunc)(r:Out×List PObj):PExit->St->Prop|.normal,a=>∃v,resultV a f.results=some v/\r=(.val v,shutRes a.vars f.results a.heap)|.ret,a=>∃v,resultV a f.results=some v/\r=(.val v,shutRes a.vars f.results a.heap)|.boom v,a=>r=(.boom v,a.heap)|.after d c v,a=>f.code.NR=true/\∃b x,dfrOf L d (v.getD .nilIface::c) a.heap=some b/\resultV {a with heap:=b} f.results=some x/\r=(.val x,shutRes a.vars f.results b)|.exit _,_=>False
@[simp] theorem endO_normal(f:PFunc)(r:Out×List PObj):endO L f r .normal ⟨V,l,g,h⟩=∃v,resultV ⟨V,l,g,h⟩ f.results=some v/\r=(.val v,shutRes V f.results h):=rfl
@[simp] theorem endO_ret(f:PFunc)(r:Out×List PObj):endO L f r .ret ⟨V,l,g,h⟩=∃v,resultV ⟨V,l,g,h⟩ f.results=some v/\r=(.val v,shutRes V f.results h):=rfl
@[simp] theorem endO_boom(f:PFunc)(r:Out×List PObj)(v:PV):endO L f r (.boom v) ⟨V,l,g,h⟩=(r=(.boom v,h)):=rfl
@[simp] theorem endO_after(f:PFunc)(r:Out×List PObj)(b:Nat)(cs:List PV)(v:Option PV):endO L f r (.after b cs v) ⟨V,l,g,h⟩=(f.code.NR=true/\∃a x,dfrOf L b (v.getD .nilIface::cs) h=some a/\resultV ⟨V,l,g,a⟩ f.results=some x/\r=(.val x,shutRes V f.results a)):=rfl
theorem runOut_wp{f:PFunc}{args:List PV}{hp:List PObj}{r:Out×List PObj}(hr:f.code.isRound=false)(b:wpL L f.code ⟨args.map dem++List.replicate (f.nv-f.params) .dead,[],0,hp⟩ (endO L f r)):runOut (evL L) (dfrOf L) f args hp=some r:=by rw[wpL_iff]at b;obtain⟨e,k,g,h2⟩:=b;unfold runOut;split;{rename_i a;rw[a]at hr;simp[PC.isRound]at hr};rw[g];cases e with|normal=>obtain⟨v,a,rfl⟩:=h2;simp only[a];rfl|ret=>obtain⟨v,a,rfl⟩:=h2;simp only[a];rfl|exit i=>exact h2.elim|boom v=>simp only[endO]at h2;subst h2;rfl|after l h v=>obtain⟨a,j,x,c,d,rfl⟩:=h2;simp only[a,Bool.true_eq_false,if_false,c,Option.bind_some,d,Option.map_some]
theorem outL_wp{k:Nat}{f:PFunc}{args:List PV}{hp:List PObj}{r:Out×List PObj}(hf:L k=some f)(b:args.length=f.params)(c:wpL L f.code ⟨args.map dem++List.replicate (f.nv-f.params) .dead,[],0,hp⟩ (endO L f r))(hs:f.split=false:=by rfl)(a:f.prim=none:=by rfl)(hr:f.code.isRound=false:=by rfl):outL L k args hp=some r:=outL_of hf b (runOut_wp hr c) hs a
theorem callL_wpO{k:Nat}{f:PFunc}{args:List PV}{hp:List PObj}{r:PV×List PObj}(hf:L k=some f)(b:args.length=f.params)(c:wpL L f.code ⟨args.map dem++List.replicate (f.nv-f.params) .dead,[],0,hp⟩ (endO L f (.val r.1,r.2)))(hs:f.split=false:=by rfl)(a:f.prim=none:=by rfl)(hr:f.code.isRound=false:=by rfl):callL L k args hp=some r:=callL_of hf b (runOut_wp hr c) hs a hr
def endK(rs:List PRes)(r:PV×List PObj)(e:PExit)(st:St):Prop:=(e=.normal\/e=.ret)/\resultV st rs=some r.1/\shutRes st.vars rs st.heap=r.2
@[simp] theorem endK_normal(rs:List PRes)(r:PV×List PObj):endK rs r .normal ⟨V,l,g,h⟩=(resultV ⟨V,l,g,h⟩ rs=some r.1/\shutRes V rs h=r.2):=by simp[endK]
@[simp] theorem endK_ret(rs:List PRes)(r:PV×List PObj):endK rs r .ret ⟨V,l,g,h⟩=(resultV ⟨V,l,g,h⟩ rs=some r.1/\shutRes V rs h=r.2):=by simp[endK]
theorem callL_wp{k:Nat}{f:PFunc}{args:List PV}{hp:List PObj}{r:PV×List PObj}(hf:L k=some f)(c:args.length=f.params)(b:wpL L f.code ⟨args.map dem++List.replicate (f.nv-f.params) .dead,[],0,hp⟩ (endK f.results r))(hs:f.split=false:=by rfl)(a:f.prim=none:=by rfl)(hr:f.code.isRound=false:=by rfl):callL L k args hp=some r:=by refine callL_run hf c ?_ hs a hr;rw[wpL_iff]at b;obtain⟨e,i,h,h2,d,g⟩:=b;rw[h];rcases h2 with rfl|rfl<;>simp only[ending,d,g]
theorem callL_wpX{k:Nat}{f:PFunc}{own:Option Nat}{args:List PV}{hp:List PObj}{r:PV×List PObj}(hf:L k=some f)(d:args.length=f.params)(c:wpL L f.code ⟨entry own args++List.replicate (f.nv-f.params) .dead,[],0,hp⟩ (endK f.results r))(hs:f.split=false:=by rfl)(a:f.prim=none:=by rfl)(hr:f.code.isRound=false:=by rfl)(b:f.params<20:=by decide):callL L k (ownArgs own args) hp=some r:=by refine callL_own hf d ?_ hs a b;rw[wpL_iff]at c;obtain⟨e,j,i,h2,g,h⟩:=c;unfold runOwn;rw[if_neg (by rw[hr];simp),i];rcases h2 with rfl|rfl<;>simp only[g,h,Option.map_some]
def endP(rs:List PRes)(P:PV×List PObj->Prop)(e:PExit)(st:St):Prop:=(e=.normal\/e=.ret)/\∃v,resultV st rs=some v/\P (v,shutRes st.vars rs st.heap)
theorem callL_wpP{k:Nat}{f:PFunc}{args:List PV}{hp:List PObj}{P:PV×List PObj->Prop}(hf:L k=some f)(d:args.length=f.params)(b:wpL L f.code ⟨args.map dem++List.replicate (f.nv-f.params) .dead,[],0,hp⟩ (endP f.results P))(hs:f.split=false:=by rfl)(a:f.prim=none:=by rfl)(hr:f.code.isRound=false:=by rfl):∃r,callL L k args hp=some r/\P r:=by rw[wpL_iff]at b;obtain⟨e,c,i,h2,v,g,h⟩:=b;refine⟨(v,shutRes c.vars f.results c.heap),callL_run hf d ?_ hs a hr,h⟩;rw[i];rcases h2 with rfl|rfl<;>simp only[ending,g]
end
end PI
namespace PI
section
variable {L:Nat->Option PFunc}{Q:PExit->St->Prop}
def upd(V:List PV):List (Nat×PV)->List PV|[]=>V|(k,v)::r=>upd (V.set k v) r
@[simp] theorem upd_nil(V:List PV):upd V []=V:=rfl
@[simp] theorem upd_cons(V:List PV)(k:Nat)(v:PV)(r:List (Nat×PV)):upd V ((k,v)::r)=upd (V.set k v) r:=rfl
theorem loop_all{m:Type}{c:PC}(n:Nat)(a:Nat->Bool)(S:Nat->m->St)(f:∀i,i<n->a i=true->∀x,(∀y,wpL L (.loop c) (S (i+1) y) Q)->wpL L c (S i x) (loopK L c Q))(b:∀i,i<n->a i=false->(∀k,k<i->a k=true)->∀x,wpL L c (S i x) (loopK L c Q))(g:(∀k,k<n->a k=true)->∀x,wpL L c (S n x) (loopK L c Q))(x:m):wpL L (.loop c) (S 0 x) Q:=by(have l:∀(d i:Nat),i+d=n->(∀k,k<i->a k=true)->∀x,wpL L (.loop c) (S i x) Q:=by intro d;induction d with|zero=>intro i q hk x;rw[wpL_loop];(have:i=n:=by omega);subst this;exact g hk x|succ d p=>intro i q hk x;rw[wpL_loop];cases j:a i with|true=>refine f i (by omega) j x (p (i+1) (by omega) ?_);intro k o;by_cases e:k=i;{rw[e];exact j};exact hk k (by omega)|false=>exact b i (by omega) j hk x);exact l n 0 (by omega) (λk h=>absurd h (Nat.not_lt_zero k)) x
theorem loop_upd{f:Type}{c:PC}{V:List PV}{g:Nat}{h:List PObj}(n:Nat)(e:Nat->Bool)(M:Nat->f->List (Nat×PV))(H:Nat->f->List PObj)(j:f)(b:∀i,i<n->e i=true->∀x,(∀y,wpL L (.loop c) ⟨upd V (M (i+1) y),[],g,H (i+1) y⟩ Q)->wpL L c ⟨upd V (M i x),[],g,H i x⟩ (loopK L c Q))(a:∀i,i<n->e i=false->(∀k,k<i->e k=true)->∀x,wpL L c ⟨upd V (M i x),[],g,H i x⟩ (loopK L c Q))(d:(∀k,k<n->e k=true)->∀x,wpL L c ⟨upd V (M n x),[],g,H n x⟩ (loopK L c Q))(m:upd V (M 0 j)=V)(l:H 0 j=h):wpL L (.loop c) ⟨V,[],g,h⟩ Q:=by have:=loop_all n e (λi x=>⟨upd V (M i x),[],g,H i x⟩) b a d j;rw[m,l]at this;exact this
theorem loop_updG{f:Type}{c:PC}{V:List PV}{g:Nat}{h:List PObj}(n:Nat)(e:Nat->Bool)(M:Nat->f->List (Nat×PV))(G:Nat->f->Nat)(H:Nat->f->List PObj)(j:f)(b:∀i,i<n->e i=true->∀x,(∀y,wpL L (.loop c) ⟨upd V (M (i+1) y),[],G (i+1) y,H (i+1) y⟩ Q)->wpL L c ⟨upd V (M i x),[],G i x,H i x⟩ (loopK L c Q))(a:∀i,i<n->e i=false->(∀k,k<i->e k=true)->∀x,wpL L c ⟨upd V (M i x),[],G i x,H i x⟩ (loopK L c Q))(d:(∀k,k<n->e k=true)->∀x,wpL L c ⟨upd V (M n x),[],G n x,H n x⟩ (loopK L c Q))(o:upd V (M 0 j)=V)(m:G 0 j=g)(l:H 0 j=h):wpL L (.loop c) ⟨V,[],g,h⟩ Q:=by have:=loop_all n e (λi x=>⟨upd V (M i x),[],G i x,H i x⟩) b a d j;rw[o,m,l]at this;exact this
theorem loop_go{d:Type}{c:PC}{V:List PV}{g:Nat}{h:List PObj}(n:Nat)(M:Nat->d->List (Nat×PV))(H:Nat->d->List PObj)(e:d)(a:∀i,i<n->∀x,(∀y,wpL L (.loop c) ⟨upd V (M (i+1) y),[],g,H (i+1) y⟩ Q)->wpL L c ⟨upd V (M i x),[],g,H i x⟩ (loopK L c Q))(b:∀x,wpL L c ⟨upd V (M n x),[],g,H n x⟩ (loopK L c Q))(k:upd V (M 0 e)=V)(f:H 0 e=h):wpL L (.loop c) ⟨V,[],g,h⟩ Q:=loop_upd n (λ_=>true) M H e (λi j _=>a i j) (λ_ _ h=>by simp at h) (λ_=>b) k f
theorem loop_fold{d:Type}{c:PC}(n:Nat)(S:Nat->d->St)(a:∀i,i<n->∀x,(∀y,wpL L (.loop c) (S (i+1) y) Q)->wpL L c (S i x) (loopK L c Q))(b:∀x,wpL L c (S n x) (loopK L c Q))(x:d):wpL L (.loop c) (S 0 x) Q:=loop_all n (λ_=>true) S (λi e _=>a i e) (λ_ _ h=>by simp at h) (λ_=>b) x
end
open Go Go.RowKit
def pRec(t:Nat)(args:List PV)(h:List PObj):Option (List PObj):=match args with|[.nilIface,.ptr _ 0,.ptr _ 0]=>some h|[.iface d (.agg [.int k1 a,.int k2 b,.int k3 c]),.ptr n 0,.ptr m 0]=>if d=t/\n≠m then match h[n]?,h[m]? with|some (.cells [_,_]),some (.cells [_])=>some ((h.set n (.cells [.int k1 a,.int k2 b])).set m (.cells [.int k3 c]))|_,_=>none else none|_=>none
theorem pRec_nil(t n m:Nat)(h:List PObj):pRec t [.nilIface,.ptr n 0,.ptr m 0] h=some h:=rfl
def plainOp(o:Oper):Bool:=match o.op with|.move _|.assign _|.extract _ _|.alloc _|.store _ _ _|.load _ _|.fieldAddr _ _ _=>true|_=>false
section
variable {P:Program}{w:World}
theorem plain_run{o:Oper}(h:plainOp o=true){ρ:Operand->Value}:(∀r w',(execOp ρ o).run P w=.ok r w'->(∃v,r=.value v)\/r=.skip)/\True:=by refine⟨?_,trivial⟩;intro r w' hr;(have val:∀(s:Sem Value),(do pure (.value (<-s)):Sem Next).run P w=.ok r w'->∃v,r=.value v:=by intro s hs;rw[Sem.run_bind]at hs;cases a:s.run P w with|ok v d=>rw[a]at hs;simp only[Result.andThen_ok,Sem.run_pure,Result.ok.injEq]at hs;exact⟨v,hs.1.symm⟩|halt x d=>rw[a]at hs;simp[Result.andThen]at hs);(have b:∀(s:Sem Unit),(do s;pure .skip:Sem Next).run P w=.ok r w'->r=.skip:=by intro s hs;rw[Sem.run_bind]at hs;cases a:s.run P w with|ok v d=>rw[a]at hs;simp only[Result.andThen_ok,Sem.run_pure,Result.ok.injEq]at hs;exact hs.1.symm|halt x d=>rw[a]at hs;simp[Result.andThen]at hs);unfold plainOp at h;unfold execOp at hr;cases c:o.op<;>rw[c]at h hr<;>simp only[reduceCtorEq,Bool.false_eq_true]at h;all_goals first|exact .inl (val _ hr)|exact .inr (b _ hr)|(simp only[Sem.run_pure,Result.ok.injEq]at hr;exact .inl ⟨_,hr.1.symm⟩)
theorem wpOpsSIn_of{b:Array Oper}{Q:Exit->Act->List Frame->World->Prop}{cs:List Frame}:∀{l:List Nat}{a:Act}{w:World},(∀i∈l,∀o,b[i]?=some o->plainOp o=true)->¬LetsOut (λe a w=>Q e a cs w)->wpOps P b (λe a w=>Q e a cs w) l a w->wpOpsSIn (W none) 0 P b Q l a cs w|[],a,w,_,_,h=>h|i::l,a,w,f,g,h=>by simp only[wpOps]at h;simp only[wpOpsSIn];cases m:b[i]? with|none=>simp only[m]at h⊢;exact wpOpsSIn_of (λj c=>f j (by simp[c])) g h|some o=>simp only[m]at h⊢;refine⟨λ_ _=>W_fn _,?_⟩;split at h;{rename_i n;rw[if_pos n];rcases h with h|⟨_,h⟩;{unfold Oper.wp at h;have d:=(plain_run (P:=P) (w:=w) (f i (by simp) o m) (ρ:=a.eval)).1;generalize(execOp a.eval o).run P w=k at h d;cases k with|ok r p=>rcases d r p rfl with⟨v,rfl⟩|rfl;{exact wpOpsSIn_of (λj c=>f j (by simp[c])) g h};exact wpOpsSIn_of (λj c=>f j (by simp[c])) g h|halt x p=>cases x<;>simp only[Oper.upon]at h⊢<;>first|exact h|exact h.elim};exact absurd h g};rename_i n;rw[if_neg n];exact wpOpsSIn_of (λj c=>f j (by simp[c])) g h
theorem wpSIn_of_wpN{c:Code}{Q:Exit->Act->List Frame->World->Prop}{a:Act}{cs:List Frame}(h:∀fid,wpN none fid P c (λe a w=>Q e a cs w) a w):c.wpSIn (W none) 0 P Q a cs w:=by intro b k _ hr _ _;obtain⟨e,d,f,q,r⟩:=h b.fn b k cs hr rfl;exact⟨e,d,cs,f,rfl,q,r⟩
end
section
variable {E:Env}{N:Nm}{P:Program}
def L0:Nat->Option PFunc:=λ_=>none
theorem runs0(n:Nat):Runs N P L0 n:=by refine⟨⟨?_,?_⟩,?_,?_,?_⟩;{intro k a r h c b;simp[callWith,L0]at b};{intro k own a r c b;simp[callWith,L0]at b};{intro k a o h c b;simp[outWith,L0]at b};{intro k y n l e d a o h c _ b;simp[outWith,L0]at b};intro k hk;simp[noRound,L0]at hk
theorem fns0:FnsOK N P L0:=by intro k f h;simp[L0]at h
theorem dfr_sound(hE:EnvOk E N)(hP:E.P=P)(aF:P.follows .mixedOrders=true)(aO:E.lps=[]){k:Nat}{fn:Func}{id0:Nat}{d:Array Oper}{c2:Code}{vs:List Tmp}{I:List PO}{d5 d6:Tmp}{tA T t:Nat}{z:PV}{nv q:Nat}{o0 o1:Oper}{g:List PV->List PObj->Option (List PObj)}(hf:P.funcs[N.fn k]?=some fn)(hb:fn.body=some (.seq (.region id0 d false) c2))(ay:fn.results=#[])(h0:d[0]?=some o0)(aj:∃ts,o0.op=.call {callee:=.builtin .recover,args:=#[],argTypes:=ts})(bf:o0.dst=some d5)(bc:o0.guard=none)(h1:d[1]?=some o1)(bd:o1.op=.typeAssert (.tmp d5) tA T true)(aU:o1.dst=some d6)(aY:o1.guard=none)(hT:N.ty t=T)(ad:∃fs,P.underlying T=some (.struct fs))(hz:zeroV P T=some z)(aa:∀i,2<=i->∀o,d[i]?=some o->plainOp o=true)(aX:d5<fn.ntmps)(ah:(idxIn d5 vs 0).isNone=true)(af:vs[q]?=some d6)(ak:vs.Nodup)(aE:∀t∈vs,t<fn.ntmps)(bm:vs.length=nv)(hq:2<=q)(bh:vs[0]?=some 0)(bk:vs[1]?=some 1)(Z:compR E fn.ntmps vs d false=some I)(aV:(compC E fn.ntmps vs c2).NR=true)(aG:∀p l h h',g (p::l) h=some h'->l.length=2/\∃U:PV,(p=.nilIface/\U=.tuple [z,.bool false]\/∃v,p=.iface t v/\U=.tuple [v,.bool true])/\∃n st1 x st2,execL (callWith (exec L0 0) L0) I (List.range' 2 (d.size-2)) {vars:=(l.map dem++List.replicate (nv-2) PV.dead).set q U,locs:=List.replicate I.length .dead,gen:=0,heap:=h}=some st1/\exec L0 n (compC E fn.ntmps vs c2) (closed st1)=some (x,st2)/\(x=.normal\/x=.ret)/\st2.heap=h'):DfrOK N P k g:=by
 intro p l h h' hg w G K Y bi be u hu;obtain⟨ao,U,ai,n,st1,x,st2,aL,aA,hx,an⟩:=aG p l h h' hg;refine callsDIn_of_wpSIn (F:=W none) hf hb (W_fn _) ?_;intro s cs R;refine wpSIn_seq (wpSIn_region ?_);have ba:2<=d.size:=by have:=(Array.getElem?_eq_some_iff.1 h1).1;omega
 have ae:List.range d.size=0::1::List.range' 2 (d.size-2):=by obtain⟨m,hm⟩:∃m,d.size=m+2:=⟨d.size-2,by omega⟩;rw[hm,List.range_eq_range',List.range'_succ,List.range'_succ];rfl
 rw[ae];obtain⟨rv,u',D,C,hset,aK,ag⟩:∃rv u',∃D:List Frame,(match recoverD (s::cs)with|some (v,D)=>(v,D)|none=>(.nilIface,s::cs))=(rv,D)/\settle u'=.returning/\D={s with mode:=u'}::cs/\VR N w G.fix G.heap rv p:=by rcases hu with⟨rfl,rfl⟩|⟨v,rfl,hv⟩;{refine⟨.nilIface,.returning,s::cs,?_,rfl,by rw[<-R],.nilIface⟩;simp[recoverD,R]};refine⟨v,.panicking [{v,recovered:=true}],_,?_,rfl,rfl,hv⟩;simp[recoverD,R]
 let O:Act:={tmps:=K++Array.replicate (fn.ntmps-K.size) undef,defers:=[]};have al:∀{Q:Exit->Act->List Frame->World->Prop}{A:List Nat},wpOpsSIn (W none) 0 P d Q A (O.put (some d5) rv) D w->wpOpsSIn (W none) 0 P d Q (0::A) O (s::cs) w:=by intro Q A hw;obtain⟨ts,aj⟩:=aj;simp only[wpOpsSIn,h0];refine⟨λ_ _=>W_fn _,?_⟩;(have ap:(execOp O.eval o0).run P w=.ok .recover w:=by simp[execOp,aj,resolve,invoke,builtin]);simp only[Region.wanted,bc,if_true,ap,bf];cases hr:recoverD (s::cs)with|none=>rw[hr]at C;simp only[Prod.mk.injEq]at C;obtain⟨rfl,rfl⟩:=C;exact hw|some y=>obtain⟨v,bo⟩:=y;rw[hr]at C;simp only[Prod.mk.injEq]at C;obtain⟨rfl,rfl⟩:=C;exact hw
 refine al ?_;have J:O.tmps.size>=fn.ntmps:=by simp only[O,Array.size_append,Array.size_replicate];omega
 have aN:(O.put (some d5) rv).eval (.tmp d5)=rv:=by have:d5<O.tmps.size:=Nat.lt_of_lt_of_le aX J;simp[Act.eval,Act.put,Array.getD_eq_getD_getElem?,Array.getElem?_setIfInBounds,this]
 obtain⟨tv,aZ,az⟩:∃tv,(Instr.typeAssert rv tA T true).run P w=.ok tv w/\VR N w G.fix G.heap tv U:=by obtain⟨fs,ad⟩:=ad;rcases ai with⟨rfl,rfl⟩|⟨v,rfl,rfl⟩;{cases ag;obtain⟨zv,z1,z2,_⟩:=zeroV_sound (P:=P) (N:=N) (w:=w) (fix:=G.fix) (hp:=G.heap) hz;refine⟨.tuple #[zv,.bool false],by simp[Instr.typeAssert,Sem.run_bind,run_underlying ad,Result.andThen_ok,z1],.tuple _ _ rfl ?_⟩;intro i c p B hp;match i,B,hp with|0,B,hp=>simp at B hp;subst B hp;exact z2|1,B,hp=>simp at B hp;subst B hp;exact .bool _};cases ag with|iface _ v' _ hv=>refine⟨.tuple #[v',.bool true],by simp[Instr.typeAssert,Sem.run_bind,run_underlying ad,Result.andThen_ok,hT],.tuple _ _ rfl ?_⟩;intro i c p B hp;match i,B,hp with|0,B,hp=>simp at B hp;subst B hp;exact hv|1,B,hp=>simp at B hp;subst B hp;exact .bool _
 let a2:Act:=(O.put (some d5) rv).put (some d6) tv;have step1:∀{Q:Exit->Act->List Frame->World->Prop}{A:List Nat},wpOpsSIn (W none) 0 P d Q A a2 D w->wpOpsSIn (W none) 0 P d Q (1::A) (O.put (some d5) rv) D w:=by intro Q A hw;simp only[wpOpsSIn,h1];refine⟨λ_ _=>W_fn _,?_⟩;(have av:(execOp (O.put (some d5) rv).eval o1).run P w=.ok (.value tv) w:=by simp only[execOp,bd,aN,Sem.run_bind,aZ,Result.andThen_ok,Sem.run_pure]);simp only[Region.wanted,aY,if_true,av,aU];exact hw
 refine step1 ?_;have aq:onceIn vs d.toList=true/\dstsOk fn.ntmps d.toList=true/\cOpers E vs d.toList d.toList=some I:=by unfold compR at Z;split at Z;{rename_i B;simp only[Bool.and_eq_true]at B;simp only[Option.bind_eq_some_iff]at Z;obtain⟨bl,h1,h2⟩:=Z;simp only[Bool.false_and,Bool.false_eq_true,if_false]at h2;split at h2;{cases h2};simp only[Option.some.injEq]at h2;subst h2;exact⟨B.1.1,B.1.2,h1⟩};simp at Z
 obtain⟨aw,aM,au⟩:=aq;have nm:=names_ok ak aw;let G0:GS:={G with df:=[]};have bg:FI N w G0 {vars:=(l.map dem++List.replicate (nv-2) PV.dead).set q U,locs:=List.replicate I.length .dead,gen:=0,heap:=h} a2 vs (lmap vs d.toList):=by(have S:a2.tmps.size=O.tmps.size:=by simp[a2,Act.put]);refine⟨?_,?_,?_,?_,?_,rfl,(by intro g b h;have h:G.box g=some b:=h;rw[Y.only.box]at h;simp at h),Y.owlt,Y.fixlt,Y.heap,Y.hdom⟩;{have:2<vs.length:=Nat.lt_of_le_of_lt hq (List.getElem?_eq_some_iff.1 af).1;simp[ao];omega};{intro i M u1 H f;rw[List.getElem?_set]at f;(have ax:M≠d5:=by rintro rfl;have:=idxIn_of H 0;simp at ah;rw[ah]at this;simp at this);by_cases hiq:q=i;{subst hiq;rw[af]at H;simp only[Option.some.injEq]at H;subst H;rw[if_pos rfl]at f;split at f;{simp only[Option.some.injEq]at f;subst f;(have X:a2.eval (.tmp d6)=tv:=by have:d6<O.tmps.size:=Nat.lt_of_lt_of_le (aE _ (List.mem_of_getElem? af)) J;simp[a2,Act.eval,Act.put,Array.getD_eq_getD_getElem?,Array.getElem?_setIfInBounds,this]);rw[X];refine SR.of_pure az ?_;rcases ai with⟨_,rfl⟩|⟨_,_,rfl⟩<;>rfl};simp at f};rw[if_neg hiq]at f;(have aI:M≠d6:=by rintro rfl;have bj:=(List.getElem?_eq_some_iff.1 af);have aR:=(List.getElem?_eq_some_iff.1 H);obtain⟨p1,p2⟩:=bj;obtain⟨p3,p4⟩:=aR;exact hiq ((List.getElem_inj ak).1 (p2.trans p4.symm)));(have X:a2.eval (.tmp M)=O.eval (.tmp M):=by simp only[a2,Act.eval,Act.put,Array.getD_eq_getD_getElem?,Array.getElem?_setIfInBounds];rw[if_neg (Ne.symm aI),if_neg (Ne.symm ax)]);rw[X];by_cases hi:i<2;{(have bb:M=i:=by match i,hi with|0,_=>rw[bh]at H;simpa using H.symm|1,_=>rw[bk]at H;simpa using H.symm);subst bb;(have ab:M<l.length:=by rw[ao];exact hi);rw[List.getElem?_append_left (by simpa using ab)]at f;simp only[List.getElem?_map,List.getElem?_eq_getElem ab,Option.map_some,Option.some.injEq]at f;subst f;(have ar:M<K.size:=by rw[bi];exact ab);(have X:O.eval (.tmp M)=K[M]:=by simp only[O,Act.eval,Array.getD_eq_getD_getElem?];rw[Array.getElem?_append_left ar];simp[ar]);rw[X];have hv:=be M K[M] l[M] (by simp[ar]) (List.getElem?_eq_getElem ab);exact SR.of_pure hv.dem hv.cp_dem};rw[List.getElem?_append_right (by rw[List.length_map,ao];omega)]at f;rw[List.getElem?_replicate]at f;split at f;{simp at f;subst f;trivial};simp at f};{intro j M u1 _ V;simp only[List.getElem?_replicate]at V;split at V;{simp at V;subst V;trivial};simp at V};{intro i M hi;rw[S];exact Nat.lt_of_lt_of_le (aE _ (List.mem_of_getElem? hi)) J};intro j M hj;rw[S];exact Nat.lt_of_lt_of_le (lmap_lt aM j M hj) J
 refine wpOpsSIn_of ?_ ?_ ?_;{intro i hi o ho;refine aa i ?_ o ho;rw[List.mem_range'_1]at hi;exact hi.1}
 {rintro⟨a,w,h⟩;simp only[Exit.thenS,bodyPostS]at h;obtain⟨u2,⟨v,hv⟩,_⟩:=h;cases hv}
 refine opsL_sound (L:=L0) fns0 hE hP nm (runs0 0).call (by intro k args h r B;simp[callWith,L0]at B) au aL bg ?_;intro a' w' G' aW he hs;simp only[Exit.thenS];refine wpSIn_of_wpN λbn=>?_;have S:a2.tmps.size=O.tmps.size:=by simp[a2,Act.put]
 have aQ:=FI.finish (nt:=fn.ntmps) aW (by rw[hs,S];exact J);refine code_sound (L:=L0) (rd':=none) fns0 hE hP aF ak n (λm _=>runs0 m) compC_cmp aA aQ ?_ (.inl rfl) ?_ ?_;{intro ps kb vars hl;rw[aO]at hl;simp at hl}
 {rintro⟨a,w,h⟩;simp only[bodyPostS]at h;obtain⟨u2,⟨v,hv⟩,_⟩:=h;cases hv}
 intro a3 w3 G3 e aJ aH am aD;have aP:ExtD w G w3 G3:=ExtD.trans (ExtD.of he:ExtD w G0 w' G') am;have aC:G'.df=[]:=he.df;have aS:G3.df=[]:=by(have aT:(∃ms,G3.df=ms++G'.df/\Marks w' w3 G3 ms/\((compC E fn.ntmps vs c2).NR=true->ms=[]))->G3.df=[]:=by rintro⟨ms,q1,_,q3⟩;rw[q1,q3 aV,aC];rfl);rcases hx with rfl|rfl<;>exact aT aD
 have aB:bodyPostS P fn s cs (λe u' w'=>(∃v,e=.returned v)/\settle u'=.returning/\∃G',Ext w G w' G'/\Between N w' G' h') .normal a3 D w3:=by refine⟨by rw[aH.fi.defers,aS],u',aK,.tuple #[],?_,⟨_,rfl⟩,hset,?_⟩;{unfold results;rw[ay];simp};obtain⟨l1,l2⟩:=leave_shut aP aH (DefW.refl _) (λ_ _=>rfl) st2.vars [];rw[<-an];exact⟨_,l1,l2⟩
 rcases hx with rfl|rfl<;>(simp only[ExitR]at aJ;subst aJ;exact aB)
def recPos:List PO:=[⟨.l,stuckOp,none⟩,⟨.v 4,stuckOp,none⟩,⟨.l,.mov (.v 4),none⟩,⟨.l,.extract 0 (.l 2),none⟩,⟨.l,.extract 1 (.l 2),none⟩,⟨.v 2,.newloc [.int .i64 0,.int .i64 0,.int .i64 0],none⟩,⟨.n,.store 3 true (.v 2) (.l 3),none⟩,⟨.v 3,.take (.l 4),none⟩]
def recC:PC:=.branch [⟨.l,.mov (.v 3),none⟩] (.l 0) (.region [⟨.l,.faddr 0 (.v 2),none⟩,⟨.l,.load 2 true (.l 0) false,none⟩,⟨.l,.faddr 2 (.v 2),none⟩,⟨.l,.load 1 false (.l 2) false,none⟩,⟨.n,.h (.storer 2 true (.v 0) (.l 1)),none⟩,⟨.n,.h (.storer 1 false (.v 1) (.l 3)),none⟩]) .skip
def recZ:PV:=.agg [.int .i64 0,.int .i64 0,.int .i64 0]
theorem rec_run{t:Nat}{p:PV}{d:List PV}{h j:List PObj}(g:pRec t (p::d) h=some j):d.length=2/\∃e:PV,(p=.nilIface/\e=.tuple [recZ,.bool false]\/∃v,p=.iface t v/\e=.tuple [v,.bool true])/\∃n st1 x st2,execL (callWith (exec L0 0) L0) recPos (List.range' 2 (8-2)) {vars:=(d.map dem++List.replicate (5-2) PV.dead).set 4 e,locs:=List.replicate recPos.length .dead,gen:=0,heap:=h}=some st1/\exec L0 n recC (closed st1)=some (x,st2)/\(x=.normal\/x=.ret)/\st2.heap=j:=by(have i:∀{e:PV}{st1:St}{x:PExit}{st2:St},execFrom (callWith (exec L0 0) L0) 2 (recPos.drop 2) {vars:=(d.map dem++List.replicate (5-2) PV.dead).set 4 e,locs:=List.replicate recPos.length .dead,gen:=0,heap:=h}=some st1->evL L0 recC (closed st1)=some (x,st2)->(x=.normal\/x=.ret)->st2.heap=j->∃n st1 x st2,execL (callWith (exec L0 0) L0) recPos (List.range' 2 (8-2)) {vars:=(d.map dem++List.replicate (5-2) PV.dead).set 4 e,locs:=List.replicate recPos.length .dead,gen:=0,heap:=h}=some st1/\exec L0 n recC (closed st1)=some (x,st2)/\(x=.normal\/x=.ret)/\st2.heap=j:=by intro e st1 x st2 q h2 r s;obtain⟨n,l⟩:=evL_iff.1 h2;rw[execFrom_L (all:=recPos) rfl]at q;exact⟨n,st1,x,st2,q,l,r,s⟩);unfold pRec at g;split at g;{rename_i n m f;simp only[List.cons.injEq]at f;obtain⟨rfl,rfl⟩:=f;simp only[Option.some.injEq]at g;subst g;refine⟨rfl,_,.inl ⟨rfl,rfl⟩,i (st1:=⟨[.ptr n 0,.ptr m 0,.loc 0 [.int .i64 0,.int .i64 0,.int .i64 0],.bool false,.tuple [recZ,.bool false]],[.dead,.dead,.tuple [recZ,.bool false],recZ,.bool false,.dead,.dead,.dead],1,h⟩) (st2:=⟨[.ptr n 0,.ptr m 0,.loc 0 [.int .i64 0,.int .i64 0,.int .i64 0],.bool false,.tuple [recZ,.bool false]],[],1,h⟩) ?_ ?_ (.inl rfl) rfl⟩;{simp[recPos,recZ,stuckOp,storeInto]};simp[recC]};{rename_i z k1 a k2 b k3 c n m f;simp only[List.cons.injEq]at f;obtain⟨rfl,rfl⟩:=f;split at g;{rename_i y;obtain⟨rfl,k⟩:=y;split at g;{rename_i A B w l u;simp only[Option.some.injEq]at g;subst g;refine⟨rfl,_,.inr ⟨_,rfl,rfl⟩,i (st1:=⟨[.ptr n 0,.ptr m 0,.loc 0 [.int k1 a,.int k2 b,.int k3 c],.bool true,.tuple [.agg [.int k1 a,.int k2 b,.int k3 c],.bool true]],[.dead,.dead,.tuple [.agg [.int k1 a,.int k2 b,.int k3 c],.bool true],.agg [.int k1 a,.int k2 b,.int k3 c],.bool true,.dead,.dead,.dead],1,h⟩) (st2:=⟨[.ptr n 0,.ptr m 0,.loc 0 [.int k1 a,.int k2 b,.int k3 c],.bool true,.tuple [.agg [.int k1 a,.int k2 b,.int k3 c],.bool true]],[],1,(h.set n (.cells [.int k1 a,.int k2 b])).set m (.cells [.int k3 c])⟩) ?_ ?_ (.inl rfl) rfl⟩;{simp[recPos,recZ,stuckOp,storeInto]};(have o:(h.set n (.cells [.int k1 a,.int k2 b]))[m]?=some (.cells [w]):=by rw[List.getElem?_set_ne k];exact u);simp[recC,storeInto,loadFrom,l,o,PV.flat,isList]};simp at g};simp at g};simp at g
theorem rec_ok(F:EnvOk E N)(G:E.P=P)(f:P.follows .mixedOrders=true)(g:E.lps=[]){k:Nat}{fn:Func}{id0:Nat}{a:Array Oper}{y:Code}{tA T t:Nat}{o0 o1:Oper}(hf:P.funcs[N.fn k]?=some fn)(C:fn.body=some (.seq (.region id0 a false) y))(e:fn.results=#[])(H:a[0]?=some o0)(l:∃B,o0.op=.call {callee:=.builtin .recover,args:=#[],argTypes:=B})(w:o0.dst=some 5)(m:o0.guard=none)(I:a[1]?=some o1)(s:o1.op=.typeAssert (.tmp 5) tA T true)(v:o1.dst=some 6)(r:o1.guard=none)(hT:N.ty t=T)(d:(match P.underlying T with|some (.struct _)=>true|_=>false)=true)(A:zeroV P T=some recZ)(n:a.size=8)(c:(a.toList.drop 2).all plainOp=true)(b:fn.ntmps=14)(u:compR E 14 [0,1,2,3,6] a false=some recPos)(j:compC E 14 [0,1,2,3,6] y=recC):DfrOK N P k (pRec t):=by refine dfr_sound F G f g (vs:=[0,1,2,3,6]) (d5:=5) (d6:=6) (q:=4) (nv:=5) hf C e H l w m I s v r hT (by split at d<;>first|exact⟨_,by assumption⟩|simp at d) A ?_ (by rw[b];decide) rfl rfl (by decide) (by rw[b];decide) rfl (by omega) rfl rfl (by rw[b];exact u) (by rw[b,j];rfl) ?_;{intro i K o D;have:=List.all_eq_true.1 c o;refine this (List.mem_of_getElem? (i:=i-2) ?_);rw[List.getElem?_drop,show 2+(i-2)=i by omega];simpa using D};intro p x h J z;have:=rec_run z;rw[n,b,j];exact this
end
end PI
namespace PI.Short
open Go(IntKind BinOp UnOp)
abbrev v0:PX:=.v 0
abbrev v1:PX:=.v 1
abbrev v2:PX:=.v 2
abbrev v3:PX:=.v 3
abbrev v4:PX:=.v 4
abbrev v5:PX:=.v 5
abbrev v6:PX:=.v 6
abbrev v7:PX:=.v 7
abbrev v8:PX:=.v 8
abbrev v9:PX:=.v 9
abbrev v10:PX:=.v 10
abbrev v11:PX:=.v 11
abbrev v12:PX:=.v 12
abbrev v13:PX:=.v 13
abbrev v14:PX:=.v 14
abbrev v15:PX:=.v 15
abbrev v16:PX:=.v 16
abbrev v17:PX:=.v 17
abbrev v18:PX:=.v 18
abbrev v19:PX:=.v 19
abbrev v20:PX:=.v 20
abbrev v21:PX:=.v 21
abbrev v22:PX:=.v 22
abbrev v23:PX:=.v 23
abbrev v24:PX:=.v 24
abbrev v25:PX:=.v 25
abbrev v26:PX:=.v 26
abbrev v27:PX:=.v 27
abbrev v28:PX:=.v 28
abbrev v29:PX:=.v 29
abbrev v30:PX:=.v 30
abbrev v31:PX:=.v 31
abbrev v32:PX:=.v 32
abbrev v33:PX:=.v 33
abbrev v34:PX:=.v 34
abbrev v35:PX:=.v 35
abbrev v36:PX:=.v 36
abbrev v37:PX:=.v 37
abbrev v38:PX:=.v 38
abbrev v39:PX:=.v 39
abbrev v40:PX:=.v 40
abbrev v41:PX:=.v 41
abbrev v42:PX:=.v 42
abbrev v43:PX:=.v 43
abbrev v44:PX:=.v 44
abbrev v45:PX:=.v 45
abbrev v46:PX:=.v 46
abbrev v47:PX:=.v 47
abbrev v48:PX:=.v 48
abbrev v49:PX:=.v 49
abbrev v50:PX:=.v 50
abbrev v51:PX:=.v 51
abbrev v52:PX:=.v 52
abbrev v53:PX:=.v 53
abbrev v54:PX:=.v 54
abbrev v55:PX:=.v 55
abbrev v56:PX:=.v 56
abbrev v57:PX:=.v 57
abbrev v58:PX:=.v 58
abbrev v59:PX:=.v 59
abbrev v60:PX:=.v 60
abbrev v61:PX:=.v 61
abbrev v62:PX:=.v 62
abbrev v63:PX:=.v 63
abbrev v64:PX:=.v 64
abbrev v65:PX:=.v 65
abbrev v66:PX:=.v 66
abbrev v67:PX:=.v 67
abbrev v68:PX:=.v 68
abbrev v69:PX:=.v 69
abbrev v70:PX:=.v 70
abbrev v71:PX:=.v 71
abbrev v72:PX:=.v 72
abbrev v73:PX:=.v 73
abbrev v74:PX:=.v 74
abbrev v75:PX:=.v 75
abbrev v76:PX:=.v 76
abbrev v77:PX:=.v 77
abbrev v78:PX:=.v 78
abbrev v79:PX:=.v 79
abbrev l0:PX:=.l 0
abbrev l1:PX:=.l 1
abbrev l2:PX:=.l 2
abbrev l3:PX:=.l 3
abbrev l4:PX:=.l 4
abbrev l5:PX:=.l 5
abbrev l6:PX:=.l 6
abbrev l7:PX:=.l 7
abbrev l8:PX:=.l 8
abbrev l9:PX:=.l 9
abbrev l10:PX:=.l 10
abbrev l11:PX:=.l 11
abbrev l12:PX:=.l 12
abbrev l13:PX:=.l 13
abbrev l14:PX:=.l 14
abbrev l15:PX:=.l 15
abbrev l16:PX:=.l 16
abbrev l17:PX:=.l 17
abbrev l18:PX:=.l 18
abbrev l19:PX:=.l 19
abbrev l20:PX:=.l 20
abbrev l21:PX:=.l 21
abbrev l22:PX:=.l 22
abbrev l23:PX:=.l 23
abbrev l24:PX:=.l 24
abbrev l25:PX:=.l 25
abbrev l26:PX:=.l 26
abbrev l27:PX:=.l 27
abbrev l28:PX:=.l 28
abbrev l29:PX:=.l 29
abbrev l30:PX:=.l 30
abbrev l31:PX:=.l 31
abbrev l32:PX:=.l 32
abbrev l33:PX:=.l 33
abbrev l34:PX:=.l 34
abbrev l35:PX:=.l 35
abbrev l36:PX:=.l 36
abbrev l37:PX:=.l 37
abbrev l38:PX:=.l 38
abbrev l39:PX:=.l 39
abbrev l40:PX:=.l 40
abbrev l41:PX:=.l 41
abbrev l42:PX:=.l 42
abbrev l43:PX:=.l 43
abbrev l44:PX:=.l 44
abbrev l45:PX:=.l 45
abbrev l46:PX:=.l 46
abbrev l47:PX:=.l 47
abbrev l48:PX:=.l 48
abbrev l49:PX:=.l 49
abbrev l50:PX:=.l 50
abbrev l51:PX:=.l 51
abbrev l52:PX:=.l 52
abbrev l53:PX:=.l 53
abbrev l54:PX:=.l 54
abbrev l55:PX:=.l 55
abbrev l56:PX:=.l 56
abbrev l57:PX:=.l 57
abbrev l58:PX:=.l 58
abbrev l59:PX:=.l 59
abbrev l60:PX:=.l 60
abbrev l61:PX:=.l 61
abbrev l62:PX:=.l 62
abbrev l63:PX:=.l 63
abbrev l64:PX:=.l 64
abbrev l65:PX:=.l 65
abbrev l66:PX:=.l 66
abbrev l67:PX:=.l 67
abbrev l68:PX:=.l 68
abbrev l69:PX:=.l 69
abbrev l70:PX:=.l 70
abbrev l71:PX:=.l 71
abbrev l72:PX:=.l 72
abbrev l73:PX:=.l 73
abbrev l74:PX:=.l 74
abbrev l75:PX:=.l 75
abbrev l76:PX:=.l 76
abbrev l77:PX:=.l 77
abbrev l78:PX:=.l 78
abbrev l79:PX:=.l 79
abbrev l80:PX:=.l 80
abbrev l81:PX:=.l 81
abbrev l82:PX:=.l 82
abbrev l83:PX:=.l 83
abbrev l84:PX:=.l 84
abbrev l85:PX:=.l 85
abbrev l86:PX:=.l 86
abbrev l87:PX:=.l 87
abbrev l88:PX:=.l 88
abbrev l89:PX:=.l 89
abbrev l90:PX:=.l 90
abbrev l91:PX:=.l 91
abbrev l92:PX:=.l 92
abbrev l93:PX:=.l 93
abbrev l94:PX:=.l 94
abbrev l95:PX:=.l 95
abbrev l96:PX:=.l 96
abbrev l97:PX:=.l 97
abbrev l98:PX:=.l 98
abbrev l99:PX:=.l 99
abbrev T:PX:=.c (.bool true)
abbrev F:PX:=.c (.bool false)
abbrev k(n:Int):PX:=.c (.int .i64 n)
abbrev p(o:POp):PO:=⟨.l,o,none⟩
abbrev q(i:Nat)(o:POp):PO:=⟨.v i,o,none⟩
abbrev r(o:POp):PO:=⟨.n,o,none⟩
abbrev t(i:Nat)(x:PX):PO:=⟨.v i,.take x,none⟩
abbrev g1(o:POp)(x:PX):PO:=⟨.l,o,some (x,true)⟩
abbrev g0(o:POp)(x:PX):PO:=⟨.l,o,some (x,false)⟩
abbrev G1(i:Nat)(o:POp)(x:PX):PO:=⟨.v i,o,some (x,true)⟩
abbrev G0(i:Nat)(o:POp)(x:PX):PO:=⟨.v i,o,some (x,false)⟩
abbrev m(x:PX):PO:=⟨.l,.mov x,none⟩
abbrev a(o:Nat)(x:PX):PO:=⟨.l,.faddr o x,none⟩
abbrev d(x:PX):PO:=⟨.l,.load 1 false x false,none⟩
abbrev D(n:Nat)(x:PX):PO:=⟨.l,.load n true x false,none⟩
abbrev e(x:PX):PO:=⟨.l,.h (.load 1 false x false),none⟩
abbrev e2(n:Nat)(x:PX):PO:=⟨.l,.h (.load n true x false),none⟩
abbrev c(x:PX):PO:=⟨.l,.h (.loadc 1 false x),none⟩
abbrev C(n:Nat)(x:PX):PO:=⟨.l,.h (.loadc n true x),none⟩
abbrev n(x:PX):PO:=⟨.l,.len false x,none⟩
abbrev b(o:BinOp)(x y:PX):PO:=⟨.l,.bin o x y,none⟩
abbrev i(s:Nat)(x y:PX):PO:=⟨.l,.iaddrS s x y,none⟩
abbrev f(j:Nat)(xs:List PX):PO:=⟨.l,.pcall j xs,none⟩
abbrev fb(j:Nat)(xs:List PX):PO:=⟨.l,.h (.bcall j xs),none⟩
abbrev fh(j:Nat)(xs:List PX):PO:=⟨.l,.h (.call j xs),none⟩
abbrev R:=PC.region
abbrev B:=PC.branch
abbrev E:=PC.bregion
abbrev H:=PC.bbranch
abbrev S:=PC.seq
abbrev K:=PC.block
abbrev X:=PC.exit
abbrev Z:=PC.skip
abbrev Y:=PC.ret
end PI.Short
