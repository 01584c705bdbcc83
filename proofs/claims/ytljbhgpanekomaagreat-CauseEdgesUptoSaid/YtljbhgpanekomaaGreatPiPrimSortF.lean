import Derived.Test.YtljbhgpanekomaaGreatPiFunc
import Derived.Test.YtljbhgpanekomaaGreatPiLaw
import Derived.Shelf.SlSortCmp.NoneTotal
import Derived.Sort.OwnSortedInts
import Derived.Test.YtljbhgpanekomaaGreatPiCePlain
import Derived.WalkKit
import Derived.StillTailTactics
import Derived.Deep.RegionWith
import Derived.Test.YtljbhgpanekomaaGreatPiBase
set_option linter.unusedSimpArgs false
set_option linter.unusedVariables false
set_option linter.unusedSectionVars false
namespace PI
open Go Go.RowKit Go.Shelf Go.Proofs Go.Sort
section
variable{N:Nm}{P:Program}{ρ:Ren}
theorem Yf:∀{cs:List PV}{zs:List (Int×Int)},Hh cs=some zs->cs=zs.flatMap A0|[],zs,h=>by simp[Hh]at h;subst h;rfl|[e],zs,h=>by unfold Hh at h;split at h<;>simp_all|e::e'::es,zs,h=>by unfold Hh at h;split at h;{rename_i h0;simp at h0};{rename_i a b r h0;simp only[dO]at h0;obtain⟨rfl,rfl,rfl⟩:=h0;simp only[ab]at h;obtain⟨ys,h1,rfl⟩:=h;rw[Yf h1];rfl};simp at h
def DR(x:Int×Int):List Value:=[.int .i64 x.1,.int .i64 x.2]
def DB(zs:List (Int×Int)):List Value:=zs.flatMap DR
theorem Jr:∀zs:List (Int×Int),(DB zs).length=zs.length*2|[]=>rfl|z::zs=>by simp only[DB,bc,an,bb];have:=Jr zs;unfold DB at this;rw[this];simp[DR];omega
theorem Iu:∀zs:List (Int×Int),(zs.flatMap A0).length=zs.length*2|[]=>rfl|z::zs=>by simp only[bc,an,bb,Iu zs];simp[A0];omega
theorem Yg:∀(zs:List (Int×Int))(t:Nat)(h:t<zs.length*2),(DB zs)[t]?=some ((DR (zs.toArray[t/2]!))[t%2]!)|[],t,h=>by simp at h|z::zs,0,h=>by simp[DB,DR]|z::zs,1,h=>by simp[DB,DR]|z::zs,t+2,h=>by have:=Yg zs t (by simp at h;omega);simp only[DB,bc,DR,bj,cz,eP]at this⊢;rw[this];(have e1:(t+2)/2=t/2+1:=by omega);(have e2:(t+2)%2=t%2:=by omega);rw[e1,e2];simp
theorem Yh(zs:List (Int×Int)):flatK DR 2 zs.toArray=(DB zs).toArray:=by apply Array.ext';apply dR;intro t;by_cases h:t<zs.length*2;{rw[List.toList_toArray,Yg zs t h];have h1:=get_flatK DR 2 zs.toArray t (by simpa using h);rw[getElem!_pos _ t (by simpa using h)]at h1;rw[em,fc (by simpa using h),h1]};rw[eO (by simp;omega),eO (by simp[Jr];omega)]
theorem Yi{zs:List (Int×Int)}:∀{j:Nat}{x:PV},(zs.flatMap A0)[j]?=some x->∃z,x=.int .i64 z/\(DB zs)[j]?=some (.int .i64 z):=by induction zs with|nil=>intro j x h;simp at h|cons z zs ih=>intro j x h;match j with|0=>simp[A0]at h;exact⟨_,h.symm,by simp[DB,DR]⟩|1=>simp[A0]at h;exact⟨_,h.symm,by simp[DB,DR]⟩|j+2=>simp only[bc,A0,bj,cz,eP]at h;obtain⟨z',h1,h2⟩:=ih h;exact⟨z',h1,by simpa[DB,DR]using h2⟩
theorem c5b{w:World}{g:Nat}{cur:Array Value}{e:TypeId}{ss:List Value}(hb:w.heap[g]?=some (.cells cur e (0,0)))(ht:cur.toList.take ss.length=ss):Holds (id:Value->Value) w g 0 ss.toArray:=by intro j hj;(have rK:j<ss.length:=by simpa using hj);refine⟨?_,by simp[World.frozen?,hb]⟩;(have h1:(cur.toList.take ss.length)[j]?=ss[j]?:=by rw[ht]);rw[eC rK]at h1;simp only[World.cell?,hb,bl];simp only[Option.isSome_none,bh,if_false];rw[<-em,h1];simp[rK]
theorem c7q{w:World}{g n:Nat}{os:Array Obj}{cur:Array Value}{e:TypeId}{fr:Nat×Nat}(d:Array Value)(hb:w.heap[g]?=some (.cells cur e fr)):(grow (putRow id (Sort.ahead w n) g 0 d) os).heap[g]?=some (.cells (putCells id 0 d cur) e fr):=by have hg:g<w.heap.size:=(cm.1 hb).1;rw[heap_grow_old _ _ (by simpa using hg)];simp[putRow,mapBlock,Sort.ahead,Array.getElem?_modify,hb,onCells]
theorem c0P{w:World}{g n:Nat}{os:Array Obj}(d:Array Value):w.grownBy (grow (putRow id (Sort.ahead w n) g 0 d) os) (some g):=by refine⟨rfl,rfl,rfl,by simp,λk hk fA=>?_⟩;rw[heap_grow_old _ _ (by simpa using hk)];have:g≠k:=λe=>fA (by rw[e]);simp[putRow,mapBlock,Sort.ahead,Array.getElem?_modify,this]
def GC(x y:Int×Int):Int:=if x.1<y.1 then-1 else if y.1<x.1 then 1 else if x.2<y.2 then-1 else if y.2<x.2 then 1 else 0
theorem Lm(x y:Int×Int):ltOf GC x y=decide (x.1<y.1\/x.1=y.1/\x.2<y.2):=by unfold ltOf GC;by_cases h1:x.1<y.1;{simp[h1]};by_cases h2:y.1<x.1;{simp[h1,h2];omega};by_cases h3:x.2<y.2;{simp[h1,h2,h3];omega};by_cases h4:y.2<x.2;{simp[h1,h2,h3,h4]};simp[h1,h2,h3,h4]
theorem c2v:SWO (ltOf GC)where
 irrefl x:=by rw[Lm];simp
 trans x y z h1 h2:=by rw[Lm]at*;simp at*;omega
 ntrans x y z h1 h2:=by rw[Lm]at*;simp at*;omega
theorem c5c:(λx y:Int×Int=>!(ltOf GC) y x)=B3:=by funext x y;rw[Lm,B3,<-decide_not];refine decide_eq_decide.2 ?_;omega
theorem c9j{k kc:Nat}(hk:N.fn k=ρ.f 6)(L:SlLaysF0.n6 P ρ)(aE:∀w,(isAgg (ρ.t 24)).run P w=.ok true w)(zE:∀w,(Go.sizeOf (ρ.t 24)).run P w=.ok 2 w)(eg:∀args w,(callFunc (N.fn kc) args).run P w=.ok (.enter (N.fn kc) args) w)(fC:∀(x y:Int×Int)(W:World),Calls P (N.fn kc) #[.agg (DR x).toArray,.agg (DR y).toArray] W λe w'=>e=.returned (.int .i64 (GC x y))/\∃q os',w'=grow (W.drewN q) os'):G9 N P k (Ha kc):=by intro args r h h' hg w G vals gB ft fw;unfold Ha at hg;split at hg;{rename_i n len kf;split at hg;{rename_i cs gC;split at hg;{rename_i fe;obtain⟨rfl,fe⟩:=fe;simp only[ab,ac]at hg;obtain⟨zs,lc,rfl,rfl⟩:=hg;rw[c49];have hz:=Yf lc;(have kL:zs.length=len:=by have:=bk List.length hz;rw[Iu]at this;simp at this;omega);obtain⟨l⟩:=vals;match l,ft with|[v,v2],_=>have hv:=fw 0 v _ rfl rfl;have jE:=fw 1 v2 _ rfl rfl;(obtain rfl:v2=.func (.func (N.fn kf)) #[] #[]:=by cases jE with|func _ fs cs _ _ _ e1 e2=>have:fs=#[]:=Array.eq_empty_of_size_eq_zero (by simpa using e1);subst this;have:cs=#[]:=Array.eq_empty_of_size_eq_zero (by simpa using e2);subst this;rfl);cases hv with|rowp _ _ _ _ b cap hb fx gx=>rcases gB.heap.1 n _ gC with hx|⟨b',k1,k2,f,cv,T,a1,a2,a3⟩;{simp at hx};(have:b'=b:=by rw[hb]at k1;simpa using k1.symm);subst this;have jB:b'<w.heap.size:=(cm.1 a1).1;(have nG:cv.toList.take (DB zs).length=DB zs:=by rw[Jr];apply dR;intro j;by_cases hj:j<zs.length*2;{rw[eC hj,em];(have q6:j<cv.size:=by omega);(have h1:cs[j]?=(zs.flatMap A0)[j]?:=by have:=bk (λl:List PV=>l[j]?) hz;rw[eC (by omega)]at this;exact this);obtain⟨x,hx⟩:∃x,(zs.flatMap A0)[j]?=some x:=⟨_,am (by rw[Iu];exact hj)⟩;obtain⟨z,rfl,h2⟩:=Yi hx;have h4:=(a3 j cv[j] _ (by simp[q6]) (h1.trans hx)).1;(have h3:cv[j]?=some cv[j]:=by simp[q6]);generalize hc:cv[j]=c4 at h4 h3;cases h4;rw[h3,h2]};rw[List.getElem?_take_eq_none (by omega),eO (by rw[Jr];omega)]);(have hH:HoldsK DR 2 w b' 0 zs.toArray:=by unfold HoldsK;rw[Yh];exact c5b a1 nG);have hc:=AnyQ.slices_SortFunc_total L 2 aE zE DR (λ_=>rfl) (λx v hv=>by simp[DR]at hv;rcases hv with rfl|rfl<;>rfl) GC c2v (N.fn kf) #[] b' 0 cap zs.toArray w eg (λm os dk hs x y=>fC x y _) hH jB (by simpa[kL]using fe.2) (λx y h1 h2=>by rw[Lm]at h1 h2;simp at h1 h2;exact Prod.ext (by omega) (by omega));rw[c5c]at hc;simp only[eY,kL]at hc;refine(hk▸hc).mono ?_;rintro e w'⟨rfl,m,os,rfl⟩;obtain⟨ts,iE⟩:∃ts,ts=zs.mergeSort B3:=⟨_,rfl⟩;(have mg:ts.length=len:=by rw[<-kL,iE];exact List.length_mergeSort _);rw[<-iE];show∃v G',_/\_/\_/\_;have sU:=c0P (w:=w) (g:=b') (n:=m) (os:=os) (DB ts).toArray;have o6:=c7q (n:=m) (os:=os) (DB ts).toArray a1;(have zO:sortWorldK DR 2 w b' 0 m ts.toArray os=grow (putRow id (Sort.ahead w m) b' 0 (DB ts).toArray) os:=by unfold sortWorldK putRowK;rw[Yh]);rw[zO];generalize kz:grow (putRow id (Sort.ahead w m) b' 0 (DB ts).toArray) os=w' at sU o6;obtain⟨g1,g2,g3,g4,g5⟩:=sU;have j5:∀x,x<w.heap.size->x≠b'->w'.heap[x]?=w.heap[x]?:=λx hx fA=>g5 x hx (by simpa using fA);(have gW:(putCells id 0 (DB ts).toArray cv).size=cv.size:=by simp[putCells]);have ma:ShapeLe w w':=.one b' (λx hx fA=>j5 x hx fA) (λs hs=>by simp only[World.shape?,a1]at hs;simp only[World.shape?,o6,gW];exact hs) (λs hs=>by rw[Sw a1]at hs;simp at hs);(have ff:Ext w G w' G:=by refine⟨g1,g2,g3,g4,?_,?_,λ_ _ h=>.inl h,λ_ h=>.inr h,λ_ _ h=>h,ma,rfl⟩;{intro x hx ho;exact j5 x hx (by rintro rfl;rw[k2]at ho;simp at ho)};intro x o hf;refine⟨hf,?_⟩;(have fA:x≠b':=by rintro rfl;exact f o hf);simp only[World.cell?,j5 x (gB.fixlt x o hf) fA]);(have fk:BD (λk=>k=.hobj n) w G w' G:=by refine⟨?_,λ_ _ h=>h⟩;intro x kx hx fA;refine⟨hx,j5 x (gB.owlt x kx hx) ?_,λ_ h=>h⟩;rintro rfl;rw[k2]at hx;simp only[aa]at hx;exact fA hx.symm);refine⟨_,G,rfl,.tuple _ _ rfl (by intro i c p hc hp;simp at hc),ff,?_⟩;refine⟨gB.only,λx o hf=>bw (gB.fixlt x o hf) g4,λx kx hx=>bw (gB.owlt x kx hx) g4,?_,λm x hx=>by simpa using gB.hdom m x hx⟩;refine gB.heap.keepBut ff fk (by intro n' k' fA;simp[fA]) ?_;intro lH;refine .inr ⟨b',hb,k2,f,_,T,o6,?_,?_⟩;{rw[gW];have h0:=fe.1;simp only[an,List.length_drop,Iu];omega};intro j c x hc hx;(have nZ:j<cv.size:=by rw[<-gW];exact(cm.1 hc).1);by_cases hj:j<len*2;{(have oc:j<(DB ts).length:=by rw[Jr];omega);rw[ap (by rw[Iu];omega)]at hx;obtain⟨z,rfl,h2⟩:=Yi hx;(have:c=.int .i64 z:=by simp[putCells,nZ,oc]at hc;rw[am oc]at h2;simp only[aa]at h2;rw[<-hc,h2]);subst this;exact⟨.int _ _,rfl,True.intro⟩};(have oc:(ts.flatMap A0).length<=j:=by rw[Iu];omega);rw[ar oc]at hx;simp only[de,Iu]at hx;have hx:cs[len*2+(j-ts.length*2)]?=some x:=hx;rw[show len*2+(j-ts.length*2)=j by omega]at hx;(have jh:cv[j]?=some c:=by simp[putCells,nZ,show¬j<(DB ts).length by rw[Jr];omega]at hc;simp[nZ,hc]);exact(a3 j c x jh hx).keep ff fk (by simp)};simp at hg};simp at hg};{rename_i o q;simp only[aa,ac]at hg;obtain⟨rfl,rfl⟩:=hg;obtain⟨l⟩:=vals;match l,ft with|[v,v2],_=>have hv:=fw 0 v _ rfl rfl;(obtain⟨p,cap,rfl⟩:∃p cap,v=.slice p 0 cap:=by cases hv with|nils=>exact⟨none,0,rfl⟩|void _ a cap=>exact⟨some a,cap,rfl⟩|list _ b off len cap sz _ cv fe fx _ _ _ _=>simp at fe;subst fe;exact⟨_,cap,rfl⟩);refine(hk▸AnyF.slices_SortFunc_none L p cap v2 w).mono ?_;rintro e w'⟨rfl,rfl⟩;exact⟨_,G,rfl,.tuple _ _ rfl (by intro i c p hc hp;simp at hc),Ext.refl _ _,gB⟩};simp at hg
end
end PI
set_option maxRecDepth 100000
namespace Go.Proofs.YtljbhgpanekomaaGreat.Pi
open Go Go.Shelf Go.RowKit Go.Lib Go.Sort PI
set_option maxHeartbeats 4000000 in theorem c8j(b:Nat)(x y:Int)(W:World)(h0:x≠0)(hx:W.cell? ⟨b,0,none⟩=some (.int .i64 x))(hy:W.cell? ⟨b,1,none⟩=some (.int .i64 y)):Calls Tryz.prog 51 #[.slice (some ⟨b,0,none⟩) 2 2] W λe w'=>e=.returned (.int .i64 x)/\w'=W:=by(have h1:(x !=0)=true:=by simp[h0]);go_enter Tryz.func51,Tryz.ntmps51;go_wp2;refine wp_loop_rounds 1 ?_;rw[rounds_succ];go_wp2;go_ret;exact⟨rfl,rfl⟩
set_option maxHeartbeats 4000000 in theorem d05(b:Nat)(y:Int)(W:World)(h0:y=0\/y≠0)(hx:W.cell? ⟨b,0,none⟩=some (.int .i64 0))(hy:W.cell? ⟨b,1,none⟩=some (.int .i64 y)):Calls Tryz.prog 51 #[.slice (some ⟨b,0,none⟩) 2 2] W λe w'=>e=.returned (.int .i64 y)/\w'=W:=by go_enter Tryz.func51,Tryz.ntmps51;go_wp2;refine wp_loop_rounds 3 ?_;rw[rounds_succ];go_wp2;rw[rounds_succ];rcases h0 with rfl|h0;{go_wp2;rw[rounds_succ];go_wp2;go_ret;exact⟨rfl,rfl⟩};(have h1:(y !=0)=true:=by simp[h0]);go_wp2;go_ret;exact⟨rfl,rfl⟩
theorem d06(b:Nat)(x y:Int)(W:World)(hx:W.cell? ⟨b,0,none⟩=some (.int .i64 x))(hy:W.cell? ⟨b,1,none⟩=some (.int .i64 y)):Calls Tryz.prog 51 #[.slice (some ⟨b,0,none⟩) 2 2] W λe w'=>e=.returned (.int .i64 (if x=0 then y else x))/\w'=W:=by by_cases h:x=0;{subst h;rw[ah rfl];exact d05 b y W (by omega) hx hy};rw[ai h];exact c8j b x y W h hx hy
theorem c3Y(x y:Int×Int):(if Lib.compareInt x.1 y.1=0 then Lib.compareInt x.2 y.2 else Lib.compareInt x.1 y.1)=GC x y:=by unfold Lib.compareInt GC;(repeat' split)<;>first|rfl|omega
theorem c3Z{P:Program}{id:Nat}{Q:Exit->Act->World->Prop}{a:Act}{w:World}{l:List Oper}(n:Nat)(hm:P.follows .mixedOrders=true)(hB:Region.lexTailB .any l.toArray n=true)(h:wpStill P l.toArray w.drew (λa'=>wpList P l.toArray Q (l.drop n) a' w.drew) (l.take n) a):(Code.region id l.toArray true).wp P Q a w:=wp_region_still_tail n hm hB h
set_option maxHeartbeats 4000000 in theorem c8k(x y:Int×Int)(W:World):Calls Tryz.prog 50 #[.agg (DR x).toArray,.agg (DR y).toArray] W λe w'=>e=.returned (.int .i64 (GC x y))/\∃q os',w'=grow (W.drewN q) os':=by have oq:=λx y W'=>Any.cmp_Compare_int Tryz.lays122 x y W';change∀x y W',Calls Tryz.prog 52 #[.int .i64 x,.int .i64 y] W' (λe w'=>e=.returned (.int .i64 (Lib.compareInt x y))/\w'=W')at oq;rw[<-c3Y];obtain⟨x1,x2⟩:=x;obtain⟨y1,y2⟩:=y;simp only;show Calls Tryz.prog 50 #[.agg #[.int .i64 x1,.int .i64 x2],.agg #[.int .i64 y1,.int .i64 y2]] W _;have h1:=oq x1 y1;have h2:=oq x2 y2;generalize Lib.compareInt x1 y1=r1 at h1⊢;generalize Lib.compareInt x2 y2=r2 at h2⊢;clear oq;have wE:=λb W hx hy=>d06 b r1 r2 W hx hy;generalize hr:(if r1=0 then r2 else r1)=r at wE⊢;clear hr;go_enter Tryz.func50,Tryz.ntmps50;go_wp2;refine c3Z 10 (by kernel_rfl) (by kernel_rfl) ?_;simp only[List.take_succ_cons,d9,List.drop_succ_cons,List.drop_zero];still_step;still_step;still_step;still_step;still_call(h1 _);still_step;still_step;still_step;still_step;still_call(h2 _);refine wpStill_nil ?_;go_wp2_with fail;refine(wE _ _ ?_ ?_).mono ?_;{simp only[World.cell?_drew];exact World.cell?_alloc_at _ _ _ _ (by simp)};{simp only[World.cell?_drew];exact World.cell?_alloc_at _ _ _ _ (by simp)};rintro e w'⟨rfl,rfl⟩;simp only;go_wp2;go_ret;exact⟨rfl,1,_,by rw[alloc_eq_grow,alloc_eq_grow,alloc_eq_grow,grow_grow,grow_grow];rfl⟩
end Go.Proofs.YtljbhgpanekomaaGreat.Pi
namespace PI.Sc
def fup{α:Type}(f:Nat->α)(v:Nat)(x:α):Nat->α:=λu=>if u=v then x else f u
theorem CN{α:Type}(f:Nat->α)(v:Nat)(x:α):fup f v x v=x:=by simp[fup]
theorem CY{α:Type}(f:Nat->α){v u:Nat}(x:α)(h:u≠v):fup f v x u=f u:=by simp[fup,h]
def UY(n:Nat)(N:Nat->List Nat)(f:Nat->Nat):Prop:=∀u,u<n->∀w∈N u,f u<f w
structure TS where
 ix:Nat->Nat
 lo:Nat->Nat
 on:Nat->Bool
 st:List Nat
 ct:Nat
 nu:Nat->Nat
 pa:Nat
def GI(t:TS)(w:Nat):TS:={t with ct:=t.ct+1,ix:=fup t.ix w (t.ct+1),lo:=fup t.lo w (t.ct+1),st:=w::t.st,on:=fup t.on w true}
def QC(t:TS)(p k:Nat):TS:={t with lo:=fup t.lo p (min (t.lo p) k)}
def Fin1(t:TS)(k:Nat)(l:List Nat):Prop:=∀w∈l,0<t.ix w/\(w∈t.st->k<=t.ix w)
theorem Fin1.mono{t t':TS}{k k':Nat}{l:List Nat}(h:Fin1 t k l)(lI:∀w,0<t.ix w->t'.ix w=t.ix w)(fM:∀w,0<t.ix w->w∈t'.st->w∈t.st)(hk:k'<=k):Fin1 t' k' l:=by intro w hw;obtain⟨h1,h2⟩:=h w hw;rw[lI w h1];exact⟨h1,λh3=>bg hk (h2 (fM w h1 h3))⟩
def Seg(N:Nat->List Nat)(b:Nat)(t:TS):List (Nat×Nat)->List Nat->Prop|[],r=>r=[]|(v,i)::F,r=>(F=[]->t.ix v=b)/\∃s r',r=s++v::r'/\i<=(N v).length/\t.lo v<=t.ix v/\(∀x∈s,Fin1 t (t.lo v) (N x))/\Fin1 t (t.lo v) ((N v).take i)/\Seg N b t F r'
theorem Seg.mono{N:Nat->List Nat}{b:Nat}{t t':TS}(lI:∀w,0<t.ix w->t'.ix w=t.ix w)(fM:∀w,0<t.ix w->w∈t'.st->w∈t.st):∀(F:List (Nat×Nat))(r:List Nat),Seg N b t F r->(∀v∈r,0<t.ix v)->(∀v∈r,t'.lo v<=t.lo v)->Seg N b t' F r|[],r,h,_,_=>h|(v,i)::F,r,⟨h0,s,r',e,h1,h2,h3,h4,h5⟩,hp,hl=>by subst e;have hv:=hp v (by simp);have wF:=hl v (by simp);refine⟨λe=>?_,s,r',rfl,h1,?_,λx hx=>(h3 x hx).mono lI fM wF,h4.mono lI fM wF,Seg.mono lI fM F r' h5 (λx hx=>hp x (by simp[hx])) (λx hx=>hl x (by simp[hx]))⟩;{rw[lI v hv];exact h0 e};rw[lI v hv];omega
theorem Seg.step{N:Nat->List Nat}{b v i:Nat}{t:TS}{F:List (Nat×Nat)}{r:List Nat}(h:Seg N b t ((v,i)::F) r)(hi:i<(N v).length)(hf:Fin1 t (t.lo v) [(N v)[i]]):Seg N b t ((v,i+1)::F) r:=by obtain⟨h0,s,r',e,h1,h2,h3,h4,h5⟩:=h;refine⟨h0,s,r',e,hi,h2,h3,?_,h5⟩;intro w hw;rw[cu,am hi]at hw;rcases ay.1 hw with hw|hw;{exact h4 w hw};exact hf w hw
structure TI(n:Nat)(N:Nat->List Nat)(b k:Nat)(t:TS)(F:List (Nat×Nat)):Prop where
 on:∀v,t.on v=true↔v∈t.st
 nd:t.st.Pairwise (λa c=>t.ix c<t.ix a)
 lt:∀v∈t.st,v<n
 pos:∀v∈t.st,b<=t.ix v/\b<=t.lo v/\t.ix v<=t.ct
 b0:0<b
 cl:∀v,0<t.ix v->v∉t.st->t.nu v<t.pa/\∀w∈N v,0<t.ix w/\w∉t.st/\t.nu w<=t.nu v
 seg:Seg N b t F t.st
 vis:∀v,v<k->0<t.ix v
section
variable{n:Nat}{N:Nat->List Nat}{b k v i:Nat}{t:TS}{F:List (Nat×Nat)}
theorem TI.ixp(h:TI n N b k t F):∀x∈t.st,0<t.ix x:=λx hx=>by have:=(h.pos x hx).1;have:=h.b0;omega
theorem TI.top(h:TI n N b k t ((v,i)::F)):v∈t.st/\i<=(N v).length/\t.lo v<=t.ix v:=by obtain⟨h0,s,r',e,h1,h2,_⟩:=h.seg;exact⟨by rw[e];simp,h1,h2⟩
theorem TI.step(h:TI n N b k t ((v,i)::F))(hi:i<(N v).length)(hf:Fin1 t (t.lo v) [(N v)[i]]):TI n N b k t ((v,i+1)::F):={h with seg:=h.seg.step hi hf}
theorem TI.skip(h:TI n N b k t ((v,i)::F))(hi:i<(N v).length)(h0:0<t.ix (N v)[i])(h1:t.on (N v)[i]=false):TI n N b k t ((v,i+1)::F):=by refine h.step hi ?_;intro w hw;rw[da]at hw;subst hw;exact⟨h0,λhm=>by rw[(h.on _).2 hm]at h1;cases h1⟩
theorem TI.min(h:TI n N b k t F){p m:Nat}(hm:b<=m):TI n N b k (QC t p m) F:=by(have oh:∀x,(QC t p m).lo x<=t.lo x:=by intro x;show fup t.lo p _ x<=_;by_cases e:x=p;{subst e;rw[CN];omega};rw[CY _ _ e];exact ao _);refine{on:=h.on,nd:=h.nd,lt:=h.lt,b0:=h.b0,cl:=h.cl,vis:=h.vis,seg:=Seg.mono (t:=t) (t':=QC t p m) (λ_ _=>rfl) (λ_ _ h=>h) F t.st h.seg h.ixp (λx _=>oh x),pos:=?_};intro x hx;obtain⟨h1,h2,h3⟩:=h.pos x hx;refine⟨h1,?_,h3⟩;show _<=fup t.lo p _ x;by_cases e:x=p;{subst e;rw[CN];omega};rw[CY _ _ e];exact h2
theorem TI.enter0(h:TI n N b k t F)(hb:F≠[]->b<=t.ct){w:Nat}(hw:w<n)(h0:t.ix w=0){b':Nat}(fF:F≠[]->b'=b)(fQ:F=[]->b'=t.ct+1){k':Nat}(hk:k'=k\/(k'=k+1/\w=k)):TI n N b' k' (GI t w) ((w,0)::F):=by
 have hp:=h.ixp;have mQ:w∉t.st:=λhm=>by have:=hp w hm;omega
 have lI:∀x,0<t.ix x->(GI t w).ix x=t.ix x:=λx hx=>CY _ _ (by rintro rfl;omega);have r5:∀x,x∈t.st->(GI t w).lo x=t.lo x:=λx hx=>CY _ _ (by rintro rfl;exact mQ hx);have fM:∀x,0<t.ix x->x∈(GI t w).st->x∈t.st:=by intro x hx hm;rcases ba.1 hm with rfl|hm;{omega};exact hm
 have iy:(GI t w).ix w=t.ct+1:=CN _ _ _;have wG:F=[]->t.st=[]:=λe=>by have:=h.seg;rw[e]at this;exact this
 have hb'p:b'<=t.ct+1/\0<b':=by by_cases e:F=[];{rw[fQ e];omega};rw[fF e];have:=hb e;have:=h.b0;omega
 refine{on:=?_,nd:=?_,lt:=?_,pos:=?_,b0:=hb'p.2,cl:=?_,seg:=?_,vis:=?_};{intro u;show fup t.on w true u=true↔u∈w::t.st;by_cases e:u=w;{subst e;simp[fup]};rw[CY _ _ e,h.on];simp[e]}
 {refine dU.2 ⟨λc hc=>?_,h.nd.imp_of_mem λha hc fm=>?_⟩;{rw[lI c (hp c hc),iy];have:=(h.pos c hc).2.2;omega};rw[lI _ (hp _ ha),lI _ (hp _ hc)];exact fm}
 {intro x hx;rcases ba.1 hx with rfl|hx;{exact hw};exact h.lt x hx}
 {intro x hx;rcases ba.1 hx with rfl|hx;{rw[iy];show _/\_<=fup t.lo x _ x/\_<=t.ct+1;rw[CN];omega};(have e:F≠[]:=λe=>by rw[wG e]at hx;cases hx);rw[lI x (hp x hx),r5 x hx,fF e];obtain⟨h1,h2,h3⟩:=h.pos x hx;exact⟨h1,h2,Nat.le_succ_of_le h3⟩}
 {intro x hx hm;have mD:x≠w:=λe=>hm (by subst e;exact ep);(have iI:0<t.ix x:=by have:(GI t w).ix x=t.ix x:=CY _ _ mD;omega);obtain⟨h1,h2⟩:=h.cl x iI (λhh=>hm (dN _ hh));refine⟨h1,λy hy=>?_⟩;obtain⟨h3,h4,h5⟩:=h2 y hy;refine⟨by rw[lI y h3];exact h3,?_,h5⟩;intro hh;exact h4 (fM y h3 hh)}
 {refine⟨λe=>(by rw[iy,fQ e]),[],t.st,rfl,dV _,?_,λx hx=>(by cases hx),λx hx=>(by simp at hx),?_⟩;{rw[iy];show fup t.lo w _ w<=_;rw[CN];exact ao _};by_cases e:F=[];{subst e;exact wG rfl};rw[fF e];exact Seg.mono lI fM F t.st h.seg hp (λx hx=>by rw[r5 x hx];exact ao _)}
 intro x hx;by_cases e:x=w;{subst e;rw[iy];omega}
 have h1:=h.vis x (by rcases hk with rfl|⟨rfl,rfl⟩<;>omega);rw[lI x h1];exact h1
theorem TI.enter(h:TI n N b k t ((v,i)::F))(hi:i<(N v).length)(hw:(N v)[i]<n)(h0:t.ix (N v)[i]=0):TI n N b k (GI t (N v)[i]) (((N v)[i],0)::(v,i+1)::F):=by obtain⟨hv,_,hl⟩:=h.top;obtain⟨p1,p2,p3⟩:=h.pos v hv;have h1:TI n N b k (GI t (N v)[i]) (((N v)[i],0)::(v,i)::F):=h.enter0 (λ_=>by omega) hw h0 (λ_=>rfl) (λe=>by cases e) (.inl rfl);refine{h1 with seg:=?_};obtain⟨g0,s,r',e,g1,g2,g3,g4,g5⟩:=h1.seg;refine⟨λe=>(by cases e),s,r',e,g1,g2,g3,g4,g5.step hi ?_⟩;intro w hw;rw[da]at hw;subst hw;(have fA:v≠(N v)[i]:=λe=>by have:=h.ixp v hv;rw[<-e]at h0;omega);show 0<fup t.ix _ _ _/\(_->fup t.lo _ _ v<=fup t.ix _ _ _);rw[CN,CY _ _ fA];exact⟨by omega,λ_=>by omega⟩
theorem TI.begin(h:TI n N b k t [])(hk:k<n)(h0:t.ix k=0):TI n N (t.ct+1) (k+1) (GI t k) [(k,0)]:=h.enter0 (λe=>absurd rfl e) hk h0 (λe=>absurd rfl e) (λ_=>rfl) (.inr ⟨rfl,rfl⟩)
theorem TI.done(h:TI n N b k t [])(hk:n<=k):∀v,v<n->t.nu v<t.pa/\∀w∈N v,t.nu w<=t.nu v:=by intro v hv;have hs:t.st=[]:=h.seg;obtain⟨h1,h2⟩:=h.cl v (h.vis v (by omega)) (by rw[hs];simp);exact⟨h1,λw hw=>(h2 w hw).2.2⟩
end
def tot:Nat->(Nat->Nat)->Nat|0,_=>0|n+1,f=>tot n f+f n
theorem Ku{f g:Nat->Nat}:∀n,(∀v,v<n->f v=g v)->tot n f=tot n g|0,_=>rfl|n+1,h=>by rw[tot,tot,Ku n (λv hv=>h v (by omega)),h n (by omega)]
theorem Mu{f g:Nat->Nat}:∀n,(∀v,v<n->f v<=g v)->tot n f<=tot n g|0,_=>ao _|n+1,h=>by have:=Mu n (λv hv=>h v (by omega));have:=h n (by omega);simp only[tot];omega
theorem Mv{f g:Nat->Nat}{w c:Nat}:∀n,(∀v,v<n->f v<=g v)->w<n->f w+c<=g w->tot n f+c<=tot n g|0,_,h,_=>by omega|n+1,h,hw,hc=>by by_cases e:w=n;{subst e;have:=Mu w (λv hv=>h v (by omega));simp only[tot];omega};have:=Mv n (λv hv=>h v (by omega)) (by omega) hc;have:=h n (by omega);simp only[tot];omega
theorem c8C{f:Nat->Nat}{n v:Nat}(h:tot n f=0)(hv:v<n):f v=0:=by have:=Mv (f:=λ_=>0) (g:=f) (w:=v) (c:=f v) n (λ_ _=>dV _) hv (by omega);omega
theorem UZ{f g:Nat->Nat}{w c:Nat}:∀n,(∀v,v<n->v≠w->f v=g v)->w<n->f w+c=g w->tot n f+c=tot n g|0,_,h,_=>by omega|n+1,h,hw,hc=>by by_cases e:w=n;{subst e;have:=Ku w (λv hv=>h v (by omega) (by omega));simp only[tot];omega};have:=UZ n (λv hv=>h v (by omega)) (by omega) hc;have:=h n (by omega) (λe'=>e e'.symm);simp only[tot];omega
def cnt(n:Nat)(N:Nat->List Nat)(O:List Nat)(w:Nat):Nat:=tot n λu=>if u∈O then 0 else(N u).count w
structure OI(n:Nat)(N:Nat->List Nat)(O R:List Nat)(rest:List Nat)(c:Nat->Nat):Prop where
 cn:∀w,w<n->c w=cnt n N O w+rest.count w
 nd:(O++R).Nodup
 mem:∀v,v∈O++R↔v<n/\c v=0
 ord:∀i(h:i<O.length)a,a<n->O[i]∈N a->a∈O.take i
section
variable{n:Nat}{N:Nat->List Nat}{O R:List Nat}{c:Nat->Nat}
theorem c4k{l:List Nat}{a:Nat}(h:a∈l):0<l.count a:=List.count_pos_iff.2 h
theorem OI.pop{v:Nat}{R':List Nat}(h:OI n N O R [] c)(hp:R.Perm (v::R')):v<n/\OI n N (O++[v]) R' (N v) c:=by
 have xZ:v∈R:=hp.mem_iff.2 (by simp);obtain⟨hv,lr⟩:=(h.mem v).1 (by simp[xZ]);have rx:(O++R).Perm ((O++[v])++R'):=by rw[be];exact hp.append_left O
 have fJ:=rx.nodup_iff.1 h.nd;have lu:v∉O:=by intro hm;rw[be]at fJ;exact(ee.1 fJ).2.2 v hm v (by simp) rfl
 refine⟨hv,?_,fJ,λu=>by rw[<-rx.mem_iff];exact h.mem u,?_⟩;{intro w hw;rw[h.cn w hw,List.count_nil,dp];symm;refine UZ (w:=v) n ?_ hv ?_;{intro u _ hu;simp[hu]};simp[lu]}
 intro i hi a ha hm;by_cases e:i<O.length;{rw[eT e]at hm;rw[ev (by omega)];exact h.ord i e a ha hm}
 have:i=O.length:=by simp at hi;omega
 subst this;simp at hm;rw[eJ];{by_cases hx:a∈O;{exact hx};exfalso;have h1:=h.cn v hv;rw[lr,List.count_nil]at h1;have h2:=c8C (n:=n) (v:=a) (f:=λu=>if u∈O then 0 else(N u).count v) (by unfold cnt at h1;omega) ha;simp only[hx,if_false]at h2;have:=c4k hm;omega}
 rfl
theorem OI.dec{w:Nat}{r:List Nat}(h:OI n N O R (w::r) c)(hw:w<n):0<c w/\(c w=1->OI n N O (w::R) r (fup c w (c w-1)))/\(c w≠1->OI n N O R r (fup c w (c w-1))):=by
 have h0:=h.cn w hw;rw[List.count_cons_self]at h0;have fS:0<c w:=by omega
 have hc:∀x,x<n->fup c w (c w-1) x=cnt n N O x+r.count x:=by intro x hx;by_cases e:x=w;{subst e;rw[CN];omega};rw[CY _ _ e,h.cn x hx,List.count_cons_of_ne (λe'=>e e'.symm)]
 have x5:w∉O++R:=λhm=>by have:=((h.mem w).1 hm).2;omega
 refine⟨fS,λh1=>⟨hc,?_,?_,h.ord⟩,λh1=>⟨hc,h.nd,?_,h.ord⟩⟩;{have hp:(O++w::R).Perm (w::(O++R)):=List.perm_middle;exact hp.nodup_iff.2 (dX.2 ⟨x5,h.nd⟩)}
 {intro v;have hp:(O++w::R).Perm (w::(O++R)):=List.perm_middle;rw[hp.mem_iff,ba,h.mem];by_cases e:v=w;{subst e;rw[CN];simp[hw,h1]};rw[CY _ _ e];simp[e]}
 intro v;rw[h.mem];by_cases e:v=w;{subst e;rw[CN];constructor<;>intro hh<;>omega}
 rw[CY _ _ e]
theorem OI.perm{R' rest:List Nat}(h:OI n N O R rest c)(hp:R'.Perm R):OI n N O R' rest c:=⟨h.cn,(hp.append_left O).nodup_iff.2 h.nd,λv=>by rw[(hp.append_left O).mem_iff];exact h.mem v,h.ord⟩
theorem OI.lt{rest:List Nat}(h:OI n N O R rest c):∀v∈O++R,v<n:=λv hv=>((h.mem v).1 hv).1
end
theorem Hj:∀(n:Nat)(O:List Nat),O.Nodup->(∀v∈O,v<n)->O.length<=n/\(O.length=n->∀v,v<n->v∈O)|0,O,_,hl=>(by cases O with|nil=>simp|cons x O=>have:=hl x (by simp);omega)|n+1,O,hn,hl=>by(have h1:∀v∈O.erase n,v<n:=by intro v hv;have:=hl v (List.mem_of_mem_erase hv);have:v≠n:=(List.Nodup.mem_erase_iff hn|>.1 hv).1;omega);obtain⟨h2,h3⟩:=Hj n (O.erase n) (hn.erase n) h1;have h4:=List.length_erase (a:=n) (l:=O);by_cases hm:n∈O;{have:0<O.length:=List.length_pos_of_mem hm;rw[ah hm]at h4;refine⟨by omega,λhe v hv=>?_⟩;by_cases e:v=n;{subst e;exact hm};exact List.mem_of_mem_erase (h3 (by omega) v (by omega))};rw[ai hm]at h4;exact⟨by omega,λhe=>by omega⟩
theorem QG:∀(n:Nat)(O:List Nat),(∀v,v<n->v∈O)->n<=O.length|0,_,_=>dV _|n+1,O,h=>by have h1:=QG n (O.erase n) (λv hv=>(List.mem_erase_of_ne (by omega)).2 (h v (by omega)));have hm:=h n (by omega);have h2:=List.length_erase_of_mem hm;have:0<O.length:=List.length_pos_of_mem hm;omega
theorem Mx:∀n,tot n (λ_=>0)=0|0=>rfl|n+1=>by rw[tot,Mx n]
section
variable{n:Nat}{N:Nat->List Nat}{O:List Nat}{c:Nat->Nat}
theorem OI.no_topo(h:OI n N O [] [] c)(hl:O.length<n)(f:Nat->Nat)(hf:UY n N f):False:=by(have fA:∃v,v<n/\v∉O:=by apply d7;intro hh;have fB:∀v,v<n->v∈O:=λv hv=>d7 λhc=>hh ⟨v,hv,hc⟩;have:=QG n O fB;omega);(have key:∀k v,v<n->v∉O->f v=k->False:=by intro k;induction k using Nat.strongRecOn with|_ k ih=>intro v hv lu hk;(have kq:c v=0:=by rw[h.cn v hv,List.count_nil,dp];(have:cnt n N O v=tot n λ_=>0:=by refine Ku n λu hu=>?_;by_cases hm:u∈O;{simp[hm]};simp only[hm,if_false];refine List.count_eq_zero.2 λjE=>?_;have:=hf u hu v jE;exact ih (f u) (by omega) u hu hm rfl);rw[this,Mx]);have:=(h.mem v).2 ⟨hv,kq⟩;rw[bx]at this;exact lu this);obtain⟨v,hv,lu⟩:=fA;exact key _ v hv lu rfl
theorem OI.order(h:OI n N O [] [] c)(hl:¬O.length<n):O.length=n/\O.Nodup/\(∀v,v∈O↔v<n)/\∀i(h:i<O.length)a,a<n->O[i]∈N a->a∈O.take i:=by have fJ:=h.nd;rw[bx]at fJ;have fm:∀v∈O,v<n:=λv hv=>h.lt v (by simp[hv]);obtain⟨h1,h2⟩:=Hj n O fJ fm;exact⟨by omega,fJ,λv=>⟨fm v,h2 (by omega) v⟩,h.ord⟩
theorem b8B{O:List Nat}(hn:∀v,v<n->∀w∈N v,w<n)(fJ:O.Nodup)(hm:∀v,v∈O↔v<n)(ho:∀i(h:i<O.length)a,a<n->O[i]∈N a->a∈O.take i):UY n N λv=>O.idxOf v:=by intro u hu w hw;have x8:=(hm w).2 (hn u hu w hw);obtain⟨i,hi,rfl⟩:=bz.1 x8;have h1:=ho i hi u hu hw;obtain⟨j,hj,rfl⟩:=bz.1 h1;rw[dq];rw[b9]at hj;show O.idxOf O[j]<O.idxOf O[i];rw[fJ.idxOf_getElem,fJ.idxOf_getElem];omega
end
end PI.Sc
